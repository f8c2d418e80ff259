/- Package num: the digits of a number (text). -/
import Derived.Test.YtieoifkdobcpiaaGreatDoorSa27
import Derived.BigRegion
set_option maxRecDepth 100000
set_option maxHeartbeats 8000000
namespace Go.Proofs.YtieoifkdobcpiaaGreatDoor
open Go.RowKit Dw
abbrev encB:UInt8→List Value:=fun c=>[.int .u8 (c.toNat:Int)]
theorem elB:ElemT Tryz.prog 131 5 (.int .u8 0) 1 1:=⟨Tryz.underlying131,zb,rfl,zc⟩
abbrev OwnB (w:World) (base:Nat) (v:Value) (l:List UInt8):Prop:=zAQ encB 1 w base 5 v l
theorem rev_len {n0 a k:Nat} {r:List UInt8} (h:RevD n0 a r) (ha:0<a) (hn:(zAc B32 n0).length≤k):r.length≤10*k:=by
 have h1:=zBe zAo n0
 have h2:10 ^ r.length≤n0:=by
  rw [h.val];exact Nat.le_trans (Nat.le_mul_of_pos_left _ ha) (Nat.le_add_right _ _)
 have h3:B32 ^ (zAc B32 n0).length≤10 ^ (10*k):=by
  rw [Nat.pow_mul];exact Nat.le_trans (Nat.pow_le_pow_left (show B32≤10 ^ 10 by decide) _) (Nat.pow_le_pow_right zc hn)
 refine Nat.le_of_not_lt fun hk=>?_
 have h4:10 ^ (10*k)≤10 ^ r.length:=Nat.pow_le_pow_right zc za;omega
theorem digB_len {n k:Nat} (h:(zAc B32 n).length≤k):(zCI n).size≤10*k+1:=by
 rw [zDi];have h1:=zBe zAo n
 have h3:B32 ^ (zAc B32 n).length≤10 ^ (10*k):=by
  rw [Nat.pow_mul];exact Nat.le_trans (Nat.pow_le_pow_left (show B32≤10 ^ 10 by decide) _) (Nat.pow_le_pow_right zc h)
 refine (dig_len n (10*k+1) za).2 (Nat.lt_of_lt_of_le h1 (Nat.le_trans h3 (Nat.pow_le_pow_right zc za)))
theorem encB_flat (L:List UInt8):L.flatMap encB=L.map fun c=>Value.int .u8 (c.toNat:Int):=flat1 L
theorem OwnB.get {w:World} {B g c n:Nat} {L:List UInt8} (h:OwnB w B (.slice (some ⟨g,0,none⟩) n c) L) (hn:n=L.length) (i:Nat) (hi:i<L.length):w.cell? ⟨g,i,none⟩=some (.int .u8 (L[i].toNat:Int))∧w.frozen? ⟨g,i,none⟩=false:=by
 subst hn;unfold OwnB zAQ at h;rw [encB_flat] at h;have h1:=World.ownsRow.cellAt h i za;exact ⟨by rw [h1];simp [hi],World.ownsRow.frozenAt h i⟩
theorem OwnB.put {w:World} {B g c n:Nat} {L:List UInt8} (h:OwnB w B (.slice (some ⟨g,0,none⟩) n c) L) (hn:n=L.length) (i:Nat) (x:UInt8) :
  OwnB (w.setCell ⟨g,i,none⟩ (.int .u8 (x.toNat:Int))) B (.slice (some ⟨g,0,none⟩) n c) (L.set i x):=by
 subst hn;unfold OwnB zAQ at h ⊢;rw [encB_flat] at h ⊢;have h1:=(World.ownsRow.stored h i (.int .u8 (x.toNat:Int))).1;rw [List.map_set,List.length_set];exact h1
theorem OwnB.lo {w:World} {B g c n:Nat} {L:List UInt8} (h:OwnB w B (.slice (some ⟨g,0,none⟩) n c) L):B≤g:=(zBi h rfl).1
theorem len_powB {B:Nat} (hB:1<B) {n k:Nat} (h:n<B ^ k):(zAc B n).length≤k:=by
 rcases Nat.eq_zero_or_pos (zAc B n).length with h0 | h0
 ·omega
 ·have:=wval_ge (B:=B) h0 (zCh hB h0)
  rw [zAj hB] at this;refine Nat.le_of_not_lt fun hk=>?_
  have h2:B ^ k≤B ^ ((zAc B n).length - 1):=Nat.pow_le_pow_right za za;omega
theorem trim_a (A:Option Addr) (c:Nat) (L:List Nat) (w:World) (hn:L.length≤1000000000) (hc:L.length≤c) (h:Wds w A L) (hl:WLt B32 L) {n:Nat} (hv:zAf B32 L=n) :
  Calls Tryz.prog 172 #[.slice A L.length c] w fun e w'=>e = .returned (ntV A c n)∧Nt w A c n∧w'=w:=by
 have e:zBf L=zAc B32 n:=by rw [zBK zAo hl,hv]
 refine (trim_c A c L w hn hc h).mono ?_
 rintro _ _ ⟨rfl,rfl⟩;refine ⟨by rw [e],⟨?_,?_⟩,rfl⟩
 ·rw [←e]
  intro hp;obtain ⟨b,o,rfl,hlt,hcl⟩:=h.at_ ql;refine ⟨b,o,rfl,fun i hi=>?_⟩
  have hi':i<L.length:=ql;rw [hcl i hi']
  have:(zBf L)[i]=L[i]:=by
   have h1:=zCD L;rw [List.getElem_of_eq h1 hi,List.getElem_take]
  rw [this]
 ·rw [←e];have:=wtrim_len L;omega
def GivesNNf (q r:Nat) (w:World) (e:Ending) (w':World):Prop :=
 ∃ g c A2 c2,e = .returned (.tuple #[ntV (some ⟨g,0,none⟩) c q,ntV A2 c2 r])∧Nt w' (some ⟨g,0,none⟩) c q∧Nt w' A2 c2 r∧Below w.heap.size w w'∧w.heap.size≤g∧g<w'.heap.size
theorem divWord_f (A:Option Addr) (c a b:Nat) (w:World) (h:Nt w A c a) (hn:(zAc B32 a).length≤900000000) (hb1:1≤b) (hb2:b≤4294967295) :
  Calls Tryz.prog 165 #[ntV A c a,.int .u64 (b:Int)] w (GivesNNf (a / b) (a % b) w):=by
 have hmk:∀ w:World,(Instr.makeSlice 85 (.int .i64 ((zAc B32 a).length:Int)) (.int .i64 ((zAc B32 a).length:Int))).run Tryz.prog w =
   .ok (.slice (some ⟨w.heap.size,0,none⟩) (zAc B32 a).length (zAc B32 a).length) (w.alloc (.cells (Array.replicate (zAc B32 a).length (.int .u32 0)) 197)):=mk_nat _ za
 unfold ntV;have hl:=zAE zAo a;have HVA:=zq (zAj zAo a);obtain ⟨h,hcap⟩:=h;generalize zAc B32 a=l at *
 go_enter Tryz.func165,Tryz.ntmps165
 go_wp2;clear hmk;have hnew:=zBN.new w l.length;have hbel:Below w.heap.size w (w.alloc (.cells (Array.replicate l.length (.int .u32 0)) 197)):=(Below.refl _ _).alloc (Nat.le_refl _) _;obtain ⟨g,hg⟩:∃ g,g=w.heap.size:=⟨_,rfl⟩;rw [←hg] at hnew;obtain ⟨w1,hw1⟩:∃ w1,w1=w.alloc (.cells (Array.replicate l.length (.int .u32 0)) 197):=⟨_,rfl⟩;rw [←hw1] at hnew hbel;rw [←hg,←hw1];have HG:=zq hg;have HB:=zq hbel;clear hg hbel hw1
 go_loopg [7,8] l.length (DwRel w g l b)
 case atStart=>exact ⟨0,List.replicate l.length 0,_,Nat.le_refl _,rfl,rfl,rfl,za,hnew,zd,WLt.zeros zBT _,by rw [List.drop_of_length_le (Nat.le_refl _),List.drop_of_length_le zd];simp [zAf],HB.o,ya⟩
 case round =>
  obtain ⟨rr,Q,z,hm,hz,rfl,rfl,hrr,hA,hQ,hLt,hV,hbw,hwg⟩:=hrel;have HV:=zq hV;have HQ:=zq hQ;clear hV hQ
  rcases Nat.eq_zero_or_pos gk with h0 | h0
  ·subst h0
   obtain rfl:z = -1:=hz
   have HT:Hid (zAf B32 Q=a / b∧rr=a % b):=by
    have h1:=HV.o;rw [List.drop_zero,List.drop_zero,HVA.o] at h1;have h2:=Nat.div_mod_unique (a:=a) (b:=b) (c:=rr) (d:=zAf B32 Q) za;have h3:=h2.2 ⟨by rw [h1,Nat.mul_comm b];omega,hrr⟩
    exact ⟨h3.1.symm,h3.2.symm⟩
   go_wp2_with fail
   have hq2:=HQ.o;rw [←hq2];with_reducible refine (trim_a _ _ Q _ za (Nat.le_refl _) (by have:=hA.rd Q.length;rwa [List.take_length] at this) hLt HT.o.1).mono ?_
   rintro e w' ⟨rfl,hn1,rfl⟩;clear hq2
   go_wp2_with fail
   have hnat:=natOf_c rr w' za;rw [HT.o.2] at hnat;rw [HT.o.2];with_reducible refine hnat.mono ?_
   rintro e w'' ⟨A2,c2,rfl,hn2,hb2'⟩;clear hnat;go_wp2;go_ret2
   exact ⟨_,_,A2,c2,rfl,hn1.below hb2',hn2,hbw.trans (hb2'.mono hbw.size),hwg,Nat.lt_of_lt_of_le hA.lt hb2'.size⟩
  ·obtain ⟨j,rfl⟩:∃ j,gk=j+1:=⟨gk - 1,za⟩
   obtain rfl:z=(j:Int):=za;clear hz;have hj:j<l.length:=za;obtain ⟨b1,o1,hA0,hb,hcl⟩:=(h.below hbw).at_ za;subst hA0;have hc0:=hcl j hj;rw [zBr] at hc0;have hx:l[j]<4294967296:=hl.get j hj;have hjQ:j<Q.length:=by have:=HQ.o;omega
   have hc1:=hA.cell j hjQ;have hf1:=hA.frozen j;clear hcl;obtain ⟨X,hX⟩:∃ X,X=l[j]+4294967296*rr:=⟨_,rfl⟩;have hor:bits .or .u64 ((rr:Int)*4294967296) (l[j]:Int)=(X:Int):=by rw [or_u64' l[j] rr hx za,hX];simp
   have hX1:X≤18446744073709551615:=za
   have hq0:X / b≤4294967295:=by
    have:X / b<B32:=quot_lt (B:=B32) (by rw [hX];exact next_lt (B:=B32) hrr hx)
    rw [zCg] at this;omega
   have hq1:(X:Int) / (b:Int)≤4294967295:=by rw [←Int.natCast_ediv];omega
   have hq2:0≤(X:Int) / (b:Int):=Int.ediv_nonneg (Int.natCast_nonneg X) (Int.natCast_nonneg b);have HX:=zq hX;clear hX hq0;go_wp2
   go_roundg j
   case measure=>omega
   case rel=>exact DwRel.step hj hrr hA HQ.o hLt hb2 HV.o hbw hwg HX.o hx rfl rfl rfl
def TxR (w:World) (n0:Nat) (m:Nat) (av ov:Value) (wr:World):Prop :=
 ∃ A c r v,v=ov∧av=ntV A c m∧Nt wr A c m∧(zAc B32 m).length≤100000000∧OwnB wr w.heap.size v r∧RevD n0 m r∧(m=0→∃ h:r≠[],(r.getLast h).toNat≠48)∧Below w.heap.size w wr
def TxR2 (w:World) (n0:Nat) (gq c q:Nat) (m:Nat) (ov nv kv:Value) (wr:World):Prop :=
 ∃ (k n:Nat) (r:List UInt8) (v:Value),v=ov∧k+m=9∧kv = .int .i64 (k:Int)∧nv = .int .u64 (n:Int)∧TxI n0 q n k r∧Nt wr (some ⟨gq,0,none⟩) c q∧OwnB wr w.heap.size v r∧v.ownBlock≠some gq∧gq<wr.heap.size∧Below w.heap.size w wr
def TxR3 (w:World) (r:List UInt8) (g c:Nat) (m:Nat) (iv jv:Value) (wr:World):Prop :=
 ∃ (i:Nat) (z:Int) (L:List UInt8),i+m=r.length∧z=(r.length:Int) - 1 - i∧iv = .int .i64 (i:Int)∧jv = .int .i64 z∧Swp r i L∧OwnB wr w.heap.size (.slice (some ⟨g,0,none⟩) r.length c) L∧Below w.heap.size w wr
theorem Nt.push {w w':World} {g c n:Nat} {o:Obj} {row:Option Nat} (h:Nt w (some ⟨g,0,none⟩) c n) (hg:(w.alloc o).grownBy w' row) (hne:row≠some g):Nt w' (some ⟨g,0,none⟩) c n:=by
 have h2:=h.alloc o;refine ⟨fun hl=>?_,h2.cap⟩
 obtain ⟨b,o2,e,hc⟩:=h2.rd hl
 injection e with e
 injection e with e3 e4 _
 subst e3;subst e4;exact ⟨g,0,rfl,fun i hi=>hg.cell (hc i hi) fun e=>hne e.symm⟩
theorem text_zero (A:Option Addr) (c:Nat) (w:World):Calls Tryz.prog 115 #[ntV A c 0] w (zAe (.string (zCI 0)) w):=by
 rw [digB_zero]
 go_enter Tryz.func115,Tryz.ntmps115
 go_wp2;go_ret
 exact zAe.mk rfl (Below.refl _ _)
theorem text_c (A:Option Addr) (c n:Nat) (w:World) (h:Nt w A c n) (hn:(zAc B32 n).length≤100000000):Calls Tryz.prog 115 #[ntV A c n] w (zAe (.string (zCI n)) w):=by
 by_cases h0:n=0
 ·subst h0
  exact text_zero A c w
 have hl:=pos_len (n:=n) za;have hlb:(((zAc B32 n).length:Int) == 0)=false:=by simp;intro e;rw [e] at hl;simp at hl
 have HN:=zq hn;have HN0:=zq h0;have HNT:=zq h;clear hl hn h0 h
 go_enter Tryz.func115,Tryz.ntmps115
 go_wp2
 go_loopg [0,3] n (TxR w n)
 case atStart=>exact ⟨A,c,[],_,rfl,rfl,HNT.o,HN.o,zAQ.nil _ _ _ _ _,RevD.start n,fun e=>absurd e HN0.o,Below.refl _ _⟩
 clear hlb
 case round =>
  obtain ⟨A',c',r,v,rfl,rfl,hnt,hlm,hown,hrev,hfin,hb⟩:=hrel
  by_cases hm:gk=0
  case neg =>
   have hl2:(0:Int)<((zAc B32 gk).length:Int):=wl_pos hm;have HDV:Hid (Calls Tryz.prog 165 #[ntV A' c' gk,.int .u64 1000000000] wr (GivesNNf (gk / 1000000000) (gk % 1000000000) wr)):=divWord_f A' c' gk 1000000000 wr hnt za za za;have HRV:=zq hrev;have HM:=zq hm;have HLM:=zq hlm;have HOW:=zq hown;have HB:=zq hb;clear hnt hlm hown hrev hfin hb hm
   go_wp2_with fail
   with_reducible refine HDV.o.mono ?_
   rintro e w1 ⟨gq,c5,A6,c6,rfl,h5,h6,hb1,hgq,hgl⟩
   have HNE:Hid (v.ownBlock≠some gq):=fun e=>by
    have:=(World.ownsRow.lt HOW.o gq e).2;omega
   have hr1:(zAc B32 (gk % 1000000000)).length≤2:=Nat.le_trans (len_powB (k:=1) zAo (by have:=Nat.mod_lt gk (show 0<1000000000 by decide);rw [zCg];omega)) za
   have HSM:=zq (zCC A6 c6 (gk % 1000000000) w1 h6 hr1);have HTX:=zq (TxI.start HRV.o HM.o);have HQ:Hid (gk / 1000000000<gk):=Nat.div_lt_self (Nat.pos_of_ne_zero HM.o) zc;have hql:(zAc B32 (gk / 1000000000)).length≤100000000:=Nat.le_trans (zAq zAo (Nat.div_le_self _ _)) HLM.o;have HQL:=zq hql;clear hr1 hql;generalize gk / 1000000000=q at *;generalize gk % 1000000000=n1 at *
   go_wp2_with fail
   with_reducible refine HSM.o.mono ?_
   rintro e w2 ⟨rfl,nd,rfl⟩;have HOW2:=zq ((HOW.o.below hb1).drewN nd);have HB2:=zq (zAd (zAb HB.o hb1) nd);have HNT2:=zq (h5.drewN nd);have HGL:Hid (gq<(w1.drewN nd).heap.size):=hgl;clear hb1 h5 h6 HSM HOW HB HRV HLM hl2 hgq hgl;go_wp2
   go_loopg [3,6,8] 9 (TxR2 w n gq c5 q)
   case atStart=>exact ⟨0,n1,r,_,rfl,rfl,rfl,rfl,HTX.o,HNT2.o,HOW2.o,HNE.o,HGL.o,HB2.o⟩
   clear HTX HNT2 HOW2 HB2 HNE HGL
   case round =>
    obtain ⟨k,n2,r2,v2,rfl,hkm,rfl,rfl,htx,hnt,how,hne,hgl,hb⟩:=hrel;have HNE:=zq hne;have HGL:=zq hgl;have HKM:=zq hkm;have HTX:=zq htx;have HNT:=zq hnt;have HOW:=zq how;have HB:=zq hb;have hws:w.heap.size≤wr.heap.size:=hb.size
    have hn9:n2≤1000000000:=by
     have h1:=htx.lt;have h2:10 ^ (9 - k)≤10 ^ 9:=Nat.pow_le_pow_right zc za;have h3:(10:Nat) ^ 9=1000000000:=zc;omega
    clear hkm htx hnt how hb hne hgl
    by_cases hgo:k<9∧(0<q∨0<n2)
    ·obtain ⟨hk9,hqn⟩:=hgo
     have HTS:=zq (HTX.o.step hk9 hqn)
     have hrl:r2.length≤1000000000:=by
      have h1:=rev_len HTX.o.rev (by
       rcases hqn with h | h
       ·exact Nat.lt_of_lt_of_le (Nat.mul_pos h (Nat.pow_pos zc)) (Nat.le_add_right _ _)
       ·exact Nat.lt_of_lt_of_le h (Nat.le_add_left _ _)) HN.o
      omega
     have hgt:((0:Int)<((zAc B32 q).length:Int)∧¬ zAc B32 q=[])∨((zAc B32 q).length=0∧decide (0<n2)=true∧0<n2):=by
      by_cases hq:q=0
      ·exact .inr ⟨wl_zero hq,decide_eq_true za,za⟩
      ·exact .inl ⟨wl_pos hq,fun e=>hq ((zCa zAo).1 e)⟩
     obtain ⟨ch,hch⟩:∃ ch,ch=UInt8.ofNat (48+n2 % 10):=⟨_,rfl⟩
     have HNEW:Hid (∀ W:World,(W.alloc (.cells #[.int .u8 (48+(n2:Int) % 10)] 5)).heap[W.heap.size]?=some (.cells (encB ch).toArray 5 (0,0))):=fun W=>by
      have e:(ch.toNat:Int)=48+(n2:Int) % 10:=by rw [hch,dig_one (n2 % 10) za];omega
      rw [heap_alloc_new]
      show some (Obj.cells #[Value.int .u8 (48+(n2:Int) % 10)] 5 (0,0))=some (Obj.cells #[Value.int .u8 (ch.toNat:Int)] 5 (0,0))
      rw [e]
     rw [←hch] at HTS;clear hqn HTX hch
     rcases hgt with ⟨hgt,hgt2⟩ | ⟨hgt,hgt2,hgt3⟩
     all_goals
      go_wp2_with (at_builtin;refine zAT _ _ _ elB rfl rfl w.heap.size v2 r2 rfl (HOW.o.alloc _) wr.heap.size 1 ch rfl (HNEW.o wr) rfl zt zk za ze ?_;intro A1 c1 w4 hown4 hg4 hb4 hor4)
      have HO4:=zq hown4;have HB4:=zq ((HB.o.alloc hws _).trans hb4);have HN4:Hid (Nt w4 (some ⟨gq,0,none⟩) c5 q):=Nt.push HNT.o hg4 HNE.o
      have HGL4:Hid (gq<w4.heap.size):=by
       have h1:=hg4.size;have h2:=HGL.o;simp at h1
       show gq<w4.heap.size
       omega
      have HNE4:Hid ((Value.slice A1 (r2.length+1) c1).ownBlock≠some gq):=by
       rcases hor4 with h | h
       ·show _≠_;rw [h];exact HNE.o
       ·show _≠_
        rw [h];intro e
        injection e with e
        have:=HGL.o;simp at e
        omega
      clear hown4 hg4 hb4 hor4;go_wp2
      go_roundg (gk - 1)
      case measure=>have:=HKM.o;omega
      case rel=>exact ⟨k+1,n2 / 10,_,_,rfl,by have:=HKM.o;omega,zi,by first | rfl | go_num,HTS.o,HN4.o,HO4.o,HNE4.o,HGL4.o,HB4.o⟩
    ·have HTD:=zq (HTX.o.done (by have:=HKM.o;omega))
     have hx:(¬ (k:Int)<9)∨((k:Int)<9∧(zAc B32 q).length=0∧n2=0):=by
      by_cases hk9:k<9
      ·exact .inr ⟨za,wl_zero za,za⟩
      ·exact .inl za
     clear hgo HTX
     rcases hx with hx | ⟨hx,hx2,rfl⟩
     all_goals
      go_wp2
      go_roundg q
      case measure=>exact HQ.o
      case rel=>exact ⟨some ⟨gq,0,none⟩,c5,r2,_,rfl,rfl,HNT.o,HQL.o,HOW.o,HTD.o.1,HTD.o.2,HB.o⟩
  case pos =>
   subst hm;have HRD:=zq (rev_digits hrev (hfin rfl))
   have hrl:r.length≤1000000001:=by
    have h1:=digB_len HN.o;rw [zDi,←HRD.o,List.length_reverse] at h1;omega
   have hr0:0<r.length:=List.length_pos_iff.2 (hfin rfl).1
   obtain ⟨g,cap,rfl⟩:∃ g cap,v = .slice (some ⟨g,0,none⟩) r.length cap:=by
    rcases hown.2 with ⟨_,h⟩ | ⟨g,cap,cur,h,_⟩
    ·omega
    ·exact ⟨g,cap,h⟩
   have HOW:=zq hown;have HB:=zq hb;have hl2:(zAc B32 0).length=0:=wl_zero rfl;clear hnt hlm hown hrev hfin hb;go_wp2
   go_loopg [9,10] r.length (TxR3 w r g cap)
   case atStart=>exact ⟨0,(r.length:Int) - 1,r,za,za,rfl,zi,Swp.start r,HOW.o,HB.o⟩
   clear HOW HB hl2
   case round =>
    obtain ⟨i,z,L,him,hz,rfl,rfl,hsw,how,hb⟩:=hrel;have HIM:=zq him;have HSW:=zq hsw;have HOW:=zq how;have HB:=zq hb;have hLl:L.length=r.length:=hsw.1;clear him hsw how hb
    by_cases hij:(i:Int)<z
    ·obtain ⟨j,rfl⟩:∃ j:Nat,z=(j:Int):=⟨z.toNat,za⟩
     have hij2:i+j+1=r.length:=za;obtain ⟨hi1,hj1,hga,hgb⟩:=HSW.o.get hij2 za;obtain ⟨ci,fi⟩:=HOW.o.get hLl.symm i hi1;obtain ⟨cj,fj⟩:=HOW.o.get hLl.symm j hj1;have HSS:=zq (HSW.o.step hij2 za hgb hga);have HOS:=zq ((HOW.o.put hLl.symm i L[j]).put (by simpa using hLl.symm) j L[i])
     have HBS:Hid (Below w.heap.size w ((wr.setCell ⟨g,i,none⟩ (.int .u8 (L[j].toNat:Int))).setCell ⟨g,j,none⟩ (.int .u8 (L[i].toNat:Int)))):=(HB.o.setCell HOW.o.lo _).setCell HOW.o.lo _;have hne:¬ (i=j):=za;have y1:(i:Int)<(r.length:Int):=za;have y2:(j:Int)<(r.length:Int):=za;have HIJ:=zq hij2;clear hga hgb hz hij2;generalize L[i]=bi at *;generalize L[j]=bj at *;go_upto_region 16 with fail
     go_region
     go_wp2
     go_roundg (gk - 1)
     case measure=>have:=HIM.o;omega
     case rel=>exact ⟨i+1,(j:Int) - 1,_,by have:=HIM.o;omega,by have:=HIJ.o;omega,zi,zi,HSS.o,HOS.o.drewN 1,zAd HBS.o 1⟩
    ·have hz2:r.length≤2*i+1:=by have:=HIM.o;omega
     have HE:=zq ((HSW.o.done hz2).trans HRD.o)
     have hcv:=run_convert_bytes_back (P:=Tryz.prog) wr 131 9 5 ⟨g,0,none⟩ cap L Tryz.underlying131 Tryz.underlying5 Tryz.underlying9 (fun q hq=>by
      rw [addN,Nat.zero_add];exact (HOW.o.get hLl.symm q hq).1)
     rw [hLl,HE.o] at hcv;have hcv2:(convert 131 9 (.slice (some ⟨g,0,none⟩) r.length cap)).run Tryz.prog wr = .ok (.string (zCI n)) wr:=hcv;clear hcv;go_wp2;go_ret
     exact zAe.mk rfl HB.o
end Go.Proofs.YtieoifkdobcpiaaGreatDoor
