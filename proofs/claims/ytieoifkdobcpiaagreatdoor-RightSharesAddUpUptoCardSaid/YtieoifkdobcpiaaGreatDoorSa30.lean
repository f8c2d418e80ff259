/- Parts of the proof, joined: Package right: parts: put, of. Package right: parts: large. Quotients . -/
import Derived.Test.YtieoifkdobcpiaaGreatDoorSa29
set_option maxRecDepth 100000
set_option maxHeartbeats 8000000
namespace Go.Proofs.YtieoifkdobcpiaaGreatDoor
open Go.RowKit Dw
def GivesP (g:Nat) (f:zBm) (w:World) (e:Ending) (w':World):Prop:=e = .returned (.tuple #[])∧zAA w' g f∧w.grownBy w' (some g)
def zDt (q:Rat) (w:World) (e:Ending) (w':World):Prop:=zCl false q.num.natAbs q.den w e w'
theorem sgn_zero (q:Rat) (h:q=0):sgnI false q.num.natAbs=0:=by subst h;rfl
theorem sgn_pos (q:Rat) (h:q≠0):sgnI false q.num.natAbs=1:=by
 unfold sgnI;have:q.num.natAbs≠0:=fun e=>h (Rat.num_eq_zero.1 za)
 simp [this]
theorem put_c (g:Nat) (f:zBm) (p:ByteArray) (A A2:Option Addr) (c c2:Nat) (q:Rat) (w:World) (hp:zAA w g f) (h:Nt w A c q.num.natAbs) (h2:Nt w A2 c2 q.den) :
  Calls Tryz.prog 69 #[.map (some g),.string p,raV false A c q.num.natAbs A2 c2 q.den] w (GivesP g (upH f p q) w):=by
 have HX:Hid (Bx (w.alloc (.cells (raC A c q.num.natAbs A2 c2 q.den) 89)) w.heap.size (raC A c q.num.natAbs A2 c2 q.den) 89):=Bx.new _ _ _;have HB:Hid (Below w.heap.size w (w.alloc (.cells (raC A c q.num.natAbs A2 c2 q.den) 89))):=(Below.refl _ _).alloc (Nat.le_refl _) _;obtain ⟨W,hW⟩:∃ W,W=w.alloc (.cells (raC A c q.num.natAbs A2 c2 q.den) 89):=⟨_,rfl⟩;rw [←hW] at HX HB;have HPM:=zq (hp.below HB.o);have HNV:Hid (NumV W (raV false A c q.num.natAbs A2 c2 q.den) q):=⟨A,c,A2,c2,rfl,h.below HB.o,h2.below HB.o⟩;have HS:=zq (RSign_c false A A2 c c2 q.num.natAbs q.den W);clear hp h h2
 go_enter Tryz.func69,Tryz.ntmps69
 go_upto_region 1 with fail
 rw [←hW];clear hW;have a0:=HX.o.cell (i:=0) rfl;have a1:=HX.o.cell (i:=1) rfl;have a2:=HX.o.cell (i:=2) rfl;have hsx:=HX.o.lt
 go_wp2_with fail
 with_reducible refine HS.o.mono ?_
 rintro e w1 ⟨rfl,hb1⟩;have HX1:=zq (HX.o.below hb1);have HB1:=zq (zAb HB.o hb1);have HPM1:=zq (HPM.o.below hb1);have HNV1:=zq (HNV.o.below hb1);clear a0 a1 a2 hsx hb1 HX HB HPM HNV HS
 by_cases hq:q=0
 ·have hs:=sgn_zero q hq
  obtain ⟨w2,hr,hp2,hg2,hs2⟩:=run_del HPM1.o p 0;have HG:Hid (w.grownBy w2 (some g)):=(zAK HB1.o _).trans hg2;have HP2:Hid (zAA w2 g (upH f p q)):=by rw [hq];exact hp2
  clear hp2 hg2 hs2 hq;go_wp2;exact bodyPost_ret (v:=.tuple #[]) (by simp [results,Tryz.results69,go_sem]) rfl ⟨rfl,HP2.o,HG.o⟩
 ·have hs:=sgn_pos q hq
  obtain ⟨w2,hr,hp2,hg2,hs2⟩:=run_put HPM1.o p _ q HNV1.o hq;have HG:Hid (w.grownBy w2 (some g)):=(zAK HB1.o _).trans hg2;have HP2:=zq hp2;have a0:=HX1.o.cell (i:=0) rfl;have a1:=HX1.o.cell (i:=1) rfl;have a2:=HX1.o.cell (i:=2) rfl;have hsx:=HX1.o.lt;clear hp2 hg2 hs2 hq;go_wp2;exact bodyPost_ret (v:=.tuple #[]) (by simp [results,Tryz.results69,go_sem]) rfl ⟨rfl,HP2.o,HG.o⟩
theorem zRatV (w:World):(zeroValue 89).run Tryz.prog w = .ok (.agg zBM) w:=zb
theorem of_c (g:Nat) (f:zBm) (p:ByteArray) (w:World) (hp:zAA w g f):Calls Tryz.prog 49 #[.map (some g),.string p] w (zDt (f p) w):=by
 have HZ:Hid (Bx (w.alloc (.cells zBM 89)) w.heap.size zBM 89):=Bx.new _ _ _;have HB:Hid (Below w.heap.size w (w.alloc (.cells zBM 89))):=(Below.refl _ _).alloc (Nat.le_refl _) _;obtain ⟨W,hW⟩:∃ W,W=w.alloc (.cells zBM 89):=⟨_,rfl⟩;rw [←hW] at HZ HB;obtain ⟨F,hF,hFp⟩:=(hp.below HB.o).is;have hlk:=zAv tMapP kStr zRatV hF p true;have HWH:Hid (∀ W,Calls Tryz.prog 34 #[.int .i64 0] W (zCl false 0 1 W)):=fun W=>Whole_c 0 W za
 clear hp hF
 rcases hFp p with ⟨h0,hN⟩ | ⟨h0,v,hN,A,c,A2,c2,rfl,h1,h2⟩
 ·rw [hN] at hlk
  simp only [if_true,Option.getD_none,Option.isSome_none] at hlk;have HE:=zq h0;clear hN hFp h0
  go_enter Tryz.func49,Tryz.ntmps49
  go_upto_region 1 with fail
  rw [←hW];clear hW
  go_wp2_with fail
  with_reducible refine (HWH.o _).mono ?_
  rintro e w2 ⟨A,c,A2,c2,rfl,h1,h2,hb2⟩;have hba:Below W.heap.size W (W.alloc (.cells zBM 89)):=(Below.refl _ _).alloc (Nat.le_refl _) _;have HZ2:=zq (HZ.o.below (zAb hba hb2));have HB2:=zq (zAb HB.o (zAb hba hb2));have H1:=zq h1;have H2:=zq h2;have zf:=HZ2.o.frozen;have zl:=HZ2.o.lt;have z0:=HZ2.o.cell (i:=0) rfl;have z1:=HZ2.o.cell (i:=1) rfl;have z2:=HZ2.o.cell (i:=2) rfl;clear hba hb2 h1 h2;go_wp2;refine bodyPost_ret (v:=raV false A c 0 A2 c2 1) (by simp [results,Tryz.results49,go_sem,z0,z1,z2]) rfl ?_
  unfold zDt;rw [HE.o];exact ⟨A,c,A2,c2,rfl,H1.o.setR HZ2.o _ _ _,H2.o.setR HZ2.o _ _ _,((HB2.o.setCell zd _).setCell zd _).setCell zd _⟩
 ·rw [hN] at hlk
  simp only [if_true,Option.getD_some,Option.isSome_some] at hlk;clear hN hFp h0;have H1:=zq h1;have H2:=zq h2;have zf:=HZ.o.frozen;have zl:=HZ.o.lt;have z0:=HZ.o.cell (i:=0) rfl;have z1:=HZ.o.cell (i:=1) rfl;have z2:=HZ.o.cell (i:=2) rfl;clear h1 h2
  go_enter Tryz.func49,Tryz.ntmps49
  go_upto_region 1 with fail
  rw [←hW];clear hW;go_wp2;refine bodyPost_ret (v:=raV false A c (f p).num.natAbs A2 c2 (f p).den) (by simp [results,Tryz.results49,go_sem,z0,z1,z2,zl]) rfl ?_
  have hW:=HB.o.size;exact ⟨A,c,A2,c2,rfl,(H1.o.setR HZ.o _ _ _).alloc _,(H2.o.setR HZ.o _ _ _).alloc _,(((HB.o.setCell zd _).setCell zd _).setCell zd _).alloc ze _⟩
theorem tooB_long (q:Rat):tooB q.num.natAbs q.den 2000=zCX q:=by
 unfold tooB zCX;rw [zDi,zDi]
 have key:∀ n:Nat,decide (2000<(Lib.decDigits n).length)=decide (10 ^ 2000≤n):=fun n=>by
  have:=dig_len n 2000 za;rw [Bool.eq_iff_iff,decide_eq_true_iff,decide_eq_true_iff];omega
 rw [key,key]
theorem longQ_zero:zCX 0=false:=by
 unfold zCX;have e1:(0:Rat).num=0:=rfl;have e2:(0:Rat).den=1:=rfl;rw [e1,e2];have:1<10 ^ 2000:=by obtain ⟨b,hb⟩:∃ b,b=2000:=⟨_,rfl⟩;rw [←hb];exact Nat.one_lt_pow za zc
 simp only [Int.natAbs_zero,Bool.or_eq_false_iff,decide_eq_false_iff_not];omega
theorem anyLong_iff {K:List ByteArray} {f:zBm} (hk:HoldOk K f):zDb K f=true↔∃ p,zCX (f p)=true:=by
 unfold zDb;rw [List.any_eq_true]
 constructor
 ·rintro ⟨p,_,h⟩;exact ⟨p,h⟩
 ·rintro ⟨p,h⟩
  refine ⟨p,?_,h⟩
  refine Classical.byContradiction fun hn=>?_
  rw [hk.out p hn,longQ_zero] at h
  cases h
theorem pr_nocell {w:World} {it r:Nat} {L R:List (ByteArray×Value)} (h:zBB Value.string w it r L R) (o:Nat):w.cell? ⟨it,o,none⟩=none:=by
 obtain ⟨es,clk,since,c0,seen,_,_,_,_,_,h6,_⟩:=h;exact no_iter_cell h6 o
def LgR (w:World) (g:Nat) (f:zBm) (L:List (ByteArray×Value)) (m:Nat) (wr:World):Prop :=
 ∃ R:List (ByteArray×Value),R.length=m∧zBB Value.string wr w.heap.size g L R∧(∀ x∈L,x∈R∨zCX (f x.1)=false)∧(∀ p v,(p,v)∈L→NumV wr v (f p))∧Below w.heap.size w wr
theorem str_inj:∀ a b:ByteArray,Value.string a=Value.string b→a=b:=fun _ _ h=>by injection h
theorem large_c (g:Nat) (K:List ByteArray) (f:zBm) (w:World) (hp:zAA w g f) (hk:HoldOk K f) (hsz:∀ p,SzQ 100000000 (f p)):Calls Tryz.prog 73 #[.map (some g)] w (zAe (.bool (zDb K f)) w):=by
 obtain ⟨L,h1,h2,h3⟩:=hp;obtain ⟨o,hrun,hpr⟩:=zBB.start tMapP h1;have hgl:=h1.lt;have HPR:=zq hpr;have HB0:Hid (Below w.heap.size w (w.alloc o)):=(Below.refl _ _).alloc (Nat.le_refl _) _;have HN0:Hid (∀ p v,(p,v)∈L→NumV (w.alloc o) v (f p)):=fun p v hpv=>(h3 p v hpv).below HB0.o
 have HSZ:=zq hsz;have HK:=zq hk;have H2:=zq h2;obtain ⟨res,hres⟩:∃ res,res=zDb K f:=⟨_,rfl⟩;rw [←hres];have HRE:=zq hres;clear h1 h2 h3 hpr hsz hk hres
 go_enter Tryz.func73,Tryz.ntmps73
 go_wp2;clear hrun
 go_loopg [] L.length (LgR w g f L)
 case atStart=>exact ⟨L,rfl,HPR.o,fun x hx=>.inl hx,HN0.o,HB0.o⟩
 clear HPR HN0 HB0
 case round =>
  obtain ⟨R,hm,hpr,hall,hnv,hb⟩:=hrel;have HM:=zq hm;have HALL:=zq hall;have HNV:=zq hnv;have HB:=zq hb;have HPR:=zq hpr;clear hm hall hnv hb hpr
  rcases zBB.next (P:=Tryz.prog) HPR.o str_inj za 0 with ⟨hR,hnx⟩ | ⟨x,R',w',hperm,hxL,hnx,hen,hpr',hg',hs'⟩
  ·have HF:Hid (false=res):=by
    show _=_
    rw [HRE.o]
    cases ha:zDb K f with
    | false=>rfl
    | true =>
     exfalso
     obtain ⟨p,hp⟩:=(anyLong_iff HK.o).1 ha;have hne:f p≠0:=fun e=>by rw [e,longQ_zero] at hp;cases hp
     obtain ⟨v,hv⟩:=(H2.o p).1 hne
     rcases HALL.o _ hv with h | h
     ·rw [hR] at h;cases h
     ·rw [hp] at h;cases h
   clear hR;go_wp2;go_ret
   exact zAe.mk (by rw [HF.o];rfl) HB.o
  ·obtain ⟨p,v⟩:=x
   obtain ⟨A,c,A2,c2,e,n1,n2⟩:=HNV.o p v hxL;subst e;have HNV1:Hid (∀ p v,(p,v)∈L→NumV w' v (f p)):=fun p v hpv=>(HNV.o p v hpv).grown hg' (pr_nocell HPR.o)
   have HB1:=zq (zDu HB.o HB.o.size hg' (Nat.le_refl _));have HPR1:=zq hpr';have HPM:=zq hperm;have HXL:=zq hxL;have hba:Below w'.heap.size w' (w'.alloc (.cells (raC A c (f p).num.natAbs A2 c2 (f p).den) 89)):=(Below.refl _ _).alloc (Nat.le_refl _) _;have HBA:=zq hba;obtain ⟨A',c',A2',c2',e',m1,m2⟩:=HNV1.o p _ hxL
   injection e' with e'
   injection e' with e'
   have e0:=congrArg (fun l:List Value=>l[1]?) e'
   have e1:=congrArg (fun l:List Value=>l[2]?) e'
   simp only [List.getElem?_cons_succ,List.getElem?_cons_zero,Option.some.injEq,Value.slice.injEq,true_and] at e0 e1;obtain ⟨rfl,rfl⟩:=e0;obtain ⟨rfl,rfl⟩:=e1
   have HRT:Hid (Calls Tryz.prog 74 #[raV false A c (f p).num.natAbs A2 c2 (f p).den,.int .i64 2000] (w'.alloc (.cells (raC A c (f p).num.natAbs A2 c2 (f p).den) 89)) (zAe (raOut (f p).num.natAbs (f p).den 2000) (w'.alloc (.cells (raC A c (f p).num.natAbs A2 c2 (f p).den) 89)))) :=
    Ratio_c A A2 c c2 (f p).num.natAbs (f p).den 2000 _ (m1.below hba) (m2.below hba) (HSZ.o p).1.1 (HSZ.o p).2.1
   have HTL:=zq (tooB_long (f p));have HRO:Hid (raOut (f p).num.natAbs (f p).den 2000=if tooB (f p).num.natAbs (f p).den 2000=true then .tuple #[.agg #[.string ⟨#[]⟩,.string ⟨#[]⟩],.bool false] else .tuple #[.agg #[.string (zCI (f p).num.natAbs),.string (zCI (f p).den)],.bool true]):=rfl
   generalize raOut (f p).num.natAbs (f p).den 2000=ro at *;clear hperm hxL hpr' hg' hs' n1 n2 m1 m2 hba e'
   go_wp2_with fail
   with_reducible refine HRT.o.mono ?_
   rintro e w2 ⟨rfl,hb2⟩;have HB2:=zq (zAb HBA.o hb2);clear hb2 HRT
   cases hq:zCX (f p) with
   | true =>
    have hro:ro = .tuple #[.agg #[.string ⟨#[]⟩,.string ⟨#[]⟩],.bool false]:=by rw [HRO.o,if_pos (HTL.o.trans hq)]
    have HF:Hid (true=res):=by
     show _=_
     rw [HRE.o];exact ((anyLong_iff HK.o).2 ⟨p,hq⟩).symm
    have HB3:=zq (HB1.o.trans (HB2.o.mono HB1.o.size));subst hro;clear hq;go_wp2;go_ret
    exact zAe.mk (by rw [HF.o];rfl) (HB3.o.alloc HB3.o.size _)
   | false =>
    have hro:ro = .tuple #[.agg #[.string (zCI (f p).num.natAbs),.string (zCI (f p).den)],.bool true]:=by rw [HRO.o,if_neg (by rw [HTL.o,hq];simp)]
    have HLQ:=zq hq;subst hro;clear hq;have HB3:=zq (HB2.o.alloc HB2.o.size (.cells #[.string (zCI (f p).num.natAbs),.string (zCI (f p).den)] 40));go_wp2
    go_roundg R'.length
    case measure=>have h1:=HPM.o.length_eq;have h2:=HM.o;rw [List.length_cons] at h1;omega
    case rel =>
     refine ⟨R',rfl,HPR1.o.below HB3.o,fun y hy=>?_,fun p v hpv=>(HNV1.o p v hpv).below HB3.o,HB1.o.trans (HB3.o.mono HB1.o.size)⟩
     rcases HALL.o y hy with h | h
     ·rcases List.mem_cons.1 (HPM.o.mem_iff.1 h) with h | h
      ·exact .inr (by rw [h];exact HLQ.o)
      ·exact .inl h
     ·exact .inr h
theorem szN_le {k n m:Nat} (h:SzN k m) (hn:n≤m):SzN k n:=⟨Nat.le_trans (zAq zAo hn) h.1,Nat.le_trans (zAq zAV hn) h.2⟩
theorem szQ_le {q:Rat} {M k:Nat} (h0:0≤q) (h1:q≤1) (hd:q.den∣M) (hz:M≠0) (hM:SzN k M):SzQ k q:=by
 have h2:=(Rat.le_iff q 1).1 h1;have h3:=Rat.num_nonneg.2 h0;have h4:=Nat.le_of_dvd (Nat.pos_of_ne_zero hz) hd;have h5:q.num≤q.den:=by simpa using h2
 exact ⟨szN_le hM za,szN_le hM h4⟩
theorem HoldB.sz {N:List ByteArray} {M k:Nat} {f:zBm} (h:HoldB N M f) (hM:SzN k M) (p:ByteArray):SzQ k (f p):=szQ_le (h.ok.pos p) (h.le p) (h.den p) h.nz hM
theorem posB_neg {nu:ByteArray} (h:posB nu=true):negB nu=false:=by
 unfold posB at h
 cases hn:negB nu with
 | false=>rfl
 | true=>rw [hn] at h;simp at h
theorem sgB_pos {nu:ByteArray} (h:posB nu=true):sgB nu=false:=by unfold sgB;rw [posB_neg h];rfl
theorem ratQ_sz {nu de:ByteArray} (h:zCN nu de=0):SzQ 2000 (zBL nu de):=by
 have e:=ratF_prQ h;obtain ⟨h1,h2,h3,h4,h5⟩:=zBY h;have e1:zAy (zAS nu)=(zBL nu de).num.natAbs:=congrArg Prod.fst e;have e2:zAy de=(zBL nu de).den:=congrArg Prod.snd e
 have key:∀ s:ByteArray,zCj s=true→s.size≤2000→zAy s<10 ^ 2000:=fun s hs hl=>by
  obtain ⟨q,hq⟩:∃ q,q=2000:=⟨_,rfl⟩;rw [←hq] at hl ⊢;refine Nat.lt_of_lt_of_le (decV_dg (zBa hs).1) (Nat.pow_le_pow_right zc ?_)
  simpa using hl
 exact ⟨by rw [←e1];exact szN_of (key _ h1 h4),by rw [←e2];exact szN_of (key _ h2 h5)⟩
theorem FromQ_c (nu de:ByteArray) (w:World) (h:zCN nu de=0) (hp:posB nu=true):Calls Tryz.prog 70 #[.agg #[.string nu,.string de]] w (zDt (zBL nu de) w):=by
 obtain ⟨h1,h2,h3,h4,h5⟩:=zBY h;have:=From_c nu de w (zBa h1).1 h4 (zBa h2).1 h5;rw [sgB_pos hp] at this;have e:=ratF_prQ h;have e1:zAy (zAS nu)=(zBL nu de).num.natAbs:=congrArg Prod.fst e;have e2:zAy de=(zBL nu de).den:=congrArg Prod.snd e;rw [e1,e2] at this;exact this
section
variable (A A2 A3 A4:Option Addr) (c c2 c3 c4:Nat) (a b:Rat) (w:World)
theorem MulQ_c (h:Nt w A c a.num.natAbs) (h2:Nt w A2 c2 a.den) (h3:Nt w A3 c3 b.num.natAbs) (h4:Nt w A4 c4 b.den) (ha:0≤a) (hb:0≤b) (sa:SzQ 100000000 a) (sb:SzQ 100000000 b) :
  Calls Tryz.prog 113 #[raV false A c a.num.natAbs A2 c2 a.den,raV false A3 c3 b.num.natAbs A4 c4 b.den] w (zDt (a*b) w):=by
 have:=RMul_c A A2 A3 A4 c c2 c3 c4 a.num.natAbs a.den b.num.natAbs b.den w h h2 h3 h4 sa.1.1 sa.2.1 sb.1.1 sb.2.1 (den_q a) (den_q b);rw [show (a.num.natAbs,a.den)=prQ a from rfl,show (b.num.natAbs,b.den)=prQ b from rfl,mulP_q ha hb] at this
 exact this
theorem AddQ_c (h:Nt w A c a.num.natAbs) (h2:Nt w A2 c2 a.den) (h3:Nt w A3 c3 b.num.natAbs) (h4:Nt w A4 c4 b.den) (ha:0≤a) (hb:0≤b) (sa:SzQ 100000000 a) (sb:SzQ 100000000 b) :
  Calls Tryz.prog 75 #[raV false A c a.num.natAbs A2 c2 a.den,raV false A3 c3 b.num.natAbs A4 c4 b.den] w (zDt (a+b) w):=by
 have:=RAdd_c A A2 A3 A4 c c2 c3 c4 a.num.natAbs a.den b.num.natAbs b.den w h h2 h3 h4 sa.1.1 sa.2.1 sb.1.1 sb.2.1 (den_q a) (den_q b);rw [show (a.num.natAbs,a.den)=prQ a from rfl,show (b.num.natAbs,b.den)=prQ b from rfl,addP_q ha hb] at this
 exact this
theorem SubQ_c (h:Nt w A c a.num.natAbs) (h2:Nt w A2 c2 a.den) (h3:Nt w A3 c3 b.num.natAbs) (h4:Nt w A4 c4 b.den) (hb:0≤b) (hle:b≤a) (sa:SzQ 100000000 a) (sb:SzQ 100000000 b) :
  Calls Tryz.prog 114 #[raV false A c a.num.natAbs A2 c2 a.den,raV false A3 c3 b.num.natAbs A4 c4 b.den] w (zDt (a - b) w):=by
 have:=RSub_c A A2 A3 A4 c c2 c3 c4 a.num.natAbs a.den b.num.natAbs b.den w h h2 h3 h4 sa.1.1 sa.2.1 sb.1.1 sb.2.1 (den_q a) (den_q b) (le_q hb hle);rw [show (a.num.natAbs,a.den)=prQ a from rfl,show (b.num.natAbs,b.den)=prQ b from rfl,subP_q hb hle] at this
 exact this
end
section
variable {w w':World} {g b:Nat} {f:zBm} {cs:Array Value} {T:TypeId} {A:Option Addr} {l:List Sh}
theorem zAA.ne (h:zAA w g f) (hb:Bx w b cs T):b≠g:=fun e=>by
 obtain ⟨L,⟨es,clk,h1,_⟩,_⟩:=h;subst e;unfold Bx at hb;rw [h1] at hb
 cases hb
theorem Bx.parts (hb:Bx w b cs T) (h:zAA w g f) (hg:w.grownBy w' (some g)):Bx w' b cs T:=by
 show w'.heap[b]?=_
 rw [hg.block b hb.lt (by simp;exact h.ne hb)]
 exact hb
theorem cell_parts {k o:Nat} {v:Value} (h:zAA w g f) (hg:w.grownBy w' (some g)) (hc:w.cell? ⟨k,o,none⟩=some v):w'.cell? ⟨k,o,none⟩=some v :=
 hg.cell hc fun e=>by
  injection e with e
  have:=h.nocell o;rw [←e] at this;rw [this] at hc
  cases hc
theorem Shs.parts (hs:Shs w A l) (h:zAA w g f) (hg:w.grownBy w' (some g)):Shs w' A l:=fun hl=>by
 obtain ⟨b,o,e,hc⟩:=hs hl;exact ⟨b,o,e,fun i hi=>⟨cell_parts h hg (hc i hi).1,cell_parts h hg (hc i hi).2.1,cell_parts h hg (hc i hi).2.2⟩⟩
theorem Nt.parts {c n:Nat} (hn:Nt w A c n) (h:zAA w g f) (hg:w.grownBy w' (some g)):Nt w' A c n:=by
 refine ⟨fun hl=>?_,hn.cap⟩
 obtain ⟨b,o,e,hc⟩:=hn.rd hl;exact ⟨b,o,e,fun i hi=>cell_parts h hg (hc i hi)⟩
end
end Go.Proofs.YtieoifkdobcpiaaGreatDoor
