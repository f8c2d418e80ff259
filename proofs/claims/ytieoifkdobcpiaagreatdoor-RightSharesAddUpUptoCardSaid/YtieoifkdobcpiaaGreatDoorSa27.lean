/- Parts of the proof, joined: The parts after any number of deeds are bounded: no program in sight. . -/
import Derived.Test.YtieoifkdobcpiaaGreatDoorSa26
set_option maxRecDepth 100000
set_option maxHeartbeats 8000000
namespace Go.Proofs.YtieoifkdobcpiaaGreatDoor
open Dw
theorem valS_lt {s:ByteArray} (h:zCj s=true) (hs:s.size≤2000):zAy s<10 ^ 2000:=by
 have h1:=decV_lt (l:=s.data.toList) fun c hc=>by
  have:=(zDc c).1 (List.all_eq_true.1 (zBa h).1 c hc);omega
 obtain ⟨q,hq⟩:∃ q,q=2000:=⟨_,rfl⟩;rw [←hq] at hs ⊢;refine Nat.lt_of_lt_of_le h1 (Nat.pow_le_pow_right za ?_)
 rw [←Lib.size_eq];exact hs
theorem ratF_lt {nu de:ByteArray} (h:zCN nu de=0):zAy de<10 ^ 2000:=by
 obtain ⟨_,h2,_,_,h5⟩:=zBY h;exact valS_lt h2 h5
theorem shs_le {k:Int} {l:List Sh} (h:shF k l=0):zBb l≤1:=by
 obtain ⟨h1,h2,_⟩:=shF_ok h;obtain ⟨p1,p2⟩:=sumP_toQ (fun s hs=>zCb (h1.rat s hs)) l.length (Nat.le_refl _)
 rw [List.take_length] at p2;rw [←p2];exact toQ_le p1 h2
theorem chkD_sh {rs:List Rg} {us:List ByteArray} {pre:List De} {d:De} (h:chkD rs us pre d=0) (hk:d.kd=1∨d.kd=5):shF d.kd d.sh=0:=by
 unfold chkD at h
 have hg:zAk d.kd=false:=by
  unfold zAk
  rcases hk with e | e<;>rw [e]<;>rfl
 rw [hg] at h
 split at h
 ·cases h
 split at h
 ·cases h
 split at h
 ·cases h
 split at h
 ·cases h
 split at h
 ·cases h
 split at h
 ·cases h
 split at h
 ·next h1=>cases h1
 split at h
 ·omega
 unfold divF at h
 split at h
 ·cases h
 split at h
 ·cases h
 split at h
 ·next h1=>exact absurd h h1
 next h1=>simpa using h1
theorem title_sh {rs:List Rg} {us:List ByteArray} {ds:List De} (h:zCH rs us ds=0):∀ d∈ds,(d.kd=1∨d.kd=5)→shF d.kd d.sh=0:=fun d hd hk=>by
 obtain ⟨k,hk',rfl⟩:=List.getElem_of_mem hd;exact chkD_sh ((zBl h).2 k hk') hk
theorem growD_lt {d:De} (hp:ParOk d) (hl:d.sh.length≤20) (hk:d.kd=2∨d.kd=5):growD d<10 ^ 40001:=by
 unfold growD
 rcases hk with hk | hk
 ·rw [if_neg za]
  have h9:=ratF_lt (hp.asg hk).1;obtain ⟨a,ha⟩:∃ a,a=2000:=⟨_,rfl⟩;obtain ⟨b,hb⟩:∃ b,b=40001:=⟨_,rfl⟩;rw [←ha] at h9;rw [←hb];exact Nat.lt_of_lt_of_le h9 (Nat.pow_le_pow_right za za)
 ·rw [if_pos hk]
  obtain ⟨b,hb⟩:∃ b,b=40001:=⟨_,rfl⟩;rw [←hb];exact Nat.lt_of_lt_of_le (denP_lt fun s hs=>ratF_lt ((hp.pas hk).1.rat s hs)) (Nat.pow_le_pow_right za za)
theorem put_den:∀ (l:List Sh) (f:zBm) (M:Nat),M≠0→(∀ p,(f p).den∣M)→(∀ s∈l,(shQ s).den∣M)→∀ p,(zAi l f p).den∣M
 | [],_,_,_,hf,_=>hf
 | s::l,f,M,hM,hf,hs=>put_den l (upH f s.pt (shQ s)) M hM (fun p=>by
   by_cases hp:p=s.pt
   ·subst hp;rw [zBD];exact hs s List.mem_cons_self
   ·rw [zAL _ _ hp];exact hf p) fun t ht=>hs t (List.mem_cons_of_mem _ ht)
theorem start_bound {rs:List Rg} {us:List ByteArray} {ds:List De} (h:zCH rs us ds=0) (th:ByteArray) (day:Int):∃ M,HoldB (zDl th day ds) M (zCK th day ds)∧M<10 ^ 40001:=by
 obtain ⟨s1,s2⟩:=start_ok th day ds [] (fun _=>0) List.Pairwise.nil hold_none
 rcases start_one (th:=th) (day:=day) ds (title_org h) with ⟨a,_⟩ | ⟨d,hd,a,b,_⟩
 ·refine ⟨1,⟨s2,s1.nodup,?_,?_,zc⟩,by obtain ⟨b,hb⟩:∃ b,b=40001:=⟨_,rfl⟩;rw [←hb];exact Nat.one_lt_pow za zc⟩
  ·show zCt _ (zCK th day ds)≤1
   rw [a,sumF_zero];decide
  ·intro p
   show ((zCK th day ds) p).den∣1
   rw [a];exact Nat.dvd_refl _
 ·obtain ⟨k1,_,_⟩:=zCm.1 a
  have ho:=((zBI h d hd).org k1).1;have hsh:=title_sh h d hd (.inl k1);have hz:=denP_nz fun s hs=>zCb (ho.rat s hs)
  refine ⟨denP d.sh,⟨s2,s1.nodup,?_,?_,hz⟩,?_⟩
  ·show zCt (ds.foldl (zBj th day) []) (zCK th day ds)≤1
   rw [b,sumF_put s1.nodup d.sh (fun _=>0) (fun s hs=>(keys_start ds []).2 d hd a s hs) ho.nd (fun _ _=>rfl),sumF_zero]
   have:=shs_le hsh
   grind
  ·intro p
   show ((zCK th day ds) p).den∣_
   rw [b];exact put_den d.sh _ _ hz (fun p=>Nat.one_dvd _) (fun s hs=>Nat.dvd_trans (shQ_den (zCb (ho.rat s hs))) (denP_dvd hs)) p
  ·obtain ⟨b,hb⟩:∃ b,b=40001:=⟨_,rfl⟩
   rw [←hb];exact Nat.lt_of_lt_of_le (denP_lt fun s hs=>ratF_lt (ho.rat s hs)) (Nat.pow_le_pow_right za (by have:=shF_len hsh;omega))
theorem keysTake_mem (d:De) {K:List ByteArray}:(∀ p∈K,p∈zAJ d K)∧d.fr∈zAJ d K∧(d.kd≠5→d.to_∈zAJ d K)∧(d.kd=5→∀ s∈d.sh,s.pt∈zAJ d K):=by
 unfold zAJ;refine ⟨fun p hp=>?_,?_,fun hk=>?_,fun hk s hs=>?_⟩
 ·split
  ·exact (zAN _).2 (.inr (zAM.2 (.inr hp)))
  ·exact zAM.2 (.inr (zAM.2 (.inr hp)))
 ·split
  ·exact (zAN _).2 (.inr (zAM.2 (.inl rfl)))
  ·exact zAM.2 (.inr (zAM.2 (.inl rfl)))
 ·rw [if_neg hk]
  exact zAM.2 (.inl rfl)
 ·rw [if_pos hk]
  exact (zAN _).2 (.inl ⟨s,hs,rfl⟩)
theorem movB_kd {rs:List Rg} {ds:List De} {i:Nat} {th use:ByteArray} {day:Int} {d:De} (h:movB rs ds i th use day d=true):d.kd=2∨d.kd=5:=by
 unfold movB at h
 split at h
 ·next h1=>exact .inl h1
 ·split at h
  ·next h2=>exact .inr h2
  ·cases h
theorem take_snoc {l:List De} {k:Nat} (hk:k<l.length):l.take (k+1)=l.take k++[l[k]]:=List.take_succ_eq_append_getElem hk
theorem zDy (rs:List Rg) {ds:List De} (i:Nat) (th use:ByteArray) (day:Int) {n:Nat} (hn:n<ds.length) :
  zAI rs ds i th use day (n+1)=stepF (movB rs ds i th use day) (zAI rs ds i th use day n) ds[n]∧zCd rs ds i th use day (n+1)=zAO (movB rs ds i th use day) (zCd rs ds i th use day n) ds[n]:=by
 unfold zAI zCd;rw [take_snoc hn,List.foldl_append,List.foldl_append];exact ⟨rfl,rfl⟩
theorem zCT {rs:List Rg} {us:List ByteArray} {ds:List De} (h:zCH rs us ds=0) (i:Nat) (th use:ByteArray) (day:Int):∀ n,n≤ds.length→∃ M,HoldB (zCd rs ds i th use day n) M (zAI rs ds i th use day n)∧M<10 ^ (40001*(n+1))
 | 0,_=>by
  obtain ⟨M,h1,h2⟩:=start_bound h th day;exact ⟨M,by simpa [zCd,zAI] using h1,by rw [Nat.zero_add,Nat.mul_one];exact h2⟩
 | n+1,hn=>by
  obtain ⟨M,h1,h2⟩:=zCT h i th use day n za;obtain ⟨e1,e2⟩:=zDy rs i th use day (show n<ds.length by omega)
  have hd:=List.getElem_mem (show n<ds.length by omega)
  rw [e1,e2];generalize ds[n]=d at hd;obtain ⟨k1,_,_⟩:=parts_sum h i th use day n
  cases hm:movB rs ds i th use day d with
  | false =>
   have g1:zAO (movB rs ds i th use day) (zCd rs ds i th use day n) d=zCd rs ds i th use day n:=by unfold zAO;rw [hm];rfl
   have g2:stepF (movB rs ds i th use day) (zAI rs ds i th use day n) d=zAI rs ds i th use day n:=by unfold stepF;rw [hm];rfl
   rw [g1,g2];exact ⟨M,h1,Nat.lt_of_lt_of_le h2 (Nat.pow_le_pow_right za za)⟩
  | true =>
   have g1:zAO (movB rs ds i th use day) (zCd rs ds i th use day n) d=zAJ d (zCd rs ds i th use day n):=by unfold zAO;rw [hm];rfl
   have g2:stepF (movB rs ds i th use day) (zAI rs ds i th use day n) d=zDA d (zAI rs ds i th use day n):=by unfold stepF;rw [hm];rfl
   rw [g1,g2];obtain ⟨m1,m2,m3,m4⟩:=keysTake_mem d (K:=zCd rs ds i th use day n);have hpar:=zBI h d hd
   have hl:d.sh.length≤20:=by
    obtain ⟨k,hk,e⟩:=List.getElem_of_mem hd;have:=(chkD_lens ((zBl h).2 k hk) (zBl h).1).2.2
    rwa [e] at this
   refine ⟨M*growD d,(h1.more (zDa d k1).nodup m1).take hpar (movB_kd hm) m2 m3 m4,?_⟩
   have:=growD_lt hpar hl (movB_kd hm);have e3:40001*(n+1+1)=40001*(n+1)+40001:=za;rw [e3,Nat.pow_add];exact Nat.mul_lt_mul'' h2 this
def pairs (K:List ByteArray) (f:zBm):List (ByteArray×Rat):=K.map fun q=>(q,f q)
theorem sle_false {a b:ByteArray} (h:slt b a=true):sle a b=false:=by
 cases hs:sle a b with
 | false=>rfl
 | true =>
  exfalso
  have h3:(slt a b || a.toList == b.toList)=true:=hs
  rw [Bool.or_eq_true] at h3
  rcases h3 with h3 | h3
  ·have:=slt_trans h h3
   rw [slt_irr] at this
   cases this
  ·rw [str_eq h3,slt_irr] at h
   cases h
def zDb (K:List ByteArray) (f:zBm):Bool:=K.any fun p=>zCX (f p)
def zCp (rs:List Rg) (ds:List De) (i:Nat) (th use:ByteArray) (day:Int) (n:Nat):Bool:=(List.range n).any fun k=>zDb (zCd rs ds i th use day (k+1)) (zAI rs ds i th use day (k+1))
def zCe (rs:List Rg) (us:List ByteArray) (ds:List De) (th pl use:ByteArray) (day:Int):List (ByteArray×Rat)×Int :=
 if zCH rs us ds≠0 then ([],zCH rs us ds) else if zBp th=false then ([],5) else if (leafB rs pl&&memS us use)=false then ([],5) else if zDr day=false then ([],1)
 else if zCp rs ds ((idx rs pl).getD 0) th use day ds.length=true then ([],2)
 else (pairs (holL (zCd rs ds ((idx rs pl).getD 0) th use day ds.length) (zAI rs ds ((idx rs pl).getD 0) th use day ds.length)) (zAI rs ds ((idx rs pl).getD 0) th use day ds.length),0)
theorem toQ_num {p:Nat×Nat} (h:Nat.gcd p.1 p.2=1) (h0:0<p.2):p=((toQ p).num.natAbs,(toQ p).den):=by
 have e:toQ p=(⟨(p.1:Int),p.2,za,by simpa [Nat.Coprime] using h⟩:Rat):=Rat.mkRat_self ⟨(p.1:Int),p.2,za,by simpa [Nat.Coprime] using h⟩
 rw [e]
 rfl
theorem lowP_gcd {n d:Nat} (hd:0<d):Nat.gcd (zBS n d).1 (zBS n d).2=1∧0<(zBS n d).2:=by
 have hg:0<Nat.gcd n d:=Nat.gcd_pos_of_pos_right _ hd;exact ⟨Nat.coprime_div_gcd_div_gcd hg,Nat.div_pos (Nat.le_of_dvd hd (Nat.gcd_dvd_right _ _)) hg⟩
theorem low_q {n d:Nat} {q:Rat} (hd:0<d) (h:mkRat (n:Int) d=q):zBS n d=(q.num.natAbs,q.den):=by
 obtain ⟨h1,h2⟩:=lowP_gcd (n:=n) hd;have:=toQ_num h1 h2;rw [toQ_low hd,h] at this;exact this
theorem abs_num {q:Rat} (h:0≤q):((q.num.natAbs:Nat):Int)=q.num:=by
 have:=Rat.num_nonneg.2 h;omega
theorem as_q {q:Rat} (h:0≤q):q=mkRat ((q.num.natAbs:Nat):Int) q.den:=by
 rw [abs_num h];exact (Rat.mkRat_self q).symm
abbrev prQ (q:Rat):Nat×Nat:=(q.num.natAbs,q.den)
theorem den_q (q:Rat):0<q.den:=Nat.pos_of_ne_zero q.den_nz
theorem addP_q {a b:Rat} (ha:0≤a) (hb:0≤b):addP (prQ a) (prQ b)=prQ (a+b):=by
 unfold addP;refine low_q (Nat.mul_pos (den_q a) (den_q b)) ?_
 conv=>rhs;rw [as_q ha,as_q hb]
 rw [Rat.mkRat_add_mkRat _ _ a.den_nz b.den_nz];simp
theorem le_q {a b:Rat} (hb:0≤b) (h:b≤a):b.num.natAbs*a.den≤a.num.natAbs*b.den:=by
 have h1:=(Rat.le_iff b a).1 h;have ha:0≤a:=Rat.le_trans hb h;rw [←abs_num ha,←abs_num hb] at h1
 exact_mod_cast h1
theorem subP_q {a b:Rat} (hb:0≤b) (h:b≤a):subP (prQ a) (prQ b)=prQ (a - b):=by
 unfold subP;refine low_q (Nat.mul_pos (den_q a) (den_q b)) ?_
 have hle:=le_q hb h;have ha:0≤a:=Rat.le_trans hb h
 have key:mkRat (((a.num.natAbs*b.den - b.num.natAbs*a.den:Nat)):Int) (a.den*b.den)+b=a:=by
  conv=>lhs;arg 2;rw [as_q hb]
  conv=>rhs;rw [as_q ha]
  rw [Rat.mkRat_add_mkRat _ _ (Nat.mul_ne_zero a.den_nz b.den_nz) b.den_nz,Rat.mkRat_eq_iff (Nat.mul_ne_zero (Nat.mul_ne_zero a.den_nz b.den_nz) b.den_nz) a.den_nz,Int.ofNat_sub hle]
  push_cast
  grind
 show mkRat (((a.num.natAbs*b.den - b.num.natAbs*a.den:Nat)):Int) (a.den*b.den)=a - b
 grind
def mulP (p q:Nat×Nat):Nat×Nat:=zBS (p.1*q.1) (p.2*q.2)
theorem mulP_q {a b:Rat} (ha:0≤a) (hb:0≤b):mulP (prQ a) (prQ b)=prQ (a*b):=by
 unfold mulP;refine low_q (Nat.mul_pos (den_q a) (den_q b)) ?_
 conv=>rhs;rw [as_q ha,as_q hb]
 rw [Rat.mkRat_mul_mkRat];simp
def SzN (k n:Nat):Prop:=(zAc B32 n).length≤k∧(zAc BT n).length≤k
theorem len_pow {B:Nat} (hB:10≤B) {n k:Nat} (h:n<10 ^ k):(zAc B n).length≤k:=by
 have hB1:1<B:=za
 rcases Nat.eq_zero_or_pos (zAc B n).length with h0 | h0
 ·omega
 ·have:=wval_ge (B:=B) h0 (zCh hB1 h0)
  rw [zAj hB1] at this;refine Nat.le_of_not_lt fun hk=>?_
  have h2:10 ^ k≤B ^ ((zAc B n).length - 1):=Nat.le_trans (Nat.pow_le_pow_left hB k) (Nat.pow_le_pow_right za za);omega
theorem szN_of {n k:Nat} (h:n<10 ^ k):SzN k n:=⟨len_pow zc h,len_pow zc h⟩
theorem SzN.le {n k m:Nat} (h:SzN k n) (hk:k≤m):SzN m n:=⟨Nat.le_trans h.1 hk,Nat.le_trans h.2 hk⟩
def SzQ (k:Nat) (q:Rat):Prop:=SzN k q.num.natAbs∧SzN k q.den
theorem SzQ.le {q:Rat} {k m:Nat} (h:SzQ k q) (hk:k≤m):SzQ m q:=⟨h.1.le hk,h.2.le hk⟩
theorem szQ_of {q:Rat} {M k:Nat} (h:q.num.natAbs≤M∧q.den≤M) (hM:M<10 ^ k):SzQ k q:=⟨szN_of za,szN_of za⟩
theorem ratF_gcd {nu de:ByteArray} (h:zCN nu de=0):Nat.gcd (zAy (zAS nu)) (zAy de)=1:=by
 unfold zCN at h
 split at h
 ·cases h
 split at h
 ·cases h
 split at h
 ·next h1=>exact h1
 ·cases h
theorem ratF_prQ {nu de:ByteArray} (h:zCN nu de=0):(zAy (zAS nu),zAy de)=prQ (zBL nu de):=by
 obtain ⟨_,h2,h3,_,_⟩:=zBY h;exact toQ_num (ratF_gcd h) (den_pos h2 h3)
open Go.RowKit Dw
def GivesMiI (A:Option Addr) (c n:Nat) (w:World) (e:Ending) (w':World):Prop:=e = .returned (inV (decide (n≠0)) A c n)∧Below w.heap.size w w'
theorem IMinus_c (A:Option Addr) (c n:Nat) (w:World):Calls Tryz.prog 164 #[inV false A c n] w (GivesMiI A c n w):=by
 by_cases h0:n=0
 ·have hl:=wl_zero h0
  have hl2:¬ (0:Int)<((zAc B32 n).length:Int):=za;have hd:decide (n≠0)=false:=by simp [h0]
  unfold GivesMiI;rw [hd];clear h0 hd
  go_enter Tryz.func164,Tryz.ntmps164
  go_wp2;refine bodyPost_ret (v:=inV false A c n) (by simp [results,Tryz.results164,go_sem,hl]) rfl ⟨rfl,?_⟩
  exact ((Below.refl w.heap.size w).alloc (Nat.le_refl _) _).alloc zd _
 ·have hl2:=wl_pos h0
  have hl3:0<(zAc B32 n).length:=za;have hd:decide (n≠0)=true:=by simp [h0]
  unfold GivesMiI;rw [hd];clear h0 hd
  go_enter Tryz.func164,Tryz.ntmps164
  go_wp2;refine bodyPost_ret (v:=inV true A c n) (by simp [results,Tryz.results164,go_sem]) rfl ⟨rfl,?_⟩
  exact ((Below.refl w.heap.size w).alloc (Nat.le_refl _) _).alloc zd _
theorem RMul_c (A A2 A3 A4:Option Addr) (c c2 c3 c4 n d m e:Nat) (w:World) (h:Nt w A c n) (h2:Nt w A2 c2 d) (h3:Nt w A3 c3 m) (h4:Nt w A4 c4 e)
  (hn:(zAc B32 n).length≤100000000) (hd:(zAc B32 d).length≤100000000) (hm:(zAc B32 m).length≤100000000) (he:(zAc B32 e).length≤100000000) (hd0:0<d) (he0:0<e) :
  Calls Tryz.prog 113 #[raV false A c n A2 c2 d,raV false A3 c3 m A4 c4 e] w (zCl false (mulP (n,d) (m,e)).1 (mulP (n,d) (m,e)).2 w):=by
 have l1:=zCF n m;have l3:=zCF d e;have HM1:=zq (fun W (x:Nt W A c n) (y:Nt W A3 c3 m)=>IMul_c A A3 c c3 n m W x y za za)
 have HM3:=zq (fun W (x:Nt W A2 c2 d) (y:Nt W A4 c4 e)=>Mul_c A2 A4 c2 c4 d e W x y za za)
 have HO:=zq (fun A5 c5 A6 c6 W (x:Nt W A5 c5 (n*m)) (y:Nt W A6 c6 (d*e))=>Over_c A5 A6 c5 c6 (n*m) (d*e) false W x y (Nat.mul_pos hd0 he0) za za)
 simp only [Bool.false_and] at HO;have hap:mulP (n,d) (m,e)=zBS (n*m) (d*e):=rfl;rw [hap];clear hap l1 l3;generalize (zBS (n*m) (d*e)).1=pp at *;generalize (zBS (n*m) (d*e)).2=pq at *;generalize n*m=p1 at *;generalize d*e=p3 at *;have HX0:Hid (Bx (((w.alloc (.cells (raC A c n A2 c2 d) 89)).alloc (.cells (raC A3 c3 m A4 c4 e) 89)).alloc (.cells zBM 89)) w.heap.size (raC A c n A2 c2 d) 89):=((Bx.new _ _ _).alloc _).alloc _;have HY0:Hid (Bx (((w.alloc (.cells (raC A c n A2 c2 d) 89)).alloc (.cells (raC A3 c3 m A4 c4 e) 89)).alloc (.cells zBM 89)) (w.heap.size+1) (raC A3 c3 m A4 c4 e) 89):=(Bx.new1 _ _ _ _).alloc _;have HZ0:Hid (Bx (((w.alloc (.cells (raC A c n A2 c2 d) 89)).alloc (.cells (raC A3 c3 m A4 c4 e) 89)).alloc (.cells zBM 89)) (w.heap.size+1+1) zBM 89):=Bx.new2 _ _ _ _ _;have HB0:Hid (Below w.heap.size w (((w.alloc (.cells (raC A c n A2 c2 d) 89)).alloc (.cells (raC A3 c3 m A4 c4 e) 89)).alloc (.cells zBM 89))):=(((Below.refl w.heap.size w).alloc (Nat.le_refl _) _).alloc zd _).alloc ze _;obtain ⟨W,hW⟩:∃ W,W=(((w.alloc (.cells (raC A c n A2 c2 d) 89)).alloc (.cells (raC A3 c3 m A4 c4 e) 89)).alloc (.cells zBM 89)):=⟨_,rfl⟩;have g1:Nt W A c n:=yg;have g2:Nt W A2 c2 d:=yb;have g3:Nt W A3 c3 m:=yc;have g4:Nt W A4 c4 e:=yf;rw [←hW] at HX0 HY0 HZ0 HB0;clear hn hd hm he hd0 he0
 go_enter Tryz.func113,Tryz.ntmps113
 go_wp2_with fail
 rw [←hW];clear hW;have HX:=zq (HX0.o.drew);have HY:=zq (HY0.o.drew);have HZ:=zq (HZ0.o.drew);have HB:Hid (Below w.heap.size w W.drew):=zAd HB0.o 1;have x0:=HX0.o.cell (i:=0) rfl;have x1:=HX0.o.cell (i:=1) rfl;have x2:=HX0.o.cell (i:=2) rfl;have y0:=HY0.o.cell (i:=0) rfl;have y1:=HY0.o.cell (i:=1) rfl;have y2:=HY0.o.cell (i:=2) rfl;clear HX0 HY0 HZ0 HB0
 go_region_held3 (fun w'=>(w'.cell? ⟨w.heap.size,0,none⟩=some (.bool false)∧w'.cell? ⟨w.heap.size,1,none⟩=some (.slice A (zAc B32 n).length c)∧w'.cell? ⟨w.heap.size,2,none⟩=some (.slice A2 (zAc B32 d).length c2))∧(w'.cell? ⟨w.heap.size+1,0,none⟩=some (.bool false)∧w'.cell? ⟨w.heap.size+1,1,none⟩=some (.slice A3 (zAc B32 m).length c3)∧w'.cell? ⟨w.heap.size+1,2,none⟩=some (.slice A4 (zAc B32 e).length c4)))
  ((refine ⟨⟨?_,?_,?_⟩,?_,?_,?_⟩<;>first | with_reducible assumption | go_simp))
  (first
   | ((go_at_call 76;(with_reducible refine (HM1.o _ g1.drew g3.drew).mono ?_);rintro e1 w1 ⟨A5,c5,rfl,h5,hb1⟩;have HX1:=zq (HX.o.below hb1);have HY1:=zq (HY.o.below hb1);have HZ1:=zq (HZ.o.below hb1);have HB1:=zq (HB.o.trans (hb1.mono HB.o.size));have g21:=g2.drew.below hb1;have g41:=g4.drew.below hb1;have a0:=HX1.o.cell (i:=0) rfl;have a1:=HX1.o.cell (i:=1) rfl;have a2:=HX1.o.cell (i:=2) rfl;have b0:=HY1.o.cell (i:=0) rfl;have b1:=HY1.o.cell (i:=1) rfl;have b2:=HY1.o.cell (i:=2) rfl;clear hb1))
   | ((go_at_call 119;(with_reducible refine (HM3.o _ g21 g41).mono ?_);rintro e4 w4 ⟨A8,c8,rfl,h8,hb4⟩;have HX4:=zq (HX1.o.below hb4);have HY4:=zq (HY1.o.below hb4);have HZ4:=zq (HZ1.o.below hb4);have HB4:=zq (zAb HB1.o hb4);have h54:=h5.below hb4;clear a0 a1 a2 b0 b1 b2;have a0:=HX4.o.cell (i:=0) rfl;have a1:=HX4.o.cell (i:=1) rfl;have a2:=HX4.o.cell (i:=2) rfl;have b0:=HY4.o.cell (i:=0) rfl;have b1:=HY4.o.cell (i:=1) rfl;have b2:=HY4.o.cell (i:=2) rfl;clear hb4))
   | ((go_at_call 117;(with_reducible refine (HO.o _ _ _ _ _ h54 h8).mono ?_);rintro e5 w5 ⟨A9,c9,AD,cE,rfl,h9,hF,hb5⟩;have HX5:=zq (HX4.o.below hb5);have HY5:=zq (HY4.o.below hb5);have HZ5:=zq (HZ4.o.below hb5);have HB5:=zq (zAb HB4.o hb5);clear a0 a1 a2 b0 b1 b2;have a0:=HX5.o.cell (i:=0) rfl;have a1:=HX5.o.cell (i:=1) rfl;have a2:=HX5.o.cell (i:=2) rfl;have b0:=HY5.o.cell (i:=0) rfl;have b1:=HY5.o.cell (i:=1) rfl;have b2:=HY5.o.cell (i:=2) rfl;have r0:=HZ5.o.cell (i:=0) rfl;have r1:=HZ5.o.cell (i:=1) rfl;have r2:=HZ5.o.cell (i:=2) rfl;have fr:=HZ5.o.frozen;have rl:=HZ5.o.lt;clear hb5)))
 clear HX HY HZ HB;go_wp2;refine bodyPost_ret (v:=raV false A9 c9 pp AD cE pq) (by simp [results,Tryz.results113,go_sem,r0,r1,r2]) rfl ⟨A9,c9,AD,cE,rfl,h9.setR HZ5.o _ _ _,hF.setR HZ5.o _ _ _,?_⟩
 exact ((HB5.o.setCell ze _).setCell ze _).setCell ze _
theorem RSub_c (A A2 A3 A4:Option Addr) (c c2 c3 c4 n d m e:Nat) (w:World) (h:Nt w A c n) (h2:Nt w A2 c2 d) (h3:Nt w A3 c3 m) (h4:Nt w A4 c4 e)
  (hn:(zAc B32 n).length≤100000000) (hd:(zAc B32 d).length≤100000000) (hm:(zAc B32 m).length≤100000000) (he:(zAc B32 e).length≤100000000) (hd0:0<d) (he0:0<e) (hle:m*d≤n*e) :
  Calls Tryz.prog 114 #[raV false A c n A2 c2 d,raV false A3 c3 m A4 c4 e] w (zCl false (subP (n,d) (m,e)).1 (subP (n,d) (m,e)).2 w):=by
 have HA:Hid (∀ W,Nt W A c n→Nt W A2 c2 d→Nt W A3 c3 m→Nt W A4 c4 e→Calls Tryz.prog 75 #[raV false A c n A2 c2 d,raV (decide (m≠0)) A3 c3 m A4 c4 e] W (zCl false (subP (n,d) (m,e)).1 (subP (n,d) (m,e)).2 W)):=by
  intro W x1 x2 x3 x4
  by_cases h0:m=0
  ·have e1:decide (m≠0)=false:=by simp [h0]
   have e2:subP (n,d) (m,e)=addP (n,d) (m,e):=by
    unfold subP addP;rw [h0]
    show zBS (n*e - 0*d) (d*e)=zBS (n*e+0*d) (d*e)
    rw [Nat.zero_mul,Nat.sub_zero,Nat.add_zero]
   rw [e1,e2];exact RAdd_c A A2 A3 A4 c c2 c3 c4 n d m e W x1 x2 x3 x4 hn hd hm he hd0 he0
  ·have e1:decide (m≠0)=true:=by simp [h0]
   rw [e1];exact RAddN_c A A2 A3 A4 c c2 c3 c4 n d m e W x1 x2 x3 x4 hn hd hm he hd0 he0 h0 hle
 have HMI:Hid (∀ W,Calls Tryz.prog 164 #[inV false A3 c3 m] W fun e w'=>e = .returned (inV (decide (m≠0)) A3 c3 m)∧Below W.heap.size W w'):=fun W=>IMinus_c A3 c3 m W
 generalize decide (m≠0)=ng at *;generalize (subP (n,d) (m,e)).1=pp at *;generalize (subP (n,d) (m,e)).2=pq at *;have HX0:Hid (Bx (((w.alloc (.cells (raC A c n A2 c2 d) 89)).alloc (.cells (raC A3 c3 m A4 c4 e) 89)).alloc (.cells zBM 89)) w.heap.size (raC A c n A2 c2 d) 89):=((Bx.new _ _ _).alloc _).alloc _;have HY0:Hid (Bx (((w.alloc (.cells (raC A c n A2 c2 d) 89)).alloc (.cells (raC A3 c3 m A4 c4 e) 89)).alloc (.cells zBM 89)) (w.heap.size+1) (raC A3 c3 m A4 c4 e) 89):=(Bx.new1 _ _ _ _).alloc _;have HZ0:Hid (Bx (((w.alloc (.cells (raC A c n A2 c2 d) 89)).alloc (.cells (raC A3 c3 m A4 c4 e) 89)).alloc (.cells zBM 89)) (w.heap.size+1+1) zBM 89):=Bx.new2 _ _ _ _ _;have HB0:Hid (Below w.heap.size w (((w.alloc (.cells (raC A c n A2 c2 d) 89)).alloc (.cells (raC A3 c3 m A4 c4 e) 89)).alloc (.cells zBM 89))):=(((Below.refl w.heap.size w).alloc (Nat.le_refl _) _).alloc zd _).alloc ze _;obtain ⟨W,hW⟩:∃ W,W=(((w.alloc (.cells (raC A c n A2 c2 d) 89)).alloc (.cells (raC A3 c3 m A4 c4 e) 89)).alloc (.cells zBM 89)):=⟨_,rfl⟩;have g1:Nt W A c n:=yg;have g2:Nt W A2 c2 d:=yb;have g3:Nt W A3 c3 m:=yc;have g4:Nt W A4 c4 e:=yf;rw [←hW] at HX0 HY0 HZ0 HB0;clear hn hd hm he hd0 he0 hle
 go_enter Tryz.func114,Tryz.ntmps114
 go_wp2_with fail
 rw [←hW];clear hW;have HX:=zq (HX0.o.drew);have HY:=zq (HY0.o.drew);have HZ:=zq (HZ0.o.drew);have HB:Hid (Below w.heap.size w W.drew):=zAd HB0.o 1;have x0:=HX0.o.cell (i:=0) rfl;have x1:=HX0.o.cell (i:=1) rfl;have x2:=HX0.o.cell (i:=2) rfl;have y0:=HY0.o.cell (i:=0) rfl;have y1:=HY0.o.cell (i:=1) rfl;have y2:=HY0.o.cell (i:=2) rfl;clear HX0 HY0 HZ0 HB0
 go_region_held3 (fun w'=>(w'.cell? ⟨w.heap.size,0,none⟩=some (.bool false)∧w'.cell? ⟨w.heap.size,1,none⟩=some (.slice A (zAc B32 n).length c)∧w'.cell? ⟨w.heap.size,2,none⟩=some (.slice A2 (zAc B32 d).length c2))∧(w'.cell? ⟨w.heap.size+1,0,none⟩=some (.bool false)∧w'.cell? ⟨w.heap.size+1,1,none⟩=some (.slice A3 (zAc B32 m).length c3)∧w'.cell? ⟨w.heap.size+1,2,none⟩=some (.slice A4 (zAc B32 e).length c4)))
  ((refine ⟨⟨?_,?_,?_⟩,?_,?_,?_⟩<;>first | with_reducible assumption | go_simp))
  (first
   | ((go_at_call 164;(with_reducible refine (HMI.o _).mono ?_);rintro e1 w1 ⟨rfl,hb1⟩;have HX1:=zq (HX.o.below hb1);have HY1:=zq (HY.o.below hb1);have HZ1:=zq (HZ.o.below hb1);have HB1:=zq (HB.o.trans (hb1.mono HB.o.size));have g11:=g1.drew.below hb1;have g21:=g2.drew.below hb1;have g31:=g3.drew.below hb1;have g41:=g4.drew.below hb1;have a0:=HX1.o.cell (i:=0) rfl;have a1:=HX1.o.cell (i:=1) rfl;have a2:=HX1.o.cell (i:=2) rfl;have b0:=HY1.o.cell (i:=0) rfl;have b1:=HY1.o.cell (i:=1) rfl;have b2:=HY1.o.cell (i:=2) rfl;clear hb1))
   | ((go_at_call 75;(with_reducible refine (HA.o _ g11 g21 g31 g41).mono ?_);rintro e5 w5 ⟨A9,c9,AD,cE,rfl,h9,hF,hb5⟩;have HX5:=zq (HX1.o.below hb5);have HY5:=zq (HY1.o.below hb5);have HZ5:=zq (HZ1.o.below hb5);have HB5:=zq (zAb HB1.o hb5);clear a0 a1 a2 b0 b1 b2;have a0:=HX5.o.cell (i:=0) rfl;have a1:=HX5.o.cell (i:=1) rfl;have a2:=HX5.o.cell (i:=2) rfl;have b0:=HY5.o.cell (i:=0) rfl;have b1:=HY5.o.cell (i:=1) rfl;have b2:=HY5.o.cell (i:=2) rfl;have r0:=HZ5.o.cell (i:=0) rfl;have r1:=HZ5.o.cell (i:=1) rfl;have r2:=HZ5.o.cell (i:=2) rfl;have fr:=HZ5.o.frozen;have rl:=HZ5.o.lt;clear hb5)))
 clear HX HY HZ HB;go_wp2;refine bodyPost_ret (v:=raV false A9 c9 pp AD cE pq) (by simp [results,Tryz.results114,go_sem,r0,r1,r2]) rfl ⟨A9,c9,AD,cE,rfl,h9.setR HZ5.o _ _ _,hF.setR HZ5.o _ _ _,?_⟩
 exact ((HB5.o.setCell ze _).setCell ze _).setCell ze _
end Go.Proofs.YtieoifkdobcpiaaGreatDoor
namespace Go.Proofs.YtieoifkdobcpiaaGreatDoor
open Dw
theorem dg_back {c:UInt8} (h:dgB c=true):UInt8.ofNat (48+(c.toNat - 48))=c:=by
 have:=(zDc c).1 h
 apply UInt8.toNat_inj.1
 rw [UInt8.toNat_ofNat'];have:=c.toNat_lt;omega
theorem decV_pos {l:List UInt8} (h:l.all dgB=true) (hne:l≠[]) (hh:(l.headD 0).toNat≠48):0<zBv l:=by
 cases l with
 | nil=>exact absurd rfl hne
 | cons a t =>
  rw [List.all_cons,Bool.and_eq_true] at h;have h1:=(zDc a).1 h.1;have e:=zCP [a] t;rw [List.singleton_append] at e;have e2:zBv [a]=a.toNat - 48:=by show 10*0+(a.toNat - 48)=_;omega
  rw [e,e2];simp only [List.headD_cons] at hh;have:0<(a.toNat - 48)*10 ^ t.length:=Nat.mul_pos za (Nat.pow_pos zc);omega
theorem dig_uniq:∀ (n:Nat) (l:List UInt8),l.length=n→l.all dgB=true→l≠[]→(l.length=1∨(l.headD 0).toNat≠48)→l=Lib.decDigits (zBv l)
 | 0,l,hn,_,hne,_=>absurd (List.length_eq_zero_iff.1 hn) hne
 | n+1,l,hn,hall,hne,hh=>by
  obtain ⟨m,c,rfl⟩:∃ m c,l=m++[c]:=⟨l.dropLast,l.getLast hne,(List.dropLast_concat_getLast hne).symm⟩;rw [List.all_append,Bool.and_eq_true] at hall;have hc:dgB c=true:=by simpa using hall.2
  have hc2:=(zDc c).1 hc;rw [decV_snoc]
  cases m with
  | nil =>
   have e:zBv []=0:=rfl;rw [e,Lib.decDigits,dif_pos za];have:10*0+(c.toNat - 48)=c.toNat - 48:=za;rw [this,dg_back hc]
   rfl
  | cons a t =>
   have hhd:((a::t).headD 0).toNat≠48:=by
    rcases hh with h | h
    ·simp at h
    ·simpa using h
   have ih:=dig_uniq n (a::t) (by simpa using hn) hall.1 zd (.inr hhd)
   have hp:=decV_pos hall.1 zd hhd;rw [Lib.decDigits,dif_neg za];have e1:(10*zBv (a::t)+(c.toNat - 48)) / 10=zBv (a::t):=za;have e2:(10*zBv (a::t)+(c.toNat - 48)) % 10=c.toNat - 48:=za;rw [e1,e2,dg_back hc,←ih]
structure RevD (n0 a:Nat) (r:List UInt8):Prop where
 all:r.all dgB=true
 val:n0=a*10 ^ r.length+zBv r.reverse
theorem RevD.start (n:Nat):RevD n n []:=⟨rfl,by simp [zBv]⟩
theorem RevD.step {n0 a:Nat} {r:List UInt8} (h:RevD n0 a r):RevD n0 (a / 10) (r++[UInt8.ofNat (48+a % 10)]):=by
 have hd:=dig_one (a % 10) za;refine ⟨?_,?_⟩
 ·rw [List.all_append,h.all]
  simp [dgB]
  omega
 ·rw [List.length_append,List.reverse_append,List.reverse_singleton,List.length_singleton,zCP,List.length_reverse]
  have e:zBv [UInt8.ofNat (48+a % 10)]=a % 10:=by
   show 10*0+((UInt8.ofNat (48+a % 10)).toNat - 48)=_
   rw [hd];omega
  rw [e,h.val,Nat.pow_succ];have h3:a=a / 10*10+a % 10:=za;generalize hp:10 ^ r.length=p
  have e4:a / 10*(p*10)+(a % 10*p+zBv r.reverse)=(a / 10*10+a % 10)*p+zBv r.reverse:=by
   rw [Nat.add_mul,Nat.mul_assoc,Nat.mul_comm 10 p];omega
  rw [e4,←h3]
theorem RevD.done {n0:Nat} {r:List UInt8} (h:RevD n0 0 r) (hne:r≠[]) (hl:r.length=1∨(r.getLast hne).toNat≠48):r.reverse=Lib.decDigits n0:=by
 have e:n0=zBv r.reverse:=by rw [h.val];omega
 rw [e];refine dig_uniq r.reverse.length r.reverse rfl (by rw [List.all_reverse];exact h.all) (by simpa using hne) ?_
 rcases hl with h1 | h1
 ·exact .inl (by simpa using h1)
 ·right
  have:r.reverse.headD 0=r.getLast hne:=by
   rw [List.headD_eq_head?_getD,List.head?_reverse,List.getLast?_eq_some_getLast hne]
   rfl
  rw [this];exact h1
structure TxI (n0 q n k:Nat) (r:List UInt8):Prop where
 rev:RevD n0 (q*10 ^ (9 - k)+n) r
 lt:n<10 ^ (9 - k)
 fin:q=0→n=0→∃ h:r≠[],(r.getLast h).toNat≠48
theorem TxI.start {n0 a:Nat} {r:List UInt8} (h:RevD n0 a r) (ha:a≠0):TxI n0 (a / 1000000000) (a % 1000000000) 0 r:=by
 refine ⟨?_,?_,fun h1 h2=>?_⟩
 ·have e:a / 1000000000*10 ^ (9 - 0)+a % 1000000000=a:=by
   have e9:(10:Nat) ^ (9 - 0)=1000000000:=zc;rw [e9];omega
  rw [e];exact h
 ·have e9:(10:Nat) ^ (9 - 0)=1000000000:=by decide
  rw [e9];omega
 ·exfalso;omega
theorem TxI.step {n0 q n k:Nat} {r:List UInt8} (h:TxI n0 q n k r) (hk:k<9) (hp:0<q∨0<n):TxI n0 q (n / 10) (k+1) (r++[UInt8.ofNat (48+n % 10)]):=by
 obtain ⟨h1,h2,_⟩:=h;obtain ⟨P,hP⟩:∃ P,P=10 ^ (9 - (k+1)):=⟨_,rfl⟩;have e:10 ^ (9 - k)=P*10:=by rw [hP,←Nat.pow_succ];congr 1;omega
 rw [e] at h1 h2;have e3:q*(P*10)=q*P*10:=(Nat.mul_assoc _ _ _).symm;rw [e3] at h1;have h4:=h1.step;have e1:(q*P*10+n) / 10=q*P+n / 10:=za;have e2:(q*P*10+n) % 10=n % 10:=za;rw [e1,e2] at h4;refine ⟨by rw [←hP];exact h4,by rw [←hP];omega,fun hq hn=>⟨zd,?_⟩⟩
 have e9:∀ (c:UInt8) (h:r++[c]≠[]),(r++[c]).getLast h=c:=fun c h=>zd
 rw [e9,dig_one (n % 10) za];omega
theorem TxI.done {n0 q n k:Nat} {r:List UInt8} (h:TxI n0 q n k r) (hk:k=9∨(q=0∧n=0)):RevD n0 q r∧(q=0→∃ h:r≠[],(r.getLast h).toNat≠48):=by
 obtain ⟨h1,h2,h3⟩:=h
 rcases hk with rfl | ⟨rfl,rfl⟩
 ·have e9:(10:Nat) ^ (9 - 9)=1:=by decide
  rw [e9] at h1 h2;obtain rfl:n=0:=za;rw [Nat.mul_one,Nat.add_zero] at h1;exact ⟨h1,fun hq=>h3 hq rfl⟩
 ·rw [Nat.zero_mul,Nat.add_zero] at h1
  exact ⟨h1,fun _=>h3 rfl rfl⟩
theorem rev_digits {n0:Nat} {r:List UInt8} (h:RevD n0 0 r) (hl:∃ h:r≠[],(r.getLast h).toNat≠48):r.reverse=Lib.decDigits n0:=by
 obtain ⟨hne,h2⟩:=hl;exact h.done hne (.inr h2)
def Swp (r:List UInt8) (i:Nat) (L:List UInt8):Prop:=L.length=r.length∧∀ x:Nat,L[x]?=if x<i∨r.length≤x+i then r.reverse[x]? else r[x]?
theorem Swp.start (r:List UInt8):Swp r 0 r:=by
 refine ⟨rfl,fun x=>?_⟩
 split
 ·next h=>rw [List.getElem?_eq_none za,List.getElem?_eq_none (by rw [List.length_reverse];omega)]
 ·rfl
theorem Swp.get {r L:List UInt8} {i j:Nat} (h:Swp r i L) (hij:i+j+1=r.length) (hl:i<j):∃ (h1:i<L.length) (h2:j<L.length),(some L[i]=r[i]?)∧(some L[j]=r[j]?):=by
 obtain ⟨h1,h2⟩:=h;have a:=h2 i;have b:=h2 j;rw [if_neg za] at a b;refine ⟨za,za,?_,?_⟩
 ·rw [←a,List.getElem?_eq_getElem]
 ·rw [←b,List.getElem?_eq_getElem]
theorem Swp.step {r L:List UInt8} {i j:Nat} {a b:UInt8} (h:Swp r i L) (hij:i+j+1=r.length) (hl:i<j) (ha:some a=r[j]?) (hb:some b=r[i]?):Swp r (i+1) ((L.set i a).set j b):=by
 obtain ⟨h1,h2⟩:=h;refine ⟨by simpa using h1,fun x=>?_⟩
 rw [List.getElem?_set,List.getElem?_set]
 by_cases hx:j=x
 ·subst hx
  rw [if_pos rfl,if_pos (by rw [List.length_set];omega),if_pos za,List.getElem?_reverse za,hb]
  congr 1
  omega
 ·rw [if_neg hx]
  by_cases hy:i=x
  ·subst hy
   rw [if_pos rfl,if_pos za,if_pos za,List.getElem?_reverse za,ha]
   congr 1
   omega
  ·rw [if_neg hy,h2 x]
   by_cases hc:x<i∨r.length≤x+i
   ·rw [if_pos hc,if_pos za]
   ·rw [if_neg hc,if_neg za]
theorem Swp.done {r L:List UInt8} {i:Nat} (h:Swp r i L) (hl:r.length≤2*i+1):L=r.reverse:=by
 obtain ⟨h1,h2⟩:=h;refine List.ext_getElem? fun x=>?_
 rw [h2 x]
 split
 ·rfl
 ·next hc =>
  rw [List.getElem?_reverse za]
  congr 1
  omega
end Go.Proofs.YtieoifkdobcpiaaGreatDoor
