/- Parts of the proof, joined: Walks over the reference of chapter 7 (places): CheckRegions. Walks ov. -/
import Derived.Test.YtieoifkdobcpiaaGreatDoorSg03
import Derived.Shelf.Small.Wraps
import Derived.Shelf.Small.Strs
import Derived.Shelf.Strings.SlTrimAscii
set_option maxRecDepth 100000
set_option maxHeartbeats 8000000
namespace Go.Proofs.YtieoifkdobcpiaaGreatDoor
open Go.RowKit Dw
theorem parBad_false {l:List Rg} (h:∀ j (h:j<l.length),zCB l l[j]=false) {i:Nat} (hi:i<l.length) (hp:(l[i]).par≠emp):∃ j,idx l (l[i]).par=some j:=by
 have:=h i hi;unfold zCB at this
 cases hx:idx l (l[i]).par with
 | some j=>exact ⟨j,rfl⟩
 | none=>rw [hx] at this;simp [hp] at this
theorem chkR_head {l:List Rg} (h1:l≠[]) (h2:¬ 200<l.length):chkR l=match (List.range l.length).findSome? (zBh l) with
 | some f=>f
 | none=>if l.any (zCB l)=true then 5 else if EndsR l then 0 else 14:=by
 unfold chkR;rw [aD h1,aD h2]<;>rfl
theorem chkR_first {l:List Rg} (h1:l≠[]) (h2:¬ 200<l.length) {k:Nat} {x:Int} (hk:k<l.length) (hpre:∀ j,j<k→zBh l j=none) (h:zBh l k=some x):chkR l=x:=by
 rw [chkR_head h1 h2,zBk hk hpre h]
theorem chkR_par {l:List Rg} (h1:l≠[]) (h2:¬ 200<l.length) (hpre:∀ j,j<l.length→zBh l j=none) {k:Nat} (hk:k<l.length) (h:zCB l l[k]=true):chkR l=5:=by
 rw [chkR_head h1 h2,zBq hpre];simp only [];rw [aF (List.any_eq_true.2 ⟨l[k],aJ hk,h⟩)]
theorem chkR_last {l:List Rg} (h1:l≠[]) (h2:¬ 200<l.length) (hpre:∀ j,j<l.length→zBh l j=none) (h:∀ j (h:j<l.length),zCB l l[j]=false):chkR l=if EndsR l then 0 else 14:=by
 rw [chkR_head h1 h2,zBq hpre];simp only [];rw [aD];intro hh;obtain ⟨x,hx,hb⟩:=List.any_eq_true.1 hh;obtain ⟨j,hj,rfl⟩:=dH hx;rw [h j hj] at hb;cases hb
theorem elStr:ElemT Tryz.prog 23 9 (.string ⟨#[]⟩) 1 16:=⟨Tryz.underlying23,zb,rfl,zc⟩
abbrev encS:BA→List Value:=fun s=>[.string s]
def zAe (v:Value) (w:World) (e:Ending) (w':World):Prop:=e = .returned v∧Below w.heap.size w w'
theorem zAe.mk {v v':Value} {w w':World} (h:v=v') (hw:Below w.heap.size w w'):zAe v' w (.returned v) w':=⟨by rw [h],hw⟩
theorem zBJ {p:Nat→Bool} (k:Nat):(List.range (k+1)).filter p=(List.range k).filter p++(if p k then [k] else []):=by
 rw [dI,dJ]
 cases h:p k<;>simp [h]
def zBW (l:List Rg) (p:Nat→Bool) (k:Nat):List BA:=((List.range k).filter p).map (nmAt l)
theorem gath_yes {l:List Rg} {p:Nat→Bool} {k:Nat} (h:p k=true):zBW l p (k+1)=zBW l p k++[nmAt l k]:=by
 unfold zBW;rw [zBJ,h];simp
theorem gath_no {l:List Rg} {p:Nat→Bool} {k:Nat} (h:p k=false):zBW l p (k+1)=zBW l p k:=by
 unfold zBW;rw [zBJ,h];simp
theorem gath_le (l:List Rg) (p:Nat→Bool) (k:Nat):(zBW l p k).length≤k:=by
 unfold zBW;rw [cW];have:=dK p (List.range k)
 simpa using this
theorem leafIdx_lt {l:List Rg} {t:Nat} (h:t<(zAm l).length):(zAm l)[t]<l.length:=by
 have:=aJ h;unfold zAm at this;rw [List.mem_filter,List.mem_range] at this;exact this.1
theorem leafIdx_le (l:List Rg):(zAm l).length≤l.length:=by
 unfold zAm;have:=dK (fun i=>!zAB l i) (List.range l.length)
 simpa using this
abbrev inV (ng:Bool) (A:Option Addr) (c n:Nat):Value:=.agg #[.bool ng,.slice A (zAd B32 n).length c]
abbrev raV (ng:Bool) (A:Option Addr) (c n:Nat) (A2:Option Addr) (c2 d:Nat):Value:=.agg #[.bool ng,.slice A (zAd B32 n).length c,.slice A2 (zAd B32 d).length c2]
def GivesI (ng:Bool) (n:Nat) (w:World) (e:Ending) (w':World):Prop:=∃ A c,e = .returned (inV ng A c n)∧Nt w' A c n∧Below w.heap.size w w'
def zCb (ng:Bool) (n d:Nat) (w:World) (e:Ending) (w':World):Prop :=
 ∃ A c A2 c2,e = .returned (raV ng A c n A2 c2 d)∧Nt w' A c n∧Nt w' A2 c2 d∧Below w.heap.size w w'
theorem bcellK {W w1:World} (hb:Below W.heap.size W w1):(∀ b o,b<W.heap.size→w1.cell? ⟨b,o,none⟩=W.cell? ⟨b,o,none⟩)∧(∀ b o,b<W.heap.size→w1.frozen? ⟨b,o,none⟩=W.frozen? ⟨b,o,none⟩) :=
 ⟨fun b o h=>hb.cell (p:=⟨b,o,none⟩) h,fun b o h=>hb.frozen (p:=⟨b,o,none⟩) h⟩
theorem Nt.alloc {w:World} {A:Option Addr} {c n:Nat} (h:Nt w A c n) (o:Obj):Nt (w.alloc o) A c n:=⟨h.rd.alloc o,h.cap⟩
theorem Nt.drew {w:World} {A:Option Addr} {c n:Nat} (h:Nt w A c n):Nt w.drew A c n:=⟨h.rd,h.cap⟩
theorem Nt.set {w:World} {A:Option Addr} {c n:Nat} {p:Addr} {v:Value} (h:Nt w A c n) (hp:w.cell? p=some v) (hv:∀ x:Nat,v≠u32V x) (u:Value):Nt (w.setCell p u) A c n:=by
 refine ⟨fun hl=>?_,h.cap⟩
 obtain ⟨b,o,rfl,hc⟩:=h.rd hl;refine ⟨b,o,rfl,fun i hi=>?_⟩
 rw [World.cell?_setCell_other _ _ _ _ (fun e=>?_)]
 ·exact hc i hi
 ·have h1:=hc i hi
  rw [←e] at h1;rw [hp] at h1
  injection h1 with h1
  exact hv _ h1
theorem Nt.set2 {w:World} {A:Option Addr} {c n R:Nat} {v0 v1:Value} (h:Nt w A c n) (h0:w.cell? ⟨R,0,none⟩=some v0) (h1:w.cell? ⟨R,1,none⟩=some v1) (n0:∀ x:Nat,v0≠u32V x) (n1:∀ x:Nat,v1≠u32V x) (u0 u1:Value) :
  Nt ((w.setCell ⟨R,0,none⟩ u0).setCell ⟨R,1,none⟩ u1) A c n :=
 (h.set h0 n0 u0).set (by rw [World.cell?_setCell_other _ _ _ _ (fun e=>qi)];exact h1) n1 u1
theorem Nt.set3 {w:World} {A:Option Addr} {c n R:Nat} {v0 v1 v2:Value} (h:Nt w A c n) (h0:w.cell? ⟨R,0,none⟩=some v0) (h1:w.cell? ⟨R,1,none⟩=some v1) (h2:w.cell? ⟨R,2,none⟩=some v2) (n0:∀ x:Nat,v0≠u32V x) (n1:∀ x:Nat,v1≠u32V x) (n2:∀ x:Nat,v2≠u32V x) (u0 u1 u2:Value) :
  Nt (((w.setCell ⟨R,0,none⟩ u0).setCell ⟨R,1,none⟩ u1).setCell ⟨R,2,none⟩ u2) A c n :=
 (h.set2 h0 h1 n0 n1 u0 u1).set (by
  rw [World.cell?_setCell_other _ _ _ _ (fun e=>qi),World.cell?_setCell_other _ _ _ _ (fun e=>qi)];exact h2) n2 u2
theorem nb_ (b:Bool) (x:Nat):Value.bool b≠u32V x:=fun e=>by cases e
theorem ns_ (A:Option Addr) (n c x:Nat):Value.slice A n c≠u32V x:=fun e=>by cases e
theorem IMul_c (A A2:Option Addr) (c c2 a b:Nat) (w:World) (h:Nt w A c a) (h2:Nt w A2 c2 b) (hn:(zAd B32 a).length≤400000000) (hm:(zAd B32 b).length≤400000000) :
  Calls Tryz.prog 76 #[inV false A c a,inV false A2 c2 b] w (GivesI false (a*b) w):=by
 go_enter Tryz.func76,Tryz.ntmps76
 go_wp2_with fail
 with_reducible refine (Mul_c A A2 c c2 a b _ (((h.alloc _).alloc _).alloc _) (((h2.alloc _).alloc _).alloc _) hn hm).mono ?_
 rintro e w1 ⟨A5,c5,rfl,h5,hb⟩;obtain ⟨hc,hf⟩:=bcellK hb;have hz:w.heap.size+2<w1.heap.size:=qd;have c0:w1.cell? ⟨w.heap.size+1+1,0,none⟩=some (.bool false):=zk;have c1:w1.cell? ⟨w.heap.size+1+1,1,none⟩=some (.slice none 0 0):=zk;have HB:Hid (Below w.heap.size w w1):=((((aN w.heap.size w).alloc (aC _) _).alloc zd _).alloc ze _).trans (hb.mono ze);go_wp2;refine dL (v:=inV false A5 c5 (a*b)) (by simp [results,Tryz.results76,go_sem,hc]) rfl ⟨A5,c5,rfl,?_,?_⟩
 ·exact h5.set2 c0 c1 (nb_ _) (ns_ _ _ _) _ _
 ·exact (HB.o.setCell ze _).setCell ze _
theorem ICmp_c (A A2:Option Addr) (c c2 a b:Nat) (w:World) (h:Nt w A c a) (h2:Nt w A2 c2 b) (hn:(zAd B32 a).length≤400000000) :
  Calls Tryz.prog 77 #[inV false A c a,inV false A2 c2 b] w (zAe (.int .i64 (cmpN a b)) w):=by
 go_enter Tryz.func77,Tryz.ntmps77
 go_wp2_with fail
 with_reducible refine (Cmp_c A A2 c c2 a b _ ((h.alloc _).alloc _) ((h2.alloc _).alloc _) za).mono ?_
 rintro e w1 ⟨rfl,nd,rfl⟩;go_wp2;go_ret
 exact zAe.mk rfl (zAc (((aN w.heap.size w).alloc (aC _) _).alloc zd _) nd)
theorem IAdd_c (A A2:Option Addr) (c c2 a b:Nat) (w:World) (h:Nt w A c a) (h2:Nt w A2 c2 b) (hn:(zAd B32 a).length≤400000000) (hm:(zAd B32 b).length≤400000000) :
  Calls Tryz.prog 118 #[inV false A c a,inV false A2 c2 b] w (GivesI false (a+b) w):=by
 have HA:=zq (fun W (q:Nt W A c a) (q2:Nt W A2 c2 b)=>Add_c A A2 c c2 a b W q q2 za za)
 go_enter Tryz.func118,Tryz.ntmps118
 go_wp2
 go_region_held3 (fun w'=>w'.cell? ⟨w.heap.size,0,none⟩=some (.bool false)∧w'.cell? ⟨w.heap.size,1,none⟩=some (.slice A (zAd B32 a).length c)∧w'.cell? ⟨w.heap.size+1,1,none⟩=some (.slice A2 (zAd B32 b).length c2)) ((refine ⟨?_,?_,?_⟩<;>go_simp))
  (first
   | ((go_at_call 169;(with_reducible refine (HA.o _ (Nt.drew (((h.alloc _).alloc _).alloc _)) (Nt.drew (((h2.alloc _).alloc _).alloc _))).mono ?_);rintro e w1 ⟨A5,c5,rfl,h5,hb⟩;obtain ⟨hc,hf⟩:=bcellK hb;have hz:w.heap.size+2<w1.heap.size:=by (have:=hb.size;simp at this;omega))))
 have c0:w1.cell? ⟨w.heap.size+1+1,0,none⟩=some (.bool false):=zk;have c1:w1.cell? ⟨w.heap.size+1+1,1,none⟩=some (.slice none 0 0):=zk;have HB:Hid (Below w.heap.size w w1):=(zAc ((((aN w.heap.size w).alloc (aC _) _).alloc zd _).alloc ze _) 1).trans (hb.mono ze);go_wp2;refine dL (v:=inV false A5 c5 (a+b)) (by simp [results,Tryz.results118,go_sem,hc]) rfl ⟨A5,c5,rfl,?_,?_⟩
 ·exact h5.set2 c0 c1 (nb_ _) (ns_ _ _ _) _ _
 ·exact (HB.o.setCell ze _).setCell ze _
def sgnI (ng:Bool) (n:Nat):Int:=if ng=true then -1 else if n=0 then 0 else 1
theorem ISign_c (ng:Bool) (A:Option Addr) (c n:Nat) (w:World):Calls Tryz.prog 162 #[inV ng A c n] w (zAe (.int .i64 (sgnI ng n)) w):=by
 cases ng with
 | true =>
  go_enter Tryz.func162,Tryz.ntmps162
  go_wp2;go_ret
  exact zAe.mk rfl ((aN w.heap.size w).alloc (aC _) _)
 | false =>
  by_cases h0:n=0
  ·subst h0
   go_enter Tryz.func162,Tryz.ntmps162
   go_wp2;go_ret
   exact zAe.mk rfl ((aN w.heap.size w).alloc (aC _) _)
  ·have hl:0<(zAd B32 n).length:=by
    rcases bI (zAd B32 n).length with e | e
    ·exact absurd ((zCw zAo (n:=n)).1 (dD e)) h0
    ·exact e
   have hr:sgnI false n=1:=by simp [sgnI,h0]
   rw [hr];have HR:=zq hr;clear hr h0
   go_enter Tryz.func162,Tryz.ntmps162
   go_wp2;go_ret
   exact zAe.mk rfl ((aN w.heap.size w).alloc (aC _) _)
theorem RSign_c (ng:Bool) (A A2:Option Addr) (c c2 n d:Nat) (w:World):Calls Tryz.prog 110 #[raV ng A c n A2 c2 d] w (zAe (.int .i64 (sgnI ng n)) w):=by
 go_enter Tryz.func110,Tryz.ntmps110
 go_wp2_with fail
 with_reducible refine (ISign_c ng A c n _).mono ?_
 rintro e w1 ⟨rfl,hb⟩;go_wp2;go_ret
 exact zAe.mk rfl (((aN w.heap.size w).alloc (aC _) _).trans (hb.mono zd))
theorem one_cases {w:World} {A:Option Addr} {c m:Nat} (h:Nt w A c m) (hm:0<m) :
  (m=1∧(zAd B32 m).length=1∧∃ b o,A=some ⟨b,o,none⟩∧b<w.heap.size∧w.cell? ⟨b,o,none⟩=some (.int .u32 1)) ∨
  (m≠1∧(zAd B32 m).length≠1)∨(m≠1∧(zAd B32 m).length=1∧∃ b o,A=some ⟨b,o,none⟩∧b<w.heap.size∧w.cell? ⟨b,o,none⟩=some (.int .u32 (m:Int))):=by
 by_cases hl:(zAd B32 m).length=1
 ·have hw:=words_one hl
  have hr:=h.rd;rw [hw] at hr;obtain ⟨b,o,hA,hb,hc⟩:=hr.at_ zd;have hc0:=hc 0 zd;rw [zBm] at hc0;simp only [cC,cK] at hc0
  by_cases h1:m=1
  ·subst h1
   exact .inl ⟨rfl,hl,b,o,hA,hb,hc0⟩
  ·exact .inr (.inr ⟨h1,hl,b,o,hA,hb,hc0⟩)
 ·refine .inr (.inl ⟨fun e=>?_,hl⟩)
  rw [e,one_words] at hl;exact hl rfl
theorem lowP_zero (d:Nat) (h:0<d):zCN 0 d=(0,1):=by
 unfold zCN;rw [Nat.gcd_zero_left,Nat.zero_div,Nat.div_self h]
theorem lowP_one (n d:Nat) (h:Nat.gcd n d=1):zCN n d=(n,d):=by
 unfold zCN;rw [h,Nat.div_one,Nat.div_one]
theorem Over_zero (A A2:Option Addr) (c c2 d:Nat) (ng:Bool) (w:World):Calls Tryz.prog 117 #[inV ng A c 0,ntV A2 c2 d] w (zCb false 0 1 w):=by
 go_enter Tryz.func117,Tryz.ntmps117
 go_wp2_with fail
 with_reducible refine (One_c _).mono ?_
 rintro e w1 ⟨A5,c5,rfl,h5,hb⟩;obtain ⟨hc,hf⟩:=bcellK hb;have hz:w.heap.size+1<w1.heap.size:=qd;have c0:w1.cell? ⟨w.heap.size+1,0,none⟩=some (.bool false):=zk;have c1:w1.cell? ⟨w.heap.size+1,1,none⟩=some (.slice none 0 0):=zk;have c2:w1.cell? ⟨w.heap.size+1,2,none⟩=some (.slice none 0 0):=zk;have HB:Hid (Below w.heap.size w w1):=(((aN w.heap.size w).alloc (aC _) _).alloc zd _).trans (hb.mono ze);go_wp2;refine dL (v:=raV false none 0 0 A5 c5 1) (by simp [results,Tryz.results117,go_sem,hc];rfl) rfl ⟨none,0,A5,c5,rfl,Nt.zero _,?_,?_⟩
 ·exact h5.set3 c0 c1 c2 (nb_ _) (ns_ _ _ _) (ns_ _ _ _) _ _ _
 ·exact ((HB.o.setCell zd _).setCell zd _).setCell zd _
theorem pos_len {n:Nat} (h:0<n):0<(zAd B32 n).length:=by
 rcases bI (zAd B32 n).length with e | e
 ·have:=(zCw zAo (n:=n)).1 (dD e)
  omega
 ·exact e
theorem Over_same (A A2:Option Addr) (c c2 n:Nat) (ng:Bool) (w:World) (h:Nt w A c n) (h2:Nt w A2 c2 1) (h0:0<n):Calls Tryz.prog 117 #[inV ng A c n,ntV A2 c2 1] w (zCb ng n 1 w):=by
 have hl:=pos_len h0;have hlb:(((zAd B32 n).length:Int) == 0)=false:=by simp;intro e;rw [e] at hl;simp at hl
 rcases one_cases h2 za with ⟨_,hl1,b,o,rfl,hb,hcell⟩ | ⟨e,_⟩ | ⟨e,_⟩
 ·have e2:ntV (some ⟨b,o,none⟩) c2 1 = .slice (some ⟨b,o,none⟩) 1 c2:=by
   show Value.slice _ (zAd B32 1).length c2=_
   rw [hl1]
  have HL1:=zq hl1;clear hl1;rw [e2];have E2:=zq e2;clear e2 hl
  go_enter Tryz.func117,Tryz.ntmps117
  go_wp2;refine dL (v:=raV ng A c n (some ⟨b,o,none⟩) c2 1) (by simp [results,Tryz.results117,go_sem];rfl) rfl ⟨A,c,_,c2,rfl,?_,?_,?_⟩
  ·exact (h.alloc _).alloc _
  ·exact (h2.alloc _).alloc _
  ·exact ((aN w.heap.size w).alloc (aC _) _).alloc zd _
 ·exact absurd rfl e
 ·exact absurd rfl e
theorem Over_gen (A A2:Option Addr) (c c2 n d:Nat) (ng:Bool) (w:World) (h:Nt w A c n) (h2:Nt w A2 c2 d) (h0:0<n) (hd0:0<d) (hd:d≠1) (hn:(zAd B32 n).length≤400000000) (hm:(zAd B32 d).length≤400000000) :
  Calls Tryz.prog 117 #[inV ng A c n,ntV A2 c2 d] w (zCb ng (zCN n d).1 (zCN n d).2 w):=by
 have hl:=pos_len h0;have hl2:=pos_len hd0;have hlb:(((zAd B32 n).length:Int) == 0)=false:=by simp;intro e;rw [e] at hl;simp at hl
 have HGB:Hid (Nat.gcd n d≤d):=Nat.gcd_le_right n hd0;have hg0:0<Nat.gcd n d:=dM n hd0;have hgl:(zAd B32 (Nat.gcd n d)).length≤400000000:=cU (zAI zAo HGB.o) hm;have HLP:Hid (zCN n d=(n / Nat.gcd n d,d / Nat.gcd n d)):=rfl;rw [HLP.o];obtain ⟨G,hG⟩:∃ G,Nat.gcd n d=G:=⟨_,rfl⟩;rw [hG] at hg0 hgl ⊢;have HG:=zq hG;clear hG;have HQ1:=zq (fun W A5 c5 (q:Nt W A c n) (q2:Nt W A5 c5 G)=>Div_c A A5 c c5 n G W q q2 hn hg0)
 have HQ2:=zq (fun W A5 c5 (q:Nt W A2 c2 d) (q2:Nt W A5 c5 G)=>Div_c A2 A5 c2 c5 d G W q q2 hm hg0)
 have hgc:=fun W (q:Nt W A c n) (q2:Nt W A2 c2 d)=>gcd_c A A2 c c2 n d W q q2 hn hm
 rw [HG.o] at hgc;have HGC:=zq hgc;clear hgc
 have CS:Hid ((((zAd B32 d).length:Int) == 1)=false∨((((zAd B32 d).length:Int) == 1)=true∧((d:Int) == 1)=false∧∃ b o,A2=some ⟨b,o,none⟩∧b<w.heap.size∧w.cell? ⟨b,o,none⟩=some (.int .u32 (d:Int)))):=by
  rcases one_cases h2 hd0 with ⟨e,_⟩ | ⟨_,e⟩ | ⟨e,hl1,b,o,hA,hb,hc⟩
  ·exact absurd e hd
  ·exact .inl ze
  ·exact .inr ⟨ze,ze,b,o,hA,hb,hc⟩
 clear hd
 rcases CS.out with hc1 | ⟨hc1,hc2,b,o,rfl,hb,hcell⟩
 all_goals
  go_enter Tryz.func117,Tryz.ntmps117
  go_wp2_with fail
  with_reducible refine (HGC.o _ ((h.alloc _).alloc _) ((h2.alloc _).alloc _)).mono ?_
  rintro e w1 ⟨A5,c5,rfl,h5,hb5⟩;obtain ⟨hc,hf⟩:=bcellK hb5;have hz:w.heap.size+1<w1.heap.size:=by have:=hb5.size;simp at this;omega
  have k0:w1.cell? ⟨w.heap.size+1,0,none⟩=some (.bool false):=zk;have k1:w1.cell? ⟨w.heap.size+1,1,none⟩=some (.slice none 0 0):=zk;have k2:w1.cell? ⟨w.heap.size+1,2,none⟩=some (.slice none 0 0):=zk;have HB:Hid (Below w.heap.size w w1):=(((aN w.heap.size w).alloc (aC _) _).alloc zd _).trans (hb5.mono ze);have hn1:=((h.alloc _).alloc _).below hb5;have hd1:=((h2.alloc _).alloc _).below hb5
  have CS2:Hid ((G=1∧(((zAd B32 G).length:Int) == 1)=true∧0<(zAd B32 G).length∧∃ b o,A5=some ⟨b,o,none⟩∧b<w1.heap.size∧w1.cell? ⟨b,o,none⟩=some (.int .u32 1))∨(((zAd B32 G).length:Int) == 1)=false ∨
    ((((zAd B32 G).length:Int) == 1)=true∧0<(zAd B32 G).length∧((G:Int) == 1)=false∧∃ b o,A5=some ⟨b,o,none⟩∧b<w1.heap.size∧w1.cell? ⟨b,o,none⟩=some (.int .u32 (G:Int)))):=by
   rcases one_cases h5 hg0 with ⟨e,hl1,b,o,hA,hb,hc⟩ | ⟨_,e⟩ | ⟨e,hl1,b,o,hA,hb,hc⟩
   ·exact .inl ⟨e,ze,za,b,o,hA,hb,hc⟩
   ·exact .inr (.inl ze)
   ·exact .inr (.inr ⟨ze,za,ze,b,o,hA,hb,hc⟩)
  clear hb5
  rcases CS2.out with ⟨hG1,hg1,hg2,b2,o2,hA5,hb2,hcell2⟩ | hg1 | ⟨hg1,hg2,hg3,b2,o2,hA5,hb2,hcell2⟩
  ·subst hA5
   have HG1:=zq hG1;clear hG1 hc1;go_wp2;rw [HG1.o,Nat.div_one,Nat.div_one];refine dL (v:=raV ng A c n _ c2 d) (by simp [results,Tryz.results117,go_sem,hc]) rfl ⟨A,c,_,c2,rfl,hn1.set3 k0 k1 k2 (nb_ _) (ns_ _ _ _) (ns_ _ _ _) _ _ _,hd1.set3 k0 k1 k2 (nb_ _) (ns_ _ _ _) (ns_ _ _ _) _ _ _,?_⟩
   exact ((HB.o.setCell zd _).setCell zd _).setCell zd _
  ·clear hc1
   go_wp2_with fail
   with_reducible refine (HQ1.o _ _ _ hn1 h5).mono ?_
   rintro e w2 ⟨A6,c6,A7,c7,rfl,h6,_,hb6⟩;have hd2:=hd1.below hb6;have h52:=h5.below hb6;have HB2:=zq (zAa HB.o hb6);have hz2:w.heap.size+1<w2.heap.size:=cY hz hb6.size;have m0:w2.cell? ⟨w.heap.size+1,0,none⟩=some (.bool false):=(hb6.cell (p:=⟨w.heap.size+1,0,none⟩) hz).trans k0;have m1:w2.cell? ⟨w.heap.size+1,1,none⟩=some (.slice none 0 0):=(hb6.cell (p:=⟨w.heap.size+1,1,none⟩) hz).trans k1;have m2:w2.cell? ⟨w.heap.size+1,2,none⟩=some (.slice none 0 0):=(hb6.cell (p:=⟨w.heap.size+1,2,none⟩) hz).trans k2
   have f0:∀ i,w2.frozen? ⟨w.heap.size+1,i,none⟩=false:=fun i=>by
    rw [hb6.frozen (p:=⟨w.heap.size+1,i,none⟩) hz,hf _ _ zd];go_simp
   have n0:w2.cell? ⟨w.heap.size,0,none⟩=some (.bool ng):=by
    rw [hb6.cell (p:=⟨w.heap.size,0,none⟩) (by show w.heap.size<_;omega),hc _ _ ze];go_simp
   clear hb6 k0 k1 k2 hc hf HB
   go_wp2_with fail
   with_reducible refine (HQ2.o _ _ _ hd2 h52).mono ?_
   rintro e w3 ⟨A8,c8,A9,c9,rfl,h8,_,hb8⟩;have h63:=h6.below hb8;have HB3:=zq (zAa HB2.o hb8);have k0:w3.cell? ⟨w.heap.size+1,0,none⟩=some (.bool false):=(hb8.cell (p:=⟨w.heap.size+1,0,none⟩) hz2).trans m0;have k1:w3.cell? ⟨w.heap.size+1,1,none⟩=some (.slice none 0 0):=(hb8.cell (p:=⟨w.heap.size+1,1,none⟩) hz2).trans m1;have k2:w3.cell? ⟨w.heap.size+1,2,none⟩=some (.slice none 0 0):=(hb8.cell (p:=⟨w.heap.size+1,2,none⟩) hz2).trans m2;have f3:∀ i,w3.frozen? ⟨w.heap.size+1,i,none⟩=false:=fun i=>(hb8.frozen (p:=⟨w.heap.size+1,i,none⟩) hz2).trans (f0 i)
   have n3:w3.cell? ⟨w.heap.size,0,none⟩=some (.bool ng):=(hb8.cell (p:=⟨w.heap.size,0,none⟩) (by show w.heap.size<_;omega)).trans n0
   have hz3:w.heap.size+1<w3.heap.size:=cY hz2 hb8.size;clear hb8 m0 m1 m2 n0 f0 HB2;go_wp2;refine dL (v:=raV ng A6 c6 (n / G) A8 c8 (d / G)) (by simp [results,Tryz.results117,go_sem,k0,k1,k2]) rfl ⟨A6,c6,A8,c8,rfl,h63.set3 k0 k1 k2 (nb_ _) (ns_ _ _ _) (ns_ _ _ _) _ _ _,h8.set3 k0 k1 k2 (nb_ _) (ns_ _ _ _) (ns_ _ _ _) _ _ _,?_⟩
   exact ((HB3.o.setCell zd _).setCell zd _).setCell zd _
  ·subst hA5
   clear hc1
   go_wp2_with fail
   with_reducible refine (HQ1.o _ _ _ hn1 h5).mono ?_
   rintro e w2 ⟨A6,c6,A7,c7,rfl,h6,_,hb6⟩;have hd2:=hd1.below hb6;have h52:=h5.below hb6;have HB2:=zq (zAa HB.o hb6);have hz2:w.heap.size+1<w2.heap.size:=cY hz hb6.size;have m0:w2.cell? ⟨w.heap.size+1,0,none⟩=some (.bool false):=(hb6.cell (p:=⟨w.heap.size+1,0,none⟩) hz).trans k0;have m1:w2.cell? ⟨w.heap.size+1,1,none⟩=some (.slice none 0 0):=(hb6.cell (p:=⟨w.heap.size+1,1,none⟩) hz).trans k1;have m2:w2.cell? ⟨w.heap.size+1,2,none⟩=some (.slice none 0 0):=(hb6.cell (p:=⟨w.heap.size+1,2,none⟩) hz).trans k2
   have f0:∀ i,w2.frozen? ⟨w.heap.size+1,i,none⟩=false:=fun i=>by
    rw [hb6.frozen (p:=⟨w.heap.size+1,i,none⟩) hz,hf _ _ zd];go_simp
   have n0:w2.cell? ⟨w.heap.size,0,none⟩=some (.bool ng):=by
    rw [hb6.cell (p:=⟨w.heap.size,0,none⟩) (by show w.heap.size<_;omega),hc _ _ ze];go_simp
   clear hb6 k0 k1 k2 hc hf HB
   go_wp2_with fail
   with_reducible refine (HQ2.o _ _ _ hd2 h52).mono ?_
   rintro e w3 ⟨A8,c8,A9,c9,rfl,h8,_,hb8⟩;have h63:=h6.below hb8;have HB3:=zq (zAa HB2.o hb8);have k0:w3.cell? ⟨w.heap.size+1,0,none⟩=some (.bool false):=(hb8.cell (p:=⟨w.heap.size+1,0,none⟩) hz2).trans m0;have k1:w3.cell? ⟨w.heap.size+1,1,none⟩=some (.slice none 0 0):=(hb8.cell (p:=⟨w.heap.size+1,1,none⟩) hz2).trans m1;have k2:w3.cell? ⟨w.heap.size+1,2,none⟩=some (.slice none 0 0):=(hb8.cell (p:=⟨w.heap.size+1,2,none⟩) hz2).trans m2;have f3:∀ i,w3.frozen? ⟨w.heap.size+1,i,none⟩=false:=fun i=>(hb8.frozen (p:=⟨w.heap.size+1,i,none⟩) hz2).trans (f0 i)
   have n3:w3.cell? ⟨w.heap.size,0,none⟩=some (.bool ng):=(hb8.cell (p:=⟨w.heap.size,0,none⟩) (by show w.heap.size<_;omega)).trans n0
   have hz3:w.heap.size+1<w3.heap.size:=cY hz2 hb8.size;clear hb8 m0 m1 m2 n0 f0 HB2;go_wp2;refine dL (v:=raV ng A6 c6 (n / G) A8 c8 (d / G)) (by simp [results,Tryz.results117,go_sem,k0,k1,k2]) rfl ⟨A6,c6,A8,c8,rfl,h63.set3 k0 k1 k2 (nb_ _) (ns_ _ _ _) (ns_ _ _ _) _ _ _,h8.set3 k0 k1 k2 (nb_ _) (ns_ _ _ _) (ns_ _ _ _) _ _ _,?_⟩
   exact ((HB3.o.setCell zd _).setCell zd _).setCell zd _
theorem Over_c (A A2:Option Addr) (c c2 n d:Nat) (ng:Bool) (w:World) (h:Nt w A c n) (h2:Nt w A2 c2 d) (hd0:0<d) (hn:(zAd B32 n).length≤400000000) (hm:(zAd B32 d).length≤400000000) :
  Calls Tryz.prog 117 #[inV ng A c n,ntV A2 c2 d] w (zCb (ng&&decide (n≠0)) (zCN n d).1 (zCN n d).2 w):=by
 by_cases h0:n=0
 ·subst h0
  rw [lowP_zero d hd0];have:=Over_zero A A2 c c2 d ng w
  simpa using this
 ·have e:(ng&&decide (n≠0))=ng:=by simp [h0]
  rw [e]
  by_cases h1:d=1
  ·subst h1
   rw [lowP_one n 1 (Nat.gcd_one_right n)];exact Over_same A A2 c c2 n ng w h h2 za
  ·exact Over_gen A A2 c c2 n d ng w h h2 za hd0 h1 hn hm
end Go.Proofs.YtieoifkdobcpiaaGreatDoor
namespace Go.Proofs
open Go.Shelf
def Tryz.lays160_ren:Go.Shelf.Ren:=⟨fun | 160=>150 | 232=>212 | 231=>211 | 227=>213 | 234=>215 | 233=>214 | 236=>217 | 235=>216 | 228=>258 | 271=>261 | 151=>260 | 197=>259 | 120=>276 | 152=>275 | 260=>274 | 137=>279 | 119=>280 | 224=>281 | 225=>282 | 217=>283 | 266=>284 | n=>n,fun | 9=>9 | 4=>4 | 3=>3 | 5=>5 | 117=>279 | 116=>278 | 0=>0 | 124=>282 | 21=>21 | 105=>313 | 46=>188 | 119=>335 | 139=>338 | 138=>337 | n=>n,fun | 3=>6 | 4=>7 | n=>n⟩
theorem Tryz.lays160:Go.Proofs.Lays.n160 Tryz.prog Tryz.lays160_ren:={
 mixed:=zb
 f119:=Tryz.func280.trans (bA some zb)
 f120:=Tryz.func276.trans (bA some zb)
 f137:=Tryz.func279.trans (bA some zb)
 f151:=Tryz.func260.trans (bA some zb)
 f152:=Tryz.func275.trans (bA some zb)
 f160:=Tryz.func150.trans (bA some zb)
 f197:=Tryz.func259.trans (bA some zb)
 f217:=Tryz.func283.trans (bA some zb)
 f224:=Tryz.func281.trans (bA some zb)
 f225:=Tryz.func282.trans (bA some zb)
 f227:=Tryz.func213.trans (bA some zb)
 f228:=Tryz.func258.trans (bA some zb)
 f231:=Tryz.func211.trans (bA some zb)
 f232:=Tryz.func212.trans (bA some zb)
 f233:=Tryz.func214.trans (bA some zb)
 f234:=Tryz.func215.trans (bA some zb)
 f235:=Tryz.func216.trans (bA some zb)
 f236:=Tryz.func217.trans (bA some zb)
 f260:=Tryz.func274.trans (bA some zb)
 f266:=Tryz.func284.trans (bA some zb)
 f271:=Tryz.func261.trans (bA some zb)
 t0:=Tryz.underlying0
 a0:=Tryz.isAgg0
 z0:=Tryz.sizeOf0
 v0:=Tryz.zeroValue0
 t3:=Tryz.underlying3
 a3:=Tryz.isAgg3
 z3:=Tryz.sizeOf3
 v3:=Tryz.zeroValue3
 t4:=Tryz.underlying4
 a4:=Tryz.isAgg4
 z4:=Tryz.sizeOf4
 v4:=Tryz.zeroValue4
 t5:=Tryz.underlying5
 a5:=Tryz.isAgg5
 z5:=Tryz.sizeOf5
 v5:=Tryz.zeroValue5
 t9:=Tryz.underlying9
 a9:=Tryz.isAgg9
 z9:=Tryz.sizeOf9
 v9:=Tryz.zeroValue9
 t21:=Tryz.underlying21
 a21:=Tryz.isAgg21
 z21:=Tryz.sizeOf21
 v21:=Tryz.zeroValue21
 t46:=Tryz.underlying188
 a46:=Tryz.isAgg188
 z46:=Tryz.sizeOf188
 v46:=Tryz.zeroValue188
 t105:=Tryz.underlying313
 a105:=Tryz.isAgg313
 z105:=Tryz.sizeOf313
 v105:=Tryz.zeroValue313
 t116:=Tryz.underlying278
 a116:=Tryz.isAgg278
 z116:=Tryz.sizeOf278
 t117:=Tryz.underlying279
 a117:=Tryz.isAgg279
 z117:=Tryz.sizeOf279
 v117:=Tryz.zeroValue279
 t119:=Tryz.underlying335
 a119:=Tryz.isAgg335
 z119:=Tryz.sizeOf335
 t124:=Tryz.underlying282
 a124:=Tryz.isAgg282
 z124:=Tryz.sizeOf282
 v124:=Tryz.zeroValue282
 t138:=Tryz.underlying337
 a138:=Tryz.isAgg337
 z138:=Tryz.sizeOf337
 v138:=Tryz.zeroValue337
 t139:=Tryz.underlying338
 a139:=Tryz.isAgg338
 z139:=Tryz.sizeOf338
 v139:=Tryz.zeroValue338
 g3:=zb
 g4:=by kernel_rfl }
def Tryz.lays103_ren:Go.Shelf.Ren:=⟨fun | 103=>163 | 210=>224 | 206=>248 | n=>n,fun | 9=>9 | 4=>4 | 24=>236 | 3=>3 | n=>n,fun | n=>n⟩
theorem Tryz.lays103:Go.Proofs.Lays.n103 Tryz.prog Tryz.lays103_ren:={
 mixed:=zb
 f103:=Tryz.func163.trans (bA some zb)
 f206:=Tryz.func248.trans (bA some zb)
 f210:=Tryz.func224.trans (bA some zb)
 t3:=Tryz.underlying3
 a3:=Tryz.isAgg3
 z3:=Tryz.sizeOf3
 v3:=Tryz.zeroValue3
 t4:=Tryz.underlying4
 a4:=Tryz.isAgg4
 z4:=Tryz.sizeOf4
 v4:=Tryz.zeroValue4
 t9:=Tryz.underlying9
 a9:=Tryz.isAgg9
 z9:=Tryz.sizeOf9
 v9:=Tryz.zeroValue9
 t24:=Tryz.underlying236
 a24:=Tryz.isAgg236
 z24:=Tryz.sizeOf236
 v24:=Tryz.zeroValue236 }
def Tryz.lays106_ren:Go.Shelf.Ren:=⟨fun | 106=>207 | 213=>251 | 265=>271 | n=>n,fun | 9=>9 | 3=>3 | n=>n,fun | n=>n⟩
theorem Tryz.lays106:Go.Proofs.Lays.n106 Tryz.prog Tryz.lays106_ren:={
 mixed:=zb
 f106:=Tryz.func207.trans (bA some zb)
 f213:=Tryz.func251.trans (bA some zb)
 f265:=Tryz.func271.trans (bA some zb)
 t3:=Tryz.underlying3
 a3:=Tryz.isAgg3
 z3:=Tryz.sizeOf3
 v3:=Tryz.zeroValue3
 t9:=Tryz.underlying9
 a9:=Tryz.isAgg9
 z9:=Tryz.sizeOf9
 v9:=Tryz.zeroValue9 }
end Go.Proofs
namespace Go.Proofs.YtieoifkdobcpiaaGreatDoor
open Go.RowKit Dw
theorem Of_c (n:Nat) (w:World) (h:n≤1000000000):Calls Tryz.prog 78 #[.int .i64 (n:Int)] w (GivesI false n w):=by
 go_enter Tryz.func78,Tryz.ntmps78
 go_wp2_with fail
 with_reducible refine (natOf_c n _ za).mono ?_
 rintro e w1 ⟨A5,c5,rfl,h5,hb⟩;obtain ⟨hc,hf⟩:=bcellK hb;have hz:w.heap.size<w1.heap.size:=qd;have k0:w1.cell? ⟨w.heap.size,0,none⟩=some (.bool false):=zk;have k1:w1.cell? ⟨w.heap.size,1,none⟩=some (.slice none 0 0):=zk;have HB:Hid (Below w.heap.size w w1):=((aN w.heap.size w).alloc (aC _) _).trans (hb.mono zd);go_wp2;refine dL (v:=inV false A5 c5 n) (by simp [results,Tryz.results78,go_sem,hc]) rfl ⟨A5,c5,rfl,?_,?_⟩
 ·exact h5.set2 k0 k1 (nb_ _) (ns_ _ _ _) _ _
 ·exact (HB.o.setCell zd _).setCell zd _
theorem Whole_c (n:Nat) (w:World) (h:n≤1000000000):Calls Tryz.prog 34 #[.int .i64 (n:Int)] w (zCb false n 1 w):=by
 go_enter Tryz.func34,Tryz.ntmps34
 go_wp2_with fail
 with_reducible refine (Of_c n _ h).mono ?_
 rintro e w1 ⟨A5,c5,rfl,h5,hb⟩
 go_wp2_with fail
 with_reducible refine (One_c _).mono ?_
 rintro e w2 ⟨A6,c6,rfl,h6,hb6⟩;have h56:=h5.below hb6;have hb7:=zAa hb hb6;obtain ⟨hc,hf⟩:=bcellK hb7;have hz:w.heap.size<w2.heap.size:=by have:=hb7.size;simp at this;omega
 have k0:w2.cell? ⟨w.heap.size,0,none⟩=some (.bool false):=zk;have k1:w2.cell? ⟨w.heap.size,1,none⟩=some (.slice none 0 0):=zk;have k2:w2.cell? ⟨w.heap.size,2,none⟩=some (.slice none 0 0):=zk;have HB:Hid (Below w.heap.size w w2):=((aN w.heap.size w).alloc (aC _) _).trans (hb7.mono zd);go_wp2;refine dL (v:=raV false A5 c5 n A6 c6 1) (by simp [results,Tryz.results34,go_sem,hc]) rfl ⟨A5,c5,A6,c6,rfl,?_,?_,?_⟩
 ·exact h56.set3 k0 k1 k2 (nb_ _) (ns_ _ _ _) (ns_ _ _ _) _ _ _
 ·exact h6.set3 k0 k1 k2 (nb_ _) (ns_ _ _ _) (ns_ _ _ _) _ _ _
 ·exact ((HB.o.setCell zd _).setCell zd _).setCell zd _
theorem byte45 (c:UInt8):(45 == c)=decide (c.toNat=45):=by
 have h:∀ n:Nat,n<256→((45:UInt8) == UInt8.ofNat n)=decide ((UInt8.ofNat n).toNat=45):=by decide +kernel
 have:=h c.toNat c.toNat_lt
 simpa using this
theorem cut_c (s:BA) (w:World):Calls Tryz.prog 163 #[.string s,.string ⟨#[45]⟩] w (zAZ (.tuple #[.string (zBj s),.bool (negB s)]) w):=by
 have h:=Any.strings_CutPrefix Tryz.lays103 s ⟨#[45]⟩ w
 change Calls Tryz.prog 163 _ _ _ at h
 have e1:Lib.hasPrefix s.data.toList [45]=negB s:=by
  unfold Lib.hasPrefix negB;rw [Lib.size_eq]
  cases s.data.toList with
  | nil=>rfl
  | cons a l =>
   have:(45 == a)=decide (a.toNat=45):=byte45 a;simp [List.isPrefixOf,this]
 have e2:(⟨(Lib.trimPrefix s.data.toList [45]).toArray⟩:BA)=zBj s:=by
  unfold Lib.trimPrefix zBj absL;rw [e1]
  cases negB s<;>simp
 refine h.mono fun _ _ ⟨he,hw⟩=>⟨?_,hw.symm⟩
 rw [he]
 show Ending.returned (.tuple #[.string ⟨(Lib.trimPrefix s.data.toList [45]).toArray⟩,.bool (Lib.hasPrefix s.data.toList [45])])=_
 rw [e1,e2]
def Bx (w:World) (g:Nat) (cs:Array Value) (T:TypeId):Prop:=w.heap[g]?=some (.cells cs T (0,0))
section
variable {w w':World} {g:Nat} {cs:Array Value} {T:TypeId}
theorem Bx.lt (h:Bx w g cs T):g<w.heap.size:=(Array.getElem?_eq_some_iff.1 h).1
theorem Bx.cell (h:Bx w g cs T) {i:Nat} {v:Value} (hi:cs[i]?=some v):w.cell? ⟨g,i,none⟩=some v:=by
 rw [aL w g i _ _ _ h];exact hi
theorem Bx.c (h:Bx w g cs T) (i:Nat) {v:Value} (hi:cs[i]?=some v):w.cell? ⟨g,i,none⟩=some v:=h.cell hi
theorem Bx.t {w:World} {g:Nat} {T:TypeId} {a b c:Value} (h:Bx w g #[a,b,c] T):w.cell? ⟨g,0,none⟩=some a∧w.cell? ⟨g,1,none⟩=some b∧w.cell? ⟨g,2,none⟩=some c:=⟨h.c 0 rfl,h.c 1 rfl,h.c 2 rfl⟩
theorem Bx.frozen (h:Bx w g cs T) (i:Nat):w.frozen? ⟨g,i,none⟩=false:=bV w g i _ _ h
theorem Bx.below (h:Bx w g cs T) (hb:Below w.heap.size w w'):Bx w' g cs T:=(hb.block g h.lt).trans h
theorem Bx.drew (h:Bx w g cs T):Bx w.drew g cs T:=h
theorem Bx.drewN (h:Bx w g cs T) (n:Nat):Bx (w.drewN n) g cs T:=h
theorem Bx.alloc (h:Bx w g cs T) (o:Obj):Bx (w.alloc o) g cs T:=(dN w o g h.lt).trans h
theorem Bx.new (w:World) (cs:Array Value) (T:TypeId):Bx (w.alloc (.cells cs T)) w.heap.size cs T:=bZ w _
theorem Bx.new1 (w:World) (o:Obj) (cs:Array Value) (T:TypeId):Bx ((w.alloc o).alloc (.cells cs T)) (w.heap.size+1) cs T:=by
 have:=Bx.new (w.alloc o) cs T
 rwa [show (w.alloc o).heap.size=w.heap.size+1 by simp] at this
theorem Bx.new2 (w:World) (o o2:Obj) (cs:Array Value) (T:TypeId):Bx (((w.alloc o).alloc o2).alloc (.cells cs T)) (w.heap.size+1+1) cs T:=by
 have:=Bx.new1 (w.alloc o) o2 cs T
 rwa [show (w.alloc o).heap.size=w.heap.size+1 by simp] at this
end
abbrev zBx:Array Value:=#[.bool false,.slice none 0 0,.slice none 0 0]
theorem Nt.setR {w:World} {A:Option Addr} {c n R:Nat} {T:TypeId} (h:Nt w A c n) (hb:Bx w R zBx T) (u0 u1 u2:Value):Nt (((w.setCell ⟨R,0,none⟩ u0).setCell ⟨R,1,none⟩ u1).setCell ⟨R,2,none⟩ u2) A c n :=
 h.set3 (hb.c 0 rfl) (hb.c 1 rfl) (hb.c 2 rfl) (nb_ _) (ns_ _ _ _) (ns_ _ _ _) _ _ _
def sgB (s:BA):Bool:=negB s&&decide (zAF (zBj s)≠0)
theorem Parse_c (s:BA) (w:World) (hd:(zBj s).data.toList.all dgB=true) (hs:(zBj s).size≤2000):Calls Tryz.prog 111 #[.string s] w (GivesI (sgB s) (zAF (zBj s)) w):=by
 have HS:Hid ((zAF (zBj s)=0∧sgB s=false)∨(0<(zAd B32 (zAF (zBj s))).length∧sgB s=negB s)):=by
  by_cases h0:zAF (zBj s)=0
  ·exact .inl ⟨h0,by simp [sgB,h0]⟩
  ·exact .inr ⟨pos_len za,by simp [sgB,h0]⟩
 have HN:=zq (fun W=>natText_c (zBj s) W hd hs)
 have HC:=zq (fun W=>cut_c s W)
 clear hd hs;generalize zBj s=t at *;generalize zAF t=n at *;generalize sgB s=sg at *;generalize negB s=ng at *
 rcases HS.o with ⟨rfl,rfl⟩ | ⟨hl,rfl⟩
 case' inr=>cases sg
 case' inl=>cases ng
 all_goals
  clear HS
  go_enter Tryz.func111,Tryz.ntmps111
  go_wp2_with fail
  with_reducible refine (HC.o _).mono ?_
  rintro e w1 ⟨rfl,rfl⟩
  go_wp2_with fail
  with_reducible refine (HN.o _).mono ?_
  rintro e w2 ⟨A5,c5,rfl,h5,hb⟩;obtain ⟨hc,hf⟩:=bcellK hb;have hz:w.heap.size<w2.heap.size:=qd;have k0:w2.cell? ⟨w.heap.size,0,none⟩=some (.bool false):=zk;have k1:w2.cell? ⟨w.heap.size,1,none⟩=some (.slice none 0 0):=zk;have HB:Hid (Below w.heap.size w w2):=((aN w.heap.size w).alloc (aC _) _).trans (hb.mono zd);clear HC HN;go_wp2;refine dL (v:=inV _ A5 c5 _) (by first | (simp [results,Tryz.results111,go_sem,hc];done) | (simp [results,Tryz.results111,go_sem,hc];rfl)) rfl ⟨A5,c5,rfl,?_,?_⟩
  ·exact h5.set2 k0 k1 (nb_ _) (ns_ _ _ _) _ _
  ·exact (HB.o.setCell zd _).setCell zd _
theorem From_c (nu de:BA) (w:World) (hd:(zBj nu).data.toList.all dgB=true) (hs:(zBj nu).size≤2000) (hd2:de.data.toList.all dgB=true) (hs2:de.size≤2000) :
  Calls Tryz.prog 70 #[.agg #[.string nu,.string de]] w (zCb (sgB nu) (zAF (zBj nu)) (zAF de) w):=by
 have HP:=zq (fun W=>Parse_c nu W hd hs)
 have HN:=zq (fun W=>natText_c de W hd2 hs2)
 clear hd hs hd2 hs2;generalize zAF (zBj nu)=n at *;generalize sgB nu=sg at *;generalize zAF de=d at *
 go_enter Tryz.func70,Tryz.ntmps70
 go_wp2;have HX:Hid (Bx ((w.alloc (.cells #[.string nu,.string de] 40)).alloc (.cells zBx 89)) w.heap.size #[.string nu,.string de] 40):=(Bx.new _ _ _).alloc _;have HR:Hid (Bx ((w.alloc (.cells #[.string nu,.string de] 40)).alloc (.cells zBx 89)) (w.heap.size+1) zBx 89):=Bx.new1 _ _ _ _;have HB:Hid (Below w.heap.size w ((w.alloc (.cells #[.string nu,.string de] 40)).alloc (.cells zBx 89))):=((aN w.heap.size w).alloc (aC _) _).alloc zd _
 go_region_held3 (fun w'=>w'.cell? ⟨w.heap.size,0,none⟩=some (.string nu)∧w'.cell? ⟨w.heap.size,1,none⟩=some (.string de)) ((refine ⟨?_,?_⟩<;>first | with_reducible assumption | go_simp))
  (first
   | ((go_at_call 111;(with_reducible refine (HP.o _).mono ?_);rintro e w1 ⟨A5,c5,rfl,h5,hb⟩;have HX1:=zq (HX.o.drew.below hb);have HR1:=zq (HR.o.drew.below hb);have HB1:=zq ((zAc HB.o 1).trans (hb.mono HB.o.size));have a0:=HX1.o.c 0 rfl;have a1:=HX1.o.c 1 rfl;clear hb))
   | ((go_at_call 112;(with_reducible refine (HN.o _).mono ?_);rintro e w2 ⟨A6,c6,rfl,h6,hb6⟩;have h56:=h5.below hb6;have HX2:=zq (HX1.o.below hb6);have HR2:=zq (HR1.o.below hb6);have HB2:=zq (zAa HB1.o hb6);have a2:=HX2.o.c 0 rfl;have a3:=HX2.o.c 1 rfl;obtain ⟨r0,r1,r2⟩:=HR2.o.t;have fr:=HR2.o.frozen;have rl:=HR2.o.lt;clear hb6)))
 clear HX HR HB HX1 HR1 HB1 a0 a1 h5;go_wp2;refine dL (v:=raV sg A5 c5 n A6 c6 d) (by simp [results,Tryz.results70,go_sem,r0,r1,r2]) rfl ⟨A5,c5,A6,c6,rfl,h56.setR HR2.o _ _ _,h6.setR HR2.o _ _ _,?_⟩
 exact ((HB2.o.setCell zd _).setCell zd _).setCell zd _
def lowB (n d:Nat):Bool:=decide (Nat.gcd n d=1)
theorem low_cmp {n d:Nat} (hd:0<d):(cmpN (zCN n d).2 d == 0)=lowB n d:=by
 unfold lowB zCN
 show (cmpN (d / Nat.gcd n d) d == 0)=_
 have hg:=dM n hd
 by_cases h:Nat.gcd n d=1
 ·have e:d / Nat.gcd n d=d:=by rw [h];exact Nat.div_one d
  rw [e,zDo rfl];simp [h]
 ·have hlt:d / Nat.gcd n d<d:=Nat.div_lt_self hd za
  rw [zCy hlt];simp [h]
theorem fldDen (W:World) (ng:Bool) (A A2:Option Addr) (n c m c2:Nat):(Instr.field 89 (.agg #[.bool ng,.slice A n c,.slice A2 m c2]) 1).run Tryz.prog W = .ok (.slice A2 m c2) W:=zb
theorem Lowest_c (ng:Bool) (A A2:Option Addr) (c c2 n d:Nat) (w:World) (h:Nt w A c n) (h2:Nt w A2 c2 d) (hd:0<d) (hn:(zAd B32 n).length≤400000000) (hm:(zAd B32 d).length≤400000000) :
  Calls Tryz.prog 253 #[raV ng A c n A2 c2 d] w (zAe (.bool (lowB n d)) w):=by
 have hlc:=low_cmp (n:=n) hd;have HL2:Hid ((zAd B32 (zCN n d).2).length≤400000000):=cU (zAI zAo (Nat.div_le_self d _)) hm;have HO:=zq (fun W (q:Nt W A c n) (q2:Nt W A2 c2 d)=>Over_c A A2 c c2 n d ng W q q2 hd hn hm)
 generalize (ng&&decide (n≠0))=ng2 at *;generalize (zCN n d).1=p1 at *;generalize (zCN n d).2=p2 at *;generalize lowB n d=lb at *;have HLC:=zq hlc;clear hlc hd;have HXX:Hid (Bx (w.alloc (.cells #[.bool ng,.slice A (zAd B32 n).length c,.slice A2 (zAd B32 d).length c2] 89)) w.heap.size #[.bool ng,.slice A (zAd B32 n).length c,.slice A2 (zAd B32 d).length c2] 89):=Bx.new _ _ _;have HB:Hid (Below w.heap.size w (w.alloc (.cells #[.bool ng,.slice A (zAd B32 n).length c,.slice A2 (zAd B32 d).length c2] 89))):=(aN w.heap.size w).alloc (aC _) _
 go_enter Tryz.func253,Tryz.ntmps253
 go_wp2;have hfd:=fldDen
 go_region_held3 (fun w'=>w'.cell? ⟨w.heap.size,0,none⟩=some (.bool ng)∧w'.cell? ⟨w.heap.size,1,none⟩=some (.slice A (zAd B32 n).length c)∧w'.cell? ⟨w.heap.size,2,none⟩=some (.slice A2 (zAd B32 d).length c2)) ((refine ⟨?_,?_,?_⟩<;>first | with_reducible assumption | go_simp))
  (first
   | ((go_at_call 117;(with_reducible refine (HO.o _ (Nt.drew (h.alloc _)) (Nt.drew (h2.alloc _))).mono ?_);rintro e w1 ⟨A5,c5,A6,c6,rfl,h5,h6,hb⟩;have HX1:=zq (HXX.o.drew.below hb);have HB1:=zq ((zAc HB.o 1).trans (hb.mono HB.o.size));obtain ⟨a0,a1,a2⟩:=HX1.o.t;have h21:=(Nt.drew (h2.alloc _)).below hb;clear hb))
   | ((go_at_call 116;(with_reducible refine (Cmp_c A6 A2 c6 c2 p2 d _ h6 h21 (cU HL2.o za)).mono ?_);rintro e w2 ⟨rfl,nd,rfl⟩)))
 clear HXX HB HX1 a0 a1 a2 h5 h6 h21 hfd;go_wp2;go_ret
 exact zAe.mk (zAQ HLC.o) (zAc HB1.o nd)
theorem lowP_scale {k x y:Nat} (h:0<k):zCN (k*x) (k*y)=zCN x y:=by
 unfold zCN;rw [Nat.gcd_mul_left,Nat.mul_div_mul_left _ _ h,Nat.mul_div_mul_left _ _ h]
theorem addP_same (n m d:Nat) (h:0<d):addP (n,d) (m,d)=zCN (n+m) d:=by
 unfold addP
 show zCN (n*d+m*d) (d*d)=_
 rw [←aW,aU,lowP_scale h]
theorem zCz (a b:Nat):(zAd B32 (a*b)).length≤(zAd B32 a).length+(zAd B32 b).length:=by
 refine zCq zAo ?_
 rw [Nat.pow_add];have h1:=zCh zAo a;have h2:=zCh zAo b;exact aY (bE a (Nat.le_of_lt h2)) (Nat.mul_lt_mul_of_pos_right h1 (Nat.pow_pos zBL))
theorem len_add (a b:Nat):(zAd B32 (a+b)).length≤max (zAd B32 a).length (zAd B32 b).length+1:=by
 refine zCq zAo ?_
 have h1:=zCh zAo a;have h2:=zCh zAo b;have h3:B32 ^ (zAd B32 a).length≤B32 ^ max (zAd B32 a).length (zAd B32 b).length:=bP zBL (Nat.le_max_left _ _);have h4:B32 ^ (zAd B32 b).length≤B32 ^ max (zAd B32 a).length (zAd B32 b).length:=bP zBL (Nat.le_max_right _ _);rw [aS];have h5:=bE (B32 ^ max (zAd B32 a).length (zAd B32 b).length) (show 2≤B32 by decide)
 omega
abbrev raC (A:Option Addr) (c n:Nat) (A2:Option Addr) (c2 d:Nat):Array Value:=#[.bool false,.slice A (zAd B32 n).length c,.slice A2 (zAd B32 d).length c2]
theorem RCmp_c (A A2 A3 A4:Option Addr) (c c2 c3 c4 n d m e:Nat) (w:World) (h:Nt w A c n) (h2:Nt w A2 c2 d) (h3:Nt w A3 c3 m) (h4:Nt w A4 c4 e)
  (hn:(zAd B32 n).length≤100000000) (hd:(zAd B32 d).length≤100000000) (hm:(zAd B32 m).length≤100000000) (he:(zAd B32 e).length≤100000000) :
  Calls Tryz.prog 33 #[raV false A c n A2 c2 d,raV false A3 c3 m A4 c4 e] w (zAe (.int .i64 (cmpN (n*e) (m*d))) w):=by
 have HM1:=zq (fun W (q:Nt W A c n) (q2:Nt W A4 c4 e)=>IMul_c A A4 c c4 n e W q q2 za za)
 have HM2:=zq (fun W (q:Nt W A3 c3 m) (q2:Nt W A2 c2 d)=>IMul_c A3 A2 c3 c2 m d W q q2 za za)
 have HL:Hid ((zAd B32 (n*e)).length≤400000000):=cU (zCz n e) za;obtain ⟨p,hp⟩:∃ p,n*e=p:=⟨_,rfl⟩;obtain ⟨q,hq⟩:∃ q,m*d=q:=⟨_,rfl⟩;rw [hp] at HM1 HL ⊢;rw [hq] at HM2 ⊢;clear hp hq;have HK:=zq (fun (A5:Option Addr) c5 (A6:Option Addr) c6 W (x:Nt W A5 c5 p) (y:Nt W A6 c6 q)=>ICmp_c A5 A6 c5 c6 p q W x y HL.o)
 have HX:Hid (Bx ((w.alloc (.cells (raC A c n A2 c2 d) 89)).alloc (.cells (raC A3 c3 m A4 c4 e) 89)) w.heap.size (raC A c n A2 c2 d) 89):=(Bx.new _ _ _).alloc _;have HY:Hid (Bx ((w.alloc (.cells (raC A c n A2 c2 d) 89)).alloc (.cells (raC A3 c3 m A4 c4 e) 89)) (w.heap.size+1) (raC A3 c3 m A4 c4 e) 89):=Bx.new1 _ _ _ _;have HB:Hid (Below w.heap.size w ((w.alloc (.cells (raC A c n A2 c2 d) 89)).alloc (.cells (raC A3 c3 m A4 c4 e) 89))):=((aN w.heap.size w).alloc (aC _) _).alloc zd _;clear hn hd hm he
 go_enter Tryz.func33,Tryz.ntmps33
 go_wp2
 go_region_held3 (fun w'=>(w'.cell? ⟨w.heap.size,0,none⟩=some (.bool false)∧w'.cell? ⟨w.heap.size,1,none⟩=some (.slice A (zAd B32 n).length c)∧w'.cell? ⟨w.heap.size,2,none⟩=some (.slice A2 (zAd B32 d).length c2))∧(w'.cell? ⟨w.heap.size+1,0,none⟩=some (.bool false)∧w'.cell? ⟨w.heap.size+1,1,none⟩=some (.slice A3 (zAd B32 m).length c3)∧w'.cell? ⟨w.heap.size+1,2,none⟩=some (.slice A4 (zAd B32 e).length c4)))
  ((refine ⟨⟨?_,?_,?_⟩,?_,?_,?_⟩<;>first | with_reducible assumption | go_simp))
  (first
   | ((go_at_call 76;(with_reducible refine (HM1.o _ (Nt.drew ((h.alloc _).alloc _)) (Nt.drew ((h4.alloc _).alloc _))).mono ?_);rintro e1 w1 ⟨A5,c5,rfl,h5,hb⟩;have HX1:=zq (HX.o.drew.below hb);have HY1:=zq (HY.o.drew.below hb);have HB1:=zq ((zAc HB.o 1).trans (hb.mono HB.o.size));obtain ⟨a0,a1,a2⟩:=HX1.o.t;obtain ⟨b0,b1,b2⟩:=HY1.o.t;have h31:=(Nt.drew ((h3.alloc _).alloc _)).below hb;have h21:=(Nt.drew ((h2.alloc _).alloc _)).below hb;clear hb))
   | ((go_at_call 76;(with_reducible refine (HM2.o _ h31 h21).mono ?_);rintro e2 w2 ⟨A6,c6,rfl,h6,hb6⟩;have h52:=h5.below hb6;have HX2:=zq (HX1.o.below hb6);have HY2:=zq (HY1.o.below hb6);have HB2:=zq (zAa HB1.o hb6);clear a0 a1 a2 b0 b1 b2;obtain ⟨a0,a1,a2⟩:=HX2.o.t;obtain ⟨b0,b1,b2⟩:=HY2.o.t;clear hb6))
   | ((go_at_call 77;(with_reducible refine (HK.o _ _ _ _ _ h52 h6).mono ?_);rintro e3 w3 ⟨rfl,hb7⟩;have HB3:=zq (zAa HB2.o hb7);have HX3:=zq (HX2.o.below hb7);have HY3:=zq (HY2.o.below hb7);clear a0 a1 a2 b0 b1 b2;obtain ⟨a0,a1,a2⟩:=HX3.o.t;obtain ⟨b0,b1,b2⟩:=HY3.o.t;clear hb7)))
 go_wp2;go_ret
 exact zAe.mk rfl HB3.o
theorem RAdd_same (A A2 A3 A4:Option Addr) (c c2 c3 c4 n d m e:Nat) (w:World) (h:Nt w A c n) (h2:Nt w A2 c2 d) (h3:Nt w A3 c3 m) (h4:Nt w A4 c4 e)
  (hn:(zAd B32 n).length≤100000000) (hd:(zAd B32 d).length≤100000000) (hm:(zAd B32 m).length≤100000000) (he:(zAd B32 e).length≤100000000) (hd0:0<d) (he0:0<e) (hde:d=e) :
  Calls Tryz.prog 75 #[raV false A c n A2 c2 d,raV false A3 c3 m A4 c4 e] w (zCb false (addP (n,d) (m,e)).1 (addP (n,d) (m,e)).2 w):=by
 subst hde;rw [addP_same n m d hd0];have HC:=zq (fun W (x:Nt W A2 c2 d) (y:Nt W A4 c4 d)=>Cmp_c A2 A4 c2 c4 d d W x y za)
 have HA:=zq (fun W (x:Nt W A c n) (y:Nt W A3 c3 m)=>IAdd_c A A3 c c3 n m W x y za za)
 have HO:=zq (fun A5 c5 W (x:Nt W A5 c5 (n+m)) (y:Nt W A2 c2 d)=>Over_c A5 A2 c5 c2 (n+m) d false W x y hd0 (by have:=len_add n m;omega) za)
 rw [zDo rfl] at HC;simp only [Bool.false_and] at HO;generalize (zCN (n+m) d).1=pp at *;generalize (zCN (n+m) d).2=pq at *;generalize n+m=nm at *;have HX0:Hid (Bx (((w.alloc (.cells (raC A c n A2 c2 d) 89)).alloc (.cells (raC A3 c3 m A4 c4 d) 89)).alloc (.cells zBx 89)) w.heap.size (raC A c n A2 c2 d) 89):=((Bx.new _ _ _).alloc _).alloc _;have HY0:Hid (Bx (((w.alloc (.cells (raC A c n A2 c2 d) 89)).alloc (.cells (raC A3 c3 m A4 c4 d) 89)).alloc (.cells zBx 89)) (w.heap.size+1) (raC A3 c3 m A4 c4 d) 89):=(Bx.new1 _ _ _ _).alloc _;have HZ0:Hid (Bx (((w.alloc (.cells (raC A c n A2 c2 d) 89)).alloc (.cells (raC A3 c3 m A4 c4 d) 89)).alloc (.cells zBx 89)) (w.heap.size+1+1) zBx 89):=Bx.new2 _ _ _ _ _;have HB0:Hid (Below w.heap.size w (((w.alloc (.cells (raC A c n A2 c2 d) 89)).alloc (.cells (raC A3 c3 m A4 c4 d) 89)).alloc (.cells zBx 89))):=(((aN w.heap.size w).alloc (aC _) _).alloc zd _).alloc ze _;obtain ⟨W,hW⟩:∃ W,W=(((w.alloc (.cells (raC A c n A2 c2 d) 89)).alloc (.cells (raC A3 c3 m A4 c4 d) 89)).alloc (.cells zBx 89)):=⟨_,rfl⟩;have g1:Nt W A c n:=yc;have g2:Nt W A2 c2 d:=zy;have g3:Nt W A3 c3 m:=ya;have g4:Nt W A4 c4 d:=yb;rw [←hW] at HX0 HY0 HZ0 HB0;clear hn hd hm he hd0 he0
 go_enter Tryz.func75,Tryz.ntmps75
 go_wp2_with fail
 rw [←hW];clear hW;obtain ⟨x0,x1,x2⟩:=HX0.o.t;obtain ⟨y0,y1,y2⟩:=HY0.o.t;have z0:=HZ0.o.frozen;have z1:=HZ0.o.lt
 go_wp2_with fail
 with_reducible refine (HC.o _ g2 g4).mono ?_
 rintro e0 w0 ⟨rfl,nd,rfl⟩;clear x0 x1 x2 y0 y1 y2 z0 z1;have HX:=zq (HX0.o.drewN (nd+1));have HY:=zq (HY0.o.drewN (nd+1));have HZ:=zq (HZ0.o.drewN (nd+1));have HB:=zq (zAc HB0.o (nd+1));obtain ⟨x0,x1,x2⟩:=HX.o.t;obtain ⟨y0,y1,y2⟩:=HY.o.t;clear HX0 HY0 HZ0 HB0;go_wp2
 go_region_held3 (fun w'=>(w'.cell? ⟨w.heap.size,0,none⟩=some (.bool false)∧w'.cell? ⟨w.heap.size,1,none⟩=some (.slice A (zAd B32 n).length c)∧w'.cell? ⟨w.heap.size,2,none⟩=some (.slice A2 (zAd B32 d).length c2))∧(w'.cell? ⟨w.heap.size+1,0,none⟩=some (.bool false)∧w'.cell? ⟨w.heap.size+1,1,none⟩=some (.slice A3 (zAd B32 m).length c3)∧w'.cell? ⟨w.heap.size+1,2,none⟩=some (.slice A4 (zAd B32 d).length c4)))
  ((refine ⟨⟨?_,?_,?_⟩,?_,?_,?_⟩<;>first | with_reducible assumption | go_simp))
  (first
   | ((go_at_call 118;(with_reducible refine (HA.o _ (g1.drewN (nd+1)) (g3.drewN (nd+1))).mono ?_);rintro e1 w1 ⟨A5,c5,rfl,h5,hb1⟩;have HX1:=zq (HX.o.below hb1);have HY1:=zq (HY.o.below hb1);have HZ1:=zq (HZ.o.below hb1);have HB1:=zq (HB.o.trans (hb1.mono HB.o.size));have g21:=(g2.drewN (nd+1)).below hb1;obtain ⟨a0,a1,a2⟩:=HX1.o.t;obtain ⟨b0,b1,b2⟩:=HY1.o.t;clear hb1))
   | ((go_at_call 117;(with_reducible refine (HO.o _ _ _ h5 g21).mono ?_);rintro e2 w2 ⟨A6,c6,A7,c7,rfl,h6,h7,hb2⟩;have HX2:=zq (HX1.o.below hb2);have HY2:=zq (HY1.o.below hb2);have HZ2:=zq (HZ1.o.below hb2);have HB2:=zq (zAa HB1.o hb2);clear a0 a1 a2 b0 b1 b2;obtain ⟨a0,a1,a2⟩:=HX2.o.t;obtain ⟨b0,b1,b2⟩:=HY2.o.t;obtain ⟨r0,r1,r2⟩:=HZ2.o.t;have fr:=HZ2.o.frozen;have rl:=HZ2.o.lt;clear hb2)))
 clear HX HY HZ HB;go_wp2;refine dL (v:=raV false A6 c6 pp A7 c7 pq) yo rfl ⟨A6,c6,A7,c7,rfl,h6.setR HZ2.o _ _ _,h7.setR HZ2.o _ _ _,?_⟩
 exact ((HB2.o.setCell ze _).setCell ze _).setCell ze _
theorem RAdd_diff (A A2 A3 A4:Option Addr) (c c2 c3 c4 n d m e:Nat) (w:World) (h:Nt w A c n) (h2:Nt w A2 c2 d) (h3:Nt w A3 c3 m) (h4:Nt w A4 c4 e)
  (hn:(zAd B32 n).length≤100000000) (hd:(zAd B32 d).length≤100000000) (hm:(zAd B32 m).length≤100000000) (he:(zAd B32 e).length≤100000000) (hd0:0<d) (he0:0<e) (hde:d≠e) :
  Calls Tryz.prog 75 #[raV false A c n A2 c2 d,raV false A3 c3 m A4 c4 e] w (zCb false (addP (n,d) (m,e)).1 (addP (n,d) (m,e)).2 w):=by
 have HC:=zq (fun W (x:Nt W A2 c2 d) (y:Nt W A4 c4 e)=>Cmp_c A2 A4 c2 c4 d e W x y za)
 have hk:(cmpN d e == 0)=false:=by
  rcases Nat.lt_or_gt_of_ne hde with h | h
  ·rw [zCy h];rfl
  ·rw [zCF h];rfl
 have l1:=zCz n e;have l2:=zCz m d;have l3:=zCz d e;have l4:=len_add (n*e) (m*d);have HM1:=zq (fun W (x:Nt W A c n) (y:Nt W A4 c4 e)=>IMul_c A A4 c c4 n e W x y za za)
 have HM2:=zq (fun W (x:Nt W A3 c3 m) (y:Nt W A2 c2 d)=>IMul_c A3 A2 c3 c2 m d W x y za za)
 have HM3:=zq (fun W (x:Nt W A2 c2 d) (y:Nt W A4 c4 e)=>Mul_c A2 A4 c2 c4 d e W x y za za)
 have HA:=zq (fun A5 c5 A6 c6 W (x:Nt W A5 c5 (n*e)) (y:Nt W A6 c6 (m*d))=>IAdd_c A5 A6 c5 c6 (n*e) (m*d) W x y za za)
 have HO:=zq (fun A5 c5 A6 c6 W (x:Nt W A5 c5 (n*e+m*d)) (y:Nt W A6 c6 (d*e))=>Over_c A5 A6 c5 c6 (n*e+m*d) (d*e) false W x y (cZ hd0 he0) za za)
 simp only [Bool.false_and] at HO;have hap:addP (n,d) (m,e)=zCN (n*e+m*d) (d*e):=rfl;rw [hap];clear hap l1 l2 l3 l4;generalize (zCN (n*e+m*d) (d*e)).1=pp at *;generalize (zCN (n*e+m*d) (d*e)).2=pq at *;generalize n*e=p1 at *;generalize m*d=p2 at *;generalize d*e=p3 at *;generalize p1+p2=p4 at *;generalize cmpN d e=cz at *;have HX0:Hid (Bx (((w.alloc (.cells (raC A c n A2 c2 d) 89)).alloc (.cells (raC A3 c3 m A4 c4 e) 89)).alloc (.cells zBx 89)) w.heap.size (raC A c n A2 c2 d) 89):=((Bx.new _ _ _).alloc _).alloc _;have HY0:Hid (Bx (((w.alloc (.cells (raC A c n A2 c2 d) 89)).alloc (.cells (raC A3 c3 m A4 c4 e) 89)).alloc (.cells zBx 89)) (w.heap.size+1) (raC A3 c3 m A4 c4 e) 89):=(Bx.new1 _ _ _ _).alloc _;have HZ0:Hid (Bx (((w.alloc (.cells (raC A c n A2 c2 d) 89)).alloc (.cells (raC A3 c3 m A4 c4 e) 89)).alloc (.cells zBx 89)) (w.heap.size+1+1) zBx 89):=Bx.new2 _ _ _ _ _;have HB0:Hid (Below w.heap.size w (((w.alloc (.cells (raC A c n A2 c2 d) 89)).alloc (.cells (raC A3 c3 m A4 c4 e) 89)).alloc (.cells zBx 89))):=(((aN w.heap.size w).alloc (aC _) _).alloc zd _).alloc ze _;obtain ⟨W,hW⟩:∃ W,W=(((w.alloc (.cells (raC A c n A2 c2 d) 89)).alloc (.cells (raC A3 c3 m A4 c4 e) 89)).alloc (.cells zBx 89)):=⟨_,rfl⟩;have g1:Nt W A c n:=yc;have g2:Nt W A2 c2 d:=zy;have g3:Nt W A3 c3 m:=ya;have g4:Nt W A4 c4 e:=yb;rw [←hW] at HX0 HY0 HZ0 HB0;clear hn hd hm he hd0 he0 hde
 go_enter Tryz.func75,Tryz.ntmps75
 go_wp2_with fail
 rw [←hW];clear hW;obtain ⟨x0,x1,x2⟩:=HX0.o.t;obtain ⟨y0,y1,y2⟩:=HY0.o.t;have z0:=HZ0.o.frozen;have z1:=HZ0.o.lt
 go_wp2_with fail
 with_reducible refine (HC.o _ g2 g4).mono ?_
 rintro e0 w0 ⟨rfl,nd,rfl⟩;clear x0 x1 x2 y0 y1 y2 z0 z1;have HX:=zq (HX0.o.drewN (nd+1));have HY:=zq (HY0.o.drewN (nd+1));have HZ:=zq (HZ0.o.drewN (nd+1));have HB:=zq (zAc HB0.o (nd+1));obtain ⟨x0,x1,x2⟩:=HX.o.t;obtain ⟨y0,y1,y2⟩:=HY.o.t;clear HX0 HY0 HZ0 HB0;go_wp2
 go_region_held3 (fun w'=>(w'.cell? ⟨w.heap.size,0,none⟩=some (.bool false)∧w'.cell? ⟨w.heap.size,1,none⟩=some (.slice A (zAd B32 n).length c)∧w'.cell? ⟨w.heap.size,2,none⟩=some (.slice A2 (zAd B32 d).length c2))∧(w'.cell? ⟨w.heap.size+1,0,none⟩=some (.bool false)∧w'.cell? ⟨w.heap.size+1,1,none⟩=some (.slice A3 (zAd B32 m).length c3)∧w'.cell? ⟨w.heap.size+1,2,none⟩=some (.slice A4 (zAd B32 e).length c4)))
  ((refine ⟨⟨?_,?_,?_⟩,?_,?_,?_⟩<;>first | with_reducible assumption | go_simp))
  (first
   | ((go_at_call 76;(with_reducible refine (HM1.o _ (g1.drewN (nd+1)) (g4.drewN (nd+1))).mono ?_);rintro e1 w1 ⟨A5,c5,rfl,h5,hb1⟩;have HX1:=zq (HX.o.below hb1);have HY1:=zq (HY.o.below hb1);have HZ1:=zq (HZ.o.below hb1);have HB1:=zq (HB.o.trans (hb1.mono HB.o.size));have g21:=(g2.drewN (nd+1)).below hb1;have g31:=(g3.drewN (nd+1)).below hb1;have g41:=(g4.drewN (nd+1)).below hb1;obtain ⟨a0,a1,a2⟩:=HX1.o.t;obtain ⟨b0,b1,b2⟩:=HY1.o.t;clear hb1))
   | ((go_at_call 76;(with_reducible refine (HM2.o _ g31 g21).mono ?_);rintro e2 w2 ⟨A6,c6,rfl,h6,hb2⟩;have HX2:=zq (HX1.o.below hb2);have HY2:=zq (HY1.o.below hb2);have HZ2:=zq (HZ1.o.below hb2);have HB2:=zq (zAa HB1.o hb2);have h52:=h5.below hb2;have g22:=g21.below hb2;have g42:=g41.below hb2;clear a0 a1 a2 b0 b1 b2;obtain ⟨a0,a1,a2⟩:=HX2.o.t;obtain ⟨b0,b1,b2⟩:=HY2.o.t;clear hb2))
   | ((go_at_call 118;(with_reducible refine (HA.o _ _ _ _ _ h52 h6).mono ?_);rintro e3 w3 ⟨A7,c7,rfl,h7,hb3⟩;have HX3:=zq (HX2.o.below hb3);have HY3:=zq (HY2.o.below hb3);have HZ3:=zq (HZ2.o.below hb3);have HB3:=zq (zAa HB2.o hb3);have g23:=g22.below hb3;have g43:=g42.below hb3;clear a0 a1 a2 b0 b1 b2;obtain ⟨a0,a1,a2⟩:=HX3.o.t;obtain ⟨b0,b1,b2⟩:=HY3.o.t;clear hb3))
   | ((go_at_call 119;(with_reducible refine (HM3.o _ g23 g43).mono ?_);rintro e4 w4 ⟨A8,c8,rfl,h8,hb4⟩;have HX4:=zq (HX3.o.below hb4);have HY4:=zq (HY3.o.below hb4);have HZ4:=zq (HZ3.o.below hb4);have HB4:=zq (zAa HB3.o hb4);have h74:=h7.below hb4;clear a0 a1 a2 b0 b1 b2;obtain ⟨a0,a1,a2⟩:=HX4.o.t;obtain ⟨b0,b1,b2⟩:=HY4.o.t;clear hb4))
   | ((go_at_call 117;(with_reducible refine (HO.o _ _ _ _ _ h74 h8).mono ?_);rintro e5 w5 ⟨A9,c9,AD,cE,rfl,h9,hF,hb5⟩;have HX5:=zq (HX4.o.below hb5);have HY5:=zq (HY4.o.below hb5);have HZ5:=zq (HZ4.o.below hb5);have HB5:=zq (zAa HB4.o hb5);clear a0 a1 a2 b0 b1 b2;obtain ⟨a0,a1,a2⟩:=HX5.o.t;obtain ⟨b0,b1,b2⟩:=HY5.o.t;obtain ⟨r0,r1,r2⟩:=HZ5.o.t;have fr:=HZ5.o.frozen;have rl:=HZ5.o.lt;clear hb5)))
 clear HX HY HZ HB;go_wp2;refine dL (v:=raV false A9 c9 pp AD cE pq) yo rfl ⟨A9,c9,AD,cE,rfl,h9.setR HZ5.o _ _ _,hF.setR HZ5.o _ _ _,?_⟩
 exact ((HB5.o.setCell ze _).setCell ze _).setCell ze _
theorem RAdd_c (A A2 A3 A4:Option Addr) (c c2 c3 c4 n d m e:Nat) (w:World) (h:Nt w A c n) (h2:Nt w A2 c2 d) (h3:Nt w A3 c3 m) (h4:Nt w A4 c4 e)
  (hn:(zAd B32 n).length≤100000000) (hd:(zAd B32 d).length≤100000000) (hm:(zAd B32 m).length≤100000000) (he:(zAd B32 e).length≤100000000) (hd0:0<d) (he0:0<e) :
  Calls Tryz.prog 75 #[raV false A c n A2 c2 d,raV false A3 c3 m A4 c4 e] w (zCb false (addP (n,d) (m,e)).1 (addP (n,d) (m,e)).2 w):=by
 by_cases hde:d=e
 ·exact RAdd_same A A2 A3 A4 c c2 c3 c4 n d m e w h h2 h3 h4 hn hd hm he hd0 he0 hde
 ·exact RAdd_diff A A2 A3 A4 c c2 c3 c4 n d m e w h h2 h3 h4 hn hd hm he hd0 he0 hde
end Go.Proofs.YtieoifkdobcpiaaGreatDoor
