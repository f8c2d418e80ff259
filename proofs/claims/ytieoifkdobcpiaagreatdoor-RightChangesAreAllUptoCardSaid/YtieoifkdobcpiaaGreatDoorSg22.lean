/- Parts of the proof, joined: The reference's checkGift. The reference's checkDeed. The reference's . -/
import Derived.Test.YtieoifkdobcpiaaGreatDoorSg21
set_option maxRecDepth 100000
set_option maxHeartbeats 8000000
namespace Go.Proofs.YtieoifkdobcpiaaGreatDoor
open Go.RowKit Dw
section
variable {w W W':World} {RA:Option Addr} {rc:Nat} {rs:List Rg} {UA:Option Addr} {uc:Nat} {us:List BA} {DA:Option Addr} {dc:Nat} {ds:List De} {d:De}
end
theorem zDh {w:World} {b:Nat} {cs:Array Value} {T:TypeId} (h:Bx w b cs T):w.rangeAt b 0 cs.toList:=fun j v hv=>by
 rw [aK];exact h.cell (by rw [←hv,Array.getElem?_toList])
end Go.Proofs.YtieoifkdobcpiaaGreatDoor
namespace Go.Proofs.YtieoifkdobcpiaaGreatDoor
open Dw
def endsB (id:BA) (x:De):Bool:=decide (x.kd=4)&&decide (x.ot=id)
def endAt (ds:List De) (id:BA):Option Int:=(ds.reverse.find? (endsB id)).map De.bg
theorem endAt_snoc (l:List De) (d:De) (id:BA):endAt (l++[d]) id=if endsB id d=true then some d.bg else endAt l id:=by
 unfold endAt;rw [List.reverse_append,List.reverse_singleton,List.singleton_append,List.find?_cons]
 cases endsB id d<;>simp
def toP (ds:List De) (d:De):Int:=match endAt ds d.id with
 | some t=>min d.en t
 | none=>d.en
def cutR (b e:Int):Int×Int:=if e≤b then (0,0) else (b,e)
def zBS (ds:List De) (d:De):Int×Int:=if zAj d.kd=true then cutR d.bg (toP ds d) else (0,0)
theorem endsB_true {id:BA} {x:De}:endsB id x=true↔x.kd=4∧x.ot=id:=by unfold endsB;simp
theorem nmAt_inj {l:List Rg} (g:GoodR l) {i k:Nat} (hi:i<l.length) (hk:k<l.length) (h:nmAt l i=nmAt l k):i=k:=by
 rw [zBd hi,zBd hk] at h;have h1:=g.inc.idx hi;rw [h,g.inc.idx hk] at h1
 injection h1 with h1
 exact h1.symm
theorem lmF_some {l:List Rg} (g:GoodR l):∀ {k i:Nat},k≤l.length→i<k→zAB l i=false→lmF l k (nmAt l i)=some (.int .i64 ((zBQ l i).length:Int))
 | k+1,i,hk,hi,hp=>by
  unfold lmF
  by_cases he:i=k
  ·subst he
   rw [hp];simp
  ·have hlt:i<k:=by omega
   have ih:=lmF_some g (k:=k) za hlt hp
   split
   ·exact ih
   ·rw [aD fun h=>he (nmAt_inj g za za h)]
    exact ih
theorem lmF_none {l:List Rg} {s:BA}:∀ {k:Nat},(∀ i,i<k→zAB l i=false→s≠nmAt l i)→lmF l k s=none
 | 0,_=>rfl
 | k+1,h=>by
  unfold lmF;have ih:=lmF_none (k:=k) fun i hi=>h i za
  split
  ·exact ih
  ·next hp=>rw [aD (h k za (by simpa using hp))];exact ih
theorem leafTo_at {l:List Rg} {i:Nat} (hp:zAB l i=false):∀ {k:Nat},i<k→(zBQ l k)[(zBQ l i).length]?=some i
 | k+1,hi=>by
  have e:zBQ l (k+1)=zBQ l k++(if zAB l k=true then [] else [k]):=by
   unfold zBQ;rw [dI,dJ]
   cases hh:zAB l k<;>simp [hh]
  rw [e]
  by_cases he:i=k
  ·subst he
   rw [hp];simp
  ·have ih:=leafTo_at hp (k:=k) za
   rw [List.getElem?_append_left (List.getElem?_eq_some_iff.1 ih).1];exact ih
theorem leaf_at {l:List Rg} (g:GoodR l) {s:BA} (h:leafB l s=true):∃ (i n:Nat) (hi:i<l.length),(l[i]).nm=s∧lmF l l.length s=some (.int .i64 (n:Int))∧(zAm l)[n]?=some i:=by
 unfold leafB at h;rw [dG] at h;obtain ⟨h1,h2⟩:=h
 cases hx:idx l s with
 | none=>rw [hx] at h1;cases h1
 | some i =>
  obtain ⟨hi,hs⟩:=idx_some hx
  have hp:zAB l i=false:=by
   unfold zAB;rw [zBd hi,hs]
   simpa using h2
  refine ⟨i,(zBQ l i).length,hi,hs,?_,leafTo_at hp hi⟩
  have:=lmF_some g (aC _) hi hp
  rwa [zBd hi,hs] at this
theorem leaf_no {l:List Rg} (g:GoodR l) {s:BA} (h:leafB l s=false):lmF l l.length s=none:=by
 refine lmF_none fun i hi hp he=>?_
 rw [zBd hi] at he;have:=leafB_at g hi;rw [←he,h,hp] at this
 cases this
def vB (rs:List Rg) (ds:List De) (i:Nat) (use:BA) (day:Int) (d:De):Bool:=decide ((zBS ds d).1≤day)&&decide (day<(zBS ds d).2)&&(lies rs d.ar i&&memS d.us use)
def zCC (rs:List Rg) (ds:List De) (i:Nat) (use:BA) (day:Int) (th p:BA) (x:Bool) (d:De):Bool:=decide (d.kd=3)&&(decide (d.th=th)&&(decide (d.fr=p)&&((d.ex == x)&&vB rs ds i use day d)))
def licL (ds:List De) (P:De→Bool) (k:Nat):List Int:=((List.range k).filter fun j=>P (ds.getD j default)).map (fun j:Nat=>(j:Int))
theorem licL_succ (ds:List De) (P:De→Bool) (k:Nat):licL ds P (k+1)=licL ds P k++(if P (ds.getD k default)=true then [(k:Int)] else []):=by
 unfold licL;rw [dI,dJ,eE]
 congr 1
 by_cases h:P (ds.getD k default)=true
 ·rw [aF h,List.filter_cons_of_pos (p:=fun j=>P (ds.getD j default)) (a:=k) h];rfl
 ·rw [aD h,eG (p:=fun j=>P (ds.getD j default)) (a:=k) h];rfl
theorem licL_len (ds:List De) (P:De→Bool) (k:Nat):(licL ds P k).length≤k:=by
 unfold licL;rw [cW];have:=dK (fun j=>P (ds.getD j default)) (List.range k)
 simpa using this
theorem filter_head {P:Nat→Bool}:∀ {n:Nat},((List.range n).filter P=[]→∀ j,j<n→P j=false)∧∀ k t,(List.range n).filter P=k::t→k<n∧P k=true∧∀ j,j<k→P j=false
 | 0=>⟨fun _ j hj=>za,fun k t h=>by simp at h⟩
 | n+1=>by
  obtain ⟨h1,h2⟩:=filter_head (P:=P) (n:=n)
  constructor
  ·intro h j hj
   rw [dI,dJ,List.append_eq_nil_iff] at h
   rcases bQ j n with hh | hh
   ·exact h1 h.1 j hh
   ·obtain rfl:j=n:=by omega
    cases hp:P j with
    | false=>rfl
    | true=>have:=h.2;simp [hp] at this
  ·intro k t h
   rw [dI,dJ] at h
   cases hf:(List.range n).filter P with
   | nil =>
    rw [hf,List.nil_append] at h
    cases hp:P n with
    | false=>simp [hp] at h
    | true =>
     simp [hp] at h
     obtain ⟨rfl,rfl⟩:=h;exact ⟨za,hp,h1 hf⟩
   | cons a r =>
    rw [hf,List.cons_append] at h
    injection h with ha hr
    subst ha;obtain ⟨h3,h4,h5⟩:=h2 a r hf;exact ⟨za,h4,h5⟩
theorem licL_none {ds:List De} {P:De→Bool} (h:licL ds P ds.length=[]):ds.find? P=none:=by
 unfold licL at h;rw [List.map_eq_nil_iff] at h;have:=filter_head.1 h;rw [List.find?_eq_none];intro x hx;obtain ⟨j,hj,rfl⟩:=dH hx;have h1:=this j hj;rw [List.getD_eq_getElem?_getD,List.getElem?_eq_getElem hj,eB] at h1;rw [h1];simp
theorem licL_some {ds:List De} {P:De→Bool} {z:Int} {t:List Int} (h:licL ds P ds.length=z::t):∃ (k:Nat) (hk:k<ds.length),z=(k:Int)∧ds.find? P=some ds[k]:=by
 unfold licL at h
 cases hf:(List.range ds.length).filter fun j=>P (ds.getD j default) with
 | nil=>rw [hf] at h;cases h
 | cons k r =>
  rw [hf,dT] at h
  injection h with h1 _
  obtain ⟨h3,h4,h5⟩:=filter_head.2 k r hf;refine ⟨k,h3,h1.symm,?_⟩
  rw [List.find?_eq_some_iff_getElem];rw [List.getD_eq_getElem?_getD,List.getElem?_eq_getElem h3,eB] at h4;refine ⟨h4,k,h3,rfl,fun j hj=>?_⟩
  have h6:=h5 j hj;rw [List.getD_eq_getElem?_getD,List.getElem?_eq_getElem za,eB] at h6;rw [h6];rfl
def nextP (rs:List Rg) (ds:List De) (i:Nat) (use:BA) (day:Int) (th p:BA):Option BA:=(ds.find? (zCC rs ds i use day th p true)).map De.to_
def ctlN (nx:BA→Option BA):Nat→List BA→BA→BA
 | 0,_,p=>p
 | f+1,seen,p=>if memS seen p=true then p else match nx p with
  | none=>p
  | some q=>ctlN nx f (p::seen) q
def ctlF (rs:List Rg) (ds:List De) (i:Nat) (use:BA) (day:Int) (th ho:BA):BA:=ctlN (nextP rs ds i use day th) (ds.length+2) [] ho
structure CtlI (nx:BA→Option BA) (ps:List BA) (f:Nat) (seen:List BA) (p r:BA):Prop where
 eq:ctlN nx f seen p=r
 nd:seen.Nodup
 sub:∀ s∈seen,s∈ps
 inp:p∈ps
 fu:f+seen.length=ps.length+1
theorem nodup_len {α:Type} [DecidableEq α]:∀ {l r:List α},l.Nodup→(∀ x∈l,x∈r)→l.length≤r.length
 | [],_,_,_=>zd
 | a::l,r,hn,hs=>by
  obtain ⟨h1,h2⟩:=List.nodup_cons.1 hn;have ih:=nodup_len (l:=l) (r:=r.erase a) h2 fun x hx=>(List.mem_erase_of_ne fun (e:x=a)=>h1 (by rw [←e];exact hx)).2 (hs x (aP _ hx))
  have ha:=hs a aQ;have:=List.length_erase_of_mem ha;have:=List.length_pos_of_mem ha;simp only [aR];omega
theorem CtlI.pos {nx:BA→Option BA} {ps:List BA} {f:Nat} {seen:List BA} {p r:BA} (h:CtlI nx ps f seen p r):∃ g,f=g+1:=by
 have:=nodup_len h.nd h.sub;have:=h.fu;exact ⟨f - 1,za⟩
theorem CtlI.stop {nx:BA→Option BA} {ps:List BA} {f:Nat} {seen:List BA} {p r:BA} (h:CtlI nx ps f seen p r) (hp:memS seen p=true):r=p:=by
 obtain ⟨g,rfl⟩:=h.pos;rw [←h.eq,ctlN,aF hp]
theorem CtlI.none {nx:BA→Option BA} {ps:List BA} {f:Nat} {seen:List BA} {p r:BA} (h:CtlI nx ps f seen p r) (hp:memS seen p=false) (hn:nx p = .none):r=p:=by
 obtain ⟨g,rfl⟩:=h.pos;rw [←h.eq,ctlN,aD (by rw [hp];simp),hn]
theorem CtlI.next {nx:BA→Option BA} {ps:List BA} {f:Nat} {seen:List BA} {p q r:BA} (h:CtlI nx ps f seen p r) (hp:memS seen p=false) (hn:nx p=some q) (hq:q∈ps):0<f∧CtlI nx ps (f - 1) (p::seen) q r:=by
 obtain ⟨g,rfl⟩:=h.pos;refine ⟨za,⟨?_,List.nodup_cons.2 ⟨memS_false.1 hp,h.nd⟩,fun s hs=>?_,hq,?_⟩⟩
 ·rw [Nat.add_sub_cancel,←h.eq,ctlN,aD (by rw [hp];simp),hn]
 ·rcases List.mem_cons.1 hs with rfl | hs
  ·exact h.inp
  ·exact h.sub s hs
 ·have:=h.fu
  simp only [aR];omega
theorem ctlI_start (rs:List Rg) (ds:List De) (i:Nat) (use:BA) (day:Int) (th ho:BA):CtlI (nextP rs ds i use day th) (ho::ds.map De.to_) (ds.length+2) [] ho (ctlF rs ds i use day th ho) :=
 ⟨rfl,List.nodup_nil,fun s hs=>absurd hs zd,aQ,zd⟩
theorem nextP_mem {rs:List Rg} {ds:List De} {i:Nat} {use:BA} {day:Int} {th p q ho:BA} (h:nextP rs ds i use day th p=some q):q∈ho::ds.map De.to_:=by
 unfold nextP at h;obtain ⟨d,hd,rfl⟩:=Option.map_eq_some_iff.1 h;exact aP _ (eN (List.mem_of_find?_eq_some hd))
open Go.RowKit Dw
theorem wl_zero {n:Nat} (h:n=0):(zAd B32 n).length=0:=by rw [(zCw zAo).2 h];rfl
theorem wl_pos {n:Nat} (h:n≠0):(0:Int)<((zAd B32 n).length:Int):=by
 have:(zAd B32 n).length≠0:=fun e=>h ((zCw zAo).1 (List.length_eq_zero_iff.1 e))
 omega
theorem IMulN_c (A A2:Option Addr) (c c2 a b:Nat) (w:World) (h:Nt w A c a) (h2:Nt w A2 c2 b) (hn:(zAd B32 a).length≤400000000) (hm:(zAd B32 b).length≤400000000) :
  Calls Tryz.prog 76 #[inV true A c a,inV false A2 c2 b] w (GivesI (decide (a*b≠0)) (a*b) w):=by
 have HM:=zq (Mul_c A A2 c c2 a b (((w.alloc (.cells #[.bool true,.slice A (zAd B32 a).length c] 87)).alloc (.cells #[.bool false,.slice A2 (zAd B32 b).length c2] 87)).alloc (.cells #[.bool false,.slice none 0 0] 87)) (((h.alloc _).alloc _).alloc _) (((h2.alloc _).alloc _).alloc _) hn hm);obtain ⟨p,hp⟩:∃ p,p=a*b:=⟨_,rfl⟩;rw [←hp] at HM ⊢;clear hp
 cases hz:decide (p≠0)
 all_goals
  have hz':(p=0∨p≠0):=Classical.em _
  go_enter Tryz.func76,Tryz.ntmps76
  go_wp2_with fail
  with_reducible refine HM.o.mono ?_
  rintro e w1 ⟨A5,c5,rfl,h5,hb⟩;obtain ⟨hc,hf⟩:=bcellK hb;have hs3:w.heap.size+2<w1.heap.size:=qd;have c0:w1.cell? ⟨w.heap.size+1+1,0,none⟩=some (.bool false):=zk;have c1:w1.cell? ⟨w.heap.size+1+1,1,none⟩=some (.slice none 0 0):=zk;have HB:Hid (Below w.heap.size w w1):=((((aN w.heap.size w).alloc (aC _) _).alloc zd _).alloc ze _).trans (hb.mono ze)
 ·have h0:p=0:=by simpa using hz
  have hl:=wl_zero h0;have hl2:¬ (0:Int)<((zAd B32 p).length:Int):=za;clear hz hz' h0;go_wp2;refine dL (v:=inV false A5 c5 p) (by simp [results,Tryz.results76,go_sem,hc,hl]) rfl ⟨A5,c5,rfl,?_,?_⟩
  ·exact h5.set2 c0 c1 (nb_ _) (ns_ _ _ _) _ _
  ·exact (HB.o.setCell ze _).setCell ze _
 ·have h0:p≠0:=by simpa using hz
  have hl2:=wl_pos h0;have hl3:0<(zAd B32 p).length:=za;clear hz hz' h0;go_wp2;refine dL (v:=inV true A5 c5 p) (by simp [results,Tryz.results76,go_sem,hc]) rfl ⟨A5,c5,rfl,?_,?_⟩
  ·exact h5.set2 c0 c1 (nb_ _) (ns_ _ _ _) _ _
  ·exact (HB.o.setCell ze _).setCell ze _
theorem IAddN_c (A A2:Option Addr) (c c2 a b:Nat) (w:World) (h:Nt w A c a) (h2:Nt w A2 c2 b) (hn:(zAd B32 a).length≤400000000) (hba:b≤a) :
  Calls Tryz.prog 118 #[inV false A c a,inV true A2 c2 b] w (GivesI false (a - b) w):=by
 have HCM:=zq (fun W (q:Nt W A c a) (q2:Nt W A2 c2 b)=>Cmp_c A A2 c c2 a b W q q2 za)
 have HA:=zq (fun W (q:Nt W A c a) (q2:Nt W A2 c2 b)=>sub_c A A2 c c2 a b W q q2 za hba)
 rcases Nat.eq_or_lt_of_le hba with he | hl
 ·have hd:a - b=0:=by omega
  have hk:cmpN a b=0:=zDo he.symm;rw [hk] at HCM;rw [hd];clear hd hk he hba HA
  go_enter Tryz.func118,Tryz.ntmps118
  go_wp2_with fail
  with_reducible refine (HCM.o _ (((h.alloc _).alloc _).alloc _) (((h2.alloc _).alloc _).alloc _)).mono ?_
  rintro e w1 ⟨rfl,nd,rfl⟩;go_wp2;refine dL (v:=inV false none 0 0) (by simp [results,Tryz.results118,go_sem];rfl) rfl ⟨none,0,rfl,Nt.zero _,?_⟩
  exact ((zAc ((((aN w.heap.size w).alloc (aC _) _).alloc zd _).alloc ze _) nd).setCell (by first | (simp;omega) | omega) _).setCell (by first | (simp;omega) | omega) _
 ·have hk:cmpN a b=1:=zCF hl
  rw [hk] at HCM;clear hk hl hba;generalize a - b=p at *
  go_enter Tryz.func118,Tryz.ntmps118
  go_wp2_with fail
  with_reducible refine (HCM.o _ (((h.alloc _).alloc _).alloc _) (((h2.alloc _).alloc _).alloc _)).mono ?_
  rintro e w1 ⟨rfl,nd,rfl⟩;have g1:Nt ((((w.alloc (.cells #[.bool false,.slice A (zAd B32 a).length c] 87)).alloc (.cells #[.bool true,.slice A2 (zAd B32 b).length c2] 87)).alloc (.cells #[.bool false,.slice none 0 0] 87)).drewN (nd+1)) A c a:=(((h.alloc _).alloc _).alloc _).drewN _;have g2:Nt ((((w.alloc (.cells #[.bool false,.slice A (zAd B32 a).length c] 87)).alloc (.cells #[.bool true,.slice A2 (zAd B32 b).length c2] 87)).alloc (.cells #[.bool false,.slice none 0 0] 87)).drewN (nd+1)) A2 c2 b:=(((h2.alloc _).alloc _).alloc _).drewN _;have HB0:Hid (Below w.heap.size w ((((w.alloc (.cells #[.bool false,.slice A (zAd B32 a).length c] 87)).alloc (.cells #[.bool true,.slice A2 (zAd B32 b).length c2] 87)).alloc (.cells #[.bool false,.slice none 0 0] 87)).drewN (nd+1))):=zAc ((((aN w.heap.size w).alloc (aC _) _).alloc zd _).alloc ze _) (nd+1);have HBz:Hid (Bx ((((w.alloc (.cells #[.bool false,.slice A (zAd B32 a).length c] 87)).alloc (.cells #[.bool true,.slice A2 (zAd B32 b).length c2] 87)).alloc (.cells #[.bool false,.slice none 0 0] 87)).drewN (nd+1)) (w.heap.size+1+1) #[.bool false,.slice none 0 0] 87):=(Bx.new2 _ _ _ _ _).drewN _;have HBx:Hid (Bx ((((w.alloc (.cells #[.bool false,.slice A (zAd B32 a).length c] 87)).alloc (.cells #[.bool true,.slice A2 (zAd B32 b).length c2] 87)).alloc (.cells #[.bool false,.slice none 0 0] 87)).drewN (nd+1)) w.heap.size #[.bool false,.slice A (zAd B32 a).length c] 87):=(((Bx.new _ _ _).alloc _).alloc _).drewN _;have HBy:Hid (Bx ((((w.alloc (.cells #[.bool false,.slice A (zAd B32 a).length c] 87)).alloc (.cells #[.bool true,.slice A2 (zAd B32 b).length c2] 87)).alloc (.cells #[.bool false,.slice none 0 0] 87)).drewN (nd+1)) (w.heap.size+1) #[.bool true,.slice A2 (zAd B32 b).length c2] 87):=((Bx.new1 _ _ _ _).alloc _).drewN _;go_wp2
  go_region_held3 (fun w'=>w'.cell? ⟨w.heap.size,0,none⟩=some (.bool false)∧w'.cell? ⟨w.heap.size,1,none⟩=some (.slice A (zAd B32 a).length c)∧w'.cell? ⟨w.heap.size+1,1,none⟩=some (.slice A2 (zAd B32 b).length c2)) ((refine ⟨?_,?_,?_⟩<;>first | with_reducible assumption | go_simp))
   (first
    | ((go_at_call 170;(with_reducible refine (HA.o _ g1 g2).mono ?_);rintro e w1 ⟨A5,c5,rfl,h5,hb⟩;have HZ:=zq (HBz.o.below hb);have HB:=zq (zAa HB0.o hb);have HX:=zq (HBx.o.below hb);have HY:=zq (HBy.o.below hb);have x0:=HX.o.c 0 rfl;have x1:=HX.o.c 1 rfl;have y1:=HY.o.c 1 rfl;have r0:=HZ.o.c 0 rfl;have r1:=HZ.o.c 1 rfl;have fr:=HZ.o.frozen;have rl:=HZ.o.lt;clear hb)))
  go_wp2;refine dL (v:=inV false A5 c5 p) (by simp [results,Tryz.results118,go_sem,r0,r1]) rfl ⟨A5,c5,rfl,?_,?_⟩
  ·exact h5.set2 r0 r1 (nb_ _) (ns_ _ _ _) _ _
  ·exact (HB.o.setCell (by first | (simp;omega) | omega) _).setCell (by first | (simp;omega) | omega) _
abbrev raN (A:Option Addr) (c n:Nat) (A2:Option Addr) (c2 d:Nat):Array Value:=#[.bool true,.slice A (zAd B32 n).length c,.slice A2 (zAd B32 d).length c2]
def subP (p q:Nat×Nat):Nat×Nat:=zCN (p.1*q.2 - q.1*p.2) (p.2*q.2)
theorem subP_same (n m d:Nat) (h:0<d):subP (n,d) (m,d)=zCN (n - m) d:=by
 unfold subP
 show zCN (n*d - m*d) (d*d)=_
 rw [←Nat.sub_mul,aU,lowP_scale h]
theorem RAddN_same (A A2 A3 A4:Option Addr) (c c2 c3 c4 n d m e:Nat) (w:World) (h:Nt w A c n) (h2:Nt w A2 c2 d) (h3:Nt w A3 c3 m) (h4:Nt w A4 c4 e)
  (hn:(zAd B32 n).length≤100000000) (hd:(zAd B32 d).length≤100000000) (_hm:(zAd B32 m).length≤100000000) (he:(zAd B32 e).length≤100000000) (hd0:0<d) (he0:0<e) (_hm0:m≠0) (hle:m*d≤n*e) (hde:d=e) :
  Calls Tryz.prog 75 #[raV false A c n A2 c2 d,raV true A3 c3 m A4 c4 e] w (zCb false (subP (n,d) (m,e)).1 (subP (n,d) (m,e)).2 w):=by
 subst hde;rw [subP_same n m d hd0];have hle2:m≤n:=Nat.le_of_mul_le_mul_right hle hd0;have HC:=zq (fun W (x:Nt W A2 c2 d) (y:Nt W A4 c4 d)=>Cmp_c A2 A4 c2 c4 d d W x y za)
 have HA:=zq (fun W (x:Nt W A c n) (y:Nt W A3 c3 m)=>IAddN_c A A3 c c3 n m W x y za hle2)
 have HO:=zq (fun A5 c5 W (x:Nt W A5 c5 (n - m)) (y:Nt W A2 c2 d)=>Over_c A5 A2 c5 c2 (n - m) d false W x y hd0 (by have:=zAI zAo (Nat.sub_le n m);omega) za)
 rw [zDo rfl] at HC;simp only [Bool.false_and] at HO;generalize (zCN (n - m) d).1=pp at *;generalize (zCN (n - m) d).2=pq at *;clear hle hle2;generalize n - m=nm at *;have HX0:Hid (Bx (((w.alloc (.cells (raC A c n A2 c2 d) 89)).alloc (.cells (raN A3 c3 m A4 c4 d) 89)).alloc (.cells zBx 89)) w.heap.size (raC A c n A2 c2 d) 89):=((Bx.new _ _ _).alloc _).alloc _;have HY0:Hid (Bx (((w.alloc (.cells (raC A c n A2 c2 d) 89)).alloc (.cells (raN A3 c3 m A4 c4 d) 89)).alloc (.cells zBx 89)) (w.heap.size+1) (raN A3 c3 m A4 c4 d) 89):=(Bx.new1 _ _ _ _).alloc _;have HZ0:Hid (Bx (((w.alloc (.cells (raC A c n A2 c2 d) 89)).alloc (.cells (raN A3 c3 m A4 c4 d) 89)).alloc (.cells zBx 89)) (w.heap.size+1+1) zBx 89):=Bx.new2 _ _ _ _ _;have HB0:Hid (Below w.heap.size w (((w.alloc (.cells (raC A c n A2 c2 d) 89)).alloc (.cells (raN A3 c3 m A4 c4 d) 89)).alloc (.cells zBx 89))):=(((aN w.heap.size w).alloc (aC _) _).alloc zd _).alloc ze _;obtain ⟨W,hW⟩:∃ W,W=(((w.alloc (.cells (raC A c n A2 c2 d) 89)).alloc (.cells (raN A3 c3 m A4 c4 d) 89)).alloc (.cells zBx 89)):=⟨_,rfl⟩;have g1:Nt W A c n:=yc;have g2:Nt W A2 c2 d:=zy;have g3:Nt W A3 c3 m:=ya;have g4:Nt W A4 c4 d:=yb;rw [←hW] at HX0 HY0 HZ0 HB0;clear hn hd _hm he hd0 he0 _hm0
 go_enter Tryz.func75,Tryz.ntmps75
 go_wp2_with fail
 rw [←hW];clear hW;obtain ⟨x0,x1,x2⟩:=HX0.o.t;obtain ⟨y0,y1,y2⟩:=HY0.o.t;have z0:=HZ0.o.frozen;have z1:=HZ0.o.lt
 go_wp2_with fail
 with_reducible refine (HC.o _ g2 g4).mono ?_
 rintro e0 w0 ⟨rfl,nd,rfl⟩;clear x0 x1 x2 y0 y1 y2 z0 z1;have HX:=zq (HX0.o.drewN (nd+1));have HY:=zq (HY0.o.drewN (nd+1));have HZ:=zq (HZ0.o.drewN (nd+1));have HB:=zq (zAc HB0.o (nd+1));obtain ⟨x0,x1,x2⟩:=HX.o.t;obtain ⟨y0,y1,y2⟩:=HY.o.t;clear HX0 HY0 HZ0 HB0;go_wp2
 go_region_held3 (fun w'=>(w'.cell? ⟨w.heap.size,0,none⟩=some (.bool false)∧w'.cell? ⟨w.heap.size,1,none⟩=some (.slice A (zAd B32 n).length c)∧w'.cell? ⟨w.heap.size,2,none⟩=some (.slice A2 (zAd B32 d).length c2))∧(w'.cell? ⟨w.heap.size+1,0,none⟩=some (.bool true)∧w'.cell? ⟨w.heap.size+1,1,none⟩=some (.slice A3 (zAd B32 m).length c3)∧w'.cell? ⟨w.heap.size+1,2,none⟩=some (.slice A4 (zAd B32 d).length c4)))
  ((refine ⟨⟨?_,?_,?_⟩,?_,?_,?_⟩<;>first | with_reducible assumption | go_simp))
  (first
   | ((go_at_call 118;(with_reducible refine (HA.o _ (g1.drewN (nd+1)) (g3.drewN (nd+1))).mono ?_);rintro e1 w1 ⟨A5,c5,rfl,h5,hb1⟩;have HX1:=zq (HX.o.below hb1);have HY1:=zq (HY.o.below hb1);have HZ1:=zq (HZ.o.below hb1);have HB1:=zq (HB.o.trans (hb1.mono HB.o.size));have g21:=(g2.drewN (nd+1)).below hb1;obtain ⟨a0,a1,a2⟩:=HX1.o.t;obtain ⟨b0,b1,b2⟩:=HY1.o.t;clear hb1))
   | ((go_at_call 117;(with_reducible refine (HO.o _ _ _ h5 g21).mono ?_);rintro e2 w2 ⟨A6,c6,A7,c7,rfl,h6,h7,hb2⟩;have HX2:=zq (HX1.o.below hb2);have HY2:=zq (HY1.o.below hb2);have HZ2:=zq (HZ1.o.below hb2);have HB2:=zq (zAa HB1.o hb2);clear a0 a1 a2 b0 b1 b2;obtain ⟨a0,a1,a2⟩:=HX2.o.t;obtain ⟨b0,b1,b2⟩:=HY2.o.t;obtain ⟨r0,r1,r2⟩:=HZ2.o.t;have fr:=HZ2.o.frozen;have rl:=HZ2.o.lt;clear hb2)))
 clear HX HY HZ HB;go_wp2;refine dL (v:=raV false A6 c6 pp A7 c7 pq) yo rfl ⟨A6,c6,A7,c7,rfl,h6.setR HZ2.o _ _ _,h7.setR HZ2.o _ _ _,?_⟩
 exact ((HB2.o.setCell ze _).setCell ze _).setCell ze _
theorem RAddN_diff (A A2 A3 A4:Option Addr) (c c2 c3 c4 n d m e:Nat) (w:World) (h:Nt w A c n) (h2:Nt w A2 c2 d) (h3:Nt w A3 c3 m) (h4:Nt w A4 c4 e)
  (hn:(zAd B32 n).length≤100000000) (hd:(zAd B32 d).length≤100000000) (hm:(zAd B32 m).length≤100000000) (he:(zAd B32 e).length≤100000000) (hd0:0<d) (he0:0<e) (hm0:m≠0) (hle:m*d≤n*e) (hde:d≠e) :
  Calls Tryz.prog 75 #[raV false A c n A2 c2 d,raV true A3 c3 m A4 c4 e] w (zCb false (subP (n,d) (m,e)).1 (subP (n,d) (m,e)).2 w):=by
 have HC:=zq (fun W (x:Nt W A2 c2 d) (y:Nt W A4 c4 e)=>Cmp_c A2 A4 c2 c4 d e W x y za)
 have hk:(cmpN d e == 0)=false:=by
  rcases Nat.lt_or_gt_of_ne hde with h | h
  ·rw [zCy h];rfl
  ·rw [zCF h];rfl
 have l1:=zCz n e;have l2:=zCz m d;have l3:=zCz d e;have l4:=zAI zAo (Nat.sub_le (n*e) (m*d));have HM1:=zq (fun W (x:Nt W A c n) (y:Nt W A4 c4 e)=>IMul_c A A4 c c4 n e W x y za za)
 have HM2:=zq (fun W (x:Nt W A3 c3 m) (y:Nt W A2 c2 d)=>IMulN_c A3 A2 c3 c2 m d W x y za za)
 rw [show decide (m*d≠0)=true from cM (eO hm0 za)] at HM2
 have HM3:=zq (fun W (x:Nt W A2 c2 d) (y:Nt W A4 c4 e)=>Mul_c A2 A4 c2 c4 d e W x y za za)
 have HA:=zq (fun A5 c5 A6 c6 W (x:Nt W A5 c5 (n*e)) (y:Nt W A6 c6 (m*d))=>IAddN_c A5 A6 c5 c6 (n*e) (m*d) W x y za hle)
 have HO:=zq (fun A5 c5 A6 c6 W (x:Nt W A5 c5 (n*e - m*d)) (y:Nt W A6 c6 (d*e))=>Over_c A5 A6 c5 c6 (n*e - m*d) (d*e) false W x y (cZ hd0 he0) za za)
 simp only [Bool.false_and] at HO;have hap:subP (n,d) (m,e)=zCN (n*e - m*d) (d*e):=rfl;rw [hap];clear hap l1 l2 l3 l4 hle hm0;generalize (zCN (n*e - m*d) (d*e)).1=pp at *;generalize (zCN (n*e - m*d) (d*e)).2=pq at *;generalize n*e=p1 at *;generalize m*d=p2 at *;generalize d*e=p3 at *;generalize p1 - p2=p4 at *;generalize cmpN d e=cz at *;have HX0:Hid (Bx (((w.alloc (.cells (raC A c n A2 c2 d) 89)).alloc (.cells (raN A3 c3 m A4 c4 e) 89)).alloc (.cells zBx 89)) w.heap.size (raC A c n A2 c2 d) 89):=((Bx.new _ _ _).alloc _).alloc _;have HY0:Hid (Bx (((w.alloc (.cells (raC A c n A2 c2 d) 89)).alloc (.cells (raN A3 c3 m A4 c4 e) 89)).alloc (.cells zBx 89)) (w.heap.size+1) (raN A3 c3 m A4 c4 e) 89):=(Bx.new1 _ _ _ _).alloc _;have HZ0:Hid (Bx (((w.alloc (.cells (raC A c n A2 c2 d) 89)).alloc (.cells (raN A3 c3 m A4 c4 e) 89)).alloc (.cells zBx 89)) (w.heap.size+1+1) zBx 89):=Bx.new2 _ _ _ _ _;have HB0:Hid (Below w.heap.size w (((w.alloc (.cells (raC A c n A2 c2 d) 89)).alloc (.cells (raN A3 c3 m A4 c4 e) 89)).alloc (.cells zBx 89))):=(((aN w.heap.size w).alloc (aC _) _).alloc zd _).alloc ze _;obtain ⟨W,hW⟩:∃ W,W=(((w.alloc (.cells (raC A c n A2 c2 d) 89)).alloc (.cells (raN A3 c3 m A4 c4 e) 89)).alloc (.cells zBx 89)):=⟨_,rfl⟩;have g1:Nt W A c n:=yc;have g2:Nt W A2 c2 d:=zy;have g3:Nt W A3 c3 m:=ya;have g4:Nt W A4 c4 e:=yb;rw [←hW] at HX0 HY0 HZ0 HB0;clear hn hd hm he hd0 he0 hde
 go_enter Tryz.func75,Tryz.ntmps75
 go_wp2_with fail
 rw [←hW];clear hW;obtain ⟨x0,x1,x2⟩:=HX0.o.t;obtain ⟨y0,y1,y2⟩:=HY0.o.t;have z0:=HZ0.o.frozen;have z1:=HZ0.o.lt
 go_wp2_with fail
 with_reducible refine (HC.o _ g2 g4).mono ?_
 rintro e0 w0 ⟨rfl,nd,rfl⟩;clear x0 x1 x2 y0 y1 y2 z0 z1;have HX:=zq (HX0.o.drewN (nd+1));have HY:=zq (HY0.o.drewN (nd+1));have HZ:=zq (HZ0.o.drewN (nd+1));have HB:=zq (zAc HB0.o (nd+1));obtain ⟨x0,x1,x2⟩:=HX.o.t;obtain ⟨y0,y1,y2⟩:=HY.o.t;clear HX0 HY0 HZ0 HB0;go_wp2
 go_region_held3 (fun w'=>(w'.cell? ⟨w.heap.size,0,none⟩=some (.bool false)∧w'.cell? ⟨w.heap.size,1,none⟩=some (.slice A (zAd B32 n).length c)∧w'.cell? ⟨w.heap.size,2,none⟩=some (.slice A2 (zAd B32 d).length c2))∧(w'.cell? ⟨w.heap.size+1,0,none⟩=some (.bool true)∧w'.cell? ⟨w.heap.size+1,1,none⟩=some (.slice A3 (zAd B32 m).length c3)∧w'.cell? ⟨w.heap.size+1,2,none⟩=some (.slice A4 (zAd B32 e).length c4)))
  ((refine ⟨⟨?_,?_,?_⟩,?_,?_,?_⟩<;>first | with_reducible assumption | go_simp))
  (first
   | ((go_at_call 76;(with_reducible refine (HM1.o _ (g1.drewN (nd+1)) (g4.drewN (nd+1))).mono ?_);rintro e1 w1 ⟨A5,c5,rfl,h5,hb1⟩;have HX1:=zq (HX.o.below hb1);have HY1:=zq (HY.o.below hb1);have HZ1:=zq (HZ.o.below hb1);have HB1:=zq (HB.o.trans (hb1.mono HB.o.size));have g21:=(g2.drewN (nd+1)).below hb1;have g31:=(g3.drewN (nd+1)).below hb1;have g41:=(g4.drewN (nd+1)).below hb1;obtain ⟨a0,a1,a2⟩:=HX1.o.t;obtain ⟨b0,b1,b2⟩:=HY1.o.t;clear hb1))
   | ((go_at_call 76;(with_reducible refine (HM2.o _ g31 g21).mono ?_);rintro e2 w2 ⟨A6,c6,rfl,h6,hb2⟩;have HX2:=zq (HX1.o.below hb2);have HY2:=zq (HY1.o.below hb2);have HZ2:=zq (HZ1.o.below hb2);have HB2:=zq (zAa HB1.o hb2);have h52:=h5.below hb2;have g22:=g21.below hb2;have g42:=g41.below hb2;clear a0 a1 a2 b0 b1 b2;obtain ⟨a0,a1,a2⟩:=HX2.o.t;obtain ⟨b0,b1,b2⟩:=HY2.o.t;clear hb2))
   | ((go_at_call 118;(with_reducible refine (HA.o _ _ _ _ _ h52 h6).mono ?_);rintro e3 w3 ⟨A7,c7,rfl,h7,hb3⟩;have HX3:=zq (HX2.o.below hb3);have HY3:=zq (HY2.o.below hb3);have HZ3:=zq (HZ2.o.below hb3);have HB3:=zq (zAa HB2.o hb3);have g23:=g22.below hb3;have g43:=g42.below hb3;clear a0 a1 a2 b0 b1 b2;obtain ⟨a0,a1,a2⟩:=HX3.o.t;obtain ⟨b0,b1,b2⟩:=HY3.o.t;clear hb3))
   | ((go_at_call 119;(with_reducible refine (HM3.o _ g23 g43).mono ?_);rintro e4 w4 ⟨A8,c8,rfl,h8,hb4⟩;have HX4:=zq (HX3.o.below hb4);have HY4:=zq (HY3.o.below hb4);have HZ4:=zq (HZ3.o.below hb4);have HB4:=zq (zAa HB3.o hb4);have h74:=h7.below hb4;clear a0 a1 a2 b0 b1 b2;obtain ⟨a0,a1,a2⟩:=HX4.o.t;obtain ⟨b0,b1,b2⟩:=HY4.o.t;clear hb4))
   | ((go_at_call 117;(with_reducible refine (HO.o _ _ _ _ _ h74 h8).mono ?_);rintro e5 w5 ⟨A9,c9,AD,cE,rfl,h9,hF,hb5⟩;have HX5:=zq (HX4.o.below hb5);have HY5:=zq (HY4.o.below hb5);have HZ5:=zq (HZ4.o.below hb5);have HB5:=zq (zAa HB4.o hb5);clear a0 a1 a2 b0 b1 b2;obtain ⟨a0,a1,a2⟩:=HX5.o.t;obtain ⟨b0,b1,b2⟩:=HY5.o.t;obtain ⟨r0,r1,r2⟩:=HZ5.o.t;have fr:=HZ5.o.frozen;have rl:=HZ5.o.lt;clear hb5)))
 clear HX HY HZ HB;go_wp2;refine dL (v:=raV false A9 c9 pp AD cE pq) yo rfl ⟨A9,c9,AD,cE,rfl,h9.setR HZ5.o _ _ _,hF.setR HZ5.o _ _ _,?_⟩
 exact ((HB5.o.setCell ze _).setCell ze _).setCell ze _
theorem RAddN_c (A A2 A3 A4:Option Addr) (c c2 c3 c4 n d m e:Nat) (w:World) (h:Nt w A c n) (h2:Nt w A2 c2 d) (h3:Nt w A3 c3 m) (h4:Nt w A4 c4 e)
  (hn:(zAd B32 n).length≤100000000) (hd:(zAd B32 d).length≤100000000) (hm:(zAd B32 m).length≤100000000) (he:(zAd B32 e).length≤100000000) (hd0:0<d) (he0:0<e) (hm0:m≠0) (hle:m*d≤n*e) :
  Calls Tryz.prog 75 #[raV false A c n A2 c2 d,raV true A3 c3 m A4 c4 e] w (zCb false (subP (n,d) (m,e)).1 (subP (n,d) (m,e)).2 w):=by
 by_cases hde:d=e
 ·exact RAddN_same A A2 A3 A4 c c2 c3 c4 n d m e w h h2 h3 h4 hn hd hm he hd0 he0 hm0 hle hde
 ·exact RAddN_diff A A2 A3 A4 c c2 c3 c4 n d m e w h h2 h3 h4 hn hd hm he hd0 he0 hm0 hle hde
end Go.Proofs.YtieoifkdobcpiaaGreatDoor
