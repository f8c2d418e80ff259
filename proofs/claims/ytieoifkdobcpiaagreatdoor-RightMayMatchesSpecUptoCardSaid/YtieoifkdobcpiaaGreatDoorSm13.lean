/- Parts of the proof, joined: Package right (places): the rows of leaves that newWorld fills. Packag. -/
import Derived.Test.YtieoifkdobcpiaaGreatDoorSm12
set_option maxRecDepth 100000
set_option maxHeartbeats 8000000
namespace Go.Proofs.YtieoifkdobcpiaaGreatDoor
open Go.RowKit Dw
abbrev encI:Int→List Value:=fun z=>[.int .i64 z]
def zCu (l:List Rg) (k:Nat):List Nat:=(List.range k).filter fun i=>!zAL l i
theorem leafTo_par {l:List Rg} {k:Nat} (h:zAL l k=true):zCu l (k+1)=zCu l k:=by
 unfold zCu;rw [zCm];simp [h]
theorem leafTo_leaf {l:List Rg} {k:Nat} (h:zAL l k=false):zCu l (k+1)=zCu l k++[k]:=by
 unfold zCu;rw [zCm];simp [h]
theorem leafTo_le (l:List Rg) (k:Nat):(zCu l k).length≤k:=by
 unfold zCu;have:=dX (fun i=>!zAL l i) (List.range k)
 simpa using this
def lmF (l:List Rg):Nat→BA→Option Value
 | 0,_=>none
 | k+1,s=>if zAL l k then lmF l k s else if s=nmAt l k then some (.int .i64 ((zCu l k).length:Int)) else lmF l k s
def zBL (l:List Rg) (k x:Nat):List Int:=((zCu l k).zipIdx.filter fun p=>under l p.1 x).map fun p=>(p.2:Int)
theorem belowK_par {l:List Rg} {k:Nat} (h:zAL l k=true) (x:Nat):zBL l (k+1) x=zBL l k x:=by
 unfold zBL;rw [leafTo_par h]
theorem belowK_leaf {l:List Rg} {k:Nat} (h:zAL l k=false) (x:Nat):zBL l (k+1) x=zBL l k x++if under l k x then [((zCu l k).length:Int)] else []:=by
 unfold zBL;rw [leafTo_leaf h,List.zipIdx_append,dW,eQ]
 congr 1
 cases hu:under l k x<;>simp [hu]
theorem belowK_le (l:List Rg) (k x:Nat):(zBL l k x).length≤k:=by
 unfold zBL;rw [aM];refine dI (dX _ _) ?_
 rw [List.length_zipIdx];exact leafTo_le l k
theorem underF_upN {l:List Rg}:∀ {f i k:Nat},zCO l f i k=true→∃ d,upN l d i=some k
 | 0,_,_,h=>by simp [zCO] at h
 | f+1,i,k,h=>by
  rw [zCO] at h
  by_cases e:i=k
  ·exact ⟨0,by simp [upN,e]⟩
  ·cases hu:up l i with
   | none=>rw [hu] at h;simp [e] at h
   | some j =>
    rw [hu] at h;have h':zCO l f j k=true:=by simpa [e] using h
    obtain ⟨d,hd⟩:=underF_upN h';exact ⟨d+1,by rw [upN,hu];exact hd⟩
theorem upN_underF {l:List Rg}:∀ {f i k d:Nat},upN l f i=none→upN l d i=some k→zCO l f i k=true
 | 0,_,_,_,h,_=>by simp [upN] at h
 | f+1,i,k,0,_,h=>by
  have:i=k:=by simpa [upN] using h
  subst this;simp [zCO]
 | f+1,i,k,d+1,h,hd=>by
  rw [upN] at h hd
  cases hu:up l i with
  | none=>rw [hu] at hd;cases hd
  | some j =>
   rw [hu] at h hd;have:=upN_underF h hd;rw [zCO,hu];simp [this]
theorem not_under_up {l:List Rg} (g:GoodR l) {y y' f:Nat} (hy:y<l.length) (hu:up l y=some y'):zCO l f y' y=false:=by
 cases h:zCO l f y' y with
 | false=>rfl
 | true =>
  exfalso
  obtain ⟨d,hd⟩:=underF_upN h;have e:upN l (d+1) y=some y:=by rw [upN,hu];exact hd
  have h1:=g.ends y hy;have h2:=zDN e (l.length+2)
  rw [zBP h1 (by
   have:1*(l.length+2)≤(d+1)*(l.length+2):=aP _ za;omega)] at h2
  cases h2
structure RowsI (w:World) (B g1 n:Nat) (bl:Array Value) (R:Nat→List Int):Prop where
 size:bl.size=n
 own:∀ (x:Nat) (v:Value),bl[x]?=some v→zAT encI 1 w B 3 v (R x)
 ne1:∀ (x:Nat) (v:Value),bl[x]?=some v→v.ownBlock≠some g1
 sep:∀ (x y:Nat) (v u:Value),x≠y→bl[x]?=some v→bl[y]?=some u→v.ownBlock=none∨v.ownBlock≠u.ownBlock
theorem own_keepT {α:Type} {enc:α→List Value} {k:Nat} {w w':World} {base:Nat} {e:TypeId} {v:Value} {l:List α} (h:zAT enc k w base e v l) (hk:∀ (g:Nat) (cs:Array Value),w.heap[g]?=some (.cells cs e (0,0))→w'.heap[g]?=w.heap[g]?):zAT enc k w' base e v l:=by
 refine ⟨h.1,?_⟩
 rcases h.2 with hn | ⟨g,cap,cur,rfl,hb,hgg,rest⟩
 ·exact .inl hn
 ·exact .inr ⟨g,cap,cur,rfl,hb,(hk g cur hgg).trans hgg,rest⟩
theorem zBA {α:Type} {enc:α→List Value} {k:Nat} {w:World} {base:Nat} {e:TypeId} {v:Value} {l:List α} (h:zAT enc k w base e v l) {g:Nat} (hg:v.ownBlock=some g):base≤g∧∃ cs,w.heap[g]?=some (.cells cs e (0,0)):=by
 rcases h.2 with ⟨rfl,_⟩ | ⟨g',cap,cur,rfl,hb,hgg,rest⟩
 ·simp [Value.ownBlock] at hg
 ·have:g'=g:=by simpa [Value.ownBlock] using hg
  subst this;exact ⟨hb,cur,hgg⟩
section
variable {w w':World} {B g1 n:Nat} {bl:Array Value} {R:Nat→List Int}
theorem RowsI.nil (w:World) (B g1 n:Nat):RowsI w B g1 n (Array.replicate n zAp) (fun _=>[]) where
 size:=ze
 own x v h:=by
  rw [Array.getElem?_replicate] at h
  split at h
  ·injection h with h;subst h;exact zAT.nil _ _ _ _ _
  ·cases h
 ne1 x v h:=by
  rw [Array.getElem?_replicate] at h
  split at h
  ·injection h with h;subst h;simp [Value.ownBlock]
  ·cases h
 sep x y v u _ h _:=by
  rw [Array.getElem?_replicate] at h
  split at h
  ·injection h with h;subst h;exact .inl rfl
  ·cases h
theorem RowsI.keepT (h:RowsI w B g1 n bl R) (hk:∀ (g:Nat) (cs:Array Value),w.heap[g]?=some (.cells cs 3 (0,0))→w'.heap[g]?=w.heap[g]?):RowsI w' B g1 n bl R :=
 ⟨h.size,fun x v hv=>own_keepT (h.own x v hv) hk,h.ne1,h.sep⟩
theorem RowsI.congr {R':Nat→List Int} (h:RowsI w B g1 n bl R) (hR:∀ x,x<n→R x=R' x):RowsI w B g1 n bl R' :=
 ⟨h.size,fun x v hv=>by
  have hx:x<n:=by rw [←h.size];exact (Array.getElem?_eq_some_iff.1 hv).1
  rw [←hR x hx];exact h.own x v hv,h.ne1,h.sep⟩
theorem RowsI.alloc (h:RowsI w B g1 n bl R) (o:Obj):RowsI (w.alloc o) B g1 n bl R:=h.keepT fun _ _ hg=>eA w o _ (Array.getElem?_eq_some_iff.1 hg).1
theorem RowsI.push (h:RowsI w B g1 n bl R) {y:Nat} {v v':Value} {m:Int} (hy:bl[y]?=some v) (hg1:g1<w.heap.size) (hg:w.grownBy w' v.ownBlock) (ho:zAT encI 1 w' B 3 v' (R y++[m])) (hat:v'.ownBlock=v.ownBlock∨v'.ownBlock=some w.heap.size) :
  RowsI w' B g1 n (bl.setIfInBounds y v') (fun x=>if x=y then R y++[m] else R x):=by
 have hyl:y<bl.size:=(Array.getElem?_eq_some_iff.1 hy).1
 have hlt:∀ (x:Nat) (u:Value),bl[x]?=some u→∀ k,u.ownBlock=some k→k<w.heap.size:=fun x u hu k hk=>by
  obtain ⟨_,cs,hcs⟩:=zBA (h.own x u hu) hk;exact (Array.getElem?_eq_some_iff.1 hcs).1
 have hget:∀ (x:Nat) (u:Value),(bl.setIfInBounds y v')[x]?=some u→(x=y∧u=v')∨(x≠y∧bl[x]?=some u):=fun x u hu=>by
  rw [Array.getElem?_setIfInBounds] at hu
  by_cases e:y=x
  ·rw [aE e,aE hyl] at hu
   injection hu with hu
   exact .inl ⟨e.symm,hu.symm⟩
  ·rw [aC e] at hu
   exact .inr ⟨fun e'=>e e'.symm,hu⟩
 refine ⟨by simp [h.size],fun x u hu=>?_,fun x u hu=>?_,fun x z u t hxz hu ht=>?_⟩
 ·rcases hget x u hu with ⟨rfl,rfl⟩ | ⟨hne,hu'⟩
  ·simpa using ho
  ·simp only [hne,eD]
   exact (h.own x u hu').grown hg (h.sep x y u v hne hu' hy)
 ·rcases hget x u hu with ⟨rfl,rfl⟩ | ⟨hne,hu'⟩
  ·rcases hat with e | e
   ·rw [e];exact h.ne1 _ _ hy
   ·rw [e];intro e2;injection e2 with e2;omega
  ·exact h.ne1 x u hu'
 ·rcases hget x u hu with ⟨rfl,rfl⟩ | ⟨hne,hu'⟩
  ·rcases hget z t ht with ⟨rfl,rfl⟩ | ⟨hne2,ht'⟩
   ·exact absurd rfl hxz
   ·rcases hat with e | e
    ·rw [e];exact h.sep _ _ _ _ (Ne.symm hne2) hy ht'
    ·right
     rw [e];intro e2;have:=hlt z t ht' _ e2.symm;omega
  ·rcases hget z t ht with ⟨rfl,rfl⟩ | ⟨hne2,ht'⟩
   ·rcases hat with e | e
    ·rw [e];exact h.sep _ _ _ _ hne hu' hy
    ·right
     rw [e];intro e2;have:=hlt x u hu' _ e2;omega
   ·exact h.sep x z u t hxz hu' ht'
end
structure J2 (w0:World) (B s g2 n y:Nat) (M:Int) (v:Value) (L:List Int) (done:Nat→Bool) (vals:Nat→Value) (w:World):Prop where
 d0:done 0=true→vals 0 = .pointer (some ⟨s,5,none⟩)
 d1:done 1=true→vals 1=slAt g2 n
 d2:done 2=true→vals 2 = .int .i64 (y:Int)
 d3:done 3=true→vals 3 = .pointer (some ⟨s,5,none⟩)
 d4:done 4=true→vals 4=slAt g2 n
 d5:done 5=true→vals 5 = .int .i64 (y:Int)
 d6:done 6=true→vals 6 = .pointer (some ⟨g2,y,none⟩)
 d7:done 7=true→vals 7=v
 d8:done 8=true→vals 8 = .int .i64 M
 d9:done 9=true→vals 9 = .slice (some ⟨w0.heap.size,0,none⟩) 1 1
 d11:done 11=true→vals 11 = .pointer (some ⟨g2,y,none⟩)
 d10':done 10=true→done 9=true
 d12':done 12=true→∀ j,j<12→done j=true
 w9:done 9=false→w=w0.drew
 w10:done 9=true→done 10=false→w=(w0.alloc (.cells #[.int .i64 M] 3)).drew
 w12:done 10=true→∃ A' c' wA,vals 10 = .slice A' (L.length+1) c'∧zAT encI 1 wA B 3 (.slice A' (L.length+1) c') (L++[M])∧(w0.alloc (.cells #[.int .i64 M] 3)).grownBy wA v.ownBlock ∧
  ((Value.slice A' (L.length+1) c').ownBlock=v.ownBlock∨(Value.slice A' (L.length+1) c').ownBlock=some (w0.heap.size+1))∧(done 12=false→w=wA)∧(done 12=true→w=wA.setCell ⟨g2,y,none⟩ (.slice A' (L.length+1) c'))
theorem J2.keep {w0 w:World} {B s g2 n y:Nat} {M:Int} {v:Value} {L:List Int} {done:Nat→Bool} {vals:Nat→Value} (h:J2 w0 B s g2 n y M v L done vals w) (h12:done 12=false) {p:Addr} (hp:p.block<w0.heap.size) (hne:v.ownBlock≠some p.block) :
  w.heap[p.block]?=w0.heap[p.block]?∧w0.heap.size≤w.heap.size:=by
 cases h9:done 9 with
 | false=>rw [h.w9 h9];exact ⟨rfl,aB _⟩
 | true =>
  cases h10:done 10 with
  | false =>
   rw [h.w10 h9 h10];exact ⟨eA w0 _ _ hp,ze⟩
  | true =>
   obtain ⟨A',c',wA,_,_,hg,_,hw,_⟩:=h.w12 h10;rw [hw h12];exact ⟨(hg.block _ zg (fun e=>hne e.symm)).trans (eA w0 _ _ hp),by have:=hg.size;simp at this;omega⟩
theorem J2.pure {w0 w:World} {B s g2 n y:Nat} {M:Int} {v:Value} {L:List Int} {done:Nat→Bool} {vals:Nat→Value} (h:J2 w0 B s g2 n y M v L done vals w) {i:Nat} {u:Value} (hi:i≠9∧i≠10∧i≠12)
  (hu:(i=0→u = .pointer (some ⟨s,5,none⟩))∧(i=1→u=slAt g2 n)∧(i=2→u = .int .i64 (y:Int))∧(i=3→u = .pointer (some ⟨s,5,none⟩))∧(i=4→u=slAt g2 n)∧(i=5→u = .int .i64 (y:Int))∧(i=6→u = .pointer (some ⟨g2,y,none⟩))∧(i=7→u=v)∧(i=8→u = .int .i64 M)∧(i=11→u = .pointer (some ⟨g2,y,none⟩))) (hd:done i=false) :
  J2 w0 B s g2 n y M v L (zBV done i true) (zBV vals i u) w:=by
 obtain ⟨n9,n10,n12⟩:=hi;obtain ⟨u0,u1,u2,u3,u4,u5,u6,u7,u8,u11⟩:=hu;have e9:zBV done i true 9=done 9:=zAb _ _ (Ne.symm n9);have e10:zBV done i true 10=done 10:=zAb _ _ (Ne.symm n10);have e12:zBV done i true 12=done 12:=zAb _ _ (Ne.symm n12)
 have step:∀ {j:Nat} {c:Value},(done j=true→vals j=c)→(i=j→u=c)→zBV done i true j=true→zBV vals i u j=c:=fun {j c} h1 h2 h3=>by
  by_cases e:j=i
  ·subst e;rw [zAF];exact h2 rfl
  ·rw [zAb _ _ e] at h3 ⊢;exact h1 h3
 exact {
  d0:=step h.d0 u0
  d1:=step h.d1 u1
  d2:=step h.d2 u2
  d3:=step h.d3 u3
  d4:=step h.d4 u4
  d5:=step h.d5 u5
  d6:=step h.d6 u6
  d7:=step h.d7 u7
  d8:=step h.d8 u8
  d9:=fun hh=>by rw [e9] at hh;rw [zAb _ _ (Ne.symm n9)];exact h.d9 hh
  d11:=step h.d11 u11
  d10':=fun hh=>by rw [e10] at hh;rw [e9];exact h.d10' hh
  d12':=fun hh=>by
   rw [e12] at hh;intro j hj
   by_cases e:j=i
   ·subst e;exact zAF _ _ _
   ·rw [zAb _ _ e];exact h.d12' hh j hj
  w9:=fun hh=>by rw [e9] at hh;exact h.w9 hh
  w10:=fun hh hh'=>by rw [e9] at hh;rw [e10] at hh';exact h.w10 hh hh'
  w12:=fun hh=>by
   rw [e10] at hh;obtain ⟨A',c',wA,h1,h2,h3,h4,h5,h6⟩:=h.w12 hh;exact ⟨A',c',wA,by rw [zAb _ _ (Ne.symm n10)];exact h1,h2,h3,h4,fun hx=>h5 (by rw [e12] at hx;exact hx),fun hx=>h6 (by rw [e12] at hx;exact hx)⟩ }
theorem region26 {ops:Array Oper} {Q:Exit→Act→World→Prop} {a0:Act} {w0:World} {id B s g2 n y:Nat} {M:Int} {Av:Option Addr} {cv:Nat} {L:List Int} (hL:L.length≤200) (hy:y<n) (hsz:ops.size=13) (hap:apartB ops=true) (hb:backB ops=true)
  (hk3:notDst ops 3=true) (hk11:notDst ops 11=true) (hk12:notDst ops 12=true) (ha3:a0.eval (.tmp 3) = .pointer (some ⟨s,0,none⟩)) (ha11:a0.eval (.tmp 11) = .int .i64 M) (ha12:a0.eval (.tmp 12) = .int .i64 (y:Int)) (has:115<a0.tmps.size)
  (hcs:w0.cell? ⟨s,5,none⟩=some (slAt g2 n)) (hcg:w0.cell? ⟨g2,y,none⟩=some (.slice Av L.length cv)) (hfg:w0.frozen? ⟨g2,y,none⟩=false) (hown:zAT encI 1 w0 B 3 (.slice Av L.length cv) L) (hB:B≤w0.heap.size)
  (hns:(Value.slice Av L.length cv).ownBlock≠some s) (hng:(Value.slice Av L.length cv).ownBlock≠some g2)
  (o0:∃ ty ps af,ops[0]?=some ⟨some 104,.fieldAddr 108 (.tmp 3) 5,ty,ps,af,none⟩)
  (o1:∃ ty ps af,ops[1]?=some ⟨some 105,.load 66 (.tmp 104),ty,ps,af,none⟩)
  (o2:∃ ty ps af,ops[2]?=some ⟨some 106,.move (.tmp 12),ty,ps,af,none⟩)
  (o3:∃ ty ps af,ops[3]?=some ⟨some 107,.fieldAddr 108 (.tmp 3) 5,ty,ps,af,none⟩)
  (o4:∃ ty ps af,ops[4]?=some ⟨some 108,.load 66 (.tmp 107),ty,ps,af,none⟩)
  (o5:∃ ty ps af,ops[5]?=some ⟨some 109,.move (.tmp 12),ty,ps,af,none⟩)
  (o6:∃ ty ps af,ops[6]?=some ⟨some 110,.indexAddr 66 (.tmp 108) (.tmp 109),ty,ps,af,none⟩)
  (o7:∃ ty ps af,ops[7]?=some ⟨some 111,.load 27 (.tmp 110),ty,ps,af,none⟩)
  (o8:∃ ty ps af,ops[8]?=some ⟨some 112,.move (.tmp 11),ty,ps,af,none⟩)
  (o9:∃ ty ps af,ops[9]?=some ⟨some 113,.buildSlice 27 1 #[(0,.tmp 112)],ty,ps,af,none⟩)
  (o10:∃ ty ps af,ops[10]?=some ⟨some 114,.call { callee:=.builtin .append,args:=#[.tmp 111,.tmp 113],argTypes:=#[27,27] },ty,ps,af,none⟩)
  (o11:∃ ty ps af,ops[11]?=some ⟨some 115,.indexAddr 66 (.tmp 105) (.tmp 106),ty,ps,af,none⟩)
  (o12:∃ ty ps af,ops[12]?=some ⟨none,.store 27 (.tmp 115) (.tmp 114),ty,ps,af,none⟩)
  (e10:depB ops 1 0=true) (e43:depB ops 4 3=true) (e64:depB ops 6 4=true) (e65:depB ops 6 5=true) (e76:depB ops 7 6=true) (e98:depB ops 9 8=true) (e107:depB ops 10 7=true) (e109:depB ops 10 9=true) (e111:depB ops 11 1=true) (e112:depB ops 11 2=true)
  (e12:((List.range 12).all fun j=>depB ops 12 j)=true)
  (hK:∀ (A':Option Addr) (c':Nat) (wA:World) (vals:Nat→Value),zAT encI 1 wA B 3 (.slice A' (L.length+1) c') (L++[M])→(w0.alloc (.cells #[.int .i64 M] 3)).grownBy wA (Value.slice Av L.length cv).ownBlock →
   ((Value.slice A' (L.length+1) c').ownBlock=(Value.slice Av L.length cv).ownBlock∨(Value.slice A' (L.length+1) c').ownBlock=some (w0.heap.size+1)) →
   vals 0 = .pointer (some ⟨s,5,none⟩)→vals 1=slAt g2 n→vals 2 = .int .i64 (y:Int)→vals 3 = .pointer (some ⟨s,5,none⟩)→vals 4=slAt g2 n→vals 5 = .int .i64 (y:Int)→vals 6 = .pointer (some ⟨g2,y,none⟩)→vals 7 = .slice Av L.length cv→vals 8 = .int .i64 M →
   vals 9 = .slice (some ⟨w0.heap.size,0,none⟩) 1 1→vals 10 = .slice A' (L.length+1) c'→vals 11 = .pointer (some ⟨g2,y,none⟩)→Q .normal (zAk ops vals (List.range 13) a0) (wA.setCell ⟨g2,y,none⟩ (.slice A' (L.length+1) c'))) :
  (Code.region id ops true).wp Tryz.prog Q a0 w0:=by
 have hAp:=apart_of hap;have hsl:s<w0.heap.size:=World.block_lt_of_cell? w0 _ hcs;have hgl:g2<w0.heap.size:=World.block_lt_of_cell? w0 _ hcg;refine zEo zc hAp hb (fun _=>undef) (J2 w0 B s g2 n y M (.slice Av L.length cv) L) ?_ ?_ ?_
 ·exact ⟨ze,ze,ze,ze,ze,ze,ze,ze,ze,ze,ze,ze,ze,fun _=>rfl,ze,ze⟩
 ·intro i done vals w1 hi hJ hd hdep
  rw [hsz] at hi
  have h12:i≠12→done 12=false:=fun hne=>by
   cases h:done 12 with
   | false=>rfl
   | true=>rw [hJ.d12' h i za] at hd;cases hd
  have hc5:i≠12→w1.cell? ⟨s,5,none⟩=some (slAt g2 n):=fun hne=>by
   rw [←hcs];exact World.cell?_of_block (hJ.keep (h12 hne) (p:=⟨s,5,none⟩) hsl hns).1
  have hcy:i≠12→w1.cell? ⟨g2,y,none⟩=some (.slice Av L.length cv):=fun hne=>by
   rw [←hcg];exact World.cell?_of_block (hJ.keep (h12 hne) (p:=⟨g2,y,none⟩) hgl hng).1
  have hidx:(Instr.indexAt 66 (slAt g2 n) (.int .i64 (y:Int))).run Tryz.prog w1 = .ok (.pointer (some ⟨g2,y,none⟩)) w1:=by
   have hi:(0:Int)≤(y:Int)∧(y:Int)<(n:Int):=za;simp [go_sem,hi]
  have hfld:(Instr.fieldAt 108 (.pointer (some ⟨s,0,none⟩)) 5).run Tryz.prog w1 = .ok (.pointer (some ⟨s,5,none⟩)) w1:=by
   simp [go_sem]
  have hev3:(zAk ops vals (zAO ops.size done) a0).eval (.tmp 3) = .pointer (some ⟨s,0,none⟩):=(eval_kept hk3).trans ha3;have hev11:(zAk ops vals (zAO ops.size done) a0).eval (.tmp 11) = .int .i64 M:=(eval_kept hk11).trans ha11;have hev12:(zAk ops vals (zAO ops.size done) a0).eval (.tmp 12) = .int .i64 (y:Int):=(eval_kept hk12).trans ha12
  match i,hi with
  | 0,_ =>
   obtain ⟨ty,ps,af,ho⟩:=o0;exact zAq ho rfl (v:=.pointer (some ⟨s,5,none⟩)) (w':=w1) (by simp [execOp,hev3,hfld]) ⟨_,zu,hJ.pure zd ze hd⟩
  | 1,_ =>
   obtain ⟨ty,ps,af,ho⟩:=o1;have q:=zBq e10 hdep
   have ev:(zAk ops vals (zAO ops.size done) a0).eval (.tmp 104) = .pointer (some ⟨s,5,none⟩):=by
    obtain ⟨ty',ps',af',ho'⟩:=o0;rw [zAv hAp (a:=a0) (j:=0) (d:=104) za zv q (bE (m:=115) zd has),hJ.d0 q]
   have hld:(Instr.loadAt 66 (.pointer (some ⟨s,5,none⟩))).run Tryz.prog w1 = .ok (slAt g2 n) w1:=by simp [go_sem,hc5 zd]
   exact zAq ho rfl (v:=slAt g2 n) (w':=w1) (by simp [execOp,ev,hld]) ⟨_,zu,hJ.pure zd ze hd⟩
  | 2,_ =>
   obtain ⟨ty,ps,af,ho⟩:=o2;exact zAq ho rfl (v:=.int .i64 (y:Int)) (w':=w1) (by simp [execOp,hev12]) ⟨_,zu,hJ.pure zd ze hd⟩
  | 3,_ =>
   obtain ⟨ty,ps,af,ho⟩:=o3;exact zAq ho rfl (v:=.pointer (some ⟨s,5,none⟩)) (w':=w1) (by simp [execOp,hev3,hfld]) ⟨_,zu,hJ.pure zd ze hd⟩
  | 4,_ =>
   obtain ⟨ty,ps,af,ho⟩:=o4;have q:=zBq e43 hdep
   have ev:(zAk ops vals (zAO ops.size done) a0).eval (.tmp 107) = .pointer (some ⟨s,5,none⟩):=by
    obtain ⟨ty',ps',af',ho'⟩:=o3;rw [zAv hAp (a:=a0) (j:=3) (d:=107) za zv q (bE (m:=115) zd has),hJ.d3 q]
   have hld:(Instr.loadAt 66 (.pointer (some ⟨s,5,none⟩))).run Tryz.prog w1 = .ok (slAt g2 n) w1:=by simp [go_sem,hc5 zd]
   exact zAq ho rfl (v:=slAt g2 n) (w':=w1) (by simp [execOp,ev,hld]) ⟨_,zu,hJ.pure zd ze hd⟩
  | 5,_ =>
   obtain ⟨ty,ps,af,ho⟩:=o5;exact zAq ho rfl (v:=.int .i64 (y:Int)) (w':=w1) (by simp [execOp,hev12]) ⟨_,zu,hJ.pure zd ze hd⟩
  | 6,_ =>
   obtain ⟨ty,ps,af,ho⟩:=o6;have q4:=zBq e64 hdep;have q5:=zBq e65 hdep
   have ev4:(zAk ops vals (zAO ops.size done) a0).eval (.tmp 108)=slAt g2 n:=by
    obtain ⟨ty',ps',af',ho'⟩:=o4;rw [zAv hAp (a:=a0) (j:=4) (d:=108) za zv q4 (bE (m:=115) zd has),hJ.d4 q4]
   have ev5:(zAk ops vals (zAO ops.size done) a0).eval (.tmp 109) = .int .i64 (y:Int):=by
    obtain ⟨ty',ps',af',ho'⟩:=o5;rw [zAv hAp (a:=a0) (j:=5) (d:=109) za zv q5 (bE (m:=115) zd has),hJ.d5 q5]
   exact zAq ho rfl (v:=.pointer (some ⟨g2,y,none⟩)) (w':=w1) (by simp [execOp,ev4,ev5,hidx]) ⟨_,zu,hJ.pure zd ze hd⟩
  | 7,_ =>
   obtain ⟨ty,ps,af,ho⟩:=o7;have q:=zBq e76 hdep
   have ev:(zAk ops vals (zAO ops.size done) a0).eval (.tmp 110) = .pointer (some ⟨g2,y,none⟩):=by
    obtain ⟨ty',ps',af',ho'⟩:=o6;rw [zAv hAp (a:=a0) (j:=6) (d:=110) za zv q (bE (m:=115) zd has),hJ.d6 q]
   have hld:(Instr.loadAt 27 (.pointer (some ⟨g2,y,none⟩))).run Tryz.prog w1 = .ok (.slice Av L.length cv) w1:=by simp [go_sem,hcy zd]
   exact zAq ho rfl (v:=.slice Av L.length cv) (w':=w1) (by simp [execOp,ev,hld]) ⟨_,zu,hJ.pure zd ze hd⟩
  | 8,_ =>
   obtain ⟨ty,ps,af,ho⟩:=o8;exact zAq ho rfl (v:=.int .i64 M) (w':=w1) (by simp [execOp,hev11]) ⟨_,zu,hJ.pure zd ze hd⟩
  | 9,_ =>
   obtain ⟨ty,ps,af,ho⟩:=o9;have q:=zBq e98 hdep
   have ev:(zAk ops vals (zAO ops.size done) a0).eval (.tmp 112) = .int .i64 M:=by
    obtain ⟨ty',ps',af',ho'⟩:=o8;rw [zAv hAp (a:=a0) (j:=8) (d:=112) za zv q (bE (m:=115) zd has),hJ.d8 q]
   have hw:=hJ.w9 hd
   have h10:done 10=false:=by
    cases h:done 10 with
    | false=>rfl
    | true=>rw [hJ.d10' h] at hd;cases hd
   have hbs:(Instr.buildSlice 27 1 #[(0,.int .i64 M)]).run Tryz.prog w1 = .ok (.slice (some ⟨w1.heap.size,0,none⟩) 1 1) (w1.alloc (.cells #[.int .i64 M] 3)):=zc;refine zAq ho rfl (v:=.slice (some ⟨w1.heap.size,0,none⟩) 1 1) (w':=w1.alloc (.cells #[.int .i64 M] 3)) (by simp [execOp,ev,hbs]) ⟨_,zu,?_⟩
   subst hw;have ne:∀ {j:Nat},j≠9→zBV done 9 true j=done j:=fun hj=>zAb _ _ hj
   have nv:∀ {j:Nat} {u:Value},j≠9→zBV vals 9 u j=vals j:=fun hj=>zAb _ _ hj
   exact {
    d0:=fun hh=>qt
    d1:=fun hh=>qu
    d2:=fun hh=>qw
    d3:=fun hh=>qx
    d4:=fun hh=>qy
    d5:=fun hh=>qz
    d6:=fun hh=>ja
    d7:=fun hh=>jb
    d8:=fun hh=>jc
    d9:=fun _=>zAF _ _ _
    d11:=fun hh=>qr
    d10':=fun _=>zAF _ _ _
    d12':=fun hh=>by rw [ne zd,h12 zd] at hh;cases hh
    w9:=fun hh=>by rw [zAF] at hh;cases hh
    w10:=fun _ _=>rfl
    w12:=fun hh=>by rw [ne zd,h10] at hh;cases hh }
  | 10,_ =>
   obtain ⟨ty,ps,af,ho⟩:=o10;have q7:=zBq e107 hdep;have q9:=zBq e109 hdep
   have ev7:(zAk ops vals (zAO ops.size done) a0).eval (.tmp 111) = .slice Av L.length cv:=by
    obtain ⟨ty',ps',af',ho'⟩:=o7;rw [zAv hAp (a:=a0) (j:=7) (d:=111) za zv q7 (bE (m:=115) zd has),hJ.d7 q7]
   have ev9:(zAk ops vals (zAO ops.size done) a0).eval (.tmp 113) = .slice (some ⟨w0.heap.size,0,none⟩) 1 1:=by
    obtain ⟨ty',ps',af',ho'⟩:=o9;rw [zAv hAp (a:=a0) (j:=9) (d:=113) za zv q9 (bE (m:=115) zd has),hJ.d9 q9]
   have hw:=hJ.w10 q9 hd;have f12:=h12 zd;obtain ⟨i0,hi0,hz0,hz1,hz2⟩:=info_parts elInt.info
   obtain ⟨v',wA,hrun,h2,h3,_,h5⟩:=run_append_own_at (P:=Tryz.prog) w1 B 27 ty 3 i0 _ 1 8 elInt.ty hi0 hz0 hz1 hz2 rfl zd (.slice Av L.length cv) L.length (L.flatMap encI) (by rw [hw];exact (hown.alloc _)) ⟨w0.heap.size,0,none⟩ 1 1 [.int .i64 M] rfl
    (by rw [hw];exact World.news_of_block (cs:=#[.int .i64 M]) (t:=3) (fr:=(0,0)) (cS w0 _)) zy zm za (by rw [hw];simp;omega)
   have ho':zAT encI 1 wA B 3 v' (L++[M]):=by
    unfold zAT
    simpa using h2
   obtain ⟨A',c',rfl⟩:∃ A' c',v' = .slice A' (L.length+1) c':=by
    rcases h2.2 with ⟨rfl,hn⟩ | ⟨g,cap,cur,rfl,_⟩
    ·omega
    ·exact ⟨_,_,rfl⟩
   refine zAq ho rfl (v:=.slice A' (L.length+1) c') (w':=wA) (by simp [execOp,resolve,invoke,builtin,ev7,ev9,hrun]) ⟨_,zu,?_⟩
   have ne:∀ {j:Nat},j≠10→zBV done 10 true j=done j:=fun hj=>zAb _ _ hj
   have nv:∀ {j:Nat} {u:Value},j≠10→zBV vals 10 u j=vals j:=fun hj=>zAb _ _ hj
   have h3':(w0.alloc (.cells #[.int .i64 M] 3)).grownBy wA (Value.slice Av L.length cv).ownBlock:=by
    rw [hw] at h3;exact ⟨h3.os,h3.tape,h3.output,h3.size,h3.block⟩
   have h5':(Value.slice A' (L.length+1) c').ownBlock=(Value.slice Av L.length cv).ownBlock∨(Value.slice A' (L.length+1) c').ownBlock=some (w0.heap.size+1):=by
    rw [hw] at h5
    simpa using h5
   exact {
    d0:=fun hh=>qt
    d1:=fun hh=>qu
    d2:=fun hh=>qw
    d3:=fun hh=>qx
    d4:=fun hh=>qy
    d5:=fun hh=>qz
    d6:=fun hh=>ja
    d7:=fun hh=>jb
    d8:=fun hh=>jc
    d9:=fun hh=>by rw [ne zd] at hh;rw [nv zd];exact hJ.d9 hh
    d11:=fun hh=>qr
    d10':=fun _=>by rw [ne zd];exact q9
    d12':=fun hh=>by rw [ne zd,f12] at hh;cases hh
    w9:=fun hh=>by rw [ne zd,q9] at hh;cases hh
    w10:=fun _ hh=>by rw [zAF] at hh;cases hh
    w12:=fun _=>⟨A',c',wA,zAF _ _ _,ho',h3',h5',fun _=>rfl,fun hh=>by rw [ne zd,f12] at hh;cases hh⟩ }
  | 11,_ =>
   obtain ⟨ty,ps,af,ho⟩:=o11;have q1:=zBq e111 hdep;have q2:=zBq e112 hdep
   have ev1:(zAk ops vals (zAO ops.size done) a0).eval (.tmp 105)=slAt g2 n:=by
    obtain ⟨ty',ps',af',ho'⟩:=o1;rw [zAv hAp (a:=a0) (j:=1) (d:=105) za zv q1 (bE (m:=115) zd has),hJ.d1 q1]
   have ev2:(zAk ops vals (zAO ops.size done) a0).eval (.tmp 106) = .int .i64 (y:Int):=by
    obtain ⟨ty',ps',af',ho'⟩:=o2;rw [zAv hAp (a:=a0) (j:=2) (d:=106) za zv q2 (bE (m:=115) zd has),hJ.d2 q2]
   exact zAq ho rfl (v:=.pointer (some ⟨g2,y,none⟩)) (w':=w1) (by simp [execOp,ev1,ev2,hidx]) ⟨_,zu,hJ.pure zd ze hd⟩
  | 12,_ =>
   obtain ⟨ty,ps,af,ho⟩:=o12;have qa:∀ j,j<12→done j=true:=fun j hj=>zBq (List.all_eq_true.1 e12 j (List.mem_range.2 hj)) hdep
   obtain ⟨A',c',wA,hv10,hoA,hgA,hat,hwA,_⟩:=hJ.w12 (qa 10 za);have hw:=hwA hd
   have ev11:(zAk ops vals (zAO ops.size done) a0).eval (.tmp 115) = .pointer (some ⟨g2,y,none⟩):=by
    obtain ⟨ty',ps',af',ho'⟩:=o11;rw [zAv hAp (a:=a0) (j:=11) (d:=115) za zv (qa 11 za) (bE (m:=115) zd has),hJ.d11 (qa 11 za)]
   have ev10:(zAk ops vals (zAO ops.size done) a0).eval (.tmp 114) = .slice A' (L.length+1) c':=by
    obtain ⟨ty',ps',af',ho'⟩:=o10;rw [zAv hAp (a:=a0) (j:=10) (d:=114) za zv (qa 10 za) (bE (m:=115) zd has),hv10]
   have hblk:=hJ.keep hd (p:=⟨g2,y,none⟩) hgl hng
   have hcA:wA.cell? ⟨g2,y,none⟩=some (.slice Av L.length cv):=by
    rw [hw] at hblk;rw [←hcg];exact World.cell?_of_block hblk.1
   have hfA:wA.frozen? ⟨g2,y,none⟩=false:=by
    rw [hw] at hblk;rw [←hfg];exact World.frozen?_of_block hblk.1
   have hst:(Instr.storeAt 27 (.pointer (some ⟨g2,y,none⟩)) (.slice A' (L.length+1) c')).run Tryz.prog wA = .ok () (wA.setCell ⟨g2,y,none⟩ (.slice A' (L.length+1) c')):=by
    simp [go_sem,hcA,hfA]
   rw [hw];refine wpOp_skip ho rfl (w':=wA.setCell ⟨g2,y,none⟩ (.slice A' (L.length+1) c')) (by simp [execOp,ev10,ev11,hst]) ⟨undef,zu,?_⟩
   have ne:∀ {j:Nat},j≠12→zBV done 12 true j=done j:=fun hj=>zAb _ _ hj
   have nv:∀ {j:Nat} {u:Value},j≠12→zBV vals 12 u j=vals j:=fun hj=>zAb _ _ hj
   exact {
    d0:=fun hh=>qt
    d1:=fun hh=>qu
    d2:=fun hh=>qw
    d3:=fun hh=>qx
    d4:=fun hh=>qy
    d5:=fun hh=>qz
    d6:=fun hh=>ja
    d7:=fun hh=>jb
    d8:=fun hh=>jc
    d9:=fun hh=>by rw [ne zd] at hh;rw [nv zd];exact hJ.d9 hh
    d11:=fun hh=>qr
    d10':=fun _=>by rw [ne zd];exact qa 9 za
    d12':=fun _ j hj=>by rw [ne za];exact qa j hj
    w9:=fun hh=>by rw [ne zd,qa 9 za] at hh;cases hh
    w10:=fun _ hh=>by rw [ne zd,qa 10 za] at hh;cases hh
    w12:=fun _=>⟨A',c',wA,by rw [nv zd];exact hv10,hoA,hgA,hat,(fun hh=>by rw [zAF] at hh;cases hh),fun _=>rfl⟩ }
 ·intro done vals w' hall hJ
  rw [hsz] at hall ⊢;obtain ⟨A',c',wA,hv10,hoA,hgA,hat,_,hw⟩:=hJ.w12 (hall 10 za);rw [hw (hall 12 za)];exact hK A' c' wA vals hoA hgA hat (hJ.d0 (hall 0 za)) (hJ.d1 (hall 1 za)) (hJ.d2 (hall 2 za)) (hJ.d3 (hall 3 za)) (hJ.d4 (hall 4 za)) (hJ.d5 (hall 5 za)) (hJ.d6 (hall 6 za)) (hJ.d7 (hall 7 za)) (hJ.d8 (hall 8 za)) (hJ.d9 (hall 9 za)) hv10 (hJ.d11 (hall 11 za))
end Go.Proofs.YtieoifkdobcpiaaGreatDoor
