/- Parts of the proof, joined: Package right (places): the rows of leaves that newWorld fills. Packag. -/
import Derived.Test.YtieoifkdobcpiaaGreatDoorSg08
set_option maxRecDepth 100000
set_option maxHeartbeats 8000000
namespace Go.Proofs.YtieoifkdobcpiaaGreatDoor
open Go.RowKit Dw
abbrev encI:Int→List Value:=fun z=>[.int .i64 z]
def zBQ (l:List Rg) (k:Nat):List Nat:=(List.range k).filter fun i=>!zAB l i
theorem leafTo_par {l:List Rg} {k:Nat} (h:zAB l k=true):zBQ l (k+1)=zBQ l k:=by
 unfold zBQ;rw [zBJ];simp [h]
theorem leafTo_leaf {l:List Rg} {k:Nat} (h:zAB l k=false):zBQ l (k+1)=zBQ l k++[k]:=by
 unfold zBQ;rw [zBJ];simp [h]
theorem leafTo_le (l:List Rg) (k:Nat):(zBQ l k).length≤k:=by
 unfold zBQ;have:=dK (fun i=>!zAB l i) (List.range k)
 simpa using this
def lmF (l:List Rg):Nat→BA→Option Value
 | 0,_=>none
 | k+1,s=>if zAB l k then lmF l k s else if s=nmAt l k then some (.int .i64 ((zBQ l k).length:Int)) else lmF l k s
def zBn (l:List Rg) (k x:Nat):List Int:=((zBQ l k).zipIdx.filter fun p=>under l p.1 x).map fun p=>(p.2:Int)
theorem belowK_par {l:List Rg} {k:Nat} (h:zAB l k=true) (x:Nat):zBn l (k+1) x=zBn l k x:=by
 unfold zBn;rw [leafTo_par h]
theorem belowK_leaf {l:List Rg} {k:Nat} (h:zAB l k=false) (x:Nat):zBn l (k+1) x=zBn l k x++if under l k x then [((zBQ l k).length:Int)] else []:=by
 unfold zBn;rw [leafTo_leaf h,List.zipIdx_append,dJ,eE]
 congr 1
 cases hu:under l k x<;>simp [hu]
theorem belowK_le (l:List Rg) (k x:Nat):(zBn l k x).length≤k:=by
 unfold zBn;rw [cW];refine cU (dK _ _) ?_
 rw [List.length_zipIdx];exact leafTo_le l k
theorem underF_upN {l:List Rg}:∀ {f i k:Nat},zCg l f i k=true→∃ d,upN l d i=some k
 | 0,_,_,h=>by simp [zCg] at h
 | f+1,i,k,h=>by
  rw [zCg] at h
  by_cases e:i=k
  ·exact ⟨0,by simp [upN,e]⟩
  ·cases hu:up l i with
   | none=>rw [hu] at h;simp [e] at h
   | some j =>
    rw [hu] at h;have h':zCg l f j k=true:=by simpa [e] using h
    obtain ⟨d,hd⟩:=underF_upN h';exact ⟨d+1,by rw [upN,hu];exact hd⟩
theorem upN_underF {l:List Rg}:∀ {f i k d:Nat},upN l f i=none→upN l d i=some k→zCg l f i k=true
 | 0,_,_,_,h,_=>by simp [upN] at h
 | f+1,i,k,0,_,h=>by
  have:i=k:=by simpa [upN] using h
  subst this;simp [zCg]
 | f+1,i,k,d+1,h,hd=>by
  rw [upN] at h hd
  cases hu:up l i with
  | none=>rw [hu] at hd;cases hd
  | some j =>
   rw [hu] at h hd;have:=upN_underF h hd;rw [zCg,hu];simp [this]
theorem not_under_up {l:List Rg} (g:GoodR l) {y y' f:Nat} (hy:y<l.length) (hu:up l y=some y'):zCg l f y' y=false:=by
 cases h:zCg l f y' y with
 | false=>rfl
 | true =>
  exfalso
  obtain ⟨d,hd⟩:=underF_upN h;have e:upN l (d+1) y=some y:=by rw [upN,hu];exact hd
  have h1:=g.ends y hy;have h2:=loop_forever e (l.length+2)
  rw [upN_none_mono h1 (by
   have:1*(l.length+2)≤(d+1)*(l.length+2):=aX _ za;omega)] at h2
  cases h2
structure RowsI (w:World) (B g1 n:Nat) (bl:Array Value) (R:Nat→List Int):Prop where
 size:bl.size=n
 own:∀ (x:Nat) (v:Value),bl[x]?=some v→zAE encI 1 w B 3 v (R x)
 ne1:∀ (x:Nat) (v:Value),bl[x]?=some v→v.ownBlock≠some g1
 sep:∀ (x y:Nat) (v u:Value),x≠y→bl[x]?=some v→bl[y]?=some u→v.ownBlock=none∨v.ownBlock≠u.ownBlock
theorem own_keepT {α:Type} {enc:α→List Value} {k:Nat} {w w':World} {base:Nat} {e:TypeId} {v:Value} {l:List α} (h:zAE enc k w base e v l) (hk:∀ (g:Nat) (cs:Array Value),w.heap[g]?=some (.cells cs e (0,0))→w'.heap[g]?=w.heap[g]?):zAE enc k w' base e v l:=by
 refine ⟨h.1,?_⟩
 rcases h.2 with hn | ⟨g,cap,cur,rfl,hb,hgg,rest⟩
 ·exact .inl hn
 ·exact .inr ⟨g,cap,cur,rfl,hb,(hk g cur hgg).trans hgg,rest⟩
theorem zAR {α:Type} {enc:α→List Value} {k:Nat} {w:World} {base:Nat} {e:TypeId} {v:Value} {l:List α} (h:zAE enc k w base e v l) {g:Nat} (hg:v.ownBlock=some g):base≤g∧∃ cs,w.heap[g]?=some (.cells cs e (0,0)):=by
 rcases h.2 with ⟨rfl,_⟩ | ⟨g',cap,cur,rfl,hb,hgg,rest⟩
 ·simp [Value.ownBlock] at hg
 ·have:g'=g:=by simpa [Value.ownBlock] using hg
  subst this;exact ⟨hb,cur,hgg⟩
section
variable {w w':World} {B g1 n:Nat} {bl:Array Value} {R:Nat→List Int}
theorem RowsI.nil (w:World) (B g1 n:Nat):RowsI w B g1 n (Array.replicate n zAk) (fun _=>[]) where
 size:=zd
 own x v h:=by
  rw [Array.getElem?_replicate] at h
  split at h
  ·injection h with h;subst h;exact zAE.nil _ _ _ _ _
  ·cases h
 ne1 x v h:=by
  rw [Array.getElem?_replicate] at h
  split at h
  ·injection h with h;subst h;simp [Value.ownBlock]
  ·cases h
 sep x y v u _ h _:=by
  rw [Array.getElem?_replicate] at h
  split at h
  ·injection h with h;subst h;exact .inl rfl
  ·cases h
theorem RowsI.keepT (h:RowsI w B g1 n bl R) (hk:∀ (g:Nat) (cs:Array Value),w.heap[g]?=some (.cells cs 3 (0,0))→w'.heap[g]?=w.heap[g]?):RowsI w' B g1 n bl R :=
 ⟨h.size,fun x v hv=>own_keepT (h.own x v hv) hk,h.ne1,h.sep⟩
theorem RowsI.congr {R':Nat→List Int} (h:RowsI w B g1 n bl R) (hR:∀ x,x<n→R x=R' x):RowsI w B g1 n bl R' :=
 ⟨h.size,fun x v hv=>by
  have hx:x<n:=by rw [←h.size];exact (Array.getElem?_eq_some_iff.1 hv).1
  rw [←hR x hx];exact h.own x v hv,h.ne1,h.sep⟩
theorem RowsI.alloc (h:RowsI w B g1 n bl R) (o:Obj):RowsI (w.alloc o) B g1 n bl R:=h.keepT fun _ _ hg=>dN w o _ (Array.getElem?_eq_some_iff.1 hg).1
theorem RowsI.push (h:RowsI w B g1 n bl R) {y:Nat} {v v':Value} {m:Int} (hy:bl[y]?=some v) (hg1:g1<w.heap.size) (hg:w.grownBy w' v.ownBlock) (ho:zAE encI 1 w' B 3 v' (R y++[m])) (hat:v'.ownBlock=v.ownBlock∨v'.ownBlock=some w.heap.size) :
  RowsI w' B g1 n (bl.setIfInBounds y v') (fun x=>if x=y then R y++[m] else R x):=by
 have hyl:y<bl.size:=(Array.getElem?_eq_some_iff.1 hy).1
 have hlt:∀ (x:Nat) (u:Value),bl[x]?=some u→∀ k,u.ownBlock=some k→k<w.heap.size:=fun x u hu k hk=>by
  obtain ⟨_,cs,hcs⟩:=zAR (h.own x u hu) hk;exact (Array.getElem?_eq_some_iff.1 hcs).1
 have hget:∀ (x:Nat) (u:Value),(bl.setIfInBounds y v')[x]?=some u→(x=y∧u=v')∨(x≠y∧bl[x]?=some u):=fun x u hu=>by
  rw [Array.getElem?_setIfInBounds] at hu
  by_cases e:y=x
  ·rw [aF e,aF hyl] at hu
   injection hu with hu
   exact .inl ⟨e.symm,hu.symm⟩
  ·rw [aD e] at hu
   exact .inr ⟨fun e'=>e e'.symm,hu⟩
 refine ⟨by simp [h.size],fun x u hu=>?_,fun x u hu=>?_,fun x z u t hxz hu ht=>?_⟩
 ·rcases hget x u hu with ⟨rfl,rfl⟩ | ⟨hne,hu'⟩
  ·simpa using ho
  ·simp only [hne,dO]
   exact (h.own x u hu').grown hg (h.sep x y u v hne hu' hy)
 ·rcases hget x u hu with ⟨rfl,rfl⟩ | ⟨hne,hu'⟩
  ·rcases hat with e | e
   ·rw [e];exact h.ne1 _ _ hy
   ·rw [e];intro e2;injection e2 with e2;omega
  ·exact h.ne1 x u hu'
 ·rcases hget x u hu with ⟨rfl,rfl⟩ | ⟨hne,hu'⟩
  ·rcases hget z t ht with ⟨rfl,rfl⟩ | ⟨hne2,ht'⟩
   ·exact absurd rfl hxz
   ·rcases hat with e | e
    ·rw [e];exact h.sep _ _ _ _ (Ne.symm hne2) hy ht'
    ·right
     rw [e];intro e2;have:=hlt z t ht' _ e2.symm;omega
  ·rcases hget z t ht with ⟨rfl,rfl⟩ | ⟨hne2,ht'⟩
   ·rcases hat with e | e
    ·rw [e];exact h.sep _ _ _ _ hne hu' hy
    ·right
     rw [e];intro e2;have:=hlt x u hu' _ e2;omega
   ·exact h.sep x z u t hxz hu' ht'
end
structure J2 (w0:World) (B s g2 n y:Nat) (M:Int) (v:Value) (L:List Int) (done:Nat→Bool) (vals:Nat→Value) (w:World):Prop where
 d0:done 0=true→vals 0 = .pointer (some ⟨s,5,none⟩)
 d1:done 1=true→vals 1=slAt g2 n
 d2:done 2=true→vals 2 = .int .i64 (y:Int)
 d3:done 3=true→vals 3 = .pointer (some ⟨s,5,none⟩)
 d4:done 4=true→vals 4=slAt g2 n
 d5:done 5=true→vals 5 = .int .i64 (y:Int)
 d6:done 6=true→vals 6 = .pointer (some ⟨g2,y,none⟩)
 d7:done 7=true→vals 7=v
 d8:done 8=true→vals 8 = .int .i64 M
 d9:done 9=true→vals 9 = .slice (some ⟨w0.heap.size,0,none⟩) 1 1
 d11:done 11=true→vals 11 = .pointer (some ⟨g2,y,none⟩)
 d10':done 10=true→done 9=true
 d12':done 12=true→∀ j,j<12→done j=true
 w9:done 9=false→w=w0.drew
 w10:done 9=true→done 10=false→w=(w0.alloc (.cells #[.int .i64 M] 3)).drew
 w12:done 10=true→∃ A' c' wA,vals 10 = .slice A' (L.length+1) c'∧zAE encI 1 wA B 3 (.slice A' (L.length+1) c') (L++[M])∧(w0.alloc (.cells #[.int .i64 M] 3)).grownBy wA v.ownBlock ∧
  ((Value.slice A' (L.length+1) c').ownBlock=v.ownBlock∨(Value.slice A' (L.length+1) c').ownBlock=some (w0.heap.size+1))∧(done 12=false→w=wA)∧(done 12=true→w=wA.setCell ⟨g2,y,none⟩ (.slice A' (L.length+1) c'))
theorem J2.keep {w0 w:World} {B s g2 n y:Nat} {M:Int} {v:Value} {L:List Int} {done:Nat→Bool} {vals:Nat→Value} (h:J2 w0 B s g2 n y M v L done vals w) (h12:done 12=false) {p:Addr} (hp:p.block<w0.heap.size) (hne:v.ownBlock≠some p.block) :
  w.heap[p.block]?=w0.heap[p.block]?∧w0.heap.size≤w.heap.size:=by
 cases h9:done 9 with
 | false=>rw [h.w9 h9];exact ⟨rfl,aC _⟩
 | true =>
  cases h10:done 10 with
  | false =>
   rw [h.w10 h9 h10];exact ⟨dN w0 _ _ hp,zd⟩
  | true =>
   obtain ⟨A',c',wA,_,_,hg,_,hw,_⟩:=h.w12 h10;rw [hw h12];exact ⟨(hg.block _ ze (fun e=>hne e.symm)).trans (dN w0 _ _ hp),by have:=hg.size;simp at this;omega⟩
theorem J2.pure {w0 w:World} {B s g2 n y:Nat} {M:Int} {v:Value} {L:List Int} {done:Nat→Bool} {vals:Nat→Value} (h:J2 w0 B s g2 n y M v L done vals w) {i:Nat} {u:Value} (hi:i≠9∧i≠10∧i≠12)
  (hu:(i=0→u = .pointer (some ⟨s,5,none⟩))∧(i=1→u=slAt g2 n)∧(i=2→u = .int .i64 (y:Int))∧(i=3→u = .pointer (some ⟨s,5,none⟩))∧(i=4→u=slAt g2 n)∧(i=5→u = .int .i64 (y:Int))∧(i=6→u = .pointer (some ⟨g2,y,none⟩))∧(i=7→u=v)∧(i=8→u = .int .i64 M)∧(i=11→u = .pointer (some ⟨g2,y,none⟩))) (hd:done i=false) :
  J2 w0 B s g2 n y M v L (zBv done i true) (zBv vals i u) w:=by
 obtain ⟨n9,n10,n12⟩:=hi;obtain ⟨u0,u1,u2,u3,u4,u5,u6,u7,u8,u11⟩:=hu;have e9:zBv done i true 9=done 9:=zAb _ _ (Ne.symm n9);have e10:zBv done i true 10=done 10:=zAb _ _ (Ne.symm n10);have e12:zBv done i true 12=done 12:=zAb _ _ (Ne.symm n12)
 have step:∀ {j:Nat} {c:Value},(done j=true→vals j=c)→(i=j→u=c)→zBv done i true j=true→zBv vals i u j=c:=fun {j c} h1 h2 h3=>by
  by_cases e:j=i
  ·subst e;rw [zAu];exact h2 rfl
  ·rw [zAb _ _ e] at h3 ⊢;exact h1 h3
 exact {
  d0:=step h.d0 u0
  d1:=step h.d1 u1
  d2:=step h.d2 u2
  d3:=step h.d3 u3
  d4:=step h.d4 u4
  d5:=step h.d5 u5
  d6:=step h.d6 u6
  d7:=step h.d7 u7
  d8:=step h.d8 u8
  d9:=fun hh=>by rw [e9] at hh;rw [zAb _ _ (Ne.symm n9)];exact h.d9 hh
  d11:=step h.d11 u11
  d10':=fun hh=>by rw [e10] at hh;rw [e9];exact h.d10' hh
  d12':=fun hh=>by
   rw [e12] at hh;intro j hj
   by_cases e:j=i
   ·subst e;exact zAu _ _ _
   ·rw [zAb _ _ e];exact h.d12' hh j hj
  w9:=fun hh=>by rw [e9] at hh;exact h.w9 hh
  w10:=fun hh hh'=>by rw [e9] at hh;rw [e10] at hh';exact h.w10 hh hh'
  w12:=fun hh=>by
   rw [e10] at hh;obtain ⟨A',c',wA,h1,h2,h3,h4,h5,h6⟩:=h.w12 hh;exact ⟨A',c',wA,by rw [zAb _ _ (Ne.symm n10)];exact h1,h2,h3,h4,fun hx=>h5 (by rw [e12] at hx;exact hx),fun hx=>h6 (by rw [e12] at hx;exact hx)⟩ }
theorem region26 {ops:Array Oper} {Q:Exit→Act→World→Prop} {a0:Act} {w0:World} {id B s g2 n y:Nat} {M:Int} {Av:Option Addr} {cv:Nat} {L:List Int} (hL:L.length≤200) (hy:y<n) (hsz:ops.size=13) (hap:apartB ops=true) (hb:backB ops=true)
  (hk3:notDst ops 3=true) (hk11:notDst ops 11=true) (hk12:notDst ops 12=true) (ha3:a0.eval (.tmp 3) = .pointer (some ⟨s,0,none⟩)) (ha11:a0.eval (.tmp 11) = .int .i64 M) (ha12:a0.eval (.tmp 12) = .int .i64 (y:Int)) (has:115<a0.tmps.size)
  (hcs:w0.cell? ⟨s,5,none⟩=some (slAt g2 n)) (hcg:w0.cell? ⟨g2,y,none⟩=some (.slice Av L.length cv)) (hfg:w0.frozen? ⟨g2,y,none⟩=false) (hown:zAE encI 1 w0 B 3 (.slice Av L.length cv) L) (hB:B≤w0.heap.size)
  (hns:(Value.slice Av L.length cv).ownBlock≠some s) (hng:(Value.slice Av L.length cv).ownBlock≠some g2)
  (o0:∃ ty ps af,ops[0]?=some ⟨some 104,.fieldAddr 108 (.tmp 3) 5,ty,ps,af,none⟩)
  (o1:∃ ty ps af,ops[1]?=some ⟨some 105,.load 66 (.tmp 104),ty,ps,af,none⟩)
  (o2:∃ ty ps af,ops[2]?=some ⟨some 106,.move (.tmp 12),ty,ps,af,none⟩)
  (o3:∃ ty ps af,ops[3]?=some ⟨some 107,.fieldAddr 108 (.tmp 3) 5,ty,ps,af,none⟩)
  (o4:∃ ty ps af,ops[4]?=some ⟨some 108,.load 66 (.tmp 107),ty,ps,af,none⟩)
  (o5:∃ ty ps af,ops[5]?=some ⟨some 109,.move (.tmp 12),ty,ps,af,none⟩)
  (o6:∃ ty ps af,ops[6]?=some ⟨some 110,.indexAddr 66 (.tmp 108) (.tmp 109),ty,ps,af,none⟩)
  (o7:∃ ty ps af,ops[7]?=some ⟨some 111,.load 27 (.tmp 110),ty,ps,af,none⟩)
  (o8:∃ ty ps af,ops[8]?=some ⟨some 112,.move (.tmp 11),ty,ps,af,none⟩)
  (o9:∃ ty ps af,ops[9]?=some ⟨some 113,.buildSlice 27 1 #[(0,.tmp 112)],ty,ps,af,none⟩)
  (o10:∃ ty ps af,ops[10]?=some ⟨some 114,.call { callee:=.builtin .append,args:=#[.tmp 111,.tmp 113],argTypes:=#[27,27] },ty,ps,af,none⟩)
  (o11:∃ ty ps af,ops[11]?=some ⟨some 115,.indexAddr 66 (.tmp 105) (.tmp 106),ty,ps,af,none⟩)
  (o12:∃ ty ps af,ops[12]?=some ⟨none,.store 27 (.tmp 115) (.tmp 114),ty,ps,af,none⟩)
  (e10:depB ops 1 0=true) (e43:depB ops 4 3=true) (e64:depB ops 6 4=true) (e65:depB ops 6 5=true) (e76:depB ops 7 6=true) (e98:depB ops 9 8=true) (e107:depB ops 10 7=true) (e109:depB ops 10 9=true) (e111:depB ops 11 1=true) (e112:depB ops 11 2=true)
  (e12:((List.range 12).all fun j=>depB ops 12 j)=true)
  (hK:∀ (A':Option Addr) (c':Nat) (wA:World) (vals:Nat→Value),zAE encI 1 wA B 3 (.slice A' (L.length+1) c') (L++[M])→(w0.alloc (.cells #[.int .i64 M] 3)).grownBy wA (Value.slice Av L.length cv).ownBlock →
   ((Value.slice A' (L.length+1) c').ownBlock=(Value.slice Av L.length cv).ownBlock∨(Value.slice A' (L.length+1) c').ownBlock=some (w0.heap.size+1)) →
   vals 0 = .pointer (some ⟨s,5,none⟩)→vals 1=slAt g2 n→vals 2 = .int .i64 (y:Int)→vals 3 = .pointer (some ⟨s,5,none⟩)→vals 4=slAt g2 n→vals 5 = .int .i64 (y:Int)→vals 6 = .pointer (some ⟨g2,y,none⟩)→vals 7 = .slice Av L.length cv→vals 8 = .int .i64 M →
   vals 9 = .slice (some ⟨w0.heap.size,0,none⟩) 1 1→vals 10 = .slice A' (L.length+1) c'→vals 11 = .pointer (some ⟨g2,y,none⟩)→Q .normal (zAi ops vals (List.range 13) a0) (wA.setCell ⟨g2,y,none⟩ (.slice A' (L.length+1) c'))) :
  (Code.region id ops true).wp Tryz.prog Q a0 w0:=by
 have hAp:=apart_of hap;have hsl:s<w0.heap.size:=World.block_lt_of_cell? w0 _ hcs;have hgl:g2<w0.heap.size:=World.block_lt_of_cell? w0 _ hcg;refine zDu zb hAp hb (fun _=>undef) (J2 w0 B s g2 n y M (.slice Av L.length cv) L) ?_ ?_ ?_
 ·exact ⟨zd,zd,zd,zd,zd,zd,zd,zd,zd,zd,zd,zd,zd,fun _=>rfl,zd,zd⟩
 ·intro i done vals w1 hi hJ hd hdep
  rw [hsz] at hi
  have h12:i≠12→done 12=false:=fun hne=>by
   cases h:done 12 with
   | false=>rfl
   | true=>rw [hJ.d12' h i za] at hd;cases hd
  have hc5:i≠12→w1.cell? ⟨s,5,none⟩=some (slAt g2 n):=fun hne=>by
   rw [←hcs];exact World.cell?_of_block (hJ.keep (h12 hne) (p:=⟨s,5,none⟩) hsl hns).1
  have hcy:i≠12→w1.cell? ⟨g2,y,none⟩=some (.slice Av L.length cv):=fun hne=>by
   rw [←hcg];exact World.cell?_of_block (hJ.keep (h12 hne) (p:=⟨g2,y,none⟩) hgl hng).1
  have hidx:(Instr.indexAt 66 (slAt g2 n) (.int .i64 (y:Int))).run Tryz.prog w1 = .ok (.pointer (some ⟨g2,y,none⟩)) w1:=by
   have hi:(0:Int)≤(y:Int)∧(y:Int)<(n:Int):=za;simp [go_sem,hi]
  have hfld:(Instr.fieldAt 108 (.pointer (some ⟨s,0,none⟩)) 5).run Tryz.prog w1 = .ok (.pointer (some ⟨s,5,none⟩)) w1:=by
   simp [go_sem]
  have hev3:(zAi ops vals (zAD ops.size done) a0).eval (.tmp 3) = .pointer (some ⟨s,0,none⟩):=(eval_kept hk3).trans ha3;have hev11:(zAi ops vals (zAD ops.size done) a0).eval (.tmp 11) = .int .i64 M:=(eval_kept hk11).trans ha11;have hev12:(zAi ops vals (zAD ops.size done) a0).eval (.tmp 12) = .int .i64 (y:Int):=(eval_kept hk12).trans ha12
  match i,hi with
  | 0,_ =>
   obtain ⟨ty,ps,af,ho⟩:=o0;exact zAl ho rfl (v:=.pointer (some ⟨s,5,none⟩)) (w':=w1) (by simp [execOp,hev3,hfld]) ⟨_,zn,hJ.pure zc zd hd⟩
  | 1,_ =>
   obtain ⟨ty,ps,af,ho⟩:=o1;have q:=zAV e10 hdep
   have ev:(zAi ops vals (zAD ops.size done) a0).eval (.tmp 104) = .pointer (some ⟨s,5,none⟩):=by
    obtain ⟨ty',ps',af',ho'⟩:=o0;rw [zAr hAp (a:=a0) (j:=0) (d:=104) za zo q (aY (m:=115) zc has),hJ.d0 q]
   have hld:(Instr.loadAt 66 (.pointer (some ⟨s,5,none⟩))).run Tryz.prog w1 = .ok (slAt g2 n) w1:=by simp [go_sem,hc5 zc]
   exact zAl ho rfl (v:=slAt g2 n) (w':=w1) (by simp [execOp,ev,hld]) ⟨_,zn,hJ.pure zc zd hd⟩
  | 2,_ =>
   obtain ⟨ty,ps,af,ho⟩:=o2;exact zAl ho rfl (v:=.int .i64 (y:Int)) (w':=w1) (by simp [execOp,hev12]) ⟨_,zn,hJ.pure zc zd hd⟩
  | 3,_ =>
   obtain ⟨ty,ps,af,ho⟩:=o3;exact zAl ho rfl (v:=.pointer (some ⟨s,5,none⟩)) (w':=w1) (by simp [execOp,hev3,hfld]) ⟨_,zn,hJ.pure zc zd hd⟩
  | 4,_ =>
   obtain ⟨ty,ps,af,ho⟩:=o4;have q:=zAV e43 hdep
   have ev:(zAi ops vals (zAD ops.size done) a0).eval (.tmp 107) = .pointer (some ⟨s,5,none⟩):=by
    obtain ⟨ty',ps',af',ho'⟩:=o3;rw [zAr hAp (a:=a0) (j:=3) (d:=107) za zo q (aY (m:=115) zc has),hJ.d3 q]
   have hld:(Instr.loadAt 66 (.pointer (some ⟨s,5,none⟩))).run Tryz.prog w1 = .ok (slAt g2 n) w1:=by simp [go_sem,hc5 zc]
   exact zAl ho rfl (v:=slAt g2 n) (w':=w1) (by simp [execOp,ev,hld]) ⟨_,zn,hJ.pure zc zd hd⟩
  | 5,_ =>
   obtain ⟨ty,ps,af,ho⟩:=o5;exact zAl ho rfl (v:=.int .i64 (y:Int)) (w':=w1) (by simp [execOp,hev12]) ⟨_,zn,hJ.pure zc zd hd⟩
  | 6,_ =>
   obtain ⟨ty,ps,af,ho⟩:=o6;have q4:=zAV e64 hdep;have q5:=zAV e65 hdep
   have ev4:(zAi ops vals (zAD ops.size done) a0).eval (.tmp 108)=slAt g2 n:=by
    obtain ⟨ty',ps',af',ho'⟩:=o4;rw [zAr hAp (a:=a0) (j:=4) (d:=108) za zo q4 (aY (m:=115) zc has),hJ.d4 q4]
   have ev5:(zAi ops vals (zAD ops.size done) a0).eval (.tmp 109) = .int .i64 (y:Int):=by
    obtain ⟨ty',ps',af',ho'⟩:=o5;rw [zAr hAp (a:=a0) (j:=5) (d:=109) za zo q5 (aY (m:=115) zc has),hJ.d5 q5]
   exact zAl ho rfl (v:=.pointer (some ⟨g2,y,none⟩)) (w':=w1) (by simp [execOp,ev4,ev5,hidx]) ⟨_,zn,hJ.pure zc zd hd⟩
  | 7,_ =>
   obtain ⟨ty,ps,af,ho⟩:=o7;have q:=zAV e76 hdep
   have ev:(zAi ops vals (zAD ops.size done) a0).eval (.tmp 110) = .pointer (some ⟨g2,y,none⟩):=by
    obtain ⟨ty',ps',af',ho'⟩:=o6;rw [zAr hAp (a:=a0) (j:=6) (d:=110) za zo q (aY (m:=115) zc has),hJ.d6 q]
   have hld:(Instr.loadAt 27 (.pointer (some ⟨g2,y,none⟩))).run Tryz.prog w1 = .ok (.slice Av L.length cv) w1:=by simp [go_sem,hcy zc]
   exact zAl ho rfl (v:=.slice Av L.length cv) (w':=w1) (by simp [execOp,ev,hld]) ⟨_,zn,hJ.pure zc zd hd⟩
  | 8,_ =>
   obtain ⟨ty,ps,af,ho⟩:=o8;exact zAl ho rfl (v:=.int .i64 M) (w':=w1) (by simp [execOp,hev11]) ⟨_,zn,hJ.pure zc zd hd⟩
  | 9,_ =>
   obtain ⟨ty,ps,af,ho⟩:=o9;have q:=zAV e98 hdep
   have ev:(zAi ops vals (zAD ops.size done) a0).eval (.tmp 112) = .int .i64 M:=by
    obtain ⟨ty',ps',af',ho'⟩:=o8;rw [zAr hAp (a:=a0) (j:=8) (d:=112) za zo q (aY (m:=115) zc has),hJ.d8 q]
   have hw:=hJ.w9 hd
   have h10:done 10=false:=by
    cases h:done 10 with
    | false=>rfl
    | true=>rw [hJ.d10' h] at hd;cases hd
   have hbs:(Instr.buildSlice 27 1 #[(0,.int .i64 M)]).run Tryz.prog w1 = .ok (.slice (some ⟨w1.heap.size,0,none⟩) 1 1) (w1.alloc (.cells #[.int .i64 M] 3)):=zb;refine zAl ho rfl (v:=.slice (some ⟨w1.heap.size,0,none⟩) 1 1) (w':=w1.alloc (.cells #[.int .i64 M] 3)) (by simp [execOp,ev,hbs]) ⟨_,zn,?_⟩
   subst hw;have ne:∀ {j:Nat},j≠9→zBv done 9 true j=done j:=fun hj=>zAb _ _ hj
   have nv:∀ {j:Nat} {u:Value},j≠9→zBv vals 9 u j=vals j:=fun hj=>zAb _ _ hj
   exact {
    d0:=fun hh=>yq
    d1:=fun hh=>yr
    d2:=fun hh=>yt
    d3:=fun hh=>yu
    d4:=fun hh=>yw
    d5:=fun hh=>yx
    d6:=fun hh=>yy
    d7:=fun hh=>yz
    d8:=fun hh=>y9
    d9:=fun _=>zAu _ _ _
    d11:=fun hh=>yp
    d10':=fun _=>zAu _ _ _
    d12':=fun hh=>by rw [ne zc,h12 zc] at hh;cases hh
    w9:=fun hh=>by rw [zAu] at hh;cases hh
    w10:=fun _ _=>rfl
    w12:=fun hh=>by rw [ne zc,h10] at hh;cases hh }
  | 10,_ =>
   obtain ⟨ty,ps,af,ho⟩:=o10;have q7:=zAV e107 hdep;have q9:=zAV e109 hdep
   have ev7:(zAi ops vals (zAD ops.size done) a0).eval (.tmp 111) = .slice Av L.length cv:=by
    obtain ⟨ty',ps',af',ho'⟩:=o7;rw [zAr hAp (a:=a0) (j:=7) (d:=111) za zo q7 (aY (m:=115) zc has),hJ.d7 q7]
   have ev9:(zAi ops vals (zAD ops.size done) a0).eval (.tmp 113) = .slice (some ⟨w0.heap.size,0,none⟩) 1 1:=by
    obtain ⟨ty',ps',af',ho'⟩:=o9;rw [zAr hAp (a:=a0) (j:=9) (d:=113) za zo q9 (aY (m:=115) zc has),hJ.d9 q9]
   have hw:=hJ.w10 q9 hd;have f12:=h12 zc;obtain ⟨i0,hi0,hz0,hz1,hz2⟩:=info_parts elInt.info
   obtain ⟨v',wA,hrun,h2,h3,_,h5⟩:=run_append_own_at (P:=Tryz.prog) w1 B 27 ty 3 i0 _ 1 8 elInt.ty hi0 hz0 hz1 hz2 rfl zc (.slice Av L.length cv) L.length (L.flatMap encI) (by rw [hw];exact (hown.alloc _)) ⟨w0.heap.size,0,none⟩ 1 1 [.int .i64 M] rfl
    (by rw [hw];exact World.news_of_block (cs:=#[.int .i64 M]) (t:=3) (fr:=(0,0)) (bZ w0 _)) zx zm za (by rw [hw];simp;omega)
   have ho':zAE encI 1 wA B 3 v' (L++[M]):=by
    unfold zAE
    simpa using h2
   obtain ⟨A',c',rfl⟩:∃ A' c',v' = .slice A' (L.length+1) c':=by
    rcases h2.2 with ⟨rfl,hn⟩ | ⟨g,cap,cur,rfl,_⟩
    ·omega
    ·exact ⟨_,_,rfl⟩
   refine zAl ho rfl (v:=.slice A' (L.length+1) c') (w':=wA) (by simp [execOp,resolve,invoke,builtin,ev7,ev9,hrun]) ⟨_,zn,?_⟩
   have ne:∀ {j:Nat},j≠10→zBv done 10 true j=done j:=fun hj=>zAb _ _ hj
   have nv:∀ {j:Nat} {u:Value},j≠10→zBv vals 10 u j=vals j:=fun hj=>zAb _ _ hj
   have h3':(w0.alloc (.cells #[.int .i64 M] 3)).grownBy wA (Value.slice Av L.length cv).ownBlock:=by
    rw [hw] at h3;exact ⟨h3.os,h3.tape,h3.output,h3.size,h3.block⟩
   have h5':(Value.slice A' (L.length+1) c').ownBlock=(Value.slice Av L.length cv).ownBlock∨(Value.slice A' (L.length+1) c').ownBlock=some (w0.heap.size+1):=by
    rw [hw] at h5
    simpa using h5
   exact {
    d0:=fun hh=>yq
    d1:=fun hh=>yr
    d2:=fun hh=>yt
    d3:=fun hh=>yu
    d4:=fun hh=>yw
    d5:=fun hh=>yx
    d6:=fun hh=>yy
    d7:=fun hh=>yz
    d8:=fun hh=>y9
    d9:=fun hh=>by rw [ne zc] at hh;rw [nv zc];exact hJ.d9 hh
    d11:=fun hh=>yp
    d10':=fun _=>by rw [ne zc];exact q9
    d12':=fun hh=>by rw [ne zc,f12] at hh;cases hh
    w9:=fun hh=>by rw [ne zc,q9] at hh;cases hh
    w10:=fun _ hh=>by rw [zAu] at hh;cases hh
    w12:=fun _=>⟨A',c',wA,zAu _ _ _,ho',h3',h5',fun _=>rfl,fun hh=>by rw [ne zc,f12] at hh;cases hh⟩ }
  | 11,_ =>
   obtain ⟨ty,ps,af,ho⟩:=o11;have q1:=zAV e111 hdep;have q2:=zAV e112 hdep
   have ev1:(zAi ops vals (zAD ops.size done) a0).eval (.tmp 105)=slAt g2 n:=by
    obtain ⟨ty',ps',af',ho'⟩:=o1;rw [zAr hAp (a:=a0) (j:=1) (d:=105) za zo q1 (aY (m:=115) zc has),hJ.d1 q1]
   have ev2:(zAi ops vals (zAD ops.size done) a0).eval (.tmp 106) = .int .i64 (y:Int):=by
    obtain ⟨ty',ps',af',ho'⟩:=o2;rw [zAr hAp (a:=a0) (j:=2) (d:=106) za zo q2 (aY (m:=115) zc has),hJ.d2 q2]
   exact zAl ho rfl (v:=.pointer (some ⟨g2,y,none⟩)) (w':=w1) (by simp [execOp,ev1,ev2,hidx]) ⟨_,zn,hJ.pure zc zd hd⟩
  | 12,_ =>
   obtain ⟨ty,ps,af,ho⟩:=o12;have qa:∀ j,j<12→done j=true:=fun j hj=>zAV (List.all_eq_true.1 e12 j (List.mem_range.2 hj)) hdep
   obtain ⟨A',c',wA,hv10,hoA,hgA,hat,hwA,_⟩:=hJ.w12 (qa 10 za);have hw:=hwA hd
   have ev11:(zAi ops vals (zAD ops.size done) a0).eval (.tmp 115) = .pointer (some ⟨g2,y,none⟩):=by
    obtain ⟨ty',ps',af',ho'⟩:=o11;rw [zAr hAp (a:=a0) (j:=11) (d:=115) za zo (qa 11 za) (aY (m:=115) zc has),hJ.d11 (qa 11 za)]
   have ev10:(zAi ops vals (zAD ops.size done) a0).eval (.tmp 114) = .slice A' (L.length+1) c':=by
    obtain ⟨ty',ps',af',ho'⟩:=o10;rw [zAr hAp (a:=a0) (j:=10) (d:=114) za zo (qa 10 za) (aY (m:=115) zc has),hv10]
   have hblk:=hJ.keep hd (p:=⟨g2,y,none⟩) hgl hng
   have hcA:wA.cell? ⟨g2,y,none⟩=some (.slice Av L.length cv):=by
    rw [hw] at hblk;rw [←hcg];exact World.cell?_of_block hblk.1
   have hfA:wA.frozen? ⟨g2,y,none⟩=false:=by
    rw [hw] at hblk;rw [←hfg];exact World.frozen?_of_block hblk.1
   have hst:(Instr.storeAt 27 (.pointer (some ⟨g2,y,none⟩)) (.slice A' (L.length+1) c')).run Tryz.prog wA = .ok () (wA.setCell ⟨g2,y,none⟩ (.slice A' (L.length+1) c')):=by
    simp [go_sem,hcA,hfA]
   rw [hw];refine wpOp_skip ho rfl (w':=wA.setCell ⟨g2,y,none⟩ (.slice A' (L.length+1) c')) (by simp [execOp,ev10,ev11,hst]) ⟨undef,zn,?_⟩
   have ne:∀ {j:Nat},j≠12→zBv done 12 true j=done j:=fun hj=>zAb _ _ hj
   have nv:∀ {j:Nat} {u:Value},j≠12→zBv vals 12 u j=vals j:=fun hj=>zAb _ _ hj
   exact {
    d0:=fun hh=>yq
    d1:=fun hh=>yr
    d2:=fun hh=>yt
    d3:=fun hh=>yu
    d4:=fun hh=>yw
    d5:=fun hh=>yx
    d6:=fun hh=>yy
    d7:=fun hh=>yz
    d8:=fun hh=>y9
    d9:=fun hh=>by rw [ne zc] at hh;rw [nv zc];exact hJ.d9 hh
    d11:=fun hh=>yp
    d10':=fun _=>by rw [ne zc];exact qa 9 za
    d12':=fun _ j hj=>by rw [ne za];exact qa j hj
    w9:=fun hh=>by rw [ne zc,qa 9 za] at hh;cases hh
    w10:=fun _ hh=>by rw [ne zc,qa 10 za] at hh;cases hh
    w12:=fun _=>⟨A',c',wA,by rw [nv zc];exact hv10,hoA,hgA,hat,(fun hh=>by rw [zAu] at hh;cases hh),fun _=>rfl⟩ }
 ·intro done vals w' hall hJ
  rw [hsz] at hall ⊢;obtain ⟨A',c',wA,hv10,hoA,hgA,hat,_,hw⟩:=hJ.w12 (hall 10 za);rw [hw (hall 12 za)];exact hK A' c' wA vals hoA hgA hat (hJ.d0 (hall 0 za)) (hJ.d1 (hall 1 za)) (hJ.d2 (hall 2 za)) (hJ.d3 (hall 3 za)) (hJ.d4 (hall 4 za)) (hJ.d5 (hall 5 za)) (hJ.d6 (hall 6 za)) (hJ.d7 (hall 7 za)) (hJ.d8 (hall 8 za)) (hJ.d9 (hall 9 za)) hv10 (hJ.d11 (hall 11 za))
end Go.Proofs.YtieoifkdobcpiaaGreatDoor
