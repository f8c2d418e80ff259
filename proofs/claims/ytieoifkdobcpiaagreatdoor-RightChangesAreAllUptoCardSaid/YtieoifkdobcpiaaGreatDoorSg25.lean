/- Parts of the proof, joined: Package right: newLedger's memory. Parts in memory: a map from parties. -/
import Derived.Test.YtieoifkdobcpiaaGreatDoorSg24
import Derived.Deep.CutRange
set_option maxRecDepth 100000
set_option maxHeartbeats 8000000
namespace Go.Proofs.YtieoifkdobcpiaaGreatDoor
open Go.RowKit Dw
abbrev wvC (RA:Option Addr) (rc r1 r2 g1 g2:Nat) (AL:Option Addr) (cL:Nat) (rs:List Rg):Array Value :=
 #[.slice RA rs.length rc,.map (some r1),.slice AL (zBW rs (fun i=>!zAB rs i) rs.length).length cL,.map (some r2),.slice (some ⟨g1,0,none⟩) rs.length rs.length,.slice (some ⟨g2,0,none⟩) rs.length rs.length]
theorem wv_eq (RA:Option Addr) (rc r1 r2 g1 g2:Nat) (AL:Option Addr) (cL:Nat) (rs:List Rg):wv RA rc r1 r2 g1 g2 AL cL rs = .agg (wvC RA rc r1 r2 g1 g2 AL cL rs):=rfl
abbrev lgC (RA:Option Addr) (rc:Nat) (rs:List Rg) (UA:Option Addr) (uc:Nat) (us:List BA) (DA:Option Addr) (dc many r1 r2 g1 g2:Nat) (AL:Option Addr) (cL:Nat) (vr vi:Value):Array Value :=
 #[.slice RA rs.length rc,.slice UA us.length uc,.slice DA many dc,.slice RA rs.length rc,.map (some r1),.slice AL (zBW rs (fun i=>!zAB rs i) rs.length).length cL,.map (some r2),.slice (some ⟨g1,0,none⟩) rs.length rs.length,.slice (some ⟨g2,0,none⟩) rs.length rs.length,vr,vi]
abbrev spC (p:Int×Int):Array Value:=#[.int .i64 p.1,.int .i64 p.2]
abbrev eRun:Int×Int→List Value:=fun p=>[.int .i64 p.1,.int .i64 p.2]
abbrev eIn:Value×List Bool→List Value:=fun x=>[x.1]
theorem elRun:ElemT Tryz.prog 128 138 (.agg #[.int .i64 0,.int .i64 0]) 2 16:=⟨Tryz.underlying128,zb,rfl,zc⟩
theorem elIn:ElemT Tryz.prog 109 113 (.slice none 0 0) 1 24:=⟨Tryz.underlying109,zb,rfl,zc⟩
theorem oneRun (p:Int×Int):∀ u∈eRun p,u.oneCell'=true:=zx
def InS (w:World) (x:Value) (M:List Bool):Prop:=(x = .slice none 0 0∧M=[])∨∃ go c N,M=true::N∧x = .slice (some ⟨go,0,none⟩) N.length c∧w.heap[go]?=some (.cells (bArr N N.length) 4 (0,0))
theorem InS.one {w:World} {x:Value} {M:List Bool} (h:InS w x M):x.oneCell'=true:=by
 rcases h with ⟨rfl,_⟩ | ⟨_,_,_,_,rfl,_⟩<;>rfl
theorem InS.keep {w w':World} {x:Value} {M:List Bool} (h:InS w x M) (hk:∀ (g:Nat) (cs:Array Value),w.heap[g]?=some (Obj.cells cs 4 (0,0))→w'.heap[g]?=w.heap[g]?):InS w' x M :=
 h.imp id fun ⟨go,c,N,m,e,hg⟩=>⟨go,c,N,m,e,(hk go _ hg).trans hg⟩
theorem InS.below {w w':World} {x:Value} {M:List Bool} (h:InS w x M) (hb:Below w.heap.size w w'):InS w' x M:=h.keep fun g _ hg=>hb.block g (zAf hg)
def insM (rs:List Rg) (d:De):List Bool:=if zAj d.kd=true then true::inL rs d.ar else []
structure LS (W1:World) (C:Value→Value→Array Value) (L r:Nat) (f:BA→Option Value) (cr ci vr vi:Value) (runs:List (Int×Int)) (ins:List (Value×List Bool)) (w:World):Prop where
 bel:Below W1.heap.size W1 w
 lo:W1.heap.size≤L
 lg:Bx w L (C cr ci) 130
 rlo:W1.heap.size≤r
 mp:zAq Value.string w r f
 rn:zAE eRun 2 w W1.heap.size 138 vr runs
 ns:zAE eIn 1 w W1.heap.size 113 vi ins
 el:∀ x∈ins,InS w x.1 x.2
section
variable {W1 w w':World} {C:Value→Value→Array Value} {L r:Nat} {f:BA→Option Value} {cr ci vr vi v':Value} {runs:List (Int×Int)} {ins:List (Value×List Bool)}
theorem LS.below (h:LS W1 C L r f cr ci vr vi runs ins w) (hb:Below w.heap.size w w'):LS W1 C L r f cr ci vr vi runs ins w' :=
 ⟨zAa h.bel hb,h.lo,h.lg.below hb,h.rlo,h.mp.below hb,h.rn.below hb,h.ns.below hb,fun x hx=>(h.el x hx).below hb⟩
theorem LS.drewN (h:LS W1 C L r f cr ci vr vi runs ins w) (n:Nat):LS W1 C L r f cr ci vr vi runs ins (w.drewN n):=h.below (zAc (aN _ _) n)
theorem LS.drew (h:LS W1 C L r f cr ci vr vi runs ins w):LS W1 C L r f cr ci vr vi runs ins w.drew:=h.drewN 1
theorem zBH {g:Nat} {cs:Array Value} {T e:TypeId} {α:Type} {enc:α→List Value} {k b:Nat} {v:Value} {l:List α} (h:Bx w g cs T) (ho:zAE enc k w b e v l) (hne:T≠e) (hg:w.grownBy w' v.ownBlock):Bx w' g cs T:=by
 show w'.heap[g]?=_
 rw [hg.block g h.lt fun e2=>by
  obtain ⟨_,cs2,hc⟩:=zAR ho e2.symm;exact zAA h hc hne rfl]
 exact h
theorem map_grown {f:BA→Option Value} {α:Type} {enc:α→List Value} {k b:Nat} {e:TypeId} {v:Value} {l:List α} (h:zAq Value.string w r f) (ho:zAE enc k w b e v l) (hg:w.grownBy w' v.ownBlock):zAq Value.string w' r f :=
 h.keep (hg.block r h.lt fun e2=>by
  obtain ⟨_,cs2,hc⟩:=zAR ho e2.symm;exact zAg h hc rfl)
theorem zDb {α:Type} {enc:α→List Value} {k b:Nat} {e:TypeId} {v x:Value} {l:List α} {M:List Bool} (h:InS w x M) (ho:zAE enc k w b e v l) (hne:4≠e) (hg:w.grownBy w' v.ownBlock):InS w' x M :=
 h.keep fun g cs hc=>hg.block g (zAf hc) fun e2=>by
  obtain ⟨_,cs2,hc2⟩:=zAR ho e2.symm;exact zAA hc hc2 hne rfl
theorem own_base {α:Type} {enc:α→List Value} {k b:Nat} {e:TypeId} {v:Value} {l:List α} (ho:zAE enc k w b e v l):∀ q,v.ownBlock=some q→b≤q:=fun _q hq=>(zAR ho hq).1
theorem LS.pushR (h:LS W1 C L r f cr ci vr vi runs ins w) {p:Int×Int} (hn:zAE eRun 2 w' W1.heap.size 138 v' (runs++[p])) (hg:w.grownBy w' vr.ownBlock):LS W1 C L r f cr ci v' vi (runs++[p]) ins w' :=
 ⟨h.bel.grown hg h.bel.size (own_base h.rn),h.lo,zBH h.lg h.rn zc hg,h.rlo,map_grown h.mp h.rn hg,hn,h.ns.grown hg (zDq h.ns h.rn zc),fun x hx=>zDb (h.el x hx) h.rn zc hg⟩
theorem LS.pushI (h:LS W1 C L r f cr ci vr vi runs ins w) {x:Value×List Bool} (hx:InS w x.1 x.2) (hn:zAE eIn 1 w' W1.heap.size 113 v' (ins++[x])) (hg:w.grownBy w' vi.ownBlock):LS W1 C L r f cr ci vr v' runs (ins++[x]) w' :=
 ⟨h.bel.grown hg h.bel.size (own_base h.ns),h.lo,zBH h.lg h.ns zc hg,h.rlo,map_grown h.mp h.ns hg,h.rn.grown hg (zDq h.rn h.ns zc),hn,fun y hy=>by
  rcases List.mem_append.1 hy with hy | hy
  ·exact zDb (h.el y hy) h.ns zc hg
  ·rw [List.mem_singleton.1 hy];exact zDb hx h.ns zc hg⟩
theorem LS.set (h:LS W1 C L r f cr ci vr vi runs ins w) {i:Nat} {u cr' ci':Value} (hC:(C cr ci).setIfInBounds i u=C cr' ci'):LS W1 C L r f cr' ci' vr vi runs ins (w.setCell ⟨L,i,none⟩ u) :=
 ⟨h.bel.setCell h.lo _,h.lo,by rw [←hC];exact h.lg.set i u,h.rlo,h.mp.setCell (zAg h.mp h.lg).symm _,own_far h.rn h.lg zc i u,own_far h.ns h.lg zc i u,fun x hx=>(h.el x hx).keep fun g cs hc=>bY _ _ _ _ (zAA hc h.lg zc)⟩
theorem LS.far (h:LS W1 C L r f cr ci vr vi runs ins w) {g i:Nat} {cs:Array Value} {T:TypeId} {u:Value} (hg:Bx w g cs T) (hlo:W1.heap.size≤g) (h1:T≠130) (h3:T≠113) (h4:T≠4) (hr:vr.ownBlock≠some g):LS W1 C L r f cr ci vr vi runs ins (w.setCell ⟨g,i,none⟩ u) :=
 ⟨h.bel.setCell hlo _,h.lo,h.lg.far (show L≠g from zAA h.lg hg (fun e=>h1 e.symm)) _,h.rlo,h.mp.setCell (zAg h.mp hg).symm _,ownsRow_setCell_other h.rn hr _,own_far h.ns hg (fun e=>h3 e.symm) i u,fun x hx=>(h.el x hx).keep fun _g2 _cs2 hc=>bY _ _ _ _ (zAA hc hg (fun e=>h4 e.symm))⟩
theorem LS.upd {f':BA→Option Value} (h:LS W1 C L r f cr ci vr vi runs ins w) (hm:zAq Value.string w' r f') (hg:w.grownBy w' (some r)):LS W1 C L r f' cr ci vr vi runs ins w' :=
 ⟨h.bel.grown hg h.bel.size (fun k hk=>by injection hk with hk;rw [←hk];exact h.rlo),h.lo,by
  show w'.heap[L]?=_
  rw [hg.block L h.lg.lt (by simp;exact zAg h.mp h.lg)]
  exact h.lg,h.rlo,hm,h.rn.grown hg (own_ne_mapJ h.rn h.mp),h.ns.grown hg (own_ne_mapJ h.ns h.mp),fun x hx=>(h.el x hx).keep fun g cs hc=>hg.block g (zAf hc) (by simp;exact zAg h.mp hc)⟩
end
theorem chkD_kind {rs:List Rg} {us:List BA} {pre:List De} {d:De} (h:chkD rs us pre d=0):(1≤d.kd∧d.kd≤5)∧(zAj d.kd=true→chkA rs d.ar=0):=by
 unfold chkD at h
 split at h
 ·cases h
 split at h
 ·cases h
 split at h
 ·cases h
 split at h
 ·cases h
 split at h
 ·cases h
 next hk =>
 split at h
 ·cases h
 refine ⟨za,fun hg=>?_⟩
 rw [aF hg] at h;unfold giftF at h
 split at h
 ·cases h
 split at h
 ·cases h
 split at h
 ·next h1=>exact absurd h h1
 split at h
 ·next h1=>exact absurd h h1
 next ha=>simpa using ha
theorem chkT_kind {rs:List Rg} {us:List BA} {ds:List De} (h:zBt rs us ds=0):∀ d∈ds,(1≤d.kd∧d.kd≤5)∧(zAj d.kd=true→chkA rs d.ar=0):=fun d hd=>by
 obtain ⟨i,hi,rfl⟩:=dH hd;exact chkD_kind ((zBi h).2 i hi)
theorem fldC_p1 (W:World):(Instr.field 135 (.agg (fldC 1)) 5).run Tryz.prog W = .ok (.bool (zAj 1)) W:=zb
theorem fldC_p2 (W:World):(Instr.field 135 (.agg (fldC 2)) 5).run Tryz.prog W = .ok (.bool (zAj 2)) W:=zb
theorem fldC_p3 (W:World):(Instr.field 135 (.agg (fldC 3)) 5).run Tryz.prog W = .ok (.bool (zAj 3)) W:=zb
theorem fldC_p4 (W:World):(Instr.field 135 (.agg (fldC 4)) 5).run Tryz.prog W = .ok (.bool (zAj 4)) W:=zb
theorem fldC_p5 (W:World):(Instr.field 135 (.agg (fldC 5)) 5).run Tryz.prog W = .ok (.bool (zAj 5)) W:=zb
theorem fldC_place (k:Int) (h:1≤k∧k≤5) (W:World):(Instr.field 135 (.agg (fldC k)) 5).run Tryz.prog W = .ok (.bool (zAj k)) W:=by
 have h5:k=1∨k=2∨k=3∨k=4∨k=5:=za
 rcases h5 with rfl | rfl | rfl | rfl | rfl
 ·exact fldC_p1 W
 ·exact fldC_p2 W
 ·exact fldC_p3 W
 ·exact fldC_p4 W
 ·exact fldC_p5 W
theorem tMapE:Tryz.prog.underlying 106=some (.map 9 3):=Tryz.underlying106
abbrev endM (l:List De):BA→Option Value:=fun x=>(endAt l x).map (Value.int .i64)
theorem endM_nil:endM []=fun _=>none:=rfl
theorem endM_skip {l:List De} {d:De} (h:d.kd≠4):endM (l++[d])=endM l:=by
 funext x
 show (endAt (l++[d]) x).map _=(endAt l x).map _
 rw [endAt_snoc,aD (fun hh=>h (endsB_true.1 hh).1)]
theorem endM_push {l:List De} {d:De} (h:d.kd=4):endM (l++[d])=fun x=>if x=d.ot then some (.int .i64 d.bg) else endM l x:=by
 funext x
 show (endAt (l++[d]) x).map _=_
 rw [endAt_snoc]
 by_cases hx:x=d.ot
 ·rw [aF hx,aF (endsB_true.2 ⟨h,hx.symm⟩)];rfl
 ·rw [aD hx,aD (fun hh=>hx (endsB_true.1 hh).2.symm)]
def NumV (w:World) (v:Value) (q:Rat):Prop:=∃ A c A2 c2,v=raV false A c q.num.natAbs A2 c2 q.den∧Nt w A c q.num.natAbs∧Nt w A2 c2 q.den
theorem Nt.grown {w w':World} {A:Option Addr} {c n:Nat} {row:Option Nat} (h:Nt w A c n) (hg:w.grownBy w' row) (hne:∀ g cs e,w.heap[g]?=some (.cells cs e (0,0))∨(∃ o x,w.cell? ⟨g,o,none⟩=some (u32V x))→some g≠row):Nt w' A c n:=by
 refine ⟨fun hl=>?_,h.cap⟩
 obtain ⟨b,o,rfl,hc⟩:=h.rd hl;refine ⟨b,o,rfl,fun i hi=>hg.cell (hc i hi) (hne b #[] 0 (.inr ⟨_,_,hc i hi⟩))⟩
theorem NumV.below {w w':World} {v:Value} {q:Rat} (h:NumV w v q) (hb:Below w.heap.size w w'):NumV w' v q:=by
 obtain ⟨A,c,A2,c2,e,h1,h2⟩:=h;exact ⟨A,c,A2,c2,e,h1.below hb,h2.below hb⟩
theorem no_map_cell {w:World} {g:Nat} {es:Array MapEntry} {clk:Nat} (h:w.heap[g]?=some (.map es clk)) (o:Nat):w.cell? ⟨g,o,none⟩=none:=by
 simp [World.cell?,h]
theorem no_iter_cell {w:World} {g:Nat} {r:Option Nat} {s c:Nat} {a:Array Nat} (h:w.heap[g]?=some (.mapIter r s a c)) (o:Nat):w.cell? ⟨g,o,none⟩=none:=by
 simp [World.cell?,h]
theorem NumV.grown {w w':World} {v:Value} {q:Rat} {g:Nat} (h:NumV w v q) (hg:w.grownBy w' (some g)) (hn:∀ o,w.cell? ⟨g,o,none⟩=none):NumV w' v q:=by
 obtain ⟨A,c,A2,c2,e,h1,h2⟩:=h
 have key:∀ b o x,w.cell? ⟨b,o,none⟩=some x→some b≠some g:=fun b o x hx e=>by
  injection e with e
  subst e;rw [hn o] at hx
  cases hx
 refine ⟨A,c,A2,c2,e,⟨fun hl=>?_,h1.cap⟩,⟨fun hl=>?_,h2.cap⟩⟩
 ·obtain ⟨b,o,rfl,hc⟩:=h1.rd hl
  exact ⟨b,o,rfl,fun i hi=>hg.cell (hc i hi) (key b _ _ (hc i hi))⟩
 ·obtain ⟨b,o,rfl,hc⟩:=h2.rd hl
  exact ⟨b,o,rfl,fun i hi=>hg.cell (hc i hi) (key b _ _ (hc i hi))⟩
def zAw (w:World) (g:Nat) (f:zBa):Prop :=
 ∃ L:List (BA×Value),PMap Value.string w g L∧(∀ p,f p≠0↔∃ v,(p,v)∈L)∧∀ p v,(p,v)∈L→NumV w v (f p)
theorem pm_nocell {w:World} {g:Nat} {L:List (BA×Value)} (h:PMap Value.string w g L) (o:Nat):w.cell? ⟨g,o,none⟩=none:=by
 obtain ⟨es,clk,h1,_⟩:=h;exact no_map_cell h1 o
section
variable {w w':World} {g:Nat} {f:zBa} {p:BA} {v:Value} {q:Rat}
theorem zAw.nocell (h:zAw w g f) (o:Nat):w.cell? ⟨g,o,none⟩=none:=by
 obtain ⟨L,h1,_⟩:=h;exact pm_nocell h1 o
theorem zAw.below (h:zAw w g f) (hb:Below w.heap.size w w'):zAw w' g f:=by
 obtain ⟨L,h1,h2,h3⟩:=h;exact ⟨L,h1.below hb,h2,fun p v hp=>(h3 p v hp).below hb⟩
theorem zAw.new (w:World):zAw (w.alloc (.map #[] 0)) w.heap.size (fun _=>0) :=
 ⟨[],PMap.new _ _,fun p=>⟨fun h=>absurd rfl h,fun ⟨_,h⟩=>qh⟩,fun _ _ h=>qh⟩
theorem zAw.is (h:zAw w g f):∃ F,zAq Value.string w g F∧∀ p,(f p=0∧F p=none)∨(f p≠0∧∃ v,F p=some v∧NumV w v (f p)):=by
 obtain ⟨L,h1,h2,h3⟩:=h;refine ⟨_,h1.is,fun p=>?_⟩
 cases hl:zAP L p with
 | none =>
  refine .inl ⟨eQ fun hn=>?_,rfl⟩
  obtain ⟨v,hv⟩:=(h2 p).1 hn;rw [lookE_none] at hl;exact hl _ hv rfl
 | some v =>
  have hm:=(lookE_mem h1.nodup).1 hl;exact .inr ⟨(h2 p).2 ⟨v,hm⟩,v,rfl,h3 p v hm⟩
end
theorem tMapP:Tryz.prog.underlying 80=some (.map 9 89):=Tryz.underlying80
section
variable {w:World} {g:Nat} {f:zBa}
theorem run_put (h:zAw w g f) (p:BA) (v:Value) (q:Rat) (hv:NumV w v q) (hq:q≠0) :
  ∃ w',(Instr.mapUpdate 80 (.map (some g)) (.string p) v).run Tryz.prog w = .ok () w'∧zAw w' g (upH f p q)∧w.grownBy w' (some g)∧w'.heap.size=w.heap.size:=by
 obtain ⟨L,h1,h2,h3⟩:=h;obtain ⟨w',hr,hp,hg,hs⟩:=run_update_pm tMapP kStr h1 p v
 have hm:∀ p' v',(p',v')∈putE L p v↔if p'=p then v'=v else (p',v')∈L:=fun p' v'=>by
  rw [←lookE_mem hp.nodup,lookE_put]
  split
  ·constructor
   ·intro e;injection e with e;exact e.symm
   ·intro e;rw [e]
  ·exact lookE_mem h1.nodup
 refine ⟨w',hr,⟨_,hp,fun p'=>?_,fun p' v' hp'=>?_⟩,hg,hs⟩
 ·by_cases he:p'=p
  ·subst he
   rw [zBy];exact ⟨fun _=>⟨v,(hm _ _).2 (by rw [aF rfl])⟩,fun _=>hq⟩
  ·rw [zAJ _ _ he,h2]
   constructor
   ·rintro ⟨v',hv'⟩;exact ⟨v',(hm _ _).2 (by rw [aD he];exact hv')⟩
   ·rintro ⟨v',hv'⟩
    have:=(hm _ _).1 hv';rw [aD he] at this;exact ⟨v',this⟩
 ·have:=(hm _ _).1 hp'
  by_cases he:p'=p
  ·subst he
   rw [aF rfl] at this;rw [zBy,this];exact hv.grown hg fun o=>pm_nocell h1 o
  ·rw [aD he] at this
   rw [zAJ _ _ he];exact (h3 _ _ this).grown hg fun o=>pm_nocell h1 o
theorem run_del (h:zAw w g f) (p:BA) (ty:TypeId) :
  ∃ w',(Builtin.delete_ #[80,9] ty #[.map (some g),.string p]).run Tryz.prog w = .ok (.tuple #[]) w'∧zAw w' g (upH f p 0)∧w.grownBy w' (some g)∧w'.heap.size=w.heap.size:=by
 obtain ⟨L,h1,h2,h3⟩:=h;obtain ⟨w',hr,hp,hg,hs⟩:=run_delete_pm (ty:=ty) tMapP kStr h1 p
 have hm:∀ p' v',(p',v')∈delE L p↔p'≠p∧(p',v')∈L:=fun p' v'=>by
  unfold delE;rw [List.mem_filter,eU,and_comm]
 refine ⟨w',hr,⟨_,hp,fun p'=>?_,fun p' v' hp'=>?_⟩,hg,hs⟩
 ·by_cases he:p'=p
  ·subst he
   rw [zBy];exact ⟨fun h=>absurd rfl h,fun ⟨v,hv⟩=>absurd rfl ((hm _ _).1 hv).1⟩
  ·rw [zAJ _ _ he,h2]
   constructor
   ·rintro ⟨v',hv'⟩;exact ⟨v',(hm _ _).2 ⟨he,hv'⟩⟩
   ·rintro ⟨v',hv'⟩;exact ⟨v',((hm _ _).1 hv').2⟩
 ·obtain ⟨he,hin⟩:=(hm _ _).1 hp'
  rw [zAJ _ _ he];exact (h3 _ _ hin).grown hg fun o=>pm_nocell h1 o
end
theorem zBp {B:Nat} {w0 w w':World} {g:Nat} (h:Below B w0 w) (hB:B≤w.heap.size) (hg:w.grownBy w' (some g)) (hlo:B≤g):Below B w0 w' :=
 h.grown hg hB fun k hk=>by injection hk with hk;rw [←hk];exact hlo
def tooB (n d most:Nat):Bool:=decide (most<(digB n).size) || decide (most<(digB d).size)
def raOut (n d most:Nat):Value:=if tooB n d most=true then .tuple #[.agg #[.string ⟨#[]⟩,.string ⟨#[]⟩],.bool false] else .tuple #[.agg #[.string (digB n),.string (digB d)],.bool true]
abbrev zRt:Array Value:=#[.string ⟨#[]⟩,.string ⟨#[]⟩]
theorem Ratio_c (A A2:Option Addr) (c c2 n d most:Nat) (w:World) (h:Nt w A c n) (h2:Nt w A2 c2 d) (hn:(zAd B32 n).length≤100000000) (hd:(zAd B32 d).length≤100000000) :
  Calls Tryz.prog 74 #[raV false A c n A2 c2 d,.int .i64 (most:Int)] w (zAe (raOut n d most) w):=by
 have HT1:=zq (fun W (x:Nt W A c n)=>text_c A c n W x hn)
 have HT2:=zq (fun W (x:Nt W A2 c2 d)=>text_c A2 c2 d W x hd)
 have HRO:Hid (raOut n d most=if (decide (most<(digB n).size) || decide (most<(digB d).size))=true then .tuple #[.agg #[.string ⟨#[]⟩,.string ⟨#[]⟩],.bool false] else .tuple #[.agg #[.string (digB n),.string (digB d)],.bool true]):=rfl
 generalize raOut n d most=ro at *;generalize digB n=sn at *;generalize digB d=sd at *;have HX0:Hid (Bx ((w.alloc (.cells (raC A c n A2 c2 d) 89)).alloc (.cells zRt 40)) w.heap.size (raC A c n A2 c2 d) 89):=(Bx.new _ _ _).alloc _;have HZ0:Hid (Bx ((w.alloc (.cells (raC A c n A2 c2 d) 89)).alloc (.cells zRt 40)) (w.heap.size+1) zRt 40):=Bx.new1 _ _ _ _;have HB0:Hid (Below w.heap.size w ((w.alloc (.cells (raC A c n A2 c2 d) 89)).alloc (.cells zRt 40))):=((aN w.heap.size w).alloc (aC _) _).alloc zd _;obtain ⟨W,hW⟩:∃ W,W=((w.alloc (.cells (raC A c n A2 c2 d) 89)).alloc (.cells zRt 40)):=⟨_,rfl⟩;rw [←hW] at HX0 HZ0 HB0;have g1:=zq (h.below HB0.o);have g2:=zq (h2.below HB0.o);clear hn hd h h2
 go_enter Tryz.func74,Tryz.ntmps74
 go_upto_region 1 with fail
 rw [←hW];clear hW;obtain ⟨a0,a1,a2⟩:=HX0.o.t
 go_region_held3 (fun w'=>(w'.cell? ⟨w.heap.size,0,none⟩=some (.bool false)∧w'.cell? ⟨w.heap.size,1,none⟩=some (.slice A (zAd B32 n).length c)∧w'.cell? ⟨w.heap.size,2,none⟩=some (.slice A2 (zAd B32 d).length c2)))
  ((refine ⟨?_,?_,?_⟩<;>first | with_reducible assumption | go_simp))
  (first
   | ((go_at_call 115;(with_reducible refine (HT1.o W.drew g1.out.drew).mono ?_);rintro x w1 ⟨rfl,hb⟩;have HB1:=zq ((zAc HB0.o 1).trans (hb.mono HB0.o.size));have HX1:=zq ((HX0.o.drew).below hb);have HZ1:=zq ((HZ0.o.drew).below hb);have g21:=zq ((g2.out.drew).below hb);clear hb;clear a0 a1 a2;obtain ⟨a0,a1,a2⟩:=HX1.o.t))
   | ((go_at_call 115;(with_reducible refine (HT2.o w1 g21.out).mono ?_);rintro x w2 ⟨rfl,hb⟩;have HB2:=zq (zAa HB1.o hb);have HX2:=zq (HX1.o.below hb);have HZ2:=zq (HZ1.o.below hb);clear hb;clear a0 a1 a2;obtain ⟨a0,a1,a2⟩:=HX2.o.t)))
 have z0:=HZ2.o.c 0 rfl;have z1:=HZ2.o.c 1 rfl;have zf:=HZ2.o.frozen;have zl:=HZ2.o.lt;have hsx:=HX2.o.lt;clear HX0 HZ0 HB0 HX1 HZ1 HB1 g1 g2 g21 HT1 HT2
 cases hl:decide (most<sn.size) || decide (most<sd.size) with
 | true =>
  have HR:Hid (ro = .tuple #[.agg #[.string ⟨#[]⟩,.string ⟨#[]⟩],.bool false]):=by show _=_;rw [HRO.o,aF hl]
  by_cases h1:most<sn.size
  ·have e1:decide (most<sn.size)=true:=cM h1
   clear hl h1;go_wp2;refine dL (v:=.tuple #[.agg zRt,.bool false]) (by simp [results,Tryz.results74,go_sem,z0,z1]) rfl ⟨by rw [HR.o],(HB2.o.setCell zd _).setCell zd _⟩
  ·have e1:decide (most<sn.size)=false:=cN h1
   rw [e1,Bool.false_or] at hl;clear h1;go_wp2;refine dL (v:=.tuple #[.agg zRt,.bool false]) (by simp [results,Tryz.results74,go_sem,z0,z1]) rfl ⟨by rw [HR.o],(HB2.o.setCell zd _).setCell zd _⟩
 | false =>
  have HR:Hid (ro = .tuple #[.agg #[.string sn,.string sd],.bool true]):=by show _=_;rw [HRO.o,aD (by rw [hl];simp)]
  rw [aI] at hl;obtain ⟨e1,e2⟩:=hl;go_wp2;refine dL (v:=.tuple #[.agg #[.string sn,.string sd],.bool true]) (by simp [results,Tryz.results74,go_sem,z0,z1]) rfl ⟨by rw [HR.o],(HB2.o.setCell zd _).setCell zd _⟩
def GivesP (g:Nat) (f:zBa) (w:World) (e:Ending) (w':World):Prop:=e = .returned (.tuple #[])∧zAw w' g f∧w.grownBy w' (some g)
def zCx (q:Rat) (w:World) (e:Ending) (w':World):Prop:=zCb false q.num.natAbs q.den w e w'
theorem sgn_zero (q:Rat) (h:q=0):sgnI false q.num.natAbs=0:=by subst h;rfl
theorem sgn_pos (q:Rat) (h:q≠0):sgnI false q.num.natAbs=1:=by
 unfold sgnI;have:q.num.natAbs≠0:=fun e=>h (Rat.num_eq_zero.1 za)
 simp [this]
theorem put_c (g:Nat) (f:zBa) (p:BA) (A A2:Option Addr) (c c2:Nat) (q:Rat) (w:World) (hp:zAw w g f) (h:Nt w A c q.num.natAbs) (h2:Nt w A2 c2 q.den) :
  Calls Tryz.prog 69 #[.map (some g),.string p,raV false A c q.num.natAbs A2 c2 q.den] w (GivesP g (upH f p q) w):=by
 have HX:Hid (Bx (w.alloc (.cells (raC A c q.num.natAbs A2 c2 q.den) 89)) w.heap.size (raC A c q.num.natAbs A2 c2 q.den) 89):=Bx.new _ _ _;have HB:Hid (Below w.heap.size w (w.alloc (.cells (raC A c q.num.natAbs A2 c2 q.den) 89))):=(aN _ _).alloc (aC _) _;obtain ⟨W,hW⟩:∃ W,W=w.alloc (.cells (raC A c q.num.natAbs A2 c2 q.den) 89):=⟨_,rfl⟩;rw [←hW] at HX HB;have HPM:=zq (hp.below HB.o);have HNV:Hid (NumV W (raV false A c q.num.natAbs A2 c2 q.den) q):=⟨A,c,A2,c2,rfl,h.below HB.o,h2.below HB.o⟩;have HS:=zq (RSign_c false A A2 c c2 q.num.natAbs q.den W);clear hp h h2
 go_enter Tryz.func69,Tryz.ntmps69
 go_upto_region 1 with fail
 rw [←hW];clear hW;obtain ⟨a0,a1,a2⟩:=HX.o.t;have hsx:=HX.o.lt
 go_wp2_with fail
 with_reducible refine HS.o.mono ?_
 rintro e w1 ⟨rfl,hb1⟩;have HX1:=zq (HX.o.below hb1);have HB1:=zq (zAa HB.o hb1);have HPM1:=zq (HPM.o.below hb1);have HNV1:=zq (HNV.o.below hb1);clear a0 a1 a2 hsx hb1 HX HB HPM HNV HS
 by_cases hq:q=0
 ·have hs:=sgn_zero q hq
  obtain ⟨w2,hr,hp2,hg2,hs2⟩:=run_del HPM1.o p 0;have HG:Hid (w.grownBy w2 (some g)):=(zAH HB1.o _).trans hg2;have HP2:Hid (zAw w2 g (upH f p q)):=by rw [hq];exact hp2
  clear hp2 hg2 hs2 hq;go_wp2;exact dL (v:=.tuple #[]) (by simp [results,Tryz.results69,go_sem]) rfl ⟨rfl,HP2.o,HG.o⟩
 ·have hs:=sgn_pos q hq
  obtain ⟨w2,hr,hp2,hg2,hs2⟩:=run_put HPM1.o p _ q HNV1.o hq;have HG:Hid (w.grownBy w2 (some g)):=(zAH HB1.o _).trans hg2;have HP2:=zq hp2;obtain ⟨a0,a1,a2⟩:=HX1.o.t;have hsx:=HX1.o.lt;clear hp2 hg2 hs2 hq;go_wp2;exact dL (v:=.tuple #[]) (by simp [results,Tryz.results69,go_sem]) rfl ⟨rfl,HP2.o,HG.o⟩
theorem zRatV (w:World):(zeroValue 89).run Tryz.prog w = .ok (.agg zBx) w:=zb
theorem of_c (g:Nat) (f:zBa) (p:BA) (w:World) (hp:zAw w g f):Calls Tryz.prog 49 #[.map (some g),.string p] w (zCx (f p) w):=by
 have HZ:Hid (Bx (w.alloc (.cells zBx 89)) w.heap.size zBx 89):=Bx.new _ _ _;have HB:Hid (Below w.heap.size w (w.alloc (.cells zBx 89))):=(aN _ _).alloc (aC _) _;obtain ⟨W,hW⟩:∃ W,W=w.alloc (.cells zBx 89):=⟨_,rfl⟩;rw [←hW] at HZ HB;obtain ⟨F,hF,hFp⟩:=(hp.below HB.o).is;have hlk:=zAn tMapP kStr zRatV hF p true;have HWH:Hid (∀ W,Calls Tryz.prog 34 #[.int .i64 0] W (zCb false 0 1 W)):=fun W=>Whole_c 0 W za
 clear hp hF
 rcases hFp p with ⟨h0,hN⟩ | ⟨h0,v,hN,A,c,A2,c2,rfl,h1,h2⟩
 ·rw [hN] at hlk
  simp only [dR,dZ,eA] at hlk;have HE:=zq h0;clear hN hFp h0
  go_enter Tryz.func49,Tryz.ntmps49
  go_upto_region 1 with fail
  rw [←hW];clear hW
  go_wp2_with fail
  with_reducible refine (HWH.o _).mono ?_
  rintro e w2 ⟨A,c,A2,c2,rfl,h1,h2,hb2⟩;have hba:Below W.heap.size W (W.alloc (.cells zBx 89)):=(aN _ _).alloc (aC _) _;have HZ2:=zq (HZ.o.below (zAa hba hb2));have HB2:=zq (zAa HB.o (zAa hba hb2));have H1:=zq h1;have H2:=zq h2;have zf:=HZ2.o.frozen;have zl:=HZ2.o.lt;obtain ⟨z0,z1,z2⟩:=HZ2.o.t;clear hba hb2 h1 h2;go_wp2;refine dL (v:=raV false A c 0 A2 c2 1) (by simp [results,Tryz.results49,go_sem,z0,z1,z2]) rfl ?_
  unfold zCx;rw [HE.o];exact ⟨A,c,A2,c2,rfl,H1.o.setR HZ2.o _ _ _,H2.o.setR HZ2.o _ _ _,((HB2.o.setCell zd _).setCell zd _).setCell zd _⟩
 ·rw [hN] at hlk
  simp only [dR,eB,eC] at hlk;clear hN hFp h0;have H1:=zq h1;have H2:=zq h2;have zf:=HZ.o.frozen;have zl:=HZ.o.lt;obtain ⟨z0,z1,z2⟩:=HZ.o.t;clear h1 h2
  go_enter Tryz.func49,Tryz.ntmps49
  go_upto_region 1 with fail
  rw [←hW];clear hW;go_wp2;refine dL (v:=raV false A c (f p).num.natAbs A2 c2 (f p).den) (by simp [results,Tryz.results49,go_sem,z0,z1,z2,zl]) rfl ?_
  have hW:=HB.o.size;exact ⟨A,c,A2,c2,rfl,(H1.o.setR HZ.o _ _ _).alloc _,(H2.o.setR HZ.o _ _ _).alloc _,(((HB.o.setCell zd _).setCell zd _).setCell zd _).alloc ze _⟩
theorem tooB_long (q:Rat):tooB q.num.natAbs q.den 2000=zDd q:=by
 unfold tooB zDd;rw [digB_size,digB_size]
 have key:∀ n:Nat,decide (2000<(Lib.decDigits n).length)=decide (10 ^ 2000≤n):=fun n=>by
  have:=dig_len n 2000 za;rw [aA,eU,eU];omega
 rw [key,key]
theorem longQ_zero:zDd 0=false:=by
 unfold zDd;have e1:(0:Rat).num=0:=rfl;have e2:(0:Rat).den=1:=rfl;rw [e1,e2];have:1<10 ^ 2000:=by obtain ⟨b,hb⟩:∃ b,b=2000:=⟨_,rfl⟩;rw [←hb];exact Nat.one_lt_pow za zc
 simp only [Int.natAbs_zero,aI,decide_eq_false_iff_not];omega
theorem anyLong_iff {K:List BA} {f:zBa} (hk:HoldOk K f):zCU K f=true↔∃ p,zDd (f p)=true:=by
 unfold zCU;rw [eF]
 constructor
 ·rintro ⟨p,_,h⟩;exact ⟨p,h⟩
 ·rintro ⟨p,h⟩
  refine ⟨p,?_,h⟩
  refine eQ fun hn=>?_
  rw [hk.out p hn,longQ_zero] at h
  cases h
theorem pr_nocell {w:World} {it r:Nat} {L R:List (BA×Value)} (h:zAU Value.string w it r L R) (o:Nat):w.cell? ⟨it,o,none⟩=none:=by
 obtain ⟨es,clk,since,c0,seen,_,_,_,_,_,h6,_⟩:=h;exact no_iter_cell h6 o
def LgR (w:World) (g:Nat) (f:zBa) (L:List (BA×Value)) (m:Nat) (wr:World):Prop :=
 ∃ R:List (BA×Value),R.length=m∧zAU Value.string wr w.heap.size g L R∧(∀ x∈L,x∈R∨zDd (f x.1)=false)∧(∀ p v,(p,v)∈L→NumV wr v (f p))∧Below w.heap.size w wr
theorem str_inj:∀ a b:BA,Value.string a=Value.string b→a=b:=fun _ _ h=>by injection h
theorem large_c (g:Nat) (K:List BA) (f:zBa) (w:World) (hp:zAw w g f) (hk:HoldOk K f) (hsz:∀ p,SzQ 100000000 (f p)):Calls Tryz.prog 73 #[.map (some g)] w (zAe (.bool (zCU K f)) w):=by
 obtain ⟨L,h1,h2,h3⟩:=hp;obtain ⟨o,hrun,hpr⟩:=zAU.start tMapP h1;have hgl:=h1.lt;have HPR:=zq hpr;have HB0:Hid (Below w.heap.size w (w.alloc o)):=(aN _ _).alloc (aC _) _;have HN0:Hid (∀ p v,(p,v)∈L→NumV (w.alloc o) v (f p)):=fun p v hpv=>(h3 p v hpv).below HB0.o
 have HSZ:=zq hsz;have HK:=zq hk;have H2:=zq h2;obtain ⟨res,hres⟩:∃ res,res=zCU K f:=⟨_,rfl⟩;rw [←hres];have HRE:=zq hres;clear h1 h2 h3 hpr hsz hk hres
 go_enter Tryz.func73,Tryz.ntmps73
 go_wp2;clear hrun
 go_loopg [] L.length (LgR w g f L)
 case atStart=>exact ⟨L,rfl,HPR.o,fun x hx=>.inl hx,HN0.o,HB0.o⟩
 clear HPR HN0 HB0
 case round =>
  obtain ⟨R,hm,hpr,hall,hnv,hb⟩:=hrel;have HM:=zq hm;have HALL:=zq hall;have HNV:=zq hnv;have HB:=zq hb;have HPR:=zq hpr;clear hm hall hnv hb hpr
  rcases zAU.next (P:=Tryz.prog) HPR.o str_inj za 0 with ⟨hR,hnx⟩ | ⟨x,R',w',hperm,hxL,hnx,hen,hpr',hg',hs'⟩
  ·have HF:Hid (false=res):=by
    show _=_
    rw [HRE.o]
    cases ha:zCU K f with
    | false=>rfl
    | true =>
     exfalso
     obtain ⟨p,hp⟩:=(anyLong_iff HK.o).1 ha;have hne:f p≠0:=fun e=>by rw [e,longQ_zero] at hp;cases hp
     obtain ⟨v,hv⟩:=(H2.o p).1 hne
     rcases HALL.o _ hv with h | h
     ·rw [hR] at h;cases h
     ·rw [hp] at h;cases h
   clear hR;go_wp2;go_ret
   exact zAe.mk (by rw [HF.o];rfl) HB.o
  ·obtain ⟨p,v⟩:=x
   obtain ⟨A,c,A2,c2,e,n1,n2⟩:=HNV.o p v hxL;subst e;have HNV1:Hid (∀ p v,(p,v)∈L→NumV w' v (f p)):=fun p v hpv=>(HNV.o p v hpv).grown hg' (pr_nocell HPR.o)
   have HB1:=zq (zBp HB.o HB.o.size hg' (aC _));have HPR1:=zq hpr';have HPM:=zq hperm;have HXL:=zq hxL;have hba:Below w'.heap.size w' (w'.alloc (.cells (raC A c (f p).num.natAbs A2 c2 (f p).den) 89)):=(aN _ _).alloc (aC _) _;have HBA:=zq hba;obtain ⟨A',c',A2',c2',e',m1,m2⟩:=HNV1.o p _ hxL
   injection e' with e'
   injection e' with e'
   have e0:=bA (fun l:List Value=>l[1]?) e'
   have e1:=bA (fun l:List Value=>l[2]?) e'
   simp only [List.getElem?_cons_succ,List.getElem?_cons_zero,dV,dF,true_and] at e0 e1;obtain ⟨rfl,rfl⟩:=e0;obtain ⟨rfl,rfl⟩:=e1
   have HRT:Hid (Calls Tryz.prog 74 #[raV false A c (f p).num.natAbs A2 c2 (f p).den,.int .i64 2000] (w'.alloc (.cells (raC A c (f p).num.natAbs A2 c2 (f p).den) 89)) (zAe (raOut (f p).num.natAbs (f p).den 2000) (w'.alloc (.cells (raC A c (f p).num.natAbs A2 c2 (f p).den) 89)))) :=
    Ratio_c A A2 c c2 (f p).num.natAbs (f p).den 2000 _ (m1.below hba) (m2.below hba) (HSZ.o p).1.1 (HSZ.o p).2.1
   have HTL:=zq (tooB_long (f p));have HRO:Hid (raOut (f p).num.natAbs (f p).den 2000=if tooB (f p).num.natAbs (f p).den 2000=true then .tuple #[.agg #[.string ⟨#[]⟩,.string ⟨#[]⟩],.bool false] else .tuple #[.agg #[.string (digB (f p).num.natAbs),.string (digB (f p).den)],.bool true]):=rfl
   generalize raOut (f p).num.natAbs (f p).den 2000=ro at *;clear hperm hxL hpr' hg' hs' n1 n2 m1 m2 hba e'
   go_wp2_with fail
   with_reducible refine HRT.o.mono ?_
   rintro e w2 ⟨rfl,hb2⟩;have HB2:=zq (zAa HBA.o hb2);clear hb2 HRT
   cases hq:zDd (f p) with
   | true =>
    have hro:ro = .tuple #[.agg #[.string ⟨#[]⟩,.string ⟨#[]⟩],.bool false]:=by rw [HRO.o,aF (HTL.o.trans hq)]
    have HF:Hid (true=res):=by
     show _=_
     rw [HRE.o];exact ((anyLong_iff HK.o).2 ⟨p,hq⟩).symm
    have HB3:=zq (HB1.o.trans (HB2.o.mono HB1.o.size));subst hro;clear hq;go_wp2;go_ret
    exact zAe.mk (by rw [HF.o];rfl) (HB3.o.alloc HB3.o.size _)
   | false =>
    have hro:ro = .tuple #[.agg #[.string (digB (f p).num.natAbs),.string (digB (f p).den)],.bool true]:=by rw [HRO.o,aD (by rw [HTL.o,hq];simp)]
    have HLQ:=zq hq;subst hro;clear hq;have HB3:=zq (HB2.o.alloc HB2.o.size (.cells #[.string (digB (f p).num.natAbs),.string (digB (f p).den)] 40));go_wp2
    go_roundg R'.length
    case measure=>have h1:=HPM.o.length_eq;have h2:=HM.o;rw [aR] at h1;omega
    case rel =>
     refine ⟨R',rfl,HPR1.o.below HB3.o,fun y hy=>?_,fun p v hpv=>(HNV1.o p v hpv).below HB3.o,HB1.o.trans (HB3.o.mono HB1.o.size)⟩
     rcases HALL.o y hy with h | h
     ·rcases List.mem_cons.1 (HPM.o.mem_iff.1 h) with h | h
      ·exact .inr (by rw [h];exact HLQ.o)
      ·exact .inl h
     ·exact .inr h
theorem szN_le {k n m:Nat} (h:SzN k m) (hn:n≤m):SzN k n:=⟨cU (zAI zAo hn) h.1,cU (zAI BT_gt hn) h.2⟩
theorem szQ_le {q:Rat} {M k:Nat} (h0:0≤q) (h1:q≤1) (hd:q.den∣M) (hz:M≠0) (hM:SzN k M):SzQ k q:=by
 have h2:=(Rat.le_iff q 1).1 h1;have h3:=Rat.num_nonneg.2 h0;have h4:=Nat.le_of_dvd (Nat.pos_of_ne_zero hz) hd;have h5:q.num≤q.den:=by simpa using h2
 exact ⟨szN_le hM za,szN_le hM h4⟩
theorem HoldB.sz {N:List BA} {M k:Nat} {f:zBa} (h:HoldB N M f) (hM:SzN k M) (p:BA):SzQ k (f p):=szQ_le (h.ok.pos p) (h.le p) (h.den p) h.nz hM
theorem posB_neg {nu:BA} (h:posB nu=true):negB nu=false:=by
 unfold posB at h
 cases hn:negB nu with
 | false=>rfl
 | true=>rw [hn] at h;simp at h
theorem sgB_pos {nu:BA} (h:posB nu=true):sgB nu=false:=by unfold sgB;rw [posB_neg h];rfl
theorem ratQ_sz {nu de:BA} (h:ratF nu de=0):SzQ 2000 (zCX nu de):=by
 have e:=ratF_prQ h;obtain ⟨h1,h2,h3,h4,h5⟩:=zCt h;have e1:zAF (zBj nu)=(zCX nu de).num.natAbs:=bA Prod.fst e;have e2:zAF de=(zCX nu de).den:=bA Prod.snd e
 have key:∀ s:BA,numB s=true→s.size≤2000→zAF s<10 ^ 2000:=fun s hs hl=>by
  obtain ⟨q,hq⟩:∃ q,q=2000:=⟨_,rfl⟩;rw [←hq] at hl ⊢;refine cY (decV_dg (zBf hs).1) (bP zc ?_)
  simpa using hl
 exact ⟨by rw [←e1];exact szN_of (key _ h1 h4),by rw [←e2];exact szN_of (key _ h2 h5)⟩
theorem FromQ_c (nu de:BA) (w:World) (h:ratF nu de=0) (hp:posB nu=true):Calls Tryz.prog 70 #[.agg #[.string nu,.string de]] w (zCx (zCX nu de) w):=by
 obtain ⟨h1,h2,h3,h4,h5⟩:=zCt h;have:=From_c nu de w (zBf h1).1 h4 (zBf h2).1 h5;rw [sgB_pos hp] at this;have e:=ratF_prQ h;have e1:zAF (zBj nu)=(zCX nu de).num.natAbs:=bA Prod.fst e;have e2:zAF de=(zCX nu de).den:=bA Prod.snd e;rw [e1,e2] at this;exact this
section
variable (A A2 A3 A4:Option Addr) (c c2 c3 c4:Nat) (a b:Rat) (w:World)
theorem MulQ_c (h:Nt w A c a.num.natAbs) (h2:Nt w A2 c2 a.den) (h3:Nt w A3 c3 b.num.natAbs) (h4:Nt w A4 c4 b.den) (ha:0≤a) (hb:0≤b) (sa:SzQ 100000000 a) (sb:SzQ 100000000 b) :
  Calls Tryz.prog 113 #[raV false A c a.num.natAbs A2 c2 a.den,raV false A3 c3 b.num.natAbs A4 c4 b.den] w (zCx (a*b) w):=by
 have:=RMul_c A A2 A3 A4 c c2 c3 c4 a.num.natAbs a.den b.num.natAbs b.den w h h2 h3 h4 sa.1.1 sa.2.1 sb.1.1 sb.2.1 (den_q a) (den_q b);rw [show (a.num.natAbs,a.den)=prQ a from rfl,show (b.num.natAbs,b.den)=prQ b from rfl,mulP_q ha hb] at this
 exact this
theorem AddQ_c (h:Nt w A c a.num.natAbs) (h2:Nt w A2 c2 a.den) (h3:Nt w A3 c3 b.num.natAbs) (h4:Nt w A4 c4 b.den) (ha:0≤a) (hb:0≤b) (sa:SzQ 100000000 a) (sb:SzQ 100000000 b) :
  Calls Tryz.prog 75 #[raV false A c a.num.natAbs A2 c2 a.den,raV false A3 c3 b.num.natAbs A4 c4 b.den] w (zCx (a+b) w):=by
 have:=RAdd_c A A2 A3 A4 c c2 c3 c4 a.num.natAbs a.den b.num.natAbs b.den w h h2 h3 h4 sa.1.1 sa.2.1 sb.1.1 sb.2.1 (den_q a) (den_q b);rw [show (a.num.natAbs,a.den)=prQ a from rfl,show (b.num.natAbs,b.den)=prQ b from rfl,addP_q ha hb] at this
 exact this
theorem SubQ_c (h:Nt w A c a.num.natAbs) (h2:Nt w A2 c2 a.den) (h3:Nt w A3 c3 b.num.natAbs) (h4:Nt w A4 c4 b.den) (hb:0≤b) (hle:b≤a) (sa:SzQ 100000000 a) (sb:SzQ 100000000 b) :
  Calls Tryz.prog 114 #[raV false A c a.num.natAbs A2 c2 a.den,raV false A3 c3 b.num.natAbs A4 c4 b.den] w (zCx (a - b) w):=by
 have:=RSub_c A A2 A3 A4 c c2 c3 c4 a.num.natAbs a.den b.num.natAbs b.den w h h2 h3 h4 sa.1.1 sa.2.1 sb.1.1 sb.2.1 (den_q a) (den_q b) (le_q hb hle);rw [show (a.num.natAbs,a.den)=prQ a from rfl,show (b.num.natAbs,b.den)=prQ b from rfl,subP_q hb hle] at this
 exact this
end
section
variable {w w':World} {g b:Nat} {f:zBa} {cs:Array Value} {T:TypeId} {A:Option Addr} {l:List Sh}
theorem zAw.ne (h:zAw w g f) (hb:Bx w b cs T):b≠g:=fun e=>by
 obtain ⟨L,⟨es,clk,h1,_⟩,_⟩:=h;subst e;unfold Bx at hb;rw [h1] at hb
 cases hb
theorem Bx.parts (hb:Bx w b cs T) (h:zAw w g f) (hg:w.grownBy w' (some g)):Bx w' b cs T:=by
 show w'.heap[b]?=_
 rw [hg.block b hb.lt (by simp;exact h.ne hb)]
 exact hb
theorem cell_parts {k o:Nat} {v:Value} (h:zAw w g f) (hg:w.grownBy w' (some g)) (hc:w.cell? ⟨k,o,none⟩=some v):w'.cell? ⟨k,o,none⟩=some v :=
 hg.cell hc fun e=>by
  injection e with e
  have:=h.nocell o;rw [←e] at this;rw [this] at hc
  cases hc
theorem Shs.parts (hs:Shs w A l) (h:zAw w g f) (hg:w.grownBy w' (some g)):Shs w' A l:=fun hl=>by
 obtain ⟨b,o,e,hc⟩:=hs hl;exact ⟨b,o,e,fun i hi=>⟨cell_parts h hg (hc i hi).1,cell_parts h hg (hc i hi).2.1,cell_parts h hg (hc i hi).2.2⟩⟩
theorem Nt.parts {c n:Nat} (hn:Nt w A c n) (h:zAw w g f) (hg:w.grownBy w' (some g)):Nt w' A c n:=by
 refine ⟨fun hl=>?_,hn.cap⟩
 obtain ⟨b,o,e,hc⟩:=hn.rd hl;exact ⟨b,o,e,fun i hi=>cell_parts h hg (hc i hi)⟩
end
end Go.Proofs.YtieoifkdobcpiaaGreatDoor
