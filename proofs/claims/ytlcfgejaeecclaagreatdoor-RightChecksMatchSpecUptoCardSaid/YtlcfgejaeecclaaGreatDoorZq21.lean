/- Parts of the proof, joined: append(v, xs...) at elements of k cells; rows that read as lists of k . -/
import Derived.Ground.Names8Prog
import Derived.Shelf.Spec.SlicesGrow
import Derived.Shelf.SlGeneric
import Derived.Test.YtlcfgejaeecclaaGreatDoorZq18
set_option maxRecDepth 100000
set_option maxHeartbeats 8000000
namespace Dw
open Go Go.RowKit
def RdK {α : Type} (enc : α → List Value) (w : World) (A : Option Addr) (l : List α) : Prop :=
 0 < l.length → ∃ b o : Nat, A = some ⟨b, o, none⟩ ∧ ∀ j v, (l.flatMap enc)[j]? = some v → w.cell? ⟨b, o + j, none⟩ = some v
theorem flat_cells {α : Type} {enc : α → List Value} {k : Nat} (hk : ∀ x, (enc x).length = k) {w : World} {b : Nat} : ∀ (l : List α) (o : Nat),
  (∀ i (h : i < l.length) c v, (enc l[i])[c]? = some v → w.cell? ⟨b, o + i * k + c, none⟩ = some v) → ∀ j v, (l.flatMap enc)[j]? = some v → w.cell? ⟨b, o + j, none⟩ = some v
 | [], _, _, j, v, h => by simp at h
 | a :: t, o, hc, j, v, h => by
  rw [List.flatMap_cons] at h
  by_cases hj : j < k
  ·rw [List.getElem?_append_left (by rw [hk]; exact hj)] at h
   have := hc 0 (by simp) j v h
   simpa using this
  ·rw [List.getElem?_append_right (by rw [hk]; omega), hk] at h
   have := flat_cells hk t (o + k) (fun i hi c u hu => by
    have h2 := hc (i + 1) (by simp; omega) c u (by simpa using hu)
    rwa [show o + (i + 1) * k + c = o + k + i * k + c by rw [Nat.add_mul]; omega] at h2) (j - k) v h
   rwa [show o + k + (j - k) = o + j by omega] at this
theorem flat_len {α : Type} {enc : α → List Value} {k : Nat} (hk : ∀ x, (enc x).length = k) : ∀ (l : List α), (l.flatMap enc).length = l.length * k
 | [] => by simp
 | a :: t => by rw [List.flatMap_cons, List.length_append, hk, flat_len hk t, List.length_cons, Nat.add_mul]; omega
theorem flat_at {α : Type} {enc : α → List Value} {k : Nat} (hk : ∀ x, (enc x).length = k) : ∀ (l : List α) (i : Nat) (h : i < l.length) (c : Nat), c < k → (l.flatMap enc)[i * k + c]? = (enc l[i])[c]?
 | [], i, h, _, _ => by simp at h
 | a :: t, 0, _, c, hc => by
  rw [List.flatMap_cons, List.getElem?_append_left (by rw [hk]; omega)]; simp
 | a :: t, i + 1, h, c, hc => by
  rw [List.flatMap_cons, List.getElem?_append_right (by rw [hk, Nat.add_mul]; omega), hk, show (i + 1) * k + c - k = i * k + c by rw [Nat.add_mul]; omega, flat_at hk t i (by simpa using h) c hc]
  simp
theorem addN (b o j : Nat) : (⟨b, o, none⟩ : Addr).add j = ⟨b, o + j, none⟩ := by unfold Addr.add; split <;> simp_all
theorem wpList_pushK {P : Program} {α : Type} {enc : α → List Value} {k : Nat} (hk : ∀ x, (enc x).length = k) (hf : ∀ x, ∀ u ∈ enc x, u.oneCell' = true) {ops : Array Oper} {rest : List Oper} {o : Oper} {a : Act} {w : World} {Q : Exit → Act → World → Prop}
  {e : TypeId} {z : Value} {bytes : Nat} (s x : Operand) (t : TypeId) (hT : ElemT P t e z k bytes) (hgd : o.guard = none) (ho : o.op = .call { callee := .builtin .append, args := #[s, x], argTypes := #[t, t] })
  (base : Nat) (v : Value) (l : List α) (hs : a.eval s = v) (hown : OwnL enc k w base e v l)
  (A : Option Addr) (m cp : Nat) (ys : List α) (hm : m = ys.length) (hx : a.eval x = .slice A m cp) (hr : RdK enc w A ys) (hA : A ≠ none ∨ ys = [])
  (hlen : l.length + ys.length ≤ maxLen) (hbytes : (l.length + ys.length) * bytes ≤ 140737488355328) (hbase : base ≤ w.heap.size)
  (h : ∀ v' w', OwnL enc k w' base e v' (l ++ ys) → w.grownBy w' v.ownBlock → Below base w w' → (v'.ownBlock = v.ownBlock ∨ v'.ownBlock = some w.heap.size) → wpList P ops Q rest (a.put o.dst v') w') : wpList P ops Q (o :: rest) a w := by
 obtain ⟨i, hi, hz0, hz1, hz2⟩ := info_parts hT.info
 subst hm
 have hfin : ∀ v' w', w'.ownsRow base e k v' (l.length + ys.length) (l.flatMap enc ++ ys.flatMap enc) → OwnL enc k w' base e v' (l ++ ys) := fun v' w' h1 => by
  unfold OwnL
  rw [List.length_append, List.flatMap_append]
  exact h1
 have hbel : ∀ w', w.grownBy w' v.ownBlock → Below base w w' := fun w' hg => (Below.refl _ _).grown hg hbase fun j hj => (World.ownsRow.lt hown j hj).1
 cases A with
 | none =>
  have hy : ys = [] := hA.resolve_left (fun h => h rfl)
  subst hy
  refine wpList_plain hgd fun _ hK => ?_
  have hrun : (Builtin.append_ #[t, t] o.type #[v, .slice none 0 cp]).run P w = .ok v w := by
   rcases hown.2 with ⟨rfl, _⟩ | ⟨g, cap, cur, rfl, _, _, hnc, _⟩
   ·simp [Builtin.append_, run_underlying hT.ty, Go.sizeOf, typeInfo, hi, Builtin.lenOf, Builtin.firstCells]
   ·simp [Builtin.append_, run_underlying hT.ty, Go.sizeOf, typeInfo, hi, Builtin.lenOf, Builtin.firstCells, hnc, storeCells]
  unfold Oper.wp execOp
  simp only [List.length_nil] at hx
  simp only [ho, resolve, invoke, builtin, Sem.run_bind, Sem.run_pure, Result.andThen_ok, List.map_toArray, List.map_cons, List.map_nil, hs, hx, hrun]
  exact hK _ _ (h v w (by simpa using hown) (World.grownBy.refl w _) (hbel w (World.grownBy.refl w _)) (.inl rfl))
 | some ad =>
  refine wpList_append_own_at _ hgd s x t ho base e i z k bytes hT.ty hi hz0 hz1 hz2 hT.zs hT.pos v l.length _ hs hown ad ys.length cp (ys.flatMap enc) hx (flat_len hk ys) ?_ ?_ hlen hbytes hbase ?_
  ·intro j u hj
   have hjl : 0 < ys.length := by
    refine Nat.pos_of_ne_zero fun e => ?_
    rw [List.eq_nil_of_length_eq_zero e] at hj
    simp at hj
   obtain ⟨b, o, h1, hc⟩ := hr hjl
   injection h1 with h1
   subst h1
   rw [addN]
   exact hc j u hj
  ·intro u hu
   obtain ⟨y, _, hy⟩ := List.mem_flatMap.1 hu
   exact hf y u hy
  ·intro v' w' h1 h2 _ h4
   exact h v' w' (hfin v' w' h1) h2 (hbel w' h2) h4
theorem OwnL.rdk {α : Type} {enc : α → List Value} {k : Nat} {w : World} {base : Nat} {e : TypeId} {v : Value} {l : List α} (h : OwnL enc k w base e v l) : ∃ A c, v = .slice A l.length c ∧ RdK enc w A l := by
 rcases h.2 with ⟨rfl, hn⟩ | ⟨g, cap, cur, rfl, hb, hgg, hnc, _, hsz, htake⟩
 ·exact ⟨none, 0, by rw [hn], fun hl => by omega⟩
 ·refine ⟨_, _, rfl, fun _ => ⟨g, 0, rfl, fun j v hv => ?_⟩⟩
  rw [← htake, List.getElem?_take] at hv
  split at hv
  ·rw [Nat.zero_add, cell_of_row w g j _ _ _ hgg]
   simpa using hv
  ·cases hv
section
variable {w : World} {A : Option Addr}
theorem RdK.of1 {α : Type} {f : α → Value} {l : List α} (h : Rd1 f w A l) : RdK (fun x => [f x]) w A l := fun hl => by
 obtain ⟨b, o, rfl, hc⟩ := h hl
 refine ⟨b, o, rfl, flat_cells (k := 1) (fun _ => rfl) l o fun i hi c v hv => ?_⟩
 match c, hv with
 | 0, hv => simp at hv; subst hv; rw [Nat.mul_one, Nat.add_zero]; exact hc i hi
theorem RdK.of2 {α : Type} {f g : α → Value} {l : List α} (h : Rd2 f g w A l) : RdK (fun x => [f x, g x]) w A l := fun hl => by
 obtain ⟨b, o, rfl, hc⟩ := h hl
 refine ⟨b, o, rfl, flat_cells (k := 2) (fun _ => rfl) l o fun i hi c v hv => ?_⟩
 match c, hv with
 | 0, hv => simp at hv; subst hv; exact (hc i hi).1
 | 1, hv => simp at hv; subst hv; exact (hc i hi).2
end
end Dw
namespace Go.Proofs.YtlcfgejaeecclaaGreatDoor
open Go.RowKit Dw
theorem OwnL.base {α : Type} {enc : α → List Value} {k : Nat} {w : World} {b b' : Nat} {e : TypeId} {v : Value} {l : List α} (h : OwnL enc k w b e v l) (hb : b' ≤ b) : OwnL enc k w b' e v l := by
 refine ⟨h.1, ?_⟩
 rcases h.2 with hn | ⟨g, cap, cur, hv, hg, rest⟩
 ·exact .inl hn
 ·exact .inr ⟨g, cap, cur, hv, by omega, rest⟩
theorem step_pushB {P : Program} {w : World} {α : Type} {enc : α → List Value} {k : Nat} {e : TypeId} {z : Value} {bytes : Nat} {ops : Array Oper} {o : Oper} {a : Act} {K : Act → World → Prop} {Q : Exit → Act → World → Prop} {E : Prop} (hgd : o.guard = none) (s x : Operand) (t : TypeId)
  (ho : o.op = .call { callee := .builtin .append, args := #[s, x], argTypes := #[t, t] }) (hT : ElemT P t e z k bytes) (base : Nat) (v : Value) (l : List α) (hs : a.eval s = v) (hown : OwnL enc k w base e v l)
  (bk c : Nat) (y : α) (hx : a.eval x = .slice (some ⟨bk, 0, none⟩) 1 c) {cs : Array Value} {T : TypeId} {fr : Nat × Nat} (hblk : w.heap[bk]? = some (.cells cs T fr)) (hcs : cs.toList = enc y) (hk : (enc y).length = k) (hone : ∀ u ∈ enc y, u.oneCell' = true)
  (hlen : l.length + 1 ≤ maxLen) (hbytes : (l.length + 1) * bytes ≤ 140737488355328) (hbase : base ≤ w.heap.size)
  (h : ∀ g cap w', OwnL enc k w' base e (.slice (some ⟨g, 0, none⟩) (l.length + 1) cap) (l ++ [y]) → w.grownBy w' v.ownBlock → K (a.put o.dst (.slice (some ⟨g, 0, none⟩) (l.length + 1) cap)) w') :
  if Region.wanted o (yielded ops a.tmps) = true then Oper.wp P o a w K Q else E := by
 obtain ⟨i, hi, hz0, hz1, hz2⟩ := info_parts hT.info
 refine step_append_lies w hgd s x t ho base e i z k bytes hT.ty hi hz0 hz1 hz2 hT.zs hT.pos v l.length (l.flatMap enc) hs hown ⟨bk, 0, none⟩ 1 c (enc y) hx (by rw [hk, Nat.one_mul]) ?_ hone (by omega) hlen hbytes hbase w.heap.size rfl ?_
 ·rw [← hcs]; exact World.news_of_block hblk
 ·intro g cap w' h1 h2 _ _
  refine h g cap w' ?_ h2
  unfold OwnL
  rw [List.length_append, List.flatMap_append]
  simpa using h1
theorem own_ne_type {α β : Type} {enc : α → List Value} {enc2 : β → List Value} {k k2 b b2 : Nat} {e e2 : TypeId} {w : World} {v v2 : Value} {l : List α} {l2 : List β} (h : OwnL enc k w b e v l) (h2 : OwnL enc2 k2 w b2 e2 v2 l2) (hne : e ≠ e2) : v.ownBlock = none ∨ v.ownBlock ≠ v2.ownBlock := by
 cases hv : v.ownBlock with
 | none => exact .inl rfl
 | some q =>
  refine .inr fun he => ?_
  obtain ⟨_, cs, hc⟩ := own_row h hv
  obtain ⟨_, cs2, hc2⟩ := own_row h2 he.symm
  exact cells_ne hc hc2 hne rfl
theorem own_ne_mapJ {α : Type} {enc : α → List Value} {k b : Nat} {e : TypeId} {w : World} {v : Value} {l : List α} (h : OwnL enc k w b e v l) {r : Nat} {f : ByteArray → Option Value} (hm : MapIs Value.string w r f) : v.ownBlock = none ∨ v.ownBlock ≠ some r := by
 cases hv : v.ownBlock with
 | none => exact .inl rfl
 | some q =>
  refine .inr fun he => ?_
  obtain ⟨_, cs, hc⟩ := own_row h hv
  injection he with he
  exact map_ne_cells hm hc he
theorem own_far {α : Type} {enc : α → List Value} {k b : Nat} {e : TypeId} {w : World} {v : Value} {l : List α} (h : OwnL enc k w b e v l) {g : Nat} {cs : Array Value} {t : TypeId} (hg : Bx w g cs t) (ht : e ≠ t) (i : Nat) (u : Value) : OwnL enc k (w.setCell ⟨g, i, none⟩ u) b e v l :=
 ownsRow_setCell_other h (fun e2 => by
  obtain ⟨_, cs2, hcs⟩ := own_row h e2
  exact cells_ne hcs hg ht rfl) u
end Go.Proofs.YtlcfgejaeecclaaGreatDoor
namespace Go.Proofs
open Go.Shelf
def Tryz.grow52_ren : Go.Shelf.Ren := ⟨fun | 4 => 52 | n => n, fun | 22 => 24 | 25 => 54 | 3 => 3 | 4 => 4 | 9 => 9 | 20 => 20 | 0 => 0 | n => n, fun | n => n⟩
theorem Tryz.grow52 : Go.Proofs.Lays8.n4 Tryz.prog Tryz.grow52_ren := {
 mixed := by kernel_rfl
 f4 := ⟨Tryz.f52.name, by decide, Tryz.func52.trans (congrArg some (by kernel_rfl))⟩
 t0 := Tryz.underlying0
 a0 := Tryz.isAgg0
 z0 := Tryz.sizeOf0
 v0 := Tryz.zeroValue0
 t3 := Tryz.underlying3
 a3 := Tryz.isAgg3
 z3 := Tryz.sizeOf3
 v3 := Tryz.zeroValue3
 t4 := Tryz.underlying4
 a4 := Tryz.isAgg4
 z4 := Tryz.sizeOf4
 v4 := Tryz.zeroValue4
 t9 := Tryz.underlying9
 a9 := Tryz.isAgg9
 z9 := Tryz.sizeOf9
 v9 := Tryz.zeroValue9
 t20 := Tryz.underlying20
 a20 := Tryz.isAgg20
 z20 := Tryz.sizeOf20
 v20 := Tryz.zeroValue20
 t22 := Tryz.underlying24
 a22 := Tryz.isAgg24
 z22 := Tryz.sizeOf24
 v22 := Tryz.zeroValue24 }
end Go.Proofs
namespace Go.Proofs.YtlcfgejaeecclaaGreatDoor
open Go.Shelf Go.RowKit Go.Lib Dw
abbrev eD : De → List Value := fun d => (deC d).toList
theorem elKD : ElemT Tryz.prog 24 54 (.agg (deC zDe)) 16 224 := ⟨Tryz.underlying24, by kernel_rfl, rfl, by decide⟩
theorem oneD (x : De) : ∀ u ∈ eD x, u.oneCell' = true := by simp [Value.oneCell']
def GivesGr (w : World) (e : Ending) (w' : World) : Prop := ∃ v, e = .returned v ∧ OwnL eD 16 w' w.heap.size 54 v ([] : List De) ∧ Below w.heap.size w w'
theorem growE_c (n : Nat) (w : World) (hn : n ≤ 1000000) : Calls Tryz.prog 52 #[.slice none 0 0, .int .i64 (n : Int)] w (GivesGr w) := by
 rcases Nat.eq_zero_or_pos n with h0 | h0
 ·subst h0
  have h := Any8.slices_Grow_room Tryz.grow52 none 0 0 0 w (Nat.le_refl _) (by omega) (by omega) (Nat.le_refl _)
  change Calls Tryz.prog 52 _ _ _ at h
  exact h.mono fun e w' ⟨he, hw⟩ => ⟨_, he, OwnL.nil _ _ _ _ _, by rw [hw]; exact Below.refl _ _⟩
 ·obtain ⟨i0, hi, hz0, hz1, hz2⟩ := info_parts elKD.info
  have h := Any8.slices_Grow_grow Tryz.grow52 i0 (.agg (deC zDe)) hi hz0 (by rw [hz1]; decide) none 0 0 n [] w (Nat.le_refl _) (by omega) (by rw [hz2]; omega) (by omega) (by simp) (fun _ => rfl) (fun a ha => by cases ha)
  change Calls Tryz.prog 52 _ _ _ at h
  refine h.mono fun e w' ⟨he, hw⟩ => ⟨_, he, ?_, ?_⟩
  ·have hge := grownCap_ge w (0 + n) 0 54
   have hcm : grownCap w (0 + n) 0 54 ≤ maxLen := grownCap_le_maxLen w (0 + n) 0 54 (by unfold maxLen; omega)
   refine ⟨by simp, .inr ⟨w.heap.size, _, _, rfl, Nat.le_refl _, by rw [hw]; exact heap_alloc_new w.drew _, by simp, hcm, ?_, by simp⟩⟩
   show (([] : List Value).toArray ++ Builtin.zeroCells (Value.cells (.agg (deC zDe))) (0 + n - 0) ++ Builtin.zeroCells (Value.cells (.agg (deC zDe))) (grownCap w (0 + n) 0 54 - (0 + n))).size = grownCap w (0 + n) 0 54 * 16
   have hsz : (Value.cells (.agg (deC zDe))).size = 16 := rfl
   rw [Array.size_append, Array.size_append, size_zeroCells, size_zeroCells, hsz]
   generalize grownCap w (0 + n) 0 54 = gc at *
   simp
   omega
  ·rw [hw]; exact below_drewN ((Below.refl _ _).alloc (Nat.le_refl _) _) 1
theorem Des.rdk {w : World} {A : Option Addr} {l : List De} (h : Des w A l) : RdK eD w A l := fun hl => by
 obtain ⟨b, o, rfl, _, hc⟩ := h hl
 refine ⟨b, o, rfl, flat_cells (k := 16) (fun _ => rfl) l o fun i hi c v hv => ?_⟩
 exact (hc i hi).1 c v hv
theorem Des.some {w : World} {A : Option Addr} {l : List De} (h : Des w A l) : A ≠ none ∨ l = [] := by
 rcases Nat.eq_zero_or_pos l.length with h0 | h0
 ·exact .inr (List.eq_nil_of_length_eq_zero h0)
 ·obtain ⟨b, o, rfl, _⟩ := h h0
  exact .inl (by simp)
def catTo (l1 l2 : List De) : Nat → List De
 | 0 => []
 | 1 => l1
 | _ => l1 ++ l2
def GivesCat (l1 l2 : List De) (w : World) (e : Ending) (w' : World) : Prop := ∃ v, e = .returned v ∧ OwnL eD 16 w' w.heap.size 54 v (l1 ++ l2) ∧ Below w.heap.size w w'
def CatRel1 (w : World) (l1 l2 : List De) (m : Nat) (sz i : Value) (wr : World) : Prop := wr = w ∧ ∃ k : Nat, k + m = 2 ∧ i = .int .i64 k ∧ sz = .int .i64 ((catTo l1 l2 k).length : Int)
def CatRel2 (w : World) (l1 l2 : List De) (m : Nat) (v i : Value) (wr : World) : Prop := ∃ k : Nat, k + m = 2 ∧ i = .int .i64 k ∧ OwnL eD 16 wr w.heap.size 54 v (catTo l1 l2 k) ∧ Below w.heap.size w wr
theorem concatE_c (g : Nat) (A1 A2 : Option Addr) (c1 c2 : Nat) (l1 l2 : List De) (w : World) (hg : w.cell? ⟨g, 0, none⟩ = some (.slice A1 l1.length c1) ∧ w.cell? ⟨g, 1, none⟩ = some (.slice A2 l2.length c2)) (h1 : Des w A1 l1) (h2 : Des w A2 l2) (hn : l1.length ≤ 200 ∧ l2.length ≤ 200) :
  Calls Tryz.prog 24 #[.slice (some ⟨g, 0, none⟩) 2 2] w (GivesCat l1 l2 w) := by
 obtain ⟨hg0, hg1⟩ := hg
 obtain ⟨hn1, hn2⟩ := hn
 have hgl := World.block_lt_of_cell? w _ hg0
 have H1 := zq h1
 have H2 := zq h2
 clear h1 h2
 go_enter Tryz.func24, Tryz.ntmps24
 go_wp2
 go_loopg [3, 11] 2 (CatRel1 w l1 l2)
 case atStart => exact ⟨rfl, 0, by omega, rfl, rfl⟩
 case round =>
  obtain ⟨hw, k, hk, rfl, rfl⟩ := hrel
  subst hw
  have hk3 : k = 0 ∨ k = 1 ∨ k = 2 := by omega
  rcases hk3 with rfl | rfl | rfl
  ·have hsz : ((catTo l1 l2 0).length : Int) = 0 := rfl
   have hnn : ¬ ((l1.length : Int) < 0) := by omega
   go_wp2
   go_roundg (gk - 1)
   case measure => omega
   case rel => exact ⟨rfl, 1, by omega, by go_num, by simp [catTo]⟩
  ·have hsz : ((catTo l1 l2 1).length : Int) = (l1.length : Int) := rfl
   have hnn : ¬ ((l1.length : Int) + (l2.length : Int) < 0) := by omega
   go_wp2
   go_roundg (gk - 1)
   case measure => omega
   case rel => exact ⟨rfl, 2, by omega, by go_num, by simp [catTo]⟩
  ·have hsz : ((catTo l1 l2 2).length : Int) = ((l1.length + l2.length : Nat) : Int) := by simp [catTo]
   rw [hsz]
   obtain ⟨w5, hw5⟩ : ∃ w5 : World, w5 = wr := ⟨_, rfl⟩
   subst hw5
   have HG := zq (growE_c (l1.length + l2.length) w5 (by omega))
   generalize l1.length + l2.length = nn at *
   go_wp2_with fail
   with_reducible refine HG.out.mono ?_
   rintro e w2 ⟨v, rfl, hov, hb2⟩
   have HO := zq hov
   have HB := zq hb2
   clear hov hb2 HG
   go_wp2
   go_loopg [6, 27] 2 (CatRel2 w5 l1 l2)
   case atStart => exact ⟨0, by omega, rfl, HO.out, HB.out⟩
   clear HO HB
   case round =>
    obtain ⟨k, hk, rfl, hov, hb2⟩ := hrel
    have HO := zq hov
    have HB := zq hb2
    have hk3 : k = 0 ∨ k = 1 ∨ k = 2 := by omega
    have hgr : g < wr.heap.size := Nat.lt_of_lt_of_le hgl hb2.size
    have y0 := (hb2.cell (p := ⟨g, 0, none⟩) hgl).trans hg0
    have y1 := (hb2.cell (p := ⟨g, 1, none⟩) hgl).trans hg1
    have HE1 := zq (H1.out.below hb2)
    have HE2 := zq (H2.out.below hb2)
    clear hov hb2
    rcases hk3 with rfl | rfl | rfl
    ·go_wp2_with (at_builtin; refine wpList_pushK (k := 16) (enc := eD) (fun _ => rfl) oneD _ _ _ elKD rfl rfl w5.heap.size _ [] rfl HO.out A1 _ c1 l1 rfl rfl (Des.rdk HE1.out) (Des.some HE1.out) (by unfold maxLen; simp; omega) (by simp; omega) HB.out.size ?_)
     rintro v' w' ho' hg' hb' _
     have HO2 : Hid (OwnL eD 16 w' w5.heap.size 54 v' l1) := ho'
     have HB2 := zq (HB.out.trans hb')
     clear ho' hg' hb' HO HB
     go_wp2
     go_roundg (gk - 1)
     case measure => omega
     case rel => exact ⟨1, by omega, by go_num, HO2.out, HB2.out⟩
    ·go_wp2_with (at_builtin; refine wpList_pushK (k := 16) (enc := eD) (fun _ => rfl) oneD _ _ _ elKD rfl rfl w5.heap.size _ l1 rfl HO.out A2 _ c2 l2 rfl rfl (Des.rdk HE2.out) (Des.some HE2.out) (by unfold maxLen; omega) (by omega) HB.out.size ?_)
     rintro v' w' ho' hg' hb' _
     have HO2 := zq ho'
     have HB2 := zq (HB.out.trans hb')
     clear ho' hg' hb' HO HB
     go_wp2
     go_roundg (gk - 1)
     case measure => omega
     case rel => exact ⟨2, by omega, by go_num, HO2.out, HB2.out⟩
    ·go_wp2
     go_ret
     exact ⟨_, rfl, HO.out, HB.out⟩
end Go.Proofs.YtlcfgejaeecclaaGreatDoor
namespace Go.Proofs.YtlcfgejaeecclaaGreatDoor
open Go.RowKit Dw
def BT : Nat := 10000
theorem BT_gt : 1 < BT := by decide
theorem BT_pos : 0 < BT := by decide
theorem BT_eq : BT = 10000 := rfl
abbrev i64N : Nat → Value := fun n => Value.int .i64 (n : Int)
abbrev Lms := Rd1 i64N
structure Lt (w : World) (A : Option Addr) (c n : Nat) : Prop where
 rd : Lms w A (words BT n)
 cap : (words BT n).length ≤ c
abbrev lmV (A : Option Addr) (c n : Nat) : Value := .slice A (words BT n).length c
theorem Lt.below {w w' : World} {A : Option Addr} {c n : Nat} (h : Lt w A c n) (hb : Below w.heap.size w w') : Lt w' A c n := ⟨h.rd.below hb, h.cap⟩
theorem Lt.drew {w : World} {A : Option Addr} {c n : Nat} (h : Lt w A c n) : Lt w.drew A c n := ⟨h.rd.drew, h.cap⟩
theorem Lt.drewN {w : World} {A : Option Addr} {c n : Nat} (h : Lt w A c n) (k : Nat) : Lt (w.drewN k) A c n := ⟨h.rd.drewN k, h.cap⟩
def GivesLm (n : Nat) (w : World) (e : Ending) (w' : World) : Prop := ∃ A c, e = .returned (lmV A c n) ∧ Lt w' A c n ∧ Below w.heap.size w w'
abbrev encLm : Nat → List Value := fun n => [i64N n]
abbrev OwnI (w : World) (base : Nat) (v : Value) (l : List Nat) : Prop := OwnL encLm 1 w base 3 v l
theorem elI : ElemT Tryz.prog 73 3 (.int .i64 0) 1 8 := ⟨Tryz.underlying73, by kernel_rfl, rfl, by decide⟩
def ArrI (w : World) (g : Nat) (L : List Nat) : Prop := w.heap[g]? = some (.cells (L.map i64N).toArray 3 (0, 0))
section
variable {w w' : World} {g : Nat} {L : List Nat}
theorem ArrI.lt (h : ArrI w g L) : g < w.heap.size := (Array.getElem?_eq_some_iff.1 h).1
theorem ArrI.cell (h : ArrI w g L) (i : Nat) (hi : i < L.length) : w.cell? ⟨g, i, none⟩ = some (.int .i64 ((L[i] : Nat) : Int)) := by
 rw [cell_of_row w g i _ _ _ h]; simp [hi]
theorem ArrI.frozen (h : ArrI w g L) (i : Nat) : w.frozen? ⟨g, i, none⟩ = false := frozen_of_row w g i _ _ h
theorem ArrI.set (h : ArrI w g L) (i x : Nat) : ArrI (w.setCell ⟨g, i, none⟩ (.int .i64 (x : Int))) g (L.set i x) := by
 have h1 : (w.setCell ⟨g, i, none⟩ (.int .i64 (x : Int))).heap[g]? = some (.cells ((L.map i64N).toArray.setIfInBounds i (.int .i64 (x : Int))) 3 (0, 0)) := by
  unfold ArrI at h
  simp [World.setCell, Array.getElem?_modify, h]
 unfold ArrI
 rw [h1, List.setIfInBounds_toArray, List.map_set]
theorem ArrI.rd (h : ArrI w g L) : Lms w (some ⟨g, 0, none⟩) L := fun _ => ⟨g, 0, rfl, fun i hi => by
 rw [Nat.zero_add, h.cell i hi]⟩
theorem ArrI.below (h : ArrI w g L) (hb : Below w.heap.size w w') : ArrI w' g L := (hb.block g h.lt).trans h
theorem ArrI.drewN (h : ArrI w g L) (n : Nat) : ArrI (w.drewN n) g L := h
theorem ArrI.new (w : World) (n : Nat) : ArrI (w.alloc (.cells (Array.replicate n (.int .i64 0)) 3)) w.heap.size (List.replicate n 0) := by
 unfold ArrI
 rw [heap_alloc_new]
 congr 2
 apply Array.toList_inj.1
 simp
end
theorem mk_ints (n : Nat) (h : n ≤ 1000000) (w : World) : (Instr.makeSlice 73 (.int .i64 (n : Int)) (.int .i64 (n : Int))).run Tryz.prog w = .ok (.slice (some ⟨w.heap.size, 0, none⟩) n n) (w.alloc (.cells (Array.replicate n (.int .i64 0)) 3)) :=
 run_makeN1 _ _ elI n (by omega) (by omega) rfl w
def TrimLRel (w : World) (L : List Nat) (m : Nat) (i : Value) (wr : World) : Prop :=
 wr = w ∧ ∃ k : Nat, k = m ∧ k ≤ L.length ∧ i = .int .i64 k ∧ wtrim (L.take k) = wtrim L
theorem trimL_c (A : Option Addr) (c : Nat) (L : List Nat) (w : World) (hn : L.length ≤ 1000000) (hc : L.length ≤ c) (h : Lms w A L) :
  Calls Tryz.prog 185 #[.slice A L.length c] w (Gives (.slice A (wtrim L).length c) w) := by
 go_enter Tryz.func185, Tryz.ntmps185
 go_wp2
 go_loopg [3] L.length (TrimLRel w L)
 case atStart => exact ⟨rfl, L.length, rfl, Nat.le_refl _, rfl, by rw [List.take_length]⟩
 case round =>
  obtain ⟨hw, k, hm, hk, rfl, ht⟩ := hrel
  subst hw
  have HM := zq hm
  have HT := zq ht
  clear hm ht
  rcases Nat.eq_zero_or_pos k with h0 | h0
  ·subst h0
   go_wp2
   go_ret
   refine Gives.mk ?_ rfl
   rw [← HT.out]; rfl
  ·obtain ⟨j, rfl⟩ : ∃ j, k = j + 1 := ⟨k - 1, by omega⟩
   obtain ⟨b, o, rfl, hb, hcl⟩ := h.at_ (by omega)
   have hj : j < L.length := by omega
   have hc0 := hcl j hj
   clear hcl
   by_cases hz : L[j] = 0
   ·have HZ := zq hz
    rw [hz] at hc0
    clear hz
    go_wp2
    go_roundg (gk - 1)
    case measure => have := HM.out; omega
    case rel => exact ⟨rfl, j, by have := HM.out; omega, by omega, by go_num, by rw [← HT.out, wtrim_take_zero hj HZ.out]⟩
   ·have hzb : (((L[j] : Nat) : Int) == 0) = false := by simpa using hz
    have HZ := zq hz
    clear hz
    go_wp2
    go_ret
    refine Gives.mk ?_ rfl
    have e := HT.out
    rw [wtrim_take_ne hj HZ.out] at e
    have e2 := congrArg List.length e
    rw [List.length_take, Nat.min_eq_left hk] at e2
    rw [← e2]
    rfl
theorem Lms.trim {w : World} {A : Option Addr} {L : List Nat} (h : Lms w A L) : Lms w A (wtrim L) := by
 intro hp
 obtain ⟨b, o, rfl, hlt, hcl⟩ := h.at_ (by have := wtrim_len L; omega)
 refine ⟨b, o, rfl, fun i hi => ?_⟩
 have hi' : i < L.length := by have := wtrim_len L; omega
 rw [hcl i hi']
 have : (wtrim L)[i] = L[i] := by
  have h1 := wtrim_prefix L
  rw [List.getElem_of_eq h1 hi, List.getElem_take]
 rw [this]
theorem trimL_n (A : Option Addr) (c : Nat) (L : List Nat) (w w0 : World) (hn : L.length ≤ 1000000) (hc : L.length ≤ c) (h : Lms w A L) (hl : WLt BT L) (hb : Below w0.heap.size w0 w) {n : Nat} (hv : wval BT L = n) :
  Calls Tryz.prog 185 #[.slice A L.length c] w (GivesLm n w0) := by
 have e : wtrim L = words BT n := by rw [wtrim_words BT_gt hl, hv]
 refine (trimL_c A c L w hn hc h).mono ?_
 rintro _ _ ⟨rfl, rfl⟩
 refine ⟨A, c, by rw [e], ⟨?_, ?_⟩, hb⟩
 ·rw [← e]; exact h.trim
 ·rw [← e]; have := wtrim_len L; omega
theorem trimL_x (A : Option Addr) (c : Nat) (L : List Nat) (w : World) (hn : L.length ≤ 1000000) (hc : L.length ≤ c) (h : Lms w A L) (hl : WLt BT L) {n : Nat} (hv : wval BT L = n) :
  Calls Tryz.prog 185 #[.slice A L.length c] w (Gives (lmV A c n) w) ∧ Lt w A c n := by
 have e : wtrim L = words BT n := by rw [wtrim_words BT_gt hl, hv]
 refine ⟨?_, ?_, ?_⟩
 ·have := trimL_c A c L w hn hc h
  rw [e] at this
  exact this
 ·rw [← e]; exact h.trim
 ·rw [← e]; have := wtrim_len L; omega
theorem lms_set {w : World} {A : Option Addr} {l : List Nat} (h : Lms w A l) {g i : Nat} (hg : ∀ b o, A = some ⟨b, o, none⟩ → b ≠ g) (u : Value) : Lms (w.setCell ⟨g, i, none⟩ u) A l := fun hl => by
 obtain ⟨b, o, rfl, hc⟩ := h hl
 refine ⟨b, o, rfl, fun j hj => ?_⟩
 rw [World.cell?_of_block (w := w) (Below.heap_setCell w ⟨g, i, none⟩ u b (hg b o rfl))]
 exact hc j hj
theorem own_capI {w : World} {base : Nat} {A : Option Addr} {n c : Nat} {l : List Nat} (h : OwnI w base (.slice A n c) l) : l.length ≤ c ∧ n = l.length := by
 rcases h.2 with ⟨e, hn⟩ | ⟨g, cap, cur, e, hb, hgg, hnc, _, hsz, htake⟩
 ·injection e with _ e2 e3
  omega
 ·injection e with _ e2 e3
  subst e3
  exact ⟨by omega, e2⟩
def CmpLRel (w : World) (l r : List Nat) (m : Nat) (i : Value) (wr : World) : Prop :=
 (∃ n, wr = w.drewN n) ∧ m ≤ l.length ∧ (∃ z : Int, z = (m : Int) - 1 ∧ i = .int .i64 z) ∧ l.drop m = r.drop m
theorem cmpL_l (A A2 : Option Addr) (c c2 : Nat) (l r : List Nat) (w : World) (h : Lms w A l) (h2 : Lms w A2 r) (hl : WLt BT l) (hr : WLt BT r) (hn : l.length ≤ 1000000) (he : l.length = r.length) :
  Calls Tryz.prog 156 #[.slice A l.length c, .slice A2 l.length c2] w (GivesD (.int .i64 (cmpN (wval BT l) (wval BT r))) w) := by
 have HE := zq he
 clear he
 go_enter Tryz.func156, Tryz.ntmps156
 go_wp2
 go_loopg [5] l.length (CmpLRel w l r)
 case atStart => exact ⟨⟨0, rfl⟩, Nat.le_refl _, ⟨_, rfl, by go_num⟩, by rw [List.drop_of_length_le (Nat.le_refl _), List.drop_of_length_le (by rw [HE.out]; omega)]⟩
 case round =>
  obtain ⟨⟨nd, hw⟩, hk, ⟨z, hz, rfl⟩, hd⟩ := hrel
  subst hw
  have HD := zq hd
  clear hd
  rcases Nat.eq_zero_or_pos gk with h0 | h0
  ·subst h0
   obtain rfl : z = -1 := hz
   go_wp2
   go_ret
   refine GivesD.mk ?_ ⟨_, rfl⟩
   have e : l = r := by simpa using HD.out
   rw [e, cmpN_eq rfl]
   rfl
  ·obtain ⟨j, rfl⟩ : ∃ j, gk = j + 1 := ⟨gk - 1, by omega⟩
   obtain rfl : z = (j : Int) := by omega
   clear hz
   have hjr : j < r.length := by have := HE.out; omega
   obtain ⟨b, o, rfl, hb, hcl⟩ := h.at_ (by omega)
   obtain ⟨b2, o2, rfl, hb2, hcl2⟩ := h2.at_ (by omega)
   have hc0 := hcl j (by omega)
   have hc1 := hcl2 j hjr
   clear hcl hcl2
   by_cases hlt : l[j] < r[j]
   ·have hltb : decide (l[j] < r[j]) = true := decide_eq_true hlt
    have HQ := zq hlt
    clear hlt
    go_wp2
    go_quiet (fail)
    go_wp2
    go_ret
    refine GivesD.mk ?_ (by rw [World.drewN_drewN]; exact ⟨_, rfl⟩)
    rw [cmpN_lt (wval_lt_of hl HE.out (by omega) hjr HD.out HQ.out)]
    rfl
   have hltb : decide (l[j] < r[j]) = false := decide_eq_false hlt
   by_cases hgt : r[j] < l[j]
   ·have hgtb : decide (r[j] < l[j]) = true := decide_eq_true hgt
    have HQ := zq hgt
    clear hlt hgt
    go_wp2
    go_quiet (fail)
    go_wp2
    go_quiet (fail)
    go_wp2
    go_ret
    refine GivesD.mk ?_ (by rw [World.drewN_drewN, World.drewN_drewN]; exact ⟨_, rfl⟩)
    rw [cmpN_gt (wval_lt_of hr HE.out.symm hjr (by omega) HD.out.symm HQ.out)]
    rfl
   have hgtb : decide (r[j] < l[j]) = false := decide_eq_false hgt
   have HQ : Hid (l[j] = r[j]) := by show _ = _; omega
   clear hlt hgt
   go_wp2
   go_quiet (fail)
   go_wp2
   go_quiet (fail)
   go_wp2
   go_roundg j
   case measure => omega
   case rel =>
    refine ⟨⟨_, rfl⟩, by omega, ⟨_, rfl, by go_num⟩, ?_⟩
    rw [List.drop_eq_getElem_cons (by omega), List.drop_eq_getElem_cons hjr, HQ.out, HD.out]
theorem cmpL_len (A A2 : Option Addr) (c c2 n m : Nat) (w : World) (hne : n ≠ m) :
  Calls Tryz.prog 156 #[.slice A n c, .slice A2 m c2] w (GivesD (.int .i64 (cmpN n m)) w) := by
 have hnb : ((n : Int) != (m : Int)) = true := by simp; omega
 rcases Nat.lt_or_ge n m with hlt | hge
 ·have hltb : decide (n < m) = true := decide_eq_true hlt
  have hv : cmpN n m = -1 := cmpN_lt hlt
  rw [hv]
  have HV := zq hv
  clear hv
  go_enter Tryz.func156, Tryz.ntmps156
  go_wp2
  go_ret
  exact GivesD.mk rfl ⟨0, rfl⟩
 ·have hltb : decide (n < m) = false := decide_eq_false (by omega)
  have hv : cmpN n m = 1 := cmpN_gt (by omega)
  rw [hv]
  have HV := zq hv
  clear hv
  go_enter Tryz.func156, Tryz.ntmps156
  go_wp2
  go_ret
  exact GivesD.mk rfl ⟨0, rfl⟩
theorem cmpL_c (A A2 : Option Addr) (c c2 a b : Nat) (w : World) (h : Lms w A (words BT a)) (h2 : Lms w A2 (words BT b)) (hn : (words BT a).length ≤ 1000000) :
  Calls Tryz.prog 156 #[lmV A c a, lmV A2 c2 b] w (GivesD (.int .i64 (cmpN a b)) w) := by
 by_cases he : (words BT a).length = (words BT b).length
 ·have := cmpL_l A A2 c c2 (words BT a) (words BT b) w h h2 (words_lt BT_gt a) (words_lt BT_gt b) hn he
  rw [wval_words BT_gt, wval_words BT_gt] at this
  unfold lmV
  rw [← he]
  exact this
 ·have := cmpL_len A A2 c c2 _ _ w he
  have e : cmpN (words BT a).length (words BT b).length = cmpN a b := by
   rcases Nat.lt_or_ge (words BT a).length (words BT b).length with h1 | h1
   ·rw [cmpN_lt h1, cmpN_lt (lt_of_len BT_gt h1)]
   ·rw [cmpN_gt (by omega), cmpN_gt (lt_of_len BT_gt (by omega))]
  rw [e] at this
  exact this
theorem words_full {L : List Nat} (hl : WLt BT L) (h : L = [] ∨ BT ^ (L.length - 1) ≤ wval BT L) : words BT (wval BT L) = L := by
 rw [← wtrim_words BT_gt hl]
 rcases h with rfl | h
 ·rfl
 ·rcases Nat.eq_zero_or_pos L.length with h0 | h0
  ·rw [List.length_eq_zero_iff.1 h0]; rfl
  have h1 := words_len BT_gt (wval BT L)
  rw [← wtrim_words BT_gt hl] at h1
  have h2 : L.length - 1 < (wtrim L).length := (Nat.pow_lt_pow_iff_right BT_gt).1 (Nat.lt_of_le_of_lt h h1)
  rw [wtrim_prefix L, List.take_of_length_le (by omega)]
theorem own_slice' {w : World} {base : Nat} {v : Value} {l : List Nat} (h : OwnI w base v l) : ∃ A c, v = .slice A l.length c := by
 obtain ⟨A, c, he, _⟩ := OwnL.rd1 h
 exact ⟨A, c, he⟩
theorem own_lms {w : World} {base n c : Nat} {A : Option Addr} {l : List Nat} (h : OwnI w base (.slice A n c) l) : Lms w A l := by
 obtain ⟨A', c', he, hr⟩ := OwnL.rd1 h
 injection he with h1 _ _
 subst h1
 exact hr
def AddLRel (w : World) (l r : List Nat) (m : Nat) (v cy i : Value) (wr : World) : Prop :=
 ∃ (k c : Nat) (out : List Nat), k + m = max l.length r.length ∧ i = .int .i64 k ∧ cy = .int .i64 (c : Int) ∧ c ≤ 1 ∧ out.length = k ∧ WLt BT out ∧ wval BT out + BT ^ k * c = wval BT (l.take k) + wval BT (r.take k) ∧ OwnI wr w.heap.size v out ∧ Below w.heap.size w wr
theorem addL_c (A A2 : Option Addr) (c c2 a b : Nat) (w : World) (h : Lms w A (words BT a)) (h2 : Lms w A2 (words BT b)) (hn : (words BT a).length ≤ 400000) (hn2 : (words BT b).length ≤ 400000) :
  Calls Tryz.prog 163 #[lmV A c a, lmV A2 c2 b] w (GivesLm (a + b) w) := by
 obtain ⟨l, hl⟩ : ∃ l, l = words BT a := ⟨_, rfl⟩
 obtain ⟨r, hr⟩ : ∃ r, r = words BT b := ⟨_, rfl⟩
 unfold lmV
 rw [← hl] at h hn ⊢
 rw [← hr] at h2 hn2 ⊢
 have hlw : WLt BT l := by rw [hl]; exact words_lt BT_gt a
 have hrw : WLt BT r := by rw [hr]; exact words_lt BT_gt b
 have HL := zq hl
 have HR := zq hr
 clear hl hr
 go_enter Tryz.func163, Tryz.ntmps163
 go_wp2
 go_loopg [5, 6, 7] (max l.length r.length) (AddLRel w l r)
 case atStart => exact ⟨0, 0, [], by omega, rfl, rfl, by omega, rfl, WLt.nil, by simp [wval], OwnL.nil _ _ _ _ _, Below.refl _ _⟩
 case round =>
  obtain ⟨k, cy, out, hm, rfl, rfl, hcy, hol, how, hv, hown, hbw⟩ := hrel
  have HM := zq hm
  have HO := zq hol
  have HV := zq hv
  have HB := zq hbw
  have HW := zq how
  clear hm hv hbw how
  have hok : out.length ≤ 400000 := by have := HM.out; omega
  by_cases h1 : k < l.length
  ·obtain ⟨q, o, rfl, hb, hcl⟩ := h.at_ (by omega)
   have hc0 := (HB.out.cell hb).trans (hcl k h1)
   clear hcl
   have hx : l[k] < 10000 := hlw.get k h1
   by_cases h3 : k < r.length
   ·obtain ⟨q2, o2, rfl, hb2, hcl2⟩ := h2.at_ (by omega)
    have hc1 := (HB.out.cell hb2).trans (hcl2 k h3)
    clear hcl2
    have hy : r[k] < 10000 := hrw.get k h3
    obtain ⟨T, hT⟩ : ∃ T, T = cy + l[k] + r[k] := ⟨_, rfl⟩
    have hTe : (cy : Int) + (l[k] : Int) + (r[k] : Int) = (T : Int) := by rw [hT]; omega
    have hTB : T < 20000 := by omega
    have HT : Hid (T = cy + l[k] + r[k]) := by show _ = _; omega
    have HA : Hid (wval BT (l.take (k + 1)) = wval BT (l.take k) + BT ^ k * l[k]) := wval_take h1
    have HC : Hid (wval BT (r.take (k + 1)) = wval BT (r.take k) + BT ^ k * r[k]) := wval_take h3
    clear hT
    go_wp2_with (at_builtin; refine wpList_pushS _ _ _ elI rfl rfl w.heap.size _ out rfl (OwnL.alloc hown _) wr.heap.size 1 (T % 10000) rfl (heap_alloc_new _ _) rfl (by simp [Value.oneCell']) (by unfold maxLen; omega) (by omega) (by simp; exact Nat.le_succ_of_le HB.out.size) ?_; intro A7 c7 w7 hown7 hg7 hb7 hat7)
    have HB7 := zq ((HB.out.alloc HB.out.size _).trans hb7)
    have HN7 := zq hown7
    clear hown7 hg7 hb7 hat7 hown HB
    go_wp2
    go_roundg (gk - 1)
    case measure => have := HM.out; omega
    case rel =>
     refine ⟨k + 1, T / 10000, out ++ [T % 10000], by have := HM.out; omega, by go_num, by go_num, by omega, by rw [List.length_append, List.length_singleton, HO.out], HW.out.append (WLt.cons (Nat.mod_lt _ (by decide)) WLt.nil), ?_, by rw [← HO.out]; exact HN7.out, HB7.out⟩
     rw [wval_append, HO.out, wval_one, HA.out, HC.out]
     exact add_col HV.out HT.out
   ·have h3i : ¬ ((k : Int) < (r.length : Int)) := by omega
    obtain ⟨T, hT⟩ : ∃ T, T = cy + l[k] := ⟨_, rfl⟩
    have hTe : (cy : Int) + (l[k] : Int) = (T : Int) := by rw [hT]; omega
    have hTB : T < 20000 := by omega
    have HT : Hid (T = cy + l[k] + 0) := by show _ = _; omega
    have HA : Hid (wval BT (l.take (k + 1)) = wval BT (l.take k) + BT ^ k * l[k]) := wval_take h1
    have HC : Hid (wval BT (r.take (k + 1)) = wval BT (r.take k) + BT ^ k * 0) := by show _ = _; rw [List.take_of_length_le (by omega), List.take_of_length_le (by omega)]; rw [Nat.mul_zero, Nat.add_zero]
    clear hT
    go_wp2_with (at_builtin; refine wpList_pushS _ _ _ elI rfl rfl w.heap.size _ out rfl (OwnL.alloc hown _) wr.heap.size 1 (T % 10000) rfl (heap_alloc_new _ _) rfl (by simp [Value.oneCell']) (by unfold maxLen; omega) (by omega) (by simp; exact Nat.le_succ_of_le HB.out.size) ?_; intro A7 c7 w7 hown7 hg7 hb7 hat7)
    have HB7 := zq ((HB.out.alloc HB.out.size _).trans hb7)
    have HN7 := zq hown7
    clear hown7 hg7 hb7 hat7 hown HB
    go_wp2
    go_roundg (gk - 1)
    case measure => have := HM.out; omega
    case rel =>
     refine ⟨k + 1, T / 10000, out ++ [T % 10000], by have := HM.out; omega, by go_num, by go_num, by omega, by rw [List.length_append, List.length_singleton, HO.out], HW.out.append (WLt.cons (Nat.mod_lt _ (by decide)) WLt.nil), ?_, by rw [← HO.out]; exact HN7.out, HB7.out⟩
     rw [wval_append, HO.out, wval_one, HA.out, HC.out]
     exact add_col HV.out HT.out
  ·have h1i : ¬ ((k : Int) < (l.length : Int)) := by omega
   by_cases h3 : k < r.length
   ·obtain ⟨q2, o2, rfl, hb2, hcl2⟩ := h2.at_ (by omega)
    have hc1 := (HB.out.cell hb2).trans (hcl2 k h3)
    clear hcl2
    have hy : r[k] < 10000 := hrw.get k h3
    obtain ⟨T, hT⟩ : ∃ T, T = cy + r[k] := ⟨_, rfl⟩
    have hTe : (cy : Int) + (r[k] : Int) = (T : Int) := by rw [hT]; omega
    have hTB : T < 20000 := by omega
    have HT : Hid (T = cy + 0 + r[k]) := by show _ = _; omega
    have HA : Hid (wval BT (l.take (k + 1)) = wval BT (l.take k) + BT ^ k * 0) := by show _ = _; rw [List.take_of_length_le (by omega), List.take_of_length_le (by omega)]; rw [Nat.mul_zero, Nat.add_zero]
    have HC : Hid (wval BT (r.take (k + 1)) = wval BT (r.take k) + BT ^ k * r[k]) := wval_take h3
    clear hT
    go_wp2_with (at_builtin; refine wpList_pushS _ _ _ elI rfl rfl w.heap.size _ out rfl (OwnL.alloc hown _) wr.heap.size 1 (T % 10000) rfl (heap_alloc_new _ _) rfl (by simp [Value.oneCell']) (by unfold maxLen; omega) (by omega) (by simp; exact Nat.le_succ_of_le HB.out.size) ?_; intro A7 c7 w7 hown7 hg7 hb7 hat7)
    have HB7 := zq ((HB.out.alloc HB.out.size _).trans hb7)
    have HN7 := zq hown7
    clear hown7 hg7 hb7 hat7 hown HB
    go_wp2
    go_roundg (gk - 1)
    case measure => have := HM.out; omega
    case rel =>
     refine ⟨k + 1, T / 10000, out ++ [T % 10000], by have := HM.out; omega, by go_num, by go_num, by omega, by rw [List.length_append, List.length_singleton, HO.out], HW.out.append (WLt.cons (Nat.mod_lt _ (by decide)) WLt.nil), ?_, by rw [← HO.out]; exact HN7.out, HB7.out⟩
     rw [wval_append, HO.out, wval_one, HA.out, HC.out]
     exact add_col HV.out HT.out
   ·have h3i : ¬ ((k : Int) < (r.length : Int)) := by omega
    have HV2 : Hid (wval BT out + BT ^ out.length * cy = a + b) := by
     show _ = _
     have e := HV.out
     rw [List.take_of_length_le (by omega), List.take_of_length_le (by omega), HL.out, HR.out, wval_words BT_gt, wval_words BT_gt] at e
     rw [hol]; exact e
    have HMX : Hid (out = [] ∨ BT ^ (out.length - 1) ≤ a + b) := by
     rcases Nat.eq_zero_or_pos k with h0 | h0
     ·exact .inl (List.length_eq_zero_iff.1 (by omega))
     ·refine .inr ?_
      have hk : k = max l.length r.length := by have := HM.out; omega
      rw [hol]
      rcases Nat.le_total l.length r.length with h4 | h4
      ·have e := wval_ge (B := BT) (l := r) (by omega) (by rw [List.getElem_of_eq HR.out]; simpa [HR.out] using words_last BT_gt (n := b) (by rw [← HR.out]; omega))
       rw [HR.out, wval_words BT_gt, ← HR.out, show r.length = k by omega] at e
       omega
      ·have e := wval_ge (B := BT) (l := l) (by omega) (by rw [List.getElem_of_eq HL.out]; simpa [HL.out] using words_last BT_gt (n := a) (by rw [← HL.out]; omega))
       rw [HL.out, wval_words BT_gt, ← HL.out, show l.length = k by omega] at e
       omega
    rcases Nat.eq_zero_or_pos cy with h0 | h0
    ·subst h0
     have HE : Hid (words BT (a + b) = out) := by
      show _ = _
      have e := HV2.out
      rw [Nat.mul_zero, Nat.add_zero] at e
      rw [← e] 
      refine words_full HW.out ?_
      rw [e]; exact HMX.out
     obtain ⟨A9, c9, rfl⟩ := own_slice' hown
     go_wp2
     go_ret
     exact ⟨A9, c9, by unfold lmV; rw [HE.out, hol]; rfl, ⟨by rw [HE.out]; exact own_lms hown, by rw [HE.out]; exact (own_capI hown).1⟩, HB.out⟩
    ·obtain rfl : cy = 1 := by omega
     go_wp2_with (at_builtin; refine wpList_pushS _ _ _ elI rfl rfl w.heap.size _ out rfl (OwnL.alloc hown _) wr.heap.size 1 1 rfl (heap_alloc_new _ _) rfl (by simp [Value.oneCell']) (by unfold maxLen; omega) (by omega) (by simp; exact Nat.le_succ_of_le HB.out.size) ?_; intro A7 c7 w7 hown7 hg7 hb7 hat7)
     have hb8 := (HB.out.alloc HB.out.size _).trans hb7
     have HE : Hid (words BT (a + b) = out ++ [1]) := by
      show _ = _
      have e := HV2.out
      have hw2 : WLt BT (out ++ [1]) := HW.out.append (WLt.cons (by decide) WLt.nil)
      have e2 : wval BT (out ++ [1]) = a + b := by rw [wval_append, wval_one]; exact e
      rw [← e2, ← wtrim_words BT_gt hw2]
      exact wtrim_ne (by decide) out
     go_wp2
     go_ret
     have hcap := own_capI hown7
     exact ⟨A7, c7, by unfold lmV; rw [HE.out, List.length_append, hol]; rfl, ⟨by rw [HE.out]; exact own_lms hown7, by rw [HE.out]; exact hcap.1⟩, hb8⟩
theorem sub_colN {k o R L c t y x d : Nat} (h : o + R = L + BT ^ k * c) (hs : t + c + y = x + BT * d) : (o + BT ^ k * t) + (R + BT ^ k * y) = (L + BT ^ k * x) + BT ^ (k + 1) * d := by
 have e := congrArg (BT ^ k * ·) hs
 simp only [Nat.mul_add] at e
 rw [Nat.pow_succ, Nat.mul_assoc]
 omega
def LessLRel (w : World) (l r : List Nat) (m : Nat) (v cy i : Value) (wr : World) : Prop :=
 ∃ (k c : Nat) (out : List Nat), k + m = l.length ∧ i = .int .i64 k ∧ cy = .int .i64 (c : Int) ∧ c ≤ 1 ∧ out.length = k ∧ WLt BT out ∧ wval BT out + wval BT (r.take k) = wval BT (l.take k) + BT ^ k * c ∧ OwnI wr w.heap.size v out ∧ Below w.heap.size w wr
theorem lessL_c (A A2 : Option Addr) (c c2 a b : Nat) (w : World) (h : Lms w A (words BT a)) (h2 : Lms w A2 (words BT b)) (hn : (words BT a).length ≤ 400000) (hle : b ≤ a) :
  Calls Tryz.prog 164 #[lmV A c a, lmV A2 c2 b] w (GivesLm (a - b) w) := by
 obtain ⟨l, hl⟩ : ∃ l, l = words BT a := ⟨_, rfl⟩
 obtain ⟨r, hr⟩ : ∃ r, r = words BT b := ⟨_, rfl⟩
 have hrl : r.length ≤ l.length := by rw [hl, hr]; exact len_le_of_le BT_gt hle
 unfold lmV
 rw [← hl] at h hn ⊢
 rw [← hr] at h2 ⊢
 have hlw : WLt BT l := by rw [hl]; exact words_lt BT_gt a
 have hrw : WLt BT r := by rw [hr]; exact words_lt BT_gt b
 have HL := zq hl
 have HR := zq hr
 have HLE := zq hle
 clear hl hr hle
 go_enter Tryz.func164, Tryz.ntmps164
 go_wp2
 go_loopg [5, 6, 7] l.length (LessLRel w l r)
 case atStart => exact ⟨0, 0, [], by omega, rfl, rfl, by omega, rfl, WLt.nil, by simp [wval], OwnL.nil _ _ _ _ _, Below.refl _ _⟩
 case round =>
  obtain ⟨k, cy, out, hm, rfl, rfl, hcy, hol, how, hv, hown, hbw⟩ := hrel
  have HM := zq hm
  have HO := zq hol
  have HV := zq hv
  have HB := zq hbw
  have HW := zq how
  clear hm hv hbw how
  have hok : out.length ≤ 400000 := by have := HM.out; omega
  by_cases h1 : k < l.length
  ·obtain ⟨q, o, rfl, hb, hcl⟩ := h.at_ (by omega)
   have hc0 := (HB.out.cell hb).trans (hcl k h1)
   clear hcl
   have hx : l[k] < 10000 := hlw.get k h1
   by_cases h3 : k < r.length
   ·obtain ⟨q2, o2, rfl, hb2, hcl2⟩ := h2.at_ (by omega)
    have hc1 := (HB.out.cell hb2).trans (hcl2 k h3)
    clear hcl2
    have hy : r[k] < 10000 := hrw.get k h3
    obtain ⟨z, hz⟩ : ∃ z : Int, z = (l[k] : Int) - (cy : Int) - (r[k] : Int) := ⟨_, rfl⟩
    have hTe : (l[k] : Int) - (cy : Int) - (r[k] : Int) = z := hz.symm
    have hz1 : -10002 ≤ z ∧ z ≤ 10000 := by omega
    by_cases hneg : z < 0
    ·obtain ⟨T, hT⟩ : ∃ T : Nat, z + 10000 = (T : Int) := ⟨(z + 10000).toNat, by omega⟩
     have HT : Hid (T + cy + r[k] = l[k] + BT * 1) := by show _ = _; rw [BT_eq]; omega
     have hTB : T < 10000 := by omega
     have HA : Hid (wval BT (l.take (k + 1)) = wval BT (l.take k) + BT ^ k * l[k]) := wval_take h1
     have HC : Hid (wval BT (r.take (k + 1)) = wval BT (r.take k) + BT ^ k * r[k]) := wval_take h3
     clear hz
     go_wp2_with (at_builtin; refine wpList_pushS _ _ _ elI rfl rfl w.heap.size _ out rfl (OwnL.alloc hown _) wr.heap.size 1 T rfl (heap_alloc_new _ _) rfl (by simp [Value.oneCell']) (by unfold maxLen; omega) (by omega) (by simp; exact Nat.le_succ_of_le HB.out.size) ?_; intro A7 c7 w7 hown7 hg7 hb7 hat7)
     have HB7 := zq ((HB.out.alloc HB.out.size _).trans hb7)
     have HN7 := zq hown7
     clear hown7 hg7 hb7 hat7 hown HB
     go_wp2
     go_roundg (gk - 1)
     case measure => have := HM.out; omega
     case rel =>
      refine ⟨k + 1, 1, out ++ [T], by have := HM.out; omega, by go_num, rfl, by omega, by rw [List.length_append, List.length_singleton, HO.out], HW.out.append (WLt.cons (by rw [BT_eq]; omega) WLt.nil), ?_, by rw [← HO.out]; exact HN7.out, HB7.out⟩
      rw [wval_append, HO.out, wval_one, HA.out, HC.out]
      exact sub_colN HV.out HT.out
    ·obtain ⟨T, hT⟩ : ∃ T : Nat, z = (T : Int) := ⟨z.toNat, by omega⟩
     have HT : Hid (T + cy + r[k] = l[k] + BT * 0) := by show _ = _; rw [BT_eq]; omega
     have hTB : T < 10000 := by omega
     have HA : Hid (wval BT (l.take (k + 1)) = wval BT (l.take k) + BT ^ k * l[k]) := wval_take h1
     have HC : Hid (wval BT (r.take (k + 1)) = wval BT (r.take k) + BT ^ k * r[k]) := wval_take h3
     subst hT
     clear hz
     go_wp2_with (at_builtin; refine wpList_pushS _ _ _ elI rfl rfl w.heap.size _ out rfl (OwnL.alloc hown _) wr.heap.size 1 T rfl (heap_alloc_new _ _) rfl (by simp [Value.oneCell']) (by unfold maxLen; omega) (by omega) (by simp; exact Nat.le_succ_of_le HB.out.size) ?_; intro A7 c7 w7 hown7 hg7 hb7 hat7)
     have HB7 := zq ((HB.out.alloc HB.out.size _).trans hb7)
     have HN7 := zq hown7
     clear hown7 hg7 hb7 hat7 hown HB
     go_wp2
     go_roundg (gk - 1)
     case measure => have := HM.out; omega
     case rel =>
      refine ⟨k + 1, 0, out ++ [T], by have := HM.out; omega, by go_num, rfl, by omega, by rw [List.length_append, List.length_singleton, HO.out], HW.out.append (WLt.cons (by rw [BT_eq]; omega) WLt.nil), ?_, by rw [← HO.out]; exact HN7.out, HB7.out⟩
      rw [wval_append, HO.out, wval_one, HA.out, HC.out]
      exact sub_colN HV.out HT.out
   ·have h3i : ¬ ((k : Int) < (r.length : Int)) := by omega
    obtain ⟨z, hz⟩ : ∃ z : Int, z = (l[k] : Int) - (cy : Int) := ⟨_, rfl⟩
    have hTe : (l[k] : Int) - (cy : Int) = z := hz.symm
    have hz1 : -10002 ≤ z ∧ z ≤ 10000 := by omega
    by_cases hneg : z < 0
    ·obtain ⟨T, hT⟩ : ∃ T : Nat, z + 10000 = (T : Int) := ⟨(z + 10000).toNat, by omega⟩
     have HT : Hid (T + cy + 0 = l[k] + BT * 1) := by show _ = _; rw [BT_eq]; omega
     have hTB : T < 10000 := by omega
     have HA : Hid (wval BT (l.take (k + 1)) = wval BT (l.take k) + BT ^ k * l[k]) := wval_take h1
     have HC : Hid (wval BT (r.take (k + 1)) = wval BT (r.take k) + BT ^ k * 0) := by show _ = _; rw [List.take_of_length_le (by omega), List.take_of_length_le (by omega)]; rw [Nat.mul_zero, Nat.add_zero]
     clear hz
     go_wp2_with (at_builtin; refine wpList_pushS _ _ _ elI rfl rfl w.heap.size _ out rfl (OwnL.alloc hown _) wr.heap.size 1 T rfl (heap_alloc_new _ _) rfl (by simp [Value.oneCell']) (by unfold maxLen; omega) (by omega) (by simp; exact Nat.le_succ_of_le HB.out.size) ?_; intro A7 c7 w7 hown7 hg7 hb7 hat7)
     have HB7 := zq ((HB.out.alloc HB.out.size _).trans hb7)
     have HN7 := zq hown7
     clear hown7 hg7 hb7 hat7 hown HB
     go_wp2
     go_roundg (gk - 1)
     case measure => have := HM.out; omega
     case rel =>
      refine ⟨k + 1, 1, out ++ [T], by have := HM.out; omega, by go_num, rfl, by omega, by rw [List.length_append, List.length_singleton, HO.out], HW.out.append (WLt.cons (by rw [BT_eq]; omega) WLt.nil), ?_, by rw [← HO.out]; exact HN7.out, HB7.out⟩
      rw [wval_append, HO.out, wval_one, HA.out, HC.out]
      exact sub_colN HV.out HT.out
    ·obtain ⟨T, hT⟩ : ∃ T : Nat, z = (T : Int) := ⟨z.toNat, by omega⟩
     have HT : Hid (T + cy + 0 = l[k] + BT * 0) := by show _ = _; rw [BT_eq]; omega
     have hTB : T < 10000 := by omega
     have HA : Hid (wval BT (l.take (k + 1)) = wval BT (l.take k) + BT ^ k * l[k]) := wval_take h1
     have HC : Hid (wval BT (r.take (k + 1)) = wval BT (r.take k) + BT ^ k * 0) := by show _ = _; rw [List.take_of_length_le (by omega), List.take_of_length_le (by omega)]; rw [Nat.mul_zero, Nat.add_zero]
     subst hT
     clear hz
     go_wp2_with (at_builtin; refine wpList_pushS _ _ _ elI rfl rfl w.heap.size _ out rfl (OwnL.alloc hown _) wr.heap.size 1 T rfl (heap_alloc_new _ _) rfl (by simp [Value.oneCell']) (by unfold maxLen; omega) (by omega) (by simp; exact Nat.le_succ_of_le HB.out.size) ?_; intro A7 c7 w7 hown7 hg7 hb7 hat7)
     have HB7 := zq ((HB.out.alloc HB.out.size _).trans hb7)
     have HN7 := zq hown7
     clear hown7 hg7 hb7 hat7 hown HB
     go_wp2
     go_roundg (gk - 1)
     case measure => have := HM.out; omega
     case rel =>
      refine ⟨k + 1, 0, out ++ [T], by have := HM.out; omega, by go_num, rfl, by omega, by rw [List.length_append, List.length_singleton, HO.out], HW.out.append (WLt.cons (by rw [BT_eq]; omega) WLt.nil), ?_, by rw [← HO.out]; exact HN7.out, HB7.out⟩
      rw [wval_append, HO.out, wval_one, HA.out, HC.out]
      exact sub_colN HV.out HT.out
  ·have h1i : ¬ ((k : Int) < (l.length : Int)) := by omega
   have HV2 : Hid (wval BT out = a - b) := by
    show _ = _
    have e := HV.out
    rw [List.take_of_length_le (by omega), List.take_of_length_le (by omega), HL.out, HR.out, wval_words BT_gt, wval_words BT_gt] at e
    have h4 := wval_lt HW.out
    rw [hol] at h4
    have h5 := HLE.out
    rcases Nat.eq_zero_or_pos cy with h0 | h0
    ·subst h0
     rw [Nat.mul_zero] at e
     omega
    ·obtain rfl : cy = 1 := by omega
     rw [Nat.mul_one] at e
     omega
   obtain ⟨A9, c9, rfl⟩ := own_slice' hown
   have HT := zq (trimL_n A9 c9 out wr w (by omega) (own_capI hown).1 (own_lms hown) HW.out HB.out HV2.out)
   rw [hol] at HT
   go_wp2_with fail
   with_reducible refine HT.out.mono ?_
   rintro e w7 ⟨A7, c7, rfl, hl7, hb7⟩
   have HL7 := zq hl7
   have HB7 := zq hb7
   clear hl7 hb7 HT
   go_wp2
   go_ret
   exact ⟨A7, c7, rfl, HL7.out, HB7.out⟩
def MulLRel (w : World) (g : Nat) (l r : List Nat) (m : Nat) (iv : Value) (wr : World) : Prop :=
 ∃ (k : Nat) (L : List Nat), k + m = l.length ∧ iv = .int .i64 k ∧ ArrI wr g L ∧ L.length = l.length + r.length ∧ WLt BT L ∧ wval BT L = wval BT (l.take k) * wval BT r ∧
  (∀ x (h : x < L.length), k + r.length ≤ x → L[x] = 0) ∧ Below w.heap.size w wr ∧ w.heap.size ≤ g
def MulLRel2 (w : World) (g : Nat) (l r : List Nat) (k x : Nat) (m : Nat) (cv jv : Value) (wr : World) : Prop :=
 ∃ (j cy : Nat) (L : List Nat), j + m = r.length ∧ jv = .int .i64 j ∧ cv = .int .i64 (cy : Int) ∧ cy ≤ 9999 ∧ ArrI wr g L ∧ L.length = l.length + r.length ∧ WLt BT L ∧
  wval BT L + BT ^ (k + j) * cy = wval BT (l.take k) * wval BT r + BT ^ k * (x * wval BT (r.take j)) ∧ (∀ x (h : x < L.length), k + r.length ≤ x → L[x] = 0) ∧ Below w.heap.size w wr ∧ w.heap.size ≤ g
theorem MulLRel2.step {w wr : World} {g : Nat} {l r L : List Nat} {k x j cy gk t : Nat} (hkm : j + gk = r.length) (hlt : j < r.length) (hk : k < l.length) (hcy : cy ≤ 9999) (hx : x ≤ 9999) (hA : ArrI wr g L) (hL : L.length = l.length + r.length) (hr : WLt BT r) (hLt : WLt BT L)
  (hV : wval BT L + BT ^ (k + j) * cy = wval BT (l.take k) * wval BT r + BT ^ k * (x * wval BT (r.take j))) (hZ : ∀ x (h : x < L.length), k + r.length ≤ x → L[x] = 0) (hbw : Below w.heap.size w wr) (hwg : w.heap.size ≤ g)
  (ht : t = cy + (x * r[j] + L[k + j])) {cv iv mv : Value} (hc : cv = .int .i64 ((t / 10000 : Nat) : Int)) (hi : iv = .int .i64 ((j : Int) + 1)) (hm : mv = .int .i64 ((t % 10000 : Nat) : Int)) :
  MulLRel2 w g l r k x (gk - 1) cv iv (wr.setCell ⟨g, k + j, none⟩ mv) := by
 subst hc hi hm
 have hy : r[j] ≤ 9999 := by have := hr.get j hlt; rw [BT_eq] at this; omega
 have hz : L[k + j] ≤ 9999 := by have := hLt.get (k + j) (by omega); rw [BT_eq] at this; omega
 have hxy : x * r[j] ≤ 9999 * 9999 := Nat.mul_le_mul hx hy
 refine ⟨j + 1, t / 10000, L.set (k + j) (t % 10000), by omega, by go_num, rfl, by rw [ht]; generalize x * r[j] = p at *; omega, hA.set (k + j) _, by simpa using hL, hLt.set (show t % 10000 < BT from Nat.mod_lt t BT_pos) _, ?_, fun i hi hki => ?_, hbw.setCell hwg _, hwg⟩
 ·have e1 := wval_set BT L (k + j) (t % 10000) (by omega)
  rw [wval_take hlt]
  have e2 : BT ^ (k + j) * (t % 10000) + BT ^ (k + (j + 1)) * (t / 10000) = BT ^ (k + j) * t := by
   rw [show k + (j + 1) = (k + j) + 1 by omega, Nat.pow_succ, Nat.mul_assoc, ← Nat.mul_add, BT_eq, Nat.mod_add_div]
  have e3 : BT ^ (k + j) * t = BT ^ (k + j) * cy + BT ^ (k + j) * (x * r[j]) + BT ^ (k + j) * L[k + j] := by
   rw [ht, Nat.mul_add, Nat.mul_add, Nat.add_assoc]
  have e4 : BT ^ k * (x * (wval BT (r.take j) + BT ^ j * r[j])) = BT ^ k * (x * wval BT (r.take j)) + BT ^ (k + j) * (x * r[j]) := by
   rw [Nat.mul_add, Nat.mul_add, Nat.pow_add, Nat.mul_left_comm x, Nat.mul_assoc]
  rw [e4]
  omega
 ·rw [List.getElem_set_ne (by omega)]
  exact hZ i (by simpa using hi) (by omega)
theorem MulLRel.next {w wr : World} {g : Nat} {l r L : List Nat} {k cy gk : Nat} (hkm : k + 1 + gk = l.length) (hlt : k < l.length) (hcy : cy ≤ 9999) (hA : ArrI wr g L) (hL : L.length = l.length + r.length) (hLt : WLt BT L)
  (hV : wval BT L + BT ^ (k + r.length) * cy = wval BT (l.take k) * wval BT r + BT ^ k * (l[k] * wval BT (r.take r.length))) (hZ : ∀ x (h : x < L.length), k + r.length ≤ x → L[x] = 0) (hbw : Below w.heap.size w wr) (hwg : w.heap.size ≤ g)
  {iv mv : Value} (hi : iv = .int .i64 ((k : Int) + 1)) (hm : mv = .int .i64 (cy : Int)) :
  MulLRel w g l r gk iv (wr.setCell ⟨g, k + r.length, none⟩ mv) := by
 subst hi hm
 refine ⟨k + 1, L.set (k + r.length) cy, by omega, by go_num, hA.set _ _, by simpa using hL, hLt.set (by rw [BT_eq]; omega) _, ?_, fun i hi hki => ?_, hbw.setCell hwg _, hwg⟩
 ·have e1 := wval_set BT L (k + r.length) cy (by omega)
  rw [hZ (k + r.length) (by omega) (Nat.le_refl _)] at e1
  rw [List.take_of_length_le (Nat.le_refl _)] at hV
  rw [wval_take hlt, Nat.add_mul, Nat.mul_assoc (BT ^ k)]
  omega
 ·rw [List.getElem_set_ne (by omega)]
  exact hZ i (by simpa using hi) (by omega)
theorem timesL_c (A A2 : Option Addr) (c c2 : Nat) (a b : Nat) (w : World) (h : Lms w A (words BT a)) (h2 : Lms w A2 (words BT b)) (hn : (words BT a).length ≤ 400000) (hm : (words BT b).length ≤ 400000) :
  Calls Tryz.prog 162 #[lmV A c a, lmV A2 c2 b] w (GivesLm (a * b) w) := by
 have hmk : ∀ w : World, (Instr.makeSlice 73 (.int .i64 (((words BT a).length : Int) + ((words BT b).length : Int))) (.int .i64 (((words BT a).length : Int) + ((words BT b).length : Int)))).run Tryz.prog w =
   .ok (.slice (some ⟨w.heap.size, 0, none⟩) ((words BT a).length + (words BT b).length) ((words BT a).length + (words BT b).length)) (w.alloc (.cells (Array.replicate ((words BT a).length + (words BT b).length) (.int .i64 0)) 3)) :=
  mk_ints ((words BT a).length + (words BT b).length) (by omega)
 unfold lmV
 go_enter Tryz.func162, Tryz.ntmps162
 go_wp2
 clear hmk
 have hnew := ArrI.new w ((words BT a).length + (words BT b).length)
 have hbel : Below w.heap.size w (w.alloc (.cells (Array.replicate ((words BT a).length + (words BT b).length) (.int .i64 0)) 3)) := (Below.refl _ _).alloc (Nat.le_refl _) _
 obtain ⟨g, hg⟩ : ∃ g, g = w.heap.size := ⟨_, rfl⟩
 rw [← hg] at hnew
 obtain ⟨w1, hw1⟩ : ∃ w1, w1 = w.alloc (.cells (Array.replicate ((words BT a).length + (words BT b).length) (.int .i64 0)) 3) := ⟨_, rfl⟩
 rw [← hw1] at hnew hbel
 rw [← hg, ← hw1]
 have HG := zq hg
 have HB := zq hbel
 clear hg hbel hw1
 have hl := words_lt BT_gt a
 have hr := words_lt BT_gt b
 have HVA := zq (wval_words BT_gt a)
 have HVB := zq (wval_words BT_gt b)
 generalize words BT a = l at *
 generalize words BT b = r at *
 go_loopg [6] l.length (MulLRel w g l r)
 case atStart => exact ⟨0, List.replicate (l.length + r.length) 0, by omega, rfl, hnew, by simp, WLt.zeros BT_pos _, by rw [wval_zeros]; simp [wval], fun x hx _ => by simp, HB.out, by rw [HG.out]; exact Nat.le_refl _⟩
 case round =>
  obtain ⟨k, L, hkm, rfl, hA, hL, hLt, hV, hZ, hbw, hwg⟩ := hrel
  have HM := zq hkm
  have HV := zq hV
  have HZ := zq hZ
  have HL := zq hL
  clear hkm hV hZ hL
  by_cases hlt : k < l.length
  ·have hx : l[k] < 10000 := hl.get k hlt
   go_wp2
   obtain ⟨wo, hwo⟩ : ∃ wo : World, wo = wr := ⟨_, rfl⟩
   subst hwo
   go_loopg [7, 8] r.length (MulLRel2 w g l r k l[k])
   case atStart => exact ⟨0, 0, L, by omega, rfl, rfl, by omega, hA, HL.out, hLt, by rw [HV.out]; simp [wval], HZ.out, hbw, hwg⟩
   case round =>
    clear hA hbw
    obtain ⟨j, cy, L2, hjm, rfl, rfl, hcy, hA2, hL2, hLt2, hV2, hZ2, hbw2, hwg2⟩ := hrel
    have HM2 := zq hjm
    have HV2 := zq hV2
    have HZ2 := zq hZ2
    have HL2 := zq hL2
    clear hjm hV2 hZ2 hL2
    by_cases hj : j < r.length
    ·obtain ⟨b1, o1, hA0, hb1, hcl⟩ := (h.below hbw2).at_ (by omega)
     subst hA0
     have hc0 := hcl k hlt
     obtain ⟨b2, o2, hA02, hb2, hcl2⟩ := (h2.below hbw2).at_ (by omega)
     subst hA02
     have hc2 := hcl2 j hj
     have hy : r[j] < 10000 := hr.get j hj
     have hkj : k + j < L2.length := by have := HL2.out; omega
     have hz : L2[k + j] < 10000 := hLt2.get (k + j) hkj
     have hc1 := hA2.cell (k + j) hkj
     have hf1 := hA2.frozen (k + j)
     have hsz := hA2.lt
     obtain ⟨p, hp⟩ : ∃ p, p = l[k] * r[j] := ⟨_, rfl⟩
     have hpB : p ≤ 9999 * 9999 := by rw [hp]; exact Nat.mul_le_mul (by omega) (by omega)
     have hpe : (l[k] : Int) * (r[j] : Int) = (p : Int) := by rw [hp]; exact (Int.natCast_mul _ _).symm
     obtain ⟨T, hT⟩ : ∃ T, T = cy + (p + L2[k + j]) := ⟨_, rfl⟩
     have hTe : (L2[k + j] : Int) + (p : Int) + (cy : Int) = (T : Int) := by rw [hT]; omega
     have hTB : T ≤ 99999999 := by omega
     have HT : Hid (T = cy + (l[k] * r[j] + L2[k + j])) := by show _ = _; rw [hT, hp]
     clear hcl hcl2 hT hp
     go_wp2
     go_quiet (fail)
     go_wp2
     go_roundg (gk - 1)
     case measure => have := HM2.out; omega
     case rel => exact MulLRel2.step (wr := wr.drewN _) HM2.out hj hlt hcy (by omega) (hA2.drewN _) HL2.out hr hLt2 HV2.out HZ2.out (below_drewN hbw2 _) hwg2 HT.out (by simp) rfl (by simp)
    ·obtain rfl : j = r.length := by have := HM2.out; omega
     have hkj : k + r.length < L2.length := by have := HL2.out; omega
     have hc1 := hA2.cell (k + r.length) hkj
     rw [HZ2.out _ hkj (Nat.le_refl _)] at hc1
     have hf1 := hA2.frozen (k + r.length)
     have hsz := hA2.lt
     go_wp2
     go_roundg (l.length - k - 1)
     case measure => have := HM.out; omega
     case rel => exact MulLRel.next (by have := HM.out; omega) hlt hcy hA2 HL2.out hLt2 HV2.out HZ2.out hbw2 hwg2 rfl (by simp)
  ·obtain rfl : k = l.length := by have := HM.out; omega
   go_wp2_with fail
   have HT : Hid (wval BT L = a * b) := by
    show wval BT L = _
    have := HV.out
    rwa [List.take_of_length_le (Nat.le_refl _), HVA.out, HVB.out] at this
   have hl2 := HL.out
   rw [← hl2]
   with_reducible refine (trimL_n _ _ L _ w (by omega) (Nat.le_refl _) hA.rd hLt hbw HT.out).mono ?_
   rintro e w' ⟨A, c, rfl, hn, hb⟩
   clear hl2
   go_wp2
   go_ret
   exact ⟨A, c, rfl, hn, hb⟩
theorem lms_one (w : World) (n : Nat) : Lms (w.alloc (.cells #[.int .i64 (n : Int)] 3)) (some ⟨w.heap.size, 0, none⟩) [n] := fun _ => ⟨w.heap.size, 0, rfl, fun i hi => by
 have : i = 0 := by simp at hi; omega
 subst this
 rw [cell_of_row _ w.heap.size _ _ _ _ (heap_alloc_new _ _)]; rfl⟩
theorem smallL_c (A : Option Addr) (c a n : Nat) (w : World) (h : Lms w A (words BT a)) (hn : (words BT a).length ≤ 400000) (hm : n ≤ 9999) :
  Calls Tryz.prog 203 #[lmV A c a, .int .i64 (n : Int)] w (GivesLm (a * n) w) := by
 have hb : Below w.heap.size w (w.alloc (.cells #[.int .i64 (n : Int)] 3)) := (Below.refl _ _).alloc (Nat.le_refl _) _
 have HT : Hid (Calls Tryz.prog 185 #[.slice (some ⟨w.heap.size, 0, none⟩) 1 1] (w.alloc (.cells #[.int .i64 (n : Int)] 3)) (GivesLm n w)) :=
  trimL_n (some ⟨w.heap.size, 0, none⟩) 1 [n] (w.alloc (.cells #[.int .i64 (n : Int)] 3)) w (by simp) (by simp) (lms_one w n) (WLt.cons (by rw [BT_eq]; omega) WLt.nil) hb (n := n) (wval_one BT n)
 go_enter Tryz.func203, Tryz.ntmps203
 go_wp2_with fail
 with_reducible refine HT.out.mono ?_
 rintro e w1 ⟨A1, c1, rfl, h1, hb1⟩
 have hl1 : (words BT n).length ≤ 400000 := by
  have := len_le_of_lt BT_gt (a := n) (k := 1) (by rw [BT_eq]; omega)
  omega
 clear HT hb
 go_wp2_with fail
 with_reducible refine (timesL_c A A1 c c1 a n w1 (h.below hb1) h1.rd hn hl1).mono ?_
 rintro e w2 ⟨A2, c2, rfl, h2, hb2⟩
 have HB := zq (below_trans hb1 hb2)
 clear hb1 hb2
 go_wp2
 go_ret
 exact ⟨A2, c2, rfl, h2, HB.out⟩
end Go.Proofs.YtlcfgejaeecclaaGreatDoor
