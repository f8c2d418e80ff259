/- The reference of chapter 6: thing, moved, find. -/
import Derived.Test.YtfninfgohiipjaaGreatDoorLcC
import Derived.Test.YtfninfgohiipjaaGreatDoorLbE
namespace Go.Proofs.YtfninfgohiipjaaGreatDoor
open Go.RowKit Dw

def thO (o : Option Th) : Value := (o.map thV).getD thZ
def GivesTh (o : Option Th) (w : World) (e : Ending) (w' : World) : Prop := e = .returned (.tuple #[thO o, .bool o.isSome]) ∧ Below w.heap.size w w'
theorem GivesTh.none_ {o : Option Th} {w w' : World} (h : o = none) (hb : Below w.heap.size w w') : GivesTh o w (.returned (.tuple #[thZ, .bool false])) w' := by
  subst h; exact ⟨rfl, hb⟩
theorem GivesTh.some_ {o : Option Th} {w w' : World} {t : Th} (h : o = some t) (hb : Below w.heap.size w w') : GivesTh o w (.returned (.tuple #[thV t, .bool true])) w' := by
  subst h; exact ⟨rfl, hb⟩
abbrev thCz : Array Value := #[.int .i64 0, .int .i64 0, .string ⟨#[]⟩, .string ⟨#[]⟩, .int .i64 0, .int .i64 0, .slice none 0 0]
/-- Seven cells of one block written. -/
def set7 (w : World) (g : Nat) (t : Th) : World := ((((((w.setCell ⟨g, 0, none⟩ (.int .i64 t.id)).setCell ⟨g, 1, none⟩ (.int .i64 t.kind)).setCell ⟨g, 2, none⟩ (.string t.title)).setCell ⟨g, 3, none⟩ (.string t.code)).setCell ⟨g, 4, none⟩ (.int .i64 t.since)).setCell ⟨g, 5, none⟩ (.int .i64 t.parent)).setCell ⟨g, 6, none⟩ (.slice t.pA t.parts.length t.pc)
theorem set7_box {w : World} {g : Nat} {v0 v1 v2 v3 v4 v5 v6 : Value} (t : Th) (h : w.heap[g]? = some (.cells #[v0, v1, v2, v3, v4, v5, v6] 54 (0, 0))) : BoxT (set7 w g t) g t := by
  have h0 : (w.setCell ⟨g, 0, none⟩ (.int .i64 t.id)).heap[g]? = some (.cells #[.int .i64 t.id, v1, v2, v3, v4, v5, v6] 54 (0, 0)) := heap_setCell_same _ g 0 _ _ (.int .i64 t.id) h
  have h1 : ((w.setCell ⟨g, 0, none⟩ (.int .i64 t.id)).setCell ⟨g, 1, none⟩ (.int .i64 t.kind)).heap[g]? = some (.cells #[.int .i64 t.id, .int .i64 t.kind, v2, v3, v4, v5, v6] 54 (0, 0)) := heap_setCell_same _ g 1 _ _ (.int .i64 t.kind) h0
  have h2 : (((w.setCell ⟨g, 0, none⟩ (.int .i64 t.id)).setCell ⟨g, 1, none⟩ (.int .i64 t.kind)).setCell ⟨g, 2, none⟩ (.string t.title)).heap[g]? = some (.cells #[.int .i64 t.id, .int .i64 t.kind, .string t.title, v3, v4, v5, v6] 54 (0, 0)) := heap_setCell_same _ g 2 _ _ (.string t.title) h1
  have h3 : ((((w.setCell ⟨g, 0, none⟩ (.int .i64 t.id)).setCell ⟨g, 1, none⟩ (.int .i64 t.kind)).setCell ⟨g, 2, none⟩ (.string t.title)).setCell ⟨g, 3, none⟩ (.string t.code)).heap[g]? = some (.cells #[.int .i64 t.id, .int .i64 t.kind, .string t.title, .string t.code, v4, v5, v6] 54 (0, 0)) := heap_setCell_same _ g 3 _ _ (.string t.code) h2
  have h4 : (((((w.setCell ⟨g, 0, none⟩ (.int .i64 t.id)).setCell ⟨g, 1, none⟩ (.int .i64 t.kind)).setCell ⟨g, 2, none⟩ (.string t.title)).setCell ⟨g, 3, none⟩ (.string t.code)).setCell ⟨g, 4, none⟩ (.int .i64 t.since)).heap[g]? = some (.cells #[.int .i64 t.id, .int .i64 t.kind, .string t.title, .string t.code, .int .i64 t.since, v5, v6] 54 (0, 0)) := heap_setCell_same _ g 4 _ _ (.int .i64 t.since) h3
  have h5 : ((((((w.setCell ⟨g, 0, none⟩ (.int .i64 t.id)).setCell ⟨g, 1, none⟩ (.int .i64 t.kind)).setCell ⟨g, 2, none⟩ (.string t.title)).setCell ⟨g, 3, none⟩ (.string t.code)).setCell ⟨g, 4, none⟩ (.int .i64 t.since)).setCell ⟨g, 5, none⟩ (.int .i64 t.parent)).heap[g]? = some (.cells #[.int .i64 t.id, .int .i64 t.kind, .string t.title, .string t.code, .int .i64 t.since, .int .i64 t.parent, v6] 54 (0, 0)) := heap_setCell_same _ g 5 _ _ (.int .i64 t.parent) h4
  have h6 : (((((((w.setCell ⟨g, 0, none⟩ (.int .i64 t.id)).setCell ⟨g, 1, none⟩ (.int .i64 t.kind)).setCell ⟨g, 2, none⟩ (.string t.title)).setCell ⟨g, 3, none⟩ (.string t.code)).setCell ⟨g, 4, none⟩ (.int .i64 t.since)).setCell ⟨g, 5, none⟩ (.int .i64 t.parent)).setCell ⟨g, 6, none⟩ (.slice t.pA t.parts.length t.pc)).heap[g]? = some (.cells #[.int .i64 t.id, .int .i64 t.kind, .string t.title, .string t.code, .int .i64 t.since, .int .i64 t.parent, .slice t.pA t.parts.length t.pc] 54 (0, 0)) := heap_setCell_same _ g 6 _ _ (.slice t.pA t.parts.length t.pc) h5
  exact h6
theorem set7_below {B : Nat} {a w : World} {g : Nat} (t : Th) (h : Below B a w) (hg : B ≤ g) : Below B a (set7 w g t) :=
  ((((((h.setCell (p := ⟨g, 0, none⟩) hg _).setCell (p := ⟨g, 1, none⟩) hg _).setCell (p := ⟨g, 2, none⟩) hg _).setCell (p := ⟨g, 3, none⟩) hg _).setCell (p := ⟨g, 4, none⟩) hg _).setCell (p := ⟨g, 5, none⟩) hg _).setCell (p := ⟨g, 6, none⟩) hg _
def ThRel (w : World) (T : List Th) (id : Int) (m : Nat) (i : Value) (wr : World) : Prop :=
  ∃ k : Nat, k + m = T.length ∧ i = .int .i64 k ∧ (∀ j (h : j < T.length), j < k → (T[j]).id ≠ id) ∧ wr.heap[w.heap.size + 1]? = some (.cells thCz 54 (0, 0)) ∧ Below w.heap.size w wr

set_option maxRecDepth 100000 in
set_option maxHeartbeats 2000000 in
theorem thing_c (A1 : Option Addr) (c1 : Nat) (T : List Th) (A2 : Option Addr) (c2 : Nat) (M : List Mv) (id : Int) (w : World) (hc : CatOk w A1 T A2 M) (hn : T.length ≤ 300) :
    Calls Tryz.prog 105 #[catV A1 c1 T A2 c2 M, .int .i64 id] w (GivesTh (thAt T id) w) := by
  generalize hres : thAt T id = res
  have HR := Lib.hid hres
  clear hres
  go_enter Tryz.func105, Tryz.ntmps105
  go_wp2
  go_loopg [11] T.length (ThRel w T id)
  case atStart =>
    refine ⟨0, by omega, rfl, fun j _ hj => absurd hj (by omega), ?_, ((Below.refl _ _).alloc (Nat.le_refl _) _).alloc (by simp) _⟩
    have := heap_alloc_new (w.alloc (.cells #[.slice A1 T.length c1, .slice A2 M.length c2] 25)) (.cells thCz 54)
    simpa using this
  case round =>
    obtain ⟨k, hk, rfl, hpre, hbx, hbel⟩ := hrel
    have HK := Lib.hid hk
    have HP := Lib.hid hpre
    have HBX := Lib.hid hbx
    have HB := Lib.hid hbel
    have hk1 : k ≤ T.length := by omega
    have hwr : w.heap.size + 1 < wr.heap.size := (Array.getElem?_eq_some_iff.1 hbx).1
    clear hk hpre
    have r0 : wr.cell? ⟨w.heap.size + 1, 0, none⟩ = some (.int .i64 0) := boxC hbx rfl
    have r1 : wr.cell? ⟨w.heap.size + 1, 1, none⟩ = some (.int .i64 0) := boxC hbx rfl
    have r2 : wr.cell? ⟨w.heap.size + 1, 2, none⟩ = some (.string ⟨#[]⟩) := boxC hbx rfl
    have r3 : wr.cell? ⟨w.heap.size + 1, 3, none⟩ = some (.string ⟨#[]⟩) := boxC hbx rfl
    have r4 : wr.cell? ⟨w.heap.size + 1, 4, none⟩ = some (.int .i64 0) := boxC hbx rfl
    have r5 : wr.cell? ⟨w.heap.size + 1, 5, none⟩ = some (.int .i64 0) := boxC hbx rfl
    have r6 : wr.cell? ⟨w.heap.size + 1, 6, none⟩ = some (.slice none 0 0) := boxC hbx rfl
    have fz : ∀ i, wr.frozen? ⟨w.heap.size + 1, i, none⟩ = false := fun i => frozen_of_row wr _ i _ _ hbx
    by_cases hlt : k < T.length
    · obtain ⟨b, o, rfl, hb, hcc⟩ := hc.ths.at_ (by omega)
      obtain ⟨p0, p1, p2, p3, p4, p5, p6⟩ := hcc k hlt
      have q0 := (hbel.cell (p := ⟨b, o + k * 7, none⟩) hb).trans p0
      have q1 := (hbel.cell (p := ⟨b, o + k * 7 + 1, none⟩) hb).trans p1
      have q2 := (hbel.cell (p := ⟨b, o + k * 7 + 2, none⟩) hb).trans p2
      have q3 := (hbel.cell (p := ⟨b, o + k * 7 + 3, none⟩) hb).trans p3
      have q4 := (hbel.cell (p := ⟨b, o + k * 7 + 4, none⟩) hb).trans p4
      have q5 := (hbel.cell (p := ⟨b, o + k * 7 + 5, none⟩) hb).trans p5
      have q6 := (hbel.cell (p := ⟨b, o + k * 7 + 6, none⟩) hb).trans p6
      have hbr : b < wr.heap.size := by omega
      clear hcc p0 p1 p2 p3 p4 p5 p6 hbx hbel
      by_cases he : (T[k]).id = id
      · have heb : ((T[k]).id == id) = true := by simpa using he
        have HS : Hid (res = some T[k]) := by
          show res = some T[k]
          rw [← HR.out, thAt_first hlt he HP.out]
        clear he
        go_wp2
        have HW : Hid (Below w.heap.size w ((set7 wr (w.heap.size + 1) T[k]).alloc (.cells #[.int .i64 (T[k]).id, .int .i64 (T[k]).kind, .string (T[k]).title, .string (T[k]).code, .int .i64 (T[k]).since, .int .i64 (T[k]).parent, .slice (T[k]).pA (T[k]).parts.length (T[k]).pc] 54))) := (set7_below T[k] HB.out (by omega)).alloc (by have := (set7_below T[k] (Below.refl wr.heap.size wr) (g := wr.heap.size) (Nat.le_refl _)).size; have := (set7_below (g := w.heap.size + 1) T[k] HB.out (by omega)).size; omega) _
        have hbt := BoxT.alloc (set7_box T[k] HBX.out) (.cells #[.int .i64 (T[k]).id, .int .i64 (T[k]).kind, .string (T[k]).title, .string (T[k]).code, .int .i64 (T[k]).since, .int .i64 (T[k]).parent, .slice (T[k]).pA (T[k]).parts.length (T[k]).pc] 54)
        unfold set7 at HW hbt
        generalize ((((((((wr.setCell ⟨w.heap.size + 1, 0, none⟩ (.int .i64 (T[k]).id)).setCell ⟨w.heap.size + 1, 1, none⟩ (.int .i64 (T[k]).kind)).setCell ⟨w.heap.size + 1, 2, none⟩ (.string (T[k]).title)).setCell ⟨w.heap.size + 1, 3, none⟩ (.string (T[k]).code)).setCell ⟨w.heap.size + 1, 4, none⟩ (.int .i64 (T[k]).since)).setCell ⟨w.heap.size + 1, 5, none⟩ (.int .i64 (T[k]).parent)).setCell ⟨w.heap.size + 1, 6, none⟩ (.slice (T[k]).pA (T[k]).parts.length (T[k]).pc)).alloc (.cells #[.int .i64 (T[k]).id, .int .i64 (T[k]).kind, .string (T[k]).title, .string (T[k]).code, .int .i64 (T[k]).since, .int .i64 (T[k]).parent, .slice (T[k]).pA (T[k]).parts.length (T[k]).pc] 54)) = WF at *
        obtain ⟨z0, z1, z2, z3, z4, z5, z6⟩ := hbt.cells
        exact bodyPost_ret (v := .tuple #[thV T[k], .bool true]) (by simp [results, Tryz.results105, go_sem, z0, z1, z2, z3, z4, z5, z6]) rfl (GivesTh.some_ HS.out HW.out)
      · have heb : ((T[k]).id == id) = false := by simpa using he
        have HNE := Lib.hid he
        clear he
        go_wp2
        go_roundg (gk - 1)
        case measure => have := HK.out; omega
        case rel =>
          refine ⟨k + 1, by have := HK.out; omega, by go_num, fun j hj hjk => ?_, (Below.heap_alloc wr _ _ hwr).trans HBX.out, HB.out.alloc (by omega) _⟩
          rcases Nat.lt_or_ge j k with h1 | h1
          · exact HP.out j hj h1
          · obtain rfl : j = k := by omega
            exact HNE.out
    · have HS : Hid (res = none) := by
        show res = none
        rw [← HR.out, thAt_all fun j hj => HP.out j hj (by omega)]
      go_wp2
      have HW := Lib.hid (set7_below (g := w.heap.size + 1) (default : Th) HB.out (by omega))
      have hbt := set7_box (default : Th) HBX.out
      change bodyPost _ _ _ _ _ (set7 wr (w.heap.size + 1) default)
      generalize set7 wr (w.heap.size + 1) default = WF at *
      obtain ⟨z0, z1, z2, z3, z4, z5, z6⟩ := hbt.cells
      have z2' : WF.cell? ⟨w.heap.size + 1, 2, none⟩ = some (.string ⟨#[]⟩) := z2
      have z3' : WF.cell? ⟨w.heap.size + 1, 3, none⟩ = some (.string ⟨#[]⟩) := z3
      have z0' : WF.cell? ⟨w.heap.size + 1, 0, none⟩ = some (.int .i64 0) := z0
      have z1' : WF.cell? ⟨w.heap.size + 1, 1, none⟩ = some (.int .i64 0) := z1
      have z4' : WF.cell? ⟨w.heap.size + 1, 4, none⟩ = some (.int .i64 0) := z4
      have z5' : WF.cell? ⟨w.heap.size + 1, 5, none⟩ = some (.int .i64 0) := z5
      have z6' : WF.cell? ⟨w.heap.size + 1, 6, none⟩ = some (.slice none 0 0) := z6
      exact bodyPost_ret (v := .tuple #[thZ, .bool false]) (by simp [results, Tryz.results105, go_sem, z0', z1', z2', z3', z4', z5', z6']) rfl (GivesTh.none_ HS.out HW.out)
end Go.Proofs.YtfninfgohiipjaaGreatDoor
