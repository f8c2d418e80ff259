/- The reference of chapter 6: comesBack. -/
import Derived.Test.YtfninfgohiipjaaGreatDoorLcE
namespace Go.Proofs.YtfninfgohiipjaaGreatDoor
open Go.RowKit Dw

theorem set7_size (w : World) (g : Nat) (t : Th) : (set7 w g t).heap.size = w.heap.size := by simp [set7]
theorem set7_other {w : World} {g i : Nat} (t : Th) (h : i ≠ g) : (set7 w g t).heap[i]? = w.heap[i]? := by
  unfold set7
  rw [Below.heap_setCell _ _ _ _ h, Below.heap_setCell _ _ _ _ h, Below.heap_setCell _ _ _ _ h, Below.heap_setCell _ _ _ _ h, Below.heap_setCell _ _ _ _ h, Below.heap_setCell _ _ _ _ h, Below.heap_setCell _ _ _ _ h]
def CbRel (w : World) (T : List Th) (t : Th) (v1 v2 : Value) (m : Nat) (i : Value) (wr : World) : Prop :=
  ∃ (k : Nat) (x : Th), k + m = T.length ∧ i = .int .i64 k ∧ x.parent = parN T k t.parent ∧ (∀ j, j < k → parN T j t.parent ≠ t.id) ∧ CB w wr w.heap.size v1 v2 ∧ BoxT wr (w.heap.size + 1) t ∧ BoxT wr (w.heap.size + 2) x

set_option maxRecDepth 100000 in
set_option maxHeartbeats 2000000 in
theorem comesBack_c (A1 : Option Addr) (c1 : Nat) (T : List Th) (A2 : Option Addr) (c2 : Nat) (M : List Mv) (t : Th) (w : World) (hc : CatOk w A1 T A2 M) (hn : T.length ≤ 300) (hp : Pos T) (hin : t ∈ T) :
    Calls Tryz.prog 106 #[catV A1 c1 T A2 c2 M, thV t] w (GivesB (.bool (loopT T t)) w) := by
  generalize hres : loopT T t = res
  have HR := Lib.hid hres
  have HPo := Lib.hid hp
  have HIN := Lib.hid hin
  clear hres hp hin
  go_enter Tryz.func106, Tryz.ntmps106
  go_wp2
  go_loopg [12] T.length (CbRel w T t (.slice A1 T.length c1) (.slice A2 M.length c2))
  case atStart =>
    have e1 : (w.alloc (.cells #[.slice A1 T.length c1, .slice A2 M.length c2] 25)).heap.size = w.heap.size + 1 := by simp
    have e2 : ((w.alloc (.cells #[.slice A1 T.length c1, .slice A2 M.length c2] 25)).alloc (.cells #[.int .i64 t.id, .int .i64 t.kind, .string t.title, .string t.code, .int .i64 t.since, .int .i64 t.parent, .slice t.pA t.parts.length t.pc] 54)).heap.size = w.heap.size + 2 := by simp
    refine ⟨0, t, by omega, rfl, rfl, fun j hj => absurd hj (by omega), ((CB.new _ _ _).alloc _).alloc _, BoxT.alloc ?_ _, ?_⟩
    · have := heap_alloc_new (w.alloc (.cells #[.slice A1 T.length c1, .slice A2 M.length c2] 25)) (.cells #[.int .i64 t.id, .int .i64 t.kind, .string t.title, .string t.code, .int .i64 t.since, .int .i64 t.parent, .slice t.pA t.parts.length t.pc] 54)
      rw [e1] at this
      exact this
    · have := heap_alloc_new ((w.alloc (.cells #[.slice A1 T.length c1, .slice A2 M.length c2] 25)).alloc (.cells #[.int .i64 t.id, .int .i64 t.kind, .string t.title, .string t.code, .int .i64 t.since, .int .i64 t.parent, .slice t.pA t.parts.length t.pc] 54)) (.cells #[.int .i64 t.id, .int .i64 t.kind, .string t.title, .string t.code, .int .i64 t.since, .int .i64 t.parent, .slice t.pA t.parts.length t.pc] 54)
      rw [e2] at this
      exact this
  case round =>
    obtain ⟨k, x, hk, rfl, hx, hpre, hcb, hbt, hbx⟩ := hrel
    have HK := Lib.hid hk
    have HX := Lib.hid hx
    have HP := Lib.hid hpre
    have HCB := Lib.hid hcb
    have HBT := Lib.hid hbt
    have HBX := Lib.hid hbx
    have hk1 : k ≤ T.length := by omega
    have hwr : w.heap.size + 2 < wr.heap.size := hbx.lt
    have b0 := hcb.c0
    have b1 := hcb.c1
    obtain ⟨x0, x1, x2, x3, x4, x5, x6⟩ := hbx.cells
    have fz : ∀ i, wr.frozen? ⟨w.heap.size + 2, i, none⟩ = false := fun i => frozen_of_row wr _ i _ _ hbx
    obtain ⟨y0, -, -, -, -, -, -⟩ := hbt.cells
    clear hk hx hpre hcb hbt hbx
    by_cases hlt : k < T.length
    · go_wp2_with fail
      refine (thing_c A1 c1 T A2 c2 M x.parent _ (hc.below HCB.out.bel) hn).mono ?_
      rintro e w2 ⟨rfl, hb2⟩
      have HC2 := Lib.hid (HCB.out.below hb2)
      have hbt2 := HBT.out.below hb2
      have hbx2 := HBX.out.below hb2
      have HBT2 := Lib.hid hbt2
      have HBX2 := Lib.hid hbx2
      clear hb2 x0 x1 x2 x3 x4 x5 x6 fz y0 b0 b1
      have hw2 : w.heap.size + 2 < w2.heap.size := hbx2.lt
      have hw21 : w.heap.size + 1 < w2.heap.size := by omega
      have hw22 : w.heap.size + 1 + 1 < w2.heap.size := by omega
      obtain ⟨y0, -, -, -, -, -, -⟩ := hbt2.cells
      obtain ⟨x0, x1, x2, x3, x4, x5, x6⟩ := hbx2.cells
      have fz : ∀ i, w2.frozen? ⟨w.heap.size + 2, i, none⟩ = false := fun i => frozen_of_row w2 _ i _ _ hbx2
      clear hbt2 hbx2
      cases hta : thAt T x.parent with
      | none =>
        have HS : Hid (res = false) := by
          show res = false
          rw [← HR.out, loopT_stuck HPo.out HIN.out (j := k) (by rw [← HX.out]; exact hta) HP.out]
        clear hta
        simp only [thO, Option.map_none, Option.getD_none, Option.isSome_none]
        go_wp2
        go_ret
        exact GivesB.mk (vbool HS.out.symm) (HC2.out.bel.alloc (by omega) _)
      | some u =>
        have HU := Lib.hid hta
        clear hta
        simp only [thO, Option.map_some, Option.getD_some, Option.isSome_some]
        by_cases he : u.id = t.id
        · have heb : (u.id == t.id) = true := by simpa using he
          have HS : Hid (res = true) := by
            show res = true
            rw [← HR.out, loopT_yes (j := k) hlt (by rw [← HX.out, ← he, (thAt_some HU.out).2])]
          clear he
          go_wp2
          go_ret
          exact GivesB.mk (vbool HS.out.symm) (HC2.out.bel.alloc (by omega) _)
        · have heb : (u.id == t.id) = false := by simpa using he
          have HNE := Lib.hid he
          clear he
          go_wp2
          go_roundg (gk - 1)
          case measure => have := HK.out; omega
          case rel =>
            have f1 : CB w ((set7 w2 (w.heap.size + 1 + 1) u).alloc (.cells #[.int .i64 u.id, .int .i64 u.kind, .string u.title, .string u.code, .int .i64 u.since, .int .i64 u.parent, .slice u.pA u.parts.length u.pc] 54)) w.heap.size (.slice A1 T.length c1) (.slice A2 M.length c2) := CB.alloc ⟨(set7_other u (by omega)).trans HC2.out.box, set7_below u HC2.out.bel (by omega)⟩ _
            have f2 : BoxT ((set7 w2 (w.heap.size + 1 + 1) u).alloc (.cells #[.int .i64 u.id, .int .i64 u.kind, .string u.title, .string u.code, .int .i64 u.since, .int .i64 u.parent, .slice u.pA u.parts.length u.pc] 54)) (w.heap.size + 1) t := BoxT.alloc ((set7_other u (by omega)).trans HBT2.out) _
            have f3 : BoxT ((set7 w2 (w.heap.size + 1 + 1) u).alloc (.cells #[.int .i64 u.id, .int .i64 u.kind, .string u.title, .string u.code, .int .i64 u.since, .int .i64 u.parent, .slice u.pA u.parts.length u.pc] 54)) (w.heap.size + 1 + 1) u := BoxT.alloc (set7_box u HBX2.out) _
            change CbRel w T t _ _ _ _ ((set7 w2 (w.heap.size + 1 + 1) u).alloc (.cells #[.int .i64 u.id, .int .i64 u.kind, .string u.title, .string u.code, .int .i64 u.since, .int .i64 u.parent, .slice u.pA u.parts.length u.pc] 54))
            generalize ((set7 w2 (w.heap.size + 1 + 1) u).alloc (.cells #[.int .i64 u.id, .int .i64 u.kind, .string u.title, .string u.code, .int .i64 u.since, .int .i64 u.parent, .slice u.pA u.parts.length u.pc] 54)) = WF at *
            refine ⟨k + 1, u, by have := HK.out; omega, by go_num, ?_, fun j hj => ?_, f1, f2, f3⟩
            · rw [parN_succ, ← HX.out, parOf_some HU.out]
            · rcases Nat.lt_or_ge j k with h1 | h1
              · exact HP.out j h1
              · obtain rfl : j = k := by omega
                rw [← HX.out, ← (thAt_some HU.out).2]
                exact HNE.out
    · have HS : Hid (res = false) := by
        show res = false
        rw [← HR.out, loopT_no fun i hi => HP.out i (by omega)]
      go_wp2
      go_ret
      exact GivesB.mk (vbool HS.out.symm) HCB.out.bel
end Go.Proofs.YtfninfgohiipjaaGreatDoor
