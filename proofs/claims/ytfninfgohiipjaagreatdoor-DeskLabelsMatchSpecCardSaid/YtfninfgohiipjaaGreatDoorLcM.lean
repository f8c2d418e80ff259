/- The reference of chapter 6: madeOf. -/
import Derived.Test.YtfninfgohiipjaaGreatDoorLcL
namespace Go.Proofs.YtfninfgohiipjaaGreatDoor
open Go.RowKit Dw

/-- Whether a thing was made of another, from parent to parent. -/
def madeB (T : List Th) (t : Th) (id : Int) : Bool := (List.range T.length).any fun j => decide (parN T j t.parent = id)
theorem madeB_yes {T : List Th} {t : Th} {id : Int} {j : Nat} (hj : j < T.length) (h : parN T j t.parent = id) : madeB T t id = true := by
  unfold madeB
  exact List.any_eq_true.2 ⟨j, List.mem_range.2 hj, by simpa using h⟩
theorem madeB_no {T : List Th} {t : Th} {id : Int} (hp : ∀ i, i < T.length → parN T i t.parent ≠ id) : madeB T t id = false := by
  unfold madeB
  rw [List.any_eq_false]
  intro i hi
  simpa using hp i (List.mem_range.1 hi)
theorem madeB_stuck {T : List Th} (h : Pos T) {t : Th} {id : Int} (hid : 1 ≤ id) {j : Nat} (hj : thAt T (parN T j t.parent) = none) (hp : ∀ i, i < j + 1 → parN T i t.parent ≠ id) : madeB T t id = false :=
  madeB_no fun i _ => by
    rcases Nat.lt_or_ge i (j + 1) with h1 | h1
    · exact hp i h1
    · obtain ⟨d, rfl⟩ : ∃ d, i = j + (d + 1) := ⟨i - j - 1, by omega⟩
      rw [parN_add, parN_stuck h hj]
      omega
def MoRel (w : World) (T : List Th) (t : Th) (id : Int) (v1 v2 : Value) (m : Nat) (i : Value) (wr : World) : Prop :=
  ∃ (k : Nat) (x : Th), k + m = T.length ∧ i = .int .i64 k ∧ x.parent = parN T k t.parent ∧ (∀ j, j < k → parN T j t.parent ≠ id) ∧ CB w wr w.heap.size v1 v2 ∧ BoxT wr (w.heap.size + 1) x

set_option maxRecDepth 100000 in
set_option maxHeartbeats 2000000 in
theorem madeOf_c (A1 : Option Addr) (c1 : Nat) (T : List Th) (A2 : Option Addr) (c2 : Nat) (M : List Mv) (t : Th) (id : Int) (w : World) (hc : CatOk w A1 T A2 M) (hn : T.length ≤ 300) (hp : Pos T) (hid : 1 ≤ id) :
    Calls Tryz.prog 122 #[catV A1 c1 T A2 c2 M, thV t, .int .i64 id] w (GivesB (.bool (madeB T t id)) w) := by
  generalize hres : madeB T t id = res
  have HR := Lib.hid hres
  have HPo := Lib.hid hp
  have HID := Lib.hid hid
  clear hres hp hid
  go_enter Tryz.func122, Tryz.ntmps122
  go_wp2
  go_loopg [12] T.length (MoRel w T t id (.slice A1 T.length c1) (.slice A2 M.length c2))
  case atStart =>
    have e1 : (w.alloc (.cells #[.slice A1 T.length c1, .slice A2 M.length c2] 25)).heap.size = w.heap.size + 1 := by simp
    refine ⟨0, t, by omega, rfl, rfl, fun j hj => absurd hj (by omega), (CB.new _ _ _).alloc _, ?_⟩
    have := heap_alloc_new (w.alloc (.cells #[.slice A1 T.length c1, .slice A2 M.length c2] 25)) (.cells #[.int .i64 t.id, .int .i64 t.kind, .string t.title, .string t.code, .int .i64 t.since, .int .i64 t.parent, .slice t.pA t.parts.length t.pc] 54)
    rw [e1] at this
    exact this
  case round =>
    obtain ⟨k, x, hk, rfl, hx, hpre, hcb, hbx⟩ := hrel
    have HK := Lib.hid hk
    have HX := Lib.hid hx
    have HP := Lib.hid hpre
    have HCB := Lib.hid hcb
    have HBX := Lib.hid hbx
    have hk1 : k ≤ T.length := by omega
    have hwr : w.heap.size + 1 < wr.heap.size := hbx.lt
    have b0 := hcb.c0
    have b1 := hcb.c1
    obtain ⟨x0, x1, x2, x3, x4, x5, x6⟩ := hbx.cells
    clear hk hx hpre hcb hbx
    by_cases hlt : k < T.length
    · by_cases he : x.parent = id
      · have heb : (x.parent == id) = true := by simpa using he
        have HS : Hid (res = true) := by
          show res = true
          rw [← HR.out, madeB_yes (j := k) hlt (by rw [← HX.out, he])]
        clear he
        go_wp2
        go_ret
        exact GivesB.mk (vbool HS.out.symm) HCB.out.bel
      have heb : (x.parent == id) = false := by simpa using he
      have HN : Hid (∀ j, j < k + 1 → parN T j t.parent ≠ id) := fun j hj => by
        rcases Nat.lt_or_ge j k with h1 | h1
        · exact HP.out j h1
        · obtain rfl : j = k := by omega
          rw [← HX.out]
          exact he
      clear he
      go_wp2_with fail
      refine (thing_c A1 c1 T A2 c2 M x.parent _ (hc.below HCB.out.bel) hn).mono ?_
      rintro e w2 ⟨rfl, hb2⟩
      have HC2 := Lib.hid (HCB.out.below hb2)
      have hbx2 := HBX.out.below hb2
      have HBX2 := Lib.hid hbx2
      clear hb2 x0 x1 x2 x3 x4 x5 x6 b0 b1
      have hw2 : w.heap.size + 1 < w2.heap.size := hbx2.lt
      obtain ⟨x0, x1, x2, x3, x4, x5, x6⟩ := hbx2.cells
      have fz : ∀ i, w2.frozen? ⟨w.heap.size + 1, i, none⟩ = false := fun i => frozen_of_row w2 _ i _ _ hbx2
      clear hbx2
      cases hta : thAt T x.parent with
      | none =>
        have HS : Hid (res = false) := by
          show res = false
          rw [← HR.out, madeB_stuck HPo.out HID.out (j := k) (by rw [← HX.out]; exact hta) HN.out]
        clear hta
        simp only [thO, Option.map_none, Option.getD_none, Option.isSome_none]
        go_wp2
        go_ret
        exact GivesB.mk (vbool HS.out.symm) (HC2.out.bel.alloc (by omega) _)
      | some u =>
        have HU := Lib.hid hta
        clear hta
        simp only [thO, Option.map_some, Option.getD_some, Option.isSome_some]
        go_wp2
        go_roundg (gk - 1)
        case measure => have := HK.out; omega
        case rel =>
          have f1 : CB w ((set7 w2 (w.heap.size + 1) u).alloc (.cells #[.int .i64 u.id, .int .i64 u.kind, .string u.title, .string u.code, .int .i64 u.since, .int .i64 u.parent, .slice u.pA u.parts.length u.pc] 54)) w.heap.size (.slice A1 T.length c1) (.slice A2 M.length c2) := CB.alloc ⟨(set7_other u (by omega)).trans HC2.out.box, set7_below u HC2.out.bel (by omega)⟩ _
          have f3 : BoxT ((set7 w2 (w.heap.size + 1) u).alloc (.cells #[.int .i64 u.id, .int .i64 u.kind, .string u.title, .string u.code, .int .i64 u.since, .int .i64 u.parent, .slice u.pA u.parts.length u.pc] 54)) (w.heap.size + 1) u := BoxT.alloc (set7_box u HBX2.out) _
          change MoRel w T t id _ _ _ _ ((set7 w2 (w.heap.size + 1) u).alloc (.cells #[.int .i64 u.id, .int .i64 u.kind, .string u.title, .string u.code, .int .i64 u.since, .int .i64 u.parent, .slice u.pA u.parts.length u.pc] 54))
          generalize ((set7 w2 (w.heap.size + 1) u).alloc (.cells #[.int .i64 u.id, .int .i64 u.kind, .string u.title, .string u.code, .int .i64 u.since, .int .i64 u.parent, .slice u.pA u.parts.length u.pc] 54)) = WF at *
          exact ⟨k + 1, u, by have := HK.out; omega, by go_num, by rw [parN_succ, ← HX.out, parOf_some HU.out], HN.out, f1, f3⟩
    · have HS : Hid (res = false) := by
        show res = false
        rw [← HR.out, madeB_no fun i hi => HP.out i (by omega)]
      go_wp2
      go_ret
      exact GivesB.mk (vbool HS.out.symm) HCB.out.bel
end Go.Proofs.YtfninfgohiipjaaGreatDoor
