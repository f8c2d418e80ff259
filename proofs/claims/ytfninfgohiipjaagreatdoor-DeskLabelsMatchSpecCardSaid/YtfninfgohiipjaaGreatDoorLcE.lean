/- The reference of chapter 6: moved and find. -/
import Derived.Test.YtfninfgohiipjaaGreatDoorLcD
namespace Go.Proofs.YtfninfgohiipjaaGreatDoor
open Go.RowKit Dw

/-- A catalogue in a box. -/
structure CB (w : World) (wr : World) (g : Nat) (v1 v2 : Value) : Prop where
  box : wr.heap[g]? = some (.cells #[v1, v2] 25 (0, 0))
  bel : Below w.heap.size w wr
section
variable {w wr wr' : World} {g : Nat} {v1 v2 : Value}
theorem CB.lt (h : CB w wr g v1 v2) : g < wr.heap.size := (Array.getElem?_eq_some_iff.1 h.box).1
theorem CB.new (w : World) (v1 v2 : Value) : CB w (w.alloc (.cells #[v1, v2] 25)) w.heap.size v1 v2 := ⟨heap_alloc_new _ _, (Below.refl _ _).alloc (Nat.le_refl _) _⟩
theorem CB.alloc (h : CB w wr g v1 v2) (o : Obj) : CB w (wr.alloc o) g v1 v2 := ⟨(Below.heap_alloc wr o _ h.lt).trans h.box, h.bel.alloc h.bel.size o⟩
theorem CB.below (h : CB w wr g v1 v2) (hb : Below wr.heap.size wr wr') : CB w wr' g v1 v2 := ⟨(hb.block _ h.lt).trans h.box, h.bel.trans (hb.mono h.bel.size)⟩
theorem CB.drewN (h : CB w wr g v1 v2) (n : Nat) : CB w (wr.drewN n) g v1 v2 := h.below (below_drewN (Below.refl _ _) n)
theorem CB.c0 (h : CB w wr g v1 v2) : wr.cell? ⟨g, 0, none⟩ = some v1 := boxC h.box rfl
theorem CB.c1 (h : CB w wr g v1 v2) : wr.cell? ⟨g, 1, none⟩ = some v2 := boxC h.box rfl
end
def MvRel (w : World) (M : List Mv) (id : Int) (m : Nat) (i : Value) (wr : World) : Prop :=
  ∃ k : Nat, k + m = M.length ∧ i = .int .i64 k ∧ (∀ j (h : j < M.length), j < k → (M[j]).frm ≠ id) ∧ Below w.heap.size w wr

set_option maxHeartbeats 1000000 in
theorem movedR_c (A1 : Option Addr) (c1 : Nat) (T : List Th) (A2 : Option Addr) (c2 : Nat) (M : List Mv) (id : Int) (w : World) (hc : CatOk w A1 T A2 M) (hn : M.length ≤ 300) :
    Calls Tryz.prog 107 #[catV A1 c1 T A2 c2 M, .int .i64 id] w (GivesF (mvAt M id) w) := by
  generalize hres : mvAt M id = res
  have HR := Lib.hid hres
  clear hres
  go_enter Tryz.func107, Tryz.ntmps107
  go_wp2
  go_loopg [11] M.length (MvRel w M id)
  case atStart => exact ⟨0, by omega, rfl, fun j _ hj => absurd hj (by omega), (Below.refl _ _).alloc (Nat.le_refl _) _⟩
  case round =>
    obtain ⟨k, hk, rfl, hpre, hbel⟩ := hrel
    have HK := Lib.hid hk
    have HP := Lib.hid hpre
    have HB := Lib.hid hbel
    have hk1 : k ≤ M.length := by omega
    have hwr : w.heap.size ≤ wr.heap.size := hbel.size
    clear hk hpre
    by_cases hlt : k < M.length
    · obtain ⟨b, o, rfl, hb, hcc⟩ := hc.mvs.at_ (by omega)
      obtain ⟨p0, p1⟩ := hcc k hlt
      have q0 := (hbel.cell (p := ⟨b, o + k * 2, none⟩) hb).trans p0
      have q1 := (hbel.cell (p := ⟨b, o + k * 2 + 1, none⟩) hb).trans p1
      have hbr : b < wr.heap.size := by omega
      have HI : Hid ((M[k]).frm = id → res = some (M[k]).to) := fun he => by rw [← HR.out, mvAt_first hlt he HP.out]
      have HN : Hid ((M[k]).frm ≠ id → ∀ j (h : j < M.length), j < k + 1 → (M[j]).frm ≠ id) := fun he j hj hjk => by
        rcases Nat.lt_or_ge j k with h1 | h1
        · exact HP.out j hj h1
        · obtain rfl : j = k := by omega
          exact he
      clear hcc p0 p1 hbel
      generalize hf1 : (M[k]).frm = fr at *
      generalize hf2 : (M[k]).to = to at *
      clear hf1 hf2
      by_cases he : fr = id
      · have heb : (fr == id) = true := by simpa using he
        have HS := Lib.hid (HI.out he)
        clear he
        go_wp2
        go_ret2
        exact GivesF.some_ HS.out (HB.out.alloc (by omega) _)
      · have heb : (fr == id) = false := by simpa using he
        have HNE := Lib.hid (HN.out he)
        clear he
        go_wp2
        go_roundg (gk - 1)
        case measure => have := HK.out; omega
        case rel => exact ⟨k + 1, by have := HK.out; omega, by go_num, HNE.out, HB.out.alloc (by omega) _⟩
    · have HS : Hid (res = none) := by
        show res = none
        rw [← HR.out, mvAt_all fun j hj => HP.out j hj (by omega)]
      go_wp2
      go_ret2
      exact GivesF.none_ HS.out HB.out

def FnRel (w : World) (T : List Th) (M : List Mv) (v1 v2 : Value) (res : Option Int) (m : Nat) (x i : Value) (wr : World) : Prop :=
  ∃ (k : Nat) (id : Int), k + m = M.length + 1 ∧ i = .int .i64 k ∧ x = .int .i64 id ∧ findN T M m id = res ∧ CB w wr w.heap.size v1 v2

set_option maxHeartbeats 1000000 in
theorem findR_c (A1 : Option Addr) (c1 : Nat) (T : List Th) (A2 : Option Addr) (c2 : Nat) (M : List Mv) (id : Int) (w : World) (hc : CatOk w A1 T A2 M) (hn : T.length ≤ 300) (hm : M.length ≤ 300) :
    Calls Tryz.prog 108 #[catV A1 c1 T A2 c2 M, .int .i64 id] w (GivesF (findN T M (M.length + 1) id) w) := by
  generalize hres : findN T M (M.length + 1) id = res
  have HR := Lib.hid hres
  clear hres
  go_enter Tryz.func108, Tryz.ntmps108
  go_wp2
  go_loopg [1, 14] (M.length + 1) (FnRel w T M (.slice A1 T.length c1) (.slice A2 M.length c2) res)
  case atStart => exact ⟨0, id, by omega, rfl, rfl, HR.out, CB.new _ _ _⟩
  case round =>
    obtain ⟨k, x, hk, rfl, rfl, hf, hcb⟩ := hrel
    have HK := Lib.hid hk
    have HF := Lib.hid hf
    have HCB := Lib.hid hcb
    have hk1 : k ≤ M.length + 1 := by omega
    have hwr : w.heap.size < wr.heap.size := hcb.lt
    have b0 := hcb.c0
    have b1 := hcb.c1
    clear hk hf hcb
    by_cases hlt : k < M.length + 1
    · have hlt2 : (k : Int) < (M.length : Int) + 1 := by omega
      go_wp2_with fail
      refine (thing_c A1 c1 T A2 c2 M x _ (hc.below HCB.out.bel) hn).mono ?_
      rintro e w2 ⟨rfl, hb2⟩
      have HC2 := Lib.hid (HCB.out.below hb2)
      clear hb2
      have hw2 : w.heap.size < w2.heap.size := HC2.out.lt
      have d0 := HC2.out.c0
      have d1 := HC2.out.c1
      cases hta : thAt T x with
      | some p =>
        have HS : Hid (res = some x) := by
          show res = some x
          rw [← HF.out, show gk = (gk - 1) + 1 by have := HK.out; omega, findN, hta]; rfl
        clear hta
        simp only [thO, Option.map_some, Option.getD_some, Option.isSome_some]
        go_wp2
        go_ret2
        exact GivesF.some_ HS.out (HC2.out.bel.alloc (by omega) _)
      | none =>
        simp only [thO, Option.map_none, Option.getD_none, Option.isSome_none]
        go_wp2_with fail
        refine (movedR_c A1 c1 T A2 c2 M x _ ((hc.below HC2.out.bel).below ((Below.refl _ _).alloc (Nat.le_refl _) _)) hm).mono ?_
        rintro e w3 ⟨rfl, hb3⟩
        have HC3 := Lib.hid ((HC2.out.alloc _).below hb3)
        clear hb3
        have hw3 : w.heap.size < w3.heap.size := HC3.out.lt
        cases hmv : mvAt M x with
        | none =>
          have HS : Hid (res = none) := by
            show res = none
            rw [← HF.out, show gk = (gk - 1) + 1 by have := HK.out; omega, findN, hta, hmv]; rfl
          clear hta hmv
          simp only [Option.getD_none, Option.isSome_none]
          go_wp2
          go_ret2
          exact GivesF.none_ HS.out HC3.out.bel
        | some y =>
          have HS : Hid (findN T M (gk - 1) y = res) := by
            show findN T M (gk - 1) y = res
            have h1 := HF.out
            rw [show gk = (gk - 1) + 1 by have := HK.out; omega, findN, hta, hmv] at h1
            exact h1
          clear hta hmv
          simp only [Option.getD_some, Option.isSome_some]
          go_wp2
          go_roundg (gk - 1)
          case measure => have := HK.out; omega
          case rel => exact ⟨k + 1, _, by have := HK.out; omega, by go_num, rfl, HS.out, HC3.out⟩
    · have HS : Hid (res = none) := by
        show res = none
        rw [← HF.out, show gk = 0 by have := HK.out; omega]; rfl
      go_wp2
      go_ret2
      exact GivesF.none_ HS.out HCB.out.bel
end Go.Proofs.YtfninfgohiipjaaGreatDoor
