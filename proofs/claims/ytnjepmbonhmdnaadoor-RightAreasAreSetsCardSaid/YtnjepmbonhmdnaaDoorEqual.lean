/- slices.Equal of any two slices of strings, and of areas. -/
import Derived.Test.YtnjepmbonhmdnaaDoorSets
namespace Go.Proofs.YtnjepmbonhmdnaaDoor
open Go.RowKit Dw

def GivesEq (same : Prop) (w : World) (e : Ending) (w' : World) : Prop := ∃ r : Bool, e = .returned (.bool r) ∧ (r = true ↔ same) ∧ ∃ n, w' = w.drewN n
theorem GivesEq.no {same : Prop} {w w' : World} (h : ¬ same) (hw : ∃ n, w' = w.drewN n) : GivesEq same w (.returned (.bool false)) w' := ⟨false, rfl, ⟨(fun e => by cases e), fun e => absurd e h⟩, hw⟩
theorem GivesEq.yes {same : Prop} {w w' : World} (h : same) (hw : ∃ n, w' = w.drewN n) : GivesEq same w (.returned (.bool true)) w' := ⟨true, rfl, ⟨fun _ => h, fun _ => rfl⟩, hw⟩
def EqRel2 {α : Type} (w : World) (L M : List α) (m : Nat) (i : Value) (wr : World) : Prop :=
  ∃ q, wr = w.drewN q ∧ ∃ k : Nat, k + m = L.length ∧ i = .int .i64 k ∧ ∀ j, j < k → L[j]? = M[j]?

theorem same_of {α : Type} {L M : List α} (hl : L.length = M.length) {k : Nat} (hk : L.length ≤ k) (h : ∀ j, j < k → L[j]? = M[j]?) : L = M := by
  apply List.ext_getElem?
  intro i
  by_cases hi : i < k
  · exact h i hi
  · rw [List.getElem?_eq_none (by omega), List.getElem?_eq_none (by omega)]

set_option maxHeartbeats 400000 in
theorem equalS2_c (A A2 : Option Addr) (c c2 : Nat) (L M : List ByteArray) (w : World) (hn : L.length ≤ 200) (hn2 : M.length ≤ 200) (h : Strs w A L) (h2 : Strs w A2 M) :
    Calls Tryd.prog 10 #[.slice A L.length c, .slice A2 M.length c2] w (GivesEq (L = M) w) := by
  by_cases hl : L.length = M.length
  · rw [← hl]
    have HL := Lib.hid hl
    clear hl
    go_enter Tryd.func10, Tryd.ntmps10
    go_wp2
    go_loopg [13] L.length (EqRel2 w L M)
    case atStart => exact ⟨0, rfl, 0, by omega, rfl, fun j hj => absurd hj (by omega)⟩
    case round =>
      obtain ⟨q, hw, k, hk, rfl, hpre⟩ := hrel
      subst hw
      have HK := Lib.hid hk
      have HP := Lib.hid hpre
      have hk1 : k ≤ L.length := by omega
      clear hk hpre
      by_cases hlt : k < L.length
      · have hlt2 : k < M.length := by have := HL.out; omega
        obtain ⟨b, o, rfl, hb, hc⟩ := h.at_ (by omega)
        obtain ⟨b2, o2, rfl, hb2, hc2⟩ := h2.at_ (by omega)
        have hc0 := hc k hlt
        have hc20 := hc2 k hlt2
        clear hc hc2
        by_cases he : L[k] = M[k]
        · have heb := beq_of_eq he
          have HE := Lib.hid he
          clear he
          go_wp2
          go_quiet (fail)
          go_wp2
          go_roundg (gk - 1)
          case measure => have := HK.out; omega
          case rel =>
            refine ⟨_, rfl, k + 1, by have := HK.out; omega, by go_num, fun j hj => ?_⟩
            rcases Nat.lt_or_ge j k with h1 | h1
            · exact HP.out j h1
            · obtain rfl : j = k := by omega
              rw [List.getElem?_eq_getElem hlt, List.getElem?_eq_getElem (by have := HL.out; omega), HE.out]
        · have heb := beq_of_ne he
          have HE : Hid (¬ L = M) := by
            show ¬ L = M
            intro e
            subst e
            exact he rfl
          clear he
          go_wp2
          go_quiet (fail)
          go_wp2
          go_ret
          exact GivesEq.no HE.out ⟨_, World.drewN_drewN _ _ _⟩
      · go_wp2
        go_ret
        exact GivesEq.yes (same_of HL.out (by omega) HP.out) ⟨_, rfl⟩
  · have HE : Hid (¬ L = M) := by
      show ¬ L = M
      intro e
      subst e
      exact hl rfl
    go_enter Tryd.func10, Tryd.ntmps10
    go_wp2
    go_ret
    exact GivesEq.no HE.out ⟨0, rfl⟩

set_option maxHeartbeats 400000 in
theorem equalA2_c (A A2 : Option Addr) (c c2 : Nat) (L M : List Ar) (w : World) (hn : L.length ≤ 200) (hn2 : M.length ≤ 200) (h : Ars w A L) (h2 : Ars w A2 M) :
    Calls Tryd.prog 13 #[.slice A L.length c, .slice A2 M.length c2] w (GivesEq (L = M) w) := by
  by_cases hl : L.length = M.length
  · rw [← hl]
    have HL := Lib.hid hl
    clear hl
    go_enter Tryd.func13, Tryd.ntmps13
    go_wp2
    go_loopg [13] L.length (EqRel2 w L M)
    case atStart => exact ⟨0, rfl, 0, by omega, rfl, fun j hj => absurd hj (by omega)⟩
    case round =>
      obtain ⟨q, hw, k, hk, rfl, hpre⟩ := hrel
      subst hw
      have HK := Lib.hid hk
      have HP := Lib.hid hpre
      have hk1 : k ≤ L.length := by omega
      clear hk hpre
      by_cases hlt : k < L.length
      · have hlt2 : k < M.length := by have := HL.out; omega
        obtain ⟨b, o, rfl, hb, hc⟩ := h.at_ (by omega)
        obtain ⟨b2, o2, rfl, hb2, hc2⟩ := h2.at_ (by omega)
        have hc0 := (hc k hlt).1
        have hc1 := (hc k hlt).2
        have hc20 := (hc2 k hlt2).1
        have hc21 := (hc2 k hlt2).2
        clear hc hc2
        by_cases he : L[k] = M[k]
        · have HE := Lib.hid he
          rw [← he] at hc20 hc21
          clear he
          go_wp2
          go_quiet (fail)
          go_wp2
          go_roundg (gk - 1)
          case measure => have := HK.out; omega
          case rel =>
            refine ⟨_, rfl, k + 1, by have := HK.out; omega, by go_num, fun j hj => ?_⟩
            rcases Nat.lt_or_ge j k with h1 | h1
            · exact HP.out j h1
            · obtain rfl : j = k := by omega
              rw [List.getElem?_eq_getElem hlt, List.getElem?_eq_getElem (by have := HL.out; omega), HE.out]
        · have HE : Hid (¬ L = M) := by
            show ¬ L = M
            intro e
            subst e
            exact he rfl
          by_cases hr : (L[k]).rg = (M[k]).rg
          · have hob : ((L[k]).out == (M[k]).out) = false := by
              cases h1 : (L[k]).out == (M[k]).out with
              | false => rfl
              | true =>
                exfalso
                apply he
                have h3 : (L[k]).out = (M[k]).out := by simpa using h1
                cases hx : L[k]
                cases hy : M[k]
                simp_all
            rw [← hr] at hc20
            clear he hr
            go_wp2
            go_quiet (fail)
            go_wp2
            go_ret
            exact GivesEq.no HE.out ⟨_, World.drewN_drewN _ _ _⟩
          · have hrb := beq_of_ne hr
            clear he hr
            go_wp2
            go_quiet (fail)
            go_wp2
            go_ret
            exact GivesEq.no HE.out ⟨_, World.drewN_drewN _ _ _⟩
      · go_wp2
        go_ret
        exact GivesEq.yes (same_of HL.out (by omega) HP.out) ⟨_, rfl⟩
  · have HE : Hid (¬ L = M) := by
      show ¬ L = M
      intro e
      subst e
      exact hl rfl
    go_enter Tryd.func13, Tryd.ntmps13
    go_wp2
    go_ret
    exact GivesEq.no HE.out ⟨0, rfl⟩
end Go.Proofs.YtnjepmbonhmdnaaDoor
