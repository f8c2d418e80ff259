/- slices.Index and slices.Contains over ints; once. -/
import Derived.Test.YtfninfgohiipjaaGreatDoorLcJ
namespace Go.Proofs.YtfninfgohiipjaaGreatDoor
open Go.RowKit Dw

def memI (l : List Int) (s : Int) : Bool := l.any fun x => decide (x = s)
def posI (l : List Int) (s : Int) : Int := match l.findIdx? fun x => decide (x = s) with
  | some i => i
  | none => -1
theorem posI_mem (l : List Int) (s : Int) : decide ((0 : Int) ≤ posI l s) = memI l s := by
  unfold posI memI
  cases h : l.findIdx? fun x => decide (x = s) with
  | none =>
    have : (l.any fun x => decide (x = s)) = false := by
      rw [List.any_eq_false]
      intro x hx
      have := List.findIdx?_eq_none_iff.1 h x hx
      simpa using this
    rw [this]; rfl
  | some i =>
    obtain ⟨hi, hp, _⟩ := List.findIdx?_eq_some_iff_getElem.1 h
    have : (l.any fun x => decide (x = s)) = true := List.any_eq_true.2 ⟨l[i], List.getElem_mem hi, hp⟩
    rw [this]; simp
def PoiRel (w : World) (l : List Int) (s : Int) (m : Nat) (i : Value) (wr : World) : Prop :=
  w = wr ∧ ∃ k : Nat, k + m = l.length ∧ i = .int .i64 k ∧ ∀ j (h : j < l.length), j < k → l[j] ≠ s

set_option maxHeartbeats 400000 in
theorem indexI_c (A : Option Addr) (c : Nat) (l : List Int) (s : Int) (w : World) (hn : l.length ≤ 1000000) (h : Ints w A l) :
    Calls Tryz.prog 89 #[.slice A l.length c, .int .i64 s] w (Gives (.int .i64 (posI l s)) w) := by
  generalize hres : posI l s = res
  have HR := Lib.hid hres
  clear hres
  go_enter Tryz.func89, Tryz.ntmps89
  go_wp2
  go_loopg [8] l.length (PoiRel w l s)
  case atStart => exact ⟨rfl, 0, by omega, rfl, fun j _ hj => absurd hj (by omega)⟩
  case round =>
    obtain ⟨hw, k, hk, rfl, hpre⟩ := hrel
    subst hw
    have HK := Lib.hid hk
    have HP := Lib.hid hpre
    have hk1 : k ≤ l.length := by omega
    clear hk hpre
    by_cases hlt : k < l.length
    · obtain ⟨b, o, rfl, hb, hc⟩ := h.at_ (by omega)
      have hc0 := hc k hlt
      clear hc
      by_cases hq : s = l[k]
      · have hqb : (s == l[k]) = true := by simpa using hq
        have HQ := Lib.hid hq
        clear hq
        go_wp2
        go_ret
        refine Gives.mk (vint ?_) rfl
        rw [← HR.out]
        unfold posI
        rw [List.findIdx?_eq_some_iff_getElem.2 ⟨hlt, by simp [HQ.out], fun j hj => by simpa using HP.out j (by omega) hj⟩]
      · have hqb : (s == l[k]) = false := by simpa using hq
        have HQ := Lib.hid hq
        clear hq
        go_wp2
        go_roundg (gk - 1)
        case measure => have := HK.out; omega
        case rel =>
          refine ⟨rfl, k + 1, by have := HK.out; omega, by go_num, fun j hj hjk => ?_⟩
          rcases Nat.lt_or_ge j k with h1 | h1
          · exact HP.out j hj h1
          · obtain rfl : j = k := by omega
            exact fun e => HQ.out e.symm
    · go_wp2
      go_ret
      refine Gives.mk (vint ?_) rfl
      rw [← HR.out]
      unfold posI
      rw [List.findIdx?_eq_none_iff.2 fun x hx => by
        obtain ⟨j, hj, rfl⟩ := List.getElem_of_mem hx
        simpa using HP.out j hj (by omega)]

set_option maxHeartbeats 400000 in
theorem containsI_c (A : Option Addr) (c : Nat) (l : List Int) (s : Int) (w : World) (hn : l.length ≤ 1000000) (h : Ints w A l) :
    Calls Tryz.prog 55 #[.slice A l.length c, .int .i64 s] w (Gives (.bool (memI l s)) w) := by
  have hm := posI_mem l s
  generalize memI l s = res at *
  have HM := Lib.hid hm
  clear hm
  go_enter Tryz.func55, Tryz.ntmps55
  go_wp2_with (go_at_call 89; refine (indexI_c _ _ _ _ _ hn h).mono ?_; rintro e w' ⟨rfl, rfl⟩)
  go_ret
  exact Gives.mk (vbool HM.out) rfl
end Go.Proofs.YtfninfgohiipjaaGreatDoor
