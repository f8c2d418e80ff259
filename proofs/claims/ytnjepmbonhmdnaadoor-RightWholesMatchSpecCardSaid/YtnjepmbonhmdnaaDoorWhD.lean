/- slices.Index and slices.Contains over names. -/
import Derived.Test.YtnjepmbonhmdnaaDoorRefE
namespace Go.Proofs.YtnjepmbonhmdnaaDoor
open Go.RowKit Dw

def posS (l : List ByteArray) (s : ByteArray) : Int := match l.findIdx? fun x => decide (x = s) with
  | some i => i
  | none => -1
theorem posS_mem (l : List ByteArray) (s : ByteArray) : decide ((0 : Int) ≤ posS l s) = memS l s := by
  unfold posS memS
  cases h : l.findIdx? fun x => decide (x = s) with
  | none =>
    have : (l.any fun x => decide (x = s)) = false := by
      rw [List.any_eq_false]
      intro x hx
      have := List.findIdx?_eq_none_iff.1 h x hx
      simpa using this
    rw [this]; rfl
  | some i =>
    obtain ⟨hi, hp, _⟩ := List.findIdx?_eq_some_iff_getElem.1 h
    have : (l.any fun x => decide (x = s)) = true := List.any_eq_true.2 ⟨l[i], List.getElem_mem hi, hp⟩
    rw [this]; simp
def PosIRel (w : World) (l : List ByteArray) (s : ByteArray) (m : Nat) (i : Value) (wr : World) : Prop :=
  w = wr ∧ ∃ k : Nat, k + m = l.length ∧ i = .int .i64 k ∧ ∀ j (h : j < l.length), j < k → l[j] ≠ s

set_option maxHeartbeats 400000 in
theorem indexS_c (A : Option Addr) (c : Nat) (l : List ByteArray) (s : ByteArray) (w : World) (hn : l.length ≤ 1000000) (h : Strs w A l) :
    Calls Tryd.prog 55 #[.slice A l.length c, .string s] w (Gives (.int .i64 (posS l s)) w) := by
  generalize hres : posS l s = res
  have HR := Lib.hid hres
  clear hres
  go_enter Tryd.func55, Tryd.ntmps55
  go_wp2
  go_loopg [8] l.length (PosIRel w l s)
  case atStart => exact ⟨rfl, 0, by omega, rfl, fun j _ hj => absurd hj (by omega)⟩
  case round =>
    obtain ⟨hw, k, hk, rfl, hpre⟩ := hrel
    subst hw
    have HK := Lib.hid hk
    have HP := Lib.hid hpre
    have hk1 : k ≤ l.length := by omega
    clear hk hpre
    by_cases hlt : k < l.length
    · obtain ⟨b, o, rfl, hb, hc⟩ := h.at_ (by omega)
      have hc0 := hc k hlt
      clear hc
      by_cases hq : s = l[k]
      · have hqb := beq_of_eq hq
        have HQ := Lib.hid hq
        clear hq
        go_wp2
        go_ret
        refine Gives.mk (vint ?_) rfl
        rw [← HR.out]
        unfold posS
        rw [List.findIdx?_eq_some_iff_getElem.2 ⟨hlt, by simp [HQ.out], fun j hj => by simpa using HP.out j (by omega) hj⟩]
      · have hqb := beq_of_ne hq
        have HQ := Lib.hid hq
        clear hq
        go_wp2
        go_roundg (gk - 1)
        case measure => have := HK.out; omega
        case rel =>
          refine ⟨rfl, k + 1, by have := HK.out; omega, by go_num, fun j hj hjk => ?_⟩
          rcases Nat.lt_or_ge j k with h1 | h1
          · exact HP.out j hj h1
          · obtain rfl : j = k := by omega
            exact fun e => HQ.out e.symm
    · go_wp2
      go_ret
      refine Gives.mk (vint ?_) rfl
      rw [← HR.out]
      unfold posS
      rw [List.findIdx?_eq_none_iff.2 fun x hx => by
        obtain ⟨j, hj, rfl⟩ := List.getElem_of_mem hx
        simpa using HP.out j hj (by omega)]

set_option maxHeartbeats 400000 in
theorem containsS_c (A : Option Addr) (c : Nat) (l : List ByteArray) (s : ByteArray) (w : World) (hn : l.length ≤ 1000000) (h : Strs w A l) :
    Calls Tryd.prog 48 #[.slice A l.length c, .string s] w (Gives (.bool (memS l s)) w) := by
  have hm := posS_mem l s
  generalize memS l s = res at *
  have HM := Lib.hid hm
  clear hm
  go_enter Tryd.func48, Tryd.ntmps48
  go_wp2_with (go_at_call 55; refine (indexS_c _ _ _ _ _ hn h).mono ?_; rintro e w' ⟨rfl, rfl⟩)
  go_ret
  exact Gives.mk (vbool HM.out) rfl
end Go.Proofs.YtnjepmbonhmdnaaDoor
