/- The law RightWholesMatchSpec as a call. -/
import Derived.Test.YtnjepmbonhmdnaaDoorWhF
import Derived.Test.YtnjepmbonhmdnaaDoorLawA
namespace Go.Proofs.YtnjepmbonhmdnaaDoor
open Go.RowKit Dw

set_option maxHeartbeats 400000 in
theorem equalB_c (A A2 : Option Addr) (c c2 : Nat) (L : List ByteArray) (w : World) (hn : L.length ≤ 1000000) (h : Strs w A L) (h2 : Strs w A2 L) :
    Calls Tryd.prog 10 #[.slice A L.length c, .slice A2 L.length c2] w (GivesQ (.bool true) w) := by
  go_enter Tryd.func10, Tryd.ntmps10
  go_wp2
  go_loopg [13] L.length (EqRel w L.length)
  case atStart => exact ⟨0, rfl, 0, by omega, rfl⟩
  case round =>
    obtain ⟨q, hw, k, hk, rfl⟩ := hrel
    subst hw
    have HK := Lib.hid hk
    have hk1 : k ≤ L.length := by omega
    clear hk
    by_cases hlt : k < L.length
    · obtain ⟨b, o, rfl, hb, hc⟩ := h.at_ (by omega)
      obtain ⟨b2, o2, rfl, hb2, hc2⟩ := h2.at_ (by omega)
      have hc0 := hc k hlt
      have hc20 := hc2 k hlt
      clear hc hc2
      go_wp2
      go_quiet (fail)
      go_wp2
      go_roundg (gk - 1)
      case measure => have := HK.out; omega
      case rel => exact ⟨_, rfl, k + 1, by have := HK.out; omega, by go_num⟩
    · go_wp2
      go_ret
      exact GivesQ.mk rfl ⟨_, rfl⟩

theorem wholeS_len (l : List Rg) (s : ByteArray) : (wholeS l s).1.length ≤ 1000000 := by
  unfold wholeS
  by_cases h : chkW l = 0
  · rw [if_neg (by rw [h]; simp)]
    have h1 := chkW_len h
    have h2 := reach_le l s
    have h3 := sortS_len (reach l s)
    split
    · simp
    · show (sortS (reach l s)).length ≤ 1000000
      omega
  · rw [if_pos h]; simp

set_option maxHeartbeats 1000000 in
theorem law5_c (A : Option Addr) (c : Nat) (l : List Rg) (s : ByteArray) (w : World) (h : Rgs w A l) (hz : Sized l) (hs : s.size ≤ 9223372036854775807) :
    Calls Tryd.prog 5 #[.slice A l.length c, .string s] w (GivesB (.bool true) w) := by
  have hl := wholeS_len l s
  go_enter Tryd.func5, Tryd.ntmps5
  go_wp2_with fail
  refine (Whole_c A c l s w h hz hs).mono ?_
  rintro e w1 ⟨A4, c4, rfl, hx4, hb1⟩
  go_wp2_with fail
  refine (WholeR_c A c l s w1 (h.below hb1) hz hs).mono ?_
  rintro e w2 ⟨A5, c5, rfl, hx5, hb2'⟩
  have hx4' := hx4.below hb2'
  have hb2 := below_trans hb1 hb2'
  clear hb1 hb2' hx4
  generalize hR : wholeS l s = R at *
  clear hR
  go_wp2_with fail
  refine (equalB_c A4 A5 c4 c5 R.1 w2 hl hx4' hx5).mono ?_
  intro e w5 hq
  obtain ⟨rfl, hb5'⟩ := hq.toB
  have hb := below_trans hb2 hb5'
  clear hx4' hx5 hb2 hb5' hq hl
  go_wp2_with fail
  refine (awake_c _).mono ?_
  rintro e w6 ⟨rfl, hb9'⟩
  have HB := Lib.hid (below_trans hb hb9')
  clear hb hb9'
  go_wp2
  go_ret
  exact GivesB.mk rfl HB.out
end Go.Proofs.YtnjepmbonhmdnaaDoor
