/- slices.Equal of equal slices, and awake. -/
import Derived.Test.YtnjepmbonhmdnaaDoorPgN
namespace Go.Proofs.YtnjepmbonhmdnaaDoor
open Go.RowKit Dw

def EqRel (w : World) (n : Nat) (m : Nat) (i : Value) (wr : World) : Prop :=
  ∃ q, wr = w.drewN q ∧ ∃ k : Nat, k + m = n ∧ i = .int .i64 k

set_option maxHeartbeats 400000 in
theorem equalS_c (A A2 : Option Addr) (c c2 : Nat) (L : List ByteArray) (w : World) (hn : L.length ≤ 200) (h : Strs w A L) (h2 : Strs w A2 L) :
    Calls Tryd.prog 10 #[.slice A L.length c, .slice A2 L.length c2] w (GivesQ (.bool true) w) := by
  go_enter Tryd.func10, Tryd.ntmps10
  go_wp2
  go_loopg [13] L.length (EqRel w L.length)
  case atStart => exact ⟨0, rfl, 0, by omega, rfl⟩
  case round =>
    obtain ⟨q, hw, k, hk, rfl⟩ := hrel
    subst hw
    have HK := Lib.hid hk
    have hk1 : k ≤ L.length := by omega
    clear hk
    by_cases hlt : k < L.length
    · obtain ⟨b, o, rfl, hb, hc⟩ := h.at_ (by omega)
      obtain ⟨b2, o2, rfl, hb2, hc2⟩ := h2.at_ (by omega)
      have hc0 := hc k hlt
      have hc20 := hc2 k hlt
      clear hc hc2
      go_wp2
      go_quiet (fail)
      go_wp2
      go_roundg (gk - 1)
      case measure => have := HK.out; omega
      case rel => exact ⟨_, rfl, k + 1, by have := HK.out; omega, by go_num⟩
    · go_wp2
      go_ret
      exact GivesQ.mk rfl ⟨_, rfl⟩

set_option maxHeartbeats 400000 in
theorem equalA_c (A A2 : Option Addr) (c c2 : Nat) (L : List Ar) (w : World) (hn : L.length ≤ 200) (h : Ars w A L) (h2 : Ars w A2 L) :
    Calls Tryd.prog 13 #[.slice A L.length c, .slice A2 L.length c2] w (GivesQ (.bool true) w) := by
  go_enter Tryd.func13, Tryd.ntmps13
  go_wp2
  go_loopg [13] L.length (EqRel w L.length)
  case atStart => exact ⟨0, rfl, 0, by omega, rfl⟩
  case round =>
    obtain ⟨q, hw, k, hk, rfl⟩ := hrel
    subst hw
    have HK := Lib.hid hk
    have hk1 : k ≤ L.length := by omega
    clear hk
    by_cases hlt : k < L.length
    · obtain ⟨b, o, rfl, hb, hc⟩ := h.at_ (by omega)
      obtain ⟨b2, o2, rfl, hb2, hc2⟩ := h2.at_ (by omega)
      have hc0 := (hc k hlt).1
      have hc1 := (hc k hlt).2
      have hc20 := (hc2 k hlt).1
      have hc21 := (hc2 k hlt).2
      clear hc hc2
      go_wp2
      go_quiet (fail)
      go_wp2
      go_roundg (gk - 1)
      case measure => have := HK.out; omega
      case rel => exact ⟨_, rfl, k + 1, by have := HK.out; omega, by go_num⟩
    · go_wp2
      go_ret
      exact GivesQ.mk rfl ⟨_, rfl⟩

def sa : ByteArray := ⟨#[97]⟩
theorem leaves_awake : leavesS [⟨sa, emp⟩] [⟨sa, false⟩] = ([sa], 0) := by decide +kernel

set_option maxHeartbeats 400000 in
theorem awake_c (w : World) : Calls Tryd.prog 20 #[] w (GivesB (.bool true) w) := by
  have hb1 : Below w.heap.size w (w.alloc (.cells #[.string ⟨#[97]⟩, .string ⟨#[]⟩] 54)) := (Below.refl _ _).alloc (Nat.le_refl _) _
  have hb2 : Below w.heap.size w ((w.alloc (.cells #[.string ⟨#[97]⟩, .string ⟨#[]⟩] 54)).alloc (.cells #[.string ⟨#[97]⟩, .bool false] 34)) := hb1.alloc hb1.size _
  have hr : Rgs ((w.alloc (.cells #[.string ⟨#[97]⟩, .string ⟨#[]⟩] 54)).alloc (.cells #[.string ⟨#[97]⟩, .bool false] 34)) (some ⟨w.heap.size, 0, none⟩) [⟨sa, emp⟩] := fun _ =>
    ⟨w.heap.size, 0, rfl, fun i hi => by
      have : i = 0 := by simp at hi; omega
      subst this
      constructor
      · rw [cell_of_row _ w.heap.size _ _ _ _ (heap_keep (heap_alloc_new _ _))]; rfl
      · rw [cell_of_row _ w.heap.size _ _ _ _ (heap_keep (heap_alloc_new _ _))]; rfl⟩
  have ha : Ars ((w.alloc (.cells #[.string ⟨#[97]⟩, .string ⟨#[]⟩] 54)).alloc (.cells #[.string ⟨#[97]⟩, .bool false] 34)) (some ⟨w.heap.size + 1, 0, none⟩) [⟨sa, false⟩] := fun _ =>
    ⟨w.heap.size + 1, 0, rfl, fun i hi => by
      have : i = 0 := by simp at hi; omega
      subst this
      have hn := heap_alloc_new (w.alloc (.cells #[.string ⟨#[97]⟩, .string ⟨#[]⟩] 54)) (.cells #[.string ⟨#[97]⟩, .bool false] 34)
      rw [show (w.alloc (.cells #[.string ⟨#[97]⟩, .string ⟨#[]⟩] 54)).heap.size = w.heap.size + 1 by simp] at hn
      constructor
      · rw [cell_of_row _ (w.heap.size + 1) _ _ _ _ hn]; rfl
      · rw [cell_of_row _ (w.heap.size + 1) _ _ _ _ hn]; rfl⟩
  have hl := Leaves_c (some ⟨w.heap.size, 0, none⟩) (some ⟨w.heap.size + 1, 0, none⟩) 1 1 [⟨sa, emp⟩] [⟨sa, false⟩] _ hr ha (fun i hi => by
    have : i = 0 := by simp at hi; omega
    subst this
    show (sa.size : Nat) ≤ 9223372036854775807
    decide)
  rw [leaves_awake] at hl
  go_enter Tryd.func20, Tryd.ntmps20
  go_wp2_with fail
  refine hl.mono ?_
  rintro e w1 ⟨A1, c1, rfl, hx, hb⟩
  have HB := Lib.hid (hb2.trans (hb.mono hb2.size))
  obtain ⟨b, o, rfl, hbl, hc⟩ := hx.at_ (by simp)
  have hc0 : w1.cell? ⟨b, o, none⟩ = some (.string ⟨#[97]⟩) := hc 0 (by simp)
  clear hl hr ha hb1 hb2 hb hx hc
  go_wp2
  go_ret
  exact GivesB.mk rfl HB.out
end Go.Proofs.YtnjepmbonhmdnaaDoor
