/- once, of package shelf and of the reference (printed by gen_once.py). -/
import Derived.Test.YtfninfgohiipjaaGreatDoorLcK
namespace Go.Proofs.YtfninfgohiipjaaGreatDoor
open Go.RowKit Dw

theorem elInt : ElemT Tryz.prog 52 3 (.int .i64 0) 1 8 := ⟨Tryz.underlying52, by kernel_rfl, rfl, by decide⟩
abbrev encI : Int → List Value := fun n => [.int .i64 n]
/-- A call that answers a slice of ints and only makes memory. -/
def GivesIs (l : List Int) (w : World) (e : Ending) (w' : World) : Prop :=
  ∃ A c, e = .returned (.slice A l.length c) ∧ Ints w' A l ∧ Below w.heap.size w w'
def onceF (l : List Int) : List Int := l.foldl (fun acc x => if memI acc x = true then acc else acc ++ [x]) []
theorem onceF_snoc (l : List Int) {k : Nat} (hk : k < l.length) : onceF (l.take (k + 1)) = if memI (onceF (l.take k)) l[k] = true then onceF (l.take k) else onceF (l.take k) ++ [l[k]] := by
  unfold onceF
  rw [List.take_succ_eq_append_getElem hk, List.foldl_append]
  rfl
theorem onceF_le (l : List Int) : ∀ k, k ≤ l.length → (onceF (l.take k)).length ≤ k
  | 0, _ => by simp [onceF]
  | k + 1, hk => by
    rw [onceF_snoc l (by omega)]
    have := onceF_le l k (by omega)
    split
    · omega
    · simp; omega
def OncRel (w : World) (l : List Int) (m : Nat) (out i : Value) (wr : World) : Prop :=
  ∃ k : Nat, k + m = l.length ∧ i = .int .i64 k ∧ OwnL encI 1 wr w.heap.size 3 out (onceF (l.take k)) ∧ Below w.heap.size w wr

set_option maxHeartbeats 1000000 in
theorem onceS_c (A : Option Addr) (c : Nat) (l : List Int) (w : World) (hn : l.length ≤ 1000) (h : Ints w A l) :
    Calls Tryz.prog 119 #[.slice A l.length c] w (GivesIs (onceF l) w) := by
  go_enter Tryz.func119, Tryz.ntmps119
  go_wp2
  go_loopg [3, 8] l.length (OncRel w l)
  case atStart => exact ⟨0, by omega, rfl, OwnL.nil _ _ _ _ _, Below.refl _ _⟩
  case round =>
    obtain ⟨k, hk, rfl, hown, hbel⟩ := hrel
    have HK := Lib.hid hk
    have hk1 : k ≤ l.length := by omega
    clear hk
    by_cases hlt : k < l.length
    · obtain ⟨b, o, rfl, hb, hc⟩ := h.at_ (by omega)
      have hc0 : wr.cell? ⟨b, o + k, none⟩ = some (.int .i64 l[k]) := (hbel.cell hb).trans (hc k hlt)
      have hwr : w.heap.size ≤ wr.heap.size := hbel.size
      have hbr : b < wr.heap.size := by omega
      have hle := onceF_le l k hk1
      have HSN := Lib.hid (onceF_snoc l hlt)
      have HBL := Lib.hid hbel
      clear hc hbel
      generalize l[k] = x at *
      generalize onceF (l.take k) = acc at *
      obtain ⟨A', c', rfl, hrd⟩ := hown.rd1
      have HRD := Lib.hid hrd
      have HOW := Lib.hid hown
      clear hrd
      go_wp2_with fail
      refine (containsI_c A' c' acc x _ (by omega) HRD.out).mono ?_
      rintro e w' ⟨rfl, rfl⟩
      cases hq : memI acc x with
      | true =>
        have hs := HSN.out
        rw [if_pos hq] at hs
        have HS := Lib.hid hs
        clear hs hq
        go_wp2
        go_roundg (gk - 1)
        case measure => have := HK.out; omega
        case rel => exact ⟨k + 1, by have := HK.out; omega, by go_num, by rw [HS.out]; exact HOW.out, HBL.out⟩
      | false =>
        have hs := HSN.out
        rw [if_neg (by rw [hq]; simp)] at hs
        have HS := Lib.hid hs
        clear hs hq
        go_wp2_with (at_builtin; refine wpList_push _ _ _ elInt rfl rfl w.heap.size _ acc rfl (hown.alloc _) wr.heap.size 1 x rfl (heap_alloc_new _ _) rfl (by simp [Value.oneCell']) (by unfold maxLen; omega) (by omega) (by simp; omega) ?_; intro v1 w1 hown1 hg1 hb1)
        have HO := Lib.hid hown1
        have HB := Lib.hid ((HBL.out.alloc hwr _).trans hb1)
        clear hown hown1 hg1 hb1
        go_wp2
        go_roundg (gk - 1)
        case measure => have := HK.out; omega
        case rel => exact ⟨k + 1, by have := HK.out; omega, by go_num, by rw [HS.out]; exact HO.out, HB.out⟩
    · have HKE : Hid (onceF (l.take k) = onceF l) := by
        show onceF (l.take k) = onceF l
        rw [List.take_of_length_le (by omega)]
      obtain ⟨A', c', rfl, hrd⟩ := hown.rd1
      go_wp2
      go_ret
      rw [HKE.out] at hrd ⊢
      exact ⟨A', c', rfl, hrd, hbel⟩

set_option maxHeartbeats 1000000 in
theorem onceR_c (A : Option Addr) (c : Nat) (l : List Int) (w : World) (hn : l.length ≤ 1000) (h : Ints w A l) :
    Calls Tryz.prog 123 #[.slice A l.length c] w (GivesIs (onceF l) w) := by
  go_enter Tryz.func123, Tryz.ntmps123
  go_wp2
  go_loopg [3, 8] l.length (OncRel w l)
  case atStart => exact ⟨0, by omega, rfl, OwnL.nil _ _ _ _ _, Below.refl _ _⟩
  case round =>
    obtain ⟨k, hk, rfl, hown, hbel⟩ := hrel
    have HK := Lib.hid hk
    have hk1 : k ≤ l.length := by omega
    clear hk
    by_cases hlt : k < l.length
    · obtain ⟨b, o, rfl, hb, hc⟩ := h.at_ (by omega)
      have hc0 : wr.cell? ⟨b, o + k, none⟩ = some (.int .i64 l[k]) := (hbel.cell hb).trans (hc k hlt)
      have hwr : w.heap.size ≤ wr.heap.size := hbel.size
      have hbr : b < wr.heap.size := by omega
      have hle := onceF_le l k hk1
      have HSN := Lib.hid (onceF_snoc l hlt)
      have HBL := Lib.hid hbel
      clear hc hbel
      generalize l[k] = x at *
      generalize onceF (l.take k) = acc at *
      obtain ⟨A', c', rfl, hrd⟩ := hown.rd1
      have HRD := Lib.hid hrd
      have HOW := Lib.hid hown
      clear hrd
      go_wp2_with fail
      refine (containsI_c A' c' acc x _ (by omega) HRD.out).mono ?_
      rintro e w' ⟨rfl, rfl⟩
      cases hq : memI acc x with
      | true =>
        have hs := HSN.out
        rw [if_pos hq] at hs
        have HS := Lib.hid hs
        clear hs hq
        go_wp2
        go_roundg (gk - 1)
        case measure => have := HK.out; omega
        case rel => exact ⟨k + 1, by have := HK.out; omega, by go_num, by rw [HS.out]; exact HOW.out, HBL.out⟩
      | false =>
        have hs := HSN.out
        rw [if_neg (by rw [hq]; simp)] at hs
        have HS := Lib.hid hs
        clear hs hq
        go_wp2_with (at_builtin; refine wpList_push _ _ _ elInt rfl rfl w.heap.size _ acc rfl (hown.alloc _) wr.heap.size 1 x rfl (heap_alloc_new _ _) rfl (by simp [Value.oneCell']) (by unfold maxLen; omega) (by omega) (by simp; omega) ?_; intro v1 w1 hown1 hg1 hb1)
        have HO := Lib.hid hown1
        have HB := Lib.hid ((HBL.out.alloc hwr _).trans hb1)
        clear hown hown1 hg1 hb1
        go_wp2
        go_roundg (gk - 1)
        case measure => have := HK.out; omega
        case rel => exact ⟨k + 1, by have := HK.out; omega, by go_num, by rw [HS.out]; exact HO.out, HB.out⟩
    · have HKE : Hid (onceF (l.take k) = onceF l) := by
        show onceF (l.take k) = onceF l
        rw [List.take_of_length_le (by omega)]
      obtain ⟨A', c', rfl, hrd⟩ := hown.rd1
      go_wp2
      go_ret
      rw [HKE.out] at hrd ⊢
      exact ⟨A', c', rfl, hrd, hbel⟩
end Go.Proofs.YtfninfgohiipjaaGreatDoor
