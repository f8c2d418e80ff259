/- Package shelf: codes. -/
import Derived.Test.YtfninfgohiipjaaGreatDoorLbT
namespace Go.Proofs.YtfninfgohiipjaaGreatDoor
open Go.RowKit Dw

theorem len_data (s : ByteArray) : s.data.toList.length = s.size := by cases s; rfl
set_option maxHeartbeats 400000 in
theorem all_c {cut : ByteArray} {p : UInt8 → Bool} (s : ByteArray) (n : Nat) (w : World) (ht : Calls Tryz.prog 77 #[.string s, .string cut] w (GivesTrim p s w)) :
    Calls Tryz.prog 167 #[.string s, .int .i64 (n : Int), .string cut] w (GivesB (.bool (decide (s.data.toList.length = n) && s.data.toList.all p)) w) := by
  rw [len_data]
  have HT := Lib.hid ht
  clear ht
  by_cases h : s.size = n
  · have hb : ((s.size : Int) == (n : Int)) = true := by rw [h]; simp
    have HD : Hid (decide (s.size = n) = true) := by show decide (s.size = n) = true; simp [h]
    clear h
    go_enter Tryz.func167, Tryz.ntmps167
    go_wp2_with fail
    refine HT.out.mono ?_
    rintro e w' ⟨r, rfl, hr, hB⟩
    have HRr := Lib.hid hr
    clear hr
    go_wp2
    go_ret
    refine GivesB.mk (vbool ?_) hB
    rw [HD.out, HRr.out]; rfl
  · have hb : ((s.size : Int) == (n : Int)) = false := by rw [beq_eq_false_iff_ne]; omega
    have HD : Hid (decide (s.size = n) = false) := by show decide (s.size = n) = false; simp [h]
    clear h
    go_enter Tryz.func167, Tryz.ntmps167
    go_wp2_with fail
    go_ret
    refine GivesB.mk (vbool ?_) (Below.refl _ _)
    rw [HD.out]; rfl

theorem isKind_c (k : Int) (w : World) : Calls Tryz.prog 95 #[.int .i64 k] w (Gives (.bool (decide (1 ≤ k) && decide (k ≤ 4))) w) := by
  by_cases h1 : 1 ≤ k
  · by_cases h2 : k ≤ 4
    · go_enter Tryz.func95, Tryz.ntmps95
      go_wp2
      go_ret
      exact Gives.mk (vbool (by simp [h1, h2])) rfl
    · go_enter Tryz.func95, Tryz.ntmps95
      go_wp2
      go_ret
      exact Gives.mk (vbool (by simp [h2])) rfl
  · go_enter Tryz.func95, Tryz.ntmps95
    go_wp2
    go_ret
    exact Gives.mk (vbool (by rw [decide_eq_false (by omega)]; rfl)) rfl

theorem pre_T (l : List UInt8) : Lib.hasPrefix l [84] = (decide (0 < l.length) && decide (l.headD 0 = 84)) := by
  cases l with
  | nil => rfl
  | cons a t =>
    by_cases h : a = 84
    · subst h; rfl
    · have h' : ¬ (84 : UInt8) = a := fun e => h e.symm
      simp [Lib.hasPrefix, List.isPrefixOf, h, h']
theorem tail_data (s : ByteArray) : (s.extract 1 s.size).data.toList = s.data.toList.tail := by
  have hl := len_data s
  rw [ByteArray.data_extract, Array.toList_extract, List.extract_eq_take_drop]
  rw [List.take_of_length_le (by rw [List.length_drop]; omega), List.drop_one]

set_option maxHeartbeats 400000 in
theorem isBody_c (k : Int) (s : ByteArray) (w : World) (hs : s.size ≤ 9223372036854775807) : Calls Tryz.prog 142 #[.int .i64 k, .string s] w (GivesB (.bool (bodyB k s.data.toList)) w) := by
  generalize hres : bodyB k s.data.toList = res
  have HR := Lib.hid hres
  clear hres
  unfold bodyB at HR
  by_cases h1 : k = 1
  · have HR1 := HR.out
    rw [if_pos h1] at HR1
    have HRR := Lib.hid HR1
    clear HR HR1
    subst h1
    have HPX := Lib.hid (hasPrefix_c s ⟨#[84]⟩ w)
    have hpt := pre_T s.data.toList
    rw [len_data] at hpt
    rw [len_data] at HRR
    cases hp : Lib.hasPrefix s.data.toList [84] with
    | true =>
      have hpx := HPX.out
      rw [show (⟨#[84]⟩ : ByteArray).data.toList = [84] from rfl, hp] at hpx
      have HPY := Lib.hid hpx
      rw [hp] at hpt
      have hpt2 : 0 < s.size ∧ s.data.toList.headD 0 = 84 := by simpa using hpt.symm
      have h1s : 1 ≤ s.size := hpt2.1
      have h1i : (1 : Int) ≤ (s.size : Int) := by omega
      have HA := Lib.hid (all_c (cut := digS) (p := digB) (s.extract 1 s.size) 9 w (trimD_c _ _ (by simp; omega)))
      rw [tail_data] at HA
      have HE : Hid (res = (decide (s.data.toList.tail.length = 9) && s.data.toList.tail.all digB)) := by
        show res = _
        rw [← HRR.out, hpt2.2, List.length_tail, len_data]
        by_cases e : s.size = 10
        · simp [e]
        · have : ¬ s.size - 1 = 9 := by omega
          simp [e, this]
      clear hpx hp hpt hpt2 HPX HRR
      generalize (decide (s.data.toList.tail.length = 9) && s.data.toList.tail.all digB) = rr at *
      go_enter Tryz.func142, Tryz.ntmps142
      go_wp2_with fail
      refine HPY.out.mono ?_
      rintro e w' ⟨rfl, rfl⟩
      go_wp2_with fail
      refine HA.out.mono ?_
      rintro e w' ⟨rfl, hB⟩
      go_wp2
      go_ret
      exact GivesB.mk (vbool HE.out.symm) hB
    | false =>
      have hpx := HPX.out
      rw [show (⟨#[84]⟩ : ByteArray).data.toList = [84] from rfl, hp] at hpx
      have HPY := Lib.hid hpx
      rw [hp] at hpt
      have HE : Hid (res = false) := by
        show res = false
        rw [← HRR.out]
        by_cases e : s.size = 10
        · have : ¬ s.data.toList.headD 0 = 84 := fun e2 => by rw [e2, e] at hpt; simp at hpt
          rw [decide_eq_false this]; simp
        · simp [e]
      clear hpx hp hpt HPX HRR
      go_enter Tryz.func142, Tryz.ntmps142
      go_wp2_with fail
      refine HPY.out.mono ?_
      rintro e w' ⟨rfl, rfl⟩
      go_wp2
      go_ret
      exact GivesB.mk (vbool HE.out.symm) (Below.refl _ _)
  · have h1b : (k == 1) = false := by simpa using h1
    by_cases h2 : k = 2
    · have HR1 := HR.out
      rw [if_neg h1, if_pos h2] at HR1
      have HRR := Lib.hid HR1
      clear HR HR1
      subst h2
      have HA := Lib.hid (all_c (cut := sgnS) (p := sgnB) s 10 w (trimS_c _ _ hs))
      rw [HRR.out] at HA
      clear HRR h1
      go_enter Tryz.func142, Tryz.ntmps142
      go_wp2_with fail
      refine HA.out.mono ?_
      rintro e w' ⟨rfl, hB⟩
      go_wp2
      go_ret
      exact GivesB.mk rfl hB
    · have h2b : (k == 2) = false := by simpa using h2
      have HR1 := HR.out
      rw [if_neg h1, if_neg h2] at HR1
      have HRR := Lib.hid HR1
      clear HR HR1
      have HA := Lib.hid (all_c (cut := digS) (p := digB) s 12 w (trimD_c _ _ hs))
      rw [HRR.out] at HA
      clear HRR h1 h2
      go_enter Tryz.func142, Tryz.ntmps142
      go_wp2_with fail
      refine HA.out.mono ?_
      rintro e w' ⟨rfl, hB⟩
      go_wp2
      go_ret
      exact GivesB.mk rfl hB

theorem digitsOf_c (k : Int) (w : World) : Calls Tryz.prog 144 #[.int .i64 k] w (Gives (.string (if k = 2 then sgnS else digS)) w) := by
  by_cases h : k = 2
  · subst h
    go_enter Tryz.func144, Tryz.ntmps144
    go_wp2
    go_ret
    exact Gives.mk rfl rfl
  · have hb : (k == 2) = false := by simpa using h
    rw [if_neg h]
    clear h
    go_enter Tryz.func144, Tryz.ntmps144
    go_wp2
    go_ret
    exact Gives.mk rfl rfl
end Go.Proofs.YtfninfgohiipjaaGreatDoor
