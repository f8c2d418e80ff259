/- The reference of chapter 6: codes. -/
import Derived.Test.YtfninfgohiipjaaGreatDoorLbW
namespace Go.Proofs.YtfninfgohiipjaaGreatDoor
open Go.RowKit Dw

theorem idxD_neg (c : UInt8) : decide (Lib.indexByte digS.data.toList c < 0) = !digB c := by
  have := chk_idx 1 c
  simpa [chkB] using this
theorem idxS_neg (c : UInt8) : decide (Lib.indexByte sgnS.data.toList c < 0) = !sgnB c := by
  have := chk_idx 2 c
  simpa [chkB] using this
def OfRel (w : World) (s : ByteArray) (p : UInt8 → Bool) (m : Nat) (i : Value) (wr : World) : Prop :=
  w = wr ∧ ∃ k : Nat, k + m = s.size ∧ i = .int .i64 k ∧ ∀ j (h : j < s.size), j < k → p s[j] = true

set_option maxHeartbeats 400000 in
theorem of_c {cut : ByteArray} {p : UInt8 → Bool} (hp : ∀ c, decide (Lib.indexByte cut.data.toList c < 0) = !p c) (s : ByteArray) (w : World) (hs : s.size ≤ 9223372036854775807) :
    Calls Tryz.prog 147 #[.string s, .string cut] w (Gives (.bool (s.data.toList.all p)) w) := by
  generalize hres : s.data.toList.all p = res
  have HR := Lib.hid hres
  have HPP := Lib.hid hp
  clear hres hp
  go_enter Tryz.func147, Tryz.ntmps147
  go_wp2
  go_loopg [8] s.size (OfRel w s p)
  case atStart => exact ⟨rfl, 0, by omega, rfl, fun j _ hj => absurd hj (by omega)⟩
  case round =>
    obtain ⟨hw, k, hk, rfl, hpre⟩ := hrel
    subst hw
    have HK := Lib.hid hk
    have HP := Lib.hid hpre
    have hk1 : k ≤ s.size := by omega
    clear hk hpre
    by_cases hlt : k < s.size
    · have hix := HPP.out s[k]
      have HCON := Lib.hid (indexByte_c cut s[k] w)
      generalize Lib.indexByte cut.data.toList s[k] = ix at *
      cases hq : p s[k] with
      | true =>
        rw [hq] at hix
        have HQ := Lib.hid hq
        have hix2 : ¬ ix < 0 := by simpa using hix
        clear hq
        go_wp2_with fail
        refine HCON.out.mono ?_
        rintro e w' ⟨rfl, rfl⟩
        go_wp2
        go_roundg (gk - 1)
        case measure => have := HK.out; omega
        case rel =>
          refine ⟨rfl, k + 1, by have := HK.out; omega, by go_num, fun j hj hjk => ?_⟩
          rcases Nat.lt_or_ge j k with h1 | h1
          · exact HP.out j hj h1
          · obtain rfl : j = k := by omega
            exact HQ.out
      | false =>
        rw [hq] at hix
        have HQ := Lib.hid hq
        have hix2 : ix < 0 := by simpa using hix
        clear hq
        go_wp2_with fail
        refine HCON.out.mono ?_
        rintro e w' ⟨rfl, rfl⟩
        go_wp2
        go_ret
        refine Gives.mk (vbool ?_) rfl
        rw [← HR.out]
        cases ha : s.data.toList.all p with
        | false => rfl
        | true => exact absurd (all_get.1 ha k hlt) (by rw [HQ.out]; simp)
    · go_wp2
      go_ret
      refine Gives.mk (vbool ?_) rfl
      rw [← HR.out]
      exact (all_get.2 fun j hj => HP.out j hj (by omega)).symm

theorem isKindR_c (k : Int) (w : World) : Calls Tryz.prog 102 #[.int .i64 k] w (Gives (.bool (decide (1 ≤ k) && decide (k ≤ 4))) w) := by
  by_cases h1 : 1 ≤ k
  · by_cases h2 : k ≤ 4
    · go_enter Tryz.func102, Tryz.ntmps102
      go_wp2
      go_ret
      exact Gives.mk (vbool (by simp [h1, h2])) rfl
    · go_enter Tryz.func102, Tryz.ntmps102
      go_wp2
      go_ret
      exact Gives.mk (vbool (by simp [h2])) rfl
  · go_enter Tryz.func102, Tryz.ntmps102
    go_wp2
    go_ret
    exact Gives.mk (vbool (by rw [decide_eq_false (by omega)]; rfl)) rfl
theorem checks_c (k : Int) (w : World) : Calls Tryz.prog 148 #[.int .i64 k] w (Gives (.string (if k = 2 then sgnS else digS)) w) := by
  by_cases h : k = 2
  · subst h
    go_enter Tryz.func148, Tryz.ntmps148
    go_wp2
    go_ret
    exact Gives.mk rfl rfl
  · have hb : (k == 2) = false := by simpa using h
    rw [if_neg h]
    clear h
    go_enter Tryz.func148, Tryz.ntmps148
    go_wp2
    go_ret
    exact Gives.mk rfl rfl
theorem within_c (n a b : Int) (w : World) : Calls Tryz.prog 72 #[.int .i64 n, .int .i64 a, .int .i64 b] w (Gives (.bool (decide (a ≤ n) && decide (n ≤ b))) w) := by
  by_cases h1 : a ≤ n
  · by_cases h2 : n ≤ b
    · go_enter Tryz.func72, Tryz.ntmps72
      go_wp2
      go_ret
      exact Gives.mk (vbool (by simp [h1, h2])) rfl
    · go_enter Tryz.func72, Tryz.ntmps72
      go_wp2
      go_ret
      exact Gives.mk (vbool (by simp; omega)) rfl
  · go_enter Tryz.func72, Tryz.ntmps72
    go_wp2
    go_ret
    exact Gives.mk (vbool (by rw [decide_eq_false (p := a ≤ n) (by omega)]; rfl)) rfl

set_option maxHeartbeats 400000 in
theorem isBodyR_c (k : Int) (s : ByteArray) (w : World) (hs : s.size ≤ 9223372036854775807) : Calls Tryz.prog 146 #[.int .i64 k, .string s] w (Gives (.bool (bodyB k s.data.toList)) w) := by
  generalize hres : bodyB k s.data.toList = res
  have HR := Lib.hid hres
  clear hres
  unfold bodyB at HR
  rw [len_data] at HR
  by_cases h1 : k = 1
  · have HR1 := HR.out
    rw [if_pos h1] at HR1
    have HRR := Lib.hid HR1
    clear HR HR1
    subst h1
    by_cases h10 : s.size = 10
    · have hb10 : ((s.size : Int) == 10) = true := by rw [h10]; rfl
      have hs0 : 0 < s.size := by omega
      have hs1 : (1 : Int) ≤ (s.size : Int) := by omega
      have hr2 := HRR.out
      rw [headD_get s hs0, decide_eq_true h10] at hr2
      have HR2 := Lib.hid hr2
      clear hr2 HRR h10
      by_cases hT : s[0] = 84
      · have hTb : (((s[0]).toNat : Int) == 84) = true := by rw [hT]; rfl
        have HOF := Lib.hid (of_c idxD_neg (s.extract 1 s.size) w (by simp; omega))
        rw [tail_data] at HOF
        have HE : Hid (res = s.data.toList.tail.all digB) := by
          show res = _
          rw [← HR2.out, hT]; rfl
        clear hT
        generalize s.data.toList.tail.all digB = rr at *
        go_enter Tryz.func146, Tryz.ntmps146
        go_wp2_with fail
        refine HOF.out.mono ?_
        rintro e w' ⟨rfl, rfl⟩
        go_wp2
        go_ret
        exact Gives.mk (vbool HE.out.symm) rfl
      · have hTb : (((s[0]).toNat : Int) == 84) = false := by
          rw [beq_eq_false_iff_ne]
          intro e
          apply hT
          have : (s[0]).toNat = 84 := by omega
          exact UInt8.toNat_inj.1 this
        have HE : Hid (res = false) := by
          show res = false
          rw [← HR2.out, decide_eq_false hT]; rfl
        clear hT
        go_enter Tryz.func146, Tryz.ntmps146
        go_wp2_with fail
        go_ret
        exact Gives.mk (vbool HE.out.symm) rfl
    · have hb10 : ((s.size : Int) == 10) = false := by rw [beq_eq_false_iff_ne]; omega
      have HE : Hid (res = false) := by
        show res = false
        rw [← HRR.out, decide_eq_false h10]; rfl
      clear h10
      go_enter Tryz.func146, Tryz.ntmps146
      go_wp2_with fail
      go_ret
      exact Gives.mk (vbool HE.out.symm) rfl
  · have h1b : (k == 1) = false := by simpa using h1
    by_cases h2 : k = 2
    · have HR1 := HR.out
      rw [if_neg h1, if_pos h2] at HR1
      have HRR := Lib.hid HR1
      clear HR HR1 h1
      subst h2
      have HOF := Lib.hid (of_c idxS_neg s w hs)
      by_cases h10 : s.size = 10
      · have hb10 : ((s.size : Int) == 10) = true := by rw [h10]; rfl
        have HE : Hid (res = s.data.toList.all sgnB) := by
          show res = _
          rw [← HRR.out, decide_eq_true h10]; rfl
        clear h10
        generalize s.data.toList.all sgnB = rr at *
        go_enter Tryz.func146, Tryz.ntmps146
        go_wp2_with fail
        refine HOF.out.mono ?_
        rintro e w' ⟨rfl, rfl⟩
        go_wp2
        go_ret
        exact Gives.mk (vbool HE.out.symm) rfl
      · have hb10 : ((s.size : Int) == 10) = false := by rw [beq_eq_false_iff_ne]; omega
        have HE : Hid (res = false) := by
          show res = false
          rw [← HRR.out, decide_eq_false h10]; rfl
        clear h10
        go_enter Tryz.func146, Tryz.ntmps146
        go_wp2_with fail
        go_ret
        exact Gives.mk (vbool HE.out.symm) rfl
    · have h2b : (k == 2) = false := by simpa using h2
      have HR1 := HR.out
      rw [if_neg h1, if_neg h2] at HR1
      have HRR := Lib.hid HR1
      clear HR HR1 h1 h2
      have HOF := Lib.hid (of_c idxD_neg s w hs)
      by_cases h10 : s.size = 12
      · have hb10 : ((s.size : Int) == 12) = true := by rw [h10]; rfl
        have HE : Hid (res = s.data.toList.all digB) := by
          show res = _
          rw [← HRR.out, decide_eq_true h10]; rfl
        clear h10
        generalize s.data.toList.all digB = rr at *
        go_enter Tryz.func146, Tryz.ntmps146
        go_wp2_with fail
        refine HOF.out.mono ?_
        rintro e w' ⟨rfl, rfl⟩
        go_wp2
        go_ret
        exact Gives.mk (vbool HE.out.symm) rfl
      · have hb10 : ((s.size : Int) == 12) = false := by rw [beq_eq_false_iff_ne]; omega
        have HE : Hid (res = false) := by
          show res = false
          rw [← HRR.out, decide_eq_false h10]; rfl
        clear h10
        go_enter Tryz.func146, Tryz.ntmps146
        go_wp2_with fail
        go_ret
        exact Gives.mk (vbool HE.out.symm) rfl
end Go.Proofs.YtfninfgohiipjaaGreatDoor
