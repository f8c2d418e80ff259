/- The reference of chapter 6: whether a sign fits. -/
import Derived.Test.YtfninfgohiipjaaGreatDoorLcA
namespace Go.Proofs.YtfninfgohiipjaaGreatDoor
open Go.RowKit Dw

theorem chk_sgn {k : Int} {c : UInt8} (h : chkB k c = true) : sgnB c = true := by
  unfold chkB at h
  split at h
  · exact h
  · simp [sgnB, h]
def FtRel1 (w : World) (l : List UInt8) (v : Int) (m : Nat) (sum i : Value) (wr : World) : Prop :=
  w = wr ∧ ∃ k : Nat, k + m = 10 ∧ 1 ≤ k ∧ i = .int .i64 k ∧ sum = .int .i64 (1 + v + sumW wtW 1 (l.tail.take (k - 1)))

set_option maxHeartbeats 1000000 in
theorem fits_1 (s : ByteArray) (c : UInt8) (w : World) (hb : bodyB 1 s.data.toList = true) (hcb : chkB 1 c = true) : Calls Tryz.prog 149 #[.int .i64 1, .string s, .int .u8 (c.toNat : Int)] w (Gives (.bool (fitB 1 s.data.toList c)) w) := by
  have hl := len_data s
  unfold bodyB at hb
  simp only [if_true, Bool.and_eq_true, decide_eq_true_eq] at hb
  obtain ⟨⟨h10, _⟩, hd⟩ := hb
  have htl : s.data.toList.tail.length = 9 := by rw [List.length_tail]; omega
  have HD := Lib.hid hd
  have HTL := Lib.hid htl
  have hsz : 10 ≤ s.size := by omega
  have hsz2 : s.size ≤ 10 := by omega
  have HL := Lib.hid hl
  have hsg := chk_sgn hcb
  have hvb := sval_bd hsg
  have hix : Lib.indexByte sgnS.data.toList c = sval c := by rw [idx_sgn, hsg]; rfl
  have hcon := indexByte_c sgnS c w
  rw [hix] at hcon
  have HCON := Lib.hid hcon
  have HV : Hid (fitB 1 s.data.toList c = decide ((1 + sval c + sumW wtW 1 s.data.toList.tail) % 10 = 0)) := by
    show fitB 1 s.data.toList c = _
    unfold fitB; rfl
  generalize sval c = v at *
  clear hd htl h10 hl hsg hix hcon hcb
  go_enter Tryz.func149, Tryz.ntmps149
  go_wp2_with fail
  refine HCON.out.mono ?_
  rintro e w' ⟨rfl, rfl⟩
  go_wp2
  go_loopg [8, 9] 9 (FtRel1 w s.data.toList v)
  case atStart => exact ⟨rfl, 1, by omega, by omega, rfl, by rw [show s.data.toList.tail.take (1 - 1) = [] from rfl, sumW]; simp⟩
  case round =>
    obtain ⟨hw, k, hk, hk1, rfl, rfl⟩ := hrel
    subst hw
    have hbd : 0 ≤ sumW wtW 1 (s.data.toList.tail.take (k - 1)) ∧ sumW wtW 1 (s.data.toList.tail.take (k - 1)) ≤ 81 * 9 := by
      have := sumW_bd (wt := wtW) (l := s.data.toList.tail.take (k - 1)) (i := 1) (fun j h1 h2 => by
        rw [List.length_take, HTL.out] at h2
        unfold wtW; omega) (List.all_eq_true.2 fun x hx => List.all_eq_true.1 HD.out x (List.mem_of_mem_take hx))
      rw [List.length_take, HTL.out] at this
      omega
    by_cases hlt : k < s.size
    · have hel : s.data.toList.tail[k - 1]'(by rw [HTL.out]; omega) = s[k] := by
        rw [List.getElem_tail]
        have : s.data.toList[k - 1 + 1]'(by have := HL.out; omega) = s.data.toList[k]'(by have := HL.out; omega) := by congr 1; omega
        rw [this]; rfl
      have hc : 48 ≤ (s[k]).toNat ∧ (s[k]).toNat ≤ 57 := by
        have := List.all_eq_true.1 HD.out _ (List.getElem_mem (show k - 1 < s.data.toList.tail.length by rw [HTL.out]; omega))
        rw [hel] at this
        simpa [digB] using this
      have HST : Hid (sumW wtW 1 (s.data.toList.tail.take (k - 1 + 1)) = sumW wtW 1 (s.data.toList.tail.take (k - 1)) + (k : Int) * (((s[k]).toNat : Int) - 48)) := by
        show sumW wtW 1 (s.data.toList.tail.take (k - 1 + 1)) = _
        rw [List.take_succ_eq_append_getElem (by rw [HTL.out]; omega), sumW_snoc, hel, List.length_take, HTL.out]
        unfold wtW
        congr 2
        omega
      have hpb := prod_bd (show (0 : Int) ≤ (k : Int) by omega) (show (k : Int) ≤ 9 by omega) (show (0 : Int) ≤ ((s[k]).toNat : Int) - 48 by omega) (show ((s[k]).toNat : Int) - 48 ≤ 9 by omega)
      have HK := Lib.hid hk
      clear hel hk
      generalize sumW wtW 1 (s.data.toList.tail.take (k - 1)) = S at *
      go_wp2
      go_roundg (gk - 1)
      case measure => have := HK.out; omega
      case rel =>
        refine ⟨rfl, k + 1, by have := HK.out; omega, by omega, by go_num, vint ?_⟩
        rw [show k + 1 - 1 = k - 1 + 1 by omega, HST.out]
        omega
    · have HE : Hid (sumW wtW 1 (s.data.toList.tail.take (k - 1)) = sumW wtW 1 s.data.toList.tail) := by
        show sumW wtW 1 (s.data.toList.tail.take (k - 1)) = _
        rw [List.take_of_length_le (by rw [HTL.out]; omega)]
      rw [HE.out] at hbd ⊢
      clear HE
      generalize sumW wtW 1 s.data.toList.tail = S at *
      clear hk
      go_wp2
      go_ret
      refine Gives.mk (vbool ?_) rfl
      rw [HV.out, Bool.eq_iff_iff]
      simp

set_option maxHeartbeats 1000000 in
theorem fits_2 (s : ByteArray) (c : UInt8) (w : World) (hb : bodyB 2 s.data.toList = true) (hcb : chkB 2 c = true) : Calls Tryz.prog 149 #[.int .i64 2, .string s, .int .u8 (c.toNat : Int)] w (Gives (.bool (fitB 2 s.data.toList c)) w) := by
  have hl := len_data s
  unfold bodyB at hb
  simp only [show ¬ (2 : Int) = 1 by decide, if_false, if_true, Bool.and_eq_true, decide_eq_true_eq] at hb
  obtain ⟨h10, hd⟩ := hb
  have HD := Lib.hid hd
  have hsz : s.size ≤ 10 := by omega
  have HL := Lib.hid hl
  have hsg := chk_sgn hcb
  have hvb := sval_bd hsg
  have hix : Lib.indexByte sgnS.data.toList c = sval c := by rw [idx_sgn, hsg]; rfl
  have hcon := indexByte_c sgnS c w
  rw [hix] at hcon
  have HCON := Lib.hid hcon
  have HV : Hid (fitB 2 s.data.toList c = decide ((recP s.data.toList + sval c) % 36 = 1)) := by
    show fitB 2 s.data.toList c = _
    unfold fitB; rfl
  generalize sval c = v0 at *
  clear hd h10 hl hsg hix hcon hcb
  go_enter Tryz.func149, Tryz.ntmps149
  go_wp2_with fail
  refine HCON.out.mono ?_
  rintro e w' ⟨rfl, rfl⟩
  clear HCON
  go_wp2
  go_loopg [10, 43] s.size (DgRel2 w s.data.toList)
  case atStart => exact ⟨rfl, 0, by have := HL.out; omega, rfl, rfl⟩
  case round =>
    obtain ⟨hw, k, hk, rfl, rfl⟩ := hrel
    subst hw
    have hk2 : k ≤ s.size := by have := HL.out; omega
    have hpb := recP_bd (s.data.toList.take k)
    by_cases hlt : k < s.size
    · have hel : s.data.toList[k]'(by have := HL.out; omega) = s[k] := rfl
      have hsg : sgnB s[k] = true := by
        have := List.all_eq_true.1 HD.out _ (List.getElem_mem (show k < s.data.toList.length by have := HL.out; omega))
        exact this
      have hvb2 := sval_bd hsg
      have HST : Hid (recP (s.data.toList.take (k + 1)) = stepP (recP (s.data.toList.take k)) s[k]) := by
        show recP (s.data.toList.take (k + 1)) = _
        rw [List.take_succ_eq_append_getElem (by have := HL.out; omega), recP_snoc, hel]
      have hix : Lib.indexByte sgnS.data.toList s[k] = sval s[k] := by rw [idx_sgn, hsg]; rfl
      have hcon := indexByte_c sgnS s[k] w
      rw [hix] at hcon
      have HCON := Lib.hid hcon
      have HK := Lib.hid hk
      clear hel hsg hix hcon hk
      generalize recP (s.data.toList.take k) = p at *
      generalize hv : sval s[k] = v at *
      have HVV := Lib.hid hv
      clear hv
      by_cases h0 : (p + v) % 36 = 0
      · have h0b : ((p + v) % 36 == 0) = true := by rw [h0]; rfl
        have HST2 : Hid (stepP p s[k] = 2 * 36 % 37) := by
          show stepP p s[k] = _
          unfold stepP; rw [HVV.out, if_pos h0]
        go_wp2_with fail
        refine HCON.out.mono ?_
        rintro e w' ⟨rfl, rfl⟩
        go_wp2
        go_roundg (gk - 1)
        case measure => have := HK.out; have := HL.out; omega
        case rel =>
          refine ⟨rfl, k + 1, by have := HK.out; have := HL.out; omega, by go_num, vint ?_⟩
          rw [HST.out, HST2.out]; rfl
      · have h0b : ((p + v) % 36 == 0) = false := by rw [beq_eq_false_iff_ne]; exact h0
        have HST2 : Hid (stepP p s[k] = 2 * ((p + v) % 36) % 37) := by
          show stepP p s[k] = _
          unfold stepP; rw [HVV.out, if_neg h0]
        go_wp2_with fail
        refine HCON.out.mono ?_
        rintro e w' ⟨rfl, rfl⟩
        go_wp2
        go_roundg (gk - 1)
        case measure => have := HK.out; have := HL.out; omega
        case rel =>
          refine ⟨rfl, k + 1, by have := HK.out; have := HL.out; omega, by go_num, vint ?_⟩
          rw [HST.out, HST2.out]
    · have HE : Hid (recP (s.data.toList.take k) = recP s.data.toList) := by
        show recP (s.data.toList.take k) = _
        rw [List.take_of_length_le (by have := HL.out; omega)]
      rw [HE.out] at hpb ⊢
      clear HE
      generalize recP s.data.toList = p at *
      clear hk
      go_wp2
      go_ret
      refine Gives.mk (vbool ?_) rfl
      rw [HV.out, Bool.eq_iff_iff]
      simp

def FtRel3 (w : World) (l : List UInt8) (v : Int) (m : Nat) (sum i : Value) (wr : World) : Prop :=
  w = wr ∧ ∃ k : Nat, k + m = l.length ∧ i = .int .i64 k ∧ sum = .int .i64 (v + sumW wtE 0 (l.take k))

set_option maxHeartbeats 1000000 in
theorem fits_3 (q : Int) (s : ByteArray) (c : UInt8) (w : World) (h1 : q ≠ 1) (h2 : q ≠ 2) (hb : bodyB q s.data.toList = true) (hcb : chkB q c = true) : Calls Tryz.prog 149 #[.int .i64 q, .string s, .int .u8 (c.toNat : Int)] w (Gives (.bool (fitB q s.data.toList c)) w) := by
  have hl := len_data s
  unfold bodyB at hb
  rw [if_neg h1, if_neg h2] at hb
  simp only [Bool.and_eq_true, decide_eq_true_eq] at hb
  obtain ⟨h10, hd⟩ := hb
  have HD := Lib.hid hd
  have hsz : s.size ≤ 12 := by omega
  have HL := Lib.hid hl
  have hsg := chk_sgn hcb
  have hvb := sval_bd hsg
  have hix : Lib.indexByte sgnS.data.toList c = sval c := by rw [idx_sgn, hsg]; rfl
  have hcon := indexByte_c sgnS c w
  rw [hix] at hcon
  have HCON := Lib.hid hcon
  have HV : Hid (fitB q s.data.toList c = decide ((sval c + sumW wtE 0 s.data.toList) % 10 = 0)) := by
    show fitB q s.data.toList c = _
    unfold fitB; rw [if_neg h1, if_neg h2]
  have h1b : (q == 1) = false := by simpa using h1
  have h2b : (q == 2) = false := by simpa using h2
  generalize sval c = v at *
  clear hd h10 hl hsg hix hcon hcb h1 h2
  go_enter Tryz.func149, Tryz.ntmps149
  go_wp2_with fail
  refine HCON.out.mono ?_
  rintro e w' ⟨rfl, rfl⟩
  go_wp2
  go_loopg [12, 67] s.size (FtRel3 w s.data.toList v)
  case atStart => exact ⟨rfl, 0, by have := HL.out; omega, rfl, by simp [sumW]⟩
  case round =>
    obtain ⟨hw, k, hk, rfl, rfl⟩ := hrel
    subst hw
    have hk2 : k ≤ s.size := by have := HL.out; omega
    have hbd : 0 ≤ sumW wtE 0 (s.data.toList.take k) ∧ sumW wtE 0 (s.data.toList.take k) ≤ 81 * 12 := by
      have := sumW_bd (wt := wtE) (l := s.data.toList.take k) (i := 0) (fun j _ _ => wtE_bd j) (List.all_eq_true.2 fun x hx => List.all_eq_true.1 HD.out x (List.mem_of_mem_take hx))
      rw [List.length_take] at this
      omega
    by_cases hlt : k < s.size
    · have hel : s.data.toList[k]'(by have := HL.out; omega) = s[k] := rfl
      have hc : 48 ≤ (s[k]).toNat ∧ (s[k]).toNat ≤ 57 := by
        have := List.all_eq_true.1 HD.out _ (List.getElem_mem (show k < s.data.toList.length by have := HL.out; omega))
        rw [hel] at this
        simpa [digB] using this
      have HST : Hid (sumW wtE 0 (s.data.toList.take (k + 1)) = sumW wtE 0 (s.data.toList.take k) + (((s[k]).toNat : Int) - 48) * (1 + (k : Int) % 2 * 2)) := by
        show sumW wtE 0 (s.data.toList.take (k + 1)) = _
        rw [List.take_succ_eq_append_getElem (by have := HL.out; omega), sumW_snoc, hel, List.length_take]
        have e : 0 + min k s.data.toList.length = k := by have := HL.out; omega
        rw [e, Int.mul_comm]; rfl
      have hwb : 0 ≤ 1 + (k : Int) % 2 * 2 ∧ 1 + (k : Int) % 2 * 2 ≤ 9 := by omega
      have hpb := prod_bd (show (0 : Int) ≤ ((s[k]).toNat : Int) - 48 by omega) (show ((s[k]).toNat : Int) - 48 ≤ 9 by omega) hwb.1 hwb.2
      have HK := Lib.hid hk
      clear hel hk
      generalize sumW wtE 0 (s.data.toList.take k) = S at *
      go_wp2
      go_roundg (gk - 1)
      case measure => have := HK.out; have := HL.out; omega
      case rel =>
        refine ⟨rfl, k + 1, by have := HK.out; have := HL.out; omega, by go_num, vint ?_⟩
        rw [HST.out]
        omega
    · have HE : Hid (sumW wtE 0 (s.data.toList.take k) = sumW wtE 0 s.data.toList) := by
        show sumW wtE 0 (s.data.toList.take k) = _
        rw [List.take_of_length_le (by have := HL.out; omega)]
      rw [HE.out] at hbd ⊢
      clear HE
      generalize sumW wtE 0 s.data.toList = S at *
      clear hk
      go_wp2
      go_ret
      refine Gives.mk (vbool ?_) rfl
      rw [HV.out, Bool.eq_iff_iff]
      simp

theorem fits_c (q : Int) (s : ByteArray) (c : UInt8) (w : World) (hb : bodyB q s.data.toList = true) (hcb : chkB q c = true) : Calls Tryz.prog 149 #[.int .i64 q, .string s, .int .u8 (c.toNat : Int)] w (Gives (.bool (fitB q s.data.toList c)) w) := by
  by_cases h1 : q = 1
  · subst h1; exact fits_1 s c w hb hcb
  · by_cases h2 : q = 2
    · subst h2; exact fits_2 s c w hb hcb
    · exact fits_3 q s c w h1 h2 hb hcb
end Go.Proofs.YtfninfgohiipjaaGreatDoor
