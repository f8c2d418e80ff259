/- Package shelf: check digits. -/
import Derived.Test.YtfninfgohiipjaaGreatDoorLbU
namespace Go.Proofs.YtfninfgohiipjaaGreatDoor
open Go.RowKit Dw

theorem prod_bd {a b : Int} (h1 : 0 ≤ a) (h2 : a ≤ 9) (h3 : 0 ≤ b) (h4 : b ≤ 9) : 0 ≤ a * b ∧ a * b ≤ 81 := by
  refine ⟨Int.mul_nonneg h1 h3, ?_⟩
  have := Int.mul_le_mul h2 h4 h3 (by omega)
  omega
theorem sumW_bd {wt : Nat → Int} : ∀ {l : List UInt8} {i : Nat}, (∀ j, i ≤ j → j < i + l.length → 0 ≤ wt j ∧ wt j ≤ 9) → l.all digB = true → 0 ≤ sumW wt i l ∧ sumW wt i l ≤ 81 * l.length
  | [], _, _, _ => by simp [sumW]
  | c :: l, i, h, hd => by
    rw [List.all_cons, Bool.and_eq_true] at hd
    obtain ⟨h1, h2⟩ := sumW_bd (l := l) (i := i + 1) (fun j h1 h2 => h j (by omega) (by simp; omega)) hd.2
    have hw := h i (Nat.le_refl _) (by simp)
    have hc : 48 ≤ c.toNat ∧ c.toNat ≤ 57 := by simpa [digB] using hd.1
    have hp := prod_bd hw.1 hw.2 (show (0 : Int) ≤ (c.toNat : Int) - 48 by omega) (show (c.toNat : Int) - 48 ≤ 9 by omega)
    rw [sumW]
    simp only [List.length_cons]
    omega
theorem vu8 {a b : Int} (h : a = b) : Value.int .u8 a = .int .u8 b := by rw [h]
theorem digS_at (i : Nat) (h : i < 10) : (digS[i]'h).toNat = 48 + i := by
  have : ∀ i : Fin 10, (digS[i.1]'i.2).toNat = 48 + i.1 := by decide +kernel
  exact this ⟨i, h⟩
theorem sgnS_at (i : Nat) (h : i < 36) : (sgnS[i]'h).toNat = if i < 10 then 48 + i else 55 + i := by
  have : ∀ i : Fin 36, (sgnS[i.1]'i.2).toNat = if i.1 < 10 then 48 + i.1 else 55 + i.1 := by decide +kernel
  exact this ⟨i, h⟩
def digitV (k : Int) (l : List UInt8) : Int :=
  if k = 1 then 48 + (10 - (1 + sumW wtW 1 l.tail) % 10) % 10
  else if k = 2 then (if (1 - recP l % 36 + 36) % 36 < 10 then 48 + (1 - recP l % 36 + 36) % 36 else 55 + (1 - recP l % 36 + 36) % 36)
  else 48 + (10 - sumW wtE 0 l % 10) % 10

def DgRel1 (w : World) (l : List UInt8) (m : Nat) (sum i : Value) (wr : World) : Prop :=
  w = wr ∧ ∃ k : Nat, k + m = 10 ∧ 1 ≤ k ∧ i = .int .i64 k ∧ sum = .int .i64 (1 + sumW wtW 1 (l.tail.take (k - 1)))

set_option maxHeartbeats 1000000 in
theorem digit_1 (s : ByteArray) (w : World) (hb : bodyB 1 s.data.toList = true) : Calls Tryz.prog 145 #[.int .i64 1, .string s] w (Gives (.int .u8 (digitV 1 s.data.toList)) w) := by
  have hl := len_data s
  unfold bodyB at hb
  simp only [if_true, Bool.and_eq_true, decide_eq_true_eq] at hb
  obtain ⟨⟨h10, _⟩, hd⟩ := hb
  have hs : s.size = 10 := by omega
  have htl : s.data.toList.tail.length = 9 := by rw [List.length_tail]; omega
  have HD := Lib.hid hd
  have HTL := Lib.hid htl
  have hsz : 10 ≤ s.size := by omega
  have hsz2 : s.size ≤ 10 := by omega
  have HL := Lib.hid hl
  clear hd htl h10 hs hl
  have HV : Hid (digitV 1 s.data.toList = 48 + (10 - (1 + sumW wtW 1 s.data.toList.tail) % 10) % 10) := by
    show digitV 1 s.data.toList = _
    unfold digitV; rfl
  go_enter Tryz.func145, Tryz.ntmps145
  go_wp2
  go_loopg [5, 6] 9 (DgRel1 w s.data.toList)
  case atStart => exact ⟨rfl, 1, by omega, by omega, rfl, rfl⟩
  case round =>
    obtain ⟨hw, k, hk, hk1, rfl, rfl⟩ := hrel
    subst hw
    have hbd : 0 ≤ sumW wtW 1 (s.data.toList.tail.take (k - 1)) ∧ sumW wtW 1 (s.data.toList.tail.take (k - 1)) ≤ 81 * 9 := by
      have := sumW_bd (wt := wtW) (l := s.data.toList.tail.take (k - 1)) (i := 1) (fun j h1 h2 => by
        rw [List.length_take, HTL.out] at h2
        unfold wtW; omega) (List.all_eq_true.2 fun x hx => List.all_eq_true.1 HD.out x (List.mem_of_mem_take hx))
      rw [List.length_take, HTL.out] at this
      omega
    by_cases hlt : k ≤ 9
    · have hks : k < s.size := by omega
      have hel : s.data.toList.tail[k - 1]'(by rw [HTL.out]; omega) = s[k] := by
        rw [List.getElem_tail]
        have : s.data.toList[k - 1 + 1]'(by have := HL.out; omega) = s.data.toList[k]'(by have := HL.out; omega) := by congr 1; omega
        rw [this]; rfl
      have hc : 48 ≤ (s[k]).toNat ∧ (s[k]).toNat ≤ 57 := by
        have := List.all_eq_true.1 HD.out _ (List.getElem_mem (show k - 1 < s.data.toList.tail.length by rw [HTL.out]; omega))
        rw [hel] at this
        simpa [digB] using this
      have HST : Hid (sumW wtW 1 (s.data.toList.tail.take (k - 1 + 1)) = sumW wtW 1 (s.data.toList.tail.take (k - 1)) + (k : Int) * (((s[k]).toNat : Int) - 48)) := by
        show sumW wtW 1 (s.data.toList.tail.take (k - 1 + 1)) = _
        rw [List.take_succ_eq_append_getElem (by rw [HTL.out]; omega), sumW_snoc, hel, List.length_take, HTL.out]
        unfold wtW
        congr 2
        omega
      have hpb := prod_bd (show (0 : Int) ≤ (k : Int) by omega) (show (k : Int) ≤ 9 by omega) (show (0 : Int) ≤ ((s[k]).toNat : Int) - 48 by omega) (show ((s[k]).toNat : Int) - 48 ≤ 9 by omega)
      have HK := Lib.hid hk
      clear hel hk
      generalize sumW wtW 1 (s.data.toList.tail.take (k - 1)) = S at *
      go_wp2
      go_roundg (gk - 1)
      case measure => have := HK.out; omega
      case rel =>
        refine ⟨rfl, k + 1, by have := HK.out; omega, by omega, by go_num, vint ?_⟩
        rw [show k + 1 - 1 = k - 1 + 1 by omega, HST.out]
        omega
    · have HE : Hid (sumW wtW 1 (s.data.toList.tail.take (k - 1)) = sumW wtW 1 s.data.toList.tail) := by
        show sumW wtW 1 (s.data.toList.tail.take (k - 1)) = _
        rw [List.take_of_length_le (by rw [HTL.out]; omega)]
      rw [HE.out] at hbd ⊢
      clear HE
      generalize hS : sumW wtW 1 s.data.toList.tail = S at *
      have HS := Lib.hid hS
      clear hS hk
      have hr : 0 ≤ (1 + S) % 10 ∧ (1 + S) % 10 < 10 := by omega
      have hr2 : 0 ≤ (10 - (1 + S) % 10) % 10 ∧ (10 - (1 + S) % 10) % 10 < 10 := by omega
      go_wp2
      go_ret
      refine Gives.mk (vu8 ?_) rfl
      rw [HV.out]
      have hi : (-((1 + S) % 10) % 10).toNat < 10 := by omega
      have h := digS_at _ hi
      show ((digS[(-((1 + S) % 10) % 10).toNat]'hi).toNat : Int) = _
      rw [h]
      omega

theorem sval_bd {c : UInt8} (h : sgnB c = true) : 0 ≤ sval c ∧ sval c < 36 :=
  byte_all (P := fun c => sgnB c = true → 0 ≤ sval c ∧ sval c < 36) (by decide +kernel) c h
theorem stepP_bd (p : Int) (c : UInt8) : 0 ≤ stepP p c ∧ stepP p c < 37 := by unfold stepP; omega
theorem recP_snoc (l : List UInt8) (c : UInt8) : recP (l ++ [c]) = stepP (recP l) c := by unfold recP; rw [List.foldl_append]; rfl
theorem recP_bd (l : List UInt8) : 0 ≤ recP l ∧ recP l < 37 := by
  rcases List.eq_nil_or_concat l with rfl | ⟨t, c, rfl⟩
  · decide
  · rw [List.concat_eq_append, recP_snoc]; exact stepP_bd _ _
def DgRel2 (w : World) (l : List UInt8) (m : Nat) (p i : Value) (wr : World) : Prop :=
  w = wr ∧ ∃ k : Nat, k + m = l.length ∧ i = .int .i64 k ∧ p = .int .i64 (recP (l.take k))

set_option maxHeartbeats 1000000 in
theorem digit_2 (s : ByteArray) (w : World) (hb : bodyB 2 s.data.toList = true) : Calls Tryz.prog 145 #[.int .i64 2, .string s] w (Gives (.int .u8 (digitV 2 s.data.toList)) w) := by
  have hl := len_data s
  unfold bodyB at hb
  simp only [show ¬ (2 : Int) = 1 by decide, if_false, if_true, Bool.and_eq_true, decide_eq_true_eq] at hb
  obtain ⟨h10, hd⟩ := hb
  have HD := Lib.hid hd
  have hsz : s.size ≤ 10 := by omega
  have HL := Lib.hid hl
  clear hd h10 hl
  have HV : Hid (digitV 2 s.data.toList = (if (1 - recP s.data.toList % 36 + 36) % 36 < 10 then 48 + (1 - recP s.data.toList % 36 + 36) % 36 else 55 + (1 - recP s.data.toList % 36 + 36) % 36)) := by
    show digitV 2 s.data.toList = _
    unfold digitV; rfl
  go_enter Tryz.func145, Tryz.ntmps145
  go_wp2
  go_loopg [7, 37] s.size (DgRel2 w s.data.toList)
  case atStart => exact ⟨rfl, 0, by have := HL.out; omega, rfl, rfl⟩
  case round =>
    obtain ⟨hw, k, hk, rfl, rfl⟩ := hrel
    subst hw
    have hk2 : k ≤ s.size := by have := HL.out; omega
    have hpb := recP_bd (s.data.toList.take k)
    by_cases hlt : k < s.size
    · have hel : s.data.toList[k]'(by have := HL.out; omega) = s[k] := rfl
      have hsg : sgnB s[k] = true := by
        have := List.all_eq_true.1 HD.out _ (List.getElem_mem (show k < s.data.toList.length by have := HL.out; omega))
        exact this
      have hvb := sval_bd hsg
      have HST : Hid (recP (s.data.toList.take (k + 1)) = stepP (recP (s.data.toList.take k)) s[k]) := by
        show recP (s.data.toList.take (k + 1)) = _
        rw [List.take_succ_eq_append_getElem (by have := HL.out; omega), recP_snoc, hel]
      have hix : Lib.indexByte sgnS.data.toList s[k] = sval s[k] := by rw [idx_sgn, hsg]; rfl
      have hcon := indexByte_c sgnS s[k] w
      rw [hix] at hcon
      have HCON := Lib.hid hcon
      have HK := Lib.hid hk
      clear hel hsg hix hcon hk
      generalize recP (s.data.toList.take k) = p at *
      generalize hv : sval s[k] = v at *
      have HVV := Lib.hid hv
      clear hv
      by_cases h0 : (p + v) % 36 = 0
      · have h0b : ((p + v) % 36 == 0) = true := by rw [h0]; rfl
        have HST2 : Hid (stepP p s[k] = 2 * 36 % 37) := by
          show stepP p s[k] = _
          unfold stepP; rw [HVV.out, if_pos h0]
        go_wp2_with fail
        refine HCON.out.mono ?_
        rintro e w' ⟨rfl, rfl⟩
        go_wp2
        go_roundg (gk - 1)
        case measure => have := HK.out; have := HL.out; omega
        case rel =>
          refine ⟨rfl, k + 1, by have := HK.out; have := HL.out; omega, by go_num, vint ?_⟩
          rw [HST.out, HST2.out]; rfl
      · have h0b : ((p + v) % 36 == 0) = false := by rw [beq_eq_false_iff_ne]; exact h0
        have HST2 : Hid (stepP p s[k] = 2 * ((p + v) % 36) % 37) := by
          show stepP p s[k] = _
          unfold stepP; rw [HVV.out, if_neg h0]
        go_wp2_with fail
        refine HCON.out.mono ?_
        rintro e w' ⟨rfl, rfl⟩
        go_wp2
        go_roundg (gk - 1)
        case measure => have := HK.out; have := HL.out; omega
        case rel =>
          refine ⟨rfl, k + 1, by have := HK.out; have := HL.out; omega, by go_num, vint ?_⟩
          rw [HST.out, HST2.out]
    · have HE : Hid (recP (s.data.toList.take k) = recP s.data.toList) := by
        show recP (s.data.toList.take k) = _
        rw [List.take_of_length_le (by have := HL.out; omega)]
      rw [HE.out] at hpb ⊢
      clear HE
      generalize recP s.data.toList = p at *
      clear hk
      go_wp2
      go_ret
      refine Gives.mk (vu8 ?_) rfl
      rw [HV.out]
      have hi : ((1 - p) % 36).toNat < 36 := by omega
      have h := sgnS_at _ hi
      show ((sgnS[((1 - p) % 36).toNat]'hi).toNat : Int) = _
      rw [h]
      by_cases e : (1 - p % 36 + 36) % 36 < 10
      · rw [if_pos e, if_pos (by omega)]; omega
      · rw [if_neg e, if_neg (by omega)]; omega

def DgRel3 (w : World) (l : List UInt8) (m : Nat) (sum i : Value) (wr : World) : Prop :=
  w = wr ∧ ∃ k : Nat, k + m = l.length ∧ i = .int .i64 k ∧ sum = .int .i64 (sumW wtE 0 (l.take k))
theorem wtE_bd (j : Nat) : 0 ≤ wtE j ∧ wtE j ≤ 9 := by unfold wtE; omega

set_option maxHeartbeats 1000000 in
theorem digit_3 (q : Int) (s : ByteArray) (w : World) (h1 : q ≠ 1) (h2 : q ≠ 2) (hb : bodyB q s.data.toList = true) : Calls Tryz.prog 145 #[.int .i64 q, .string s] w (Gives (.int .u8 (digitV q s.data.toList)) w) := by
  have hl := len_data s
  unfold bodyB at hb
  rw [if_neg h1, if_neg h2] at hb
  simp only [Bool.and_eq_true, decide_eq_true_eq] at hb
  obtain ⟨h10, hd⟩ := hb
  have HD := Lib.hid hd
  have hsz : s.size ≤ 12 := by omega
  have HL := Lib.hid hl
  clear hd h10 hl
  have HV : Hid (digitV q s.data.toList = 48 + (10 - sumW wtE 0 s.data.toList % 10) % 10) := by
    show digitV q s.data.toList = _
    unfold digitV; rw [if_neg h1, if_neg h2]
  have h1b : (q == 1) = false := by simpa using h1
  have h2b : (q == 2) = false := by simpa using h2
  clear h1 h2
  go_enter Tryz.func145, Tryz.ntmps145
  go_wp2
  go_loopg [10, 61] s.size (DgRel3 w s.data.toList)
  case atStart => exact ⟨rfl, 0, by have := HL.out; omega, rfl, rfl⟩
  case round =>
    obtain ⟨hw, k, hk, rfl, rfl⟩ := hrel
    subst hw
    have hk2 : k ≤ s.size := by have := HL.out; omega
    have hbd : 0 ≤ sumW wtE 0 (s.data.toList.take k) ∧ sumW wtE 0 (s.data.toList.take k) ≤ 81 * 12 := by
      have := sumW_bd (wt := wtE) (l := s.data.toList.take k) (i := 0) (fun j _ _ => wtE_bd j) (List.all_eq_true.2 fun x hx => List.all_eq_true.1 HD.out x (List.mem_of_mem_take hx))
      rw [List.length_take] at this
      omega
    by_cases hlt : k < s.size
    · have hel : s.data.toList[k]'(by have := HL.out; omega) = s[k] := rfl
      have hc : 48 ≤ (s[k]).toNat ∧ (s[k]).toNat ≤ 57 := by
        have := List.all_eq_true.1 HD.out _ (List.getElem_mem (show k < s.data.toList.length by have := HL.out; omega))
        rw [hel] at this
        simpa [digB] using this
      have HST : Hid (sumW wtE 0 (s.data.toList.take (k + 1)) = sumW wtE 0 (s.data.toList.take k) + (1 + (k : Int) % 2 * 2) * (((s[k]).toNat : Int) - 48)) := by
        show sumW wtE 0 (s.data.toList.take (k + 1)) = _
        rw [List.take_succ_eq_append_getElem (by have := HL.out; omega), sumW_snoc, hel, List.length_take]
        have e : 0 + min k s.data.toList.length = k := by have := HL.out; omega
        rw [e]; rfl
      have hwb : 0 ≤ 1 + (k : Int) % 2 * 2 ∧ 1 + (k : Int) % 2 * 2 ≤ 9 := by omega
      have hpb := prod_bd hwb.1 hwb.2 (show (0 : Int) ≤ ((s[k]).toNat : Int) - 48 by omega) (show ((s[k]).toNat : Int) - 48 ≤ 9 by omega)
      have HK := Lib.hid hk
      clear hel hk
      generalize sumW wtE 0 (s.data.toList.take k) = S at *
      go_wp2
      go_roundg (gk - 1)
      case measure => have := HK.out; have := HL.out; omega
      case rel =>
        refine ⟨rfl, k + 1, by have := HK.out; have := HL.out; omega, by go_num, vint ?_⟩
        rw [HST.out]
    · have HE : Hid (sumW wtE 0 (s.data.toList.take k) = sumW wtE 0 s.data.toList) := by
        show sumW wtE 0 (s.data.toList.take k) = _
        rw [List.take_of_length_le (by have := HL.out; omega)]
      rw [HE.out] at hbd ⊢
      clear HE
      generalize sumW wtE 0 s.data.toList = S at *
      clear hk
      go_wp2
      go_ret
      refine Gives.mk (vu8 ?_) rfl
      rw [HV.out]
      have hi : (-(S % 10) % 10).toNat < 10 := by omega
      have h := digS_at _ hi
      show ((digS[(-(S % 10) % 10).toNat]'hi).toNat : Int) = _
      rw [h]
      omega

theorem digit_c (q : Int) (s : ByteArray) (w : World) (hb : bodyB q s.data.toList = true) : Calls Tryz.prog 145 #[.int .i64 q, .string s] w (Gives (.int .u8 (digitV q s.data.toList)) w) := by
  by_cases h1 : q = 1
  · subst h1; exact digit_1 s w hb
  · by_cases h2 : q = 2
    · subst h2; exact digit_2 s w hb
    · exact digit_3 q s w h1 h2 hb
theorem digit_fits {q : Int} {l : List UInt8} {c : UInt8} (hc : chkB q c = true) : (digitV q l = (c.toNat : Int)) ↔ fitB q l c = true := by
  have hd : ∀ c : UInt8, digB c = true → sval c = (c.toNat : Int) - 48 ∧ 48 ≤ c.toNat ∧ c.toNat ≤ 57 :=
    byte_all (P := fun c => digB c = true → sval c = (c.toNat : Int) - 48 ∧ 48 ≤ c.toNat ∧ c.toNat ≤ 57) (by decide +kernel)
  have hsg : ∀ c : UInt8, sgnB c = true → 0 ≤ sval c ∧ sval c < 36 ∧ (c.toNat : Int) = if sval c < 10 then 48 + sval c else 55 + sval c :=
    byte_all (P := fun c => sgnB c = true → 0 ≤ sval c ∧ sval c < 36 ∧ (c.toNat : Int) = if sval c < 10 then 48 + sval c else 55 + sval c) (by decide +kernel)
  unfold digitV fitB
  by_cases h1 : q = 1
  · have hc' : digB c = true := by unfold chkB at hc; rw [if_neg (by omega)] at hc; exact hc
    obtain ⟨e1, e2, e3⟩ := hd c hc'
    rw [if_pos h1, if_pos h1, decide_eq_true_eq]
    omega
  · rw [if_neg h1, if_neg h1]
    by_cases h2 : q = 2
    · have hc' : sgnB c = true := by unfold chkB at hc; rw [if_pos h2] at hc; exact hc
      obtain ⟨e1, e2, e3⟩ := hsg c hc'
      have hp := recP_bd l
      rw [if_pos h2, if_pos h2, decide_eq_true_eq, e3]
      generalize recP l = p at *
      generalize sval c = v at *
      by_cases e : (1 - p % 36 + 36) % 36 < 10
      · rw [if_pos e]
        by_cases e' : v < 10
        · rw [if_pos e']; omega
        · rw [if_neg e']; omega
      · rw [if_neg e]
        by_cases e' : v < 10
        · rw [if_pos e']; omega
        · rw [if_neg e']; omega
    · have hc' : digB c = true := by unfold chkB at hc; rw [if_neg h2] at hc; exact hc
      obtain ⟨e1, e2, e3⟩ := hd c hc'
      rw [if_neg h2, if_neg h2, decide_eq_true_eq]
      omega
end Go.Proofs.YtfninfgohiipjaaGreatDoor
