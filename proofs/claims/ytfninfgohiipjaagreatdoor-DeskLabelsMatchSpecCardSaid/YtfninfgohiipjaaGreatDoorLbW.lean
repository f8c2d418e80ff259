/- Package shelf: CheckCode. -/
import Derived.Test.YtfninfgohiipjaaGreatDoorLbV
import Derived.Lib.QuietBelow
namespace Go.Proofs.YtfninfgohiipjaaGreatDoor
open Go.RowKit Dw

theorem front_data (s : ByteArray) : (s.extract 0 (s.size - 1)).data.toList = s.data.toList.dropLast := by
  have hl := len_data s
  rw [ByteArray.data_extract, Array.toList_extract, List.extract_eq_take_drop, List.drop_zero, List.dropLast_eq_take, hl]
  rfl
theorem codeF_kind {k : Int} {l : List UInt8} (h : k < 1 ∨ 4 < k) : codeF k l = 4 := by unfold codeF; rw [if_pos h]
theorem codeF_form {k : Int} {l : List UInt8} (h : ¬ (k < 1 ∨ 4 < k)) (h2 : l = [] ∨ bodyB k l.dropLast = false ∨ chkB k (l.getLastD 0) = false) : codeF k l = 3 := by
  unfold codeF; rw [if_neg h, if_pos h2]
theorem codeF_ok {k : Int} {l : List UInt8} (h : ¬ (k < 1 ∨ 4 < k)) (h2 : ¬ (l = [] ∨ bodyB k l.dropLast = false ∨ chkB k (l.getLastD 0) = false)) : codeF k l = if fitB k l.dropLast (l.getLastD 0) = true then 0 else 16 := by
  unfold codeF; rw [if_neg h, if_neg h2]
theorem chk_idx (k : Int) (c : UInt8) : decide (Lib.indexByte (if k = 2 then sgnS else digS).data.toList c < 0) = !chkB k c := by
  have hsg : ∀ c : UInt8, sgnB c = true → 0 ≤ sval c := fun c h => (sval_bd h).1
  unfold chkB
  by_cases h : k = 2
  · rw [if_pos h, if_pos h, idx_sgn]
    cases hb : sgnB c with
    | true => have := hsg c hb; simp; omega
    | false => simp
  · rw [if_neg h, if_neg h, idx_dig]
    cases hb : digB c with
    | true => have := hsg c (by simp [sgnB, hb]); simp; omega
    | false => simp

theorem isBodyF_c {k : Int} {s : ByteArray} {n : Nat} {b : Bool} (hn : s.size = n + 1) (hb : bodyB k s.data.toList.dropLast = b) (hs : s.size ≤ 9223372036854775807) (W : World) : Calls Tryz.prog 142 #[.int .i64 k, .string (s.extract 0 n)] W (GivesB (.bool b) W) := by
  have hf := front_data s
  rw [show s.size - 1 = n by omega] at hf
  have := isBody_c k (s.extract 0 n) W (by simp; omega)
  rw [hf, hb] at this
  exact this
theorem digitF_c {k : Int} {s : ByteArray} {n : Nat} (hn : s.size = n + 1) (hb : bodyB k s.data.toList.dropLast = true) (W : World) : Calls Tryz.prog 145 #[.int .i64 k, .string (s.extract 0 n)] W (Gives (.int .u8 (digitV k s.data.toList.dropLast)) W) := by
  have hf := front_data s
  rw [show s.size - 1 = n by omega] at hf
  have := digit_c k (s.extract 0 n) W (by rw [hf]; exact hb)
  rw [hf] at this
  exact this
theorem lastN {s : ByteArray} {n : Nat} (hn : s.size = n + 1) : s.data.toList.getLastD 0 = s[n]'(by omega) := by
  rw [lastD_get s (by omega)]
  congr 1
  omega

theorem givesB {f : FuncId} {args : Array Value} {v : Value} {w : World} (h : Calls Tryz.prog f args w (Gives v w)) : Calls Tryz.prog f args w fun e w' => e = .returned v ∧ Below w.heap.size w w' :=
  h.mono fun _ _ ⟨he, hw⟩ => ⟨he, hw ▸ Below.refl _ _⟩

set_option maxHeartbeats 1000000 in
theorem CheckCode_c (k : Int) (s : ByteArray) (w : World) (hs : s.size ≤ 9223372036854775807) : Calls Tryz.prog 97 #[.int .i64 k, .string s] w (GivesB (.int .i64 (codeF k s.data.toList)) w) := by
  generalize hres : codeF k s.data.toList = res
  have HR := Lib.hid hres
  clear hres
  by_cases hk : k < 1 ∨ 4 < k
  · have hres : res = 4 := by rw [← HR.out, codeF_kind hk]
    have HS := Lib.hid hres
    have hkb : (decide (1 ≤ k) && decide (k ≤ 4)) = false := by
      rcases hk with h | h
      · rw [decide_eq_false (by omega)]; rfl
      · rw [decide_eq_false (p := k ≤ 4) (by omega)]; simp
    have hcon := isKind_c k w
    rw [hkb] at hcon
    have HC := Lib.hid hcon
    clear hres hk hkb hcon
    go_enter Tryz.func97, Tryz.ntmps97
    go_wp2_with fail
    refine HC.out.mono ?_
    rintro e w' ⟨rfl, rfl⟩
    go_wp2
    go_ret
    exact GivesB.mk (vint HS.out.symm) (Below.refl _ _)
  have hkb : (decide (1 ≤ k) && decide (k ≤ 4)) = true := by simp; omega
  have hcon := isKind_c k w
  rw [hkb] at hcon
  have HC := Lib.hid hcon
  have HKK := Lib.hid hk
  clear hkb hcon hk
  by_cases h1 : 1 ≤ s.size
  · have hne : s.data.toList ≠ [] := fun e => by have := len_data s; rw [e] at this; simp at this; omega
    have hsz : s.size - 1 < s.size := by omega
    obtain ⟨n, hn⟩ : ∃ n, s.size = n + 1 := ⟨s.size - 1, by omega⟩
    have hns : n < s.size := by omega
    have HLA : Hid (s.data.toList.getLastD 0 = s[n]'hns) := lastN hn
    have hi0 : (0 : Int) ≤ (n : Int) := by omega
    have hi1 : (n : Int) ≤ (s.size : Int) := by omega
    have hi2 : (n : Int) < (s.size : Int) := by omega
    have hd0 : decide ((n : Int) < 0) = false := by simp
    have hse : ((s.size : Nat) : Int) - 1 = (n : Int) := by omega
    have HSE := Lib.hid hse
    have HN := Lib.hid hn
    have hne' := Lib.hid hne
    clear hne hse hn hsz
    cases hb : bodyB k s.data.toList.dropLast with
    | false =>
      have HB := Lib.hid (isBodyF_c HN.out hb hs)
      have hres : res = 3 := by rw [← HR.out, codeF_form HKK.out (.inr (.inl hb))]
      have HS := Lib.hid hres
      clear hres hb
      go_enter Tryz.func97, Tryz.ntmps97
      go_wp2_with fail
      refine HC.out.mono ?_
      rintro e w' ⟨rfl, rfl⟩
      go_wp2
      rw [HSE.out]
      refine wp_region_quiet_below (by kernel_rfl) (by kernel_rfl) ?_
      repeat (quiet_step (exact Calls.regrown_of (HB.out _)))
      refine wpQuiet_nil ?_
      intro _ hw'
      obtain ⟨⟨dq, osq⟩, hw''⟩ := hw'
      subst hw''
      have HBB := Lib.hid (below_regrown w dq osq)
      generalize Sort.grow (redrawn w dq) osq = w2 at *
      go_wp2
      go_ret
      exact GivesB.mk (vint HS.out.symm) HBB.out
    | true =>
      have HB := Lib.hid (isBodyF_c HN.out hb hs)
      have HDF := Lib.hid (digitF_c HN.out hb)
      have hci := chk_idx k s[n]
      have HDO := Lib.hid (digitsOf_c k)
      have HIX := Lib.hid (indexByte_c (if k = 2 then sgnS else digS) s[n])
      generalize Lib.indexByte (if k = 2 then sgnS else digS).data.toList s[n] = ix at *
      generalize (if k = 2 then sgnS else digS) = dgs at *
      cases hc : chkB k s[n] with
      | false =>
        rw [hc] at hci
        have hix : decide (ix < 0) = true := by simpa using hci
        have hix2 : ix < 0 := by simpa using hci
        have hres : res = 3 := by rw [← HR.out, codeF_form HKK.out (.inr (.inr (by rw [HLA.out]; exact hc)))]
        have HS := Lib.hid hres
        clear hres hb hc hci
        go_enter Tryz.func97, Tryz.ntmps97
        go_wp2_with fail
        refine HC.out.mono ?_
        rintro e w' ⟨rfl, rfl⟩
        go_wp2
        rw [HSE.out]
        refine wp_region_quiet_below (by kernel_rfl) (by kernel_rfl) ?_
        repeat (quiet_step (first | exact Calls.regrown_of (HB.out _) | exact Calls.regrown_of (givesB (HDO.out _)) | exact Calls.regrown_of (givesB (HIX.out _))))
        refine wpQuiet_nil ?_
        intro _ hw'
        obtain ⟨⟨dq, osq⟩, hw''⟩ := hw'
        subst hw''
        have HBB := Lib.hid (below_regrown w dq osq)
        generalize Sort.grow (redrawn w dq) osq = w2 at *
        go_wp2
        go_ret
        exact GivesB.mk (vint HS.out.symm) HBB.out
      | true =>
        rw [hc] at hci
        have hix : decide (ix < 0) = false := by simpa using hci
        have hix2 : ¬ ix < 0 := by simpa using hci
        have hfit := digit_fits (l := s.data.toList.dropLast) hc
        have hres : res = if fitB k s.data.toList.dropLast s[n] = true then 0 else 16 := by
          rw [← HR.out, codeF_ok HKK.out, HLA.out]
          rw [HLA.out]
          rintro (h | h | h)
          · exact hne'.out h
          · rw [hb] at h; cases h
          · rw [hc] at h; cases h
        generalize digitV k s.data.toList.dropLast = dv at *
        by_cases hf : fitB k s.data.toList.dropLast s[n] = true
        · rw [if_pos hf] at hres
          have hdv := hfit.2 hf
          have hb1 : (dv != ((s[n]).toNat : Int)) = false := by rw [hdv]; simp
          have HS := Lib.hid hres
          clear hres hb hc hci hf hfit hdv
          go_enter Tryz.func97, Tryz.ntmps97
          go_wp2_with fail
          refine HC.out.mono ?_
          rintro e w' ⟨rfl, rfl⟩
          go_wp2
          rw [HSE.out]
          refine wp_region_quiet_below (by kernel_rfl) (by kernel_rfl) ?_
          repeat (quiet_step (first | exact Calls.regrown_of (HB.out _) | exact Calls.regrown_of (givesB (HDO.out _)) | exact Calls.regrown_of (givesB (HIX.out _))))
          refine wpQuiet_nil ?_
          intro _ hw'
          obtain ⟨⟨dq, osq⟩, hw''⟩ := hw'
          subst hw''
          have HBB := Lib.hid (below_regrown w dq osq)
          generalize Sort.grow (redrawn w dq) osq = w2 at *
          go_wp2
          refine wp_region_quiet_below (by kernel_rfl) (by kernel_rfl) ?_
          repeat (quiet_step (exact Calls.regrown_of (givesB (HDF.out _))))
          refine wpQuiet_nil ?_
          intro _ hw'
          obtain ⟨⟨dq, osq⟩, hw''⟩ := hw'
          subst hw''
          have HBC := Lib.hid (HBB.out.trans ((below_regrown w2 dq osq).mono HBB.out.size))
          generalize Sort.grow (redrawn w2 dq) osq = w3 at *
          go_wp2
          go_ret
          exact GivesB.mk (vint HS.out.symm) HBC.out
        · rw [if_neg hf] at hres
          have hdv : ¬ dv = ((s[n]).toNat : Int) := fun e => hf (hfit.1 e)
          have hb1 : (dv != ((s[n]).toNat : Int)) = true := by simpa using hdv
          have HS := Lib.hid hres
          clear hres hb hc hci hf hfit hdv
          go_enter Tryz.func97, Tryz.ntmps97
          go_wp2_with fail
          refine HC.out.mono ?_
          rintro e w' ⟨rfl, rfl⟩
          go_wp2
          rw [HSE.out]
          refine wp_region_quiet_below (by kernel_rfl) (by kernel_rfl) ?_
          repeat (quiet_step (first | exact Calls.regrown_of (HB.out _) | exact Calls.regrown_of (givesB (HDO.out _)) | exact Calls.regrown_of (givesB (HIX.out _))))
          refine wpQuiet_nil ?_
          intro _ hw'
          obtain ⟨⟨dq, osq⟩, hw''⟩ := hw'
          subst hw''
          have HBB := Lib.hid (below_regrown w dq osq)
          generalize Sort.grow (redrawn w dq) osq = w2 at *
          go_wp2
          refine wp_region_quiet_below (by kernel_rfl) (by kernel_rfl) ?_
          repeat (quiet_step (exact Calls.regrown_of (givesB (HDF.out _))))
          refine wpQuiet_nil ?_
          intro _ hw'
          obtain ⟨⟨dq, osq⟩, hw''⟩ := hw'
          subst hw''
          have HBC := Lib.hid (HBB.out.trans ((below_regrown w2 dq osq).mono HBB.out.size))
          generalize Sort.grow (redrawn w2 dq) osq = w3 at *
          go_wp2
          go_ret
          exact GivesB.mk (vint HS.out.symm) HBC.out
  · have hnil : s.data.toList = [] := List.eq_nil_of_length_eq_zero (by rw [len_data]; omega)
    have hres : res = 3 := by rw [← HR.out, codeF_form HKK.out (.inl hnil)]
    have HS := Lib.hid hres
    have hz : s.size = 0 := by omega
    have hse : ((s.size : Nat) : Int) - 1 = -1 := by omega
    have HSE := Lib.hid hse
    clear hres hnil hse hz
    go_enter Tryz.func97, Tryz.ntmps97
    go_wp2_with fail
    refine HC.out.mono ?_
    rintro e w' ⟨rfl, rfl⟩
    go_wp2
    rw [HSE.out]
    go_quiet (fail)
    go_wp2
    go_ret
    exact GivesB.mk (vint HS.out.symm) (below_drewN (Below.refl _ _) _)
end Go.Proofs.YtfninfgohiipjaaGreatDoor
