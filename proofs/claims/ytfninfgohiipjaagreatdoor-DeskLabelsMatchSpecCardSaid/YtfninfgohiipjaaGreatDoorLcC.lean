/- The reference of chapter 6: CheckCode and checkThing. -/
import Derived.Test.YtfninfgohiipjaaGreatDoorLcB
import Derived.Test.YtfninfgohiipjaaGreatDoorLbX
namespace Go.Proofs.YtfninfgohiipjaaGreatDoor
open Go.RowKit Dw

theorem gq {f : FuncId} {args : Array Value} {v : Value} {w : World} (h : Calls Tryz.prog f args w (Gives v w)) : Calls Tryz.prog f args w fun e w' => e = .returned v ∧ w' = w :=
  h.mono fun _ _ ⟨he, hw⟩ => ⟨he, hw.symm⟩
theorem drew_two {w w2 : World} {a b : Nat} (h : w2 = w.drewN a) : ∃ n, w2.drewN b = w.drewN n := ⟨a + b, by rw [h, World.drewN_drewN]⟩
theorem last_data {s : ByteArray} {n : Nat} (hn : s.size = n + 1) : (s.extract n s.size).data.toList = [s[n]'(by omega)] := by
  have hl := len_data s
  rw [ByteArray.data_extract, Array.toList_extract, List.extract_eq_take_drop, List.drop_eq_getElem_cons (by omega), List.drop_of_length_le (by omega)]
  rw [show s.size - n = 1 by omega]
  rfl
theorem ofL_c {k : Int} {s : ByteArray} {n : Nat} {b : Bool} (hn : s.size = n + 1) (hc : chkB k (s[n]'(by omega)) = b) (hs : s.size ≤ 9223372036854775807) (W : World) :
    Calls Tryz.prog 147 #[.string (s.extract n s.size), .string (if k = 2 then sgnS else digS)] W (Gives (.bool b) W) := by
  have := of_c (cut := if k = 2 then sgnS else digS) (p := chkB k) (fun c => chk_idx k c) (s.extract n s.size) W (Nat.le_trans (by simp) hs)
  rw [last_data hn] at this
  simpa [hc] using this
theorem isBodyRF_c {k : Int} {s : ByteArray} {n : Nat} {b : Bool} (hn : s.size = n + 1) (hb : bodyB k s.data.toList.dropLast = b) (hs : s.size ≤ 9223372036854775807) (W : World) : Calls Tryz.prog 146 #[.int .i64 k, .string (s.extract 0 n)] W (Gives (.bool b) W) := by
  have hf := front_data s
  rw [show s.size - 1 = n by omega] at hf
  have := isBodyR_c k (s.extract 0 n) W (by simp; omega)
  rw [hf, hb] at this
  exact this
theorem fitsF_c {k : Int} {s : ByteArray} {n : Nat} (hn : s.size = n + 1) (hb : bodyB k s.data.toList.dropLast = true) (hc : chkB k (s[n]'(by omega)) = true) {b : Bool} (hf : fitB k s.data.toList.dropLast (s[n]'(by omega)) = b) (W : World) :
    Calls Tryz.prog 149 #[.int .i64 k, .string (s.extract 0 n), .int .u8 ((s[n]'(by omega)).toNat : Int)] W (Gives (.bool b) W) := by
  have hfr := front_data s
  rw [show s.size - 1 = n by omega] at hfr
  have := fits_c k (s.extract 0 n) (s[n]'(by omega)) W (by rw [hfr]; exact hb) hc
  rw [hfr, hf] at this
  exact this

set_option maxHeartbeats 1000000 in
theorem CheckCodeR_c (k : Int) (s : ByteArray) (w : World) (hs : s.size ≤ 9223372036854775807) : Calls Tryz.prog 104 #[.int .i64 k, .string s] w (GivesQ (.int .i64 (codeF k s.data.toList)) w) := by
  generalize hres : codeF k s.data.toList = res
  have HR := Lib.hid hres
  clear hres
  by_cases hk : k < 1 ∨ 4 < k
  · have hres : res = 4 := by rw [← HR.out, codeF_kind hk]
    have HS := Lib.hid hres
    have hkb : (decide (1 ≤ k) && decide (k ≤ 4)) = false := by
      rcases hk with h | h
      · rw [decide_eq_false (by omega)]; rfl
      · rw [decide_eq_false (p := k ≤ 4) (by omega)]; simp
    have hcon := isKindR_c k w
    rw [hkb] at hcon
    have HC := Lib.hid hcon
    clear hres hk hkb hcon
    go_enter Tryz.func104, Tryz.ntmps104
    go_wp2_with fail
    refine HC.out.mono ?_
    rintro e w' ⟨rfl, rfl⟩
    go_wp2
    go_ret
    exact GivesQ.mk (vint HS.out.symm) ⟨0, rfl⟩
  have hkb : (decide (1 ≤ k) && decide (k ≤ 4)) = true := by simp; omega
  have hcon := isKindR_c k w
  rw [hkb] at hcon
  have HC := Lib.hid hcon
  have HKK := Lib.hid hk
  clear hkb hcon hk
  by_cases h1 : 1 ≤ s.size
  · have hne : s.data.toList ≠ [] := fun e => by have := len_data s; rw [e] at this; simp at this; omega
    obtain ⟨n, hn⟩ : ∃ n, s.size = n + 1 := ⟨s.size - 1, by omega⟩
    have hns : n < s.size := by omega
    have HLA : Hid (s.data.toList.getLastD 0 = s[n]'hns) := lastN hn
    have hi0 : (0 : Int) ≤ (n : Int) := by omega
    have hi1 : (n : Int) ≤ (s.size : Int) := by omega
    have hi2 : (n : Int) < (s.size : Int) := by omega
    have hd0 : decide ((n : Int) < 0) = false := by simp
    have hse : ((s.size : Nat) : Int) - 1 = (n : Int) := by omega
    have HSE := Lib.hid hse
    have HN := Lib.hid hn
    have hne' := Lib.hid hne
    have HCK := Lib.hid (checks_c k)
    clear hne hse hn
    cases hb : bodyB k s.data.toList.dropLast with
    | false =>
      have HB := Lib.hid (isBodyRF_c HN.out hb hs)
      have hres : res = 3 := by rw [← HR.out, codeF_form HKK.out (.inr (.inl hb))]
      have HS := Lib.hid hres
      clear hres hb
      go_enter Tryz.func104, Tryz.ntmps104
      go_wp2_with fail
      refine HC.out.mono ?_
      rintro e w' ⟨rfl, rfl⟩
      go_wp2
      rw [HSE.out]
      go_quiet ((exact Calls.quiet_of_same (gq (HB.out _))))
      go_wp2
      go_ret
      exact GivesQ.mk (vint HS.out.symm) ⟨_, rfl⟩
    | true =>
      have HB := Lib.hid (isBodyRF_c HN.out hb hs)
      cases hc : chkB k s[n] with
      | false =>
        have HOF := Lib.hid (ofL_c HN.out hc hs)
        have hres : res = 3 := by rw [← HR.out, codeF_form HKK.out (.inr (.inr (by rw [HLA.out]; exact hc)))]
        have HS := Lib.hid hres
        clear hres hb hc
        generalize (if k = 2 then sgnS else digS) = dgs at *
        go_enter Tryz.func104, Tryz.ntmps104
        go_wp2_with fail
        refine HC.out.mono ?_
        rintro e w' ⟨rfl, rfl⟩
        go_wp2
        rw [HSE.out]
        go_quiet ((first | exact Calls.quiet_of_same (gq (HB.out _)) | exact Calls.quiet_of_same (gq (HCK.out _)) | exact Calls.quiet_of_same (gq (HOF.out _))))
        go_wp2
        go_ret
        exact GivesQ.mk (vint HS.out.symm) ⟨_, rfl⟩
      | true =>
        have HOF := Lib.hid (ofL_c HN.out hc hs)
        have hres : res = if fitB k s.data.toList.dropLast s[n] = true then 0 else 16 := by
          rw [← HR.out, codeF_ok HKK.out, HLA.out]
          rw [HLA.out]
          rintro (h | h | h)
          · exact hne'.out h
          · rw [hb] at h; cases h
          · rw [hc] at h; cases h
        cases hf : fitB k s.data.toList.dropLast s[n] with
        | true =>
          have HFT := Lib.hid (fitsF_c HN.out hb hc hf)
          rw [if_pos hf] at hres
          have HS := Lib.hid hres
          clear hres hb hc hf
          generalize (if k = 2 then sgnS else digS) = dgs at *
          go_enter Tryz.func104, Tryz.ntmps104
          go_wp2_with fail
          refine HC.out.mono ?_
          rintro e w' ⟨rfl, rfl⟩
          go_wp2
          rw [HSE.out]
          go_quiet ((first | exact Calls.quiet_of_same (gq (HB.out _)) | exact Calls.quiet_of_same (gq (HCK.out _)) | exact Calls.quiet_of_same (gq (HOF.out _))))
          obtain ⟨w2, hw2⟩ : ∃ w2, w2 = w.drewN nq := ⟨_, rfl⟩
          rw [← hw2]
          have HW2 := Lib.hid hw2
          clear hw2
          go_wp2
          go_quiet ((exact Calls.quiet_of_same (gq (HFT.out _))))
          go_wp2
          go_ret
          exact GivesQ.mk (vint HS.out.symm) (drew_two HW2.out)
        | false =>
          have HFT := Lib.hid (fitsF_c HN.out hb hc hf)
          rw [if_neg (by rw [hf]; simp)] at hres
          have HS := Lib.hid hres
          clear hres hb hc hf
          generalize (if k = 2 then sgnS else digS) = dgs at *
          go_enter Tryz.func104, Tryz.ntmps104
          go_wp2_with fail
          refine HC.out.mono ?_
          rintro e w' ⟨rfl, rfl⟩
          go_wp2
          rw [HSE.out]
          go_quiet ((first | exact Calls.quiet_of_same (gq (HB.out _)) | exact Calls.quiet_of_same (gq (HCK.out _)) | exact Calls.quiet_of_same (gq (HOF.out _))))
          obtain ⟨w2, hw2⟩ : ∃ w2, w2 = w.drewN nq := ⟨_, rfl⟩
          rw [← hw2]
          have HW2 := Lib.hid hw2
          clear hw2
          go_wp2
          go_quiet ((exact Calls.quiet_of_same (gq (HFT.out _))))
          go_wp2
          go_ret
          exact GivesQ.mk (vint HS.out.symm) (drew_two HW2.out)
  · have hnil : s.data.toList = [] := List.eq_nil_of_length_eq_zero (by rw [len_data]; omega)
    have hres : res = 3 := by rw [← HR.out, codeF_form HKK.out (.inl hnil)]
    have HS := Lib.hid hres
    have hse : ((s.size : Nat) : Int) - 1 = -1 := by omega
    have HSE := Lib.hid hse
    clear hres hnil hse
    go_enter Tryz.func104, Tryz.ntmps104
    go_wp2_with fail
    refine HC.out.mono ?_
    rintro e w' ⟨rfl, rfl⟩
    go_wp2
    rw [HSE.out]
    go_quiet (fail)
    go_wp2
    go_ret
    exact GivesQ.mk (vint HS.out.symm) ⟨_, rfl⟩

set_option maxHeartbeats 2000000 in
theorem checkThingR_c (t : Th) (w : World) (hz1 : t.title.size ≤ 9223372036854775807) (hz2 : t.code.size ≤ 9223372036854775807) (hG : GOK w) :
    Calls Tryz.prog 73 #[thV t] w (GivesB (.int .i64 (thF twoB t)) w) := by
  generalize hres : thF twoB t = res
  have HR := Lib.hid hres
  clear hres
  unfold thF at HR
  go_enter Tryz.func73, Tryz.ntmps73
  go_wp2_with fail
  refine (isKindR_c t.kind _).mono ?_
  rintro e w' ⟨rfl, rfl⟩
  by_cases hk : t.kind < 1 ∨ 4 < t.kind
  · have hkb : (decide (1 ≤ t.kind) && decide (t.kind ≤ 4)) = false := by
      rcases hk with h | h
      · rw [decide_eq_false (by omega)]; rfl
      · rw [decide_eq_false (p := t.kind ≤ 4) (by omega)]; simp
    have HS : Hid (res = 4) := by
      show res = 4
      rw [← HR.out, if_pos hk]
    rw [hkb]
    clear hk hkb
    go_wp2
    go_ret
    exact GivesB.mk (vint HS.out.symm) ((Below.refl _ _).alloc (Nat.le_refl _) _)
  have hkb : (decide (1 ≤ t.kind) && decide (t.kind ≤ 4)) = true := by simp; omega
  rw [hkb]
  have hr1 := HR.out
  rw [if_neg hk] at hr1
  have HR1 := Lib.hid hr1
  have hk1 : 1 ≤ t.kind := by omega
  have hk2 : t.kind ≤ 4 := by omega
  clear hk hkb hr1 HR
  go_wp2_with fail
  refine (isTitleR_c t.title _ hz1 (hG.below ((Below.refl _ _).alloc (Nat.le_refl _) _))).mono ?_
  rintro e w' ⟨rfl, rfl⟩
  cases ht : titleB (twoB t.title) t.title with
  | false =>
    have HS : Hid (res = 3) := by
      show res = 3
      rw [← HR1.out, if_pos ht]
    clear ht
    go_wp2
    go_ret
    exact GivesB.mk (vint HS.out.symm) ((Below.refl _ _).alloc (Nat.le_refl _) _)
  | true =>
    have hr2 := HR1.out
    rw [if_neg (by rw [ht]; simp)] at hr2
    have HR2 := Lib.hid hr2
    clear ht hr2 HR1
    have HBX : Hid (BoxT (w.alloc (.cells #[.int .i64 t.id, .int .i64 t.kind, .string t.title, .string t.code, .int .i64 t.since, .int .i64 t.parent, .slice t.pA t.parts.length t.pc] 54)) w.heap.size t) := heap_alloc_new _ _
    have HBB : Hid (Below w.heap.size w (w.alloc (.cells #[.int .i64 t.id, .int .i64 t.kind, .string t.title, .string t.code, .int .i64 t.since, .int .i64 t.parent, .slice t.pA t.parts.length t.pc] 54))) := (Below.refl _ _).alloc (Nat.le_refl _) _
    by_cases hc : t.code = emp
    case' pos =>
      have he := isEmpty_of_eq hc
      have hr3 := HR2.out
      rw [if_neg (by intro h; exact h.1 hc)] at hr3
      have HR3 := Lib.hid hr3
      clear hr3 HR2 hc
    case' neg =>
      have he := isEmpty_of_ne hc
      go_wp2_with fail
      refine (CheckCodeR_c t.kind t.code _ hz2).mono ?_
      intro e w2 hq2
      obtain ⟨rfl, hb2⟩ := hq2.toB
      clear hq2
      have hbx2 : BoxT w2 w.heap.size t := HBX.out.below hb2
      have HB2 := Lib.hid (HBB.out.trans (hb2.mono HBB.out.size))
      obtain ⟨q0, q1, q2, q3, q4, q5, q6⟩ := hbx2.cells
      clear hb2 hbx2 HBB
      have HBB := HB2
      clear HB2
      by_cases hf : codeF t.kind t.code.data.toList = 0
      case neg =>
        have hfb : (codeF t.kind t.code.data.toList != 0) = true := by simpa using hf
        have HS : Hid (res = codeF t.kind t.code.data.toList) := by
          show res = _
          rw [← HR2.out, if_pos ⟨hc, hf⟩]
        clear hf hc HR2
        generalize codeF t.kind t.code.data.toList = cf at *
        go_wp2
        go_ret
        exact GivesB.mk (vint HS.out.symm) HBB.out
      have hr3 := HR2.out
      rw [if_neg (by intro h; exact h.2 hf)] at hr3
      have HR3 := Lib.hid hr3
      rw [hf]
      clear hr3 HR2 hc hf
    all_goals
      go_wp2_with fail
      refine (within_c t.since 0 200000 _).mono ?_
      rintro e w' ⟨rfl, rfl⟩
      by_cases hs : 0 ≤ t.since ∧ t.since ≤ 200000
      case neg =>
        have hsb : (decide (0 ≤ t.since) && decide (t.since ≤ 200000)) = false := by
          cases h : (decide (0 ≤ t.since) && decide (t.since ≤ 200000)) with
          | false => rfl
          | true => exact absurd (by simpa using h) hs
        rw [hsb]
        have HF : Hid (t.since < 0 ∨ 200000 < t.since) := by show _ ∨ _; omega
        clear hs hsb
        go_wp2
        go_ret
        refine GivesB.mk (vint ?_) HBB.out
        rw [← HR3.out, if_pos HF.out]
      have hsb : (decide (0 ≤ t.since) && decide (t.since ≤ 200000)) = true := by simpa using hs
      rw [hsb]
      have HNS : Hid (¬ (t.since < 0 ∨ 200000 < t.since)) := by show ¬ _; omega
      clear hs hsb
      by_cases hk3 : t.kind = 3
      · have b3 : (t.kind == 3) = true := by simpa using hk3
        have b4 : (t.kind == 4) = false := by rw [beq_eq_false_iff_ne]; omega
        have b2 : decide (t.kind ≤ 2) = false := by simp; omega
        have n2 : ¬ t.kind ≤ 2 := by omega
        by_cases hp : t.parent = 0
        · have hpn : (t.parent != 0) = false := by simpa using hp
          have HF : Hid (¬ ((t.kind = 3 ∧ t.parent ≠ 0) ∨ (t.kind = 4 ∧ t.parent = 0) ∨ (t.kind ≤ 2 ∧ 0 < t.parts.length))) := by
            show ¬ _
            omega
          clear hk3 hp
          by_cases hl : 50 < t.parts.length
          · go_wp2
            go_ret
            refine GivesB.mk (vint ?_) HBB.out
            rw [← HR3.out, if_neg HNS.out, if_neg HF.out, if_pos hl]
          · go_wp2
            go_ret
            refine GivesB.mk (vint ?_) HBB.out
            rw [← HR3.out, if_neg HNS.out, if_neg HF.out, if_neg hl]
        · have hpn : (t.parent != 0) = true := by simpa using hp
          have HF : Hid ((t.kind = 3 ∧ t.parent ≠ 0) ∨ (t.kind = 4 ∧ t.parent = 0) ∨ (t.kind ≤ 2 ∧ 0 < t.parts.length)) := .inl ⟨hk3, hp⟩
          clear hk3 hp
          go_wp2
          go_ret
          refine GivesB.mk (vint ?_) HBB.out
          rw [← HR3.out, if_neg HNS.out, if_pos HF.out]
      · have b3 : (t.kind == 3) = false := by simpa using hk3
        by_cases hk4 : t.kind = 4
        · have b4 : (t.kind == 4) = true := by simpa using hk4
          have b2 : decide (t.kind ≤ 2) = false := by simp; omega
          have n2 : ¬ t.kind ≤ 2 := by omega
          by_cases hp : t.parent = 0
          · have hpe : (t.parent == 0) = true := by simpa using hp
            have HF : Hid ((t.kind = 3 ∧ t.parent ≠ 0) ∨ (t.kind = 4 ∧ t.parent = 0) ∨ (t.kind ≤ 2 ∧ 0 < t.parts.length)) := .inr (.inl ⟨hk4, hp⟩)
            clear hk3 hk4 hp
            go_wp2
            go_ret
            refine GivesB.mk (vint ?_) HBB.out
            rw [← HR3.out, if_neg HNS.out, if_pos HF.out]
          · have hpe : (t.parent == 0) = false := by simpa using hp
            have HF : Hid (¬ ((t.kind = 3 ∧ t.parent ≠ 0) ∨ (t.kind = 4 ∧ t.parent = 0) ∨ (t.kind ≤ 2 ∧ 0 < t.parts.length))) := by
              show ¬ _
              omega
            clear hk3 hk4 hp
            by_cases hl : 50 < t.parts.length
            · go_wp2
              go_ret
              refine GivesB.mk (vint ?_) HBB.out
              rw [← HR3.out, if_neg HNS.out, if_neg HF.out, if_pos hl]
            · go_wp2
              go_ret
              refine GivesB.mk (vint ?_) HBB.out
              rw [← HR3.out, if_neg HNS.out, if_neg HF.out, if_neg hl]
        · have b4 : (t.kind == 4) = false := by simpa using hk4
          have n2 : t.kind ≤ 2 := by omega
          by_cases hl0 : 0 < t.parts.length
          · have HF : Hid ((t.kind = 3 ∧ t.parent ≠ 0) ∨ (t.kind = 4 ∧ t.parent = 0) ∨ (t.kind ≤ 2 ∧ 0 < t.parts.length)) := .inr (.inr ⟨n2, hl0⟩)
            have hl0b : decide ((0 : Int) < (t.parts.length : Int)) = true := by simp; omega
            clear hk3 hk4
            go_wp2
            go_ret
            refine GivesB.mk (vint ?_) HBB.out
            rw [← HR3.out, if_neg HNS.out, if_pos HF.out]
          · have hl0b : decide ((0 : Int) < (t.parts.length : Int)) = false := by rw [decide_eq_false_iff_not]; omega
            have HF : Hid (¬ ((t.kind = 3 ∧ t.parent ≠ 0) ∨ (t.kind = 4 ∧ t.parent = 0) ∨ (t.kind ≤ 2 ∧ 0 < t.parts.length))) := by
              show ¬ _
              omega
            have hl : ¬ 50 < t.parts.length := by omega
            clear hk3 hk4
            go_wp2
            go_ret
            refine GivesB.mk (vint ?_) HBB.out
            rw [← HR3.out, if_neg HNS.out, if_neg HF.out, if_neg hl]
end Go.Proofs.YtfninfgohiipjaaGreatDoor
