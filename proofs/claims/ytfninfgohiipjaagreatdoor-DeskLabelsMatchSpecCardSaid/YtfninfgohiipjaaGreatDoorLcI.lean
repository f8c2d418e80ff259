/- The reference of chapter 6: Check. -/
import Derived.Test.YtfninfgohiipjaaGreatDoorLcH
namespace Go.Proofs.YtfninfgohiipjaaGreatDoor
open Go.RowKit Dw

/-- A catalogue in a box, and a thing in another. -/
def ThSt (w wr : World) (v1 v2 : Value) (g : Nat) (t : Th) : Prop := CB w wr w.heap.size v1 v2 ∧ BoxT wr g t
section
variable {w wr wr' : World} {v1 v2 : Value} {g : Nat} {t : Th}
theorem ThSt.below (h : ThSt w wr v1 v2 g t) (hb : Below wr.heap.size wr wr') : ThSt w wr' v1 v2 g t := ⟨h.1.below hb, h.2.below hb⟩
theorem ThSt.drewN (h : ThSt w wr v1 v2 g t) (n : Nat) : ThSt w (wr.drewN n) v1 v2 g t := h.below (below_drewN (Below.refl _ _) n)
end
def KrR1 (w : World) (T : List Th) (v1 v2 : Value) (m : Nat) (i : Value) (wr : World) : Prop :=
  ∃ k : Nat, k + m = T.length ∧ i = .int .i64 k ∧ (∀ j, j < k → tF1 twoB T j = 0) ∧ CB w wr w.heap.size v1 v2
def KrR2 (w : World) (T : List Th) (v1 v2 : Value) (m : Nat) (i : Value) (wr : World) : Prop :=
  ∃ k : Nat, k + m = T.length ∧ i = .int .i64 k ∧ (∀ j, j < k → tF2 T j = 0) ∧ CB w wr w.heap.size v1 v2

set_option maxRecDepth 100000 in
set_option maxHeartbeats 4000000 in
theorem CheckR_c (A1 : Option Addr) (c1 : Nat) (T : List Th) (A2 : Option Addr) (c2 : Nat) (M : List Mv) (w : World) (hc : CatOk w A1 T A2 M) (hG : GOK w) (hcap : T.length ≤ c1) :
    Calls Tryz.prog 37 #[catV A1 c1 T A2 c2 M] w (GivesB (.int .i64 (chkC twoB T M)) w) := by
  generalize hres : chkC twoB T M = res
  have HR := Lib.hid hres
  clear hres
  by_cases hl1 : 300 < T.length
  · have HS : Hid (res = 2) := by show res = 2; rw [← HR.out, chkC_large (.inl hl1)]
    go_enter Tryz.func37, Tryz.ntmps37
    go_wp2
    go_ret
    exact GivesB.mk (vint HS.out.symm) ((Below.refl _ _).alloc (Nat.le_refl _) _)
  by_cases hl2 : 300 < M.length
  · have HS : Hid (res = 2) := by show res = 2; rw [← HR.out, chkC_large (.inr hl2)]
    go_enter Tryz.func37, Tryz.ntmps37
    go_wp2
    go_ret
    exact GivesB.mk (vint HS.out.symm) ((Below.refl _ _).alloc (Nat.le_refl _) _)
  have HL : Hid (¬ (300 < T.length ∨ 300 < M.length)) := by show ¬ _; omega
  have hn1 : T.length ≤ 300 := by omega
  have hn2 : M.length ≤ 300 := by omega
  go_enter Tryz.func37, Tryz.ntmps37
  go_wp2
  go_loopg [21] T.length (KrR1 w T (.slice A1 T.length c1) (.slice A2 M.length c2))
  case atStart => exact ⟨0, by omega, rfl, fun j hj => absurd hj (by omega), CB.new _ _ _⟩
  case round =>
    obtain ⟨k, hk, rfl, hpre, hcb⟩ := hrel
    have HK := Lib.hid hk
    have HP := Lib.hid hpre
    have HCB := Lib.hid hcb
    have hk1 : k ≤ T.length := by omega
    have hws : w.heap.size < wr.heap.size := hcb.lt
    have b0 := hcb.c0
    have b1 := hcb.c1
    clear hk hpre hcb
    by_cases hlt : k < T.length
    · obtain ⟨b, o, rfl, hb, hcc⟩ := hc.ths.at_ (by omega)
      obtain ⟨p0, p1, p2, p3, p4, p5, p6⟩ := hcc k hlt
      have q0 := (HCB.out.bel.cell (p := ⟨b, o + k * 7, none⟩) hb).trans p0
      have q1 := (HCB.out.bel.cell (p := ⟨b, o + k * 7 + 1, none⟩) hb).trans p1
      have q2 := (HCB.out.bel.cell (p := ⟨b, o + k * 7 + 2, none⟩) hb).trans p2
      have q3 := (HCB.out.bel.cell (p := ⟨b, o + k * 7 + 3, none⟩) hb).trans p3
      have q4 := (HCB.out.bel.cell (p := ⟨b, o + k * 7 + 4, none⟩) hb).trans p4
      have q5 := (HCB.out.bel.cell (p := ⟨b, o + k * 7 + 5, none⟩) hb).trans p5
      have q6 := (HCB.out.bel.cell (p := ⟨b, o + k * 7 + 6, none⟩) hb).trans p6
      have hbr : b < wr.heap.size := by omega
      have HCP : Hid (0 < k → wr.cell? ⟨b, o + (k - 1) * 7, none⟩ = some (.int .i64 (T.getD (k - 1) default).id)) := fun h0 => by
        rw [getT (by omega)]; exact (HCB.out.bel.cell hb).trans (hcc (k - 1) (by omega)).1
      have HF1 : Hid (tF1 twoB T k = if (T[k]).id < 1 ∨ 1000000 < (T[k]).id then 1 else if 0 < k ∧ (T[k]).id ≤ (T.getD (k - 1) default).id then 8 else thF twoB T[k]) := by
        show tF1 twoB T k = _
        unfold tF1
        rw [getT hlt]
      have HERR : Hid (∀ x : Int, tF1 twoB T k = x → x ≠ 0 → res = x) := by
        show ∀ x : Int, tF1 twoB T k = x → x ≠ 0 → res = x
        intro x hx1 hx0
        rw [← HR.out, chkC_1 HL.out hlt HP.out hx1 hx0]
      have HNX : Hid (tF1 twoB T k = 0 → ∀ j, j < k + 1 → tF1 twoB T j = 0) := fun h0 j hj => by
        rcases Nat.lt_or_ge j k with h1 | h1
        · exact HP.out j h1
        · obtain rfl : j = k := by omega
          exact h0
      have hsz := hc.sized _ (List.getElem_mem hlt)
      clear hcc p0 p1 p2 p3 p4 p5 p6
      generalize hpv : (T.getD (k - 1) default).id = pv at *
      generalize T[k] = t at *
      clear hpv
      have HS1 : Hid (ThSt w (wr.alloc (.cells #[.int .i64 t.id, .int .i64 t.kind, .string t.title, .string t.code, .int .i64 t.since, .int .i64 t.parent, .slice t.pA t.parts.length t.pc] 54)) (.slice (some ⟨b, o, none⟩) T.length c1) (.slice A2 M.length c2) wr.heap.size t) := ⟨HCB.out.alloc _, heap_alloc_new _ _⟩
      have HSZ := Lib.hid hsz
      clear hsz
      go_wp2_with fail
      refine (within_c t.id 1 1000000 _).mono ?_
      rintro e w' ⟨rfl, rfl⟩
      by_cases h1 : t.id < 1 ∨ 1000000 < t.id
      · have hin : (decide (1 ≤ t.id) && decide (t.id ≤ 1000000)) = false := by
          rcases h1 with h | h
          · rw [decide_eq_false (by omega)]; rfl
          · rw [decide_eq_false (p := t.id ≤ 1000000) (by omega)]; simp
        have HS := Lib.hid (HERR.out 1 (by rw [HF1.out, if_pos h1]) (by decide))
        clear h1
        rw [hin]
        go_wp2
        go_ret
        exact GivesB.mk (vint HS.out.symm) HS1.out.1.bel
      have hin : (decide (1 ≤ t.id) && decide (t.id ≤ 1000000)) = true := by simp; omega
      have HN1 := Lib.hid h1
      clear h1
      rw [hin]
      by_cases h3 : 0 < k ∧ t.id ≤ pv
      · have HS := Lib.hid (HERR.out 8 (by rw [HF1.out, if_neg HN1.out, if_pos h3]) (by decide))
        obtain ⟨h30, h31⟩ := h3
        have hd : decide ((0 : Int) < (k : Int)) = true := by simp; omega
        have hcp := HCP.out h30
        have hle : decide (t.id ≤ pv) = true := by simpa using h31
        go_wp2
        go_quiet (fail)
        go_wp2
        go_ret
        exact GivesB.mk (vint HS.out.symm) (below_drewN HS1.out.1.bel _)
      have HN3 := Lib.hid h3
      have hord : (∃ _ : decide ((0 : Int) < (k : Int)) = false, ¬ 0 < k) ∨ (0 < k ∧ decide ((0 : Int) < (k : Int)) = true ∧ ¬ t.id ≤ pv) := by
        by_cases h0 : 0 < k
        · right
          exact ⟨h0, by simp; omega, fun h => h3 ⟨h0, h⟩⟩
        · left
          exact ⟨by simp; omega, h0⟩
      clear h3
      rcases hord with ⟨hd, h0⟩ | ⟨h0, hd, hle⟩
      case' inr =>
        have hcp := HCP.out h0
        have hleb : decide (t.id ≤ pv) = false := by simpa using hle
      all_goals
        go_wp2
        go_quiet (fail)
        have HS7 := Lib.hid (HS1.out.drewN nq)
        generalize (wr.alloc (.cells #[.int .i64 t.id, .int .i64 t.kind, .string t.title, .string t.code, .int .i64 t.since, .int .i64 t.parent, .slice t.pA t.parts.length t.pc] 54)).drewN nq = W at *
        clear q0 q1 q2 q3 q4 q5 q6 b0 b1 hd h0
        obtain ⟨q0, q1, q2, q3, q4, q5, q6⟩ := HS7.out.2.cells
        go_wp2_with fail
        refine (checkThingR_c t _ HSZ.out.1 HSZ.out.2.1 (hG.below HS7.out.1.bel)).mono ?_
        rintro e w3 ⟨rfl, hb3⟩
        have HS8 := Lib.hid (HS7.out.below hb3)
        have HTF : Hid (tF1 twoB T k = thF twoB t) := by show tF1 twoB T k = _; rw [HF1.out, if_neg HN1.out, if_neg HN3.out]
        clear hb3
        by_cases hf : thF twoB t = 0
        · have HOK := Lib.hid (HNX.out (HTF.out.trans hf))
          rw [hf]
          clear hf
          go_wp2
          go_roundg (gk - 1)
          case measure => have := HK.out; omega
          case rel => exact ⟨k + 1, by have := HK.out; omega, by go_num, HOK.out, HS8.out.1⟩
        · have hfb : (thF twoB t != 0) = true := by simpa using hf
          have HS := Lib.hid (HERR.out _ HTF.out hf)
          clear hf
          generalize thF twoB t = tf at *
          go_wp2
          go_ret
          exact GivesB.mk (vint HS.out.symm) HS8.out.1.bel
    · have hF1 : ∀ j, j < T.length → tF1 twoB T j = 0 := fun j hj => HP.out j (by omega)
      obtain ⟨_, hpos, _⟩ := tF1_inc hF1
      have HF1 := Lib.hid hF1
      have HPOS := Lib.hid hpos
      clear hF1 hpos HP HK hk1
      obtain ⟨g1, hg1⟩ : ∃ g1, g1 = gk := ⟨_, rfl⟩
      subst hg1
      go_wp2
      go_loopg [53] T.length (KrR2 w T (.slice A1 T.length c1) (.slice A2 M.length c2))
      case atStart => exact ⟨0, by omega, rfl, fun j hj => absurd hj (by omega), HCB.out⟩
      clear b0 b1 HCB hws hlt
      case round =>
        obtain ⟨k, hk, rfl, hpre, hcb⟩ := hrel
        have HK := Lib.hid hk
        have HP := Lib.hid hpre
        have HCB := Lib.hid hcb
        have hk1 : k ≤ T.length := by omega
        have hws : w.heap.size < wr.heap.size := hcb.lt
        have b0 := hcb.c0
        have b1 := hcb.c1
        clear hk hpre hcb
        by_cases hlt : k < T.length
        · have HERR : Hid (∀ x : Int, tF2 T k = x → x ≠ 0 → res = x) := by
            show ∀ x : Int, tF2 T k = x → x ≠ 0 → res = x
            intro x hx1 hx0
            rw [← HR.out, chkC_2 HL.out HF1.out hlt HP.out hx1 hx0]
          have HNX : Hid (tF2 T k = 0 → ∀ j, j < k + 1 → tF2 T j = 0) := fun h0 j hj => by
            rcases Nat.lt_or_ge j k with h1 | h1
            · exact HP.out j h1
            · obtain rfl : j = k := by omega
              exact h0
          go_wp2_with fail
          refine (checkLinksR_c A1 c1 T A2 c2 M k _ (hc.below HCB.out.bel) hn1 HPOS.out hlt hcap).mono ?_
          rintro e w3 ⟨rfl, hb3⟩
          have HC3 := Lib.hid (HCB.out.below hb3)
          clear hb3
          by_cases hf : tF2 T k = 0
          · have HOK := Lib.hid (HNX.out hf)
            rw [hf]
            clear hf
            go_wp2
            go_roundg (gk - 1)
            case measure => have := HK.out; omega
            case rel => exact ⟨k + 1, by have := HK.out; omega, by go_num, HOK.out, HC3.out⟩
          · have hfb : (tF2 T k != 0) = true := by simpa using hf
            have HS := Lib.hid (HERR.out _ rfl hf)
            clear hf
            generalize tF2 T k = tf at *
            go_wp2
            go_ret
            exact GivesB.mk (vint HS.out.symm) HC3.out.bel
        · have HS : Hid (res = mvF T M) := by
            show res = mvF T M
            rw [← HR.out, chkC_3 HL.out HF1.out fun j hj => HP.out j (by omega)]
          go_wp2_with fail
          refine (checkMovedR_c A1 c1 T A2 c2 M _ (hc.below HCB.out.bel) hn1 hn2).mono ?_
          rintro e w3 ⟨rfl, hb3⟩
          have HC3 := Lib.hid (HCB.out.below hb3)
          clear hb3
          go_wp2
          go_ret
          exact GivesB.mk (vint HS.out.symm) HC3.out.bel
end Go.Proofs.YtfninfgohiipjaaGreatDoor
