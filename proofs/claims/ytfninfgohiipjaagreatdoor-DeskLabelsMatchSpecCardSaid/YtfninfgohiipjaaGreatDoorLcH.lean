/- The reference of chapter 6: checkMoved. -/
import Derived.Test.YtfninfgohiipjaaGreatDoorLcG
namespace Go.Proofs.YtfninfgohiipjaaGreatDoor
open Go.RowKit Dw

theorem thO_is (o : Option Th) : ∃ p, thO o = thV p := by
  cases o with
  | none => exact ⟨default, rfl⟩
  | some t => exact ⟨t, rfl⟩
theorem mvF1_is {T : List Th} {M : List Mv} {k : Nat} (hk : k < M.length) : mvF1 T M k = if (M[k]).frm < 1 ∨ 1000000 < (M[k]).frm then 1 else if 0 < k ∧ (M[k]).frm ≤ (M.getD (k - 1) default).frm then 8 else if (thAt T (M[k]).frm).isSome = true then 7 else if (thAt T (M[k]).to).isSome = false ∧ (mvAt M (M[k]).to).isSome = false then 9 else 0 := by
  unfold mvF1
  rw [getM hk]
  simp only [Option.isNone_iff_eq_none, Option.isSome_eq_false_iff]
/-- A catalogue in a box, and a moved id in another. -/
def MvSt (w wr : World) (v1 v2 : Value) (g : Nat) (a b : Int) : Prop := CB w wr w.heap.size v1 v2 ∧ wr.heap[g]? = some (.cells #[.int .i64 a, .int .i64 b] 147 (0, 0))
section
variable {w wr wr' : World} {v1 v2 : Value} {g : Nat} {a b : Int}
theorem MvSt.lt (h : MvSt w wr v1 v2 g a b) : g < wr.heap.size := (Array.getElem?_eq_some_iff.1 h.2).1
theorem MvSt.alloc (h : MvSt w wr v1 v2 g a b) (o : Obj) : MvSt w (wr.alloc o) v1 v2 g a b := ⟨h.1.alloc o, (Below.heap_alloc wr o _ h.lt).trans h.2⟩
theorem MvSt.below (h : MvSt w wr v1 v2 g a b) (hb : Below wr.heap.size wr wr') : MvSt w wr' v1 v2 g a b := ⟨h.1.below hb, (hb.block _ h.lt).trans h.2⟩
theorem MvSt.drewN (h : MvSt w wr v1 v2 g a b) (n : Nat) : MvSt w (wr.drewN n) v1 v2 g a b := h.below (below_drewN (Below.refl _ _) n)
theorem MvSt.c0 (h : MvSt w wr v1 v2 g a b) : wr.cell? ⟨g, 0, none⟩ = some (.int .i64 a) := boxC h.2 rfl
theorem MvSt.c1 (h : MvSt w wr v1 v2 g a b) : wr.cell? ⟨g, 1, none⟩ = some (.int .i64 b) := boxC h.2 rfl
end
def MrR1 (w : World) (T : List Th) (M : List Mv) (v1 v2 : Value) (m : Nat) (i : Value) (wr : World) : Prop :=
  ∃ k : Nat, k + m = M.length ∧ i = .int .i64 k ∧ (∀ j, j < k → mvF1 T M j = 0) ∧ CB w wr w.heap.size v1 v2
def MrR2 (w : World) (T : List Th) (M : List Mv) (v1 v2 : Value) (m : Nat) (i : Value) (wr : World) : Prop :=
  ∃ k : Nat, k + m = M.length ∧ i = .int .i64 k ∧ (∀ j, j < k → mvF2 T M j = 0) ∧ CB w wr w.heap.size v1 v2

set_option maxRecDepth 100000 in
set_option maxHeartbeats 4000000 in
theorem checkMovedR_c (A1 : Option Addr) (c1 : Nat) (T : List Th) (A2 : Option Addr) (c2 : Nat) (M : List Mv) (w : World) (hc : CatOk w A1 T A2 M) (hn : T.length ≤ 300) (hm : M.length ≤ 300) :
    Calls Tryz.prog 75 #[catV A1 c1 T A2 c2 M] w (GivesB (.int .i64 (mvF T M)) w) := by
  generalize hres : mvF T M = res
  have HR := Lib.hid hres
  clear hres
  unfold mvF at HR
  go_enter Tryz.func75, Tryz.ntmps75
  go_wp2
  go_loopg [18] M.length (MrR1 w T M (.slice A1 T.length c1) (.slice A2 M.length c2))
  case atStart => exact ⟨0, by omega, rfl, fun j hj => absurd hj (by omega), CB.new _ _ _⟩
  case round =>
    obtain ⟨k, hk, rfl, hpre, hcb⟩ := hrel
    have HK := Lib.hid hk
    have HP := Lib.hid hpre
    have HCB := Lib.hid hcb
    have hk1 : k ≤ M.length := by omega
    have hwr : w.heap.size < wr.heap.size := hcb.lt
    have b0 := hcb.c0
    have b1 := hcb.c1
    clear hk hpre hcb
    by_cases hlt : k < M.length
    · obtain ⟨b, o, rfl, hb, hcc⟩ := hc.mvs.at_ (by omega)
      have q0 := (HCB.out.bel.cell (p := ⟨b, o + k * 2, none⟩) hb).trans (hcc k hlt).1
      have q1 := (HCB.out.bel.cell (p := ⟨b, o + k * 2 + 1, none⟩) hb).trans (hcc k hlt).2
      have hbr : b < wr.heap.size := by omega
      have HCP : Hid (0 < k → w.cell? ⟨b, o + (k - 1) * 2, none⟩ = some (.int .i64 (M.getD (k - 1) default).frm)) := fun h0 => by
        rw [getM (by omega)]; exact (hcc (k - 1) (by omega)).1
      have HF1 := Lib.hid (mvF1_is (T := T) hlt)
      have HERR : Hid (∀ x : Int, mvF1 T M k = x → x ≠ 0 → res = x) := by
        show ∀ x : Int, mvF1 T M k = x → x ≠ 0 → res = x
        intro x hx1 hx0
        have hfi := firstF_at hlt HP.out (by rw [hx1]; exact hx0)
        rw [← HR.out, if_pos (by rw [hfi, hx1]; exact hx0), hfi, hx1]
      have HNX : Hid (mvF1 T M k = 0 → ∀ j, j < k + 1 → mvF1 T M j = 0) := fun h0 j hj => by
        rcases Nat.lt_or_ge j k with h1 | h1
        · exact HP.out j h1
        · obtain rfl : j = k := by omega
          exact h0
      clear hcc
      generalize hpv : (M.getD (k - 1) default).frm = pv at *
      generalize hfr : (M[k]).frm = fr at *
      generalize hto : (M[k]).to = to at *
      clear hpv hfr hto
      have HS1 : Hid (MvSt w (wr.alloc (.cells #[.int .i64 fr, .int .i64 to] 147)) (.slice A1 T.length c1) (.slice (some ⟨b, o, none⟩) M.length c2) wr.heap.size fr to) := ⟨HCB.out.alloc _, heap_alloc_new _ _⟩
      go_wp2_with fail
      refine (thing_c A1 c1 T (some ⟨b, o, none⟩) c2 M fr _ (hc.below HS1.out.1.bel) hn).mono ?_
      rintro e w2 ⟨rfl, hb2⟩
      have HS2 := Lib.hid (HS1.out.below hb2)
      clear hb2 HS1 b0 b1 q0 q1
      have b0 := HS2.out.1.c0
      have b1 := HS2.out.1.c1
      have q0 := HS2.out.c0
      have q1 := HS2.out.c1
      have hw2 : wr.heap.size < w2.heap.size := HS2.out.lt
      have hw2' : w.heap.size < w2.heap.size := by omega
      obtain ⟨p, hp⟩ := thO_is (thAt T fr)
      rw [hp]
      clear hp
      generalize (thAt T fr).isSome = sF at *
      go_wp2_with fail
      have HS3 := Lib.hid (HS2.out.alloc (.cells #[.int .i64 p.id, .int .i64 p.kind, .string p.title, .string p.code, .int .i64 p.since, .int .i64 p.parent, .slice p.pA p.parts.length p.pc] 54))
      refine (thing_c A1 c1 T (some ⟨b, o, none⟩) c2 M to _ (hc.below HS3.out.1.bel) hn).mono ?_
      rintro e w3 ⟨rfl, hb3⟩
      have HS4 := Lib.hid (HS3.out.below hb3)
      clear hb3 HS2 HS3 b0 b1 q0 q1
      have b0 := HS4.out.1.c0
      have b1 := HS4.out.1.c1
      have q0 := HS4.out.c0
      have q1 := HS4.out.c1
      have hw3 : wr.heap.size < w3.heap.size := HS4.out.lt
      have hw3' : w.heap.size < w3.heap.size := by omega
      obtain ⟨p', hp⟩ := thO_is (thAt T to)
      rw [hp]
      clear hp
      generalize (thAt T to).isSome = sT at *
      go_wp2_with fail
      have HS5 := Lib.hid (HS4.out.alloc (.cells #[.int .i64 p'.id, .int .i64 p'.kind, .string p'.title, .string p'.code, .int .i64 p'.since, .int .i64 p'.parent, .slice p'.pA p'.parts.length p'.pc] 54))
      refine (movedR_c A1 c1 T (some ⟨b, o, none⟩) c2 M to _ (hc.below HS5.out.1.bel) hm).mono ?_
      rintro e w4 ⟨rfl, hb4⟩
      have HS6 := Lib.hid (HS5.out.below hb4)
      clear hb4 HS4 HS5 b0 b1 q0 q1
      have b1 := HS6.out.1.c1
      have q0 := HS6.out.c0
      have hw4 : wr.heap.size < w4.heap.size := HS6.out.lt
      have hw4' : w.heap.size < w4.heap.size := by omega
      have hbr4 : b < w4.heap.size := by omega
      have HCP4 : Hid (0 < k → w4.cell? ⟨b, o + (k - 1) * 2, none⟩ = some (.int .i64 pv)) := fun h0 => (HS6.out.1.bel.cell hb).trans (HCP.out h0)
      generalize (mvAt M to).getD 0 = gv at *
      generalize (mvAt M to).isSome = sM at *
      go_wp2_with fail
      refine (within_c fr 1 1000000 _).mono ?_
      rintro e w' ⟨rfl, rfl⟩
      by_cases h1 : fr < 1 ∨ 1000000 < fr
      · have hin : (decide (1 ≤ fr) && decide (fr ≤ 1000000)) = false := by
          rcases h1 with h | h
          · rw [decide_eq_false (by omega)]; rfl
          · rw [decide_eq_false (p := fr ≤ 1000000) (by omega)]; simp
        have HS := Lib.hid (HERR.out 1 (by rw [HF1.out, if_pos h1]) (by decide))
        clear h1
        rw [hin]
        go_wp2
        go_ret
        exact GivesB.mk (vint HS.out.symm) HS6.out.1.bel
      have hin : (decide (1 ≤ fr) && decide (fr ≤ 1000000)) = true := by simp; omega
      have HN1 := Lib.hid h1
      clear h1
      rw [hin]
      by_cases h3 : 0 < k ∧ fr ≤ pv
      · have HS := Lib.hid (HERR.out 8 (by rw [HF1.out, if_neg HN1.out, if_pos h3]) (by decide))
        obtain ⟨h30, h31⟩ := h3
        have hd : decide ((0 : Int) < (k : Int)) = true := by simp; omega
        have hcp := HCP4.out h30
        have hle : decide (fr ≤ pv) = true := by simpa using h31
        go_wp2
        go_quiet (fail)
        go_wp2
        go_ret
        exact GivesB.mk (vint HS.out.symm) (below_drewN HS6.out.1.bel _)
      have HN3 := Lib.hid h3
      have hord : (∃ hd : decide ((0 : Int) < (k : Int)) = false, ¬ 0 < k) ∨ (0 < k ∧ decide ((0 : Int) < (k : Int)) = true ∧ ¬ fr ≤ pv) := by
        by_cases h0 : 0 < k
        · right
          exact ⟨h0, by simp; omega, fun h => h3 ⟨h0, h⟩⟩
        · left
          exact ⟨by simp; omega, h0⟩
      clear h3
      rcases hord with ⟨hd, h0⟩ | ⟨h0, hd, hle⟩
      case' inr =>
        have hcp := HCP4.out h0
        have hleb : decide (fr ≤ pv) = false := by simpa using hle
      all_goals
        go_wp2
        go_quiet (fail)
        have HS7 := Lib.hid (HS6.out.drewN nq)
        generalize w4.drewN nq = W at *
        cases sF with
        | true =>
          have HS := Lib.hid (HERR.out 7 (by rw [HF1.out, if_neg HN1.out, if_neg HN3.out, if_pos rfl]) (by decide))
          go_wp2
          go_ret
          exact GivesB.mk (vint HS.out.symm) HS7.out.1.bel
        | false =>
          cases sT with
          | true =>
            have HZ := Lib.hid (HNX.out (by rw [HF1.out, if_neg HN1.out, if_neg HN3.out, if_neg (by simp), if_neg (by simp)]))
            go_wp2
            go_roundg (gk - 1)
            case measure => have := HK.out; omega
            case rel => exact ⟨k + 1, by have := HK.out; omega, by go_num, HZ.out, HS7.out.1⟩
          | false =>
            cases sM with
            | true =>
              have HZ := Lib.hid (HNX.out (by rw [HF1.out, if_neg HN1.out, if_neg HN3.out, if_neg (by simp), if_neg (by simp)]))
              go_wp2
              go_roundg (gk - 1)
              case measure => have := HK.out; omega
              case rel => exact ⟨k + 1, by have := HK.out; omega, by go_num, HZ.out, HS7.out.1⟩
            | false =>
              have HS := Lib.hid (HERR.out 9 (by rw [HF1.out, if_neg HN1.out, if_neg HN3.out, if_neg (by simp), if_pos (by simp)]) (by decide))
              go_wp2
              go_ret
              exact GivesB.mk (vint HS.out.symm) HS7.out.1.bel
    · have hF0 : ∀ j, j < M.length → mvF1 T M j = 0 := fun j hj => HP.out j (by omega)
      have hr1 := HR.out
      rw [if_neg (by rw [firstF_zero hF0]; simp)] at hr1
      have HR1 := Lib.hid hr1
      clear hF0 hr1 HP HK
      obtain ⟨g1, hg1⟩ : ∃ g1, g1 = gk := ⟨_, rfl⟩
      subst hg1
      go_wp2
      go_loopg [77] M.length (MrR2 w T M (.slice A1 T.length c1) (.slice A2 M.length c2))
      case atStart => exact ⟨0, by omega, rfl, fun j hj => absurd hj (by omega), HCB.out⟩
      clear b0 b1 HCB hwr hlt hk1
      case round =>
        obtain ⟨k, hk, rfl, hpre, hcb⟩ := hrel
        have HK := Lib.hid hk
        have HP := Lib.hid hpre
        have HCB := Lib.hid hcb
        have hk1 : k ≤ M.length := by omega
        have hwr : w.heap.size < wr.heap.size := hcb.lt
        have b0 := hcb.c0
        have b1 := hcb.c1
        clear hk hpre hcb
        by_cases hlt : k < M.length
        · obtain ⟨b, o, rfl, hb, hcc⟩ := hc.mvs.at_ (by omega)
          have q0 := (HCB.out.bel.cell (p := ⟨b, o + k * 2, none⟩) hb).trans (hcc k hlt).1
          have q1 := (HCB.out.bel.cell (p := ⟨b, o + k * 2 + 1, none⟩) hb).trans (hcc k hlt).2
          have hbr : b < wr.heap.size := by omega
          have HF2 : Hid (mvF2 T M k = if (findN T M (M.length + 1) (M[k]).frm).isNone then 14 else 0) := by
            show mvF2 T M k = _
            unfold mvF2
            rw [getM hlt]
          clear hcc
          generalize hfr : (M[k]).frm = fr at *
          generalize hto : (M[k]).to = to at *
          clear hfr hto
          go_wp2_with fail
          refine (findR_c A1 c1 T (some ⟨b, o, none⟩) c2 M fr _ (hc.below (HCB.out.alloc _).bel) hn hm).mono ?_
          rintro e w3 ⟨rfl, hb3⟩
          have HC3 := Lib.hid ((HCB.out.alloc _).below hb3)
          clear hb3
          cases hfd : findN T M (M.length + 1) fr with
          | none =>
            have HS : Hid (res = 14) := by
              show res = 14
              have h14 : mvF2 T M k = 14 := by rw [HF2.out, hfd]; rfl
              rw [← HR1.out, firstF_at hlt HP.out (by rw [h14]; decide), h14]
            clear hfd
            simp only [Option.getD_none, Option.isSome_none]
            go_wp2
            go_ret
            exact GivesB.mk (vint HS.out.symm) HC3.out.bel
          | some x =>
            have HOK : Hid (mvF2 T M k = 0) := by
              show mvF2 T M k = 0
              rw [HF2.out, hfd]; rfl
            clear hfd
            simp only [Option.getD_some, Option.isSome_some]
            go_wp2
            go_roundg (gk - 1)
            case measure => have := HK.out; omega
            case rel =>
              refine ⟨k + 1, by have := HK.out; omega, by go_num, fun j hj => ?_, HC3.out⟩
              rcases Nat.lt_or_ge j k with h1 | h1
              · exact HP.out j h1
              · obtain rfl : j = k := by omega
                exact HOK.out
        · have HS : Hid (res = 0) := by
            show res = 0
            rw [← HR1.out, firstF_zero fun j hj => HP.out j (by omega)]
          go_wp2
          go_ret
          exact GivesB.mk (vint HS.out.symm) HCB.out.bel
end Go.Proofs.YtfninfgohiipjaaGreatDoor
