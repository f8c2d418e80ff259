/- The reference of chapter 6: Within. -/
import Derived.Test.YtfninfgohiipjaaGreatDoorLcO
namespace Go.Proofs.YtfninfgohiipjaaGreatDoor
open Go.RowKit Dw

theorem ints_one {w : World} {g : Nat} {n : Int} {t : TypeId} (h : w.heap[g]? = some (.cells #[.int .i64 n] t (0, 0))) : Ints w (some ⟨g, 0, none⟩) [n] := fun _ => ⟨g, 0, rfl, fun i hi => by
  obtain rfl : i = 0 := by simpa using hi
  exact boxC h rfl⟩
theorem thF_parts {t : Th} (h : thF twoB t = 0) : t.parts.length ≤ 50 := by
  refine Classical.byContradiction fun hn => ?_
  unfold thF at h
  repeat' split at h
  all_goals first | omega | contradiction
theorem CB.belowU {w wr wr' : World} {v1 v2 : Value} (h : CB w wr w.heap.size v1 v2) (hb : Below (w.heap.size + 1) wr wr') : CB w wr' w.heap.size v1 v2 :=
  ⟨(hb.block _ (by omega)).trans h.box, h.bel.trans (hb.mono (by omega))⟩
def WrRel (w : World) (T : List Th) (id : Int) (B : Nat) (v1 v2 : Value) (m : Nat) (out i : Value) (wr : World) : Prop :=
  ∃ k : Nat, k + m = T.length ∧ i = .int .i64 k ∧ OwnL encI 1 wr B 3 out (recsOf T id k) ∧ CB w wr w.heap.size v1 v2

set_option maxRecDepth 100000 in
set_option maxHeartbeats 2000000 in
theorem WithinR_c (A1 : Option Addr) (c1 : Nat) (T : List Th) (A2 : Option Addr) (c2 : Nat) (M : List Mv) (id : Int) (w : World) (hc : CatOk w A1 T A2 M) (hG : GOK w) (hcap : T.length ≤ c1) :
    Calls Tryz.prog 84 #[catV A1 c1 T A2 c2 M, .int .i64 id] w (GivesIF (witF T M id) w) := by
  generalize hres : witF T M id = res
  have HR := Lib.hid hres
  clear hres
  have HCB := Lib.hid (CB.new w (.slice A1 T.length c1) (.slice A2 M.length c2))
  go_enter Tryz.func84, Tryz.ntmps84
  go_wp2_with fail
  refine (CheckR_c A1 c1 T A2 c2 M _ (hc.below HCB.out.bel) (hG.below HCB.out.bel) hcap).mono ?_
  rintro e w2 ⟨rfl, hb2⟩
  have HC2 := Lib.hid (HCB.out.below hb2)
  clear hb2
  have hw2 : w.heap.size < w2.heap.size := HC2.out.lt
  have d0 := HC2.out.c0
  have d1 := HC2.out.c1
  by_cases hf : chkC twoB T M = 0
  case neg =>
    have hfb : (chkC twoB T M != 0) = true := by simpa using hf
    have HS := Lib.hid (HR.out.symm.trans (witF_bad hf))
    clear hf
    generalize chkC twoB T M = ck at *
    go_wp2
    go_ret2
    exact GivesIF.nil HS.out HC2.out.bel
  have HCK := Lib.hid hf
  have HOK := Lib.hid (chkC_ok hf)
  have hn : T.length ≤ 300 := (chkC_len hf).1
  rw [hf]
  clear hf
  go_wp2_with fail
  refine (thing_c A1 c1 T A2 c2 M id _ (hc.below HC2.out.bel) hn).mono ?_
  rintro e w3 ⟨rfl, hb3⟩
  have HC3 := Lib.hid (HC2.out.below hb3)
  clear hb3 d0 d1
  have hw3 : w.heap.size < w3.heap.size := HC3.out.lt
  have d0 := HC3.out.c0
  have d1 := HC3.out.c1
  cases hta : thAt T id with
  | none =>
    have HS := Lib.hid (HR.out.symm.trans (witF_none HCK.out hta))
    clear hta
    simp only [thO, Option.map_none, Option.getD_none, Option.isSome_none]
    go_wp2
    go_ret2
    exact GivesIF.nil HS.out (HC3.out.alloc _).bel
  | some t =>
    have HT := Lib.hid (HR.out.symm.trans (witF_some HCK.out hta))
    have HTA := Lib.hid (thAt_some hta)
    have HKD := Lib.hid (thF_kind (HOK.out.2.2.1 t HTA.out.1))
    have HPT := Lib.hid (hc.parts t HTA.out.1)
    clear hta
    simp only [thO, Option.map_some, Option.getD_some, Option.isSome_some]
    have HST : Hid (ThSt w (w3.alloc (.cells #[.int .i64 t.id, .int .i64 t.kind, .string t.title, .string t.code, .int .i64 t.since, .int .i64 t.parent, .slice t.pA t.parts.length t.pc] 54)) (.slice A1 T.length c1) (.slice A2 M.length c2) w3.heap.size t) := ⟨HC3.out.alloc _, heap_alloc_new _ _⟩
    by_cases h2 : t.kind = 2
    case pos =>
      have h2b : (t.kind == 2) = true := by simpa using h2
      have HS : Hid (res = ([id], 0)) := by
        show res = ([id], 0)
        rw [HT.out]; unfold witL; rw [if_pos h2]
      clear h2
      go_wp2
      go_ret2
      refine GivesIF.mk (l := [id]) HS.out ?_ (HST.out.1.bel.alloc (by simp; omega) _)
      have hne := heap_alloc_new (w3.alloc (.cells #[.int .i64 t.id, .int .i64 t.kind, .string t.title, .string t.code, .int .i64 t.since, .int .i64 t.parent, .slice t.pA t.parts.length t.pc] 54)) (.cells #[.int .i64 id] 3)
      have e1 : (w3.alloc (.cells #[.int .i64 t.id, .int .i64 t.kind, .string t.title, .string t.code, .int .i64 t.since, .int .i64 t.parent, .slice t.pA t.parts.length t.pc] 54)).heap.size = w3.heap.size + 1 := by simp
      rw [e1] at hne
      exact ints_one hne
    have h2b : (t.kind == 2) = false := by simpa using h2
    by_cases h1 : t.kind = 1
    case pos =>
      have h1b : (t.kind == 1) = true := by simpa using h1
      have HS : Hid (res = (recsOf T id T.length, 0)) := by
        show res = (recsOf T id T.length, 0)
        rw [HT.out]; unfold witL; rw [if_neg h2, if_pos h1]
      clear h1 h2
      go_wp2
      go_loopg [9, 36] T.length (WrRel w T id (w.heap.size + 1) (.slice A1 T.length c1) (.slice A2 M.length c2))
      case atStart => exact ⟨0, by omega, rfl, OwnL.nil _ _ _ _ _, HST.out.1⟩
      case round =>
        obtain ⟨k, hk, rfl, hown, hcb⟩ := hrel
        have HK := Lib.hid hk
        have HCR := Lib.hid hcb
        have hk1 : k ≤ T.length := by omega
        have hwr : w.heap.size < wr.heap.size := hcb.lt
        have b0 := hcb.c0
        have b1 := hcb.c1
        clear hk hcb HST
        by_cases hlt : k < T.length
        · obtain ⟨b, o, rfl, hb, hcc⟩ := hc.ths.at_ (by omega)
          obtain ⟨p0, p1, p2, p3, p4, p5, p6⟩ := hcc k hlt
          have q0 := (HCR.out.bel.cell (p := ⟨b, o + k * 7, none⟩) hb).trans p0
          have q1 := (HCR.out.bel.cell (p := ⟨b, o + k * 7 + 1, none⟩) hb).trans p1
          have q2 := (HCR.out.bel.cell (p := ⟨b, o + k * 7 + 2, none⟩) hb).trans p2
          have q3 := (HCR.out.bel.cell (p := ⟨b, o + k * 7 + 3, none⟩) hb).trans p3
          have q4 := (HCR.out.bel.cell (p := ⟨b, o + k * 7 + 4, none⟩) hb).trans p4
          have q5 := (HCR.out.bel.cell (p := ⟨b, o + k * 7 + 5, none⟩) hb).trans p5
          have q6 := (HCR.out.bel.cell (p := ⟨b, o + k * 7 + 6, none⟩) hb).trans p6
          have hbr : b < wr.heap.size := by omega
          have HY := Lib.hid (recsOf_yes (id := id) hlt)
          have HN := Lib.hid (recsOf_no (id := id) hlt)
          have hle := recsOf_le T id k
          clear hcc p0 p1 p2 p3 p4 p5 p6
          generalize T[k] = x at *
          unfold recP2 at HY HN
          by_cases hx2 : x.kind = 2
          case neg =>
            have hx2b : (x.kind == 2) = false := by simpa using hx2
            have HE := Lib.hid (HN.out (by simp [hx2]))
            clear hx2
            go_wp2
            go_roundg (gk - 1)
            case measure => have := HK.out; omega
            case rel => exact ⟨k + 1, by have := HK.out; omega, by go_num, by rw [HE.out]; exact hown.alloc _, HCR.out.alloc _⟩
          have hx2b : (x.kind == 2) = true := by simpa using hx2
          have HX2 : Hid (decide (x.kind = 2) = true) := by show decide (x.kind = 2) = true; simpa using hx2
          clear hx2
          have HTS : Hid (ThSt w (wr.alloc (.cells #[.int .i64 x.id, .int .i64 x.kind, .string x.title, .string x.code, .int .i64 x.since, .int .i64 x.parent, .slice x.pA x.parts.length x.pc] 54)) (.slice (some ⟨b, o, none⟩) T.length c1) (.slice A2 M.length c2) wr.heap.size x) := ⟨HCR.out.alloc _, heap_alloc_new _ _⟩
          have HIDP : Hid (1 ≤ id) := by show 1 ≤ id; rw [← HTA.out.2]; exact HOK.out.2.1 t HTA.out.1
          go_wp2_with fail
          refine (madeOf_c (some ⟨b, o, none⟩) c1 T A2 c2 M x id _ (hc.below HTS.out.1.bel) hn HOK.out.2.1 HIDP.out).mono ?_
          rintro e w5 ⟨rfl, hb5⟩
          have HTS5 := Lib.hid (HTS.out.below hb5)
          have hown5 := (hown.alloc (.cells #[.int .i64 x.id, .int .i64 x.kind, .string x.title, .string x.code, .int .i64 x.since, .int .i64 x.parent, .slice x.pA x.parts.length x.pc] 54)).below hb5
          clear hb5 q0 q1 q2 q3 q4 q5 q6 b0 b1 hown
          obtain ⟨q0, q1, q2, q3, q4, q5, q6⟩ := HTS5.out.2.cells
          have hw5 : wr.heap.size < w5.heap.size := HTS5.out.2.lt
          cases hmd : madeB T x id with
          | false =>
            have HE := Lib.hid (HN.out (by rw [HX2.out, hmd]; rfl))
            clear hmd
            go_wp2
            go_roundg (gk - 1)
            case measure => have := HK.out; omega
            case rel => exact ⟨k + 1, by have := HK.out; omega, by go_num, by rw [HE.out]; exact hown5, HTS5.out.1⟩
          | true =>
            have HE := Lib.hid (HY.out (by rw [HX2.out, hmd]; rfl))
            clear hmd
            go_wp2_with (at_builtin; refine wpList_push _ _ _ elInt rfl rfl (w.heap.size + 1) _ (recsOf T id k) rfl (hown5.alloc _) w5.heap.size 1 x.id rfl (heap_alloc_new _ _) rfl (by simp [Value.oneCell']) (by unfold maxLen; omega) (by omega) (by simp; omega) ?_; intro v1 w6 hown6 hg6 hb6)
            have HO := Lib.hid hown6
            have HC6 := Lib.hid (CB.belowU (HTS5.out.1.alloc (.cells #[.int .i64 x.id] 3)) hb6)
            clear hown5 hown6 hg6 hb6
            go_wp2
            go_roundg (gk - 1)
            case measure => have := HK.out; omega
            case rel => exact ⟨k + 1, by have := HK.out; omega, by go_num, by rw [HE.out]; exact HO.out, HC6.out⟩
        · have HKE : Hid (recsOf T id k = recsOf T id T.length) := by
            show recsOf T id k = recsOf T id T.length
            rw [show k = T.length by omega]
          obtain ⟨A', c', rfl, hrd⟩ := hown.rd1
          go_wp2
          go_ret2
          rw [HKE.out] at hrd ⊢
          exact GivesIF.mk HS.out hrd HCR.out.bel
    have h1b : (t.kind == 1) = false := by simpa using h1
    have HWL : Hid (res = (onceF (ptsOf T t), 0)) := by
      show res = (onceF (ptsOf T t), 0)
      rw [HT.out]; unfold witL; rw [if_neg h2, if_neg h1]
    have HP50 := Lib.hid (thF_parts (HOK.out.2.2.1 t HTA.out.1))
    clear h1 h2
    by_cases h4 : t.kind = 4 ∧ t.parts.length = 0
    case neg =>
      have HS : Hid (res = (onceF t.parts, 0)) := by
        show res = (onceF t.parts, 0)
        rw [HWL.out]; unfold ptsOf; rw [if_neg h4]
      have hcas : ((t.kind == 4) = false) ∨ ((t.kind == 4) = true ∧ ((t.parts.length : Int) == 0) = false) := by
        by_cases e : t.kind = 4
        · right
          exact ⟨by simpa using e, by simp; intro e2; exact h4 ⟨e, by simp [e2]⟩⟩
        · left
          simpa using e
      clear h4
      rcases hcas with h4b | ⟨h4b, h0b⟩
      all_goals
        go_wp2_with fail
        refine (onceR_c t.pA t.pc t.parts _ (by have := HP50.out; omega) (HPT.out.below HST.out.1.bel)).mono ?_
        rintro e w5 ⟨A5, c5, rfl, hi5, hb5⟩
        have HC5 := Lib.hid (HST.out.below hb5)
        have HI5 := Lib.hid hi5
        clear hb5 hi5
        go_wp2
        go_ret2
        exact GivesIF.mk HS.out HI5.out HC5.out.1.bel
    have h4b : (t.kind == 4) = true := by simpa using h4.1
    have h0b : ((t.parts.length : Int) == 0) = true := by simpa using h4.2
    have HPP : Hid (ptsOf T t = ((thAt T t.parent).map (·.parts)).getD []) := by
      show ptsOf T t = _
      unfold ptsOf; rw [if_pos h4]
    clear h4
    go_wp2_with fail
    refine (thing_c A1 c1 T A2 c2 M t.parent _ (hc.below HST.out.1.bel) hn).mono ?_
    rintro e w5 ⟨rfl, hb5⟩
    have HS5 := Lib.hid (HST.out.below hb5)
    clear hb5
    have hbx := HS5.out.2
    have hw5 : w3.heap.size < w5.heap.size := hbx.lt
    obtain ⟨x0, x1, x2, x3, x4, x5, x6⟩ := hbx.cells
    have fz : ∀ i, w5.frozen? ⟨w3.heap.size, i, none⟩ = false := fun i => frozen_of_row w5 _ i _ _ hbx
    clear hbx
    obtain ⟨u, hu1, hu2, hu3⟩ : ∃ u : Th, thO (thAt T t.parent) = thV u ∧ ((thAt T t.parent).map (·.parts)).getD [] = u.parts ∧ (Ints w u.pA u.parts ∧ u.parts.length ≤ 50) := by
      cases hta : thAt T t.parent with
      | none => exact ⟨default, rfl, rfl, Rd1.nil, by decide⟩
      | some u => exact ⟨u, rfl, rfl, hc.parts u (thAt_some hta).1, thF_parts (HOK.out.2.2.1 u (thAt_some hta).1)⟩
    have HS : Hid (res = (onceF u.parts, 0)) := by
      show res = _
      rw [HWL.out, HPP.out, hu2]
    have HU3 := Lib.hid hu3
    rw [hu1]
    clear hu1 hu2 hu3
    generalize (thAt T t.parent).isSome = bs at *
    have HB7 := Lib.hid (set7_below (g := w3.heap.size) u HS5.out.1.bel (by omega))
    go_wp2_with fail
    refine (onceR_c u.pA u.pc u.parts _ (by have := HU3.out.2; omega) (HU3.out.1.below HB7.out)).mono ?_
    rintro e w6 ⟨A6, c6, rfl, hi6, hb6⟩
    have HB6 := Lib.hid (below_trans HB7.out hb6)
    have HI6 := Lib.hid hi6
    clear hb6 hi6
    go_wp2
    go_ret2
    exact GivesIF.mk HS.out HI6.out HB6.out
end Go.Proofs.YtfninfgohiipjaaGreatDoor
