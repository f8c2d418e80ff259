/- Package shelf: Check. -/
import Derived.Test.YtfninfgohiipjaaGreatDoorLbD
namespace Go.Proofs.YtfninfgohiipjaaGreatDoor
open Go.RowKit Dw

theorem chkC_large {two : ByteArray → Bool} {T : List Th} {M : List Mv} (h : 300 < T.length ∨ 300 < M.length) : chkC two T M = 2 := by unfold chkC; rw [if_pos h]
theorem chkC_1 {two : ByteArray → Bool} {T : List Th} {M : List Mv} (h : ¬ (300 < T.length ∨ 300 < M.length)) {k : Nat} (hk : k < T.length) (hp : ∀ j, j < k → tF1 two T j = 0) {x : Int} (hx : tF1 two T k = x) (h0 : x ≠ 0) : chkC two T M = x := by
  have hf := firstF_at hk hp (by rw [hx]; exact h0)
  unfold chkC; rw [if_neg h, if_pos (by rw [hf, hx]; exact h0), hf, hx]
theorem chkC_2 {two : ByteArray → Bool} {T : List Th} {M : List Mv} (h : ¬ (300 < T.length ∨ 300 < M.length)) (h1 : ∀ j, j < T.length → tF1 two T j = 0) {k : Nat} (hk : k < T.length) (hp : ∀ j, j < k → tF2 T j = 0) {x : Int} (hx : tF2 T k = x) (h0 : x ≠ 0) : chkC two T M = x := by
  have hf := firstF_at hk hp (by rw [hx]; exact h0)
  unfold chkC; rw [if_neg h, if_neg (by rw [firstF_zero h1]; simp), if_pos (by rw [hf, hx]; exact h0), hf, hx]
theorem chkC_3 {two : ByteArray → Bool} {T : List Th} {M : List Mv} (h : ¬ (300 < T.length ∨ 300 < M.length)) (h1 : ∀ j, j < T.length → tF1 two T j = 0) (h2 : ∀ j, j < T.length → tF2 T j = 0) : chkC two T M = mvF T M := by
  unfold chkC mvF; rw [if_neg h, if_neg (by rw [firstF_zero h1]; simp), if_neg (by rw [firstF_zero h2]; simp)]

set_option maxRecDepth 100000 in
set_option maxHeartbeats 4000000 in
theorem Check_c (A1 : Option Addr) (c1 : Nat) (T : List Th) (A2 : Option Addr) (c2 : Nat) (M : List Mv) (w : World) (hc : CatOk w A1 T A2 M) (hG : GOK w) :
    Calls Tryz.prog 35 #[catV A1 c1 T A2 c2 M] w (GivesB (.int .i64 (chkC twoB T M)) w) := by
  generalize hres : chkC twoB T M = res
  have HR := Lib.hid hres
  clear hres
  by_cases hl1 : 300 < T.length
  · have HS : Hid (res = 2) := by show res = 2; rw [← HR.out, chkC_large (.inl hl1)]
    go_enter Tryz.func35, Tryz.ntmps35
    go_wp2
    go_ret
    exact GivesB.mk (vint HS.out.symm) ((Below.refl _ _).alloc (Nat.le_refl _) _)
  by_cases hl2 : 300 < M.length
  · have HS : Hid (res = 2) := by show res = 2; rw [← HR.out, chkC_large (.inr hl2)]
    go_enter Tryz.func35, Tryz.ntmps35
    go_wp2
    go_ret
    exact GivesB.mk (vint HS.out.symm) ((Below.refl _ _).alloc (Nat.le_refl _) _)
  have HL : Hid (¬ (300 < T.length ∨ 300 < M.length)) := by show ¬ _; omega
  have hn1 : T.length ≤ 300 := by omega
  have hn2 : M.length ≤ 300 := by omega
  go_enter Tryz.func35, Tryz.ntmps35
  go_wp2
  go_loopg [25] T.length (CkR1 w T (.slice A1 T.length c1) (.slice A2 M.length c2))
  case atStart => exact ⟨0, by omega, rfl, fun j hj => absurd hj (by omega), heap_alloc_new _ _, (Below.refl _ _).alloc (Nat.le_refl _) _⟩
  case round =>
    obtain ⟨k, hk, rfl, hpre, hbox, hbel⟩ := hrel
    have HK := Lib.hid hk
    have HP := Lib.hid hpre
    have HBX := Lib.hid hbox
    have HB := Lib.hid hbel
    have hk1 : k ≤ T.length := by omega
    have hws : w.heap.size < wr.heap.size := (Array.getElem?_eq_some_iff.1 hbox).1
    have hc0 : wr.cell? ⟨w.heap.size, 0, none⟩ = some (.slice A1 T.length c1) := boxC hbox rfl
    have hc1 : wr.cell? ⟨w.heap.size, 1, none⟩ = some (.slice A2 M.length c2) := boxC hbox rfl
    clear hk hpre hbox hbel
    by_cases hlt : k < T.length
    · obtain ⟨b, o, rfl, hb, hcc⟩ := hc.ths.at_ (by omega)
      obtain ⟨p0, p1, p2, p3, p4, p5, p6⟩ := hcc k hlt
      have q0 := (HB.out.cell (p := ⟨b, o + k * 7, none⟩) hb).trans p0
      have q1 := (HB.out.cell (p := ⟨b, o + k * 7 + 1, none⟩) hb).trans p1
      have q2 := (HB.out.cell (p := ⟨b, o + k * 7 + 2, none⟩) hb).trans p2
      have q3 := (HB.out.cell (p := ⟨b, o + k * 7 + 3, none⟩) hb).trans p3
      have q4 := (HB.out.cell (p := ⟨b, o + k * 7 + 4, none⟩) hb).trans p4
      have q5 := (HB.out.cell (p := ⟨b, o + k * 7 + 5, none⟩) hb).trans p5
      have q6 := (HB.out.cell (p := ⟨b, o + k * 7 + 6, none⟩) hb).trans p6
      have hbr : b < wr.heap.size := by omega
      have hcp : 0 < k → wr.cell? ⟨b, o + (k - 1) * 7, none⟩ = some (.int .i64 (T.getD (k - 1) default).id) := fun h0 => by
        rw [getT (by omega)]; exact (HB.out.cell hb).trans (hcc (k - 1) (by omega)).1
      have HCP := Lib.hid hcp
      have HF1 : Hid (tF1 twoB T k = if (T[k]).id < 1 ∨ 1000000 < (T[k]).id then 1 else if 0 < k ∧ (T[k]).id ≤ (T.getD (k - 1) default).id then 8 else thF twoB T[k]) := by
        show tF1 twoB T k = _
        unfold tF1
        rw [getT hlt]
      have HERR : Hid (∀ x : Int, tF1 twoB T k = x → x ≠ 0 → res = x) := by
        show ∀ x : Int, tF1 twoB T k = x → x ≠ 0 → res = x
        intro x hx1 hx0
        rw [← HR.out, chkC_1 HL.out hlt HP.out hx1 hx0]
      have HB2 := Lib.hid (HB.out.alloc (Nat.le_of_lt hws) (.cells #[.int .i64 (T[k]).id, .int .i64 (T[k]).kind, .string (T[k]).title, .string (T[k]).code, .int .i64 (T[k]).since, .int .i64 (T[k]).parent, .slice (T[k]).pA (T[k]).parts.length (T[k]).pc] 54))
      have HBX2 : Hid ((wr.alloc (.cells #[.int .i64 (T[k]).id, .int .i64 (T[k]).kind, .string (T[k]).title, .string (T[k]).code, .int .i64 (T[k]).since, .int .i64 (T[k]).parent, .slice (T[k]).pA (T[k]).parts.length (T[k]).pc] 54)).heap[w.heap.size]? = some (.cells #[.slice (some ⟨b, o, none⟩) T.length c1, .slice A2 M.length c2] 25 (0, 0))) := (Below.heap_alloc wr _ _ hws).trans HBX.out
      clear hcc hcp p0 p1 p2 p3 p4 p5 p6
      by_cases h1 : (T[k]).id < 1
      · have HS := Lib.hid (HERR.out 1 (by rw [HF1.out, if_pos (.inl h1)]) (by decide))
        go_wp2
        go_ret
        exact GivesB.mk (vint HS.out.symm) HB2.out
      by_cases h2 : 1000000 < (T[k]).id
      · have HS := Lib.hid (HERR.out 1 (by rw [HF1.out, if_pos (.inr h2)]) (by decide))
        go_wp2
        go_ret
        exact GivesB.mk (vint HS.out.symm) HB2.out
      have HN1 : Hid (¬ ((T[k]).id < 1 ∨ 1000000 < (T[k]).id)) := by show ¬ _; omega
      by_cases h3 : 0 < k ∧ (T[k]).id ≤ (T.getD (k - 1) default).id
      · have HS := Lib.hid (HERR.out 8 (by rw [HF1.out, if_neg HN1.out, if_pos h3]) (by decide))
        obtain ⟨h30, h31⟩ := h3
        have hd : decide ((0 : Int) < (k : Int)) = true := by simp; omega
        have hcp := HCP.out h30
        have hle : decide ((T[k]).id ≤ (T.getD (k - 1) default).id) = true := by simpa using h31
        generalize (T.getD (k - 1) default).id = pf at hcp hle h31
        go_wp2
        go_quiet (fail)
        go_wp2
        go_ret
        exact GivesB.mk (vint HS.out.symm) (below_drewN HB2.out _)
      have HN3 := Lib.hid h3
      have hord : (∃ _ : decide ((0 : Int) < (k : Int)) = false, ¬ 0 < k) ∨ (0 < k ∧ decide ((0 : Int) < (k : Int)) = true ∧ ¬ (T[k]).id ≤ (T.getD (k - 1) default).id) := by
        by_cases h0 : 0 < k
        · right
          exact ⟨h0, by simp; omega, fun h => h3 ⟨h0, h⟩⟩
        · left
          exact ⟨by simp; omega, h0⟩
      clear h3
      rcases hord with ⟨hd, h0⟩ | ⟨h0, hd, hle⟩
      case' inr =>
        have hcp := HCP.out h0
        have hleb : decide ((T[k]).id ≤ (T.getD (k - 1) default).id) = false := by simpa using hle
        generalize (T.getD (k - 1) default).id = pf at hcp hleb hle
      all_goals
        go_wp2
        go_quiet (fail)
        have HB3 := Lib.hid (below_drewN HB2.out nq)
        have HBX3 : Hid (((wr.alloc (.cells #[.int .i64 (T[k]).id, .int .i64 (T[k]).kind, .string (T[k]).title, .string (T[k]).code, .int .i64 (T[k]).since, .int .i64 (T[k]).parent, .slice (T[k]).pA (T[k]).parts.length (T[k]).pc] 54)).drewN nq).heap[w.heap.size]? = some (.cells #[.slice (some ⟨b, o, none⟩) T.length c1, .slice A2 M.length c2] 25 (0, 0))) := HBX2.out
        clear q0 q1 q2 q3 q4 q5 q6 hc0 hc1 hd h0
        go_wp2_with fail
        refine (checkThing_c T[k] _ (hc.sized _ (List.getElem_mem hlt)).1 (hc.sized _ (List.getElem_mem hlt)).2.1 (hG.below HB3.out)).mono ?_
        rintro e w3 ⟨rfl, hb3⟩
        have HB4 := Lib.hid (HB3.out.trans (hb3.mono HB3.out.size))
        have HBX4 := Lib.hid ((hb3.block _ (Array.getElem?_eq_some_iff.1 HBX3.out).1).trans HBX3.out)
        have HTF : Hid (tF1 twoB T k = thF twoB T[k]) := by show tF1 twoB T k = _; rw [HF1.out, if_neg HN1.out, if_neg HN3.out]
        clear hb3 HB3 HBX3 HB2 HBX2
        by_cases hf : thF twoB T[k] = 0
        · have HOK : Hid (tF1 twoB T k = 0) := by show tF1 twoB T k = 0; rw [HTF.out, hf]
          rw [hf]
          clear hf
          go_wp2
          go_roundg (gk - 1)
          case measure => have := HK.out; omega
          case rel =>
            refine ⟨k + 1, by have := HK.out; omega, by go_num, fun j hj => ?_, HBX4.out, HB4.out⟩
            rcases Nat.lt_or_ge j k with h1 | h1
            · exact HP.out j h1
            · obtain rfl : j = k := by omega
              exact HOK.out
        · have hfb : (thF twoB T[k] != 0) = true := by simpa using hf
          have HS := Lib.hid (HERR.out _ HTF.out hf)
          clear hf
          generalize thF twoB T[k] = tf at *
          go_wp2
          go_ret
          exact GivesB.mk (vint HS.out.symm) HB4.out
    · have hF1 : ∀ j, j < T.length → tF1 twoB T j = 0 := fun j hj => HP.out j (by omega)
      obtain ⟨hinc, hpos, _⟩ := tF1_inc hF1
      have HF1 := Lib.hid hF1
      have HIN := Lib.hid hinc
      have HPOS := Lib.hid hpos
      have hcw := hc.below HB.out
      have hmm := @run_makeMap Tryz.prog
      clear hF1 hinc hpos HP HK hk1
      go_wp2_with fail
      refine (indexOf_c A1 c1 T A2 c2 M _ hcw HIN.out hn1).mono ?_
      rintro e w2 ⟨r, rfl, hrw, hidx, hb2⟩
      have hst2 : StC w w2 r T (.slice A1 T.length c1) (.slice A2 M.length c2) := ⟨(hb2.block _ hws).trans HBX.out, hidx, HB.out.trans (hb2.mono (Nat.le_of_lt hws))⟩
      have hcc0 : w2.cell? ⟨w.heap.size, 0, none⟩ = some (.slice A1 T.length c1) := hst2.c0
      have hw2 : w.heap.size < w2.heap.size := by have := hb2.size; omega
      have hrl : r < w2.heap.size := hidx.lt
      have HST := Lib.hid (hst2.alloc (.map #[] 0))
      clear hcw hidx hb2 hst2 HBX HB hc0 hc1 hlt
      go_wp2
      clear hmm hcc0
      go_loopg [64] T.length (CkR2 w T (.slice A1 T.length c1) (.slice A2 M.length c2) r w2.heap.size)
      case atStart => exact ⟨0, by omega, rfl, fun j hj => absurd hj (by omega), MapIs.new mkK w2, HST.out⟩
      clear HST
      case round =>
        obtain ⟨k, hk, rfl, hpre, hmp, hst⟩ := hrel
        have HK := Lib.hid hk
        have HP := Lib.hid hpre
        have HMP := Lib.hid hmp
        have HST := Lib.hid hst
        have hk1 : k ≤ T.length := by omega
        have hwr : w2.heap.size < wr.heap.size := hmp.lt
        have hws2 : w.heap.size < wr.heap.size := by omega
        have hr3r : w2.heap.size ≠ r := by omega
        have hr3w : w.heap.size < w2.heap.size := hw2
        have hcb : CatOk wr A1 T A2 M := hc.below hst.bel
        have HCB := Lib.hid hcb
        have hc0 := hst.c0
        have hc1 := hst.c1
        generalize hr3 : w2.heap.size = r3 at *
        clear hr3 hk hpre hmp hst hcb
        by_cases hlt : k < T.length
        · obtain ⟨b, o, rfl, hb, hcc⟩ := HCB.out.ths.at_ (by omega)
          obtain ⟨q0, q1, q2, q3, q4, q5, q6⟩ := hcc k hlt
          have HF2 : Hid (tF2 T k = if lnkF T T[k] ≠ 0 then lnkF T T[k] else if twT T k = true then 7 else 0) := by
            show tF2 T k = _
            unfold tF2
            rw [getT hlt]
          have HERR : Hid (∀ x : Int, tF2 T k = x → x ≠ 0 → res = x) := by
            show ∀ x : Int, tF2 T k = x → x ≠ 0 → res = x
            intro x hx1 hx0
            rw [← HR.out, chkC_2 HL.out HF1.out hlt HP.out hx1 hx0]
          have HST2 := Lib.hid (HST.out.alloc (.cells #[.int .i64 (T[k]).id, .int .i64 (T[k]).kind, .string (T[k]).title, .string (T[k]).code, .int .i64 (T[k]).since, .int .i64 (T[k]).parent, .slice (T[k]).pA (T[k]).parts.length (T[k]).pc] 54))
          have HMP2 := Lib.hid (HMP.out.alloc (.cells #[.int .i64 (T[k]).id, .int .i64 (T[k]).kind, .string (T[k]).title, .string (T[k]).code, .int .i64 (T[k]).since, .int .i64 (T[k]).parent, .slice (T[k]).pA (T[k]).parts.length (T[k]).pc] 54))
          have HBT : Hid (BoxT (wr.alloc (.cells #[.int .i64 (T[k]).id, .int .i64 (T[k]).kind, .string (T[k]).title, .string (T[k]).code, .int .i64 (T[k]).since, .int .i64 (T[k]).parent, .slice (T[k]).pA (T[k]).parts.length (T[k]).pc] 54)) wr.heap.size T[k]) := heap_alloc_new _ _
          have hprt : Ints (wr.alloc (.cells #[.int .i64 (T[k]).id, .int .i64 (T[k]).kind, .string (T[k]).title, .string (T[k]).code, .int .i64 (T[k]).since, .int .i64 (T[k]).parent, .slice (T[k]).pA (T[k]).parts.length (T[k]).pc] 54)) (T[k]).pA (T[k]).parts := (HCB.out.parts _ (List.getElem_mem hlt)).alloc _
          clear hcc HST HMP
          go_wp2_with fail
          refine (checkLinks_c r T T[k] _ HST2.out.idx hprt hn1 (HCB.out.sized _ (List.getElem_mem hlt)).2.2).mono ?_
          rintro e w4 ⟨rfl, hb4⟩
          have HST4 := Lib.hid (HST2.out.below hb4)
          have HMP4 := Lib.hid (HMP2.out.below hb4)
          have HBT4 := Lib.hid (HBT.out.below hb4)
          clear hb4 hprt HST2 HMP2 HBT q0 q1 q2 q3 q4 q5 q6 hc0 hc1
          obtain ⟨q0, q1, q2, q3, q4, q5, q6⟩ := HBT4.out.cells
          by_cases hf : lnkF T T[k] = 0
          case neg =>
            have hfb : (lnkF T T[k] != 0) = true := by simpa using hf
            have HS := Lib.hid (HERR.out (lnkF T T[k]) (by rw [HF2.out, if_pos hf]) hf)
            clear hf
            generalize lnkF T T[k] = lf at *
            go_wp2
            go_ret
            exact GivesB.mk (vint HS.out.symm) HST4.out.bel
          have HT2 : Hid (tF2 T k = if twT T k = true then 7 else 0) := by
            show tF2 T k = _
            rw [HF2.out, if_neg (by rw [hf]; simp)]
          rw [hf]
          clear hf
          have hlkK : (Instr.lookup 119 (.map (some r3)) (.agg #[.int .i64 (T[k]).kind, .string (T[k]).code]) false).run Tryz.prog (w4.alloc (.cells #[.int .i64 (T[k]).kind, .string (T[k]).code] 121)) = .ok (.bool (hasK T k ((T[k]).kind, (T[k]).code))) (w4.alloc (.cells #[.int .i64 (T[k]).kind, .string (T[k]).code] 121)) := by
            have := run_lookup_mapF tCodes kCode zBool (HMP4.out.alloc (.cells #[.int .i64 (T[k]).kind, .string (T[k]).code] 121)) ((T[k]).kind, (T[k]).code) false
            simp only [Bool.false_eq_true, if_false, seenK_get] at this
            exact this
          obtain ⟨w5, hrun5, hm5, hg5, hs5⟩ := run_update_mapF (P := Tryz.prog) tCodes kCode (HMP4.out.alloc (.cells #[.int .i64 (T[k]).kind, .string (T[k]).code] 121)) ((T[k]).kind, (T[k]).code) (.bool true)
          rw [seenK_snoc hlt] at hm5
          have hrunU : (Instr.mapUpdate 119 (.map (some r3)) (.agg #[.int .i64 (T[k]).kind, .string (T[k]).code]) (.bool true)).run Tryz.prog (w4.alloc (.cells #[.int .i64 (T[k]).kind, .string (T[k]).code] 121)) = .ok () w5 := hrun5
          have HM5 := Lib.hid hm5
          have HST5 := Lib.hid ((HST4.out.alloc (.cells #[.int .i64 (T[k]).kind, .string (T[k]).code] 121)).upd hg5 hr3r hr3w)
          have hgl : wr.heap.size < w4.heap.size := HBT4.out.lt
          clear hrun5 hm5 hg5 hs5
          by_cases hcd : (T[k]).code = emp
          · have he := isEmpty_of_eq hcd
            have HOK : Hid (tF2 T k = 0) := by
              show tF2 T k = 0
              rw [HT2.out, twT_no hlt hcd]; rfl
            clear hcd
            generalize hasK T k ((T[k]).kind, (T[k]).code) = hk at *
            go_wp2
            go_roundg (gk - 1)
            case measure => have := HK.out; omega
            case rel =>
              refine ⟨k + 1, by have := HK.out; omega, by go_num, fun j hj => ?_, HM5.out, HST5.out⟩
              rcases Nat.lt_or_ge j k with h1 | h1
              · exact HP.out j h1
              · obtain rfl : j = k := by omega
                exact HOK.out
          · have he := isEmpty_of_ne hcd
            have htw := twT_yes hlt hcd
            cases hh : hasK T k ((T[k]).kind, (T[k]).code) with
            | true =>
              rw [hh] at hlkK htw
              have HS := Lib.hid (HERR.out 7 (by rw [HT2.out, if_pos htw]) (by decide))
              clear hcd htw hh
              go_wp2
              go_ret
              exact GivesB.mk (vint HS.out.symm) (HST4.out.alloc _).bel
            | false =>
              rw [hh] at hlkK htw
              have HOK : Hid (tF2 T k = 0) := by
                show tF2 T k = 0
                rw [HT2.out, htw]; rfl
              clear hcd htw hh
              go_wp2
              go_roundg (gk - 1)
              case measure => have := HK.out; omega
              case rel =>
                refine ⟨k + 1, by have := HK.out; omega, by go_num, fun j hj => ?_, HM5.out, HST5.out⟩
                rcases Nat.lt_or_ge j k with h1 | h1
                · exact HP.out j h1
                · obtain rfl : j = k := by omega
                  exact HOK.out
        · have HS : Hid (res = mvF T M) := by
            show res = mvF T M
            rw [← HR.out, chkC_3 HL.out HF1.out fun j hj => HP.out j (by omega)]
          go_wp2_with fail
          refine (checkMoved_c A1 c1 T A2 c2 M r _ HCB.out HST.out.idx HPOS.out hn2).mono ?_
          rintro e w4 ⟨rfl, hb4⟩
          have HBB := Lib.hid (HST.out.bel.trans (hb4.mono HST.out.bel.size))
          clear hb4
          go_wp2
          go_ret
          exact GivesB.mk (vint HS.out.symm) HBB.out
end Go.Proofs.YtfninfgohiipjaaGreatDoor
