/- Within of package shelf. -/
import Derived.Test.YtfninfgohiipjaaGreatDoorLcP
namespace Go.Proofs.YtfninfgohiipjaaGreatDoor
open Go.RowKit Dw

theorem parN_late {T : List Th} (hp : Pos T) (h : ∀ j, j < T.length → tF2 T j = 0) {t : Th} (ht : t ∈ T) {j : Nat} (hj : T.length ≤ j) : parN T j t.parent = 0 := by
  rw [show j = T.length + (j - T.length) by omega, parN_add, parN_end hp h ht, parN_zero hp]
theorem madeB_zero {T : List Th} (hp : Pos T) {t : Th} {id : Int} (hid : 1 ≤ id) {j : Nat} (h0 : parN T j t.parent = 0) (hpre : ∀ i, i < j → parN T i t.parent ≠ id) : madeB T t id = false :=
  madeB_no fun i _ => by
    rcases Nat.lt_or_ge i j with h1 | h1
    · exact hpre i h1
    · rw [show i = j + (i - j) by omega, parN_add, h0, parN_zero hp]
      omega
theorem fldP (x : Th) (W : World) : (Instr.field 54 (thV x) 6).run Tryz.prog W = .ok (.slice x.pA x.parts.length x.pc) W := by kernel_rfl
/-- A catalogue in a box and the index. -/
def WsSt (w wr : World) (r : Nat) (T : List Th) (v1 v2 : Value) : Prop := CB w wr w.heap.size v1 v2 ∧ IdxM wr r T
section
variable {w wr wr' : World} {r : Nat} {T : List Th} {v1 v2 : Value}
theorem WsSt.alloc (h : WsSt w wr r T v1 v2) (o : Obj) : WsSt w (wr.alloc o) r T v1 v2 := ⟨h.1.alloc o, h.2.alloc o⟩
theorem WsSt.below (h : WsSt w wr r T v1 v2) (hb : Below wr.heap.size wr wr') : WsSt w wr' r T v1 v2 := ⟨h.1.below hb, h.2.below hb⟩
theorem WsSt.belowU {B : Nat} (h : WsSt w wr r T v1 v2) (hb : Below B wr wr') (h1 : w.heap.size < B) (h2 : r < B) : WsSt w wr' r T v1 v2 :=
  ⟨⟨(hb.block _ h1).trans h.1.box, h.1.bel.trans (hb.mono (by omega))⟩, h.2.keep (hb.block _ h2)⟩
end

def WsRel (w : World) (r : Nat) (T : List Th) (id : Int) (B : Nat) (v1 v2 : Value) (m : Nat) (out i : Value) (wr : World) : Prop :=
  ∃ k : Nat, k + m = T.length ∧ i = .int .i64 k ∧ OwnL encI 1 wr B 3 out (recsOf T id k) ∧ WsSt w wr r T v1 v2 ∧ B ≤ wr.heap.size
def WiRel (wo : World) (vo : Value) (T : List Th) (x : Th) (id : Int) (m : Nat) (out at_ : Value) (wr : World) : Prop :=
  wo = wr ∧ vo = out ∧ ∃ j : Nat, j + m = T.length + 1 ∧ at_ = .int .i64 (parN T j x.parent) ∧ ∀ i, i < j → parN T i x.parent ≠ id
set_option maxRecDepth 100000 in
set_option maxHeartbeats 4000000 in
theorem WithinS_c (A1 : Option Addr) (c1 : Nat) (T : List Th) (A2 : Option Addr) (c2 : Nat) (M : List Mv) (id : Int) (w : World) (hc : CatOk w A1 T A2 M) (hG : GOK w) :
    Calls Tryz.prog 79 #[catV A1 c1 T A2 c2 M, .int .i64 id] w (GivesIF (witF T M id) w) := by
  generalize hres : witF T M id = res
  have HR := Lib.hid hres
  clear hres
  have HCB := Lib.hid (CB.new w (.slice A1 T.length c1) (.slice A2 M.length c2))
  go_enter Tryz.func79, Tryz.ntmps79
  go_wp2_with fail
  refine (Check_c A1 c1 T A2 c2 M _ (hc.below HCB.out.bel) (hG.below HCB.out.bel)).mono ?_
  rintro e w2 ⟨rfl, hb2⟩
  have HC2 := Lib.hid (HCB.out.below hb2)
  clear hb2
  have hw2 : w.heap.size < w2.heap.size := HC2.out.lt
  have d0 := HC2.out.c0
  have d1 := HC2.out.c1
  by_cases hf : chkC twoB T M = 0
  case neg =>
    have hfb : (chkC twoB T M != 0) = true := by simpa using hf
    have HS := Lib.hid (HR.out.symm.trans (witF_bad hf))
    clear hf
    generalize chkC twoB T M = ck at *
    go_wp2
    go_ret2
    exact GivesIF.nil HS.out HC2.out.bel
  have HCK := Lib.hid hf
  have HOK := Lib.hid (chkC_ok hf)
  have hn : T.length ≤ 300 := (chkC_len hf).1
  rw [hf]
  clear hf
  go_wp2_with fail
  refine (indexOf_c A1 c1 T A2 c2 M _ (hc.below HC2.out.bel) HOK.out.1 hn).mono ?_
  rintro e w3 ⟨r, rfl, hrw, hidx, hb3⟩
  have HW3 : Hid (WsSt w w3 r T (.slice A1 T.length c1) (.slice A2 M.length c2)) := ⟨HC2.out.below hb3, hidx⟩
  have hlk := look2 hidx id
  clear hb3 hidx d0 d1
  have hw3 : w.heap.size < w3.heap.size := HW3.out.1.lt
  have d0 := HW3.out.1.c0
  have d1 := HW3.out.1.c1
  cases hta : thAt T id with
  | none =>
    rw [hta] at hlk
    have hlk' : (Instr.lookup 117 (.map (some r)) (.int .i64 id) true).run Tryz.prog w3 = .ok (.tuple #[thZ, .bool false]) w3 := hlk
    have HS := Lib.hid (HR.out.symm.trans (witF_none HCK.out hta))
    clear hta hlk
    go_wp2
    go_ret2
    exact GivesIF.nil HS.out (HW3.out.1.alloc _).bel
  | some t =>
    rw [hta] at hlk
    have hlk' : (Instr.lookup 117 (.map (some r)) (.int .i64 id) true).run Tryz.prog w3 = .ok (.tuple #[thV t, .bool true]) w3 := hlk
    have HT := Lib.hid (HR.out.symm.trans (witF_some HCK.out hta))
    have HTA := Lib.hid (thAt_some hta)
    have HKD := Lib.hid (thF_kind (HOK.out.2.2.1 t HTA.out.1))
    have HPT := Lib.hid (hc.parts t HTA.out.1)
    have HP50 := Lib.hid (thF_parts (HOK.out.2.2.1 t HTA.out.1))
    clear hta hlk
    have HST : Hid (ThSt w (w3.alloc (.cells #[.int .i64 t.id, .int .i64 t.kind, .string t.title, .string t.code, .int .i64 t.since, .int .i64 t.parent, .slice t.pA t.parts.length t.pc] 54)) (.slice A1 T.length c1) (.slice A2 M.length c2) w3.heap.size t) := ⟨HW3.out.1.alloc _, heap_alloc_new _ _⟩
    by_cases h2 : t.kind = 2
    case pos =>
      have h2b : (t.kind == 2) = true := by simpa using h2
      have HS : Hid (res = ([id], 0)) := by
        show res = ([id], 0)
        rw [HT.out]; unfold witL; rw [if_pos h2]
      clear h2
      go_wp2
      go_ret2
      refine GivesIF.mk (l := [id]) HS.out ?_ (HST.out.1.bel.alloc (by simp; omega) _)
      have hne := heap_alloc_new (w3.alloc (.cells #[.int .i64 t.id, .int .i64 t.kind, .string t.title, .string t.code, .int .i64 t.since, .int .i64 t.parent, .slice t.pA t.parts.length t.pc] 54)) (.cells #[.int .i64 id] 3)
      have e1 : (w3.alloc (.cells #[.int .i64 t.id, .int .i64 t.kind, .string t.title, .string t.code, .int .i64 t.since, .int .i64 t.parent, .slice t.pA t.parts.length t.pc] 54)).heap.size = w3.heap.size + 1 := by simp
      rw [e1] at hne
      exact ints_one hne
    have h2b : (t.kind == 2) = false := by simpa using h2
    by_cases h1 : t.kind = 1
    case neg =>
      have HWL : Hid (res = (onceF (ptsOf T t), 0)) := by
        show res = (onceF (ptsOf T t), 0)
        rw [HT.out]; unfold witL; rw [if_neg h2, if_neg h1]
      have hk34 : t.kind = 3 ∨ t.kind = 4 := by have := HKD.out; omega
      clear h1 h2
      by_cases h4 : t.kind = 4 ∧ t.parts.length = 0
      case neg =>
        have HS : Hid (res = (onceF t.parts, 0)) := by
          show res = (onceF t.parts, 0)
          rw [HWL.out]; unfold ptsOf; rw [if_neg h4]
        have hcas : ((t.kind == 3) = true) ∨ ((t.kind == 3) = false ∧ (t.kind == 4) = true ∧ 0 < t.parts.length) := by
          rcases hk34 with e | e
          · left; simpa using e
          · right
            refine ⟨by simp [e], by simpa using e, ?_⟩
            have : t.parts.length ≠ 0 := fun e2 => h4 ⟨e, e2⟩
            omega
        clear h4 hk34
        rcases hcas with h3b | ⟨h3b, h4b, h0b⟩
        all_goals
          go_wp2_with fail
          refine (onceS_c t.pA t.pc t.parts _ (by have := HP50.out; omega) (HPT.out.below HST.out.1.bel)).mono ?_
          rintro e w5 ⟨A5, c5, rfl, hi5, hb5⟩
          have HC5 := Lib.hid (HST.out.below hb5)
          have HI5 := Lib.hid hi5
          clear hb5 hi5
          go_wp2
          go_ret2
          exact GivesIF.mk HS.out HI5.out HC5.out.1.bel
      have h3b : (t.kind == 3) = false := by simp [h4.1]
      have h4b : (t.kind == 4) = true := by simpa using h4.1
      have h0b : ¬ 0 < t.parts.length := by omega
      have HPP : Hid (ptsOf T t = ((thAt T t.parent).map (·.parts)).getD []) := by
        show ptsOf T t = _
        unfold ptsOf; rw [if_pos h4]
      have hlk2 := look1 (HW3.out.alloc (.cells #[.int .i64 t.id, .int .i64 t.kind, .string t.title, .string t.code, .int .i64 t.since, .int .i64 t.parent, .slice t.pA t.parts.length t.pc] 54)).2 t.parent
      obtain ⟨u, hu1, hu2, hu3⟩ : ∃ u : Th, ((thAt T t.parent).map thV).getD thZ = thV u ∧ ((thAt T t.parent).map (·.parts)).getD [] = u.parts ∧ (Ints w u.pA u.parts ∧ u.parts.length ≤ 50) := by
        cases hta : thAt T t.parent with
        | none => exact ⟨default, rfl, rfl, Rd1.nil, by decide⟩
        | some u => exact ⟨u, rfl, rfl, hc.parts u (thAt_some hta).1, thF_parts (HOK.out.2.2.1 u (thAt_some hta).1)⟩
      have HS : Hid (res = (onceF u.parts, 0)) := by
        show res = _
        rw [HWL.out, HPP.out, hu2]
      have HU3 := Lib.hid hu3
      rw [hu1] at hlk2
      have hfd := fldP u
      clear hu1 hu2 hu3 h4 hk34
      go_wp2_with fail
      refine (onceS_c u.pA u.pc u.parts _ (by have := HU3.out.2; omega) (HU3.out.1.below HST.out.1.bel)).mono ?_
      rintro e w6 ⟨A6, c6, rfl, hi6, hb6⟩
      have HB6 := Lib.hid (below_trans HST.out.1.bel hb6)
      have HI6 := Lib.hid hi6
      clear hb6 hi6
      go_wp2
      go_ret2
      exact GivesIF.mk HS.out HI6.out HB6.out
    have h1b : (t.kind == 1) = true := by simpa using h1
    have h3b : (t.kind == 3) = false := by simp [h1]
    have h4b : (t.kind == 4) = false := by simp [h1]
    have HS : Hid (res = (recsOf T id T.length, 0)) := by
      show res = (recsOf T id T.length, 0)
      rw [HT.out]; unfold witL; rw [if_neg h2, if_pos h1]
    have HIDP : Hid (1 ≤ id) := by show 1 ≤ id; rw [← HTA.out.2]; exact HOK.out.2.1 t HTA.out.1
    have HWS := Lib.hid (HW3.out.alloc (.cells #[.int .i64 t.id, .int .i64 t.kind, .string t.title, .string t.code, .int .i64 t.since, .int .i64 t.parent, .slice t.pA t.parts.length t.pc] 54))
    have hr3 : r < w3.heap.size := HW3.out.2.lt
    clear h1 h2
    go_wp2
    go_loopg [10, 58] T.length (WsRel w r T id w3.heap.size (.slice A1 T.length c1) (.slice A2 M.length c2))
    case atStart => exact ⟨0, by omega, rfl, OwnL.nil _ _ _ _ _, HWS.out, by simp⟩
    case round =>
      obtain ⟨k, hk, rfl, hown, hws, hB⟩ := hrel
      have HK := Lib.hid hk
      have HWR := Lib.hid hws
      have hk1 : k ≤ T.length := by omega
      have hwr : w.heap.size < wr.heap.size := hws.1.lt
      have b0 := hws.1.c0
      have b1 := hws.1.c1
      clear hk hws HST HWS
      by_cases hlt : k < T.length
      · obtain ⟨b, o, rfl, hb, hcc⟩ := hc.ths.at_ (by omega)
        obtain ⟨p0, p1, p2, p3, p4, p5, p6⟩ := hcc k hlt
        have q0 := (HWR.out.1.bel.cell (p := ⟨b, o + k * 7, none⟩) hb).trans p0
        have q1 := (HWR.out.1.bel.cell (p := ⟨b, o + k * 7 + 1, none⟩) hb).trans p1
        have q2 := (HWR.out.1.bel.cell (p := ⟨b, o + k * 7 + 2, none⟩) hb).trans p2
        have q3 := (HWR.out.1.bel.cell (p := ⟨b, o + k * 7 + 3, none⟩) hb).trans p3
        have q4 := (HWR.out.1.bel.cell (p := ⟨b, o + k * 7 + 4, none⟩) hb).trans p4
        have q5 := (HWR.out.1.bel.cell (p := ⟨b, o + k * 7 + 5, none⟩) hb).trans p5
        have q6 := (HWR.out.1.bel.cell (p := ⟨b, o + k * 7 + 6, none⟩) hb).trans p6
        have hbr : b < wr.heap.size := by omega
        have HY := Lib.hid (recsOf_yes (id := id) hlt)
        have HN := Lib.hid (recsOf_no (id := id) hlt)
        have hle := recsOf_le T id k
        have HME : Hid (T[k] ∈ T) := List.getElem_mem hlt
        clear hcc p0 p1 p2 p3 p4 p5 p6
        generalize T[k] = x at *
        unfold recP2 at HY HN
        by_cases hx2 : x.kind = 2
        case neg =>
          have hx2b : (x.kind != 2) = true := by simpa using hx2
          have HE := Lib.hid (HN.out (by simp [hx2]))
          clear hx2
          go_wp2
          go_roundg (gk - 1)
          case measure => have := HK.out; omega
          case rel => exact ⟨k + 1, by have := HK.out; omega, by go_num, by rw [HE.out]; exact hown.alloc _, HWR.out.alloc _, by simp; omega⟩
        have hx2b : (x.kind != 2) = false := by simpa using hx2
        have HX2 : Hid (decide (x.kind = 2) = true) := by show decide (x.kind = 2) = true; simpa using hx2
        clear hx2
        obtain ⟨g1, hg1⟩ : ∃ g1, g1 = gk := ⟨_, rfl⟩
        subst hg1
        obtain ⟨wo, hwo⟩ : ∃ wo : World, wo = wr := ⟨_, rfl⟩
        subst hwo
        obtain ⟨vo, hvo⟩ : ∃ vo : Value, vo = u10 := ⟨_, rfl⟩
        subst hvo
        have HTS : Hid (BoxT (wo.alloc (.cells #[.int .i64 x.id, .int .i64 x.kind, .string x.title, .string x.code, .int .i64 x.since, .int .i64 x.parent, .slice x.pA x.parts.length x.pc] 54)) wo.heap.size x) := heap_alloc_new _ _
        have HWA := Lib.hid (HWR.out.alloc (.cells #[.int .i64 x.id, .int .i64 x.kind, .string x.title, .string x.code, .int .i64 x.since, .int .i64 x.parent, .slice x.pA x.parts.length x.pc] 54))
        have HOA := Lib.hid (hown.alloc (.cells #[.int .i64 x.id, .int .i64 x.kind, .string x.title, .string x.code, .int .i64 x.since, .int .i64 x.parent, .slice x.pA x.parts.length x.pc] 54))
        have HLT : Hid (∀ j, T.length ≤ j → parN T j x.parent = 0) := fun j hj => parN_late HOK.out.2.1 HOK.out.2.2.2.1 HME.out hj
        have HBB : Hid (w3.heap.size ≤ wo.heap.size) := hB
        go_wp2
        clear q0 q1 q2 q3 q4 q5 q6 b0 b1 hown
        go_loopg [10, 13] (T.length + 1) (WiRel (wo.alloc (.cells #[.int .i64 x.id, .int .i64 x.kind, .string x.title, .string x.code, .int .i64 x.since, .int .i64 x.parent, .slice x.pA x.parts.length x.pc] 54)) vo T x id)
        case atStart => exact ⟨rfl, rfl, 0, by omega, rfl, fun i hi => absurd hi (by omega)⟩
        case round =>
          obtain ⟨hw, hv, j, hj, rfl, hpre⟩ := hrel
          subst hw
          subst hv
          have HJ := Lib.hid hj
          have HP := Lib.hid hpre
          obtain ⟨q0, q1, q2, q3, q4, q5, q6⟩ := HTS.out.cells
          clear hj hpre
          by_cases ha0 : parN T j x.parent = 0
          · have hab : (parN T j x.parent != 0) = false := by simpa using ha0
            have HE := Lib.hid (HN.out (by rw [HX2.out, madeB_zero HOK.out.2.1 HIDP.out ha0 HP.out]; rfl))
            clear ha0
            generalize parN T j x.parent = at0 at *
            go_wp2
            go_roundg (g1 - 1)
            case measure => have := HK.out; omega
            case rel => exact ⟨k + 1, by have := HK.out; omega, by go_num, by rw [HE.out]; exact HOA.out, HWA.out, by simp; omega⟩
          · have hab : (parN T j x.parent != 0) = true := by simpa using ha0
            have HJL : Hid (j < T.length) := by
              show j < T.length
              exact Nat.lt_of_not_le fun h => ha0 (HLT.out j h)
            by_cases hai : parN T j x.parent = id
            · have hib : (parN T j x.parent == id) = true := by simpa using hai
              have HE := Lib.hid (HY.out (by rw [HX2.out, madeB_yes HJL.out hai]; rfl))
              clear ha0 hai
              generalize parN T j x.parent = at0 at *
              have HO2 := HOA.out
              go_wp2_with (at_builtin; refine wpList_push _ _ _ elInt rfl rfl w3.heap.size _ (recsOf T id k) rfl (HO2.alloc _) (wo.heap.size + 1) 1 x.id rfl (by first | exact heap_alloc_new _ _ | (have := heap_alloc_new (wo.alloc (.cells #[.int .i64 x.id, .int .i64 x.kind, .string x.title, .string x.code, .int .i64 x.since, .int .i64 x.parent, .slice x.pA x.parts.length x.pc] 54)) (.cells #[.int .i64 x.id] 3); simpa using this)) rfl (by simp [Value.oneCell']) (by unfold maxLen; omega) (by omega) (by simp; omega) ?_; intro v1 w6 hown6 hg6 hb6)
              have HO := Lib.hid hown6
              have HWB := Lib.hid (WsSt.belowU (HWA.out.alloc (.cells #[.int .i64 x.id] 3)) hb6 (by omega) (by omega))
              have HZ6 : Hid (w3.heap.size ≤ w6.heap.size) := by
                show w3.heap.size ≤ w6.heap.size
                have := hb6.size
                simp at this
                omega
              clear HO2 hown6 hg6 hb6
              go_wp2
              go_roundg (g1 - 1)
              case measure => have := HK.out; omega
              case rel => exact ⟨k + 1, by have := HK.out; omega, by go_num, by rw [HE.out]; exact HO.out, HWB.out, HZ6.out⟩
            · have hib : (parN T j x.parent == id) = false := by simpa using hai
              have HPN : Hid (∀ i, i < j + 1 → parN T i x.parent ≠ id) := fun i hi => by
                rcases Nat.lt_or_ge i j with h1 | h1
                · exact HP.out i h1
                · obtain rfl : i = j := by omega
                  exact hai
              have HNX := Lib.hid (parN_succ T j x.parent)
              have hlk := look1 HWA.out.2 (parN T j x.parent)
              clear ha0 hai
              generalize parN T j x.parent = at0 at *
              cases hta : thAt T at0 with
              | none =>
                rw [hta] at hlk
                have hlk' : (Instr.lookup 117 (.map (some r)) (.int .i64 at0) false).run Tryz.prog (wo.alloc (.cells #[.int .i64 x.id, .int .i64 x.kind, .string x.title, .string x.code, .int .i64 x.since, .int .i64 x.parent, .slice x.pA x.parts.length x.pc] 54)) = .ok thZ (wo.alloc (.cells #[.int .i64 x.id, .int .i64 x.kind, .string x.title, .string x.code, .int .i64 x.since, .int .i64 x.parent, .slice x.pA x.parts.length x.pc] 54)) := hlk
                have HPO := Lib.hid (parOf_none hta)
                have hfd := fldZ (wo.alloc (.cells #[.int .i64 x.id, .int .i64 x.kind, .string x.title, .string x.code, .int .i64 x.since, .int .i64 x.parent, .slice x.pA x.parts.length x.pc] 54))
                clear hlk hta
                go_wp2
                go_roundg (gk - 1)
                case measure => have := HJ.out; have := HJL.out; omega
                case rel => exact ⟨rfl, rfl, j + 1, by have := HJ.out; have := HJL.out; omega, vint (by rw [HNX.out, HPO.out]), HPN.out⟩
              | some y =>
                rw [hta] at hlk
                have hlk' : (Instr.lookup 117 (.map (some r)) (.int .i64 at0) false).run Tryz.prog (wo.alloc (.cells #[.int .i64 x.id, .int .i64 x.kind, .string x.title, .string x.code, .int .i64 x.since, .int .i64 x.parent, .slice x.pA x.parts.length x.pc] 54)) = .ok (thV y) (wo.alloc (.cells #[.int .i64 x.id, .int .i64 x.kind, .string x.title, .string x.code, .int .i64 x.since, .int .i64 x.parent, .slice x.pA x.parts.length x.pc] 54)) := hlk
                have HPO := Lib.hid (parOf_some hta)
                have hfd := fldV y (wo.alloc (.cells #[.int .i64 x.id, .int .i64 x.kind, .string x.title, .string x.code, .int .i64 x.since, .int .i64 x.parent, .slice x.pA x.parts.length x.pc] 54))
                clear hlk hta
                go_wp2
                go_roundg (gk - 1)
                case measure => have := HJ.out; have := HJL.out; omega
                case rel => exact ⟨rfl, rfl, j + 1, by have := HJ.out; have := HJL.out; omega, vint (by rw [HNX.out, HPO.out]), HPN.out⟩
      · have HKE : Hid (recsOf T id k = recsOf T id T.length) := by
          show recsOf T id k = recsOf T id T.length
          rw [show k = T.length by omega]
        obtain ⟨A', c', rfl, hrd⟩ := hown.rd1
        go_wp2
        go_ret2
        rw [HKE.out] at hrd ⊢
        exact GivesIF.mk HS.out hrd HWR.out.1.bel
end Go.Proofs.YtfninfgohiipjaaGreatDoor
