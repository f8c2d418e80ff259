/- Reference of chapter 10: CheckEmbargoes, Free. -/
import Derived.Test.YtfninfgohiipjaaGreatDoorLdE
import Derived.Deep.RegionHeld3
namespace Go.Proofs.YtfninfgohiipjaaGreatDoor
open Go.RowKit Dw

def CeR2 (w : World) (v1 v2 : Value) (T : List Th) (M : List Mv) (l : List Em) (m : Nat) (i : Value) (wr : World) : Prop :=
  ∃ k : Nat, k + m = l.length ∧ i = .int .i64 k ∧ (∀ j, j < k → emF T M l j = 0) ∧ CB w wr w.heap.size v1 v2
def BtR2 (w0 : World) (x : Em) (m : Nat) (i : Value) (wr : World) : Prop :=
  wr = w0 ∧ ∃ k : Nat, k + m = x.but.length ∧ i = .int .i64 k ∧ (∀ j, j < k → btF x.but j = 0)
/-- The five ways of the order test. -/
theorem emOrd_ways (k : Nat) (a b : Em) : (∃ _ : decide ((0 : Int) < (k : Int)) = false, ¬ (0 < k ∧ emOrd a b = false)) ∨
    ((0 < k ∧ decide ((0 : Int) < (k : Int)) = true) ∧ ((decide (b.id < a.id) = true ∧ emOrd a b = false) ∨
      (decide (b.id < a.id) = false ∧ (b.id == a.id) = false ∧ emOrd a b = true) ∨
      (decide (b.id < a.id) = false ∧ (b.id == a.id) = true ∧ decide (b.til ≤ a.til) = true ∧ emOrd a b = false) ∨
      (decide (b.id < a.id) = false ∧ (b.id == a.id) = true ∧ decide (b.til ≤ a.til) = false ∧ emOrd a b = true))) := by
  by_cases h0 : 0 < k
  · right
    refine ⟨⟨h0, by simp; omega⟩, ?_⟩
    unfold emOrd
    rcases Int.lt_trichotomy a.id b.id with h | h | h
    · right; left
      have h1 : ¬ b.id < a.id := by omega
      have h2 : ¬ b.id = a.id := by omega
      simp [h, h1, h2]
    · by_cases ht : b.til ≤ a.til
      · right; right; left
        have h3 : ¬ a.til < b.til := by omega
        simp [h, ht, h3]
      · right; right; right
        have h3 : a.til < b.til := by omega
        simp [h, h3]
    · left
      have h1 : ¬ a.id < b.id := by omega
      have h2 : ¬ a.id = b.id := by omega
      simp [h, h1, h2]
  · left
    exact ⟨by simp; omega, fun h => h0 h.1⟩

set_option maxRecDepth 100000 in
set_option maxHeartbeats 2000000 in
theorem CheckEmR_c (A1 : Option Addr) (c1 : Nat) (T : List Th) (A2 : Option Addr) (c2 : Nat) (M : List Mv) (A : Option Addr) (c : Nat) (l : List Em) (w : World) (hc : CatOk w A1 T A2 M) (hG : GOK w) (he : EmsOk w A l) (hcap : T.length ≤ c1) :
    Calls Tryz.prog 15 #[catV A1 c1 T A2 c2 M, .slice A l.length c] w (GivesB (.int .i64 (chkE T M l)) w) := by
  generalize hres : chkE T M l = res
  have HR := Lib.hid hres
  clear hres
  have HEM := Lib.hid he
  have hls := he.sized.1
  clear he
  have HCB := Lib.hid (CB.new w (.slice A1 T.length c1) (.slice A2 M.length c2))
  go_enter Tryz.func15, Tryz.ntmps15
  go_wp2_with fail
  refine (CheckR_c A1 c1 T A2 c2 M _ (hc.below HCB.out.bel) (hG.below HCB.out.bel) hcap).mono ?_
  rintro e w1 ⟨rfl, hb1⟩
  have HC1 := Lib.hid (HCB.out.below hb1)
  clear hb1 HCB
  by_cases hck : chkC twoB T M = 0
  case neg =>
    have hckb : (chkC twoB T M != 0) = true := by simpa using hck
    have HX := Lib.hid (HR.out.symm.trans (chkE_bad (l := l) hck))
    clear hck
    generalize chkC twoB T M = z at *
    go_wp2
    go_ret
    exact GivesB.mk (vint HX.out.symm) HC1.out.bel
  have HCK := Lib.hid hck
  rw [hck]
  clear hck
  by_cases hlg : 100 < l.length
  · have HX := Lib.hid (HR.out.symm.trans (chkE_large HCK.out hlg))
    go_wp2
    go_ret
    exact GivesB.mk (vint HX.out.symm) HC1.out.bel
  have HFST := Lib.hid (HR.out.symm.trans (chkE_first HCK.out hlg))
  have hn : l.length ≤ 100 := by omega
  clear hls hlg HR
  go_wp2
  go_loopg [22] l.length (CeR2 w (.slice A1 T.length c1) (.slice A2 M.length c2) T M l)
  case atStart => exact ⟨0, by omega, rfl, fun j hj => absurd hj (by omega), HC1.out⟩
  clear HC1
  case round =>
    obtain ⟨k, hk, rfl, hpre, hcb⟩ := hrel
    have HK := Lib.hid hk
    have HP := Lib.hid hpre
    have HCB := Lib.hid hcb
    have hk1 : k ≤ l.length := by omega
    have hwl := hcb.lt
    have d0 := hcb.c0
    have d1 := hcb.c1
    clear hk hpre hcb
    by_cases hlt : k < l.length
    · have heb := HEM.out.below HCB.out.bel
      obtain ⟨b, o, rfl, hb, hcc⟩ := heb.ems.at_ (by omega)
      obtain ⟨q0, q1, q2⟩ := hcc k hlt
      have HER : Hid (∀ z : Int, emF T M l k = z → z ≠ 0 → res = z) := by
        show ∀ z : Int, emF T M l k = z → z ≠ 0 → res = z
        intro z h1 h2
        rw [HFST.out, firstF_at hlt HP.out (by rw [h1]; exact h2), h1]
      have HSZ := Lib.hid (heb.sized.2 _ (List.getElem_mem hlt))
      have HEF : Hid (emF T M l k = if insO T M (l[k]).id = none then 9
          else if (l[k]).til < 0 ∨ 200001 < (l[k]).til then 1
          else if 0 < k ∧ emOrd (l.getD (k - 1) default) l[k] = false then 8
          else if 20 < (l[k]).but.length then 2
          else firstF (btF (l[k]).but) (l[k]).but.length) := by
        show emF T M l k = _
        unfold emF
        rw [getE hlt]
      have HCP : Hid (0 < k → wr.cell? ⟨b, o + (k - 1) * 3, none⟩ = some (.int .i64 (l.getD (k - 1) default).id) ∧ wr.cell? ⟨b, o + (k - 1) * 3 + 1, none⟩ = some (.int .i64 (l.getD (k - 1) default).til)) := by
        show 0 < k → _
        intro h0
        rw [getE (l := l) (i := k - 1) (by omega)]
        exact ⟨(hcc (k - 1) (by omega)).1, (hcc (k - 1) (by omega)).2.1⟩
      clear hcc heb
      have HCA := Lib.hid (HCB.out.alloc (.cells #[.int .i64 (l[k]).id, .int .i64 (l[k]).til, .slice (l[k]).bA (l[k]).but.length (l[k]).bc] 96))
      have HBX : Hid (BoxE (wr.alloc (.cells #[.int .i64 (l[k]).id, .int .i64 (l[k]).til, .slice (l[k]).bA (l[k]).but.length (l[k]).bc] 96)) wr.heap.size l[k]) := heap_alloc_new _ _
      go_wp2_with fail
      refine (foundR_c A1 c1 T A2 c2 M (l[k]).id _ (hc.below HCA.out.bel) (hG.below HCA.out.bel) hcap HCK.out).mono ?_
      rintro e w2 ⟨rfl, hb2⟩
      have HC2 := Lib.hid (HCA.out.below hb2)
      have hBX2 := HBX.out.below hb2
      have HB2 := Lib.hid hBX2
      have hcells : ∀ i v, wr.cell? ⟨b, i, none⟩ = some v → w2.cell? ⟨b, i, none⟩ = some v := fun i v hv => by
        rw [hb2.cell (p := ⟨b, i, none⟩) (by simp; omega), World.cell?_alloc_lt _ _ _ hb]; exact hv
      have HCL := Lib.hid hcells
      have hbz : b < w2.heap.size := Nat.lt_of_lt_of_le hb (Nat.le_trans (by simp) hb2.size)
      have hp2 := hBX2.lt
      obtain ⟨x0, x1, x2⟩ := hBX2.cells
      clear hb2 hBX2 hcells HCA HBX q0 q1 q2 hwl d0 d1
      generalize hpp : wr.heap.size = p at *
      clear hpp
      by_cases hin : findN T M (M.length + 1) (l[k]).id = none
      · have HI := Lib.hid (HER.out 9 (by rw [HEF.out, if_pos (insO_none hin)]) (by decide))
        rw [fdP_none hin]
        clear hin
        go_wp2
        go_ret
        exact GivesB.mk (vint HI.out.symm) HC2.out.bel
      obtain ⟨n, hn2⟩ := Option.ne_none_iff_exists'.1 hin
      rw [fdP_some hn2]
      have HE2 := Lib.hid (HEF.out.trans (if_neg (fun h => hin (insO_find.1 h))))
      clear hin hn2 HEF
      dsimp only
      by_cases ht1 : (l[k]).til < 0
      · have HI := Lib.hid (HER.out 1 (by rw [HE2.out, if_pos (.inl ht1)]) (by decide))
        go_wp2
        go_ret
        exact GivesB.mk (vint HI.out.symm) HC2.out.bel
      by_cases ht2 : 200001 < (l[k]).til
      · have HI := Lib.hid (HER.out 1 (by rw [HE2.out, if_pos (.inr ht2)]) (by decide))
        go_wp2
        go_ret
        exact GivesB.mk (vint HI.out.symm) HC2.out.bel
      have HE3 := Lib.hid (HE2.out.trans (if_neg (by omega)))
      clear HE2
      have hways := emOrd_ways k (l.getD (k - 1) default) l[k]
      rcases hways with ⟨hd, h0⟩ | ⟨⟨h0, hd⟩, hw⟩
      case' inl =>
        have HE4 := Lib.hid (HE3.out.trans (if_neg h0))
        have hk0 : ¬ 0 < k := by simpa using hd
        clear HE3
        go_wp2_with fail
        refine wp_region_quiet_lit (by kernel_rfl) (by kernel_rfl) ?_
        (repeat (first | go_big_quiet_step (fail) | (refine Go.BigFrame.wpQuiet_skip (by rfl) ?_; simp only [Act.put, List.setIfInBounds_toArray, List.set_cons_succ, List.set_cons_zero])))
        refine wpQuiet_nil ?_
        intro _ hw'
        obtain ⟨nq, hw''⟩ := hw'
        subst hw''
        have HC3 := Lib.hid (HC2.out.drewN nq)
        have HB3 := Lib.hid (HB2.out.drewN nq)
        generalize w2.drewN nq = w3 at *
        clear hd h0 hk0
      case' inr =>
        have HCP2 := Lib.hid (HCP.out h0)
        have y0 := HCL.out _ _ HCP2.out.1
        have y1 := HCL.out _ _ HCP2.out.2
        clear HCP HCP2
        have s0 : IntKind.i64.wrap ((k : Int) - 1) = (k : Int) - 1 := IntWalk.i64_in _ (by omega)
        have s1 : (1 : Int) ≤ (k : Int) := by omega
        have s2 : (k : Int) - 1 < (l.length : Int) := by omega
        have s3 : ((k : Int) - 1).toNat = k - 1 := by omega
        generalize hpv : l.getD (k - 1) default = pv at *
        generalize hzi : pv.id = zi at y0 hw
        generalize hzt : pv.til = zt at y1 hw
        rcases hw with ⟨e1, hor⟩ | ⟨e1, e2, hor⟩ | ⟨e1, e2, e3, hor⟩ | ⟨e1, e2, e3, hor⟩
        case inr.inl =>
          have HI := Lib.hid (HER.out 8 (by rw [HE3.out, if_pos ⟨h0, hor⟩]) (by decide))
          clear hor hzi hzt
          go_wp2_with fail
          refine wp_region_quiet_lit (by kernel_rfl) (by kernel_rfl) ?_
          (repeat (first | go_big_quiet_step (fail) | (refine Go.BigFrame.wpQuiet_skip (by rfl) ?_; simp only [Act.put, List.setIfInBounds_toArray, List.set_cons_succ, List.set_cons_zero])))
          refine wpQuiet_nil ?_
          intro _ hw'
          obtain ⟨nq, hw''⟩ := hw'
          subst hw''
          go_wp2
          go_ret
          exact GivesB.mk (vint HI.out.symm) (HC2.out.drewN nq).bel
        case inr.inr.inr.inl =>
          have HI := Lib.hid (HER.out 8 (by rw [HE3.out, if_pos ⟨h0, hor⟩]) (by decide))
          clear hor hzi hzt
          go_wp2_with fail
          refine wp_region_quiet_lit (by kernel_rfl) (by kernel_rfl) ?_
          (repeat (first | go_big_quiet_step (fail) | (refine Go.BigFrame.wpQuiet_skip (by rfl) ?_; simp only [Act.put, List.setIfInBounds_toArray, List.set_cons_succ, List.set_cons_zero])))
          refine wpQuiet_nil ?_
          intro _ hw'
          obtain ⟨nq, hw''⟩ := hw'
          subst hw''
          go_wp2
          go_ret
          exact GivesB.mk (vint HI.out.symm) (HC2.out.drewN nq).bel
        case' inr.inr.inl =>
          have HE4 := Lib.hid (HE3.out.trans (if_neg (fun h => by rw [hor] at h; cases h.2)))
          clear hor hzi hzt HE3
          go_wp2_with fail
          refine wp_region_quiet_lit (by kernel_rfl) (by kernel_rfl) ?_
          (repeat (first | go_big_quiet_step (fail) | (refine Go.BigFrame.wpQuiet_skip (by rfl) ?_; simp only [Act.put, List.setIfInBounds_toArray, List.set_cons_succ, List.set_cons_zero])))
          refine wpQuiet_nil ?_
          intro _ hw'
          obtain ⟨nq, hw''⟩ := hw'
          subst hw''
          have HC3 := Lib.hid (HC2.out.drewN nq)
          have HB3 := Lib.hid (HB2.out.drewN nq)
          generalize w2.drewN nq = w3 at *
          clear hd h0 s0 s1 s2 s3 y0 y1 e1 e2 hpv
        case' inr.inr.inr.inr =>
          have HE4 := Lib.hid (HE3.out.trans (if_neg (fun h => by rw [hor] at h; cases h.2)))
          clear hor hzi hzt HE3
          go_wp2_with fail
          refine wp_region_quiet_lit (by kernel_rfl) (by kernel_rfl) ?_
          (repeat (first | go_big_quiet_step (fail) | (refine Go.BigFrame.wpQuiet_skip (by rfl) ?_; simp only [Act.put, List.setIfInBounds_toArray, List.set_cons_succ, List.set_cons_zero])))
          refine wpQuiet_nil ?_
          intro _ hw'
          obtain ⟨nq, hw''⟩ := hw'
          subst hw''
          have HC3 := Lib.hid (HC2.out.drewN nq)
          have HB3 := Lib.hid (HB2.out.drewN nq)
          generalize w2.drewN nq = w3 at *
          clear hd h0 s0 s1 s2 s3 y0 y1 e1 e2 e3 hpv
      all_goals
        clear HC2 HB2 x0 x1 x2 hp2 hbz HCL
        obtain ⟨x0, x1, x2⟩ := HB3.out.cells
        have hp2 := HB3.out.lt
        by_cases hbl : 20 < (l[k]).but.length
        · have HI := Lib.hid (HER.out 2 (by rw [HE4.out, if_pos hbl]) (by decide))
          go_wp2
          skip
          go_ret
          exact GivesB.mk (vint HI.out.symm) HC3.out.bel
        have hbn : (l[k]).but.length ≤ 20 := by omega
        have HE5 := Lib.hid (HE4.out.trans (if_neg hbl))
        clear HE4 hbl
        have HSW := Lib.hid ((HEM.out.strs _ (List.getElem_mem hlt)).below HC3.out.bel)
        generalize hbA : (l[k]).bA = bA at x2 HSW
        have HBA := Lib.hid hbA
        clear hbA
        obtain ⟨g1, hg1⟩ : ∃ g1, g1 = gk := ⟨_, rfl⟩
        subst hg1
        go_wp2
        go_loopg [90] (l[k]).but.length (BtR2 w3 l[k])
        case atStart => exact ⟨rfl, 0, by omega, rfl, fun j hj => absurd hj (by omega)⟩
        case round =>
          obtain ⟨hwr, k2, hk2, rfl, hpre2⟩ := hrel
          subst hwr
          have HK2 := Lib.hid hk2
          have HP2 := Lib.hid hpre2
          have hk21 : k2 ≤ (l[k]).but.length := by omega
          clear hk2 hpre2
          by_cases hlt2 : k2 < (l[k]).but.length
          · obtain ⟨b2, o2, rfl, hb2, hc2⟩ := HSW.out.at_ (by omega)
            have q := hc2 k2 hlt2
            have HC2 := Lib.hid hc2
            clear hc2
            have HER2 : Hid (∀ z : Int, btF (l[k]).but k2 = z → z ≠ 0 → res = z) := by
              show ∀ z : Int, _
              intro z h1 h2
              refine HER.out z ?_ h2
              rw [HE5.out, firstF_at hlt2 HP2.out (by rw [h1]; exact h2), h1]
            go_wp2_with fail
            refine (IsParty_c _ _ (HSZ.out.2 _ (List.getElem_mem hlt2))).mono ?_
            rintro e w5 ⟨rfl, rfl⟩
            clear q
            cases hnm : isNm (l[k]).but[k2] with
            | false =>
              have HI := Lib.hid (HER2.out 5 (by rw [btF_at hlt2, if_pos hnm]) (by decide))
              clear hnm
              go_wp2
              go_ret
              exact GivesB.mk (vint HI.out.symm) HC3.out.bel
            | true =>
              have HBF : Hid (btF (l[k]).but k2 = if 0 < k2 ∧ sle (l[k]).but[k2] ((l[k]).but.getD (k2 - 1) emp) = true then 8 else 0) := by
                show btF (l[k]).but k2 = _
                rw [btF_at hlt2, if_neg (by rw [hnm]; simp)]
              clear hnm
              by_cases h3 : 0 < k2 ∧ sle (l[k]).but[k2] ((l[k]).but.getD (k2 - 1) emp) = true
              · have HI := Lib.hid (HER2.out 8 (by rw [HBF.out, if_pos h3]) (by decide))
                obtain ⟨h0, hle⟩ := h3
                have hd : decide ((0 : Int) < (k2 : Int)) = true := by simp; omega
                rw [getB (by omega)] at hle
                have q := HC2.out (k2 - 1) (by omega)
                unfold sle at hle
                go_wp2
                go_ret
                exact GivesB.mk (vint HI.out.symm) HC3.out.bel
              · have HOK : Hid (btF (l[k]).but k2 = 0) := HBF.out.trans (if_neg h3)
                have HPN : Hid (∀ j, j < k2 + 1 → btF (l[k]).but j = 0) := fun j hj => by
                  rcases Nat.lt_or_ge j k2 with h1 | h1
                  · exact HP2.out j h1
                  · obtain rfl : j = k2 := by omega
                    exact HOK.out
                clear HBF HOK
                by_cases h0 : 0 < k2
                · have hd : decide ((0 : Int) < (k2 : Int)) = true := by simp; omega
                  have hle : sle (l[k]).but[k2] ((l[k]).but.getD (k2 - 1) emp) = false := by
                    cases hh : sle (l[k]).but[k2] ((l[k]).but.getD (k2 - 1) emp) with
                    | false => rfl
                    | true => exact absurd ⟨h0, hh⟩ h3
                  rw [getB (by omega)] at hle
                  have q := HC2.out (k2 - 1) (by omega)
                  unfold sle at hle
                  clear h3
                  go_wp2
                  go_roundg (gk - 1)
                  case measure => have := HK2.out; omega
                  case rel => exact ⟨rfl, k2 + 1, by have := HK2.out; omega, by go_num, HPN.out⟩
                · have hd : decide ((0 : Int) < (k2 : Int)) = false := by simp; omega
                  clear h3
                  go_wp2
                  go_roundg (gk - 1)
                  case measure => have := HK2.out; omega
                  case rel => exact ⟨rfl, k2 + 1, by have := HK2.out; omega, by go_num, HPN.out⟩
          · have HOK : Hid (emF T M l k = 0) := by
              show emF T M l k = 0
              rw [HE5.out, firstF_zero fun j hj => HP2.out j (by omega)]
            go_wp2
            go_roundg (g1 - 1)
            case measure => have := HK.out; omega
            case rel =>
              refine ⟨k + 1, by have := HK.out; omega, by go_num, fun j hj => ?_, HC3.out⟩
              rcases Nat.lt_or_ge j k with h1 | h1
              · exact HP.out j h1
              · obtain rfl : j = k := by omega
                exact HOK.out
    · have HX : Hid (res = 0) := by
        show res = 0
        rw [HFST.out, firstF_zero fun j hj => HP.out j (by omega)]
      go_wp2
      go_ret
      exact GivesB.mk (vint HX.out.symm) HCB.out.bel

set_option maxRecDepth 100000 in
set_option maxHeartbeats 1000000 in
theorem FreeR_c (A1 : Option Addr) (c1 : Nat) (T : List Th) (A2 : Option Addr) (c2 : Nat) (M : List Mv) (A : Option Addr) (c : Nat) (l : List Em) (p : ByteArray) (id : Int) (w : World) (hc : CatOk w A1 T A2 M) (hG : GOK w) (he : EmsOk w A l) (hcap : T.length ≤ c1) (hp : p.size ≤ 9223372036854775807) :
    Calls Tryz.prog 13 #[catV A1 c1 T A2 c2 M, .slice A l.length c, .string p, .int .i64 id] w (GivesP (freeF T M l p id) w) := by
  have HEM := Lib.hid he
  clear he
  have HCB := Lib.hid (CB.new w (.slice A1 T.length c1) (.slice A2 M.length c2))
  go_enter Tryz.func13, Tryz.ntmps13
  go_wp2_with fail
  refine (CheckEmR_c A1 c1 T A2 c2 M A c l _ (hc.below HCB.out.bel) (hG.below HCB.out.bel) (HEM.out.below HCB.out.bel) hcap).mono ?_
  rintro e w2 ⟨rfl, hb2⟩
  have HC2 := Lib.hid (HCB.out.below hb2)
  clear hb2 HCB
  have hw2 := HC2.out.lt
  have d0 := HC2.out.c0
  have d1 := HC2.out.c1
  by_cases hck : chkE T M l = 0
  case neg =>
    have hckb : (chkE T M l != 0) = true := by simpa using hck
    have HX := Lib.hid (freeF_bad (p := p) (id := id) hck)
    clear hck
    generalize chkE T M l = z at *
    go_wp2
    go_ret2
    exact GivesP.mk HX.out HC2.out.bel
  have HCK := Lib.hid hck
  rw [hck]
  clear hck
  go_wp2_with fail
  refine (IsParty_c p _ hp).mono ?_
  rintro e w3 ⟨rfl, rfl⟩
  cases hnm : isNm p with
  | false =>
    have HX := Lib.hid (freeF_name (id := id) HCK.out hnm)
    clear hnm
    go_wp2
    go_ret2
    exact GivesP.mk HX.out HC2.out.bel
  | true =>
    have HNM := Lib.hid hnm
    clear hnm
    go_wp2_with fail
    refine (foundR_c A1 c1 T A2 c2 M id _ (hc.below HC2.out.bel) (hG.below HC2.out.bel) hcap (chkE_ok HCK.out).1).mono ?_
    rintro e w4 ⟨rfl, hb4⟩
    have HC4 := Lib.hid (HC2.out.below hb4)
    clear hb4 HC2 hw2 d0 d1
    have hw4 := HC4.out.lt
    have d0 := HC4.out.c0
    have d1 := HC4.out.c1
    cases hin : findN T M (M.length + 1) id with
    | none =>
      have HX := Lib.hid (freeF_none HCK.out HNM.out (insO_none hin))
      rw [fdP_none hin]
      clear hin
      go_wp2
      go_ret2
      exact GivesP.mk HX.out HC4.out.bel
    | some n =>
      obtain ⟨t, ht⟩ := findN_there hin
      have HX := Lib.hid (freeF_some HCK.out HNM.out (insO_some hin ht))
      have HRN := Lib.hid (insO_len (chkE_ok HCK.out).1 (insO_some hin ht))
      have HL : Hid (insL T M id = witL T n t) := by show insL T M id = _; unfold insL; rw [insO_some hin ht]; rfl
      rw [fdP_some hin]
      clear hin ht
      dsimp only
      go_wp2_with fail
      have b0w : w4.cell? ⟨w.heap.size, 0, none⟩ = some (.slice A1 T.length c1) := d0
      have hbt : ∀ x ∈ l, x.but.length ≤ 20 := fun x hx => by
        obtain ⟨j, hj, rfl⟩ := List.getElem_of_mem hx
        exact (emF_ok hj ((chkE_ok HCK.out).2.2 j hj)).2.2.2.1
      have HBT := Lib.hid hbt
      have HC5 := Lib.hid (HC4.out.drewN 1)
      clear b0w hbt
      go_region_held3 (fun w' => w'.cell? ⟨w.heap.size, 0, none⟩ = some (.slice A1 T.length c1) ∧ w'.cell? ⟨w.heap.size, 1, none⟩ = some (.slice A2 M.length c2)) (go_keep)
        (first
          | ((go_at_call 47; refine (inside_c A1 c1 T A2 c2 M id _ (hc.below HC5.out.bel) (hG.below HC5.out.bel) hcap (chkE_ok HCK.out).1).mono ?_; rw [HL.out]; rintro e w5 ⟨A', c', rfl, hi5, hb5⟩; have HC6 := Lib.hid (HC5.out.below hb5); have HI5 := Lib.hid hi5; have hx0 := HC6.out.c0; have hx1 := HC6.out.c1; clear hb5 hi5))
          | ((go_at_call 46; refine (freeFor_c A1 c1 T A2 c2 M A c l p A' c' (witL T n t) _ (hc.below HC6.out.bel) (hG.below HC6.out.bel) (HEM.out.below HC6.out.bel) hcap (chkE_ok HCK.out).1 (chkE_ok HCK.out).2.1 HBT.out HI5.out (Nat.le_trans HRN.out (by decide))).mono ?_; rintro e w6 ⟨rfl, hb6⟩; have hy0 := (HC6.out.below hb6).c0; have hy1 := (HC6.out.below hb6).c1)))
      have HB6 := Lib.hid (HC6.out.below hb6).bel
      clear hb6
      go_wp2
      go_ret2
      exact GivesP.mk HX.out HB6.out
end Go.Proofs.YtfninfgohiipjaaGreatDoor
