/- Walks over the reference of chapter 7 (parts of things): Whole. -/
import Derived.Test.YtnjepmbonhmdnaaDoorWhE
namespace Go.Proofs.YtnjepmbonhmdnaaDoor
open Go.RowKit Dw

def WfRel1 (w : World) (l : List Rg) (m : Nat) (i : Value) (wr : World) : Prop :=
  (∃ q, wr = w.drewN q) ∧ ∃ k : Nat, k + m = l.length ∧ i = .int .i64 k ∧ ∀ j, j < k → cnFault l j = none
def WfRel2 (w : World) (l : List Rg) (i : Nat) (m : Nat) (j : Value) (wr : World) : Prop :=
  (∃ q, wr = w.drewN q) ∧ ∃ k : Nat, k + m = i ∧ j = .int .i64 k ∧ ((l.take k).any fun q => sameP q (l.getD i default)) = false
def WfRel3 (w : World) (l : List Rg) (m : Nat) (i : Value) (wr : World) : Prop :=
  ∃ k : Nat, k + m = l.length ∧ i = .int .i64 k ∧ (∀ j, j < k → loopP l j = false) ∧ Below w.heap.size w wr

set_option maxHeartbeats 2000000 in
theorem WholeR_c (A : Option Addr) (c : Nat) (l : List Rg) (s : ByteArray) (w : World) (h : Rgs w A l) (hz : Sized l) (hs : s.size ≤ 9223372036854775807) :
    Calls Tryd.prog 22 #[.slice A l.length c, .string s] w (GivesS2 (wholeS l s) w) := by
  generalize hres : wholeS l s = res
  have HR := Lib.hid hres
  clear hres
  unfold wholeS at HR
  have HERR : Hid (∀ x : Int, chkW l = x → x ≠ 0 → res = ([], x)) := by
    show ∀ x : Int, chkW l = x → x ≠ 0 → res = ([], x)
    intro x hx hx0
    have := HR.out
    rw [if_pos (by rw [hx]; exact hx0), hx] at this
    exact this.symm
  by_cases hlen : 500 < l.length
  · go_enter Tryd.func22, Tryd.ntmps22
    go_wp2
    go_ret2
    exact GivesS2.err (HERR.out 2 (chkW_large hlen) (by decide)) (Below.refl _ _)
  have hn : l.length ≤ 500 := by omega
  have HZ := Lib.hid hz
  clear hz
  go_enter Tryd.func22, Tryd.ntmps22
  go_wp2
  go_loopg [6] l.length (WfRel1 w l)
  case atStart => exact ⟨⟨0, rfl⟩, 0, by omega, rfl, fun j hj => absurd hj (by omega)⟩
  case round =>
    obtain ⟨g1, hg1⟩ : ∃ g1, g1 = gk := ⟨_, rfl⟩
    subst hg1
    obtain ⟨⟨q, hw⟩, k, hk, rfl, hpre⟩ := hrel
    subst hw
    have HK := Lib.hid hk
    have HP := Lib.hid hpre
    have hk1 : k ≤ l.length := by omega
    clear hk hpre
    by_cases hlt : k < l.length
    · obtain ⟨b, o, rfl, hb, hc⟩ := h.at_ (by omega)
      have hc0 : w.cell? ⟨b, o + k * 2, none⟩ = some (.string (l[k]).nm) := (hc k hlt).1
      have hc1 : w.cell? ⟨b, o + k * 2 + 1, none⟩ = some (.string (l[k]).par) := (hc k hlt).2
      have hz1 := (HZ.out k hlt).1
      have hz2 := (HZ.out k hlt).2
      have HCC := Lib.hid hc
      have HCN : Hid (cnFault l k = if isNm (l[k]).nm = false ∨ isNm (l[k]).par = false then some 5 else if twiceP l k = true then some 7 else none) := by
        show cnFault l k = _
        unfold cnFault
        rw [getD_of hlt]
      clear hc
      go_wp2_with fail
      refine (IsNameR_c _ _ hz1).mono ?_
      rintro e w2 ⟨rfl, rfl⟩
      cases hq : isNm (l[k]).nm with
      | false =>
        have HS := Lib.hid (HERR.out 5 (chkW_first hlen hlt HP.out (by rw [HCN.out, if_pos (.inl hq)])) (by decide))
        clear hq
        go_wp2
        go_ret2
        exact GivesS2.err HS.out (below_drewN (Below.refl _ _) _)
      | true =>
        have HQ := Lib.hid hq
        clear hq
        go_wp2_with fail
        refine (IsNameR_c _ _ hz2).mono ?_
        rintro e w2 ⟨rfl, rfl⟩
        cases hq : isNm (l[k]).par with
        | false =>
          have HS := Lib.hid (HERR.out 5 (chkW_first hlen hlt HP.out (by rw [HCN.out, if_pos (.inr hq)])) (by decide))
          clear hq
          go_wp2
          go_ret2
          exact GivesS2.err HS.out (below_drewN (Below.refl _ _) _)
        | true =>
          have HQ2 := Lib.hid hq
          clear hq
          go_wp2
          go_loopg [7] k (WfRel2 w l k)
          case atStart => exact ⟨⟨_, rfl⟩, 0, by omega, rfl, by simp⟩
          case round =>
            obtain ⟨⟨q, hw⟩, j, hj, rfl, hpre⟩ := hrel
            subst hw
            have HJ := Lib.hid hj
            have HPJ := Lib.hid hpre
            have hj1 : j ≤ k := by omega
            clear hj hpre
            by_cases hlt2 : j < k
            · have hd0 : w.cell? ⟨b, o + j * 2, none⟩ = some (.string (l[j]).nm) := (HCC.out j (by omega)).1
              have hd1 : w.cell? ⟨b, o + j * 2 + 1, none⟩ = some (.string (l[j]).par) := (HCC.out j (by omega)).2
              have HNX : Hid (((l.take (j + 1)).any fun q => sameP q (l.getD k default)) = sameP l[j] l[k]) := by
                show ((l.take (j + 1)).any fun q => sameP q (l.getD k default)) = _
                rw [List.take_succ_eq_append_getElem (by omega), List.any_append, HPJ.out, getD_of hlt]; simp
              by_cases h1 : (l[j]).nm = (l[k]).nm
              · have h1b := beq_of_eq h1
                by_cases h2 : (l[j]).par = (l[k]).par
                · have h2b := beq_of_eq h2
                  have ht : twiceP l k = true := by
                    unfold twiceP
                    rw [List.any_eq_true]
                    refine ⟨l[j], List.mem_take_iff_getElem.2 ⟨j, by omega, rfl⟩, ?_⟩
                    rw [getD_of hlt]
                    simp [sameP, h1, h2]
                  have HS := Lib.hid (HERR.out 7 (chkW_first hlen hlt HP.out (by rw [HCN.out, if_neg (by rw [HQ.out, HQ2.out]; simp), if_pos ht])) (by decide))
                  clear h1 h2 ht
                  go_wp2
                  go_quiet (fail)
                  go_wp2
                  go_ret2
                  exact GivesS2.err HS.out (below_drewN (below_drewN (Below.refl _ _) _) _)
                · have h2b := beq_of_ne h2
                  have HSM : Hid (sameP l[j] l[k] = false) := by
                    show sameP l[j] l[k] = false
                    simp [sameP, h2]
                  clear h1 h2
                  go_wp2
                  go_quiet (fail)
                  go_wp2
                  go_roundg (gk - 1)
                  case measure => have := HJ.out; omega
                  case rel => exact ⟨⟨_, rfl⟩, j + 1, by have := HJ.out; omega, by go_num, by rw [HNX.out, HSM.out]⟩
              · have h1b := beq_of_ne h1
                have HSM : Hid (sameP l[j] l[k] = false) := by
                  show sameP l[j] l[k] = false
                  simp [sameP, h1]
                clear h1
                go_wp2
                go_quiet (fail)
                go_wp2
                go_roundg (gk - 1)
                case measure => have := HJ.out; omega
                case rel => exact ⟨⟨_, rfl⟩, j + 1, by have := HJ.out; omega, by go_num, by rw [HNX.out, HSM.out]⟩
            · have ht : twiceP l k = false := by
                have := HPJ.out
                rw [show j = k by omega] at this
                exact this
              have HF : Hid (cnFault l k = none) := by
                show cnFault l k = none
                rw [HCN.out, if_neg (by rw [HQ.out, HQ2.out]; simp), if_neg (by rw [ht]; simp)]
              clear ht
              go_wp2
              go_roundg (g1 - 1)
              case measure => have := HK.out; omega
              case rel =>
                refine ⟨⟨_, rfl⟩, k + 1, by have := HK.out; omega, by go_num, fun t ht => ?_⟩
                rcases Nat.lt_or_ge t k with h1 | h1
                · exact HP.out t h1
                · obtain rfl : t = k := by omega
                  exact HF.out
    · have hF0 : ∀ j, j < l.length → cnFault l j = none := fun j hj => HP.out j (by omega)
      have HF0 := Lib.hid hF0
      clear hF0 HP HK
      go_wp2
      go_loopg [8] l.length (WfRel3 w l)
      case atStart => exact ⟨0, by omega, rfl, fun j hj => absurd hj (by omega), below_drewN (Below.refl _ _) _⟩
      clear hlt hk1
      case round =>
        obtain ⟨k, hk, rfl, hpre, hbel⟩ := hrel
        have HK := Lib.hid hk
        have HP := Lib.hid hpre
        have hk1 : k ≤ l.length := by omega
        clear hk hpre
        by_cases hlt : k < l.length
        · obtain ⟨b, o, rfl, hb, hc⟩ := h.at_ (by omega)
          have hc0 : wr.cell? ⟨b, o + k * 2, none⟩ = some (.string (l[k]).nm) := (hbel.cell hb).trans (hc k hlt).1
          have hc1 : wr.cell? ⟨b, o + k * 2 + 1, none⟩ = some (.string (l[k]).par) := (hbel.cell hb).trans (hc k hlt).2
          have HLP : Hid (loopP l k = memS (sortS (reach l (l[k]).par)) (l[k]).nm) := by
            show loopP l k = _
            rw [sortS_mem]
            unfold loopP
            rw [getD_of hlt]
          have hrl := reach_le l (l[k]).par
          have hsl := sortS_len (reach l (l[k]).par)
          have hle : (sortS (reach l (l[k]).par)).length ≤ 501 := by omega
          have hr := h.below hbel
          have hwr : w.heap.size ≤ wr.heap.size := hbel.size
          have hbr : b < wr.heap.size := by omega
          have hi0 : (0 : Int) ≤ (k : Int) := by omega
          have hi1 : (k : Int) < (l.length : Int) := by omega
          have HB := Lib.hid hbel
          have HRR := Lib.hid hr
          generalize hso : sortS (reach l (l[k]).par) = so at *
          have HSO := Lib.hid hso
          clear hc hbel hrl hsl hso hr
          go_wp2
          go_region_held3 (fun w' => w'.cell? ⟨b, o + k * 2, none⟩ = some (.string (l[k]).nm) ∧ w'.cell? ⟨b, o + k * 2 + 1, none⟩ = some (.string (l[k]).par)) (go_keep)
            (first
              | ((go_at_call 38; refine (reached_c _ _ l _ _ hn (HRR.out.drew)).mono ?_; rintro e w2 ⟨A2, c2, rfl, hst, hb2⟩; rw [HSO.out] at hst ⊢; have hx0 : w2.cell? ⟨b, o + k * 2, none⟩ = some (.string (l[k]).nm) := (hb2.cell hbr).trans hc0; have hx1 : w2.cell? ⟨b, o + k * 2 + 1, none⟩ = some (.string (l[k]).par) := (hb2.cell hbr).trans hc1))
              | ((go_at_call 37; refine (has_c _ _ so _ _ (by omega) hst).mono ?_; rintro e w3 ⟨rfl, rfl⟩)))
          have HB2 := Lib.hid (HB.out.drew.trans (hb2.mono HB.out.drew.size))
          clear hst hb2 hx0 hx1 HB HRR HSO
          cases hm : memS so (l[k]).nm with
          | true =>
            have HS := Lib.hid (HERR.out 14 (chkW_loop hlen HF0.out hlt (by rw [HLP.out, hm])) (by decide))
            clear hm
            go_wp2
            go_ret2
            exact GivesS2.err HS.out HB2.out
          | false =>
            have HM := Lib.hid hm
            clear hm
            go_wp2
            go_roundg (gk - 1)
            case measure => have := HK.out; omega
            case rel =>
              refine ⟨k + 1, by have := HK.out; omega, by go_num, fun j hj => ?_, HB2.out⟩
              rcases Nat.lt_or_ge j k with h1 | h1
              · exact HP.out j h1
              · obtain rfl : j = k := by omega
                rw [HLP.out, HM.out]
        · have hC : chkW l = 0 := chkW_ok hlen HF0.out (fun j hj => HP.out j (by omega))
          have HC := Lib.hid hC
          have hr := h.below hbel
          clear hC
          go_wp2_with fail
          refine (IsNameR_c _ _ hs).mono ?_
          rintro e w2 ⟨rfl, rfl⟩
          cases hq : isNm s with
          | false =>
            have hres : res = ([], 5) := by
              have := HR.out
              rw [if_neg (by rw [HC.out]; simp), if_pos hq] at this
              exact this.symm
            have HS := Lib.hid hres
            clear hres hq
            go_wp2
            go_ret2
            exact GivesS2.err HS.out hbel
          | true =>
            have hres : res = (sortS (reach l s), 0) := by
              have := HR.out
              rw [if_neg (by rw [HC.out]; simp), if_neg (by rw [hq]; simp)] at this
              exact this.symm
            have HS := Lib.hid hres
            clear hres hq
            go_wp2_with fail
            refine (reached_c _ _ l _ _ hn hr).mono ?_
            rintro e w3 ⟨A3, c3, rfl, hst, hb3⟩
            have hB3 := below_trans hbel hb3
            clear hb3 hbel hr
            go_wp2
            go_ret2
            exact GivesS2.ok HS.out hst hB3
end Go.Proofs.YtnjepmbonhmdnaaDoor
