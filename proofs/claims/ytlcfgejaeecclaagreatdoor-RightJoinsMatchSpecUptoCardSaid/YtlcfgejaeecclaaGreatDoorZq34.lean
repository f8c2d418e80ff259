/- The reference's comparers: words, frames (printed by gen_same.py). -/
import Derived.Test.YtlcfgejaeecclaaGreatDoorZq19
import Derived.Test.YtlcfgejaeecclaaGreatDoorZq18
set_option maxRecDepth 100000
set_option maxHeartbeats 8000000
namespace Go.Proofs.YtlcfgejaeecclaaGreatDoor
open Go.RowKit Dw
theorem sameWords_c (A A2 : Option Addr) (c c2 : Nat) (L M : List ByteArray) (w : World) (hn : L.length ≤ 140737488355328) (hn2 : M.length ≤ 140737488355328) (h : Strs w A L) (h2 : Strs w A2 M) :
  Calls Tryz.prog 63 #[.slice A L.length c, .slice A2 M.length c2] w (GivesEq (L = M) w) := by
 by_cases hl : L.length = M.length
 ·rw [← hl]
  have HL := zq hl
  clear hl
  go_enter Tryz.func63, Tryz.ntmps63
  go_wp2
  go_loopg [5] L.length (EqRel2 w L M)
  case atStart => exact ⟨0, rfl, 0, by omega, rfl, fun j hj => absurd hj (by omega)⟩
  case round =>
   obtain ⟨q, hw, k, hk, rfl, hpre⟩ := hrel
   subst hw
   have HK := zq hk
   have HP := zq hpre
   have hk1 : k ≤ L.length := by omega
   clear hk hpre
   by_cases hlt : k < L.length
   ·have hlt2 : k < M.length := by have := HL.out; omega
    obtain ⟨b, o, rfl, hb, hc⟩ := h.at_ (by omega)
    obtain ⟨b2, o2, rfl, hb2, hcm⟩ := h2.at_ (by omega)
    have hc0 := hc k hlt
    have hd0 := hcm k hlt2
    clear hc hcm
    by_cases he : L[k] = M[k]
    ·have heb := beq_of_eq he
     have HE := zq he
     clear he
     go_wp2
     go_quiet (fail)
     go_wp2
     go_roundg (gk - 1)
     case measure => have := HK.out; omega
     case rel =>
      refine ⟨_, rfl, k + 1, by have := HK.out; omega, by go_num, fun j hj => ?_⟩
      rcases Nat.lt_or_ge j k with h1 | h1
      ·exact HP.out j h1
      ·obtain rfl : j = k := by omega
       rw [List.getElem?_eq_getElem hlt, List.getElem?_eq_getElem (by have := HL.out; omega), HE.out]
    ·have heb := beq_of_ne he
     have HE : Hid (¬ L = M) := by
      show ¬ L = M
      intro e
      subst e
      exact he rfl
     clear he
     go_wp2
     go_quiet (fail)
     go_wp2
     go_ret
     exact GivesEq.no HE.out ⟨_, World.drewN_drewN _ _ _⟩
   ·go_wp2
    go_ret
    exact GivesEq.yes (same_of HL.out (by omega) HP.out) ⟨_, rfl⟩
 ·have HE : Hid (¬ L = M) := by
   show ¬ L = M
   intro e
   subst e
   exact hl rfl
  have hlb : ((L.length : Int) != (M.length : Int)) = true := by simp; omega
  go_enter Tryz.func63, Tryz.ntmps63
  go_wp2
  go_ret
  exact GivesEq.no HE.out ⟨0, rfl⟩
def FrRel (_w W : World) (L M : List Rg) (m : Nat) (i : Value) (wr : World) : Prop :=
 ∃ q, wr = W.drewN q ∧ ∃ k : Nat, k + m = L.length ∧ i = .int .i64 k ∧ ∀ j, j < k → L[j]? = M[j]?
theorem sameFrame_c (RA : Option Addr) (rc : Nat) (rs : List Rg) (UA : Option Addr) (uc : Nat) (us : List ByteArray) (DA : Option Addr) (dc : Nat) (ds : List De)
  (RA2 : Option Addr) (rc2 : Nat) (rs2 : List Rg) (UA2 : Option Addr) (uc2 : Nat) (us2 : List ByteArray) (DA2 : Option Addr) (dc2 : Nat) (ds2 : List De) (w : World)
  (hr : Rgs w RA rs) (hu : Strs w UA us) (hr2 : Rgs w RA2 rs2) (hu2 : Strs w UA2 us2) (hn : rs.length ≤ 140737488355328 ∧ us.length ≤ 140737488355328) (hn2 : rs2.length ≤ 140737488355328 ∧ us2.length ≤ 140737488355328) :
  Calls Tryz.prog 30 #[.agg (tiC RA rc rs UA uc us DA dc ds), .agg (tiC RA2 rc2 rs2 UA2 uc2 us2 DA2 dc2 ds2)] w (GivesQD (rs = rs2 ∧ us = us2) w) := by
 have HX : Hid (Bx ((w.alloc (.cells (tiC RA rc rs UA uc us DA dc ds) 26)).alloc (.cells (tiC RA2 rc2 rs2 UA2 uc2 us2 DA2 dc2 ds2) 26)) w.heap.size (tiC RA rc rs UA uc us DA dc ds) 26) := (Bx.new _ _ _).alloc _
 have HY : Hid (Bx ((w.alloc (.cells (tiC RA rc rs UA uc us DA dc ds) 26)).alloc (.cells (tiC RA2 rc2 rs2 UA2 uc2 us2 DA2 dc2 ds2) 26)) (w.heap.size + 1) (tiC RA2 rc2 rs2 UA2 uc2 us2 DA2 dc2 ds2) 26) := Bx.new1 _ _ _ _
 have HB : Hid (Below w.heap.size w ((w.alloc (.cells (tiC RA rc rs UA uc us DA dc ds) 26)).alloc (.cells (tiC RA2 rc2 rs2 UA2 uc2 us2 DA2 dc2 ds2) 26))) := ((Below.refl w.heap.size w).alloc (Nat.le_refl _) _).alloc (by simp) _
 obtain ⟨W, hW⟩ : ∃ W, W = (w.alloc (.cells (tiC RA rc rs UA uc us DA dc ds) 26)).alloc (.cells (tiC RA2 rc2 rs2 UA2 uc2 us2 DA2 dc2 ds2) 26) := ⟨_, rfl⟩
 rw [← hW] at HX HY HB
 have h := hr.below HB.out
 have h2 := hr2.below HB.out
 have HU := zq (hu.below HB.out)
 have HU2 := zq (hu2.below HB.out)
 clear hr hr2 hu hu2
 obtain ⟨hn1, hnu⟩ := hn
 obtain ⟨hn3, hnu2⟩ := hn2
 go_enter Tryz.func30, Tryz.ntmps30
 iterate 13 go_step
 rw [← hW]
 clear hW
 have hsx := HX.out.lt
 have hsy := HY.out.lt
 have x0 := HX.out.cell (i := 0) rfl
 have x1 := HX.out.cell (i := 1) rfl
 have y0 : W.cell? ⟨w.heap.size + 1, 0, none⟩ = some (.slice RA2 rs2.length rc2) := HY.out.cell (i := 0) rfl
 have y1 := HY.out.cell (i := 1) rfl
 clear HX HY
 by_cases hl : rs.length = rs2.length
 case neg =>
  have HE : Hid (¬ (rs = rs2 ∧ us = us2)) := fun e => hl (by rw [e.1])
  have hlb : ((rs.length : Int) != (rs2.length : Int)) = true := by simp; omega
  clear hl
  go_wp2
  go_ret
  exact GivesQD.no HE.out HB.out
 rw [← hl] at y0
 have HL := zq hl
 clear hl
 go_wp2_with fail
 with_reducible refine (sameWords_c UA UA2 uc uc2 us us2 _ hnu hnu2 HU.out HU2.out).mono ?_
 rintro x wx ⟨r, rfl, hrr, n, rfl⟩
 by_cases hus : us = us2
 case neg =>
  have hrf : r = false := by
   cases hh : r with
   | false => rfl
   | true => exact absurd (hrr.1 hh) hus
  subst hrf
  have HE : Hid (¬ (rs = rs2 ∧ us = us2)) := fun e => hus e.2
  clear hrr hus
  go_wp2
  go_ret
  exact GivesQD.no HE.out (below_drewN HB.out _)
 have hrt : r = true := hrr.2 hus
 subst hrt
 have HUS := zq hus
 clear hrr hus
 go_wp2
 go_loopg [5] rs.length (FrRel w W rs rs2)
 case atStart => exact ⟨n, rfl, 0, by omega, rfl, fun j hj => absurd hj (by omega)⟩
 case round =>
  obtain ⟨q, hw, k, hk, rfl, hpre⟩ := hrel
  subst hw
  have HK := zq hk
  have HP := zq hpre
  have hk1 : k ≤ rs.length := by omega
  clear hk hpre
  by_cases hlt : k < rs.length
  ·have hlt2 : k < rs2.length := by have := HL.out; omega
   obtain ⟨b, o, rfl, hb, hc⟩ := h.at_ (by omega)
   obtain ⟨b2, o2, rfl, hb2, hcm⟩ := h2.at_ (by omega)
   have hc0 := (hc k hlt).1
   have hc1 := (hc k hlt).2
   have hd0 := (hcm k hlt2).1
   have hd1 := (hcm k hlt2).2
   clear hc hcm
   by_cases he : rs[k] = rs2[k]
   ·have HE := zq he
    rw [← he] at hd0 hd1
    clear he
    go_wp2
    go_quiet (fail)
    go_wp2
    go_roundg (gk - 1)
    case measure => have := HK.out; omega
    case rel =>
     refine ⟨_, rfl, k + 1, by have := HK.out; omega, by go_num, fun j hj => ?_⟩
     rcases Nat.lt_or_ge j k with h1 | h1
     ·exact HP.out j h1
     ·obtain rfl : j = k := by omega
      rw [List.getElem?_eq_getElem hlt, List.getElem?_eq_getElem (by have := HL.out; omega), HE.out]
   ·have HE : Hid (¬ (rs = rs2 ∧ us = us2)) := fun e => by
     obtain ⟨e, _⟩ := e
     subst e
     exact he rfl
    by_cases h0 : (rs[k]).nm = (rs2[k]).nm
    ·have h3 : ¬ (rs[k]).par = (rs2[k]).par := fun e => he (by
      cases hx : rs[k]
      cases hy : rs2[k]
      simp_all)
     have hb := beq_of_ne h3
     rw [← h0] at hd0
     clear he h0 h3
     go_wp2
     go_quiet (fail)
     go_wp2
     go_ret
     exact GivesQD.no HE.out (below_drewN (below_drewN HB.out _) _)
    ·have hb := beq_of_ne h0
     clear he h0
     go_wp2
     go_quiet (fail)
     go_wp2
     go_ret
     exact GivesQD.no HE.out (below_drewN (below_drewN HB.out _) _)
  ·go_wp2
   go_ret
   exact GivesQD.yes ⟨same_of HL.out (by omega) HP.out, HUS.out⟩ (below_drewN HB.out _)
end Go.Proofs.YtlcfgejaeecclaaGreatDoor
