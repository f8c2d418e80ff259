/- The law RightJoinsInAnyOrder as one call. -/
import Derived.Test.YtlcfgejaeecclaaGreatDoorJq10
import Derived.Test.YtlcfgejaeecclaaGreatDoorJq31
import Derived.Test.YtlcfgejaeecclaaGreatDoorJq35
namespace Go.Proofs.YtlcfgejaeecclaaGreatDoor
open Go.RowKit Dw

def sa : ByteArray := ⟨#[97]⟩
theorem leaves_awake : leavesS [⟨sa, emp⟩] [⟨sa, false⟩] = ([sa], 0) := by decide +kernel

set_option maxHeartbeats 400000 in
theorem awake_c (w : World) : Calls Tryz.prog 9 #[] w (GivesB (.bool true) w) := by
  have hb1 : Below w.heap.size w (w.alloc (.cells #[.string ⟨#[97]⟩, .string ⟨#[]⟩] 43)) := (Below.refl _ _).alloc (Nat.le_refl _) _
  have hb2 : Below w.heap.size w ((w.alloc (.cells #[.string ⟨#[97]⟩, .string ⟨#[]⟩] 43)).alloc (.cells #[.string ⟨#[97]⟩, .bool false] 63)) := hb1.alloc hb1.size _
  have hr : Rgs ((w.alloc (.cells #[.string ⟨#[97]⟩, .string ⟨#[]⟩] 43)).alloc (.cells #[.string ⟨#[97]⟩, .bool false] 63)) (some ⟨w.heap.size, 0, none⟩) [⟨sa, emp⟩] := fun _ =>
    ⟨w.heap.size, 0, rfl, fun i hi => by
      have : i = 0 := by simp at hi; omega
      subst this
      constructor
      · rw [cell_of_row _ w.heap.size _ _ _ _ (heap_keep (heap_alloc_new _ _))]; rfl
      · rw [cell_of_row _ w.heap.size _ _ _ _ (heap_keep (heap_alloc_new _ _))]; rfl⟩
  have ha : Ars ((w.alloc (.cells #[.string ⟨#[97]⟩, .string ⟨#[]⟩] 43)).alloc (.cells #[.string ⟨#[97]⟩, .bool false] 63)) (some ⟨w.heap.size + 1, 0, none⟩) [⟨sa, false⟩] := fun _ =>
    ⟨w.heap.size + 1, 0, rfl, fun i hi => by
      have : i = 0 := by simp at hi; omega
      subst this
      have hn := heap_alloc_new (w.alloc (.cells #[.string ⟨#[97]⟩, .string ⟨#[]⟩] 43)) (.cells #[.string ⟨#[97]⟩, .bool false] 63)
      rw [show (w.alloc (.cells #[.string ⟨#[97]⟩, .string ⟨#[]⟩] 43)).heap.size = w.heap.size + 1 by simp] at hn
      constructor
      · rw [cell_of_row _ (w.heap.size + 1) _ _ _ _ hn]; rfl
      · rw [cell_of_row _ (w.heap.size + 1) _ _ _ _ hn]; rfl⟩
  have hl := Leaves_c (some ⟨w.heap.size, 0, none⟩) (some ⟨w.heap.size + 1, 0, none⟩) 1 1 [⟨sa, emp⟩] [⟨sa, false⟩] _ hr ha (fun i hi => by
    have : i = 0 := by simp at hi; omega
    subst this
    show (sa.size : Nat) ≤ 9223372036854775807
    decide)
  rw [leaves_awake] at hl
  go_enter Tryz.func9, Tryz.ntmps9
  go_wp2_with fail
  refine hl.mono ?_
  rintro e w1 ⟨A1, c1, rfl, hx, hb⟩
  have HB := Lib.hid (hb2.trans (hb.mono hb2.size))
  obtain ⟨b, o, rfl, hbl, hc⟩ := hx.at_ (by simp)
  have hc0 : w1.cell? ⟨b, o, none⟩ = some (.string ⟨#[97]⟩) := hc 0 (by simp)
  clear hl hr ha hb1 hb2 hb hx hc
  go_wp2
  go_ret
  exact GivesB.mk rfl HB.out

/-- Three lists that a joined title has are short. -/
theorem joinP_len {rs rs2 R : List Rg} {us us2 U : List ByteArray} {ds ds2 S : List De} (h : JoinP rs us ds rs2 us2 ds2 0 R U S) : R.length ≤ 140737488355328 ∧ U.length ≤ 140737488355328 ∧ S.length ≤ 140737488355328 := by
  obtain ⟨c1, _, _, _, _, rfl, rfl, _, cs⟩ := h.2 rfl
  obtain ⟨h1, h2, h3⟩ := chkT_zero cs
  have h4 := (good_of h1).len
  omega
theorem joinP_sizes {rs rs2 R : List Rg} {us us2 U : List ByteArray} {ds ds2 S : List De} (h : JoinP rs us ds rs2 us2 ds2 0 R U S) : R = rs ∧ U = us := by
  obtain ⟨_, _, _, _, _, h1, h2, _⟩ := h.2 rfl
  exact ⟨h1, h2⟩
set_option maxRecDepth 100000 in
set_option maxHeartbeats 4000000 in
theorem lawJ_c (RA : Option Addr) (rc : Nat) (rs : List Rg) (UA : Option Addr) (uc : Nat) (us : List ByteArray) (DA : Option Addr) (dc : Nat) (ds : List De)
    (RA2 : Option Addr) (rc2 : Nat) (rs2 : List Rg) (UA2 : Option Addr) (uc2 : Nat) (us2 : List ByteArray) (DA2 : Option Addr) (dc2 : Nat) (ds2 : List De) (w : World)
    (hr : Rgs w RA rs) (hu : Strs w UA us) (hd : Des w DA ds) (hz : ∀ i (h : i < rs.length), (rs[i]).nm.size ≤ 9223372036854775807) (hz2 : ∀ i (h : i < us.length), (us[i]).size ≤ 9223372036854775807)
    (hr2 : Rgs w RA2 rs2) (hu2 : Strs w UA2 us2) (hd2 : Des w DA2 ds2) (hz3 : ∀ i (h : i < rs2.length), (rs2[i]).nm.size ≤ 9223372036854775807) (hz4 : ∀ i (h : i < us2.length), (us2[i]).size ≤ 9223372036854775807) :
    Calls Tryz.prog 3 #[.agg (tiC RA rc rs UA uc us DA dc ds), .agg (tiC RA2 rc2 rs2 UA2 uc2 us2 DA2 dc2 ds2)] w (GivesB (.bool true) w) := by
  have HB : Hid (Below w.heap.size w ((w.alloc (.cells (tiC RA rc rs UA uc us DA dc ds) 26)).alloc (.cells (tiC RA2 rc2 rs2 UA2 uc2 us2 DA2 dc2 ds2) 26))) := ((Below.refl w.heap.size w).alloc (Nat.le_refl _) _).alloc (by simp) _
  have HX : Hid (Bx ((w.alloc (.cells (tiC RA rc rs UA uc us DA dc ds) 26)).alloc (.cells (tiC RA2 rc2 rs2 UA2 uc2 us2 DA2 dc2 ds2) 26)) w.heap.size (tiC RA rc rs UA uc us DA dc ds) 26) := (Bx.new _ _ _).alloc _
  have HY : Hid (Bx ((w.alloc (.cells (tiC RA rc rs UA uc us DA dc ds) 26)).alloc (.cells (tiC RA2 rc2 rs2 UA2 uc2 us2 DA2 dc2 ds2) 26)) (w.heap.size + 1) (tiC RA2 rc2 rs2 UA2 uc2 us2 DA2 dc2 ds2) 26) := Bx.new1 _ _ _ _
  obtain ⟨W, hW⟩ : ∃ W, W = (w.alloc (.cells (tiC RA rc rs UA uc us DA dc ds) 26)).alloc (.cells (tiC RA2 rc2 rs2 UA2 uc2 us2 DA2 dc2 ds2) 26) := ⟨_, rfl⟩
  rw [← hW] at HB HX HY
  have HR := Lib.hid (hr.below HB.out)
  have HU := Lib.hid (hu.below HB.out)
  have HD := Lib.hid (hd.below HB.out)
  have HR2 := Lib.hid (hr2.below HB.out)
  have HU2 := Lib.hid (hu2.below HB.out)
  have HD2 := Lib.hid (hd2.below HB.out)
  clear hr hu hd hr2 hu2 hd2
  go_enter Tryz.func3, Tryz.ntmps3
  iterate 13 go_step
  rw [← hW]
  clear hW
  have x0 := HX.out.cell (i := 0) rfl
  have x1 := HX.out.cell (i := 1) rfl
  have x2 := HX.out.cell (i := 2) rfl
  have y0 := HY.out.cell (i := 0) rfl
  have y1 := HY.out.cell (i := 1) rfl
  have y2 := HY.out.cell (i := 2) rfl
  have hsx := HX.out.lt
  have hsy := HY.out.lt
  go_wp2_with fail
  with_reducible refine (join_s RA rc rs UA uc us DA dc ds RA2 rc2 rs2 UA2 uc2 us2 DA2 dc2 ds2 W HR.out HU.out HD.out hz hz2 HR2.out HU2.out HD2.out hz3 hz4).mono ?_
  rintro e w1 ⟨RA3, rc3, rs3, UA3, uc3, us3, DA3, dc3, ds3, f1, rfl, hj1, hr3, hu3, hd3, hb1⟩
  have HJ1 := Lib.hid hj1
  have HR3 := Lib.hid hr3
  have HU3 := Lib.hid hu3
  have HD3 := Lib.hid hd3
  have HB1 := Lib.hid (below_trans HB.out hb1)
  have HBA : Hid (Below w1.heap.size w1 (w1.alloc (.cells (tiC RA3 rc3 rs3 UA3 uc3 us3 DA3 dc3 ds3) 26))) := (Below.refl w1.heap.size w1).alloc (Nat.le_refl _) _
  have HXA := Lib.hid ((HX.out.below hb1).below HBA.out)
  have HYA := Lib.hid ((HY.out.below hb1).below HBA.out)
  have HZA : Hid (Bx (w1.alloc (.cells (tiC RA3 rc3 rs3 UA3 uc3 us3 DA3 dc3 ds3) 26)) w1.heap.size (tiC RA3 rc3 rs3 UA3 uc3 us3 DA3 dc3 ds3) 26) := Bx.new _ _ _
  have HBW := Lib.hid (below_trans HB1.out HBA.out)
  have HRa := Lib.hid ((HR.out.below hb1).below HBA.out)
  have HUa := Lib.hid ((HU.out.below hb1).below HBA.out)
  have HDa := Lib.hid ((HD.out.below hb1).below HBA.out)
  have HR2a := Lib.hid ((HR2.out.below hb1).below HBA.out)
  have HU2a := Lib.hid ((HU2.out.below hb1).below HBA.out)
  have HD2a := Lib.hid ((HD2.out.below hb1).below HBA.out)
  clear hj1 hr3 hu3 hd3 hb1 x0 x1 x2 y0 y1 y2 hsx hsy HX HY HR HU HD HR2 HU2 HD2 HB HB1
  by_cases hf : f1 = 0
  case neg =>
    have hfb : (f1 != 0) = true := by simpa using hf
    obtain ⟨h1, h2, h3, _⟩ := HJ1.out.1 hf
    subst h1 h2 h3
    clear hf HXA HYA HRa HUa HDa HR2a HU2a HD2a
    have hsz := HZA.out.lt
    go_wp2_with fail
    with_reducible refine (awake_c _).mono ?_
    rintro e w3 ⟨rfl, hb3⟩
    have HB3 := Lib.hid (below_trans HBW.out hb3)
    clear hb3 hsz
    go_wp2
    go_ret
    exact GivesB.mk rfl HB3.out
  have hfb : (f1 != 0) = false := by simpa using hf
  subst hf
  have HS := Lib.hid (joinP_sizes HJ1.out)
  have HL3 := Lib.hid (joinP_len HJ1.out)
  have hz5 : ∀ i (h : i < rs3.length), (rs3[i]).nm.size ≤ 9223372036854775807 := by rw [HS.out.1]; exact hz
  have hz6 : ∀ i (h : i < us3.length), (us3[i]).size ≤ 9223372036854775807 := by rw [HS.out.2]; exact hz2
  have HR3a := Lib.hid (HR3.out.below HBA.out)
  have HU3a := Lib.hid (HU3.out.below HBA.out)
  have HD3a := Lib.hid (HD3.out.below HBA.out)
  clear HR3 HU3 HD3 HBA HS
  obtain ⟨g1, hg1⟩ : ∃ g1, g1 = w1.heap.size := ⟨_, rfl⟩
  rw [← hg1] at HZA
  obtain ⟨wA, hwA⟩ : ∃ wA, wA = w1.alloc (.cells (tiC RA3 rc3 rs3 UA3 uc3 us3 DA3 dc3 ds3) 26) := ⟨_, rfl⟩
  rw [← hwA] at HXA HYA HZA HBW HRa HUa HDa HR2a HU2a HD2a HR3a HU3a HD3a
  go_upto_region 4 with fail
  rw [← hg1, ← hwA]
  clear hg1 hwA
  have x0 := HXA.out.cell (i := 0) rfl
  have x1 := HXA.out.cell (i := 1) rfl
  have x2 := HXA.out.cell (i := 2) rfl
  have hsx := HXA.out.lt
  have y0 := HYA.out.cell (i := 0) rfl
  have y1 := HYA.out.cell (i := 1) rfl
  have y2 := HYA.out.cell (i := 2) rfl
  have hsy := HYA.out.lt
  go_wp2_with fail
  with_reducible refine (join_s RA2 rc2 rs2 UA2 uc2 us2 DA2 dc2 ds2 RA rc rs UA uc us DA dc ds wA HR2a.out HU2a.out HD2a.out hz3 hz4 HRa.out HUa.out HDa.out hz hz2).mono ?_
  rintro e w2 ⟨RA4, rc4, rs4, UA4, uc4, us4, DA4, dc4, ds4, f2, rfl, hj2, hr4, hu4, hd4, hb2⟩
  obtain ⟨hf2, hst⟩ := joinP_swap HJ1.out hj2
  subst hf2
  have HST := Lib.hid hst
  have HL4 := Lib.hid (joinP_len hj2)
  have HBA : Hid (Below w2.heap.size w2 (w2.alloc (.cells (tiC RA4 rc4 rs4 UA4 uc4 us4 DA4 dc4 ds4) 26))) := (Below.refl w2.heap.size w2).alloc (Nat.le_refl _) _
  have HBC := Lib.hid (below_trans hb2 HBA.out)
  have HYB := Lib.hid (HYA.out.below HBC.out)
  have HZB := Lib.hid (HZA.out.below HBC.out)
  have HVB : Hid (Bx (w2.alloc (.cells (tiC RA4 rc4 rs4 UA4 uc4 us4 DA4 dc4 ds4) 26)) w2.heap.size (tiC RA4 rc4 rs4 UA4 uc4 us4 DA4 dc4 ds4) 26) := Bx.new _ _ _
  have HBX := Lib.hid (below_trans HBW.out HBC.out)
  have HR2b := Lib.hid (HR2a.out.below HBC.out)
  have HU2b := Lib.hid (HU2a.out.below HBC.out)
  have HD2b := Lib.hid (HD2a.out.below HBC.out)
  have HR3b := Lib.hid (HR3a.out.below HBC.out)
  have HU3b := Lib.hid (HU3a.out.below HBC.out)
  have HD3b := Lib.hid (HD3a.out.below HBC.out)
  have HR4 := Lib.hid (hr4.below HBA.out)
  have HU4 := Lib.hid (hu4.below HBA.out)
  have HD4 := Lib.hid (hd4.below HBA.out)
  clear hj2 hr4 hu4 hd4 hb2 hst x0 x1 x2 hsx y0 y1 y2 hsy HXA HYA HZA HBA HBC HBW HRa HUa HDa HR2a HU2a HD2a HR3a HU3a HD3a
  obtain ⟨g2, hg2⟩ : ∃ g2, g2 = w2.heap.size := ⟨_, rfl⟩
  rw [← hg2] at HVB
  obtain ⟨wB, hwB⟩ : ∃ wB, wB = w2.alloc (.cells (tiC RA4 rc4 rs4 UA4 uc4 us4 DA4 dc4 ds4) 26) := ⟨_, rfl⟩
  rw [← hwB] at HYB HZB HVB HBX HR2b HU2b HD2b HR3b HU3b HD3b HR4 HU4 HD4
  go_upto_region 5 with fail
  rw [← hg2, ← hwB]
  clear hg2 hwB
  have y0 := HYB.out.cell (i := 0) rfl
  have y1 := HYB.out.cell (i := 1) rfl
  have y2 := HYB.out.cell (i := 2) rfl
  have hsy := HYB.out.lt
  have z0 := HZB.out.cell (i := 0) rfl
  have z1 := HZB.out.cell (i := 1) rfl
  have z2 := HZB.out.cell (i := 2) rfl
  have hsz := HZB.out.lt
  go_wp2_with fail
  with_reducible refine (join_s RA3 rc3 rs3 UA3 uc3 us3 DA3 dc3 ds3 RA2 rc2 rs2 UA2 uc2 us2 DA2 dc2 ds2 wB HR3b.out HU3b.out HD3b.out hz5 hz6 HR2b.out HU2b.out HD2b.out hz3 hz4).mono ?_
  rintro e w3 ⟨RA5, rc5, rs5, UA5, uc5, us5, DA5, dc5, ds5, f3, rfl, hj3, hr5, hu5, hd5, hb3⟩
  obtain ⟨hf3, hst⟩ := joinP_again HJ1.out hj3
  subst hf3
  have HST2 := Lib.hid hst
  have HL5 := Lib.hid (joinP_len hj3)
  have HBA : Hid (Below w3.heap.size w3 (w3.alloc (.cells (tiC RA5 rc5 rs5 UA5 uc5 us5 DA5 dc5 ds5) 26))) := (Below.refl w3.heap.size w3).alloc (Nat.le_refl _) _
  have HBC := Lib.hid (below_trans hb3 HBA.out)
  have HZC := Lib.hid (HZB.out.below HBC.out)
  have HVC := Lib.hid (HVB.out.below HBC.out)
  have HTC : Hid (Bx (w3.alloc (.cells (tiC RA5 rc5 rs5 UA5 uc5 us5 DA5 dc5 ds5) 26)) w3.heap.size (tiC RA5 rc5 rs5 UA5 uc5 us5 DA5 dc5 ds5) 26) := Bx.new _ _ _
  have HBY := Lib.hid (below_trans HBX.out HBC.out)
  have HR3c := Lib.hid (HR3b.out.below HBC.out)
  have HU3c := Lib.hid (HU3b.out.below HBC.out)
  have HD3c := Lib.hid (HD3b.out.below HBC.out)
  have HR4c := Lib.hid (HR4.out.below HBC.out)
  have HU4c := Lib.hid (HU4.out.below HBC.out)
  have HD4c := Lib.hid (HD4.out.below HBC.out)
  have HR5c := Lib.hid (hr5.below HBA.out)
  have HU5c := Lib.hid (hu5.below HBA.out)
  have HD5c := Lib.hid (hd5.below HBA.out)
  clear hj3 hr5 hu5 hd5 hb3 hst y0 y1 y2 hsy z0 z1 z2 hsz HYB HZB HVB HBA HBC HBX HR2b HU2b HD2b HR3b HU3b HD3b HR4 HU4 HD4 HJ1 hz hz2 hz3 hz4 hz5 hz6
  obtain ⟨g3, hg3⟩ : ∃ g3, g3 = w3.heap.size := ⟨_, rfl⟩
  rw [← hg3] at HTC
  obtain ⟨wC, hwC⟩ : ∃ wC, wC = w3.alloc (.cells (tiC RA5 rc5 rs5 UA5 uc5 us5 DA5 dc5 ds5) 26) := ⟨_, rfl⟩
  rw [← hwC] at HZC HVC HTC HBY HR3c HU3c HD3c HR4c HU4c HD4c HR5c HU5c HD5c
  go_upto_region 6 with fail
  rw [← hg3, ← hwC]
  clear hg3 hwC
  have z0 := HZC.out.cell (i := 0) rfl
  have z1 := HZC.out.cell (i := 1) rfl
  have z2 := HZC.out.cell (i := 2) rfl
  have hsz := HZC.out.lt
  have v0 := HVC.out.cell (i := 0) rfl
  have v1 := HVC.out.cell (i := 1) rfl
  have v2 := HVC.out.cell (i := 2) rfl
  have hsv := HVC.out.lt
  go_wp2_with fail
  with_reducible refine (sameTitle_c RA3 rc3 rs3 UA3 uc3 us3 DA3 dc3 ds3 RA4 rc4 rs4 UA4 uc4 us4 DA4 dc4 ds4 wC HR3c.out HU3c.out HD3c.out HR4c.out HU4c.out HD4c.out HL3.out HL4.out).mono ?_
  rintro e w4 ⟨r1, rfl, hr1, hb4⟩
  obtain rfl : r1 = true := hr1.2 HST.out
  have HZD := Lib.hid (HZC.out.below hb4)
  have HTD := Lib.hid (HTC.out.below hb4)
  have HBZ := Lib.hid (below_trans HBY.out hb4)
  have HR3d := Lib.hid (HR3c.out.below hb4)
  have HU3d := Lib.hid (HU3c.out.below hb4)
  have HD3d := Lib.hid (HD3c.out.below hb4)
  have HR5d := Lib.hid (HR5c.out.below hb4)
  have HU5d := Lib.hid (HU5c.out.below hb4)
  have HD5d := Lib.hid (HD5c.out.below hb4)
  clear hr1 hb4 z0 z1 z2 hsz v0 v1 v2 hsv HZC HVC HTC HBY HR3c HU3c HD3c HR4c HU4c HD4c HR5c HU5c HD5c
  have z0 := HZD.out.cell (i := 0) rfl
  have z1 := HZD.out.cell (i := 1) rfl
  have z2 := HZD.out.cell (i := 2) rfl
  have hsz := HZD.out.lt
  have v0 := HTD.out.cell (i := 0) rfl
  have v1 := HTD.out.cell (i := 1) rfl
  have v2 := HTD.out.cell (i := 2) rfl
  have hsv := HTD.out.lt
  go_wp2_with fail
  with_reducible refine (sameTitle_c RA3 rc3 rs3 UA3 uc3 us3 DA3 dc3 ds3 RA5 rc5 rs5 UA5 uc5 us5 DA5 dc5 ds5 w4 HR3d.out HU3d.out HD3d.out HR5d.out HU5d.out HD5d.out HL3.out HL5.out).mono ?_
  rintro e w5 ⟨r2, rfl, hr2, hb5⟩
  obtain rfl : r2 = true := hr2.2 HST2.out
  have HB5 := Lib.hid (below_trans HBZ.out hb5)
  clear hr2 hb5 z0 z1 z2 hsz v0 v1 v2 hsv HZD HTD HBZ
  go_wp2_with fail
  with_reducible refine (awake_c _).mono ?_
  rintro e w6 ⟨rfl, hb6⟩
  have HB6 := Lib.hid (below_trans HB5.out hb6)
  clear hb6
  go_wp2
  go_ret
  exact GivesB.mk rfl HB6.out
end Go.Proofs.YtlcfgejaeecclaaGreatDoor
