/- The law RightJoinsMatchSpec as one call. -/
import Derived.Test.YtlcfgejaeecclaaGreatDoorZq40
import Derived.Test.YtlcfgejaeecclaaGreatDoorZq41
set_option maxRecDepth 100000
set_option maxHeartbeats 8000000
namespace Go.Proofs.YtlcfgejaeecclaaGreatDoor
open Go.RowKit Dw
theorem joined_one {a b S S' : List De} (h : Joined a b S) (h' : Joined a b S') : S' = S :=
 sort_same (lt := fun x y => deLt x y = true) deLt_asymm h'.1 h.1 h'.strict h.strict fun _ => Iff.rfl
theorem joinBad_one {rs : List Rg} {us : List ByteArray} {ds : List De} {rs2 : List Rg} {us2 : List ByteArray} {ds2 : List De} {f g : Int} (h : JoinBad rs us ds rs2 us2 ds2 f) (h' : JoinBad rs us ds rs2 us2 ds2 g) : f = g := by
 rcases h with ⟨a1, a2⟩ | ⟨a1, a2, a3⟩ | ⟨a1, a2, a3, a4⟩ | ⟨a1, a2, a3, a4, a5⟩ | ⟨a1, a2, a3, a4, S, a5, a6, a7⟩
 ·rcases h' with ⟨b1, b2⟩ | ⟨b1, _⟩ | ⟨b1, _⟩ | ⟨b1, _⟩ | ⟨b1, _⟩
  ·rw [a2, b2]
  all_goals exact absurd b1 a1
 ·rcases h' with ⟨b1, _⟩ | ⟨b1, b2, b3⟩ | ⟨_, b2, _⟩ | ⟨_, b2, _⟩ | ⟨_, b2, _⟩
  ·exact absurd a1 b1
  ·rw [a3, b3]
  all_goals exact absurd b2 a2
 ·rcases h' with ⟨b1, _⟩ | ⟨_, b2, _⟩ | ⟨_, _, b3, b4⟩ | ⟨_, _, b3, _⟩ | ⟨_, _, b3, _⟩
  ·exact absurd a1 b1
  ·exact absurd a2 b2
  ·rw [a4, b4]
  all_goals exact absurd b3 (fun h => a3.elim (fun k => k h.1) (fun k => k h.2))
 ·rcases h' with ⟨b1, _⟩ | ⟨_, b2, _⟩ | ⟨_, _, b3, _⟩ | ⟨_, _, _, b4, b5⟩ | ⟨_, _, _, b4, _⟩
  ·exact absurd a1 b1
  ·exact absurd a2 b2
  ·exact absurd a3 (fun h => b3.elim (fun k => k h.1) (fun k => k h.2))
  ·rw [a5, b5]
  ·exact absurd b4 a4
 ·rcases h' with ⟨b1, _⟩ | ⟨_, b2, _⟩ | ⟨_, _, b3, _⟩ | ⟨_, _, _, b4, b5⟩ | ⟨_, _, _, b4, S', b5, b6, b7⟩
  ·exact absurd a1 b1
  ·exact absurd a2 b2
  ·exact absurd a3 (fun h => b3.elim (fun k => k h.1) (fun k => k h.2))
  ·exact absurd a4 b4
  ·rw [a7, b7, joined_one a5 b5]
theorem joinP_one {rs rs2 R R' : List Rg} {us us2 U U' : List ByteArray} {ds ds2 S S' : List De} {f g : Int} (h : JoinP rs us ds rs2 us2 ds2 f R U S) (h' : JoinP rs us ds rs2 us2 ds2 g R' U' S') : f = g ∧ SameT R U S R' U' S' := by
 by_cases hf : f = 0
 ·obtain ⟨c1, c2, e1, e2, hk, rfl, rfl, hj, cs⟩ := h.2 hf
  have hg : g = 0 := by
   refine Classical.byContradiction fun hg => (h'.1 hg).2.2.2.no ⟨c1, c2, e1, e2, hk, fun S'' hS => ?_⟩
   rw [joined_one hj hS, chkT_plain]
   exact cs
  obtain ⟨_, _, _, _, _, rfl, rfl, hj', _⟩ := h'.2 hg
  exact ⟨hf.trans hg.symm, sameT_of (joined_one hj hj').symm⟩
 ·obtain ⟨rfl, rfl, rfl, hb⟩ := h.1 hf
  have hg : g ≠ 0 := by
   intro hg
   obtain ⟨c1, c2, e1, e2, hk, _, _, hj', cs⟩ := h'.2 hg
   refine hb.no ⟨c1, c2, e1, e2, hk, fun S'' hS => ?_⟩
   rw [joined_one hj' hS, chkT_plain]
   exact cs
  obtain ⟨rfl, rfl, rfl, hb'⟩ := h'.1 hg
  exact ⟨joinBad_one hb hb', rfl, rfl, rfl, fun i hi => absurd hi (by simp)⟩
theorem joinP_lens {rs rs2 R : List Rg} {us us2 U : List ByteArray} {ds ds2 S : List De} {f : Int} (h : JoinP rs us ds rs2 us2 ds2 f R U S) : R.length ≤ 140737488355328 ∧ U.length ≤ 140737488355328 ∧ S.length ≤ 140737488355328 := by
 by_cases hf : f = 0
 ·subst hf; exact joinP_len h
 ·obtain ⟨rfl, rfl, rfl, _⟩ := h.1 hf
  simp
theorem lawK_c (RA : Option Addr) (rc : Nat) (rs : List Rg) (UA : Option Addr) (uc : Nat) (us : List ByteArray) (DA : Option Addr) (dc : Nat) (ds : List De)
  (RA2 : Option Addr) (rc2 : Nat) (rs2 : List Rg) (UA2 : Option Addr) (uc2 : Nat) (us2 : List ByteArray) (DA2 : Option Addr) (dc2 : Nat) (ds2 : List De) (w : World)
  (hr : Rgs w RA rs) (hu : Strs w UA us) (hd : Des w DA ds) (hz : ∀ i (h : i < rs.length), (rs[i]).nm.size ≤ 9223372036854775807) (hz2 : ∀ i (h : i < us.length), (us[i]).size ≤ 9223372036854775807)
  (hr2 : Rgs w RA2 rs2) (hu2 : Strs w UA2 us2) (hd2 : Des w DA2 ds2) (hz3 : ∀ i (h : i < rs2.length), (rs2[i]).nm.size ≤ 9223372036854775807) (hz4 : ∀ i (h : i < us2.length), (us2[i]).size ≤ 9223372036854775807) :
  Calls Tryz.prog 7 #[.agg (tiC RA rc rs UA uc us DA dc ds), .agg (tiC RA2 rc2 rs2 UA2 uc2 us2 DA2 dc2 ds2)] w (GivesB (.bool true) w) := by
 have HB : Hid (Below w.heap.size w ((w.alloc (.cells (tiC RA rc rs UA uc us DA dc ds) 26)).alloc (.cells (tiC RA2 rc2 rs2 UA2 uc2 us2 DA2 dc2 ds2) 26))) := ((Below.refl w.heap.size w).alloc (Nat.le_refl _) _).alloc (by simp) _
 have HX : Hid (Bx ((w.alloc (.cells (tiC RA rc rs UA uc us DA dc ds) 26)).alloc (.cells (tiC RA2 rc2 rs2 UA2 uc2 us2 DA2 dc2 ds2) 26)) w.heap.size (tiC RA rc rs UA uc us DA dc ds) 26) := (Bx.new _ _ _).alloc _
 have HY : Hid (Bx ((w.alloc (.cells (tiC RA rc rs UA uc us DA dc ds) 26)).alloc (.cells (tiC RA2 rc2 rs2 UA2 uc2 us2 DA2 dc2 ds2) 26)) (w.heap.size + 1) (tiC RA2 rc2 rs2 UA2 uc2 us2 DA2 dc2 ds2) 26) := Bx.new1 _ _ _ _
 obtain ⟨W, hW⟩ : ∃ W, W = (w.alloc (.cells (tiC RA rc rs UA uc us DA dc ds) 26)).alloc (.cells (tiC RA2 rc2 rs2 UA2 uc2 us2 DA2 dc2 ds2) 26) := ⟨_, rfl⟩
 rw [← hW] at HB HX HY
 have HR := zq (hr.below HB.out)
 have HU := zq (hu.below HB.out)
 have HD := zq (hd.below HB.out)
 have HR2 := zq (hr2.below HB.out)
 have HU2 := zq (hu2.below HB.out)
 have HD2 := zq (hd2.below HB.out)
 clear hr hu hd hr2 hu2 hd2
 go_enter Tryz.func7, Tryz.ntmps7
 iterate 13 go_step
 rw [← hW]
 clear hW
 have x0 := HX.out.cell (i := 0) rfl
 have x1 := HX.out.cell (i := 1) rfl
 have x2 := HX.out.cell (i := 2) rfl
 have y0 := HY.out.cell (i := 0) rfl
 have y1 := HY.out.cell (i := 1) rfl
 have y2 := HY.out.cell (i := 2) rfl
 have hsx := HX.out.lt
 have hsy := HY.out.lt
 go_wp2_with fail
 with_reducible refine (join_s RA rc rs UA uc us DA dc ds RA2 rc2 rs2 UA2 uc2 us2 DA2 dc2 ds2 W HR.out HU.out HD.out hz hz2 HR2.out HU2.out HD2.out hz3 hz4).mono ?_
 rintro e w1 ⟨RA3, rc3, rs3, UA3, uc3, us3, DA3, dc3, ds3, f1, rfl, hj1, hr3, hu3, hd3, hb1⟩
 have HJ1 := zq hj1
 have HB1 := zq (below_trans HB.out hb1)
 have HBA : Hid (Below w1.heap.size w1 (w1.alloc (.cells (tiC RA3 rc3 rs3 UA3 uc3 us3 DA3 dc3 ds3) 26))) := (Below.refl w1.heap.size w1).alloc (Nat.le_refl _) _
 have HXA := zq ((HX.out.below hb1).below HBA.out)
 have HYA := zq ((HY.out.below hb1).below HBA.out)
 have HZA : Hid (Bx (w1.alloc (.cells (tiC RA3 rc3 rs3 UA3 uc3 us3 DA3 dc3 ds3) 26)) w1.heap.size (tiC RA3 rc3 rs3 UA3 uc3 us3 DA3 dc3 ds3) 26) := Bx.new _ _ _
 have HBW := zq (below_trans HB1.out HBA.out)
 have HRa := zq ((HR.out.below hb1).below HBA.out)
 have HUa := zq ((HU.out.below hb1).below HBA.out)
 have HDa := zq ((HD.out.below hb1).below HBA.out)
 have HR2a := zq ((HR2.out.below hb1).below HBA.out)
 have HU2a := zq ((HU2.out.below hb1).below HBA.out)
 have HD2a := zq ((HD2.out.below hb1).below HBA.out)
 have HR3a := zq (hr3.below HBA.out)
 have HU3a := zq (hu3.below HBA.out)
 have HD3a := zq (hd3.below HBA.out)
 clear hj1 hr3 hu3 hd3 hb1 x0 x1 x2 y0 y1 y2 hsx hsy HX HY HR HU HD HR2 HU2 HD2 HB HB1 HBA
 obtain ⟨g1, hg1⟩ : ∃ g1, g1 = w1.heap.size := ⟨_, rfl⟩
 rw [← hg1] at HZA
 obtain ⟨wA, hwA⟩ : ∃ wA, wA = w1.alloc (.cells (tiC RA3 rc3 rs3 UA3 uc3 us3 DA3 dc3 ds3) 26) := ⟨_, rfl⟩
 rw [← hwA] at HXA HYA HZA HBW HRa HUa HDa HR2a HU2a HD2a HR3a HU3a HD3a
 go_upto_region 2 with fail
 rw [← hg1, ← hwA]
 clear hg1 hwA
 have x0 := HXA.out.cell (i := 0) rfl
 have x1 := HXA.out.cell (i := 1) rfl
 have x2 := HXA.out.cell (i := 2) rfl
 have hsx := HXA.out.lt
 have y0 := HYA.out.cell (i := 0) rfl
 have y1 := HYA.out.cell (i := 1) rfl
 have y2 := HYA.out.cell (i := 2) rfl
 have hsy := HYA.out.lt
 go_wp2_with fail
 with_reducible refine (joinR_s RA rc rs UA uc us DA dc ds RA2 rc2 rs2 UA2 uc2 us2 DA2 dc2 ds2 wA HRa.out HUa.out HDa.out hz hz2 HR2a.out HU2a.out HD2a.out hz3 hz4).mono ?_
 rintro e w2 ⟨RA4, rc4, rs4, UA4, uc4, us4, DA4, dc4, ds4, f2, rfl, hj2, hr4, hu4, hd4, hb2⟩
 have HL3 := zq (joinP_lens HJ1.out)
 have HL4 := zq (joinP_lens hj2)
 obtain ⟨hf2, hst⟩ := joinP_one HJ1.out hj2
 subst hf2
 have HST := zq hst
 have HBA : Hid (Below w2.heap.size w2 (w2.alloc (.cells (tiC RA4 rc4 rs4 UA4 uc4 us4 DA4 dc4 ds4) 26))) := (Below.refl w2.heap.size w2).alloc (Nat.le_refl _) _
 have HBC := zq (below_trans hb2 HBA.out)
 have HZB := zq (HZA.out.below HBC.out)
 have HVB : Hid (Bx (w2.alloc (.cells (tiC RA4 rc4 rs4 UA4 uc4 us4 DA4 dc4 ds4) 26)) w2.heap.size (tiC RA4 rc4 rs4 UA4 uc4 us4 DA4 dc4 ds4) 26) := Bx.new _ _ _
 have HBX := zq (below_trans HBW.out HBC.out)
 have HR3b := zq (HR3a.out.below HBC.out)
 have HU3b := zq (HU3a.out.below HBC.out)
 have HD3b := zq (HD3a.out.below HBC.out)
 have HR4 := zq (hr4.below HBA.out)
 have HU4 := zq (hu4.below HBA.out)
 have HD4 := zq (hd4.below HBA.out)
 clear hj2 hr4 hu4 hd4 hb2 hst x0 x1 x2 hsx y0 y1 y2 hsy HXA HYA HZA HBA HBC HBW HRa HUa HDa HR2a HU2a HD2a HR3a HU3a HD3a HJ1 hz hz2 hz3 hz4
 obtain ⟨g2, hg2⟩ : ∃ g2, g2 = w2.heap.size := ⟨_, rfl⟩
 rw [← hg2] at HVB
 obtain ⟨wB, hwB⟩ : ∃ wB, wB = w2.alloc (.cells (tiC RA4 rc4 rs4 UA4 uc4 us4 DA4 dc4 ds4) 26) := ⟨_, rfl⟩
 rw [← hwB] at HZB HVB HBX HR3b HU3b HD3b HR4 HU4 HD4
 go_upto_region 3 with fail
 rw [← hg2, ← hwB]
 clear hg2 hwB
 have z0 := HZB.out.cell (i := 0) rfl
 have z1 := HZB.out.cell (i := 1) rfl
 have z2 := HZB.out.cell (i := 2) rfl
 have hsz := HZB.out.lt
 have v0 := HVB.out.cell (i := 0) rfl
 have v1 := HVB.out.cell (i := 1) rfl
 have v2 := HVB.out.cell (i := 2) rfl
 have hsv := HVB.out.lt
 go_wp2_with fail
 with_reducible refine (sameTitle_c RA3 rc3 rs3 UA3 uc3 us3 DA3 dc3 ds3 RA4 rc4 rs4 UA4 uc4 us4 DA4 dc4 ds4 wB HR3b.out HU3b.out HD3b.out HR4.out HU4.out HD4.out HL3.out HL4.out).mono ?_
 rintro e w3 ⟨r1, rfl, hr1, hb3⟩
 obtain rfl : r1 = true := hr1.2 HST.out
 have HB3 := zq (below_trans HBX.out hb3)
 have hff : (f1 == f1) = true := by simp
 clear hr1 hb3 z0 z1 z2 hsz v0 v1 v2 hsv HZB HVB HBX HR3b HU3b HD3b HR4 HU4 HD4
 go_wp2_with fail
 with_reducible refine (awake_c _).mono ?_
 rintro e w4 ⟨rfl, hb4⟩
 have HB4 := zq (below_trans HB3.out hb4)
 clear hb4
 go_wp2
 go_ret
 exact GivesB.mk rfl HB4.out
end Go.Proofs.YtlcfgejaeecclaaGreatDoor
