/- The reference's Controls. The law RightControlsMatchSpec as one call. -/
import Derived.Test.YtlcfgejaeecclaaGreatDoorZq47
set_option maxRecDepth 100000
set_option maxHeartbeats 8000000
namespace Go.Proofs.YtlcfgejaeecclaaGreatDoor
open Go.RowKit Dw
theorem checkWhere_c (RA : Option Addr) (rc : Nat) (rs : List Rg) (UA : Option Addr) (uc : Nat) (us : List ByteArray) (DA : Option Addr) (dc : Nat) (ds : List De) (pl use : ByteArray) (day : Int) (w : World)
  (hr : Rgs w RA rs) (hu : Strs w UA us) (hrl : rs.length ≤ 200) (hul : us.length ≤ 20) :
  Calls Tryz.prog 39 #[.agg (tiC RA rc rs UA uc us DA dc ds), .agg (whrC pl use day)] w (GivesB (.int .i64 (spotF rs us pl use day)) w) := by
 have hbw : Below w.heap.size w ((w.alloc (.cells (tiC RA rc rs UA uc us DA dc ds) 26)).alloc (.cells (whrC pl use day) 91)) := ((Below.refl _ _).alloc (Nat.le_refl _) _).alloc (by simp) _
 have HX : Hid (Bx ((w.alloc (.cells (tiC RA rc rs UA uc us DA dc ds) 26)).alloc (.cells (whrC pl use day) 91)) w.heap.size (tiC RA rc rs UA uc us DA dc ds) 26) := (Bx.new _ _ _).alloc _
 have HY : Hid (Bx ((w.alloc (.cells (tiC RA rc rs UA uc us DA dc ds) 26)).alloc (.cells (whrC pl use day) 91)) (w.heap.size + 1) (whrC pl use day) 91) := Bx.new1 _ _ _ _
 obtain ⟨W, hW⟩ : ∃ W, W = (w.alloc (.cells (tiC RA rc rs UA uc us DA dc ds) 26)).alloc (.cells (whrC pl use day) 91) := ⟨_, rfl⟩
 rw [← hW] at hbw HX HY
 have HB := zq hbw
 have HLF := zq (IsLeaf_c RA rc rs pl W hrl (hr.below hbw))
 have HHA := zq (has_c UA uc us use W (by omega) (hu.below hbw))
 have HDY := zq (isDayR_c day W)
 clear hbw hr hu
 go_enter Tryz.func39, Tryz.ntmps39
 go_upto_region 1 with fail
 rw [← hW]
 clear hW
 have x0 := HX.out.cell (i := 0) rfl
 have x1 := HX.out.cell (i := 1) rfl
 have hsx := HX.out.lt
 have y0 := HY.out.cell (i := 0) rfl
 have y1 := HY.out.cell (i := 1) rfl
 have y2 := HY.out.cell (i := 2) rfl
 have hsy := HY.out.lt
 go_wp2_with fail
 with_reducible refine HLF.out.mono ?_
 rintro e w1 ⟨rfl, rfl⟩
 cases hlb : leafB rs pl with
 | false =>
  have HF : Hid (spotF rs us pl use day = 5) := by show _ = _; unfold spotF; rw [hlb]; rfl
  clear hlb
  go_wp2
  go_ret
  exact GivesB.mk (vint HF.out.symm) HB.out
 | true =>
  have HLB := zq hlb
  clear hlb
  go_wp2_with fail
  with_reducible refine HHA.out.mono ?_
  rintro e w2 ⟨rfl, rfl⟩
  cases hmu : memS us use with
  | false =>
   have HF : Hid (spotF rs us pl use day = 5) := by show _ = _; unfold spotF; rw [HLB.out, hmu]; rfl
   clear hmu
   go_wp2
   go_ret
   exact GivesB.mk (vint HF.out.symm) HB.out
  | true =>
   have HMU := zq hmu
   clear hmu
   go_wp2_with fail
   with_reducible refine HDY.out.mono ?_
   rintro e w3 ⟨rfl, rfl⟩
   cases hdy : dayB day with
   | false =>
    have HF : Hid (spotF rs us pl use day = 1) := by show _ = _; unfold spotF; rw [HLB.out, HMU.out, hdy]; rfl
    clear hdy
    go_wp2
    go_ret
    exact GivesB.mk (vint HF.out.symm) HB.out
   | true =>
    have HF : Hid (spotF rs us pl use day = 0) := by show _ = _; unfold spotF; rw [HLB.out, HMU.out, hdy]; rfl
    clear hdy
    go_wp2
    go_ret
    exact GivesB.mk (vint HF.out.symm) HB.out
theorem to_ne {rs : List Rg} {us : List ByteArray} {ds : List De} (h : chkT rs us ds = 0) : ∀ d ∈ ds, d.kd = 3 → d.to_ ≠ emp := fun d hd hk => by
 obtain ⟨j, hj, rfl⟩ := List.getElem_of_mem hd
 have hc := (chkT_deeds h).2 j hj
 generalize ds[j] = d at hc hk
 unfold chkD at hc
 split at hc
 ·cases hc
 split at hc
 ·cases hc
 split at hc
 ·cases hc
 split at hc
 ·cases hc
 split at hc
 ·cases hc
 split at hc
 ·cases hc
 rw [if_pos (by rw [hk]; rfl)] at hc
 unfold giftF at hc
 split at hc
 ·cases hc
 next hn =>
 refine isNm_ne ?_
 cases hh : isNm d.to_ with
 | true => rfl
 | false => exact absurd (.inr (.inr hh)) hn
theorem spot_leaf {rs : List Rg} {us : List ByteArray} {pl use : ByteArray} {day : Int} (h : spotF rs us pl use day = 0) : leafB rs pl = true := by
 unfold spotF at h
 cases hl : leafB rs pl with
 | true => rfl
 | false => rw [hl] at h; cases h
theorem ControlsR_c (RA : Option Addr) (rc : Nat) (rs : List Rg) (UA : Option Addr) (uc : Nat) (us : List ByteArray) (DA : Option Addr) (dc : Nat) (ds : List De) (th ho pl use : ByteArray) (day : Int) (w : World)
  (hr : Rgs w RA rs) (hu : Strs w UA us) (hd : Des w DA ds) (hz : ∀ i (h : i < rs.length), (rs[i]).nm.size ≤ 9223372036854775807) (hz2 : ∀ i (h : i < us.length), (us[i]).size ≤ 9223372036854775807)
  (hth : th.size ≤ 9223372036854775807) (hho : ho.size ≤ 9223372036854775807) :
  Calls Tryz.prog 14 #[.agg (tiC RA rc rs UA uc us DA dc ds), .string th, .string ho, .string pl, .string use, .int .i64 day] w (GivesB (sfV (conF rs us ds th ho pl use day)) w) := by
 generalize hres : conF rs us ds th ho pl use day = res
 have HR := zq hres
 clear hres
 have HX : Hid (Bx (w.alloc (.cells (tiC RA rc rs UA uc us DA dc ds) 26)) w.heap.size (tiC RA rc rs UA uc us DA dc ds) 26) := Bx.new _ _ _
 have HB : Hid (Below w.heap.size w (w.alloc (.cells (tiC RA rc rs UA uc us DA dc ds) 26))) := (Below.refl _ _).alloc (Nat.le_refl _) _
 obtain ⟨W, hW⟩ : ∃ W, W = w.alloc (.cells (tiC RA rc rs UA uc us DA dc ds) 26) := ⟨_, rfl⟩
 rw [← hW] at HX HB
 have HCK := zq (CheckTR_c RA rc rs UA uc us DA dc ds W (hr.below HB.out) (hu.below HB.out) (hd.below HB.out) hz hz2)
 have HDw := zq hd
 have HUw := zq hu
 have HRw := zq hr
 clear hr hu hd
 go_enter Tryz.func14, Tryz.ntmps14
 go_upto_region 1 with fail
 rw [← hW]
 clear hW
 iterate 2 go_step
 refine wp_load_mid _ _ (by rfl) w.heap.size 0 (by rfl) (tiC RA rc rs UA uc us DA dc ds).toList _ (rangeB HX.out) Tryz.underlying26 rfl (by kernel_rfl) ?_
 go_wp2_with fail
 with_reducible refine HCK.out.mono ?_
 rintro e w1 ⟨rfl, hb1⟩
 have HB1 := zq (below_trans HB.out hb1)
 have HX1 := zq (HX.out.below hb1)
 clear hb1 HCK HX HB
 by_cases hc : chkT rs us ds = 0
 case neg =>
  have hcb : (chkT rs us ds != 0) = true := by simpa using hc
  have HS : Hid (res = (emp, chkT rs us ds)) := by show _ = _; rw [← HR.out, conF_chk hc]
  clear hc
  go_wp2
  go_ret2
  exact GivesB.mk (by first | (rw [HS.out]; rfl) | rw [HS.out]) HB1.out
 have HC := zq hc
 rw [hc]
 clear hc
 obtain ⟨hcr, hul, hdl⟩ := chkT_zero HC.out
 have HGR := zq (good_of hcr)
 have hrl := HGR.out.len
 have HN1 := zq (fun W => IsNameR_c th W hth)
 have HN2 := zq (fun W => IsNameR_c ho W hho)
 clear hcr
 go_wp2_with fail
 with_reducible refine (HN1.out _).mono ?_
 rintro e w2 ⟨rfl, rfl⟩
 cases hn1 : isNm th with
 | false =>
  have HS : Hid (res = (emp, 5)) := by show _ = _; rw [← HR.out, conF_nm HC.out (by rw [hn1]; rfl)]
  clear hn1
  go_wp2
  go_ret2
  exact GivesB.mk (by first | (rw [HS.out]; rfl) | rw [HS.out]) HB1.out
 | true =>
  go_wp2_with fail
  with_reducible refine (HN2.out _).mono ?_
  rintro e w3 ⟨rfl, rfl⟩
  cases hn2 : isNm ho with
  | false =>
   have HS : Hid (res = (emp, 5)) := by show _ = _; rw [← HR.out, conF_nm HC.out (by rw [hn2, Bool.and_false])]
   clear hn1 hn2
   go_wp2
   go_ret2
   exact GivesB.mk (by first | (rw [HS.out]; rfl) | rw [HS.out]) HB1.out
  | true =>
   have HNM : Hid ((isNm th && isNm ho) = true) := by show _ = _; rw [hn1, hn2]; rfl
   clear hn1 hn2 HN1 HN2
   go_upto_region 7 with fail
   generalize hwg : World.alloc _ (Obj.cells #[.string pl, .string use, .int .i64 day] _) = w4
   have HY4 : Hid (Bx w4 w1.heap.size (whrC pl use day) 91) := by show Bx _ _ _ _; rw [← hwg]; exact Bx.new _ _ _
   have hb4 : Below w1.heap.size w1 w4 := by rw [← hwg]; exact (Below.refl _ _).alloc (Nat.le_refl _) _
   have HB4 := zq (below_trans HB1.out hb4)
   have HX4 := zq (HX1.out.below hb4)
   clear hwg hb4 HX1 HB1
   have HCW := zq (checkWhere_c RA rc rs UA uc us DA dc ds pl use day w4 (HRw.out.below HB4.out) (HUw.out.below HB4.out) hrl hul)
   iterate 2 go_step
   refine wp_load_mid _ _ (by rfl) w.heap.size 0 (by rfl) (tiC RA rc rs UA uc us DA dc ds).toList _ (rangeB HX4.out) Tryz.underlying26 rfl (by kernel_rfl) ?_
   have y0 := HY4.out.cell (i := 0) rfl
   have y1 := HY4.out.cell (i := 1) rfl
   have y2 := HY4.out.cell (i := 2) rfl
   have hsy := HY4.out.lt
   go_wp2_with fail
   with_reducible refine HCW.out.mono ?_
   rintro e w5 ⟨rfl, hb5⟩
   have HB5 := zq (below_trans HB4.out hb5)
   have HX5 := zq (HX4.out.below hb5)
   have HY5 := zq (HY4.out.below hb5)
   clear hb5 y0 y1 y2 hsy HX4 HY4 HB4 HCW
   by_cases hs : spotF rs us pl use day = 0
   case neg =>
    have hcb : (spotF rs us pl use day != 0) = true := by simpa using hs
    have HS : Hid (res = (emp, spotF rs us pl use day)) := by show _ = _; rw [← HR.out, conF_sp HC.out HNM.out hs]
    clear hs
    go_wp2
    go_ret2
    exact GivesB.mk (by first | (rw [HS.out]; rfl) | rw [HS.out]) HB5.out
   have HS : Hid (res = (ctlF rs ds ((idx rs pl).getD 0) use day th ho, 0)) := by show _ = _; rw [← HR.out, conF_ok HC.out HNM.out hs]
   obtain ⟨_, _, _, hil, hin⟩ := leaf_idx HGR.out (spot_leaf hs)
   rw [List.getD_eq_getElem?_getD, List.getElem?_eq_getElem hil, Option.getD_some] at hin
   have HCT := zq (controlsR_c RA rc rs UA uc us DA dc ds ((idx rs pl).getD 0) th ho pl use day w5 (HRw.out.below HB5.out) (HDw.out.below HB5.out) HGR.out hil hin hdl (deeds_oneEnd HC.out) (short_of HC.out) (to_ne HC.out))
   rw [hs]
   clear hs hil hin
   have x2 := HX5.out.cell (i := 2) rfl
   have hsx := HX5.out.lt
   have y0 := HY5.out.cell (i := 0) rfl
   have y1 := HY5.out.cell (i := 1) rfl
   have y2 := HY5.out.cell (i := 2) rfl
   have hsy := HY5.out.lt
   go_upto_region 10 with fail
   iterate 2 go_step
   refine wp_load_mid _ _ (by rfl) w.heap.size 0 (by rfl) (tiC RA rc rs UA uc us DA dc ds).toList _ (rangeB HX5.out) Tryz.underlying26 rfl (by kernel_rfl) ?_
   go_wp2_with fail
   with_reducible refine HCT.out.mono ?_
   rintro e w6 ⟨rfl, hb6⟩
   have HB6 := zq (below_trans HB5.out hb6)
   clear hb6 x2 hsx y0 y1 y2 hsy
   go_wp2
   go_ret2
   exact GivesB.mk (by first | (rw [HS.out]; rfl) | rw [HS.out]) HB6.out
theorem lawO_c (RA : Option Addr) (rc : Nat) (rs : List Rg) (UA : Option Addr) (uc : Nat) (us : List ByteArray) (DA : Option Addr) (dc : Nat) (ds : List De) (th ho pl use : ByteArray) (day : Int) (w : World)
  (hr : Rgs w RA rs) (hu : Strs w UA us) (hd : Des w DA ds) (hz : ∀ i (h : i < rs.length), (rs[i]).nm.size ≤ 9223372036854775807) (hz2 : ∀ i (h : i < us.length), (us[i]).size ≤ 9223372036854775807) (hdc : ds.length ≤ dc)
  (hth : th.size ≤ 9223372036854775807) (hho : ho.size ≤ 9223372036854775807) :
  Calls Tryz.prog 5 #[.agg (tiC RA rc rs UA uc us DA dc ds), .string th, .string ho, .string pl, .string use, .int .i64 day] w (GivesB (.bool true) w) := by
 have HX : Hid (Bx (w.alloc (.cells (tiC RA rc rs UA uc us DA dc ds) 26)) w.heap.size (tiC RA rc rs UA uc us DA dc ds) 26) := Bx.new _ _ _
 have HB : Hid (Below w.heap.size w (w.alloc (.cells (tiC RA rc rs UA uc us DA dc ds) 26))) := (Below.refl _ _).alloc (Nat.le_refl _) _
 obtain ⟨W, hW⟩ : ∃ W, W = w.alloc (.cells (tiC RA rc rs UA uc us DA dc ds) 26) := ⟨_, rfl⟩
 rw [← hW] at HX HB
 have HR := zq (hr.below HB.out)
 have HU := zq (hu.below HB.out)
 have HD := zq (hd.below HB.out)
 clear hr hu hd
 go_enter Tryz.func5, Tryz.ntmps5
 go_upto_region 1 with fail
 rw [← hW]
 clear hW
 have HC := zq (Controls_c RA rc rs UA uc us DA dc ds th ho pl use day W HR.out HU.out HD.out hz hz2 hdc hth hho)
 obtain ⟨res, hres⟩ : ∃ res, res = conF rs us ds th ho pl use day := ⟨_, rfl⟩
 rw [← hres] at HC
 iterate 2 go_step
 refine wp_load_mid _ _ (by rfl) w.heap.size 0 (by rfl) (tiC RA rc rs UA uc us DA dc ds).toList _ (rangeB HX.out) Tryz.underlying26 rfl (by kernel_rfl) ?_
 go_wp2_with fail
 with_reducible refine HC.out.mono ?_
 rintro e w1 ⟨rfl, hb1⟩
 have HB1 := zq (below_trans HB.out hb1)
 have HX1 := zq (HX.out.below hb1)
 have HC2 := zq (ControlsR_c RA rc rs UA uc us DA dc ds th ho pl use day w1 (HR.out.below hb1) (HU.out.below hb1) (HD.out.below hb1) hz hz2 hth hho)
 rw [← hres] at HC2
 clear hb1 HB HX HC HR HU HD hres
 obtain ⟨ra, rf⟩ := res
 go_upto_region 2 with fail
 iterate 2 go_step
 refine wp_load_mid _ _ (by rfl) w.heap.size 0 (by rfl) (tiC RA rc rs UA uc us DA dc ds).toList _ (rangeB HX1.out) Tryz.underlying26 rfl (by kernel_rfl) ?_
 go_wp2_with fail
 with_reducible refine HC2.out.mono ?_
 rintro e w2 ⟨rfl, hb2⟩
 have HB2 := zq (below_trans HB1.out hb2)
 have ha := beq_of_eq (rfl : ra = ra)
 have hf : (rf == rf) = true := by simp
 clear hb2 HB1 HX1 HC2
 go_wp2_with fail
 with_reducible refine (awake_c _).mono ?_
 rintro e w3 ⟨rfl, hb3⟩
 have HB3 := zq (below_trans HB2.out hb3)
 clear hb3
 go_wp2
 go_ret
 exact GivesB.mk rfl HB3.out
end Go.Proofs.YtlcfgejaeecclaaGreatDoor
