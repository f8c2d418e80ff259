/- The reference's Join, walked. -/
import Derived.Test.YtlcfgejaeecclaaGreatDoorZq33
import Derived.Test.YtlcfgejaeecclaaGreatDoorZq39
import Derived.Deep.CutRange
set_option maxRecDepth 100000
set_option maxHeartbeats 8000000
namespace Go.Proofs.YtlcfgejaeecclaaGreatDoor
open Go.RowKit Dw
structure TwoT where
 RA : Option Addr
 rc : Nat
 rs : List Rg
 UA : Option Addr
 uc : Nat
 us : List ByteArray
 DA : Option Addr
 dc : Nat
 ds : List De
 RA2 : Option Addr
 rc2 : Nat
 rs2 : List Rg
 UA2 : Option Addr
 uc2 : Nat
 us2 : List ByteArray
 DA2 : Option Addr
 dc2 : Nat
 ds2 : List De
structure RJ (w : World) (t : TwoT) (g base : Nat) (v : Value) (outs : List De) (W : World) : Prop where
 bel : Below w.heap.size w W
 t1 : Bx W w.heap.size (tiC t.RA t.rc t.rs t.UA t.uc t.us t.DA t.dc t.ds) 26
 t2 : Bx W (w.heap.size + 1) (tiC t.RA2 t.rc2 t.rs2 t.UA2 t.uc2 t.us2 t.DA2 t.dc2 t.ds2) 26
 rz : Bx W (w.heap.size + 1 + 1) #[.slice none 0 0, .slice none 0 0, .slice none 0 0] 26
 out : Bx W g #[.slice t.RA t.rs.length t.rc, .slice t.UA t.us.length t.uc, v] 26
 own : OwnL eD 16 W base 54 v outs
 lo : w.heap.size + 1 + 1 < g
 hi : g < base
 sz : base ≤ W.heap.size
section
variable {w W W' : World} {t : TwoT} {g base : Nat} {v : Value} {outs : List De}
theorem RJ.below (h : RJ w t g base v outs W) (hb : Below W.heap.size W W') : RJ w t g base v outs W' :=
 ⟨below_trans h.bel hb, h.t1.below hb, h.t2.below hb, h.rz.below hb, h.out.below hb, h.own.below hb, h.lo, h.hi, Nat.le_trans h.sz hb.size⟩
theorem RJ.drewN (h : RJ w t g base v outs W) (n : Nat) : RJ w t g base v outs (W.drewN n) := ⟨below_drewN h.bel n, h.t1, h.t2, h.rz, h.out, h.own.drewN n, h.lo, h.hi, h.sz⟩
end
def OuterR (w : World) (t : TwoT) (g base : Nat) (m : Nat) (i : Value) (wr : World) : Prop :=
 ∃ v outs k, RJ w t g base v outs wr ∧ k + m = t.ds2.length ∧ i = .int .i64 (k : Nat) ∧ outs.length ≤ t.ds.length + k ∧ Joined (t.ds.map plainD) ((t.ds2.take k).map plainD) (outs.map plainD) ∧
  (∀ x ∈ t.ds, ∀ j (h : j < t.ds2.length), j < k → x.id = t.ds2[j].id → SameD x t.ds2[j]) ∧ ∀ o ∈ outs, o ∈ t.ds ∨ o ∈ t.ds2
def InnR (w : World) (t : TwoT) (g base : Nat) (v : Value) (outs : List De) (y : De) (m : Nat) (fl i : Value) (wr : World) : Prop :=
 ∃ (j : Nat) (b : Bool), RJ w t g base v outs wr ∧ j + m = t.ds.length ∧ i = .int .i64 (j : Nat) ∧ fl = .bool b ∧ (b = true → ∀ x ∈ t.ds.take j, x.id ≠ y.id) ∧ (b = false → ∃ x ∈ t.ds.take j, x.id = y.id) ∧ ∀ x ∈ t.ds.take j, x.id = y.id → SameD x y
def PosR (w : World) (t : TwoT) (g base : Nat) (v : Value) (outs : List De) (y : De) (m : Nat) (i : Value) (wr : World) : Prop :=
 RJ w t g base v outs wr ∧ i = .int .i64 (m : Nat) ∧ m ≤ outs.length ∧ ∀ q (h : q < outs.length), m ≤ q → deLt y outs[q] = true
def leftB (outs : List De) (y : De) (p : Nat) : Bool := decide (0 < p) && deLt y (outs.getD (p - 1) default)
theorem gt_of_slt {x y : ByteArray} (h : slt x y = true) : Op.bytesLess y.toList x.toList = false ∧ (y.toList == x.toList) = false :=
 ⟨slt_asymm h, beq_of_ne fun e => ne_of_slt h e.symm⟩
theorem ngt_of_slt {x y : ByteArray} (h : slt x y = false) : Op.bytesLess y.toList x.toList = true ∨ (Op.bytesLess y.toList x.toList = false ∧ (y.toList == x.toList) = true) := by
 cases hb : Op.bytesLess y.toList x.toList with
 | true => exact .inl rfl
 | false => exact .inr ⟨rfl, beq_of_eq (slt_antisymm hb h)⟩
theorem RJ.store {w W : World} {t : TwoT} {g base base2 : Nat} {v v2 : Value} {outs outs2 : List De} (h : RJ w t g base v outs W) (ho : OwnL eD 16 W base2 54 v2 outs2) (hb : base ≤ base2) : RJ w t g base v2 outs2 (W.setCell ⟨g, 2, none⟩ v2) := by
 have hl := h.lo
 exact ⟨h.bel.setCell (by show w.heap.size ≤ g; omega) _, h.t1.far (by show w.heap.size ≠ g; omega) _, h.t2.far (by show w.heap.size + 1 ≠ g; omega) _, h.rz.far (by show w.heap.size + 1 + 1 ≠ g; omega) _, h.out.set 2 _, ownsRow_setCell_below (OwnL.base ho hb) h.hi _, h.lo, h.hi, by rw [World.size_setCell]; exact h.sz⟩
theorem leftB_ins {outs : List De} {y : De} {p : Nat} (hp : p ≤ outs.length) (hl : leftB outs y p = false) (h : ∀ q (h : q < outs.length), p ≤ q → deLt y outs[q] = true) : InsAt (outs.map plainD) (plainD y) p := by
 refine ⟨by rw [List.length_map]; exact hp, fun h0 h2 => ?_, fun q hq hpq => ?_⟩
 ·rw [List.length_map] at h2
  rw [List.getElem_map]
  unfold leftB at hl
  rw [decide_eq_true h0, List.getD_eq_getElem?_getD, List.getElem?_eq_getElem h2] at hl
  exact hl
 ·rw [List.length_map] at hq
  rw [List.getElem_map]
  exact h q hq hpq
theorem joinR_s (RA : Option Addr) (rc : Nat) (rs : List Rg) (UA : Option Addr) (uc : Nat) (us : List ByteArray) (DA : Option Addr) (dc : Nat) (ds : List De)
  (RA2 : Option Addr) (rc2 : Nat) (rs2 : List Rg) (UA2 : Option Addr) (uc2 : Nat) (us2 : List ByteArray) (DA2 : Option Addr) (dc2 : Nat) (ds2 : List De) (w : World)
  (hr : Rgs w RA rs) (hu : Strs w UA us) (hd : Des w DA ds) (hz : ∀ i (h : i < rs.length), (rs[i]).nm.size ≤ 9223372036854775807) (hz2 : ∀ i (h : i < us.length), (us[i]).size ≤ 9223372036854775807)
  (hr2 : Rgs w RA2 rs2) (hu2 : Strs w UA2 us2) (hd2 : Des w DA2 ds2) (hz3 : ∀ i (h : i < rs2.length), (rs2[i]).nm.size ≤ 9223372036854775807) (hz4 : ∀ i (h : i < us2.length), (us2[i]).size ≤ 9223372036854775807) :
  Calls Tryz.prog 19 #[.agg (tiC RA rc rs UA uc us DA dc ds), .agg (tiC RA2 rc2 rs2 UA2 uc2 us2 DA2 dc2 ds2)] w (GivesJ rs us ds rs2 us2 ds2 w) := by
 have HB : Hid (Below w.heap.size w (((w.alloc (.cells (tiC RA rc rs UA uc us DA dc ds) 26)).alloc (.cells (tiC RA2 rc2 rs2 UA2 uc2 us2 DA2 dc2 ds2) 26)).alloc (.cells #[.slice none 0 0, .slice none 0 0, .slice none 0 0] 26))) := (((Below.refl w.heap.size w).alloc (Nat.le_refl _) _).alloc (by simp) _).alloc (by simp; omega) _
 have HX : Hid (Bx (((w.alloc (.cells (tiC RA rc rs UA uc us DA dc ds) 26)).alloc (.cells (tiC RA2 rc2 rs2 UA2 uc2 us2 DA2 dc2 ds2) 26)).alloc (.cells #[.slice none 0 0, .slice none 0 0, .slice none 0 0] 26)) w.heap.size (tiC RA rc rs UA uc us DA dc ds) 26) := ((Bx.new _ _ _).alloc _).alloc _
 have HY : Hid (Bx (((w.alloc (.cells (tiC RA rc rs UA uc us DA dc ds) 26)).alloc (.cells (tiC RA2 rc2 rs2 UA2 uc2 us2 DA2 dc2 ds2) 26)).alloc (.cells #[.slice none 0 0, .slice none 0 0, .slice none 0 0] 26)) (w.heap.size + 1) (tiC RA2 rc2 rs2 UA2 uc2 us2 DA2 dc2 ds2) 26) := (Bx.new1 _ _ _ _).alloc _
 have HZ : Hid (Bx (((w.alloc (.cells (tiC RA rc rs UA uc us DA dc ds) 26)).alloc (.cells (tiC RA2 rc2 rs2 UA2 uc2 us2 DA2 dc2 ds2) 26)).alloc (.cells #[.slice none 0 0, .slice none 0 0, .slice none 0 0] 26)) (w.heap.size + 1 + 1) #[.slice none 0 0, .slice none 0 0, .slice none 0 0] 26) := Bx.new2 _ _ _ _ _
 obtain ⟨W, hW⟩ : ∃ W, W = ((w.alloc (.cells (tiC RA rc rs UA uc us DA dc ds) 26)).alloc (.cells (tiC RA2 rc2 rs2 UA2 uc2 us2 DA2 dc2 ds2) 26)).alloc (.cells #[.slice none 0 0, .slice none 0 0, .slice none 0 0] 26) := ⟨_, rfl⟩
 rw [← hW] at HB HX HY HZ
 have HCK := zq (CheckTR_c RA rc rs UA uc us DA dc ds W (hr.below HB.out) (hu.below HB.out) (hd.below HB.out) hz hz2)
 go_enter Tryz.func19, Tryz.ntmps19
 iterate 17 go_step
 rw [← hW]
 clear hW
 have HR2 := zq (hr2.below HB.out)
 have HU2 := zq (hu2.below HB.out)
 have HD2 := zq (hd2.below HB.out)
 have HR := zq (hr.below HB.out)
 have HU := zq (hu.below HB.out)
 have HD := zq (hd.below HB.out)
 have HRw := zq hr
 have HUw := zq hu
 have HDw := zq hd
 have HD2w := zq hd2
 clear hr hu hd hr2 hu2 hd2
 have hsx := HX.out.lt
 have x0 := HX.out.cell (i := 0) rfl
 have x1 := HX.out.cell (i := 1) rfl
 have x2 := HX.out.cell (i := 2) rfl
 go_wp2_with fail
 with_reducible refine HCK.out.mono ?_
 rintro e w1 ⟨rfl, hb1⟩
 have HB1 := zq (below_trans HB.out hb1)
 have HX1 := zq (HX.out.below hb1)
 have HY1 := zq (HY.out.below hb1)
 have HZ1 := zq (HZ.out.below hb1)
 have HR1 := zq (HR.out.below hb1)
 have HU1 := zq (HU.out.below hb1)
 have HD1 := zq (HD.out.below hb1)
 have HR21 := zq (HR2.out.below hb1)
 have HU21 := zq (HU2.out.below hb1)
 have HD21 := zq (HD2.out.below hb1)
 clear hsx x0 x1 x2 hb1 HB HX HY HZ HR HU HD HR2 HU2 HD2 HCK
 by_cases hc1 : chkT rs us ds = 0
 case neg =>
  have hcb : (chkT rs us ds != 0) = true := by simpa using hc1
  have z0 := HZ1.out.cell (i := 0) rfl
  have z1 := HZ1.out.cell (i := 1) rfl
  have z2 := HZ1.out.cell (i := 2) rfl
  have f0 := HZ1.out.frozen 0
  have f1 := HZ1.out.frozen 1
  have f2 := HZ1.out.frozen 2
  have hsz := HZ1.out.lt
  have HNZ : Hid (chkT rs us ds ≠ 0) := hc1
  have HNO : Hid (JoinBad rs us ds rs2 us2 ds2 (chkT rs us ds)) := .inl ⟨hc1, rfl⟩
  clear hc1
  go_wp2
  refine bodyPost_ret (v := .tuple #[.agg #[.slice none 0 0, .slice none 0 0, .slice none 0 0], .int .i64 (chkT rs us ds)]) ?_ rfl ?_
  ·simp [results, Tryz.results19, go_sem, z0, z1, z2]
  ·exact GivesJ.bad HNZ.out HNO.out (below_set3 HB1.out (by omega) _ _ _)
 have HC1 := zq hc1
 rw [hc1]
 clear hc1
 have HCK := zq (CheckTR_c RA2 rc2 rs2 UA2 uc2 us2 DA2 dc2 ds2 w1 HR21.out HU21.out HD21.out hz3 hz4)
 have hsy := HY1.out.lt
 have y0 := HY1.out.cell (i := 0) rfl
 have y1 := HY1.out.cell (i := 1) rfl
 have y2 := HY1.out.cell (i := 2) rfl
 go_wp2_with fail
 with_reducible refine HCK.out.mono ?_
 rintro e w2 ⟨rfl, hb2⟩
 have HB2 := zq (below_trans HB1.out hb2)
 have HX2 := zq (HX1.out.below hb2)
 have HY2 := zq (HY1.out.below hb2)
 have HZ2 := zq (HZ1.out.below hb2)
 have HR2 := zq (HR1.out.below hb2)
 have HU2 := zq (HU1.out.below hb2)
 have HD2 := zq (HD1.out.below hb2)
 have HR22 := zq (HR21.out.below hb2)
 have HU22 := zq (HU21.out.below hb2)
 have HD22 := zq (HD21.out.below hb2)
 clear hsy y0 y1 y2 hb2 HB1 HX1 HY1 HZ1 HR1 HU1 HD1 HR21 HU21 HD21 HCK
 have z0 := HZ2.out.cell (i := 0) rfl
 have z1 := HZ2.out.cell (i := 1) rfl
 have z2 := HZ2.out.cell (i := 2) rfl
 have f0 := HZ2.out.frozen 0
 have f1 := HZ2.out.frozen 1
 have f2 := HZ2.out.frozen 2
 have hsz := HZ2.out.lt
 by_cases hc2 : chkT rs2 us2 ds2 = 0
 case neg =>
  have hcb : (chkT rs2 us2 ds2 != 0) = true := by simpa using hc2
  have HNZ : Hid (chkT rs2 us2 ds2 ≠ 0) := hc2
  have HNO : Hid (JoinBad rs us ds rs2 us2 ds2 (chkT rs2 us2 ds2)) := .inr (.inl ⟨HC1.out, hc2, rfl⟩)
  clear hc2
  go_wp2
  refine bodyPost_ret (v := .tuple #[.agg #[.slice none 0 0, .slice none 0 0, .slice none 0 0], .int .i64 (chkT rs2 us2 ds2)]) ?_ rfl ?_
  ·simp [results, Tryz.results19, go_sem, z0, z1, z2]
  ·exact GivesJ.bad HNZ.out HNO.out (below_set3 HB2.out (by omega) _ _ _)
 have HC2 := zq hc2
 rw [hc2]
 clear hc2
 obtain ⟨hcr1, hul1, hdl1⟩ := chkT_zero HC1.out
 obtain ⟨hcr2, hul2, hdl2⟩ := chkT_zero HC2.out
 have HG1 := zq (good_of hcr1)
 have HG2 := zq (good_of hcr2)
 have hrl1 := HG1.out.len
 have hrl2 := HG2.out.len
 clear hcr1 hcr2
 have HNF : Hid (¬ (rs = rs2 ∧ us = us2) → JoinBad rs us ds rs2 us2 ds2 6) := fun h => .inr (.inr (.inl ⟨HC1.out, HC2.out, Classical.not_and_iff_not_or_not.1 h, rfl⟩))
 go_upto_region 7 with fail
 iterate 2 go_step
 refine wp_load_mid _ _ (by rfl) w.heap.size 0 (by rfl) (tiC RA rc rs UA uc us DA dc ds).toList _ (rangeB HX2.out) Tryz.underlying26 rfl (by kernel_rfl) ?_
 iterate 2 go_step
 refine wp_load_mid _ _ (by rfl) (w.heap.size + 1) 0 (by rfl) (tiC RA2 rc2 rs2 UA2 uc2 us2 DA2 dc2 ds2).toList _ (rangeB HY2.out) Tryz.underlying26 rfl (by kernel_rfl) ?_
 obtain ⟨hcr1, hul1, hdl1⟩ := chkT_zero HC1.out
 obtain ⟨hcr2, hul2, hdl2⟩ := chkT_zero HC2.out
 have HG1 := zq (good_of hcr1)
 have HG2 := zq (good_of hcr2)
 have hrl1 := HG1.out.len
 have hrl2 := HG2.out.len
 clear hcr1 hcr2
 have HSF := zq (sameFrame_c RA rc rs UA uc us DA dc ds RA2 rc2 rs2 UA2 uc2 us2 DA2 dc2 ds2 w2 HR2.out HU2.out HR22.out HU22.out ⟨by omega, by omega⟩ ⟨by omega, by omega⟩)
 clear z0 z1 z2 f0 f1 f2 hsz
 go_wp2_with fail
 with_reducible refine HSF.out.mono ?_
 rintro x w3 ⟨r, rfl, hrr, hb3⟩
 have HB3 := zq (below_trans HB2.out hb3)
 have HX3 := zq (HX2.out.below hb3)
 have HY3 := zq (HY2.out.below hb3)
 have HZ3 := zq (HZ2.out.below hb3)
 have HR3 := zq (HR2.out.below hb3)
 have HU3 := zq (HU2.out.below hb3)
 have HD3 := zq (HD2.out.below hb3)
 have HD23 := zq (HD22.out.below hb3)
 clear hb3 HB2 HX2 HY2 HZ2 HR2 HU2 HD2 HR22 HU22 HD22 HSF
 by_cases hsf : rs = rs2 ∧ us = us2
 case neg =>
  have hrf : r = false := by
   cases hh : r with
   | false => rfl
   | true => exact absurd (hrr.1 hh) hsf
  subst hrf
  have HNO := zq (HNF.out hsf)
  have z0 := HZ3.out.cell (i := 0) rfl
  have z1 := HZ3.out.cell (i := 1) rfl
  have z2 := HZ3.out.cell (i := 2) rfl
  have f0 := HZ3.out.frozen 0
  have f1 := HZ3.out.frozen 1
  have f2 := HZ3.out.frozen 2
  have hsz := HZ3.out.lt
  clear hrr hsf
  go_wp2
  refine bodyPost_ret (v := .tuple #[.agg #[.slice none 0 0, .slice none 0 0, .slice none 0 0], .int .i64 6]) ?_ rfl ?_
  ·simp [results, Tryz.results19, go_sem, z0, z1, z2]
  ·exact GivesJ.bad (by decide) HNO.out (below_set3 HB3.out (by omega) _ _ _)
 have hrt : r = true := hrr.2 hsf
 subst hrt
 have HSF := zq hsf
 clear hrr hsf HNF
 have x0 := HX3.out.cell (i := 0) rfl
 have x1 := HX3.out.cell (i := 1) rfl
 have hsx := HX3.out.lt
 go_upto_region 10 with fail
 obtain ⟨w4, hw4⟩ : ∃ w4, w4 = w3.alloc (.cells #[.slice RA rs.length rc, .slice UA us.length uc, .slice none 0 0] 26) := ⟨_, rfl⟩
 rw [← hw4]
 have HO4 : Hid (Bx w4 w3.heap.size #[.slice RA rs.length rc, .slice UA us.length uc, .slice none 0 0] 26) := by show Bx _ _ _ _; rw [hw4]; exact Bx.new _ _ _
 have hb4 : Below w3.heap.size w3 w4 := by rw [hw4]; exact (Below.refl _ _).alloc (Nat.le_refl _) _
 clear hw4 x0 x1 hsx
 have HB4 := zq (below_trans HB3.out hb4)
 have HX4 := zq (HX3.out.below hb4)
 have HY4 := zq (HY3.out.below hb4)
 have HZ4 := zq (HZ3.out.below hb4)
 have HD4 := zq (HD3.out.below hb4)
 have HD24 := zq (HD23.out.below hb4)
 have h34 : w3.heap.size < w4.heap.size := HO4.out.lt
 have hz3' : w.heap.size + 1 + 1 < w3.heap.size := HZ3.out.lt
 clear hb4 HB3 HX3 HY3 HZ3 HD3 HD23
 have x2 := HX4.out.cell (i := 2) rfl
 have hsx := HX4.out.lt
 have o2 := HO4.out.cell (i := 2) rfl
 have fo := HO4.out.frozen 2
 have HE := zq (OwnL.nil eD 16 w4 w4.heap.size 54)
 go_wp2_with (at_builtin; refine wpList_pushK (k := 16) (enc := eD) (fun _ => rfl) oneD _ _ _ elKD rfl rfl w4.heap.size _ [] rfl HE.out DA _ dc ds rfl rfl (Des.rdk HD4.out) (Des.some HD4.out) (by unfold maxLen; simp; omega) (by simp; omega) (Nat.le_refl _) ?_)
 rintro v' w5 ho' hg' hb' _
 have ho5 : OwnL eD 16 w5 w4.heap.size 54 v' ds := ho'
 obtain ⟨AV, cv, rfl, _⟩ := ho5.rdk
 have HO5 := zq (HO4.out.below hb')
 have o2 := HO5.out.cell (i := 2) rfl
 have fo := HO5.out.frozen 2
 have os := HO5.out.lt
 have HB5 := zq (HB4.out.trans (hb'.mono HB4.out.size))
 have HX5 := zq (HX4.out.below hb')
 have HY5 := zq (HY4.out.below hb')
 have HZ5 := zq (HZ4.out.below hb')
 have HD5 := zq (HD4.out.below hb')
 have HD25 := zq (HD24.out.below hb')
 have HV5 := zq ho5
 have hbs5 : w4.heap.size ≤ w5.heap.size := hb'.size
 clear ho' ho5 hg' hb' x2 hsx HB4 HX4 HY4 HZ4 HD4 HD24 HO4 HE
 go_upto_region 11 with fail
 have HRJ : Hid (RJ w ⟨RA, rc, rs, UA, uc, us, DA, dc, ds, RA2, rc2, rs2, UA2, uc2, us2, DA2, dc2, ds2⟩ w3.heap.size w4.heap.size (.slice AV ds.length cv) ds (w5.setCell ⟨w3.heap.size, 2, none⟩ (.slice AV ds.length cv))) :=
  ⟨HB5.out.setCell (by show w.heap.size ≤ w3.heap.size; omega) _, HX5.out.far (by show w.heap.size ≠ w3.heap.size; omega) _, HY5.out.far (by show w.heap.size + 1 ≠ w3.heap.size; omega) _, HZ5.out.far (by show w.heap.size + 1 + 1 ≠ w3.heap.size; omega) _,
   HO5.out.set 2 _, ownsRow_setCell_below HV5.out h34 _, hz3', h34, by rw [World.size_setCell]; exact hbs5⟩
 have o2 := HRJ.out.out.cell (i := 2) rfl
 have y2 := HRJ.out.t2.cell (i := 2) rfl
 have hsy := HRJ.out.t2.lt
 have HJ0 := zq (joined_start HC1.out)
 clear HB5 HX5 HY5 HZ5 HO5 HV5 fo os
 go_wp2
 go_loopg [9] ds2.length (OuterR w ⟨RA, rc, rs, UA, uc, us, DA, dc, ds, RA2, rc2, rs2, UA2, uc2, us2, DA2, dc2, ds2⟩ w3.heap.size w4.heap.size)
 case atStart => exact ⟨_, ds, 0, HRJ.out, by show 0 + ds2.length = ds2.length; omega, rfl, by show ds.length ≤ ds.length + 0; omega, HJ0.out, fun _ _ j _ hj => absurd hj (by omega), fun o ho => .inl ho⟩
 clear y2 hsy o2 HRJ HJ0 HR3 HU3 HD5 HD25
 case round =>
  obtain ⟨v, outs, k, hrj, hkm, rfl, hol, hjo, hsd, hmem⟩ := hrel
  have HR := zq hrj
  have HK := zq hkm
  have HO := zq hol
  have HJ := zq hjo
  have HS := zq hsd
  have HM := zq hmem
  have hk1 : k ≤ ds2.length := by have : k + gk = ds2.length := hkm; omega
  obtain ⟨g1, hg1⟩ : ∃ g1, g1 = gk := ⟨_, rfl⟩
  subst hg1
  clear hrj hkm hol hjo hsd hmem
  have y2 : _ = some (Value.slice DA2 ds2.length dc2) := HR.out.t2.cell (i := 2) rfl
  have hsy := HR.out.t2.lt
  by_cases hlt : k < ds2.length
  ·obtain ⟨y, hy⟩ : ∃ y, ds2[k] = y := ⟨_, rfl⟩
   have HY := zq hy
   clear hy
   obtain ⟨b2, o2, hA2, hb2, hc2⟩ := HD2w.out (by omega)
   subst hA2
   have hp2 := (hc2 k hlt).1
   have hok2 := (hc2 k hlt).2
   rw [HY.out] at hp2 hok2
   have HP2 := zq hp2
   have HOK2 := zq hok2
   clear hc2 hp2 hok2
   go_wp2
   go_loopg [10, 11] ds.length (InnR w ⟨RA, rc, rs, UA, uc, us, DA, dc, ds, RA2, rc2, rs2, UA2, uc2, us2, some ⟨b2, o2, none⟩, dc2, ds2⟩ w3.heap.size w4.heap.size v outs y)
   case atStart => exact ⟨0, true, HR.out, by show 0 + ds.length = ds.length; omega, rfl, rfl, fun _ x hx => by simp at hx, fun h => absurd h (by simp), fun x hx => by simp at hx⟩
   clear y2 hsy
   case round =>
    obtain ⟨j, b, hrj, hjm, rfl, rfl, hpt, hpf, hps⟩ := hrel
    have HRI := zq hrj
    have HJM := zq hjm
    have HPT := zq hpt
    have HPF := zq hpf
    have HPS := zq hps
    have hjk : j ≤ ds.length := by have : j + gk = ds.length := hjm; omega
    clear hrj hjm hpt hpf hps
    have x2 : _ = some (Value.slice DA ds.length dc) := HRI.out.t1.cell (i := 2) rfl
    have hsx := HRI.out.t1.lt
    have y2 : _ = some (Value.slice (some ⟨b2, o2, none⟩) ds2.length dc2) := HRI.out.t2.cell (i := 2) rfl
    have hsy := HRI.out.t2.lt
    by_cases hlj : j < ds.length
    ·obtain ⟨b1, o1, hA, hb1, hc1⟩ := HDw.out (by omega)
     subst hA
     obtain ⟨pj, hpj⟩ : ∃ pj, ds[j] = pj := ⟨_, rfl⟩
     have hp := (hc1 j hlj).1
     have hok := (hc1 j hlj).2
     rw [hpj] at hp hok
     have HP1 := zq hp
     have HOK1 := zq hok
     have HPJ := zq hpj
     clear hp hok hpj hc1
     have p0 : _ = some (Value.string pj.id) := (HRI.out.bel.cell (p := ⟨b1, o1 + j * 16, none⟩) hb1).trans (HP1.out 0 _ rfl)
     have q0 : _ = some (Value.string y.id) := (HRI.out.bel.cell (p := ⟨b2, o2 + k * 16, none⟩) hb2).trans (HP2.out 0 _ rfl)
     by_cases he : pj.id = y.id
     ·have q1 := beq_of_eq he
      have HE := zq he
      clear he
      go_wp2
      go_quiet (fail)
      go_wp2
      clear x2 hsx y2 hsy p0 q0 q1
      obtain ⟨wi, hwi⟩ : ∃ wi, wi = wr.drewN nq := ⟨_, rfl⟩
      rw [← hwi]
      have HRQ : Hid (RJ w ⟨RA, rc, rs, UA, uc, us, some ⟨b1, o1, none⟩, dc, ds, RA2, rc2, rs2, UA2, uc2, us2, some ⟨b2, o2, none⟩, dc2, ds2⟩ w3.heap.size w4.heap.size v outs wi) := by show RJ _ _ _ _ _ _ _; rw [hwi]; exact HRI.out.drewN nq
      clear hwi HRI
      have x2 : _ = some (Value.slice (some ⟨b1, o1, none⟩) ds.length dc) := HRQ.out.t1.cell (i := 2) rfl
      have hsx := HRQ.out.t1.lt
      have y2 : _ = some (Value.slice (some ⟨b2, o2, none⟩) ds2.length dc2) := HRQ.out.t2.cell (i := 2) rfl
      have hsy := HRQ.out.t2.lt
      have HC1J : Hid (∀ W, (∃ p : Regrown, W = Sort.grow (redrawn wi p.d) p.os) → W.rangeAt b1 (o1 + j * 16) (deC pj).toList) := fun W ⟨p, e⟩ i u hu => by
       rw [e]; exact cell_regrown ((HRQ.out.bel.cell (p := ⟨b1, o1 + j * 16 + i, none⟩) hb1).trans (HP1.out i u hu)) p.d p.os
      have HC2J : Hid (∀ W, (∃ p : Regrown, W = Sort.grow (redrawn wi p.d) p.os) → W.rangeAt b2 (o2 + k * 16) (deC y).toList) := fun W ⟨p, e⟩ i u hu => by
       rw [e]; exact cell_regrown ((HRQ.out.bel.cell (p := ⟨b2, o2 + k * 16 + i, none⟩) hb2).trans (HP2.out i u hu)) p.d p.os
      have k2 : ∀ d os, (Sort.grow (redrawn wi d) os).cell? ⟨w.heap.size, 2, none⟩ = some (Value.slice (some ⟨b1, o1, none⟩) ds.length dc) := fun d os => cell_regrown x2 d os
      have l2 : ∀ d os, (Sort.grow (redrawn wi d) os).cell? ⟨w.heap.size + 1, 2, none⟩ = some (Value.slice (some ⟨b2, o2, none⟩) ds2.length dc2) := fun d os => cell_regrown y2 d os
      by_cases hsm : SameD pj y
      ·have HSD : Hid (∀ d os, Calls Tryz.prog 31 #[deV pj, deV y] (Sort.grow (redrawn wi d) os) (fun e W' => e = .returned (.bool true) ∧ Below (Sort.grow (redrawn wi d) os).heap.size (Sort.grow (redrawn wi d) os) W')) := fun d os =>
        (sameDeed_c pj y (Sort.grow (redrawn wi d) os) (HOK1.out.below (below_trans HRQ.out.bel (below_regrown wi d os))) (HOK2.out.below (below_trans HRQ.out.bel (below_regrown wi d os)))).mono fun e W' ⟨r, h1, h2, h3⟩ => ⟨by rw [h1, h2.2 hsm], h3⟩
       have HSM := zq hsm
       clear hsm
       refine wp_region_quiet_below (by kernel_rfl) (by kernel_rfl) ?_
       iterate 4 (quiet_step (fail))
       refine quiet_load_deed (by kernel_rfl) _ (by rfl) b1 (o1 + j * 16) (by rfl) pj HC1J.out ?_
       iterate 4 (quiet_step (fail))
       refine quiet_load_deed (by kernel_rfl) _ (by rfl) b2 (o2 + k * 16) (by rfl) y HC2J.out ?_
       quiet_step (exact Calls.regrown_of (HSD.out _ _))
       quiet_step (fail)
       refine wpQuiet_nil ?_
       intro _ hw'
       obtain ⟨⟨dq, osq⟩, hw''⟩ := hw'
       subst hw''
       have HRK := zq (HRQ.out.below (below_regrown wi dq osq))
       clear HC1J HC2J HSD x2 hsx y2 hsy k2 l2
       generalize Sort.grow (redrawn wi dq) osq = wk at *
       go_wp2
       go_roundg (gk - 1)
       case measure => have : j + gk = ds.length := HJM.out; omega
       case rel =>
        have e : ds.take (j + 1) = ds.take j ++ [pj] := by rw [List.take_succ_eq_append_getElem hlj, HPJ.out]
        refine ⟨j + 1, false, HRK.out, by have : j + gk = ds.length := HJM.out; show j + 1 + (gk - 1) = ds.length; omega, by go_num, rfl, fun h => absurd h (by simp), fun _ => ⟨pj, ?_, HE.out⟩, ?_⟩
        ·show pj ∈ ds.take (j + 1)
         rw [e]; simp
        ·show ∀ x ∈ ds.take (j + 1), x.id = y.id → SameD x y
         rw [e]
         intro x hx hxe
         rcases List.mem_append.1 hx with h1 | h1
         ·exact HPS.out x h1 hxe
         ·rw [List.mem_singleton.1 h1]; exact HSM.out
      ·have HSD : Hid (∀ d os, Calls Tryz.prog 31 #[deV pj, deV y] (Sort.grow (redrawn wi d) os) (fun e W' => e = .returned (.bool false) ∧ Below (Sort.grow (redrawn wi d) os).heap.size (Sort.grow (redrawn wi d) os) W')) := fun d os =>
        (sameDeed_c pj y (Sort.grow (redrawn wi d) os) (HOK1.out.below (below_trans HRQ.out.bel (below_regrown wi d os))) (HOK2.out.below (below_trans HRQ.out.bel (below_regrown wi d os)))).mono fun e W' ⟨r, h1, h2, h3⟩ => ⟨by
         have hrf : r = false := by
          cases hh : r with
          | false => rfl
          | true => exact absurd (h2.1 hh) hsm
         rw [h1, hrf], h3⟩
       have HNK : Hid (JoinBad rs us ds rs2 us2 ds2 12) := .inr (.inr (.inr (.inl ⟨HC1.out, HC2.out, HSF.out, by rw [← List.map_append]; exact not_keyOk (List.mem_append_left _ (List.getElem_mem hlj)) (List.mem_append_right _ (List.getElem_mem hlt)) (by rw [HPJ.out, HY.out]; exact HE.out) (by rw [HPJ.out, HY.out]; exact hsm), rfl⟩)))
       clear hsm
       refine wp_region_quiet_below (by kernel_rfl) (by kernel_rfl) ?_
       iterate 4 (quiet_step (fail))
       refine quiet_load_deed (by kernel_rfl) _ (by rfl) b1 (o1 + j * 16) (by rfl) pj HC1J.out ?_
       iterate 4 (quiet_step (fail))
       refine quiet_load_deed (by kernel_rfl) _ (by rfl) b2 (o2 + k * 16) (by rfl) y HC2J.out ?_
       quiet_step (exact Calls.regrown_of (HSD.out _ _))
       quiet_step (fail)
       refine wpQuiet_nil ?_
       intro _ hw'
       obtain ⟨⟨dq, osq⟩, hw''⟩ := hw'
       subst hw''
       have HRK := zq (HRQ.out.below (below_regrown wi dq osq))
       clear HC1J HC2J HSD x2 hsx y2 hsy k2 l2 HRQ
       generalize Sort.grow (redrawn wi dq) osq = wk at *
       have z0 := HRK.out.rz.cell (i := 0) rfl
       have z1 := HRK.out.rz.cell (i := 1) rfl
       have z2 := HRK.out.rz.cell (i := 2) rfl
       have f0 := HRK.out.rz.frozen 0
       have f1 := HRK.out.rz.frozen 1
       have f2 := HRK.out.rz.frozen 2
       have hsz := HRK.out.rz.lt
       go_wp2
       refine bodyPost_ret (v := .tuple #[.agg #[.slice none 0 0, .slice none 0 0, .slice none 0 0], .int .i64 12]) ?_ rfl ?_
       ·simp [results, Tryz.results19, go_sem, z0, z1, z2]
       ·exact GivesJ.bad (by decide) HNK.out (below_set3 HRK.out.bel (by omega) _ _ _)
     ·have q1 := beq_of_ne he
      have HE := zq he
      clear he
      go_wp2
      go_quiet (fail)
      go_wp2
      go_roundg (gk - 1)
      case measure => have : j + gk = ds.length := HJM.out; omega
      case rel =>
       have e : ds.take (j + 1) = ds.take j ++ [pj] := by rw [List.take_succ_eq_append_getElem hlj, HPJ.out]
       refine ⟨j + 1, b, HRI.out.drewN _, by have : j + gk = ds.length := HJM.out; show j + 1 + (gk - 1) = ds.length; omega, by go_num, rfl, fun hb => ?_, fun hb => ?_, ?_⟩
       ·show ∀ x ∈ ds.take (j + 1), x.id ≠ y.id
        rw [e]
        intro x hx
        rcases List.mem_append.1 hx with h1 | h1
        ·exact HPT.out hb x h1
        ·rw [List.mem_singleton.1 h1]; exact HE.out
       ·obtain ⟨x, h1, h2⟩ := HPF.out hb
        exact ⟨x, by show x ∈ ds.take (j + 1); rw [e]; exact List.mem_append_left _ h1, h2⟩
       ·show ∀ x ∈ ds.take (j + 1), x.id = y.id → SameD x y
        rw [e]
        intro x hx hxe
        rcases List.mem_append.1 hx with h1 | h1
        ·exact HPS.out x h1 hxe
        ·rw [List.mem_singleton.1 h1] at hxe; exact absurd hxe HE.out
    ·have hje : j = ds.length := by omega
     have HPT' : Hid (b = true → ∀ x ∈ ds, x.id ≠ y.id) := fun h x hx => HPT.out h x (by show x ∈ ds.take j; rw [hje, List.take_length]; exact hx)
     have HPF' : Hid (b = false → ∃ x ∈ ds, x.id = y.id) := fun h => by
      obtain ⟨x, h1, h2⟩ := HPF.out h
      exact ⟨x, List.mem_of_mem_take h1, h2⟩
     have HPS' : Hid (∀ x ∈ ds, x.id = y.id → SameD x y) := fun x hx => HPS.out x (by show x ∈ ds.take j; rw [hje, List.take_length]; exact hx)
     have HS2 : Hid (∀ x ∈ ds, ∀ j (h : j < ds2.length), j < k + 1 → x.id = ds2[j].id → SameD x ds2[j]) := fun x hx j h hj hxe => by
      rcases Nat.lt_or_ge j k with h9 | h9
      ·exact HS.out x hx j h h9 hxe
      ·obtain rfl : j = k := by omega
       rw [HY.out] at hxe ⊢
       exact HPS'.out x hx hxe
     have HTK : Hid ((ds2.take (k + 1)).map plainD = (ds2.take k).map plainD ++ [plainD y]) := by show _ = _; rw [List.take_succ_eq_append_getElem hlt, HY.out, List.map_append, List.map_singleton]
     clear HPT HPF HPS HS HR HJM
     cases b with
     | false =>
      go_wp2
      go_roundg (g1 - 1)
      case measure => have : k + g1 = ds2.length := HK.out; omega
      case rel =>
       refine ⟨v, outs, k + 1, HRI.out, by have : k + g1 = ds2.length := HK.out; show k + 1 + (g1 - 1) = ds2.length; omega, by go_num, by have : outs.length ≤ ds.length + k := HO.out; show outs.length ≤ ds.length + (k + 1); omega, ?_, HS2.out, HM.out⟩
       show Joined (ds.map plainD) ((ds2.take (k + 1)).map plainD) (outs.map plainD)
       rw [HTK.out]
       obtain ⟨x, hx, hxe⟩ := HPF'.out (by first | rfl | trivial)
       exact joined_skip HJ.out (old_id hx hxe)
     | true =>
      obtain ⟨AO, co, hv, hco, _, _⟩ := HRI.out.own.rdc
      subst hv
      have ov2 : _ = some (Value.slice AO outs.length co) := HRI.out.out.cell (i := 2) rfl
      have hso := HRI.out.out.lt
      have hol : outs.length ≤ ds.length + k := HO.out
      clear HPF'
      go_wp2
      go_loopg [12] outs.length (PosR w ⟨RA, rc, rs, UA, uc, us, DA, dc, ds, RA2, rc2, rs2, UA2, uc2, us2, some ⟨b2, o2, none⟩, dc2, ds2⟩ w3.heap.size w4.heap.size (.slice AO outs.length co) outs y)
      case atStart => exact ⟨HRI.out, rfl, Nat.le_refl _, fun q h hq => absurd h (by omega)⟩
      clear ov2 hso y2 hsy x2 hsx HRI
      case round =>
       obtain ⟨hrj, rfl, hml, hpos⟩ := hrel
       have HRP := zq hrj
       have HPO := zq hpos
       clear hrj hpos
       have ov2 : _ = some (Value.slice AO outs.length co) := HRP.out.out.cell (i := 2) rfl
       have hso := HRP.out.out.lt
       have y2 : _ = some (Value.slice (some ⟨b2, o2, none⟩) ds2.length dc2) := HRP.out.t2.cell (i := 2) rfl
       have hsy := HRP.out.t2.lt
       go_upto_region 24 with fail
       go_cut [137] from 88 to 139 (fun v wx => v = .bool (leftB outs y gk) ∧ RJ w ⟨RA, rc, rs, UA, uc, us, DA, dc, ds, RA2, rc2, rs2, UA2, uc2, us2, some ⟨b2, o2, none⟩, dc2, ds2⟩ w3.heap.size w4.heap.size (.slice AO outs.length co) outs wx)
       case first =>
        by_cases hg0 : 0 < gk
        ·obtain ⟨b3, o3, hAO, hc3⟩ := cat_range HRP.out.own (by omega)
         subst hAO
         have hc := hc3 (gk - 1) (by omega)
         obtain ⟨po, hpo⟩ : ∃ po, outs[gk - 1]'(by omega) = po := ⟨_, rfl⟩
         rw [hpo] at hc
         have hgp : gk - 1 < outs.length := by omega
         have HLB : Hid (leftB outs y gk = deLt y po) := by
          show _ = _
          unfold leftB
          rw [decide_eq_true hg0, List.getD_eq_getElem?_getD, List.getElem?_eq_getElem hgp, hpo]; rfl
         have p0 : wr.cell? ⟨b3, o3 + (gk - 1) * 16, none⟩ = some (Value.string po.id) := hc 0 _ rfl
         have p1 : _ = some (Value.int .i64 po.day) := hc 1 _ rfl
         have q0 : _ = some (Value.string y.id) := (HRP.out.bel.cell (p := ⟨b2, o2 + k * 16, none⟩) hb2).trans (HP2.out 0 _ rfl)
         have q1 : _ = some (Value.int .i64 y.day) := (HRP.out.bel.cell (p := ⟨b2, o2 + k * 16 + 1, none⟩) hb2).trans (HP2.out 1 _ rfl)
         have hd : decide ((0 : Int) < (gk : Int)) = true := by simp; omega
         have hd0 : decide ((0 : Int) ≤ (gk : Int) - 1) = true := by simp; omega
         clear hc hc3 hpo
         rcases Int.lt_trichotomy po.day y.day with h | h | h
         ·have HSV : Hid (deLt y po = false) := by show _ = _; unfold deLt; simp; omega
          have e1 : decide (y.day < po.day) = false := decide_eq_false (by omega)
          have e2 : (po.day == y.day) = false := by simp; omega
          clear h
          go_quiet (fail)
          go_wp2_with fail
          go_meet
          exact ⟨vbool (by rw [HLB.out, HSV.out]), HRP.out.drewN _⟩
         ·have e1 : decide (y.day < po.day) = false := decide_eq_false (by omega)
          have e2 : (po.day == y.day) = true := by rw [h]; simp
          cases hlt3 : slt y.id po.id with
          | true =>
           have HSV : Hid (deLt y po = true) := by show _ = _; unfold deLt; rw [hlt3]; simp; omega
           obtain ⟨g1', g2'⟩ := gt_of_slt hlt3
           clear h hlt3
           go_quiet (fail)
           go_wp2_with fail
           go_meet
           exact ⟨vbool (by rw [HLB.out, HSV.out]), HRP.out.drewN _⟩
          | false =>
           have HSV : Hid (deLt y po = false) := by show _ = _; unfold deLt; rw [hlt3]; simp; omega
           rcases ngt_of_slt hlt3 with g1' | ⟨g1', g2'⟩
           all_goals
            clear h hlt3
            go_quiet (fail)
            go_wp2_with fail
            go_meet
            exact ⟨vbool (by rw [HLB.out, HSV.out]), HRP.out.drewN _⟩
         ·have e1 : decide (y.day < po.day) = true := decide_eq_true (by omega)
          have HSV : Hid (deLt y po = true) := by show _ = _; unfold deLt; simp; omega
          clear h
          go_quiet (fail)
          go_wp2_with fail
          go_meet
          exact ⟨vbool (by rw [HLB.out, HSV.out]), HRP.out.drewN _⟩
        ·have hd : decide ((0 : Int) < (gk : Int)) = false := by simp; omega
         have HLB : Hid (leftB outs y gk = false) := by show _ = _; unfold leftB; rw [decide_eq_false hg0]; rfl
         go_quiet (fail)
         go_wp2_with fail
         go_meet
         exact ⟨vbool (by rw [HLB.out]), HRP.out.drewN _⟩
       case rest =>
        obtain ⟨rfl, hrx⟩ := hcut
        clear ov2 hso y2 hsy HRP
        have HRX := zq hrx
        clear hrx
        cases hlb : leftB outs y gk with
        | true =>
         unfold leftB at hlb
         rw [Bool.and_eq_true, decide_eq_true_eq] at hlb
         obtain ⟨hg0, hlb⟩ := hlb
         have hgp : gk - 1 < outs.length := by omega
         rw [List.getD_eq_getElem?_getD, List.getElem?_eq_getElem hgp] at hlb
         have HLB : Hid (deLt y outs[gk - 1] = true) := hlb
         clear hlb
         go_wp2
         go_roundg (gk - 1)
         case measure => omega
         case rel =>
          refine ⟨HRX.out, by go_num, by omega, fun q h hq => ?_⟩
          rcases Nat.lt_or_ge q gk with h9 | h9
          ·obtain rfl : q = gk - 1 := by omega
           exact HLB.out
          ·exact HPO.out q h h9
        | false =>
         have HINS := zq (leftB_ins hml hlb HPO.out)
         clear hlb HPO
         have hct := run_cutToD AO outs.length co gk (by omega)
         have ov2 : _ = some (Value.slice AO outs.length co) := HRX.out.out.cell (i := 2) rfl
         have hso := HRX.out.out.lt
         have HE := zq (OwnL.nil eD 16 wc wc.heap.size 54)
         have HT1 : Hid (AO ≠ none ∨ outs.take gk = []) := HRX.out.own.some.imp id fun h => by rw [h]; simp
         go_wp2_with (at_builtin; refine wpList_pushK (k := 16) (enc := eD) (fun _ => rfl) oneD _ _ _ elKD rfl rfl wc.heap.size _ [] rfl HE.out AO gk co (outs.take gk) (by rw [List.length_take]; omega) rfl (HRX.out.own.rd.take gk) HT1.out (by unfold maxLen; simp; omega) (by simp; omega) (Nat.le_refl _) ?_)
         rintro v6 w6 ho6 _ hb6 _
         have HO6 : Hid (OwnL eD 16 w6 wc.heap.size 54 v6 (outs.take gk)) := ho6
         have HB6 := zq hb6
         have h6 : wc.heap.size ≤ w6.heap.size := hb6.size
         clear ho6 hb6 hct ov2 hso HE HT1
         have HR6 := zq (HRX.out.below HB6.out)
         have y2 : _ = some (Value.slice (some ⟨b2, o2, none⟩) ds2.length dc2) := HR6.out.t2.cell (i := 2) rfl
         have hsy := HR6.out.t2.lt
         have HPY : Hid (w6.rangeAt b2 (o2 + k * 16) (deC y).toList) := fun i u hu => (HR6.out.bel.cell (p := ⟨b2, o2 + k * 16 + i, none⟩) hb2).trans (HP2.out i u hu)
         go_upto_region 28 with fail
         iterate 17 go_step
         refine wp_load_mid _ _ (by rfl) b2 (o2 + k * 16) (by rfl) (deC y).toList _ HPY.out Tryz.underlying54 rfl (by kernel_rfl) ?_
         clear y2 hsy HPY
         go_wp2_with (at_builtin; refine wpList_pushK (k := 16) (enc := eD) (fun _ => rfl) oneD _ _ _ elKD rfl rfl wc.heap.size v6 (outs.take gk) rfl (HO6.out.alloc _) (some ⟨w6.heap.size, 0, none⟩) 1 1 [y] rfl rfl (rdk_one w6 y) (.inl (by simp)) (by unfold maxLen; simp; omega) (by simp; omega) (by simp; omega) ?_)
         rintro v7 w7 ho7 _ hb7 _
         have HO7 := zq ho7
         have HB7 := zq ((HB6.out.alloc h6 _).trans hb7)
         have h7 : wc.heap.size ≤ w7.heap.size := HB7.out.size
         clear ho7 hb7
         have HR7 := zq (HRX.out.below HB7.out)
         clear HR6 HO6 HB6 h6
         have hcf := run_cutFromD AO outs.length co gk hml
         have ov2 : _ = some (Value.slice AO outs.length co) := HR7.out.out.cell (i := 2) rfl
         have hso := HR7.out.out.lt
         have HT2 : Hid ((if co = gk then AO else AO.map (·.add (gk * 16))) ≠ none ∨ outs.drop gk = []) := by
          rcases HR7.out.own.some with h | h
          ·left
           split
           ·exact h
           ·cases AO with
            | none => exact absurd rfl h
            | some _ => simp
          ·right; rw [h]; simp
         have HRD2 : Hid (RdK eD w7 (if co = gk then AO else AO.map (·.add (gk * 16))) (outs.drop gk)) := RdK.drop (enc := eD) (k := 16) (fun _ => rfl) HR7.out.own.rd hco
         generalize (if co = gk then AO else AO.map (·.add (gk * 16))) = AC at hcf HT2 HRD2
         go_wp2_with (at_builtin; refine wpList_pushK (k := 16) (enc := eD) (fun _ => rfl) oneD _ _ _ elKD rfl rfl wc.heap.size v7 (outs.take gk ++ [y]) rfl HO7.out AC (outs.length - gk) (co - gk) (outs.drop gk) (by rw [List.length_drop]) rfl HRD2.out HT2.out (by unfold maxLen; simp; omega) (by simp; omega) h7 ?_)
         rintro v8 w8 ho8 _ hb8 _
         have ho9 : OwnL eD 16 w8 wc.heap.size 54 v8 (outs.take gk ++ [y] ++ outs.drop gk) := by rw [List.append_assoc, List.singleton_append]; exact ho8
         obtain ⟨n8, A8, c8, hv8⟩ : ∃ n8 A8 c8, v8 = .slice A8 n8 c8 := by
          obtain ⟨A8, c8, hv8, _⟩ := OwnL.rdk ho9
          exact ⟨_, A8, c8, hv8⟩
         subst hv8
         have HR8 := zq (HRX.out.below (HB7.out.trans hb8))
         have HN := zq (HR8.out.store ho9 HRX.out.sz)
         clear ho8 ho9 hb8 hcf ov2 hso HT2 HRD2 HR7 HB7 HO7 h7
         have ov2 : _ = some (Value.slice AO outs.length co) := HR8.out.out.cell (i := 2) rfl
         have hso := HR8.out.out.lt
         have fo := HR8.out.out.frozen 2
         go_wp2
         go_roundg (g1 - 1)
         case measure => have : k + g1 = ds2.length := HK.out; omega
         case rel =>
          refine ⟨_, outs.take gk ++ [y] ++ outs.drop gk, k + 1, HN.out, by have : k + g1 = ds2.length := HK.out; show k + 1 + (g1 - 1) = ds2.length; omega, by go_num, ?_, ?_, HS2.out, ?_⟩
          ·show (outs.take gk ++ [y] ++ outs.drop gk).length ≤ ds.length + (k + 1)
           simp; omega
          ·show Joined (ds.map plainD) ((ds2.take (k + 1)).map plainD) ((outs.take gk ++ [y] ++ outs.drop gk).map plainD)
           have e9 : (outs.take gk ++ [y] ++ outs.drop gk).map plainD = (outs.map plainD).take gk ++ [plainD y] ++ (outs.map plainD).drop gk := by rw [List.map_append, List.map_append, List.map_take, List.map_drop, List.map_singleton]
           rw [HTK.out, e9]
           refine joined_ins HJ.out ?_ HINS.out
           rw [← HY.out]
           exact new_id hlt (deeds_rise HC2.out).2 (by rw [HY.out]; exact HPT'.out (by first | rfl | trivial))
          ·intro o ho
           rcases List.mem_append.1 ho with h | h
           ·rcases List.mem_append.1 h with h | h
            ·exact HM.out o (List.mem_of_mem_take h)
            ·rw [List.mem_singleton.1 h, ← HY.out]; exact .inr (List.getElem_mem hlt)
           ·exact HM.out o (List.mem_of_mem_drop h)
  ·have hke : k = ds2.length := by omega
   have HJD : Hid (Joined (ds.map plainD) (ds2.map plainD) (outs.map plainD)) := by
    have h : Joined (ds.map plainD) ((ds2.take k).map plainD) (outs.map plainD) := HJ.out
    rwa [hke, List.take_length] at h
   have HKO : Hid (KeyOk De.id (ds.map plainD ++ ds2.map plainD)) := (keyOk_cross (deeds_rise HC1.out).2 (deeds_rise HC2.out).2).2 fun x hx y hy e => by
    obtain ⟨i, hi, rfl⟩ := List.getElem_of_mem hy
    exact HS.out x hx i hi (by omega) e
   obtain ⟨AO, co, hv, hco, hrd, _⟩ := HR.out.own.rdc
   subst hv
   have HDE : Hid (Des wr AO outs) := des_of hrd fun s hs => (HM.out s hs).elim (fun h => (deeds_ok HDw.out s h).below HR.out.bel) (fun h => (deeds_ok HD2w.out s h).below HR.out.bel)
   have HCK := zq (CheckTR_c RA rc rs UA uc us AO co outs wr (HRw.out.below HR.out.bel) (HUw.out.below HR.out.bel) HDE.out hz hz2)
   have HM10 : Hid (∀ o ∈ outs, o ∈ ds ∨ o ∈ ds2) := HM.out
   clear hrd HJ HS HM
   go_upto_region 30 with fail
   iterate 2 go_step
   refine wp_load_mid _ _ (by rfl) w3.heap.size 0 (by rfl) (tiC RA rc rs UA uc us AO co outs).toList _ (rangeB HR.out.out) Tryz.underlying26 rfl (by kernel_rfl) ?_
   clear y2 hsy
   go_wp2_with fail
   with_reducible refine HCK.out.mono ?_
   rintro e w10 ⟨rfl, hb10⟩
   have HR10 := zq (HR.out.below hb10)
   have HDE10 := zq (HDE.out.below hb10)
   clear hb10 HCK HDE
   have z0 := HR10.out.rz.cell (i := 0) rfl
   have z1 := HR10.out.rz.cell (i := 1) rfl
   have z2 := HR10.out.rz.cell (i := 2) rfl
   have f0 := HR10.out.rz.frozen 0
   have f1 := HR10.out.rz.frozen 1
   have f2 := HR10.out.rz.frozen 2
   have hsz := HR10.out.rz.lt
   by_cases hcz : chkT rs us outs = 0
   case neg =>
    have hcb : (chkT rs us outs != 0) = true := by simpa using hcz
    have HNZ : Hid (chkT rs us outs ≠ 0) := hcz
    have HNK : Hid (JoinBad rs us ds rs2 us2 ds2 (chkT rs us outs)) := .inr (.inr (.inr (.inr ⟨HC1.out, HC2.out, HSF.out, HKO.out, outs.map plainD, HJD.out, by rw [chkT_plain]; exact hcz, (chkT_plain rs us outs).symm⟩)))
    clear hcz
    go_wp2
    refine bodyPost_ret (v := .tuple #[.agg #[.slice none 0 0, .slice none 0 0, .slice none 0 0], .int .i64 (chkT rs us outs)]) ?_ rfl ?_
    ·simp [results, Tryz.results19, go_sem, z0, z1, z2]
    ·exact GivesJ.bad HNZ.out HNK.out (below_set3 HR10.out.bel (by omega) _ _ _)
   case pos =>
    have HCZ := zq hcz
    rw [hcz]
    clear hcz
    have g0 := HR10.out.out.cell (i := 0) rfl
    have g1 := HR10.out.out.cell (i := 1) rfl
    have g2 := HR10.out.out.cell (i := 2) rfl
    have gs := HR10.out.out.lt
    go_wp2
    refine bodyPost_ret (v := .tuple #[.agg #[.slice RA rs.length rc, .slice UA us.length uc, .slice AO outs.length co], .int .i64 0]) ?_ rfl ?_
    ·simp [results, Tryz.results19, go_sem, z0, z1, z2]
    ·have hb3 := below_set3 HR10.out.bel (show w.heap.size ≤ w.heap.size + 1 + 1 by omega) (.slice RA rs.length rc) (.slice UA us.length uc) (.slice AO outs.length co)
     have hrd := HR10.out.own.rd
     refine ⟨RA, rc, rs, UA, uc, us, AO, co, outs, 0, rfl, ⟨fun h => absurd rfl h, fun _ => ⟨HC1.out, HC2.out, HSF.out.1, HSF.out.2, HKO.out, rfl, rfl, HJD.out, HCZ.out⟩⟩, HRw.out.below hb3, HUw.out.below hb3, ?_, hb3⟩
     have hi := HR10.out.hi
     have hlo := HR10.out.lo
     refine des_of (rdk_keep hrd fun b o e => ?_) fun s hs => (HM10.out s hs).elim (fun h => (deeds_ok HDw.out s h).below hb3) (fun h => (deeds_ok HD2w.out s h).below hb3)
     have h1 := (World.ownsRow.lt HR10.out.own b (by rw [e]; rfl)).1
     rw [Below.heap_setCell _ _ _ _ (show b ≠ w.heap.size + 1 + 1 by omega), Below.heap_setCell _ _ _ _ (show b ≠ w.heap.size + 1 + 1 by omega), Below.heap_setCell _ _ _ _ (show b ≠ w.heap.size + 1 + 1 by omega)]
end Go.Proofs.YtlcfgejaeecclaaGreatDoor
