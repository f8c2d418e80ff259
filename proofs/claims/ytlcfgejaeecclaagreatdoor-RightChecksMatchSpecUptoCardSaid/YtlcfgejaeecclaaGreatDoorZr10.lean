/- The reference's deedText. The reference's checkDeed = chkD. The reference's Check of a title = chkT. The reference's Text. -/
import Derived.Test.YtlcfgejaeecclaaGreatDoorZr05
import Derived.Test.YtlcfgejaeecclaaGreatDoorZr06
import Derived.Test.YtlcfgejaeecclaaGreatDoorZr07
import Derived.Test.YtlcfgejaeecclaaGreatDoorZr08
import Derived.Test.YtlcfgejaeecclaaGreatDoorZr09
import Derived.Test.YtlcfgejaeecclaaGreatDoorZq28
import Derived.Test.YtlcfgejaeecclaaGreatDoorZq29
import Derived.Test.YtlcfgejaeecclaaGreatDoorZq30
import Derived.Test.YtlcfgejaeecclaaGreatDoorZq31
import Derived.Test.YtlcfgejaeecclaaGreatDoorZq32
set_option maxRecDepth 100000
set_option maxHeartbeats 8000000
namespace Go.Proofs.YtlcfgejaeecclaaGreatDoor
open Go.RowKit Dw
theorem deedTextR_c (w0 : World) (d : De) (w : World) (hd : DeOk w0 d) (hz : DSz d) (hP : POK w0) (h0 : Below w0.heap.size w0 w) :
  Calls Tryz.prog 45 #[deV d] w (GivesB (.string (sB (deedL d))) w) := by
 have h5 : d.kd = 1 ∨ d.kd = 2 ∨ d.kd = 3 ∨ d.kd = 4 ∨ d.kd = 5 := by have := hz.kd; omega
 rcases h5 with h | h | h | h | h
 ·exact deedTextR_1 w0 d w h hd hz hP h0
 ·exact deedTextR_2 w0 d w h hd hz hP h0
 ·exact deedTextR_3 w0 d w h hd hz hP h0
 ·exact deedTextR_4 w0 d w h hd hz hP h0
 ·exact deedTextR_5 w0 d w h hd hz hP h0
theorem checkDeedR_c (RA : Option Addr) (rc : Nat) (rs : List Rg) (UA : Option Addr) (uc : Nat) (us : List ByteArray) (DA : Option Addr) (dc : Nat) (ds : List De) (k : Nat) (w : World) (g : GoodR rs) (hr : Rgs w RA rs) (hu : Strs w UA us) (hul : us.length ≤ 1000000) (hd : Des w DA ds) (hk : k < ds.length) (hdl : ds.length ≤ 200) :
  Calls Tryz.prog 51 #[.agg (tiC RA rc rs UA uc us DA dc ds), .int .i64 k] w (GivesB (.int .i64 (chkD rs us (ds.take k) ds[k])) w) := by
 by_cases h0 : ds[k].kd < 1 ∨ 5 < ds[k].kd
 ·exact checkDeed_x RA rc rs UA uc us DA dc ds k w g hr hu hul hd hk hdl h0
 ·by_cases h1 : ds[k].kd = 1
  ·exact checkDeed_b RA rc rs UA uc us DA dc ds k w g hr hu hul hd hk hdl h1
  ·by_cases h5 : ds[k].kd = 5
   ·exact checkDeed_z RA rc rs UA uc us DA dc ds k w g hr hu hul hd hk hdl h5
   ·by_cases h4 : ds[k].kd = 4
    ·exact checkDeed_e RA rc rs UA uc us DA dc ds k w g hr hu hul hd hk hdl h4
    ·exact checkDeed_g RA rc rs UA uc us DA dc ds k w g hr hu hul hd hk hdl (by omega)
structure TS (w : World) (RA : Option Addr) (rc : Nat) (rs : List Rg) (UA : Option Addr) (uc : Nat) (us : List ByteArray) (DA : Option Addr) (dc : Nat) (ds : List De) (W : World) : Prop where
 bel : Below w.heap.size w W
 ti : Bx W w.heap.size (tiC RA rc rs UA uc us DA dc ds) 26
section
variable {w W W' : World} {RA : Option Addr} {rc : Nat} {rs : List Rg} {UA : Option Addr} {uc : Nat} {us : List ByteArray} {DA : Option Addr} {dc : Nat} {ds : List De}
theorem TS.below (h : TS w RA rc rs UA uc us DA dc ds W) (hb : Below W.heap.size W W') : TS w RA rc rs UA uc us DA dc ds W' := ⟨below_trans h.bel hb, h.ti.below hb⟩
theorem TS.drewN (h : TS w RA rc rs UA uc us DA dc ds W) (n : Nat) : TS w RA rc rs UA uc us DA dc ds (W.drewN n) := h.below (below_drewN (Below.refl _ _) n)
end
def chkT2 (rs : List Rg) (us : List ByteArray) (ds : List De) : Int := if 200 < ds.length then 2 else match (List.range ds.length).findSome? (deFault rs us ds) with
  | some f => f
  | none => 0
theorem chkT_un {rs : List Rg} {us : List ByteArray} {ds : List De} {k : Nat} {f : Int} (h0 : chkR rs = 0) (h1 : us ≠ []) (h2 : ¬ 20 < us.length) (hk : k < us.length) (hp : ∀ j, j < k → unFault us j = none) (hf : unFault us k = some f) : chkT rs us ds = f := by
 unfold chkT
 rw [if_neg (fun h => h h0), if_neg h1, if_neg h2, findSome_first hk hp hf]
theorem chkT_de {rs : List Rg} {us : List ByteArray} {ds : List De} (h0 : chkR rs = 0) (h1 : us ≠ []) (h2 : ¬ 20 < us.length) (hp : ∀ j, j < us.length → unFault us j = none) : chkT rs us ds = chkT2 rs us ds := by
 unfold chkT chkT2
 rw [if_neg (fun h => h h0), if_neg h1, if_neg h2, findSome_none hp]
 rfl
theorem deFault_of {rs : List Rg} {us : List ByteArray} {ds : List De} {k : Nat} (hk : k < ds.length) : deFault rs us ds k = if chkD rs us (ds.take k) ds[k] ≠ 0 then some (chkD rs us (ds.take k) ds[k]) else none := by
 unfold deFault
 rw [show ds.getD k default = ds[k] by simp [List.getD, hk]]
def UnRelT (w : World) (RA : Option Addr) (rc : Nat) (rs : List Rg) (UA : Option Addr) (uc : Nat) (us : List ByteArray) (DA : Option Addr) (dc : Nat) (ds : List De) (m : Nat) (i : Value) (wr : World) : Prop :=
 TS w RA rc rs UA uc us DA dc ds wr ∧ ∃ k : Nat, k + m = us.length ∧ i = .int .i64 k ∧ ∀ j, j < k → unFault us j = none
def DeRelT (w : World) (RA : Option Addr) (rc : Nat) (rs : List Rg) (UA : Option Addr) (uc : Nat) (us : List ByteArray) (DA : Option Addr) (dc : Nat) (ds : List De) (m : Nat) (i : Value) (wr : World) : Prop :=
 TS w RA rc rs UA uc us DA dc ds wr ∧ ∃ k : Nat, k + m = ds.length ∧ i = .int .i64 k ∧ ∀ j, j < k → deFault rs us ds j = none
theorem CheckTR_c (RA : Option Addr) (rc : Nat) (rs : List Rg) (UA : Option Addr) (uc : Nat) (us : List ByteArray) (DA : Option Addr) (dc : Nat) (ds : List De) (w : World)
  (hr : Rgs w RA rs) (hu : Strs w UA us) (hd : Des w DA ds) (hz : ∀ i (h : i < rs.length), (rs[i]).nm.size ≤ 9223372036854775807) (hz2 : ∀ i (h : i < us.length), (us[i]).size ≤ 9223372036854775807) :
  Calls Tryz.prog 18 #[.agg (tiC RA rc rs UA uc us DA dc ds)] w (GivesB (.int .i64 (chkT rs us ds)) w) := by
 generalize hres : chkT rs us ds = res
 have HR := zq hres
 clear hres
 have HST : Hid (TS w RA rc rs UA uc us DA dc ds (w.alloc (.cells (tiC RA rc rs UA uc us DA dc ds) 26))) := ⟨(Below.refl w.heap.size w).alloc (Nat.le_refl _) _, Bx.new _ _ _⟩
 obtain ⟨W, hW⟩ : ∃ W, W = w.alloc (.cells (tiC RA rc rs UA uc us DA dc ds) 26) := ⟨_, rfl⟩
 rw [← hW] at HST
 have HRG := zq hr
 have HU := zq hu
 have HDE := zq hd
 clear hr hu hd
 go_enter Tryz.func18, Tryz.ntmps18
 go_upto_region 1 with fail
 rw [← hW]
 clear hW
 have x0 := HST.out.ti.cell (i := 0) rfl
 have xs := HST.out.ti.lt
 go_wp2_with fail
 refine (CheckRegionsR_c RA rc rs W (HRG.out.below HST.out.bel) hz).mono ?_
 rintro e w1 ⟨rfl, nd, rfl⟩
 have HST1 := zq (HST.out.drewN nd)
 clear x0 xs HST hz
 by_cases hcr : chkR rs = 0
 case neg =>
  have hcb : (chkR rs != 0) = true := by simpa using hcr
  have HS : Hid (res = chkR rs) := by
   show _ = _
   rw [← HR.out]; unfold chkT; rw [if_pos hcr]
  clear hcr HR
  go_wp2
  go_ret
  exact GivesB.mk (vint HS.out.symm) HST1.out.bel
 have HCR := zq hcr
 have g := good_of hcr
 rw [hcr]
 clear hcr
 have x1 := HST1.out.ti.cell (i := 1) rfl
 have xs := HST1.out.ti.lt
 by_cases hu0 : us = []
 ·have hlb : ((us.length : Int) == 0) = true := by rw [hu0]; rfl
  have HS : Hid (res = 9) := by
   show _ = _
   rw [← HR.out]; unfold chkT; rw [if_neg (fun h => h HCR.out), if_pos hu0]
  clear hu0 HR
  go_wp2
  go_ret
  exact GivesB.mk (vint HS.out.symm) HST1.out.bel
 have hup : 0 < us.length := List.length_pos_iff.2 hu0
 have hlb : ((us.length : Int) == 0) = false := by rw [beq_eq_false_iff_ne]; omega
 have HU0 := zq hu0
 clear hu0
 by_cases hu20 : 20 < us.length
 ·have HS : Hid (res = 2) := by
   show _ = _
   rw [← HR.out]; unfold chkT; rw [if_neg (fun h => h HCR.out), if_neg HU0.out, if_pos hu20]
  have h20 : (20 : Int) < (us.length : Int) := by omega
  clear hu20 HR
  go_wp2
  go_ret
  exact GivesB.mk (vint HS.out.symm) HST1.out.bel
 have h20 : ¬ (20 : Int) < (us.length : Int) := by omega
 have HH : Hid (∀ k f, k < us.length → (∀ j, j < k → unFault us j = none) → unFault us k = some f → res = f) := fun k f hk hp hf => by rw [← HR.out]; exact chkT_un HCR.out HU0.out hu20 hk hp hf
 have HN : Hid ((∀ j, j < us.length → unFault us j = none) → res = chkT2 rs us ds) := fun hp => by rw [← HR.out]; exact chkT_de HCR.out HU0.out hu20 hp
 have hul : us.length ≤ 1000000 := by omega
 have HZ2 := zq hz2
 clear hu20 HR hz2
 obtain ⟨b, o, hA, hbu, hcu⟩ := HU.out.at_ hup
 have HCU := zq hcu
 have HA := zq hA
 clear hcu hA
 go_wp2
 go_loopg [4] us.length (UnRelT w RA rc rs UA uc us DA dc ds)
 case atStart => exact ⟨HST1.out, 0, by omega, rfl, fun j hj => absurd hj (by omega)⟩
 case round =>
  clear HST1 x1 xs
  obtain ⟨hst, k, hkm, rfl, hpre⟩ := hrel
  have HST := zq hst
  have HK := zq hkm
  have HP := zq hpre
  have hk1 : k ≤ us.length := by omega
  clear hkm hpre hst
  have x1 : wr.cell? ⟨w.heap.size, 1, none⟩ = some (.slice (some ⟨b, o, none⟩) us.length uc) := by rw [← HA.out]; exact HST.out.ti.cell (i := 1) rfl
  have xs := HST.out.ti.lt
  by_cases hlt : k < us.length
  ·have hc0 : wr.cell? ⟨b, o + k, none⟩ = some (.string us[k]) := (HST.out.bel.cell hbu).trans (HCU.out k hlt)
   have hzk := HZ2.out k hlt
   go_wp2_with fail
   with_reducible refine (IsNameR_c us[k] _ hzk).mono ?_
   rintro e w2 ⟨rfl, rfl⟩
   cases hnm : isNm us[k] with
   | false =>
    have HS : Hid (res = 5) := HH.out k 5 hlt HP.out (by unfold unFault; rw [usAt_of hlt, if_pos hnm])
    clear hnm
    go_wp2
    go_ret
    exact GivesB.mk (vint HS.out.symm) HST.out.bel
   | true =>
    have HNM := zq hnm
    clear hnm
    by_cases hk0 : 0 < k
    case pos =>
     have zp : wr.cell? ⟨b, o + (k - 1), none⟩ = some (.string (us[k - 1]'(by omega))) := (HST.out.bel.cell hbu).trans (HCU.out (k - 1) (by omega))
     have hd : decide ((0 : Int) < (k : Int)) = true := by simp; omega
     have hd0 : decide ((0 : Int) ≤ (k : Int) - 1) = true := by simp; omega
     cases hle : sle us[k] (us[k - 1]'(by omega)) with
     | true =>
      have HS : Hid (res = 8) := HH.out k 8 hlt HP.out (by unfold unFault; rw [usAt_of hlt, usAt_of (show k - 1 < us.length by omega), if_neg (by rw [HNM.out]; simp), if_pos ⟨hk0, hle⟩])
      unfold sle at hle
      go_wp2
      go_quiet (fail)
      go_wp2
      go_ret
      exact GivesB.mk (vint HS.out.symm) (HST.out.drewN _).bel
     | false =>
      have HF : Hid (unFault us k = none) := by
       show _ = _
       unfold unFault; rw [usAt_of hlt, usAt_of (show k - 1 < us.length by omega), if_neg (by rw [HNM.out]; simp), if_neg (fun hh => by rw [hle] at hh; cases hh.2)]
      unfold sle at hle
      go_wp2
      go_quiet (fail)
      go_wp2
      go_roundg (gk - 1)
      case measure => have := HK.out; omega
      case rel =>
       refine ⟨HST.out.drewN _, k + 1, by have := HK.out; omega, by go_num, fun j hj => ?_⟩
       rcases Nat.lt_or_ge j k with h9 | h9
       ·exact HP.out j h9
       ·obtain rfl : j = k := by omega
        exact HF.out
    case neg =>
     have hd : decide ((0 : Int) < (k : Int)) = false := by simp; omega
     have HF : Hid (unFault us k = none) := by
      show _ = _
      unfold unFault; rw [usAt_of hlt, if_neg (by rw [HNM.out]; simp), if_neg (fun hh => hk0 hh.1)]
     go_wp2
     go_quiet (fail)
     go_wp2
     go_roundg (gk - 1)
     case measure => have := HK.out; omega
     case rel =>
      refine ⟨HST.out.drewN _, k + 1, by have := HK.out; omega, by go_num, fun j hj => ?_⟩
      rcases Nat.lt_or_ge j k with h9 | h9
      ·exact HP.out j h9
      ·obtain rfl : j = k := by omega
       exact HF.out
  ·have hke : k = us.length := by omega
   have HE : Hid (chkT2 rs us ds = res) := (HN.out (by rw [← hke]; exact HP.out)).symm
   have x2 := HST.out.ti.cell (i := 2) rfl
   clear HK HP HN HH HCU hk1 hbu
   by_cases hd200 : 200 < ds.length
   ·have HS : Hid (res = 2) := by show _ = _; rw [← HE.out]; unfold chkT2; rw [if_pos hd200]
    have h200 : (200 : Int) < (ds.length : Int) := by omega
    clear hd200
    go_wp2
    go_ret
    exact GivesB.mk (vint HS.out.symm) HST.out.bel
   have h200 : ¬ (200 : Int) < (ds.length : Int) := by omega
   have HE2 : Hid ((match (List.range ds.length).findSome? (deFault rs us ds) with
     | some f => f
     | none => 0) = res) := by
    show _ = _
    rw [← HE.out]; unfold chkT2; rw [if_neg hd200]
   have hdl : ds.length ≤ 200 := by omega
   clear HE hd200
   have HSTL := HST
   clear HST
   go_wp2
   go_loopg [5] ds.length (DeRelT w RA rc rs UA uc us DA dc ds)
   case atStart => exact ⟨HSTL.out, 0, by omega, rfl, fun j hj => absurd hj (by omega)⟩
   case round =>
    clear HSTL x1 x2 xs
    obtain ⟨hst, q, hqm, rfl, hpre⟩ := hrel
    have HST := zq hst
    have HQ := zq hqm
    have HP := zq hpre
    have hq1 : q ≤ ds.length := by omega
    clear hqm hpre hst
    by_cases hlq : q < ds.length
    ·have x2 := HST.out.ti.cell (i := 2) rfl
     have xs := HST.out.ti.lt
     go_upto_region 20 with fail
     iterate 2 go_step
     refine wp_load_mid _ _ (by rfl) w.heap.size 0 (by rfl) (tiC RA rc rs UA uc us DA dc ds).toList _ (rangeB HST.out.ti) Tryz.underlying26 rfl (by kernel_rfl) ?_
     go_wp2_with fail
     with_reducible refine (checkDeedR_c RA rc rs UA uc us DA dc ds q _ g (HRG.out.below HST.out.bel) (HU.out.below HST.out.bel) hul (HDE.out.below HST.out.bel) hlq hdl).mono ?_
     rintro e w3 ⟨rfl, hb3⟩
     have HST3 := zq (HST.out.below hb3)
     clear x2 xs hb3 HST
     by_cases hdf : chkD rs us (ds.take q) ds[q] = 0
     ·have HF : Hid (deFault rs us ds q = none) := by
       show _ = _
       rw [deFault_of hlq, if_neg (fun h => h hdf)]
      rw [hdf]
      clear hdf
      go_wp2
      go_roundg (gk - 1)
      case measure => have := HQ.out; omega
      case rel =>
       refine ⟨HST3.out, q + 1, by have := HQ.out; omega, by go_num, fun j hj => ?_⟩
       rcases Nat.lt_or_ge j q with h9 | h9
       ·exact HP.out j h9
       ·obtain rfl : j = q := by omega
        exact HF.out
     ·have HS : Hid (res = chkD rs us (ds.take q) ds[q]) := by
       show _ = _
       rw [← HE2.out, findSome_first hlq HP.out (x := chkD rs us (ds.take q) ds[q]) (by rw [deFault_of hlq, if_pos hdf])]
      have hdb : (chkD rs us (ds.take q) ds[q] != 0) = true := by simpa using hdf
      clear hdf
      go_wp2
      go_ret
      exact GivesB.mk (vint HS.out.symm) HST3.out.bel
    ·have HS : Hid (res = 0) := by
      show _ = _
      rw [← HE2.out, findSome_none (fun j hj => HP.out j (by omega))]
     have x2 := HST.out.ti.cell (i := 2) rfl
     have xs := HST.out.ti.lt
     go_wp2
     go_ret
     exact GivesB.mk (vint HS.out.symm) HST.out.bel
theorem deedL_len {d : De} (hz : DSz d) : (deedL d).length ≤ 2200000 := by
 have h1 := headL_len hz
 have zr := rat_size hz.nu hz.de
 have a1 := hz.th
 have a2 := hz.fr
 have a3 := hz.to_
 have a4 := hz.ot
 have b1 := ln2_len (givesB d.kd || decide (d.kd = 1)) (s1 := wThing) (s2 := d.th) (by decide) (by omega)
 have b2 := ln2_len (givesB d.kd || decide (d.kd = 5)) (s1 := wFrom) (s2 := d.fr) (by decide) (by omega)
 have b3 := ln2_len (givesB d.kd) (s1 := wTo) (s2 := d.to_) (by decide) (by omega)
 have b4 := ln2_len (decide (d.kd = 2)) (s1 := wPart) (s2 := ratB d.nu d.de) (by decide) zr
 have b5 := ln1_len d.ex (s1 := wExcl) (by decide)
 have b6 := ln1_len d.sb (s1 := wSub) (by decide)
 have b7 := ln2_len true (s1 := wBegin) (s2 := itoaB d.bg) (by decide) (itoa_sz hz.bg.1 hz.bg.2)
 have b8 := ln2_len (givesB d.kd) (s1 := wEnd) (s2 := itoaB d.en) (by decide) (itoa_sz hz.en.1 hz.en.2)
 have b9 := ln2_len (decide (d.kd = 4)) (s1 := wEnds) (s2 := d.ot) (by decide) (by omega)
 have c1 := flatL_len arL 14000 d.ar fun a ha => by
  have := hz.ar a ha
  exact ln2_len true (s1 := if a.out = true then wOut else wIn) (s2 := a.rg) (by split <;> decide) (by omega)
 have c2 := flatL_len usL 14000 d.us fun a ha => by
  have := hz.us a ha
  exact ln2_len true (s1 := wFor) (s2 := a) (by decide) (by omega)
 have c3 := flatL_len shL 14000 d.sh fun a ha => by
  obtain ⟨k1, k2, k3⟩ := hz.sh a ha
  exact ln3_len true (s1 := wShare) (s2 := a.pt) (s3 := ratB a.nu a.de) (by decide) (by omega) (rat_size k2 k3)
 have d1 : d.ar.length * 14000 ≤ 100 * 14000 := Nat.mul_le_mul hz.arl (Nat.le_refl _)
 have d2 : d.us.length * 14000 ≤ 20 * 14000 := Nat.mul_le_mul hz.usl (Nat.le_refl _)
 have d3 : d.sh.length * 14000 ≤ 20 * 14000 := Nat.mul_le_mul hz.shl (Nat.le_refl _)
 rw [ifL_true] at b7
 unfold deedL preA midA endA
 simp only [List.length_append]
 omega
theorem regL_len {r : Rg} (h1 : r.nm.size ≤ 40) (h2 : r.par.size ≤ 40) : (regL r).length ≤ 100 := by
 have e : (⟨#[114, 101, 103, 105, 111, 110, 32]⟩ : ByteArray).data.toList.length = 7 := rfl
 have e1 : r.nm.data.toList.length = r.nm.size := (Lib.size_eq _).symm
 have e2 : r.par.data.toList.length = r.par.size := (Lib.size_eq _).symm
 have e3 : (if r.par = emp then [45] else r.par.data.toList : List UInt8).length ≤ 40 := by
  split
  ·simp
  ·omega
 unfold regL
 simp only [List.length_append, List.length_cons, List.length_nil, e, e1]
 omega
theorem useL_len {u : ByteArray} (h1 : u.size ≤ 40) : (useL u).length ≤ 50 := by
 have e : (⟨#[117, 115, 101, 32]⟩ : ByteArray).data.toList.length = 4 := rfl
 have e1 : u.data.toList.length = u.size := (Lib.size_eq _).symm
 unfold useL
 simp only [List.length_append, List.length_cons, List.length_nil, e, e1]
 omega
theorem flats_len {rs : List Rg} {us : List ByteArray} {ds : List De} (hc : chkT rs us ds = 0) (k : Nat) : (flatL regL (rs.take k)).length ≤ 20000 ∧ (flatL useL (us.take k)).length ≤ 1000 ∧ (flatL deedL (ds.take k)).length ≤ 440000000 := by
 obtain ⟨⟨r1, r2⟩, ⟨u1, u2⟩, d1, d2⟩ := chkT_size hc
 exact ⟨take_len regL 100 200 rs k (fun x hx => regL_len (r2 x hx).1 (r2 x hx).2) r1, take_len useL 50 20 us k (fun x hx => useL_len (u2 x hx)) u1, take_len deedL 2200000 200 ds k (fun x hx => deedL_len (d2 x hx)) d1⟩
def parW (r : Rg) : ByteArray := if r.par = emp then ⟨#[45]⟩ else r.par
theorem reg_eq {pre : ByteArray} (r : Rg) {p : ByteArray} (hp : p = parW r) (he : pre = ⟨#[114, 101, 103, 105, 111, 110, 32]⟩) : ((((pre ++ r.nm) ++ ⟨#[32]⟩) ++ p) ++ ⟨#[10]⟩).data.toList = regL r := by
 unfold regL
 rw [hp, he]
 unfold parW
 simp only [data_app]
 split <;> rfl
theorem parW_size {r : Rg} (h : r.par.size ≤ 40) : (parW r).size ≤ 40 := by
 unfold parW
 split
 ·decide
 ·exact h
theorem reg_cats (pre nm p : ByteArray) (h0 : pre.size = 7) (h1 : nm.size ≤ 40) (h2 : p.size ≤ 40) :
  (∀ W, (Op.stringOp .add pre nm).run Tryz.prog W = .ok (.string (pre ++ nm)) W) ∧ (∀ W, (Op.stringOp .add (pre ++ nm) ⟨#[32]⟩).run Tryz.prog W = .ok (.string ((pre ++ nm) ++ ⟨#[32]⟩)) W) ∧
  (∀ W, (Op.stringOp .add ((pre ++ nm) ++ ⟨#[32]⟩) p).run Tryz.prog W = .ok (.string (((pre ++ nm) ++ ⟨#[32]⟩) ++ p)) W) ∧
  (∀ W, (Op.stringOp .add (((pre ++ nm) ++ ⟨#[32]⟩) ++ p) ⟨#[10]⟩).run Tryz.prog W = .ok (.string ((((pre ++ nm) ++ ⟨#[32]⟩) ++ p) ++ ⟨#[10]⟩)) W) ∧ ((((pre ++ nm) ++ ⟨#[32]⟩) ++ p) ++ ⟨#[10]⟩).size ≤ 100 := by
 have e1 : (⟨#[10]⟩ : ByteArray).size = 1 := rfl
 have e3 : (⟨#[32]⟩ : ByteArray).size = 1 := rfl
 refine ⟨cat_big _ _ (by omega), cat_big _ _ ?_, cat_big _ _ ?_, cat_big _ _ ?_, ?_⟩ <;> (simp only [ByteArray.size_append, e1, e3]; omega)
theorem reg_add (L : List UInt8) (t : ByteArray) {r : List UInt8} (h : t.data.toList = r) (h1 : t.size ≤ 3000000) (h2 : L.length ≤ 900000000) : ∀ W, (Op.stringOp .add (sB L) t).run Tryz.prog W = .ok (.string (sB (L ++ r))) W := fun W => by
 rw [cat_big (sB L) _ (by rw [sB_size]; omega) W, sB_add, h]
theorem use_eq {pre : ByteArray} (u : ByteArray) (he : pre = ⟨#[117, 115, 101, 32]⟩) : ((pre ++ u) ++ ⟨#[10]⟩).data.toList = useL u := by
 unfold useL
 rw [he]
 simp only [data_app]
theorem use_cats (pre u : ByteArray) (h0 : pre.size = 4) (h1 : u.size ≤ 40) :
  (∀ W, (Op.stringOp .add pre u).run Tryz.prog W = .ok (.string (pre ++ u)) W) ∧ (∀ W, (Op.stringOp .add (pre ++ u) ⟨#[10]⟩).run Tryz.prog W = .ok (.string ((pre ++ u) ++ ⟨#[10]⟩)) W) ∧ ((pre ++ u) ++ ⟨#[10]⟩).size ≤ 100 := by
 have e1 : (⟨#[10]⟩ : ByteArray).size = 1 := rfl
 refine ⟨cat_big _ _ (by omega), cat_big _ _ ?_, ?_⟩ <;> (simp only [ByteArray.size_append, e1]; omega)
abbrev sfP (p : ByteArray × Int) : Value := .tuple #[.string p.1, .int .i64 p.2]
theorem txF_chk {rs : List Rg} {us : List ByteArray} {ds : List De} (h : chkT rs us ds ≠ 0) : txF rs us ds = (emp, chkT rs us ds) := by unfold txF; rw [if_pos h]
theorem txF_large {rs : List Rg} {us : List ByteArray} {ds : List De} (h : chkT rs us ds = 0) (h2 : 500000 < (txtL rs us ds).length) : txF rs us ds = (emp, 2) := by unfold txF; rw [if_neg (by rw [h]; simp), if_pos h2]
theorem txF_ok {rs : List Rg} {us : List ByteArray} {ds : List De} (h : chkT rs us ds = 0) (h2 : ¬ 500000 < (txtL rs us ds).length) : txF rs us ds = (sB (txtL rs us ds), 0) := by unfold txF; rw [if_neg (by rw [h]; simp), if_neg h2]; rfl
def TxR (w : World) (T : Array Value) (n : Nat) (F : Nat → List UInt8) (m : Nat) (s i : Value) (wr : World) : Prop :=
 ∃ (k : Nat) (L : List UInt8), k + m = n ∧ i = .int .i64 (k : Nat) ∧ s = .string (sB L) ∧ L = F k ∧ Below w.heap.size w wr ∧ Bx wr w.heap.size T 26
theorem TextR_c (RA : Option Addr) (rc : Nat) (rs : List Rg) (UA : Option Addr) (uc : Nat) (us : List ByteArray) (DA : Option Addr) (dc : Nat) (ds : List De) (w : World)
  (hr : Rgs w RA rs) (hu : Strs w UA us) (hd : Des w DA ds) (hz : ∀ i (h : i < rs.length), (rs[i]).nm.size ≤ 9223372036854775807) (hz2 : ∀ i (h : i < us.length), (us[i]).size ≤ 9223372036854775807) (hP : POK w) :
  Calls Tryz.prog 16 #[.agg (tiC RA rc rs UA uc us DA dc ds)] w (GivesB (sfP (txF rs us ds)) w) := by
 generalize hres : txF rs us ds = res
 have HR := zq hres
 clear hres
 have HX : Hid (Bx (w.alloc (.cells (tiC RA rc rs UA uc us DA dc ds) 26)) w.heap.size (tiC RA rc rs UA uc us DA dc ds) 26) := Bx.new _ _ _
 have HB : Hid (Below w.heap.size w (w.alloc (.cells (tiC RA rc rs UA uc us DA dc ds) 26))) := (Below.refl _ _).alloc (Nat.le_refl _) _
 obtain ⟨W, hW⟩ : ∃ W, W = w.alloc (.cells (tiC RA rc rs UA uc us DA dc ds) 26) := ⟨_, rfl⟩
 rw [← hW] at HX HB
 have HCK := zq (CheckTR_c RA rc rs UA uc us DA dc ds W (hr.below HB.out) (hu.below HB.out) (hd.below HB.out) hz hz2)
 have HDw := zq hd
 have HRw := zq hr
 have HUw := zq hu
 have HPK := zq hP
 clear hr hu hd hP
 go_enter Tryz.func16, Tryz.ntmps16
 go_upto_region 1 with fail
 rw [← hW]
 clear hW
 iterate 2 go_step
 refine wp_load_mid _ _ (by rfl) w.heap.size 0 (by rfl) (tiC RA rc rs UA uc us DA dc ds).toList _ (rangeB HX.out) Tryz.underlying26 rfl (by kernel_rfl) ?_
 go_wp2_with fail
 with_reducible refine HCK.out.mono ?_
 rintro e w1 ⟨rfl, hb1⟩
 have HB1 := zq (below_trans HB.out hb1)
 have HX1 := zq (HX.out.below hb1)
 clear hb1 HCK HX HB
 by_cases hc : chkT rs us ds = 0
 case neg =>
  have hcb : (chkT rs us ds != 0) = true := by simpa using hc
  have HS : Hid (res = (emp, chkT rs us ds)) := by show _ = _; rw [← HR.out, txF_chk hc]
  clear hc
  go_wp2
  go_ret2
  exact GivesB.mk (by first | (rw [HS.out]; rfl) | rw [HS.out]) HB1.out
 have HC := zq hc
 rw [hc]
 obtain ⟨⟨r1, r2⟩, ⟨u1, u2⟩, d1, d2⟩ := chkT_size hc
 have HRZ := zq r2
 have HUZ := zq u2
 have HDZ := zq d2
 have HFL := zq (fun k => flats_len hc k)
 clear hc r2 u2 d2
 go_wp2
 go_loopg [5, 6] rs.length (TxR w (tiC RA rc rs UA uc us DA dc ds) rs.length (fun k => flatL regL (rs.take k)))
 case atStart => exact ⟨0, [], by omega, rfl, rfl, rfl, HB1.out, HX1.out⟩
 clear HB1 HX1
 case round =>
  obtain ⟨k, L, hkm, rfl, rfl, hL, hb, hx⟩ := hrel
  have HKM := zq hkm
  have HL : Hid (L = flatL regL (rs.take k)) := hL
  have HB := zq hb
  have HX := zq hx
  have hkl : k ≤ rs.length := by omega
  have HF := zq (HFL.out k)
  clear hkm hb hx hL
  have x0 : _ = some (Value.slice RA rs.length rc) := HX.out.cell (i := 0) rfl
  have xs := HX.out.lt
  by_cases hlt : k < rs.length
  ·obtain ⟨b, o, hA, hb0, hcc⟩ := (HRw.out.below HB.out).at_ (by omega)
   subst hA
   obtain ⟨q0, q1⟩ := hcc k hlt
   obtain ⟨z1, z2⟩ := HRZ.out _ (List.getElem_mem hlt)
   have HT : Hid (flatL regL (rs.take (k + 1)) = flatL regL (rs.take k) ++ regL rs[k]) := flatL_take regL rs hlt
   generalize hr : rs[k] = r at *
   obtain ⟨p, hp⟩ : ∃ p, p = parW r := ⟨_, rfl⟩
   obtain ⟨c1, c2, c3, c4, c5⟩ := reg_cats ⟨#[114, 101, 103, 105, 111, 110, 32]⟩ r.nm p rfl z1 (by rw [hp]; exact parW_size z2)
   have c6 := reg_add L _ (reg_eq r hp rfl) (by omega) (by rw [HL.out]; have := HF.out.1; omega)
   have HPP := zq hp
   clear hcc hr hp c5 z1 z2
   rcases em_str r.par with ⟨h1, h2⟩ | ⟨h1, h2⟩
   ·have hpe : p = ⟨#[45]⟩ := by rw [HPP.out]; unfold parW; rw [if_pos h1]
    clear h1
    subst hpe
    go_wp2
    go_roundg (gk - 1)
    case measure => have := HKM.out; omega
    case rel => exact ⟨k + 1, _, by have := HKM.out; omega, by go_num, rfl, by show _ = flatL regL (rs.take (k + 1)); rw [HT.out, ← HL.out], HB.out, HX.out⟩
   ·have hpe : p = r.par := by rw [HPP.out]; unfold parW; rw [if_neg h1]
    clear h1
    subst hpe
    go_wp2
    go_roundg (gk - 1)
    case measure => have := HKM.out; omega
    case rel => exact ⟨k + 1, _, by have := HKM.out; omega, by go_num, rfl, by show _ = flatL regL (rs.take (k + 1)); rw [HT.out, ← HL.out], HB.out, HX.out⟩
  ·obtain rfl : k = rs.length := by omega
   have HF1 := zq (show (flatL regL rs).length ≤ 20000 by have := HF.out.1; rw [flatL_all regL rs (by omega)] at this; exact this)
   have HL1 : Hid (L = flatL regL rs) := by show _ = _; rw [HL.out, flatL_all regL rs (by omega)]
   rw [← HL1.out] at HF1
   obtain ⟨L1, hL1⟩ : ∃ L1, L1 = L := ⟨_, rfl⟩
   subst hL1
   clear HF HL
   go_wp2
   clear x0 xs
   go_loopg [5, 8] us.length (TxR w (tiC RA rc rs UA uc us DA dc ds) us.length (fun k => L1 ++ flatL useL (us.take k)))
   case atStart => exact ⟨0, _, by omega, rfl, rfl, by simp [flatL], HB.out, HX.out⟩
   clear HB HX
   case round =>
    obtain ⟨k, L, hkm, rfl, rfl, hL, hb, hx⟩ := hrel
    have HKM := zq hkm
    have HM : Hid (L = L1 ++ flatL useL (us.take k)) := hL
    have HB := zq hb
    have HX := zq hx
    have hkl : k ≤ us.length := by omega
    have HF := zq (HFL.out k)
    clear hkm hb hx hL
    have x1 : _ = some (Value.slice UA us.length uc) := HX.out.cell (i := 1) rfl
    have xs := HX.out.lt
    by_cases hlt : k < us.length
    ·obtain ⟨b, o, hA, hb0, hcc⟩ := (HUw.out.below HB.out).at_ (by omega)
     subst hA
     have q0 := hcc k hlt
     have z1 := HUZ.out _ (List.getElem_mem hlt)
     have HT : Hid (flatL useL (us.take (k + 1)) = flatL useL (us.take k) ++ useL us[k]) := flatL_take useL us hlt
     generalize hr : us[k] = u at *
     obtain ⟨c1, c2, c5⟩ := use_cats ⟨#[117, 115, 101, 32]⟩ u rfl z1
     have c6 := reg_add L _ (use_eq u rfl) (by omega) (by rw [HM.out, List.length_append]; have := HF.out.2.1; have := HF1.out; omega)
     clear hcc hr c5 z1
     go_wp2
     go_roundg (gk - 1)
     case measure => have := HKM.out; omega
     case rel => exact ⟨k + 1, _, by have := HKM.out; omega, by go_num, rfl, by show _ = L1 ++ flatL useL (us.take (k + 1)); rw [HT.out, HM.out, List.append_assoc], HB.out, HX.out⟩
    ·obtain rfl : k = us.length := by omega
     have HF2 := zq (show (L1 ++ flatL useL us).length ≤ 21000 by have := HF.out.2.1; rw [flatL_all useL us (by omega)] at this; rw [List.length_append]; have := HF1.out; omega)
     have HL2 : Hid (L = L1 ++ flatL useL us) := by show _ = _; rw [HM.out, flatL_all useL us (by omega)]
     rw [← HL2.out] at HF2
     obtain ⟨L2, hL2⟩ : ∃ L2, L2 = L := ⟨_, rfl⟩
     subst hL2
     clear HF HF1 HM
     go_wp2
     clear x1 xs
     go_loopg [5, 9] ds.length (TxR w (tiC RA rc rs UA uc us DA dc ds) ds.length (fun k => L2 ++ flatL deedL (ds.take k)))
     case atStart => exact ⟨0, _, by omega, rfl, rfl, by simp [flatL], HB.out, HX.out⟩
     clear HB HX
     case round =>
      obtain ⟨k, L, hkm, rfl, rfl, hL, hb, hx⟩ := hrel
      have HKM := zq hkm
      have HM : Hid (L = L2 ++ flatL deedL (ds.take k)) := hL
      have HB := zq hb
      have HX := zq hx
      have hkl : k ≤ ds.length := by omega
      have HF := zq (HFL.out k)
      clear hkm hb hx hL
      have x2 : _ = some (Value.slice DA ds.length dc) := HX.out.cell (i := 2) rfl
      have xs := HX.out.lt
      by_cases hlt : k < ds.length
      ·obtain ⟨b, o, hA, hb0, hc0⟩ := HDw.out (by omega)
       subst hA
       have hp := (hc0 k hlt).1
       have HOK := zq (hc0 k hlt).2
       have HZD := zq (HDZ.out _ (List.getElem_mem hlt))
       have HT : Hid (flatL deedL (ds.take (k + 1)) = flatL deedL (ds.take k) ++ deedL ds[k]) := flatL_take deedL ds hlt
       generalize hr : ds[k] = d at *
       have hrg : wr.rangeAt b (o + k * 16) (deC d).toList := fun q v hv => (HB.out.cell (p := ⟨b, o + k * 16 + q, none⟩) hb0).trans (hp q v hv)
       have HDT := zq (deedTextR_c w d wr HOK.out HZD.out HPK.out HB.out)
       have c6 := reg_add L (sB (deedL d)) (r := deedL d) (by simp [sB]) (by rw [sB_size]; have := deedL_len HZD.out; omega) (by rw [HM.out, List.length_append]; have := HF.out.2.2; have := HF2.out; omega)
       clear hc0 hp hr
       go_upto_region 19 with fail
       iterate 17 go_step
       refine wp_load_mid _ _ (by rfl) b (o + k * 16) (by rfl) (deC d).toList _ hrg Tryz.underlying54 rfl (by kernel_rfl) ?_
       clear hrg
       go_wp2_with fail
       with_reducible refine HDT.out.mono ?_
       rintro e w2 ⟨rfl, hb2⟩
       have HB2 := zq (below_trans HB.out hb2)
       have HX2 := zq (HX.out.below hb2)
       clear hb2 HDT
       go_wp2
       go_roundg (gk - 1)
       case measure => have := HKM.out; omega
       case rel => exact ⟨k + 1, _, by have := HKM.out; omega, by go_num, rfl, by show _ = L2 ++ flatL deedL (ds.take (k + 1)); rw [HT.out, HM.out, List.append_assoc], HB2.out, HX2.out⟩
      ·have HTX : Hid (L = txtL rs us ds) := by
        show _ = _
        rw [HM.out, flatL_all deedL ds (by omega), HL2.out, HL1.out]; rfl
       have HLN : Hid ((sB (txtL rs us ds)).size = (txtL rs us ds).length) := sB_size _
       rw [HTX.out]
       by_cases hq : 500000 < (txtL rs us ds).length
       ·have HS : Hid (res = (emp, 2)) := by show _ = _; rw [← HR.out, txF_large HC.out hq]
        have hq1 : (500000 : Int) < ((sB (txtL rs us ds)).size : Int) := by rw [HLN.out]; omega
        clear hq
        go_wp2
        go_ret2
        exact GivesB.mk (by first | (rw [HS.out]; rfl) | rw [HS.out]) HB.out
       ·have HS : Hid (res = (sB (txtL rs us ds), 0)) := by show _ = _; rw [← HR.out, txF_ok HC.out hq]
        have hq1 : ¬ (500000 : Int) < ((sB (txtL rs us ds)).size : Int) := by rw [HLN.out]; omega
        clear hq
        go_wp2
        go_ret2
        exact GivesB.mk (by first | (rw [HS.out]; rfl) | rw [HS.out]) HB.out
end Go.Proofs.YtlcfgejaeecclaaGreatDoor
