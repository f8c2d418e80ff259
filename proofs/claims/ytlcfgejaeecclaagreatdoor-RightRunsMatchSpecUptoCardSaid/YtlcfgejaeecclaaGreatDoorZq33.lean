/- Parts of the proof, joined: The reference's checkDeed = chkD. The reference's Check of a title = c. -/
import Derived.Test.YtlcfgejaeecclaaGreatDoorZq28
import Derived.Test.YtlcfgejaeecclaaGreatDoorZq29
import Derived.Test.YtlcfgejaeecclaaGreatDoorZq30
import Derived.Test.YtlcfgejaeecclaaGreatDoorZq31
import Derived.Test.YtlcfgejaeecclaaGreatDoorZq32
import Derived.Lib.QuietBelow
set_option maxRecDepth 100000
set_option maxHeartbeats 8000000
namespace Go.Proofs.YtlcfgejaeecclaaGreatDoor
open Go.RowKit Dw
theorem checkDeedR_c (RA : Option Addr) (rc : Nat) (rs : List Rg) (UA : Option Addr) (uc : Nat) (us : List ByteArray) (DA : Option Addr) (dc : Nat) (ds : List De) (k : Nat) (w : World) (g : GoodR rs) (hr : Rgs w RA rs) (hu : Strs w UA us) (hul : us.length ≤ 1000000) (hd : Des w DA ds) (hk : k < ds.length) (hdl : ds.length ≤ 200) :
  Calls Tryz.prog 51 #[.agg (tiC RA rc rs UA uc us DA dc ds), .int .i64 k] w (GivesB (.int .i64 (chkD rs us (ds.take k) ds[k])) w) := by
 by_cases h0 : ds[k].kd < 1 ∨ 5 < ds[k].kd
 ·exact checkDeed_x RA rc rs UA uc us DA dc ds k w g hr hu hul hd hk hdl h0
 ·by_cases h1 : ds[k].kd = 1
  ·exact checkDeed_b RA rc rs UA uc us DA dc ds k w g hr hu hul hd hk hdl h1
  ·by_cases h5 : ds[k].kd = 5
   ·exact checkDeed_z RA rc rs UA uc us DA dc ds k w g hr hu hul hd hk hdl h5
   ·by_cases h4 : ds[k].kd = 4
    ·exact checkDeed_e RA rc rs UA uc us DA dc ds k w g hr hu hul hd hk hdl h4
    ·exact checkDeed_g RA rc rs UA uc us DA dc ds k w g hr hu hul hd hk hdl (by omega)
structure TS (w : World) (RA : Option Addr) (rc : Nat) (rs : List Rg) (UA : Option Addr) (uc : Nat) (us : List ByteArray) (DA : Option Addr) (dc : Nat) (ds : List De) (W : World) : Prop where
 bel : Below w.heap.size w W
 ti : Bx W w.heap.size (tiC RA rc rs UA uc us DA dc ds) 26
section
variable {w W W' : World} {RA : Option Addr} {rc : Nat} {rs : List Rg} {UA : Option Addr} {uc : Nat} {us : List ByteArray} {DA : Option Addr} {dc : Nat} {ds : List De}
theorem TS.below (h : TS w RA rc rs UA uc us DA dc ds W) (hb : Below W.heap.size W W') : TS w RA rc rs UA uc us DA dc ds W' := ⟨below_trans h.bel hb, h.ti.below hb⟩
theorem TS.drewN (h : TS w RA rc rs UA uc us DA dc ds W) (n : Nat) : TS w RA rc rs UA uc us DA dc ds (W.drewN n) := h.below (below_drewN (Below.refl _ _) n)
end
def chkT2 (rs : List Rg) (us : List ByteArray) (ds : List De) : Int := if 200 < ds.length then 2 else match (List.range ds.length).findSome? (deFault rs us ds) with
  | some f => f
  | none => 0
theorem chkT_un {rs : List Rg} {us : List ByteArray} {ds : List De} {k : Nat} {f : Int} (h0 : chkR rs = 0) (h1 : us ≠ []) (h2 : ¬ 20 < us.length) (hk : k < us.length) (hp : ∀ j, j < k → unFault us j = none) (hf : unFault us k = some f) : chkT rs us ds = f := by
 unfold chkT
 rw [if_neg (fun h => h h0), if_neg h1, if_neg h2, findSome_first hk hp hf]
theorem chkT_de {rs : List Rg} {us : List ByteArray} {ds : List De} (h0 : chkR rs = 0) (h1 : us ≠ []) (h2 : ¬ 20 < us.length) (hp : ∀ j, j < us.length → unFault us j = none) : chkT rs us ds = chkT2 rs us ds := by
 unfold chkT chkT2
 rw [if_neg (fun h => h h0), if_neg h1, if_neg h2, findSome_none hp]
 rfl
theorem deFault_of {rs : List Rg} {us : List ByteArray} {ds : List De} {k : Nat} (hk : k < ds.length) : deFault rs us ds k = if chkD rs us (ds.take k) ds[k] ≠ 0 then some (chkD rs us (ds.take k) ds[k]) else none := by
 unfold deFault
 rw [show ds.getD k default = ds[k] by simp [List.getD, hk]]
def UnRelT (w : World) (RA : Option Addr) (rc : Nat) (rs : List Rg) (UA : Option Addr) (uc : Nat) (us : List ByteArray) (DA : Option Addr) (dc : Nat) (ds : List De) (m : Nat) (i : Value) (wr : World) : Prop :=
 TS w RA rc rs UA uc us DA dc ds wr ∧ ∃ k : Nat, k + m = us.length ∧ i = .int .i64 k ∧ ∀ j, j < k → unFault us j = none
def DeRelT (w : World) (RA : Option Addr) (rc : Nat) (rs : List Rg) (UA : Option Addr) (uc : Nat) (us : List ByteArray) (DA : Option Addr) (dc : Nat) (ds : List De) (m : Nat) (i : Value) (wr : World) : Prop :=
 TS w RA rc rs UA uc us DA dc ds wr ∧ ∃ k : Nat, k + m = ds.length ∧ i = .int .i64 k ∧ ∀ j, j < k → deFault rs us ds j = none
theorem CheckTR_c (RA : Option Addr) (rc : Nat) (rs : List Rg) (UA : Option Addr) (uc : Nat) (us : List ByteArray) (DA : Option Addr) (dc : Nat) (ds : List De) (w : World)
  (hr : Rgs w RA rs) (hu : Strs w UA us) (hd : Des w DA ds) (hz : ∀ i (h : i < rs.length), (rs[i]).nm.size ≤ 9223372036854775807) (hz2 : ∀ i (h : i < us.length), (us[i]).size ≤ 9223372036854775807) :
  Calls Tryz.prog 18 #[.agg (tiC RA rc rs UA uc us DA dc ds)] w (GivesB (.int .i64 (chkT rs us ds)) w) := by
 generalize hres : chkT rs us ds = res
 have HR := zq hres
 clear hres
 have HST : Hid (TS w RA rc rs UA uc us DA dc ds (w.alloc (.cells (tiC RA rc rs UA uc us DA dc ds) 26))) := ⟨(Below.refl w.heap.size w).alloc (Nat.le_refl _) _, Bx.new _ _ _⟩
 obtain ⟨W, hW⟩ : ∃ W, W = w.alloc (.cells (tiC RA rc rs UA uc us DA dc ds) 26) := ⟨_, rfl⟩
 rw [← hW] at HST
 have HRG := zq hr
 have HU := zq hu
 have HDE := zq hd
 clear hr hu hd
 go_enter Tryz.func18, Tryz.ntmps18
 go_upto_region 1 with fail
 rw [← hW]
 clear hW
 have x0 := HST.out.ti.cell (i := 0) rfl
 have xs := HST.out.ti.lt
 go_wp2_with fail
 refine (CheckRegionsR_c RA rc rs W (HRG.out.below HST.out.bel) hz).mono ?_
 rintro e w1 ⟨rfl, nd, rfl⟩
 have HST1 := zq (HST.out.drewN nd)
 clear x0 xs HST hz
 by_cases hcr : chkR rs = 0
 case neg =>
  have hcb : (chkR rs != 0) = true := by simpa using hcr
  have HS : Hid (res = chkR rs) := by
   show _ = _
   rw [← HR.out]; unfold chkT; rw [if_pos hcr]
  clear hcr HR
  go_wp2
  go_ret
  exact GivesB.mk (vint HS.out.symm) HST1.out.bel
 have HCR := zq hcr
 have g := good_of hcr
 rw [hcr]
 clear hcr
 have x1 := HST1.out.ti.cell (i := 1) rfl
 have xs := HST1.out.ti.lt
 by_cases hu0 : us = []
 ·have hlb : ((us.length : Int) == 0) = true := by rw [hu0]; rfl
  have HS : Hid (res = 9) := by
   show _ = _
   rw [← HR.out]; unfold chkT; rw [if_neg (fun h => h HCR.out), if_pos hu0]
  clear hu0 HR
  go_wp2
  go_ret
  exact GivesB.mk (vint HS.out.symm) HST1.out.bel
 have hup : 0 < us.length := List.length_pos_iff.2 hu0
 have hlb : ((us.length : Int) == 0) = false := by rw [beq_eq_false_iff_ne]; omega
 have HU0 := zq hu0
 clear hu0
 by_cases hu20 : 20 < us.length
 ·have HS : Hid (res = 2) := by
   show _ = _
   rw [← HR.out]; unfold chkT; rw [if_neg (fun h => h HCR.out), if_neg HU0.out, if_pos hu20]
  have h20 : (20 : Int) < (us.length : Int) := by omega
  clear hu20 HR
  go_wp2
  go_ret
  exact GivesB.mk (vint HS.out.symm) HST1.out.bel
 have h20 : ¬ (20 : Int) < (us.length : Int) := by omega
 have HH : Hid (∀ k f, k < us.length → (∀ j, j < k → unFault us j = none) → unFault us k = some f → res = f) := fun k f hk hp hf => by rw [← HR.out]; exact chkT_un HCR.out HU0.out hu20 hk hp hf
 have HN : Hid ((∀ j, j < us.length → unFault us j = none) → res = chkT2 rs us ds) := fun hp => by rw [← HR.out]; exact chkT_de HCR.out HU0.out hu20 hp
 have hul : us.length ≤ 1000000 := by omega
 have HZ2 := zq hz2
 clear hu20 HR hz2
 obtain ⟨b, o, hA, hbu, hcu⟩ := HU.out.at_ hup
 have HCU := zq hcu
 have HA := zq hA
 clear hcu hA
 go_wp2
 go_loopg [4] us.length (UnRelT w RA rc rs UA uc us DA dc ds)
 case atStart => exact ⟨HST1.out, 0, by omega, rfl, fun j hj => absurd hj (by omega)⟩
 case round =>
  clear HST1 x1 xs
  obtain ⟨hst, k, hkm, rfl, hpre⟩ := hrel
  have HST := zq hst
  have HK := zq hkm
  have HP := zq hpre
  have hk1 : k ≤ us.length := by omega
  clear hkm hpre hst
  have x1 : wr.cell? ⟨w.heap.size, 1, none⟩ = some (.slice (some ⟨b, o, none⟩) us.length uc) := by rw [← HA.out]; exact HST.out.ti.cell (i := 1) rfl
  have xs := HST.out.ti.lt
  by_cases hlt : k < us.length
  ·have hc0 : wr.cell? ⟨b, o + k, none⟩ = some (.string us[k]) := (HST.out.bel.cell hbu).trans (HCU.out k hlt)
   have hzk := HZ2.out k hlt
   go_wp2_with fail
   with_reducible refine (IsNameR_c us[k] _ hzk).mono ?_
   rintro e w2 ⟨rfl, rfl⟩
   cases hnm : isNm us[k] with
   | false =>
    have HS : Hid (res = 5) := HH.out k 5 hlt HP.out (by unfold unFault; rw [usAt_of hlt, if_pos hnm])
    clear hnm
    go_wp2
    go_ret
    exact GivesB.mk (vint HS.out.symm) HST.out.bel
   | true =>
    have HNM := zq hnm
    clear hnm
    by_cases hk0 : 0 < k
    case pos =>
     have zp : wr.cell? ⟨b, o + (k - 1), none⟩ = some (.string (us[k - 1]'(by omega))) := (HST.out.bel.cell hbu).trans (HCU.out (k - 1) (by omega))
     have hd : decide ((0 : Int) < (k : Int)) = true := by simp; omega
     have hd0 : decide ((0 : Int) ≤ (k : Int) - 1) = true := by simp; omega
     cases hle : sle us[k] (us[k - 1]'(by omega)) with
     | true =>
      have HS : Hid (res = 8) := HH.out k 8 hlt HP.out (by unfold unFault; rw [usAt_of hlt, usAt_of (show k - 1 < us.length by omega), if_neg (by rw [HNM.out]; simp), if_pos ⟨hk0, hle⟩])
      unfold sle at hle
      go_wp2
      go_quiet (fail)
      go_wp2
      go_ret
      exact GivesB.mk (vint HS.out.symm) (HST.out.drewN _).bel
     | false =>
      have HF : Hid (unFault us k = none) := by
       show _ = _
       unfold unFault; rw [usAt_of hlt, usAt_of (show k - 1 < us.length by omega), if_neg (by rw [HNM.out]; simp), if_neg (fun hh => by rw [hle] at hh; cases hh.2)]
      unfold sle at hle
      go_wp2
      go_quiet (fail)
      go_wp2
      go_roundg (gk - 1)
      case measure => have := HK.out; omega
      case rel =>
       refine ⟨HST.out.drewN _, k + 1, by have := HK.out; omega, by go_num, fun j hj => ?_⟩
       rcases Nat.lt_or_ge j k with h9 | h9
       ·exact HP.out j h9
       ·obtain rfl : j = k := by omega
        exact HF.out
    case neg =>
     have hd : decide ((0 : Int) < (k : Int)) = false := by simp; omega
     have HF : Hid (unFault us k = none) := by
      show _ = _
      unfold unFault; rw [usAt_of hlt, if_neg (by rw [HNM.out]; simp), if_neg (fun hh => hk0 hh.1)]
     go_wp2
     go_quiet (fail)
     go_wp2
     go_roundg (gk - 1)
     case measure => have := HK.out; omega
     case rel =>
      refine ⟨HST.out.drewN _, k + 1, by have := HK.out; omega, by go_num, fun j hj => ?_⟩
      rcases Nat.lt_or_ge j k with h9 | h9
      ·exact HP.out j h9
      ·obtain rfl : j = k := by omega
       exact HF.out
  ·have hke : k = us.length := by omega
   have HE : Hid (chkT2 rs us ds = res) := (HN.out (by rw [← hke]; exact HP.out)).symm
   have x2 := HST.out.ti.cell (i := 2) rfl
   clear HK HP HN HH HCU hk1 hbu
   by_cases hd200 : 200 < ds.length
   ·have HS : Hid (res = 2) := by show _ = _; rw [← HE.out]; unfold chkT2; rw [if_pos hd200]
    have h200 : (200 : Int) < (ds.length : Int) := by omega
    clear hd200
    go_wp2
    go_ret
    exact GivesB.mk (vint HS.out.symm) HST.out.bel
   have h200 : ¬ (200 : Int) < (ds.length : Int) := by omega
   have HE2 : Hid ((match (List.range ds.length).findSome? (deFault rs us ds) with
     | some f => f
     | none => 0) = res) := by
    show _ = _
    rw [← HE.out]; unfold chkT2; rw [if_neg hd200]
   have hdl : ds.length ≤ 200 := by omega
   clear HE hd200
   have HSTL := HST
   clear HST
   go_wp2
   go_loopg [5] ds.length (DeRelT w RA rc rs UA uc us DA dc ds)
   case atStart => exact ⟨HSTL.out, 0, by omega, rfl, fun j hj => absurd hj (by omega)⟩
   case round =>
    clear HSTL x1 x2 xs
    obtain ⟨hst, q, hqm, rfl, hpre⟩ := hrel
    have HST := zq hst
    have HQ := zq hqm
    have HP := zq hpre
    have hq1 : q ≤ ds.length := by omega
    clear hqm hpre hst
    by_cases hlq : q < ds.length
    ·have x2 := HST.out.ti.cell (i := 2) rfl
     have xs := HST.out.ti.lt
     go_upto_region 20 with fail
     iterate 2 go_step
     refine wp_load_mid _ _ (by rfl) w.heap.size 0 (by rfl) (tiC RA rc rs UA uc us DA dc ds).toList _ (rangeB HST.out.ti) Tryz.underlying26 rfl (by kernel_rfl) ?_
     go_wp2_with fail
     with_reducible refine (checkDeedR_c RA rc rs UA uc us DA dc ds q _ g (HRG.out.below HST.out.bel) (HU.out.below HST.out.bel) hul (HDE.out.below HST.out.bel) hlq hdl).mono ?_
     rintro e w3 ⟨rfl, hb3⟩
     have HST3 := zq (HST.out.below hb3)
     clear x2 xs hb3 HST
     by_cases hdf : chkD rs us (ds.take q) ds[q] = 0
     ·have HF : Hid (deFault rs us ds q = none) := by
       show _ = _
       rw [deFault_of hlq, if_neg (fun h => h hdf)]
      rw [hdf]
      clear hdf
      go_wp2
      go_roundg (gk - 1)
      case measure => have := HQ.out; omega
      case rel =>
       refine ⟨HST3.out, q + 1, by have := HQ.out; omega, by go_num, fun j hj => ?_⟩
       rcases Nat.lt_or_ge j q with h9 | h9
       ·exact HP.out j h9
       ·obtain rfl : j = q := by omega
        exact HF.out
     ·have HS : Hid (res = chkD rs us (ds.take q) ds[q]) := by
       show _ = _
       rw [← HE2.out, findSome_first hlq HP.out (x := chkD rs us (ds.take q) ds[q]) (by rw [deFault_of hlq, if_pos hdf])]
      have hdb : (chkD rs us (ds.take q) ds[q] != 0) = true := by simpa using hdf
      clear hdf
      go_wp2
      go_ret
      exact GivesB.mk (vint HS.out.symm) HST3.out.bel
    ·have HS : Hid (res = 0) := by
      show _ = _
      rw [← HE2.out, findSome_none (fun j hj => HP.out j (by omega))]
     have x2 := HST.out.ti.cell (i := 2) rfl
     have xs := HST.out.ti.lt
     go_wp2
     go_ret
     exact GivesB.mk (vint HS.out.symm) HST.out.bel
end Go.Proofs.YtlcfgejaeecclaaGreatDoor
namespace Go.Proofs.YtlcfgejaeecclaaGreatDoor
open Dw
theorem firsts_snoc {α κ : Type} [DecidableEq κ] {key : α → κ} (y : α) : ∀ (l seen : List α), firsts key seen (l ++ [y]) = firsts key seen l ++ (if (seen.map key).contains (key y) = true ∨ (l.map key).contains (key y) = true then [] else [y])
 | [], seen => by
  by_cases h : (seen.map key).contains (key y) = true
  ·simp [firsts]
  ·simp [firsts]
 | a :: l, seen => by
  rw [List.cons_append]
  unfold firsts
  by_cases h : (seen.map key).contains (key a) = true
  ·rw [if_pos h, if_pos h, firsts_snoc y l seen]
   congr 1
   have e : ((seen.map key).contains (key y) = true ∨ (l.map key).contains (key y) = true) ↔ ((seen.map key).contains (key y) = true ∨ ((a :: l).map key).contains (key y) = true) := by
    constructor
    ·exact fun h1 => h1.imp id (fun h2 => by simp at h2 ⊢; exact .inr h2)
    ·rintro (h1 | h1)
     ·exact .inl h1
     ·rw [List.map_cons, List.contains_cons, Bool.or_eq_true] at h1
      rcases h1 with h1 | h1
      ·left
       have : key y = key a := by simpa using h1
       rw [this]; exact h
      ·exact .inr h1
   simp only [e]
  ·rw [if_neg h, if_neg h, firsts_snoc y l (a :: seen), List.cons_append]
   congr 2
   have e : (((a :: seen).map key).contains (key y) = true ∨ (l.map key).contains (key y) = true) ↔ ((seen.map key).contains (key y) = true ∨ ((a :: l).map key).contains (key y) = true) := by
    simp only [List.map_cons, List.contains_cons, Bool.or_eq_true]
    constructor
    ·rintro ((h1 | h1) | h1)
     ·exact .inr (.inl h1)
     ·exact .inl h1
     ·exact .inr (.inr h1)
    ·rintro (h1 | h1 | h1)
     ·exact .inl (.inr h1)
     ·exact .inl (.inl h1)
     ·exact .inr h1
   simp only [e]
theorem firsts_in {α κ : Type} [DecidableEq κ] {key : α → κ} {y : α} {l : List α} (h : key y ∈ l.map key) : firsts key [] (l ++ [y]) = firsts key [] l := by
 rw [firsts_snoc, if_pos (.inr (by simpa using h)), List.append_nil]
theorem firsts_out {α κ : Type} [DecidableEq κ] {key : α → κ} {y : α} {l : List α} (h : key y ∉ l.map key) : firsts key [] (l ++ [y]) = firsts key [] l ++ [y] := by
 rw [firsts_snoc, if_neg (fun hh => hh.elim (fun q => by simp at q) (fun q => h (by simpa using q)))]
def InsAt (l : List De) (y : De) (p : Nat) : Prop := p ≤ l.length ∧ (∀ h : 0 < p, ∀ h2 : p - 1 < l.length, deLt y l[p - 1] = false) ∧ ∀ q (h : q < l.length), p ≤ q → deLt y l[q] = true
theorem ins_perm (l : List De) (y : De) (p : Nat) : (l.take p ++ [y] ++ l.drop p).Perm (l ++ [y]) := by
 have h1 : (l.take p ++ [y] ++ l.drop p).Perm (l.take p ++ (l.drop p ++ [y])) := by
  rw [List.append_assoc]
  exact List.Perm.append_left _ List.perm_append_comm
 rw [← List.append_assoc, List.take_append_drop] at h1
 exact h1
theorem ins_sorted {l : List De} {y : De} {p : Nat} (hs : l.Pairwise fun a b => deLt b a = false) (h : InsAt l y p) : (l.take p ++ [y] ++ l.drop p).Pairwise fun a b => deLt b a = false := by
 obtain ⟨h1, h2, h3⟩ := h
 have hst : ∀ x ∈ l.take p, deLt y x = false := by
  intro x hx
  obtain ⟨i, hi, rfl⟩ := List.getElem_of_mem hx
  have hi' : i < p := by rw [List.length_take] at hi; omega
  rw [List.getElem_take]
  have hy := h2 (by omega) (by omega)
  rcases Nat.lt_or_ge i (p - 1) with h9 | h9
  ·exact deLt_ntrans hy (List.pairwise_iff_getElem.1 hs i (p - 1) (by omega) (by omega) h9)
  ·obtain rfl : i = p - 1 := by omega
   exact hy
 have hdr : ∀ x ∈ l.drop p, deLt x y = false := by
  intro x hx
  obtain ⟨i, hi, rfl⟩ := List.getElem_of_mem hx
  rw [List.length_drop] at hi
  rw [List.getElem_drop]
  have := h3 (p + i) (by omega) (by omega)
  cases hh : deLt l[p + i] y with
  | false => rfl
  | true => exact absurd hh (deLt_asymm _ _ this)
 have hl : (l.take p ++ l.drop p).Pairwise fun a b => deLt b a = false := by rw [List.take_append_drop]; exact hs
 obtain ⟨k1, k2, k3⟩ := List.pairwise_append.1 hl
 rw [List.append_assoc]
 refine List.pairwise_append.2 ⟨k1, List.pairwise_append.2 ⟨List.pairwise_singleton _ _, k2, fun a ha b hb => ?_⟩, fun a ha b hb => ?_⟩
 ·rw [List.mem_singleton.1 ha]
  exact hdr b hb
 ·rcases List.mem_append.1 hb with hb | hb
  ·rw [List.mem_singleton.1 hb]
   exact hst a ha
  ·exact k3 a ha b hb
theorem joined_ins {a b S : List De} {y : De} {p : Nat} (h : Joined a b S) (hy : y.id ∉ (a ++ b).map De.id) (hp : InsAt S y p) : Joined a (b ++ [y]) (S.take p ++ [y] ++ S.drop p) := by
 refine ⟨?_, ins_sorted h.2 hp⟩
 rw [← List.append_assoc, firsts_out hy]
 exact (ins_perm S y p).trans (h.1.append_right _)
theorem joined_skip {a b S : List De} {y : De} (h : Joined a b S) (hy : y.id ∈ (a ++ b).map De.id) : Joined a (b ++ [y]) S := by
 refine ⟨?_, h.2⟩
 rw [← List.append_assoc, firsts_in hy]
 exact h.1
theorem firsts_id {α κ : Type} [DecidableEq κ] {key : α → κ} : ∀ (l seen : List α), l.Pairwise (fun a b => key a ≠ key b) → (∀ x ∈ l, ∀ s ∈ seen, key s ≠ key x) → firsts key seen l = l
 | [], _, _, _ => rfl
 | a :: l, seen, hp, hs => by
  obtain ⟨h1, h2⟩ := List.pairwise_cons.1 hp
  unfold firsts
  have hn : ¬ (seen.map key).contains (key a) = true := by
   intro h
   have h' : ∃ s ∈ seen, key s = key a := by simpa using h
   obtain ⟨s, hs1, e⟩ := h'
   exact hs a List.mem_cons_self s hs1 e
  rw [if_neg hn, firsts_id l (a :: seen) h2 fun x hx s hs1 => ?_]
  rcases List.mem_cons.1 hs1 with rfl | h
  ·exact h1 x hx
  ·exact hs x (List.mem_cons_of_mem _ hx) s h
theorem chkD_parts {rs : List Rg} {us : List ByteArray} {pre : List De} {d : De} (h : chkD rs us pre d = 0) : ordB pre d = true ∧ ∀ p ∈ pre, p.id ≠ d.id := by
 rw [chkD_eq] at h
 split at h
 ·cases h
 split at h
 ·cases h
 split at h
 ·cases h
 next h3 =>
 unfold chk2 at h
 split at h
 ·cases h
 next h4 =>
 refine ⟨by simpa using h3, fun p hp e => h4 (List.any_eq_true.2 ⟨p, hp, decide_eq_true e⟩)⟩
theorem deeds_rise {rs : List Rg} {us : List ByteArray} {ds : List De} (h : chkT rs us ds = 0) : (ds.Pairwise fun a b => deLt a b = true) ∧ ds.Pairwise fun a b => a.id ≠ b.id := by
 have hc := (chkT_deeds h).2
 have adj : ∀ i (hi : i + 1 < ds.length), deLt ds[i] ds[i + 1] = true := fun i hi => by
  have h1 := (chkD_parts (hc (i + 1) hi)).1
  rw [ordB_take hi (by omega)] at h1
  exact h1
 have far : ∀ n i (hi : i + n + 1 < ds.length), deLt ds[i] ds[i + n + 1] = true := by
  intro n
  induction n with
  | zero => exact fun i hi => adj i hi
  | succ n ih => exact fun i hi => deLt_trans (ih i (by omega)) (adj (i + n + 1) hi)
 refine ⟨List.pairwise_iff_getElem.2 fun i j hi hj hij => ?_, List.pairwise_iff_getElem.2 fun i j hi hj hij => ?_⟩
 ·obtain ⟨n, rfl⟩ : ∃ n, j = i + n + 1 := ⟨j - i - 1, by omega⟩
  exact far n i hj
 ·refine (chkD_parts (hc j hj)).2 ds[i] ?_
  rw [List.mem_take_iff_getElem]
  exact ⟨i, by omega, rfl⟩
theorem joined_start {rs : List Rg} {us : List ByteArray} {ds : List De} (h : chkT rs us ds = 0) : Joined (ds.map plainD) [] (ds.map plainD) := by
 obtain ⟨h1, h2⟩ := deeds_rise h
 refine ⟨?_, ?_⟩
 ·have h3 : (ds.map plainD).Pairwise fun a b => a.id ≠ b.id := List.pairwise_map.2 h2
  rw [List.append_nil, firsts_id (key := De.id) (ds.map plainD) [] h3 (fun _ _ s hs => absurd hs (by simp))]
 ·refine List.pairwise_map.2 (h1.imp fun {a b} hab => ?_)
  show deLt b a = false
  cases hh : deLt b a with
  | false => rfl
  | true => exact absurd hh (deLt_asymm _ _ hab)
theorem one_id {l : List De} (h : l.Pairwise fun a b => a.id ≠ b.id) {x y : De} (hx : x ∈ l) (hy : y ∈ l) (e : x.id = y.id) : x = y := by
 obtain ⟨i, hi, rfl⟩ := List.getElem_of_mem hx
 obtain ⟨j, hj, rfl⟩ := List.getElem_of_mem hy
 have h' := List.pairwise_iff_getElem.1 h
 rcases Nat.lt_trichotomy i j with h1 | h1 | h1
 ·exact absurd e (h' i j hi hj h1)
 ·subst h1; rfl
 ·exact absurd e.symm (h' j i hj hi h1)
theorem keyOk_cross {a b : List De} (ha : a.Pairwise fun a b => a.id ≠ b.id) (hb : b.Pairwise fun a b => a.id ≠ b.id) :
  KeyOk De.id (a.map plainD ++ b.map plainD) ↔ ∀ x ∈ a, ∀ y ∈ b, x.id = y.id → SameD x y := by
 constructor
 ·intro h x hx y hy e
  exact (sameD_iff x y).2 (h (plainD x) (List.mem_append_left _ (List.mem_map_of_mem hx)) (plainD y) (List.mem_append_right _ (List.mem_map_of_mem hy)) e)
 ·intro h u hu v hv e
  rcases List.mem_append.1 hu with hu | hu <;> rcases List.mem_append.1 hv with hv | hv <;> obtain ⟨x, hx, rfl⟩ := List.mem_map.1 hu <;> obtain ⟨y, hy, rfl⟩ := List.mem_map.1 hv
  ·rw [one_id ha hx hy e]
  ·exact (sameD_iff x y).1 (h x hx y hy e)
  ·exact ((sameD_iff y x).1 (h y hy x hx e.symm)).symm
  ·rw [one_id hb hx hy e]
theorem new_id {a b : List De} {k : Nat} (hk : k < b.length) (hb : b.Pairwise fun a b => a.id ≠ b.id) (hn : ∀ x ∈ a, x.id ≠ b[k].id) : (plainD b[k]).id ∉ (a.map plainD ++ (b.take k).map plainD).map De.id := by
 intro h
 obtain ⟨u, hu, e⟩ := List.mem_map.1 h
 rcases List.mem_append.1 hu with hu | hu <;> obtain ⟨x, hx, rfl⟩ := List.mem_map.1 hu
 ·exact hn x hx e
 ·rw [List.mem_take_iff_getElem] at hx
  obtain ⟨j, hj, rfl⟩ := hx
  exact List.pairwise_iff_getElem.1 hb j k (by omega) hk (by omega) e
theorem old_id {a b : List De} {k : Nat} {x y : De} (hx : x ∈ a) (e : x.id = y.id) : (plainD y).id ∈ (a.map plainD ++ (b.take k).map plainD).map De.id :=
 List.mem_map.2 ⟨plainD x, List.mem_append_left _ (List.mem_map_of_mem hx), e⟩
end Go.Proofs.YtlcfgejaeecclaaGreatDoor
namespace Dw
open Go Go.RowKit
theorem OwnL.rdc {α : Type} {enc : α → List Value} {k : Nat} {w : World} {base : Nat} {e : TypeId} {v : Value} {l : List α} (h : OwnL enc k w base e v l) : ∃ A c, v = .slice A l.length c ∧ l.length ≤ c ∧ RdK enc w A l ∧ (A ≠ none ∨ l = []) := by
 obtain ⟨A, c, rfl, hr⟩ := h.rdk
 refine ⟨A, c, rfl, ?_, hr, ?_⟩
 ·rcases h.2 with ⟨e1, hn⟩ | ⟨g, cap, cur, e1, hb, hgg, hnc, _⟩
  ·omega
  ·injection e1 with _ _ e3
   omega
 ·cases l with
  | nil => exact .inr rfl
  | cons a l =>
   obtain ⟨b, o, rfl, _⟩ := hr (by simp)
   exact .inl (by simp)
theorem RdK.take {α : Type} {enc : α → List Value} {w : World} {A : Option Addr} {l : List α} (h : RdK enc w A l) (p : Nat) : RdK enc w A (l.take p) := fun hl => by
 obtain ⟨b, o, rfl, hc⟩ := h (by rw [List.length_take] at hl; omega)
 refine ⟨b, o, rfl, fun j v hv => hc j v ?_⟩
 have e : l.flatMap enc = (l.take p).flatMap enc ++ (l.drop p).flatMap enc := by rw [← List.flatMap_append, List.take_append_drop]
 rw [e, List.getElem?_append_left (List.getElem?_eq_some_iff.1 hv).1]
 exact hv
theorem RdK.drop {α : Type} {enc : α → List Value} {k : Nat} (hk : ∀ x, (enc x).length = k) {w : World} {A : Option Addr} {l : List α} (h : RdK enc w A l) {p c : Nat} (hc : l.length ≤ c) : RdK enc w (if c = p then A else A.map (·.add (p * k))) (l.drop p) := fun hl => by
 rw [List.length_drop] at hl
 obtain ⟨b, o, rfl, hc⟩ := h (by omega)
 rw [if_neg (by omega)]
 refine ⟨b, o + p * k, by simp only [Option.map_some, addN], fun j v hv => ?_⟩
 have e : l.flatMap enc = (l.take p).flatMap enc ++ (l.drop p).flatMap enc := by rw [← List.flatMap_append, List.take_append_drop]
 have e2 : ((l.take p).flatMap enc).length = p * k := by rw [flat_len hk, List.length_take, Nat.min_eq_left (by omega)]
 rw [Nat.add_assoc]
 refine hc (p * k + j) v ?_
 rw [e, List.getElem?_append_right (by omega), e2, Nat.add_sub_cancel_left]
 exact hv
theorem OwnL.rd {α : Type} {enc : α → List Value} {k : Nat} {w : World} {base : Nat} {e : TypeId} {A : Option Addr} {n c : Nat} {l : List α} (h : OwnL enc k w base e (.slice A n c) l) : RdK enc w A l := by
 obtain ⟨A', c', e, hr⟩ := h.rdk
 injection e with e1 _ _
 subst e1
 exact hr
theorem OwnL.some {α : Type} {enc : α → List Value} {k : Nat} {w : World} {base : Nat} {e : TypeId} {A : Option Addr} {n c : Nat} {l : List α} (h : OwnL enc k w base e (.slice A n c) l) : A ≠ none ∨ l = [] := by
 obtain ⟨A', c', e, _, _, hr⟩ := h.rdc
 injection e with e1 _ _
 subst e1
 exact hr
end Dw
namespace Go.Proofs.YtlcfgejaeecclaaGreatDoor
open Go.RowKit Dw
theorem rdk_one (w : World) (d : De) : RdK eD (w.alloc (.cells (deC d) 54)) (some ⟨w.heap.size, 0, none⟩) [d] := fun _ => ⟨w.heap.size, 0, rfl, fun j v hv => by
 rw [Nat.zero_add, cell_of_row _ w.heap.size j _ _ _ (heap_alloc_new _ _)]
 rw [List.flatMap_cons, List.flatMap_nil, List.append_nil] at hv
 simpa using hv⟩
theorem elemDs : Tryz.prog.underlying 24 = some (.slice (Tryz.prog.elem 24)) := by kernel_rfl
theorem run_cutToD (A : Option Addr) (n c k : Nat) (hk : k ≤ c) (W : World) : (Instr.slice 24 (.slice A n c) none (some (.int .i64 (k : Int))) none).run Tryz.prog W = .ok (.slice A k c) W := by
 have h0 : (0 : Int) ≤ (k : Int) ∧ (k : Int) ≤ (c : Int) := by omega
 rw [run_slice_h (ht := elemDs) (kh := .i64) (h := (k : Int)) (h0 := h0.1) (h2 := h0.2)]
 have hs : (sizeOf (Tryz.prog.elem 24)).run Tryz.prog W = .ok 16 W := by kernel_rfl
 rw [hs]
 have : (A.map fun x => x.add 0) = A := by cases A <;> simp [Addr.add]
 simp [sliced, Result.andThen, this]
theorem run_cutFromD (A : Option Addr) (n c k : Nat) (hk : k ≤ n) (W : World) : (Instr.slice 24 (.slice A n c) (some (.int .i64 (k : Int))) none none).run Tryz.prog W = .ok (.slice (if c = k then A else A.map (·.add (k * 16))) (n - k) (c - k)) W := by
 have h0 : (0 : Int) ≤ (k : Int) ∧ (k : Int) ≤ (n : Int) := by omega
 rw [run_slice_l (ht := elemDs) (kl := .i64) (l := (k : Int)) (h0 := h0.1) (h1 := h0.2)]
 have hs : (sizeOf (Tryz.prog.elem 24)).run Tryz.prog W = .ok 16 W := by kernel_rfl
 rw [hs]
 simp [sliced, Result.andThen]
theorem quiet_load_deed {ops : Array Oper} {C : World → Prop} {Q : Act → Prop} {a : Act} {op : Oper} {rest : List Oper} (hw : Region.wanted op (yielded ops a.tmps) = true) (x : Operand) (ho : op.op = .load 54 x) (b o : Nat) (hx : a.eval x = .pointer (some ⟨b, o, none⟩)) (d : De)
  (hS : ∀ w, C w → w.rangeAt b o (deC d).toList) (h : wpQuiet Tryz.prog ops C Q rest (a.put op.dst (deV d))) : wpQuiet Tryz.prog ops C Q (op :: rest) a := by
 unfold wpQuiet
 rw [if_pos hw]
 refine ⟨deV d, fun w hC => ?_, h⟩
 have hrun : (loadVar 54 ⟨b, o, none⟩).run Tryz.prog w = .ok (.agg (deC d).toList.toArray) w := run_loadVar_mid w b o _ _ _ (hS w hC) Tryz.underlying54 rfl (by kernel_rfl)
 unfold Oper.quietAt execOp
 simp only [ho, hx, Instr.loadAt, Instr.sureAddr, Sem.run_bind, Sem.run_pure, Result.andThen_ok, hrun, Oper.quietUpon]
 first | exact ⟨rfl, rfl⟩ | exact ⟨trivial, rfl⟩ | trivial
end Go.Proofs.YtlcfgejaeecclaaGreatDoor
