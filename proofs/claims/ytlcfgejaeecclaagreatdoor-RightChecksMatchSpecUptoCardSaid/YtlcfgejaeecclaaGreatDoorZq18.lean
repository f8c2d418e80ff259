/- Package right: Check of a title (its walk printed by gen_check.py). -/
import Derived.Test.YtlcfgejaeecclaaGreatDoorZq16
import Derived.Test.YtlcfgejaeecclaaGreatDoorZq17
set_option maxRecDepth 100000
set_option maxHeartbeats 8000000
namespace Go.Proofs.YtlcfgejaeecclaaGreatDoor
open Go.RowKit Dw
def Des (w : World) (A : Option Addr) (l : List De) : Prop :=
 0 < l.length → ∃ b o : Nat, A = some ⟨b, o, none⟩ ∧ b < w.heap.size ∧ ∀ i (h : i < l.length), w.rangeAt b (o + i * 16) (deC l[i]).toList ∧ DeOk w l[i]
theorem Des.below {w w' : World} {A : Option Addr} {l : List De} (h : Des w A l) (hb : Below w.heap.size w w') : Des w' A l := fun hl => by
 obtain ⟨b, o, rfl, hlt, hc⟩ := h hl
 refine ⟨b, o, rfl, Nat.lt_of_lt_of_le hlt hb.size, fun i hi => ⟨fun j v hv => ?_, (hc i hi).2.below hb⟩⟩
 rw [hb.cell hlt]
 exact (hc i hi).1 j v hv
abbrev tiC (RA : Option Addr) (rc : Nat) (rs : List Rg) (UA : Option Addr) (uc : Nat) (us : List ByteArray) (DA : Option Addr) (dc : Nat) (ds : List De) : Array Value := #[.slice RA rs.length rc, .slice UA us.length uc, .slice DA ds.length dc]
def peFault (rs : List Rg) (us : List ByteArray) (ds : List De) (k : Nat) : Option Int :=
 if progF rs us (ds.take k) (ds.getD k default) ≠ 0 then some (progF rs us (ds.take k) (ds.getD k default)) else none
def chkP (rs : List Rg) (us : List ByteArray) (ds : List De) : Int :=
 if chkR rs ≠ 0 then chkR rs else if us = [] then 9 else if 20 < us.length then 2 else
 match (List.range us.length).findSome? (unFault us) with
 | some f => f
 | none => if 200 < ds.length then 2 else match (List.range ds.length).findSome? (peFault rs us ds) with
  | some f => f
  | none => 0
def chkP2 (rs : List Rg) (us : List ByteArray) (ds : List De) : Int := if 200 < ds.length then 2 else match (List.range ds.length).findSome? (peFault rs us ds) with
  | some f => f
  | none => 0
theorem chkP_un {rs : List Rg} {us : List ByteArray} {ds : List De} {k : Nat} {f : Int} (h0 : chkR rs = 0) (h1 : us ≠ []) (h2 : ¬ 20 < us.length) (hk : k < us.length) (hp : ∀ j, j < k → unFault us j = none) (hf : unFault us k = some f) : chkP rs us ds = f := by
 unfold chkP
 rw [if_neg (fun h => h h0), if_neg h1, if_neg h2, findSome_first hk hp hf]
theorem chkP_de {rs : List Rg} {us : List ByteArray} {ds : List De} (h0 : chkR rs = 0) (h1 : us ≠ []) (h2 : ¬ 20 < us.length) (hp : ∀ j, j < us.length → unFault us j = none) : chkP rs us ds = chkP2 rs us ds := by
 unfold chkP chkP2
 rw [if_neg (fun h => h h0), if_neg h1, if_neg h2, findSome_none hp]
theorem progF_zero {rs : List Rg} {us : List ByteArray} {pre : List De} {d : De} (h : progF rs us pre d = 0) : (1 ≤ d.kd ∧ d.kd ≤ 5) ∧ needB d = false ∧ pre.any (sameId d.id) = false := by
 unfold progF at h
 split at h
 ·cases h
 unfold prog1 at h
 split at h
 ·cases h
 unfold prog2 at h
 split at h
 ·cases h
 unfold prog3 at h
 split at h
 ·cases h
 next h3 =>
 unfold prog4 at h
 split at h
 ·cases h
 next h4 =>
 unfold prog5 at h
 split at h
 ·cases h
 next h5 =>
 exact ⟨by omega, by simpa using h5, by simpa using h3⟩
def UnRel (w : World) (us : List ByteArray) (m : Nat) (i : Value) (wr : World) : Prop :=
 ∃ k : Nat, k + m = us.length ∧ i = .int .i64 k ∧ (∀ j, j < k → unFault us j = none) ∧ Below w.heap.size w wr
def DeRel (w0 : World) (ci : Nat) (RA : Option Addr) (rc r1 r2 g1 g2 : Nat) (AL : Option Addr) (cL : Nat) (rs : List Rg) (UA : Option Addr) (uc : Nat) (us : List ByteArray) (m2 m3 m4 m5 lo hi : Nat) (ds : List De) (m : Nat) (i : Value) (wr : World) : Prop :=
 ∃ (k : Nat) (p : De), k + m = ds.length ∧ i = .int .i64 k ∧ CS w0 wr ci RA rc r1 r2 g1 g2 AL cL rs UA uc us m2 m3 m4 m5 lo hi p (ds.take k) ∧ ∀ j, j < k → peFault rs us ds j = none
theorem Check_c (RA : Option Addr) (rc : Nat) (rs : List Rg) (UA : Option Addr) (uc : Nat) (us : List ByteArray) (DA : Option Addr) (dc : Nat) (ds : List De) (w : World)
  (hr : Rgs w RA rs) (hu : Strs w UA us) (hd : Des w DA ds) (hz : ∀ i (h : i < rs.length), (rs[i]).nm.size ≤ 9223372036854775807) (hz2 : ∀ i (h : i < us.length), (us[i]).size ≤ 9223372036854775807) :
  Calls Tryz.prog 17 #[.agg (tiC RA rc rs UA uc us DA dc ds)] w (GivesB (.int .i64 (chkP rs us ds)) w) := by
 generalize hres : chkP rs us ds = res
 have HR := zq hres
 clear hres
 have hbW : Below w.heap.size w (w.alloc (.cells (tiC RA rc rs UA uc us DA dc ds) 26)) := (Below.refl _ _).alloc (Nat.le_refl _) _
 have HX : Hid (Bx (w.alloc (.cells (tiC RA rc rs UA uc us DA dc ds) 26)) w.heap.size (tiC RA rc rs UA uc us DA dc ds) 26) := Bx.new _ _ _
 obtain ⟨W, hW⟩ : ∃ W, W = w.alloc (.cells (tiC RA rc rs UA uc us DA dc ds) 26) := ⟨_, rfl⟩
 rw [← hW] at HX hbW
 have HB := zq hbW
 have HRG := zq (hr.below hbW)
 have HUS := zq (hu.below hbW)
 have HDE := zq (hd.below hbW)
 clear hbW hr hu hd
 go_enter Tryz.func17, Tryz.ntmps17
 go_wp2_with fail
 rw [← hW]
 clear hW
 have x0 := HX.out.cell (i := 0) rfl
 have hsz := HX.out.lt
 go_wp2_with fail
 with_reducible refine (CheckRegions_c RA rc rs W HRG.out hz).mono ?_
 rintro e w1 ⟨rfl, hb1⟩
 have HB1 := zq (below_trans HB.out hb1)
 have HX1 := zq (HX.out.below hb1)
 have HRG1 := zq (HRG.out.below hb1)
 have HUS1 := zq (HUS.out.below hb1)
 have HDE1 := zq (HDE.out.below hb1)
 clear x0 hsz hb1 HB HX HRG HUS HDE hz
 by_cases hcr : chkR rs = 0
 case neg =>
  have hcb : (chkR rs != 0) = true := by simpa using hcr
  have HS : Hid (res = chkR rs) := by
   show _ = _
   rw [← HR.out]; unfold chkP; rw [if_pos hcr]
  clear hcr HR
  go_wp2
  go_ret
  exact GivesB.mk (vint HS.out.symm) HB1.out
 have HCR := zq hcr
 have g := good_of hcr
 rw [hcr]
 clear hcr
 have x1 := HX1.out.cell (i := 1) rfl
 have hsz := HX1.out.lt
 by_cases hu0 : us = []
 ·have hlb : ((us.length : Int) == 0) = true := by rw [hu0]; rfl
  have HS : Hid (res = 9) := by
   show _ = _
   rw [← HR.out]; unfold chkP; rw [if_neg (fun h => h HCR.out), if_pos hu0]
  clear hu0 HR
  go_wp2
  go_ret
  exact GivesB.mk (vint HS.out.symm) HB1.out
 have hup : 0 < us.length := List.length_pos_iff.2 hu0
 have hlb : ((us.length : Int) == 0) = false := by rw [beq_eq_false_iff_ne]; omega
 have HU0 := zq hu0
 clear hu0
 by_cases hu20 : 20 < us.length
 ·have HS : Hid (res = 2) := by
   show _ = _
   rw [← HR.out]; unfold chkP; rw [if_neg (fun h => h HCR.out), if_neg HU0.out, if_pos hu20]
  have h20 : (20 : Int) < (us.length : Int) := by omega
  clear hu20 HR
  go_wp2
  go_ret
  exact GivesB.mk (vint HS.out.symm) HB1.out
 have h20 : ¬ (20 : Int) < (us.length : Int) := by omega
 have HH : Hid (∀ k f, k < us.length → (∀ j, j < k → unFault us j = none) → unFault us k = some f → res = f) := fun k f hk hp hf => by rw [← HR.out]; exact chkP_un HCR.out HU0.out hu20 hk hp hf
 have HN : Hid ((∀ j, j < us.length → unFault us j = none) → res = chkP2 rs us ds) := fun hp => by rw [← HR.out]; exact chkP_de HCR.out HU0.out hu20 hp
 have hul : us.length ≤ 1000000 := by omega
 have HZ2 := zq hz2
 clear hu20 HR hz2
 obtain ⟨b, o, hA, hbu, hcu⟩ := HUS1.out.at_ hup
 have HCU := zq hcu
 clear hcu
 go_wp2
 go_loopg [27] us.length (UnRel w1 us)
 case atStart => exact ⟨0, by omega, rfl, fun j hj => absurd hj (by omega), Below.refl _ _⟩
 case round =>
  obtain ⟨k, hkm, rfl, hpre, hbel⟩ := hrel
  have HK := zq hkm
  have HP := zq hpre
  have HBL := zq hbel
  have HX2 := zq (HX1.out.below hbel)
  have hk1 : k ≤ us.length := by omega
  have hbr : b < wr.heap.size := Nat.lt_of_lt_of_le hbu hbel.size
  clear hkm hpre hbel x1 hsz
  by_cases hlt : k < us.length
  ·have hc0 : wr.cell? ⟨b, o + k, none⟩ = some (.string us[k]) := (HBL.out.cell hbu).trans (HCU.out k hlt)
   have hzk := HZ2.out k hlt
   subst hA
   go_wp2_with fail
   with_reducible refine (isName_c us[k] _ hzk).mono ?_
   rintro e w2 ⟨rfl, hb2⟩
   have HBL2 := zq (below_trans HBL.out hb2)
   have HX3 := zq (HX2.out.below hb2)
   clear hc0 hb2 HBL HX2
   cases hnm : isNm us[k] with
   | false =>
    have HS : Hid (res = 5) := HH.out k 5 hlt HP.out (by unfold unFault; rw [usAt_of hlt, if_pos hnm])
    clear hnm
    go_wp2
    go_ret
    exact GivesB.mk (vint HS.out.symm) (below_trans HB1.out HBL2.out)
   | true =>
    have HNM := zq hnm
    clear hnm
    have x1 := HX3.out.cell (i := 1) rfl
    have hsz := HX3.out.lt
    by_cases hk0 : 0 < k
    case pos =>
     have zp : w2.cell? ⟨b, o + (k - 1), none⟩ = some (.string (us[k - 1]'(by omega))) := (HBL2.out.cell hbu).trans (HCU.out (k - 1) (by omega))
     have hdk : decide ((0 : Int) < (k : Int)) = true := by simp; omega
     cases hle : sle us[k] (us[k - 1]'(by omega)) with
     | true =>
      have HS : Hid (res = 8) := HH.out k 8 hlt HP.out (by unfold unFault; rw [usAt_of hlt, usAt_of (show k - 1 < us.length by omega), if_neg (by rw [HNM.out]; simp), if_pos ⟨hk0, hle⟩])
      unfold sle at hle
      go_wp2
      go_ret
      exact GivesB.mk (vint HS.out.symm) (below_trans HB1.out HBL2.out)
     | false =>
      have HF : Hid (unFault us k = none) := by
       show _ = _
       unfold unFault; rw [usAt_of hlt, usAt_of (show k - 1 < us.length by omega), if_neg (by rw [HNM.out]; simp), if_neg (fun hh => by rw [hle] at hh; cases hh.2)]
      unfold sle at hle
      go_wp2
      go_roundg (gk - 1)
      case measure => have := HK.out; omega
      case rel =>
       refine ⟨k + 1, by have := HK.out; omega, by go_num, fun j hj => ?_, HBL2.out⟩
       rcases Nat.lt_or_ge j k with h9 | h9
       ·exact HP.out j h9
       ·obtain rfl : j = k := by omega
        exact HF.out
    case neg =>
     have hdk : decide ((0 : Int) < (k : Int)) = false := by simp; omega
     have HF : Hid (unFault us k = none) := by
      show _ = _
      unfold unFault; rw [usAt_of hlt, if_neg (by rw [HNM.out]; simp), if_neg (fun hh => hk0 hh.1)]
     go_wp2
     go_roundg (gk - 1)
     case measure => have := HK.out; omega
     case rel =>
      refine ⟨k + 1, by have := HK.out; omega, by go_num, fun j hj => ?_, HBL2.out⟩
      rcases Nat.lt_or_ge j k with h9 | h9
      ·exact HP.out j h9
      ·obtain rfl : j = k := by omega
       exact HF.out
  ·obtain rfl : k = us.length := by omega
   have HE : Hid (chkP2 rs us ds = res) := (HN.out HP.out).symm
   have x2 := HX2.out.cell (i := 2) rfl
   have hsz := HX2.out.lt
   have HBW := zq (below_trans HB1.out HBL.out)
   have HRG2 := zq (HRG1.out.below HBL.out)
   have HUS2 := zq (HUS1.out.below HBL.out)
   have HDE2 := zq (HDE1.out.below HBL.out)
   clear HK HP HN HH HCU HRG1 HUS1 HDE1 HX1 hbr hlt hk1 HBL HB1 hbu hA
   by_cases hd200 : 200 < ds.length
   ·have HS : Hid (res = 2) := by
     show _ = _
     rw [← HE.out]; unfold chkP2; rw [if_pos hd200]
    have h200 : (200 : Int) < (ds.length : Int) := by omega
    clear hd200 HE
    go_wp2
    go_ret
    exact GivesB.mk (vint HS.out.symm) HBW.out
   have h200 : ¬ (200 : Int) < (ds.length : Int) := by omega
   have HH : Hid (∀ k f, k < ds.length → (∀ j, j < k → peFault rs us ds j = none) → peFault rs us ds k = some f → res = f) := fun k f hk hp hf => by
    rw [← HE.out]; unfold chkP2; rw [if_neg hd200, findSome_first hk hp hf]
   have HN : Hid ((∀ j, j < ds.length → peFault rs us ds j = none) → res = 0) := fun hp => by
    rw [← HE.out]; unfold chkP2; rw [if_neg hd200, findSome_none hp]
   have hdl : ds.length ≤ 200 := by omega
   clear hd200 HE
   obtain ⟨w5, hw5⟩ : ∃ w5 : World, w5 = wr := ⟨_, rfl⟩
   subst hw5
   go_wp2_with fail
   refine region18 g HX2.out HRG2.out HUS2.out rfl (by kernel_rfl) (by kernel_rfl) (by kernel_rfl) rfl (by simp) ⟨_, _, _, rfl⟩ ⟨_, _, _, rfl⟩ ⟨_, _, _, rfl⟩ ⟨_, _, _, rfl⟩ ⟨_, _, _, rfl⟩ ⟨_, _, _, rfl⟩ ⟨_, _, _, rfl⟩ ⟨_, _, _, rfl⟩ ⟨_, _, _, rfl⟩ ⟨_, _, _, rfl⟩ ⟨_, _, _, rfl⟩ ⟨_, _, _, rfl⟩ (by kernel_rfl) (by kernel_rfl) (by kernel_rfl) (by kernel_rfl) (by kernel_rfl) (by kernel_rfl) (by kernel_rfl) (by kernel_rfl) (by kernel_rfl) (by kernel_rfl) (by kernel_rfl) ?_
   intro ci r1 r2 g1 g2 AL cL m2 m3 m4 m5 lo hi vals w3 hcs v0 v1 v2 v3 v4 v5 v6 v7 v8 v9 v10
   simp [putAll, Act.put, v0, v1, v2, v3, v4, v5, v6, v7, v8, v9, v10, List.range_succ]
   have HCS := zq hcs
   clear v0 v1 v2 v3 v4 v5 v6 v7 v8 v9 v10 vals x2 hsz hcs
   have HX4 := zq (HX2.out.below HCS.out.bel)
   have x2 := HX4.out.cell (i := 2) rfl
   have hsz := HX4.out.lt
   go_wp2
   go_loopg [65] ds.length (DeRel w5 ci RA rc r1 r2 g1 g2 AL cL rs UA uc us m2 m3 m4 m5 lo hi ds)
   case atStart => exact ⟨0, zDe, by omega, rfl, HCS.out, fun j hj => absurd hj (by omega)⟩
   clear HCS HX4 x2 hsz
   case round =>
    obtain ⟨k, p, hkm, rfl, hcs, hpre⟩ := hrel
    have HK := zq hkm
    have HP := zq hpre
    have HC := zq hcs
    have hk1 : k ≤ ds.length := by omega
    clear hkm hpre hcs
    by_cases hlt : k < ds.length
    ·obtain ⟨b, o, hA, hbu, hcd⟩ := HDE2.out (by omega)
     have hdk := (hcd k hlt)
     have HOK := zq hdk.2
     have hrange0 := hdk.1
     clear hdk hcd
     obtain ⟨d, hdd⟩ : ∃ d, d = ds[k] := ⟨_, rfl⟩
     rw [← hdd] at HOK hrange0
     have hgd : ds.getD k default = d := by rw [hdd]; simp [List.getD, hlt]
     have htk : ds.take (k + 1) = ds.take k ++ [d] := by rw [hdd]; exact List.take_succ_eq_append_getElem hlt
     have HGD := zq hgd
     have HTK := zq htk
     have hrange : ∀ j v, (deC d).toList[j]? = some v → wr.cell? ⟨b, o + k * 16 + j, none⟩ = some v := fun j v hv => (HC.out.bel.cell hbu).trans (hrange0 j v hv)
     have HOK2 := zq (HOK.out.below HC.out.bel)
     have hgk : ∀ q ∈ ds.take k, 1 ≤ q.kd := fun q hq => by
      obtain ⟨j, hj, rfl⟩ := List.getElem_of_mem hq
      rw [List.length_take] at hj
      have hjk : j < k := by omega
      have h1 := HP.out j hjk
      unfold peFault at h1
      split at h1
      ·cases h1
      ·next h2 =>
       have h3 := (progF_zero (Decidable.not_not.1 h2)).1.1
       rw [List.getElem_take]
       have e : ds.getD j default = ds[j]'(by omega) := by simp [List.getD, show j < ds.length by omega]
       rwa [e] at h3
     have HGK := zq hgk
     have HOT := zq htk
     clear hgd htk hgk hdd HOT HOK hrange0
     have c0 : wr.cell? ⟨b, o + k * 16, none⟩ = some (deC d)[0] := hrange 0 _ rfl
     have c1 : wr.cell? ⟨b, o + k * 16 + 1, none⟩ = some (deC d)[1] := hrange 1 _ rfl
     have c2 : wr.cell? ⟨b, o + k * 16 + 2, none⟩ = some (deC d)[2] := hrange 2 _ rfl
     have c3 : wr.cell? ⟨b, o + k * 16 + 3, none⟩ = some (deC d)[3] := hrange 3 _ rfl
     have c4 : wr.cell? ⟨b, o + k * 16 + 4, none⟩ = some (deC d)[4] := hrange 4 _ rfl
     have c5 : wr.cell? ⟨b, o + k * 16 + 5, none⟩ = some (deC d)[5] := hrange 5 _ rfl
     have c6 : wr.cell? ⟨b, o + k * 16 + 6, none⟩ = some (deC d)[6] := hrange 6 _ rfl
     have c7 : wr.cell? ⟨b, o + k * 16 + 7, none⟩ = some (deC d)[7] := hrange 7 _ rfl
     have c8 : wr.cell? ⟨b, o + k * 16 + 8, none⟩ = some (deC d)[8] := hrange 8 _ rfl
     have c9 : wr.cell? ⟨b, o + k * 16 + 9, none⟩ = some (deC d)[9] := hrange 9 _ rfl
     have c10 : wr.cell? ⟨b, o + k * 16 + 10, none⟩ = some (deC d)[10] := hrange 10 _ rfl
     have c11 : wr.cell? ⟨b, o + k * 16 + 11, none⟩ = some (deC d)[11] := hrange 11 _ rfl
     have c12 : wr.cell? ⟨b, o + k * 16 + 12, none⟩ = some (deC d)[12] := hrange 12 _ rfl
     have c13 : wr.cell? ⟨b, o + k * 16 + 13, none⟩ = some (deC d)[13] := hrange 13 _ rfl
     have c14 : wr.cell? ⟨b, o + k * 16 + 14, none⟩ = some (deC d)[14] := hrange 14 _ rfl
     have c15 : wr.cell? ⟨b, o + k * 16 + 15, none⟩ = some (deC d)[15] := hrange 15 _ rfl
     have HC2 := zq (HC.out.below (w' := wr.alloc (.cells (deC d) 54)) ((Below.refl _ _).alloc (Nat.le_refl _) _))
     have HOK3 := zq (HOK2.out.below (w' := wr.alloc (.cells (deC d) 54)) ((Below.refl _ _).alloc (Nat.le_refl _) _))
     have HDC := zq (deed_c w5 ci RA rc r1 r2 g1 g2 AL cL rs UA uc us m2 m3 m4 m5 lo hi p (ds.take k) d _ g hul HGK.out HC2.out HOK3.out)
     clear hrange HC
     subst hA
     go_wp2_with fail
     with_reducible refine HDC.out.mono ?_
     rintro e w6 ⟨rfl, hb6, hn6⟩
     have HB6 := zq (below_trans HBW.out hb6)
     have HN6 := zq hn6
     clear c0 c1 c2 c3 c4 c5 c6 c7 c8 c9 c10 c11 c12 c13 c14 c15 hb6 hn6 HC2 HOK2 HOK3 HDC
     by_cases hpz : progF rs us (ds.take k) d = 0
     case neg =>
      have hpb : (progF rs us (ds.take k) d != 0) = true := by simpa using hpz
      have HS : Hid (res = progF rs us (ds.take k) d) := HH.out k _ hlt HP.out (by unfold peFault; rw [HGD.out, if_pos hpz])
      clear hpz
      go_wp2
      go_ret
      exact GivesB.mk (vint HS.out.symm) HB6.out
     have HF : Hid (peFault rs us ds k = none) := by
      show _ = _
      unfold peFault; rw [HGD.out, if_neg (fun h => h hpz)]
     have HC6 := zq (HN6.out hpz)
     rw [hpz]
     clear hpz HN6
     go_wp2
     go_roundg (gk - 1)
     case measure => have := HK.out; omega
     case rel =>
      refine ⟨k + 1, d, by have := HK.out; omega, by go_num, by rw [HTK.out]; exact HC6.out, fun j hj => ?_⟩
      rcases Nat.lt_or_ge j k with h9 | h9
      ·exact HP.out j h9
      ·obtain rfl : j = k := by omega
       exact HF.out
    ·obtain rfl : k = ds.length := by omega
     have HS : Hid (res = 0) := HN.out HP.out
     go_wp2
     go_ret
     exact GivesB.mk (vint HS.out.symm) (below_trans HBW.out HC.out.bel)
end Go.Proofs.YtlcfgejaeecclaaGreatDoor
