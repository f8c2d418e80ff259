/- The reference's controls. -/
import Derived.Test.YtlcfgejaeecclaaGreatDoorZq46
set_option maxRecDepth 100000
set_option maxHeartbeats 8000000
namespace Go.Proofs.YtlcfgejaeecclaaGreatDoor
open Go.RowKit Dw
def CqR (W : World) (_T _S : Array Value) (nx : ByteArray → Option ByteArray) (ps : List ByteArray) (res : ByteArray) (m : Nat) (e2 e11 : Value) (wr : World) : Prop :=
 ∃ (v : Value) (p : ByteArray) (l seen : List ByteArray), v = e11 ∧ e2 = .string p ∧ Below W.heap.size W wr ∧ OwnL encS 1 wr W.heap.size 9 v l ∧ l.length ≤ m + 2 * ps.length + 5 ∧ l.length + m ≤ ps.length + 1 ∧ (∀ x, memS l x = memS seen x) ∧ memS seen p = false ∧ CtlI nx ps m seen p res
def CnR (W : World) (v : Value) (l : List ByteArray) (ds : List De) (P : De → Bool) (m : Nat) (e12 e13 : Value) (wr : World) : Prop :=
 ∃ (q : ByteArray) (j : Nat), e12 = .string q ∧ j + m = ds.length ∧ e13 = .int .i64 (j : Nat) ∧ Below W.heap.size W wr ∧ OwnL encS 1 wr W.heap.size 9 v l ∧
  ((q = emp ∧ ∀ t (h : t < ds.length), t < j → P ds[t] = false) ∨ (q ≠ emp ∧ (ds.find? P).map De.to_ = some q))
theorem memS_app (l : List ByteArray) (p x : ByteArray) (seen : List ByteArray) (h : ∀ x, memS l x = memS seen x) : memS (l ++ [p]) x = memS (p :: seen) x := by
 have h1 := h x
 unfold memS at h1 ⊢
 rw [List.any_append, h1]
 simp [Bool.or_comm]
theorem controlsR_c (RA : Option Addr) (rc : Nat) (rs : List Rg) (UA : Option Addr) (uc : Nat) (us : List ByteArray) (DA : Option Addr) (dc : Nat) (ds : List De) (i : Nat) (th ho pl use : ByteArray) (day : Int) (w : World)
  (hr : Rgs w RA rs) (hd : Des w DA ds) (g : GoodR rs) (hi : i < rs.length) (hpl : (rs[i]).nm = pl) (hdl : ds.length ≤ 200) (hoe : OneEnd ds) (hsh : ∀ d ∈ ds, d.ar.length ≤ 100 ∧ d.us.length ≤ 20) (hto : ∀ d ∈ ds, d.kd = 3 → d.to_ ≠ emp) :
  Calls Tryz.prog 40 #[.agg (tiC RA rc rs UA uc us DA dc ds), .string th, .string ho, .agg (whrC pl use day), .int .i64 (ds.length : Int)] w (GivesB (.string (ctlF rs ds i use day th ho)) w) := by
 have HI0 := zq (ctlI_start rs ds i use day th ho)
 generalize ctlF rs ds i use day th ho = res at *
 have hbw : Below w.heap.size w ((w.alloc (.cells (tiC RA rc rs UA uc us DA dc ds) 26)).alloc (.cells (whrC pl use day) 91)) := ((Below.refl _ _).alloc (Nat.le_refl _) _).alloc (by simp) _
 have HX : Hid (Bx ((w.alloc (.cells (tiC RA rc rs UA uc us DA dc ds) 26)).alloc (.cells (whrC pl use day) 91)) w.heap.size (tiC RA rc rs UA uc us DA dc ds) 26) := (Bx.new _ _ _).alloc _
 have HY : Hid (Bx ((w.alloc (.cells (tiC RA rc rs UA uc us DA dc ds) 26)).alloc (.cells (whrC pl use day) 91)) (w.heap.size + 1) (whrC pl use day) 91) := Bx.new1 _ _ _ _
 obtain ⟨W, hW⟩ : ∃ W, W = (w.alloc (.cells (tiC RA rc rs UA uc us DA dc ds) 26)).alloc (.cells (whrC pl use day) 91) := ⟨_, rfl⟩
 rw [← hW] at hbw HX HY
 have HB := zq hbw
 have HDW := zq (hd.below hbw)
 have HRW := zq (hr.below hbw)
 have HSH := zq hsh
 have HTO := zq hto
 clear hbw hr hd hsh hto
 go_enter Tryz.func40, Tryz.ntmps40
 go_upto_region 1 with fail
 rw [← hW]
 clear hW
 go_wp2
 go_loopg [2, 11] (ds.length + 2) (CqR W (tiC RA rc rs UA uc us DA dc ds) (whrC pl use day) (nextP rs ds i use day th) (ho :: ds.map De.to_) res)
 case atStart => exact ⟨_, ho, [], [], rfl, rfl, Below.refl _ _, OwnL.nil _ _ _ _ _, by simp, by simp, fun _ => rfl, rfl, HI0.out⟩
 clear HI0
 case round =>
  obtain ⟨v, p, l, seen, rfl, rfl, hb, ho1, _, hlm, hsn, hps, hci⟩ := hrel
  have HBW := zq hb
  have HO := zq ho1
  have HSN := zq hsn
  have HPS := zq hps
  have HCI := zq hci
  simp only [List.length_cons, List.length_map] at hlm
  have hll : l.length ≤ 202 := by omega
  have hW1 : W.heap.size ≤ wr.heap.size := hb.size
  obtain ⟨gf, hgf⟩ : ∃ gf, gf = gk := ⟨_, rfl⟩
  subst hgf
  clear hb ho1 hsn hps hci
  go_wp2_with (at_builtin; refine wpList_push _ _ _ elStr rfl rfl W.heap.size v l rfl (HO.out.alloc _) wr.heap.size 1 p rfl (heap_alloc_new _ _) rfl (by simp [Value.oneCell']) (by unfold maxLen; omega) (by omega) (by simp; omega) ?_; intro v1 w2 hown2 hg2 hb2)
  have HO2 : Hid (OwnL encS 1 w2 W.heap.size 9 v1 (l ++ [p])) := hown2
  have HB2 := zq ((HBW.out.alloc hW1 _).trans hb2)
  clear hown2 hg2 hb2 HO HBW hW1
  go_wp2
  go_loopg [12, 13] ds.length (CnR W v1 (l ++ [p]) ds (licB rs ds i use day th p true))
  case atStart => exact ⟨emp, 0, rfl, by omega, rfl, HB2.out, HO2.out, .inl ⟨rfl, fun t _ ht => absurd ht (by omega)⟩⟩
  clear HO2 HB2
  case round =>
   obtain ⟨q, j, rfl, hjm, rfl, hb, ho1, hfd⟩ := hrel
   have HBW := zq hb
   have HO := zq ho1
   have HJM := zq hjm
   have HFD := zq hfd
   have hjl : j ≤ ds.length := by omega
   clear hb ho1 hjm hfd
   by_cases hgo : j < ds.length ∧ q = emp
   ·obtain ⟨hlt, hq⟩ := hgo
    have HP : Hid (∀ t (h : t < ds.length), t < j → licB rs ds i use day th p true ds[t] = false) := (HFD.out.elim (fun h => h.2) (fun h => absurd hq h.1))
    subst hq
    have q0 := emp_isEmpty
    obtain ⟨b, o, hA, hb0, hc0⟩ := HDW.out (by omega)
    subst hA
    obtain ⟨d, hdd⟩ : ∃ d, ds[j] = d := ⟨_, rfl⟩
    have hp := (hc0 j hlt).1
    rw [hdd] at hp
    have hrg : wr.rangeAt b (o + j * 16) (deC d).toList := fun t v hv => (HBW.out.cell (p := ⟨b, o + j * 16 + t, none⟩) hb0).trans (hp t v hv)
    have HDD := zq hdd
    have HVR : Hid (givesB d.kd = true → ∀ u, Below W.heap.size W u → Calls Tryz.prog 71 #[.agg (tiC RA rc rs UA uc us (some ⟨b, o, none⟩) dc ds), .int .i64 (j : Int), .agg (whrC pl use day)] u (GivesB (.bool (vB rs ds i use day d)) u)) := fun hgv u hu => by
     have := validR_c RA rc rs UA uc us (some ⟨b, o, none⟩) dc ds j i pl use day u (HRW.out.below hu) (HDW.out.below hu) g hi hpl hlt hdl hoe (by rw [hdd]; exact hgv) (HSH.out _ (List.getElem_mem hlt)).2 (HSH.out _ (List.getElem_mem hlt)).1
     rwa [hdd] at this
    have x2 : _ = some (Value.slice (some ⟨b, o, none⟩) ds.length dc) := (HX.out.below HBW.out).cell (i := 2) rfl
    have hsx := (HX.out.below HBW.out).lt
    clear hp hc0 hdd HFD
    go_upto_region 7 with fail
    iterate 14 go_step
    refine wp_load_mid _ _ (by rfl) b (o + j * 16) (by rfl) (deC d).toList _ hrg Tryz.underlying54 rfl (by kernel_rfl) ?_
    clear hrg x2 hsx q0
    go_upto_region 8 with fail
    obtain ⟨wd, hwd⟩ : ∃ wd, wd = wr.alloc (.cells (deC d) 54) := ⟨_, rfl⟩
    rw [← hwd]
    have hbd : Below wr.heap.size wr wd := by rw [hwd]; exact (Below.refl _ _).alloc (Nat.le_refl _) _
    have HD1 : Hid (Bx wd wr.heap.size (deC d) 54) := by show Bx _ _ _ _; rw [hwd]; exact Bx.new _ _ _
    have HBD := zq (below_trans HBW.out hbd)
    have HOD := zq (HO.out.below hbd)
    have HXD := zq (HX.out.below HBD.out)
    have HYD := zq (HY.out.below HBD.out)
    clear hwd hbd HO HBW
    have d2 := HD1.out.cell (i := 2) rfl
    have d3 := HD1.out.cell (i := 3) rfl
    have d4 := HD1.out.cell (i := 4) rfl
    have d8 : wd.cell? ⟨wr.heap.size, 8, none⟩ = some (.bool d.ex) := HD1.out.cell (i := 8) rfl
    have hsd := HD1.out.lt
    have HNO : Hid (licB rs ds i use day th p true d = false → ∀ t (h : t < ds.length), t < j + 1 → licB rs ds i use day th p true ds[t] = false) := fun h t ht h9 => by
     rcases Nat.lt_or_ge t j with h8 | h8
     ·exact HP.out t ht h8
     ·obtain rfl : t = j := by omega
      rw [HDD.out]; exact h
    by_cases hq3 : d.kd = 3
    case neg =>
     have e1 : (d.kd == 3) = false := by simpa using hq3
     have HN := zq (HNO.out (by unfold licB; rw [decide_eq_false hq3]; rfl))
     clear hq3 HNO
     go_wp2
     go_roundg (gk - 1)
     case measure => have := HJM.out; omega
     case rel => exact ⟨emp, j + 1, rfl, by have := HJM.out; omega, by go_num, HBD.out, HOD.out, .inl ⟨rfl, HN.out⟩⟩
    have e1 : (d.kd == 3) = true := by simpa using hq3
    cases hex : d.ex with
    | false =>
     have HN := zq (HNO.out (by unfold licB; rw [hex]; simp))
     rw [hex] at d8
     clear hq3 HNO hex
     go_wp2
     go_roundg (gk - 1)
     case measure => have := HJM.out; omega
     case rel => exact ⟨emp, j + 1, rfl, by have := HJM.out; omega, by go_num, HBD.out, HOD.out, .inl ⟨rfl, HN.out⟩⟩
    | true =>
     rw [hex] at d8
     by_cases ht : d.th = th
     case neg =>
      have q1 := beq_of_ne ht
      have HN := zq (HNO.out (by unfold licB; rw [decide_eq_false ht]; simp))
      clear hq3 ht HNO hex
      go_wp2
      go_roundg (gk - 1)
      case measure => have := HJM.out; omega
      case rel => exact ⟨emp, j + 1, rfl, by have := HJM.out; omega, by go_num, HBD.out, HOD.out, .inl ⟨rfl, HN.out⟩⟩
     have q1 := beq_of_eq ht
     by_cases hf : d.fr = p
     case neg =>
      have q2 := beq_of_ne hf
      have HN := zq (HNO.out (by unfold licB; rw [decide_eq_false hf]; simp))
      clear hq3 ht hf HNO hex
      go_wp2
      go_roundg (gk - 1)
      case measure => have := HJM.out; omega
      case rel => exact ⟨emp, j + 1, rfl, by have := HJM.out; omega, by go_num, HBD.out, HOD.out, .inl ⟨rfl, HN.out⟩⟩
     have q2 := beq_of_eq hf
     have HV : Hid (licB rs ds i use day th p true d = vB rs ds i use day d) := by show _ = _; unfold licB; rw [decide_eq_true hq3, decide_eq_true ht, decide_eq_true hf, hex]; rfl
     have HVC := zq (HVR.out (by rw [hq3]; rfl) wd HBD.out)
     have HT3 := zq (HTO.out d (by rw [← HDD.out]; exact List.getElem_mem hlt) hq3)
     clear hq3 ht hf hex
     have x0 := HXD.out.cell (i := 0) rfl
     have x1 := HXD.out.cell (i := 1) rfl
     have x2 := HXD.out.cell (i := 2) rfl
     have hsx := HXD.out.lt
     have y0 := HYD.out.cell (i := 0) rfl
     have y1 := HYD.out.cell (i := 1) rfl
     have y2 := HYD.out.cell (i := 2) rfl
     have hsy := HYD.out.lt
     go_wp2_with fail
     with_reducible refine HVC.out.mono ?_
     rintro e w3 ⟨rfl, hb3⟩
     have HB3 := zq (below_trans HBD.out hb3)
     have HO3 := zq (HOD.out.below hb3)
     have HD3 := zq (HD1.out.below hb3)
     clear hb3 d2 d3 d4 d8 hsd x0 x1 x2 hsx y0 y1 y2 hsy e1 q1 q2 HXD HYD HD1 HOD HBD HVC HVR
     cases hv : vB rs ds i use day d with
     | false =>
      have HN := zq (HNO.out (by rw [HV.out, hv]))
      clear hv HNO
      go_wp2
      go_roundg (gk - 1)
      case measure => have := HJM.out; omega
      case rel => exact ⟨emp, j + 1, rfl, by have := HJM.out; omega, by go_num, HB3.out, HO3.out, .inl ⟨rfl, HN.out⟩⟩
     | true =>
      have HF : Hid ((ds.find? (licB rs ds i use day th p true)).map De.to_ = some d.to_) := by
       show _ = _
       rw [find_at hlt (by rw [HDD.out, HV.out, hv]) HP.out, HDD.out]; rfl
      have d5 := HD3.out.cell (i := 5) rfl
      have hsd := HD3.out.lt
      clear hv HNO
      go_wp2
      go_roundg (gk - 1)
      case measure => have := HJM.out; omega
      case rel => exact ⟨d.to_, j + 1, rfl, by have := HJM.out; omega, by go_num, HB3.out, HO3.out, .inr ⟨HT3.out, HF.out⟩⟩
   ·obtain ⟨A, c, rfl, hrd⟩ := HO.out.rd1
    have HRD : Hid (Strs wr A (l ++ [p])) := hrd
    clear hrd
    have hlt2 : q = emp → ¬ j < ds.length := fun h1 h2 => hgo ⟨h2, h1⟩
    by_cases hq : q = emp
    ·have q0 := isEmpty_of_eq hq
     have hje := hlt2 hq
     have HNX : Hid (nextP rs ds i use day th p = none) := by
      show _ = _
      unfold nextP
      rcases HFD.out with ⟨_, h⟩ | ⟨h, _⟩
      ·rw [find_no (fun t ht => h t ht (by omega))]; rfl
      ·exact absurd hq h
     have HRS := zq (HCI.out.none HPS.out HNX.out)
     subst hq
     clear hgo hlt2 HFD
     go_wp2
     go_ret
     exact GivesB.mk (by rw [HRS.out]; rfl) (below_trans HB.out HBW.out)
    ·have q0 := isEmpty_of_ne hq
     have hnx : nextP rs ds i use day th p = some q := by
      unfold nextP
      rcases HFD.out with ⟨h, _⟩ | ⟨_, h⟩
      ·exact absurd h hq
      ·exact h
     have HC2 := zq (HCI.out.next HPS.out hnx (nextP_mem hnx))
     have hsz : (l ++ [p]).length = l.length + 1 := by simp
     have hha := has_c A c (l ++ [p]) q wr (by simp; omega) HRD.out
     rw [hsz] at hha
     have HHA := zq hha
     clear hha
     have hma := memS_app l p q seen HSN.out
     have hgp : 0 < gf := HC2.out.1
     clear hgo hlt2 HFD hnx
     by_cases hjd : j < ds.length
     all_goals
      go_wp2_with fail
      with_reducible refine HHA.out.mono ?_
      rintro e w4 ⟨rfl, rfl⟩
      cases hms : memS (l ++ [p]) q with
      | true =>
       have HRS := zq (HC2.out.2.stop (by rw [← hma]; exact hms))
       clear hms hma
       go_wp2
       go_ret
       exact GivesB.mk (by rw [HRS.out]; rfl) (below_trans HB.out HBW.out)
      | false =>
       have HM2 : Hid (memS (p :: seen) q = false) := by show _ = _; rw [← hma]; exact hms
       clear hms hma
       go_wp2
       go_roundg (gf - 1)
       case measure => omega
       case rel => exact ⟨_, q, l ++ [p], p :: seen, rfl, rfl, HBW.out, (by have := HO.out; rwa [hsz] at this), by simp; omega, by simp; omega, fun x => memS_app l p x seen HSN.out, HM2.out, HC2.out.2⟩
end Go.Proofs.YtlcfgejaeecclaaGreatDoor
