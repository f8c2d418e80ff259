/- Package right: open, and Runs. The law RightRunsMatchSpec as one call. -/
import Derived.Test.YtlcfgejaeecclaaGreatDoorZq44
set_option maxRecDepth 100000
set_option maxHeartbeats 8000000
namespace Go.Proofs.YtlcfgejaeecclaaGreatDoor
open Go.RowKit Dw
def openF (rs : List Rg) (us : List ByteArray) (ds : List De) (ns : List ByteArray) : Int := if chkT rs us ds ≠ 0 then chkT rs us ds else if ns.all isNm = true then 0 else 5
def GivesOp (f : Int) (RA : Option Addr) (rc : Nat) (rs : List Rg) (UA : Option Addr) (uc : Nat) (us : List ByteArray) (DA : Option Addr) (dc : Nat) (ds : List De) (w : World) (e : Ending) (w' : World) : Prop :=
 ∃ P, e = .returned (.tuple #[.pointer P, .int .i64 f]) ∧ Below w.heap.size w w' ∧ (f ≠ 0 → P = none) ∧ (f = 0 → ∃ L, P = some ⟨L, 0, none⟩ ∧ LgIs RA rc rs UA uc us DA dc ds w' L)
def OpR (w : World) (T : Array Value) (ns : List ByteArray) (m : Nat) (i : Value) (wr : World) : Prop :=
 Below w.heap.size w wr ∧ Bx wr w.heap.size T 26 ∧ ∃ j, j + m = ns.length ∧ i = .int .i64 (j : Nat) ∧ ∀ q (hq : q < ns.length), q < j → isNm ns[q] = true
theorem open_c (RA : Option Addr) (rc : Nat) (rs : List Rg) (UA : Option Addr) (uc : Nat) (us : List ByteArray) (DA : Option Addr) (dc : Nat) (ds : List De) (NA : Option Addr) (nc : Nat) (ns : List ByteArray) (w : World)
  (hr : Rgs w RA rs) (hu : Strs w UA us) (hd : Des w DA ds) (hz : ∀ i (h : i < rs.length), (rs[i]).nm.size ≤ 9223372036854775807) (hz2 : ∀ i (h : i < us.length), (us[i]).size ≤ 9223372036854775807)
  (hn : Strs w NA ns) (hnz : ∀ i (h : i < ns.length), (ns[i]).size ≤ 9223372036854775807) (hnl : ns.length ≤ 10) (hdc : ds.length ≤ dc) :
  Calls Tryz.prog 32 #[.agg (tiC RA rc rs UA uc us DA dc ds), .slice NA ns.length nc] w (GivesOp (openF rs us ds ns) RA rc rs UA uc us DA dc ds w) := by
 generalize hres : openF rs us ds ns = res
 have HR := zq hres
 clear hres
 have HX : Hid (Bx (w.alloc (.cells (tiC RA rc rs UA uc us DA dc ds) 26)) w.heap.size (tiC RA rc rs UA uc us DA dc ds) 26) := Bx.new _ _ _
 have HB : Hid (Below w.heap.size w (w.alloc (.cells (tiC RA rc rs UA uc us DA dc ds) 26))) := (Below.refl _ _).alloc (Nat.le_refl _) _
 obtain ⟨W, hW⟩ : ∃ W, W = w.alloc (.cells (tiC RA rc rs UA uc us DA dc ds) 26) := ⟨_, rfl⟩
 rw [← hW] at HX HB
 have HCK := zq (CheckT_c RA rc rs UA uc us DA dc ds W (hr.below HB.out) (hu.below HB.out) (hd.below HB.out) hz hz2)
 have HDw := zq hd
 have HRw := zq hr
 have HNw := zq hn
 have HNZ := zq hnz
 clear hr hu hd hn hnz
 go_enter Tryz.func32, Tryz.ntmps32
 go_upto_region 1 with fail
 rw [← hW]
 clear hW
 iterate 2 go_step
 refine wp_load_mid _ _ (by rfl) w.heap.size 0 (by rfl) (tiC RA rc rs UA uc us DA dc ds).toList _ (rangeB HX.out) Tryz.underlying26 rfl (by kernel_rfl) ?_
 go_wp2_with fail
 with_reducible refine HCK.out.mono ?_
 rintro e w1 ⟨rfl, hb1⟩
 have HB1 := zq (below_trans HB.out hb1)
 have HX1 := zq (HX.out.below hb1)
 clear hb1 HCK HX HB
 by_cases hc : chkT rs us ds = 0
 case neg =>
  have hcb : (chkT rs us ds != 0) = true := by simpa using hc
  have HS : Hid (res = chkT rs us ds) := by show _ = _; rw [← HR.out]; unfold openF; rw [if_pos hc]
  have HN0 : Hid (res ≠ 0) := by show _ ≠ _; rw [HS.out]; exact hc
  clear hc
  go_wp2
  go_ret2
  exact ⟨none, by rw [HS.out]; rfl, HB1.out, fun _ => rfl, fun h => absurd h HN0.out⟩
 have HC := zq hc
 rw [hc]
 clear hc
 obtain ⟨hcr, _, hdl⟩ := chkT_zero HC.out
 have HGR := zq (good_of hcr)
 have HR2 : Hid ((if ns.all isNm = true then (0 : Int) else 5) = res) := by
  show _ = _
  rw [← HR.out]; unfold openF; rw [if_neg (show ¬ (chkT rs us ds ≠ 0) by rw [HC.out]; simp)]
 clear HR hcr
 go_wp2
 go_loopg [16] ns.length (OpR w (tiC RA rc rs UA uc us DA dc ds) ns)
 case atStart => exact ⟨HB1.out, HX1.out, 0, by omega, rfl, fun q _ hq => absurd hq (by omega)⟩
 clear HB1 HX1
 case round =>
  obtain ⟨hb, hx, j, hjm, rfl, hpre⟩ := hrel
  have HB := zq hb
  have HX := zq hx
  have HJM := zq hjm
  have HP := zq hpre
  have hjk : j ≤ ns.length := by omega
  clear hb hx hjm hpre
  by_cases hlj : j < ns.length
  ·obtain ⟨b, o, hA, hb0, hc0⟩ := HNw.out.at_ (by omega)
   subst hA
   obtain ⟨nj, hnj⟩ : ∃ nj, ns[j] = nj := ⟨_, rfl⟩
   have hp := hc0 j hlj
   have hz0 := HNZ.out j hlj
   rw [hnj] at hp hz0
   have p0 : wr.cell? ⟨b, o + j, none⟩ = some (Value.string nj) := (HB.out.cell (p := ⟨b, o + j, none⟩) hb0).trans hp
   have HNJ := zq hnj
   clear hp hc0 hnj
   go_wp2_with fail
   with_reducible refine (isName_c nj _ hz0).mono ?_
   rintro e w2 ⟨rfl, hb2⟩
   have HB2 := zq (below_trans HB.out hb2)
   have HX2 := zq (HX.out.below hb2)
   clear hb2 p0 HB HX
   cases hin : isNm nj with
   | false =>
    have HS : Hid (res = 5) := by
     show _ = _
     rw [← HR2.out, if_neg fun h => ?_]
     have := List.all_eq_true.1 h nj (by rw [← HNJ.out]; exact List.getElem_mem hlj)
     rw [hin] at this; cases this
    clear hin
    go_wp2
    go_ret2
    exact ⟨none, by rw [HS.out]; rfl, HB2.out, fun _ => rfl, fun h => absurd (HS.out.symm.trans h) (by decide)⟩
   | true =>
    have HIN := zq hin
    clear hin
    go_wp2
    go_roundg (gk - 1)
    case measure => have := HJM.out; omega
    case rel =>
     refine ⟨HB2.out, HX2.out, j + 1, by have := HJM.out; omega, by go_num, fun q hq h => ?_⟩
     rcases Nat.lt_or_ge q j with h9 | h9
     ·exact HP.out q hq h9
     ·obtain rfl : q = j := by omega
      rw [HNJ.out]; exact HIN.out
  ·have HS : Hid (res = 0) := by
    show _ = _
    rw [← HR2.out, if_pos (List.all_eq_true.2 fun x hx => ?_)]
    obtain ⟨i, hi, rfl⟩ := List.getElem_of_mem hx
    exact HP.out i hi (by omega)
   have x2 : wr.cell? ⟨w.heap.size, 2, none⟩ = some (Value.slice DA ds.length dc) := HX.out.cell (i := 2) rfl
   have hsx := HX.out.lt
   have HNL := zq (newLedger_c RA rc rs UA uc us DA dc ds ds.length wr HGR.out (chkT_kind HC.out) (HRw.out.below HB.out) (HDw.out.below HB.out) (Nat.le_refl _) hdc hdl)
   go_upto_region 10 with fail
   iterate 2 go_step
   refine wp_load_mid _ _ (by rfl) w.heap.size 0 (by rfl) (tiC RA rc rs UA uc us DA dc ds).toList _ (rangeB HX.out) Tryz.underlying26 rfl (by kernel_rfl) ?_
   go_wp2_with fail
   with_reducible refine HNL.out.mono ?_
   rintro e w2 ⟨L, rfl, hlg, hb2⟩
   have HLG := zq hlg
   have HB2 := zq (below_trans HB.out hb2)
   clear hb2 hlg x2 hsx HNL
   go_wp2
   go_ret2
   exact ⟨some ⟨L, 0, none⟩, by rw [HS.out]; rfl, HB2.out, fun h => absurd HS.out h, fun _ => ⟨L, rfl, by have := HLG.out; rwa [List.take_length] at this⟩⟩
def RuwR (w : World) (T : Array Value) (L : Nat) (RA : Option Addr) (rc : Nat) (rs : List Rg) (UA : Option Addr) (uc : Nat) (us : List ByteArray) (DA : Option Addr) (dc : Nat) (ds : List De) (s : ByteArray) (m : Nat) (i : Value) (wr : World) : Prop :=
 Below w.heap.size w wr ∧ Bx wr w.heap.size T 26 ∧ LgIs RA rc rs UA uc us DA dc ds wr L ∧ ∃ j, j + m = ds.length ∧ i = .int .i64 (j : Nat) ∧ ∀ q (hq : q < ds.length), q < j → decide (ds[q].id = s) = false
theorem run_at {ds : List De} {base : Nat} {w : World} {vr : Value} (h : OwnL eRun 2 w base 71 vr (ds.map (runP ds))) {j : Nat} (hj : j < ds.length) : ∃ b o c, vr = .slice (some ⟨b, o, none⟩) ds.length c ∧ w.cell? ⟨b, o + j * 2, none⟩ = some (.int .i64 (runP ds ds[j]).1) ∧ w.cell? ⟨b, o + j * 2 + 1, none⟩ = some (.int .i64 (runP ds ds[j]).2) := by
 obtain ⟨A, c, rfl, hr⟩ := h.rdk
 obtain ⟨b, o, rfl, hc⟩ := hr (by rw [List.length_map]; omega)
 have h0 := flat_at (enc := eRun) (k := 2) (fun _ => rfl) (ds.map (runP ds)) j (by rw [List.length_map]; exact hj) 0 (by omega)
 have h1 := flat_at (enc := eRun) (k := 2) (fun _ => rfl) (ds.map (runP ds)) j (by rw [List.length_map]; exact hj) 1 (by omega)
 rw [List.getElem_map] at h0 h1
 refine ⟨b, o, c, by rw [List.length_map], hc _ _ h0, ?_⟩
 rw [Nat.add_assoc]
 exact hc _ _ h1
theorem Runs_c (RA : Option Addr) (rc : Nat) (rs : List Rg) (UA : Option Addr) (uc : Nat) (us : List ByteArray) (DA : Option Addr) (dc : Nat) (ds : List De) (s : ByteArray) (w : World)
  (hr : Rgs w RA rs) (hu : Strs w UA us) (hd : Des w DA ds) (hz : ∀ i (h : i < rs.length), (rs[i]).nm.size ≤ 9223372036854775807) (hz2 : ∀ i (h : i < us.length), (us[i]).size ≤ 9223372036854775807) (hdc : ds.length ≤ dc) :
  Calls Tryz.prog 11 #[.agg (tiC RA rc rs UA uc us DA dc ds), .string s] w (GivesB (iifV (runsF rs us ds s)) w) := by
 generalize hres : runsF rs us ds s = res
 have HR := zq hres
 clear hres
 have HX : Hid (Bx (w.alloc (.cells (tiC RA rc rs UA uc us DA dc ds) 26)) w.heap.size (tiC RA rc rs UA uc us DA dc ds) 26) := Bx.new _ _ _
 have HB : Hid (Below w.heap.size w (w.alloc (.cells (tiC RA rc rs UA uc us DA dc ds) 26))) := (Below.refl _ _).alloc (Nat.le_refl _) _
 obtain ⟨W, hW⟩ : ∃ W, W = w.alloc (.cells (tiC RA rc rs UA uc us DA dc ds) 26) := ⟨_, rfl⟩
 rw [← hW] at HX HB
 have HOP : Hid (Calls Tryz.prog 32 #[.agg (tiC RA rc rs UA uc us DA dc ds), .slice none 0 0] W (GivesOp (openF rs us ds []) RA rc rs UA uc us DA dc ds W)) := (open_c RA rc rs UA uc us DA dc ds none 0 [] W (hr.below HB.out) (hu.below HB.out) (hd.below HB.out) hz hz2 Rd1.nil (fun i h => absurd h (by simp)) (by simp) hdc)
 have HDw := zq hd
 clear hr hu hd
 go_enter Tryz.func11, Tryz.ntmps11
 go_upto_region 1 with fail
 rw [← hW]
 clear hW
 iterate 2 go_step
 refine wp_load_mid _ _ (by rfl) w.heap.size 0 (by rfl) (tiC RA rc rs UA uc us DA dc ds).toList _ (rangeB HX.out) Tryz.underlying26 rfl (by kernel_rfl) ?_
 go_wp2_with fail
 with_reducible refine HOP.out.mono ?_
 rintro e w1 ⟨P, rfl, hb1, hp0, hp1⟩
 have HB1 := zq (below_trans HB.out hb1)
 have HX1 := zq (HX.out.below hb1)
 have HP0 := zq hp0
 have HP1 := zq hp1
 clear hb1 hp0 hp1 HOP HX HB
 by_cases hc : chkT rs us ds = 0
 case neg =>
  have hof : openF rs us ds [] = chkT rs us ds := by unfold openF; rw [if_pos hc]
  have hcb : (chkT rs us ds != 0) = true := by simpa using hc
  have HS : Hid (res = ((0, 0), chkT rs us ds)) := by show _ = _; rw [← HR.out]; unfold runsF; rw [if_pos hc]
  rw [hof]
  clear hc hof HP0 HP1
  go_wp2
  go_ret3
  exact GivesB.mk (by first | (rw [HS.out]; rfl) | rw [HS.out]) HB1.out
 have hof : openF rs us ds [] = 0 := by unfold openF; rw [if_neg (show ¬ (chkT rs us ds ≠ 0) by rw [hc]; simp)]; rfl
 have HC := zq hc
 rw [hof]
 obtain ⟨L, rfl, hlg⟩ := HP1.out hof
 have HLG := zq hlg
 clear hc hof HP0 HP1 hlg
 obtain ⟨_, _, hdl⟩ := chkT_zero HC.out
 have HR2 : Hid ((match ds.find? (fun d => decide (d.id = s)) with
  | none => (((0, 0), 5) : (Int × Int) × Int)
  | some d => if givesB d.kd = true then (cutR d.bg (toP ds d), 0) else ((0, 0), 4)) = res) := by
  show _ = _
  rw [← HR.out]; unfold runsF; rw [if_neg (by rw [HC.out]; simp)]; rfl
 have HKD := zq (chkT_kind HC.out)
 clear HR
 have x2 : w1.cell? ⟨w.heap.size, 2, none⟩ = some (Value.slice DA ds.length dc) := HX1.out.cell (i := 2) rfl
 have hsx := HX1.out.lt
 go_wp2
 go_loopg [21] ds.length (RuwR w (tiC RA rc rs UA uc us DA dc ds) L RA rc rs UA uc us DA dc ds s)
 case atStart => exact ⟨HB1.out, HX1.out, HLG.out, 0, by omega, rfl, fun q _ hq => absurd hq (by omega)⟩
 clear HB1 HX1 x2 hsx HLG
 case round =>
  obtain ⟨hb, hx, hlg, j, hjm, rfl, hpre⟩ := hrel
  have HB := zq hb
  have HX := zq hx
  have HLG := zq hlg
  have HJM := zq hjm
  have HP := zq hpre
  have hjk : j ≤ ds.length := by omega
  clear hb hx hjm hpre hlg
  by_cases hlj : j < ds.length
  ·obtain ⟨b, o, hA, hb0, hc0⟩ := HDw.out (by omega)
   subst hA
   obtain ⟨d, hdd⟩ : ∃ d, ds[j] = d := ⟨_, rfl⟩
   have hp := (hc0 j hlj).1
   rw [hdd] at hp
   have hrg : wr.rangeAt b (o + j * 16) (deC d).toList := fun i v hv => (HB.out.cell (p := ⟨b, o + j * 16 + i, none⟩) hb0).trans (hp i v hv)
   have HDD := zq hdd
   have HK1 := zq (HKD.out d (by rw [← hdd]; exact List.getElem_mem hlj)).1
   clear hp hc0 hdd
   go_upto_region 6 with fail
   iterate 8 go_step
   refine wp_load_mid _ _ (by rfl) b (o + j * 16) (by rfl) (deC d).toList _ hrg Tryz.underlying54 rfl (by kernel_rfl) ?_
   clear hrg
   go_upto_region 7 with fail
   obtain ⟨wd, hwd⟩ : ∃ wd, wd = wr.alloc (.cells (deC d) 54) := ⟨_, rfl⟩
   rw [← hwd]
   have HD : Hid (Bx wd wr.heap.size (deC d) 54) := by show Bx _ _ _ _; rw [hwd]; exact Bx.new _ _ _
   have hbd : Below wr.heap.size wr wd := by rw [hwd]; exact (Below.refl _ _).alloc (Nat.le_refl _) _
   have HBD := zq (below_trans HB.out hbd)
   have HXD := zq (HX.out.below hbd)
   have HLD := zq (HLG.out.below hbd)
   clear hwd hbd HB HX HLG
   have d0 := HD.out.cell (i := 0) rfl
   have d2 := HD.out.cell (i := 2) rfl
   have hsd := HD.out.lt
   by_cases he : d.id = s
   ·have q1 := beq_of_eq he
    have HF : Hid ((if givesB d.kd = true then ((cutR d.bg (toP ds d), 0) : (Int × Int) × Int) else ((0, 0), 4)) = res) := by
     show _ = _
     rw [← HR2.out, find_at hlj (by rw [HDD.out]; exact decide_eq_true he) HP.out, HDD.out]
    have HFO := zq (fun W => fieldsOf_c d.kd W HK1.out)
    have hfp := fldC_place d.kd HK1.out
    clear he
    go_wp2_with fail
    with_reducible refine (HFO.out _).mono ?_
    rintro e wf ⟨rfl, hbf⟩
    have HBF := zq (below_trans HBD.out hbf)
    have HLF := zq (HLD.out.below hbf)
    clear hbf HFO HXD HBD HLD d0 d2 hsd HD q1
    cases hgv : givesB d.kd with
    | false =>
     have HS : Hid (res = ((0, 0), 4)) := by show _ = _; rw [← HF.out, hgv]; rfl
     rw [hgv] at hfp
     clear hgv
     go_wp2
     go_ret3
     exact GivesB.mk (by first | (rw [HS.out]; rfl) | rw [HS.out]) HBF.out
    | true =>
     have HS : Hid (res = (cutR d.bg (toP ds d), 0)) := by show _ = _; rw [← HF.out, hgv]; rfl
     have HRP : Hid (runP ds d = cutR d.bg (toP ds d)) := by show _ = _; unfold runP; rw [if_pos hgv]
     rw [hgv] at hfp
     clear hgv
     obtain ⟨r1, r2, g1, g2, AL, cL, vr, vi, ins, base, hlx, _, hrn, _⟩ := HLF.out
     obtain ⟨rb, ro, rcap, hvr, c0, c1⟩ := run_at hrn hlj
     subst hvr
     rw [HDD.out, HRP.out] at c0 c1
     have l9 := hlx.cell (i := 9) rfl
     have hsl := hlx.lt
     clear hlx hrn HLF
     go_wp2
     go_quiet (fail)
     go_wp2
     go_ret3
     exact GivesB.mk (by first | (rw [HS.out]; rfl) | rw [HS.out]) (below_drewN HBF.out _)
   ·have HE : Hid (decide (ds[j].id = s) = false) := by show _ = _; rw [HDD.out]; exact decide_eq_false he
    have q1 := beq_of_ne he
    clear he
    go_wp2
    go_roundg (gk - 1)
    case measure => have := HJM.out; omega
    case rel =>
     refine ⟨HBD.out, HXD.out, HLD.out, j + 1, by have := HJM.out; omega, by go_num, fun q hq h => ?_⟩
     rcases Nat.lt_or_ge q j with h9 | h9
     ·exact HP.out q hq h9
     ·obtain rfl : q = j := by omega
      exact HE.out
  ·have HS : Hid (res = ((0, 0), 5)) := by
    show _ = _
    rw [← HR2.out, find_no (fun q hq => HP.out q hq (by omega))]
   go_wp2
   go_ret3
   exact GivesB.mk (by first | (rw [HS.out]; rfl) | rw [HS.out]) HB.out
theorem lawU_c (RA : Option Addr) (rc : Nat) (rs : List Rg) (UA : Option Addr) (uc : Nat) (us : List ByteArray) (DA : Option Addr) (dc : Nat) (ds : List De) (s : ByteArray) (w : World)
  (hr : Rgs w RA rs) (hu : Strs w UA us) (hd : Des w DA ds) (hz : ∀ i (h : i < rs.length), (rs[i]).nm.size ≤ 9223372036854775807) (hz2 : ∀ i (h : i < us.length), (us[i]).size ≤ 9223372036854775807) (hdc : ds.length ≤ dc) :
  Calls Tryz.prog 4 #[.agg (tiC RA rc rs UA uc us DA dc ds), .string s] w (GivesB (.bool true) w) := by
 have HX : Hid (Bx (w.alloc (.cells (tiC RA rc rs UA uc us DA dc ds) 26)) w.heap.size (tiC RA rc rs UA uc us DA dc ds) 26) := Bx.new _ _ _
 have HB : Hid (Below w.heap.size w (w.alloc (.cells (tiC RA rc rs UA uc us DA dc ds) 26))) := (Below.refl _ _).alloc (Nat.le_refl _) _
 obtain ⟨W, hW⟩ : ∃ W, W = w.alloc (.cells (tiC RA rc rs UA uc us DA dc ds) 26) := ⟨_, rfl⟩
 rw [← hW] at HX HB
 have HR := zq (hr.below HB.out)
 have HU := zq (hu.below HB.out)
 have HD := zq (hd.below HB.out)
 clear hr hu hd
 go_enter Tryz.func4, Tryz.ntmps4
 go_upto_region 1 with fail
 rw [← hW]
 clear hW
 have HC := zq (Runs_c RA rc rs UA uc us DA dc ds s W HR.out HU.out HD.out hz hz2 hdc)
 obtain ⟨res, hres⟩ : ∃ res, res = runsF rs us ds s := ⟨_, rfl⟩
 rw [← hres] at HC
 iterate 2 go_step
 refine wp_load_mid _ _ (by rfl) w.heap.size 0 (by rfl) (tiC RA rc rs UA uc us DA dc ds).toList _ (rangeB HX.out) Tryz.underlying26 rfl (by kernel_rfl) ?_
 go_wp2_with fail
 with_reducible refine HC.out.mono ?_
 rintro e w1 ⟨rfl, hb1⟩
 have HB1 := zq (below_trans HB.out hb1)
 have HX1 := zq (HX.out.below hb1)
 have HC2 := zq (RunsR_c RA rc rs UA uc us DA dc ds s w1 (HR.out.below hb1) (HU.out.below hb1) (HD.out.below hb1) hz hz2)
 rw [← hres] at HC2
 clear hb1 HB HX HC HR HU HD hres
 obtain ⟨⟨ra, rb⟩, rf⟩ := res
 go_upto_region 2 with fail
 iterate 2 go_step
 refine wp_load_mid _ _ (by rfl) w.heap.size 0 (by rfl) (tiC RA rc rs UA uc us DA dc ds).toList _ (rangeB HX1.out) Tryz.underlying26 rfl (by kernel_rfl) ?_
 go_wp2_with fail
 with_reducible refine HC2.out.mono ?_
 rintro e w2 ⟨rfl, hb2⟩
 have HB2 := zq (below_trans HB1.out hb2)
 have ha : (ra == ra) = true := by simp
 have hb : (rb == rb) = true := by simp
 have hf : (rf == rf) = true := by simp
 clear hb2 HB1 HX1 HC2
 go_wp2_with fail
 with_reducible refine (awake_c _).mono ?_
 rintro e w3 ⟨rfl, hb3⟩
 have HB3 := zq (below_trans HB2.out hb3)
 clear hb3
 go_wp2
 go_ret
 exact GivesB.mk rfl HB3.out
end Go.Proofs.YtlcfgejaeecclaaGreatDoor
