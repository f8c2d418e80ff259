/- The reference's checkDeed, one of five by kind (printed). -/
import Derived.Test.YtlcfgejaeecclaaGreatDoorZq27
set_option maxRecDepth 100000
set_option maxHeartbeats 8000000
namespace Go.Proofs.YtlcfgejaeecclaaGreatDoor
open Go.RowKit Dw
theorem checkDeed_g (RA : Option Addr) (rc : Nat) (rs : List Rg) (UA : Option Addr) (uc : Nat) (us : List ByteArray) (DA : Option Addr) (dc : Nat) (ds : List De) (k : Nat) (w : World) (g : GoodR rs) (hr : Rgs w RA rs) (hu : Strs w UA us) (hul : us.length ≤ 1000000) (hd : Des w DA ds) (hk : k < ds.length) (hdl : ds.length ≤ 200) (hK : ds[k].kd = 2 ∨ ds[k].kd = 3) :
  Calls Tryz.prog 51 #[.agg (tiC RA rc rs UA uc us DA dc ds), .int .i64 k] w (GivesB (.int .i64 (chkD rs us (ds.take k) ds[k])) w) := by
 generalize hres : chkD rs us (ds.take k) ds[k] = res
 rw [chkD_eq] at hres
 have HR := zq hres
 clear hres
 have HDS := zq hd
 obtain ⟨b, o, rfl, hb0, hc0⟩ := hd (by omega)
 have HC0 := zq hc0
 have hok := (hc0 k hk).2
 have hrg := (hc0 k hk).1
 obtain ⟨d, hdd⟩ : ∃ d, ds[k] = d := ⟨_, rfl⟩
 rw [hdd] at HR hok hrg hK
 have HK := zq hK
 clear hK
 have HD := zq hok
 have HDD := zq hdd
 clear hd hc0 hok hdd
 have HRG := zq hr
 have HU := zq hu
 clear hr hu
 obtain ⟨z1, z2, z3, z4, z5, z6⟩ := HD.out.strs
 have HX0 : Hid (Bx (w.alloc (.cells (tiC RA rc rs UA uc us (some ⟨b, o, none⟩) dc ds) 26)) w.heap.size (tiC RA rc rs UA uc us (some ⟨b, o, none⟩) dc ds) 26) := Bx.new _ _ _
 have HST0 : Hid (GS w RA rc rs UA uc us (some ⟨b, o, none⟩) dc ds d ((w.alloc (.cells (tiC RA rc rs UA uc us (some ⟨b, o, none⟩) dc ds) 26)).alloc (.cells (deC d) 54))) :=
  ⟨((Below.refl w.heap.size w).alloc (Nat.le_refl _) _).alloc (by simp) _, (Bx.new _ _ _).alloc _, Bx.new1 _ _ _ _⟩
 obtain ⟨W2, hW2⟩ : ∃ W, W = (w.alloc (.cells (tiC RA rc rs UA uc us (some ⟨b, o, none⟩) dc ds) 26)).alloc (.cells (deC d) 54) := ⟨_, rfl⟩
 rw [← hW2] at HST0
 have hrg1 : (w.alloc (.cells (tiC RA rc rs UA uc us (some ⟨b, o, none⟩) dc ds) 26)).rangeAt b (o + k * 16) (deC d).toList := fun j v hv => (((Below.refl w.heap.size w).alloc (Nat.le_refl _) _).cell hb0).trans (hrg j v hv)
 have HRA := zq hrg1
 clear hrg hrg1
 have y2 : (w.alloc (.cells (tiC RA rc rs UA uc us (some ⟨b, o, none⟩) dc ds) 26)).cell? ⟨w.heap.size, 2, none⟩ = some (.slice (some ⟨b, o, none⟩) ds.length dc) := HX0.out.cell (i := 2) rfl
 go_enter Tryz.func51, Tryz.ntmps51
 go_upto_region 1 with fail
 iterate 14 go_step
 refine wp_load_mid _ _ (by rfl) b (o + k * 16) (by rfl) (deC d).toList _ HRA.out Tryz.underlying54 rfl (by kernel_rfl) ?_
 go_upto_region 2 with fail
 rw [← hW2]
 clear hW2 y2 HRA HX0
 have y0 := HST0.out.de.cell (i := 0) rfl
 have y1 := HST0.out.de.cell (i := 1) rfl
 have ys := HST0.out.de.lt
 have hn1 := fun W => IsNameR_c d.id W z1
 have hd1 := fun W => isDayR_c d.day W
 cases h1 : isNm d.id with
 | false =>
  rw [h1] at hn1
  have HN1 := zq hn1
  have HS : Hid (res = 5) := by show _ = _; rw [← HR.out, if_pos h1]
  clear h1 hn1 hd1
  go_wp2_with fail
  with_reducible refine (HN1.out _).mono ?_
  rintro e w1 ⟨rfl, rfl⟩
  go_wp2
  go_ret
  exact GivesB.mk (vint HS.out.symm) HST0.out.bel
 | true =>
 rw [h1] at hn1
 have HN1 := zq hn1
 cases h2 : dayB d.day with
 | false =>
  rw [h2] at hd1
  have HD1 := zq hd1
  have HS : Hid (res = 1) := by show _ = _; rw [← HR.out, if_neg (by rw [h1]; simp), if_pos h2]
  clear h1 h2 hn1 hd1
  go_wp2_with fail
  with_reducible refine (HN1.out _).mono ?_
  rintro e w1 ⟨rfl, rfl⟩
  go_wp2_with fail
  with_reducible refine (HD1.out _).mono ?_
  rintro e w2 ⟨rfl, rfl⟩
  go_wp2
  go_ret
  exact GivesB.mk (vint HS.out.symm) HST0.out.bel
 | true =>
 rw [h2] at hd1
 have HD1 := zq hd1
 have HR1 : Hid ((if ordB (ds.take k) d = false then 8 else chk2 rs us (ds.take k) d) = res) := by
  show _ = _
  have hh := HR.out
  rwa [if_neg (by rw [h1]; simp), if_neg (by rw [h2]; simp)] at hh
 clear h1 h2 hn1 hd1 HR
 go_wp2_with fail
 with_reducible refine (HN1.out _).mono ?_
 rintro e w1 ⟨rfl, rfl⟩
 go_wp2_with fail
 with_reducible refine (HD1.out _).mono ?_
 rintro e w2 ⟨rfl, rfl⟩
 clear HN1 HD1
 have y2 : _ = some (Value.slice (some ⟨b, o, none⟩) ds.length dc) := HST0.out.ti.cell (i := 2) rfl
 have yt := HST0.out.ti.lt
 go_upto_region 6 with fail
 go_cut [63] (fun v wx => v = .bool (!ordB (ds.take k) d) ∧ GS w RA rc rs UA uc us (some ⟨b, o, none⟩) dc ds d wx)
 case first =>
  by_cases hk0 : 0 < k
  ·obtain ⟨pd, hpd⟩ : ∃ pd, ds[k - 1]'(by omega) = pd := ⟨_, rfl⟩
   have hp := (HC0.out (k - 1) (by omega)).1
   rw [hpd] at hp
   have HO : Hid (ordB (ds.take k) d = deLt pd d) := by show _ = _; rw [ordB_take hk hk0, hpd]
   have p0 : _ = some (Value.string pd.id) := (HST0.out.bel.cell (p := ⟨b, o + (k - 1) * 16, none⟩) hb0).trans (hp 0 _ rfl)
   have p1 : _ = some (Value.int .i64 pd.day) := (HST0.out.bel.cell (p := ⟨b, o + (k - 1) * 16 + 1, none⟩) hb0).trans (hp 1 _ rfl)
   have hd : decide ((0 : Int) < (k : Int)) = true := by simp; omega
   have hd0 : decide ((0 : Int) ≤ (k : Int) - 1) = true := by simp; omega
   clear hp hpd
   rcases Int.lt_trichotomy d.day pd.day with h | h | h
   ·have HS : Hid (deLt pd d = false) := by show _ = _; unfold deLt; simp; omega
    have e1 : decide (d.day < pd.day) = true := decide_eq_true h
    clear h
    go_quiet (fail)
    go_wp2_with fail
    go_meet
    exact ⟨vbool (by rw [HO.out, HS.out]; rfl), HST0.out.drewN _⟩
   ·have e1 : decide (d.day < pd.day) = false := decide_eq_false (by omega)
    have e2 : (d.day == pd.day) = true := by rw [h]; simp
    cases hle : sle d.id pd.id with
    | true =>
     have HS : Hid (deLt pd d = false) := by show _ = _; unfold deLt; rw [slt_sle, hle]; simp; omega
     unfold sle at hle
     clear h
     go_quiet (fail)
     go_wp2_with fail
     go_meet
     exact ⟨vbool (by rw [HO.out, HS.out]; rfl), HST0.out.drewN _⟩
    | false =>
     have HS : Hid (deLt pd d = true) := by show _ = _; unfold deLt; rw [slt_sle, hle]; simp; omega
     unfold sle at hle
     clear h
     go_quiet (fail)
     go_wp2_with fail
     go_meet
     exact ⟨vbool (by rw [HO.out, HS.out]; rfl), HST0.out.drewN _⟩
   ·have e1 : decide (d.day < pd.day) = false := decide_eq_false (by omega)
    have e2 : (d.day == pd.day) = false := by simp; omega
    have HS : Hid (deLt pd d = true) := by show _ = _; unfold deLt; simp; omega
    clear h
    go_quiet (fail)
    go_wp2_with fail
    go_meet
    exact ⟨vbool (by rw [HO.out, HS.out]; rfl), HST0.out.drewN _⟩
  ·have hd : decide ((0 : Int) < (k : Int)) = false := by simp; omega
   have HO : Hid (ordB (ds.take k) d = true) := by
    show _ = _
    have : k = 0 := by omega
    rw [this]; rfl
   go_quiet (fail)
   go_wp2_with fail
   go_meet
   exact ⟨vbool (by rw [HO.out]; rfl), HST0.out.drewN _⟩
 case rest =>
  obtain ⟨rfl, hst⟩ := hcut
  clear y0 y1 y2 ys yt HST0
  have HST := zq hst
  clear hst
  cases hob : ordB (ds.take k) d with
  | false =>
   have HS : Hid (res = 8) := by show _ = _; rw [← HR1.out, if_pos hob]
   clear hob
   go_wp2
   go_ret
   exact GivesB.mk (vint HS.out.symm) HST.out.bel
  | true =>
  have HR2 : Hid (chk2 rs us (ds.take k) d = res) := by
   show _ = _
   have hh := HR1.out
   rwa [if_neg (by rw [hob]; simp)] at hh
  clear hob HR1
  go_wp2
  go_loopg [6] k (PreRel w RA rc rs UA uc us (some ⟨b, o, none⟩) dc ds d k (fun p => decide (p.id = d.id)))
  case atStart => exact ⟨HST.out, 0, by omega, rfl, fun q _ hq => absurd hq (by omega)⟩
  case round =>
   clear HST
   obtain ⟨hst, j, hjm, rfl, hpre⟩ := hrel
   have HST := zq hst
   have HJM := zq hjm
   have HP := zq hpre
   have hjk : j ≤ k := by omega
   clear hst hjm hpre
   by_cases hlt : j < k
   ·obtain ⟨pj, hpj⟩ : ∃ pj, ds[j]'(by omega) = pj := ⟨_, rfl⟩
    have hp := (HC0.out j (by omega)).1
    rw [hpj] at hp
    have p0 : _ = some (Value.string pj.id) := (HST.out.bel.cell (p := ⟨b, o + j * 16, none⟩) hb0).trans (hp 0 _ rfl)
    have y0 := HST.out.de.cell (i := 0) rfl
    have y2 : _ = some (Value.slice (some ⟨b, o, none⟩) ds.length dc) := HST.out.ti.cell (i := 2) rfl
    have ys := HST.out.de.lt
    have yt := HST.out.ti.lt
    have HPJ := zq hpj
    have hjl : j < ds.length := by omega
    clear hp hpj
    by_cases he : pj.id = d.id
    ·have HS : Hid (res = 7) := by
      show _ = _
      have e : ((ds.take k).any fun p => decide (p.id = d.id)) = true := any_take_true hlt hk (by rw [HPJ.out]; exact decide_eq_true he)
      rw [← HR2.out]; unfold chk2; rw [if_pos e]
     have q1 := beq_of_eq he
     clear he
     go_wp2
     go_quiet (fail)
     go_wp2
     go_ret
     exact GivesB.mk (vint HS.out.symm) (HST.out.drewN _).bel
    ·have HE := zq he
     have q1 := beq_of_ne he
     clear he
     go_wp2
     go_quiet (fail)
     go_wp2
     go_roundg (gk - 1)
     case measure => have := HJM.out; omega
     case rel =>
      refine ⟨HST.out.drewN _, j + 1, by have := HJM.out; omega, by go_num, fun q h q2 => ?_⟩
      rcases Nat.lt_or_ge q j with h9 | h9
      ·exact HP.out q h h9
      ·obtain rfl : q = j := by omega
       rw [HPJ.out]
       exact decide_eq_false HE.out
   ·have HR3 : Hid (chk3 rs us (ds.take k) d = res) := by
     show _ = _
     have e : ((ds.take k).any fun p => decide (p.id = d.id)) = false := any_take_false fun q h q2 => HP.out q h (by omega)
     rw [← HR2.out]; unfold chk2; rw [if_neg (by rw [e]; simp)]
    clear HR2 HP HJM
    have k2 : _ = some (Value.int .i64 d.kd) := HST.out.de.cell (i := 2) rfl
    have ys := HST.out.de.lt
    have hkc := HK.out
    have hk1' : 1 ≤ d.kd := by omega
    have hk5' : d.kd ≤ 5 := by omega
    have hk0 : ¬ (d.kd < 1 ∨ 5 < d.kd) := by omega
    clear hkc
    have HR4 : Hid ((if needB d = true then 3 else chk4 rs us (ds.take k) d) = res) := by
     show _ = _
     have hh := HR3.out
     unfold chk3 at hh
     rwa [if_neg hk0] at hh
    clear hk0 HR3
    go_upto_region 15 with fail
    clear k2 ys
    iterate 2 go_step
    refine wp_load_mid _ _ (by rfl) (w.heap.size + 1) 0 (by rfl) (deC d).toList _ (rangeB HST.out.de) Tryz.underlying54 rfl (by kernel_rfl) ?_
    have hfo := fun W => formedR_c d W HD.out.lens
    cases hnb : needB d with
    | true =>
     rw [hnb, Bool.not_true] at hfo
     have HFO := zq hfo
     have HS : Hid (res = 3) := by show _ = _; rw [← HR4.out, if_pos hnb]
     clear hfo hnb
     go_wp2_with fail
     with_reducible refine (HFO.out _).mono ?_
     rintro e w5 ⟨rfl, hb5⟩
     go_wp2
     go_ret
     exact GivesB.mk (vint HS.out.symm) (below_trans HST.out.bel hb5)
    | false =>
    rw [hnb, Bool.not_false] at hfo
    have HFO := zq hfo
    have HR5 : Hid (chk4 rs us (ds.take k) d = res) := by
     show _ = _
     have hh := HR4.out
     rwa [if_neg (by rw [hnb]; simp)] at hh
    clear hfo hnb HR4
    go_wp2_with fail
    with_reducible refine (HFO.out _).mono ?_
    rintro e w5 ⟨rfl, hb5⟩
    have HST5 := zq (HST.out.below hb5)
    clear hb5 HST HFO
    have ys := HST5.out.de.lt
    have hkc := HK.out
    have HR6 : Hid (giftF rs us d = res) := by
     show _ = _
     have hh := HR5.out
     unfold chk4 at hh
     rwa [if_pos (by unfold givesB; rcases hkc with h | h <;> simp [h])] at hh
    rcases hkc with hkc | hkc
    all_goals
     have k2 : _ = some (Value.int .i64 d.kd) := HST5.out.de.cell (i := 2) rfl
     rw [hkc] at k2
     clear hkc
     go_upto_region 20 with fail
     clear k2 ys
     iterate 2 go_step
     refine wp_load_mid _ _ (by rfl) w.heap.size 0 (by rfl) (tiC RA rc rs UA uc us (some ⟨b, o, none⟩) dc ds).toList _ (rangeB HST5.out.ti) Tryz.underlying26 rfl (by kernel_rfl) ?_
     iterate 2 go_step
     refine wp_load_mid _ _ (by rfl) (w.heap.size + 1) 0 (by rfl) (deC d).toList _ (rangeB HST5.out.de) Tryz.underlying54 rfl (by kernel_rfl) ?_
     go_wp2_with fail
     with_reducible refine (checkGiftR_c RA rc rs UA uc us (some ⟨b, o, none⟩) dc ds d _ g (HRG.out.below HST5.out.bel) (HU.out.below HST5.out.bel) hul (HD.out.below HST5.out.bel)).mono ?_
     rintro e w6 ⟨rfl, hb6⟩
     go_wp2
     go_ret
     exact GivesB.mk (vint HR6.out) (below_trans HST5.out.bel hb6)
end Go.Proofs.YtlcfgejaeecclaaGreatDoor
