/- The reference's deedText at kind 4 (printed by gen_dt.py). -/
import Derived.Test.YtlcfgejaeecclaaGreatDoorZr04
set_option maxRecDepth 100000
set_option maxHeartbeats 8000000
namespace Go.Proofs.YtlcfgejaeecclaaGreatDoor
open Go.RowKit Dw
theorem deedTextR_4 (w0 : World) (d : De) (w : World) (hk : d.kd = 4) (hd : DeOk w0 d) (hz : DSz d) (hP : POK w0) (h0 : Below w0.heap.size w0 w) :
  Calls Tryz.prog 45 #[deV d] w (GivesB (.string (sB (deedL d))) w) := by
 have HD := zq hd
 have HZ := zq hz
 have HPK := zq hP
 have H0 := zq h0
 have HK := zq hk
 have HG : Hid (∀ W, Calls Tryz.prog 34 #[.int .i64 4] W (Gives (.bool false) W)) := fun W => givesR_c 4 W
 obtain ⟨W, hW⟩ : ∃ W, W = w.alloc (.cells (deC d) 54) := ⟨_, rfl⟩
 have HS : Hid (DtS w d W) := by
  show DtS _ _ _
  rw [hW]
  exact ⟨(Below.refl _ _).alloc (Nat.le_refl _) _, Bx.new _ _ _⟩
 have HX2 : Hid (∀ W', DtS w d W' → W'.cell? ⟨w.heap.size, 2, none⟩ = some (.int .i64 4)) := fun W' h => by
  have e : _ = some (Value.int .i64 d.kd) := h.box.cell (i := 2) rfl
  rw [e, hk]
 clear hd hP h0
 go_enter Tryz.func45, Tryz.ntmps45
 go_upto_region 1 with fail
 rw [← hW]
 clear hW
 go_cut [3] (fun v wx => v = .string (sB (headL d)) ∧ DtS w d wx)
 case first =>
  obtain ⟨iy, hiy⟩ : ∃ iy, iy = itoaB d.day := ⟨_, rfl⟩
  have hiz : iy.size ≤ 16 := by rw [hiy]; exact itoaB_size hz.day.1 (by have := hz.day.2; omega)
  obtain ⟨c1, c2, c3, c4, c5, c6, _⟩ := head_cats d.id iy (kdS 4) hz.id hiz (kdS_size _)
  have HE := zq (head_eq d hiy (show kdS 4 = kdS d.kd by rw [hk]))
  have HBW : Hid (Below w0.heap.size w0 W) := below_trans H0.out HS.out.bel
  have HI : Hid (∀ W', BelH W W' → Calls Tryz.prog 75 #[.int .i64 d.day] W' (fun e w' => GivesH W (.string iy) e w' ∧ BelH W' w')) := fun W' hW =>
   (itoa_c d.day W' (by have := hz.day.1; omega) (by have := hz.day.2; omega) (HPK.out.below (below_trans HBW.out hW.out))).mono fun _ _ h => by rw [hiy]; exact ⟨GivesB.toH hW h, h.2⟩
  have HWD : Hid (∀ W', BelH W W' → Calls Tryz.prog 77 #[] W' (fun e w' => ∃ g, e = .returned (.slice (some ⟨g, 0, none⟩) 5 5) ∧ BelH W w' ∧ Bx w' g #[.string (kdS 1), .string (kdS 2), .string (kdS 3), .string (kdS 4), .string (kdS 5)] 9)) := fun W' hW => (wordsR_c W').mono fun _ _ ⟨g, h1, h2, h3⟩ => ⟨g, h1, below_trans hW.out h2, h3⟩
  have HBC : Hid (∀ W', BelH W W' → W'.cell? ⟨w.heap.size, 0, none⟩ = some (.string d.id) ∧ W'.cell? ⟨w.heap.size, 1, none⟩ = some (.int .i64 d.day) ∧ W'.cell? ⟨w.heap.size, 2, none⟩ = some (.int .i64 4)) := fun W' hW =>
   ⟨(HS.out.below hW.out).box.cell (i := 0) rfl, (HS.out.below hW.out).box.cell (i := 1) rfl, HX2.out _ (HS.out.below hW.out)⟩
  have H1 : BelH W W.drew := below_drewN (Below.refl _ _) 1
  clear hiy hiz HBC
  have wk : IntKind.i64.wrap 3 = 3 := by decide
  refine wp_region_held_drew (S := fun w' => DtS w d w') (by kernel_rfl) ?_ (fun hHeld => ?_)
  ·exact HS.out.below H1.out
  refine Dw.tk 0 ?_ rfl ?_ (by assumption) ?_
  rotate_left 1
  ·(intro w' _; go_simp; try with_reducible rfl)
  simp only [List.getElem_toArray, List.getElem_cons_zero, Act.put, List.setIfInBounds_toArray, List.set_cons_zero, List.set_cons_succ]
  refine Dw.tk 1 ?_ rfl ?_ (by assumption) ?_
  rotate_left 1
  ·(intro w' hSw; have e0 := hSw.box.cell (i := 0) rfl; have el := hSw.box.lt; go_simp; try with_reducible rfl)
  simp only [Dw.lay, Act.put]
  refine Dw.tk 2 ?_ rfl ?_ (by assumption) ?_
  rotate_left 1
  ·(intro w' _; go_simp; try with_reducible rfl)
  simp only [Dw.lay, Act.put]
  refine Dw.tk 3 ?_ rfl ?_ (by assumption) ?_
  rotate_left 1
  ·(intro w' _; go_simp; try with_reducible rfl)
  simp only [Dw.lay, Act.put]
  refine Dw.tk 4 ?_ rfl ?_ (by assumption) ?_
  rotate_left 1
  ·(intro w' _; go_simp; try with_reducible rfl)
  simp only [Dw.lay, Act.put]
  refine Dw.tk 5 ?_ rfl ?_ (by assumption) ?_
  rotate_left 1
  ·(intro w' hSw; have e0 := hSw.box.cell (i := 1) rfl; have el := hSw.box.lt; go_simp; try with_reducible rfl)
  simp only [Dw.lay, Act.put]
  refine Dw.tk 10 ?_ rfl ?_ (by assumption) ?_
  rotate_left 1
  ·(intro w' _; go_simp; try with_reducible rfl)
  simp only [Dw.lay, Act.put]
  refine Dw.tk 11 ?_ rfl ?_ (by assumption) ?_
  rotate_left 1
  ·(intro w' hSw; have e0 := HX2.out _ hSw; have el := hSw.box.lt; go_simp; try with_reducible rfl)
  simp only [Dw.lay, Act.put]
  refine Dw.tk 12 ?_ rfl ?_ (by assumption) ?_
  rotate_left 1
  ·(intro w' _; go_simp; try with_reducible rfl)
  simp only [Dw.lay, Act.put]
  refine Dw.rd1 6 rfl (fun K hK => ?_)
  clear hHeld
  go_simp
  go_at_call 75
  with_reducible refine (HI.out _ H1).mono ?_
  rintro e w5 ⟨⟨rfl, H5⟩, hbw⟩
  refine hK.out _ _ ?_ (fun hHeld => ?_)
  ·exact HS.out.below H5.out
  clear hK K
  try simp only [Dw.lay, Act.put]
  refine Dw.tk 7 ?_ rfl ?_ (by assumption) ?_
  rotate_left 1
  ·(intro w' _; go_simp; try with_reducible rfl)
  simp only [Dw.lay, Act.put]
  refine Dw.tk 8 ?_ rfl ?_ (by assumption) ?_
  rotate_left 1
  ·(intro w' _; go_simp; try with_reducible rfl)
  simp only [Dw.lay, Act.put]
  refine Dw.rd1 9 rfl (fun K hK => ?_)
  clear hHeld
  go_simp
  go_at_call 77
  with_reducible refine (HWD.out _ H5).mono ?_
  rintro e w6 ⟨gw, rfl, H6, hx6⟩
  have g6 := hx6.cell (i := 3) rfl
  have gl6 := hx6.lt
  refine hK.out _ _ ?_ (fun hHeld => ?_)
  ·exact HS.out.below H6.out
  clear hK K
  try simp only [Dw.lay, Act.put]
  refine Dw.tk 13 ?_ rfl ?_ (by assumption) ?_
  rotate_left 1
  ·(intro w' _; go_simp; try with_reducible rfl)
  simp only [Dw.lay, Act.put]
  refine Dw.rd1 14 rfl (fun K hK => ?_)
  clear hHeld
  go_simp
  refine hK.out _ _ ?_ (fun hHeld => ?_)
  ·exact HS.out.below H6.out
  clear hK K
  try simp only [Dw.lay, Act.put]
  refine Dw.tk 15 ?_ rfl ?_ (by assumption) ?_
  rotate_left 1
  ·(intro w' _; go_simp; try with_reducible rfl)
  simp only [Dw.lay, Act.put]
  refine Dw.tk 16 ?_ rfl ?_ (by assumption) ?_
  rotate_left 1
  ·(intro w' _; go_simp; try with_reducible rfl)
  simp only [Dw.lay, Act.put]
  refine Dw.tk 17 ?_ rfl ?_ (by assumption) ?_
  rotate_left 1
  ·(intro w' _; go_simp; try with_reducible rfl)
  simp only [Dw.lay, Act.put]
  refine wpAnyH_done (by kernel_rfl) ?_ _
  clear hHeld
  go_wp2_with fail
  go_meet
  exact ⟨by rw [← HE.out, lit_data], HS.out.below H6.out⟩
 case rest =>
  obtain ⟨rfl, hs⟩ := hcut
  have HS1 := zq hs
  have HL1 : Hid ((headL d).length ≤ 1 * 2000000) := by
   show _ ≤ _
   have := headL_len hz
   omega
  obtain ⟨l1, hl1⟩ : ∃ q, q = headL d := ⟨_, rfl⟩
  rw [← hl1] at HL1 ⊢
  have HQ1 := zq hl1
  clear hl1 hs HS
  have zt := hz.th
  have zf := hz.fr
  have zo := hz.to_
  have zn := hz.nu
  have zd := hz.de
  have zot := hz.ot
  have zr := rat_size hz.nu hz.de
  have zal := hz.arl
  have zul := hz.usl
  have zsl := hz.shl
  have x2 := HX2.out _ HS1.out
  have xs := HS1.out.box.lt
  go_upto_region 2 with fail
  go_wp2_with fail
  with_reducible refine (HG.out _).mono ?_
  rintro e w1 ⟨rfl, rfl⟩
  go_upto_region 4 with fail
  clear x2 xs
  have x2 := HX2.out _ HS1.out
  have xs := HS1.out.box.lt
  go_upto_region 4 with fail
  go_wp2_with fail
  with_reducible refine (HG.out _).mono ?_
  rintro e w1 ⟨rfl, rfl⟩
  go_upto_region 6 with fail
  clear x2 xs
  have x2 := HX2.out _ HS1.out
  have xs := HS1.out.box.lt
  go_upto_region 6 with fail
  go_wp2_with fail
  with_reducible refine (HG.out _).mono ?_
  rintro e w1 ⟨rfl, rfl⟩
  go_upto_region 8 with fail
  clear x2 xs
  have x2 := HX2.out _ HS1.out
  have xs := HS1.out.box.lt
  go_upto_region 10 with fail
  clear x2 xs
  have xb : _ = some (Value.bool d.ex) := HS1.out.box.cell (i := 8) rfl
  have xs := HS1.out.box.lt
  go_upto_if 72 with fail
  clear xb xs
  generalize hgen : d.ex = cc1
  have HC1 := zq hgen
  clear hgen
  go_cut [3] (fun v wx => v = .string (sB (l1 ++ ifL cc1 (lnL [wExcl]))) ∧ DtS w d wx)
  case first =>
   have c1 := rcat0 l1 ⟨#[32, 32, 101, 120, 99, 108, 117, 115, 105, 118, 101, 10]⟩ wExcl (by rfl) (by decide) (by have := HL1.out; omega)
   cases cc1 with
   | false =>
    go_wp2_with fail
    go_meet
    exact ⟨by rw [ifL_false, List.append_nil], HS1.out⟩
   | true =>
    go_wp2_with fail
    go_meet
    exact ⟨rfl, HS1.out⟩
  case rest =>
   obtain ⟨rfl, hs⟩ := hcut
   have HS2 := zq hs
   clear hs HS1
   have HL2 : Hid ((l1 ++ ifL cc1 (lnL [wExcl])).length ≤ 2 * 2000000) := by
    show _ ≤ _
    rw [List.length_append]
    have h1 := HL1.out
    have h2 := ln1_len cc1 (s1 := wExcl) (by decide)
    try rw [ifL_true] at h2
    omega
   obtain ⟨l2, hl2⟩ : ∃ q, q = l1 ++ ifL cc1 (lnL [wExcl]) := ⟨_, rfl⟩
   rw [← hl2] at HL2 ⊢
   have HQ2 := zq hl2
   clear hl2
   have xb : _ = some (Value.bool d.sb) := HS2.out.box.cell (i := 9) rfl
   have xs := HS2.out.box.lt
   go_upto_if 76 with fail
   clear xb xs
   generalize hgen : d.sb = cc2
   have HC2 := zq hgen
   clear hgen
   go_cut [3] (fun v wx => v = .string (sB (l2 ++ ifL cc2 (lnL [wSub]))) ∧ DtS w d wx)
   case first =>
    have c1 := rcat0 l2 ⟨#[32, 32, 115, 117, 98, 10]⟩ wSub (by rfl) (by decide) (by have := HL2.out; omega)
    cases cc2 with
    | false =>
     go_wp2_with fail
     go_meet
     exact ⟨by rw [ifL_false, List.append_nil], HS2.out⟩
    | true =>
     go_wp2_with fail
     go_meet
     exact ⟨rfl, HS2.out⟩
   case rest =>
    obtain ⟨rfl, hs⟩ := hcut
    have HS3 := zq hs
    clear hs HS2
    have HL3 : Hid ((l2 ++ ifL cc2 (lnL [wSub])).length ≤ 3 * 2000000) := by
     show _ ≤ _
     rw [List.length_append]
     have h1 := HL2.out
     have h2 := ln1_len cc2 (s1 := wSub) (by decide)
     try rw [ifL_true] at h2
     omega
    obtain ⟨l3, hl3⟩ : ∃ q, q = l2 ++ ifL cc2 (lnL [wSub]) := ⟨_, rfl⟩
    rw [← hl3] at HL3 ⊢
    have HQ3 := zq hl3
    clear hl3
    have xb := HS3.out.box.cell (i := 10) rfl
    have xs := HS3.out.box.lt
    go_wp2
    clear xb xs
    go_loopg [3, 4] d.ar.length (DaRel w d l3)
    case atStart => exact ⟨0, by omega, rfl, by simp [flatL], HS3.out⟩
    clear HS3
    case round =>
     obtain ⟨k, hkm, rfl, rfl, hs⟩ := hrel
     have HKM := zq hkm
     have HS := zq hs
     have hkl : k ≤ d.ar.length := by omega
     have HBW : Hid (Below w0.heap.size w0 wr) := below_trans H0.out HS.out.bel
     have HLK : Hid ((l3 ++ flatL arL (d.ar.take k)).length ≤ 3 * 2000000 + 100 * 14000) := by
      show _ ≤ _
      rw [List.length_append]
      have h1 := HL3.out
      have h2 := take_len arL 14000 100 d.ar k (fun a ha => ln2_len true (s1 := if a.out = true then wOut else wIn) (s2 := a.rg) (by split <;> decide) (by have := hz.ar a ha; omega)) hz.arl
      omega
     have xb : _ = some (Value.slice d.arA d.ar.length d.arc) := HS.out.box.cell (i := 10) rfl
     have xs := HS.out.box.lt
     clear hkm hs
     by_cases hlt : k < d.ar.length
     ·obtain ⟨b1, o1, hA, hb0, hcc⟩ := (HD.out.ars.below HBW.out).at_ (by omega)
      have hq := hcc k hlt
      have HT : Hid (flatL arL (d.ar.take (k + 1)) = flatL arL (d.ar.take k) ++ arL d.ar[k]) := flatL_take arL d.ar hlt
      have hm := hz.ar _ (List.getElem_mem hlt)
      rw [hA] at xb
      generalize d.ar[k] = a at *
      obtain ⟨lk, hlk⟩ : ∃ q, q = l3 ++ flatL arL (d.ar.take k) := ⟨_, rfl⟩
      rw [← hlk] at HLK ⊢
      have HLE : Hid (l3 ++ flatL arL (d.ar.take (k + 1)) = lk ++ arL a) := by show _ = _; rw [HT.out, ← List.append_assoc, ← hlk]
      clear hcc hA HT hlk
      obtain ⟨q0, q1⟩ := hq
      have HLL := zq (show lk.length ≤ 900000000 by have := HLK.out; omega)
      cases ho : a.out with
      | true =>
       have HO := zq ho
       rw [ho] at q1
       obtain ⟨c1, c2, c3⟩ := rcat1 lk ⟨#[32, 32, 111, 117, 116, 32]⟩ wOut a.rg (by rfl) (by decide) (by omega) HLL.out
       clear ho
       go_wp2
       go_roundg (gk - 1)
       case measure => have := HKM.out; omega
       case rel => exact ⟨k + 1, by have := HKM.out; omega, by go_num, by rw [HLE.out]; unfold arL; rw [HO.out]; rfl, HS.out⟩
      | false =>
       have HO := zq ho
       rw [ho] at q1
       obtain ⟨c1, c2, c3⟩ := rcat1 lk ⟨#[32, 32, 105, 110, 32]⟩ wIn a.rg (by rfl) (by decide) (by omega) HLL.out
       clear ho
       go_wp2
       go_roundg (gk - 1)
       case measure => have := HKM.out; omega
       case rel => exact ⟨k + 1, by have := HKM.out; omega, by go_num, by rw [HLE.out]; unfold arL; rw [HO.out]; rfl, HS.out⟩
     ·have hke : d.ar.length ≤ k := by omega
      rw [flatL_all arL d.ar hke] at HLK ⊢
      obtain ⟨l4, hl4⟩ : ∃ q, q = l3 ++ flatL arL d.ar := ⟨_, rfl⟩
      rw [← hl4] at HLK ⊢
      have HS4 := zq HS.out
      have HL4 : Hid (l4.length ≤ 4 * 2000000) := by show _ ≤ _; have := HLK.out; omega
      have HQ4 := zq hl4
      go_upto_region 20 with fail
      clear hl4 HS HLK HKM HBW xb xs
      have xb := HS4.out.box.cell (i := 11) rfl
      have xs := HS4.out.box.lt
      go_wp2
      clear xb xs
      go_loopg [3, 5] d.us.length (DuRel w d l4)
      case atStart => exact ⟨0, by omega, rfl, by simp [flatL], HS4.out⟩
      clear HS4
      case round =>
       obtain ⟨k, hkm, rfl, rfl, hs⟩ := hrel
       have HKM := zq hkm
       have HS := zq hs
       have hkl : k ≤ d.us.length := by omega
       have HBW : Hid (Below w0.heap.size w0 wr) := below_trans H0.out HS.out.bel
       have HLK : Hid ((l4 ++ flatL usL (d.us.take k)).length ≤ 4 * 2000000 + 20 * 14000) := by
        show _ ≤ _
        rw [List.length_append]
        have h1 := HL4.out
        have h2 := take_len usL 14000 20 d.us k (fun a ha => ln2_len true (s1 := wFor) (s2 := a) (by decide) (by have := hz.us a ha; omega)) hz.usl
        omega
       have xb : _ = some (Value.slice d.usA d.us.length d.usc) := HS.out.box.cell (i := 11) rfl
       have xs := HS.out.box.lt
       clear hkm hs
       by_cases hlt : k < d.us.length
       ·obtain ⟨b1, o1, hA, hb0, hcc⟩ := (HD.out.uses.below HBW.out).at_ (by omega)
        have hq := hcc k hlt
        have HT : Hid (flatL usL (d.us.take (k + 1)) = flatL usL (d.us.take k) ++ usL d.us[k]) := flatL_take usL d.us hlt
        have hm := hz.us _ (List.getElem_mem hlt)
        rw [hA] at xb
        generalize d.us[k] = a at *
        obtain ⟨lk, hlk⟩ : ∃ q, q = l4 ++ flatL usL (d.us.take k) := ⟨_, rfl⟩
        rw [← hlk] at HLK ⊢
        have HLE : Hid (l4 ++ flatL usL (d.us.take (k + 1)) = lk ++ usL a) := by show _ = _; rw [HT.out, ← List.append_assoc, ← hlk]
        clear hcc hA HT hlk
        have HLL := zq (show lk.length ≤ 900000000 by have := HLK.out; omega)
        obtain ⟨c1, c2, c3⟩ := rcat1 lk ⟨#[32, 32, 102, 111, 114, 32]⟩ wFor a (by rfl) (by decide) (by omega) HLL.out
        go_wp2
        go_roundg (gk - 1)
        case measure => have := HKM.out; omega
        case rel => exact ⟨k + 1, by have := HKM.out; omega, by go_num, by rw [HLE.out]; rfl, HS.out⟩
       ·have hke : d.us.length ≤ k := by omega
        rw [flatL_all usL d.us hke] at HLK ⊢
        obtain ⟨l5, hl5⟩ : ∃ q, q = l4 ++ flatL usL d.us := ⟨_, rfl⟩
        rw [← hl5] at HLK ⊢
        have HS5 := zq HS.out
        have HL5 : Hid (l5.length ≤ 5 * 2000000) := by show _ ≤ _; have := HLK.out; omega
        have HQ5 := zq hl5
        go_upto_region 24 with fail
        clear hl5 HS HLK HKM HBW xb xs
        have x2 := HX2.out _ HS5.out
        have xs := HS5.out.box.lt
        obtain ⟨c1, c2, c3⟩ := rcat1 l5 ⟨#[32, 32, 98, 101, 103, 105, 110, 32]⟩ wBegin (itoaB d.bg) (by rfl) (by decide) (itoa_sz hz.bg.1 hz.bg.2) (by have := HL5.out; omega)
        have y12 := HS5.out.box.cell (i := 12) rfl
        go_wp2_with fail
        with_reducible refine (itoa_c d.bg _ (by have := hz.bg.1; omega) (by have := hz.bg.2; omega) (HPK.out.below (below_trans H0.out HS5.out.bel))).mono ?_
        rintro e wi ⟨rfl, hbi⟩
        have HSi := zq (HS5.out.below hbi)
        clear hbi
        go_upto_region 25 with fail
        clear x2 xs c1 c2 c3 y12
        have HL6 : Hid ((l5 ++ lnL [wBegin, (itoaB d.bg)]).length ≤ 6 * 2000000) := by
         show _ ≤ _
         rw [List.length_append]
         have h1 := HL5.out
         have h2 := ln2_len true (s1 := wBegin) (s2 := (itoaB d.bg)) (by decide) (itoa_sz hz.bg.1 hz.bg.2)
         try rw [ifL_true] at h2
         omega
        obtain ⟨l6, hl6⟩ : ∃ q, q = l5 ++ lnL [wBegin, (itoaB d.bg)] := ⟨_, rfl⟩
        rw [← hl6] at HL6 ⊢
        have HQ6 := zq hl6
        clear hl6
        have HS6 := HSi
        clear HSi HS5
        have x2 := HX2.out _ HS6.out
        have xs := HS6.out.box.lt
        go_upto_region 25 with fail
        go_wp2_with fail
        with_reducible refine (HG.out _).mono ?_
        rintro e w1 ⟨rfl, rfl⟩
        go_upto_region 27 with fail
        clear x2 xs
        have xb := HS6.out.box.cell (i := 14) rfl
        have xs := HS6.out.box.lt
        go_wp2
        clear xb xs
        go_loopg [3, 6] d.sh.length (DsRel w d l6)
        case atStart => exact ⟨0, by omega, rfl, by simp [flatL], HS6.out⟩
        clear HS6
        case round =>
         obtain ⟨k, hkm, rfl, rfl, hs⟩ := hrel
         have HKM := zq hkm
         have HS := zq hs
         have hkl : k ≤ d.sh.length := by omega
         have HBW : Hid (Below w0.heap.size w0 wr) := below_trans H0.out HS.out.bel
         have HLK : Hid ((l6 ++ flatL shL (d.sh.take k)).length ≤ 6 * 2000000 + 20 * 14000) := by
          show _ ≤ _
          rw [List.length_append]
          have h1 := HL6.out
          have h2 := take_len shL 14000 20 d.sh k (fun a ha => ln3_len true (s1 := wShare) (s2 := a.pt) (s3 := ratB a.nu a.de) (by decide) (by have := (hz.sh a ha).1; omega) (rat_size (hz.sh a ha).2.1 (hz.sh a ha).2.2)) hz.shl
          omega
         have xb : _ = some (Value.slice d.shA d.sh.length d.shc) := HS.out.box.cell (i := 14) rfl
         have xs := HS.out.box.lt
         clear hkm hs
         by_cases hlt : k < d.sh.length
         ·obtain ⟨b1, o1, hA, hb0, hcc⟩ := (HD.out.shs.below HBW.out).at_ (by omega)
          have hq := hcc k hlt
          have HT : Hid (flatL shL (d.sh.take (k + 1)) = flatL shL (d.sh.take k) ++ shL d.sh[k]) := flatL_take shL d.sh hlt
          have hm := hz.sh _ (List.getElem_mem hlt)
          rw [hA] at xb
          generalize d.sh[k] = a at *
          obtain ⟨lk, hlk⟩ : ∃ q, q = l6 ++ flatL shL (d.sh.take k) := ⟨_, rfl⟩
          rw [← hlk] at HLK ⊢
          have HLE : Hid (l6 ++ flatL shL (d.sh.take (k + 1)) = lk ++ shL a) := by show _ = _; rw [HT.out, ← List.append_assoc, ← hlk]
          clear hcc hA HT hlk
          obtain ⟨q0, q1, q2⟩ := hq
          obtain ⟨m0, m1, m2⟩ := hm
          have HLL := zq (show lk.length ≤ 900000000 by have := HLK.out; omega)
          obtain ⟨c1, c2, c3, c4, c5⟩ := rcat2 lk ⟨#[32, 32, 115, 104, 97, 114, 101, 32]⟩ wShare a.pt (ratB a.nu a.de) (by rfl) (by decide) (by omega) (rat_size m1 m2) HLL.out
          have HRT : Hid (∀ W', BelH wr W' → Calls Tryz.prog 78 #[.agg #[.string a.nu, .string a.de]] W' (GivesH wr (.string (ratB a.nu a.de)))) := fun W' hW => (ratioR_c a.nu a.de W' m1 m2).mono fun _ _ h => GivesB.toH hW h
          have HBC : Hid (∀ W', BelH wr W' → W'.cell? ⟨w.heap.size, 14, none⟩ = some (Value.slice (some ⟨b1, o1, none⟩) d.sh.length d.shc) ∧ W'.cell? ⟨b1, o1 + k * 3, none⟩ = some (.string a.pt) ∧ W'.cell? ⟨b1, o1 + k * 3 + 1, none⟩ = some (.string a.nu) ∧ W'.cell? ⟨b1, o1 + k * 3 + 2, none⟩ = some (.string a.de)) := fun W' hW =>
           ⟨(hW.out.cell (p := ⟨w.heap.size, 14, none⟩) xs).trans xb, (hW.out.cell (p := ⟨b1, o1 + k * 3, none⟩) hb0).trans q0, (hW.out.cell (p := ⟨b1, o1 + k * 3 + 1, none⟩) hb0).trans q1, (hW.out.cell (p := ⟨b1, o1 + k * 3 + 2, none⟩) hb0).trans q2⟩
          go_upto_region 30 with fail
          have H1 : BelH wr wr.drew := below_drewN (Below.refl _ _) 1
          clear xb q0 q1 q2
          obtain ⟨xb, q0, q1, q2⟩ := HBC.out _ H1
          go_region_held3 (fun w' => (w'.cell? ⟨w.heap.size, 14, none⟩ = some (Value.slice (some ⟨b1, o1, none⟩) d.sh.length d.shc) ∧ w'.cell? ⟨b1, o1 + k * 3, none⟩ = some (.string a.pt)) ∧ w'.cell? ⟨b1, o1 + k * 3 + 1, none⟩ = some (.string a.nu) ∧ w'.cell? ⟨b1, o1 + k * 3 + 2, none⟩ = some (.string a.de)) (go_keep)
           (first
            | ((go_at_call 78; (with_reducible refine (HRT.out _ (by assumption)).mono ?_); rintro e w5 ⟨rfl, H5⟩; obtain ⟨z0, z1, z2, z3⟩ := HBC.out _ H5)))
          have HSE := zq (HS.out.below H5.out)
          go_wp2
          go_roundg (gk - 1)
          case measure => have := HKM.out; omega
          case rel => exact ⟨k + 1, by have := HKM.out; omega, by go_num, by rw [HLE.out]; rfl, HSE.out⟩
         ·have hke : d.sh.length ≤ k := by omega
          rw [flatL_all shL d.sh hke] at HLK ⊢
          obtain ⟨l7, hl7⟩ : ∃ q, q = l6 ++ flatL shL d.sh := ⟨_, rfl⟩
          rw [← hl7] at HLK ⊢
          have HS7 := zq HS.out
          have HL7 : Hid (l7.length ≤ 7 * 2000000) := by show _ ≤ _; have := HLK.out; omega
          have HQ7 := zq hl7
          go_upto_region 31 with fail
          clear hl7 HS HLK HKM HBW xb xs
          have x2 := HX2.out _ HS7.out
          have xs := HS7.out.box.lt
          obtain ⟨c1, c2, c3⟩ := rcat1 l7 ⟨#[32, 32, 101, 110, 100, 115, 32]⟩ wEnds d.ot (by rfl) (by decide) (by omega) (by have := HL7.out; omega)
          have y15 := HS7.out.box.cell (i := 15) rfl
          go_upto_region 33 with fail
          clear x2 xs c1 c2 c3 y15
          have HL8 : Hid ((l7 ++ lnL [wEnds, d.ot]).length ≤ 8 * 2000000) := by
           show _ ≤ _
           rw [List.length_append]
           have h1 := HL7.out
           have h2 := ln2_len true (s1 := wEnds) (s2 := d.ot) (by decide) (by omega)
           try rw [ifL_true] at h2
           omega
          obtain ⟨l8, hl8⟩ : ∃ q, q = l7 ++ lnL [wEnds, d.ot] := ⟨_, rfl⟩
          rw [← hl8] at HL8 ⊢
          have HQ8 := zq hl8
          clear hl8
          have HS8 := HS7
          clear HS7
          go_wp2
          go_ret
          have he : deedL d = l8 := by
           rw [HQ8.out, HQ7.out, HQ6.out, HQ5.out, HQ4.out, HQ3.out, HQ2.out, HQ1.out, ← HC1.out, ← HC2.out]
           unfold deedL preA midA endA
           rw [HK.out]
           simp only [List.append_assoc, List.append_nil, ifL_true, ifL_false, show givesB 4 = false from rfl, Bool.or_false, decide_true, show decide ((4 : Int) = 1) = false from rfl, show decide ((4 : Int) = 2) = false from rfl, show decide ((4 : Int) = 5) = false from rfl]
          rw [he]
          exact GivesB.mk rfl HS8.out.bel
end Go.Proofs.YtlcfgejaeecclaaGreatDoor
