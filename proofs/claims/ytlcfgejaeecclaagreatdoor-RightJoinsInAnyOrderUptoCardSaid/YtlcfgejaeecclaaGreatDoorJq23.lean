/- Package right: the checker in memory; place. Package right: what the walk of values holds on to; values of a deed that ends another. -/
import Derived.Test.YtlcfgejaeecclaaGreatDoorJq22
import Derived.Test.YtlcfgejaeecclaaGreatDoorJq09
namespace Go.Proofs.YtlcfgejaeecclaaGreatDoor
open Go.RowKit Dw

/-- The cells of a checker: the world, the uses, the four maps, the deed before. -/
abbrev ckC (A : Option Addr) (c r1 r2 g1 g2 : Nat) (AL : Option Addr) (cL : Nat) (l : List Rg) (uA : Option Addr) (uc : Nat) (us : List ByteArray) (m2 m3 m4 m5 : Nat) (p : De) : Array Value :=
  #[.slice A l.length c, .map (some r1), .slice AL (gath l (fun i => !isPar l i) l.length).length cL, .map (some r2), .slice (some ⟨g1, 0, none⟩) l.length l.length, .slice (some ⟨g2, 0, none⟩) l.length l.length, .slice uA us.length uc, .map (some m2), .map (some m3), .map (some m4), .map (some m5),
    .string p.id, .int .i64 p.day, .int .i64 p.kd, .string p.th, .string p.fr, .string p.to_, .string p.nu, .string p.de, .bool p.ex, .bool p.sb, .slice p.arA p.ar.length p.arc, .slice p.usA p.us.length p.usc, .int .i64 p.bg, .int .i64 p.en, .slice p.shA p.sh.length p.shc, .string p.ot]
/-- What place answers. -/
def placeF (l : List Rg) (us : List ByteArray) (d : De) : Int :=
  if chkA l d.ar ≠ 0 then chkA l d.ar else if leavesOf l d.ar = [] ∨ d.us = [] then 9 else useF us d.us
theorem WR.drew {w : World} {A : Option Addr} {r1 r2 g1 g2 : Nat} {AL : Option Addr} {l : List Rg} (h : WR w A r1 r2 g1 g2 AL l) : WR w.drew A r1 r2 g1 g2 AL l := h.below (below_drewN (Below.refl _ _) 1)
theorem any_leaves (l : List Rg) (a : List Ar) : (inL l a).any id = decide (leavesOf l a ≠ []) := by
  unfold inL leavesOf
  have : ∀ (L : List Nat), (L.map (lies l a)).any id = decide ((L.filter (lies l a)).map (nmAt l) ≠ []) := by
    intro L
    induction L with
    | nil => rfl
    | cons x t ih =>
      by_cases h : lies l a x = true
      · simp [h]
      · have h' : lies l a x = false := by simpa using h
        simp only [List.map_cons, List.any_cons, h', id, Bool.false_or, List.filter_cons_of_neg h]
        exact ih
  exact this _
set_option maxRecDepth 100000 in
set_option maxHeartbeats 2000000 in
theorem place_c (ci : Nat) (A : Option Addr) (c r1 r2 g1 g2 : Nat) (AL : Option Addr) (cL : Nat) (l : List Rg) (uA : Option Addr) (uc : Nat) (us : List ByteArray) (m2 m3 m4 m5 : Nat) (p d : De) (w : World)
    (hc : Bx w ci (ckC A c r1 r2 g1 g2 AL cL l uA uc us m2 m3 m4 m5 p) 110) (g : GoodR l) (hw : WR w A r1 r2 g1 g2 AL l) (hu : Strs w uA us) (hul : us.length ≤ 1000000) (hd : DeOk w d) :
    Calls Tryz.prog 113 #[.pointer (some ⟨ci, 0, none⟩), deV d] w (GivesB (.int .i64 (placeF l us d)) w) := by
  generalize hres : placeF l us d = res
  have HR := Lib.hid hres
  clear hres
  have HB : Hid (Below w.heap.size w (w.alloc (.cells (deC d) 54))) := (Below.refl w.heap.size w).alloc (Nat.le_refl _) _
  have HX : Hid (Bx (w.alloc (.cells (deC d) 54)) w.heap.size (deC d) 54) := Bx.new _ _ _
  obtain ⟨W, hW⟩ : ∃ W, W = w.alloc (.cells (deC d) 54) := ⟨_, rfl⟩
  rw [← hW] at HX HB
  have HC := Lib.hid (hc.below HB.out)
  have HW := Lib.hid (hw.below HB.out)
  have HU := Lib.hid (hu.below HB.out)
  have HD := Lib.hid (hd.below HB.out)
  have hcl := hc.lt
  clear hc hw hu hd
  go_enter Tryz.func113, Tryz.ntmps113
  go_wp2_with fail
  rw [← hW]
  clear hW
  have c0 := HC.out.cell (i := 0) rfl
  have c1 := HC.out.cell (i := 1) rfl
  have c2 := HC.out.cell (i := 2) rfl
  have c3 := HC.out.cell (i := 3) rfl
  have c4 := HC.out.cell (i := 4) rfl
  have c5 := HC.out.cell (i := 5) rfl
  have y10 := HX.out.cell (i := 10) rfl
  have hAr := Lib.hid (fun W' (x : WR W' A r1 r2 g1 g2 AL l) (y : Ars W' d.arA d.ar) => checkArea_c A d.arA c r1 r2 g1 g2 AL cL d.arc l d.ar W' g x y)
  unfold wv at hAr
  go_region_held3 (fun w' => w'.cell? ⟨ci, 0, none⟩ = some (.slice A l.length c) ∧ w'.cell? ⟨ci, 1, none⟩ = some (.map (some r1)) ∧ w'.cell? ⟨ci, 2, none⟩ = some (.slice AL (gath l (fun i => !isPar l i) l.length).length cL) ∧ w'.cell? ⟨ci, 3, none⟩ = some (.map (some r2)) ∧ w'.cell? ⟨ci, 4, none⟩ = some (.slice (some ⟨g1, 0, none⟩) l.length l.length) ∧ w'.cell? ⟨ci, 5, none⟩ = some (.slice (some ⟨g2, 0, none⟩) l.length l.length) ∧ w'.cell? ⟨w.heap.size, 10, none⟩ = some (.slice d.arA d.ar.length d.arc)) ((refine ⟨?_, ?_, ?_, ?_, ?_, ?_, ?_⟩ <;> first | with_reducible assumption | go_simp))
    ((go_at_call 99; (with_reducible refine (hAr.out W.drew (WR.drew HW.out) (Rd2.drew HD.out.ars)).mono ?_); rintro e w1 ⟨rfl, hb1⟩; have HC1 := Lib.hid (HC.out.drew.below hb1); have HX1 := Lib.hid (HX.out.drew.below hb1); have e0 := HC1.out.cell (i := 0) rfl; have e1 := HC1.out.cell (i := 1) rfl; have e2 := HC1.out.cell (i := 2) rfl; have e3 := HC1.out.cell (i := 3) rfl; have e4 := HC1.out.cell (i := 4) rfl; have e5 := HC1.out.cell (i := 5) rfl; have y1 := HX1.out.cell (i := 10) rfl))
  have HB1 := Lib.hid ((below_drewN HB.out 1).trans (hb1.mono HB.out.size))
  have HW1 := Lib.hid ((WR.drew HW.out).below hb1)
  have HU1 := Lib.hid ((Rd1.drew HU.out).below hb1)
  have HD1 := Lib.hid (HD.out.below (Below.trans (below_drewN (Below.refl _ _) 1) hb1))
  clear c0 c1 c2 c3 c4 c5 y10 hb1 HW HU HD HC HX HB hAr
  by_cases hch : chkA l d.ar = 0
  · have ga := goodA_of hch
    have HGA := Lib.hid ga
    have HR1 : Hid ((if leavesOf l d.ar = [] ∨ d.us = [] then (9 : Int) else useF us d.us) = res) := by
      show _ = _
      have hr := HR.out
      unfold placeF at hr
      rwa [if_neg (fun h => h hch)] at hr
    rw [hch]
    clear hch HR
    have HIN := Lib.hid (fun W' (x : WR W' A r1 r2 g1 g2 AL l) (y : Ars W' d.arA d.ar) => in_c A d.arA c r1 r2 g1 g2 AL cL d.arc l d.ar W' g ga x y)
    unfold wv at HIN
    have y11 := HX1.out.cell (i := 11) rfl
    have hin : (inL l d.ar).length ≤ 1000000 := by
      have h1 : (inL l d.ar).length = (leafIdx l).length := by unfold inL; simp
      have h2 := g.len
      have h3 : (leafIdx l).length ≤ (List.range l.length).length := List.length_filter_le _ _
      rw [List.length_range] at h3
      omega
    by_cases hlv : leavesOf l d.ar = []
    · have HR2 : Hid (res = 9) := by
        show _ = _
        rw [← HR1.out, if_pos (.inl hlv)]
      have hsm : (inL l d.ar).any id = false := by rw [any_leaves, hlv]; rfl
      have HSO := Lib.hid (fun go c' W' (x : Rd1 Value.bool W' (some ⟨go, 0, none⟩) (inL l d.ar)) => some_c (some ⟨go, 0, none⟩) c' (inL l d.ar) W' hin x)
      rw [hsm] at HSO
      clear hlv hsm HR1 ga
      go_wp2_with fail
      refine wp_region_held_drew (S := (fun w' => w'.cell? ⟨ci, 0, none⟩ = some (.slice A l.length c) ∧ w'.cell? ⟨ci, 1, none⟩ = some (.map (some r1)) ∧ w'.cell? ⟨ci, 2, none⟩ = some (.slice AL (gath l (fun i => !isPar l i) l.length).length cL) ∧ w'.cell? ⟨ci, 3, none⟩ = some (.map (some r2)) ∧ w'.cell? ⟨ci, 4, none⟩ = some (.slice (some ⟨g1, 0, none⟩) l.length l.length) ∧ w'.cell? ⟨ci, 5, none⟩ = some (.slice (some ⟨g2, 0, none⟩) l.length l.length) ∧ w'.cell? ⟨w.heap.size, 10, none⟩ = some (.slice d.arA d.ar.length d.arc) ∧ w'.cell? ⟨w.heap.size, 11, none⟩ = some (.slice d.usA d.us.length d.usc))) (by kernel_rfl) ?_ (fun hHeld => ?_)
      · (refine ⟨?_, ?_, ?_, ?_, ?_, ?_, ?_, ?_⟩ <;> first | with_reducible assumption | go_simp)
      refine wpAnyH_take (i := 0) (v := ?_) rfl (by kernel_rfl) (by kernel_rfl) (by kernel_rfl) (fun _ _ _ h => h) (Or.inl ⟨by rfl, ?_⟩) (by assumption) ?_
      rotate_left 1
      · (intro w hSw; (try dsimp only at hSw); go_simp; try with_reducible rfl)
      simp only [Act.put, List.setIfInBounds_toArray, List.set_cons_zero, List.set_cons_succ]
      refine wpAnyH_take (i := 1) (v := ?_) rfl (by kernel_rfl) (by kernel_rfl) (by kernel_rfl) (fun _ _ _ h => h) (Or.inl ⟨by rfl, ?_⟩) (by assumption) ?_
      rotate_left 1
      · (intro w hSw; (try dsimp only at hSw); go_simp; try with_reducible rfl)
      simp only [Act.put, List.setIfInBounds_toArray, List.set_cons_zero, List.set_cons_succ]
      refine wpAnyH_take (i := 2) (v := ?_) rfl (by kernel_rfl) (by kernel_rfl) (by kernel_rfl) (fun _ _ _ h => h) (Or.inl ⟨by rfl, ?_⟩) (by assumption) ?_
      rotate_left 1
      · (intro w hSw; (try dsimp only at hSw); go_simp; try with_reducible rfl)
      simp only [Act.put, List.setIfInBounds_toArray, List.set_cons_zero, List.set_cons_succ]
      refine wpAnyH_take (i := 3) (v := ?_) rfl (by kernel_rfl) (by kernel_rfl) (by kernel_rfl) (fun _ _ _ h => h) (Or.inl ⟨by rfl, ?_⟩) (by assumption) ?_
      rotate_left 1
      · (intro w hSw; (try dsimp only at hSw); go_simp; try with_reducible rfl)
      simp only [Act.put, List.setIfInBounds_toArray, List.set_cons_zero, List.set_cons_succ]
      refine wpAnyH_take (i := 4) (v := ?_) rfl (by kernel_rfl) (by kernel_rfl) (by kernel_rfl) (fun _ _ _ h => h) (Or.inl ⟨by rfl, ?_⟩) (by assumption) ?_
      rotate_left 1
      · (intro w hSw; (try dsimp only at hSw); go_simp; try with_reducible rfl)
      simp only [Act.put, List.setIfInBounds_toArray, List.set_cons_zero, List.set_cons_succ]
      refine wpAnyH_take (i := 5) (v := ?_) rfl (by kernel_rfl) (by kernel_rfl) (by kernel_rfl) (fun _ _ _ h => h) (Or.inl ⟨by rfl, ?_⟩) (by assumption) ?_
      rotate_left 1
      · (intro w hSw; (try dsimp only at hSw); go_simp; try with_reducible rfl)
      simp only [Act.put, List.setIfInBounds_toArray, List.set_cons_zero, List.set_cons_succ]
      refine wpAnyH_ready (rs := [6]) (by kernel_rfl) (by simp) ?_
      refine AllReadyH.cons rfl (fun K hK => ?_) AllReadyH.nil
      go_simp
      go_at_call 100
      (with_reducible refine (HIN.out w1.drew (WR.drew HW1.out) (Rd2.drew HD1.out.ars)).mono ?_)
      rintro e w2 ⟨go, cc, rfl, hg2, hb2⟩
      have HB2 := Lib.hid (below_trans (below_drewN HB1.out 1) hb2)
      have HC2 := Lib.hid (HC1.out.drew.below hb2)
      have HX2 := Lib.hid (HX1.out.drew.below hb2)
      have e0 := HC2.out.cell (i := 0) rfl
      have e1 := HC2.out.cell (i := 1) rfl
      have e2 := HC2.out.cell (i := 2) rfl
      have e3 := HC2.out.cell (i := 3) rfl
      have e4 := HC2.out.cell (i := 4) rfl
      have e5 := HC2.out.cell (i := 5) rfl
      have y1 := HX2.out.cell (i := 10) rfl
      have y2 := HX2.out.cell (i := 11) rfl
      refine hK.out _ _ ?_ (fun hHeld => ?_)
      · (refine ⟨?_, ?_, ?_, ?_, ?_, ?_, ?_, ?_⟩ <;> first | with_reducible assumption | go_simp)
      clear hK K
      try simp only [Act.put, List.setIfInBounds_toArray, List.set_cons_zero, List.set_cons_succ]
      refine wpAnyH_ready (rs := [7]) (by kernel_rfl) (by simp) ?_
      refine AllReadyH.cons rfl (fun K hK => ?_) AllReadyH.nil
      go_simp
      go_at_call 150
      (with_reducible refine (HSO.out go cc w2 (bArr_rd hg2)).mono ?_)
      rintro e w3 ⟨rfl, rfl⟩
      refine hK.out _ _ ?_ (fun hHeld => ?_)
      · (refine ⟨?_, ?_, ?_, ?_, ?_, ?_, ?_, ?_⟩ <;> first | with_reducible assumption | go_simp)
      clear hK K
      try simp only [Act.put, List.setIfInBounds_toArray, List.set_cons_zero, List.set_cons_succ]
      refine wpAnyH_take (i := 8) (v := ?_) rfl (by kernel_rfl) (by kernel_rfl) (by kernel_rfl) (fun _ _ _ h => h) (Or.inl ⟨by rfl, ?_⟩) (by assumption) ?_
      rotate_left 1
      · (intro w hSw; (try dsimp only at hSw); go_simp; try with_reducible rfl)
      simp only [Act.put, List.setIfInBounds_toArray, List.set_cons_zero, List.set_cons_succ]
      refine wpAnyH_take (i := 9) (v := ?_) rfl (by kernel_rfl) (by kernel_rfl) (by kernel_rfl) (fun _ _ _ h => h) (Or.inl ⟨by rfl, ?_⟩) (by assumption) ?_
      rotate_left 1
      · (intro w hSw; (try dsimp only at hSw); go_simp; try with_reducible rfl)
      simp only [Act.put, List.setIfInBounds_toArray, List.set_cons_zero, List.set_cons_succ]
      refine wpAnyH_take (i := 10) (v := undef) rfl (by kernel_rfl) (by kernel_rfl) (by kernel_rfl) (fun _ _ _ h => h) (Or.inr ⟨by rfl, rfl⟩) (by assumption) ?_
      simp only [Act.put, List.setIfInBounds_toArray, List.set_cons_zero, List.set_cons_succ]
      refine wpAnyH_take (i := 11) (v := undef) rfl (by kernel_rfl) (by kernel_rfl) (by kernel_rfl) (fun _ _ _ h => h) (Or.inr ⟨by rfl, rfl⟩) (by assumption) ?_
      simp only [Act.put, List.setIfInBounds_toArray, List.set_cons_zero, List.set_cons_succ]
      refine wpAnyH_take (i := 12) (v := undef) rfl (by kernel_rfl) (by kernel_rfl) (by kernel_rfl) (fun _ _ _ h => h) (Or.inr ⟨by rfl, rfl⟩) (by assumption) ?_
      simp only [Act.put, List.setIfInBounds_toArray, List.set_cons_zero, List.set_cons_succ]
      refine wpAnyH_take (i := 13) (v := undef) rfl (by kernel_rfl) (by kernel_rfl) (by kernel_rfl) (fun _ _ _ h => h) (Or.inr ⟨by rfl, rfl⟩) (by assumption) ?_
      simp only [Act.put, List.setIfInBounds_toArray, List.set_cons_zero, List.set_cons_succ]
      refine wpAnyH_take (i := 14) (v := ?_) rfl (by kernel_rfl) (by kernel_rfl) (by kernel_rfl) (fun _ _ _ h => h) (Or.inl ⟨by rfl, ?_⟩) (by assumption) ?_
      rotate_left 1
      · (intro w hSw; (try dsimp only at hSw); go_simp; try with_reducible rfl)
      simp only [Act.put, List.setIfInBounds_toArray, List.set_cons_zero, List.set_cons_succ]
      refine wpAnyH_done (by kernel_rfl) ?_ _
      go_wp2
      go_ret
      exact GivesB.mk (vint HR2.out.symm) HB2.out
    · have hsm : (inL l d.ar).any id = true := by rw [any_leaves]; exact decide_eq_true hlv
      have HR2 : Hid ((if d.us = [] then (9 : Int) else useF us d.us) = res) := by
        show _ = _
        rw [← HR1.out]
        by_cases h9 : d.us = []
        · rw [if_pos h9, if_pos (.inr h9)]
        · rw [if_neg h9, if_neg (fun h => h.elim hlv h9)]
      have HSO := Lib.hid (fun go c' W' (x : Rd1 Value.bool W' (some ⟨go, 0, none⟩) (inL l d.ar)) => some_c (some ⟨go, 0, none⟩) c' (inL l d.ar) W' hin x)
      rw [hsm] at HSO
      clear hlv hsm HR1 ga
      go_wp2_with fail
      go_region_held3 (fun w' => w'.cell? ⟨ci, 0, none⟩ = some (.slice A l.length c) ∧ w'.cell? ⟨ci, 1, none⟩ = some (.map (some r1)) ∧ w'.cell? ⟨ci, 2, none⟩ = some (.slice AL (gath l (fun i => !isPar l i) l.length).length cL) ∧ w'.cell? ⟨ci, 3, none⟩ = some (.map (some r2)) ∧ w'.cell? ⟨ci, 4, none⟩ = some (.slice (some ⟨g1, 0, none⟩) l.length l.length) ∧ w'.cell? ⟨ci, 5, none⟩ = some (.slice (some ⟨g2, 0, none⟩) l.length l.length) ∧ w'.cell? ⟨w.heap.size, 10, none⟩ = some (.slice d.arA d.ar.length d.arc) ∧ w'.cell? ⟨w.heap.size, 11, none⟩ = some (.slice d.usA d.us.length d.usc)) ((refine ⟨?_, ?_, ?_, ?_, ?_, ?_, ?_, ?_⟩ <;> first | with_reducible assumption | go_simp))
        (first
          | ((go_at_call 100; (with_reducible refine (HIN.out w1.drew (WR.drew HW1.out) (Rd2.drew HD1.out.ars)).mono ?_); rintro e w2 ⟨go, cc, rfl, hg2, hb2⟩; have HB2 := Lib.hid (below_trans (below_drewN HB1.out 1) hb2); have HC2 := Lib.hid (HC1.out.drew.below hb2); have HX2 := Lib.hid (HX1.out.drew.below hb2); have e0 := HC2.out.cell (i := 0) rfl; have e1 := HC2.out.cell (i := 1) rfl; have e2 := HC2.out.cell (i := 2) rfl; have e3 := HC2.out.cell (i := 3) rfl; have e4 := HC2.out.cell (i := 4) rfl; have e5 := HC2.out.cell (i := 5) rfl; have y1 := HX2.out.cell (i := 10) rfl; have y2 := HX2.out.cell (i := 11) rfl))
          | ((go_at_call 150; (with_reducible refine (HSO.out go cc w2 (bArr_rd hg2)).mono ?_); rintro e w3 ⟨rfl, rfl⟩)))
      have HW2 := Lib.hid ((WR.drew HW1.out).below hb2)
      have HU2 := Lib.hid ((Rd1.drew HU1.out).below hb2)
      have HD2 := Lib.hid ((HD1.out.below (below_drewN (Below.refl _ _) 1)).below hb2)
      clear hb2 HIN HSO HW1 HU1 HD1 HC1 HX1 HB1 HGA y11 hg2
      by_cases h9 : d.us = []
      · have HS : Hid (res = 9) := by
          show _ = _
          rw [← HR2.out, if_pos h9]
        have h9b : ((d.us.length : Int) == 0) = true := by rw [h9]; rfl
        clear h9 HR2
        go_wp2
        go_ret
        exact GivesB.mk (vint HS.out.symm) HB2.out
      · have HS : Hid (res = useF us d.us) := by
          show _ = _
          rw [← HR2.out, if_neg h9]
        have h9b : ((d.us.length : Int) == 0) = false := by
          have := List.length_pos_iff.2 h9
          simp; omega
        have z6 := HC2.out.cell (i := 6) rfl
        have HUC := Lib.hid (fun W' (x : Strs W' uA us) (y : Strs W' d.usA d.us) => checkUses_c uA d.usA uc d.usc us d.us W' hul HD2.out.lens.2.1 x y)
        clear h9 HR2 e0 e1 e2 e3 e4 e5 y1
        go_wp2_with fail
        go_region_held3 (fun w' => w'.cell? ⟨ci, 6, none⟩ = some (.slice uA us.length uc) ∧ w'.cell? ⟨w.heap.size, 11, none⟩ = some (.slice d.usA d.us.length d.usc)) ((refine ⟨?_, ?_⟩ <;> first | with_reducible assumption | go_simp))
          ((go_at_call 151; (with_reducible refine (HUC.out w2.drew (Rd1.drew HU2.out) (Rd1.drew HD2.out.uses)).mono ?_); rintro e w4 ⟨rfl, hgd⟩; have HB4 := Lib.hid (below_trans HB2.out (below_drewN (Below.refl _ _) 1)); have hb4 : Below w2.drew.heap.size w2.drew w4 := (by obtain ⟨nn, hn⟩ := hgd; rw [hn]; exact below_drewN (Below.refl _ _) nn); have HC4 := Lib.hid (HC2.out.drew.below hb4); have HX4 := Lib.hid (HX2.out.drew.below hb4); have z7 := HC4.out.cell (i := 6) rfl; have z8 := HX4.out.cell (i := 11) rfl))
        go_wp2
        go_ret
        exact GivesB.mk (vint HS.out.symm) (below_trans HB4.out hb4)
  · have HS : Hid (res = chkA l d.ar) := by
      show _ = _
      rw [← HR.out]; unfold placeF; rw [if_pos hch]
    have hcb : (chkA l d.ar != 0) = true := by simpa using hch
    clear hch HR
    go_wp2
    go_ret
    exact GivesB.mk (vint HS.out.symm) HB1.out
end Go.Proofs.YtlcfgejaeecclaaGreatDoor

namespace Go.Proofs.YtlcfgejaeecclaaGreatDoor
open Go.RowKit Dw

theorem tKinds : Tryz.prog.underlying 72 = some (.map 9 3) := by kernel_rfl
theorem tFlags : Tryz.prog.underlying 108 = some (.map 9 4) := by kernel_rfl
/-- The worlds of a walk through values: w0 at the start, wr now. -/
structure VS (w0 wr : World) (ci bi fi : Nat) (fc : Array Value) (A : Option Addr) (c r1 r2 g1 g2 : Nat) (AL : Option Addr) (cL : Nat) (l : List Rg) (uA : Option Addr) (uc : Nat) (us : List ByteArray) (m2 m3 m4 m5 : Nat) (p d : De) (f2 f3 : ByteArray → Option Value) : Prop where
  bel : Below w0.heap.size w0 wr
  ck : Bx wr ci (ckC A c r1 r2 g1 g2 AL cL l uA uc us m2 m3 m4 m5 p) 110
  dx : Bx wr bi (deC d) 54
  fx : Bx wr fi fc 68
  wrl : WR wr A r1 r2 g1 g2 AL l
  st : Strs wr uA us
  dok : DeOk wr d
  k2 : MapIs Value.string wr m2 f2
  k3 : MapIs Value.string wr m3 f3
section
variable {w0 wr w' : World} {ci bi fi : Nat} {fc : Array Value} {A : Option Addr} {c r1 r2 g1 g2 : Nat} {AL : Option Addr} {cL : Nat} {l : List Rg} {uA : Option Addr} {uc : Nat} {us : List ByteArray} {m2 m3 m4 m5 : Nat} {p d : De} {f2 f3 : ByteArray → Option Value}
theorem VS.below (h : VS w0 wr ci bi fi fc A c r1 r2 g1 g2 AL cL l uA uc us m2 m3 m4 m5 p d f2 f3) (hb : Below wr.heap.size wr w') : VS w0 w' ci bi fi fc A c r1 r2 g1 g2 AL cL l uA uc us m2 m3 m4 m5 p d f2 f3 :=
  ⟨below_trans h.bel hb, h.ck.below hb, h.dx.below hb, h.fx.below hb, h.wrl.below hb, h.st.below hb, h.dok.below hb, h.k2.below hb, h.k3.below hb⟩
theorem VS.drewN (h : VS w0 wr ci bi fi fc A c r1 r2 g1 g2 AL cL l uA uc us m2 m3 m4 m5 p d f2 f3) (n : Nat) : VS w0 (wr.drewN n) ci bi fi fc A c r1 r2 g1 g2 AL cL l uA uc us m2 m3 m4 m5 p d f2 f3 := h.below (below_drewN (Below.refl _ _) n)
theorem VS.drew (h : VS w0 wr ci bi fi fc A c r1 r2 g1 g2 AL cL l uA uc us m2 m3 m4 m5 p d f2 f3) : VS w0 wr.drew ci bi fi fc A c r1 r2 g1 g2 AL cL l uA uc us m2 m3 m4 m5 p d f2 f3 := h.drewN 1
theorem VS.alloc (h : VS w0 wr ci bi fi fc A c r1 r2 g1 g2 AL cL l uA uc us m2 m3 m4 m5 p d f2 f3) (o : Obj) : VS w0 (wr.alloc o) ci bi fi fc A c r1 r2 g1 g2 AL cL l uA uc us m2 m3 m4 m5 p d f2 f3 := h.below ((Below.refl _ _).alloc (Nat.le_refl _) o)
end
theorem VS.start (w : World) (ci : Nat) (fc : Array Value) (A : Option Addr) (c r1 r2 g1 g2 : Nat) (AL : Option Addr) (cL : Nat) (l : List Rg) (uA : Option Addr) (uc : Nat) (us : List ByteArray) (m2 m3 m4 m5 : Nat) (p d : De) (f2 f3 : ByteArray → Option Value)
    (hc : Bx w ci (ckC A c r1 r2 g1 g2 AL cL l uA uc us m2 m3 m4 m5 p) 110) (hw : WR w A r1 r2 g1 g2 AL l) (hu : Strs w uA us) (hd : DeOk w d) (h2 : MapIs Value.string w m2 f2) (h3 : MapIs Value.string w m3 f3) :
    VS w ((w.alloc (.cells (deC d) 54)).alloc (.cells fc 68)) ci w.heap.size (w.heap.size + 1) fc A c r1 r2 g1 g2 AL cL l uA uc us m2 m3 m4 m5 p d f2 f3 := by
  have hb : Below w.heap.size w ((w.alloc (.cells (deC d) 54)).alloc (.cells fc 68)) := ((Below.refl w.heap.size w).alloc (Nat.le_refl _) _).alloc (by simp) _
  exact ⟨hb, hc.below hb, (Bx.new _ _ _).alloc _, Bx.new1 _ _ _ _, hw.below hb, hu.below hb, hd.below hb, h2.below hb, h3.below hb⟩
/-- What the end of another deed answers, by what the two maps hold. -/
def endV (d : De) (k : Int) (e : Bool) : Int :=
  if dayB d.bg = false then 1 else if k ≠ 2 ∧ k ≠ 3 then 9 else if e = true then 7 else 0
set_option maxRecDepth 100000 in
set_option maxHeartbeats 2000000 in
theorem values_4 (ci : Nat) (A : Option Addr) (c r1 r2 g1 g2 : Nat) (AL : Option Addr) (cL : Nat) (l : List Rg) (uA : Option Addr) (uc : Nat) (us : List ByteArray) (m2 m3 m4 m5 : Nat) (p d : De) (f2 f3 : ByteArray → Option Value) (k : Int) (e : Bool) (w : World)
    (hk : (f2 d.ot).getD (.int .i64 0) = .int .i64 k) (he : (f3 d.ot).getD (.bool false) = .bool e)
    (hc : Bx w ci (ckC A c r1 r2 g1 g2 AL cL l uA uc us m2 m3 m4 m5 p) 110) (hw : WR w A r1 r2 g1 g2 AL l) (hu : Strs w uA us) (hd : DeOk w d) (h2 : MapIs Value.string w m2 f2) (h3 : MapIs Value.string w m3 f3) :
    Calls Tryz.prog 82 #[.pointer (some ⟨ci, 0, none⟩), deV d, .agg #[.bool false, .bool false, .bool false, .bool false, .bool false, .bool false, .bool false, .bool false, .bool true]] w (GivesB (.int .i64 (endV d k e)) w) := by
  generalize hres : endV d k e = res
  have HR := Lib.hid hres
  clear hres
  have HV := Lib.hid (VS.start w ci #[.bool false, .bool false, .bool false, .bool false, .bool false, .bool false, .bool false, .bool false, .bool true] A c r1 r2 g1 g2 AL cL l uA uc us m2 m3 m4 m5 p d f2 f3 hc hw hu hd h2 h3)
  clear hc hw hu hd h2 h3
  obtain ⟨W, hW⟩ : ∃ W, W = (w.alloc (.cells (deC d) 54)).alloc (.cells #[.bool false, .bool false, .bool false, .bool false, .bool false, .bool false, .bool false, .bool false, .bool true] 68) := ⟨_, rfl⟩
  rw [← hW] at HV
  have hsz : w.heap.size + 1 < W.heap.size := HV.out.fx.lt
  go_enter Tryz.func82, Tryz.ntmps82
  go_wp2_with fail
  rw [← hW]
  clear hW
  have x3 := HV.out.dx.cell (i := 3) rfl
  have x4 := HV.out.dx.cell (i := 4) rfl
  have x5 := HV.out.dx.cell (i := 5) rfl
  have x11 := HV.out.dx.cell (i := 12) rfl
  have x14 := HV.out.dx.cell (i := 15) rfl
  have y0 := HV.out.fx.cell (i := 0) rfl
  have y1 := HV.out.fx.cell (i := 1) rfl
  have y2 := HV.out.fx.cell (i := 2) rfl
  have y3 := HV.out.fx.cell (i := 3) rfl
  have y5 := HV.out.fx.cell (i := 5) rfl
  have y6 := HV.out.fx.cell (i := 6) rfl
  have y7 := HV.out.fx.cell (i := 7) rfl
  have y8 := HV.out.fx.cell (i := 8) rfl
  have HDY := Lib.hid (fun W' => isDay_c d.bg W')
  go_wp2_with fail
  with_reducible refine (HDY.out _).mono ?_
  rintro e' w2 ⟨rfl, rfl⟩
  cases hb : dayB d.bg with
  | false =>
    have HS : Hid (res = 1) := by
      show _ = _
      rw [← HR.out]; unfold endV; rw [if_pos hb]
    clear hb HR
    go_wp2
    go_ret
    exact GivesB.mk (vint HS.out.symm) HV.out.bel
  | true =>
    have HR2 : Hid ((if k ≠ 2 ∧ k ≠ 3 then (9 : Int) else if e = true then 7 else 0) = res) := by
      show _ = _
      have hbn : ¬ dayB d.bg = false := by rw [hb]; simp
      rw [← HR.out]; unfold endV; rw [if_neg hbn]
    clear hb HR HDY
    have q2 := HV.out.ck.cell (i := 7) rfl
    have q3 := HV.out.ck.cell (i := 8) rfl
    have hl2 := fun n => run_lookup_map tKinds (keyT_string (P := Tryz.prog) (by kernel_rfl)) zInt ((HV.out.drewN n).k2) d.ot false
    have hl3 := fun n => run_lookup_map tFlags (keyT_string (P := Tryz.prog) (by kernel_rfl)) zBool ((HV.out.drewN n).k3) d.ot false
    simp only [Bool.false_eq_true, if_false, hk, he] at hl2 hl3
    by_cases hk2 : k = 2 ∨ k = 3
    · have HR3 : Hid ((if e = true then (7 : Int) else 0) = res) := by
        show _ = _
        have hkn : ¬ (k ≠ 2 ∧ k ≠ 3) := by omega
        rw [← HR2.out, if_neg hkn]
      clear HR2
      go_wp2
      rcases hk2 with rfl | rfl
      all_goals
        go_quiet (fail)
        go_wp2
        go_quiet (fail)
        cases e with
        | true =>
          have HS : Hid (res = 7) := by
            show _ = _
            rw [← HR3.out, if_pos rfl]
          clear HR3
          go_wp2
          go_ret
          exact GivesB.mk (vint HS.out.symm) (below_drewN (below_drewN HV.out.bel _) _)
        | false =>
          have HS : Hid (res = 0) := by
            show _ = _
            rw [← HR3.out, if_neg (by simp)]
          clear HR3
          go_wp2
          go_ret
          exact GivesB.mk (vint HS.out.symm) (below_drewN (below_drewN HV.out.bel _) _)
    · have HS : Hid (res = 9) := by
        show _ = _
        have hkn : k ≠ 2 ∧ k ≠ 3 := by omega
        rw [← HR2.out, if_pos hkn]
      have k1 : (k != 2) = true := by simp; omega
      have k3 : (k != 3) = true := by simp; omega
      clear hk2 HR2
      go_wp2
      go_quiet (fail)
      go_wp2
      go_ret
      exact GivesB.mk (vint HS.out.symm) (below_drewN HV.out.bel _)
end Go.Proofs.YtlcfgejaeecclaaGreatDoor
