/- Parts of the proof, joined: The reference's numbers: Compare (printed by gen_rnk.py). The referenc. -/
import Derived.Test.YtlcfgejaeecclaaGreatDoorZq22
set_option maxRecDepth 100000
set_option maxHeartbeats 8000000
namespace Go.Proofs.YtlcfgejaeecclaaGreatDoor
open Go.RowKit Dw
theorem lowP_pos {n d : Nat} (hn : 0 < n) : 0 < (lowP n d).1 := Nat.div_pos (Nat.le_of_dvd hn (Nat.gcd_dvd_left n d)) (Nat.gcd_pos_of_pos_left d hn)
theorem lowP_fst {n d : Nat} : (lowP n d).1 = 0 ↔ n = 0 := by
 constructor
 ·intro h
  rcases Nat.eq_zero_or_pos n with h0 | h0
  ·exact h0
  ·have := lowP_pos (d := d) h0; omega
 ·rintro rfl; unfold lowP; exact Nat.zero_div _
theorem plusN_cmp (n d m e : Nat) : cmpN (n * e) (m * d) = if (plusN false n d (!false && decide (m ≠ 0)) m e).2.1 = 0 then 0 else if (plusN false n d (!false && decide (m ≠ 0)) m e).1 = true then -1 else 1 := by
 unfold plusN
 by_cases hm : m = 0
 ·subst hm
  have e1 : (!false && decide (0 ≠ 0)) = false := rfl
  rw [e1, if_pos rfl]
  simp only [Bool.false_and, Nat.zero_mul, Nat.add_zero, lowP_fst]
  by_cases h0 : n * e = 0
  ·rw [if_pos h0, cmpN_eq h0]
  ·rw [if_neg h0, cmpN_gt (by omega)]; rfl
 ·have e1 : (!false && decide (m ≠ 0)) = true := by simp [hm]
  rw [e1]
  simp only [Bool.false_eq_true, if_false]
  by_cases hc : m * d ≤ n * e
  ·rw [if_pos hc]
   simp only [Bool.false_and, lowP_fst]
   by_cases h0 : n * e - m * d = 0
   ·rw [if_pos h0, cmpN_eq (by omega)]
   ·rw [if_neg h0, cmpN_gt (by omega)]; rfl
  ·rw [if_neg hc]
   have h0 : ¬ m * d - n * e = 0 := by omega
   simp only [Bool.true_and, lowP_fst]
   rw [if_neg h0, if_pos (by simp [h0]), cmpN_lt (by omega)]
def CoRel (w : World) (ng : Bool) (n d : Nat) (v : Value) (wx : World) : Prop := ∃ g A c A2 c2, v = .pointer (some ⟨g, 0, none⟩) ∧ Bx wx g (nuC ng A c n A2 c2 d) 180 ∧ Below w.heap.size w wx
theorem co_new {w wx : World} {ng : Bool} {A A2 : Option Addr} {c c2 n d : Nat} (h : Below w.heap.size w wx) : CoRel w ng n d (.pointer (some ⟨wx.heap.size, 0, none⟩)) (wx.alloc (.cells (nuC ng A c n A2 c2 d) 180)) := ⟨_, A, c, A2, c2, rfl, Bx.new _ _ _, h.alloc h.size _⟩
theorem co_set {w wx : World} {ng : Bool} {A A2 : Option Addr} {c c2 n d g : Nat} (h : Below w.heap.size w wx) (hz : Bx wx g zNum 180) (hg : w.heap.size ≤ g) : CoRel w ng n d (.pointer (some ⟨g, 0, none⟩)) (((wx.setCell ⟨g, 0, none⟩ (.bool ng)).setCell ⟨g, 1, none⟩ (.slice A (words BT n).length c)).setCell ⟨g, 2, none⟩ (.slice A2 (words BT d).length c2)) := by
 have k0 := Bx.set0 hz (.bool ng)
 have k1 := Bx.set1 k0 (.slice A (words BT n).length c)
 exact ⟨g, A, c, A2, c2, rfl, heap_setCell_same _ g 2 _ _ _ k1, below_box h hg _ _ _⟩
theorem compare_cT (A A2 A3 A4 : Option Addr) (c c2 c3 c4 n d m e : Nat) (w : World) (h : Lt w A c n) (h2 : Lt w A2 c2 d) (h3 : Lt w A3 c3 m) (h4 : Lt w A4 c4 e)
  (hn : (words BT n).length ≤ 50000) (hd : (words BT d).length ≤ 50000) (hm : (words BT m).length ≤ 50000) (he : (words BT e).length ≤ 50000) (hd0 : 0 < d) (he0 : 0 < e) :
  Calls Tryz.prog 119 #[nuV false A c n A2 c2 d, nuV false A3 c3 m A4 c4 e] w (GivesB (.int .i64 (cmpN (n * e) (m * d))) w) := by
 rw [plusN_cmp]
 have HMI := zq (fun W => minus_c false A3 A4 c3 c4 m e W)
 unfold GivesMi at HMI
 obtain ⟨mg, hmg⟩ : ∃ mg, mg = (!false && decide (m ≠ 0)) := ⟨_, rfl⟩
 rw [← hmg] at HMI ⊢
 clear hmg
 have HX0 : Hid (Bx ((w.alloc (.cells (nuC false A c n A2 c2 d) 180)).alloc (.cells (nuC false A3 c3 m A4 c4 e) 180)) w.heap.size (nuC false A c n A2 c2 d) 180) := (Bx.new _ _ _).alloc _
 have HY0 : Hid (Bx ((w.alloc (.cells (nuC false A c n A2 c2 d) 180)).alloc (.cells (nuC false A3 c3 m A4 c4 e) 180)) (w.heap.size + 1) (nuC false A3 c3 m A4 c4 e) 180) := Bx.new1 _ _ _ _
 have HB0 : Hid (Below w.heap.size w ((w.alloc (.cells (nuC false A c n A2 c2 d) 180)).alloc (.cells (nuC false A3 c3 m A4 c4 e) 180))) := ((Below.refl w.heap.size w).alloc (Nat.le_refl _) _).alloc (by simp) _
 obtain ⟨W, hW⟩ : ∃ W, W = ((w.alloc (.cells (nuC false A c n A2 c2 d) 180)).alloc (.cells (nuC false A3 c3 m A4 c4 e) 180)) := ⟨_, rfl⟩
 rw [← hW] at HX0 HY0 HB0
 have g1 := zq (h.below HB0.out)
 have g2 := zq (h2.below HB0.out)
 have g3 := zq (h3.below HB0.out)
 have g4 := zq (h4.below HB0.out)
 clear h h2 h3 h4
 go_enter Tryz.func119, Tryz.ntmps119
 go_upto_region 1 with fail
 rw [← hW]
 clear hW
 go_cut [5] (fun v wx => CoRel w (plusN false n d mg m e).1 (plusN false n d mg m e).2.1 (plusN false n d mg m e).2.2 v wx)
 case first =>
  have a0 := HX0.out.cell (i := 0) rfl
  have a1 := HX0.out.cell (i := 1) rfl
  have a2 := HX0.out.cell (i := 2) rfl
  have b0 := HY0.out.cell (i := 0) rfl
  have b1 := HY0.out.cell (i := 1) rfl
  have b2 := HY0.out.cell (i := 2) rfl
  have sx := HX0.out.lt
  have sy := HY0.out.lt
  go_region_held3 (fun w' => (w'.cell? ⟨w.heap.size, 0, none⟩ = some (.bool false) ∧ w'.cell? ⟨w.heap.size, 1, none⟩ = some (.slice A (words BT n).length c) ∧ w'.cell? ⟨w.heap.size, 2, none⟩ = some (.slice A2 (words BT d).length c2)) ∧ (w'.cell? ⟨w.heap.size + 1, 0, none⟩ = some (.bool false) ∧ w'.cell? ⟨w.heap.size + 1, 1, none⟩ = some (.slice A3 (words BT m).length c3) ∧ w'.cell? ⟨w.heap.size + 1, 2, none⟩ = some (.slice A4 (words BT e).length c4)))
   ((refine ⟨⟨?_, ?_, ?_⟩, ?_, ?_, ?_⟩ <;> first | with_reducible assumption | go_simp))
   (first
    | ((go_at_call 159; (with_reducible refine (HMI.out (W.alloc (.cells zNum 180)).drew).mono ?_); rintro x w1 ⟨rfl, hb⟩; have HX1 := zq (((HX0.out.alloc (.cells zNum 180)).drew).below hb); have HY1 := zq (((HY0.out.alloc (.cells zNum 180)).drew).below hb); have HB1 := zq ((below_drewN (HB0.out.alloc HB0.out.size (.cells zNum 180)) 1).trans (hb.mono (below_drewN (HB0.out.alloc HB0.out.size (.cells zNum 180)) 1).size)); have k1 := zq (((g1.out.below ((Below.refl _ _).alloc (Nat.le_refl _) (.cells zNum 180))).drew).below hb); have k2 := zq (((g2.out.below ((Below.refl _ _).alloc (Nat.le_refl _) (.cells zNum 180))).drew).below hb); have k3 := zq (((g3.out.below ((Below.refl _ _).alloc (Nat.le_refl _) (.cells zNum 180))).drew).below hb); have k4 := zq (((g4.out.below ((Below.refl _ _).alloc (Nat.le_refl _) (.cells zNum 180))).drew).below hb); have HZ1 := zq ((Bx.new W zNum 180).drew.below hb); have hzg : w.heap.size ≤ W.heap.size := HB0.out.size; have sy0 := HY0.out.lt; have q1 : ¬ (w.heap.size = W.heap.size) := (by omega); have q2 : ¬ (w.heap.size + 1 = W.heap.size) := (by omega); have q3 : ¬ (W.heap.size = w.heap.size) := (by omega); have q4 : ¬ (W.heap.size = w.heap.size + 1) := (by omega); have z0 := HZ1.out.cell (i := 0) rfl; have z1 := HZ1.out.cell (i := 1) rfl; have z2 := HZ1.out.cell (i := 2) rfl; have zf := HZ1.out.frozen; have zs := HZ1.out.lt; clear hb; clear a0 a1 a2 b0 b1 b2 sx sy; have a0 := HX1.out.cell (i := 0) rfl; have a1 := HX1.out.cell (i := 1) rfl; have a2 := HX1.out.cell (i := 2) rfl; have b0 := HY1.out.cell (i := 0) rfl; have b1 := HY1.out.cell (i := 1) rfl; have b2 := HY1.out.cell (i := 2) rfl; have sx := HX1.out.lt; have sy := HY1.out.lt))
    | ((go_at_call 159; (with_reducible refine (HMI.out W.drew).mono ?_); rintro x w1 ⟨rfl, hb⟩; have HX1 := zq ((HX0.out.drew).below hb); have HY1 := zq ((HY0.out.drew).below hb); have HB1 := zq ((below_drewN HB0.out 1).trans (hb.mono (below_drewN HB0.out 1).size)); have k1 := zq ((g1.out.drew).below hb); have k2 := zq ((g2.out.drew).below hb); have k3 := zq ((g3.out.drew).below hb); have k4 := zq ((g4.out.drew).below hb); skip; clear hb; clear a0 a1 a2 b0 b1 b2 sx sy; have a0 := HX1.out.cell (i := 0) rfl; have a1 := HX1.out.cell (i := 1) rfl; have a2 := HX1.out.cell (i := 2) rfl; have b0 := HY1.out.cell (i := 0) rfl; have b1 := HY1.out.cell (i := 1) rfl; have b2 := HY1.out.cell (i := 2) rfl; have sx := HX1.out.lt; have sy := HY1.out.lt))
    | ((go_at_call 124; (with_reducible refine (plus_c false mg A A2 A3 A4 c c2 c3 c4 n d m e (w1.alloc (.cells zNum 180)) (k1.out.below ((Below.refl _ _).alloc (Nat.le_refl _) (.cells zNum 180))) (k2.out.below ((Below.refl _ _).alloc (Nat.le_refl _) (.cells zNum 180))) (k3.out.below ((Below.refl _ _).alloc (Nat.le_refl _) (.cells zNum 180))) (k4.out.below ((Below.refl _ _).alloc (Nat.le_refl _) (.cells zNum 180))) hn hd hm he hd0 he0).mono ?_); rintro x w2 ⟨A5, c5, A6, c6, rfl, h5, h6, hb⟩; have HX2 := zq ((HX1.out.alloc (.cells zNum 180)).below hb); have HY2 := zq ((HY1.out.alloc (.cells zNum 180)).below hb); have HB2 := zq ((HB1.out.alloc HB1.out.size (.cells zNum 180)).trans (hb.mono (HB1.out.alloc HB1.out.size (.cells zNum 180)).size)); have HZ2 := zq ((Bx.new w1 zNum 180).below hb); have hzg : w.heap.size ≤ w1.heap.size := HB1.out.size; have sy1 := HY1.out.lt; have q1 : ¬ (w.heap.size = w1.heap.size) := (by omega); have q2 : ¬ (w.heap.size + 1 = w1.heap.size) := (by omega); have q3 : ¬ (w1.heap.size = w.heap.size) := (by omega); have q4 : ¬ (w1.heap.size = w.heap.size + 1) := (by omega); have z0 := HZ2.out.cell (i := 0) rfl; have z1 := HZ2.out.cell (i := 1) rfl; have z2 := HZ2.out.cell (i := 2) rfl; have zf := HZ2.out.frozen; have zs := HZ2.out.lt; clear hb; clear a0 a1 a2 b0 b1 b2 sx sy; have a0 := HX2.out.cell (i := 0) rfl; have a1 := HX2.out.cell (i := 1) rfl; have a2 := HX2.out.cell (i := 2) rfl; have b0 := HY2.out.cell (i := 0) rfl; have b1 := HY2.out.cell (i := 1) rfl; have b2 := HY2.out.cell (i := 2) rfl; have sx := HX2.out.lt; have sy := HY2.out.lt))
    | ((go_at_call 124; (with_reducible refine (plus_c false mg A A2 A3 A4 c c2 c3 c4 n d m e w1 k1.out k2.out k3.out k4.out hn hd hm he hd0 he0).mono ?_); rintro x w2 ⟨A5, c5, A6, c6, rfl, h5, h6, hb⟩; have HX2 := zq (HX1.out.below hb); have HY2 := zq (HY1.out.below hb); have HB2 := zq (HB1.out.trans (hb.mono HB1.out.size)); (first | (have HZ2 := zq (HZ1.out.below hb); clear z0 z1 z2 zf zs; have z0 := HZ2.out.cell (i := 0) rfl; have z1 := HZ2.out.cell (i := 1) rfl; have z2 := HZ2.out.cell (i := 2) rfl; have zf := HZ2.out.frozen; have zs := HZ2.out.lt) | skip); clear hb; clear a0 a1 a2 b0 b1 b2 sx sy; have a0 := HX2.out.cell (i := 0) rfl; have a1 := HX2.out.cell (i := 1) rfl; have a2 := HX2.out.cell (i := 2) rfl; have b0 := HY2.out.cell (i := 0) rfl; have b1 := HY2.out.cell (i := 1) rfl; have b2 := HY2.out.cell (i := 2) rfl; have sx := HX2.out.lt; have sy := HY2.out.lt)))
  all_goals
   go_wp2_with fail
   go_meet
   first
    | exact co_set HB2.out HZ2.out hzg
    | exact co_new HB2.out
 case rest =>
  obtain ⟨g, A5, c5, A6, c6, rfl, hbx, hbw⟩ := hcut
  have HBX := zq hbx
  have HBW := zq hbw
  clear hbx hbw
  generalize (plusN false n d mg m e).1 = ng at *
  generalize (plusN false n d mg m e).2.1 = p at *
  generalize (plusN false n d mg m e).2.2 = q at *
  have x0 := HBX.out.cell (i := 0) rfl
  have x1 := HBX.out.cell (i := 1) rfl
  have xs := HBX.out.lt
  by_cases h0 : p = 0
  ·subst h0
   have hz : (words BT 0).length = 0 := rfl
   have x1 : _ = some (Value.slice A5 0 c5) := x1
   go_wp2
   go_ret
   exact GivesB.mk (by simp) HBW.out
  ·have hl := pos_lenT (Nat.pos_of_ne_zero h0)
   have hlb : (((words BT p).length : Int) == 0) = false := by simp; intro e; rw [e] at hl; simp at hl
   cases ng with
   | true =>
    go_wp2
    go_ret
    exact GivesB.mk (by simp) HBW.out
   | false =>
    go_wp2
    go_ret
    exact GivesB.mk (by simp) HBW.out
abbrev rtC (nu de : ByteArray) : Array Value := #[.string nu, .string de]
theorem head_get (s : ByteArray) (h : 0 < s.size) : s[0]'h = s.data.toList.headD 0 := by
 have h1 := Lib.getD_at s 0 h
 rw [h1]
 cases s.data.toList <;> rfl
theorem negB_yes {s : ByteArray} (h : negB s = true) : 0 < s.size ∧ (∀ h0 : 0 < s.size, (((s[0]'h0).toNat : Int) == 45) = true) ∧ s.extract 1 s.size = absN s := by
 have h' := h
 unfold negB at h'
 simp only [Bool.and_eq_true, decide_eq_true_eq] at h'
 refine ⟨h'.1, fun h0 => ?_, ?_⟩
 ·rw [head_get s h0, h'.2]; rfl
 ·have e : (s.extract 1 s.size).data.toList = (absN s).data.toList := by
   rw [Lib.extract_data]
   unfold absN absL
   rw [if_pos h]
   show (s.data.toList.drop 1).take (s.size - 1) = s.data.toList.tail
   rw [List.take_of_length_le (by rw [List.length_drop, ← Lib.size_eq]; omega), List.drop_one]
  have e2 := congrArg List.toArray e
  simp only [Array.toArray_toList] at e2
  exact congrArg ByteArray.mk e2
theorem negB_no {s : ByteArray} (h : negB s = false) : (¬ 0 < s.size ∨ (0 < s.size ∧ ∀ h0 : 0 < s.size, (((s[0]'h0).toNat : Int) == 45) = false)) ∧ absN s = s := by
 have h' := h
 unfold negB at h'
 refine ⟨?_, ?_⟩
 ·rcases Nat.eq_zero_or_pos s.size with h0 | h0
  ·exact .inl (by omega)
  ·refine .inr ⟨h0, fun h1 => ?_⟩
   simp only [Bool.and_eq_false_iff, decide_eq_false_iff_not] at h'
   have h2 := h'.resolve_left (fun h => h h0)
   rw [head_get s h1, beq_eq_false_iff_ne]
   intro e
   exact h2 (by omega)
 ·unfold absN absL
  rw [if_neg (by rw [h]; simp)]
theorem Of_neg (nu de : ByteArray) (w : World) (hn : negB nu = true) (hd : (absN nu).data.toList.all dgB = true) (hs : (absN nu).size ≤ 2000) (hd2 : de.data.toList.all dgB = true) (hs2 : de.size ≤ 2000) :
  Calls Tryz.prog 117 #[.agg (rtC nu de)] w (GivesNum true (valS (absN nu)) (valS de) w) := by
 have HB0 : Hid (Below w.heap.size w ((w.alloc (.cells (rtC nu de) 50)).alloc (.cells zNum 180))) := ((Below.refl w.heap.size w).alloc (Nat.le_refl _) _).alloc (by simp) _
 have HX0 : Hid (Bx ((w.alloc (.cells (rtC nu de) 50)).alloc (.cells zNum 180)) w.heap.size (rtC nu de) 50) := (Bx.new _ _ _).alloc _
 have HZ0 : Hid (Bx ((w.alloc (.cells (rtC nu de) 50)).alloc (.cells zNum 180)) (w.heap.size + 1) zNum 180) := Bx.new1 _ _ _ _
 have HL1 := zq (fun W => limbsL_c (absN nu) W hd (by omega))
 have HL2 := zq (fun W => limbsL_c de W hd2 (by omega))
 obtain ⟨W, hW⟩ : ∃ W, W = ((w.alloc (.cells (rtC nu de) 50)).alloc (.cells zNum 180)) := ⟨_, rfl⟩
 rw [← hW] at HB0 HX0 HZ0
 obtain ⟨hz, hb, he⟩ := negB_yes hn
 have hb0 := hb hz
 clear hn hb
 go_enter Tryz.func117, Tryz.ntmps117
 go_upto_region 4 with fail
 rw [← hW]
 clear hW
 have x0 := HX0.out.cell (i := 0) rfl
 have x1 := HX0.out.cell (i := 1) rfl
 have xs := HX0.out.lt
 go_region_held3 (fun w' => w'.cell? ⟨w.heap.size, 0, none⟩ = some (.string nu) ∧ w'.cell? ⟨w.heap.size, 1, none⟩ = some (.string de)) (first | (refine ⟨?_, ?_⟩ <;> with_reducible assumption) | go_keep)
  (first
   | ((go_at_call 158; (with_reducible refine (HL1.out W.drew).mono ?_); rintro x w1 ⟨A1, c1, rfl, h1, hb1⟩; have HX1 := zq (HX0.out.drew.below hb1); have HZ1 := zq (HZ0.out.drew.below hb1); have HB1 := zq ((below_drewN HB0.out 1).trans (hb1.mono HB0.out.size)); have y0 := HX1.out.cell (i := 0) rfl; have y1 := HX1.out.cell (i := 1) rfl; have ys := HX1.out.lt; have H1 := zq h1; clear h1 hb1))
   | ((go_at_call 158; (with_reducible refine (HL2.out w1).mono ?_); rintro x w2 ⟨A2, c2, rfl, h2, hb2⟩; have HX2 := zq (HX1.out.below hb2); have HZ2 := zq (HZ1.out.below hb2); have HB2 := zq (below_trans HB1.out hb2); have H12 := zq (H1.out.below hb2); have z0 := HX2.out.cell (i := 0) rfl; have z1 := HX2.out.cell (i := 1) rfl; have zs := HX2.out.lt; have H2 := zq h2; have r0 := HZ2.out.cell (i := 0) rfl; have r1 := HZ2.out.cell (i := 1) rfl; have r2 := HZ2.out.cell (i := 2) rfl; have rf := HZ2.out.frozen; have rs := HZ2.out.lt; have rn : ¬ (w.heap.size = w.heap.size + 1) := (by omega); clear h2 hb2)))
 go_wp2
 refine bodyPost_ret (v := nuV true A1 c1 (decV (absN nu).data.toList) A2 c2 (decV de.data.toList)) (by simp [results, Tryz.results117, go_sem, r0, r1, r2]) rfl ⟨A1, c1, A2, c2, rfl, H12.out.setR HZ2.out _ _ _ _ _, H2.out.setR HZ2.out _ _ _ _ _, below_box HB2.out (by omega) _ _ _⟩
theorem Of_pos (nu de : ByteArray) (w : World) (hn : negB nu = false) (hd : (absN nu).data.toList.all dgB = true) (hs : (absN nu).size ≤ 2000) (hd2 : de.data.toList.all dgB = true) (hs2 : de.size ≤ 2000) :
  Calls Tryz.prog 117 #[.agg (rtC nu de)] w (GivesNum false (valS (absN nu)) (valS de) w) := by
 have HB0 : Hid (Below w.heap.size w ((w.alloc (.cells (rtC nu de) 50)).alloc (.cells zNum 180))) := ((Below.refl w.heap.size w).alloc (Nat.le_refl _) _).alloc (by simp) _
 have HX0 : Hid (Bx ((w.alloc (.cells (rtC nu de) 50)).alloc (.cells zNum 180)) w.heap.size (rtC nu de) 50) := (Bx.new _ _ _).alloc _
 have HZ0 : Hid (Bx ((w.alloc (.cells (rtC nu de) 50)).alloc (.cells zNum 180)) (w.heap.size + 1) zNum 180) := Bx.new1 _ _ _ _
 have HL1 := zq (fun W => limbsL_c (absN nu) W hd (by omega))
 have HL2 := zq (fun W => limbsL_c de W hd2 (by omega))
 obtain ⟨W, hW⟩ : ∃ W, W = ((w.alloc (.cells (rtC nu de) 50)).alloc (.cells zNum 180)) := ⟨_, rfl⟩
 rw [← hW] at HB0 HX0 HZ0
 obtain ⟨hcase, he⟩ := negB_no hn
 rw [he] at HL1 ⊢
 clear hn hd hs
 rcases hcase with hz | ⟨hz, hb⟩
 ·clear he
  go_enter Tryz.func117, Tryz.ntmps117
  go_upto_region 4 with fail
  rw [← hW]
  clear hW
  have x0 := HX0.out.cell (i := 0) rfl
  have x1 := HX0.out.cell (i := 1) rfl
  have xs := HX0.out.lt
  go_region_held3 (fun w' => w'.cell? ⟨w.heap.size, 0, none⟩ = some (.string nu) ∧ w'.cell? ⟨w.heap.size, 1, none⟩ = some (.string de)) (first | (refine ⟨?_, ?_⟩ <;> with_reducible assumption) | go_keep)
   (first
    | ((go_at_call 158; (with_reducible refine (HL1.out W.drew).mono ?_); rintro x w1 ⟨A1, c1, rfl, h1, hb1⟩; have HX1 := zq (HX0.out.drew.below hb1); have HZ1 := zq (HZ0.out.drew.below hb1); have HB1 := zq ((below_drewN HB0.out 1).trans (hb1.mono HB0.out.size)); have y0 := HX1.out.cell (i := 0) rfl; have y1 := HX1.out.cell (i := 1) rfl; have ys := HX1.out.lt; have H1 := zq h1; clear h1 hb1))
    | ((go_at_call 158; (with_reducible refine (HL2.out w1).mono ?_); rintro x w2 ⟨A2, c2, rfl, h2, hb2⟩; have HX2 := zq (HX1.out.below hb2); have HZ2 := zq (HZ1.out.below hb2); have HB2 := zq (below_trans HB1.out hb2); have H12 := zq (H1.out.below hb2); have z0 := HX2.out.cell (i := 0) rfl; have z1 := HX2.out.cell (i := 1) rfl; have zs := HX2.out.lt; have H2 := zq h2; have r0 := HZ2.out.cell (i := 0) rfl; have r1 := HZ2.out.cell (i := 1) rfl; have r2 := HZ2.out.cell (i := 2) rfl; have rf := HZ2.out.frozen; have rs := HZ2.out.lt; have rn : ¬ (w.heap.size = w.heap.size + 1) := (by omega); clear h2 hb2)))
  go_wp2
  refine bodyPost_ret (v := nuV false A1 c1 (decV nu.data.toList) A2 c2 (decV de.data.toList)) (by simp [results, Tryz.results117, go_sem, r0, r1, r2]) rfl ⟨A1, c1, A2, c2, rfl, H12.out.setR HZ2.out _ _ _ _ _, H2.out.setR HZ2.out _ _ _ _ _, below_box HB2.out (by omega) _ _ _⟩
 ·have hb0 := hb hz
  clear hb he
  go_enter Tryz.func117, Tryz.ntmps117
  go_upto_region 4 with fail
  rw [← hW]
  clear hW
  have x0 := HX0.out.cell (i := 0) rfl
  have x1 := HX0.out.cell (i := 1) rfl
  have xs := HX0.out.lt
  go_region_held3 (fun w' => w'.cell? ⟨w.heap.size, 0, none⟩ = some (.string nu) ∧ w'.cell? ⟨w.heap.size, 1, none⟩ = some (.string de)) (first | (refine ⟨?_, ?_⟩ <;> with_reducible assumption) | go_keep)
   (first
    | ((go_at_call 158; (with_reducible refine (HL1.out W.drew).mono ?_); rintro x w1 ⟨A1, c1, rfl, h1, hb1⟩; have HX1 := zq (HX0.out.drew.below hb1); have HZ1 := zq (HZ0.out.drew.below hb1); have HB1 := zq ((below_drewN HB0.out 1).trans (hb1.mono HB0.out.size)); have y0 := HX1.out.cell (i := 0) rfl; have y1 := HX1.out.cell (i := 1) rfl; have ys := HX1.out.lt; have H1 := zq h1; clear h1 hb1))
    | ((go_at_call 158; (with_reducible refine (HL2.out w1).mono ?_); rintro x w2 ⟨A2, c2, rfl, h2, hb2⟩; have HX2 := zq (HX1.out.below hb2); have HZ2 := zq (HZ1.out.below hb2); have HB2 := zq (below_trans HB1.out hb2); have H12 := zq (H1.out.below hb2); have z0 := HX2.out.cell (i := 0) rfl; have z1 := HX2.out.cell (i := 1) rfl; have zs := HX2.out.lt; have H2 := zq h2; have r0 := HZ2.out.cell (i := 0) rfl; have r1 := HZ2.out.cell (i := 1) rfl; have r2 := HZ2.out.cell (i := 2) rfl; have rf := HZ2.out.frozen; have rs := HZ2.out.lt; have rn : ¬ (w.heap.size = w.heap.size + 1) := (by omega); clear h2 hb2)))
  go_wp2
  refine bodyPost_ret (v := nuV false A1 c1 (decV nu.data.toList) A2 c2 (decV de.data.toList)) (by simp [results, Tryz.results117, go_sem, r0, r1, r2]) rfl ⟨A1, c1, A2, c2, rfl, H12.out.setR HZ2.out _ _ _ _ _, H2.out.setR HZ2.out _ _ _ _ _, below_box HB2.out (by omega) _ _ _⟩
theorem Of_cT (nu de : ByteArray) (w : World) (hd : (absN nu).data.toList.all dgB = true) (hs : (absN nu).size ≤ 2000) (hd2 : de.data.toList.all dgB = true) (hs2 : de.size ≤ 2000) :
  Calls Tryz.prog 117 #[.agg (rtC nu de)] w (GivesNum (negB nu) (valS (absN nu)) (valS de) w) := by
 cases hn : negB nu with
 | true => exact Of_neg nu de w hn hd hs hd2 hs2
 | false => exact Of_pos nu de w hn hd hs hd2 hs2
def NumRel (w : World) (s : ByteArray) (m : Nat) (i : Value) (wr : World) : Prop :=
 wr = w ∧ ∃ k : Nat, k + m = s.size ∧ i = .int .i64 k ∧ (s.data.toList.take k).all dgB = true
theorem get_list (s : ByteArray) (k : Nat) (h : k < s.size) : ∃ h2 : k < s.data.toList.length, s.data.toList[k] = s[k]'h := by
 have h2 : k < s.data.toList.length := by rw [← Lib.size_eq]; exact h
 refine ⟨h2, ?_⟩
 rw [Lib.getD_at s k h, List.getD_eq_getElem?_getD, List.getElem?_eq_getElem h2]
 rfl
theorem numB_small {s : ByteArray} (h : ¬ 0 < s.size) : numB s = false := by
 unfold numB
 have h1 : decide (s.size = 1) = false := by simp; omega
 have h2 : decide (1 < s.size) = false := by simp; omega
 rw [h1, h2]; simp
theorem numB_zero {s : ByteArray} (h : 1 < s.size) (h0 : (s.data.toList.headD 0).toNat = 48) : numB s = false := by
 unfold numB
 have h1 : decide (s.size = 1) = false := by simp; omega
 rw [h1, h0]
 simp
theorem numB_allT {s : ByteArray} (h : s.size = 1 ∨ (1 < s.size ∧ (s.data.toList.headD 0).toNat ≠ 48)) : numB s = s.data.toList.all dgB := by
 unfold numB
 rcases h with h | ⟨h1, h2⟩
 ·simp [h]
 ·rw [decide_eq_true h1, decide_eq_true h2]; simp
theorem number_c (s : ByteArray) (w : World) (hz : s.size ≤ 9223372036854775807) : Calls Tryz.prog 155 #[.string s] w (Gives (.bool (numB s)) w) := by
 rcases Nat.eq_zero_or_pos s.size with h0 | h0
 ·have hs : s = emp := by
   have h1 : s.data.toList = emp.data.toList := by
    have h2 : s.data.toList.length = 0 := by rw [← Lib.size_eq]; exact h0
    rw [List.length_eq_zero_iff.1 h2]; rfl
   have h2 := congrArg List.toArray h1
   simp only [Array.toArray_toList] at h2
   exact congrArg ByteArray.mk h2
  have he := isEmpty_of_eq hs
  rw [numB_small (by omega)]
  clear hs
  go_enter Tryz.func155, Tryz.ntmps155
  go_wp2
  go_ret
  exact Gives.mk rfl rfl
 ·have he : s.toList.isEmpty = false := isEmpty_of_ne (fun e => by rw [e] at h0; exact absurd h0 (by decide))
  have hh := head_get s h0
  by_cases hA : 1 < s.size ∧ (s.data.toList.headD 0).toNat = 48
  ·obtain ⟨h1, h48⟩ := hA
   rw [numB_zero h1 h48]
   have hb : (((s[0]'h0).toNat : Int) == 48) = true := by rw [hh, h48]; rfl
   clear hh h48
   go_enter Tryz.func155, Tryz.ntmps155
   go_wp2
   go_ret
   exact Gives.mk rfl rfl
  ·have HN : Hid (numB s = s.data.toList.all dgB) := numB_allT (by
    by_cases h1 : 1 < s.size
    ·exact .inr ⟨h1, fun e => hA ⟨h1, e⟩⟩
    ·exact .inl (by omega))
   have hcase : ¬ 1 < s.size ∨ (1 < s.size ∧ (((s[0]'h0).toNat : Int) == 48) = false) := by
    by_cases h1 : 1 < s.size
    ·refine .inr ⟨h1, ?_⟩
     rw [hh, beq_eq_false_iff_ne]
     intro e
     exact hA ⟨h1, by omega⟩
    ·exact .inl h1
   clear hA hh
   rcases hcase with h1 | ⟨h1, hb⟩
   all_goals
    go_enter Tryz.func155, Tryz.ntmps155
    go_wp2
    go_loopg [3] s.size (NumRel w s)
    case atStart => exact ⟨rfl, 0, by omega, rfl, by simp⟩
    case round =>
     obtain ⟨hw, k, hk, rfl, hall⟩ := hrel
     subst hw
     have HA := zq hall
     have HK := zq hk
     clear hall hk
     by_cases hlt : k < s.size
     ·obtain ⟨h2, hg⟩ := get_list s k hlt
      have HG := zq hg
      clear hg
      by_cases h48 : 48 ≤ (s[k]'hlt).toNat
      ·by_cases h57 : (s[k]'hlt).toNat ≤ 57
       ·go_wp2
        go_roundg (gk - 1)
        case measure => have := HK.out; omega
        case rel =>
         refine ⟨rfl, k + 1, by have := HK.out; omega, by go_num, ?_⟩
         rw [List.take_succ_eq_append_getElem h2, List.all_append, HA.out, HG.out]
         simp [dgB, h48, h57]
       ·have HF : Hid (numB s = false) := by
         show _ = _
         rw [HN.out, List.all_eq_false]
         exact ⟨_, List.getElem_mem h2, by rw [HG.out]; simp [dgB, h57]⟩
        go_wp2
        go_ret
        exact Gives.mk (by rw [HF.out]; rfl) rfl
      ·have HF : Hid (numB s = false) := by
        show _ = _
        rw [HN.out, List.all_eq_false]
        exact ⟨_, List.getElem_mem h2, by rw [HG.out]; simp [dgB, h48]⟩
       go_wp2
       go_ret
       exact Gives.mk (by rw [HF.out]; rfl) rfl
     ·obtain rfl : k = s.size := by have := HK.out; omega
      have HF : Hid (numB s = true) := by
       show _ = _
       rw [HN.out]
       have := HA.out
       rwa [List.take_of_length_le (by rw [← Lib.size_eq]; exact Nat.le_refl _)] at this
      go_wp2
      go_ret
      exact Gives.mk (by rw [HF.out]; rfl) rfl
end Go.Proofs.YtlcfgejaeecclaaGreatDoor
