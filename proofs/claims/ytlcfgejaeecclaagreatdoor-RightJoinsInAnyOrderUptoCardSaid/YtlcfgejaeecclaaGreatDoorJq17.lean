/- Package num: Cmp and Add of quotients from 0 on. Package clock: digits and CheckRatio. slices.Index and slices.Contains over names. -/
import Derived.Test.YtlcfgejaeecclaaGreatDoorJq16
import Derived.Test.YtlcfgejaeecclaaGreatDoorJq02
namespace Go.Proofs.YtlcfgejaeecclaaGreatDoor
open Go.RowKit Dw

theorem lowP_scale {k x y : Nat} (h : 0 < k) : lowP (k * x) (k * y) = lowP x y := by
  unfold lowP
  rw [Nat.gcd_mul_left, Nat.mul_div_mul_left _ _ h, Nat.mul_div_mul_left _ _ h]
theorem addP_same (n m d : Nat) (h : 0 < d) : addP (n, d) (m, d) = lowP (n + m) d := by
  unfold addP
  show lowP (n * d + m * d) (d * d) = _
  rw [← Nat.add_mul, Nat.mul_comm, lowP_scale h]
theorem len_mul (a b : Nat) : (words B32 (a * b)).length ≤ (words B32 a).length + (words B32 b).length := by
  refine len_le_of_lt B32_gt ?_
  rw [Nat.pow_add]
  have h1 := words_len B32_gt a
  have h2 := words_len B32_gt b
  exact Nat.lt_of_le_of_lt (Nat.mul_le_mul_left a (Nat.le_of_lt h2)) (Nat.mul_lt_mul_of_pos_right h1 (Nat.pow_pos B32_pos))
theorem len_add (a b : Nat) : (words B32 (a + b)).length ≤ max (words B32 a).length (words B32 b).length + 1 := by
  refine len_le_of_lt B32_gt ?_
  have h1 := words_len B32_gt a
  have h2 := words_len B32_gt b
  have h3 : B32 ^ (words B32 a).length ≤ B32 ^ max (words B32 a).length (words B32 b).length := Nat.pow_le_pow_right B32_pos (Nat.le_max_left _ _)
  have h4 : B32 ^ (words B32 b).length ≤ B32 ^ max (words B32 a).length (words B32 b).length := Nat.pow_le_pow_right B32_pos (Nat.le_max_right _ _)
  rw [Nat.pow_succ]
  have h5 := Nat.mul_le_mul_left (B32 ^ max (words B32 a).length (words B32 b).length) (show 2 ≤ B32 by decide)
  omega
abbrev raC (A : Option Addr) (c n : Nat) (A2 : Option Addr) (c2 d : Nat) : Array Value := #[.bool false, .slice A (words B32 n).length c, .slice A2 (words B32 d).length c2]
set_option maxRecDepth 100000 in
set_option maxHeartbeats 2000000 in
theorem RCmp_c (A A2 A3 A4 : Option Addr) (c c2 c3 c4 n d m e : Nat) (w : World) (h : Nt w A c n) (h2 : Nt w A2 c2 d) (h3 : Nt w A3 c3 m) (h4 : Nt w A4 c4 e)
    (hn : (words B32 n).length ≤ 100000) (hd : (words B32 d).length ≤ 100000) (hm : (words B32 m).length ≤ 100000) (he : (words B32 e).length ≤ 100000) :
    Calls Tryz.prog 111 #[raV false A c n A2 c2 d, raV false A3 c3 m A4 c4 e] w (GivesB (.int .i64 (cmpN (n * e) (m * d))) w) := by
  have HM1 := Lib.hid (fun W (q : Nt W A c n) (q2 : Nt W A4 c4 e) => IMul_c A A4 c c4 n e W q q2 (by omega) (by omega))
  have HM2 := Lib.hid (fun W (q : Nt W A3 c3 m) (q2 : Nt W A2 c2 d) => IMul_c A3 A2 c3 c2 m d W q q2 (by omega) (by omega))
  have HL : Hid ((words B32 (n * e)).length ≤ 400000) := Nat.le_trans (len_mul n e) (by omega)
  obtain ⟨p, hp⟩ : ∃ p, n * e = p := ⟨_, rfl⟩
  obtain ⟨q, hq⟩ : ∃ q, m * d = q := ⟨_, rfl⟩
  rw [hp] at HM1 HL ⊢
  rw [hq] at HM2 ⊢
  clear hp hq
  have HK := Lib.hid (fun (A5 : Option Addr) c5 (A6 : Option Addr) c6 W (x : Nt W A5 c5 p) (y : Nt W A6 c6 q) => ICmp_c A5 A6 c5 c6 p q W x y HL.out)
  have HX : Hid (Bx ((w.alloc (.cells (raC A c n A2 c2 d) 175)).alloc (.cells (raC A3 c3 m A4 c4 e) 175)) w.heap.size (raC A c n A2 c2 d) 175) := (Bx.new _ _ _).alloc _
  have HY : Hid (Bx ((w.alloc (.cells (raC A c n A2 c2 d) 175)).alloc (.cells (raC A3 c3 m A4 c4 e) 175)) (w.heap.size + 1) (raC A3 c3 m A4 c4 e) 175) := Bx.new1 _ _ _ _
  have HB : Hid (Below w.heap.size w ((w.alloc (.cells (raC A c n A2 c2 d) 175)).alloc (.cells (raC A3 c3 m A4 c4 e) 175))) := ((Below.refl w.heap.size w).alloc (Nat.le_refl _) _).alloc (by simp) _
  clear hn hd hm he
  go_enter Tryz.func111, Tryz.ntmps111
  go_wp2
  go_region_held3 (fun w' => (w'.cell? ⟨w.heap.size, 0, none⟩ = some (.bool false) ∧ w'.cell? ⟨w.heap.size, 1, none⟩ = some (.slice A (words B32 n).length c) ∧ w'.cell? ⟨w.heap.size, 2, none⟩ = some (.slice A2 (words B32 d).length c2)) ∧ (w'.cell? ⟨w.heap.size + 1, 0, none⟩ = some (.bool false) ∧ w'.cell? ⟨w.heap.size + 1, 1, none⟩ = some (.slice A3 (words B32 m).length c3) ∧ w'.cell? ⟨w.heap.size + 1, 2, none⟩ = some (.slice A4 (words B32 e).length c4)))
    ((refine ⟨⟨?_, ?_, ?_⟩, ?_, ?_, ?_⟩ <;> first | with_reducible assumption | go_simp))
    (first
      | ((go_at_call 146; (with_reducible refine (HM1.out _ (Nt.drew ((h.alloc _).alloc _)) (Nt.drew ((h4.alloc _).alloc _))).mono ?_); rintro e1 w1 ⟨A5, c5, rfl, h5, hb⟩; have HX1 := Lib.hid (HX.out.drew.below hb); have HY1 := Lib.hid (HY.out.drew.below hb); have HB1 := Lib.hid ((below_drewN HB.out 1).trans (hb.mono HB.out.size)); have a0 := HX1.out.cell (i := 0) rfl; have a1 := HX1.out.cell (i := 1) rfl; have a2 := HX1.out.cell (i := 2) rfl; have b0 := HY1.out.cell (i := 0) rfl; have b1 := HY1.out.cell (i := 1) rfl; have b2 := HY1.out.cell (i := 2) rfl; have h31 := (Nt.drew ((h3.alloc _).alloc _)).below hb; have h21 := (Nt.drew ((h2.alloc _).alloc _)).below hb; clear hb))
      | ((go_at_call 146; (with_reducible refine (HM2.out _ h31 h21).mono ?_); rintro e2 w2 ⟨A6, c6, rfl, h6, hb6⟩; have h52 := h5.below hb6; have HX2 := Lib.hid (HX1.out.below hb6); have HY2 := Lib.hid (HY1.out.below hb6); have HB2 := Lib.hid (below_trans HB1.out hb6); clear a0 a1 a2 b0 b1 b2; have a0 := HX2.out.cell (i := 0) rfl; have a1 := HX2.out.cell (i := 1) rfl; have a2 := HX2.out.cell (i := 2) rfl; have b0 := HY2.out.cell (i := 0) rfl; have b1 := HY2.out.cell (i := 1) rfl; have b2 := HY2.out.cell (i := 2) rfl; clear hb6))
      | ((go_at_call 147; (with_reducible refine (HK.out _ _ _ _ _ h52 h6).mono ?_); rintro e3 w3 ⟨rfl, hb7⟩; have HB3 := Lib.hid (below_trans HB2.out hb7); have HX3 := Lib.hid (HX2.out.below hb7); have HY3 := Lib.hid (HY2.out.below hb7); clear a0 a1 a2 b0 b1 b2; have a0 := HX3.out.cell (i := 0) rfl; have a1 := HX3.out.cell (i := 1) rfl; have a2 := HX3.out.cell (i := 2) rfl; have b0 := HY3.out.cell (i := 0) rfl; have b1 := HY3.out.cell (i := 1) rfl; have b2 := HY3.out.cell (i := 2) rfl; clear hb7)))
  go_wp2
  go_ret
  exact GivesB.mk rfl HB3.out
set_option maxRecDepth 100000 in
set_option maxHeartbeats 2000000 in
theorem RAdd_same (A A2 A3 A4 : Option Addr) (c c2 c3 c4 n d m e : Nat) (w : World) (h : Nt w A c n) (h2 : Nt w A2 c2 d) (h3 : Nt w A3 c3 m) (h4 : Nt w A4 c4 e)
    (hn : (words B32 n).length ≤ 100000) (hd : (words B32 d).length ≤ 100000) (hm : (words B32 m).length ≤ 100000) (he : (words B32 e).length ≤ 100000) (hd0 : 0 < d) (he0 : 0 < e) (hde : d = e) :
    Calls Tryz.prog 152 #[raV false A c n A2 c2 d, raV false A3 c3 m A4 c4 e] w (GivesR false (addP (n, d) (m, e)).1 (addP (n, d) (m, e)).2 w) := by
  subst hde
  rw [addP_same n m d hd0]
  have HC := Lib.hid (fun W (x : Nt W A2 c2 d) (y : Nt W A4 c4 d) => Cmp_c A2 A4 c2 c4 d d W x y (by omega))
  have HA := Lib.hid (fun W (x : Nt W A c n) (y : Nt W A3 c3 m) => IAdd_c A A3 c c3 n m W x y (by omega) (by omega))
  have HO := Lib.hid (fun A5 c5 W (x : Nt W A5 c5 (n + m)) (y : Nt W A2 c2 d) => Over_c A5 A2 c5 c2 (n + m) d false W x y hd0 (by have := len_add n m; omega) (by omega))
  rw [cmpN_eq rfl] at HC
  simp only [Bool.false_and] at HO
  generalize (lowP (n + m) d).1 = pp at *
  generalize (lowP (n + m) d).2 = pq at *
  generalize n + m = nm at *
  have HX0 : Hid (Bx (((w.alloc (.cells (raC A c n A2 c2 d) 175)).alloc (.cells (raC A3 c3 m A4 c4 d) 175)).alloc (.cells zRat 175)) w.heap.size (raC A c n A2 c2 d) 175) := ((Bx.new _ _ _).alloc _).alloc _
  have HY0 : Hid (Bx (((w.alloc (.cells (raC A c n A2 c2 d) 175)).alloc (.cells (raC A3 c3 m A4 c4 d) 175)).alloc (.cells zRat 175)) (w.heap.size + 1) (raC A3 c3 m A4 c4 d) 175) := (Bx.new1 _ _ _ _).alloc _
  have HZ0 : Hid (Bx (((w.alloc (.cells (raC A c n A2 c2 d) 175)).alloc (.cells (raC A3 c3 m A4 c4 d) 175)).alloc (.cells zRat 175)) (w.heap.size + 1 + 1) zRat 175) := Bx.new2 _ _ _ _ _
  have HB0 : Hid (Below w.heap.size w (((w.alloc (.cells (raC A c n A2 c2 d) 175)).alloc (.cells (raC A3 c3 m A4 c4 d) 175)).alloc (.cells zRat 175))) := (((Below.refl w.heap.size w).alloc (Nat.le_refl _) _).alloc (by simp) _).alloc (by simp; omega) _
  obtain ⟨W, hW⟩ : ∃ W, W = (((w.alloc (.cells (raC A c n A2 c2 d) 175)).alloc (.cells (raC A3 c3 m A4 c4 d) 175)).alloc (.cells zRat 175)) := ⟨_, rfl⟩
  have g1 : Nt W A c n := by rw [hW]; exact ((h.alloc _).alloc _).alloc _
  have g2 : Nt W A2 c2 d := by rw [hW]; exact ((h2.alloc _).alloc _).alloc _
  have g3 : Nt W A3 c3 m := by rw [hW]; exact ((h3.alloc _).alloc _).alloc _
  have g4 : Nt W A4 c4 d := by rw [hW]; exact ((h4.alloc _).alloc _).alloc _
  rw [← hW] at HX0 HY0 HZ0 HB0
  clear hn hd hm he hd0 he0
  go_enter Tryz.func152, Tryz.ntmps152
  go_wp2_with fail
  rw [← hW]
  clear hW
  have x0 := HX0.out.cell (i := 0) rfl
  have x1 := HX0.out.cell (i := 1) rfl
  have x2 := HX0.out.cell (i := 2) rfl
  have y0 := HY0.out.cell (i := 0) rfl
  have y1 := HY0.out.cell (i := 1) rfl
  have y2 := HY0.out.cell (i := 2) rfl
  have z0 := HZ0.out.frozen
  have z1 := HZ0.out.lt
  go_wp2_with fail
  with_reducible refine (HC.out _ g2 g4).mono ?_
  rintro e0 w0 ⟨rfl, nd, rfl⟩
  clear x0 x1 x2 y0 y1 y2 z0 z1
  have HX := Lib.hid (HX0.out.drewN (nd + 1))
  have HY := Lib.hid (HY0.out.drewN (nd + 1))
  have HZ := Lib.hid (HZ0.out.drewN (nd + 1))
  have HB := Lib.hid (below_drewN HB0.out (nd + 1))
  have x0 := HX.out.cell (i := 0) rfl
  have x1 := HX.out.cell (i := 1) rfl
  have x2 := HX.out.cell (i := 2) rfl
  have y0 := HY.out.cell (i := 0) rfl
  have y1 := HY.out.cell (i := 1) rfl
  have y2 := HY.out.cell (i := 2) rfl
  clear HX0 HY0 HZ0 HB0
  go_wp2
  go_region_held3 (fun w' => (w'.cell? ⟨w.heap.size, 0, none⟩ = some (.bool false) ∧ w'.cell? ⟨w.heap.size, 1, none⟩ = some (.slice A (words B32 n).length c) ∧ w'.cell? ⟨w.heap.size, 2, none⟩ = some (.slice A2 (words B32 d).length c2)) ∧ (w'.cell? ⟨w.heap.size + 1, 0, none⟩ = some (.bool false) ∧ w'.cell? ⟨w.heap.size + 1, 1, none⟩ = some (.slice A3 (words B32 m).length c3) ∧ w'.cell? ⟨w.heap.size + 1, 2, none⟩ = some (.slice A4 (words B32 d).length c4)))
    ((refine ⟨⟨?_, ?_, ?_⟩, ?_, ?_, ?_⟩ <;> first | with_reducible assumption | go_simp))
    (first
      | ((go_at_call 181; (with_reducible refine (HA.out _ (g1.drewN (nd + 1)) (g3.drewN (nd + 1))).mono ?_); rintro e1 w1 ⟨A5, c5, rfl, h5, hb1⟩; have HX1 := Lib.hid (HX.out.below hb1); have HY1 := Lib.hid (HY.out.below hb1); have HZ1 := Lib.hid (HZ.out.below hb1); have HB1 := Lib.hid (HB.out.trans (hb1.mono HB.out.size)); have g21 := (g2.drewN (nd + 1)).below hb1; have a0 := HX1.out.cell (i := 0) rfl; have a1 := HX1.out.cell (i := 1) rfl; have a2 := HX1.out.cell (i := 2) rfl; have b0 := HY1.out.cell (i := 0) rfl; have b1 := HY1.out.cell (i := 1) rfl; have b2 := HY1.out.cell (i := 2) rfl; clear hb1))
      | ((go_at_call 176; (with_reducible refine (HO.out _ _ _ h5 g21).mono ?_); rintro e2 w2 ⟨A6, c6, A7, c7, rfl, h6, h7, hb2⟩; have HX2 := Lib.hid (HX1.out.below hb2); have HY2 := Lib.hid (HY1.out.below hb2); have HZ2 := Lib.hid (HZ1.out.below hb2); have HB2 := Lib.hid (below_trans HB1.out hb2); clear a0 a1 a2 b0 b1 b2; have a0 := HX2.out.cell (i := 0) rfl; have a1 := HX2.out.cell (i := 1) rfl; have a2 := HX2.out.cell (i := 2) rfl; have b0 := HY2.out.cell (i := 0) rfl; have b1 := HY2.out.cell (i := 1) rfl; have b2 := HY2.out.cell (i := 2) rfl; have r0 := HZ2.out.cell (i := 0) rfl; have r1 := HZ2.out.cell (i := 1) rfl; have r2 := HZ2.out.cell (i := 2) rfl; have fr := HZ2.out.frozen; have rl := HZ2.out.lt; clear hb2)))
  clear HX HY HZ HB
  go_wp2
  refine bodyPost_ret (v := raV false A6 c6 pp A7 c7 pq) (by simp [results, Tryz.results152, go_sem, r0, r1, r2]) rfl ⟨A6, c6, A7, c7, rfl, h6.setR HZ2.out _ _ _, h7.setR HZ2.out _ _ _, ?_⟩
  exact ((HB2.out.setCell (by simp; omega) _).setCell (by simp; omega) _).setCell (by simp; omega) _
set_option maxRecDepth 100000 in
set_option maxHeartbeats 2000000 in
theorem RAdd_diff (A A2 A3 A4 : Option Addr) (c c2 c3 c4 n d m e : Nat) (w : World) (h : Nt w A c n) (h2 : Nt w A2 c2 d) (h3 : Nt w A3 c3 m) (h4 : Nt w A4 c4 e)
    (hn : (words B32 n).length ≤ 100000) (hd : (words B32 d).length ≤ 100000) (hm : (words B32 m).length ≤ 100000) (he : (words B32 e).length ≤ 100000) (hd0 : 0 < d) (he0 : 0 < e) (hde : d ≠ e) :
    Calls Tryz.prog 152 #[raV false A c n A2 c2 d, raV false A3 c3 m A4 c4 e] w (GivesR false (addP (n, d) (m, e)).1 (addP (n, d) (m, e)).2 w) := by
  have HC := Lib.hid (fun W (x : Nt W A2 c2 d) (y : Nt W A4 c4 e) => Cmp_c A2 A4 c2 c4 d e W x y (by omega))
  have hk : (cmpN d e == 0) = false := by
    rcases Nat.lt_or_gt_of_ne hde with h | h
    · rw [cmpN_lt h]; rfl
    · rw [cmpN_gt h]; rfl
  have l1 := len_mul n e
  have l2 := len_mul m d
  have l3 := len_mul d e
  have l4 := len_add (n * e) (m * d)
  have HM1 := Lib.hid (fun W (x : Nt W A c n) (y : Nt W A4 c4 e) => IMul_c A A4 c c4 n e W x y (by omega) (by omega))
  have HM2 := Lib.hid (fun W (x : Nt W A3 c3 m) (y : Nt W A2 c2 d) => IMul_c A3 A2 c3 c2 m d W x y (by omega) (by omega))
  have HM3 := Lib.hid (fun W (x : Nt W A2 c2 d) (y : Nt W A4 c4 e) => Mul_c A2 A4 c2 c4 d e W x y (by omega) (by omega))
  have HA := Lib.hid (fun A5 c5 A6 c6 W (x : Nt W A5 c5 (n * e)) (y : Nt W A6 c6 (m * d)) => IAdd_c A5 A6 c5 c6 (n * e) (m * d) W x y (by omega) (by omega))
  have HO := Lib.hid (fun A5 c5 A6 c6 W (x : Nt W A5 c5 (n * e + m * d)) (y : Nt W A6 c6 (d * e)) => Over_c A5 A6 c5 c6 (n * e + m * d) (d * e) false W x y (Nat.mul_pos hd0 he0) (by omega) (by omega))
  simp only [Bool.false_and] at HO
  have hap : addP (n, d) (m, e) = lowP (n * e + m * d) (d * e) := rfl
  rw [hap]
  clear hap l1 l2 l3 l4
  generalize (lowP (n * e + m * d) (d * e)).1 = pp at *
  generalize (lowP (n * e + m * d) (d * e)).2 = pq at *
  generalize n * e = p1 at *
  generalize m * d = p2 at *
  generalize d * e = p3 at *
  generalize p1 + p2 = p4 at *
  generalize cmpN d e = cz at *
  have HX0 : Hid (Bx (((w.alloc (.cells (raC A c n A2 c2 d) 175)).alloc (.cells (raC A3 c3 m A4 c4 e) 175)).alloc (.cells zRat 175)) w.heap.size (raC A c n A2 c2 d) 175) := ((Bx.new _ _ _).alloc _).alloc _
  have HY0 : Hid (Bx (((w.alloc (.cells (raC A c n A2 c2 d) 175)).alloc (.cells (raC A3 c3 m A4 c4 e) 175)).alloc (.cells zRat 175)) (w.heap.size + 1) (raC A3 c3 m A4 c4 e) 175) := (Bx.new1 _ _ _ _).alloc _
  have HZ0 : Hid (Bx (((w.alloc (.cells (raC A c n A2 c2 d) 175)).alloc (.cells (raC A3 c3 m A4 c4 e) 175)).alloc (.cells zRat 175)) (w.heap.size + 1 + 1) zRat 175) := Bx.new2 _ _ _ _ _
  have HB0 : Hid (Below w.heap.size w (((w.alloc (.cells (raC A c n A2 c2 d) 175)).alloc (.cells (raC A3 c3 m A4 c4 e) 175)).alloc (.cells zRat 175))) := (((Below.refl w.heap.size w).alloc (Nat.le_refl _) _).alloc (by simp) _).alloc (by simp; omega) _
  obtain ⟨W, hW⟩ : ∃ W, W = (((w.alloc (.cells (raC A c n A2 c2 d) 175)).alloc (.cells (raC A3 c3 m A4 c4 e) 175)).alloc (.cells zRat 175)) := ⟨_, rfl⟩
  have g1 : Nt W A c n := by rw [hW]; exact ((h.alloc _).alloc _).alloc _
  have g2 : Nt W A2 c2 d := by rw [hW]; exact ((h2.alloc _).alloc _).alloc _
  have g3 : Nt W A3 c3 m := by rw [hW]; exact ((h3.alloc _).alloc _).alloc _
  have g4 : Nt W A4 c4 e := by rw [hW]; exact ((h4.alloc _).alloc _).alloc _
  rw [← hW] at HX0 HY0 HZ0 HB0
  clear hn hd hm he hd0 he0 hde
  go_enter Tryz.func152, Tryz.ntmps152
  go_wp2_with fail
  rw [← hW]
  clear hW
  have x0 := HX0.out.cell (i := 0) rfl
  have x1 := HX0.out.cell (i := 1) rfl
  have x2 := HX0.out.cell (i := 2) rfl
  have y0 := HY0.out.cell (i := 0) rfl
  have y1 := HY0.out.cell (i := 1) rfl
  have y2 := HY0.out.cell (i := 2) rfl
  have z0 := HZ0.out.frozen
  have z1 := HZ0.out.lt
  go_wp2_with fail
  with_reducible refine (HC.out _ g2 g4).mono ?_
  rintro e0 w0 ⟨rfl, nd, rfl⟩
  clear x0 x1 x2 y0 y1 y2 z0 z1
  have HX := Lib.hid (HX0.out.drewN (nd + 1))
  have HY := Lib.hid (HY0.out.drewN (nd + 1))
  have HZ := Lib.hid (HZ0.out.drewN (nd + 1))
  have HB := Lib.hid (below_drewN HB0.out (nd + 1))
  have x0 := HX.out.cell (i := 0) rfl
  have x1 := HX.out.cell (i := 1) rfl
  have x2 := HX.out.cell (i := 2) rfl
  have y0 := HY.out.cell (i := 0) rfl
  have y1 := HY.out.cell (i := 1) rfl
  have y2 := HY.out.cell (i := 2) rfl
  clear HX0 HY0 HZ0 HB0
  go_wp2
  go_region_held3 (fun w' => (w'.cell? ⟨w.heap.size, 0, none⟩ = some (.bool false) ∧ w'.cell? ⟨w.heap.size, 1, none⟩ = some (.slice A (words B32 n).length c) ∧ w'.cell? ⟨w.heap.size, 2, none⟩ = some (.slice A2 (words B32 d).length c2)) ∧ (w'.cell? ⟨w.heap.size + 1, 0, none⟩ = some (.bool false) ∧ w'.cell? ⟨w.heap.size + 1, 1, none⟩ = some (.slice A3 (words B32 m).length c3) ∧ w'.cell? ⟨w.heap.size + 1, 2, none⟩ = some (.slice A4 (words B32 e).length c4)))
    ((refine ⟨⟨?_, ?_, ?_⟩, ?_, ?_, ?_⟩ <;> first | with_reducible assumption | go_simp))
    (first
      | ((go_at_call 146; (with_reducible refine (HM1.out _ (g1.drewN (nd + 1)) (g4.drewN (nd + 1))).mono ?_); rintro e1 w1 ⟨A5, c5, rfl, h5, hb1⟩; have HX1 := Lib.hid (HX.out.below hb1); have HY1 := Lib.hid (HY.out.below hb1); have HZ1 := Lib.hid (HZ.out.below hb1); have HB1 := Lib.hid (HB.out.trans (hb1.mono HB.out.size)); have g21 := (g2.drewN (nd + 1)).below hb1; have g31 := (g3.drewN (nd + 1)).below hb1; have g41 := (g4.drewN (nd + 1)).below hb1; have a0 := HX1.out.cell (i := 0) rfl; have a1 := HX1.out.cell (i := 1) rfl; have a2 := HX1.out.cell (i := 2) rfl; have b0 := HY1.out.cell (i := 0) rfl; have b1 := HY1.out.cell (i := 1) rfl; have b2 := HY1.out.cell (i := 2) rfl; clear hb1))
      | ((go_at_call 146; (with_reducible refine (HM2.out _ g31 g21).mono ?_); rintro e2 w2 ⟨A6, c6, rfl, h6, hb2⟩; have HX2 := Lib.hid (HX1.out.below hb2); have HY2 := Lib.hid (HY1.out.below hb2); have HZ2 := Lib.hid (HZ1.out.below hb2); have HB2 := Lib.hid (below_trans HB1.out hb2); have h52 := h5.below hb2; have g22 := g21.below hb2; have g42 := g41.below hb2; clear a0 a1 a2 b0 b1 b2; have a0 := HX2.out.cell (i := 0) rfl; have a1 := HX2.out.cell (i := 1) rfl; have a2 := HX2.out.cell (i := 2) rfl; have b0 := HY2.out.cell (i := 0) rfl; have b1 := HY2.out.cell (i := 1) rfl; have b2 := HY2.out.cell (i := 2) rfl; clear hb2))
      | ((go_at_call 181; (with_reducible refine (HA.out _ _ _ _ _ h52 h6).mono ?_); rintro e3 w3 ⟨A7, c7, rfl, h7, hb3⟩; have HX3 := Lib.hid (HX2.out.below hb3); have HY3 := Lib.hid (HY2.out.below hb3); have HZ3 := Lib.hid (HZ2.out.below hb3); have HB3 := Lib.hid (below_trans HB2.out hb3); have g23 := g22.below hb3; have g43 := g42.below hb3; clear a0 a1 a2 b0 b1 b2; have a0 := HX3.out.cell (i := 0) rfl; have a1 := HX3.out.cell (i := 1) rfl; have a2 := HX3.out.cell (i := 2) rfl; have b0 := HY3.out.cell (i := 0) rfl; have b1 := HY3.out.cell (i := 1) rfl; have b2 := HY3.out.cell (i := 2) rfl; clear hb3))
      | ((go_at_call 178; (with_reducible refine (HM3.out _ g23 g43).mono ?_); rintro e4 w4 ⟨A8, c8, rfl, h8, hb4⟩; have HX4 := Lib.hid (HX3.out.below hb4); have HY4 := Lib.hid (HY3.out.below hb4); have HZ4 := Lib.hid (HZ3.out.below hb4); have HB4 := Lib.hid (below_trans HB3.out hb4); have h74 := h7.below hb4; clear a0 a1 a2 b0 b1 b2; have a0 := HX4.out.cell (i := 0) rfl; have a1 := HX4.out.cell (i := 1) rfl; have a2 := HX4.out.cell (i := 2) rfl; have b0 := HY4.out.cell (i := 0) rfl; have b1 := HY4.out.cell (i := 1) rfl; have b2 := HY4.out.cell (i := 2) rfl; clear hb4))
      | ((go_at_call 176; (with_reducible refine (HO.out _ _ _ _ _ h74 h8).mono ?_); rintro e5 w5 ⟨A9, c9, AD, cE, rfl, h9, hF, hb5⟩; have HX5 := Lib.hid (HX4.out.below hb5); have HY5 := Lib.hid (HY4.out.below hb5); have HZ5 := Lib.hid (HZ4.out.below hb5); have HB5 := Lib.hid (below_trans HB4.out hb5); clear a0 a1 a2 b0 b1 b2; have a0 := HX5.out.cell (i := 0) rfl; have a1 := HX5.out.cell (i := 1) rfl; have a2 := HX5.out.cell (i := 2) rfl; have b0 := HY5.out.cell (i := 0) rfl; have b1 := HY5.out.cell (i := 1) rfl; have b2 := HY5.out.cell (i := 2) rfl; have r0 := HZ5.out.cell (i := 0) rfl; have r1 := HZ5.out.cell (i := 1) rfl; have r2 := HZ5.out.cell (i := 2) rfl; have fr := HZ5.out.frozen; have rl := HZ5.out.lt; clear hb5)))
  clear HX HY HZ HB
  go_wp2
  refine bodyPost_ret (v := raV false A9 c9 pp AD cE pq) (by simp [results, Tryz.results152, go_sem, r0, r1, r2]) rfl ⟨A9, c9, AD, cE, rfl, h9.setR HZ5.out _ _ _, hF.setR HZ5.out _ _ _, ?_⟩
  exact ((HB5.out.setCell (by simp; omega) _).setCell (by simp; omega) _).setCell (by simp; omega) _
theorem RAdd_c (A A2 A3 A4 : Option Addr) (c c2 c3 c4 n d m e : Nat) (w : World) (h : Nt w A c n) (h2 : Nt w A2 c2 d) (h3 : Nt w A3 c3 m) (h4 : Nt w A4 c4 e)
    (hn : (words B32 n).length ≤ 100000) (hd : (words B32 d).length ≤ 100000) (hm : (words B32 m).length ≤ 100000) (he : (words B32 e).length ≤ 100000) (hd0 : 0 < d) (he0 : 0 < e) :
    Calls Tryz.prog 152 #[raV false A c n A2 c2 d, raV false A3 c3 m A4 c4 e] w (GivesR false (addP (n, d) (m, e)).1 (addP (n, d) (m, e)).2 w) := by
  by_cases hde : d = e
  · exact RAdd_same A A2 A3 A4 c c2 c3 c4 n d m e w h h2 h3 h4 hn hd hm he hd0 he0 hde
  · exact RAdd_diff A A2 A3 A4 c c2 c3 c4 n d m e w h h2 h3 h4 hn hd hm he hd0 he0 hde
end Go.Proofs.YtlcfgejaeecclaaGreatDoor

namespace Go.Proofs.YtlcfgejaeecclaaGreatDoor
open Go.RowKit Dw

theorem zero_list : (⟨#[48]⟩ : ByteArray).toList = [48] := by rw [Dw.toList_eq]
theorem numB_all {s : ByteArray} (h : numB s = true) : s.data.toList.all dgB = true ∧ 1 ≤ s.size := by
  unfold numB at h
  simp only [Bool.and_eq_true, Bool.or_eq_true, decide_eq_true_eq] at h
  refine ⟨h.1, ?_⟩
  rcases h.2 with h2 | h2 <;> omega
def DigRel (w : World) (s : ByteArray) (m : Nat) (iv : Value) (wr : World) : Prop :=
  wr = w ∧ ∃ k : Nat, k + m = s.size ∧ iv = .int .i64 k ∧ (s.data.toList.take k).all dgB = true
theorem all_take_succ {s : ByteArray} {k : Nat} (hk : k < s.size) (h : (s.data.toList.take k).all dgB = true) (h2 : dgB s[k] = true) : (s.data.toList.take (k + 1)).all dgB = true := by
  rw [List.take_succ_eq_append_getElem (by simpa using hk), List.all_append, h, data_get' s k hk]
  simp [h2]
theorem not_all {s : ByteArray} {k : Nat} (hk : k < s.size) (h2 : dgB s[k] = false) : s.data.toList.all dgB = false := by
  rw [List.all_eq_false]
  exact ⟨s[k], by rw [← data_get' s k hk]; exact List.getElem_mem _, by simp [h2]⟩
set_option maxRecDepth 100000 in
set_option maxHeartbeats 1000000 in
theorem digits_c (s : ByteArray) (w : World) (hs : s.size ≤ 9223372036854775807) : Calls Tryz.prog 141 #[.string s] w (Gives (.bool (numB s)) w) := by
  go_enter Tryz.func141, Tryz.ntmps141
  go_wp2
  go_loopg [6] s.size (DigRel w s)
  case atStart => exact ⟨rfl, 0, by omega, rfl, rfl⟩
  case round =>
    obtain ⟨hw, k, hkm, rfl, hall⟩ := hrel
    subst hw
    have HM := Lib.hid hkm
    have HA := Lib.hid hall
    clear hkm hall
    by_cases hlt : k < s.size
    · by_cases h1 : s[k].toNat < 48
      · have HD := Lib.hid (not_all hlt (show dgB s[k] = false by unfold dgB; simp; omega))
        go_wp2
        go_ret
        refine Gives.mk (vbool ?_) rfl
        unfold numB
        rw [HD.out]; rfl
      · by_cases h2 : 57 < s[k].toNat
        · have HD := Lib.hid (not_all hlt (show dgB s[k] = false by unfold dgB; simp; omega))
          have h1b : (48 : Int) ≤ (s[k].toNat : Int) := by omega
          go_wp2
          go_ret
          refine Gives.mk (vbool ?_) rfl
          unfold numB
          rw [HD.out]; rfl
        · have HD := Lib.hid (all_take_succ hlt HA.out (show dgB s[k] = true by unfold dgB; simp; omega))
          have h1b : (48 : Int) ≤ (s[k].toNat : Int) := by omega
          have h2b : (s[k].toNat : Int) ≤ 57 := by omega
          go_wp2
          go_roundg (gk - 1)
          case measure => have := HM.out; omega
          case rel => exact ⟨rfl, k + 1, by have := HM.out; omega, by go_num, HD.out⟩
    · obtain rfl : k = s.size := by have := HM.out; omega
      have HALL : Hid (s.data.toList.all dgB = true) := by
        show _ = _
        have := HA.out
        rwa [List.take_of_length_le (by simp)] at this
      have hr : numB s = (decide (s.size = 1) || decide (1 < s.size) && decide ((s.data.toList.headD 0).toNat ≠ 48)) := by
        unfold numB; rw [HALL.out]; rfl
      rcases Nat.eq_zero_or_pos s.size with h0 | h0
      · have he : s = emp := by
          apply Dw.toList_inj
          rw [Dw.toList_eq, Dw.toList_eq, List.eq_nil_of_length_eq_zero (l := s.data.toList) (by simpa using h0)]
          rfl
        have hv : numB s = false := by rw [hr, h0]; rfl
        rw [hv]
        have q1 := isEmpty_of_eq he
        have q2 : (s.toList == [48]) = false := by rw [← zero_list]; exact beq_of_ne (by rw [he]; decide)
        have HV := Lib.hid hv
        clear hr hv he
        go_wp2
        go_ret
        exact Gives.mk (vbool HV.out.symm) rfl
      · have hne : s ≠ emp := fun e => by rw [e] at h0; exact absurd h0 (by decide)
        have q1 := isEmpty_of_ne hne
        by_cases hz : s = zeroS
        · have hv : numB s = true := by rw [hz]; decide +kernel
          rw [hv]
          have q2 : (s.toList == [48]) = true := by rw [← zero_list]; exact beq_of_eq hz
          have HV := Lib.hid hv
          clear hr hv hz hne
          go_wp2
          go_ret
          exact Gives.mk (vbool HV.out.symm) rfl
        · have q2 : (s.toList == [48]) = false := by rw [← zero_list]; exact beq_of_ne hz
          have hd0 : s.data.toList.headD 0 = s[0] := headD_get s h0
          by_cases hh : s[0].toNat = 48
          · have h1 : s.size ≠ 1 := fun e => hz (by
              apply Dw.toList_inj
              rw [Dw.toList_eq, Dw.toList_eq]
              apply List.ext_getElem
              · simp [zeroS, e]
              · intro i hi1 hi2
                obtain rfl : i = 0 := by simp [e] at hi1; omega
                rw [data_get' s 0 h0]
                have : s[0] = 48 := UInt8.toNat_inj.1 (by simpa using hh)
                rw [this]; rfl)
            have hv : numB s = false := by rw [hr, hd0, hh]; simp [h1]
            have q3 : ((s[0].toNat : Int) != 48) = false := by simp [hh]
            rw [hv]
            have HV := Lib.hid hv
            clear hr hv hz hne hh hd0 h1
            go_wp2
            go_ret
            exact Gives.mk (vbool HV.out.symm) rfl
          · have hv : numB s = true := by
              rw [hr, hd0]
              rcases Nat.lt_or_ge 1 s.size with h | h
              · simp [h, hh]
              · have : s.size = 1 := by omega
                simp [this]
            have q3 : ((s[0].toNat : Int) != 48) = true := by simp; omega
            rw [hv]
            have HV := Lib.hid hv
            clear hr hv hz hne hh hd0
            go_wp2
            go_ret
            exact Gives.mk (vbool HV.out.symm) rfl
theorem len_val {s : ByteArray} (h : s.data.toList.all dgB = true) (hs : s.size ≤ 2000) : (words B32 (valS s)).length ≤ 2000 := by
  have h1 := decV_dg h
  have h2 : 10 ^ s.data.toList.length ≤ B32 ^ s.data.toList.length := Nat.pow_le_pow_left (by decide) _
  have h3 := len_le_of_lt B32_gt (Nat.lt_of_lt_of_le h1 h2)
  have h4 : s.data.toList.length = s.size := by simp
  unfold valS
  omega
/-- A right denominator is not 0. -/
theorem den_pos {s : ByteArray} (h : numB s = true) (hz : s ≠ zeroS) : 0 < valS s := by
  obtain ⟨h1, h2⟩ := numB_all h
  unfold numB at h
  rw [h1] at h
  simp only [Bool.true_and, Bool.or_eq_true, decide_eq_true_eq, Bool.and_eq_true] at h
  have hd0 : s.data.toList.headD 0 = s[0] := headD_get s (by omega)
  have hne : s[0].toNat ≠ 48 := by
    rcases h with h | ⟨_, h⟩
    · intro e
      apply hz
      apply Dw.toList_inj
      rw [Dw.toList_eq, Dw.toList_eq]
      apply List.ext_getElem
      · simp [zeroS, h]
      · intro i hi1 hi2
        obtain rfl : i = 0 := by simp [h] at hi1; omega
        rw [data_get' s 0 (by omega)]
        have : s[0] = 48 := UInt8.toNat_inj.1 (by simpa using e)
        rw [this]; rfl
    · rwa [hd0] at h
  have hdg := dgB_of (List.all_eq_true.1 h1 s[0] (by rw [← data_get' s 0 (by omega)]; exact List.getElem_mem _))
  unfold valS
  rw [decV_cut s.data.toList 1]
  have e1 : s.data.toList.take 1 = [s[0]] := by
    rw [List.take_succ_eq_append_getElem (by simp; omega), data_get' s 0 (by omega)]; rfl
  have e2 : decV [s[0]] = s[0].toNat - 48 := by simp [decV]
  rw [e1, e2]
  have h3 : 1 * 10 ^ (s.data.toList.length - 1) ≤ (s[0].toNat - 48) * 10 ^ (s.data.toList.length - 1) := Nat.mul_le_mul_right _ (by omega)
  have h4 : 0 < 10 ^ (s.data.toList.length - 1) := Nat.pow_pos (by omega)
  omega
set_option maxRecDepth 100000 in
set_option maxHeartbeats 2000000 in
theorem CheckRatio_c (nu de : ByteArray) (w : World) (hs : (absN nu).size ≤ 9223372036854775807) (hs2 : de.size ≤ 9223372036854775807) :
    Calls Tryz.prog 108 #[.agg #[.string nu, .string de]] w (GivesB (.int .i64 (ratF nu de)) w) := by
  generalize hres : ratF nu de = res
  have HR := Lib.hid hres
  clear hres
  unfold ratF at HR
  have HB0 : Hid (Below w.heap.size w (w.alloc (.cells #[.string nu, .string de] 50))) := (Below.refl w.heap.size w).alloc (Nat.le_refl _) _
  have HC := Lib.hid (fun W => cut_c nu W)
  have HD1 := Lib.hid (fun W => digits_c (absN nu) W hs)
  have HD2 := Lib.hid (fun W => digits_c de W hs2)
  have HF := Lib.hid (fun (h1 : numB (absN nu) = true) (h2 : numB de = true) (h3 : (absN nu).size ≤ 2000) (h4 : de.size ≤ 2000) W => From_c nu de W (numB_all h1).1 h3 (numB_all h2).1 h4)
  have HL := Lib.hid (fun (h1 : numB (absN nu) = true) (h2 : numB de = true) (hz : de ≠ zeroS) (h3 : (absN nu).size ≤ 2000) (h4 : de.size ≤ 2000) A c A2 c2 W (x : Nt W A c (valS (absN nu))) (y : Nt W A2 c2 (valS de)) =>
    Lowest_c (sgB nu) A A2 c c2 (valS (absN nu)) (valS de) W x y (den_pos h2 hz) (Nat.le_trans (len_val (numB_all h1).1 h3) (by omega)) (Nat.le_trans (len_val (numB_all h2).1 h4) (by omega)))
  go_enter Tryz.func108, Tryz.ntmps108
  go_wp2_with fail
  with_reducible refine (HC.out _).mono ?_
  rintro e w1 ⟨rfl, rfl⟩
  go_wp2_with fail
  with_reducible refine (HD1.out _).mono ?_
  rintro e w1 ⟨rfl, rfl⟩
  cases h1 : numB (absN nu) with
  | false =>
    have HS : Hid (res = 3) := by show _ = _; rw [← HR.out, if_pos (.inl h1)]
    clear h1
    go_wp2
    go_ret
    exact GivesB.mk (vint HS.out.symm) HB0.out
  | true =>
    by_cases h2 : negB nu = true ∧ absN nu = zeroS
    · have HS : Hid (res = 3) := by show _ = _; rw [← HR.out, if_pos (.inr (.inl h2))]
      have q1 := h2.1
      have q2 : ((absN nu).toList == [48]) = true := by rw [← zero_list]; exact beq_of_eq h2.2
      rw [q1]
      clear h1 h2 q1
      go_wp2
      go_ret
      exact GivesB.mk (vint HS.out.symm) HB0.out
    · have HQ : Hid (negB nu = false ∨ ((absN nu).toList == [48]) = false) := by
        show _ ∨ _
        by_cases h3 : negB nu = true
        · exact .inr (by rw [← zero_list]; exact beq_of_ne fun e => h2 ⟨h3, e⟩)
        · exact .inl (by simpa using h3)
      have hr1 := HR.out
      have HR1 : Hid ((if numB de = false ∨ de = zeroS then 3 else if 2000 < (absN nu).size ∨ 2000 < de.size then 2 else if Nat.gcd (valS (absN nu)) (valS de) = 1 then 0 else 3) = res) := by
        show _ = _
        rw [← hr1]
        by_cases h4 : numB de = false ∨ de = zeroS
        · rw [if_pos h4, if_pos (.inr (.inr h4))]
        · have hno : ¬(numB (absN nu) = false ∨ (negB nu = true ∧ absN nu = zeroS) ∨ numB de = false ∨ de = zeroS) := by
            rintro (h | h | h)
            · rw [h1] at h; cases h
            · exact h2 h
            · exact h4 h
          rw [if_neg h4, if_neg hno]
      have H1 := Lib.hid h1
      clear hr1 HR h2 h1 HD1 HC
      rcases HQ.out with q | q
      case' inr => cases hng : negB nu
      case' inl => rw [q]
      all_goals
        clear HQ
        go_wp2_with fail
        with_reducible refine (HD2.out _).mono ?_
        rintro e w1 ⟨rfl, rfl⟩
        cases h3 : numB de with
        | false =>
          have HS : Hid (res = 3) := by show _ = _; rw [← HR1.out, if_pos (.inl h3)]
          clear h3
          go_wp2
          go_ret
          exact GivesB.mk (vint HS.out.symm) HB0.out
        | true =>
          by_cases h4 : de = zeroS
          · have HS : Hid (res = 3) := by show _ = _; rw [← HR1.out, if_pos (.inr h4)]
            have q2 : (de.toList == [48]) = true := by rw [← zero_list]; exact beq_of_eq h4
            clear h3 h4
            go_wp2
            go_ret
            exact GivesB.mk (vint HS.out.symm) HB0.out
          · have q2 : (de.toList == [48]) = false := by rw [← zero_list]; exact beq_of_ne h4
            have HR2 : Hid ((if 2000 < (absN nu).size ∨ 2000 < de.size then 2 else if Nat.gcd (valS (absN nu)) (valS de) = 1 then 0 else 3) = res) := by
              show _ = _
              have hno : ¬(numB de = false ∨ de = zeroS) := by
                rintro (h | h)
                · rw [h3] at h; cases h
                · exact h4 h
              rw [← HR1.out, if_neg hno]
            by_cases h5 : 2000 < (absN nu).size
            · have HS : Hid (res = 2) := by show _ = _; rw [← HR2.out, if_pos (.inl h5)]
              clear h3 h4
              go_wp2
              go_ret
              exact GivesB.mk (vint HS.out.symm) HB0.out
            · by_cases h6 : 2000 < de.size
              · have HS : Hid (res = 2) := by show _ = _; rw [← HR2.out, if_pos (.inr h6)]
                clear h3 h4
                go_wp2
                go_ret
                exact GivesB.mk (vint HS.out.symm) HB0.out
              · have HR3 : Hid ((if Nat.gcd (valS (absN nu)) (valS de) = 1 then (0 : Int) else 3) = res) := by
                  show _ = _
                  rw [← HR2.out, if_neg (show ¬(2000 < (absN nu).size ∨ 2000 < de.size) by omega)]
                have HF2 := Lib.hid (HF.out H1.out h3 (by omega) (by omega))
                have HL2 := Lib.hid (HL.out H1.out h3 h4 (by omega) (by omega))
                clear h3 h4
                go_wp2_with fail
                with_reducible refine (HF2.out _).mono ?_
                rintro e w2 ⟨A5, c5, A6, c6, rfl, h7, h8, hb2⟩
                have HB2 := Lib.hid (HB0.out.trans (hb2.mono HB0.out.size))
                clear hb2
                go_wp2_with fail
                with_reducible refine (HL2.out A5 c5 A6 c6 _ h7 h8).mono ?_
                rintro e w3 ⟨rfl, hb3⟩
                have HB3 := Lib.hid (below_trans HB2.out hb3)
                clear hb3 HF HL HF2 HL2 HB2
                by_cases h9 : Nat.gcd (valS (absN nu)) (valS de) = 1
                · have HS : Hid (res = 0) := by show _ = _; rw [← HR3.out, if_pos h9]
                  have hlb : lowB (valS (absN nu)) (valS de) = true := by unfold lowB; exact decide_eq_true h9
                  rw [hlb]
                  clear h9 hlb
                  go_wp2
                  go_ret
                  exact GivesB.mk (vint HS.out.symm) HB3.out
                · have HS : Hid (res = 3) := by show _ = _; rw [← HR3.out, if_neg h9]
                  have hlb : lowB (valS (absN nu)) (valS de) = false := by unfold lowB; exact decide_eq_false h9
                  rw [hlb]
                  clear h9 hlb
                  go_wp2
                  go_ret
                  exact GivesB.mk (vint HS.out.symm) HB3.out
end Go.Proofs.YtlcfgejaeecclaaGreatDoor

namespace Go.Proofs.YtlcfgejaeecclaaGreatDoor
open Go.RowKit Dw

def posS (l : List ByteArray) (s : ByteArray) : Int := match l.findIdx? fun x => decide (x = s) with
  | some i => i
  | none => -1
theorem posS_mem (l : List ByteArray) (s : ByteArray) : decide ((0 : Int) ≤ posS l s) = memS l s := by
  unfold posS memS
  cases h : l.findIdx? fun x => decide (x = s) with
  | none =>
    have : (l.any fun x => decide (x = s)) = false := by
      rw [List.any_eq_false]
      intro x hx
      have := List.findIdx?_eq_none_iff.1 h x hx
      simpa using this
    rw [this]; rfl
  | some i =>
    obtain ⟨hi, hp, _⟩ := List.findIdx?_eq_some_iff_getElem.1 h
    have : (l.any fun x => decide (x = s)) = true := List.any_eq_true.2 ⟨l[i], List.getElem_mem hi, hp⟩
    rw [this]; simp
def PosIRel (w : World) (l : List ByteArray) (s : ByteArray) (m : Nat) (i : Value) (wr : World) : Prop :=
  w = wr ∧ ∃ k : Nat, k + m = l.length ∧ i = .int .i64 k ∧ ∀ j (h : j < l.length), j < k → l[j] ≠ s

set_option maxHeartbeats 400000 in
theorem indexS_c (A : Option Addr) (c : Nat) (l : List ByteArray) (s : ByteArray) (w : World) (hn : l.length ≤ 1000000) (h : Strs w A l) :
    Calls Tryz.prog 101 #[.slice A l.length c, .string s] w (Gives (.int .i64 (posS l s)) w) := by
  generalize hres : posS l s = res
  have HR := Lib.hid hres
  clear hres
  go_enter Tryz.func101, Tryz.ntmps101
  go_wp2
  go_loopg [8] l.length (PosIRel w l s)
  case atStart => exact ⟨rfl, 0, by omega, rfl, fun j _ hj => absurd hj (by omega)⟩
  case round =>
    obtain ⟨hw, k, hk, rfl, hpre⟩ := hrel
    subst hw
    have HK := Lib.hid hk
    have HP := Lib.hid hpre
    have hk1 : k ≤ l.length := by omega
    clear hk hpre
    by_cases hlt : k < l.length
    · obtain ⟨b, o, rfl, hb, hc⟩ := h.at_ (by omega)
      have hc0 := hc k hlt
      clear hc
      by_cases hq : s = l[k]
      · have hqb := beq_of_eq hq
        have HQ := Lib.hid hq
        clear hq
        go_wp2
        go_ret
        refine Gives.mk (vint ?_) rfl
        rw [← HR.out]
        unfold posS
        rw [List.findIdx?_eq_some_iff_getElem.2 ⟨hlt, by simp [HQ.out], fun j hj => by simpa using HP.out j (by omega) hj⟩]
      · have hqb := beq_of_ne hq
        have HQ := Lib.hid hq
        clear hq
        go_wp2
        go_roundg (gk - 1)
        case measure => have := HK.out; omega
        case rel =>
          refine ⟨rfl, k + 1, by have := HK.out; omega, by go_num, fun j hj hjk => ?_⟩
          rcases Nat.lt_or_ge j k with h1 | h1
          · exact HP.out j hj h1
          · obtain rfl : j = k := by omega
            exact fun e => HQ.out e.symm
    · go_wp2
      go_ret
      refine Gives.mk (vint ?_) rfl
      rw [← HR.out]
      unfold posS
      rw [List.findIdx?_eq_none_iff.2 fun x hx => by
        obtain ⟨j, hj, rfl⟩ := List.getElem_of_mem hx
        simpa using HP.out j hj (by omega)]

set_option maxHeartbeats 400000 in
theorem containsS_c (A : Option Addr) (c : Nat) (l : List ByteArray) (s : ByteArray) (w : World) (hn : l.length ≤ 1000000) (h : Strs w A l) :
    Calls Tryz.prog 65 #[.slice A l.length c, .string s] w (Gives (.bool (memS l s)) w) := by
  have hm := posS_mem l s
  generalize memS l s = res at *
  have HM := Lib.hid hm
  clear hm
  go_enter Tryz.func65, Tryz.ntmps65
  go_wp2_with (go_at_call 101; refine (indexS_c _ _ _ _ _ hn h).mono ?_; rintro e w' ⟨rfl, rfl⟩)
  go_ret
  exact Gives.mk (vbool HM.out) rfl
end Go.Proofs.YtlcfgejaeecclaaGreatDoor
