/- The law RightPlacesMatchSpec as a call. -/
import Derived.Test.YtnjepmbonhmdnaaDoorLawA
namespace Go.Proofs.YtnjepmbonhmdnaaDoor
open Go.RowKit Dw

theorem leavesS_len (l : List Rg) (a : List Ar) : (leavesS l a).1.length ≤ 200 := by
  unfold leavesS
  by_cases h : chkR l = 0
  · have g := good_of h
    have h1 : (leavesOf l a).length ≤ l.length := by
      unfold leavesOf
      rw [List.length_map]
      exact Nat.le_trans (List.length_filter_le _ _) (leafTo_le l l.length)
    by_cases h2 : chkA l a = 0
    · simp only [h, h2, ne_eq, not_true_eq_false, if_false]
      exact Nat.le_trans h1 g.len
    · simp [h, h2]
  · simp [h]
theorem togetherS_len (op : Bool → Bool → Bool) (l : List Rg) (a b : List Ar) : (togetherS op l a b).1.length ≤ 200 := by
  unfold togetherS
  by_cases h1 : chkR l = 0
  · by_cases h2 : chkA l a = 0
    · by_cases h3 : chkA l b = 0
      · by_cases h4 : 100 < (plainOf l fun i => op (lies l a i) (lies l b i)).length
        · simp [h1, h2, h3, h4]
        · simp only [h1, h2, h3, h4, ne_eq, not_true_eq_false, if_false]
          omega
      · simp [h1, h2, h3]
    · simp [h1, h2]
  · simp [h1]

set_option maxHeartbeats 2000000 in
theorem law_c (A A2 A3 : Option Addr) (c c2 c3 : Nat) (l : List Rg) (a b : List Ar) (w : World) (h : Rgs w A l) (h2 : Ars w A2 a) (h3 : Ars w A3 b) (hz : ∀ i (h : i < l.length), (l[i]).nm.size ≤ 9223372036854775807) :
    Calls Tryd.prog 3 #[.slice A l.length c, .slice A2 a.length c2, .slice A3 b.length c3] w (GivesB (.bool true) w) := by
  have hl1 := leavesS_len l a
  go_enter Tryd.func3, Tryd.ntmps3
  go_wp2_with fail
  refine (Leaves_c A A2 c c2 l a w h h2 hz).mono ?_
  rintro e w1 ⟨A4, c4, rfl, hx4, hb1⟩
  go_wp2_with fail
  refine (LeavesR_c A A2 c c2 l a w1 (h.below hb1) (h2.below hb1) hz).mono ?_
  rintro e w2 ⟨A5, c5, rfl, hx5, hb2'⟩
  have hx4' := hx4.below hb2'
  have hb2 := below_trans hb1 hb2'
  clear hb1 hb2' hx4
  generalize hR1 : leavesS l a = R1 at *
  clear hR1
  go_wp2_with fail
  refine (CheckRegions_c A c l w2 (h.below hb2) hz).mono ?_
  rintro e w3 ⟨rfl, hb3'⟩
  have hb3 := below_trans hb2 hb3'
  have hx4 := hx4'.below hb3'
  have hx5' := hx5.below hb3'
  clear hb2 hb3' hx4' hx5
  go_wp2_with fail
  refine (CheckRegionsR_c A c l w3 (h.below hb3) hz).mono ?_
  intro e w4 hq
  obtain ⟨rfl, hb4'⟩ := hq.toB
  have hb4 := below_trans hb3 hb4'
  have hx4' := hx4.below hb4'
  have hx5 := hx5'.below hb4'
  clear hb3 hb4' hx4 hx5' hq
  generalize chkR l = R0 at *
  go_wp2_with fail
  refine (equalS_c A4 A5 c4 c5 R1.1 w4 hl1 hx4' hx5).mono ?_
  intro e w5 hq
  obtain ⟨rfl, hb5'⟩ := hq.toB
  have hb := below_trans hb4 hb5'
  clear hx4' hx5 hb4 hb5' hq hl1
  have hl := togetherS_len (opOf 1) l a []
  go_wp2_with fail
  refine (Plain_c A A2 c c2 l a _ (h.below hb) (h2.below hb) hz).mono ?_
  rintro e w6 ⟨P6, d6, rfl, hx, hb1'⟩
  have hb1 := below_trans hb hb1'
  clear hb hb1'
  go_wp2_with fail
  refine (PlainR_c A A2 c c2 l a _ (h.below hb1) (h2.below hb1) hz).mono ?_
  rintro e w7 ⟨Q6, f6, rfl, hy, hb2'⟩
  have hx' := hx.below hb2'
  have hb2 := below_trans hb1 hb2'
  clear hb1 hb2' hx
  generalize hRR : togetherS (opOf 1) l a [] = R at *
  clear hRR
  go_wp2_with fail
  refine (equalA_c P6 Q6 d6 f6 R.1 w7 hl hx' hy).mono ?_
  intro e w8 hq
  obtain ⟨rfl, hb3'⟩ := hq.toB
  have hb := below_trans hb2 hb3'
  clear hx' hy hb2 hb3' hq hl
  have hl := togetherS_len (opOf 1) l a b
  go_wp2_with fail
  refine (Union_c A A2 A3 c c2 c3 l a b _ (h.below hb) (h2.below hb) (h3.below hb) hz).mono ?_
  rintro e w9 ⟨P9, d9, rfl, hx, hb1'⟩
  have hb1 := below_trans hb hb1'
  clear hb hb1'
  go_wp2_with fail
  refine (UnionR_c A A2 A3 c c2 c3 l a b _ (h.below hb1) (h2.below hb1) (h3.below hb1) hz).mono ?_
  rintro e w10 ⟨Q9, f9, rfl, hy, hb2'⟩
  have hx' := hx.below hb2'
  have hb2 := below_trans hb1 hb2'
  clear hb1 hb2' hx
  generalize hRR : togetherS (opOf 1) l a b = R at *
  clear hRR
  go_wp2_with fail
  refine (equalA_c P9 Q9 d9 f9 R.1 w10 hl hx' hy).mono ?_
  intro e w11 hq
  obtain ⟨rfl, hb3'⟩ := hq.toB
  have hb := below_trans hb2 hb3'
  clear hx' hy hb2 hb3' hq hl
  have hl := togetherS_len (opOf 2) l a b
  go_wp2_with fail
  refine (Meet_c A A2 A3 c c2 c3 l a b _ (h.below hb) (h2.below hb) (h3.below hb) hz).mono ?_
  rintro e w12 ⟨P12, d12, rfl, hx, hb1'⟩
  have hb1 := below_trans hb hb1'
  clear hb hb1'
  go_wp2_with fail
  refine (MeetR_c A A2 A3 c c2 c3 l a b _ (h.below hb1) (h2.below hb1) (h3.below hb1) hz).mono ?_
  rintro e w13 ⟨Q12, f12, rfl, hy, hb2'⟩
  have hx' := hx.below hb2'
  have hb2 := below_trans hb1 hb2'
  clear hb1 hb2' hx
  generalize hRR : togetherS (opOf 2) l a b = R at *
  clear hRR
  go_wp2_with fail
  refine (equalA_c P12 Q12 d12 f12 R.1 w13 hl hx' hy).mono ?_
  intro e w14 hq
  obtain ⟨rfl, hb3'⟩ := hq.toB
  have hb := below_trans hb2 hb3'
  clear hx' hy hb2 hb3' hq hl
  have hl := togetherS_len (opOf 3) l a b
  go_wp2_with fail
  refine (Without_c A A2 A3 c c2 c3 l a b _ (h.below hb) (h2.below hb) (h3.below hb) hz).mono ?_
  rintro e w15 ⟨P15, d15, rfl, hx, hb1'⟩
  have hb1 := below_trans hb hb1'
  clear hb hb1'
  go_wp2_with fail
  refine (WithoutR_c A A2 A3 c c2 c3 l a b _ (h.below hb1) (h2.below hb1) (h3.below hb1) hz).mono ?_
  rintro e w16 ⟨Q15, f15, rfl, hy, hb2'⟩
  have hx' := hx.below hb2'
  have hb2 := below_trans hb1 hb2'
  clear hb1 hb2' hx
  generalize hRR : togetherS (opOf 3) l a b = R at *
  clear hRR
  go_wp2_with fail
  refine (equalA_c P15 Q15 d15 f15 R.1 w16 hl hx' hy).mono ?_
  intro e w17 hq
  obtain ⟨rfl, hb3'⟩ := hq.toB
  have hb := below_trans hb2 hb3'
  clear hx' hy hb2 hb3' hq hl
  go_wp2_with fail
  refine (awake_c _).mono ?_
  rintro e w18 ⟨rfl, hb9'⟩
  have HB := Lib.hid (below_trans hb hb9')
  clear hb hb9'
  go_wp2
  go_ret
  exact GivesB.mk rfl HB.out
end Go.Proofs.YtnjepmbonhmdnaaDoor
