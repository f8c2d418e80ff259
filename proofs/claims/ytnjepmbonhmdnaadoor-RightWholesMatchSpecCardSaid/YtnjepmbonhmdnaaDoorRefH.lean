/- Walks over the reference of chapter 7 (places): Leaves, Plain, Union, Meet, Without. -/
import Derived.Test.YtnjepmbonhmdnaaDoorRefG
namespace Go.Proofs.YtnjepmbonhmdnaaDoor
open Go.RowKit Dw

set_option maxHeartbeats 1000000 in
theorem LeavesR_c (A A2 : Option Addr) (c c2 : Nat) (l : List Rg) (a : List Ar) (w : World) (h : Rgs w A l) (h2 : Ars w A2 a) (hz : ∀ i (h : i < l.length), (l[i]).nm.size ≤ 9223372036854775807) :
    Calls Tryd.prog 7 #[.slice A l.length c, .slice A2 a.length c2] w (GivesS2 (leavesS l a) w) := by
  generalize hres : leavesS l a = res
  have HR := Lib.hid hres
  clear hres
  unfold leavesS at HR
  by_cases hR : chkR l = 0
  · have g := good_of hR
    have hn := g.len
    have hRb : (chkR l != 0) = false := by simp [hR]
    by_cases hA : chkA l a = 0
    · have hAb : (chkA l a != 0) = false := by simp [hA]
      have hal := chkA_le hA
      have hres : res = (leavesOf l a, 0) := by
        have := HR.out
        rw [if_neg (by simp [hR]), if_neg (by simp [hA])] at this
        exact this.symm
      have HS := Lib.hid hres
      have HA := Lib.hid hA
      have HRR := Lib.hid hR
      clear hA hR hres HR
      go_enter Tryd.func7, Tryd.ntmps7
      go_wp2_with fail
      refine (CheckRegionsR_c _ _ _ _ h hz).mono ?_
      intro e w1 hq
      obtain ⟨rfl, hb1⟩ := hq.toB
      rw [HRR.out]
      go_wp2_with fail
      refine (checkAreaR_c _ _ _ _ _ _ _ hn (h.below hb1) (h2.below hb1)).mono ?_
      intro e w2 hq
      obtain ⟨rfl, hb2'⟩ := hq.toB
      rw [HA.out]
      have hb2 := below_trans hb1 hb2'
      clear hb1 hb2'
      go_wp2_with fail
      refine (leaves_c _ _ _ _ _ _ _ g (h.below hb2) (h2.below hb2) hal).mono ?_
      rintro e w3 ⟨A4, c4, rfl, hx, hb3'⟩
      have hb3 := below_trans hb2 hb3'
      clear hb2 hb3'
      go_wp2
      go_ret2
      exact GivesS2.ok HS.out hx hb3
    · have hAb : (chkA l a != 0) = true := by simp [hA]
      have hres : res = ([], chkA l a) := by
        have := HR.out
        rw [if_neg (by simp [hR]), if_pos hA] at this
        exact this.symm
      have HS := Lib.hid hres
      have HRR := Lib.hid hR
      clear hres hA hR HR
      go_enter Tryd.func7, Tryd.ntmps7
      go_wp2_with fail
      refine (CheckRegionsR_c _ _ _ _ h hz).mono ?_
      intro e w1 hq
      obtain ⟨rfl, hb1⟩ := hq.toB
      rw [HRR.out]
      go_wp2_with fail
      refine (checkAreaR_c _ _ _ _ _ _ _ hn (h.below hb1) (h2.below hb1)).mono ?_
      intro e w2 hq
      obtain ⟨rfl, hb2'⟩ := hq.toB
      have hb2 := below_trans hb1 hb2'
      clear hb1 hb2'
      go_wp2
      go_ret2
      exact GivesS2.err HS.out hb2
  · have hRb : (chkR l != 0) = true := by simp [hR]
    have hres : res = ([], chkR l) := by
      have := HR.out
      rw [if_pos hR] at this
      exact this.symm
    have HS := Lib.hid hres
    clear hres hR HR
    go_enter Tryd.func7, Tryd.ntmps7
    go_wp2_with fail
    refine (CheckRegionsR_c _ _ _ _ h hz).mono ?_
    intro e w1 hq
    obtain ⟨rfl, hb1⟩ := hq.toB
    go_wp2
    go_ret2
    exact GivesS2.err HS.out hb1

set_option maxHeartbeats 400000 in
theorem PlainR_c (A A2 : Option Addr) (c c2 : Nat) (l : List Rg) (a : List Ar) (w : World) (h : Rgs w A l) (h2 : Ars w A2 a) (hz : ∀ i (h : i < l.length), (l[i]).nm.size ≤ 9223372036854775807) :
    Calls Tryd.prog 12 #[.slice A l.length c, .slice A2 a.length c2] w (GivesA2 (togetherS (opOf 1) l a []) w) := by
  go_enter Tryd.func12, Tryd.ntmps12
  go_wp2_with fail
  refine (combined_c 1 (.inl rfl) _ _ none _ _ 0 l a [] w h h2 Rd2.nil hz).mono ?_
  rintro e w1 ⟨A1, c1, rfl, hx, hb⟩
  go_wp2
  go_ret2
  exact ⟨A1, c1, rfl, hx, hb⟩

set_option maxHeartbeats 400000 in
theorem UnionR_c (A A2 A3 : Option Addr) (c c2 c3 : Nat) (l : List Rg) (a b : List Ar) (w : World) (h : Rgs w A l) (h2 : Ars w A2 a) (h3 : Ars w A3 b) (hz : ∀ i (h : i < l.length), (l[i]).nm.size ≤ 9223372036854775807) :
    Calls Tryd.prog 15 #[.slice A l.length c, .slice A2 a.length c2, .slice A3 b.length c3] w (GivesA2 (togetherS (opOf 1) l a b) w) := by
  go_enter Tryd.func15, Tryd.ntmps15
  go_wp2_with fail
  refine (combined_c 1 (.inl rfl) _ _ _ _ _ _ l a b w h h2 h3 hz).mono ?_
  rintro e w1 ⟨A1, c1, rfl, hx, hb⟩
  go_wp2
  go_ret2
  exact ⟨A1, c1, rfl, hx, hb⟩

set_option maxHeartbeats 400000 in
theorem MeetR_c (A A2 A3 : Option Addr) (c c2 c3 : Nat) (l : List Rg) (a b : List Ar) (w : World) (h : Rgs w A l) (h2 : Ars w A2 a) (h3 : Ars w A3 b) (hz : ∀ i (h : i < l.length), (l[i]).nm.size ≤ 9223372036854775807) :
    Calls Tryd.prog 17 #[.slice A l.length c, .slice A2 a.length c2, .slice A3 b.length c3] w (GivesA2 (togetherS (opOf 2) l a b) w) := by
  go_enter Tryd.func17, Tryd.ntmps17
  go_wp2_with fail
  refine (combined_c 2 (.inr (.inl rfl)) _ _ _ _ _ _ l a b w h h2 h3 hz).mono ?_
  rintro e w1 ⟨A1, c1, rfl, hx, hb⟩
  go_wp2
  go_ret2
  exact ⟨A1, c1, rfl, hx, hb⟩

set_option maxHeartbeats 400000 in
theorem WithoutR_c (A A2 A3 : Option Addr) (c c2 c3 : Nat) (l : List Rg) (a b : List Ar) (w : World) (h : Rgs w A l) (h2 : Ars w A2 a) (h3 : Ars w A3 b) (hz : ∀ i (h : i < l.length), (l[i]).nm.size ≤ 9223372036854775807) :
    Calls Tryd.prog 19 #[.slice A l.length c, .slice A2 a.length c2, .slice A3 b.length c3] w (GivesA2 (togetherS (opOf 3) l a b) w) := by
  go_enter Tryd.func19, Tryd.ntmps19
  go_wp2_with fail
  refine (combined_c 3 (.inr (.inr rfl)) _ _ _ _ _ _ l a b w h h2 h3 hz).mono ?_
  rintro e w1 ⟨A1, c1, rfl, hx, hb⟩
  go_wp2
  go_ret2
  exact ⟨A1, c1, rfl, hx, hb⟩
end Go.Proofs.YtnjepmbonhmdnaaDoor
