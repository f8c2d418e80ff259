/- Package num: Over. Package num: Of, Whole, Parse, From, Lowest, Cmp, Add of quotients. -/
import Derived.Test.YtlcfgejaeecclaaGreatDoorJq15
import Derived.Test.YtlcfgejaeecclaaGreatDoorJq03
namespace Go.Proofs.YtlcfgejaeecclaaGreatDoor
open Go.RowKit Dw

/-- Whether a number is written as the one word 1. -/
theorem one_cases {w : World} {A : Option Addr} {c m : Nat} (h : Nt w A c m) (hm : 0 < m) :
    (m = 1 ∧ (words B32 m).length = 1 ∧ ∃ b o, A = some ⟨b, o, none⟩ ∧ b < w.heap.size ∧ w.cell? ⟨b, o, none⟩ = some (.int .u32 1)) ∨
    (m ≠ 1 ∧ (words B32 m).length ≠ 1) ∨ (m ≠ 1 ∧ (words B32 m).length = 1 ∧ ∃ b o, A = some ⟨b, o, none⟩ ∧ b < w.heap.size ∧ w.cell? ⟨b, o, none⟩ = some (.int .u32 (m : Int))) := by
  by_cases hl : (words B32 m).length = 1
  · have hw := words_one hl
    have hr := h.rd
    rw [hw] at hr
    obtain ⟨b, o, hA, hb, hc⟩ := hr.at_ (by simp)
    have hc0 := hc 0 (by simp)
    rw [u32V_eq] at hc0
    simp only [List.getElem_cons_zero, Nat.add_zero] at hc0
    by_cases h1 : m = 1
    · subst h1
      exact .inl ⟨rfl, hl, b, o, hA, hb, hc0⟩
    · exact .inr (.inr ⟨h1, hl, b, o, hA, hb, hc0⟩)
  · refine .inr (.inl ⟨fun e => ?_, hl⟩)
    rw [e, one_words] at hl
    exact hl rfl
theorem lowP_zero (d : Nat) (h : 0 < d) : lowP 0 d = (0, 1) := by
  unfold lowP
  rw [Nat.gcd_zero_left, Nat.zero_div, Nat.div_self h]
theorem lowP_one (n d : Nat) (h : Nat.gcd n d = 1) : lowP n d = (n, d) := by
  unfold lowP
  rw [h, Nat.div_one, Nat.div_one]
set_option maxHeartbeats 1000000 in
theorem Over_zero (A A2 : Option Addr) (c c2 d : Nat) (ng : Bool) (w : World) : Calls Tryz.prog 176 #[inV ng A c 0, ntV A2 c2 d] w (GivesR false 0 1 w) := by
  go_enter Tryz.func176, Tryz.ntmps176
  go_wp2_with fail
  with_reducible refine (One_c _).mono ?_
  rintro e w1 ⟨A5, c5, rfl, h5, hb⟩
  obtain ⟨hc, hf⟩ := bcellK hb
  have hz : w.heap.size + 1 < w1.heap.size := by have := hb.size; simp at this; omega
  have c0 : w1.cell? ⟨w.heap.size + 1, 0, none⟩ = some (.bool false) := by rw [hc _ _ (by simp)]; go_simp
  have c1 : w1.cell? ⟨w.heap.size + 1, 1, none⟩ = some (.slice none 0 0) := by rw [hc _ _ (by simp)]; go_simp
  have c2 : w1.cell? ⟨w.heap.size + 1, 2, none⟩ = some (.slice none 0 0) := by rw [hc _ _ (by simp)]; go_simp
  have HB : Hid (Below w.heap.size w w1) := (((Below.refl w.heap.size w).alloc (Nat.le_refl _) _).alloc (by simp) _).trans (hb.mono (by simp; omega))
  go_wp2
  refine bodyPost_ret (v := raV false none 0 0 A5 c5 1) (by simp [results, Tryz.results176, go_sem, hc]; rfl) rfl ⟨none, 0, A5, c5, rfl, Nt.zero _, ?_, ?_⟩
  · exact h5.set3 c0 c1 c2 (nb_ _) (ns_ _ _ _) (ns_ _ _ _) _ _ _
  · exact ((HB.out.setCell (by simp) _).setCell (by simp) _).setCell (by simp) _
theorem pos_len {n : Nat} (h : 0 < n) : 0 < (words B32 n).length := by
  rcases Nat.eq_zero_or_pos (words B32 n).length with e | e
  · have := (words_nil B32_gt (n := n)).1 (List.eq_nil_of_length_eq_zero e)
    omega
  · exact e
set_option maxHeartbeats 1000000 in
theorem Over_same (A A2 : Option Addr) (c c2 n : Nat) (ng : Bool) (w : World) (h : Nt w A c n) (h2 : Nt w A2 c2 1) (h0 : 0 < n) : Calls Tryz.prog 176 #[inV ng A c n, ntV A2 c2 1] w (GivesR ng n 1 w) := by
  have hl := pos_len h0
  have hlb : (((words B32 n).length : Int) == 0) = false := by simp; intro e; rw [e] at hl; simp at hl
  rcases one_cases h2 (by omega) with ⟨_, hl1, b, o, rfl, hb, hcell⟩ | ⟨e, _⟩ | ⟨e, _⟩
  · have e2 : ntV (some ⟨b, o, none⟩) c2 1 = .slice (some ⟨b, o, none⟩) 1 c2 := by
      show Value.slice _ (words B32 1).length c2 = _
      rw [hl1]
    have HL1 := Lib.hid hl1
    clear hl1
    rw [e2]
    have E2 := Lib.hid e2
    clear e2 hl
    go_enter Tryz.func176, Tryz.ntmps176
    go_wp2
    refine bodyPost_ret (v := raV ng A c n (some ⟨b, o, none⟩) c2 1) (by simp [results, Tryz.results176, go_sem]; rfl) rfl ⟨A, c, _, c2, rfl, ?_, ?_, ?_⟩
    · exact (h.alloc _).alloc _
    · exact (h2.alloc _).alloc _
    · exact ((Below.refl w.heap.size w).alloc (Nat.le_refl _) _).alloc (by simp) _
  · exact absurd rfl e
  · exact absurd rfl e
set_option maxRecDepth 100000 in
set_option maxHeartbeats 2000000 in
theorem Over_gen (A A2 : Option Addr) (c c2 n d : Nat) (ng : Bool) (w : World) (h : Nt w A c n) (h2 : Nt w A2 c2 d) (h0 : 0 < n) (hd0 : 0 < d) (hd : d ≠ 1) (hn : (words B32 n).length ≤ 400000) (hm : (words B32 d).length ≤ 400000) :
    Calls Tryz.prog 176 #[inV ng A c n, ntV A2 c2 d] w (GivesR ng (lowP n d).1 (lowP n d).2 w) := by
  have hl := pos_len h0
  have hl2 := pos_len hd0
  have hlb : (((words B32 n).length : Int) == 0) = false := by simp; intro e; rw [e] at hl; simp at hl
  have HGB : Hid (Nat.gcd n d ≤ d) := Nat.gcd_le_right n hd0
  have hg0 : 0 < Nat.gcd n d := Nat.gcd_pos_of_pos_right n hd0
  have hgl : (words B32 (Nat.gcd n d)).length ≤ 400000 := Nat.le_trans (len_le_of_le B32_gt HGB.out) hm
  have HLP : Hid (lowP n d = (n / Nat.gcd n d, d / Nat.gcd n d)) := rfl
  rw [HLP.out]
  obtain ⟨G, hG⟩ : ∃ G, Nat.gcd n d = G := ⟨_, rfl⟩
  rw [hG] at hg0 hgl ⊢
  have HG := Lib.hid hG
  clear hG
  have HQ1 := Lib.hid (fun W A5 c5 (q : Nt W A c n) (q2 : Nt W A5 c5 G) => Div_c A A5 c c5 n G W q q2 hn hg0)
  have HQ2 := Lib.hid (fun W A5 c5 (q : Nt W A2 c2 d) (q2 : Nt W A5 c5 G) => Div_c A2 A5 c2 c5 d G W q q2 hm hg0)
  have hgc := fun W (q : Nt W A c n) (q2 : Nt W A2 c2 d) => gcd_c A A2 c c2 n d W q q2 hn hm
  rw [HG.out] at hgc
  have HGC := Lib.hid hgc
  clear hgc
  have CS : Hid ((((words B32 d).length : Int) == 1) = false ∨ ((((words B32 d).length : Int) == 1) = true ∧ ((d : Int) == 1) = false ∧ ∃ b o, A2 = some ⟨b, o, none⟩ ∧ b < w.heap.size ∧ w.cell? ⟨b, o, none⟩ = some (.int .u32 (d : Int)))) := by
    rcases one_cases h2 hd0 with ⟨e, _⟩ | ⟨_, e⟩ | ⟨e, hl1, b, o, hA, hb, hc⟩
    · exact absurd e hd
    · exact .inl (by simp; omega)
    · exact .inr ⟨by simp; omega, by simp; omega, b, o, hA, hb, hc⟩
  clear hd
  rcases CS.out with hc1 | ⟨hc1, hc2, b, o, rfl, hb, hcell⟩
  all_goals
    go_enter Tryz.func176, Tryz.ntmps176
    go_wp2_with fail
    with_reducible refine (HGC.out _ ((h.alloc _).alloc _) ((h2.alloc _).alloc _)).mono ?_
    rintro e w1 ⟨A5, c5, rfl, h5, hb5⟩
    obtain ⟨hc, hf⟩ := bcellK hb5
    have hz : w.heap.size + 1 < w1.heap.size := by have := hb5.size; simp at this; omega
    have k0 : w1.cell? ⟨w.heap.size + 1, 0, none⟩ = some (.bool false) := by rw [hc _ _ (by simp)]; go_simp
    have k1 : w1.cell? ⟨w.heap.size + 1, 1, none⟩ = some (.slice none 0 0) := by rw [hc _ _ (by simp)]; go_simp
    have k2 : w1.cell? ⟨w.heap.size + 1, 2, none⟩ = some (.slice none 0 0) := by rw [hc _ _ (by simp)]; go_simp
    have HB : Hid (Below w.heap.size w w1) := (((Below.refl w.heap.size w).alloc (Nat.le_refl _) _).alloc (by simp) _).trans (hb5.mono (by simp; omega))
    have hn1 := ((h.alloc _).alloc _).below hb5
    have hd1 := ((h2.alloc _).alloc _).below hb5
    have CS2 : Hid ((G = 1 ∧ (((words B32 G).length : Int) == 1) = true ∧ 0 < (words B32 G).length ∧ ∃ b o, A5 = some ⟨b, o, none⟩ ∧ b < w1.heap.size ∧ w1.cell? ⟨b, o, none⟩ = some (.int .u32 1)) ∨ (((words B32 G).length : Int) == 1) = false ∨
        ((((words B32 G).length : Int) == 1) = true ∧ 0 < (words B32 G).length ∧ ((G : Int) == 1) = false ∧ ∃ b o, A5 = some ⟨b, o, none⟩ ∧ b < w1.heap.size ∧ w1.cell? ⟨b, o, none⟩ = some (.int .u32 (G : Int)))) := by
      rcases one_cases h5 hg0 with ⟨e, hl1, b, o, hA, hb, hc⟩ | ⟨_, e⟩ | ⟨e, hl1, b, o, hA, hb, hc⟩
      · exact .inl ⟨e, by simp; omega, by omega, b, o, hA, hb, hc⟩
      · exact .inr (.inl (by simp; omega))
      · exact .inr (.inr ⟨by simp; omega, by omega, by simp; omega, b, o, hA, hb, hc⟩)
    clear hb5
    rcases CS2.out with ⟨hG1, hg1, hg2, b2, o2, hA5, hb2, hcell2⟩ | hg1 | ⟨hg1, hg2, hg3, b2, o2, hA5, hb2, hcell2⟩
    · subst hA5
      have HG1 := Lib.hid hG1
      clear hG1 hc1
      go_wp2
      rw [HG1.out, Nat.div_one, Nat.div_one]
      refine bodyPost_ret (v := raV ng A c n _ c2 d) (by simp [results, Tryz.results176, go_sem, hc]) rfl ⟨A, c, _, c2, rfl, hn1.set3 k0 k1 k2 (nb_ _) (ns_ _ _ _) (ns_ _ _ _) _ _ _, hd1.set3 k0 k1 k2 (nb_ _) (ns_ _ _ _) (ns_ _ _ _) _ _ _, ?_⟩
      exact ((HB.out.setCell (by simp) _).setCell (by simp) _).setCell (by simp) _
    · clear hc1
      go_wp2_with fail
      with_reducible refine (HQ1.out _ _ _ hn1 h5).mono ?_
      rintro e w2 ⟨A6, c6, A7, c7, rfl, h6, _, hb6⟩
      have hd2 := hd1.below hb6
      have h52 := h5.below hb6
      have HB2 := Lib.hid (below_trans HB.out hb6)
      have hz2 : w.heap.size + 1 < w2.heap.size := Nat.lt_of_lt_of_le hz hb6.size
      have m0 : w2.cell? ⟨w.heap.size + 1, 0, none⟩ = some (.bool false) := (hb6.cell (p := ⟨w.heap.size + 1, 0, none⟩) hz).trans k0
      have m1 : w2.cell? ⟨w.heap.size + 1, 1, none⟩ = some (.slice none 0 0) := (hb6.cell (p := ⟨w.heap.size + 1, 1, none⟩) hz).trans k1
      have m2 : w2.cell? ⟨w.heap.size + 1, 2, none⟩ = some (.slice none 0 0) := (hb6.cell (p := ⟨w.heap.size + 1, 2, none⟩) hz).trans k2
      have f0 : ∀ i, w2.frozen? ⟨w.heap.size + 1, i, none⟩ = false := fun i => by
        rw [hb6.frozen (p := ⟨w.heap.size + 1, i, none⟩) hz, hf _ _ (by simp)]; go_simp
      have n0 : w2.cell? ⟨w.heap.size, 0, none⟩ = some (.bool ng) := by
        rw [hb6.cell (p := ⟨w.heap.size, 0, none⟩) (by show w.heap.size < _; omega), hc _ _ (by simp; omega)]; go_simp
      clear hb6 k0 k1 k2 hc hf HB
      go_wp2_with fail
      with_reducible refine (HQ2.out _ _ _ hd2 h52).mono ?_
      rintro e w3 ⟨A8, c8, A9, c9, rfl, h8, _, hb8⟩
      have h63 := h6.below hb8
      have HB3 := Lib.hid (below_trans HB2.out hb8)
      have k0 : w3.cell? ⟨w.heap.size + 1, 0, none⟩ = some (.bool false) := (hb8.cell (p := ⟨w.heap.size + 1, 0, none⟩) hz2).trans m0
      have k1 : w3.cell? ⟨w.heap.size + 1, 1, none⟩ = some (.slice none 0 0) := (hb8.cell (p := ⟨w.heap.size + 1, 1, none⟩) hz2).trans m1
      have k2 : w3.cell? ⟨w.heap.size + 1, 2, none⟩ = some (.slice none 0 0) := (hb8.cell (p := ⟨w.heap.size + 1, 2, none⟩) hz2).trans m2
      have f3 : ∀ i, w3.frozen? ⟨w.heap.size + 1, i, none⟩ = false := fun i => (hb8.frozen (p := ⟨w.heap.size + 1, i, none⟩) hz2).trans (f0 i)
      have n3 : w3.cell? ⟨w.heap.size, 0, none⟩ = some (.bool ng) := (hb8.cell (p := ⟨w.heap.size, 0, none⟩) (by show w.heap.size < _; omega)).trans n0
      have hz3 : w.heap.size + 1 < w3.heap.size := Nat.lt_of_lt_of_le hz2 hb8.size
      clear hb8 m0 m1 m2 n0 f0 HB2
      go_wp2
      refine bodyPost_ret (v := raV ng A6 c6 (n / G) A8 c8 (d / G)) (by simp [results, Tryz.results176, go_sem, k0, k1, k2]) rfl ⟨A6, c6, A8, c8, rfl, h63.set3 k0 k1 k2 (nb_ _) (ns_ _ _ _) (ns_ _ _ _) _ _ _, h8.set3 k0 k1 k2 (nb_ _) (ns_ _ _ _) (ns_ _ _ _) _ _ _, ?_⟩
      exact ((HB3.out.setCell (by simp) _).setCell (by simp) _).setCell (by simp) _
    · subst hA5
      clear hc1
      go_wp2_with fail
      with_reducible refine (HQ1.out _ _ _ hn1 h5).mono ?_
      rintro e w2 ⟨A6, c6, A7, c7, rfl, h6, _, hb6⟩
      have hd2 := hd1.below hb6
      have h52 := h5.below hb6
      have HB2 := Lib.hid (below_trans HB.out hb6)
      have hz2 : w.heap.size + 1 < w2.heap.size := Nat.lt_of_lt_of_le hz hb6.size
      have m0 : w2.cell? ⟨w.heap.size + 1, 0, none⟩ = some (.bool false) := (hb6.cell (p := ⟨w.heap.size + 1, 0, none⟩) hz).trans k0
      have m1 : w2.cell? ⟨w.heap.size + 1, 1, none⟩ = some (.slice none 0 0) := (hb6.cell (p := ⟨w.heap.size + 1, 1, none⟩) hz).trans k1
      have m2 : w2.cell? ⟨w.heap.size + 1, 2, none⟩ = some (.slice none 0 0) := (hb6.cell (p := ⟨w.heap.size + 1, 2, none⟩) hz).trans k2
      have f0 : ∀ i, w2.frozen? ⟨w.heap.size + 1, i, none⟩ = false := fun i => by
        rw [hb6.frozen (p := ⟨w.heap.size + 1, i, none⟩) hz, hf _ _ (by simp)]; go_simp
      have n0 : w2.cell? ⟨w.heap.size, 0, none⟩ = some (.bool ng) := by
        rw [hb6.cell (p := ⟨w.heap.size, 0, none⟩) (by show w.heap.size < _; omega), hc _ _ (by simp; omega)]; go_simp
      clear hb6 k0 k1 k2 hc hf HB
      go_wp2_with fail
      with_reducible refine (HQ2.out _ _ _ hd2 h52).mono ?_
      rintro e w3 ⟨A8, c8, A9, c9, rfl, h8, _, hb8⟩
      have h63 := h6.below hb8
      have HB3 := Lib.hid (below_trans HB2.out hb8)
      have k0 : w3.cell? ⟨w.heap.size + 1, 0, none⟩ = some (.bool false) := (hb8.cell (p := ⟨w.heap.size + 1, 0, none⟩) hz2).trans m0
      have k1 : w3.cell? ⟨w.heap.size + 1, 1, none⟩ = some (.slice none 0 0) := (hb8.cell (p := ⟨w.heap.size + 1, 1, none⟩) hz2).trans m1
      have k2 : w3.cell? ⟨w.heap.size + 1, 2, none⟩ = some (.slice none 0 0) := (hb8.cell (p := ⟨w.heap.size + 1, 2, none⟩) hz2).trans m2
      have f3 : ∀ i, w3.frozen? ⟨w.heap.size + 1, i, none⟩ = false := fun i => (hb8.frozen (p := ⟨w.heap.size + 1, i, none⟩) hz2).trans (f0 i)
      have n3 : w3.cell? ⟨w.heap.size, 0, none⟩ = some (.bool ng) := (hb8.cell (p := ⟨w.heap.size, 0, none⟩) (by show w.heap.size < _; omega)).trans n0
      have hz3 : w.heap.size + 1 < w3.heap.size := Nat.lt_of_lt_of_le hz2 hb8.size
      clear hb8 m0 m1 m2 n0 f0 HB2
      go_wp2
      refine bodyPost_ret (v := raV ng A6 c6 (n / G) A8 c8 (d / G)) (by simp [results, Tryz.results176, go_sem, k0, k1, k2]) rfl ⟨A6, c6, A8, c8, rfl, h63.set3 k0 k1 k2 (nb_ _) (ns_ _ _ _) (ns_ _ _ _) _ _ _, h8.set3 k0 k1 k2 (nb_ _) (ns_ _ _ _) (ns_ _ _ _) _ _ _, ?_⟩
      exact ((HB3.out.setCell (by simp) _).setCell (by simp) _).setCell (by simp) _
theorem Over_c (A A2 : Option Addr) (c c2 n d : Nat) (ng : Bool) (w : World) (h : Nt w A c n) (h2 : Nt w A2 c2 d) (hd0 : 0 < d) (hn : (words B32 n).length ≤ 400000) (hm : (words B32 d).length ≤ 400000) :
    Calls Tryz.prog 176 #[inV ng A c n, ntV A2 c2 d] w (GivesR (ng && decide (n ≠ 0)) (lowP n d).1 (lowP n d).2 w) := by
  by_cases h0 : n = 0
  · subst h0
    rw [lowP_zero d hd0]
    have := Over_zero A A2 c c2 d ng w
    simpa using this
  · have e : (ng && decide (n ≠ 0)) = ng := by simp [h0]
    rw [e]
    by_cases h1 : d = 1
    · subst h1
      rw [lowP_one n 1 (Nat.gcd_one_right n)]
      exact Over_same A A2 c c2 n ng w h h2 (by omega)
    · exact Over_gen A A2 c c2 n d ng w h h2 (by omega) hd0 h1 hn hm
end Go.Proofs.YtlcfgejaeecclaaGreatDoor

namespace Go.Proofs.YtlcfgejaeecclaaGreatDoor
open Go.RowKit Dw

set_option maxHeartbeats 1000000 in
theorem Of_c (n : Nat) (w : World) (h : n ≤ 1000000) : Calls Tryz.prog 148 #[.int .i64 (n : Int)] w (GivesI false n w) := by
  go_enter Tryz.func148, Tryz.ntmps148
  go_wp2_with fail
  with_reducible refine (natOf_c n _ (by omega)).mono ?_
  rintro e w1 ⟨A5, c5, rfl, h5, hb⟩
  obtain ⟨hc, hf⟩ := bcellK hb
  have hz : w.heap.size < w1.heap.size := by have := hb.size; simp at this; omega
  have k0 : w1.cell? ⟨w.heap.size, 0, none⟩ = some (.bool false) := by rw [hc _ _ (by simp)]; go_simp
  have k1 : w1.cell? ⟨w.heap.size, 1, none⟩ = some (.slice none 0 0) := by rw [hc _ _ (by simp)]; go_simp
  have HB : Hid (Below w.heap.size w w1) := ((Below.refl w.heap.size w).alloc (Nat.le_refl _) _).trans (hb.mono (by simp))
  go_wp2
  refine bodyPost_ret (v := inV false A5 c5 n) (by simp [results, Tryz.results148, go_sem, hc]) rfl ⟨A5, c5, rfl, ?_, ?_⟩
  · exact h5.set2 k0 k1 (nb_ _) (ns_ _ _ _) _ _
  · exact (HB.out.setCell (by simp) _).setCell (by simp) _
set_option maxHeartbeats 1000000 in
theorem Whole_c (n : Nat) (w : World) (h : n ≤ 1000000) : Calls Tryz.prog 112 #[.int .i64 (n : Int)] w (GivesR false n 1 w) := by
  go_enter Tryz.func112, Tryz.ntmps112
  go_wp2_with fail
  with_reducible refine (Of_c n _ h).mono ?_
  rintro e w1 ⟨A5, c5, rfl, h5, hb⟩
  go_wp2_with fail
  with_reducible refine (One_c _).mono ?_
  rintro e w2 ⟨A6, c6, rfl, h6, hb6⟩
  have h56 := h5.below hb6
  have hb7 := below_trans hb hb6
  obtain ⟨hc, hf⟩ := bcellK hb7
  have hz : w.heap.size < w2.heap.size := by have := hb7.size; simp at this; omega
  have k0 : w2.cell? ⟨w.heap.size, 0, none⟩ = some (.bool false) := by rw [hc _ _ (by simp)]; go_simp
  have k1 : w2.cell? ⟨w.heap.size, 1, none⟩ = some (.slice none 0 0) := by rw [hc _ _ (by simp)]; go_simp
  have k2 : w2.cell? ⟨w.heap.size, 2, none⟩ = some (.slice none 0 0) := by rw [hc _ _ (by simp)]; go_simp
  have HB : Hid (Below w.heap.size w w2) := ((Below.refl w.heap.size w).alloc (Nat.le_refl _) _).trans (hb7.mono (by simp))
  go_wp2
  refine bodyPost_ret (v := raV false A5 c5 n A6 c6 1) (by simp [results, Tryz.results112, go_sem, hc]) rfl ⟨A5, c5, A6, c6, rfl, ?_, ?_, ?_⟩
  · exact h56.set3 k0 k1 k2 (nb_ _) (ns_ _ _ _) (ns_ _ _ _) _ _ _
  · exact h6.set3 k0 k1 k2 (nb_ _) (ns_ _ _ _) (ns_ _ _ _) _ _ _
  · exact ((HB.out.setCell (by simp) _).setCell (by simp) _).setCell (by simp) _
theorem byte45 (c : UInt8) : (45 == c) = decide (c.toNat = 45) := by
  have h : ∀ n : Nat, n < 256 → ((45 : UInt8) == UInt8.ofNat n) = decide ((UInt8.ofNat n).toNat = 45) := by decide +kernel
  have := h c.toNat c.toNat_lt
  simpa using this
/-- strings.CutPrefix at "-". -/
theorem cut_c (s : ByteArray) (w : World) : Calls Tryz.prog 140 #[.string s, .string ⟨#[45]⟩] w (Gives (.tuple #[.string (absN s), .bool (negB s)]) w) := by
  have h := Any.strings_CutPrefix Tryz.lays103 s ⟨#[45]⟩ w
  change Calls Tryz.prog 140 _ _ _ at h
  have e1 : Lib.hasPrefix s.data.toList [45] = negB s := by
    unfold Lib.hasPrefix negB
    rw [Lib.size_eq]
    cases s.data.toList with
    | nil => rfl
    | cons a l =>
      have : (45 == a) = decide (a.toNat = 45) := byte45 a
      simp [List.isPrefixOf, this]
  have e2 : (⟨(Lib.trimPrefix s.data.toList [45]).toArray⟩ : ByteArray) = absN s := by
    unfold Lib.trimPrefix absN absL
    rw [e1]
    cases negB s <;> simp
  refine h.mono fun _ _ ⟨he, hw⟩ => ⟨?_, hw.symm⟩
  rw [he]
  show Ending.returned (.tuple #[.string ⟨(Lib.trimPrefix s.data.toList [45]).toArray⟩, .bool (Lib.hasPrefix s.data.toList [45])]) = _
  rw [e1, e2]
/-- A box in memory: a block that holds just these cells. -/
def Bx (w : World) (g : Nat) (cs : Array Value) (T : TypeId) : Prop := w.heap[g]? = some (.cells cs T (0, 0))
section
variable {w w' : World} {g : Nat} {cs : Array Value} {T : TypeId}
theorem Bx.lt (h : Bx w g cs T) : g < w.heap.size := (Array.getElem?_eq_some_iff.1 h).1
theorem Bx.cell (h : Bx w g cs T) {i : Nat} {v : Value} (hi : cs[i]? = some v) : w.cell? ⟨g, i, none⟩ = some v := by
  rw [cell_of_row w g i _ _ _ h]; exact hi
theorem Bx.frozen (h : Bx w g cs T) (i : Nat) : w.frozen? ⟨g, i, none⟩ = false := frozen_of_row w g i _ _ h
theorem Bx.below (h : Bx w g cs T) (hb : Below w.heap.size w w') : Bx w' g cs T := (hb.block g h.lt).trans h
theorem Bx.drew (h : Bx w g cs T) : Bx w.drew g cs T := h
theorem Bx.drewN (h : Bx w g cs T) (n : Nat) : Bx (w.drewN n) g cs T := h
theorem Bx.alloc (h : Bx w g cs T) (o : Obj) : Bx (w.alloc o) g cs T := (Below.heap_alloc w o g h.lt).trans h
theorem Bx.new (w : World) (cs : Array Value) (T : TypeId) : Bx (w.alloc (.cells cs T)) w.heap.size cs T := heap_alloc_new w _
theorem Bx.new1 (w : World) (o : Obj) (cs : Array Value) (T : TypeId) : Bx ((w.alloc o).alloc (.cells cs T)) (w.heap.size + 1) cs T := by
  have := Bx.new (w.alloc o) cs T
  rwa [show (w.alloc o).heap.size = w.heap.size + 1 by simp] at this
theorem Bx.new2 (w : World) (o o2 : Obj) (cs : Array Value) (T : TypeId) : Bx (((w.alloc o).alloc o2).alloc (.cells cs T)) (w.heap.size + 1 + 1) cs T := by
  have := Bx.new1 (w.alloc o) o2 cs T
  rwa [show (w.alloc o).heap.size = w.heap.size + 1 by simp] at this
end
/-- The zero value of a quotient. -/
abbrev zRat : Array Value := #[.bool false, .slice none 0 0, .slice none 0 0]
theorem Nt.setR {w : World} {A : Option Addr} {c n R : Nat} {T : TypeId} (h : Nt w A c n) (hb : Bx w R zRat T) (u0 u1 u2 : Value) : Nt (((w.setCell ⟨R, 0, none⟩ u0).setCell ⟨R, 1, none⟩ u1).setCell ⟨R, 2, none⟩ u2) A c n :=
  h.set3 (hb.cell (i := 0) rfl) (hb.cell (i := 1) rfl) (hb.cell (i := 2) rfl) (nb_ _) (ns_ _ _ _) (ns_ _ _ _) _ _ _
/-- The sign of a number as package num reads it. -/
def sgB (s : ByteArray) : Bool := negB s && decide (valS (absN s) ≠ 0)
set_option maxHeartbeats 1000000 in
theorem Parse_c (s : ByteArray) (w : World) (hd : (absN s).data.toList.all dgB = true) (hs : (absN s).size ≤ 2000) : Calls Tryz.prog 143 #[.string s] w (GivesI (sgB s) (valS (absN s)) w) := by
  have HS : Hid ((valS (absN s) = 0 ∧ sgB s = false) ∨ (0 < (words B32 (valS (absN s))).length ∧ sgB s = negB s)) := by
    by_cases h0 : valS (absN s) = 0
    · exact .inl ⟨h0, by simp [sgB, h0]⟩
    · exact .inr ⟨pos_len (by omega), by simp [sgB, h0]⟩
  have HN := Lib.hid (fun W => natText_c (absN s) W hd hs)
  have HC := Lib.hid (fun W => cut_c s W)
  clear hd hs
  generalize absN s = t at *
  generalize valS t = n at *
  generalize sgB s = sg at *
  generalize negB s = ng at *
  rcases HS.out with ⟨rfl, rfl⟩ | ⟨hl, rfl⟩
  case' inr => cases sg
  case' inl => cases ng
  all_goals
    clear HS
    go_enter Tryz.func143, Tryz.ntmps143
    go_wp2_with fail
    with_reducible refine (HC.out _).mono ?_
    rintro e w1 ⟨rfl, rfl⟩
    go_wp2_with fail
    with_reducible refine (HN.out _).mono ?_
    rintro e w2 ⟨A5, c5, rfl, h5, hb⟩
    obtain ⟨hc, hf⟩ := bcellK hb
    have hz : w.heap.size < w2.heap.size := by have := hb.size; simp at this; omega
    have k0 : w2.cell? ⟨w.heap.size, 0, none⟩ = some (.bool false) := by rw [hc _ _ (by simp)]; go_simp
    have k1 : w2.cell? ⟨w.heap.size, 1, none⟩ = some (.slice none 0 0) := by rw [hc _ _ (by simp)]; go_simp
    have HB : Hid (Below w.heap.size w w2) := ((Below.refl w.heap.size w).alloc (Nat.le_refl _) _).trans (hb.mono (by simp))
    clear HC HN
    go_wp2
    refine bodyPost_ret (v := inV _ A5 c5 _) (by first | (simp [results, Tryz.results143, go_sem, hc]; done) | (simp [results, Tryz.results143, go_sem, hc]; rfl)) rfl ⟨A5, c5, rfl, ?_, ?_⟩
    · exact h5.set2 k0 k1 (nb_ _) (ns_ _ _ _) _ _
    · exact (HB.out.setCell (by simp) _).setCell (by simp) _
set_option maxRecDepth 100000 in
set_option maxHeartbeats 1000000 in
theorem From_c (nu de : ByteArray) (w : World) (hd : (absN nu).data.toList.all dgB = true) (hs : (absN nu).size ≤ 2000) (hd2 : de.data.toList.all dgB = true) (hs2 : de.size ≤ 2000) :
    Calls Tryz.prog 109 #[.agg #[.string nu, .string de]] w (GivesR (sgB nu) (valS (absN nu)) (valS de) w) := by
  have HP := Lib.hid (fun W => Parse_c nu W hd hs)
  have HN := Lib.hid (fun W => natText_c de W hd2 hs2)
  clear hd hs hd2 hs2
  generalize valS (absN nu) = n at *
  generalize sgB nu = sg at *
  generalize valS de = d at *
  go_enter Tryz.func109, Tryz.ntmps109
  go_wp2
  have HX : Hid (Bx ((w.alloc (.cells #[.string nu, .string de] 50)).alloc (.cells zRat 175)) w.heap.size #[.string nu, .string de] 50) := (Bx.new _ _ _).alloc _
  have HR : Hid (Bx ((w.alloc (.cells #[.string nu, .string de] 50)).alloc (.cells zRat 175)) (w.heap.size + 1) zRat 175) := Bx.new1 _ _ _ _
  have HB : Hid (Below w.heap.size w ((w.alloc (.cells #[.string nu, .string de] 50)).alloc (.cells zRat 175))) := ((Below.refl w.heap.size w).alloc (Nat.le_refl _) _).alloc (by simp) _
  go_region_held3 (fun w' => w'.cell? ⟨w.heap.size, 0, none⟩ = some (.string nu) ∧ w'.cell? ⟨w.heap.size, 1, none⟩ = some (.string de)) ((refine ⟨?_, ?_⟩ <;> first | with_reducible assumption | go_simp))
    (first
      | ((go_at_call 143; (with_reducible refine (HP.out _).mono ?_); rintro e w1 ⟨A5, c5, rfl, h5, hb⟩; have HX1 := Lib.hid (HX.out.drew.below hb); have HR1 := Lib.hid (HR.out.drew.below hb); have HB1 := Lib.hid ((below_drewN HB.out 1).trans (hb.mono HB.out.size)); have a0 := HX1.out.cell (i := 0) rfl; have a1 := HX1.out.cell (i := 1) rfl; clear hb))
      | ((go_at_call 144; (with_reducible refine (HN.out _).mono ?_); rintro e w2 ⟨A6, c6, rfl, h6, hb6⟩; have h56 := h5.below hb6; have HX2 := Lib.hid (HX1.out.below hb6); have HR2 := Lib.hid (HR1.out.below hb6); have HB2 := Lib.hid (below_trans HB1.out hb6); have a2 := HX2.out.cell (i := 0) rfl; have a3 := HX2.out.cell (i := 1) rfl; have r0 := HR2.out.cell (i := 0) rfl; have r1 := HR2.out.cell (i := 1) rfl; have r2 := HR2.out.cell (i := 2) rfl; have fr := HR2.out.frozen; have rl := HR2.out.lt; clear hb6)))
  clear HX HR HB HX1 HR1 HB1 a0 a1 h5
  go_wp2
  refine bodyPost_ret (v := raV sg A5 c5 n A6 c6 d) (by simp [results, Tryz.results109, go_sem, r0, r1, r2]) rfl ⟨A5, c5, A6, c6, rfl, h56.setR HR2.out _ _ _, h6.setR HR2.out _ _ _, ?_⟩
  exact ((HB2.out.setCell (by simp) _).setCell (by simp) _).setCell (by simp) _
/-- Whether a quotient is in lowest terms. -/
def lowB (n d : Nat) : Bool := decide (Nat.gcd n d = 1)
theorem low_cmp {n d : Nat} (hd : 0 < d) : (cmpN (lowP n d).2 d == 0) = lowB n d := by
  unfold lowB lowP
  show (cmpN (d / Nat.gcd n d) d == 0) = _
  have hg := Nat.gcd_pos_of_pos_right n hd
  by_cases h : Nat.gcd n d = 1
  · have e : d / Nat.gcd n d = d := by rw [h]; exact Nat.div_one d
    rw [e, cmpN_eq rfl]
    simp [h]
  · have hlt : d / Nat.gcd n d < d := Nat.div_lt_self hd (by omega)
    rw [cmpN_lt hlt]
    simp [h]
theorem fldDen (W : World) (ng : Bool) (A A2 : Option Addr) (n c m c2 : Nat) : (Instr.field 175 (.agg #[.bool ng, .slice A n c, .slice A2 m c2]) 1).run Tryz.prog W = .ok (.slice A2 m c2) W := by kernel_rfl
set_option maxRecDepth 100000 in
set_option maxHeartbeats 1000000 in
theorem Lowest_c (ng : Bool) (A A2 : Option Addr) (c c2 n d : Nat) (w : World) (h : Nt w A c n) (h2 : Nt w A2 c2 d) (hd : 0 < d) (hn : (words B32 n).length ≤ 400000) (hm : (words B32 d).length ≤ 400000) :
    Calls Tryz.prog 142 #[raV ng A c n A2 c2 d] w (GivesB (.bool (lowB n d)) w) := by
  have hlc := low_cmp (n := n) hd
  have HL2 : Hid ((words B32 (lowP n d).2).length ≤ 400000) := Nat.le_trans (len_le_of_le B32_gt (Nat.div_le_self d _)) hm
  have HO := Lib.hid (fun W (q : Nt W A c n) (q2 : Nt W A2 c2 d) => Over_c A A2 c c2 n d ng W q q2 hd hn hm)
  generalize (ng && decide (n ≠ 0)) = ng2 at *
  generalize (lowP n d).1 = p1 at *
  generalize (lowP n d).2 = p2 at *
  generalize lowB n d = lb at *
  have HLC := Lib.hid hlc
  clear hlc hd
  have HXX : Hid (Bx (w.alloc (.cells #[.bool ng, .slice A (words B32 n).length c, .slice A2 (words B32 d).length c2] 175)) w.heap.size #[.bool ng, .slice A (words B32 n).length c, .slice A2 (words B32 d).length c2] 175) := Bx.new _ _ _
  have HB : Hid (Below w.heap.size w (w.alloc (.cells #[.bool ng, .slice A (words B32 n).length c, .slice A2 (words B32 d).length c2] 175))) := (Below.refl w.heap.size w).alloc (Nat.le_refl _) _
  go_enter Tryz.func142, Tryz.ntmps142
  go_wp2
  have hfd := fldDen
  go_region_held3 (fun w' => w'.cell? ⟨w.heap.size, 0, none⟩ = some (.bool ng) ∧ w'.cell? ⟨w.heap.size, 1, none⟩ = some (.slice A (words B32 n).length c) ∧ w'.cell? ⟨w.heap.size, 2, none⟩ = some (.slice A2 (words B32 d).length c2)) ((refine ⟨?_, ?_, ?_⟩ <;> first | with_reducible assumption | go_simp))
    (first
      | ((go_at_call 176; (with_reducible refine (HO.out _ (Nt.drew (h.alloc _)) (Nt.drew (h2.alloc _))).mono ?_); rintro e w1 ⟨A5, c5, A6, c6, rfl, h5, h6, hb⟩; have HX1 := Lib.hid (HXX.out.drew.below hb); have HB1 := Lib.hid ((below_drewN HB.out 1).trans (hb.mono HB.out.size)); have a0 := HX1.out.cell (i := 0) rfl; have a1 := HX1.out.cell (i := 1) rfl; have a2 := HX1.out.cell (i := 2) rfl; have h21 := (Nt.drew (h2.alloc _)).below hb; clear hb))
      | ((go_at_call 177; (with_reducible refine (Cmp_c A6 A2 c6 c2 p2 d _ h6 h21 (Nat.le_trans HL2.out (by omega))).mono ?_); rintro e w2 ⟨rfl, nd, rfl⟩)))
  clear HXX HB HX1 a0 a1 a2 h5 h6 h21 hfd
  go_wp2
  go_ret
  exact GivesB.mk (vbool HLC.out) (below_drewN HB1.out nd)
end Go.Proofs.YtlcfgejaeecclaaGreatDoor
