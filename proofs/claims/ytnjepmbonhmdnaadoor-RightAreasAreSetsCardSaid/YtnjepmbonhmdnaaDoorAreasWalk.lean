/- The law RightAreasAreSets as a call. -/
import Derived.Test.YtnjepmbonhmdnaaDoorEqual
namespace Go.Proofs.YtnjepmbonhmdnaaDoor
open Go.RowKit Dw

theorem leavesS_err {l : List Rg} {a : List Ar} (h : (leavesS l a).2 ≠ 0) : ∃ f, f ≠ 0 ∧ leavesS l a = ([], f) := by
  unfold leavesS at *
  by_cases h1 : chkR l = 0
  · by_cases h2 : chkA l a = 0
    · simp [h1, h2] at h
    · exact ⟨_, h2, by simp [h1, h2]⟩
  · exact ⟨_, h1, by simp [h1]⟩
theorem leavesS_ok {l : List Rg} {a : List Ar} (h : (leavesS l a).2 = 0) : chkR l = 0 ∧ chkA l a = 0 ∧ leavesS l a = (leavesOf l a, 0) := by
  unfold leavesS at *
  by_cases h1 : chkR l = 0
  · by_cases h2 : chkA l a = 0
    · exact ⟨h1, h2, by simp [h1, h2]⟩
    · simp [h1, h2] at h
  · simp [h1] at h
theorem leavesS_mk {l : List Rg} {a : List Ar} (h1 : chkR l = 0) (h2 : chkA l a = 0) : leavesS l a = (leavesOf l a, 0) := by
  unfold leavesS; simp [h1, h2]
theorem togetherS_mk {op : Bool → Bool → Bool} {l : List Rg} {a b : List Ar} {P : List Ar} (h1 : chkR l = 0) (h2 : chkA l a = 0) (h3 : chkA l b = 0) (hP : (plainOf l fun i => op (lies l a i) (lies l b i)) = P) :
    togetherS op l a b = if 100 < P.length then ([], 2) else (P, 0) := by
  unfold togetherS
  simp [h1, h2, h3, hP]
theorem chkA_nil (l : List Rg) : chkA l [] = 0 := rfl

set_option maxHeartbeats 2000000 in
set_option maxRecDepth 100000 in
theorem law4_c (A A2 A3 : Option Addr) (c c2 c3 : Nat) (l : List Rg) (a b : List Ar) (w : World) (h : Rgs w A l) (h2 : Ars w A2 a) (h3 : Ars w A3 b) (hz : ∀ i (h : i < l.length), (l[i]).nm.size ≤ 9223372036854775807) :
    Calls Tryd.prog 4 #[.slice A l.length c, .slice A2 a.length c2, .slice A3 b.length c3] w (GivesB (.bool true) w) := by
  have hla := leavesS_len l a
  have hlb := leavesS_len l b
  by_cases hfa : (leavesS l a).2 = 0
  · obtain ⟨hR, hAa, hSa⟩ := leavesS_ok hfa
    rw [hSa] at hla
    by_cases hfb : (leavesS l b).2 = 0
    · obtain ⟨_, hAb, hSb⟩ := leavesS_ok hfb
      rw [hSb] at hlb
      clear hfa hfb
      have g := good_of hR
      have hX := Leaves_c A A2 c c2 l a w h h2 hz
      rw [hSa] at hX
      go_enter Tryd.func4, Tryd.ntmps4
      go_wp2_with fail
      refine hX.mono ?_
      rintro e w1 ⟨A4, c4, rfl, hx, hb1⟩
      clear hX
      have hY := Leaves_c A A3 c c3 l b w1 (h.below hb1) (h3.below hb1) hz
      rw [hSb] at hY
      go_wp2_with fail
      refine hY.mono ?_
      rintro e w2 ⟨A5, c5, rfl, hy, hb2'⟩
      have hx1 := hx.below hb2'
      have hb2 := below_trans hb1 hb2'
      clear hY hx hb1 hb2'
      obtain ⟨Pa, hPa⟩ : ∃ P, P = plainOf l (lies l a) := ⟨_, rfl⟩
      obtain ⟨Pb, hPb⟩ : ∃ P, P = plainOf l (lies l b) := ⟨_, rfl⟩
      have hnil : ∀ (x : List Ar), (plainOf l fun i => opOf 1 (lies l x i) (lies l [] i)) = plainOf l (lies l x) := fun x => by
        congr 1
        funext i
        have : lies l [] i = false := liesF_nil l _ i
        simp [opOf, this]
      have hTa := togetherS_mk (op := opOf 1) hR hAa (chkA_nil l) ((hnil a).trans hPa.symm)
      have hTb := togetherS_mk (op := opOf 1) hR hAb (chkA_nil l) ((hnil b).trans hPb.symm)
      have HPa := Lib.hid hPa
      have HPb := Lib.hid hPb
      clear hnil hPa hPb
      have hC := Plain_c A A2 c c2 l a w2 (h.below hb2) (h2.below hb2) hz
      by_cases hna : 100 < Pa.length
      · rw [hTa, if_pos hna] at hC
        clear hTa hTb
        go_wp2_with fail
        refine hC.mono ?_
        rintro e w3 ⟨A6, c6, rfl, _, hb3'⟩
        have hb3 := below_trans hb2 hb3'
        clear hC hb2 hb3' hx1 hy
        go_wp2_with fail
        refine (Plain_c A A3 c c3 l b w3 (h.below hb3) (h3.below hb3) hz).mono ?_
        rintro e w4 ⟨A7, c7, rfl, _, hb4'⟩
        have hb4 := below_trans hb3 hb4'
        clear hb3 hb4'
        generalize togetherS (opOf 1) l b [] = R at *
        go_wp2_with fail
        refine (awake_c _).mono ?_
        rintro e w5 ⟨rfl, hb5'⟩
        have HB := Lib.hid (below_trans hb4 hb5')
        clear hb4 hb5'
        go_wp2
        go_ret
        exact GivesB.mk rfl HB.out
      · rw [hTa, if_neg hna] at hC
        go_wp2_with fail
        refine hC.mono ?_
        rintro e w3 ⟨A6, c6, rfl, hc, hb3'⟩
        have hb3 := below_trans hb2 hb3'
        have hx2 := hx1.below hb3'
        have hy2 := hy.below hb3'
        clear hC hb2 hb3' hx1 hy hTa
        have hD := Plain_c A A3 c c3 l b w3 (h.below hb3) (h3.below hb3) hz
        by_cases hnb : 100 < Pb.length
        · rw [hTb, if_pos hnb] at hD
          clear hTb
          go_wp2_with fail
          refine hD.mono ?_
          rintro e w4 ⟨A7, c7, rfl, _, hb4'⟩
          have hb4 := below_trans hb3 hb4'
          clear hD hb3 hb4' hx2 hy2 hc
          go_wp2_with fail
          refine (awake_c _).mono ?_
          rintro e w5 ⟨rfl, hb5'⟩
          have HB := Lib.hid (below_trans hb4 hb5')
          clear hb4 hb5'
          go_wp2
          go_ret
          exact GivesB.mk rfl HB.out
        · rw [hTb, if_neg hnb] at hD
          go_wp2_with fail
          refine hD.mono ?_
          rintro e w4 ⟨A7, c7, rfl, hd, hb4'⟩
          have hb4 := below_trans hb3 hb4'
          have hx3 := hx2.below hb4'
          have hy3 := hy2.below hb4'
          have hc1 := hc.below hb4'
          clear hD hb3 hb4' hx2 hy2 hc hTb
          have hcA : chkA l Pa = 0 := by
            have hn : (plainOf l (lies l a)).length ≤ 100 := by rw [← HPa.out]; omega
            rw [HPa.out]; exact chkA_plain g hn
          have hback : leavesS l Pa = (leavesOf l a, 0) := by
            rw [leavesS_mk hR hcA, HPa.out, leavesOf_congr fun i hi => lies_plain g hi]
          have hE := Leaves_c A A6 c c6 l Pa w4 (h.below hb4) hc1 hz
          rw [hback] at hE
          clear hback
          go_wp2_with fail
          refine hE.mono ?_
          rintro e w5 ⟨A8, c8, rfl, hbk, hb5'⟩
          have hb5 := below_trans hb4 hb5'
          have hx4 := hx3.below hb5'
          have hy4 := hy3.below hb5'
          have hc2 := hc1.below hb5'
          have hd2 := hd.below hb5'
          clear hE hb4 hb5' hx3 hy3 hc1 hd
          go_wp2_with fail
          refine (equalS_c A8 A4 c8 c4 (leavesOf l a) w5 hla hbk hx4).mono ?_
          intro e w6 hq
          obtain ⟨rfl, hb6'⟩ := hq.toB
          have hb6 := below_trans hb5 hb6'
          have hx5 := hx4.below hb6'
          have hy5 := hy4.below hb6'
          have hc3 := hc2.below hb6'
          have hd3 := hd2.below hb6'
          clear hq hb5 hb6' hx4 hy4 hc2 hd2 hbk
          go_wp2_with fail
          refine (equalS2_c A4 A5 c4 c5 (leavesOf l a) (leavesOf l b) w6 hla hlb hx5 hy5).mono ?_
          rintro e w7 ⟨q1, rfl, hq1, n1, rfl⟩
          have hc4 := hc3.drewN n1
          have hd4 := hd3.drewN n1
          have hb7 := below_drewN hb6 n1
          clear hx5 hy5 hc3 hd3 hb6
          have hna2 : Pa.length ≤ 200 := by omega
          have hnb2 : Pb.length ≤ 200 := by omega
          go_wp2_with fail
          refine (equalA2_c A6 A7 c6 c7 Pa Pb _ hna2 hnb2 hc4 hd4).mono ?_
          rintro e w8 ⟨q2, rfl, hq2, n2, hw8⟩
          have hb8' : Below (w6.drewN n1).heap.size (w6.drewN n1) w8 := by rw [hw8]; exact below_drewN (Below.refl _ _) n2
          have hb8 := below_trans hb7 hb8'
          have hc5 := hc4.below hb8'
          clear hc4 hd4 hb7 hb8' hw8
          have hqq : q1 = q2 := by
            rw [Bool.eq_iff_iff, hq1, hq2]
            constructor
            · intro e
              rw [HPa.out, HPb.out]
              exact plainOf_congr (lies_of_leaves g e)
            · intro e
              have e1 : leavesOf l Pa = leavesOf l a := by rw [HPa.out]; exact leavesOf_congr fun i hi => lies_plain g hi
              have e2 : leavesOf l Pb = leavesOf l b := by rw [HPb.out]; exact leavesOf_congr fun i hi => lies_plain g hi
              rw [← e1, ← e2, e]
          subst hqq
          clear hq1 hq2
          obtain ⟨Pw, hPw⟩ : ∃ P, P = plainOf l fun i => opOf 3 (lies l a i) (lies l b i) := ⟨_, rfl⟩
          obtain ⟨Pm, hPm⟩ : ∃ P, P = plainOf l fun i => opOf 2 (lies l a i) (lies l b i) := ⟨_, rfl⟩
          have hTw := togetherS_mk (op := opOf 3) hR hAa hAb hPw.symm
          have hTm := togetherS_mk (op := opOf 2) hR hAa hAb hPm.symm
          have HPw := Lib.hid hPw
          have HPm := Lib.hid hPm
          clear hPw hPm
          have hWc := Without_c A A2 A3 c c2 c3 l a b w8 (h.below hb8) (h2.below hb8) (h3.below hb8) hz
          have hqn : (q1 != q1) = false := by simp
          by_cases hnw : 100 < Pw.length
          · rw [hTw, if_pos hnw] at hWc
            clear hTw hTm
            go_wp2_with fail
            refine hWc.mono ?_
            rintro e w9 ⟨A9, c9, rfl, _, hb9'⟩
            have hb9 := below_trans hb8 hb9'
            clear hWc hb8 hb9' hc5
            go_wp2_with fail
            refine (Meet_c A A2 A3 c c2 c3 l a b w9 (h.below hb9) (h2.below hb9) (h3.below hb9) hz).mono ?_
            rintro e w10 ⟨A10, c10, rfl, _, hb10'⟩
            have hb10 := below_trans hb9 hb10'
            clear hb9 hb10'
            generalize togetherS (opOf 2) l a b = R at *
            go_wp2_with fail
            refine (awake_c _).mono ?_
            rintro e w11 ⟨rfl, hb11'⟩
            have HB := Lib.hid (below_trans hb10 hb11')
            clear hb10 hb11'
            go_wp2
            go_ret
            exact GivesB.mk rfl HB.out
          · rw [hTw, if_neg hnw] at hWc
            go_wp2_with fail
            refine hWc.mono ?_
            rintro e w9 ⟨A9, c9, rfl, hw1, hb9'⟩
            have hb9 := below_trans hb8 hb9'
            have hc6 := hc5.below hb9'
            clear hWc hb8 hb9' hc5 hTw
            have hMc := Meet_c A A2 A3 c c2 c3 l a b w9 (h.below hb9) (h2.below hb9) (h3.below hb9) hz
            by_cases hnm : 100 < Pm.length
            · rw [hTm, if_pos hnm] at hMc
              clear hTm
              go_wp2_with fail
              refine hMc.mono ?_
              rintro e w10 ⟨A10, c10, rfl, _, hb10'⟩
              have hb10 := below_trans hb9 hb10'
              clear hMc hb9 hb10' hc6 hw1
              go_wp2_with fail
              refine (awake_c _).mono ?_
              rintro e w11 ⟨rfl, hb11'⟩
              have HB := Lib.hid (below_trans hb10 hb11')
              clear hb10 hb11'
              go_wp2
              go_ret
              exact GivesB.mk rfl HB.out
            · rw [hTm, if_neg hnm] at hMc
              go_wp2_with fail
              refine hMc.mono ?_
              rintro e w10 ⟨A10, c10, rfl, hm1, hb10'⟩
              have hb10 := below_trans hb9 hb10'
              have hc7 := hc6.below hb10'
              have hw2 := hw1.below hb10'
              clear hMc hb9 hb10' hc6 hw1 hTm
              have hcW : chkA l Pw = 0 := by
                have hn : (plainOf l fun i => opOf 3 (lies l a i) (lies l b i)).length ≤ 100 := by rw [← HPw.out]; omega
                rw [HPw.out]; exact chkA_plain g hn
              have hcM : chkA l Pm = 0 := by
                have hn : (plainOf l fun i => opOf 2 (lies l a i) (lies l b i)).length ≤ 100 := by rw [← HPm.out]; omega
                rw [HPm.out]; exact chkA_plain g hn
              have hU : (plainOf l fun i => opOf 1 (lies l Pw i) (lies l Pm i)) = Pa := by
                rw [HPa.out]
                refine plainOf_congr fun i hi => ?_
                rw [HPw.out, HPm.out, lies_plain g hi, lies_plain g hi]
                cases lies l a i <;> cases lies l b i <;> rfl
              have hTu := togetherS_mk (op := opOf 1) hR hcW hcM hU
              have hUc := Union_c A A9 A10 c c9 c10 l Pw Pm w10 (h.below hb10) hw2 hm1 hz
              rw [hTu, if_neg hna] at hUc
              clear hTu hU hcW hcM
              go_wp2_with fail
              refine hUc.mono ?_
              rintro e w11 ⟨A11, c11, rfl, hu, hb11'⟩
              have hb11 := below_trans hb10 hb11'
              have hc8 := hc7.below hb11'
              clear hUc hb10 hb11' hc7 hw2 hm1
              go_wp2_with fail
              refine (equalA_c A11 A6 c11 c6 Pa w11 hna2 hu hc8).mono ?_
              intro e w12 hq
              obtain ⟨rfl, hb12'⟩ := hq.toB
              have hb12 := below_trans hb11 hb12'
              clear hq hb11 hb12' hu hc8
              go_wp2_with fail
              refine (awake_c _).mono ?_
              rintro e w13 ⟨rfl, hb13'⟩
              have HB := Lib.hid (below_trans hb12 hb13')
              clear hb12 hb13'
              go_wp2
              go_ret
              exact GivesB.mk rfl HB.out
    · obtain ⟨f, hf0, hSb⟩ := leavesS_err hfb
      have hfb2 : (f != 0) = true := by simpa using hf0
      have hX := Leaves_c A A2 c c2 l a w h h2 hz
      rw [hSa] at hX
      clear hfa hfb hla hlb hf0
      go_enter Tryd.func4, Tryd.ntmps4
      go_wp2_with fail
      refine hX.mono ?_
      rintro e w1 ⟨A4, c4, rfl, hx, hb1⟩
      clear hX hx
      have hY := Leaves_c A A3 c c3 l b w1 (h.below hb1) (h3.below hb1) hz
      rw [hSb] at hY
      go_wp2_with fail
      refine hY.mono ?_
      rintro e w2 ⟨A5, c5, rfl, _, hb2'⟩
      have hb2 := below_trans hb1 hb2'
      clear hY hb1 hb2' hSa hSb
      go_wp2_with fail
      refine (awake_c _).mono ?_
      rintro e w5 ⟨rfl, hb5'⟩
      have HB := Lib.hid (below_trans hb2 hb5')
      clear hb2 hb5'
      go_wp2
      go_ret
      exact GivesB.mk rfl HB.out
  · obtain ⟨f, hf0, hSa⟩ := leavesS_err hfa
    have hfb2 : (f != 0) = true := by simpa using hf0
    have hfb3 : (f == 0) = false := by simpa using hf0
    have hX := Leaves_c A A2 c c2 l a w h h2 hz
    rw [hSa] at hX
    clear hfa hla hlb hf0
    go_enter Tryd.func4, Tryd.ntmps4
    go_wp2_with fail
    refine hX.mono ?_
    rintro e w1 ⟨A4, c4, rfl, _, hb1⟩
    clear hX hSa
    go_wp2_with fail
    refine (Leaves_c A A3 c c3 l b w1 (h.below hb1) (h3.below hb1) hz).mono ?_
    rintro e w2 ⟨A5, c5, rfl, _, hb2'⟩
    have hb2 := below_trans hb1 hb2'
    clear hb1 hb2'
    generalize leavesS l b = R at *
    go_wp2_with fail
    refine (awake_c _).mono ?_
    rintro e w5 ⟨rfl, hb5'⟩
    have HB := Lib.hid (below_trans hb2 hb5')
    clear hb2 hb5'
    go_wp2
    go_ret
    exact GivesB.mk rfl HB.out
end Go.Proofs.YtnjepmbonhmdnaaDoor
