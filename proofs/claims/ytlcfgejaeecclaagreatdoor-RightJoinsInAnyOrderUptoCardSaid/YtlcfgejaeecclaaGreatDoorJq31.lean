/- The reference's SameDeed (printed by gen_sdeed.py). The reference's SameTitle (printed by gen_stitle.py). Joining in any order, and again: the plain law over JoinP. append(v, xs...) at elements of k cells; rows that read as lists of k cells. -/
import Derived.Test.YtlcfgejaeecclaaGreatDoorJq30
import Derived.Test.YtlcfgejaeecclaaGreatDoorJq18
namespace Go.Proofs.YtlcfgejaeecclaaGreatDoor
open Go.RowKit Dw

theorem rat_neq2 (a b c d : ByteArray) (W : World) : (binOp .neq 50 (.agg #[.string a, .string b]) (.agg #[.string c, .string d])).run Tryz.prog W = .ok (.bool (!((a.toList == c.toList) && (b.toList == d.toList)))) W := by
  have h1 := Tryz.underlying50
  simp [go_sem, binOp, Op.equal, Op.maxDepth]
  by_cases h2 : a.toList = c.toList
  · by_cases h3 : b.toList = d.toList
    · simp [h2, h3]
    · simp [h2, h3]
  · simp [h2]
theorem ratn_yes {a b c d : ByteArray} (h : a = c ∧ b = d) (W : World) : (binOp .neq 50 (.agg #[.string a, .string b]) (.agg #[.string c, .string d])).run Tryz.prog W = .ok (.bool false) W := by
  rw [rat_neq2, beq_of_eq h.1, beq_of_eq h.2]; rfl
theorem ratn_no {a b c d : ByteArray} (h : ¬ (a = c ∧ b = d)) (W : World) : (binOp .neq 50 (.agg #[.string a, .string b]) (.agg #[.string c, .string d])).run Tryz.prog W = .ok (.bool true) W := by
  rw [rat_neq2]
  by_cases h1 : a = c
  · rw [beq_of_ne (fun e => h ⟨h1, e⟩)]; simp
  · rw [beq_of_ne h1]; rfl
def SdRel {α : Type} (W : World) (L M : List α) (m : Nat) (i : Value) (wr : World) : Prop :=
  ∃ q, wr = W.drewN q ∧ ∃ k : Nat, k + m = L.length ∧ i = .int .i64 k ∧ ∀ j, j < k → L[j]? = M[j]?
set_option maxRecDepth 100000 in
set_option maxHeartbeats 8000000 in
theorem sameDeed_c (d e : De) (w : World) (hd : DeOk w d) (he : DeOk w e) : Calls Tryz.prog 31 #[deV d, deV e] w (GivesQD (SameD d e) w) := by
  have HX : Hid (Bx ((w.alloc (.cells (deC d) 54)).alloc (.cells (deC e) 54)) w.heap.size (deC d) 54) := (Bx.new _ _ _).alloc _
  have HY : Hid (Bx ((w.alloc (.cells (deC d) 54)).alloc (.cells (deC e) 54)) (w.heap.size + 1) (deC e) 54) := Bx.new1 _ _ _ _
  have HB : Hid (Below w.heap.size w ((w.alloc (.cells (deC d) 54)).alloc (.cells (deC e) 54))) := ((Below.refl w.heap.size w).alloc (Nat.le_refl _) _).alloc (by simp) _
  obtain ⟨W, hW⟩ : ∃ W, W = (w.alloc (.cells (deC d) 54)).alloc (.cells (deC e) 54) := ⟨_, rfl⟩
  rw [← hW] at HX HY HB
  have HD := Lib.hid (hd.below HB.out)
  have HE := Lib.hid (he.below HB.out)
  have hl1 := HD.out.lens.1
  have hl2 := HD.out.lens.2.2
  clear hd he
  go_enter Tryz.func31, Tryz.ntmps31
  simp only [List.append]
  iterate 13 go_step
  rw [← hW]
  clear hW
  have hsx := HX.out.lt
  have hsy := HY.out.lt
  have x0 := HX.out.cell (i := 0) rfl
  have x1 := HX.out.cell (i := 1) rfl
  have x2 := HX.out.cell (i := 2) rfl
  have x3 := HX.out.cell (i := 3) rfl
  have x4 := HX.out.cell (i := 4) rfl
  have x5 := HX.out.cell (i := 5) rfl
  have x6 := HX.out.cell (i := 6) rfl
  have x7 := HX.out.cell (i := 7) rfl
  have x8 := HX.out.cell (i := 8) rfl
  have x9 := HX.out.cell (i := 9) rfl
  have x10 := HX.out.cell (i := 10) rfl
  have x11 := HX.out.cell (i := 11) rfl
  have x12 := HX.out.cell (i := 12) rfl
  have x13 := HX.out.cell (i := 13) rfl
  have x14 := HX.out.cell (i := 14) rfl
  have x15 := HX.out.cell (i := 15) rfl
  have y0 := HY.out.cell (i := 0) rfl
  have y1 := HY.out.cell (i := 1) rfl
  have y2 := HY.out.cell (i := 2) rfl
  have y3 := HY.out.cell (i := 3) rfl
  have y4 := HY.out.cell (i := 4) rfl
  have y5 := HY.out.cell (i := 5) rfl
  have y6 := HY.out.cell (i := 6) rfl
  have y7 := HY.out.cell (i := 7) rfl
  have y8 := HY.out.cell (i := 8) rfl
  have y9 := HY.out.cell (i := 9) rfl
  have y10 : W.cell? ⟨w.heap.size + 1, 10, none⟩ = some (.slice e.arA e.ar.length e.arc) := HY.out.cell (i := 10) rfl
  have y11 := HY.out.cell (i := 11) rfl
  have y12 := HY.out.cell (i := 12) rfl
  have y13 := HY.out.cell (i := 13) rfl
  have y14 : W.cell? ⟨w.heap.size + 1, 14, none⟩ = some (.slice e.shA e.sh.length e.shc) := HY.out.cell (i := 14) rfl
  have y15 := HY.out.cell (i := 15) rfl
  clear HX HY
  by_cases t0 : d.id = e.id
  case neg =>
    have q0 := beq_of_ne t0
    have HS : Hid (¬ SameD d e) := fun hs => by
      unfold SameD at hs
      exact t0 hs.1
    clear t0
    go_wp2
    go_ret
    exact GivesQD.no HS.out (by first | exact HB.out | exact below_drewN HB.out _ | exact below_drewN (below_drewN HB.out _) _ | exact below_drewN (below_drewN (below_drewN HB.out _) _) _)
  have q0 := beq_of_eq t0
  by_cases t1 : d.day = e.day
  case neg =>
    have q1 : (d.day != e.day) = true := by simpa using t1
    have HS : Hid (¬ SameD d e) := fun hs => by
      unfold SameD at hs
      exact t1 hs.2.1
    clear t0 t1
    go_wp2
    go_ret
    exact GivesQD.no HS.out (by first | exact HB.out | exact below_drewN HB.out _ | exact below_drewN (below_drewN HB.out _) _ | exact below_drewN (below_drewN (below_drewN HB.out _) _) _)
  have q1 : (d.day != e.day) = false := by simpa using t1
  by_cases t2 : d.kd = e.kd
  case neg =>
    have q2 : (d.kd != e.kd) = true := by simpa using t2
    have HS : Hid (¬ SameD d e) := fun hs => by
      unfold SameD at hs
      exact t2 hs.2.2.1
    clear t0 t1 t2
    go_wp2
    go_ret
    exact GivesQD.no HS.out (by first | exact HB.out | exact below_drewN HB.out _ | exact below_drewN (below_drewN HB.out _) _ | exact below_drewN (below_drewN (below_drewN HB.out _) _) _)
  have q2 : (d.kd != e.kd) = false := by simpa using t2
  by_cases t3 : d.th = e.th
  case neg =>
    have q3 := beq_of_ne t3
    have HS : Hid (¬ SameD d e) := fun hs => by
      unfold SameD at hs
      exact t3 hs.2.2.2.1
    clear t0 t1 t2 t3
    go_wp2
    go_ret
    exact GivesQD.no HS.out (by first | exact HB.out | exact below_drewN HB.out _ | exact below_drewN (below_drewN HB.out _) _ | exact below_drewN (below_drewN (below_drewN HB.out _) _) _)
  have q3 := beq_of_eq t3
  by_cases t4 : d.fr = e.fr
  case neg =>
    have q4 := beq_of_ne t4
    have HS : Hid (¬ SameD d e) := fun hs => by
      unfold SameD at hs
      exact t4 hs.2.2.2.2.1
    clear t0 t1 t2 t3 t4
    go_wp2
    go_ret
    exact GivesQD.no HS.out (by first | exact HB.out | exact below_drewN HB.out _ | exact below_drewN (below_drewN HB.out _) _ | exact below_drewN (below_drewN (below_drewN HB.out _) _) _)
  have q4 := beq_of_eq t4
  by_cases t5 : d.to_ = e.to_
  case neg =>
    have q5 := beq_of_ne t5
    have HS : Hid (¬ SameD d e) := fun hs => by
      unfold SameD at hs
      exact t5 hs.2.2.2.2.2.1
    clear t0 t1 t2 t3 t4 t5
    go_wp2
    go_ret
    exact GivesQD.no HS.out (by first | exact HB.out | exact below_drewN HB.out _ | exact below_drewN (below_drewN HB.out _) _ | exact below_drewN (below_drewN (below_drewN HB.out _) _) _)
  have q5 := beq_of_eq t5
  by_cases t6 : (d.nu = e.nu ∧ d.de = e.de)
  case neg =>
    have q6 := ratn_no t6
    have HS : Hid (¬ SameD d e) := fun hs => by
      unfold SameD at hs
      exact t6 hs.2.2.2.2.2.2.1
    clear t0 t1 t2 t3 t4 t5 t6
    go_wp2
    go_ret
    exact GivesQD.no HS.out (by first | exact HB.out | exact below_drewN HB.out _ | exact below_drewN (below_drewN HB.out _) _ | exact below_drewN (below_drewN (below_drewN HB.out _) _) _)
  have q6 := ratn_yes t6
  by_cases t7 : d.ex = e.ex
  case neg =>
    have q7 : (d.ex != e.ex) = true := by simpa using t7
    have q7b : (d.ex == e.ex) = false := by simpa using t7
    have q7c : (d.ex ^^ e.ex) = true := by simpa using t7
    have HS : Hid (¬ SameD d e) := fun hs => by
      unfold SameD at hs
      exact t7 hs.2.2.2.2.2.2.2.1
    clear t0 t1 t2 t3 t4 t5 t6 t7
    go_wp2
    go_ret
    exact GivesQD.no HS.out (by first | exact HB.out | exact below_drewN HB.out _ | exact below_drewN (below_drewN HB.out _) _ | exact below_drewN (below_drewN (below_drewN HB.out _) _) _)
  have q7 : (d.ex != e.ex) = false := by simpa using t7
  have q7b : (d.ex == e.ex) = true := by simpa using t7
  have q7c : (d.ex ^^ e.ex) = false := by simpa using t7
  by_cases t8 : d.sb = e.sb
  case neg =>
    have q8 : (d.sb != e.sb) = true := by simpa using t8
    have q8b : (d.sb == e.sb) = false := by simpa using t8
    have q8c : (d.sb ^^ e.sb) = true := by simpa using t8
    have HS : Hid (¬ SameD d e) := fun hs => by
      unfold SameD at hs
      exact t8 hs.2.2.2.2.2.2.2.2.1
    clear t0 t1 t2 t3 t4 t5 t6 t7 t8
    go_wp2
    go_ret
    exact GivesQD.no HS.out (by first | exact HB.out | exact below_drewN HB.out _ | exact below_drewN (below_drewN HB.out _) _ | exact below_drewN (below_drewN (below_drewN HB.out _) _) _)
  have q8 : (d.sb != e.sb) = false := by simpa using t8
  have q8b : (d.sb == e.sb) = true := by simpa using t8
  have q8c : (d.sb ^^ e.sb) = false := by simpa using t8
  by_cases t9 : d.bg = e.bg
  case neg =>
    have q9 : (d.bg != e.bg) = true := by simpa using t9
    have HS : Hid (¬ SameD d e) := fun hs => by
      unfold SameD at hs
      exact t9 hs.2.2.2.2.2.2.2.2.2.2.2.1
    clear t0 t1 t2 t3 t4 t5 t6 t7 t8 t9
    go_wp2
    go_ret
    exact GivesQD.no HS.out (by first | exact HB.out | exact below_drewN HB.out _ | exact below_drewN (below_drewN HB.out _) _ | exact below_drewN (below_drewN (below_drewN HB.out _) _) _)
  have q9 : (d.bg != e.bg) = false := by simpa using t9
  by_cases t10 : d.en = e.en
  case neg =>
    have q10 : (d.en != e.en) = true := by simpa using t10
    have HS : Hid (¬ SameD d e) := fun hs => by
      unfold SameD at hs
      exact t10 hs.2.2.2.2.2.2.2.2.2.2.2.2.1
    clear t0 t1 t2 t3 t4 t5 t6 t7 t8 t9 t10
    go_wp2
    go_ret
    exact GivesQD.no HS.out (by first | exact HB.out | exact below_drewN HB.out _ | exact below_drewN (below_drewN HB.out _) _ | exact below_drewN (below_drewN (below_drewN HB.out _) _) _)
  have q10 : (d.en != e.en) = false := by simpa using t10
  by_cases t11 : d.ot = e.ot
  case neg =>
    have q11 := beq_of_ne t11
    have HS : Hid (¬ SameD d e) := fun hs => by
      unfold SameD at hs
      exact t11 hs.2.2.2.2.2.2.2.2.2.2.2.2.2.2
    clear t0 t1 t2 t3 t4 t5 t6 t7 t8 t9 t10 t11
    go_wp2
    go_ret
    exact GivesQD.no HS.out (by first | exact HB.out | exact below_drewN HB.out _ | exact below_drewN (below_drewN HB.out _) _ | exact below_drewN (below_drewN (below_drewN HB.out _) _) _)
  have q11 := beq_of_eq t11
  go_wp2_with fail
  with_reducible refine (sameWords_c d.usA e.usA d.usc e.usc d.us e.us _ HD.out.lens.2.1 HE.out.lens.2.1 HD.out.uses HE.out.uses).mono ?_
  rintro x wx ⟨r, rfl, hrr, n, rfl⟩
  by_cases t12 : d.us = e.us
  case neg =>
    have hrf : r = false := by
      cases hh : r with
      | false => rfl
      | true => exact absurd (hrr.1 hh) t12
    subst hrf
    clear hrr
    have HS : Hid (¬ SameD d e) := fun hs => by
      unfold SameD at hs
      exact t12 hs.2.2.2.2.2.2.2.2.2.2.1
    clear t0 t1 t2 t3 t4 t5 t6 t7 t8 t9 t10 t11 t12
    go_wp2
    go_ret
    exact GivesQD.no HS.out (by first | exact HB.out | exact below_drewN HB.out _ | exact below_drewN (below_drewN HB.out _) _ | exact below_drewN (below_drewN (below_drewN HB.out _) _) _)
  have hrt : r = true := hrr.2 t12
  subst hrt
  clear hrr
  by_cases t13 : d.ar.length = e.ar.length
  case neg =>
    have q13 : ((d.ar.length : Int) != (e.ar.length : Int)) = true := by simp; omega
    have HS : Hid (¬ SameD d e) := fun hs => by
      unfold SameD at hs
      exact t13 (by rw [hs.2.2.2.2.2.2.2.2.2.1])
    clear t0 t1 t2 t3 t4 t5 t6 t7 t8 t9 t10 t11 t12 t13
    go_wp2
    go_ret
    exact GivesQD.no HS.out (by first | exact HB.out | exact below_drewN HB.out _ | exact below_drewN (below_drewN HB.out _) _ | exact below_drewN (below_drewN (below_drewN HB.out _) _) _)
  rw [← t13] at y10
  by_cases t14 : d.sh.length = e.sh.length
  case neg =>
    have q14 : ((d.sh.length : Int) != (e.sh.length : Int)) = true := by simp; omega
    have HS : Hid (¬ SameD d e) := fun hs => by
      unfold SameD at hs
      exact t14 (by rw [hs.2.2.2.2.2.2.2.2.2.2.2.2.2.1])
    clear t0 t1 t2 t3 t4 t5 t6 t7 t8 t9 t10 t11 t12 t13 t14
    go_wp2
    go_ret
    exact GivesQD.no HS.out (by first | exact HB.out | exact below_drewN HB.out _ | exact below_drewN (below_drewN HB.out _) _ | exact below_drewN (below_drewN (below_drewN HB.out _) _) _)
  rw [← t14] at y14
  have HT : Hid (d.ar = e.ar → d.sh = e.sh → SameD d e) := fun h9 h13 => ⟨t0, t1, t2, t3, t4, t5, t6, t7, t8, h9, t12, t9, t10, h13, t11⟩
  have HL1 := Lib.hid t13
  have HL2 := Lib.hid t14
  clear t0 t1 t2 t3 t4 t5 t6 t7 t8 t9 t10 t11 t12 t13 t14
  go_wp2
  clear q0 q1 q2 q3 q4 q5 q6 q7 q8 q7b q7c q8b q8c q9 q10 q11 x0 x1 x2 x3 x4 x5 x6 x7 x8 x9 x11 x12 x13 x15 y0 y1 y2 y3 y4 y5 y6 y7 y8 y9 y11 y12 y13 y15
  go_loopg [5] d.ar.length (SdRel W d.ar e.ar)
  case atStart => exact ⟨_, rfl, 0, by omega, rfl, fun j hj => absurd hj (by omega)⟩
  case round =>
    obtain ⟨q, hw, k, hk, rfl, hpre⟩ := hrel
    subst hw
    have HK := Lib.hid hk
    have HP := Lib.hid hpre
    have hk1 : k ≤ d.ar.length := by omega
    clear hk hpre
    by_cases hlt : k < d.ar.length
    · have hlt2 : k < e.ar.length := by have := HL1.out; omega
      obtain ⟨b, o, hA, hb, hc⟩ := HD.out.ars.at_ (by omega)
      obtain ⟨b2, o2, hA2, hb2, hcm⟩ := HE.out.ars.at_ (by omega)
      have hc0 := (hc k hlt).1
      have hd0 := (hcm k hlt2).1
      have hc1 := (hc k hlt).2
      have hd1 := (hcm k hlt2).2
      clear hc hcm
      rw [hA2] at y10
      have x10 : W.cell? ⟨w.heap.size, 10, none⟩ = some (.slice (some ⟨b, o, none⟩) d.ar.length d.arc) := by rw [← hA]; exact x10
      by_cases hee : d.ar[k] = e.ar[k]
      · have HE2 := Lib.hid hee
        rw [← hee] at hd0 hd1
        clear hee
        go_wp2
        go_quiet (fail)
        go_wp2
        go_roundg (gk - 1)
        case measure => have := HK.out; omega
        case rel =>
          refine ⟨_, rfl, k + 1, by have := HK.out; omega, by go_num, fun j hj => ?_⟩
          rcases Nat.lt_or_ge j k with h1 | h1
          · exact HP.out j h1
          · obtain rfl : j = k := by omega
            rw [List.getElem?_eq_getElem hlt, List.getElem?_eq_getElem hlt2, HE2.out]
      · have HN : Hid (¬ SameD d e) := fun hs => by
          unfold SameD at hs
          have h := hs.2.2.2.2.2.2.2.2.2.1
          exact hee (by simp only [h])
        by_cases h0 : (d.ar[k]).rg = (e.ar[k]).rg
        case neg =>
          have hb := beq_of_ne h0
          clear hee h0
          go_wp2
          go_quiet (fail)
          go_wp2
          go_ret
          exact GivesQD.no HN.out (by first | exact HB.out | exact below_drewN HB.out _ | exact below_drewN (below_drewN HB.out _) _ | exact below_drewN (below_drewN (below_drewN HB.out _) _) _)
        rw [← h0] at hd0
        have h1 : ¬ (d.ar[k]).out = (e.ar[k]).out := fun e2 => hee (by
          cases hx : d.ar[k]
          cases hy : e.ar[k]
          simp_all)
        have hb := bool_ne h1
        clear hee h0 h1
        go_wp2
        go_quiet (fail)
        go_wp2
        go_ret
        exact GivesQD.no HN.out (by first | exact HB.out | exact below_drewN HB.out _ | exact below_drewN (below_drewN HB.out _) _ | exact below_drewN (below_drewN (below_drewN HB.out _) _) _)
    · have HQ : Hid (d.ar = e.ar) := same_of HL1.out (by omega) HP.out
      clear HK HP
      have HQ1 := HQ
      clear HQ
      go_wp2
      clear hlt hk1
      go_loopg [6] d.sh.length (SdRel W d.sh e.sh)
      case atStart => exact ⟨_, rfl, 0, by omega, rfl, fun j hj => absurd hj (by omega)⟩
      case round =>
        obtain ⟨q, hw, k, hk, rfl, hpre⟩ := hrel
        subst hw
        have HK := Lib.hid hk
        have HP := Lib.hid hpre
        have hk1 : k ≤ d.sh.length := by omega
        clear hk hpre
        by_cases hlt : k < d.sh.length
        · have hlt2 : k < e.sh.length := by have := HL2.out; omega
          obtain ⟨b, o, hA, hb, hc⟩ := HD.out.shs.at_ (by omega)
          obtain ⟨b2, o2, hA2, hb2, hcm⟩ := HE.out.shs.at_ (by omega)
          have hc0 := (hc k hlt).1
          have hd0 := (hcm k hlt2).1
          have hc1 := (hc k hlt).2.1
          have hd1 := (hcm k hlt2).2.1
          have hc2 := (hc k hlt).2.2
          have hd2 := (hcm k hlt2).2.2
          clear hc hcm
          rw [hA2] at y14
          have x14 : W.cell? ⟨w.heap.size, 14, none⟩ = some (.slice (some ⟨b, o, none⟩) d.sh.length d.shc) := by rw [← hA]; exact x14
          by_cases hee : d.sh[k] = e.sh[k]
          · have HE2 := Lib.hid hee
            rw [← hee] at hd0 hd1 hd2
            clear hee
            go_wp2
            go_quiet (fail)
            go_wp2
            go_roundg (gk - 1)
            case measure => have := HK.out; omega
            case rel =>
              refine ⟨_, rfl, k + 1, by have := HK.out; omega, by go_num, fun j hj => ?_⟩
              rcases Nat.lt_or_ge j k with h1 | h1
              · exact HP.out j h1
              · obtain rfl : j = k := by omega
                rw [List.getElem?_eq_getElem hlt, List.getElem?_eq_getElem hlt2, HE2.out]
          · have HN : Hid (¬ SameD d e) := fun hs => by
              unfold SameD at hs
              have h := hs.2.2.2.2.2.2.2.2.2.2.2.2.2.1
              exact hee (by simp only [h])
            by_cases h0 : (d.sh[k]).pt = (e.sh[k]).pt
            case neg =>
              have hb := beq_of_ne h0
              clear hee h0
              go_wp2
              go_quiet (fail)
              go_wp2
              go_ret
              exact GivesQD.no HN.out (by first | exact HB.out | exact below_drewN HB.out _ | exact below_drewN (below_drewN HB.out _) _ | exact below_drewN (below_drewN (below_drewN HB.out _) _) _)
            rw [← h0] at hd0
            by_cases h1 : (d.sh[k]).nu = (e.sh[k]).nu
            case neg =>
              have hb := beq_of_ne h1
              clear hee h0 h1
              go_wp2
              go_quiet (fail)
              go_wp2
              go_ret
              exact GivesQD.no HN.out (by first | exact HB.out | exact below_drewN HB.out _ | exact below_drewN (below_drewN HB.out _) _ | exact below_drewN (below_drewN (below_drewN HB.out _) _) _)
            rw [← h1] at hd1
            have h2 : ¬ (d.sh[k]).de = (e.sh[k]).de := fun e2 => hee (by
              cases hx : d.sh[k]
              cases hy : e.sh[k]
              simp_all)
            have hb := beq_of_ne h2
            clear hee h0 h1 h2
            go_wp2
            go_quiet (fail)
            go_wp2
            go_ret
            exact GivesQD.no HN.out (by first | exact HB.out | exact below_drewN HB.out _ | exact below_drewN (below_drewN HB.out _) _ | exact below_drewN (below_drewN (below_drewN HB.out _) _) _)
        · have HQ : Hid (d.sh = e.sh) := same_of HL2.out (by omega) HP.out
          clear HK HP
          go_wp2
          go_ret
          exact GivesQD.yes (HT.out HQ1.out HQ.out) (by first | exact HB.out | exact below_drewN HB.out _ | exact below_drewN (below_drewN HB.out _) _ | exact below_drewN (below_drewN (below_drewN HB.out _) _) _)
end Go.Proofs.YtlcfgejaeecclaaGreatDoor

namespace Go.Proofs.YtlcfgejaeecclaaGreatDoor
open Go.RowKit Dw

/-- Two titles of the same content. -/
def SameT (rs : List Rg) (us : List ByteArray) (ds : List De) (rs2 : List Rg) (us2 : List ByteArray) (ds2 : List De) : Prop :=
  rs = rs2 ∧ us = us2 ∧ ds.length = ds2.length ∧ ∀ i, i < ds.length → SameD (ds.getD i default) (ds2.getD i default)
def TtRel (W : World) (ds ds2 : List De) (m : Nat) (i : Value) (wr : World) : Prop :=
  ∃ k : Nat, k + m = ds.length ∧ i = .int .i64 k ∧ Below W.heap.size W wr ∧ ∀ j, j < k → SameD (ds.getD j default) (ds2.getD j default)
set_option maxRecDepth 100000 in
set_option maxHeartbeats 8000000 in
theorem sameTitle_c (RA : Option Addr) (rc : Nat) (rs : List Rg) (UA : Option Addr) (uc : Nat) (us : List ByteArray) (DA : Option Addr) (dc : Nat) (ds : List De)
    (RA2 : Option Addr) (rc2 : Nat) (rs2 : List Rg) (UA2 : Option Addr) (uc2 : Nat) (us2 : List ByteArray) (DA2 : Option Addr) (dc2 : Nat) (ds2 : List De) (w : World)
    (hr : Rgs w RA rs) (hu : Strs w UA us) (hd : Des w DA ds) (hr2 : Rgs w RA2 rs2) (hu2 : Strs w UA2 us2) (hd2 : Des w DA2 ds2)
    (hn : rs.length ≤ 140737488355328 ∧ us.length ≤ 140737488355328 ∧ ds.length ≤ 140737488355328) (hn2 : rs2.length ≤ 140737488355328 ∧ us2.length ≤ 140737488355328 ∧ ds2.length ≤ 140737488355328) :
    Calls Tryz.prog 10 #[.agg (tiC RA rc rs UA uc us DA dc ds), .agg (tiC RA2 rc2 rs2 UA2 uc2 us2 DA2 dc2 ds2)] w (GivesQD (SameT rs us ds rs2 us2 ds2) w) := by
  have HX : Hid (Bx ((w.alloc (.cells (tiC RA rc rs UA uc us DA dc ds) 26)).alloc (.cells (tiC RA2 rc2 rs2 UA2 uc2 us2 DA2 dc2 ds2) 26)) w.heap.size (tiC RA rc rs UA uc us DA dc ds) 26) := (Bx.new _ _ _).alloc _
  have HY : Hid (Bx ((w.alloc (.cells (tiC RA rc rs UA uc us DA dc ds) 26)).alloc (.cells (tiC RA2 rc2 rs2 UA2 uc2 us2 DA2 dc2 ds2) 26)) (w.heap.size + 1) (tiC RA2 rc2 rs2 UA2 uc2 us2 DA2 dc2 ds2) 26) := Bx.new1 _ _ _ _
  have HB : Hid (Below w.heap.size w ((w.alloc (.cells (tiC RA rc rs UA uc us DA dc ds) 26)).alloc (.cells (tiC RA2 rc2 rs2 UA2 uc2 us2 DA2 dc2 ds2) 26))) := ((Below.refl w.heap.size w).alloc (Nat.le_refl _) _).alloc (by simp) _
  obtain ⟨W, hW⟩ : ∃ W, W = (w.alloc (.cells (tiC RA rc rs UA uc us DA dc ds) 26)).alloc (.cells (tiC RA2 rc2 rs2 UA2 uc2 us2 DA2 dc2 ds2) 26) := ⟨_, rfl⟩
  rw [← hW] at HX HY HB
  have HSF := Lib.hid (sameFrame_c RA rc rs UA uc us DA dc ds RA2 rc2 rs2 UA2 uc2 us2 DA2 dc2 ds2 W (hr.below HB.out) (hu.below HB.out) (hr2.below HB.out) (hu2.below HB.out) ⟨hn.1, hn.2.1⟩ ⟨hn2.1, hn2.2.1⟩)
  have HDE := Lib.hid (hd.below HB.out)
  have HDF := Lib.hid (hd2.below HB.out)
  have hdl := hn.2.2
  clear hr hr2 hu hu2 hd hd2
  go_enter Tryz.func10, Tryz.ntmps10
  iterate 13 go_step
  rw [← hW]
  clear hW
  have hsx := HX.out.lt
  have hsy := HY.out.lt
  have x0 := HX.out.cell (i := 0) rfl
  have x1 := HX.out.cell (i := 1) rfl
  have x2 := HX.out.cell (i := 2) rfl
  have y0 := HY.out.cell (i := 0) rfl
  have y1 := HY.out.cell (i := 1) rfl
  have y2 := HY.out.cell (i := 2) rfl
  go_wp2_with fail
  with_reducible refine HSF.out.mono ?_
  rintro x w1 ⟨r, rfl, hrr, hb1⟩
  have HX1 := Lib.hid (HX.out.below hb1)
  have HY1 := Lib.hid (HY.out.below hb1)
  have HB1 := Lib.hid (below_trans HB.out hb1)
  have HDE1 := Lib.hid (HDE.out.below hb1)
  have HDF1 := Lib.hid (HDF.out.below hb1)
  clear hsx hsy x0 x1 x2 y0 y1 y2 hb1 HX HY HB HDE HDF HSF
  have hsx := HX1.out.lt
  have hsy := HY1.out.lt
  have x2 := HX1.out.cell (i := 2) rfl
  have y2 : w1.cell? ⟨w.heap.size + 1, 2, none⟩ = some (.slice DA2 ds2.length dc2) := HY1.out.cell (i := 2) rfl
  by_cases hfr : rs = rs2 ∧ us = us2
  case neg =>
    have hrf : r = false := by
      cases hh : r with
      | false => rfl
      | true => exact absurd (hrr.1 hh) hfr
    subst hrf
    have HE : Hid (¬ SameT rs us ds rs2 us2 ds2) := fun e => hfr ⟨e.1, e.2.1⟩
    clear hrr hfr
    go_wp2
    go_ret
    exact GivesQD.no HE.out HB1.out
  have hrt : r = true := hrr.2 hfr
  subst hrt
  have HFR := Lib.hid hfr
  clear hrr hfr
  by_cases hl : ds.length = ds2.length
  case neg =>
    have HE : Hid (¬ SameT rs us ds rs2 us2 ds2) := fun e => hl e.2.2.1
    have hlb : ((ds.length : Int) != (ds2.length : Int)) = true := by simp; omega
    clear hl
    go_wp2
    go_ret
    exact GivesQD.no HE.out HB1.out
  rw [← hl] at y2
  have HL := Lib.hid hl
  clear hl
  go_wp2
  clear hsx hsy x2 y2
  go_loopg [5] ds.length (TtRel w1 ds ds2)
  case atStart => exact ⟨0, by omega, rfl, Below.refl _ _, fun j hj => absurd hj (by omega)⟩
  case round =>
    obtain ⟨k, hk, rfl, hbel, hpre⟩ := hrel
    have HK := Lib.hid hk
    have HP := Lib.hid hpre
    have HBL := Lib.hid hbel
    have HX2 := Lib.hid (HX1.out.below hbel)
    have HY2 := Lib.hid (HY1.out.below hbel)
    have hk1 : k ≤ ds.length := by omega
    have hsx := HX2.out.lt
    have hsy := HY2.out.lt
    clear hk hpre hbel
    by_cases hlt : k < ds.length
    · have hlt2 : k < ds2.length := by have := HL.out; omega
      have x2 : wr.cell? ⟨w.heap.size, 2, none⟩ = some (.slice DA ds.length dc) := HX2.out.cell (i := 2) rfl
      have y2 : wr.cell? ⟨w.heap.size + 1, 2, none⟩ = some (.slice DA2 ds.length dc2) := by rw [HL.out]; exact HY2.out.cell (i := 2) rfl
      obtain ⟨b, o, hA, hb, hc⟩ := (HDE1.out.below HBL.out) (by omega)
      obtain ⟨b2, o2, hA2, hb2, hcm⟩ := (HDF1.out.below HBL.out) (by omega)
      obtain ⟨d, hdd⟩ : ∃ d, d = ds[k] := ⟨_, rfl⟩
      obtain ⟨e, hee⟩ : ∃ e, e = ds2[k] := ⟨_, rfl⟩
      have hr1 := (hc k hlt).1
      have hr2 := (hcm k hlt2).1
      rw [← hdd] at hr1
      rw [← hee] at hr2
      have hkd : DeOk wr d := by rw [hdd]; exact (hc k hlt).2
      have hke : DeOk wr e := by rw [hee]; exact (hcm k hlt2).2
      have HGD : Hid (ds.getD k default = d) := by show _ = _; rw [hdd]; simp [List.getD, hlt]
      have HGE : Hid (ds2.getD k default = e) := by show _ = _; rw [hee]; simp [List.getD, hlt2]
      have HSD := Lib.hid (sameDeed_c d e wr.drew (hkd.below (below_drewN (Below.refl _ _) 1)) (hke.below (below_drewN (Below.refl _ _) 1)))
      rw [hA] at x2
      rw [hA2] at y2
      have cx : ∀ w', Below wr.heap.size wr w' → w'.cell? ⟨w.heap.size, 2, none⟩ = some (.slice (some ⟨b, o, none⟩) ds.length dc) := fun w' hx => (hx.cell (p := ⟨w.heap.size, 2, none⟩) hsx).trans x2
      have cy : ∀ w', Below wr.heap.size wr w' → w'.cell? ⟨w.heap.size + 1, 2, none⟩ = some (.slice (some ⟨b2, o2, none⟩) ds.length dc2) := fun w' hx => (hx.cell (p := ⟨w.heap.size + 1, 2, none⟩) hsy).trans y2
      clear hc hcm hkd hke hdd hee hA hA2
      go_wp2_with fail
      refine wp_region_held_drew (S := (fun w' => Below wr.heap.size wr w')) (by kernel_rfl) ?_ (fun hHeld => ?_)
      · (first | exact HB6.out | exact below_drewN (Below.refl _ _) 1)
      refine wpAnyH_take (i := 0) (v := ?_) rfl (by kernel_rfl) (by kernel_rfl) (by kernel_rfl) (fun _ _ _ h => h) (Or.inl ⟨by kernel_rfl, ?_⟩) (by assumption) ?_
      rotate_left 1
      · (intro w _; go_simp; try with_reducible rfl)
      simp only [List.getElem_toArray, List.getElem_cons_succ, List.getElem_cons_zero, Act.put, List.setIfInBounds_toArray, List.set_cons_zero, List.set_cons_succ]
      refine wpAnyH_take (i := 1) (v := ?_) rfl (by kernel_rfl) (by kernel_rfl) (by kernel_rfl) (fun _ _ _ h => h) (Or.inl ⟨by kernel_rfl, ?_⟩) (by assumption) ?_
      rotate_left 1
      · (intro w hSw; have e1 := cx _ hSw; go_simp; try with_reducible rfl)
      simp only [List.getElem_toArray, List.getElem_cons_succ, List.getElem_cons_zero, Act.put, List.setIfInBounds_toArray, List.set_cons_zero, List.set_cons_succ]
      refine wpAnyH_take (i := 2) (v := ?_) rfl (by kernel_rfl) (by kernel_rfl) (by kernel_rfl) (fun _ _ _ h => h) (Or.inl ⟨by kernel_rfl, ?_⟩) (by assumption) ?_
      rotate_left 1
      · (intro w _; go_simp; try with_reducible rfl)
      simp only [List.getElem_toArray, List.getElem_cons_succ, List.getElem_cons_zero, Act.put, List.setIfInBounds_toArray, List.set_cons_zero, List.set_cons_succ]
      refine wpAnyH_take (i := 3) (v := ?_) rfl (by kernel_rfl) (by kernel_rfl) (by kernel_rfl) (fun _ _ _ h => h) (Or.inl ⟨by kernel_rfl, ?_⟩) (by assumption) ?_
      rotate_left 1
      · (intro w _; go_simp; try with_reducible rfl)
      simp only [List.getElem_toArray, List.getElem_cons_succ, List.getElem_cons_zero, Act.put, List.setIfInBounds_toArray, List.set_cons_zero, List.set_cons_succ]
      refine wpAnyH_take (i := 4) (v := deV d) rfl (by kernel_rfl) (by kernel_rfl) (by kernel_rfl) (fun _ _ _ h => h) ?_ (by assumption) ?_
      · exact yields_deed (by kernel_rfl) (.tmp 29) rfl b (o + k * 16) (by kernel_rfl) d (fun w hSw j v hv => (hSw.cell hb).trans (hr1 j v hv))
      simp only [List.getElem_toArray, List.getElem_cons_succ, List.getElem_cons_zero, Act.put, List.setIfInBounds_toArray, List.set_cons_zero, List.set_cons_succ]
      refine wpAnyH_take (i := 5) (v := ?_) rfl (by kernel_rfl) (by kernel_rfl) (by kernel_rfl) (fun _ _ _ h => h) (Or.inl ⟨by kernel_rfl, ?_⟩) (by assumption) ?_
      rotate_left 1
      · (intro w _; go_simp; try with_reducible rfl)
      simp only [List.getElem_toArray, List.getElem_cons_succ, List.getElem_cons_zero, Act.put, List.setIfInBounds_toArray, List.set_cons_zero, List.set_cons_succ]
      refine wpAnyH_take (i := 6) (v := ?_) rfl (by kernel_rfl) (by kernel_rfl) (by kernel_rfl) (fun _ _ _ h => h) (Or.inl ⟨by kernel_rfl, ?_⟩) (by assumption) ?_
      rotate_left 1
      · (intro w hSw; have e1 := cy _ hSw; go_simp; try with_reducible rfl)
      simp only [List.getElem_toArray, List.getElem_cons_succ, List.getElem_cons_zero, Act.put, List.setIfInBounds_toArray, List.set_cons_zero, List.set_cons_succ]
      refine wpAnyH_take (i := 7) (v := ?_) rfl (by kernel_rfl) (by kernel_rfl) (by kernel_rfl) (fun _ _ _ h => h) (Or.inl ⟨by kernel_rfl, ?_⟩) (by assumption) ?_
      rotate_left 1
      · (intro w _; go_simp; try with_reducible rfl)
      simp only [List.getElem_toArray, List.getElem_cons_succ, List.getElem_cons_zero, Act.put, List.setIfInBounds_toArray, List.set_cons_zero, List.set_cons_succ]
      refine wpAnyH_take (i := 8) (v := ?_) rfl (by kernel_rfl) (by kernel_rfl) (by kernel_rfl) (fun _ _ _ h => h) (Or.inl ⟨by kernel_rfl, ?_⟩) (by assumption) ?_
      rotate_left 1
      · (intro w _; go_simp; try with_reducible rfl)
      simp only [List.getElem_toArray, List.getElem_cons_succ, List.getElem_cons_zero, Act.put, List.setIfInBounds_toArray, List.set_cons_zero, List.set_cons_succ]
      refine wpAnyH_take (i := 9) (v := deV e) rfl (by kernel_rfl) (by kernel_rfl) (by kernel_rfl) (fun _ _ _ h => h) ?_ (by assumption) ?_
      · exact yields_deed (by kernel_rfl) (.tmp 34) rfl b2 (o2 + k * 16) (by kernel_rfl) e (fun w hSw j v hv => (hSw.cell hb2).trans (hr2 j v hv))
      simp only [List.getElem_toArray, List.getElem_cons_succ, List.getElem_cons_zero, Act.put, List.setIfInBounds_toArray, List.set_cons_zero, List.set_cons_succ]
      refine wpAnyH_ready (rs := [10]) (by kernel_rfl) (by simp) ?_
      refine AllReadyH.cons rfl (fun K hK => ?_) AllReadyH.nil
      clear hHeld
      go_simp
      go_at_call 31
      with_reducible refine (HSD.out).mono ?_
      rintro x w6 ⟨r, rfl, hrr, hb6⟩
      have HB6 := Lib.hid (below_trans (below_drewN (Below.refl wr.heap.size wr) 1) hb6)
      refine hK.out _ _ ?_ (fun hHeld => ?_)
      · (first | exact HB6.out | exact below_drewN (Below.refl _ _) 1)
      clear hK K
      try simp only [List.getElem_toArray, List.getElem_cons_succ, List.getElem_cons_zero, Act.put, List.setIfInBounds_toArray, List.set_cons_zero, List.set_cons_succ]
      refine wpAnyH_take (i := 11) (v := ?_) rfl (by kernel_rfl) (by kernel_rfl) (by kernel_rfl) (fun _ _ _ h => h) (Or.inl ⟨by kernel_rfl, ?_⟩) (by assumption) ?_
      rotate_left 1
      · (intro w _; go_simp; try with_reducible rfl)
      simp only [List.getElem_toArray, List.getElem_cons_succ, List.getElem_cons_zero, Act.put, List.setIfInBounds_toArray, List.set_cons_zero, List.set_cons_succ]
      refine wpAnyH_done (by kernel_rfl) ?_ _
      clear hHeld
      by_cases hsd : SameD d e
      · have hrt : r = true := hrr.2 hsd
        subst hrt
        have HSM := Lib.hid hsd
        clear hrr hsd
        go_wp2
        go_roundg (gk - 1)
        case measure => have := HK.out; omega
        case rel =>
          refine ⟨k + 1, by have := HK.out; omega, by go_num, below_trans HBL.out HB6.out, fun j hj => ?_⟩
          rcases Nat.lt_or_ge j k with h1 | h1
          · exact HP.out j h1
          · obtain rfl : j = k := by omega
            rw [HGD.out, HGE.out]
            exact HSM.out
      · have hrf : r = false := by
          cases hh : r with
          | false => rfl
          | true => exact absurd (hrr.1 hh) hsd
        subst hrf
        have HE : Hid (¬ SameT rs us ds rs2 us2 ds2) := fun hs => hsd (by
          have := hs.2.2.2 k hlt
          rwa [HGD.out, HGE.out] at this)
        clear hrr hsd
        go_wp2
        go_ret
        exact GivesQD.no HE.out (below_trans HB1.out (below_trans HBL.out HB6.out))
    · obtain rfl : k = ds.length := by omega
      have x2 := HX2.out.cell (i := 2) rfl
      go_wp2
      go_ret
      exact GivesQD.yes ⟨HFR.out.1, HFR.out.2, HL.out, HP.out⟩ (below_trans HB1.out HBL.out)
end Go.Proofs.YtlcfgejaeecclaaGreatDoor

namespace Go.Proofs.YtlcfgejaeecclaaGreatDoor
open Go Dw

theorem sameT_of {rs : List Rg} {us : List ByteArray} {ds ds2 : List De} (h : ds.map plainD = ds2.map plainD) : SameT rs us ds rs us ds2 := by
  have hl : ds.length = ds2.length := by have := congrArg List.length h; simpa using this
  refine ⟨rfl, rfl, hl, fun i hi => (sameD_iff _ _).2 ?_⟩
  have h1 : ds.getD i default = ds[i] := by simp [List.getD_eq_getElem?_getD, List.getElem?_eq_getElem hi]
  have h2 : ds2.getD i default = ds2[i]'(by omega) := by simp [List.getD_eq_getElem?_getD, List.getElem?_eq_getElem (show i < ds2.length by omega)]
  rw [h1, h2]
  have h3 := congrArg (fun l => l[i]?) h
  simpa [List.getElem?_eq_getElem hi, List.getElem?_eq_getElem (show i < ds2.length by omega)] using h3
theorem plain_map2 (l : List De) : (l.map plainD).map plainD = l.map plainD := by
  rw [List.map_map]
  exact List.map_congr_left fun d _ => plainD_plainD d
theorem joinP_swap {rs rs2 R R' : List Rg} {us us2 U U' : List ByteArray} {ds ds2 S S' : List De} {f : Int} (h : JoinP rs us ds rs2 us2 ds2 0 R U S) (h' : JoinP rs2 us2 ds2 rs us ds f R' U' S') : f = 0 ∧ SameT R U S R' U' S' := by
  obtain ⟨c1, c2, e1, e2, hk, rfl, rfl, hj, cs⟩ := h.2 rfl
  subst e1 e2
  have hf : f = 0 := by
    refine Classical.byContradiction fun hf => (h'.1 hf).2.2.2.no ⟨c2, c1, rfl, rfl, keyOk_swap hk, fun S'' hS => ?_⟩
    rw [joined_swap hk hj hS, chkT_plain]
    exact cs
  obtain ⟨_, _, _, _, _, rfl, rfl, hj', _⟩ := h'.2 hf
  exact ⟨hf, sameT_of (joined_swap hk hj hj').symm⟩
theorem joinP_again {rs rs2 R R' : List Rg} {us us2 U U' : List ByteArray} {ds ds2 S S' : List De} {f : Int} (h : JoinP rs us ds rs2 us2 ds2 0 R U S) (h' : JoinP R U S rs2 us2 ds2 f R' U' S') : f = 0 ∧ SameT R U S R' U' S' := by
  obtain ⟨c1, c2, e1, e2, hk, rfl, rfl, hj, cs⟩ := h.2 rfl
  subst e1 e2
  have hf : f = 0 := by
    refine Classical.byContradiction fun hf => (h'.1 hf).2.2.2.no ⟨cs, c2, rfl, rfl, (firsts_again (s := S.map plainD) hk fun x => hj.1.mem_iff).1, fun S'' hS => ?_⟩
    rw [(joined_again hk hj hS).2, chkT_plain]
    exact cs
  obtain ⟨_, _, _, _, _, rfl, rfl, hj', _⟩ := h'.2 hf
  exact ⟨hf, sameT_of (joined_again hk hj hj').2.symm⟩
end Go.Proofs.YtlcfgejaeecclaaGreatDoor

namespace Dw
open Go Go.RowKit

/-- A slice of elements of some cells reads as a list. -/
def RdK {α : Type} (enc : α → List Value) (w : World) (A : Option Addr) (l : List α) : Prop :=
  0 < l.length → ∃ b o : Nat, A = some ⟨b, o, none⟩ ∧ ∀ j v, (l.flatMap enc)[j]? = some v → w.cell? ⟨b, o + j, none⟩ = some v
theorem flat_cells {α : Type} {enc : α → List Value} {k : Nat} (hk : ∀ x, (enc x).length = k) {w : World} {b : Nat} : ∀ (l : List α) (o : Nat),
    (∀ i (h : i < l.length) c v, (enc l[i])[c]? = some v → w.cell? ⟨b, o + i * k + c, none⟩ = some v) → ∀ j v, (l.flatMap enc)[j]? = some v → w.cell? ⟨b, o + j, none⟩ = some v
  | [], _, _, j, v, h => by simp at h
  | a :: t, o, hc, j, v, h => by
    rw [List.flatMap_cons] at h
    by_cases hj : j < k
    · rw [List.getElem?_append_left (by rw [hk]; exact hj)] at h
      have := hc 0 (by simp) j v h
      simpa using this
    · rw [List.getElem?_append_right (by rw [hk]; omega), hk] at h
      have := flat_cells hk t (o + k) (fun i hi c u hu => by
        have h2 := hc (i + 1) (by simp; omega) c u (by simpa using hu)
        rwa [show o + (i + 1) * k + c = o + k + i * k + c by rw [Nat.add_mul]; omega] at h2) (j - k) v h
      rwa [show o + k + (j - k) = o + j by omega] at this
theorem flat_len {α : Type} {enc : α → List Value} {k : Nat} (hk : ∀ x, (enc x).length = k) : ∀ (l : List α), (l.flatMap enc).length = l.length * k
  | [] => by simp
  | a :: t => by rw [List.flatMap_cons, List.length_append, hk, flat_len hk t, List.length_cons, Nat.add_mul]; omega
theorem flat_at {α : Type} {enc : α → List Value} {k : Nat} (hk : ∀ x, (enc x).length = k) : ∀ (l : List α) (i : Nat) (h : i < l.length) (c : Nat), c < k → (l.flatMap enc)[i * k + c]? = (enc l[i])[c]?
  | [], i, h, _, _ => by simp at h
  | a :: t, 0, _, c, hc => by
    rw [List.flatMap_cons, List.getElem?_append_left (by rw [hk]; omega)]; simp
  | a :: t, i + 1, h, c, hc => by
    rw [List.flatMap_cons, List.getElem?_append_right (by rw [hk, Nat.add_mul]; omega), hk, show (i + 1) * k + c - k = i * k + c by rw [Nat.add_mul]; omega, flat_at hk t i (by simpa using h) c hc]
    simp
theorem addN (b o j : Nat) : (⟨b, o, none⟩ : Addr).add j = ⟨b, o + j, none⟩ := by unfold Addr.add; split <;> simp_all
theorem wpList_pushK {P : Program} {α : Type} {enc : α → List Value} {k : Nat} (hk : ∀ x, (enc x).length = k) (hf : ∀ x, ∀ u ∈ enc x, u.oneCell' = true) {ops : Array Oper} {rest : List Oper} {o : Oper} {a : Act} {w : World} {Q : Exit → Act → World → Prop}
    {e : TypeId} {z : Value} {bytes : Nat} (s x : Operand) (t : TypeId) (hT : ElemT P t e z k bytes) (hgd : o.guard = none) (ho : o.op = .call { callee := .builtin .append, args := #[s, x], argTypes := #[t, t] })
    (base : Nat) (v : Value) (l : List α) (hs : a.eval s = v) (hown : OwnL enc k w base e v l)
    (A : Option Addr) (m cp : Nat) (ys : List α) (hm : m = ys.length) (hx : a.eval x = .slice A m cp) (hr : RdK enc w A ys) (hA : A ≠ none ∨ ys = [])
    (hlen : l.length + ys.length ≤ maxLen) (hbytes : (l.length + ys.length) * bytes ≤ 140737488355328) (hbase : base ≤ w.heap.size)
    (h : ∀ v' w', OwnL enc k w' base e v' (l ++ ys) → w.grownBy w' v.ownBlock → Below base w w' → (v'.ownBlock = v.ownBlock ∨ v'.ownBlock = some w.heap.size) → wpList P ops Q rest (a.put o.dst v') w') : wpList P ops Q (o :: rest) a w := by
  obtain ⟨i, hi, hz0, hz1, hz2⟩ := info_parts hT.info
  subst hm
  have hfin : ∀ v' w', w'.ownsRow base e k v' (l.length + ys.length) (l.flatMap enc ++ ys.flatMap enc) → OwnL enc k w' base e v' (l ++ ys) := fun v' w' h1 => by
    unfold OwnL
    rw [List.length_append, List.flatMap_append]
    exact h1
  have hbel : ∀ w', w.grownBy w' v.ownBlock → Below base w w' := fun w' hg => (Below.refl _ _).grown hg hbase fun j hj => (World.ownsRow.lt hown j hj).1
  cases A with
  | none =>
    have hy : ys = [] := hA.resolve_left (fun h => h rfl)
    subst hy
    refine wpList_plain hgd fun _ hK => ?_
    have hrun : (Builtin.append_ #[t, t] o.type #[v, .slice none 0 cp]).run P w = .ok v w := by
      rcases hown.2 with ⟨rfl, _⟩ | ⟨g, cap, cur, rfl, _, _, hnc, _⟩
      · simp [Builtin.append_, run_underlying hT.ty, Go.sizeOf, typeInfo, hi, Builtin.lenOf, Builtin.firstCells]
      · simp [Builtin.append_, run_underlying hT.ty, Go.sizeOf, typeInfo, hi, Builtin.lenOf, Builtin.firstCells, hnc, storeCells]
    unfold Oper.wp execOp
    simp only [List.length_nil] at hx
    simp only [ho, resolve, invoke, builtin, Sem.run_bind, Sem.run_pure, Result.andThen_ok, List.map_toArray, List.map_cons, List.map_nil, hs, hx, hrun]
    exact hK _ _ (h v w (by simpa using hown) (World.grownBy.refl w _) (hbel w (World.grownBy.refl w _)) (.inl rfl))
  | some ad =>
    refine wpList_append_own_at _ hgd s x t ho base e i z k bytes hT.ty hi hz0 hz1 hz2 hT.zs hT.pos v l.length _ hs hown ad ys.length cp (ys.flatMap enc) hx (flat_len hk ys) ?_ ?_ hlen hbytes hbase ?_
    · intro j u hj
      have hjl : 0 < ys.length := by
        refine Nat.pos_of_ne_zero fun e => ?_
        rw [List.eq_nil_of_length_eq_zero e] at hj
        simp at hj
      obtain ⟨b, o, h1, hc⟩ := hr hjl
      injection h1 with h1
      subst h1
      rw [addN]
      exact hc j u hj
    · intro u hu
      obtain ⟨y, _, hy⟩ := List.mem_flatMap.1 hu
      exact hf y u hy
    · intro v' w' h1 h2 _ h4
      exact h v' w' (hfin v' w' h1) h2 (hbel w' h2) h4
/-- What is the call's own reads as its list. -/
theorem OwnL.rdk {α : Type} {enc : α → List Value} {k : Nat} {w : World} {base : Nat} {e : TypeId} {v : Value} {l : List α} (h : OwnL enc k w base e v l) : ∃ A c, v = .slice A l.length c ∧ RdK enc w A l := by
  rcases h.2 with ⟨rfl, hn⟩ | ⟨g, cap, cur, rfl, hb, hgg, hnc, _, hsz, htake⟩
  · exact ⟨none, 0, by rw [hn], fun hl => by omega⟩
  · refine ⟨_, _, rfl, fun _ => ⟨g, 0, rfl, fun j v hv => ?_⟩⟩
    rw [← htake, List.getElem?_take] at hv
    split at hv
    · rw [Nat.zero_add, cell_of_row w g j _ _ _ hgg]
      simpa using hv
    · cases hv
section
variable {w : World} {A : Option Addr}
theorem RdK.of1 {α : Type} {f : α → Value} {l : List α} (h : Rd1 f w A l) : RdK (fun x => [f x]) w A l := fun hl => by
  obtain ⟨b, o, rfl, hc⟩ := h hl
  refine ⟨b, o, rfl, flat_cells (k := 1) (fun _ => rfl) l o fun i hi c v hv => ?_⟩
  match c, hv with
  | 0, hv => simp at hv; subst hv; rw [Nat.mul_one, Nat.add_zero]; exact hc i hi
theorem RdK.of2 {α : Type} {f g : α → Value} {l : List α} (h : Rd2 f g w A l) : RdK (fun x => [f x, g x]) w A l := fun hl => by
  obtain ⟨b, o, rfl, hc⟩ := h hl
  refine ⟨b, o, rfl, flat_cells (k := 2) (fun _ => rfl) l o fun i hi c v hv => ?_⟩
  match c, hv with
  | 0, hv => simp at hv; subst hv; exact (hc i hi).1
  | 1, hv => simp at hv; subst hv; exact (hc i hi).2
end
end Dw
