/- The reference's SameDeed (printed by gen_sdeed.py). -/
import Derived.Test.YtlcfgejaeecclaaGreatDoorZq34
set_option maxRecDepth 100000
set_option maxHeartbeats 8000000
namespace Go.Proofs.YtlcfgejaeecclaaGreatDoor
open Go.RowKit Dw
theorem rat_neq2 (a b c d : ByteArray) (W : World) : (binOp .neq 50 (.agg #[.string a, .string b]) (.agg #[.string c, .string d])).run Tryz.prog W = .ok (.bool (!((a.toList == c.toList) && (b.toList == d.toList)))) W := by
 have h1 := Tryz.underlying50
 simp [go_sem, binOp, Op.equal, Op.maxDepth]
 by_cases h2 : a.toList = c.toList
 ·by_cases h3 : b.toList = d.toList
  ·simp [h2, h3]
  ·simp [h2, h3]
 ·simp [h2]
theorem ratn_yes {a b c d : ByteArray} (h : a = c ∧ b = d) (W : World) : (binOp .neq 50 (.agg #[.string a, .string b]) (.agg #[.string c, .string d])).run Tryz.prog W = .ok (.bool false) W := by
 rw [rat_neq2, beq_of_eq h.1, beq_of_eq h.2]; rfl
theorem ratn_no {a b c d : ByteArray} (h : ¬ (a = c ∧ b = d)) (W : World) : (binOp .neq 50 (.agg #[.string a, .string b]) (.agg #[.string c, .string d])).run Tryz.prog W = .ok (.bool true) W := by
 rw [rat_neq2]
 by_cases h1 : a = c
 ·rw [beq_of_ne (fun e => h ⟨h1, e⟩)]; simp
 ·rw [beq_of_ne h1]; rfl
def SdRel {α : Type} (W : World) (L M : List α) (m : Nat) (i : Value) (wr : World) : Prop :=
 ∃ q, wr = W.drewN q ∧ ∃ k : Nat, k + m = L.length ∧ i = .int .i64 k ∧ ∀ j, j < k → L[j]? = M[j]?
theorem sameDeed_c (d e : De) (w : World) (hd : DeOk w d) (he : DeOk w e) : Calls Tryz.prog 31 #[deV d, deV e] w (GivesQD (SameD d e) w) := by
 have HX : Hid (Bx ((w.alloc (.cells (deC d) 54)).alloc (.cells (deC e) 54)) w.heap.size (deC d) 54) := (Bx.new _ _ _).alloc _
 have HY : Hid (Bx ((w.alloc (.cells (deC d) 54)).alloc (.cells (deC e) 54)) (w.heap.size + 1) (deC e) 54) := Bx.new1 _ _ _ _
 have HB : Hid (Below w.heap.size w ((w.alloc (.cells (deC d) 54)).alloc (.cells (deC e) 54))) := ((Below.refl w.heap.size w).alloc (Nat.le_refl _) _).alloc (by simp) _
 obtain ⟨W, hW⟩ : ∃ W, W = (w.alloc (.cells (deC d) 54)).alloc (.cells (deC e) 54) := ⟨_, rfl⟩
 rw [← hW] at HX HY HB
 have HD := zq (hd.below HB.out)
 have HE := zq (he.below HB.out)
 have hl1 := HD.out.lens.1
 have hl2 := HD.out.lens.2.2
 clear hd he
 go_enter Tryz.func31, Tryz.ntmps31
 simp only [List.append]
 iterate 13 go_step
 rw [← hW]
 clear hW
 have hsx := HX.out.lt
 have hsy := HY.out.lt
 have x0 := HX.out.cell (i := 0) rfl
 have x1 := HX.out.cell (i := 1) rfl
 have x2 := HX.out.cell (i := 2) rfl
 have x3 := HX.out.cell (i := 3) rfl
 have x4 := HX.out.cell (i := 4) rfl
 have x5 := HX.out.cell (i := 5) rfl
 have x6 := HX.out.cell (i := 6) rfl
 have x7 := HX.out.cell (i := 7) rfl
 have x8 := HX.out.cell (i := 8) rfl
 have x9 := HX.out.cell (i := 9) rfl
 have x10 := HX.out.cell (i := 10) rfl
 have x11 := HX.out.cell (i := 11) rfl
 have x12 := HX.out.cell (i := 12) rfl
 have x13 := HX.out.cell (i := 13) rfl
 have x14 := HX.out.cell (i := 14) rfl
 have x15 := HX.out.cell (i := 15) rfl
 have y0 := HY.out.cell (i := 0) rfl
 have y1 := HY.out.cell (i := 1) rfl
 have y2 := HY.out.cell (i := 2) rfl
 have y3 := HY.out.cell (i := 3) rfl
 have y4 := HY.out.cell (i := 4) rfl
 have y5 := HY.out.cell (i := 5) rfl
 have y6 := HY.out.cell (i := 6) rfl
 have y7 := HY.out.cell (i := 7) rfl
 have y8 := HY.out.cell (i := 8) rfl
 have y9 := HY.out.cell (i := 9) rfl
 have y10 : W.cell? ⟨w.heap.size + 1, 10, none⟩ = some (.slice e.arA e.ar.length e.arc) := HY.out.cell (i := 10) rfl
 have y11 := HY.out.cell (i := 11) rfl
 have y12 := HY.out.cell (i := 12) rfl
 have y13 := HY.out.cell (i := 13) rfl
 have y14 : W.cell? ⟨w.heap.size + 1, 14, none⟩ = some (.slice e.shA e.sh.length e.shc) := HY.out.cell (i := 14) rfl
 have y15 := HY.out.cell (i := 15) rfl
 clear HX HY
 by_cases t0 : d.id = e.id
 case neg =>
  have q0 := beq_of_ne t0
  have HS : Hid (¬ SameD d e) := fun hs => by
   unfold SameD at hs
   exact t0 hs.1
  clear t0
  go_wp2
  go_ret
  exact GivesQD.no HS.out (by first | exact HB.out | exact below_drewN HB.out _ | exact below_drewN (below_drewN HB.out _) _ | exact below_drewN (below_drewN (below_drewN HB.out _) _) _)
 have q0 := beq_of_eq t0
 by_cases t1 : d.day = e.day
 case neg =>
  have q1 : (d.day != e.day) = true := by simpa using t1
  have HS : Hid (¬ SameD d e) := fun hs => by
   unfold SameD at hs
   exact t1 hs.2.1
  clear t0 t1
  go_wp2
  go_ret
  exact GivesQD.no HS.out (by first | exact HB.out | exact below_drewN HB.out _ | exact below_drewN (below_drewN HB.out _) _ | exact below_drewN (below_drewN (below_drewN HB.out _) _) _)
 have q1 : (d.day != e.day) = false := by simpa using t1
 by_cases t2 : d.kd = e.kd
 case neg =>
  have q2 : (d.kd != e.kd) = true := by simpa using t2
  have HS : Hid (¬ SameD d e) := fun hs => by
   unfold SameD at hs
   exact t2 hs.2.2.1
  clear t0 t1 t2
  go_wp2
  go_ret
  exact GivesQD.no HS.out (by first | exact HB.out | exact below_drewN HB.out _ | exact below_drewN (below_drewN HB.out _) _ | exact below_drewN (below_drewN (below_drewN HB.out _) _) _)
 have q2 : (d.kd != e.kd) = false := by simpa using t2
 by_cases t3 : d.th = e.th
 case neg =>
  have q3 := beq_of_ne t3
  have HS : Hid (¬ SameD d e) := fun hs => by
   unfold SameD at hs
   exact t3 hs.2.2.2.1
  clear t0 t1 t2 t3
  go_wp2
  go_ret
  exact GivesQD.no HS.out (by first | exact HB.out | exact below_drewN HB.out _ | exact below_drewN (below_drewN HB.out _) _ | exact below_drewN (below_drewN (below_drewN HB.out _) _) _)
 have q3 := beq_of_eq t3
 by_cases t4 : d.fr = e.fr
 case neg =>
  have q4 := beq_of_ne t4
  have HS : Hid (¬ SameD d e) := fun hs => by
   unfold SameD at hs
   exact t4 hs.2.2.2.2.1
  clear t0 t1 t2 t3 t4
  go_wp2
  go_ret
  exact GivesQD.no HS.out (by first | exact HB.out | exact below_drewN HB.out _ | exact below_drewN (below_drewN HB.out _) _ | exact below_drewN (below_drewN (below_drewN HB.out _) _) _)
 have q4 := beq_of_eq t4
 by_cases t5 : d.to_ = e.to_
 case neg =>
  have q5 := beq_of_ne t5
  have HS : Hid (¬ SameD d e) := fun hs => by
   unfold SameD at hs
   exact t5 hs.2.2.2.2.2.1
  clear t0 t1 t2 t3 t4 t5
  go_wp2
  go_ret
  exact GivesQD.no HS.out (by first | exact HB.out | exact below_drewN HB.out _ | exact below_drewN (below_drewN HB.out _) _ | exact below_drewN (below_drewN (below_drewN HB.out _) _) _)
 have q5 := beq_of_eq t5
 by_cases t6 : (d.nu = e.nu ∧ d.de = e.de)
 case neg =>
  have q6 := ratn_no t6
  have HS : Hid (¬ SameD d e) := fun hs => by
   unfold SameD at hs
   exact t6 hs.2.2.2.2.2.2.1
  clear t0 t1 t2 t3 t4 t5 t6
  go_wp2
  go_ret
  exact GivesQD.no HS.out (by first | exact HB.out | exact below_drewN HB.out _ | exact below_drewN (below_drewN HB.out _) _ | exact below_drewN (below_drewN (below_drewN HB.out _) _) _)
 have q6 := ratn_yes t6
 by_cases t7 : d.ex = e.ex
 case neg =>
  have q7 : (d.ex != e.ex) = true := by simpa using t7
  have q7b : (d.ex == e.ex) = false := by simpa using t7
  have q7c : (d.ex ^^ e.ex) = true := by simpa using t7
  have HS : Hid (¬ SameD d e) := fun hs => by
   unfold SameD at hs
   exact t7 hs.2.2.2.2.2.2.2.1
  clear t0 t1 t2 t3 t4 t5 t6 t7
  go_wp2
  go_ret
  exact GivesQD.no HS.out (by first | exact HB.out | exact below_drewN HB.out _ | exact below_drewN (below_drewN HB.out _) _ | exact below_drewN (below_drewN (below_drewN HB.out _) _) _)
 have q7 : (d.ex != e.ex) = false := by simpa using t7
 have q7b : (d.ex == e.ex) = true := by simpa using t7
 have q7c : (d.ex ^^ e.ex) = false := by simpa using t7
 by_cases t8 : d.sb = e.sb
 case neg =>
  have q8 : (d.sb != e.sb) = true := by simpa using t8
  have q8b : (d.sb == e.sb) = false := by simpa using t8
  have q8c : (d.sb ^^ e.sb) = true := by simpa using t8
  have HS : Hid (¬ SameD d e) := fun hs => by
   unfold SameD at hs
   exact t8 hs.2.2.2.2.2.2.2.2.1
  clear t0 t1 t2 t3 t4 t5 t6 t7 t8
  go_wp2
  go_ret
  exact GivesQD.no HS.out (by first | exact HB.out | exact below_drewN HB.out _ | exact below_drewN (below_drewN HB.out _) _ | exact below_drewN (below_drewN (below_drewN HB.out _) _) _)
 have q8 : (d.sb != e.sb) = false := by simpa using t8
 have q8b : (d.sb == e.sb) = true := by simpa using t8
 have q8c : (d.sb ^^ e.sb) = false := by simpa using t8
 by_cases t9 : d.bg = e.bg
 case neg =>
  have q9 : (d.bg != e.bg) = true := by simpa using t9
  have HS : Hid (¬ SameD d e) := fun hs => by
   unfold SameD at hs
   exact t9 hs.2.2.2.2.2.2.2.2.2.2.2.1
  clear t0 t1 t2 t3 t4 t5 t6 t7 t8 t9
  go_wp2
  go_ret
  exact GivesQD.no HS.out (by first | exact HB.out | exact below_drewN HB.out _ | exact below_drewN (below_drewN HB.out _) _ | exact below_drewN (below_drewN (below_drewN HB.out _) _) _)
 have q9 : (d.bg != e.bg) = false := by simpa using t9
 by_cases t10 : d.en = e.en
 case neg =>
  have q10 : (d.en != e.en) = true := by simpa using t10
  have HS : Hid (¬ SameD d e) := fun hs => by
   unfold SameD at hs
   exact t10 hs.2.2.2.2.2.2.2.2.2.2.2.2.1
  clear t0 t1 t2 t3 t4 t5 t6 t7 t8 t9 t10
  go_wp2
  go_ret
  exact GivesQD.no HS.out (by first | exact HB.out | exact below_drewN HB.out _ | exact below_drewN (below_drewN HB.out _) _ | exact below_drewN (below_drewN (below_drewN HB.out _) _) _)
 have q10 : (d.en != e.en) = false := by simpa using t10
 by_cases t11 : d.ot = e.ot
 case neg =>
  have q11 := beq_of_ne t11
  have HS : Hid (¬ SameD d e) := fun hs => by
   unfold SameD at hs
   exact t11 hs.2.2.2.2.2.2.2.2.2.2.2.2.2.2
  clear t0 t1 t2 t3 t4 t5 t6 t7 t8 t9 t10 t11
  go_wp2
  go_ret
  exact GivesQD.no HS.out (by first | exact HB.out | exact below_drewN HB.out _ | exact below_drewN (below_drewN HB.out _) _ | exact below_drewN (below_drewN (below_drewN HB.out _) _) _)
 have q11 := beq_of_eq t11
 go_wp2_with fail
 with_reducible refine (sameWords_c d.usA e.usA d.usc e.usc d.us e.us _ HD.out.lens.2.1 HE.out.lens.2.1 HD.out.uses HE.out.uses).mono ?_
 rintro x wx ⟨r, rfl, hrr, n, rfl⟩
 by_cases t12 : d.us = e.us
 case neg =>
  have hrf : r = false := by
   cases hh : r with
   | false => rfl
   | true => exact absurd (hrr.1 hh) t12
  subst hrf
  clear hrr
  have HS : Hid (¬ SameD d e) := fun hs => by
   unfold SameD at hs
   exact t12 hs.2.2.2.2.2.2.2.2.2.2.1
  clear t0 t1 t2 t3 t4 t5 t6 t7 t8 t9 t10 t11 t12
  go_wp2
  go_ret
  exact GivesQD.no HS.out (by first | exact HB.out | exact below_drewN HB.out _ | exact below_drewN (below_drewN HB.out _) _ | exact below_drewN (below_drewN (below_drewN HB.out _) _) _)
 have hrt : r = true := hrr.2 t12
 subst hrt
 clear hrr
 by_cases t13 : d.ar.length = e.ar.length
 case neg =>
  have q13 : ((d.ar.length : Int) != (e.ar.length : Int)) = true := by simp; omega
  have HS : Hid (¬ SameD d e) := fun hs => by
   unfold SameD at hs
   exact t13 (by rw [hs.2.2.2.2.2.2.2.2.2.1])
  clear t0 t1 t2 t3 t4 t5 t6 t7 t8 t9 t10 t11 t12 t13
  go_wp2
  go_ret
  exact GivesQD.no HS.out (by first | exact HB.out | exact below_drewN HB.out _ | exact below_drewN (below_drewN HB.out _) _ | exact below_drewN (below_drewN (below_drewN HB.out _) _) _)
 rw [← t13] at y10
 by_cases t14 : d.sh.length = e.sh.length
 case neg =>
  have q14 : ((d.sh.length : Int) != (e.sh.length : Int)) = true := by simp; omega
  have HS : Hid (¬ SameD d e) := fun hs => by
   unfold SameD at hs
   exact t14 (by rw [hs.2.2.2.2.2.2.2.2.2.2.2.2.2.1])
  clear t0 t1 t2 t3 t4 t5 t6 t7 t8 t9 t10 t11 t12 t13 t14
  go_wp2
  go_ret
  exact GivesQD.no HS.out (by first | exact HB.out | exact below_drewN HB.out _ | exact below_drewN (below_drewN HB.out _) _ | exact below_drewN (below_drewN (below_drewN HB.out _) _) _)
 rw [← t14] at y14
 have HT : Hid (d.ar = e.ar → d.sh = e.sh → SameD d e) := fun h9 h13 => ⟨t0, t1, t2, t3, t4, t5, t6, t7, t8, h9, t12, t9, t10, h13, t11⟩
 have HL1 := zq t13
 have HL2 := zq t14
 clear t0 t1 t2 t3 t4 t5 t6 t7 t8 t9 t10 t11 t12 t13 t14
 go_wp2
 clear q0 q1 q2 q3 q4 q5 q6 q7 q8 q7b q7c q8b q8c q9 q10 q11 x0 x1 x2 x3 x4 x5 x6 x7 x8 x9 x11 x12 x13 x15 y0 y1 y2 y3 y4 y5 y6 y7 y8 y9 y11 y12 y13 y15
 go_loopg [5] d.ar.length (SdRel W d.ar e.ar)
 case atStart => exact ⟨_, rfl, 0, by omega, rfl, fun j hj => absurd hj (by omega)⟩
 case round =>
  obtain ⟨q, hw, k, hk, rfl, hpre⟩ := hrel
  subst hw
  have HK := zq hk
  have HP := zq hpre
  have hk1 : k ≤ d.ar.length := by omega
  clear hk hpre
  by_cases hlt : k < d.ar.length
  ·have hlt2 : k < e.ar.length := by have := HL1.out; omega
   obtain ⟨b, o, hA, hb, hc⟩ := HD.out.ars.at_ (by omega)
   obtain ⟨b2, o2, hA2, hb2, hcm⟩ := HE.out.ars.at_ (by omega)
   have hc0 := (hc k hlt).1
   have hd0 := (hcm k hlt2).1
   have hc1 := (hc k hlt).2
   have hd1 := (hcm k hlt2).2
   clear hc hcm
   rw [hA2] at y10
   have x10 : W.cell? ⟨w.heap.size, 10, none⟩ = some (.slice (some ⟨b, o, none⟩) d.ar.length d.arc) := by rw [← hA]; exact x10
   by_cases hee : d.ar[k] = e.ar[k]
   ·have HE2 := zq hee
    rw [← hee] at hd0 hd1
    clear hee
    go_wp2
    go_quiet (fail)
    go_wp2
    go_roundg (gk - 1)
    case measure => have := HK.out; omega
    case rel =>
     refine ⟨_, rfl, k + 1, by have := HK.out; omega, by go_num, fun j hj => ?_⟩
     rcases Nat.lt_or_ge j k with h1 | h1
     ·exact HP.out j h1
     ·obtain rfl : j = k := by omega
      rw [List.getElem?_eq_getElem hlt, List.getElem?_eq_getElem hlt2, HE2.out]
   ·have HN : Hid (¬ SameD d e) := fun hs => by
     unfold SameD at hs
     have h := hs.2.2.2.2.2.2.2.2.2.1
     exact hee (by simp only [h])
    by_cases h0 : (d.ar[k]).rg = (e.ar[k]).rg
    case neg =>
     have hb := beq_of_ne h0
     clear hee h0
     go_wp2
     go_quiet (fail)
     go_wp2
     go_ret
     exact GivesQD.no HN.out (by first | exact HB.out | exact below_drewN HB.out _ | exact below_drewN (below_drewN HB.out _) _ | exact below_drewN (below_drewN (below_drewN HB.out _) _) _)
    rw [← h0] at hd0
    have h1 : ¬ (d.ar[k]).out = (e.ar[k]).out := fun e2 => hee (by
     cases hx : d.ar[k]
     cases hy : e.ar[k]
     simp_all)
    have hb := bool_ne h1
    clear hee h0 h1
    go_wp2
    go_quiet (fail)
    go_wp2
    go_ret
    exact GivesQD.no HN.out (by first | exact HB.out | exact below_drewN HB.out _ | exact below_drewN (below_drewN HB.out _) _ | exact below_drewN (below_drewN (below_drewN HB.out _) _) _)
  ·have HQ : Hid (d.ar = e.ar) := same_of HL1.out (by omega) HP.out
   clear HK HP
   have HQ1 := HQ
   clear HQ
   go_wp2
   clear hlt hk1
   go_loopg [6] d.sh.length (SdRel W d.sh e.sh)
   case atStart => exact ⟨_, rfl, 0, by omega, rfl, fun j hj => absurd hj (by omega)⟩
   case round =>
    obtain ⟨q, hw, k, hk, rfl, hpre⟩ := hrel
    subst hw
    have HK := zq hk
    have HP := zq hpre
    have hk1 : k ≤ d.sh.length := by omega
    clear hk hpre
    by_cases hlt : k < d.sh.length
    ·have hlt2 : k < e.sh.length := by have := HL2.out; omega
     obtain ⟨b, o, hA, hb, hc⟩ := HD.out.shs.at_ (by omega)
     obtain ⟨b2, o2, hA2, hb2, hcm⟩ := HE.out.shs.at_ (by omega)
     have hc0 := (hc k hlt).1
     have hd0 := (hcm k hlt2).1
     have hc1 := (hc k hlt).2.1
     have hd1 := (hcm k hlt2).2.1
     have hc2 := (hc k hlt).2.2
     have hd2 := (hcm k hlt2).2.2
     clear hc hcm
     rw [hA2] at y14
     have x14 : W.cell? ⟨w.heap.size, 14, none⟩ = some (.slice (some ⟨b, o, none⟩) d.sh.length d.shc) := by rw [← hA]; exact x14
     by_cases hee : d.sh[k] = e.sh[k]
     ·have HE2 := zq hee
      rw [← hee] at hd0 hd1 hd2
      clear hee
      go_wp2
      go_quiet (fail)
      go_wp2
      go_roundg (gk - 1)
      case measure => have := HK.out; omega
      case rel =>
       refine ⟨_, rfl, k + 1, by have := HK.out; omega, by go_num, fun j hj => ?_⟩
       rcases Nat.lt_or_ge j k with h1 | h1
       ·exact HP.out j h1
       ·obtain rfl : j = k := by omega
        rw [List.getElem?_eq_getElem hlt, List.getElem?_eq_getElem hlt2, HE2.out]
     ·have HN : Hid (¬ SameD d e) := fun hs => by
       unfold SameD at hs
       have h := hs.2.2.2.2.2.2.2.2.2.2.2.2.2.1
       exact hee (by simp only [h])
      by_cases h0 : (d.sh[k]).pt = (e.sh[k]).pt
      case neg =>
       have hb := beq_of_ne h0
       clear hee h0
       go_wp2
       go_quiet (fail)
       go_wp2
       go_ret
       exact GivesQD.no HN.out (by first | exact HB.out | exact below_drewN HB.out _ | exact below_drewN (below_drewN HB.out _) _ | exact below_drewN (below_drewN (below_drewN HB.out _) _) _)
      rw [← h0] at hd0
      by_cases h1 : (d.sh[k]).nu = (e.sh[k]).nu
      case neg =>
       have hb := beq_of_ne h1
       clear hee h0 h1
       go_wp2
       go_quiet (fail)
       go_wp2
       go_ret
       exact GivesQD.no HN.out (by first | exact HB.out | exact below_drewN HB.out _ | exact below_drewN (below_drewN HB.out _) _ | exact below_drewN (below_drewN (below_drewN HB.out _) _) _)
      rw [← h1] at hd1
      have h2 : ¬ (d.sh[k]).de = (e.sh[k]).de := fun e2 => hee (by
       cases hx : d.sh[k]
       cases hy : e.sh[k]
       simp_all)
      have hb := beq_of_ne h2
      clear hee h0 h1 h2
      go_wp2
      go_quiet (fail)
      go_wp2
      go_ret
      exact GivesQD.no HN.out (by first | exact HB.out | exact below_drewN HB.out _ | exact below_drewN (below_drewN HB.out _) _ | exact below_drewN (below_drewN (below_drewN HB.out _) _) _)
    ·have HQ : Hid (d.sh = e.sh) := same_of HL2.out (by omega) HP.out
     clear HK HP
     go_wp2
     go_ret
     exact GivesQD.yes (HT.out HQ1.out HQ.out) (by first | exact HB.out | exact below_drewN HB.out _ | exact below_drewN (below_drewN HB.out _) _ | exact below_drewN (below_drewN (below_drewN HB.out _) _) _)
end Go.Proofs.YtlcfgejaeecclaaGreatDoor
