/- Package right: checkShares. -/
import Derived.Test.YtlcfgejaeecclaaGreatDoorJq21
import Derived.Test.YtlcfgejaeecclaaGreatDoorJq03
namespace Go.Proofs.YtlcfgejaeecclaaGreatDoor
open Go.RowKit Dw

theorem Bx.set {w : World} {g : Nat} {cs : Array Value} {T : TypeId} (h : Bx w g cs T) (i : Nat) (v : Value) : Bx (w.setCell ⟨g, i, none⟩ v) g (cs.setIfInBounds i v) T := by
  have h' : w.heap[g]? = some (.cells cs T (0, 0)) := h
  show (w.setCell ⟨g, i, none⟩ v).heap[g]? = _
  simp [World.setCell, Array.getElem?_modify, h']
theorem Bx.far {w : World} {g : Nat} {cs : Array Value} {T : TypeId} (h : Bx w g cs T) {p : Addr} (hp : g ≠ p.block) (v : Value) : Bx (w.setCell p v) g cs T := (Below.heap_setCell w p v g hp).trans h
abbrev rdC (ng : Bool) (A : Option Addr) (c n : Nat) (A2 : Option Addr) (c2 d : Nat) : Array Value := #[.bool ng, .slice A (words B32 n).length c, .slice A2 (words B32 d).length c2]
/-- Where checkShares stands in its loop: the deed's box, the sum's box and its number. -/
structure ShSt (w : World) (d : De) (g : Nat) (A : Option Addr) (c : Nat) (A2 : Option Addr) (c2 : Nat) (pr : Nat × Nat) (W : World) : Prop where
  bel : Below w.heap.size w W
  box : Bx W w.heap.size (deC d) 54
  sum : Bx W g (rdC false A c pr.1 A2 c2 pr.2) 175
  n1 : Nt W A c pr.1
  n2 : Nt W A2 c2 pr.2
  gt : w.heap.size < g
section
variable {w W W' : World} {d : De} {g : Nat} {A A2 : Option Addr} {c c2 : Nat} {pr : Nat × Nat}
theorem ShSt.below (h : ShSt w d g A c A2 c2 pr W) (hb : Below W.heap.size W W') : ShSt w d g A c A2 c2 pr W' :=
  ⟨below_trans h.bel hb, h.box.below hb, h.sum.below hb, h.n1.below hb, h.n2.below hb, h.gt⟩
theorem ShSt.drewN (h : ShSt w d g A c A2 c2 pr W) (n : Nat) : ShSt w d g A c A2 c2 pr (W.drewN n) :=
  ⟨below_drewN h.bel n, h.box, h.sum, h.n1.drewN n, h.n2.drewN n, h.gt⟩
theorem ShSt.alloc (h : ShSt w d g A c A2 c2 pr W) (o : Obj) : ShSt w d g A c A2 c2 pr (W.alloc o) :=
  h.below ((Below.refl _ _).alloc (Nat.le_refl _) o)
theorem ShSt.store (h : ShSt w d g A c A2 c2 pr W) {A' A2' : Option Addr} {c' c2' : Nat} {pr' : Nat × Nat} (h1 : Nt W A' c' pr'.1) (h2 : Nt W A2' c2' pr'.2) :
    ShSt w d g A' c' A2' c2' pr' (((W.setCell ⟨g, 0, none⟩ (.bool false)).setCell ⟨g, 1, none⟩ (.slice A' (words B32 pr'.1).length c')).setCell ⟨g, 2, none⟩ (.slice A2' (words B32 pr'.2).length c2')) := by
  have hg := h.gt
  have k0 := h.sum.cell (i := 0) rfl
  have k1 := h.sum.cell (i := 1) rfl
  have k2 := h.sum.cell (i := 2) rfl
  refine ⟨((h.bel.setCell (by simp; omega) _).setCell (by simp; omega) _).setCell (by simp; omega) _, ((h.box.far (by simp; omega) _).far (by simp; omega) _).far (by simp; omega) _, ?_, h1.set3 k0 k1 k2 (nb_ _) (ns_ _ _ _) (ns_ _ _ _) _ _ _, h2.set3 k0 k1 k2 (nb_ _) (ns_ _ _ _) (ns_ _ _ _) _ _ _, hg⟩
  exact ((h.sum.set 0 _).set 1 _).set 2 _
theorem ShSt.shs (h : ShSt w d g A c A2 c2 pr W) (hd : DeOk w d) : Shs W d.shA d.sh := hd.shs.below h.bel
end
theorem sumP_zero (l : List Sh) : sumP l 0 = (0, 1) := rfl
theorem sumP_succ {l : List Sh} {k : Nat} (h : k < l.length) : sumP l (k + 1) = addP (sumP l k) (valS (absN l[k].nu), valS l[k].de) := by
  unfold sumP
  rw [List.take_succ_eq_append_getElem h, List.foldl_append]
  rfl
def ShLen (p : Nat × Nat) (k : Nat) : Prop := (words B32 p.1).length ≤ 4001 * k + 1 ∧ (words B32 p.2).length ≤ 4001 * k + 1 ∧ 0 < p.2
theorem shLen_succ {p : Nat × Nat} {k n d : Nat} (h : ShLen p k) (hn : (words B32 n).length ≤ 2000) (hd : (words B32 d).length ≤ 2000) (hd0 : 0 < d) : ShLen (addP p (n, d)) (k + 1) := by
  obtain ⟨h1, h2, h3⟩ := h
  have e1 := len_mul p.1 d
  have e2 := len_mul n p.2
  have e3 := len_add (p.1 * d) (n * p.2)
  have e4 := len_mul p.2 d
  have hp : 0 < p.2 * d := Nat.mul_pos h3 hd0
  have f1 := len_le_of_le B32_gt (Nat.div_le_self (p.1 * d + n * p.2) (Nat.gcd (p.1 * d + n * p.2) (p.2 * d)))
  have f2 := len_le_of_le B32_gt (Nat.div_le_self (p.2 * d) (Nat.gcd (p.1 * d + n * p.2) (p.2 * d)))
  refine ⟨?_, ?_, Nat.div_pos (Nat.le_of_dvd hp (Nat.gcd_dvd_right _ _)) (Nat.gcd_pos_of_pos_right _ hp)⟩
  · show (words B32 ((p.1 * d + n * p.2) / Nat.gcd (p.1 * d + n * p.2) (p.2 * d))).length ≤ _
    omega
  · show (words B32 (p.2 * d / Nat.gcd (p.1 * d + n * p.2) (p.2 * d))).length ≤ _
    omega
theorem ptAt_of {l : List Sh} {i : Nat} (h : i < l.length) : ptAt l i = l[i].pt := by simp [ptAt, List.getD, h]
theorem shD_of {l : List Sh} {i : Nat} (h : i < l.length) : l.getD i default = l[i] := by simp [List.getD, h]
theorem ratF_zero {nu de : ByteArray} (h : ratF nu de = 0) : numB (absN nu) = true ∧ numB de = true ∧ de ≠ zeroS ∧ (absN nu).size ≤ 2000 ∧ de.size ≤ 2000 := by
  unfold ratF at h
  split at h
  · cases h
  · next h1 =>
    split at h
    · cases h
    · next h2 =>
      refine ⟨?_, ?_, ?_, by omega, by omega⟩
      · cases hq : numB (absN nu) with
        | true => rfl
        | false => exact absurd (.inl hq) h1
      · cases hq : numB de with
        | true => rfl
        | false => exact absurd (.inr (.inr (.inl hq))) h1
      · exact fun e => h1 (.inr (.inr (.inr e)))
theorem absN_size (s : ByteArray) : (absN s).size ≤ s.size := by
  show (absL s).toArray.size ≤ _
  unfold absL
  have e : s.data.toList.length = s.size := Array.length_toList
  split
  · rw [List.size_toArray, List.length_tail]; omega
  · rw [List.size_toArray]; omega
theorem posB_sgn (nu : ByteArray) : decide (sgnI (sgB nu) (valS (absN nu)) ≤ 0) = !posB nu := by
  unfold sgnI sgB posB
  cases negB nu <;> by_cases h : valS (absN nu) = 0 <;> simp [h]
theorem posB_sg {nu : ByteArray} (h : posB nu = true) : sgB nu = false := by
  unfold posB at h
  unfold sgB
  cases hn : negB nu <;> simp_all
/-- The loop of checkShares: k shares seen, none at fault. -/
def ShRel (w : World) (d : De) (g : Nat) (m : Nat) (i : Value) (wr : World) : Prop :=
  ∃ A c A2 c2 k, ShSt w d g A c A2 c2 (sumP d.sh k) wr ∧ ShLen (sumP d.sh k) k ∧ k + m = d.sh.length ∧ i = .int .i64 (k : Nat) ∧ ∀ j, j < k → shFault d.sh j = none
/-- What checkShares answers. -/
def shFull (d : De) : Int := if shF d.kd d.sh ≠ 0 then shF d.kd d.sh else if d.kd = 5 ∧ (d.sh.any fun s => decide (s.pt = d.fr)) = true then 12 else 0
theorem whole0_c (w : World) : Calls Tryz.prog 112 #[.int .i64 0] w (GivesR false 0 1 w) := Whole_c 0 w (by omega)
theorem whole1_c (w : World) : Calls Tryz.prog 112 #[.int .i64 1] w (GivesR false 1 1 w) := Whole_c 1 w (by omega)
/-- What checkShares answers when no share is at fault. -/
def shEnd (d : De) : Int := if (sumP d.sh d.sh.length).2 < (sumP d.sh d.sh.length).1 ∨ (d.kd = 5 ∧ (sumP d.sh d.sh.length).1 ≠ (sumP d.sh d.sh.length).2) then 1 else if d.kd = 5 ∧ (d.sh.any (ptIs d.fr)) = true then 12 else 0
/-- What is left to see of a share whose name stands well. -/
def shRest (s : Sh) : Option Int := if ratF s.nu s.de ≠ 0 then some (ratF s.nu s.de) else if posB s.nu = false then some 1 else none
theorem shFault_nz {l : List Sh} {k : Nat} {f : Int} (h : shFault l k = some f) : f ≠ 0 := by
  unfold shFault at h
  split at h
  · cases h; decide
  · split at h
    · cases h; decide
    · split at h
      · next hr => cases h; exact hr
      · split at h
        · cases h; decide
        · cases h
theorem shFull_hit {d : De} {k : Nat} {f : Int} (hne : d.sh ≠ []) (h20 : ¬20 < d.sh.length) (hk : k < d.sh.length) (hp : ∀ j, j < k → shFault d.sh j = none) (hf : shFault d.sh k = some f) : shFull d = f := by
  have e : shF d.kd d.sh = f := by
    unfold shF
    rw [if_neg hne, if_neg h20, findSome_first hk hp hf]
  unfold shFull
  rw [e, if_pos (shFault_nz hf)]
theorem shFull_none {d : De} (hne : d.sh ≠ []) (h20 : ¬20 < d.sh.length) (hp : ∀ j, j < d.sh.length → shFault d.sh j = none) : shFull d = shEnd d := by
  have e : shF d.kd d.sh = if (sumP d.sh d.sh.length).2 < (sumP d.sh d.sh.length).1 ∨ (d.kd = 5 ∧ (sumP d.sh d.sh.length).1 ≠ (sumP d.sh d.sh.length).2) then 1 else 0 := by
    unfold shF
    rw [if_neg hne, if_neg h20, findSome_none hp]
  unfold shFull shEnd
  rw [e]
  by_cases h : (sumP d.sh d.sh.length).2 < (sumP d.sh d.sh.length).1 ∨ (d.kd = 5 ∧ (sumP d.sh d.sh.length).1 ≠ (sumP d.sh d.sh.length).2)
  · rw [if_pos h, if_pos h]; rfl
  · rw [if_neg h, if_neg h]; rfl
set_option maxRecDepth 100000 in
set_option maxHeartbeats 2000000 in
theorem checkShares_c (d : De) (w : World) (hd : DeOk w d) : Calls Tryz.prog 114 #[deV d] w (GivesB (.int .i64 (shFull d)) w) := by
  generalize hres : shFull d = res
  have HR := Lib.hid hres
  clear hres
  have HD := Lib.hid hd
  clear hd
  have HX : Hid (Bx (w.alloc (.cells (deC d) 54)) w.heap.size (deC d) 54) := Bx.new _ _ _
  have HB : Hid (Below w.heap.size w (w.alloc (.cells (deC d) 54))) := (Below.refl w.heap.size w).alloc (Nat.le_refl _) _
  obtain ⟨W, hW⟩ : ∃ W, W = w.alloc (.cells (deC d) 54) := ⟨_, rfl⟩
  rw [← hW] at HX HB
  have hsz : w.heap.size < W.heap.size := HX.out.lt
  go_enter Tryz.func114, Tryz.ntmps114
  by_cases h0 : d.sh.length = 0
  · have HS : Hid (res = 9) := by
      show _ = _
      rw [← HR.out]; unfold shFull shF
      have : d.sh = [] := List.length_eq_zero_iff.1 h0
      simp [this]
    go_wp2
    go_ret
    exact GivesB.mk (vint HS.out.symm) (hW ▸ HB.out)
  · by_cases h20 : 20 < d.sh.length
    · have HS : Hid (res = 2) := by
        show _ = _
        rw [← HR.out]; unfold shFull shF
        have : d.sh ≠ [] := fun e => h0 (by rw [e]; rfl)
        simp [this, h20]
      go_wp2
      go_ret
      exact GivesB.mk (vint HS.out.symm) (hW ▸ HB.out)
    · have hne : d.sh ≠ [] := fun e => h0 (by rw [e]; rfl)
      have HH : Hid (∀ k f, k < d.sh.length → (∀ j, j < k → shFault d.sh j = none) → shFault d.sh k = some f → res = f) := by
        intro k f hk hp hf
        rw [← HR.out]
        exact shFull_hit hne h20 hk hp hf
      have HN : Hid ((∀ j, j < d.sh.length → shFault d.sh j = none) → shEnd d = res) := by
        intro hp
        rw [← HR.out]
        exact (shFull_none hne h20 hp).symm
      have x14 := HX.out.cell (i := 14) rfl
      go_wp2_with fail
      rw [← hW]
      with_reducible refine (whole0_c W).mono ?_
      rintro e w1 ⟨A1, c1, A2, c2, rfl, hn1, hn2, hb1⟩
      have HX1 := Lib.hid (HX.out.below hb1)
      have HB1 := Lib.hid (below_trans HB.out hb1)
      have hs1 := hb1.size
      have HST : Hid (ShSt w d w1.heap.size A1 c1 A2 c2 (sumP d.sh 0) (w1.alloc (.cells (rdC false A1 c1 0 A2 c2 1) 175))) :=
        ⟨HB1.out.alloc (by omega) _, HX1.out.alloc _, Bx.new _ _ _, hn1.alloc _, hn2.alloc _, by omega⟩
      have y14 := HX1.out.cell (i := 14) rfl
      have hlt1 := HX1.out.lt
      clear hb1 x14
      go_wp2
      obtain ⟨b, o, hA, hb0, hc0⟩ := HD.out.shs.at_ (by omega)
      have HC0 := Lib.hid hc0
      clear hc0
      rw [hA]
      go_loopg [21] d.sh.length (ShRel w d w1.heap.size)
      case atStart => exact ⟨A1, c1, A2, c2, 0, HST.out, ⟨by rw [sumP_zero]; decide, by rw [sumP_zero]; decide, by rw [sumP_zero]; decide⟩, by omega, rfl, fun j hj => absurd hj (by omega)⟩
      case round =>
        clear HST HB1 HX1 hn1 hn2 y14 hs1 hW HX HB hsz
        obtain ⟨A3, c3, A4, c4, k, hst, hle, hkm, rfl, hpre⟩ := hrel
        have HST := Lib.hid hst
        have HLE := Lib.hid hle
        have HKM := Lib.hid hkm
        have HP := Lib.hid hpre
        have hkl : k ≤ d.sh.length := by omega
        clear hst hle hkm hpre
        have HSH := Lib.hid (HST.out.shs HD.out)
        by_cases hlt : k < d.sh.length
        · have hb : b < wr.heap.size := Nat.lt_of_lt_of_le hb0 HST.out.bel.size
          have hc : ∀ i (h : i < d.sh.length), wr.cell? ⟨b, o + i * 3, none⟩ = some (.string (d.sh[i]).pt) ∧ wr.cell? ⟨b, o + i * 3 + 1, none⟩ = some (.string (d.sh[i]).nu) ∧ wr.cell? ⟨b, o + i * 3 + 2, none⟩ = some (.string (d.sh[i]).de) :=
            fun i h => ⟨(HST.out.bel.cell hb0).trans (HC0.out i h).1, (HST.out.bel.cell hb0).trans (HC0.out i h).2.1, (HST.out.bel.cell hb0).trans (HC0.out i h).2.2⟩
          have HCL := Lib.hid hc
          obtain ⟨s0, s1, s2⟩ := hc k hlt
          clear hc
          have HSB : Hid (Bx (wr.alloc (.cells #[.string d.sh[k].pt, .string d.sh[k].nu, .string d.sh[k].de] 118)) wr.heap.size #[.string d.sh[k].pt, .string d.sh[k].nu, .string d.sh[k].de] 118) := Bx.new _ _ _
          have HST1 := Lib.hid (HST.out.alloc (.cells #[.string d.sh[k].pt, .string d.sh[k].nu, .string d.sh[k].de] 118))
          have hsz1 := (HD.out.shz _ (List.getElem_mem hlt)).1
          have hz1 := Nat.le_trans (absN_size d.sh[k].nu) (HD.out.shz _ (List.getElem_mem hlt)).2.1
          have hz2 := (HD.out.shz _ (List.getElem_mem hlt)).2.2
          go_wp2_with fail
          with_reducible refine (isName_c d.sh[k].pt _ hsz1).mono ?_
          rintro e w2 ⟨rfl, hb2⟩
          have HST2 := Lib.hid (HST1.out.below hb2)
          have hbw : Below wr.heap.size wr w2 := ((Below.refl _ _).alloc (Nat.le_refl _) _).trans (hb2.mono (by simp))
          have HSB2 := Lib.hid (HSB.out.below hb2)
          clear HST1 HSB hb2
          cases hnm : isNm d.sh[k].pt with
          | false =>
            have HS : Hid (res = 5) := HH.out k 5 hlt HP.out (by unfold shFault; rw [ptAt_of hlt, if_pos hnm])
            clear hnm
            go_wp2
            go_ret
            exact GivesB.mk (vint HS.out.symm) HST2.out.bel
          | true =>
            have HNM := Lib.hid hnm
            clear hnm
            have yd : w2.cell? ⟨w.heap.size, 14, none⟩ = some (.slice (some ⟨b, o, none⟩) d.sh.length d.shc) := by rw [← hA]; exact HST2.out.box.cell (i := 14) rfl
            have ye := HST2.out.box.lt
            have z0 := HSB2.out.cell (i := 0) rfl
            have z1 := HSB2.out.cell (i := 1) rfl
            have z2 := HSB2.out.cell (i := 2) rfl
            have HPV : Hid (∀ (h : 0 < k), w2.cell? ⟨b, o + (k - 1) * 3, none⟩ = some (.string (d.sh[k - 1]'(by omega)).pt)) := fun h => (hbw.cell hb).trans (HCL.out (k - 1) (by omega)).1
            clear hbw s0 s1 s2
            by_cases hk0 : 0 < k
            case' pos =>
              have zp := HPV.out hk0
              have hd : decide ((0 : Int) < (k : Int)) = true := by simp; omega
              have hd0 : decide ((0 : Int) ≤ (k : Int) - 1) = true := by simp; omega
              cases hle : sle d.sh[k].pt (d.sh[k - 1]'(by omega)).pt
              case' true =>
                have HS : Hid (res = 8) := HH.out k 8 hlt HP.out (by unfold shFault; rw [ptAt_of hlt, ptAt_of (show k - 1 < d.sh.length by omega), if_neg (by rw [HNM.out]; simp), if_pos ⟨hk0, hle⟩])
                unfold sle at hle
                clear HPV HCL
                go_wp2
                go_quiet (fail)
                go_wp2
                go_ret
                exact GivesB.mk (vint HS.out.symm) (below_drewN HST2.out.bel _)
              case' false =>
                have HF : Hid (shFault d.sh k = shRest d.sh[k]) := by
                  show _ = _
                  unfold shFault shRest; rw [shD_of hlt, ptAt_of hlt, ptAt_of (show k - 1 < d.sh.length by omega), if_neg (by rw [HNM.out]; simp), if_neg (fun hh => by rw [hle] at hh; cases hh.2)]
                unfold sle at hle
            case' neg =>
              have hd : decide ((0 : Int) < (k : Int)) = false := by simp; omega
              have HF : Hid (shFault d.sh k = shRest d.sh[k]) := by
                show _ = _
                unfold shFault shRest; rw [shD_of hlt, ptAt_of hlt, if_neg (by rw [HNM.out]; simp), if_neg (fun hh => hk0 hh.1)]
            all_goals
              clear HPV HCL HNM
              go_wp2
              go_quiet (fail)
              go_wp2_with fail
              with_reducible refine (CheckRatio_c d.sh[k].nu d.sh[k].de _ hz1 hz2).mono ?_
              rintro e w3 ⟨rfl, hb3⟩
              have HST3 := Lib.hid ((HST2.out.drewN nq).below hb3)
              have HSB3 := Lib.hid ((HSB2.out.drewN nq).below hb3)
              clear yd ye z0 z1 z2 hb3 HSB2 HST2
              by_cases hr : ratF d.sh[k].nu d.sh[k].de = 0
              case' neg =>
                have HS : Hid (res = ratF d.sh[k].nu d.sh[k].de) := HH.out k _ hlt HP.out (by rw [HF.out]; unfold shRest; rw [if_pos hr])
                have hrb : (ratF d.sh[k].nu d.sh[k].de != 0) = true := by simpa using hr
                clear hr
                go_wp2
                go_ret
                exact GivesB.mk (vint HS.out.symm) HST3.out.bel
              have HF2 : Hid (shFault d.sh k = if posB d.sh[k].nu = false then some 1 else none) := by
                show _ = _
                rw [HF.out]; unfold shRest; rw [if_neg (by rw [hr]; decide)]
              obtain ⟨q1, q2, q3, q4, q5⟩ := ratF_zero hr
              have HLN : Hid ((words B32 (valS (absN d.sh[k].nu))).length ≤ 2000) := len_val (numB_all q1).1 q4
              have HLD : Hid ((words B32 (valS d.sh[k].de)).length ≤ 2000) := len_val (numB_all q2).1 q5
              have HDP : Hid (0 < valS d.sh[k].de) := den_pos q2 q3
              have HFR := Lib.hid (From_c d.sh[k].nu d.sh[k].de w3 (numB_all q1).1 q4 (numB_all q2).1 q5)
              have z0 := HSB3.out.cell (i := 0) rfl
              have z1 := HSB3.out.cell (i := 1) rfl
              have z2 := HSB3.out.cell (i := 2) rfl
              rw [hr]
              clear q1 q2 q3 q4 q5 hr HF HSB3
              go_wp2_with fail
              with_reducible refine HFR.out.mono ?_
              rintro e w4 ⟨A5, c5, A6, c6, rfl, h5, h6, hb4⟩
              have HST4 := Lib.hid (HST3.out.below hb4)
              clear z0 z1 z2 hb4 HST3 HFR
              have HXB : Hid (Bx (w4.alloc (.cells (rdC (sgB d.sh[k].nu) A5 c5 (valS (absN d.sh[k].nu)) A6 c6 (valS d.sh[k].de)) 175)) w4.heap.size (rdC (sgB d.sh[k].nu) A5 c5 (valS (absN d.sh[k].nu)) A6 c6 (valS d.sh[k].de)) 175) := Bx.new _ _ _
              have HST5 := Lib.hid (HST4.out.alloc (.cells (rdC (sgB d.sh[k].nu) A5 c5 (valS (absN d.sh[k].nu)) A6 c6 (valS d.sh[k].de)) 175))
              have H5 := Lib.hid (h5.alloc (.cells (rdC (sgB d.sh[k].nu) A5 c5 (valS (absN d.sh[k].nu)) A6 c6 (valS d.sh[k].de)) 175))
              have H6 := Lib.hid (h6.alloc (.cells (rdC (sgB d.sh[k].nu) A5 c5 (valS (absN d.sh[k].nu)) A6 c6 (valS d.sh[k].de)) 175))
              clear h5 h6 HST4
              go_wp2_with fail
              with_reducible refine (RSign_c (sgB d.sh[k].nu) A5 A6 c5 c6 (valS (absN d.sh[k].nu)) (valS d.sh[k].de) _).mono ?_
              rintro e w5 ⟨rfl, hb5⟩
              have HST6 := Lib.hid (HST5.out.below hb5)
              have HXB6 := Lib.hid (HXB.out.below hb5)
              have H56 := Lib.hid (H5.out.below hb5)
              have H66 := Lib.hid (H6.out.below hb5)
              have hsg := posB_sgn d.sh[k].nu
              clear hb5 HST5 HXB H5 H6
              cases hp : posB d.sh[k].nu with
              | false =>
                have HS : Hid (res = 1) := HH.out k 1 hlt HP.out (by rw [HF2.out, if_pos hp])
                rw [hp] at hsg
                clear hp
                go_wp2
                go_ret
                exact GivesB.mk (vint HS.out.symm) HST6.out.bel
              | true =>
                have HF3 : Hid (shFault d.sh k = none) := by
                  show _ = _
                  rw [HF2.out, if_neg (by rw [hp]; simp)]
                have hsb := posB_sg hp
                rw [hp] at hsg
                clear hp HF2
                have HSUM : Hid (sumP d.sh (k + 1) = addP (sumP d.sh k) (valS (absN d.sh[k].nu), valS d.sh[k].de)) := sumP_succ hlt
                have HLS := Lib.hid (shLen_succ HLE.out HLN.out HLD.out HDP.out)
                have hk20 : k < 20 := by omega
                have hle1 := HLE.out.1
                have hle2 := HLE.out.2.1
                have hle3 := HLE.out.2.2
                have HADD := Lib.hid (RAdd_c A3 A4 A5 A6 c3 c4 c5 c6 (sumP d.sh k).1 (sumP d.sh k).2 (valS (absN d.sh[k].nu)) (valS d.sh[k].de) w5 HST6.out.n1 HST6.out.n2 H56.out H66.out (by omega) (by omega) (Nat.le_trans HLN.out (by omega)) (Nat.le_trans HLD.out (by omega)) hle3 HDP.out)
                rw [hsb] at hsg HXB6
                rw [hsb]
                have a0 := HST6.out.sum.cell (i := 0) rfl
                have a1 := HST6.out.sum.cell (i := 1) rfl
                have a2 := HST6.out.sum.cell (i := 2) rfl
                have x0 := HXB6.out.cell (i := 0) rfl
                have x1 := HXB6.out.cell (i := 1) rfl
                have x2 := HXB6.out.cell (i := 2) rfl
                clear hle1 hle2 hle3 HLE HXB6 H56 H66
                go_wp2_with fail
                with_reducible refine HADD.out.mono ?_
                rintro e w6 ⟨A7, c7, A8, c8, rfl, h7, h8, hb6⟩
                have HST7 := Lib.hid (HST6.out.below hb6)
                have r0 := HST7.out.sum.cell (i := 0) rfl
                have r1 := HST7.out.sum.cell (i := 1) rfl
                have r2 := HST7.out.sum.cell (i := 2) rfl
                have fr := HST7.out.sum.frozen
                have rl := HST7.out.sum.lt
                have HST8 := Lib.hid (HST7.out.store (pr' := addP (sumP d.sh k) (valS (absN d.sh[k].nu), valS d.sh[k].de)) h7 h8)
                clear a0 a1 a2 x0 x1 x2 hb6 h7 h8 HST6 HADD hsg hsb
                go_wp2
                go_roundg (gk - 1)
                case measure => have := HKM.out; omega
                case rel =>
                  refine ⟨A7, c7, A8, c8, k + 1, by rw [HSUM.out]; exact HST8.out, by rw [HSUM.out]; exact HLS.out, by have := HKM.out; omega, by go_num, fun j hj => ?_⟩
                  rcases Nat.lt_or_ge j k with h9 | h9
                  · exact HP.out j h9
                  · obtain rfl : j = k := by omega
                    exact HF3.out
        · have hke : k = d.sh.length := by omega
          rw [hke] at HST HLE HP
          have HE := Lib.hid (HN.out HP.out)
          have hl1 : (words B32 (sumP d.sh d.sh.length).1).length ≤ 100000 := Nat.le_trans HLE.out.1 (by omega)
          have hl2 : (words B32 (sumP d.sh d.sh.length).2).length ≤ 100000 := Nat.le_trans HLE.out.2.1 (by omega)
          have HL1 := Lib.hid hl1
          have HL2 := Lib.hid hl2
          clear hl1 hl2 HLE HP HC0
          have a0 := HST.out.sum.cell (i := 0) rfl
          have a1 := HST.out.sum.cell (i := 1) rfl
          have a2 := HST.out.sum.cell (i := 2) rfl
          go_wp2
          go_region_held3 (fun w' => w'.cell? ⟨w1.heap.size, 0, none⟩ = some (.bool false) ∧ w'.cell? ⟨w1.heap.size, 1, none⟩ = some (.slice A3 (words B32 (sumP d.sh d.sh.length).1).length c3) ∧ w'.cell? ⟨w1.heap.size, 2, none⟩ = some (.slice A4 (words B32 (sumP d.sh d.sh.length).2).length c4)) ((refine ⟨?_, ?_, ?_⟩ <;> first | with_reducible assumption | go_simp))
            (first
              | ((go_at_call 112; (with_reducible refine (whole1_c _).mono ?_); rintro e w8 ⟨A7, c7, A8, c8, rfl, h7, h8, hb8⟩; have HST8 := Lib.hid ((HST.out.drewN 1).below hb8); have b0 := HST8.out.sum.cell (i := 0) rfl; have b1 := HST8.out.sum.cell (i := 1) rfl; have b2 := HST8.out.sum.cell (i := 2) rfl; clear hb8))
              | ((go_at_call 111; (with_reducible refine (RCmp_c A3 A4 A7 A8 c3 c4 c7 c8 _ _ 1 1 w8 HST8.out.n1 HST8.out.n2 h7 h8 HL1.out HL2.out (by decide) (by decide)).mono ?_); rintro e w9 ⟨rfl, hb9⟩; have HST9 := Lib.hid (HST8.out.below hb9); have d0 := HST9.out.sum.cell (i := 0) rfl; have d1 := HST9.out.sum.cell (i := 1) rfl; have d2 := HST9.out.sum.cell (i := 2) rfl; clear hb9)))
          clear a0 a1 a2 b0 b1 b2 d0 d1 d2 HST HST8 h7 h8 HL1 HL2 HSH
          have y2 : w9.cell? ⟨w.heap.size, 2, none⟩ = some (.int .i64 d.kd) := HST9.out.box.cell (i := 2) rfl
          have y14 : w9.cell? ⟨w.heap.size, 14, none⟩ = some (.slice d.shA d.sh.length d.shc) := HST9.out.box.cell (i := 14) rfl
          have yl := HST9.out.box.lt
          have HCO := Lib.hid (containsSh_c d.shA d.shc w.heap.size d.sh d.fr w9 (by omega) (HST9.out.shs HD.out) (HST9.out.box.cell (i := 4) rfl))
          have he := HE.out
          unfold shEnd at he
          clear HE HN HH HR
          try simp only [Nat.mul_one, Nat.one_mul]
          rcases Nat.lt_trichotomy (sumP d.sh d.sh.length).2 (sumP d.sh d.sh.length).1 with h | h | h
          · rw [if_pos (.inl h)] at he
            rw [cmpN_gt h]
            have HS := Lib.hid he
            clear he h
            go_wp2
            go_ret
            exact GivesB.mk (vint HS.out) HST9.out.bel
          · rw [if_neg (by omega)] at he
            rw [cmpN_eq h.symm]
            by_cases hk : d.kd = 5
            · have hkb : (d.kd == 5) = true := by rw [hk]; rfl
              cases hany : d.sh.any (ptIs d.fr) with
              | true =>
                rw [if_pos ⟨hk, hany⟩] at he
                rw [hany, hA] at HCO
                have HS := Lib.hid he
                clear he h hk hany
                go_wp2_with fail
                with_reducible refine HCO.out.mono ?_
                rintro e w10 ⟨rfl, hb10⟩
                go_wp2
                go_ret
                exact GivesB.mk (vint HS.out) (below_trans HST9.out.bel hb10)
              | false =>
                rw [if_neg (fun hh => by rw [hany] at hh; cases hh.2)] at he
                rw [hany, hA] at HCO
                have HS := Lib.hid he
                clear he h hk hany
                go_wp2_with fail
                with_reducible refine HCO.out.mono ?_
                rintro e w10 ⟨rfl, hb10⟩
                go_wp2
                go_ret
                exact GivesB.mk (vint HS.out) (below_trans HST9.out.bel hb10)
            · have hkb : (d.kd == 5) = false := by simpa using hk
              rw [if_neg (fun hh => hk hh.1)] at he
              have HS := Lib.hid he
              clear he h hk
              go_wp2
              go_ret
              exact GivesB.mk (vint HS.out) HST9.out.bel
          · rw [cmpN_lt h]
            by_cases hk : d.kd = 5
            · have hkb : (d.kd == 5) = true := by rw [hk]; rfl
              rw [if_pos (.inr ⟨hk, by omega⟩)] at he
              have HS := Lib.hid he
              clear he h hk
              go_wp2
              go_ret
              exact GivesB.mk (vint HS.out) HST9.out.bel
            · have hkb : (d.kd == 5) = false := by simpa using hk
              rw [if_neg (by omega), if_neg (fun hh => hk hh.1)] at he
              have HS := Lib.hid he
              clear he h hk
              go_wp2
              go_ret
              exact GivesB.mk (vint HS.out) HST9.out.bel
end Go.Proofs.YtlcfgejaeecclaaGreatDoor
