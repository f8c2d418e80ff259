/- Package desk: checkEmbargoes. -/
import Derived.Test.YtfninfgohiipjaaGreatDoorLdB
import Derived.StillTailTactics
import Derived.BigQuiet
namespace Go.Proofs.YtfninfgohiipjaaGreatDoor
open Go.RowKit Dw

/-- A slice of embargoes reads as a list. -/
def Ems (w : World) (A : Option Addr) (l : List Em) : Prop :=
  0 < l.length → ∃ b o : Nat, A = some ⟨b, o, none⟩ ∧ ∀ i (h : i < l.length), w.cell? ⟨b, o + i * 3, none⟩ = some (.int .i64 (l[i]).id) ∧ w.cell? ⟨b, o + i * 3 + 1, none⟩ = some (.int .i64 (l[i]).til) ∧
    w.cell? ⟨b, o + i * 3 + 2, none⟩ = some (.slice (l[i]).bA (l[i]).but.length (l[i]).bc)
structure EmsOk (w : World) (A : Option Addr) (l : List Em) : Prop where
  ems : Ems w A l
  strs : ∀ e ∈ l, Strs w e.bA e.but
  sized : l.length ≤ 9223372036854775807 ∧ ∀ e ∈ l, e.but.length ≤ 9223372036854775807 ∧ ∀ s ∈ e.but, s.size ≤ 9223372036854775807
section
variable {w w' : World} {A : Option Addr} {l : List Em}
theorem Ems.at_ (h : Ems w A l) (hl : 0 < l.length) : ∃ b o : Nat, A = some ⟨b, o, none⟩ ∧ b < w.heap.size ∧ ∀ i (h : i < l.length), w.cell? ⟨b, o + i * 3, none⟩ = some (.int .i64 (l[i]).id) ∧ w.cell? ⟨b, o + i * 3 + 1, none⟩ = some (.int .i64 (l[i]).til) ∧
    w.cell? ⟨b, o + i * 3 + 2, none⟩ = some (.slice (l[i]).bA (l[i]).but.length (l[i]).bc) := by
  obtain ⟨b, o, rfl, hc⟩ := h hl
  exact ⟨b, o, rfl, World.block_lt_of_cell? w _ (hc 0 hl).1, hc⟩
theorem Ems.below (h : Ems w A l) (hb : Below w.heap.size w w') : Ems w' A l := fun hl => by
  obtain ⟨b, o, rfl, hlt, hc⟩ := h.at_ hl
  refine ⟨b, o, rfl, fun i hi => ?_⟩
  rw [hb.cell hlt, hb.cell hlt, hb.cell hlt]
  exact hc i hi
theorem EmsOk.below (h : EmsOk w A l) (hb : Below w.heap.size w w') : EmsOk w' A l := ⟨h.ems.below hb, fun e he => (h.strs e he).below hb, h.sized⟩
end

theorem emOrd_cmp (a b : Em) : decide ((0 : Int) ≤ orI [cmpI a.id b.id, cmpI a.til b.til]) = !emOrd a b := by
  unfold emOrd cmpI
  rcases Int.lt_trichotomy a.id b.id with h | h | h
  · simp [h, orI]
  · rcases Int.lt_trichotomy a.til b.til with h2 | h2 | h2
    · simp [h, h2, orI]
    · simp [h, h2, orI]
    · have : ¬ a.til < b.til := by omega
      simp [h, h2, orI, this]
  · have h1 : ¬ a.id < b.id := by omega
    have h2 : ¬ a.id = b.id := by omega
    simp [h, h1, h2, orI]

theorem ints_two (w : World) (a b : Int) (t : TypeId) : Ints (w.alloc (.cells #[.int .i64 a, .int .i64 b] t)) (some ⟨w.heap.size, 0, none⟩) [a, b] := fun _ => by
  refine ⟨w.heap.size, 0, rfl, fun i hi => ?_⟩
  have h2 : i = 0 ∨ i = 1 := by simp at hi; omega
  rcases h2 with rfl | rfl
  · exact boxC (heap_alloc_new _ _) rfl
  · exact boxC (heap_alloc_new _ _) rfl

def BoxE (w : World) (p : Nat) (x : Em) : Prop := w.heap[p]? = some (.cells #[.int .i64 x.id, .int .i64 x.til, .slice x.bA x.but.length x.bc] 96 (0, 0))
theorem BoxE.lt {w : World} {p : Nat} {x : Em} (h : BoxE w p x) : p < w.heap.size := (Array.getElem?_eq_some_iff.1 h).1
theorem BoxE.below {w w' : World} {p : Nat} {x : Em} (h : BoxE w p x) (hb : Below w.heap.size w w') : BoxE w' p x := (hb.block _ h.lt).trans h
theorem BoxE.cells {w : World} {p : Nat} {x : Em} (h : BoxE w p x) : w.cell? ⟨p, 0, none⟩ = some (.int .i64 x.id) ∧ w.cell? ⟨p, 1, none⟩ = some (.int .i64 x.til) ∧ w.cell? ⟨p, 2, none⟩ = some (.slice x.bA x.but.length x.bc) := ⟨boxC h rfl, boxC h rfl, boxC h rfl⟩
theorem BoxE.drewN {w : World} {p : Nat} {x : Em} (h : BoxE w p x) (n : Nat) : BoxE (w.drewN n) p x := h
theorem WSt.drewN {w0 w : World} {g r : Nat} {v1 v2 : Value} {T : List Th} {M : List Mv} {K : Int → Prop} (h : WSt w0 w g r v1 v2 T M K) (n : Nat) : WSt w0 (w.drewN n) g r v1 v2 T M K := h.below (below_drewN (Below.refl _ _) n)

/-- The ids of the first embargoes. -/
def idsTo (l : List Em) (k : Nat) (i : Int) : Prop := ∃ j, ∃ h : j < l.length, j < k ∧ (l[j]).id = i
def GivesCk (w0 : World) (g r : Nat) (v1 v2 : Value) (T : List Th) (M : List Mv) (l : List Em) (e : Ending) (w' : World) : Prop :=
  e = .returned (.int .i64 (chkE T M l)) ∧ WSt w0 w' g r v1 v2 T M (fun k => chkE T M l = 0 ∧ idsTo l l.length k)
theorem GivesCk.bad {w0 w' : World} {g r : Nat} {v1 v2 : Value} {T : List Th} {M : List Mv} {l : List Em} {K : Int → Prop} {z : Int} (hz : z ≠ 0) (h : chkE T M l = z) (hs : WSt w0 w' g r v1 v2 T M K) : GivesCk w0 g r v1 v2 T M l (.returned (.int .i64 z)) w' :=
  ⟨by rw [h], hs.weak (fun k hk => absurd (h.symm.trans hk.1) hz)⟩
theorem GivesCk.ok {w0 w' : World} {g r : Nat} {v1 v2 : Value} {T : List Th} {M : List Mv} {l : List Em} (h : chkE T M l = 0) (hs : WSt w0 w' g r v1 v2 T M (idsTo l l.length)) : GivesCk w0 g r v1 v2 T M l (.returned (.int .i64 0)) w' :=
  ⟨by rw [h], hs.weak (fun k hk => hk.2)⟩
theorem btF_at {b : List ByteArray} {k : Nat} (h : k < b.length) : btF b k = if isNm b[k] = false then 5 else if 0 < k ∧ sle b[k] (b.getD (k - 1) emp) = true then 8 else 0 := by
  unfold btF; rw [getB h]
def CeRel (w0 : World) (g r : Nat) (v1 v2 : Value) (T : List Th) (M : List Mv) (l : List Em) (m : Nat) (i : Value) (wr : World) : Prop :=
  ∃ k : Nat, k + m = l.length ∧ i = .int .i64 k ∧ (∀ j, j < k → emF T M l j = 0) ∧ WSt w0 wr g r v1 v2 T M (idsTo l k)
def BtRel (w0 : World) (g r : Nat) (v1 v2 : Value) (T : List Th) (M : List Mv) (K : Int → Prop) (p : Nat) (x : Em) (m : Nat) (i : Value) (wr : World) : Prop :=
  ∃ k : Nat, k + m = x.but.length ∧ i = .int .i64 k ∧ (∀ j, j < k → btF x.but j = 0) ∧ WSt w0 wr g r v1 v2 T M K ∧ BoxE wr p x

set_option maxRecDepth 100000 in
set_option maxHeartbeats 1000000 in
theorem checkEm_c (w0 : World) (g r : Nat) (A1 : Option Addr) (c1 : Nat) (T : List Th) (A2 : Option Addr) (c2 : Nat) (M : List Mv) (A : Option Addr) (c : Nat) (l : List Em) (w : World) (hc : CatOk w0 A1 T A2 M) (hG : GOK w0) (he : EmsOk w0 A l)
    (hst : WSt w0 w g r (.slice A1 T.length c1) (.slice A2 M.length c2) T M (fun _ => False)) :
    Calls Tryz.prog 40 #[.pointer (some ⟨g, 0, none⟩), .slice A l.length c] w (GivesCk w0 g r (.slice A1 T.length c1) (.slice A2 M.length c2) T M l) := by
  have HST := Lib.hid hst
  have HEM := Lib.hid he
  have hg0 := hst.lt
  have b0 := hst.c0
  have b1 := hst.c1
  have hls := he.sized.1
  clear hst he
  go_enter Tryz.func40, Tryz.ntmps40
  go_wp2_with fail
  refine (Check_c A1 c1 T A2 c2 M _ (hc.below HST.out.bel) (hG.below HST.out.bel)).mono ?_
  rintro e w1 ⟨rfl, hb1⟩
  have HS1 := Lib.hid (HST.out.below hb1)
  clear hb1 b0 b1
  by_cases hck : chkC twoB T M = 0
  case neg =>
    have hckb : (chkC twoB T M != 0) = true := by simpa using hck
    have HX := Lib.hid (chkE_bad (l := l) hck)
    have HZ := Lib.hid hck
    clear hck
    generalize chkC twoB T M = z at *
    go_wp2
    go_ret
    exact GivesCk.bad HZ.out HX.out HS1.out
  have HCK := Lib.hid hck
  rw [hck]
  clear hck
  by_cases hlg : 100 < l.length
  · go_wp2
    go_ret
    exact GivesCk.bad (by decide) (chkE_large HCK.out hlg) HS1.out
  have HFST := Lib.hid (chkE_first HCK.out hlg)
  have hn : l.length ≤ 100 := by omega
  clear hls hlg
  go_wp2
  go_loopg [25] l.length (CeRel w0 g r (.slice A1 T.length c1) (.slice A2 M.length c2) T M l)
  case atStart => exact ⟨0, by omega, rfl, fun j hj => absurd hj (by omega), HS1.out.weak (fun k hk => by obtain ⟨j, _, h, _⟩ := hk; omega)⟩
  clear HS1 HST hg0
  case round =>
    obtain ⟨k, hk, rfl, hpre, hst⟩ := hrel
    have HK := Lib.hid hk
    have HP := Lib.hid hpre
    have HST := Lib.hid hst
    have hg0 := hst.lt
    have hk1 : k ≤ l.length := by omega
    clear hk hpre hst
    by_cases hlt : k < l.length
    · have heb := HEM.out.below HST.out.bel
      obtain ⟨b, o, rfl, hb, hcc⟩ := heb.ems.at_ (by omega)
      have HCC := Lib.hid hcc
      obtain ⟨q0, q1, q2⟩ := hcc k hlt
      have HER : Hid (∀ z : Int, emF T M l k = z → z ≠ 0 → chkE T M l = z) := by
        show ∀ z : Int, emF T M l k = z → z ≠ 0 → chkE T M l = z
        intro z h1 h2
        rw [HFST.out, firstF_at hlt HP.out (by rw [h1]; exact h2), h1]
      have HSX := Lib.hid (heb.strs _ (List.getElem_mem hlt))
      have HSZ := Lib.hid (heb.sized.2 _ (List.getElem_mem hlt))
      have HEF : Hid (emF T M l k = if insO T M (l[k]).id = none then 9
          else if (l[k]).til < 0 ∨ 200001 < (l[k]).til then 1
          else if 0 < k ∧ emOrd (l.getD (k - 1) default) l[k] = false then 8
          else if 20 < (l[k]).but.length then 2
          else firstF (btF (l[k]).but) (l[k]).but.length) := by
        show emF T M l k = _
        unfold emF
        rw [getE hlt]
      have HCP : Hid (0 < k → wr.cell? ⟨b, o + (k - 1) * 3, none⟩ = some (.int .i64 (l.getD (k - 1) default).id) ∧ wr.cell? ⟨b, o + (k - 1) * 3 + 1, none⟩ = some (.int .i64 (l.getD (k - 1) default).til)) := by
        show 0 < k → _
        intro h0
        rw [getE (l := l) (i := k - 1) (by omega)]
        exact ⟨(hcc (k - 1) (by omega)).1, (hcc (k - 1) (by omega)).2.1⟩
      clear hcc heb
      have HSA := Lib.hid (HST.out.alloc (.cells #[.int .i64 (l[k]).id, .int .i64 (l[k]).til, .slice (l[k]).bA (l[k]).but.length (l[k]).bc] 96))
      have HBX : Hid (BoxE (wr.alloc (.cells #[.int .i64 (l[k]).id, .int .i64 (l[k]).til, .slice (l[k]).bA (l[k]).but.length (l[k]).bc] 96)) wr.heap.size l[k]) := heap_alloc_new _ _
      go_wp2_with fail
      refine (at_c w0 g r A1 c1 T A2 c2 M _ (l[k]).id _ hc hG HCK.out HSA.out).mono ?_
      rintro e w2 ⟨A', c', rfl, _, hs2, hg2, _⟩
      have HS2 := Lib.hid hs2
      have hrA := HSA.out.bel.size
      have hBX2 : BoxE w2 wr.heap.size l[k] := (hg2.block _ HBX.out.lt (fun e => by
        injection e with e
        obtain ⟨f, hf, _⟩ := HSA.out.cache
        exact map_cells hf.map (boxC HBX.out (i := 0) rfl) e)).trans HBX.out
      have HB2 := Lib.hid hBX2
      have hcells : ∀ i v, wr.cell? ⟨b, i, none⟩ = some v → w2.cell? ⟨b, i, none⟩ = some v := fun i v hv => by
        have h1 : (wr.alloc (.cells #[.int .i64 (l[k]).id, .int .i64 (l[k]).til, .slice (l[k]).bA (l[k]).but.length (l[k]).bc] 96)).cell? ⟨b, i, none⟩ = some v := by
          rw [World.cell?_alloc_lt _ _ _ hb]; exact hv
        have hne : b ≠ r := by
          obtain ⟨f, hf, _⟩ := HSA.out.cache
          exact map_cells hf.map h1
        rw [World.cell?_of_block (hg2.block b (by simp; omega) (fun e => by injection e with e; exact hne e))]
        exact h1
      have HCL := Lib.hid hcells
      have hb2 : b < w2.heap.size := Nat.lt_of_lt_of_le hb (Nat.le_trans (by simp) hg2.size)
      have hp2 := hBX2.lt
      obtain ⟨x0, x1, x2⟩ := hBX2.cells
      clear hs2 hg2 hrA hBX2 hcells HSA HBX q0 q1 q2 hg0
      generalize hpp : wr.heap.size = p at *
      clear hpp
      by_cases hin : insO T M (l[k]).id = none
      · have HI := Lib.hid (HER.out 9 (by rw [HEF.out, if_pos hin]) (by decide))
        rw [atP_none hin]
        clear hin
        go_wp2
        go_ret
        exact GivesCk.bad (by decide) HI.out HS2.out
      obtain ⟨rr, hrr⟩ := Option.ne_none_iff_exists'.1 hin
      rw [atP_some hrr]
      have HE2 := Lib.hid (HEF.out.trans (if_neg hin))
      have HSM : Hid ((insO T M (l[k]).id).isSome = true) := by show _ = _; rw [hrr]; rfl
      clear hin hrr HEF
      dsimp only
      by_cases ht1 : (l[k]).til < 0
      · have HI := Lib.hid (HER.out 1 (by rw [HE2.out, if_pos (.inl ht1)]) (by decide))
        go_wp2
        go_ret
        exact GivesCk.bad (by decide) HI.out HS2.out
      by_cases ht2 : 200001 < (l[k]).til
      · have HI := Lib.hid (HER.out 1 (by rw [HE2.out, if_pos (.inr ht2)]) (by decide))
        go_wp2
        go_ret
        exact GivesCk.bad (by decide) HI.out HS2.out
      have HE3 := Lib.hid (HE2.out.trans (if_neg (by omega)))
      clear HE2
      have hord : (∃ _ : decide ((0 : Int) < (k : Int)) = false, ¬ 0 < k) ∨ (0 < k ∧ decide ((0 : Int) < (k : Int)) = true) := by
        by_cases h0 : 0 < k
        · right
          exact ⟨h0, by simp; omega⟩
        · left
          exact ⟨by simp; omega, h0⟩
      rcases hord with ⟨hd, h0⟩ | ⟨h0, hd⟩
      case' inl =>
        have HE4 := Lib.hid (HE3.out.trans (if_neg (fun h => h0 h.1)))
        clear HE3
        go_wp2_with fail
        go_big_quiet (fail)
        have HS3 := Lib.hid (HS2.out.drewN nq)
        have HB3 := Lib.hid (HB2.out.drewN nq)
        generalize w2.drewN nq = w3 at *
      case' inr =>
        have HCP2 := Lib.hid (HCP.out h0)
        have y0 := HCL.out _ _ HCP2.out.1
        have y1 := HCL.out _ _ HCP2.out.2
        have HOR := Lib.hid (emOrd_cmp (l.getD (k - 1) default) l[k])
        clear HCP HCP2
        generalize hzi : (l.getD (k - 1) default).id = zi at y0 HOR
        generalize hzt : (l.getD (k - 1) default).til = zt at y1 HOR
        clear hzi hzt
        have s0 : IntKind.i64.wrap ((k : Int) - 1) = (k : Int) - 1 := IntWalk.i64_in _ (by omega)
        have s1 : (1 : Int) ≤ (k : Int) := by omega
        have s2 : (k : Int) - 1 < (l.length : Int) := by omega
        have s3 : ((k : Int) - 1).toNat = k - 1 := by omega
        go_wp2_with fail
        refine wp_region_still_tail 21 (by kernel_rfl) (by kernel_rfl) ?_
        simp only [List.take_succ_cons, List.take_zero, List.drop_succ_cons, List.drop_zero]
        iterate 11 still_step
        still_call ((cmpI_c _ _ _).mono (fun _ _ h => ⟨h.1, h.2.symm⟩))
        iterate 8 still_step
        still_call ((cmpI_c _ _ _).mono (fun _ _ h => ⟨h.1, h.2.symm⟩))
        refine wpStill_nil ?_
        clear s0 s1 s2 s3 y0 y1
        go_wp2_with fail
        refine (cmpOr_c _ _ [cmpI zi (l[k]).id, cmpI zt (l[k]).til] _ (by simp) (Rd1.drew (ints_two w2 _ _ _))).mono ?_
        rintro e w3 ⟨rfl, hw3⟩
        have hbw : Below w2.heap.size w2 w3 := by
          rw [← hw3]
          exact below_drewN ((Below.refl _ _).alloc (Nat.le_refl _) _) 1
        have HS3 := Lib.hid (HS2.out.below hbw)
        have HB3 := Lib.hid (HB2.out.below hbw)
        clear hw3 hbw
        cases hor : emOrd (l.getD (k - 1) default) l[k]
        case false =>
          have ho2 : decide ((0 : Int) ≤ orI [cmpI zi (l[k]).id, cmpI zt (l[k]).til]) = true := by rw [HOR.out, hor]; rfl
          have HI := Lib.hid (HER.out 8 (by rw [HE3.out, if_pos ⟨h0, hor⟩]) (by decide))
          clear hor
          generalize orI [cmpI zi (l[k]).id, cmpI zt (l[k]).til] = oo at *
          go_wp2
          go_ret
          exact GivesCk.bad (by decide) HI.out HS3.out
        have ho2 : decide ((0 : Int) ≤ orI [cmpI zi (l[k]).id, cmpI zt (l[k]).til]) = false := by rw [HOR.out, hor]; rfl
        have HE4 := Lib.hid (HE3.out.trans (if_neg (fun h => by rw [hor] at h; cases h.2)))
        clear hor HE3
        generalize orI [cmpI zi (l[k]).id, cmpI zt (l[k]).til] = oo at *
        clear HOR
      all_goals
        clear HS2 HB2 x0 x1 x2 hd h0 hp2 hb2 HCL
        obtain ⟨x0, x1, x2⟩ := HB3.out.cells
        have hp2 := HB3.out.lt
        by_cases hbl : 20 < (l[k]).but.length
        · have HI := Lib.hid (HER.out 2 (by rw [HE4.out, if_pos hbl]) (by decide))
          go_wp2
          go_ret
          exact GivesCk.bad (by decide) HI.out HS3.out
        have hbn : (l[k]).but.length ≤ 20 := by omega
        have HE5 := Lib.hid (HE4.out.trans (if_neg hbl))
        clear HE4 hbl
        have HSW := Lib.hid (HEM.out.strs _ (List.getElem_mem hlt))
        generalize hbA : (l[k]).bA = bA at x2 HSW
        have HBA := Lib.hid hbA
        clear hbA
        obtain ⟨g1, hg1⟩ : ∃ g1, g1 = gk := ⟨_, rfl⟩
        subst hg1
        go_wp2
        clear x0 x1 x2 hp2
        go_loopg [83] (l[k]).but.length (BtRel w0 g r (.slice A1 T.length c1) (.slice A2 M.length c2) T M (fun i => idsTo l k i ∨ i = (l[k]).id ∧ (insO T M (l[k]).id).isSome = true) p l[k])
        case atStart => exact ⟨0, by omega, rfl, fun j hj => absurd hj (by omega), HS3.out, HB3.out⟩
        clear HS3 HB3
        case round =>
          obtain ⟨k2, hk2, rfl, hpre2, hst2, hbx2⟩ := hrel
          have HK2 := Lib.hid hk2
          have HP2 := Lib.hid hpre2
          have HS4 := Lib.hid hst2
          have HB4 := Lib.hid hbx2
          have hk21 : k2 ≤ (l[k]).but.length := by omega
          obtain ⟨_, _, z2⟩ := hbx2.cells
          have hp4 := hbx2.lt
          clear hk2 hpre2 hst2 hbx2
          rw [HBA.out] at z2
          by_cases hlt2 : k2 < (l[k]).but.length
          · obtain ⟨b2, o2, rfl, hb2, hc2⟩ := (HSW.out.below HS4.out.bel).at_ (by omega)
            have q := hc2 k2 hlt2
            have HC2 := Lib.hid hc2
            clear hc2
            have HER2 : Hid (∀ z : Int, btF (l[k]).but k2 = z → z ≠ 0 → chkE T M l = z) := by
              show ∀ z : Int, _
              intro z h1 h2
              refine HER.out z ?_ h2
              rw [HE5.out, firstF_at hlt2 HP2.out (by rw [h1]; exact h2), h1]
            go_wp2_with fail
            refine (soundIsName_c _ _ (HSZ.out.2 _ (List.getElem_mem hlt2))).mono ?_
            rintro e w5 ⟨rfl, hb5⟩
            have HS5 := Lib.hid (HS4.out.below hb5)
            have HB5 := Lib.hid (HB4.out.below hb5)
            have hb25 : b2 < w5.heap.size := Nat.lt_of_lt_of_le hb2 hb5.size
            have HC5 : Hid (∀ i (h : i < (l[k]).but.length), w5.cell? ⟨b2, o2 + i, none⟩ = some (.string (l[k]).but[i])) := fun i h => (hb5.cell hb2).trans (HC2.out i h)
            clear hb5 q z2 hp4 hb2 HC2
            obtain ⟨_, _, z2⟩ := HB5.out.cells
            have hp4 := HB5.out.lt
            rw [HBA.out] at z2
            cases hnm : isNm (l[k]).but[k2] with
            | false =>
              have HI := Lib.hid (HER2.out 5 (by rw [btF_at hlt2, if_pos hnm]) (by decide))
              clear hnm
              go_wp2
              go_ret
              exact GivesCk.bad (by decide) HI.out HS5.out
            | true =>
              have HBF : Hid (btF (l[k]).but k2 = if 0 < k2 ∧ sle (l[k]).but[k2] ((l[k]).but.getD (k2 - 1) emp) = true then 8 else 0) := by
                show btF (l[k]).but k2 = _
                rw [btF_at hlt2, if_neg (by rw [hnm]; simp)]
              clear hnm
              by_cases h3 : 0 < k2 ∧ sle (l[k]).but[k2] ((l[k]).but.getD (k2 - 1) emp) = true
              · have HI := Lib.hid (HER2.out 8 (by rw [HBF.out, if_pos h3]) (by decide))
                obtain ⟨h0, hle⟩ := h3
                have hd : decide ((0 : Int) < (k2 : Int)) = true := by simp; omega
                rw [getB (by omega)] at hle
                have q := HC5.out (k2 - 1) (by omega)
                unfold sle at hle
                go_wp2
                go_ret
                exact GivesCk.bad (by decide) HI.out HS5.out
              · have HOK : Hid (btF (l[k]).but k2 = 0) := HBF.out.trans (if_neg h3)
                have HPN : Hid (∀ j, j < k2 + 1 → btF (l[k]).but j = 0) := fun j hj => by
                  rcases Nat.lt_or_ge j k2 with h1 | h1
                  · exact HP2.out j h1
                  · obtain rfl : j = k2 := by omega
                    exact HOK.out
                clear HBF HOK
                by_cases h0 : 0 < k2
                · have hd : decide ((0 : Int) < (k2 : Int)) = true := by simp; omega
                  have hle : sle (l[k]).but[k2] ((l[k]).but.getD (k2 - 1) emp) = false := by
                    cases hh : sle (l[k]).but[k2] ((l[k]).but.getD (k2 - 1) emp) with
                    | false => rfl
                    | true => exact absurd ⟨h0, hh⟩ h3
                  rw [getB (by omega)] at hle
                  have q := HC5.out (k2 - 1) (by omega)
                  unfold sle at hle
                  clear h3
                  go_wp2
                  go_roundg (gk - 1)
                  case measure => have := HK2.out; omega
                  case rel => exact ⟨k2 + 1, by have := HK2.out; omega, by go_num, HPN.out, HS5.out, HB5.out⟩
                · have hd : decide ((0 : Int) < (k2 : Int)) = false := by simp; omega
                  clear h3
                  go_wp2
                  go_roundg (gk - 1)
                  case measure => have := HK2.out; omega
                  case rel => exact ⟨k2 + 1, by have := HK2.out; omega, by go_num, HPN.out, HS5.out, HB5.out⟩
          · have HOK : Hid (emF T M l k = 0) := by
              show emF T M l k = 0
              rw [HE5.out, firstF_zero fun j hj => HP2.out j (by omega)]
            have HS5 : Hid (WSt w0 wr g r (.slice A1 T.length c1) (.slice A2 M.length c2) T M (idsTo l (k + 1))) := HS4.out.weak (fun i hi => by
              obtain ⟨j, hj, hjk, rfl⟩ := hi
              rcases Nat.lt_or_ge j k with h1 | h1
              · exact .inl ⟨j, hj, h1, rfl⟩
              · obtain rfl : j = k := by omega
                exact .inr ⟨rfl, HSM.out⟩)
            go_wp2
            go_roundg (g1 - 1)
            case measure => have := HK.out; omega
            case rel =>
              refine ⟨k + 1, by have := HK.out; omega, by go_num, fun j hj => ?_, HS5.out⟩
              rcases Nat.lt_or_ge j k with h1 | h1
              · exact HP.out j h1
              · obtain rfl : j = k := by omega
                exact HOK.out
    · have HX : Hid (chkE T M l = 0) := by
        show chkE T M l = 0
        rw [HFST.out, firstF_zero fun j hj => HP.out j (by omega)]
      have HS5 := Lib.hid (HST.out.weak (K' := idsTo l l.length) (fun i hi => by
        obtain ⟨j, hj, _, rfl⟩ := hi
        exact ⟨j, hj, by omega, rfl⟩))
      go_wp2
      go_ret
      exact GivesCk.ok HX.out HS5.out
end Go.Proofs.YtfninfgohiipjaaGreatDoor
