/- Package desk: checkAsks. Package desk: words for Deliver. slices.SortFunc over deliveries: by the contracts of the shelf. -/
import Derived.Test.YtfninfgohiipjaaGreatDoorLdG
import Derived.Test.YtfninfgohiipjaaGreatDoorLeP
import Derived.Test.YtfninfgohiipjaaGreatDoorDelPlain
namespace Go.Proofs.YtfninfgohiipjaaGreatDoor
open Go.RowKit Dw

def cfS (x y : ByteArray) : Int := Lib.compareBytes x.data.toList y.data.toList
theorem compare_less : ∀ (a b : List UInt8), decide (Lib.compareBytes a b < 0) = Op.bytesLess a b
  | [], [] => by simp [Lib.compareBytes, Op.bytesLess]
  | [], _ :: _ => by simp [Lib.compareBytes, Op.bytesLess]
  | _ :: _, [] => by simp [Lib.compareBytes, Op.bytesLess]
  | a :: x, b :: y => by
    have ih := compare_less x y
    rw [Lib.compareBytes, Op.bytesLess]
    by_cases h1 : a < b
    · simp [h1]
    · by_cases h2 : b < a
      · have h3 : ¬ a = b := fun e => by subst e; exact h1 h2
        simp [h1, h2, h3]
      · have h3 : a = b := UInt8.le_antisymm (UInt8.not_lt.1 h2) (UInt8.not_lt.1 h1)
        subst h3
        simp only [h1, if_false]
        rw [ih]
        simp
theorem compare_zero : ∀ (a b : List UInt8), Lib.compareBytes a b = 0 → a = b
  | [], [], _ => rfl
  | [], _ :: _, h => by simp [Lib.compareBytes] at h
  | _ :: _, [], h => by simp [Lib.compareBytes] at h
  | a :: x, b :: y, h => by
    rw [Lib.compareBytes] at h
    by_cases h1 : a < b
    · simp [h1] at h
    · by_cases h2 : b < a
      · simp [h1, h2] at h
      · have h3 : a = b := UInt8.le_antisymm (UInt8.not_lt.1 h2) (UInt8.not_lt.1 h1)
        subst h3
        simp only [h1, if_false] at h
        rw [compare_zero x y h]
theorem cfS_lt (x y : ByteArray) : decide (cfS x y < 0) = slt x y := by
  unfold cfS slt
  rw [compare_less, Dw.toList_eq, Dw.toList_eq]
theorem cfS_zero {x y : ByteArray} (h : cfS x y = 0) : x = y := by
  refine Dw.toList_inj ?_
  rw [Dw.toList_eq, Dw.toList_eq]
  exact compare_zero _ _ h
theorem compareS_c (x y : ByteArray) (w : World) : Calls Tryz.prog 53 #[.string x, .string y] w (Gives (.int .i64 (cfS x y)) w) := by
  have h := Any.strings_Compare Tryz.lays106 x y w
  change Calls Tryz.prog 53 _ _ _ at h
  exact h.mono fun _ _ ⟨he, hw⟩ => ⟨he, hw.symm⟩
theorem tri_cmp (d1 : Int) (p1 : ByteArray) (n1 : Int) (d2 : Int) (p2 : ByteArray) (n2 : Int) : decide (orI [cmpI d1 d2, cfS p1 p2, cmpI n1 n2] < 0) = triLt d1 p1 n1 d2 p2 n2 := by
  unfold triLt cmpI
  rcases Int.lt_trichotomy d1 d2 with h | h | h
  · simp [h, orI]
  · subst h
    have e1 := cfS_lt p1 p2
    by_cases hz : cfS p1 p2 = 0
    · have := cfS_zero hz
      subst this
      rw [slt_irrefl]
      rcases Int.lt_trichotomy n1 n2 with h2 | h2 | h2
      · simp [orI, hz, h2]
      · simp [orI, hz, h2]
      · have h3 : ¬ n1 < n2 := by omega
        simp [orI, hz, h2, h3]
    · have hne : p1 ≠ p2 := fun e => by
        subst e
        apply hz
        unfold cfS
        have key : ∀ l : List UInt8, Lib.compareBytes l l = 0 := fun l => by
          induction l with
          | nil => rfl
          | cons a t ih =>
            have : ¬ a < a := fun h => by simp at h
            simp [Lib.compareBytes, this, ih]
        exact key _
      rw [← e1]
      simp [orI, hz, hne]
  · have h1 : ¬ d1 < d2 := by omega
    have h2 : ¬ d1 = d2 := by omega
    simp [orI, h, h1, h2]
theorem tri_cmp2 (d1 : Int) (p1 : ByteArray) (n1 : Int) (d2 : Int) (p2 : ByteArray) (n2 : Int) : decide ((0 : Int) ≤ orI [cmpI d1 d2, cfS p1 p2, cmpI n1 n2]) = !triLt d1 p1 n1 d2 p2 n2 := by
  rw [← tri_cmp]
  by_cases h : orI [cmpI d1 d2, cfS p1 p2, cmpI n1 n2] < 0
  · have : ¬ (0 : Int) ≤ orI [cmpI d1 d2, cfS p1 p2, cmpI n1 n2] := by omega
    simp [h, this]
  · have : (0 : Int) ≤ orI [cmpI d1 d2, cfS p1 p2, cmpI n1 n2] := by omega
    simp [h, this]

/-- A slice of asks reads as a list. -/
def Aks (w : World) (A : Option Addr) (l : List Ak) : Prop :=
  0 < l.length → ∃ b o : Nat, A = some ⟨b, o, none⟩ ∧ ∀ i (h : i < l.length), w.cell? ⟨b, o + i * 3, none⟩ = some (.int .i64 (l[i]).day) ∧ w.cell? ⟨b, o + i * 3 + 1, none⟩ = some (.string (l[i]).party) ∧ w.cell? ⟨b, o + i * 3 + 2, none⟩ = some (.int .i64 (l[i]).id)
structure AksOk (w : World) (A : Option Addr) (l : List Ak) : Prop where
  aks : Aks w A l
  sized : l.length ≤ 9223372036854775807 ∧ ∀ e ∈ l, e.party.size ≤ 9223372036854775807
section
variable {w w' : World} {A : Option Addr} {l : List Ak}
theorem Aks.at_ (h : Aks w A l) (hl : 0 < l.length) : ∃ b o : Nat, A = some ⟨b, o, none⟩ ∧ b < w.heap.size ∧ ∀ i (h : i < l.length), w.cell? ⟨b, o + i * 3, none⟩ = some (.int .i64 (l[i]).day) ∧ w.cell? ⟨b, o + i * 3 + 1, none⟩ = some (.string (l[i]).party) ∧ w.cell? ⟨b, o + i * 3 + 2, none⟩ = some (.int .i64 (l[i]).id) := by
  obtain ⟨b, o, rfl, hc⟩ := h hl
  exact ⟨b, o, rfl, World.block_lt_of_cell? w _ (hc 0 hl).1, hc⟩
theorem Aks.below (h : Aks w A l) (hb : Below w.heap.size w w') : Aks w' A l := fun hl => by
  obtain ⟨b, o, rfl, hlt, hc⟩ := h.at_ hl
  refine ⟨b, o, rfl, fun i hi => ?_⟩
  rw [hb.cell hlt, hb.cell hlt, hb.cell hlt]
  exact hc i hi
theorem AksOk.below (h : AksOk w A l) (hb : Below w.heap.size w w') : AksOk w' A l := ⟨h.aks.below hb, h.sized⟩
theorem AksOk.take (h : AksOk w A l) (k : Nat) : AksOk w A (l.take k) := by
  refine ⟨fun hl => ?_, ⟨Nat.le_trans (by simp; omega) h.sized.1, fun e he => h.sized.2 e (List.mem_of_mem_take he)⟩⟩
  have hl' : 0 < l.length := by simp at hl; omega
  obtain ⟨b, o, rfl, hc⟩ := h.aks hl'
  refine ⟨b, o, rfl, fun i hi => ?_⟩
  have hi' : i < l.length := by simp at hi; omega
  have := hc i hi'
  simpa using this
end
theorem ints_three (w : World) (a b c : Int) (t : TypeId) : Ints (w.alloc (.cells #[.int .i64 a, .int .i64 b, .int .i64 c] t)) (some ⟨w.heap.size, 0, none⟩) [a, b, c] := fun _ => by
  refine ⟨w.heap.size, 0, rfl, fun i hi => ?_⟩
  have h2 : i = 0 ∨ i = 1 ∨ i = 2 := by simp at hi; omega
  rcases h2 with rfl | rfl | rfl
  · exact boxC (heap_alloc_new _ _) rfl
  · exact boxC (heap_alloc_new _ _) rfl
  · exact boxC (heap_alloc_new _ _) rfl
def BoxA (w : World) (p : Nat) (x : Ak) : Prop := w.heap[p]? = some (.cells #[.int .i64 x.day, .string x.party, .int .i64 x.id] 100 (0, 0))
theorem BoxA.lt {w : World} {p : Nat} {x : Ak} (h : BoxA w p x) : p < w.heap.size := (Array.getElem?_eq_some_iff.1 h).1
theorem BoxA.below {w w' : World} {p : Nat} {x : Ak} (h : BoxA w p x) (hb : Below w.heap.size w w') : BoxA w' p x := (hb.block _ h.lt).trans h
theorem BoxA.cells {w : World} {p : Nat} {x : Ak} (h : BoxA w p x) : w.cell? ⟨p, 0, none⟩ = some (.int .i64 x.day) ∧ w.cell? ⟨p, 1, none⟩ = some (.string x.party) ∧ w.cell? ⟨p, 2, none⟩ = some (.int .i64 x.id) := ⟨boxC h rfl, boxC h rfl, boxC h rfl⟩

/-- The ids of the first asks. -/
def idsA (l : List Ak) (k : Nat) (i : Int) : Prop := ∃ j, ∃ h : j < l.length, j < k ∧ (l[j]).id = i
def GivesCa (w0 : World) (g r : Nat) (v1 v2 : Value) (T : List Th) (M : List Mv) (K : Int → Prop) (l : List Ak) (e : Ending) (w' : World) : Prop :=
  e = .returned (.int .i64 (chkAs T M l)) ∧ WSt w0 w' g r v1 v2 T M (fun k => K k ∨ (chkAs T M l = 0 ∧ idsA l l.length k))
theorem GivesCa.bad {w0 w' : World} {g r : Nat} {v1 v2 : Value} {T : List Th} {M : List Mv} {l : List Ak} {K K' : Int → Prop} {z : Int} (hz : z ≠ 0) (h : chkAs T M l = z) (hs : WSt w0 w' g r v1 v2 T M K') (hK : ∀ k, K k → K' k) : GivesCa w0 g r v1 v2 T M K l (.returned (.int .i64 z)) w' :=
  ⟨by rw [h], hs.weak (fun k hk => by
    rcases hk with h1 | ⟨h1, _⟩
    · exact hK k h1
    · exact absurd (h.symm.trans h1) hz)⟩
theorem GivesCa.ok {w0 w' : World} {g r : Nat} {v1 v2 : Value} {T : List Th} {M : List Mv} {K : Int → Prop} {l : List Ak} (h : chkAs T M l = 0) (hs : WSt w0 w' g r v1 v2 T M (fun k => K k ∨ idsA l l.length k)) : GivesCa w0 g r v1 v2 T M K l (.returned (.int .i64 0)) w' :=
  ⟨by rw [h], hs.weak (fun k hk => by
    rcases hk with h1 | ⟨_, h1⟩
    · exact .inl h1
    · exact .inr h1)⟩
def CaRel (w0 : World) (g r : Nat) (v1 v2 : Value) (T : List Th) (M : List Mv) (K : Int → Prop) (l : List Ak) (m : Nat) (i : Value) (wr : World) : Prop :=
  ∃ k : Nat, k + m = l.length ∧ i = .int .i64 k ∧ (∀ j, j < k → asF T M l j = 0) ∧ WSt w0 wr g r v1 v2 T M (fun i => K i ∨ idsA l k i)

set_option maxRecDepth 100000 in
set_option maxHeartbeats 1000000 in
theorem checkAs_c (w0 : World) (g r : Nat) (A1 : Option Addr) (c1 : Nat) (T : List Th) (A2 : Option Addr) (c2 : Nat) (M : List Mv) (K : Int → Prop) (A : Option Addr) (c : Nat) (l : List Ak) (w : World) (hc : CatOk w0 A1 T A2 M) (hG : GOK w0) (hck : chkC twoB T M = 0) (he : AksOk w0 A l)
    (hst : WSt w0 w g r (.slice A1 T.length c1) (.slice A2 M.length c2) T M K) :
    Calls Tryz.prog 48 #[.pointer (some ⟨g, 0, none⟩), .slice A l.length c] w (GivesCa w0 g r (.slice A1 T.length c1) (.slice A2 M.length c2) T M K l) := by
  have HST := Lib.hid hst
  have HEM := Lib.hid he
  have HCK := Lib.hid hck
  have hls := he.sized.1
  clear hst he hck
  by_cases hlg : 500 < l.length
  · go_enter Tryz.func48, Tryz.ntmps48
    go_wp2
    go_ret
    exact GivesCa.bad (by decide) (chkAs_large hlg) HST.out (fun _ h => h)
  have HFST := Lib.hid (chkAs_first (T := T) (M := M) hlg)
  have hn : l.length ≤ 500 := by omega
  clear hls
  go_enter Tryz.func48, Tryz.ntmps48
  go_wp2
  clear hlg
  go_loopg [14] l.length (CaRel w0 g r (.slice A1 T.length c1) (.slice A2 M.length c2) T M K l)
  case atStart => exact ⟨0, by omega, rfl, fun j hj => absurd hj (by omega), HST.out.weak (fun k hk => by
    rcases hk with h | ⟨j, _, h, _⟩
    · exact h
    · omega)⟩
  clear HST
  case round =>
    obtain ⟨k, hk, rfl, hpre, hst⟩ := hrel
    have HK := Lib.hid hk
    have HP := Lib.hid hpre
    have HST := Lib.hid hst
    have hg0 := hst.lt
    have hk1 : k ≤ l.length := by omega
    clear hk hpre hst
    by_cases hlt : k < l.length
    · have heb := HEM.out.below HST.out.bel
      obtain ⟨b, o, rfl, hb, hcc⟩ := heb.aks.at_ (by omega)
      obtain ⟨q0, q1, q2⟩ := hcc k hlt
      have HER : Hid (∀ z : Int, asF T M l k = z → z ≠ 0 → chkAs T M l = z) := by
        show ∀ z : Int, asF T M l k = z → z ≠ 0 → chkAs T M l = z
        intro z h1 h2
        rw [HFST.out, firstF_at hlt HP.out (by rw [h1]; exact h2), h1]
      have HSZ := Lib.hid (heb.sized.2 _ (List.getElem_mem hlt))
      have HEF := Lib.hid (asF_at (T := T) (M := M) hlt)
      have HCP : Hid (0 < k → wr.cell? ⟨b, o + (k - 1) * 3, none⟩ = some (.int .i64 (l.getD (k - 1) default).day) ∧ wr.cell? ⟨b, o + (k - 1) * 3 + 1, none⟩ = some (.string (l.getD (k - 1) default).party) ∧ wr.cell? ⟨b, o + (k - 1) * 3 + 2, none⟩ = some (.int .i64 (l.getD (k - 1) default).id)) := by
        show 0 < k → _
        intro h0
        rw [getK (l := l) (i := k - 1) (by omega)]
        exact hcc (k - 1) (by omega)
      clear hcc heb
      have HSA := Lib.hid (HST.out.alloc (.cells #[.int .i64 (l[k]).day, .string (l[k]).party, .int .i64 (l[k]).id] 100))
      have HBX : Hid (BoxA (wr.alloc (.cells #[.int .i64 (l[k]).day, .string (l[k]).party, .int .i64 (l[k]).id] 100)) wr.heap.size l[k]) := heap_alloc_new _ _
      by_cases ht1 : (l[k]).day < 0
      · have HI := Lib.hid (HER.out 1 (by rw [HEF.out, if_pos (.inl ht1)]) (by decide))
        go_wp2
        go_ret
        exact GivesCa.bad (by decide) HI.out HSA.out (fun _ h => .inl h)
      by_cases ht2 : 200000 < (l[k]).day
      · have HI := Lib.hid (HER.out 1 (by rw [HEF.out, if_pos (.inr ht2)]) (by decide))
        go_wp2
        go_ret
        exact GivesCa.bad (by decide) HI.out HSA.out (fun _ h => .inl h)
      have HE2 := Lib.hid (HEF.out.trans (if_neg (by omega)))
      clear HEF
      go_wp2_with fail
      refine (soundIsName_c _ _ HSZ.out).mono ?_
      rintro e w1 ⟨rfl, hb1⟩
      have HS1 := Lib.hid (HSA.out.below hb1)
      have HB1 := Lib.hid (HBX.out.below hb1)
      have HCL1 : Hid (∀ i v, wr.cell? ⟨b, i, none⟩ = some v → w1.cell? ⟨b, i, none⟩ = some v) := fun i v hv => by
        rw [hb1.cell (p := ⟨b, i, none⟩) (by simp; omega), World.cell?_alloc_lt _ _ _ hb]; exact hv
      have hbz1 : b < w1.heap.size := Nat.lt_of_lt_of_le hb (Nat.le_trans (by simp) hb1.size)
      clear hb1 HSA HBX q0 q1 q2 hg0
      obtain ⟨x0, x1, x2⟩ := HB1.out.cells
      have hp1 := HB1.out.lt
      generalize hpp : wr.heap.size = p at *
      clear hpp
      cases hnm : isNm (l[k]).party with
      | false =>
        have HI := Lib.hid (HER.out 5 (by rw [HE2.out, if_pos hnm]) (by decide))
        clear hnm
        go_wp2
        go_ret
        exact GivesCa.bad (by decide) HI.out HS1.out (fun _ h => .inl h)
      | true =>
      have HE3 := Lib.hid (HE2.out.trans (if_neg (by rw [hnm]; simp)))
      clear HE2 hnm
      go_wp2_with fail
      refine (at_c w0 g r A1 c1 T A2 c2 M _ (l[k]).id _ hc hG HCK.out HS1.out).mono ?_
      rintro e w2 ⟨A', c', rfl, _, hs2, hg2, _⟩
      have HS2 := Lib.hid hs2
      have hBX2 : BoxA w2 p l[k] := (hg2.block _ HB1.out.lt (fun e => by
        injection e with e
        obtain ⟨f, hf, _⟩ := HS1.out.cache
        exact map_cells hf.map (boxC HB1.out (i := 0) rfl) e)).trans HB1.out
      have HB2 := Lib.hid hBX2
      have HCL2 : Hid (∀ i v, wr.cell? ⟨b, i, none⟩ = some v → w2.cell? ⟨b, i, none⟩ = some v) := fun i v hv => by
        have h1 := HCL1.out i v hv
        have hne : b ≠ r := by
          obtain ⟨f, hf, _⟩ := HS1.out.cache
          exact map_cells hf.map h1
        rw [World.cell?_of_block (hg2.block b hbz1 (fun e => by injection e with e; exact hne e))]
        exact h1
      have hb2 : b < w2.heap.size := Nat.lt_of_lt_of_le hbz1 hg2.size
      have hp2 := hBX2.lt
      clear hs2 hg2 hBX2 HCL1 HS1 HB1 x0 x1 x2 hp1 hbz1
      obtain ⟨x0, x1, x2⟩ := HB2.out.cells
      by_cases hin : insO T M (l[k]).id = none
      · have HI := Lib.hid (HER.out 9 (by rw [HE3.out, if_pos hin]) (by decide))
        rw [atP_none hin]
        clear hin
        go_wp2
        go_ret
        exact GivesCa.bad (by decide) HI.out HS2.out (fun _ h => .inl (.inl h))
      obtain ⟨rr, hrr⟩ := Option.ne_none_iff_exists'.1 hin
      rw [atP_some hrr]
      have HE4 := Lib.hid (HE3.out.trans (if_neg hin))
      have HSM : Hid ((insO T M (l[k]).id).isSome = true) := by show _ = _; rw [hrr]; rfl
      clear hin hrr HE3
      dsimp only
      by_cases h0 : 0 < k
      case' neg =>
        have hd : decide ((0 : Int) < (k : Int)) = false := by simp; omega
        have HOK : Hid (asF T M l k = 0) := HE4.out.trans (if_neg (fun h => h0 h.1))
        clear HE4
        go_wp2_with fail
        go_big_quiet (fail)
        have HS3 := Lib.hid (HS2.out.drewN nq)
        generalize w2.drewN nq = w3 at *
      case' pos =>
        have hd : decide ((0 : Int) < (k : Int)) = true := by simp; omega
        have HCP2 := Lib.hid (HCP.out h0)
        have y0 := HCL2.out _ _ HCP2.out.1
        have y1 := HCL2.out _ _ HCP2.out.2.1
        have y2 := HCL2.out _ _ HCP2.out.2.2
        clear HCP HCP2
        have HOR : Hid (decide ((0 : Int) ≤ orI [cmpI (l.getD (k - 1) default).day (l[k]).day, cfS (l.getD (k - 1) default).party (l[k]).party, cmpI (l.getD (k - 1) default).id (l[k]).id]) = !akLt (l.getD (k - 1) default) l[k]) := tri_cmp2 _ _ _ _ _ _
        generalize hzd : (l.getD (k - 1) default).day = zd at y0 HOR
        generalize hzp : (l.getD (k - 1) default).party = zp at y1 HOR
        generalize hzi : (l.getD (k - 1) default).id = zi at y2 HOR
        clear hzd hzp hzi
        have s0 : IntKind.i64.wrap ((k : Int) - 1) = (k : Int) - 1 := IntWalk.i64_in _ (by omega)
        have s1 : (1 : Int) ≤ (k : Int) := by omega
        have s2 : (k : Int) - 1 < (l.length : Int) := by omega
        have s3 : ((k : Int) - 1).toNat = k - 1 := by omega
        go_wp2_with fail
        refine wp_region_still_tail 30 (by kernel_rfl) (by kernel_rfl) ?_
        simp only [List.take_succ_cons, List.take_zero, List.drop_succ_cons, List.drop_zero]
        iterate 11 still_step
        still_call ((cmpI_c _ _ _).mono (fun _ _ h => ⟨h.1, h.2.symm⟩))
        iterate 8 still_step
        still_call ((compareS_c _ _ _).mono (fun _ _ h => ⟨h.1, h.2.symm⟩))
        iterate 8 still_step
        still_call ((cmpI_c _ _ _).mono (fun _ _ h => ⟨h.1, h.2.symm⟩))
        refine wpStill_nil ?_
        clear s0 s1 s2 s3 y0 y1 y2
        go_wp2_with fail
        refine (cmpOr_c _ _ [cmpI zd (l[k]).day, cfS zp (l[k]).party, cmpI zi (l[k]).id] _ (by simp) (Rd1.drew (ints_three w2 _ _ _ _))).mono ?_
        rintro e w3 ⟨rfl, hw3⟩
        have hbw : Below w2.heap.size w2 w3 := by
          rw [← hw3]
          exact below_drewN ((Below.refl _ _).alloc (Nat.le_refl _) _) 1
        have HS3 := Lib.hid (HS2.out.below hbw)
        clear hw3 hbw
        cases hor : akLt (l.getD (k - 1) default) l[k]
        case false =>
          have ho2 : decide ((0 : Int) ≤ orI [cmpI zd (l[k]).day, cfS zp (l[k]).party, cmpI zi (l[k]).id]) = true := by rw [HOR.out, hor]; rfl
          have HI := Lib.hid (HER.out 8 (by rw [HE4.out, if_pos ⟨h0, hor⟩]) (by decide))
          clear hor
          generalize orI [cmpI zd (l[k]).day, cfS zp (l[k]).party, cmpI zi (l[k]).id] = oo at *
          go_wp2
          go_ret
          exact GivesCa.bad (by decide) HI.out HS3.out (fun _ h => .inl (.inl h))
        have ho2 : decide ((0 : Int) ≤ orI [cmpI zd (l[k]).day, cfS zp (l[k]).party, cmpI zi (l[k]).id]) = false := by rw [HOR.out, hor]; rfl
        have HOK : Hid (asF T M l k = 0) := HE4.out.trans (if_neg (fun h => by rw [hor] at h; cases h.2))
        clear hor HE4
        generalize orI [cmpI zd (l[k]).day, cfS zp (l[k]).party, cmpI zi (l[k]).id] = oo at *
        clear HOR
      all_goals
        have HS5 : Hid (WSt w0 w3 g r (.slice A1 T.length c1) (.slice A2 M.length c2) T M (fun i => K i ∨ idsA l (k + 1) i)) := HS3.out.weak (fun i hi => by
          rcases hi with hi | ⟨j, hj, hjk, rfl⟩
          · exact .inl (.inl hi)
          rcases Nat.lt_or_ge j k with h1 | h1
          · exact .inl (.inr ⟨j, hj, h1, rfl⟩)
          · obtain rfl : j = k := by omega
            exact .inr ⟨rfl, HSM.out⟩)
        clear HS2 HB2 x0 x1 x2 hd h0 hp2 hb2 HCL2 HS3
        go_wp2
        go_roundg (gk - 1)
        case measure => have := HK.out; omega
        case rel =>
          refine ⟨k + 1, by have := HK.out; omega, by go_num, fun j hj => ?_, HS5.out⟩
          rcases Nat.lt_or_ge j k with h1 | h1
          · exact HP.out j h1
          · obtain rfl : j = k := by omega
            exact HOK.out
    · have HX : Hid (chkAs T M l = 0) := by
        show chkAs T M l = 0
        rw [HFST.out, firstF_zero fun j hj => HP.out j (by omega)]
      have HS5 := Lib.hid (HST.out.weak (K' := fun i => K i ∨ idsA l l.length i) (fun i hi => by
        rcases hi with hi | ⟨j, hj, _, rfl⟩
        · exact .inl hi
        · exact .inr ⟨j, hj, by omega, rfl⟩))
      go_wp2
      go_ret
      exact GivesCa.ok HX.out HS5.out
end Go.Proofs.YtfninfgohiipjaaGreatDoor

namespace Go.Proofs.YtfninfgohiipjaaGreatDoor
open Go.RowKit Dw

theorem own_row {α : Type} {enc : α → List Value} {k : Nat} {w : World} {base : Nat} {e : TypeId} {v : Value} {l : List α} (h : OwnL enc k w base e v l) {g : Nat} (hg : v.ownBlock = some g) : base ≤ g ∧ ∃ cs, w.heap[g]? = some (.cells cs e (0, 0)) := by
  rcases h.2 with ⟨rfl, _⟩ | ⟨g', cap, cur, rfl, hb, hgg, rest⟩
  · simp [Value.ownBlock] at hg
  · have : g' = g := by simpa [Value.ownBlock] using hg
    subst this
    exact ⟨hb, cur, hgg⟩
theorem own_form {α : Type} {enc : α → List Value} {k : Nat} {w : World} {base : Nat} {e : TypeId} {v : Value} {l : List α} (h : OwnL enc k w base e v l) : ∃ A c, v = .slice A l.length c ∧ (0 < l.length → ∃ g, A = some ⟨g, 0, none⟩) := by
  rcases h.2 with ⟨rfl, hn⟩ | ⟨g', cap, cur, rfl, hb, hgg, rest⟩
  · exact ⟨none, 0, by rw [hn], fun h => absurd h (by omega)⟩
  · exact ⟨_, cap, rfl, fun _ => ⟨g', rfl⟩⟩

/-- What at answers of an id that is kept: a slice that lay there before. -/
def GivesKept (w : World) (wb : World) (T : List Th) (M : List Mv) (id : Int) (e : Ending) (w' : World) : Prop :=
  w = w' ∧ ∃ A c l, insO T M id = some l ∧ e = .returned (.tuple #[.slice A l.length c, .int .i64 0]) ∧ Ints wb A l
theorem atK_c (w0 wb : World) (g r : Nat) (v1 v2 : Value) (T : List Th) (M : List Mv) (K : Int → Prop) (id : Int) (w : World) (hst : WSt w0 wb g r v1 v2 T M K) (hb : Below wb.heap.size wb w) (hK : K id) :
    Calls Tryz.prog 42 #[.pointer (some ⟨g, 0, none⟩), .int .i64 id] w (GivesKept w wb T M id) := by
  have hst2 := hst.below hb
  obtain ⟨f, hf, hKf⟩ := hst.cache
  have hg0 := hst2.lt
  have b0 := hst2.c0
  have b1 := hst2.c1
  have b2 := hst2.c2
  have hlk := run_lookup_map tWit kInt zInts (hf.map.below hb) id true
  have hsm := hKf id hK
  obtain ⟨v, hv⟩ := Option.isSome_iff_exists.1 hsm
  obtain ⟨A, c, l, rfl, hi, hrd⟩ := hf.has id v hv
  rw [hv] at hlk
  have hlk' : (Instr.lookup 126 (.map (some r)) (.int .i64 id) true).run Tryz.prog w = .ok (.tuple #[.slice A l.length c, .bool true]) w := hlk
  have HI := Lib.hid hi
  have HRD := Lib.hid hrd
  clear hlk hv hi hrd hsm hKf hf hst2 hst
  go_enter Tryz.func42, Tryz.ntmps42
  go_wp2
  go_ret2
  exact ⟨rfl, A, c, l, HI.out, rfl, HRD.out⟩

/-- free of one recording. -/
def GivesOne (w : World) (z : Int) (e : Ending) (w' : World) : Prop := e = .returned (.int .i64 z) ∧ Below w.heap.size w w'
theorem freeOne_c (w0 : World) (g r : Nat) (A1 : Option Addr) (c1 : Nat) (T : List Th) (A2 : Option Addr) (c2 : Nat) (M : List Mv) (K : Int → Prop) (A : Option Addr) (c : Nat) (l : List Em) (p : ByteArray) (n : Int) (t : TypeId) (w : World) (hc : CatOk w0 A1 T A2 M) (hG : GOK w0) (he : EmsOk w0 A l)
    (hck : chkE T M l = 0) (hK : ∀ x ∈ l, K x.id) (hst : WSt w0 w g r (.slice A1 T.length c1) (.slice A2 M.length c2) T M K) :
    Calls Tryz.prog 43 #[.pointer (some ⟨g, 0, none⟩), .slice A l.length c, .string p, .slice (some ⟨w.heap.size, 0, none⟩) 1 1] (w.alloc (.cells #[.int .i64 n] t)).drew (GivesOne w (frD T M l p n)) := by
  have hal : Below w.heap.size w (w.alloc (.cells #[.int .i64 n] t)).drew := below_drewN ((Below.refl _ _).alloc (Nat.le_refl _) _) 1
  have hR : Ints (w.alloc (.cells #[.int .i64 n] t)).drew (some ⟨w.heap.size, 0, none⟩) [n] := fun _ => by
    refine ⟨w.heap.size, 0, rfl, fun i hi => ?_⟩
    have : i = 0 := by simp at hi; omega
    subst this
    exact boxC (heap_alloc_new _ _) rfl
  refine (free_c w0 g r A1 c1 T A2 c2 M K A c l p (some ⟨w.heap.size, 0, none⟩) 1 [n] _ hc hG he (chkE_ok hck).1 (chkE_ok hck).2.1 (fun x hx => ?_) hR (by simp) (hst.below hal)).mono ?_
  · obtain ⟨j, hj, rfl⟩ := List.getElem_of_mem hx
    exact (emF_ok hj ((chkE_ok hck).2.2 j hj)).2.2.2.1
  · rintro e w' ⟨he, _, _, hb⟩
    exact ⟨he, below_trans hal (hb hK)⟩

/-- A wish as a key. -/
abbrev mkW (p : ByteArray × Int) : Value := .agg #[.string p.1, .int .i64 p.2]
theorem eqW (a b : ByteArray × Int) (w : World) : (Op.equal 102 (mkW a) (mkW b)).run Tryz.prog w = .ok (decide (a = b)) w := by
  have u9 := Tryz.underlying9
  have a9 := Tryz.isAgg9
  have z9 := Tryz.sizeOf9
  have u3 := Tryz.underlying3
  have a3 := Tryz.isAgg3
  have z3 := Tryz.sizeOf3
  have hS : Tryz.prog.underlying 102 = some (.struct (Tryz.prog.fieldsOf 102)) := by kernel_rfl
  have hp : Tryz.prog.stoodInHeld 102 = false := by kernel_rfl
  have e : ((a.1.toList == b.1.toList) && (a.2 == b.2)) = decide (a = b) := by
    rw [str_dec]
    obtain ⟨x, y⟩ := a
    obtain ⟨x', y'⟩ := b
    by_cases h1 : x = x' <;> by_cases h2 : y = y' <;> simp [h1, h2]
  rw [← e]
  unfold Op.equal
  rw [show Op.maxDepth = 9999 + 1 from rfl, run_equalIn_struct w 9999 102 _ _ hS hp]
  simp only [Program.fieldsOf, Tryz.underlying102]
  go_simp
  cases h1 : a.1.toList == b.1.toList <;> cases h2 : a.2 == b.2 <;> simp_all
theorem chkW (b : Bool) (a : ByteArray × Int) (w : World) : (Instr.checkKey b 10000 102 (mkW a)).run Tryz.prog w = .ok () w := by
  kernel_rfl
theorem bitsW (a : ByteArray × Int) : Instr.sameBits 10000 (mkW a) (mkW a) = true := by
  simp [Instr.sameBits, beq_toListBytes]
theorem kWish : KeyF Tryz.prog 102 mkW := keyF_ask Tryz.underlying102 (fun _ _ => rfl) eqW bitsW chkW
theorem tWish : Tryz.prog.underlying 98 = some (.map 102 4) := Tryz.underlying98
def seenD (acc : List Dl) (p : ByteArray × Int) : Option Value := if hasD acc p.1 p.2 then some (.bool true) else none
theorem seenD_get (acc : List Dl) (p : ByteArray × Int) : (seenD acc p).getD (.bool false) = .bool (hasD acc p.1 p.2) := by
  unfold seenD; cases hasD acc p.1 p.2 <;> rfl
theorem seenD_snoc (acc : List Dl) (d : Int) (pa : ByteArray) (n : Int) : (fun p => if p = (pa, n) then some (.bool true) else seenD acc p) = seenD (acc ++ [⟨d, pa, n⟩]) := by
  funext p
  obtain ⟨x, y⟩ := p
  have e : hasD (acc ++ [⟨d, pa, n⟩]) x y = (hasD acc x y || (decide (pa = x) && decide (n = y))) := by
    unfold hasD
    rw [List.any_append]; simp
  unfold seenD
  rw [e]
  by_cases h : (x, y) = (pa, n)
  · rw [if_pos h]
    injection h with h1 h2
    subst h1; subst h2
    simp
  · rw [if_neg h]
    have : (decide (pa = x) && decide (n = y)) = false := by
      by_cases h1 : pa = x
      · by_cases h2 : n = y
        · exact absurd (by rw [h1, h2]) h
        · simp [h2]
      · simp [h1]
    rw [this, Bool.or_false]

/-- Deliveries in memory. -/
abbrev encD (d : Dl) : List Value := [.int .i64 d.day, .string d.party, .int .i64 d.rc]
theorem elDl : ElemT Tryz.prog 39 44 (.agg #[.int .i64 0, .string ⟨#[]⟩, .int .i64 0]) 3 32 := ⟨Tryz.underlying39, by kernel_rfl, rfl, by decide⟩
def Dls (w : World) (A : Option Addr) (l : List Dl) : Prop :=
  0 < l.length → ∃ b o : Nat, A = some ⟨b, o, none⟩ ∧ ∀ i (h : i < l.length), w.cell? ⟨b, o + i * 3, none⟩ = some (.int .i64 (l[i]).day) ∧ w.cell? ⟨b, o + i * 3 + 1, none⟩ = some (.string (l[i]).party) ∧ w.cell? ⟨b, o + i * 3 + 2, none⟩ = some (.int .i64 (l[i]).rc)
section
variable {w w' : World} {A : Option Addr} {l : List Dl}
theorem Dls.at_ (h : Dls w A l) (hl : 0 < l.length) : ∃ b o : Nat, A = some ⟨b, o, none⟩ ∧ b < w.heap.size ∧ ∀ i (h : i < l.length), w.cell? ⟨b, o + i * 3, none⟩ = some (.int .i64 (l[i]).day) ∧ w.cell? ⟨b, o + i * 3 + 1, none⟩ = some (.string (l[i]).party) ∧ w.cell? ⟨b, o + i * 3 + 2, none⟩ = some (.int .i64 (l[i]).rc) := by
  obtain ⟨b, o, rfl, hc⟩ := h hl
  exact ⟨b, o, rfl, World.block_lt_of_cell? w _ (hc 0 hl).1, hc⟩
theorem Dls.below (h : Dls w A l) (hb : Below w.heap.size w w') : Dls w' A l := fun hl => by
  obtain ⟨b, o, rfl, hlt, hc⟩ := h.at_ hl
  refine ⟨b, o, rfl, fun i hi => ?_⟩
  rw [hb.cell hlt, hb.cell hlt, hb.cell hlt]
  exact hc i hi
theorem Dls.nil : Dls w A [] := fun h => absurd h (by simp)
end
theorem flat3 (l : List Dl) (i : Nat) (hi : i < l.length) : (l.flatMap encD)[i * 3]? = some (.int .i64 (l[i]).day) ∧ (l.flatMap encD)[i * 3 + 1]? = some (.string (l[i]).party) ∧ (l.flatMap encD)[i * 3 + 2]? = some (.int .i64 (l[i]).rc) := by
  induction l generalizing i with
  | nil => simp at hi
  | cons a t ih =>
    cases i with
    | zero => simp [List.flatMap_cons]
    | succ i =>
      have := ih i (by simpa using hi)
      rw [List.flatMap_cons, show (i + 1) * 3 = i * 3 + 3 from by omega, show i * 3 + 3 + 1 = (i * 3 + 1) + 3 from by omega, show i * 3 + 3 + 2 = (i * 3 + 2) + 3 from by omega]
      simpa using this
theorem own_rd3 {w : World} {base : Nat} {e : TypeId} {v : Value} {l : List Dl} (h : OwnL encD 3 w base e v l) : ∃ A c, v = .slice A l.length c ∧ Dls w A l := by
  rcases h.2 with ⟨rfl, hn⟩ | ⟨b, cap, cur, rfl, hb, hg, hnc, hm, hs, htake⟩
  · exact ⟨none, 0, by rw [hn], fun hl => by omega⟩
  · refine ⟨_, _, rfl, fun hl => ⟨b, 0, rfl, fun i hi => ?_⟩⟩
    obtain ⟨h0, h1, h2⟩ := flat3 l i hi
    rw [← htake, List.getElem?_take, if_pos (by omega)] at h0 h1 h2
    rw [Nat.zero_add, cell_of_row w b _ cur e (0, 0) hg, cell_of_row w b _ cur e (0, 0) hg, cell_of_row w b _ cur e (0, 0) hg]
    exact ⟨by simpa using h0, by simpa using h1, by simpa using h2⟩

/-- A call that answers deliveries and a fault, and only makes memory. -/
def GivesD (p : List Dl × Int) (w : World) (e : Ending) (w' : World) : Prop :=
  ∃ A c, e = .returned (.tuple #[.slice A p.1.length c, .int .i64 p.2]) ∧ Dls w' A p.1 ∧ Below w.heap.size w w' ∧ p.1.length ≤ c
theorem GivesD.err {p : List Dl × Int} {f : Int} {w w' : World} (h : p = ([], f)) (hb : Below w.heap.size w w') : GivesD p w (.returned (.tuple #[.slice none 0 0, .int .i64 f])) w' := by
  subst h; exact ⟨none, 0, rfl, Dls.nil, hb, Nat.le_refl _⟩
theorem GivesD.mk {p : List Dl × Int} {l : List Dl} {f : Int} {A : Option Addr} {n c : Nat} {w w' : World} (h : p = (l, f)) (hn : l.length = n) (hi : Dls w' A l) (hb : Below w.heap.size w w') (hc : n ≤ c) : GivesD p w (.returned (.tuple #[.slice A n c, .int .i64 f])) w' := by
  subst h; subst hn; exact ⟨A, c, rfl, hi, hb, hc⟩
theorem own_cap {α : Type} {enc : α → List Value} {k : Nat} {w : World} {base : Nat} {e : TypeId} {A : Option Addr} {n c : Nat} {l : List α} (h : OwnL enc k w base e (.slice A n c) l) : n ≤ c ∧ n = l.length := by
  rcases h.2 with ⟨he, hn⟩ | ⟨g', cap, cur, he, hb, hgg, hnc, rest⟩
  · injection he with _ h1 h2
    exact ⟨by omega, by omega⟩
  · injection he with _ h1 h2
    exact ⟨by omega, by omega⟩

/-- The state of Deliver's loops. -/
structure DvS (w2 wr : World) (acc : List Dl) (upto : Int) (out : Value) : Prop where
  bel : Below w2.heap.size w2 wr
  seen : MapIs mkW wr w2.heap.size (seenD acc)
  own : OwnL encD 3 wr (w2.heap.size + 1) 44 out (acc.filter fun d => decide (d.day ≤ upto))
section
variable {w2 wr wr' : World} {acc : List Dl} {upto : Int} {out : Value}
theorem DvS.below (h : DvS w2 wr acc upto out) (hb : Below wr.heap.size wr wr') : DvS w2 wr' acc upto out := ⟨h.bel.trans (hb.mono h.bel.size), h.seen.below hb, h.own.below hb⟩
theorem DvS.alloc (h : DvS w2 wr acc upto out) (o : Obj) : DvS w2 (wr.alloc o) acc upto out := h.below ((Below.refl _ _).alloc (Nat.le_refl _) _)
theorem DvS.lt (h : DvS w2 wr acc upto out) : w2.heap.size < wr.heap.size := h.seen.lt
end
theorem BoxA.ne_own {w : World} {p : Nat} {x : Ak} {base : Nat} {v : Value} {l : List Dl} (h : BoxA w p x) (ho : OwnL encD 3 w base 44 v l) : some p ≠ v.ownBlock := fun e => by
  obtain ⟨_, cs, hcs⟩ := own_row ho e.symm
  unfold BoxA at h
  rw [h] at hcs
  simp at hcs
def DvRel (w2 : World) (fr : ByteArray → Int → Int) (ins : Int → List Int) (ak : List Ak) (upto : Int) (m : Nat) (out i : Value) (wr : World) : Prop :=
  ∃ k : Nat, k + m = ak.length ∧ i = .int .i64 k ∧ DvS w2 wr (allD fr ins (ak.take k)) upto out
def DiRel (w2 : World) (fr : ByteArray → Int → Int) (a : Ak) (p : Nat) (L : List Int) (acc0 : List Dl) (upto : Int) (m : Nat) (out i : Value) (wr : World) : Prop :=
  ∃ k : Nat, k + m = L.length ∧ i = .int .i64 k ∧ BoxA wr p a ∧ DvS w2 wr ((L.take k).foldl (addD fr a) acc0) upto out
end Go.Proofs.YtfninfgohiipjaaGreatDoor

namespace Go.Proofs.YtfninfgohiipjaaGreatDoor
open Go.Shelf Go.RowKit Go.Lib Go.Sort Dw

def cfD (x y : Dl) : Int := orI [cmpI x.day y.day, cfS x.party y.party, cmpI x.rc y.rc]
theorem lt_cfD (x y : Dl) : ltOf cfD x y = dlLt x y := tri_cmp _ _ _ _ _ _
theorem swoD : SWO (ltOf cfD) where
  irrefl x := by rw [lt_cfD]; exact dlLt_irrefl x
  trans x y z h1 h2 := by rw [lt_cfD] at *; exact dlLt_trans h1 h2
  ntrans x y z h1 h2 := by
    rw [lt_cfD] at *
    cases h : dlLt x z with
    | false => rfl
    | true =>
      exfalso
      cases hyx : dlLt y x with
      | true => have := dlLt_trans hyx h; rw [h2] at this; cases this
      | false =>
        have := dlLt_total h1 hyx
        subst this
        rw [h2] at h; cases h
theorem totD (x y : Dl) (h1 : ltOf cfD x y = false) (h2 : ltOf cfD y x = false) : x = y := by
  rw [lt_cfD] at *; exact dlLt_total h1 h2
theorem mergeD : (fun x y : Dl => !ltOf cfD y x) = dlLe := by
  funext x y; rw [lt_cfD]; rfl

set_option maxRecDepth 100000 in
set_option maxHeartbeats 1000000 in
theorem closureD_c (x y : Dl) (W : World) : Calls Tryz.prog 50 #[.agg #[.int .i64 x.day, .string x.party, .int .i64 x.rc], .agg #[.int .i64 y.day, .string y.party, .int .i64 y.rc]] W fun e w' => e = .returned (.int .i64 (cfD x y)) ∧ ∃ q os', w' = grow (W.drewN q) os' := by
  have hx0 : ((W.alloc (.cells #[.int .i64 x.day, .string x.party, .int .i64 x.rc] 44)).alloc (.cells #[.int .i64 y.day, .string y.party, .int .i64 y.rc] 44)) = grow W #[.cells #[.int .i64 x.day, .string x.party, .int .i64 x.rc] 44, .cells #[.int .i64 y.day, .string y.party, .int .i64 y.rc] 44] := by
    rw [alloc_eq_grow, alloc_eq_grow, grow_grow]; rfl
  have HX := Lib.hid hx0
  clear hx0
  have bx : ((W.alloc (.cells #[.int .i64 x.day, .string x.party, .int .i64 x.rc] 44)).alloc (.cells #[.int .i64 y.day, .string y.party, .int .i64 y.rc] 44)).heap[W.heap.size]? = some (.cells #[.int .i64 x.day, .string x.party, .int .i64 x.rc] 44 (0, 0)) :=
    (Below.heap_alloc _ _ _ (by simp)).trans (heap_alloc_new _ _)
  have by_ : ((W.alloc (.cells #[.int .i64 x.day, .string x.party, .int .i64 x.rc] 44)).alloc (.cells #[.int .i64 y.day, .string y.party, .int .i64 y.rc] 44)).heap[W.heap.size + 1]? = some (.cells #[.int .i64 y.day, .string y.party, .int .i64 y.rc] 44 (0, 0)) := by
    have := heap_alloc_new (W.alloc (.cells #[.int .i64 x.day, .string x.party, .int .i64 x.rc] 44)) (.cells #[.int .i64 y.day, .string y.party, .int .i64 y.rc] 44)
    rwa [show (W.alloc (.cells #[.int .i64 x.day, .string x.party, .int .i64 x.rc] 44)).heap.size = W.heap.size + 1 by simp] at this
  have k0 := boxC bx (i := 0) rfl
  have k1 := boxC bx (i := 1) rfl
  have k2 := boxC bx (i := 2) rfl
  have m0 := boxC by_ (i := 0) rfl
  have m1 := boxC by_ (i := 1) rfl
  have m2 := boxC by_ (i := 2) rfl
  have hz1 : W.heap.size < ((W.alloc (.cells #[.int .i64 x.day, .string x.party, .int .i64 x.rc] 44)).alloc (.cells #[.int .i64 y.day, .string y.party, .int .i64 y.rc] 44)).heap.size := by simp; omega
  have hz2 : W.heap.size + 1 < ((W.alloc (.cells #[.int .i64 x.day, .string x.party, .int .i64 x.rc] 44)).alloc (.cells #[.int .i64 y.day, .string y.party, .int .i64 y.rc] 44)).heap.size := by simp
  clear bx by_
  go_enter Tryz.func50, Tryz.ntmps50
  go_wp2_with fail
  generalize hW2 : (W.alloc (.cells #[.int .i64 x.day, .string x.party, .int .i64 x.rc] 44)).alloc (.cells #[.int .i64 y.day, .string y.party, .int .i64 y.rc] 44) = W2 at *
  clear hW2
  refine wp_region_still_tail 15 (by kernel_rfl) (by kernel_rfl) ?_
  simp only [List.take_succ_cons, List.take_zero, List.drop_succ_cons, List.drop_zero]
  iterate 4 still_step
  still_call ((cmpI_c _ _ _).mono (fun _ _ h => ⟨h.1, h.2.symm⟩))
  iterate 4 still_step
  still_call ((compareS_c _ _ _).mono (fun _ _ h => ⟨h.1, h.2.symm⟩))
  iterate 4 still_step
  still_call ((cmpI_c _ _ _).mono (fun _ _ h => ⟨h.1, h.2.symm⟩))
  refine wpStill_nil ?_
  go_wp2_with fail
  refine (cmpOr_c _ _ [cmpI x.day y.day, cfS x.party y.party, cmpI x.rc y.rc] _ (by simp) (Rd1.drew (ints_three _ _ _ _ _))).mono ?_
  rintro e w3 ⟨rfl, hw3⟩
  have HW3 := Lib.hid hw3
  clear hw3
  go_wp2
  go_ret
  refine ⟨rfl, ?_⟩
  have h := HW3.out
  rw [HX.out, alloc_eq_grow, grow_grow] at h
  exact ⟨1, _, h.symm⟩
theorem cmpLaysD (blk off size : Nat) (w : World) : CmpLays Tryz.prog 50 #[] encD 3 cfD blk off size w :=
  fun _ _ _ _ x y => closureD_c x y _

theorem below_sortWorldK {w : World} {blk B : Nat} (off n : Nat) (d : Array Dl) (os : Array Obj) (hB : B ≤ blk) (hb : blk < w.heap.size) : Below B w (sortWorldK encD 3 w blk off n d os) := by
  have hp : Below B w (putRowK encD 3 (Sort.ahead w n) blk off d) :=
    ⟨rfl, rfl, rfl, by rw [size_putRowK]; exact Nat.le_refl _, fun i hi => by
      show ((Sort.ahead w n).heap.modify blk _)[i]? = _
      rw [Array.getElem?_modify, if_neg (by omega)]
      rfl⟩
  refine ⟨hp.os, hp.tape, hp.output, ?_, fun i hi => ?_⟩
  · unfold sortWorldK
    rw [size_grow]
    exact Nat.le_trans hp.size (Nat.le_add_right _ _)
  · unfold sortWorldK
    rw [heap_grow_old _ _ (by have := hp.size; omega)]
    exact hp.block i hi

def GivesSrt (v : Value) (L : List Dl) (base : Nat) (w : World) (e : Ending) (w' : World) : Prop :=
  e = .returned (.tuple #[]) ∧ ∃ A c, v = .slice A L.length c ∧ L.length ≤ c ∧ Dls w' A (srtD L) ∧ Below base w w'
theorem srtD_len (l : List Dl) : (srtD l).length = l.length := (srtD_perm l).length_eq

theorem sortD_c (v : Value) (L : List Dl) (base : Nat) (w : World) (hown : OwnL encD 3 w base 44 v L) (hl : L.length ≤ 1000000) :
    Calls Tryz.prog 49 #[v, .func (.func 50) #[] #[]] w (GivesSrt v L base w) := by
  have eg : ∀ args w, (callFunc 50 args).run Tryz.prog w = .ok (.enter 50 args) w := enters_of Tryz.func50 (by kernel_rfl) rfl
  obtain ⟨A, c, rfl, hA⟩ := own_form hown
  obtain ⟨hcap, _⟩ := own_cap hown
  rcases Nat.eq_zero_or_pos L.length with h0 | h0
  · have hn : L = [] := List.length_eq_zero_iff.1 h0
    subst hn
    have hS := AnyF.slices_SortFunc_none Tryz.sortD49 A c (.func (.func 50) #[] #[]) w
    change Calls Tryz.prog 49 _ _ _ at hS
    refine hS.mono fun e w' ⟨he, hw⟩ => ?_
    subst hw
    exact ⟨he, A, c, rfl, hcap, (fun h => absurd h (by simp [srtD_len])), Below.refl _ _⟩
  · obtain ⟨g, rfl⟩ := hA h0
    obtain ⟨hbase, cs, hcs⟩ := own_row hown (g := g) rfl
    have hgl : g < w.heap.size := (Array.getElem?_eq_some_iff.1 hcs).1
    obtain ⟨A', c', he, hrd⟩ := own_rd3 hown
    injection he with hA' _ _
    subst hA'
    obtain ⟨b, o, e2, hc⟩ := hrd h0
    injection e2 with e2
    injection e2 with e3 e4 _
    subst e3
    subst e4
    have hH : HoldsK encD 3 w g 0 L.toArray := by
      intro j hj
      refine ⟨?_, frozen_of_row w g _ cs _ hcs⟩
      have hj' : j < L.toArray.size * 3 := by simpa using hj
      have hi : j / 3 < L.length := by simp at hj'; omega
      obtain ⟨y0, y1, y2⟩ := hc (j / 3) hi
      rw [get_flatK _ _ _ _ hj']
      have hget : L.toArray[j / 3]! = L[j / 3] := by rw [getElem!_pos _ _ (by simpa using hi)]; rfl
      rw [hget]
      have h3 : j % 3 = 0 ∨ j % 3 = 1 ∨ j % 3 = 2 := by omega
      rcases h3 with h3 | h3 | h3
      · rw [h3, show (0 + j : Nat) = 0 + j / 3 * 3 by omega]; exact y0
      · rw [h3, show (0 + j : Nat) = 0 + j / 3 * 3 + 1 by omega]; exact y1
      · rw [h3, show (0 + j : Nat) = 0 + j / 3 * 3 + 2 by omega]; exact y2
    have hS := AnyQ.slices_SortFunc_total Tryz.sortD49 3 Tryz.isAgg44 Tryz.sizeOf44 encD (fun _ => rfl) (fun x v hv => by simp [encD] at hv; rcases hv with rfl | rfl | rfl <;> rfl) cfD swoD 50 #[] g 0 c L.toArray w eg (cmpLaysD g 0 L.toArray.size w) hH hgl (by simp; omega) totD
    rw [mergeD] at hS
    change Calls Tryz.prog 49 _ _ _ at hS
    rw [List.size_toArray] at hS
    refine hS.mono fun e w' ⟨he, n, os, hw⟩ => ⟨he, _, c, rfl, hcap, ?_, ?_⟩
    · have hh := holdsK_sortWorldK_c (enc := encD) (k := 3) (w := w) (blk := g) (off := 0) L.toArray (srtD L).toArray n os hH hgl (by simp [srtD_len])
      have hw' : w' = sortWorldK encD 3 w g 0 n (srtD L).toArray os := hw
      rw [hw']
      refine fun hp => ⟨g, 0, rfl, fun i hi => ?_⟩
      have hi' : i < (srtD L).toArray.size := by simpa using hi
      have e0 := (hh.cell hi' (c := 0) (by omega)).1
      have e1 := (hh.cell hi' (c := 1) (by omega)).1
      have e2 := (hh.cell hi' (c := 2) (by omega)).1
      simp [hi] at e0 e1 e2
      simp
      exact ⟨e0, e1, e2⟩
    · rw [hw]; exact below_sortWorldK _ _ _ _ hbase hgl
end Go.Proofs.YtfninfgohiipjaaGreatDoor
