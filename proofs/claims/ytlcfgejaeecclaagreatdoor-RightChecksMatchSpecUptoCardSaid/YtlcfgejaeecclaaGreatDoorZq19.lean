/- Parts of the proof, joined: Package right (places): slices.ContainsFunc at plain's literal. Packag. -/
import Derived.Test.YtlcfgejaeecclaaGreatDoorZq11
import Derived.Test.YtlcfgejaeecclaaGreatDoorZq13
set_option maxRecDepth 100000
set_option maxHeartbeats 8000000
namespace Go.Proofs.YtlcfgejaeecclaaGreatDoor
open Go.RowKit Dw
abbrev encV : Value → List Value := fun v => [v]
theorem elSets : ElemT Tryz.prog 78 130 (.slice none 0 0) 1 24 := ⟨Tryz.underlying78, by kernel_rfl, rfl, by decide⟩
def SlA (w : World) (B : Option Addr) (aa : List (List Ar)) : Prop :=
 ∃ b o : Nat, B = some ⟨b, o, none⟩ ∧ b < w.heap.size ∧ ∀ i (h : i < aa.length), ∃ Ai ci, w.cell? ⟨b, o + i, none⟩ = some (.slice Ai (aa[i]).length ci) ∧ Ars w Ai aa[i]
theorem SlA.below {w w' : World} {B : Option Addr} {aa : List (List Ar)} (h : SlA w B aa) (hb : Below w.heap.size w w') : SlA w' B aa := by
 obtain ⟨b, o, rfl, hlt, hc⟩ := h
 refine ⟨b, o, rfl, Nat.lt_of_lt_of_le hlt hb.size, fun i hi => ?_⟩
 obtain ⟨Ai, ci, h1, h2⟩ := hc i hi
 exact ⟨Ai, ci, (hb.cell hlt).trans h1, h2.below hb⟩
def SetsOf (w : World) (l : List Rg) (aa : List (List Ar)) (vs : List Value) : Prop :=
 ∀ (i : Nat) (v : Value), vs[i]? = some v → ∃ a, aa[i]? = some a ∧ ∃ gi ci, v = .slice (some ⟨gi, 0, none⟩) (inL l a).length ci ∧ w.heap[gi]? = some (.cells (bArr (inL l a) (inL l a).length) 4 (0, 0))
theorem SetsOf.keep {w w' : World} {l : List Rg} {aa : List (List Ar)} {vs : List Value} (h : SetsOf w l aa vs) (hk : ∀ (g : Nat) (cs : Array Value), w.heap[g]? = some (.cells cs 4 (0, 0)) → w'.heap[g]? = w.heap[g]?) : SetsOf w' l aa vs := fun i v hv => by
 obtain ⟨a, ha, gi, ci, h1, h2⟩ := h i v hv
 exact ⟨a, ha, gi, ci, h1, (hk _ _ h2).trans h2⟩
theorem SetsOf.below {w w' : World} {l : List Rg} {aa : List (List Ar)} {vs : List Value} (h : SetsOf w l aa vs) (hb : Below w.heap.size w w') : SetsOf w' l aa vs :=
 h.keep fun _ _ hg => hb.block _ (lt_of_heap hg)
theorem SetsOf.push {w : World} {l : List Rg} {aa : List (List Ar)} {vs : List Value} (h : SetsOf w l aa vs) {a : List Ar} {gi ci : Nat} (ha : aa[vs.length]? = some a) (hg : w.heap[gi]? = some (.cells (bArr (inL l a) (inL l a).length) 4 (0, 0))) :
  SetsOf w l aa (vs ++ [.slice (some ⟨gi, 0, none⟩) (inL l a).length ci]) := fun i v hv => by
 rcases Nat.lt_trichotomy i vs.length with h1 | h1 | h1
 ·rw [List.getElem?_append_left h1] at hv
  exact h i v hv
 ·subst h1
  simp at hv
  exact ⟨a, ha, gi, ci, hv.symm, hg⟩
 ·rw [List.getElem?_append_right (by omega), List.getElem?_eq_none (by simp; omega)] at hv
  cases hv
theorem six_cells {w : World} {s : Nat} {a0 a1 a2 a3 a4 a5 : Value} {T : TypeId} (h : w.heap[s]? = some (.cells #[a0, a1, a2, a3, a4, a5] T (0, 0))) :
  w.cell? ⟨s, 0, none⟩ = some a0 ∧ w.cell? ⟨s, 1, none⟩ = some a1 ∧ w.cell? ⟨s, 2, none⟩ = some a2 ∧ w.cell? ⟨s, 3, none⟩ = some a3 ∧ w.cell? ⟨s, 4, none⟩ = some a4 ∧ w.cell? ⟨s, 5, none⟩ = some a5 :=
 ⟨by rw [cell_of_row w _ 0 _ _ _ h]; rfl, by rw [cell_of_row w _ 1 _ _ _ h]; rfl, by rw [cell_of_row w _ 2 _ _ _ h]; rfl, by rw [cell_of_row w _ 3 _ _ _ h]; rfl, by rw [cell_of_row w _ 4 _ _ _ h]; rfl, by rw [cell_of_row w _ 5 _ _ _ h]; rfl⟩
theorem six_free {w : World} {s : Nat} {cs : Array Value} {T : TypeId} (h : w.heap[s]? = some (.cells cs T (0, 0))) :
  w.frozen? ⟨s, 0, none⟩ = false ∧ w.frozen? ⟨s, 1, none⟩ = false ∧ w.frozen? ⟨s, 2, none⟩ = false ∧ w.frozen? ⟨s, 3, none⟩ = false ∧ w.frozen? ⟨s, 4, none⟩ = false ∧ w.frozen? ⟨s, 5, none⟩ = false :=
 ⟨frozen_of_row w _ 0 _ _ h, frozen_of_row w _ 1 _ _ h, frozen_of_row w _ 2 _ _ h, frozen_of_row w _ 3 _ _ h, frozen_of_row w _ 4 _ _ h, frozen_of_row w _ 5 _ _ h⟩
theorem below6 {B : Nat} {w w' : World} {s : Nat} (h : Below B w w') (hs : B ≤ s) (b0 b1 b2 b3 b4 b5 : Value) : Below B w ((((((w'.setCell ⟨s, 0, none⟩ b0).setCell ⟨s, 1, none⟩ b1).setCell ⟨s, 2, none⟩ b2).setCell ⟨s, 3, none⟩ b3).setCell ⟨s, 4, none⟩ b4).setCell ⟨s, 5, none⟩ b5) :=
 (((((h.setCell (p := ⟨s, 0, none⟩) hs _).setCell (p := ⟨s, 1, none⟩) hs _).setCell (p := ⟨s, 2, none⟩) hs _).setCell (p := ⟨s, 3, none⟩) hs _).setCell (p := ⟨s, 4, none⟩) hs _).setCell (p := ⟨s, 5, none⟩) hs _
theorem z6 {j : Nat} {v : Value} (h : (#[nilSl, .map none, nilSl, .map none, nilSl, nilSl] : Array Value)[j]? = some v) : v = nilSl ∨ v = .map none := by
 match j, h with
 | 0, h => simp at h; exact .inl h.symm
 | 1, h => simp at h; exact .inr h.symm
 | 2, h => simp at h; exact .inl h.symm
 | 3, h => simp at h; exact .inr h.symm
 | 4, h => simp at h; exact .inl h.symm
 | 5, h => simp at h; exact .inl h.symm
 | j + 6, h => rw [Array.getElem?_eq_none (by simp)] at h; cases h
theorem rd1_set0 {α : Type} {f : α → Value} {w w' : World} {A : Option Addr} {L : List α} {s : Nat} {T : TypeId} (h : Rd1 f w A L) (hs : w.heap[s]? = some (.cells #[nilSl, .map none, nilSl, .map none, nilSl, nilSl] T (0, 0))) (hk : ∀ x, x ≠ s → w'.heap[x]? = w.heap[x]?) (hf : ∀ x, f x ≠ nilSl ∧ f x ≠ .map none) : Rd1 f w' A L := fun hl => by
 obtain ⟨b, o, rfl, hc⟩ := h hl
 refine ⟨b, o, rfl, fun i hi => ?_⟩
 have hne : b ≠ s := fun e => by
  subst e
  have := hc i hi
  rw [cell_of_row w b _ _ _ _ hs] at this
  rcases z6 this with h1 | h1
  ·exact (hf _).1 h1
  ·exact (hf _).2 h1
 rw [World.cell?_of_block (hk _ hne)]
 exact hc i hi
theorem rd2_set0 {α : Type} {f f2 : α → Value} {w w' : World} {A : Option Addr} {L : List α} {s : Nat} {T : TypeId} (h : Rd2 f f2 w A L) (hs : w.heap[s]? = some (.cells #[nilSl, .map none, nilSl, .map none, nilSl, nilSl] T (0, 0))) (hk : ∀ x, x ≠ s → w'.heap[x]? = w.heap[x]?) (hf : ∀ x, f x ≠ nilSl ∧ f x ≠ .map none) : Rd2 f f2 w' A L := fun hl => by
 obtain ⟨b, o, rfl, hc⟩ := h hl
 refine ⟨b, o, rfl, fun i hi => ?_⟩
 have hne : b ≠ s := fun e => by
  subst e
  have := (hc i hi).1
  rw [cell_of_row w b _ _ _ _ hs] at this
  rcases z6 this with h1 | h1
  ·exact (hf _).1 h1
  ·exact (hf _).2 h1
 rw [World.cell?_of_block (hk _ hne), World.cell?_of_block (hk _ hne)]
 exact hc i hi
theorem WR.set0 {w w' : World} {A : Option Addr} {r1 r2 g1 g2 : Nat} {AL : Option Addr} {l : List Rg} {s : Nat} (h : WR w A r1 r2 g1 g2 AL l) (hs : w.heap[s]? = some (.cells #[nilSl, .map none, nilSl, .map none, nilSl, nilSl] 76 (0, 0))) (hk : ∀ x, x ≠ s → w'.heap[x]? = w.heap[x]?) (hsz : w.heap.size ≤ w'.heap.size) : WR w' A r1 r2 g1 g2 AL l := by
 obtain ⟨cs, hcs⟩ := h.h3
 have hg2 : g2 ≠ s := cells_ne hcs hs (by decide)
 refine ⟨rd2_set0 h.rg hs hk (fun x => by simp), h.m1.keep (hk _ (map_ne_cells h.m1 hs).symm), rd1_set0 h.lv hs hk (fun x => by simp), h.m2.keep (hk _ (map_ne_cells h.m2 hs).symm), fun i hi => ?_, fun i hi => ?_, Nat.lt_of_lt_of_le h.h1 hsz, Nat.lt_of_lt_of_le h.h2 hsz, cs, (hk _ hg2).trans hcs⟩
 ·have hne : g1 ≠ s := fun e => by
   subst e
   have := h.up i hi
   rw [cell_of_row w g1 _ _ _ _ hs] at this
   rcases z6 this with h1 | h1 <;> simp at h1
  rw [World.cell?_of_block (hk _ hne)]
  exact h.up i hi
 ·obtain ⟨Ai, ci, h1, h2⟩ := h.bl i hi
  exact ⟨Ai, ci, by rw [World.cell?_of_block (hk _ hg2)]; exact h1, rd1_set0 h2 hs hk (fun x => by simp)⟩
theorem size6 (w : World) (s : Nat) (b0 b1 b2 b3 b4 b5 : Value) : w.heap.size ≤ ((((((w.setCell ⟨s, 0, none⟩ b0).setCell ⟨s, 1, none⟩ b1).setCell ⟨s, 2, none⟩ b2).setCell ⟨s, 3, none⟩ b3).setCell ⟨s, 4, none⟩ b4).setCell ⟨s, 5, none⟩ b5).heap.size := by simp
theorem own_rd {w w' : World} {base n c : Nat} {T : TypeId} {O : Option Addr} {vs : List Value} (h : OwnL encV 1 w base T (.slice O n c) vs) (hk : ∀ g, base ≤ g → w'.heap[g]? = w.heap[g]?) : Rd1 id w' O vs := by
 obtain ⟨O', c', e, hr⟩ := (own_keepB h fun g h1 _ => hk g h1).rd1
 injection e with e1
 subst e1
 exact hr
def zw : Value := .agg #[nilSl, .map none, nilSl, .map none, nilSl, nilSl]
def areasF (l : List Rg) (aa : List (List Ar)) : Int := if chkR l ≠ 0 then chkR l else ((aa.map (chkA l)).find? fun f => decide (f ≠ 0)).getD 0
def GivesAs (A : Option Addr) (c : Nat) (l : List Rg) (aa : List (List Ar)) (w : World) (e : Ending) (w' : World) : Prop :=
 Below w.heap.size w w' ∧ ((areasF l aa ≠ 0 ∧ e = .returned (.tuple #[zw, nilSl, .int .i64 (areasF l aa)])) ∨
  (chkR l = 0 ∧ (∀ i (h : i < aa.length), chkA l aa[i] = 0) ∧ ∃ r1 r2 g1 g2 AL cL O co vs, e = .returned (.tuple #[wv A c r1 r2 g1 g2 AL cL l, .slice O aa.length co, .int .i64 0]) ∧ WR w' A r1 r2 g1 g2 AL l ∧
   vs.length = aa.length ∧ Rd1 id w' O vs ∧ SetsOf w' l aa vs))
def ArRel (W : World) (l : List Rg) (aa : List (List Ar)) (m : Nat) (out i : Value) (wr : World) : Prop :=
 ∃ (k : Nat) (vs : List Value), k + m = aa.length ∧ i = .int .i64 k ∧ vs.length = k ∧ (∀ j (h : j < aa.length), j < k → chkA l aa[j] = 0) ∧ OwnL encV 1 wr W.heap.size 130 out vs ∧ SetsOf wr l aa vs ∧ Below W.heap.size W wr
theorem areasF_R {l : List Rg} {aa : List (List Ar)} (h : chkR l ≠ 0) : areasF l aa = chkR l := by rw [areasF, if_pos h]
theorem areasF_A {l : List Rg} {aa : List (List Ar)} (h : chkR l = 0) {k : Nat} (hk : k < aa.length) (hpre : ∀ j (h : j < aa.length), j < k → chkA l aa[j] = 0) (hf : chkA l aa[k] ≠ 0) : areasF l aa = chkA l aa[k] := by
 rw [areasF, if_neg (by simp [h])]
 have : (aa.map (chkA l)).find? (fun f => decide (f ≠ 0)) = some (chkA l aa[k]) := by
  rw [List.find?_eq_some_iff_getElem]
  refine ⟨by simpa using hf, k, by simpa using hk, by simp, fun j hj => ?_⟩
  simp [hpre j (by omega) hj]
 rw [this]; rfl
theorem areas_c (A B : Option Addr) (c cb : Nat) (l : List Rg) (aa : List (List Ar)) (w : World) (h : Rgs w A l) (hz : ∀ i (h : i < l.length), (l[i]).nm.size ≤ 9223372036854775807) (h2 : SlA w B aa) (hn2 : aa.length ≤ 2) :
  Calls Tryz.prog 62 #[.slice A l.length c, .slice B aa.length cb] w (GivesAs A c l aa w) := by
 have hwb : Below w.heap.size w (w.alloc (.cells #[nilSl, .map none, nilSl, .map none, nilSl, nilSl] 76)) := (Below.refl _ _).alloc (Nat.le_refl _) _
 have hblk := heap_alloc_new w (.cells #[nilSl, .map none, nilSl, .map none, nilSl, nilSl] 76)
 generalize hres : chkR l = res
 have HR := zq hres
 go_enter Tryz.func62, Tryz.ntmps62
 go_wp2_with fail
 refine (CheckRegions_c _ _ _ _ (h.below hwb) hz).mono ?_
 rintro e w1 ⟨rfl, hb1⟩
 have hw1 : Below w.heap.size w w1 := below_trans hwb hb1
 have hblk1 : w1.heap[w.heap.size]? = some (.cells #[nilSl, .map none, nilSl, .map none, nilSl, nilSl] 76 (0, 0)) := (hb1.block _ (by simp)).trans hblk
 have h1 := h.below hw1
 have h21 := h2.below hw1
 have HW1 := zq hw1
 rw [hres]
 clear hwb hblk hb1 h h2 hw1
 by_cases hr : res = 0
 ·subst hr
  have g := good_of hres
  clear hres
  go_wp2_with fail
  refine (newWorld_c A c l w1 g h1).mono ?_
  rintro e w2 ⟨r1, r2, g1, g2, AL, cL, rfl, hwr2, hb2⟩
  unfold wv
  have hblk2 : w2.heap[w.heap.size]? = some (.cells #[nilSl, .map none, nilSl, .map none, nilSl, nilSl] 76 (0, 0)) := (hb2.block _ (lt_of_heap hblk1)).trans hblk1
  have hsl2 := h21.below hb2
  have hwb2 : Below w.heap.size w w2 := below_trans HW1.out hb2
  clear hb2 HW1 h1 h21 hblk1
  go_wp2
  generalize hW : w2.alloc (.cells #[.slice A l.length c, .map (some r1), .slice AL (gath l (fun i => !isPar l i) l.length).length cL, .map (some r2), .slice (some ⟨g1, 0, none⟩) l.length l.length, .slice (some ⟨g2, 0, none⟩) l.length l.length] 76) = W
  have hWr := heap_alloc_new w2 (.cells #[.slice A l.length c, .map (some r1), .slice AL (gath l (fun i => !isPar l i) l.length).length cL, .map (some r2), .slice (some ⟨g1, 0, none⟩) l.length l.length, .slice (some ⟨g2, 0, none⟩) l.length l.length] 76)
  have hWb : Below w2.heap.size w2 W := by rw [← hW]; exact (Below.refl _ _).alloc (Nat.le_refl _) _
  rw [hW] at hWr
  have hw2W : w2.heap.size < W.heap.size := lt_of_heap hWr
  have hblkW : W.heap[w.heap.size]? = some (.cells #[nilSl, .map none, nilSl, .map none, nilSl, nilSl] 76 (0, 0)) := (hWb.block _ (lt_of_heap hblk2)).trans hblk2
  have hwW : w.heap.size < W.heap.size := lt_of_heap hblkW
  obtain ⟨s8, hs8⟩ : ∃ s8, s8 = w2.heap.size := ⟨_, rfl⟩
  rw [← hs8] at hWr hw2W ⊢
  have HWR := zq (hwr2.below hWb)
  have HSL := zq (hsl2.below hWb)
  have HWb := zq (hwb2.trans (hWb.mono hwb2.size))
  have HWr := zq hWr
  have HBk := zq hblkW
  clear hW hWr hWb hblkW hblk2 hwr2 hsl2 hwb2 hs8
  clear w1 w2
  go_loopg [9, 23] aa.length (ArRel W l aa)
  case atStart => exact ⟨0, [], by omega, rfl, rfl, fun j _ hj => absurd hj (by omega), OwnL.nil _ _ _ _ _, fun i v hv => by simp at hv, Below.refl _ _⟩
  case round =>
   obtain ⟨k, vs, hk, rfl, hvs, hpre, hown, hsets, hbel⟩ := hrel
   have HK := zq hk
   have HP := zq hpre
   have HB := zq hbel
   have HV := zq hvs
   have hk1 : k ≤ aa.length := by omega
   have hs8r : s8 < wr.heap.size := Nat.lt_of_lt_of_le hw2W hbel.size
   have hwr : w.heap.size < wr.heap.size := Nat.lt_of_lt_of_le hwW hbel.size
   have hrow : wr.heap[s8]? = _ := (hbel.block _ hw2W).trans HWr.out
   have hs0 : wr.cell? ⟨s8, 0, none⟩ = some (.slice A l.length c) := by rw [cell_of_row _ s8 0 _ _ _ hrow]; rfl
   have hs1 : wr.cell? ⟨s8, 1, none⟩ = some (.map (some r1)) := by rw [cell_of_row _ s8 1 _ _ _ hrow]; rfl
   have hs2 : wr.cell? ⟨s8, 2, none⟩ = some (.slice AL (gath l (fun i => !isPar l i) l.length).length cL) := by rw [cell_of_row _ s8 2 _ _ _ hrow]; rfl
   have hs3 : wr.cell? ⟨s8, 3, none⟩ = some (.map (some r2)) := by rw [cell_of_row _ s8 3 _ _ _ hrow]; rfl
   have hs4 : wr.cell? ⟨s8, 4, none⟩ = some (.slice (some ⟨g1, 0, none⟩) l.length l.length) := by rw [cell_of_row _ s8 4 _ _ _ hrow]; rfl
   have hs5 : wr.cell? ⟨s8, 5, none⟩ = some (.slice (some ⟨g2, 0, none⟩) l.length l.length) := by rw [cell_of_row _ s8 5 _ _ _ hrow]; rfl
   have HRow := zq hrow
   clear hk hpre hbel hvs hrow
   by_cases hlt : k < aa.length
   ·obtain ⟨b, o, rfl, hb, hc⟩ := HSL.out.below HB.out
    obtain ⟨Ai, ci, hci, hai⟩ := hc k hlt
    have hwrr := HWR.out.below HB.out
    clear hc
    generalize hak : chkA l aa[k] = fk
    have HAK := zq hak
    go_wp2_with fail
    refine (checkArea_c A Ai c r1 r2 g1 g2 AL cL ci l aa[k] wr g hwrr hai).mono ?_
    rintro e w3 ⟨rfl, hb3⟩
    rw [hak]
    by_cases hf : fk = 0
    ·subst hf
     have ga := goodA_of hak
     have hrow3 : w3.heap[s8]? = _ := (hb3.block _ hs8r).trans HRow.out
     obtain ⟨hs0', hs1', hs2', hs3', hs4', hs5'⟩ := six_cells hrow3
     have hs8' : s8 < w3.heap.size := lt_of_heap hrow3
     have hwr3 := hwrr.below hb3
     have hai3 := hai.below hb3
     have hown3 := hown.below hb3
     have hsets3 := hsets.below hb3
     have hbel3 : Below W.heap.size W w3 := below_trans HB.out hb3
     clear hs0 hs1 hs2 hs3 hs4 hs5 hrow3 hb3 hwrr hai hown hsets hak hci hb hwr
     go_wp2_with fail
     refine (in_c A Ai c r1 r2 g1 g2 AL cL ci l aa[k] w3 g ga hwr3 hai3).mono ?_
     rintro e w4 ⟨gi, cgi, rfl, hgi, hb4⟩
     have hown4 := hown3.below hb4
     have hsets4 := hsets3.below hb4
     have hbel4 : Below W.heap.size W w4 := below_trans hbel3 hb4
     have hWle : W.heap.size ≤ w4.heap.size := hbel4.size
     clear hown3 hsets3 hbel3 hb4 hs0' hs1' hs2' hs3' hs4' hs5' hwr3 hai3 hs8'
     have hvl : vs.length + 1 ≤ 2 := by have := HV.out; omega
     have HSP := zq (SetsOf.push (ci := cgi) hsets4 (a := aa[k]) (gi := gi) (by rw [HV.out]; simp [hlt]) hgi)
     go_wp2_with (at_builtin; refine wpList_push _ _ _ elSets rfl rfl W.heap.size _ vs rfl (hown4.alloc _) w4.heap.size 1 (.slice (some ⟨gi, 0, none⟩) (inL l aa[k]).length cgi) rfl (heap_alloc_new _ _) rfl (by simp [Value.oneCell']) (by unfold maxLen; omega) (by omega) (by simp; omega) ?_; intro v5 w5 hown5 hg5 hb5)
     have hkeep : ∀ (g : Nat) (cs : Array Value), w4.heap[g]? = some (.cells cs 4 (0, 0)) → w5.heap[g]? = w4.heap[g]? := fun g cs hg =>
      (hg5.block _ (lt_of_heap (heap_keep hg)) fun e2 => by
       obtain ⟨_, cs', hcs⟩ := own_row hown4 e2.symm
       exact cells_ne hg hcs (by decide) rfl).trans ((heap_keep hg).trans hg.symm)
     have HO5 := zq hown5
     have HS5 := zq (HSP.out.keep hkeep)
     have HB5 := zq ((hbel4.alloc hWle _).trans hb5)
     clear hown4 hsets4 hbel4 hown5 hg5 hb5 hkeep hgi HSP
     go_wp2
     go_roundg (gk - 1)
     case measure => have := HK.out; omega
     case rel =>
      refine ⟨k + 1, _, by have := HK.out; omega, by go_num, by simp [HV.out], fun j hj hjk => ?_, HO5.out, HS5.out, HB5.out⟩
      rcases Nat.lt_or_ge j k with h1 | h1
      ·exact HP.out j hj h1
      ·obtain rfl : j = k := by omega
       exact HAK.out
    ·have hfb : (fk != 0) = true := by simpa using hf
     have hblk3 : w3.heap[w.heap.size]? = _ := (hb3.block _ hwr).trans ((HB.out.block _ hwW).trans HBk.out)
     obtain ⟨hd0, hd1, hd2, hd3, hd4, hd5⟩ := six_cells hblk3
     obtain ⟨hf0, hf1, hf2, hf3, hf4, hf5⟩ := six_free hblk3
     have ha : areasF l aa = fk := by rw [areasF_A HR.out hlt HP.out (by rw [hak]; exact hf)]; exact hak
     have HA := zq ha
     have HB3 := zq (HWb.out.trans ((below_trans HB.out hb3).mono (Nat.le_of_lt hwW)))
     clear hblk3 hs0 hs1 hs2 hs3 hs4 hs5 hb3 hwrr hai hown hsets hak hci hb hwr ha
     go_wp2
     refine bodyPost_ret (v := .tuple #[zw, nilSl, .int .i64 fk]) ?_ rfl ?_
     ·simp [results, Tryz.results62, go_sem, zw, hd0, hd1, hd2, hd3, hd4, hd5]
     ·exact ⟨below6 HB3.out (Nat.le_refl _) _ _ _ _ _ _, .inl ⟨by rw [HA.out]; exact hf, by rw [HA.out]⟩⟩
   ·have hke : k = aa.length := by omega
    have HKE := zq hke
    have hblk3 : wr.heap[w.heap.size]? = _ := (HB.out.block _ hwW).trans HBk.out
    obtain ⟨hd0, hd1, hd2, hd3, hd4, hd5⟩ := six_cells hblk3
    obtain ⟨hf0, hf1, hf2, hf3, hf4, hf5⟩ := six_free hblk3
    have HO := zq hown
    have HS := zq hsets
    have HB3 := zq (HWb.out.trans (HB.out.mono (Nat.le_of_lt hwW)))
    obtain ⟨O, co, rfl, hrd⟩ := hown.rd1
    have HD := zq hrd
    have HBL := zq hblk3
    clear hblk3 hown hsets hke hrd
    go_wp2
    refine bodyPost_ret (v := .tuple #[wv A c r1 r2 g1 g2 AL cL l, .slice O aa.length co, .int .i64 0]) ?_ rfl ?_
    ·have e : vs.length = aa.length := by rw [HV.out, HKE.out]
     simp [results, Tryz.results62, go_sem, wv, hd0, hd1, hd2, hd3, hd4, hd5, e]
    ·refine ⟨below6 HB3.out (Nat.le_refl _) _ _ _ _ _ _, .inr ⟨HR.out, fun i hi => HP.out i hi (by rw [HKE.out]; exact hi), r1, r2, g1, g2, AL, cL, O, co, vs, rfl, ?_, by rw [HV.out, HKE.out], ?_, ?_⟩⟩
     ·exact (HWR.out.below HB.out).set0 HBL.out (setCells6 _ _ _ _ _ _) (size6 _ _ _ _ _ _ _ _)
     ·exact own_rd HO.out fun g hg => setCells6 _ _ _ _ _ _ _ (Nat.ne_of_gt (Nat.lt_of_lt_of_le hwW hg))
     ·exact HS.out.keep fun g cs hg => setCells6 _ _ _ _ _ _ _ (fun e => by rw [e, HBL.out] at hg; injection hg with hg; injection hg with _ hg; exact absurd hg (by decide))
 ·have hrb : (res != 0) = true := by simpa using hr
  have hd0 : w1.cell? ⟨w.heap.size, 0, none⟩ = some nilSl := by rw [cell_of_row w1 _ 0 _ _ _ hblk1]; rfl
  have hd1 : w1.cell? ⟨w.heap.size, 1, none⟩ = some (.map none) := by rw [cell_of_row w1 _ 1 _ _ _ hblk1]; rfl
  have hd2 : w1.cell? ⟨w.heap.size, 2, none⟩ = some nilSl := by rw [cell_of_row w1 _ 2 _ _ _ hblk1]; rfl
  have hd3 : w1.cell? ⟨w.heap.size, 3, none⟩ = some (.map none) := by rw [cell_of_row w1 _ 3 _ _ _ hblk1]; rfl
  have hd4 : w1.cell? ⟨w.heap.size, 4, none⟩ = some nilSl := by rw [cell_of_row w1 _ 4 _ _ _ hblk1]; rfl
  have hd5 : w1.cell? ⟨w.heap.size, 5, none⟩ = some nilSl := by rw [cell_of_row w1 _ 5 _ _ _ hblk1]; rfl
  have hf0 := frozen_of_row w1 _ 0 _ _ hblk1
  have hf1 := frozen_of_row w1 _ 1 _ _ hblk1
  have hf2 := frozen_of_row w1 _ 2 _ _ hblk1
  have hf3 := frozen_of_row w1 _ 3 _ _ hblk1
  have hf4 := frozen_of_row w1 _ 4 _ _ hblk1
  have hf5 := frozen_of_row w1 _ 5 _ _ hblk1
  clear hblk1 hres
  go_wp2
  refine bodyPost_ret (v := .tuple #[zw, nilSl, .int .i64 res]) ?_ rfl ?_
  ·simp [results, Tryz.results62, go_sem, zw, hd0, hd1, hd2, hd3, hd4, hd5]
  ·have ha : areasF l aa = res := by rw [areasF_R (by rw [HR.out]; exact hr)]; exact HR.out
   refine ⟨(((((HW1.out.setCell (p := ⟨w.heap.size, 0, none⟩) (Nat.le_refl _) _).setCell (p := ⟨w.heap.size, 1, none⟩) (Nat.le_refl _) _).setCell (p := ⟨w.heap.size, 2, none⟩) (Nat.le_refl _) _).setCell (p := ⟨w.heap.size, 3, none⟩) (Nat.le_refl _) _).setCell (p := ⟨w.heap.size, 4, none⟩) (Nat.le_refl _) _).setCell (p := ⟨w.heap.size, 5, none⟩) (Nat.le_refl _) _, .inl ⟨by rw [ha]; exact hr, by rw [ha]⟩⟩
def GivesS2 (r : List ByteArray × Int) (w : World) (e : Ending) (w' : World) : Prop :=
 ∃ A c, e = .returned (.tuple #[.slice A r.1.length c, .int .i64 r.2]) ∧ Strs w' A r.1 ∧ Below w.heap.size w w'
theorem GivesS2.err {r : List ByteArray × Int} {w w' : World} {f : Int} (hr : r = ([], f)) (hw : Below w.heap.size w w') : GivesS2 r w (.returned (.tuple #[.slice none 0 0, .int .i64 f])) w' := by
 subst hr; exact ⟨none, 0, rfl, Rd1.nil, hw⟩
theorem GivesS2.ok {r : List ByteArray × Int} {l : List ByteArray} {w w' : World} {f : Int} {A : Option Addr} {c : Nat} (hr : r = (l, f)) (hl : Strs w' A l) (hw : Below w.heap.size w w') : GivesS2 r w (.returned (.tuple #[.slice A l.length c, .int .i64 f])) w' := by
 subst hr; exact ⟨A, c, rfl, hl, hw⟩
theorem areasF_1 (l : List Rg) (a : List Ar) : areasF l [a] = if chkR l ≠ 0 then chkR l else chkA l a := by
 unfold areasF
 by_cases h : chkR l = 0
 ·by_cases h2 : chkA l a = 0
  ·simp [h, h2]
  ·simp [h, h2]
 ·simp [h]
def lvTo (l : List Rg) (a : List Ar) (k : Nat) : List ByteArray := (((leafIdx l).take k).filter (lies l a)).map (nmAt l)
theorem lvTo_succ {l : List Rg} {a : List Ar} {k : Nat} (h : k < (leafIdx l).length) : lvTo l a (k + 1) = lvTo l a k ++ if lies l a (leafIdx l)[k] then [nmAt l (leafIdx l)[k]] else [] := by
 unfold lvTo
 rw [List.take_succ_eq_append_getElem h, List.filter_append, List.map_append]
 congr 1
 cases hl : lies l a (leafIdx l)[k] <;> simp [hl]
theorem lvTo_le (l : List Rg) (a : List Ar) (k : Nat) : (lvTo l a k).length ≤ k := by
 unfold lvTo
 rw [List.length_map]
 refine Nat.le_trans (List.length_filter_le _ _) ?_
 rw [List.length_take]
 omega
def LvRel (W : World) (l : List Rg) (a : List Ar) (m : Nat) (out i : Value) (wr : World) : Prop :=
 ∃ k : Nat, k + m = (leafIdx l).length ∧ i = .int .i64 k ∧ OwnL encS 1 wr W.heap.size 9 out (lvTo l a k) ∧ Below W.heap.size W wr
theorem Leaves_c (A A2 : Option Addr) (c c2 : Nat) (l : List Rg) (a : List Ar) (w : World) (h : Rgs w A l) (h2 : Ars w A2 a) (hz : ∀ i (h : i < l.length), (l[i]).nm.size ≤ 9223372036854775807) :
  Calls Tryz.prog 29 #[.slice A l.length c, .slice A2 a.length c2] w (GivesS2 (leavesS l a) w) := by
 have hwb : Below w.heap.size w (w.alloc (.cells #[.slice A2 a.length c2] 51)) := (Below.refl _ _).alloc (Nat.le_refl _) _
 have hsl : SlA (w.alloc (.cells #[.slice A2 a.length c2] 51)) (some ⟨w.heap.size, 0, none⟩) [a] :=
  ⟨w.heap.size, 0, rfl, by simp, fun i hi => by
   have : i = 0 := by simp at hi; omega
   subst this
   exact ⟨A2, c2, by rw [cell_of_row _ w.heap.size _ _ _ _ (heap_alloc_new _ _)]; rfl, h2.below hwb⟩⟩
 generalize hres : leavesS l a = res
 have HR := zq hres
 clear hres
 go_enter Tryz.func29, Tryz.ntmps29
 go_wp2_with fail
 refine (areas_c A (some ⟨w.heap.size, 0, none⟩) c 1 l [a] _ (h.below hwb) hz hsl (by simp)).mono ?_
 rintro e w1 ⟨hb1, ⟨hf, rfl⟩ | ⟨hr, hc, r1, r2, g1, g2, AL, cL, O, co, vs, rfl, hwr, hvl, hrd, hsets⟩⟩
 ·have hw1 : Below w.heap.size w w1 := below_trans hwb hb1
  have hrs : res = ([], areasF l [a]) := by
   rw [← HR.out, leavesS]
   rw [areasF_1] at hf ⊢
   by_cases hq : chkR l = 0
   ·rw [if_neg (by simp [hq])] at hf
    simp [hq, hf]
   ·simp [hq]
  have HS := zq hrs
  generalize areasF l [a] = f at *
  have hfb : (f != 0) = true := by simpa using hf
  have HB := zq (hw1.alloc hw1.size (.cells #[nilSl, .map none, nilSl, .map none, nilSl, nilSl] 76))
  clear hrs hf hb1 hw1 hwb hsl h h2
  unfold zw
  go_wp2
  go_ret2
  exact GivesS2.err HS.out HB.out
 ·have hw1 : Below w.heap.size w w1 := below_trans hwb hb1
  have g := good_of hr
  have hn := g.len
  have ha0 : chkA l a = 0 := hc 0 (by simp)
  have hrs : res = (leavesOf l a, 0) := by
   rw [← HR.out, leavesS]
   simp [hr, ha0]
  have HS := zq hrs
  clear hrs hb1 hwb hsl h h2 hc ha0 hr
  obtain ⟨v0, hv0⟩ : ∃ v0, vs = [v0] := by
   match vs, hvl with
   | [v0], _ => exact ⟨v0, rfl⟩
  subst hv0
  obtain ⟨a', ha', gi, ci, rfl, hgi⟩ := hsets 0 v0 rfl
  have : a' = a := by simpa using ha'.symm
  subst this
  obtain ⟨bo, oo, rfl, hbo, hco⟩ := hrd.at_ (by simp)
  have hco0 : w1.cell? ⟨bo, oo, none⟩ = some (.slice (some ⟨gi, 0, none⟩) (inL l a').length ci) := hco 0 (by simp)
  clear hco hsets hvl ha' hrd
  unfold wv
  go_wp2
  have hgl : (gath l (fun i => !isPar l i) l.length).length = (leafIdx l).length := by rw [gath_len l a', inL, List.length_map]
  have hil : (leafIdx l).length ≤ 200 := Nat.le_trans (leafTo_le l l.length) hn
  rw [hgl]
  have HGL := zq hgl
  clear hgl
  generalize hW : w1.alloc (.cells #[.slice A l.length c, .map (some r1), .slice AL (leafIdx l).length cL, .map (some r2), .slice (some ⟨g1, 0, none⟩) l.length l.length, .slice (some ⟨g2, 0, none⟩) l.length l.length] 76) = W
  have hWb : Below w1.heap.size w1 W := by rw [← hW]; exact (Below.refl _ _).alloc (Nat.le_refl _) _
  have HLV := zq (hwr.lv.below hWb)
  have hgW : gi < W.heap.size := Nat.lt_of_lt_of_le (lt_of_heap hgi) hWb.size
  have HGI := zq ((hWb.block _ (lt_of_heap hgi)).trans hgi)
  have hboW : bo < W.heap.size := Nat.lt_of_lt_of_le hbo hWb.size
  have hcoW := (hWb.cell hbo).trans hco0
  have HWb := zq (below_trans hw1 hWb)
  clear hW hWb hwr hgi hbo hco0 hw1
  obtain ⟨s6, hs6⟩ : ∃ s6, s6 = w1.heap.size := ⟨_, rfl⟩
  rw [← hs6]
  clear hs6
  clear w1
  have hinl : (inL l a').length = (leafIdx l).length := by rw [inL, List.length_map]
  rw [hinl] at hcoW
  have HIN := zq hinl
  clear hinl
  go_loopg [9, 26] (leafIdx l).length (LvRel W l a')
  case atStart => exact ⟨0, by omega, rfl, OwnL.nil _ _ _ _ _, Below.refl _ _⟩
  case round =>
   obtain ⟨k, hk, rfl, hown, hbel⟩ := hrel
   have HK := zq hk
   have hk1 : k ≤ (leafIdx l).length := by omega
   clear hk
   by_cases hlt : k < (leafIdx l).length
   ·have hltG : k < (gath l (fun i => !isPar l i) l.length).length := by rw [HGL.out]; exact hlt
    obtain ⟨b, o, rfl, hb, hc⟩ := HLV.out.at_ (by omega)
    have hyl := leafIdx_lt hlt
    have hc0 : wr.cell? ⟨b, o + k, none⟩ = some (.string (nmAt l (leafIdx l)[k])) := by
     rw [hbel.cell hb, hc k hltG, gath_get l hltG hlt]
    have hbr : b < wr.heap.size := Nat.lt_of_lt_of_le hb hbel.size
    have hcor := (hbel.cell hboW).trans hcoW
    have hbor : bo < wr.heap.size := Nat.lt_of_lt_of_le hboW hbel.size
    have hgr : gi < wr.heap.size := Nat.lt_of_lt_of_le hgW hbel.size
    have hcs : wr.cell? ⟨gi, k, none⟩ = some (.bool (lies l a' (leafIdx l)[k])) := by
     rw [hbel.cell hgW, cell_of_row _ gi k _ _ _ HGI.out, bArr_get _ _ (by rw [HIN.out]; exact hlt)]
     simp [inL, hlt]
    have hle := lvTo_le l a' k
    have hwr : W.heap.size ≤ wr.heap.size := hbel.size
    have HSU := zq (lvTo_succ (a := a') hlt)
    clear hc
    generalize hx : nmAt l (leafIdx l)[k] = nm at *
    cases hq : lies l a' (leafIdx l)[k] with
    | false =>
     rw [hq] at hcs
     have HQ := zq hq
     have HO := zq hown
     have HB := zq hbel
     clear hq hown hbel hx
     go_wp2
     go_roundg (gk - 1)
     case measure => have := HK.out; omega
     case rel => exact ⟨k + 1, by have := HK.out; omega, by go_num, by rw [HSU.out, HQ.out]; simpa using HO.out, HB.out⟩
    | true =>
     rw [hq] at hcs
     have HQ := zq hq
     clear hq hx
     go_wp2_with (at_builtin; refine wpList_push _ _ _ elStr rfl rfl W.heap.size _ (lvTo l a' k) rfl (hown.alloc _) wr.heap.size 1 nm rfl (heap_alloc_new _ _) rfl (by simp [Value.oneCell']) (by unfold maxLen; omega) (by omega) (by simp; omega) ?_; intro v1 w2 hown2 hg2 hb2)
     have HO := zq hown2
     have HB := zq ((hbel.alloc hwr _).trans hb2)
     clear hown hbel hown2 hg2 hb2
     go_wp2
     go_roundg (gk - 1)
     case measure => have := HK.out; omega
     case rel => exact ⟨k + 1, by have := HK.out; omega, by go_num, by rw [HSU.out, HQ.out]; simpa using HO.out, HB.out⟩
   ·have hke : k = (leafIdx l).length := by omega
    have e : lvTo l a' k = leavesOf l a' := by rw [hke, lvTo, List.take_length]; rfl
    rw [e] at hown
    obtain ⟨A', c', rfl, hrd⟩ := hown.rd1
    have HB := zq (below_trans HWb.out hbel)
    have HD := zq hrd
    clear e hown hrd hbel hke
    go_wp2
    go_ret2
    exact GivesS2.ok HS.out HD.out HB.out
def sa : ByteArray := ⟨#[97]⟩
theorem leaves_awake : leavesS [⟨sa, emp⟩] [⟨sa, false⟩] = ([sa], 0) := by decide +kernel
theorem awake_c (w : World) : Calls Tryz.prog 9 #[] w (GivesB (.bool true) w) := by
 have hb1 : Below w.heap.size w (w.alloc (.cells #[.string ⟨#[97]⟩, .string ⟨#[]⟩] 43)) := (Below.refl _ _).alloc (Nat.le_refl _) _
 have hb2 : Below w.heap.size w ((w.alloc (.cells #[.string ⟨#[97]⟩, .string ⟨#[]⟩] 43)).alloc (.cells #[.string ⟨#[97]⟩, .bool false] 63)) := hb1.alloc hb1.size _
 have hr : Rgs ((w.alloc (.cells #[.string ⟨#[97]⟩, .string ⟨#[]⟩] 43)).alloc (.cells #[.string ⟨#[97]⟩, .bool false] 63)) (some ⟨w.heap.size, 0, none⟩) [⟨sa, emp⟩] := fun _ =>
  ⟨w.heap.size, 0, rfl, fun i hi => by
   have : i = 0 := by simp at hi; omega
   subst this
   constructor
   ·rw [cell_of_row _ w.heap.size _ _ _ _ (heap_keep (heap_alloc_new _ _))]; rfl
   ·rw [cell_of_row _ w.heap.size _ _ _ _ (heap_keep (heap_alloc_new _ _))]; rfl⟩
 have ha : Ars ((w.alloc (.cells #[.string ⟨#[97]⟩, .string ⟨#[]⟩] 43)).alloc (.cells #[.string ⟨#[97]⟩, .bool false] 63)) (some ⟨w.heap.size + 1, 0, none⟩) [⟨sa, false⟩] := fun _ =>
  ⟨w.heap.size + 1, 0, rfl, fun i hi => by
   have : i = 0 := by simp at hi; omega
   subst this
   have hn := heap_alloc_new (w.alloc (.cells #[.string ⟨#[97]⟩, .string ⟨#[]⟩] 43)) (.cells #[.string ⟨#[97]⟩, .bool false] 63)
   rw [show (w.alloc (.cells #[.string ⟨#[97]⟩, .string ⟨#[]⟩] 43)).heap.size = w.heap.size + 1 by simp] at hn
   constructor
   ·rw [cell_of_row _ (w.heap.size + 1) _ _ _ _ hn]; rfl
   ·rw [cell_of_row _ (w.heap.size + 1) _ _ _ _ hn]; rfl⟩
 have hl := Leaves_c (some ⟨w.heap.size, 0, none⟩) (some ⟨w.heap.size + 1, 0, none⟩) 1 1 [⟨sa, emp⟩] [⟨sa, false⟩] _ hr ha (fun i hi => by
  have : i = 0 := by simp at hi; omega
  subst this
  show (sa.size : Nat) ≤ 9223372036854775807
  decide)
 rw [leaves_awake] at hl
 go_enter Tryz.func9, Tryz.ntmps9
 go_wp2_with fail
 refine hl.mono ?_
 rintro e w1 ⟨A1, c1, rfl, hx, hb⟩
 have HB := zq (hb2.trans (hb.mono hb2.size))
 obtain ⟨b, o, rfl, hbl, hc⟩ := hx.at_ (by simp)
 have hc0 : w1.cell? ⟨b, o, none⟩ = some (.string ⟨#[97]⟩) := hc 0 (by simp)
 clear hl hr ha hb1 hb2 hb hx hc
 go_wp2
 go_ret
 exact GivesB.mk rfl HB.out
def GivesEq (same : Prop) (w : World) (e : Ending) (w' : World) : Prop := ∃ r : Bool, e = .returned (.bool r) ∧ (r = true ↔ same) ∧ ∃ n, w' = w.drewN n
theorem GivesEq.no {same : Prop} {w w' : World} (h : ¬ same) (hw : ∃ n, w' = w.drewN n) : GivesEq same w (.returned (.bool false)) w' := ⟨false, rfl, ⟨(fun e => by cases e), fun e => absurd e h⟩, hw⟩
theorem GivesEq.yes {same : Prop} {w w' : World} (h : same) (hw : ∃ n, w' = w.drewN n) : GivesEq same w (.returned (.bool true)) w' := ⟨true, rfl, ⟨fun _ => h, fun _ => rfl⟩, hw⟩
def EqRel2 {α : Type} (w : World) (L M : List α) (m : Nat) (i : Value) (wr : World) : Prop :=
 ∃ q, wr = w.drewN q ∧ ∃ k : Nat, k + m = L.length ∧ i = .int .i64 k ∧ ∀ j, j < k → L[j]? = M[j]?
theorem same_of {α : Type} {L M : List α} (hl : L.length = M.length) {k : Nat} (hk : L.length ≤ k) (h : ∀ j, j < k → L[j]? = M[j]?) : L = M := by
 apply List.ext_getElem?
 intro i
 by_cases hi : i < k
 ·exact h i hi
 ·rw [List.getElem?_eq_none (by omega), List.getElem?_eq_none (by omega)]
theorem Shs.drewN {w : World} {A : Option Addr} {l : List Sh} (h : Shs w A l) (n : Nat) : Shs (w.drewN n) A l := h
theorem bool_ne {a b : Bool} (h : ¬ a = b) : (a == b) = false := by cases a <;> cases b <;> simp_all
theorem equalS_c (A A2 : Option Addr) (c c2 : Nat) (L M : List ByteArray) (w : World) (hn : L.length ≤ 140737488355328) (hn2 : M.length ≤ 140737488355328) (h : Strs w A L) (h2 : Strs w A2 M) :
  Calls Tryz.prog 21 #[.slice A L.length c, .slice A2 M.length c2] w (GivesEq (L = M) w) := by
 by_cases hl : L.length = M.length
 ·rw [← hl]
  have HL := zq hl
  clear hl
  go_enter Tryz.func21, Tryz.ntmps21
  go_wp2
  go_loopg [13] L.length (EqRel2 w L M)
  case atStart => exact ⟨0, rfl, 0, by omega, rfl, fun j hj => absurd hj (by omega)⟩
  case round =>
   obtain ⟨q, hw, k, hk, rfl, hpre⟩ := hrel
   subst hw
   have HK := zq hk
   have HP := zq hpre
   have hk1 : k ≤ L.length := by omega
   clear hk hpre
   by_cases hlt : k < L.length
   ·have hlt2 : k < M.length := by have := HL.out; omega
    obtain ⟨b, o, rfl, hb, hc⟩ := h.at_ (by omega)
    obtain ⟨b2, o2, rfl, hb2, hcm⟩ := h2.at_ (by omega)
    have hc0 := hc k hlt
    have hd0 := hcm k hlt2
    clear hc hcm
    by_cases he : L[k] = M[k]
    ·have heb := beq_of_eq he
     have HE := zq he
     clear he
     go_wp2
     go_quiet (fail)
     go_wp2
     go_roundg (gk - 1)
     case measure => have := HK.out; omega
     case rel =>
      refine ⟨_, rfl, k + 1, by have := HK.out; omega, by go_num, fun j hj => ?_⟩
      rcases Nat.lt_or_ge j k with h1 | h1
      ·exact HP.out j h1
      ·obtain rfl : j = k := by omega
       rw [List.getElem?_eq_getElem hlt, List.getElem?_eq_getElem (by have := HL.out; omega), HE.out]
    ·have heb := beq_of_ne he
     have HE : Hid (¬ L = M) := by
      show ¬ L = M
      intro e
      subst e
      exact he rfl
     clear he
     go_wp2
     go_quiet (fail)
     go_wp2
     go_ret
     exact GivesEq.no HE.out ⟨_, World.drewN_drewN _ _ _⟩
   ·go_wp2
    go_ret
    exact GivesEq.yes (same_of HL.out (by omega) HP.out) ⟨_, rfl⟩
 ·have HE : Hid (¬ L = M) := by
   show ¬ L = M
   intro e
   subst e
   exact hl rfl
  have hlb : ((L.length : Int) != (M.length : Int)) = true := by simp; omega
  go_enter Tryz.func21, Tryz.ntmps21
  go_wp2
  go_ret
  exact GivesEq.no HE.out ⟨0, rfl⟩
theorem equalA_c (A A2 : Option Addr) (c c2 : Nat) (L M : List Ar) (w : World) (hn : L.length ≤ 140737488355328) (hn2 : M.length ≤ 140737488355328) (h : Ars w A L) (h2 : Ars w A2 M) :
  Calls Tryz.prog 53 #[.slice A L.length c, .slice A2 M.length c2] w (GivesEq (L = M) w) := by
 by_cases hl : L.length = M.length
 ·rw [← hl]
  have HL := zq hl
  clear hl
  go_enter Tryz.func53, Tryz.ntmps53
  go_wp2
  go_loopg [13] L.length (EqRel2 w L M)
  case atStart => exact ⟨0, rfl, 0, by omega, rfl, fun j hj => absurd hj (by omega)⟩
  case round =>
   obtain ⟨q, hw, k, hk, rfl, hpre⟩ := hrel
   subst hw
   have HK := zq hk
   have HP := zq hpre
   have hk1 : k ≤ L.length := by omega
   clear hk hpre
   by_cases hlt : k < L.length
   ·have hlt2 : k < M.length := by have := HL.out; omega
    obtain ⟨b, o, rfl, hb, hc⟩ := h.at_ (by omega)
    obtain ⟨b2, o2, rfl, hb2, hcm⟩ := h2.at_ (by omega)
    have hc0 := (hc k hlt).1
    have hd0 := (hcm k hlt2).1
    have hc1 := (hc k hlt).2
    have hd1 := (hcm k hlt2).2
    clear hc hcm
    by_cases he : L[k] = M[k]
    ·have HE := zq he
     rw [← he] at hd0 hd1
     clear he
     go_wp2
     go_quiet (fail)
     go_wp2
     go_roundg (gk - 1)
     case measure => have := HK.out; omega
     case rel =>
      refine ⟨_, rfl, k + 1, by have := HK.out; omega, by go_num, fun j hj => ?_⟩
      rcases Nat.lt_or_ge j k with h1 | h1
      ·exact HP.out j h1
      ·obtain rfl : j = k := by omega
       rw [List.getElem?_eq_getElem hlt, List.getElem?_eq_getElem (by have := HL.out; omega), HE.out]
    ·have HE : Hid (¬ L = M) := by
      show ¬ L = M
      intro e
      subst e
      exact he rfl
     by_cases h0 : (L[k]).rg = (M[k]).rg
     case neg =>
      have hb := beq_of_ne h0
      clear he h0
      go_wp2
      go_quiet (fail)
      go_wp2
      go_ret
      exact GivesEq.no HE.out ⟨_, World.drewN_drewN _ _ _⟩
     rw [← h0] at hd0
     have h1 : ¬ (L[k]).out = (M[k]).out := fun e => he (by
      cases hx : L[k]
      cases hy : M[k]
      simp_all)
     have hb := bool_ne h1
     clear he h0 h1
     go_wp2
     go_quiet (fail)
     go_wp2
     go_ret
     exact GivesEq.no HE.out ⟨_, World.drewN_drewN _ _ _⟩
   ·go_wp2
    go_ret
    exact GivesEq.yes (same_of HL.out (by omega) HP.out) ⟨_, rfl⟩
 ·have HE : Hid (¬ L = M) := by
   show ¬ L = M
   intro e
   subst e
   exact hl rfl
  have hlb : ((L.length : Int) != (M.length : Int)) = true := by simp; omega
  go_enter Tryz.func53, Tryz.ntmps53
  go_wp2
  go_ret
  exact GivesEq.no HE.out ⟨0, rfl⟩
theorem equalR_c (A A2 : Option Addr) (c c2 : Nat) (L M : List Rg) (w : World) (hn : L.length ≤ 140737488355328) (hn2 : M.length ≤ 140737488355328) (h : Rgs w A L) (h2 : Rgs w A2 M) :
  Calls Tryz.prog 20 #[.slice A L.length c, .slice A2 M.length c2] w (GivesEq (L = M) w) := by
 by_cases hl : L.length = M.length
 ·rw [← hl]
  have HL := zq hl
  clear hl
  go_enter Tryz.func20, Tryz.ntmps20
  go_wp2
  go_loopg [13] L.length (EqRel2 w L M)
  case atStart => exact ⟨0, rfl, 0, by omega, rfl, fun j hj => absurd hj (by omega)⟩
  case round =>
   obtain ⟨q, hw, k, hk, rfl, hpre⟩ := hrel
   subst hw
   have HK := zq hk
   have HP := zq hpre
   have hk1 : k ≤ L.length := by omega
   clear hk hpre
   by_cases hlt : k < L.length
   ·have hlt2 : k < M.length := by have := HL.out; omega
    obtain ⟨b, o, rfl, hb, hc⟩ := h.at_ (by omega)
    obtain ⟨b2, o2, rfl, hb2, hcm⟩ := h2.at_ (by omega)
    have hc0 := (hc k hlt).1
    have hd0 := (hcm k hlt2).1
    have hc1 := (hc k hlt).2
    have hd1 := (hcm k hlt2).2
    clear hc hcm
    by_cases he : L[k] = M[k]
    ·have HE := zq he
     rw [← he] at hd0 hd1
     clear he
     go_wp2
     go_quiet (fail)
     go_wp2
     go_roundg (gk - 1)
     case measure => have := HK.out; omega
     case rel =>
      refine ⟨_, rfl, k + 1, by have := HK.out; omega, by go_num, fun j hj => ?_⟩
      rcases Nat.lt_or_ge j k with h1 | h1
      ·exact HP.out j h1
      ·obtain rfl : j = k := by omega
       rw [List.getElem?_eq_getElem hlt, List.getElem?_eq_getElem (by have := HL.out; omega), HE.out]
    ·have HE : Hid (¬ L = M) := by
      show ¬ L = M
      intro e
      subst e
      exact he rfl
     by_cases h0 : (L[k]).nm = (M[k]).nm
     case neg =>
      have hb := beq_of_ne h0
      clear he h0
      go_wp2
      go_quiet (fail)
      go_wp2
      go_ret
      exact GivesEq.no HE.out ⟨_, World.drewN_drewN _ _ _⟩
     rw [← h0] at hd0
     have h1 : ¬ (L[k]).par = (M[k]).par := fun e => he (by
      cases hx : L[k]
      cases hy : M[k]
      simp_all)
     have hb := beq_of_ne h1
     clear he h0 h1
     go_wp2
     go_quiet (fail)
     go_wp2
     go_ret
     exact GivesEq.no HE.out ⟨_, World.drewN_drewN _ _ _⟩
   ·go_wp2
    go_ret
    exact GivesEq.yes (same_of HL.out (by omega) HP.out) ⟨_, rfl⟩
 ·have HE : Hid (¬ L = M) := by
   show ¬ L = M
   intro e
   subst e
   exact hl rfl
  have hlb : ((L.length : Int) != (M.length : Int)) = true := by simp; omega
  go_enter Tryz.func20, Tryz.ntmps20
  go_wp2
  go_ret
  exact GivesEq.no HE.out ⟨0, rfl⟩
theorem equalH_c (A A2 : Option Addr) (c c2 : Nat) (L M : List Sh) (w : World) (hn : L.length ≤ 140737488355328) (hn2 : M.length ≤ 140737488355328) (h : Shs w A L) (h2 : Shs w A2 M) :
  Calls Tryz.prog 54 #[.slice A L.length c, .slice A2 M.length c2] w (GivesEq (L = M) w) := by
 by_cases hl : L.length = M.length
 ·rw [← hl]
  have HL := zq hl
  clear hl
  go_enter Tryz.func54, Tryz.ntmps54
  go_wp2
  go_loopg [13] L.length (EqRel2 w L M)
  case atStart => exact ⟨0, rfl, 0, by omega, rfl, fun j hj => absurd hj (by omega)⟩
  case round =>
   obtain ⟨q, hw, k, hk, rfl, hpre⟩ := hrel
   subst hw
   have HK := zq hk
   have HP := zq hpre
   have hk1 : k ≤ L.length := by omega
   clear hk hpre
   by_cases hlt : k < L.length
   ·have hlt2 : k < M.length := by have := HL.out; omega
    obtain ⟨b, o, rfl, hb, hc⟩ := h.at_ (by omega)
    obtain ⟨b2, o2, rfl, hb2, hcm⟩ := h2.at_ (by omega)
    have hc0 := (hc k hlt).1
    have hd0 := (hcm k hlt2).1
    have hc1 := (hc k hlt).2.1
    have hd1 := (hcm k hlt2).2.1
    have hc2 := (hc k hlt).2.2
    have hd2 := (hcm k hlt2).2.2
    clear hc hcm
    by_cases he : L[k] = M[k]
    ·have HE := zq he
     rw [← he] at hd0 hd1 hd2
     clear he
     go_wp2
     go_quiet (fail)
     go_wp2
     go_roundg (gk - 1)
     case measure => have := HK.out; omega
     case rel =>
      refine ⟨_, rfl, k + 1, by have := HK.out; omega, by go_num, fun j hj => ?_⟩
      rcases Nat.lt_or_ge j k with h1 | h1
      ·exact HP.out j h1
      ·obtain rfl : j = k := by omega
       rw [List.getElem?_eq_getElem hlt, List.getElem?_eq_getElem (by have := HL.out; omega), HE.out]
    ·have HE : Hid (¬ L = M) := by
      show ¬ L = M
      intro e
      subst e
      exact he rfl
     by_cases h0 : (L[k]).pt = (M[k]).pt
     case neg =>
      have hb := beq_of_ne h0
      clear he h0
      go_wp2
      go_quiet (fail)
      go_wp2
      go_ret
      exact GivesEq.no HE.out ⟨_, World.drewN_drewN _ _ _⟩
     rw [← h0] at hd0
     by_cases h1 : (L[k]).nu = (M[k]).nu
     case neg =>
      have hb := beq_of_ne h1
      clear he h0 h1
      go_wp2
      go_quiet (fail)
      go_wp2
      go_ret
      exact GivesEq.no HE.out ⟨_, World.drewN_drewN _ _ _⟩
     rw [← h1] at hd1
     have h2 : ¬ (L[k]).de = (M[k]).de := fun e => he (by
      cases hx : L[k]
      cases hy : M[k]
      simp_all)
     have hb := beq_of_ne h2
     clear he h0 h1 h2
     go_wp2
     go_quiet (fail)
     go_wp2
     go_ret
     exact GivesEq.no HE.out ⟨_, World.drewN_drewN _ _ _⟩
   ·go_wp2
    go_ret
    exact GivesEq.yes (same_of HL.out (by omega) HP.out) ⟨_, rfl⟩
 ·have HE : Hid (¬ L = M) := by
   show ¬ L = M
   intro e
   subst e
   exact hl rfl
  have hlb : ((L.length : Int) != (M.length : Int)) = true := by simp; omega
  go_enter Tryz.func54, Tryz.ntmps54
  go_wp2
  go_ret
  exact GivesEq.no HE.out ⟨0, rfl⟩
def SameD (d e : De) : Prop := d.id = e.id ∧ d.day = e.day ∧ d.kd = e.kd ∧ d.th = e.th ∧ d.fr = e.fr ∧ d.to_ = e.to_ ∧ (d.nu = e.nu ∧ d.de = e.de) ∧ d.ex = e.ex ∧ d.sb = e.sb ∧ d.ar = e.ar ∧ d.us = e.us ∧ d.bg = e.bg ∧ d.en = e.en ∧ d.sh = e.sh ∧ d.ot = e.ot
theorem rat_eql (a b c d : ByteArray) (W : World) : (binOp .eql 50 (.agg #[.string a, .string b]) (.agg #[.string c, .string d])).run Tryz.prog W = .ok (.bool ((a.toList == c.toList) && (b.toList == d.toList))) W := by
 have h1 := Tryz.underlying50
 simp [go_sem, binOp, Op.equal, Op.maxDepth]
 by_cases h2 : a.toList = c.toList
 ·by_cases h3 : b.toList = d.toList
  ·simp [h2, h3]
  ·simp [h2, h3]
 ·simp [h2]
theorem rat_yes {a b c d : ByteArray} (h : a = c ∧ b = d) (W : World) : (binOp .eql 50 (.agg #[.string a, .string b]) (.agg #[.string c, .string d])).run Tryz.prog W = .ok (.bool true) W := by
 rw [rat_eql, beq_of_eq h.1, beq_of_eq h.2]; rfl
theorem rat_no {a b c d : ByteArray} (h : ¬ (a = c ∧ b = d)) (W : World) : (binOp .eql 50 (.agg #[.string a, .string b]) (.agg #[.string c, .string d])).run Tryz.prog W = .ok (.bool false) W := by
 rw [rat_eql]
 by_cases h1 : a = c
 ·rw [beq_of_ne (fun e => h ⟨h1, e⟩)]; simp
 ·rw [beq_of_ne h1]; rfl
def GivesQD (same : Prop) (w : World) (e : Ending) (w' : World) : Prop := ∃ r : Bool, e = .returned (.bool r) ∧ (r = true ↔ same) ∧ Below w.heap.size w w'
theorem GivesQD.no {same : Prop} {w w' : World} (h : ¬ same) (hw : Below w.heap.size w w') : GivesQD same w (.returned (.bool false)) w' := ⟨false, rfl, ⟨(fun e => by cases e), fun e => absurd e h⟩, hw⟩
theorem GivesQD.yes {same : Prop} {w w' : World} (h : same) (hw : Below w.heap.size w w') : GivesQD same w (.returned (.bool true)) w' := ⟨true, rfl, ⟨fun _ => h, fun _ => rfl⟩, hw⟩
theorem equal_c (d e : De) (w : World) (hd : DeOk w d) (he : DeOk w e) : Calls Tryz.prog 25 #[deV d, deV e] w (GivesQD (SameD d e) w) := by
 have HX : Hid (Bx ((w.alloc (.cells (deC d) 54)).alloc (.cells (deC e) 54)) w.heap.size (deC d) 54) := (Bx.new _ _ _).alloc _
 have HY : Hid (Bx ((w.alloc (.cells (deC d) 54)).alloc (.cells (deC e) 54)) (w.heap.size + 1) (deC e) 54) := Bx.new1 _ _ _ _
 have HB : Hid (Below w.heap.size w ((w.alloc (.cells (deC d) 54)).alloc (.cells (deC e) 54))) := ((Below.refl w.heap.size w).alloc (Nat.le_refl _) _).alloc (by simp) _
 obtain ⟨W, hW⟩ : ∃ W, W = (w.alloc (.cells (deC d) 54)).alloc (.cells (deC e) 54) := ⟨_, rfl⟩
 rw [← hW] at HX HY HB
 have HD := zq (hd.below HB.out)
 have HE := zq (he.below HB.out)
 clear hd he
 go_enter Tryz.func25, Tryz.ntmps25
 simp only [List.append]
 iterate 13 go_step
 rw [← hW]
 clear hW
 have hsx := HX.out.lt
 have hsy := HY.out.lt
 have x0 := HX.out.cell (i := 0) rfl
 have x1 := HX.out.cell (i := 1) rfl
 have x2 := HX.out.cell (i := 2) rfl
 have x3 := HX.out.cell (i := 3) rfl
 have x4 := HX.out.cell (i := 4) rfl
 have x5 := HX.out.cell (i := 5) rfl
 have x6 := HX.out.cell (i := 6) rfl
 have x7 := HX.out.cell (i := 7) rfl
 have x8 := HX.out.cell (i := 8) rfl
 have x9 := HX.out.cell (i := 9) rfl
 have x10 := HX.out.cell (i := 10) rfl
 have x11 := HX.out.cell (i := 11) rfl
 have x12 := HX.out.cell (i := 12) rfl
 have x13 := HX.out.cell (i := 13) rfl
 have x14 := HX.out.cell (i := 14) rfl
 have x15 := HX.out.cell (i := 15) rfl
 have y0 := HY.out.cell (i := 0) rfl
 have y1 := HY.out.cell (i := 1) rfl
 have y2 := HY.out.cell (i := 2) rfl
 have y3 := HY.out.cell (i := 3) rfl
 have y4 := HY.out.cell (i := 4) rfl
 have y5 := HY.out.cell (i := 5) rfl
 have y6 := HY.out.cell (i := 6) rfl
 have y7 := HY.out.cell (i := 7) rfl
 have y8 := HY.out.cell (i := 8) rfl
 have y9 := HY.out.cell (i := 9) rfl
 have y10 := HY.out.cell (i := 10) rfl
 have y11 := HY.out.cell (i := 11) rfl
 have y12 := HY.out.cell (i := 12) rfl
 have y13 := HY.out.cell (i := 13) rfl
 have y14 := HY.out.cell (i := 14) rfl
 have y15 := HY.out.cell (i := 15) rfl
 clear HX HY
 by_cases t0 : d.id = e.id
 case neg =>
  have q0 := beq_of_ne t0
  have HS : Hid (¬ SameD d e) := fun hs => by
   unfold SameD at hs
   exact t0 hs.1
  clear t0
  go_wp2
  go_ret
  exact GivesQD.no HS.out (by first | exact HB.out | exact below_drewN HB.out _ | exact below_drewN (below_drewN HB.out _) _ | exact below_drewN (below_drewN (below_drewN HB.out _) _) _)
 have q0 := beq_of_eq t0
 by_cases t1 : d.day = e.day
 case neg =>
  have q1 : (d.day == e.day) = false := by simpa using t1
  have HS : Hid (¬ SameD d e) := fun hs => by
   unfold SameD at hs
   exact t1 hs.2.1
  clear t0 t1
  go_wp2
  go_ret
  exact GivesQD.no HS.out (by first | exact HB.out | exact below_drewN HB.out _ | exact below_drewN (below_drewN HB.out _) _ | exact below_drewN (below_drewN (below_drewN HB.out _) _) _)
 have q1 : (d.day == e.day) = true := by simpa using t1
 by_cases t2 : d.kd = e.kd
 case neg =>
  have q2 : (d.kd == e.kd) = false := by simpa using t2
  have HS : Hid (¬ SameD d e) := fun hs => by
   unfold SameD at hs
   exact t2 hs.2.2.1
  clear t0 t1 t2
  go_wp2
  go_ret
  exact GivesQD.no HS.out (by first | exact HB.out | exact below_drewN HB.out _ | exact below_drewN (below_drewN HB.out _) _ | exact below_drewN (below_drewN (below_drewN HB.out _) _) _)
 have q2 : (d.kd == e.kd) = true := by simpa using t2
 by_cases t3 : d.th = e.th
 case neg =>
  have q3 := beq_of_ne t3
  have HS : Hid (¬ SameD d e) := fun hs => by
   unfold SameD at hs
   exact t3 hs.2.2.2.1
  clear t0 t1 t2 t3
  go_wp2
  go_ret
  exact GivesQD.no HS.out (by first | exact HB.out | exact below_drewN HB.out _ | exact below_drewN (below_drewN HB.out _) _ | exact below_drewN (below_drewN (below_drewN HB.out _) _) _)
 have q3 := beq_of_eq t3
 by_cases t4 : d.fr = e.fr
 case neg =>
  have q4 := beq_of_ne t4
  have HS : Hid (¬ SameD d e) := fun hs => by
   unfold SameD at hs
   exact t4 hs.2.2.2.2.1
  clear t0 t1 t2 t3 t4
  go_wp2
  go_ret
  exact GivesQD.no HS.out (by first | exact HB.out | exact below_drewN HB.out _ | exact below_drewN (below_drewN HB.out _) _ | exact below_drewN (below_drewN (below_drewN HB.out _) _) _)
 have q4 := beq_of_eq t4
 by_cases t5 : d.to_ = e.to_
 case neg =>
  have q5 := beq_of_ne t5
  have HS : Hid (¬ SameD d e) := fun hs => by
   unfold SameD at hs
   exact t5 hs.2.2.2.2.2.1
  clear t0 t1 t2 t3 t4 t5
  go_wp2
  go_ret
  exact GivesQD.no HS.out (by first | exact HB.out | exact below_drewN HB.out _ | exact below_drewN (below_drewN HB.out _) _ | exact below_drewN (below_drewN (below_drewN HB.out _) _) _)
 have q5 := beq_of_eq t5
 by_cases t6 : (d.nu = e.nu ∧ d.de = e.de)
 case neg =>
  have q6 := rat_no t6
  have HS : Hid (¬ SameD d e) := fun hs => by
   unfold SameD at hs
   exact t6 hs.2.2.2.2.2.2.1
  clear t0 t1 t2 t3 t4 t5 t6
  go_wp2
  go_ret
  exact GivesQD.no HS.out (by first | exact HB.out | exact below_drewN HB.out _ | exact below_drewN (below_drewN HB.out _) _ | exact below_drewN (below_drewN (below_drewN HB.out _) _) _)
 have q6 := rat_yes t6
 by_cases t7 : d.ex = e.ex
 case neg =>
  have q7 : (d.ex == e.ex) = false := by simpa using t7
  have HS : Hid (¬ SameD d e) := fun hs => by
   unfold SameD at hs
   exact t7 hs.2.2.2.2.2.2.2.1
  clear t0 t1 t2 t3 t4 t5 t6 t7
  go_wp2
  go_ret
  exact GivesQD.no HS.out (by first | exact HB.out | exact below_drewN HB.out _ | exact below_drewN (below_drewN HB.out _) _ | exact below_drewN (below_drewN (below_drewN HB.out _) _) _)
 have q7 : (d.ex == e.ex) = true := by simpa using t7
 by_cases t8 : d.sb = e.sb
 case neg =>
  have q8 : (d.sb == e.sb) = false := by simpa using t8
  have HS : Hid (¬ SameD d e) := fun hs => by
   unfold SameD at hs
   exact t8 hs.2.2.2.2.2.2.2.2.1
  clear t0 t1 t2 t3 t4 t5 t6 t7 t8
  go_wp2
  go_ret
  exact GivesQD.no HS.out (by first | exact HB.out | exact below_drewN HB.out _ | exact below_drewN (below_drewN HB.out _) _ | exact below_drewN (below_drewN (below_drewN HB.out _) _) _)
 have q8 : (d.sb == e.sb) = true := by simpa using t8
 go_wp2_with fail
 with_reducible refine (equalA_c d.arA e.arA d.arc e.arc d.ar e.ar _ HD.out.lens.1 HE.out.lens.1 HD.out.ars HE.out.ars).mono ?_
 rintro x wx9 ⟨r9, rfl, hr9, n9, rfl⟩
 by_cases t9 : d.ar = e.ar
 case neg =>
  have hrf : r9 = false := by
   cases hh : r9 with
   | false => rfl
   | true => exact absurd (hr9.1 hh) t9
  subst hrf
  clear hr9
  have HS : Hid (¬ SameD d e) := fun hs => by
   unfold SameD at hs
   exact t9 hs.2.2.2.2.2.2.2.2.2.1
  clear t0 t1 t2 t3 t4 t5 t6 t7 t8 t9
  go_wp2
  go_ret
  exact GivesQD.no HS.out (by first | exact HB.out | exact below_drewN HB.out _ | exact below_drewN (below_drewN HB.out _) _ | exact below_drewN (below_drewN (below_drewN HB.out _) _) _)
 have hrt : r9 = true := hr9.2 t9
 subst hrt
 clear hr9
 go_wp2_with fail
 with_reducible refine (equalS_c d.usA e.usA d.usc e.usc d.us e.us _ HD.out.lens.2.1 HE.out.lens.2.1 (Rd1.drewN HD.out.uses _) (Rd1.drewN HE.out.uses _)).mono ?_
 rintro x wx10 ⟨r10, rfl, hr10, n10, rfl⟩
 by_cases t10 : d.us = e.us
 case neg =>
  have hrf : r10 = false := by
   cases hh : r10 with
   | false => rfl
   | true => exact absurd (hr10.1 hh) t10
  subst hrf
  clear hr10
  have HS : Hid (¬ SameD d e) := fun hs => by
   unfold SameD at hs
   exact t10 hs.2.2.2.2.2.2.2.2.2.2.1
  clear t0 t1 t2 t3 t4 t5 t6 t7 t8 t9 t10
  go_wp2
  go_ret
  exact GivesQD.no HS.out (by first | exact HB.out | exact below_drewN HB.out _ | exact below_drewN (below_drewN HB.out _) _ | exact below_drewN (below_drewN (below_drewN HB.out _) _) _)
 have hrt : r10 = true := hr10.2 t10
 subst hrt
 clear hr10
 by_cases t11 : d.bg = e.bg
 case neg =>
  have q11 : (d.bg == e.bg) = false := by simpa using t11
  have HS : Hid (¬ SameD d e) := fun hs => by
   unfold SameD at hs
   exact t11 hs.2.2.2.2.2.2.2.2.2.2.2.1
  clear t0 t1 t2 t3 t4 t5 t6 t7 t8 t9 t10 t11
  go_wp2
  go_ret
  exact GivesQD.no HS.out (by first | exact HB.out | exact below_drewN HB.out _ | exact below_drewN (below_drewN HB.out _) _ | exact below_drewN (below_drewN (below_drewN HB.out _) _) _)
 have q11 : (d.bg == e.bg) = true := by simpa using t11
 by_cases t12 : d.en = e.en
 case neg =>
  have q12 : (d.en == e.en) = false := by simpa using t12
  have HS : Hid (¬ SameD d e) := fun hs => by
   unfold SameD at hs
   exact t12 hs.2.2.2.2.2.2.2.2.2.2.2.2.1
  clear t0 t1 t2 t3 t4 t5 t6 t7 t8 t9 t10 t11 t12
  go_wp2
  go_ret
  exact GivesQD.no HS.out (by first | exact HB.out | exact below_drewN HB.out _ | exact below_drewN (below_drewN HB.out _) _ | exact below_drewN (below_drewN (below_drewN HB.out _) _) _)
 have q12 : (d.en == e.en) = true := by simpa using t12
 go_wp2_with fail
 with_reducible refine (equalH_c d.shA e.shA d.shc e.shc d.sh e.sh _ HD.out.lens.2.2 HE.out.lens.2.2 (Shs.drewN HD.out.shs _) (Shs.drewN HE.out.shs _)).mono ?_
 rintro x wx13 ⟨r13, rfl, hr13, n13, rfl⟩
 by_cases t13 : d.sh = e.sh
 case neg =>
  have hrf : r13 = false := by
   cases hh : r13 with
   | false => rfl
   | true => exact absurd (hr13.1 hh) t13
  subst hrf
  clear hr13
  have HS : Hid (¬ SameD d e) := fun hs => by
   unfold SameD at hs
   exact t13 hs.2.2.2.2.2.2.2.2.2.2.2.2.2.1
  clear t0 t1 t2 t3 t4 t5 t6 t7 t8 t9 t10 t11 t12 t13
  go_wp2
  go_ret
  exact GivesQD.no HS.out (by first | exact HB.out | exact below_drewN HB.out _ | exact below_drewN (below_drewN HB.out _) _ | exact below_drewN (below_drewN (below_drewN HB.out _) _) _)
 have hrt : r13 = true := hr13.2 t13
 subst hrt
 clear hr13
 by_cases t14 : d.ot = e.ot
 case neg =>
  have q14 := beq_of_ne t14
  have HS : Hid (¬ SameD d e) := fun hs => by
   unfold SameD at hs
   exact t14 hs.2.2.2.2.2.2.2.2.2.2.2.2.2.2
  clear t0 t1 t2 t3 t4 t5 t6 t7 t8 t9 t10 t11 t12 t13 t14
  go_wp2
  go_ret
  exact GivesQD.no HS.out (by first | exact HB.out | exact below_drewN HB.out _ | exact below_drewN (below_drewN HB.out _) _ | exact below_drewN (below_drewN (below_drewN HB.out _) _) _)
 have q14 := beq_of_eq t14
 have HS : Hid (SameD d e) := ⟨t0, t1, t2, t3, t4, t5, t6, t7, t8, t9, t10, t11, t12, t13, t14⟩
 clear t0 t1 t2 t3 t4 t5 t6 t7 t8 t9 t10 t11 t12 t13 t14
 go_wp2
 go_ret
 exact GivesQD.yes HS.out (by first | exact HB.out | exact below_drewN HB.out _ | exact below_drewN (below_drewN HB.out _) _ | exact below_drewN (below_drewN (below_drewN HB.out _) _) _)
end Go.Proofs.YtlcfgejaeecclaaGreatDoor
