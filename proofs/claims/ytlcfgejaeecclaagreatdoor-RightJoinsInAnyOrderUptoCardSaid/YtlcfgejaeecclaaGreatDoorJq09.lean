/- Package right (places): checkArea and in of a world. Plain words for the program's sets of leaves: rows of bools, and the map from regions to what an area says of them. Package right (places): in of a world. Package right (places): slices.ContainsFunc at plain's literal. Package right (places): plain of a world. -/
import Derived.Test.YtlcfgejaeecclaaGreatDoorJq08
import Derived.Test.YtlcfgejaeecclaaGreatDoorJq01
namespace Go.Proofs.YtlcfgejaeecclaaGreatDoor
open Go.RowKit Dw

def CkRel (W : World) (l : List Rg) (a : List Ar) (m : Nat) (i : Value) (wr : World) : Prop :=
  ∃ k : Nat, k + m = a.length ∧ i = .int .i64 k ∧ (∀ j, j < k → arFault l a j = none) ∧ Below W.heap.size W wr

set_option maxHeartbeats 1000000 in
theorem checkArea_c (A A2 : Option Addr) (c r1 r2 g1 g2 : Nat) (AL : Option Addr) (cL c2 : Nat) (l : List Rg) (a : List Ar) (w : World) (g : GoodR l) (h : WR w A r1 r2 g1 g2 AL l) (h2 : Ars w A2 a) :
    Calls Tryz.prog 99 #[wv A c r1 r2 g1 g2 AL cL l, .slice A2 a.length c2] w (GivesB (.int .i64 (chkA l a)) w) := by
  generalize hres : chkA l a = res
  have HR := Lib.hid hres
  clear hres
  unfold wv
  by_cases hlen : 100 < a.length
  · go_enter Tryz.func99, Tryz.ntmps99
    go_wp2
    go_ret
    refine GivesB.mk (vint ?_) ((Below.refl _ _).alloc (Nat.le_refl _) _)
    rw [← HR.out]; unfold chkA; rw [if_pos hlen]
  · have hn2 : a.length ≤ 100 := by omega
    go_enter Tryz.func99, Tryz.ntmps99
    go_wp2
    generalize hW : w.alloc (.cells #[.slice A l.length c, .map (some r1), .slice AL (gath l (fun i => !isPar l i) l.length).length cL, .map (some r2), .slice (some ⟨g1, 0, none⟩) l.length l.length, .slice (some ⟨g2, 0, none⟩) l.length l.length] 76) = W
    have hWs : W.heap.size = w.heap.size + 1 := by rw [← hW]; simp
    have hWb : Below w.heap.size w W := by rw [← hW]; exact (Below.refl _ _).alloc (Nat.le_refl _) _
    have hW1 : W.cell? ⟨w.heap.size, 1, none⟩ = some (.map (some r1)) := by rw [← hW, cell_of_row _ w.heap.size 1 _ _ _ (heap_alloc_new _ _)]; rfl
    have hm : MapIs Value.string W r1 (mp l l.length) := h.m1.keep (hWb.block _ h.m1.lt)
    have hr1 : r1 < W.heap.size := hm.lt
    have h2' := h2.below hWb
    have HM := Lib.hid hm
    have HWb := Lib.hid hWb
    clear hW hWb hm h h2
    go_loopg [14] a.length (CkRel W l a)
    case atStart => exact ⟨0, by omega, rfl, fun j hj => absurd hj (by omega), Below.refl _ _⟩
    case round =>
      obtain ⟨k, hk, rfl, hpre, hbel⟩ := hrel
      have HK := Lib.hid hk
      have HP := Lib.hid hpre
      have HB := Lib.hid hbel
      have hk1 : k ≤ a.length := by omega
      have hws : w.heap.size < wr.heap.size := by have := hbel.size; omega
      have hs1 : wr.cell? ⟨w.heap.size, 1, none⟩ = some (.map (some r1)) := (hbel.cell (by show w.heap.size < W.heap.size; omega)).trans hW1
      clear hk hpre hbel
      by_cases hlt : k < a.length
      · obtain ⟨b, o, rfl, hb, hc⟩ := h2'.at_ (by omega)
        have hbr : b < wr.heap.size := Nat.lt_of_lt_of_le hb HB.out.size
        have hc0 : wr.cell? ⟨b, o + k * 2, none⟩ = some (.string (a[k]).rg) := (HB.out.cell hb).trans (hc k hlt).1
        have hc1 : wr.cell? ⟨b, o + k * 2 + 1, none⟩ = some (.bool (a[k]).out) := (HB.out.cell hb).trans (hc k hlt).2
        have hr0 := rgAt_of hlt
        have hlk := run_lookup_map tMap kStr zInt ((HM.out.keep (HB.out.block _ hr1)).alloc (.cells #[.string (a[k]).rg, .bool (a[k]).out] 63)) (a[k]).rg true
        rw [mp_idx g.inc] at hlk
        have HB2 := Lib.hid (HB.out.alloc HB.out.size (.cells #[.string (a[k]).rg, .bool (a[k]).out] 63))
        cases hq : idx l (a[k]).rg with
        | none =>
          rw [hq] at hlk
          simp only [if_true, Option.map_none, Option.getD_none, Option.isSome_none] at hlk
          have hres : res = 5 := by
            rw [← HR.out]; unfold chkA
            rw [if_neg hlen, findSome_first hlt HP.out (x := 5) (by unfold arFault; rw [hr0, if_pos hq])]
          have HS := Lib.hid hres
          clear hc hr0 hq hres HB
          go_wp2
          go_ret
          exact GivesB.mk (vint HS.out.symm) (below_trans HWb.out HB2.out)
        | some x =>
          rw [hq] at hlk
          simp only [if_true, Option.map_some, Option.getD_some, Option.isSome_some] at hlk
          have HQ : Hid (¬ idx l (a[k]).rg = none) := by show ¬ _; rw [hq]; simp
          clear hq
          by_cases hk0 : 0 < k
          · have hd : decide ((0 : Int) < (k : Int)) = true := by simp; omega
            have hcp : wr.cell? ⟨b, o + (k - 1) * 2, none⟩ = some (.string (a[k - 1]).rg) := (HB.out.cell hb).trans (hc (k - 1) (by omega)).1
            have hr1' := rgAt_of (a := a) (i := k - 1) (by omega)
            by_cases hle : sle (a[k]).rg (a[k - 1]).rg = true
            · have hleb := hle
              unfold sle at hleb
              have hres : res = 8 := by
                rw [← HR.out]; unfold chkA
                rw [if_neg hlen, findSome_first hlt HP.out (x := 8) (by unfold arFault; rw [hr0, hr1', if_neg HQ.out, if_pos ⟨hk0, hle⟩])]
              have HS := Lib.hid hres
              clear hc hr0 hr1' hres hle HB
              go_wp2
              go_quiet (fail)
              go_wp2
              go_ret
              exact GivesB.mk (vint HS.out.symm) (below_drewN (below_trans HWb.out HB2.out) _)
            · have hle' : sle (a[k]).rg (a[k - 1]).rg = false := by simpa using hle
              have hleb := hle'
              unfold sle at hleb
              have HF : Hid (arFault l a k = none) := by
                show arFault l a k = none
                unfold arFault; rw [hr0, hr1', if_neg HQ.out, if_neg (fun hh => hle hh.2)]
              clear hc hr0 hr1' hle hle' HB
              go_wp2
              go_quiet (fail)
              go_wp2
              go_roundg (gk - 1)
              case measure => have := HK.out; omega
              case rel =>
                refine ⟨k + 1, by have := HK.out; omega, by go_num, fun j hj => ?_, below_drewN HB2.out _⟩
                rcases Nat.lt_or_ge j k with h1 | h1
                · exact HP.out j h1
                · obtain rfl : j = k := by omega
                  exact HF.out
          · have hd : decide ((0 : Int) < (k : Int)) = false := by simp; omega
            have HF : Hid (arFault l a k = none) := by
              show arFault l a k = none
              unfold arFault; rw [hr0, if_neg HQ.out, if_neg (by omega)]
            clear hc hr0 HB
            go_wp2
            go_quiet (fail)
            go_wp2
            go_roundg (gk - 1)
            case measure => have := HK.out; omega
            case rel =>
              refine ⟨k + 1, by have := HK.out; omega, by go_num, fun j hj => ?_, below_drewN HB2.out _⟩
              rcases Nat.lt_or_ge j k with h1 | h1
              · exact HP.out j h1
              · obtain rfl : j = k := by omega
                exact HF.out
      · have hres : res = 0 := by
          rw [← HR.out]; unfold chkA; rw [if_neg hlen, findSome_none (fun j hj => HP.out j (by omega))]
        have HS := Lib.hid hres
        clear hres
        go_wp2
        go_ret
        exact GivesB.mk (vint HS.out.symm) (below_trans HWb.out HB.out)
end Go.Proofs.YtlcfgejaeecclaaGreatDoor

namespace Dw
open Go Go.RowKit

/-- A row of bools of which the first k are filled. -/
def bArr (M : List Bool) (k : Nat) : Array Value := ((List.range M.length).map fun i => Value.bool (decide (i < k) && M.getD i false)).toArray
theorem bArr_size (M : List Bool) (k : Nat) : (bArr M k).size = M.length := by simp [bArr]
theorem bArr_get (M : List Bool) (k : Nat) {i : Nat} (hi : i < M.length) : (bArr M k)[i]? = some (.bool (decide (i < k) && M[i])) := by simp [bArr, hi]
theorem bArr_0 (M : List Bool) : Array.replicate M.length (Value.bool false) = bArr M 0 := by
  apply Array.toList_inj.1
  rw [Array.toList_replicate]
  apply List.ext_getElem <;> simp [bArr]
theorem bArr_set (M : List Bool) {k : Nat} (hk : k < M.length) : (bArr M k).setIfInBounds k (.bool M[k]) = bArr M (k + 1) := by
  apply Array.ext_getElem?
  intro i
  rw [Array.getElem?_setIfInBounds]
  by_cases h : k = i
  · subst h
    rw [if_pos rfl, if_pos (by rw [bArr_size]; exact hk), bArr_get _ _ hk]
    simp
  · rw [if_neg h]
    by_cases hi : i < M.length
    · rw [bArr_get _ _ hi, bArr_get _ _ hi]
      have : decide (i < k) = decide (i < k + 1) := by
        by_cases h2 : i < k
        · rw [decide_eq_true h2, decide_eq_true (by omega)]
        · rw [decide_eq_false h2, decide_eq_false (by omega)]
      rw [this]
    · rw [Array.getElem?_eq_none (by rw [bArr_size]; omega), Array.getElem?_eq_none (by rw [bArr_size]; omega)]
theorem bArr_skip (M : List Bool) {k : Nat} (hk : k < M.length) (hf : M[k] = false) : bArr M (k + 1) = bArr M k := by
  rw [← bArr_set M hk, hf]
  apply Array.ext_getElem?
  intro i
  rw [Array.getElem?_setIfInBounds]
  by_cases h : k = i
  · subst h
    rw [if_pos rfl, if_pos (by rw [bArr_size]; exact hk), bArr_get _ _ hk]
    simp
  · rw [if_neg h]
theorem bArr_rd {w : World} {g : Nat} {M : List Bool} {T : TypeId} (h : w.heap[g]? = some (.cells (bArr M M.length) T (0, 0))) : Rd1 Value.bool w (some ⟨g, 0, none⟩) M := fun _ =>
  ⟨g, 0, rfl, fun i hi => by
    rw [Nat.zero_add, cell_of_row w g i _ _ _ h, bArr_get _ _ hi]
    simp [hi]⟩

/-- What the map of an area's regions holds after k of them. -/
def nmK (l : List Rg) (a : List Ar) : Nat → Int → Option Value
  | 0, _ => none
  | k + 1, i => if i = (match idx l (rgAt a k) with | some x => (x : Int) | none => 0) then some (.bool (!(a.getD k default).out)) else nmK l a k i
structure GoodA (l : List Rg) (a : List Ar) : Prop where
  len : a.length ≤ 100
  at_ : ∀ k (h : k < a.length), ∃ x, idx l (a[k]).rg = some x
  inj : ∀ i j (hi : i < a.length) (hj : j < a.length), (a[i]).rg = (a[j]).rg → i = j
theorem goodA_of {l : List Rg} {a : List Ar} (h : chkA l a = 0) : GoodA l a := by
  unfold chkA at h
  by_cases hl : 100 < a.length
  · rw [if_pos hl] at h; exact absurd h (by decide)
  · rw [if_neg hl] at h
    have hf : ∀ j, j < a.length → arFault l a j = none := by
      cases hs : (List.range a.length).findSome? (arFault l a) with
      | none => exact fun j hj => List.findSome?_eq_none_iff.1 hs j (List.mem_range.2 hj)
      | some f =>
        rw [hs] at h
        obtain ⟨j, _, hj⟩ := List.exists_of_findSome?_eq_some hs
        have h : f = 0 := h
        subst h
        unfold arFault at hj
        split at hj
        · injection hj with hj; exact absurd hj (by decide)
        · split at hj
          · injection hj with hj; exact absurd hj (by decide)
          · cases hj
    refine ⟨by omega, fun k hk => ?_, ?_⟩
    · have := hf k hk
      unfold arFault at this
      rw [rgAt_of hk] at this
      cases hx : idx l (a[k]).rg with
      | none => rw [if_pos hx] at this; cases this
      | some x => exact ⟨x, rfl⟩
    · have hinc : Inc (a.map fun x => (⟨x.rg, emp⟩ : Rg)) := by
        intro i hi
        rw [List.length_map] at hi
        rw [List.getElem_map, List.getElem_map]
        have := hf (i + 1) hi
        unfold arFault at this
        rw [rgAt_of hi, show i + 1 - 1 = i from rfl, rgAt_of (by omega)] at this
        refine slt_of_not_sle ?_
        cases hb : sle (a[i + 1]).rg (a[i]).rg with
        | false => rfl
        | true =>
          split at this
          · cases this
          · rw [if_pos ⟨by omega, hb⟩] at this; cases this
      intro i j hi hj e
      exact hinc.inj (by simpa using hi) (by simpa using hj) (by simpa using e)
theorem nmK_find {l : List Rg} {a : List Ar} (g : GoodR l) (ga : GoodA l a) {j : Nat} (hj : j < l.length) : nmK l a a.length (j : Int) = (findA a (nmAt l j)).map fun x => .bool (!x.out) := by
  have key : ∀ k, k ≤ a.length → nmK l a k (j : Int) = (findA (a.take k) (nmAt l j)).map fun x => .bool (!x.out) := by
    intro k
    induction k with
    | zero => intro _; simp [nmK, findA]
    | succ k ih =>
      intro hk
      have hk' : k < a.length := by omega
      obtain ⟨x, hx⟩ := ga.at_ k hk'
      obtain ⟨hxl, hxn⟩ := idx_some hx
      rw [nmK, ih (by omega), rgAt_of hk', hx]
      unfold findA
      rw [List.take_succ_eq_append_getElem hk', List.find?_append]
      by_cases e : (j : Int) = (x : Int)
      · have e' : j = x := by omega
        subst e'
        rw [if_pos rfl]
        have hno : (a.take k).find? (fun y => decide (y.rg = nmAt l j)) = none := by
          rw [List.find?_eq_none]
          intro y hy
          obtain ⟨t, ht, rfl⟩ := List.getElem_of_mem hy
          have ht' : t < k := by
            have := ht
            rw [List.length_take] at this
            omega
          rw [List.getElem_take]
          have hne : (a[t]).rg ≠ nmAt l j := fun e2 => by
            have := ga.inj t k (by omega) hk' (by rw [e2, nmAt_of hj, hxn])
            omega
          simpa using hne
        rw [hno]
        have : decide ((a[k]).rg = nmAt l j) = true := by rw [nmAt_of hj, hxn]; simp
        simp [this, List.getD, hk']
      · rw [if_neg e]
        have : decide ((a[k]).rg = nmAt l j) = false := by
          rw [nmAt_of hj]
          refine decide_eq_false fun e2 => e ?_
          have : x = j := g.nm_inj hxl hj (by rw [← hxn] at e2; exact e2)
          omega
        simp [this]
  have := key a.length (Nat.le_refl _)
  rwa [List.take_length] at this

/-- Which leaves lie in an area, leaf by leaf. -/
def inL (l : List Rg) (a : List Ar) : List Bool := (leafIdx l).map (lies l a)
end Dw

namespace Go.Proofs.YtlcfgejaeecclaaGreatDoor
open Go.RowKit Dw

abbrev mkI : Int → Value := fun n => Value.int .i64 n
theorem kInt : KeyT Tryz.prog 3 mkI := keyT_int Tryz.underlying3
theorem tMapB : Tryz.prog.underlying 194 = some (.map 3 4) := Tryz.underlying194
theorem zBool (w : World) : (zeroValue 4).run Tryz.prog w = .ok (.bool false) w := by kernel_rfl

def InRel1 (W : World) (l : List Rg) (a : List Ar) (m : Nat) (i : Value) (wr : World) : Prop :=
  ∃ k : Nat, k + m = a.length ∧ i = .int .i64 k ∧ MapIs mkI wr W.heap.size (nmK l a k) ∧ Below W.heap.size W wr
def InRel2 (W : World) (l : List Rg) (a : List Ar) (go : Nat) (m : Nat) (i : Value) (wr : World) : Prop :=
  ∃ k : Nat, k + m = (inL l a).length ∧ i = .int .i64 k ∧ MapIs mkI wr W.heap.size (nmK l a a.length) ∧ wr.heap[go]? = some (.cells (bArr (inL l a) k) 4 (0, 0)) ∧ Below W.heap.size W wr
def InRel3 (w5 : World) (l : List Rg) (a : List Ar) (res : Bool) (m : Nat) (kk : Value) (wr : World) : Prop :=
  wr = w5 ∧ ((∃ y, y < l.length ∧ kk = .int .i64 (y : Int) ∧ upN l m y = none ∧ liesF l a m y = res) ∨ (kk = .int .i64 (-1) ∧ res = false))

/-- A call that answers a row of bools. -/
def GivesL (M : List Bool) (w : World) (e : Ending) (w' : World) : Prop :=
  ∃ go c, e = .returned (.slice (some ⟨go, 0, none⟩) M.length c) ∧ w'.heap[go]? = some (.cells (bArr M M.length) 4 (0, 0)) ∧ Below w.heap.size w w'

theorem gath_get (l : List Rg) {n : Nat} (hn : n < (gath l (fun i => !isPar l i) l.length).length) (hm : n < (leafIdx l).length) : (gath l (fun i => !isPar l i) l.length)[n] = nmAt l (leafIdx l)[n] := by
  have e : gath l (fun i => !isPar l i) l.length = (leafIdx l).map (nmAt l) := rfl
  simp only [e, List.getElem_map]
theorem gath_len (l : List Rg) (a : List Ar) : (gath l (fun i => !isPar l i) l.length).length = (inL l a).length := by
  have e : gath l (fun i => !isPar l i) l.length = (leafIdx l).map (nmAt l) := rfl
  rw [e, inL, List.length_map, List.length_map]
theorem map_ne_cells' {κ : Type} [DecidableEq κ] {mk : κ → Value} {w : World} {r g : Nat} {f : κ → Option Value} {c : Array Value} {t : TypeId} {fr : Nat × Nat} (hm : MapIs mk w r f) (hg : w.heap[g]? = some (.cells c t fr)) : g ≠ r := fun e => by
  obtain ⟨es, clk, L, hr, _⟩ := hm
  rw [← e, hg] at hr; cases hr

set_option maxHeartbeats 1000000 in
theorem in_c (A A2 : Option Addr) (c r1 r2 g1 g2 : Nat) (AL : Option Addr) (cL c2 : Nat) (l : List Rg) (a : List Ar) (w : World) (g : GoodR l) (ga : GoodA l a) (h : WR w A r1 r2 g1 g2 AL l) (h2 : Ars w A2 a) :
    Calls Tryz.prog 100 #[wv A c r1 r2 g1 g2 AL cL l, .slice A2 a.length c2] w (GivesL (inL l a) w) := by
  unfold wv
  have hn2 := ga.len
  have hn := g.len
  have hmm := @run_makeMap Tryz.prog
  go_enter Tryz.func100, Tryz.ntmps100
  go_wp2
  clear hmm
  generalize hW : w.alloc (.cells #[.slice A l.length c, .map (some r1), .slice AL (gath l (fun i => !isPar l i) l.length).length cL, .map (some r2), .slice (some ⟨g1, 0, none⟩) l.length l.length, .slice (some ⟨g2, 0, none⟩) l.length l.length] 76) = W
  have hWs : W.heap.size = w.heap.size + 1 := by rw [← hW]; simp
  have hWb : Below w.heap.size w W := by rw [← hW]; exact (Below.refl _ _).alloc (Nat.le_refl _) _
  have hWr := heap_alloc_new w (.cells #[.slice A l.length c, .map (some r1), .slice AL (gath l (fun i => !isPar l i) l.length).length cL, .map (some r2), .slice (some ⟨g1, 0, none⟩) l.length l.length, .slice (some ⟨g2, 0, none⟩) l.length l.length] 76)
  rw [hW] at hWr
  have hW1 : W.cell? ⟨w.heap.size, 1, none⟩ = some (.map (some r1)) := by rw [cell_of_row _ w.heap.size 1 _ _ _ hWr]; rfl
  have hW2 : W.cell? ⟨w.heap.size, 2, none⟩ = some (.slice AL (gath l (fun i => !isPar l i) l.length).length cL) := by rw [cell_of_row _ w.heap.size 2 _ _ _ hWr]; rfl
  have hW4 : W.cell? ⟨w.heap.size, 4, none⟩ = some (.slice (some ⟨g1, 0, none⟩) l.length l.length) := by rw [cell_of_row _ w.heap.size 4 _ _ _ hWr]; rfl
  have hwr := h.below hWb
  have hr1 : r1 < W.heap.size := hwr.m1.lt
  have h2' := h2.below hWb
  have HWR := Lib.hid hwr
  have HWb := Lib.hid hWb
  have hwW : w.heap.size < W.heap.size := by omega
  have hg1W := hwr.h1
  clear hW hWb hWr hwr h h2
  rw [← hWs]
  clear hWs
  go_loopg [17] a.length (InRel1 W l a)
  case atStart => exact ⟨0, by omega, rfl, MapIs.new _ _, (Below.refl _ _).alloc (Nat.le_refl _) _⟩
  case round =>
    obtain ⟨k, hk, rfl, hmap, hbel⟩ := hrel
    have HK := Lib.hid hk
    have HM := Lib.hid hmap
    have HB := Lib.hid hbel
    have hk1 : k ≤ a.length := by omega
    have hws : w.heap.size < wr.heap.size := Nat.lt_of_lt_of_le hwW hbel.size
    have hs1 : wr.cell? ⟨w.heap.size, 1, none⟩ = some (.map (some r1)) := (hbel.cell hwW).trans hW1
    have hs2 := (hbel.cell hwW).trans hW2
    have hs4 := (hbel.cell hwW).trans hW4
    clear hk hmap hbel
    by_cases hlt : k < a.length
    · obtain ⟨b, o, rfl, hb, hc⟩ := h2'.at_ (by omega)
      have hbr : b < wr.heap.size := Nat.lt_of_lt_of_le hb HB.out.size
      have hc0 : wr.cell? ⟨b, o + k * 2, none⟩ = some (.string (a[k]).rg) := (HB.out.cell hb).trans (hc k hlt).1
      have hc1 : wr.cell? ⟨b, o + k * 2 + 1, none⟩ = some (.bool (a[k]).out) := (HB.out.cell hb).trans (hc k hlt).2
      have hlk := run_lookup_map tMap kStr zInt ((HWR.out.m1.keep (HB.out.block _ hr1)).alloc (.cells #[.string (a[k]).rg, .bool (a[k]).out] 63)) (a[k]).rg false
      obtain ⟨x, hx⟩ := ga.at_ k hlt
      rw [mp_idx g.inc, hx] at hlk
      simp only [Bool.false_eq_true, if_false, Option.map_some, Option.getD_some] at hlk
      obtain ⟨w3, hrun, hm3, hg3, hs3⟩ := run_update_map tMapB kInt (HM.out.alloc (.cells #[.string (a[k]).rg, .bool (a[k]).out] 63)) (x : Int) (.bool (!(a[k]).out))
      have HM3 := Lib.hid hm3
      have HB3 := Lib.hid (below_map (HB.out.alloc HB.out.size (.cells #[.string (a[k]).rg, .bool (a[k]).out] 63)) hg3 (Nat.le_refl _) (by have := HB.out.size; simp; omega))
      have HX := Lib.hid hx
      clear hc hm3 hg3 hs3 hx HM HB
      go_wp2
      go_roundg (gk - 1)
      case measure => have := HK.out; omega
      case rel =>
        refine ⟨k + 1, by have := HK.out; omega, by go_num, ?_, HB3.out⟩
        have e : nmK l a (k + 1) = fun k' => if k' = (x : Int) then some (.bool (!(a[k]).out)) else nmK l a k k' := by
          funext i
          rw [nmK, rgAt_of hlt, HX.out]
          simp [List.getD, hlt]
        rw [e]
        exact HM3.out
    · obtain rfl : k = a.length := by omega
      clear HK hk1 hlt hs1 hs4
      have hgl := gath_len l a
      have hil : (inL l a).length ≤ 200 := by
        have := leafTo_le l l.length
        unfold inL
        rw [List.length_map]
        exact Nat.le_trans this hn
      rw [hgl] at hs2
      have HGL := Lib.hid hgl
      clear hgl
      have hmk := run_make_n _ _ elSet (inL l a).length (by omega) (by omega) rfl
      go_wp2
      clear hmk
      have hp0 : (wr.alloc (.cells (Array.replicate (inL l a).length (.bool false)) 4)).heap[wr.heap.size]? = some (.cells (bArr (inL l a) 0) 4 (0, 0)) := by
        rw [← bArr_0]; exact heap_alloc_new _ _
      have HP0 := Lib.hid hp0
      have HM2 := Lib.hid (HM.out.alloc (.cells (Array.replicate (inL l a).length (.bool false)) 4))
      have HB2 := Lib.hid (HB.out.alloc HB.out.size (.cells (Array.replicate (inL l a).length (.bool false)) 4))
      have hgo : W.heap.size ≤ wr.heap.size := HB.out.size
      clear HM HB hp0 hws
      generalize hw2 : wr.alloc (.cells (Array.replicate (inL l a).length (.bool false)) 4) = w2 at HM2 HP0 HB2
      obtain ⟨go, hgoe⟩ : ∃ go, go = wr.heap.size := ⟨_, rfl⟩
      rw [← hgoe] at HP0 hgo ⊢
      clear hw2 hgoe hs2
      go_loopg [38] (inL l a).length (InRel2 W l a go)
      case atStart => exact ⟨0, by omega, rfl, HM2.out, HP0.out, HB2.out⟩
      clear HM2 HP0 HB2
      case round =>
        obtain ⟨n, hk, rfl, hmap, hrow, hbel⟩ := hrel
        have HK := Lib.hid hk
        have HM := Lib.hid hmap
        have HP := Lib.hid hrow
        have HB := Lib.hid hbel
        have hk1 : n ≤ (inL l a).length := by omega
        have hws : w.heap.size < wr.heap.size := Nat.lt_of_lt_of_le hwW hbel.size
        have hgol : go < wr.heap.size := lt_of_heap hrow
        have hs1 : wr.cell? ⟨w.heap.size, 1, none⟩ = some (.map (some r1)) := (hbel.cell hwW).trans hW1
        have hs4 := (hbel.cell hwW).trans hW4
        obtain ⟨gk1, hgk1⟩ : ∃ gk1, gk1 = gk := ⟨_, rfl⟩
        subst hgk1
        obtain ⟨w5, hw5⟩ : ∃ w5 : World, w5 = wr := ⟨_, rfl⟩
        subst hw5
        clear hk hmap hrow hbel
        by_cases hlt : n < (inL l a).length
        · have hltL : n < (leafIdx l).length := by simpa [inL] using hlt
          have hltG : n < (gath l (fun i => !isPar l i) l.length).length := by rw [HGL.out]; exact hlt
          have hyl := leafIdx_lt hltL
          have hrl := HWR.out.lv
          obtain ⟨b, o, rfl, hb, hc⟩ := hrl.at_ (by omega)
          have hbr : b < w5.heap.size := Nat.lt_of_lt_of_le hb HB.out.size
          have hc0 : w5.cell? ⟨b, o + n, none⟩ = some (.string (l[(leafIdx l)[n]]).nm) := by
            rw [HB.out.cell hb, hc n hltG, gath_get l hltG hltL, nmAt_of hyl]
          have hlk := run_lookup_map tMap kStr zInt (HWR.out.m1.keep (HB.out.block _ hr1)) (l[(leafIdx l)[n]]).nm false
          rw [mp_idx g.inc, g.inc.idx hyl] at hlk
          simp only [Bool.false_eq_true, if_false, Option.map_some, Option.getD_some] at hlk
          have hres : lies l a (leafIdx l)[n] = (inL l a)[n] := by simp [inL]
          generalize hrs : (inL l a)[n] = res at hres
          have HRS := Lib.hid hrs
          have hue := g.ends _ hyl
          unfold lies at hres
          generalize (leafIdx l)[n] = y0 at *
          have HR := Lib.hid hres
          have HU := Lib.hid hue
          clear hc hrl hres hue hrs
          go_wp2
          clear hlk hc0
          go_loopg [11] (l.length + 2) (InRel3 w5 l a res)
          case atStart => exact ⟨rfl, .inl ⟨y0, hyl, rfl, HU.out, HR.out⟩⟩
          clear HU HR
          case round =>
            obtain ⟨hw, hrel⟩ := hrel
            subst hw
            rcases hrel with ⟨y, hy, rfl, hup, hlr⟩ | ⟨rfl, hres⟩
            · obtain ⟨m, rfl⟩ : ∃ m, gk = m + 1 := by
                cases gk with
                | zero => exact absurd hup (by simp [upN])
                | succ m => exact ⟨m, rfl⟩
              rw [liesF] at hlr
              rw [upN] at hup
              have hlk := run_lookup_map tMapB kInt zBool HM.out (y : Int) true
              rw [nmK_find g ga hy] at hlk
              have hy0 : (0 : Int) ≤ (y : Int) := by omega
              have hy1 : (y : Int) < (l.length : Int) := by omega
              have hcu : wr.cell? ⟨g1, y, none⟩ = some (.int .i64 (upI l y)) := (HB.out.cell hg1W).trans (HWR.out.up y hy)
              cases hf : findA a (nmAt l y) with
              | some xa =>
                rw [hf] at hlk hlr
                simp only [if_true, Option.map_some, Option.getD_some, Option.isSome_some] at hlk
                have hlr' : (!xa.out) = res := hlr
                rw [hlr'] at hlk
                have hco : wr.cell? ⟨go, n, none⟩ = some (.bool false) := by
                  rw [cell_of_row _ go n _ _ _ HP.out, bArr_get _ _ hlt]; simp
                have hfo := frozen_of_row wr go n _ _ HP.out
                have HBS := Lib.hid (bArr_set (inL l a) hlt)
                clear hf hlr hlr' hup
                go_wp2
                go_roundg (gk1 - 1)
                case measure => have := HK.out; omega
                case rel =>
                  refine ⟨n + 1, by have := HK.out; omega, by go_num, ?_, ?_, ?_⟩
                  · exact HM.out.setCell (a := ⟨go, n, none⟩) (fun e => by have := map_ne_cells' HM.out HP.out; exact this e.symm) _
                  · have e := HBS.out
                    rw [HRS.out] at e
                    rw [← e]
                    exact heap_setCell_same _ go n _ _ _ HP.out
                  · exact HB.out.setCell (p := ⟨go, n, none⟩) hgo _
              | none =>
                rw [hf] at hlk hlr
                simp only [if_true, Option.map_none, Option.getD_none, Option.isSome_none] at hlk
                have HLR := Lib.hid hlr
                have HUP := Lib.hid hup
                clear hf hlr hup
                go_wp2
                have hlr := HLR.out
                have hup := HUP.out
                cases hu : up l y with
                | none =>
                  rw [hu] at hlr
                  go_roundg m
                  case measure => omega
                  case rel => exact ⟨rfl, .inr ⟨by rw [upI, hu], hlr.symm⟩⟩
                | some y' =>
                  rw [hu] at hlr hup
                  have hyl' := (up_lt hu).2
                  go_roundg m
                  case measure => omega
                  case rel => exact ⟨rfl, .inl ⟨y', hyl', by rw [upI, hu], hup, hlr⟩⟩
            · have HS := Lib.hid hres
              clear hres
              go_wp2
              go_roundg (gk1 - 1)
              case measure => have := HK.out; omega
              case rel =>
                refine ⟨n + 1, by have := HK.out; omega, by go_num, HM.out, ?_, HB.out⟩
                rw [bArr_skip _ hlt (by rw [HRS.out, HS.out])]
                exact HP.out
        · obtain rfl : n = (inL l a).length := by omega
          clear HK hk1 hlt
          go_wp2
          go_ret
          exact ⟨_, _, rfl, HP.out, below_trans HWb.out HB.out⟩
end Go.Proofs.YtlcfgejaeecclaaGreatDoor

namespace Go.Proofs.YtlcfgejaeecclaaGreatDoor
open Go.RowKit Dw

def offM (M : List Bool) (x : Int) : Bool := !(M.getD x.toNat false)
def IdxRel (w : World) (M : List Bool) (L : List Int) (m : Nat) (i : Value) (wr : World) : Prop :=
  wr = w ∧ ∃ k : Nat, k + m = L.length ∧ i = .int .i64 k ∧ ∀ j (h : j < L.length), j < k → offM M L[j] = false
def GivesIx (t : Bool) (w : World) (e : Ending) (w' : World) : Prop := ∃ z : Int, e = .returned (.int .i64 z) ∧ w = w' ∧ decide (0 ≤ z) = t

end Go.Proofs.YtlcfgejaeecclaaGreatDoor

namespace Go.Proofs.YtlcfgejaeecclaaGreatDoor
open Go.RowKit Dw

def fullL (l : List Rg) (S : Nat → Bool) : List Bool := (List.range l.length).map (fullP l S)
theorem fullL_len (l : List Rg) (S : Nat → Bool) : (fullL l S).length = l.length := by simp [fullL]
theorem mem_zip {L : List Nat} {p : Nat × Nat} : p ∈ L.zipIdx ↔ ∃ h : p.2 < L.length, L[p.2] = p.1 := by
  rw [List.mem_zipIdx_iff_getElem?]
  rw [List.getElem?_eq_some_iff]
theorem below_off (l : List Rg) (S : Nat → Bool) (x : Nat) : (!(belowK l l.length x).any (offM ((leafIdx l).map S))) = fullP l S x := by
  have e : leafTo l l.length = leafIdx l := rfl
  unfold belowK fullP
  rw [e, Bool.eq_iff_iff]
  simp only [Bool.not_eq_true', List.any_eq_false, List.all_eq_true]
  constructor
  · intro h i hi
    obtain ⟨n, hn, rfl⟩ := List.getElem_of_mem hi
    cases hu : under l (leafIdx l)[n] x with
    | false => rfl
    | true =>
      have := h (n : Int) (List.mem_map.2 ⟨((leafIdx l)[n], n), List.mem_filter.2 ⟨mem_zip.2 ⟨hn, rfl⟩, hu⟩, rfl⟩)
      simpa [offM, hn] using this
  · intro h z hz
    obtain ⟨p, hp, rfl⟩ := List.mem_map.1 hz
    obtain ⟨hp1, hp2⟩ := List.mem_filter.1 hp
    obtain ⟨hlt, he⟩ := mem_zip.1 hp1
    have := h p.1 (by rw [← he]; exact List.getElem_mem hlt)
    rw [hp2] at this
    have hs : S p.1 = true := by simpa using this
    have e2 : offM ((leafIdx l).map S) (p.2 : Int) = !(S (leafIdx l)[p.2]) := by simp [offM, hlt]
    rw [e2, he, hs]
    simp
theorem below_lt (l : List Rg) (S : Nat → Bool) (x : Nat) (j : Nat) (h : j < (belowK l l.length x).length) : ∃ n : Nat, (belowK l l.length x)[j] = (n : Int) ∧ n < ((leafIdx l).map S).length := by
  have hm := List.getElem_mem h
  generalize (belowK l l.length x)[j] = z at hm
  unfold belowK at hm
  obtain ⟨p, hp, rfl⟩ := List.mem_map.1 hm
  obtain ⟨hp1, hp2⟩ := List.mem_filter.1 hp
  obtain ⟨hlt, he⟩ := mem_zip.1 hp1
  exact ⟨p.2, rfl, by rw [List.length_map]; exact hlt⟩

def PlRel1 (W : World) (l : List Rg) (S : Nat → Bool) (go : Nat) (m : Nat) (i : Value) (wr : World) : Prop :=
  ∃ k : Nat, k + m = l.length ∧ i = .int .i64 k ∧ wr.heap[go]? = some (.cells (bArr (fullL l S) k) 4 (0, 0)) ∧ Below W.heap.size W wr
def PlRel2 (W : World) (l : List Rg) (S : Nat → Bool) (go : Nat) (m : Nat) (out i : Value) (wr : World) : Prop :=
  ∃ k : Nat, k + m = l.length ∧ i = .int .i64 k ∧ wr.heap[go]? = some (.cells (bArr (fullL l S) l.length) 4 (0, 0)) ∧ OwnL encA 2 wr W.heap.size 63 out (gathA l (plainTop l S) k) ∧ Below W.heap.size W wr

end Go.Proofs.YtlcfgejaeecclaaGreatDoor
