/- Plain words for the program's sets of leaves: rows of bools, and the map from regions to what an area says of them. -/
import Derived.Test.YtnjepmbonhmdnaaDoorPure
import Derived.Test.YtnjepmbonhmdnaaDoorHeap
namespace Dw
open Go Go.RowKit

/-- A row of bools of which the first k are filled. -/
def bArr (M : List Bool) (k : Nat) : Array Value := ((List.range M.length).map fun i => Value.bool (decide (i < k) && M.getD i false)).toArray
theorem bArr_size (M : List Bool) (k : Nat) : (bArr M k).size = M.length := by simp [bArr]
theorem bArr_get (M : List Bool) (k : Nat) {i : Nat} (hi : i < M.length) : (bArr M k)[i]? = some (.bool (decide (i < k) && M[i])) := by simp [bArr, hi]
theorem bArr_0 (M : List Bool) : Array.replicate M.length (Value.bool false) = bArr M 0 := by
  apply Array.toList_inj.1
  rw [Array.toList_replicate]
  apply List.ext_getElem <;> simp [bArr]
theorem bArr_set (M : List Bool) {k : Nat} (hk : k < M.length) : (bArr M k).setIfInBounds k (.bool M[k]) = bArr M (k + 1) := by
  apply Array.ext_getElem?
  intro i
  rw [Array.getElem?_setIfInBounds]
  by_cases h : k = i
  · subst h
    rw [if_pos rfl, if_pos (by rw [bArr_size]; exact hk), bArr_get _ _ hk]
    simp
  · rw [if_neg h]
    by_cases hi : i < M.length
    · rw [bArr_get _ _ hi, bArr_get _ _ hi]
      have : decide (i < k) = decide (i < k + 1) := by
        by_cases h2 : i < k
        · rw [decide_eq_true h2, decide_eq_true (by omega)]
        · rw [decide_eq_false h2, decide_eq_false (by omega)]
      rw [this]
    · rw [Array.getElem?_eq_none (by rw [bArr_size]; omega), Array.getElem?_eq_none (by rw [bArr_size]; omega)]
theorem bArr_skip (M : List Bool) {k : Nat} (hk : k < M.length) (hf : M[k] = false) : bArr M (k + 1) = bArr M k := by
  rw [← bArr_set M hk, hf]
  apply Array.ext_getElem?
  intro i
  rw [Array.getElem?_setIfInBounds]
  by_cases h : k = i
  · subst h
    rw [if_pos rfl, if_pos (by rw [bArr_size]; exact hk), bArr_get _ _ hk]
    simp
  · rw [if_neg h]
theorem bArr_rd {w : World} {g : Nat} {M : List Bool} {T : TypeId} (h : w.heap[g]? = some (.cells (bArr M M.length) T (0, 0))) : Rd1 Value.bool w (some ⟨g, 0, none⟩) M := fun _ =>
  ⟨g, 0, rfl, fun i hi => by
    rw [Nat.zero_add, cell_of_row w g i _ _ _ h, bArr_get _ _ hi]
    simp [hi]⟩

/-- What the map of an area's regions holds after k of them. -/
def nmK (l : List Rg) (a : List Ar) : Nat → Int → Option Value
  | 0, _ => none
  | k + 1, i => if i = (match idx l (rgAt a k) with | some x => (x : Int) | none => 0) then some (.bool (!(a.getD k default).out)) else nmK l a k i
structure GoodA (l : List Rg) (a : List Ar) : Prop where
  len : a.length ≤ 100
  at_ : ∀ k (h : k < a.length), ∃ x, idx l (a[k]).rg = some x
  inj : ∀ i j (hi : i < a.length) (hj : j < a.length), (a[i]).rg = (a[j]).rg → i = j
theorem goodA_of {l : List Rg} {a : List Ar} (h : chkA l a = 0) : GoodA l a := by
  unfold chkA at h
  by_cases hl : 100 < a.length
  · rw [if_pos hl] at h; exact absurd h (by decide)
  · rw [if_neg hl] at h
    have hf : ∀ j, j < a.length → arFault l a j = none := by
      cases hs : (List.range a.length).findSome? (arFault l a) with
      | none => exact fun j hj => List.findSome?_eq_none_iff.1 hs j (List.mem_range.2 hj)
      | some f =>
        rw [hs] at h
        obtain ⟨j, _, hj⟩ := List.exists_of_findSome?_eq_some hs
        have h : f = 0 := h
        subst h
        unfold arFault at hj
        split at hj
        · injection hj with hj; exact absurd hj (by decide)
        · split at hj
          · injection hj with hj; exact absurd hj (by decide)
          · cases hj
    refine ⟨by omega, fun k hk => ?_, ?_⟩
    · have := hf k hk
      unfold arFault at this
      rw [rgAt_of hk] at this
      cases hx : idx l (a[k]).rg with
      | none => rw [if_pos hx] at this; cases this
      | some x => exact ⟨x, rfl⟩
    · have hinc : Inc (a.map fun x => (⟨x.rg, emp⟩ : Rg)) := by
        intro i hi
        rw [List.length_map] at hi
        rw [List.getElem_map, List.getElem_map]
        have := hf (i + 1) hi
        unfold arFault at this
        rw [rgAt_of hi, show i + 1 - 1 = i from rfl, rgAt_of (by omega)] at this
        refine slt_of_not_sle ?_
        cases hb : sle (a[i + 1]).rg (a[i]).rg with
        | false => rfl
        | true =>
          split at this
          · cases this
          · rw [if_pos ⟨by omega, hb⟩] at this; cases this
      intro i j hi hj e
      exact hinc.inj (by simpa using hi) (by simpa using hj) (by simpa using e)
theorem nmK_find {l : List Rg} {a : List Ar} (g : GoodR l) (ga : GoodA l a) {j : Nat} (hj : j < l.length) : nmK l a a.length (j : Int) = (findA a (nmAt l j)).map fun x => .bool (!x.out) := by
  have key : ∀ k, k ≤ a.length → nmK l a k (j : Int) = (findA (a.take k) (nmAt l j)).map fun x => .bool (!x.out) := by
    intro k
    induction k with
    | zero => intro _; simp [nmK, findA]
    | succ k ih =>
      intro hk
      have hk' : k < a.length := by omega
      obtain ⟨x, hx⟩ := ga.at_ k hk'
      obtain ⟨hxl, hxn⟩ := idx_some hx
      rw [nmK, ih (by omega), rgAt_of hk', hx]
      unfold findA
      rw [List.take_succ_eq_append_getElem hk', List.find?_append]
      by_cases e : (j : Int) = (x : Int)
      · have e' : j = x := by omega
        subst e'
        rw [if_pos rfl]
        have hno : (a.take k).find? (fun y => decide (y.rg = nmAt l j)) = none := by
          rw [List.find?_eq_none]
          intro y hy
          obtain ⟨t, ht, rfl⟩ := List.getElem_of_mem hy
          have ht' : t < k := by
            have := ht
            rw [List.length_take] at this
            omega
          rw [List.getElem_take]
          have hne : (a[t]).rg ≠ nmAt l j := fun e2 => by
            have := ga.inj t k (by omega) hk' (by rw [e2, nmAt_of hj, hxn])
            omega
          simpa using hne
        rw [hno]
        have : decide ((a[k]).rg = nmAt l j) = true := by rw [nmAt_of hj, hxn]; simp
        simp [this, List.getD, hk']
      · rw [if_neg e]
        have : decide ((a[k]).rg = nmAt l j) = false := by
          rw [nmAt_of hj]
          refine decide_eq_false fun e2 => e ?_
          have : x = j := g.nm_inj hxl hj (by rw [← hxn] at e2; exact e2)
          omega
        simp [this]
  have := key a.length (Nat.le_refl _)
  rwa [List.take_length] at this

/-- Which leaves lie in an area, leaf by leaf. -/
def inL (l : List Rg) (a : List Ar) : List Bool := (leafIdx l).map (lies l a)
end Dw
