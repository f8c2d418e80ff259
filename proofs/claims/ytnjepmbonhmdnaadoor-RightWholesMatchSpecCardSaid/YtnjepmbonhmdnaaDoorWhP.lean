/- Plain facts about parts of things: no program in sight. -/
import Derived.Test.YtnjepmbonhmdnaaDoorPure
namespace Dw

/-- A part of a thing is held as a pair of names, as a region is: nm has par in it. -/
def partsOf (l : List Rg) (x : ByteArray) : List ByteArray := (l.filter fun r => decide (r.nm = x)).map (·.par)
def addNew (out : List ByteArray) (s : ByteArray) : List ByteArray := if memS out s then out else out ++ [s]
def addAll (out : List ByteArray) (p : List ByteArray) : List ByteArray := p.foldl addNew out
def growS (l : List Rg) (out : List ByteArray) (x : ByteArray) : List ByteArray := addAll out (partsOf l x)
def bfs (l : List Rg) : Nat → List ByteArray → Nat → List ByteArray
  | 0, out, _ => out
  | f + 1, out, i => if h : i < out.length then bfs l f (growS l out out[i]) (i + 1) else out
/-- A thing and all things in it, as they are found. -/
def reach (l : List Rg) (s : ByteArray) : List ByteArray := bfs l (l.length + 2) [s] 0

theorem addNew_yes {out : List ByteArray} {s : ByteArray} (h : memS out s = true) : addNew out s = out := by unfold addNew; rw [if_pos h]
theorem addNew_no {out : List ByteArray} {s : ByteArray} (h : memS out s = false) : addNew out s = out ++ [s] := by unfold addNew; rw [h]; rfl
theorem addAll_snoc (out p : List ByteArray) (s : ByteArray) : addAll out (p ++ [s]) = addNew (addAll out p) s := by unfold addAll; rw [List.foldl_append]; rfl
theorem addAll_take {out p : List ByteArray} {k : Nat} (hk : k < p.length) : addAll out (p.take (k + 1)) = addNew (addAll out (p.take k)) p[k] := by
  rw [List.take_succ_eq_append_getElem hk, addAll_snoc]
theorem addAll_nil (out : List ByteArray) : addAll out [] = out := rfl
theorem partsOf_snoc_yes {l : List Rg} {k : Nat} (hk : k < l.length) {x : ByteArray} (h : (l[k]).nm = x) : partsOf (l.take (k + 1)) x = partsOf (l.take k) x ++ [(l[k]).par] := by
  unfold partsOf; rw [List.take_succ_eq_append_getElem hk, List.filter_append, List.map_append, List.filter_cons_of_pos (by simpa using h)]; rfl
theorem partsOf_snoc_no {l : List Rg} {k : Nat} (hk : k < l.length) {x : ByteArray} (h : (l[k]).nm ≠ x) : partsOf (l.take (k + 1)) x = partsOf (l.take k) x := by
  unfold partsOf; rw [List.take_succ_eq_append_getElem hk, List.filter_append, List.map_append, List.filter_cons_of_neg (by simpa using h)]; simp
theorem partsOf_le (l : List Rg) (x : ByteArray) : (partsOf l x).length ≤ l.length := by
  unfold partsOf; rw [List.length_map]; exact List.length_filter_le _ _

/-- What every list of found things keeps. -/
structure FoundP (l : List Rg) (s : ByteArray) (out : List ByteArray) : Prop where
  nd : out.Nodup
  of : ∀ x ∈ out, x = s ∨ x ∈ l.map (·.par)
  has : s ∈ out
theorem FoundP.le {l : List Rg} {s : ByteArray} {out : List ByteArray} (h : FoundP l s out) : out.length ≤ l.length + 1 := by
  have := List.Nodup.length_le_of_subset h.nd (l₂ := s :: l.map (·.par)) (fun x hx => by
    rcases h.of x hx with e | e
    · rw [e]; simp
    · exact List.mem_cons_of_mem _ e)
  simpa using this
theorem FoundP.pos {l : List Rg} {s : ByteArray} {out : List ByteArray} (h : FoundP l s out) : 0 < out.length := List.length_pos_of_mem h.has
theorem FoundP.one (l : List Rg) (s : ByteArray) : FoundP l s [s] := ⟨by simp, (fun x hx => .inl (by simpa using hx)), by simp⟩
theorem FoundP.add {l : List Rg} {s x : ByteArray} {out : List ByteArray} (h : FoundP l s out) (hx : x ∈ l.map (·.par)) : FoundP l s (addNew out x) := by
  cases hm : memS out x with
  | true => rw [addNew_yes hm]; exact h
  | false =>
    rw [addNew_no hm]
    have hn := memS_false.1 hm
    refine ⟨?_, fun y hy => ?_, List.mem_append_left _ h.has⟩
    · rw [List.nodup_append]
      refine ⟨h.nd, by simp, fun a ha b hb e => hn ?_⟩
      have : b = x := by simpa using hb
      rw [← this, ← e]; exact ha
    · rcases List.mem_append.1 hy with h1 | h1
      · exact h.of y h1
      · have : y = x := by simpa using h1
        rw [this]; exact .inr hx
theorem FoundP.all {l : List Rg} {s : ByteArray} {out : List ByteArray} (h : FoundP l s out) : ∀ (p : List ByteArray), (∀ x ∈ p, x ∈ l.map (·.par)) → FoundP l s (addAll out p) := by
  intro p
  induction p generalizing out with
  | nil => intro _; exact h
  | cons a t ih =>
    intro hp
    exact ih (h.add (hp a (by simp))) fun x hx => hp x (by simp [hx])
theorem partsOf_sub {l : List Rg} {x y : ByteArray} (h : y ∈ partsOf l x) : y ∈ l.map (·.par) := by
  unfold partsOf at h
  obtain ⟨r, hr, rfl⟩ := List.mem_map.1 h
  exact List.mem_map.2 ⟨r, (List.mem_filter.1 hr).1, rfl⟩
theorem FoundP.grow {l : List Rg} {s : ByteArray} {out : List ByteArray} (h : FoundP l s out) (x : ByteArray) : FoundP l s (growS l out x) :=
  h.all _ fun _ hy => partsOf_sub hy
theorem FoundP.take {l : List Rg} {s : ByteArray} {out : List ByteArray} (h : FoundP l s out) (x : ByteArray) (k : Nat) : FoundP l s (addAll out ((partsOf l x).take k)) :=
  h.all _ fun _ hy => partsOf_sub (List.mem_of_mem_take hy)
theorem FoundP.takeL {l : List Rg} {s : ByteArray} {out : List ByteArray} (h : FoundP l s out) (x : ByteArray) (k : Nat) : FoundP l s (addAll out (partsOf (l.take k) x)) :=
  h.all _ fun _ hy => by
    obtain ⟨r, hr, e⟩ := List.mem_map.1 (partsOf_sub hy)
    exact List.mem_map.2 ⟨r, List.mem_of_mem_take hr, e⟩
theorem addNew_pre (out : List ByteArray) (s : ByteArray) : ∃ t, addNew out s = out ++ t := by
  unfold addNew; split
  · exact ⟨[], by simp⟩
  · exact ⟨_, rfl⟩
theorem addAll_pre : ∀ (p out : List ByteArray), ∃ t, addAll out p = out ++ t
  | [], out => ⟨[], by simp [addAll]⟩
  | a :: p, out => by
    obtain ⟨t, ht⟩ := addNew_pre out a
    obtain ⟨u, hu⟩ := addAll_pre p (addNew out a)
    refine ⟨t ++ u, ?_⟩
    show addAll (addNew out a) p = _
    rw [hu, ht, List.append_assoc]
theorem addAll_len (p out : List ByteArray) : out.length ≤ (addAll out p).length := by
  obtain ⟨t, ht⟩ := addAll_pre p out
  rw [ht]; simp
theorem addAll_get {p out : List ByteArray} {i : Nat} (hi : i < out.length) : (addAll out p)[i]'(Nat.lt_of_lt_of_le hi (addAll_len p out)) = out[i] := by
  obtain ⟨t, ht⟩ := addAll_pre p out
  simp only [ht]
  exact List.getElem_append_left hi
theorem bfs_step {l : List Rg} {f i : Nat} {out : List ByteArray} (h : i < out.length) : bfs l (f + 1) out i = bfs l f (growS l out out[i]) (i + 1) := by rw [bfs, dif_pos h]
theorem bfs_end {l : List Rg} {f i : Nat} {out : List ByteArray} (h : ¬ i < out.length) : bfs l f out i = out := by
  cases f with
  | zero => rfl
  | succ f => rw [bfs, dif_neg h]
theorem bfs_found {l : List Rg} {s : ByteArray} : ∀ {f i : Nat} {out : List ByteArray}, FoundP l s out → FoundP l s (bfs l f out i)
  | 0, _, _, h => h
  | f + 1, i, out, h => by
    rw [bfs]; split
    · exact bfs_found (h.grow _)
    · exact h
theorem reach_found (l : List Rg) (s : ByteArray) : FoundP l s (reach l s) := bfs_found (FoundP.one l s)
theorem reach_le (l : List Rg) (s : ByteArray) : (reach l s).length ≤ l.length + 1 := (reach_found l s).le

/-- The order of strings. -/
theorem slt_list (a b : ByteArray) : slt a b = decide (a.toList < b.toList) := by unfold slt; rw [bytesLess_eq]
theorem sge_trans {a b c : ByteArray} (h : slt b a = false) (k : slt c b = false) : slt c a = false := by
  rw [slt_list] at *
  simp only [decide_eq_false_iff_not, List.not_lt] at *
  exact List.le_trans h k
theorem slt_asymm {a b : ByteArray} (h : slt a b = true) : slt b a = false := by
  cases hb : slt b a with
  | false => rfl
  | true => exact absurd (slt_trans h hb) (by rw [slt_irrefl]; simp)
theorem slt_antisymm {a b : ByteArray} (h : slt a b = false) (k : slt b a = false) : a = b := by
  rw [slt_list] at *
  simp only [decide_eq_false_iff_not, List.not_lt] at *
  exact toList_inj (List.le_antisymm k h)
def SortedS (l : List ByteArray) : Prop := l.Pairwise fun a b => slt b a = false
def sortS (l : List ByteArray) : List ByteArray := l.mergeSort fun x y => !slt y x
theorem sortS_sorted (l : List ByteArray) : SortedS (sortS l) := by
  have := List.pairwise_mergeSort (le := fun x y => !slt y x) (fun a b c h k => by
    simp only [Bool.not_eq_true'] at *
    exact sge_trans h k) (fun a b => by
    cases h : slt b a with
    | false => simp
    | true => simp [slt_asymm h]) l
  exact this.imp fun h => by simpa using h
theorem sortS_perm (l : List ByteArray) : (sortS l).Perm l := List.mergeSort_perm _ _
theorem sortS_len (l : List ByteArray) : (sortS l).length = l.length := (sortS_perm l).length_eq
theorem sortS_mem (l : List ByteArray) (s : ByteArray) : memS (sortS l) s = memS l s := by
  rw [Bool.eq_iff_iff, memS_true, memS_true]
  exact (sortS_perm l).mem_iff
theorem sorted_one {l m : List ByteArray} (h : SortedS l) (k : SortedS m) (hp : l.Perm m) : l = m :=
  List.Perm.eq_of_pairwise (fun _ _ _ _ h1 h2 => slt_antisymm h2 h1) h k hp

/-- Where the reference puts the next one. -/
def insAt (x : ByteArray) (out : List ByteArray) : Nat → Nat
  | 0 => 0
  | k + 1 => if slt x (out.getD k emp) then insAt x out k else k + 1
def insS (out : List ByteArray) (x : ByteArray) : List ByteArray := out.take (insAt x out out.length) ++ x :: out.drop (insAt x out out.length)
def insAll (l : List ByteArray) : List ByteArray := l.foldl insS []
theorem insAt_le (x : ByteArray) (out : List ByteArray) : ∀ n, insAt x out n ≤ n
  | 0 => Nat.le_refl _
  | n + 1 => by
    rw [insAt]; split
    · exact Nat.le_succ_of_le (insAt_le x out n)
    · exact Nat.le_refl _
theorem insAt_above (x : ByteArray) (out : List ByteArray) : ∀ n j, insAt x out n ≤ j → j < n → slt x (out.getD j emp) = true
  | 0, j, _, h => by omega
  | n + 1, j, h1, h2 => by
    rw [insAt] at h1
    by_cases h : slt x (out.getD n emp) = true
    · rw [if_pos h] at h1
      by_cases e : j = n
      · rw [e]; exact h
      · exact insAt_above x out n j h1 (by omega)
    · rw [if_neg h] at h1; omega
theorem insAt_below (x : ByteArray) (out : List ByteArray) : ∀ n k, insAt x out n = k + 1 → slt x (out.getD k emp) = false
  | 0, k, h => by rw [insAt] at h; omega
  | n + 1, k, h => by
    rw [insAt] at h
    by_cases hs : slt x (out.getD n emp) = true
    · rw [if_pos hs] at h; exact insAt_below x out n k h
    · rw [if_neg hs] at h
      have : n = k := by omega
      rw [← this]; simpa using hs
theorem insS_perm (out : List ByteArray) (x : ByteArray) : (insS out x).Perm (x :: out) := by
  unfold insS
  refine List.perm_middle.trans ?_
  rw [List.take_append_drop]
theorem insS_sorted {out : List ByteArray} (h : SortedS out) (x : ByteArray) : SortedS (insS out x) := by
  have hle := insAt_le x out out.length
  unfold insS SortedS
  generalize hk : insAt x out out.length = k at *
  rw [List.pairwise_append]
  refine ⟨List.Pairwise.sublist (List.take_sublist _ _) h, ?_, ?_⟩
  · rw [List.pairwise_cons]
    refine ⟨fun y hy => ?_, List.Pairwise.sublist (List.drop_sublist _ _) h⟩
    obtain ⟨j, hj, rfl⟩ := List.getElem_of_mem hy
    have hj' : k + j < out.length := by rw [List.length_drop] at hj; omega
    have := insAt_above x out out.length (k + j) (by omega) hj'
    rw [List.getElem_drop]
    rw [List.getD_eq_getElem?_getD, List.getElem?_eq_getElem hj'] at this
    exact slt_asymm this
  · intro a ha b hb
    obtain ⟨i, hi, rfl⟩ := List.getElem_of_mem ha
    have hik : i < k := by rw [List.length_take] at hi; omega
    have hio : i < out.length := by omega
    rw [List.getElem_take]
    have hax : slt x out[i] = false := by
      obtain ⟨m, rfl⟩ : ∃ m, k = m + 1 := ⟨k - 1, by omega⟩
      have h1 := insAt_below x out out.length m hk
      have hm : m < out.length := by omega
      rw [List.getD_eq_getElem?_getD, List.getElem?_eq_getElem hm] at h1
      have h1' : slt x out[m] = false := h1
      rcases Nat.lt_or_ge i m with h2 | h2
      · have := List.pairwise_iff_getElem.1 h i m hio hm h2
        exact sge_trans this h1'
      · obtain rfl : i = m := by omega
        exact h1'
    rcases List.mem_cons.1 hb with e | hb'
    · rw [e]; exact hax
    · obtain ⟨j, hj, rfl⟩ := List.getElem_of_mem hb'
      have hj' : k + j < out.length := by rw [List.length_drop] at hj; omega
      rw [List.getElem_drop]
      exact List.pairwise_iff_getElem.1 h i (k + j) hio hj' (by omega)
theorem insAll_ok : ∀ (l out : List ByteArray), SortedS out → SortedS (l.foldl insS out) ∧ (l.foldl insS out).Perm (out ++ l)
  | [], out, h => ⟨h, by simp⟩
  | a :: l, out, h => by
    obtain ⟨h1, h2⟩ := insAll_ok l (insS out a) (insS_sorted h a)
    refine ⟨h1, h2.trans ?_⟩
    refine ((insS_perm out a).append_right l).trans ?_
    show (a :: out ++ l).Perm _
    rw [List.cons_append]
    exact List.perm_middle.symm
theorem insAll_sortS (l : List ByteArray) : insAll l = sortS l := by
  obtain ⟨h1, h2⟩ := insAll_ok l [] List.Pairwise.nil
  exact sorted_one h1 (sortS_sorted l) (h2.trans (by simpa using (sortS_perm l).symm))
theorem insAll_take {l : List ByteArray} {k : Nat} (hk : k < l.length) : insAll (l.take (k + 1)) = insS (insAll (l.take k)) l[k] := by
  unfold insAll; rw [List.take_succ_eq_append_getElem hk, List.foldl_append]; rfl
theorem insAll_len : ∀ (l out : List ByteArray), (l.foldl insS out).length = out.length + l.length
  | [], _ => by simp
  | a :: l, out => by
    show (l.foldl insS (insS out a)).length = _
    rw [insAll_len l, (insS_perm out a).length_eq]
    simp; omega

/-- The fault of a list of parts. -/
def sameP (a b : Rg) : Bool := decide (a.nm = b.nm) && decide (a.par = b.par)
def twiceP (l : List Rg) (i : Nat) : Bool := (l.take i).any fun q => sameP q (l.getD i default)
def cnFault (l : List Rg) (i : Nat) : Option Int :=
  if isNm (l.getD i default).nm = false ∨ isNm (l.getD i default).par = false then some 5 else if twiceP l i = true then some 7 else none
def loopP (l : List Rg) (i : Nat) : Bool := memS (reach l (l.getD i default).par) (l.getD i default).nm
def chkW (l : List Rg) : Int :=
  if 500 < l.length then 2 else
  match (List.range l.length).findSome? (cnFault l) with
  | some f => f
  | none => if (List.range l.length).any (loopP l) = true then 14 else 0
def wholeS (l : List Rg) (s : ByteArray) : List ByteArray × Int :=
  if chkW l ≠ 0 then ([], chkW l) else if isNm s = false then ([], 5) else (sortS (reach l s), 0)
theorem getD_of {l : List Rg} {i : Nat} (h : i < l.length) : l.getD i default = l[i] := by simp [List.getD, h]
theorem findSome_range {β : Type} {f : Nat → Option β} {x : β} : ∀ {n k : Nat}, k < n → (∀ j, j < k → f j = none) → f k = some x → (List.range n).findSome? f = some x
  | 0, _, h, _, _ => by omega
  | n + 1, k, h, hp, hx => by
    rw [List.range_succ, List.findSome?_append]
    by_cases e : k = n
    · subst e
      have : (List.range k).findSome? f = none := List.findSome?_eq_none_iff.2 fun j hj => hp j (List.mem_range.1 hj)
      rw [this]; simp [hx]
    · rw [findSome_range (k := k) (by omega) hp hx]; rfl
theorem chkW_large {l : List Rg} (h : 500 < l.length) : chkW l = 2 := by unfold chkW; rw [if_pos h]
theorem chkW_first {l : List Rg} (h : ¬ 500 < l.length) {k : Nat} (hk : k < l.length) (hp : ∀ j, j < k → cnFault l j = none) {x : Int} (hx : cnFault l k = some x) : chkW l = x := by
  unfold chkW; rw [if_neg h, findSome_range hk hp hx]
theorem chkW_none {l : List Rg} (hp : ∀ j, j < l.length → cnFault l j = none) : (List.range l.length).findSome? (cnFault l) = none :=
  List.findSome?_eq_none_iff.2 fun j hj => hp j (List.mem_range.1 hj)
theorem chkW_loop {l : List Rg} (h : ¬ 500 < l.length) (hp : ∀ j, j < l.length → cnFault l j = none) {k : Nat} (hk : k < l.length) (hx : loopP l k = true) : chkW l = 14 := by
  unfold chkW; rw [if_neg h, chkW_none hp]
  have : (List.range l.length).any (loopP l) = true := List.any_eq_true.2 ⟨k, List.mem_range.2 hk, hx⟩
  simp [this]
theorem chkW_ok {l : List Rg} (h : ¬ 500 < l.length) (hp : ∀ j, j < l.length → cnFault l j = none) (hx : ∀ j, j < l.length → loopP l j = false) : chkW l = 0 := by
  unfold chkW; rw [if_neg h, chkW_none hp]
  have : (List.range l.length).any (loopP l) = false := List.any_eq_false.2 fun j hj => by rw [hx j (List.mem_range.1 hj)]; simp
  simp [this]
theorem chkW_len {l : List Rg} (h : chkW l = 0) : l.length ≤ 500 := by
  refine Nat.le_of_not_lt fun hl => ?_
  rw [chkW_large hl] at h; omega
end Dw
