/- Package right (places): the rows of leaves that newWorld fills. -/
import Derived.Test.YtnjepmbonhmdnaaDoorPgD
import Derived.Test.YtnjepmbonhmdnaaDoorRefF
import Derived.Test.YtnjepmbonhmdnaaDoorHeap2
namespace Go.Proofs.YtnjepmbonhmdnaaDoor
open Go.RowKit Dw

abbrev encI : Int → List Value := fun z => [.int .i64 z]

def leafTo (l : List Rg) (k : Nat) : List Nat := (List.range k).filter fun i => !isPar l i
theorem leafTo_par {l : List Rg} {k : Nat} (h : isPar l k = true) : leafTo l (k + 1) = leafTo l k := by
  unfold leafTo; rw [range_filter_succ]; simp [h]
theorem leafTo_leaf {l : List Rg} {k : Nat} (h : isPar l k = false) : leafTo l (k + 1) = leafTo l k ++ [k] := by
  unfold leafTo; rw [range_filter_succ]; simp [h]
theorem leafTo_le (l : List Rg) (k : Nat) : (leafTo l k).length ≤ k := by
  unfold leafTo
  have := List.length_filter_le (fun i => !isPar l i) (List.range k)
  simpa using this
def lmF (l : List Rg) : Nat → ByteArray → Option Value
  | 0, _ => none
  | k + 1, s => if isPar l k then lmF l k s else if s = nmAt l k then some (.int .i64 ((leafTo l k).length : Int)) else lmF l k s
def belowK (l : List Rg) (k x : Nat) : List Int := ((leafTo l k).zipIdx.filter fun p => under l p.1 x).map fun p => (p.2 : Int)
theorem belowK_par {l : List Rg} {k : Nat} (h : isPar l k = true) (x : Nat) : belowK l (k + 1) x = belowK l k x := by
  unfold belowK; rw [leafTo_par h]
theorem belowK_leaf {l : List Rg} {k : Nat} (h : isPar l k = false) (x : Nat) : belowK l (k + 1) x = belowK l k x ++ if under l k x then [((leafTo l k).length : Int)] else [] := by
  unfold belowK
  rw [leafTo_leaf h, List.zipIdx_append, List.filter_append, List.map_append]
  congr 1
  cases hu : under l k x <;> simp [hu]
theorem belowK_le (l : List Rg) (k x : Nat) : (belowK l k x).length ≤ k := by
  unfold belowK
  rw [List.length_map]
  refine Nat.le_trans (List.length_filter_le _ _) ?_
  rw [List.length_zipIdx]
  exact leafTo_le l k

theorem underF_upN {l : List Rg} : ∀ {f i k : Nat}, underF l f i k = true → ∃ d, upN l d i = some k
  | 0, _, _, h => by simp [underF] at h
  | f + 1, i, k, h => by
    rw [underF] at h
    by_cases e : i = k
    · exact ⟨0, by simp [upN, e]⟩
    · cases hu : up l i with
      | none => rw [hu] at h; simp [e] at h
      | some j =>
        rw [hu] at h
        have h' : underF l f j k = true := by simpa [e] using h
        obtain ⟨d, hd⟩ := underF_upN h'
        exact ⟨d + 1, by rw [upN, hu]; exact hd⟩
theorem upN_underF {l : List Rg} : ∀ {f i k d : Nat}, upN l f i = none → upN l d i = some k → underF l f i k = true
  | 0, _, _, _, h, _ => by simp [upN] at h
  | f + 1, i, k, 0, _, h => by
    have : i = k := by simpa [upN] using h
    subst this; simp [underF]
  | f + 1, i, k, d + 1, h, hd => by
    rw [upN] at h hd
    cases hu : up l i with
    | none => rw [hu] at hd; cases hd
    | some j =>
      rw [hu] at h hd
      have := upN_underF h hd
      rw [underF, hu]
      simp [this]
/-- A region does not lie in itself. -/
theorem not_under_up {l : List Rg} (g : GoodR l) {y y' f : Nat} (hy : y < l.length) (hu : up l y = some y') : underF l f y' y = false := by
  cases h : underF l f y' y with
  | false => rfl
  | true =>
    exfalso
    obtain ⟨d, hd⟩ := underF_upN h
    have e : upN l (d + 1) y = some y := by rw [upN, hu]; exact hd
    have h1 := g.ends y hy
    have h2 := loop_forever e (l.length + 2)
    rw [upN_none_mono h1 (by
      have : 1 * (l.length + 2) ≤ (d + 1) * (l.length + 2) := Nat.mul_le_mul_right _ (by omega)
      omega)] at h2
    cases h2

/-- RowsI of numbers, one for each region, that share no memory. -/
structure RowsI (w : World) (B g1 n : Nat) (bl : Array Value) (R : Nat → List Int) : Prop where
  size : bl.size = n
  own : ∀ (x : Nat) (v : Value), bl[x]? = some v → OwnL encI 1 w B 3 v (R x)
  ne1 : ∀ (x : Nat) (v : Value), bl[x]? = some v → v.ownBlock ≠ some g1
  sep : ∀ (x y : Nat) (v u : Value), x ≠ y → bl[x]? = some v → bl[y]? = some u → v.ownBlock = none ∨ v.ownBlock ≠ u.ownBlock

theorem own_keepT {α : Type} {enc : α → List Value} {k : Nat} {w w' : World} {base : Nat} {e : TypeId} {v : Value} {l : List α} (h : OwnL enc k w base e v l) (hk : ∀ (g : Nat) (cs : Array Value), w.heap[g]? = some (.cells cs e (0, 0)) → w'.heap[g]? = w.heap[g]?) : OwnL enc k w' base e v l := by
  refine ⟨h.1, ?_⟩
  rcases h.2 with hn | ⟨g, cap, cur, rfl, hb, hgg, rest⟩
  · exact .inl hn
  · exact .inr ⟨g, cap, cur, rfl, hb, (hk g cur hgg).trans hgg, rest⟩
theorem own_row {α : Type} {enc : α → List Value} {k : Nat} {w : World} {base : Nat} {e : TypeId} {v : Value} {l : List α} (h : OwnL enc k w base e v l) {g : Nat} (hg : v.ownBlock = some g) : base ≤ g ∧ ∃ cs, w.heap[g]? = some (.cells cs e (0, 0)) := by
  rcases h.2 with ⟨rfl, _⟩ | ⟨g', cap, cur, rfl, hb, hgg, rest⟩
  · simp [Value.ownBlock] at hg
  · have : g' = g := by simpa [Value.ownBlock] using hg
    subst this
    exact ⟨hb, cur, hgg⟩

section
variable {w w' : World} {B g1 n : Nat} {bl : Array Value} {R : Nat → List Int}
theorem RowsI.nil (w : World) (B g1 n : Nat) : RowsI w B g1 n (Array.replicate n nilSl) (fun _ => []) where
  size := by simp
  own x v h := by
    rw [Array.getElem?_replicate] at h
    split at h
    · injection h with h; subst h; exact OwnL.nil _ _ _ _ _
    · cases h
  ne1 x v h := by
    rw [Array.getElem?_replicate] at h
    split at h
    · injection h with h; subst h; simp [Value.ownBlock]
    · cases h
  sep x y v u _ h _ := by
    rw [Array.getElem?_replicate] at h
    split at h
    · injection h with h; subst h; exact .inl rfl
    · cases h
theorem RowsI.keepT (h : RowsI w B g1 n bl R) (hk : ∀ (g : Nat) (cs : Array Value), w.heap[g]? = some (.cells cs 3 (0, 0)) → w'.heap[g]? = w.heap[g]?) : RowsI w' B g1 n bl R :=
  ⟨h.size, fun x v hv => own_keepT (h.own x v hv) hk, h.ne1, h.sep⟩
theorem RowsI.congr {R' : Nat → List Int} (h : RowsI w B g1 n bl R) (hR : ∀ x, x < n → R x = R' x) : RowsI w B g1 n bl R' :=
  ⟨h.size, fun x v hv => by
    have hx : x < n := by rw [← h.size]; exact (Array.getElem?_eq_some_iff.1 hv).1
    rw [← hR x hx]; exact h.own x v hv, h.ne1, h.sep⟩
theorem RowsI.alloc (h : RowsI w B g1 n bl R) (o : Obj) : RowsI (w.alloc o) B g1 n bl R := h.keepT fun _ _ hg => Below.heap_alloc w o _ (Array.getElem?_eq_some_iff.1 hg).1
theorem RowsI.push (h : RowsI w B g1 n bl R) {y : Nat} {v v' : Value} {m : Int} (hy : bl[y]? = some v) (hg1 : g1 < w.heap.size) (hg : w.grownBy w' v.ownBlock) (ho : OwnL encI 1 w' B 3 v' (R y ++ [m])) (hat : v'.ownBlock = v.ownBlock ∨ v'.ownBlock = some w.heap.size) :
    RowsI w' B g1 n (bl.setIfInBounds y v') (fun x => if x = y then R y ++ [m] else R x) := by
  have hyl : y < bl.size := (Array.getElem?_eq_some_iff.1 hy).1
  have hlt : ∀ (x : Nat) (u : Value), bl[x]? = some u → ∀ k, u.ownBlock = some k → k < w.heap.size := fun x u hu k hk => by
    obtain ⟨_, cs, hcs⟩ := own_row (h.own x u hu) hk
    exact (Array.getElem?_eq_some_iff.1 hcs).1
  have hget : ∀ (x : Nat) (u : Value), (bl.setIfInBounds y v')[x]? = some u → (x = y ∧ u = v') ∨ (x ≠ y ∧ bl[x]? = some u) := fun x u hu => by
    rw [Array.getElem?_setIfInBounds] at hu
    by_cases e : y = x
    · rw [if_pos e, if_pos hyl] at hu
      injection hu with hu
      exact .inl ⟨e.symm, hu.symm⟩
    · rw [if_neg e] at hu
      exact .inr ⟨fun e' => e e'.symm, hu⟩
  refine ⟨by simp [h.size], fun x u hu => ?_, fun x u hu => ?_, fun x z u t hxz hu ht => ?_⟩
  · rcases hget x u hu with ⟨rfl, rfl⟩ | ⟨hne, hu'⟩
    · simpa using ho
    · simp only [hne, if_false]
      exact (h.own x u hu').grown hg (h.sep x y u v hne hu' hy)
  · rcases hget x u hu with ⟨rfl, rfl⟩ | ⟨hne, hu'⟩
    · rcases hat with e | e
      · rw [e]; exact h.ne1 _ _ hy
      · rw [e]; intro e2; injection e2 with e2; omega
    · exact h.ne1 x u hu'
  · rcases hget x u hu with ⟨rfl, rfl⟩ | ⟨hne, hu'⟩
    · rcases hget z t ht with ⟨rfl, rfl⟩ | ⟨hne2, ht'⟩
      · exact absurd rfl hxz
      · rcases hat with e | e
        · rw [e]; exact h.sep _ _ _ _ (Ne.symm hne2) hy ht'
        · right
          rw [e]
          intro e2
          have := hlt z t ht' _ e2.symm
          omega
    · rcases hget z t ht with ⟨rfl, rfl⟩ | ⟨hne2, ht'⟩
      · rcases hat with e | e
        · rw [e]; exact h.sep _ _ _ _ hne hu' hy
        · right
          rw [e]
          intro e2
          have := hlt x u hu' _ e2
          omega
      · exact h.sep x z u t hxz hu' ht'
end
end Go.Proofs.YtnjepmbonhmdnaaDoor
