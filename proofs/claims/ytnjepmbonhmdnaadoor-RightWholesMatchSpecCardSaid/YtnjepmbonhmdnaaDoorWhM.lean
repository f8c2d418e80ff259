/- Words for parts of things: a map from names to rows of names, and append of many names. -/
import Derived.Test.YtnjepmbonhmdnaaDoorWhP
import Derived.Test.YtnjepmbonhmdnaaDoorPgG
namespace Go.Proofs.YtnjepmbonhmdnaaDoor
open Go.RowKit Dw

/-- Rows of names, each the call's own, by their names. -/
structure RowsM (w : World) (B : Nat) (f : ByteArray → Option Value) (R : ByteArray → List ByteArray) : Prop where
  no : ∀ x, f x = none → R x = []
  own : ∀ x v, f x = some v → OwnL encS 1 w B 9 v (R x)
  sep : ∀ x y v u, x ≠ y → f x = some v → f y = some u → v.ownBlock = none ∨ v.ownBlock ≠ u.ownBlock

section
variable {w w' : World} {B r : Nat} {f : ByteArray → Option Value} {R : ByteArray → List ByteArray}
theorem RowsM.nil (w : World) (B : Nat) : RowsM w B (fun _ => none) (fun _ => []) := ⟨fun _ _ => rfl, (fun _ _ h => by cases h), (fun _ _ _ _ _ h _ => by cases h)⟩
theorem RowsM.keepT (h : RowsM w B f R) (hk : ∀ (g : Nat) (cs : Array Value), w.heap[g]? = some (.cells cs 9 (0, 0)) → w'.heap[g]? = w.heap[g]?) : RowsM w' B f R :=
  ⟨h.no, fun x v hv => own_keepT (h.own x v hv) hk, h.sep⟩
theorem RowsM.below (h : RowsM w B f R) (hb : Below w.heap.size w w') : RowsM w' B f R := h.keepT fun g _ hg => hb.block g (Array.getElem?_eq_some_iff.1 hg).1
theorem RowsM.alloc (h : RowsM w B f R) (o : Obj) : RowsM (w.alloc o) B f R := h.keepT fun _ _ hg => Below.heap_alloc w o _ (Array.getElem?_eq_some_iff.1 hg).1
theorem RowsM.drewN (h : RowsM w B f R) (n : Nat) : RowsM (w.drewN n) B f R := h.keepT fun _ _ _ => rfl
/-- A write to a map turns no row. -/
theorem RowsM.map (h : RowsM w B f R) {κ : Type} [DecidableEq κ] {mk : κ → Value} {F : κ → Option Value} (hm : MapIs mk w r F) (hg : w.grownBy w' (some r)) : RowsM w' B f R := h.keepT fun g cs hgc =>
  hg.block g (Array.getElem?_eq_some_iff.1 hgc).1 (fun e => by
    injection e with e
    subst e
    obtain ⟨es, clk, L, hr, _⟩ := hm
    rw [hr] at hgc; cases hgc)
theorem RowsM.congr {R' : ByteArray → List ByteArray} (h : RowsM w B f R) (hR : ∀ x, R x = R' x) : RowsM w B f R' := by
  have : R = R' := funext hR
  subst this; exact h
theorem RowsM.get (h : RowsM w B f R) (x : ByteArray) : OwnL encS 1 w B 9 ((f x).getD nilSl) (R x) := by
  cases hf : f x with
  | none => rw [h.no x hf]; exact OwnL.nil _ _ _ _ _
  | some v => exact h.own x v hf
theorem RowsM.push (h : RowsM w B f R) {y : ByteArray} {v v' : Value} {s : ByteArray} (hy : (f y).getD nilSl = v) (hg : w.grownBy w' v.ownBlock) (ho : OwnL encS 1 w' B 9 v' (R y ++ [s])) (hat : v'.ownBlock = v.ownBlock ∨ v'.ownBlock = some w.heap.size) :
    RowsM w' B (fun k => if k = y then some v' else f k) (fun x => if x = y then R y ++ [s] else R x) := by
  have hlt : ∀ (x : ByteArray) (u : Value), f x = some u → ∀ k, u.ownBlock = some k → k < w.heap.size := fun x u hu k hk => by
    obtain ⟨_, cs, hcs⟩ := own_row (h.own x u hu) hk
    exact (Array.getElem?_eq_some_iff.1 hcs).1
  have hsep : ∀ (x : ByteArray) (u : Value), x ≠ y → f x = some u → u.ownBlock = none ∨ u.ownBlock ≠ v.ownBlock := fun x u hne hu => by
    cases hf : f y with
    | none =>
      rw [hf] at hy
      have hy' : nilSl = v := hy
      subst hy'
      cases ho : u.ownBlock with
      | none => exact .inl rfl
      | some k => exact .inr (by simp [Value.ownBlock])
    | some v0 =>
      rw [hf] at hy
      have hy' : v0 = v := hy
      subst hy'
      exact h.sep x y u v0 hne hu hf
  refine ⟨fun x hx => ?_, fun x u hu => ?_, fun x z u t hxz hu ht => ?_⟩
  · by_cases e : x = y
    · simp [e] at hx
    · simp only [e, if_false] at hx ⊢
      exact h.no x hx
  · by_cases e : x = y
    · simp only [e, if_true] at hu ⊢
      injection hu with hu
      rw [← hu]; exact ho
    · simp only [e, if_false] at hu ⊢
      exact (h.own x u hu).grown hg (hsep x u e hu)
  · by_cases e : x = y
    · have e2 : z ≠ y := fun e2 => hxz (e.trans e2.symm)
      simp only [e, if_true] at hu
      simp only [e2, if_false] at ht
      injection hu with hu
      subst hu
      rcases hat with ha | ha
      · rcases hsep z t e2 ht with h1 | h1
        · rw [ha, h1]
          cases v.ownBlock with
          | none => exact .inl rfl
          | some k => exact .inr (by simp)
        · rw [ha]; exact .inr (Ne.symm h1)
      · right
        rw [ha]
        intro e3
        have := hlt z t ht _ e3.symm
        omega
    · simp only [e, if_false] at hu
      by_cases e2 : z = y
      · simp only [e2, if_true] at ht
        injection ht with ht
        subst ht
        rcases hat with ha | ha
        · rw [ha]; exact hsep x u e hu
        · right
          rw [ha]
          intro e3
          have := hlt x u hu _ e3
          omega
      · simp only [e2, if_false] at ht
        exact h.sep x z u t hxz hu ht
end

/-- Block r is the map of the parts of things. -/
def InM (w : World) (r B : Nat) (l : List Rg) : Prop := ∃ f, MapIs Value.string w r f ∧ RowsM w B f (partsOf l)
section
variable {w w' : World} {B r : Nat} {l : List Rg}
theorem InM.lt (h : InM w r B l) : r < w.heap.size := by obtain ⟨f, h1, _⟩ := h; exact h1.lt
theorem InM.below (h : InM w r B l) (hb : Below w.heap.size w w') : InM w' r B l := by
  obtain ⟨f, h1, h2⟩ := h
  exact ⟨f, h1.below hb, h2.below hb⟩
theorem InM.alloc (h : InM w r B l) (o : Obj) : InM (w.alloc o) r B l := by
  obtain ⟨f, h1, h2⟩ := h
  exact ⟨f, h1.alloc o, h2.alloc o⟩
theorem InM.drewN (h : InM w r B l) (n : Nat) : InM (w.drewN n) r B l := by
  obtain ⟨f, h1, h2⟩ := h
  exact ⟨f, h1.drewN n, h2.drewN n⟩
end
end Go.Proofs.YtnjepmbonhmdnaaDoor
