/- Words for memory: slices that read as lists, kept under calls that only make memory. -/
import Derived.WalkKit
import Derived.Lib.Hide
import Derived.Deep.LoopGhost
import Derived.WalkLawsBesides
import Derived.WalkSpells
import Derived.Deep.AppendLies
import Derived.Maps.AppendAt
import Derived.Deep.QuietTactic
import Derived.BigQuiet
namespace Dw
open Go Go.RowKit

/-- A slice of one-cell elements reads as a list. -/
def Rd1 {α : Type} (f : α → Value) (w : World) (A : Option Addr) (l : List α) : Prop :=
  0 < l.length → ∃ b o : Nat, A = some ⟨b, o, none⟩ ∧ ∀ i (h : i < l.length), w.cell? ⟨b, o + i, none⟩ = some (f l[i])
/-- A slice of two-cell elements reads as a list. -/
def Rd2 {α : Type} (f g : α → Value) (w : World) (A : Option Addr) (l : List α) : Prop :=
  0 < l.length → ∃ b o : Nat, A = some ⟨b, o, none⟩ ∧ ∀ i (h : i < l.length), w.cell? ⟨b, o + i * 2, none⟩ = some (f l[i]) ∧ w.cell? ⟨b, o + i * 2 + 1, none⟩ = some (g l[i])

section
variable {α : Type} {f g : α → Value} {w w' : World} {A : Option Addr} {l : List α}
theorem Rd1.nil : Rd1 f w A [] := fun h => absurd h (by simp)
theorem Rd2.nil : Rd2 f g w A [] := fun h => absurd h (by simp)
theorem Rd1.keep (h : Rd1 f w A l) (hk : ∀ b o, b < w.heap.size → w'.cell? ⟨b, o, none⟩ = w.cell? ⟨b, o, none⟩) : Rd1 f w' A l := fun hl => by
  obtain ⟨b, o, rfl, hc⟩ := h hl
  exact ⟨b, o, rfl, fun i hi => (hk _ _ (World.block_lt_of_cell? w _ (hc i hi))).trans (hc i hi)⟩
theorem Rd2.keep (h : Rd2 f g w A l) (hk : ∀ b o, b < w.heap.size → w'.cell? ⟨b, o, none⟩ = w.cell? ⟨b, o, none⟩) : Rd2 f g w' A l := fun hl => by
  obtain ⟨b, o, rfl, hc⟩ := h hl
  exact ⟨b, o, rfl, fun i hi => ⟨(hk _ _ (World.block_lt_of_cell? w _ (hc i hi).1)).trans (hc i hi).1, (hk _ _ (World.block_lt_of_cell? w _ (hc i hi).2)).trans (hc i hi).2⟩⟩
theorem Rd1.below (h : Rd1 f w A l) (hb : Below w.heap.size w w') : Rd1 f w' A l := h.keep fun _ _ hlt => hb.cell hlt
theorem Rd2.below (h : Rd2 f g w A l) (hb : Below w.heap.size w w') : Rd2 f g w' A l := h.keep fun _ _ hlt => hb.cell hlt
theorem Rd1.alloc (h : Rd1 f w A l) (o : Obj) : Rd1 f (w.alloc o) A l := h.keep fun _ _ hlt => World.cell?_alloc_lt _ _ _ hlt
theorem Rd2.alloc (h : Rd2 f g w A l) (o : Obj) : Rd2 f g (w.alloc o) A l := h.keep fun _ _ hlt => World.cell?_alloc_lt _ _ _ hlt
theorem Rd1.drew (h : Rd1 f w A l) : Rd1 f w.drew A l := h
theorem Rd2.drew (h : Rd2 f g w A l) : Rd2 f g w.drew A l := h
theorem Rd1.drewN (h : Rd1 f w A l) (n : Nat) : Rd1 f (w.drewN n) A l := h
theorem Rd2.drewN (h : Rd2 f g w A l) (n : Nat) : Rd2 f g (w.drewN n) A l := h
theorem Rd1.at_ (h : Rd1 f w A l) (hl : 0 < l.length) : ∃ b o : Nat, A = some ⟨b, o, none⟩ ∧ b < w.heap.size ∧ ∀ i (h : i < l.length), w.cell? ⟨b, o + i, none⟩ = some (f l[i]) := by
  obtain ⟨b, o, rfl, hc⟩ := h hl
  exact ⟨b, o, rfl, World.block_lt_of_cell? w _ (hc 0 hl), hc⟩
theorem Rd2.at_ (h : Rd2 f g w A l) (hl : 0 < l.length) : ∃ b o : Nat, A = some ⟨b, o, none⟩ ∧ b < w.heap.size ∧ ∀ i (h : i < l.length), w.cell? ⟨b, o + i * 2, none⟩ = some (f l[i]) ∧ w.cell? ⟨b, o + i * 2 + 1, none⟩ = some (g l[i]) := by
  obtain ⟨b, o, rfl, hc⟩ := h hl
  exact ⟨b, o, rfl, World.block_lt_of_cell? w _ (hc 0 hl).1, hc⟩
end

theorem below_trans {a b c : World} (h : Below a.heap.size a b) (k : Below b.heap.size b c) : Below a.heap.size a c := h.trans (k.mono h.size)
theorem below_drewN {B : Nat} {a w : World} (h : Below B a w) (n : Nat) : Below B a (w.drewN n) := ⟨h.os, h.tape, h.output, h.size, h.block⟩

/-- An owned row of one-cell elements reads as its list. -/
theorem Rd1.of_own {α : Type} {f : α → Value} {w : World} {base : Nat} {e : TypeId} {l : List α} {v : Value} (h : w.ownsRow base e 1 v l.length (l.map f)) :
    ∃ A c, v = .slice A l.length c ∧ Rd1 f w A l := by
  rcases h.2 with ⟨rfl, hn⟩ | ⟨g, cap, cur, rfl, hb, hg, hnc, hm, hs, htake⟩
  · exact ⟨none, 0, by rw [hn], fun hl => by omega⟩
  · refine ⟨_, _, rfl, fun hl => ⟨g, 0, rfl, fun i hi => ?_⟩⟩
    rw [Nat.zero_add, cell_of_row w g i cur e (0, 0) hg]
    have : (cur.toList.take (l.length * 1))[i]? = (l.map f)[i]? := by rw [htake]
    rw [List.getElem?_take, if_pos (by omega)] at this
    simpa [hi] using this

/-- The row of a slice's element type in the program's table. -/
structure ElemT (P : Program) (t e : TypeId) (z : Value) (size bytes : Nat) : Prop where
  ty : P.underlying t = some (.slice e)
  info : (P.info? e).map (fun i => (i.zero, i.size, i.bytes)) = some (some z, size, bytes)
  zs : z.cells.size = size
  pos : 0 < size

/-- A slice value that is the call's own and holds a list. -/
def OwnL {α : Type} (enc : α → List Value) (k : Nat) (w : World) (base : Nat) (e : TypeId) (v : Value) (l : List α) : Prop :=
  w.ownsRow base e k v l.length (l.flatMap enc)

section
variable {α : Type} {enc : α → List Value} {k : Nat} {w w' : World} {base : Nat} {e : TypeId} {v : Value} {l : List α}
theorem OwnL.nil (enc : α → List Value) (k : Nat) (w : World) (base : Nat) (e : TypeId) : OwnL enc k w base e (.slice none 0 0) ([] : List α) := World.ownsRow_nil w base e k
theorem OwnL.alloc (h : OwnL enc k w base e v l) (o : Obj) : OwnL enc k (w.alloc o) base e v l := World.ownsRow.alloc h o
theorem OwnL.grown {row : Option Nat} (h : OwnL enc k w base e v l) (hg : w.grownBy w' row) (hne : v.ownBlock = none ∨ v.ownBlock ≠ row) : OwnL enc k w' base e v l := World.ownsRow.kept h hg hne
theorem grownBy_of_below (hb : Below w.heap.size w w') (row : Option Nat) : w.grownBy w' row := ⟨hb.os, hb.tape, hb.output, hb.size, fun i hi _ => hb.block i hi⟩
theorem OwnL.below (h : OwnL enc k w base e v l) (hb : Below w.heap.size w w') : OwnL enc k w' base e v l :=
  h.grown (row := none) (grownBy_of_below hb none) (by cases hv : v.ownBlock <;> simp)
theorem OwnL.drewN (h : OwnL enc k w base e v l) (n : Nat) : OwnL enc k (w.drewN n) base e v l := h
theorem flat1 {f : α → Value} (l : List α) : l.flatMap (fun x => [f x]) = l.map f := by
  induction l with
  | nil => rfl
  | cons a t ih => simp [List.flatMap_cons, ih]
theorem OwnL.rd1 {f : α → Value} (h : OwnL (fun x => [f x]) 1 w base e v l) : ∃ A c, v = .slice A l.length c ∧ Rd1 f w A l := by
  refine Rd1.of_own (base := base) (e := e) ?_
  unfold OwnL at h
  rw [flat1] at h
  exact h
theorem flat2 {f g : α → Value} (l : List α) (i : Nat) (hi : i < l.length) : (l.flatMap fun x => [f x, g x])[i * 2]? = some (f l[i]) ∧ (l.flatMap fun x => [f x, g x])[i * 2 + 1]? = some (g l[i]) := by
  induction l generalizing i with
  | nil => simp at hi
  | cons a t ih =>
    cases i with
    | zero => simp [List.flatMap_cons]
    | succ i =>
      have := ih i (by simpa using hi)
      rw [List.flatMap_cons, show (i + 1) * 2 = i * 2 + 2 from by omega, show i * 2 + 2 + 1 = (i * 2 + 1) + 2 from by omega]
      simpa using this
theorem OwnL.rd2 {f g : α → Value} (h : OwnL (fun x => [f x, g x]) 2 w base e v l) : ∃ A c, v = .slice A l.length c ∧ Rd2 f g w A l := by
  rcases h.2 with ⟨rfl, hn⟩ | ⟨b, cap, cur, rfl, hb, hg, hnc, hm, hs, htake⟩
  · exact ⟨none, 0, by rw [hn], fun hl => by omega⟩
  · refine ⟨_, _, rfl, fun hl => ⟨b, 0, rfl, fun i hi => ?_⟩⟩
    obtain ⟨h0, h1⟩ := flat2 (f := f) (g := g) l i hi
    rw [← htake, List.getElem?_take, if_pos (by omega)] at h0 h1
    rw [Nat.zero_add, cell_of_row w b _ cur e (0, 0) hg, cell_of_row w b _ cur e (0, 0) hg]
    exact ⟨by simpa using h0, by simpa using h1⟩
end

/-- append of one element to a slice of the call's own. -/
theorem wpList_push {P : Program} {α : Type} {enc : α → List Value} {k : Nat} {ops : Array Oper} {rest : List Oper} {o : Oper} {a : Act} {w : World} {Q : Exit → Act → World → Prop}
    {e : TypeId} {z : Value} {bytes : Nat} (s x : Operand) (t : TypeId) (hT : ElemT P t e z k bytes) (hgd : o.guard = none) (ho : o.op = .call { callee := .builtin .append, args := #[s, x], argTypes := #[t, t] })
    (base : Nat) (v : Value) (l : List α) (hs : a.eval s = v) (hown : OwnL enc k w base e v l)
    (g cp : Nat) (y : α) (hx : a.eval x = .slice (some ⟨g, 0, none⟩) 1 cp) (hnew : w.heap[g]? = some (.cells (enc y).toArray e (0, 0)))
    (hk : (enc y).length = k) (hone : ∀ u ∈ enc y, u.oneCell' = true) (hlen : l.length + 1 ≤ maxLen) (hbytes : (l.length + 1) * bytes ≤ 140737488355328) (hbase : base ≤ w.heap.size)
    (h : ∀ v' w', OwnL enc k w' base e v' (l ++ [y]) → w.grownBy w' v.ownBlock → Below base w w' → wpList P ops Q rest (a.put o.dst v') w') : wpList P ops Q (o :: rest) a w := by
  obtain ⟨i, hi, hz0, hz1, hz2⟩ := info_parts hT.info
  refine wpList_append_own _ hgd s x t ho base e i z k bytes hT.ty hi hz0 hz1 hz2 hT.zs hT.pos v l.length (l.flatMap enc) hs hown ⟨g, 0, none⟩ 1 cp (enc y) hx (by rw [hk]; omega) ?_ hone hlen hbytes hbase ?_
  · intro j u hj
    have := World.news_of_block hnew j u (by simpa using hj)
    exact this
  · intro v' w' h1 h2 _
    refine h v' w' ?_ h2 ((Below.refl _ _).grown h2 hbase fun j hj => (World.ownsRow.lt hown j hj).1)
    unfold OwnL
    simpa using h1
end Dw
