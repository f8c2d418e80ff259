/- append of one element, the new slice written out. -/
import Derived.Test.YtfninfgohiipjaaGreatDoorHeap
namespace Dw
open Go Go.RowKit

/-- The same, the new slice written out, and where it lies. -/
theorem wpList_pushS {P : Program} {α : Type} {enc : α → List Value} {k : Nat} {ops : Array Oper} {rest : List Oper} {o : Oper} {a : Act} {w : World} {Q : Exit → Act → World → Prop}
    {e : TypeId} {z : Value} {bytes : Nat} (s x : Operand) (t : TypeId) (hT : ElemT P t e z k bytes) (hgd : o.guard = none) (ho : o.op = .call { callee := .builtin .append, args := #[s, x], argTypes := #[t, t] })
    (base : Nat) (v : Value) (l : List α) (hs : a.eval s = v) (hown : OwnL enc k w base e v l)
    (g cp : Nat) (y : α) (hx : a.eval x = .slice (some ⟨g, 0, none⟩) 1 cp) (hnew : w.heap[g]? = some (.cells (enc y).toArray e (0, 0)))
    (hk : (enc y).length = k) (hone : ∀ u ∈ enc y, u.oneCell' = true) (hlen : l.length + 1 ≤ maxLen) (hbytes : (l.length + 1) * bytes ≤ 140737488355328) (hbase : base ≤ w.heap.size)
    (h : ∀ A' c' w', OwnL enc k w' base e (.slice A' (l.length + 1) c') (l ++ [y]) → w.grownBy w' v.ownBlock → Below base w w' → ((Value.slice A' (l.length + 1) c').ownBlock = v.ownBlock ∨ (Value.slice A' (l.length + 1) c').ownBlock = some w.heap.size) →
      wpList P ops Q rest (a.put o.dst (.slice A' (l.length + 1) c')) w') : wpList P ops Q (o :: rest) a w := by
  obtain ⟨i, hi, hz0, hz1, hz2⟩ := info_parts hT.info
  refine wpList_append_own_at _ hgd s x t ho base e i z k bytes hT.ty hi hz0 hz1 hz2 hT.zs hT.pos v l.length (l.flatMap enc) hs hown ⟨g, 0, none⟩ 1 cp (enc y) hx (by rw [hk]; omega) ?_ hone hlen hbytes hbase ?_
  · intro j u hj
    exact World.news_of_block hnew j u (by simpa using hj)
  · intro v' w' h1 h2 _ h4
    have ho' : OwnL enc k w' base e v' (l ++ [y]) := by
      unfold OwnL
      simpa using h1
    obtain ⟨A', c', rfl⟩ : ∃ A' c', v' = .slice A' (l.length + 1) c' := by
      rcases h1.2 with ⟨rfl, hn⟩ | ⟨g, cap, cur, rfl, _⟩
      · omega
      · exact ⟨_, _, rfl⟩
    exact h A' c' w' ho' h2 ((Below.refl _ _).grown h2 hbase fun j hj => (World.ownsRow.lt hown j hj).1) h4
end Dw
