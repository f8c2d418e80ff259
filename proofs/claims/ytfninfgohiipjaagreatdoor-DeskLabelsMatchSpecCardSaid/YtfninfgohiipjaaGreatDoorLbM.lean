/- Maps that know how many entries they have. -/
import Derived.Test.YtfninfgohiipjaaGreatDoorMaps2
namespace Dw
open Go Go.RowKit

def MapSz (w : World) (r n : Nat) : Prop := ∃ (es : Array MapEntry) (clk : Nat), w.heap[r]? = some (.map es clk) ∧ es.size = n
section
variable {w w' : World} {r n : Nat}
theorem MapSz.lt (h : MapSz w r n) : r < w.heap.size := by
  obtain ⟨es, clk, hr, _⟩ := h
  exact (Array.getElem?_eq_some_iff.1 hr).1
theorem MapSz.keep (h : MapSz w r n) (hk : w'.heap[r]? = w.heap[r]?) : MapSz w' r n := by
  obtain ⟨es, clk, hr, rest⟩ := h
  exact ⟨es, clk, hk.trans hr, rest⟩
theorem MapSz.below (h : MapSz w r n) (hb : Below w.heap.size w w') : MapSz w' r n := h.keep (hb.block r h.lt)
theorem MapSz.alloc (h : MapSz w r n) (o : Obj) : MapSz (w.alloc o) r n := h.keep (Below.heap_alloc w o r h.lt)
theorem MapSz.new (w : World) : MapSz (w.alloc (.map #[] 0)) w.heap.size 0 := ⟨#[], 0, heap_alloc_new w _, rfl⟩
theorem run_len_map {P : Program} {T K E : TypeId} (hT : P.underlying T = some (.map K E)) (ty : TypeId) (h : MapSz w r n) : (Builtin.len_ #[T] ty #[Value.map (some r)]).run P w = .ok (.int .i64 (n : Int)) w := by
  obtain ⟨es, clk, hr, rfl⟩ := h
  have hg : (getObj r).run P w = .ok (.map es clk) w := by simp [getObj, Sem.run, hr]
  simp [Builtin.len_, run_underlying hT, hg, goInt]
end
section
variable {P : Program} {κ : Type} [DecidableEq κ] {mk : κ → Value} {T K E : TypeId}
theorem run_update_new (hT : P.underlying T = some (.map K E)) (hK : KeyT P K mk) {w : World} {r n : Nat} {f : κ → Option Value} (h : MapIs mk w r f) (hs : MapSz w r n) (k : κ) (v : Value) (hk : f k = none) :
    ∃ w', (Instr.mapUpdate T (.map (some r)) (mk k) v).run P w = .ok () w' ∧ MapIs mk w' r (fun k' => if k' = k then some v else f k') ∧ MapSz w' r (n + 1) ∧ w.grownBy w' (some r) ∧ w'.heap.size = w.heap.size := by
  obtain ⟨w', h1, h2, h3, h4⟩ := run_update_map hT hK h k v
  refine ⟨w', h1, h2, ?_, h3, h4⟩
  obtain ⟨es, clk, L, hr, hL, hf⟩ := h
  obtain ⟨es', clk', hr', hn⟩ := hs
  rw [hr] at hr'
  injection hr' with hr'
  injection hr' with e1 e2
  subst e1
  have hrl : r < w.heap.size := (Array.getElem?_eq_some_iff.1 hr).1
  obtain ⟨d, hd, hsm⟩ := hK.same
  obtain ⟨o, q1, q2, q3⟩ := findNow_go hsm k es.toList L 0 hL
  have hg : (getObj r).run P w = .ok (.map es clk) w := by simp [getObj, Sem.run, hr]
  have hset : ∀ (es' : Array MapEntry) (c' : Nat), (setObj r (.map es' c')).run P w = .ok () { w with heap := w.heap.setIfInBounds r (.map es' c') } := fun es' c' => by simp [setObj, Sem.run, hr]
  have hfk : (Instr.findKey K (mk k) es.toList).run P w = .ok o w := by
    simp [Instr.findKey, run_underlying hd, q1]
  rw [hf, hk] at q2
  cases o with
  | some p => simp at q2
  | none =>
    have hrun : (Instr.mapUpdate T (.map (some r)) (mk k) v).run P w = .ok () { w with heap := w.heap.setIfInBounds r (.map (es.push { key := mk k, val := v, born := clk }) (clk + 1)) } := by
      simp [Instr.mapUpdate, run_underlying hT, hg, hK.chk, hfk, hset]
    rw [hrun] at h1
    injection h1 with _ h1
    subst h1
    exact ⟨_, _, by simp [hrl]; exact ⟨rfl, rfl⟩, by simp [hn]⟩
end
end Dw
