/- Words for maps whose keys are structs: keys are told apart by asking. -/
import Derived.Test.YtfninfgohiipjaaGreatDoorMaps
import Derived.Laws.StructEq
namespace Dw
open Go Go.RowKit

/-- What is asked of a key's type: a key is found where it stands first. -/
structure KeyF (P : Program) (K : TypeId) {κ : Type} [DecidableEq κ] (mk : κ → Value) : Prop where
  find : ∀ (k : κ) (es : List MapEntry) (L : List (κ × Value)) (w : World), es.map (fun e => (e.key, e.val)) = L.map (fun p => (mk p.1, p.2)) →
    ∃ o, (Instr.findKey K (mk k) es).run P w = .ok o w ∧ o.map (·.2) = lookE L k ∧ (∀ j v, o = some (j, v) → j < L.length ∧ (L[j]?).map (·.1) = some k ∧ ∀ t, t < j → (L[t]?).map (·.1) ≠ some k)
  bits : ∀ a, Instr.sameBits 10000 (mk a) (mk a) = true
  chk : ∀ (b : Bool) (a : κ) (w : World), (Instr.checkKey b 10000 K (mk a)).run P w = .ok () w

section
variable {P : Program} {κ : Type} [DecidableEq κ] {mk : κ → Value} {T K E : TypeId}

theorem findAsking_go (heq : ∀ a b w, (Op.equal K (mk a) (mk b)).run P w = .ok (decide (a = b)) w) (k : κ) (w : World) :
    ∀ (es : List MapEntry) (L : List (κ × Value)) (i : Nat), es.map (fun e => (e.key, e.val)) = L.map (fun p => (mk p.1, p.2)) →
      ∃ o, (Instr.findAsking K (mk k) es i).run P w = .ok o w ∧ o.map (·.2) = lookE L k ∧
        (∀ j v, o = some (j, v) → i ≤ j ∧ j - i < L.length ∧ (L[j - i]?).map (·.1) = some k ∧ ∀ t, t < j - i → (L[t]?).map (·.1) ≠ some k) := by
  intro es
  induction es with
  | nil =>
    intro L i h
    cases L with
    | nil => exact ⟨none, by simp [Instr.findAsking], rfl, fun j v h => by cases h⟩
    | cons a t => simp at h
  | cons e es ih =>
    intro L i h
    cases L with
    | nil => simp at h
    | cons a t =>
      simp only [List.map_cons, List.cons.injEq, Prod.mk.injEq] at h
      obtain ⟨⟨hk, hv⟩, ht⟩ := h
      by_cases he : k = a.1
      · refine ⟨some (i, e.val), by simp [Instr.findAsking, hk, heq, he], ?_, ?_⟩
        · simp [lookE, he, hv]
        · intro j v hj
          simp only [Option.some.injEq, Prod.mk.injEq] at hj
          obtain ⟨rfl, rfl⟩ := hj
          simp [he]
      · obtain ⟨o, h1, h2, h3⟩ := ih t (i + 1) ht
        refine ⟨o, by simpa [Instr.findAsking, hk, heq, he] using h1, ?_, ?_⟩
        · rw [h2]; simp [lookE, he]
        · intro j v hj
          obtain ⟨h4, h5, h6, h7⟩ := h3 j v hj
          have e1 : j - i = (j - (i + 1)) + 1 := by omega
          refine ⟨by omega, by simp; omega, by rw [e1]; simpa using h6, fun s hs => ?_⟩
          cases s with
          | zero => simp; exact fun hh => he hh.symm
          | succ s => simpa using h7 s (by omega)

/-- Keys that are told apart by '==' alone. -/
theorem keyF_ask {d : TypeDesc} (hd : P.underlying K = some d) (hnow : ∀ a b, Instr.sameNow d (mk a) (mk b) = none) (heq : ∀ a b w, (Op.equal K (mk a) (mk b)).run P w = .ok (decide (a = b)) w)
    (hbits : ∀ a, Instr.sameBits 10000 (mk a) (mk a) = true) (hchk : ∀ (b : Bool) (a : κ) (w : World), (Instr.checkKey b 10000 K (mk a)).run P w = .ok () w) : KeyF P K mk where
  bits := hbits
  chk := hchk
  find k es L w h := by
    cases es with
    | nil =>
      cases L with
      | nil => exact ⟨none, by simp [Instr.findKey, run_underlying hd, Instr.findNow], rfl, fun j v h => by cases h⟩
      | cons a t => simp at h
    | cons e es =>
      obtain ⟨o, h1, h2, h3⟩ := findAsking_go heq k w (e :: es) L 0 h
      have hn : Instr.findNow d (mk k) (e :: es) 0 = none := by
        cases L with
        | nil => simp at h
        | cons a t =>
          simp only [List.map_cons, List.cons.injEq, Prod.mk.injEq] at h
          unfold Instr.findNow
          rw [h.1.1, hnow]
      refine ⟨o, by simp [Instr.findKey, run_underlying hd, hn, h1], h2, fun j v hj => ?_⟩
      obtain ⟨_, h5, h6, h7⟩ := h3 j v hj
      exact ⟨h5, h6, h7⟩

theorem run_lookup_mapF (hT : P.underlying T = some (.map K E)) (hK : KeyF P K mk) {z : Value} (hz : ∀ w, (zeroValue E).run P w = .ok z w) {w : World} {r : Nat} {f : κ → Option Value} (h : MapIs mk w r f) (k : κ) (ok : Bool) :
    (Instr.lookup T (.map (some r)) (mk k) ok).run P w = .ok (if ok then .tuple #[(f k).getD z, .bool (f k).isSome] else (f k).getD z) w := by
  obtain ⟨es, clk, L, hr, hL, hf⟩ := h
  obtain ⟨o, hfk, h2, _⟩ := hK.find k es.toList L w hL
  have hg : (getObj r).run P w = .ok (.map es clk) w := by simp [getObj, Sem.run, hr]
  rw [hf] at h2
  cases o with
  | none =>
    have : f k = none := by simpa using h2.symm
    simp [Instr.lookup, run_underlying hT, hg, hK.chk, hfk, hz, this]
  | some p =>
    obtain ⟨i, v⟩ := p
    have : f k = some v := by simpa using h2.symm
    simp [Instr.lookup, run_underlying hT, hg, hK.chk, hfk, this]

theorem run_update_mapF (hT : P.underlying T = some (.map K E)) (hK : KeyF P K mk) {w : World} {r : Nat} {f : κ → Option Value} (h : MapIs mk w r f) (k : κ) (v : Value) :
    ∃ w', (Instr.mapUpdate T (.map (some r)) (mk k) v).run P w = .ok () w' ∧ MapIs mk w' r (fun k' => if k' = k then some v else f k') ∧ w.grownBy w' (some r) ∧ w'.heap.size = w.heap.size := by
  obtain ⟨es, clk, L, hr, hL, hf⟩ := h
  have hrl : r < w.heap.size := (Array.getElem?_eq_some_iff.1 hr).1
  obtain ⟨o, hfk, h2, h3⟩ := hK.find k es.toList L w hL
  have hg : (getObj r).run P w = .ok (.map es clk) w := by simp [getObj, Sem.run, hr]
  have hset : ∀ (es' : Array MapEntry) (c' : Nat), (setObj r (.map es' c')).run P w = .ok () { w with heap := w.heap.setIfInBounds r (.map es' c') } := fun es' c' => by simp [setObj, Sem.run, hr]
  have hgrow : ∀ (es' : Array MapEntry) (c' : Nat), w.grownBy { w with heap := w.heap.setIfInBounds r (.map es' c') } (some r) := fun es' c' =>
    ⟨rfl, rfl, rfl, by simp, fun i hi hne => by simp only [Array.getElem?_setIfInBounds]; rw [if_neg (fun e => hne (by rw [e]))]⟩
  have hget : ∀ (es' : Array MapEntry) (c' : Nat), ({ w with heap := w.heap.setIfInBounds r (.map es' c') } : World).heap[r]? = some (.map es' c') := fun es' c' => by
    simp [hrl]
  rw [hf] at h2
  have hlen : es.size = L.length := by have := congrArg List.length hL; simpa using this
  cases o with
  | none =>
    have hn : f k = none := by simpa using h2.symm
    refine ⟨_, ?_, ⟨_, _, L ++ [(k, v)], hget (es.push { key := mk k, val := v, born := clk }) (clk + 1), ?_, ?_⟩, hgrow _ _, by simp⟩
    · simp [Instr.mapUpdate, run_underlying hT, hg, hK.chk, hfk, hset]
    · simp [hL]
    · intro k'
      rw [lookE_push (by rw [hf]; exact hn), hf]
  | some p =>
    obtain ⟨i, v0⟩ := p
    obtain ⟨h5, h6, h7⟩ := h3 i v0 rfl
    have hi : i < es.size := by omega
    have hkey : es[i].key = mk k := by
      have e1 : (es.toList.map fun e => (e.key, e.val))[i]? = (L.map fun p => (mk p.1, p.2))[i]? := by rw [hL]
      rw [List.getElem?_map, List.getElem?_map, List.getElem?_eq_getElem h5, List.getElem?_eq_getElem (by simpa using hi)] at e1
      rw [List.getElem?_eq_getElem h5] at h6
      simp only [Option.map_some, Option.some.injEq, Prod.mk.injEq] at e1 h6
      rw [← h6]; simpa using e1.1
    have hstay : ∀ x, (Instr.keyThatStays (mk k) (mk k)).run P x = .ok (mk k) x := fun x => by
      simp [Instr.keyThatStays, hK.bits]
    refine ⟨_, ?_, ⟨_, _, L.modify i fun _ => (k, v), hget (es.modify i fun e => { e with key := mk k, val := v }) clk, ?_, ?_⟩, hgrow _ _, by simp⟩
    · simp [Instr.mapUpdate, run_underlying hT, hg, hK.chk, hfk, hi, hkey, hstay, hset]
    · apply List.ext_getElem?
      intro n
      have e1 : (es.toList.map fun e => (e.key, e.val))[n]? = (L.map fun p => (mk p.1, p.2))[n]? := by rw [hL]
      rw [List.getElem?_map, List.getElem?_map] at e1
      rw [List.getElem?_map, List.getElem?_map, List.getElem?_modify, Array.toList_modify, List.getElem?_modify]
      by_cases hn : i = n
      · subst hn
        rw [List.getElem?_eq_getElem h5, List.getElem?_eq_getElem (by simpa using hi)]
        simp
      · simp only [hn, if_false]
        cases hx : es.toList[n]? <;> cases hy : L[n]? <;> simp_all
    · intro k'
      rw [lookE_set h5 h6 h7, hf]
end
end Dw
