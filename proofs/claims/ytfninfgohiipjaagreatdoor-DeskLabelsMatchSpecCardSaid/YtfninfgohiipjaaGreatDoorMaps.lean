/- Words for maps: a map that reads as a function from keys to values. -/
import Derived.Test.YtfninfgohiipjaaGreatDoorHeap
namespace Dw
open Go Go.RowKit

/-- What is asked of a key's type: keys are made by mk and are told apart by looking. -/
structure KeyT (P : Program) (K : TypeId) {κ : Type} [DecidableEq κ] (mk : κ → Value) : Prop where
  same : ∃ d, P.underlying K = some d ∧ ∀ a b, Instr.sameNow d (mk a) (mk b) = some (decide (a = b))
  bits : ∀ a, Instr.sameBits 10000 (mk a) (mk a) = true
  chk : ∀ (b : Bool) (a : κ) (w : World), (Instr.checkKey b 10000 K (mk a)).run P w = .ok () w

def lookE {κ : Type} [DecidableEq κ] (es : List (κ × Value)) (k : κ) : Option Value := (es.find? fun e => decide (k = e.1)).map (·.2)

/-- Block r is a map that reads as f. -/
def MapIs {κ : Type} [DecidableEq κ] (mk : κ → Value) (w : World) (r : Nat) (f : κ → Option Value) : Prop :=
  ∃ (es : Array MapEntry) (clk : Nat) (L : List (κ × Value)), w.heap[r]? = some (.map es clk) ∧ es.toList.map (fun e => (e.key, e.val)) = L.map (fun p => (mk p.1, p.2)) ∧ ∀ k, lookE L k = f k

section
variable {κ : Type} [DecidableEq κ] {mk : κ → Value} {w w' : World} {r : Nat} {f : κ → Option Value}
theorem MapIs.lt (h : MapIs mk w r f) : r < w.heap.size := by
  obtain ⟨es, clk, L, hr, _⟩ := h
  exact (Array.getElem?_eq_some_iff.1 hr).1
theorem MapIs.keep (h : MapIs mk w r f) (hk : w'.heap[r]? = w.heap[r]?) : MapIs mk w' r f := by
  obtain ⟨es, clk, L, hr, rest⟩ := h
  exact ⟨es, clk, L, hk.trans hr, rest⟩
theorem MapIs.below (h : MapIs mk w r f) (hb : Below w.heap.size w w') : MapIs mk w' r f := h.keep (hb.block r h.lt)
theorem MapIs.alloc (h : MapIs mk w r f) (o : Obj) : MapIs mk (w.alloc o) r f := h.keep (Below.heap_alloc w o r h.lt)
theorem MapIs.drewN (h : MapIs mk w r f) (n : Nat) : MapIs mk (w.drewN n) r f := h
theorem MapIs.drew (h : MapIs mk w r f) : MapIs mk w.drew r f := h
theorem MapIs.new (mk : κ → Value) (w : World) : MapIs mk (w.alloc (.map #[] 0)) w.heap.size (fun _ => none) :=
  ⟨#[], 0, [], heap_alloc_new w _, rfl, fun _ => rfl⟩
theorem MapIs.setCell (h : MapIs mk w r f) {a : Addr} (ha : r ≠ a.block) (u : Value) : MapIs mk (w.setCell a u) r f := h.keep (heap_setCell_other w a r u ha)
end

theorem findNow_go {κ : Type} [DecidableEq κ] {mk : κ → Value} {d : TypeDesc} (hs : ∀ a b, Instr.sameNow d (mk a) (mk b) = some (decide (a = b))) (k : κ) :
    ∀ (es : List MapEntry) (L : List (κ × Value)) (i : Nat), es.map (fun e => (e.key, e.val)) = L.map (fun p => (mk p.1, p.2)) →
      ∃ o, Instr.findNow d (mk k) es i = some o ∧ o.map (·.2) = lookE L k ∧
        (∀ j v, o = some (j, v) → i ≤ j ∧ j - i < L.length ∧ (L[j - i]?).map (·.1) = some k ∧ ∀ t, t < j - i → (L[t]?).map (·.1) ≠ some k) := by
  intro es
  induction es with
  | nil =>
    intro L i h
    cases L with
    | nil => exact ⟨none, rfl, rfl, fun j v h => by cases h⟩
    | cons a t => simp at h
  | cons e es ih =>
    intro L i h
    cases L with
    | nil => simp at h
    | cons a t =>
      simp only [List.map_cons, List.cons.injEq, Prod.mk.injEq] at h
      obtain ⟨⟨hk, hv⟩, ht⟩ := h
      unfold Instr.findNow
      rw [hk, hs]
      by_cases he : k = a.1
      · refine ⟨some (i, e.val), by simp [he], ?_, ?_⟩
        · simp [lookE, he, hv]
        · intro j v hj
          simp only [Option.some.injEq, Prod.mk.injEq] at hj
          obtain ⟨rfl, rfl⟩ := hj
          simp [he]
      · obtain ⟨o, h1, h2, h3⟩ := ih t (i + 1) ht
        refine ⟨o, by simpa [he] using h1, ?_, ?_⟩
        · rw [h2]; simp [lookE, he]
        · intro j v hj
          obtain ⟨h4, h5, h6, h7⟩ := h3 j v hj
          have e1 : j - i = (j - (i + 1)) + 1 := by omega
          refine ⟨by omega, by simp; omega, by rw [e1]; simpa using h6, fun s hs => ?_⟩
          cases s with
          | zero => simp; exact fun hh => he hh.symm
          | succ s => simpa using h7 s (by omega)

section
variable {P : Program} {κ : Type} [DecidableEq κ] {mk : κ → Value} {T K E : TypeId}

theorem run_lookup_map (hT : P.underlying T = some (.map K E)) (hK : KeyT P K mk) {z : Value} (hz : ∀ w, (zeroValue E).run P w = .ok z w) {w : World} {r : Nat} {f : κ → Option Value} (h : MapIs mk w r f) (k : κ) (ok : Bool) :
    (Instr.lookup T (.map (some r)) (mk k) ok).run P w = .ok (if ok then .tuple #[(f k).getD z, .bool (f k).isSome] else (f k).getD z) w := by
  obtain ⟨es, clk, L, hr, hL, hf⟩ := h
  obtain ⟨d, hd, hs⟩ := hK.same
  obtain ⟨o, h1, h2, _⟩ := findNow_go hs k es.toList L 0 hL
  have hg : (getObj r).run P w = .ok (.map es clk) w := by simp [getObj, Sem.run, hr]
  have hfk : (Instr.findKey K (mk k) es.toList).run P w = .ok o w := by
    simp [Instr.findKey, run_underlying hd, h1]
  rw [hf] at h2
  cases o with
  | none =>
    have : f k = none := by simpa using h2.symm
    simp [Instr.lookup, run_underlying hT, hg, hK.chk, hfk, hz, this]
  | some p =>
    obtain ⟨i, v⟩ := p
    have : f k = some v := by simpa using h2.symm
    simp [Instr.lookup, run_underlying hT, hg, hK.chk, hfk, this]

theorem chk_string (hK : P.underlying K = some .string) (b : Bool) (a : ByteArray) (w : World) (n : Nat) : (Instr.checkKey b (n + 1) K (.string a)).run P w = .ok () w := by
  simp [Instr.checkKey, run_underlying hK]
theorem chk_int (hK : P.underlying K = some (.int .i64)) (b : Bool) (a : Int) (w : World) (n : Nat) : (Instr.checkKey b (n + 1) K (.int .i64 a)).run P w = .ok () w := by
  simp [Instr.checkKey, run_underlying hK]
theorem keyT_string (hK : P.underlying K = some .string) : KeyT P K Value.string where
  same := ⟨_, hK, fun a b => by
    simp only [Instr.sameNow, Option.some.injEq]
    rw [beq_toListBytes, Bool.eq_iff_iff]
    constructor
    · intro h
      have h' : a.toList = b.toList := by simpa using h
      rw [ByteArray.toList_eq, ByteArray.toList_eq] at h'
      simpa using ByteArray.ext (Array.toList_inj.1 h')
    · intro h
      have : a = b := by simpa using h
      subst this; simp⟩
  bits a := by
    simp only [Instr.sameBits]
    rw [beq_toListBytes]; simp
  chk b a w := chk_string hK b a w 9999
theorem keyT_int (hK : P.underlying K = some (.int .i64)) : KeyT P K (fun n : Int => Value.int .i64 n) where
  same := ⟨_, hK, fun a b => by simp only [Instr.sameNow, if_true, Option.some.injEq]; rfl⟩
  bits a := by simp [Instr.sameBits]
  chk b a w := chk_int hK b a w 9999

theorem lookE_set {L : List (κ × Value)} {j : Nat} {k : κ} {v : Value} (hj : j < L.length) (hk : (L[j]?).map (·.1) = some k) (hmin : ∀ t, t < j → (L[t]?).map (·.1) ≠ some k) :
    ∀ k', lookE (L.modify j fun _ => (k, v)) k' = if k' = k then some v else lookE L k' := by
  induction L generalizing j with
  | nil => simp at hj
  | cons a t ih =>
    intro k'
    cases j with
    | zero =>
      have ha : a.1 = k := by simpa using hk
      by_cases h : k' = k
      · subst h; simp [lookE]
      · simp [lookE, h, ha]
    | succ j =>
      have ha : a.1 ≠ k := by
        have := hmin 0 (by omega)
        simpa using this
      have := ih (j := j) (by simpa using hj) (by simpa using hk) (fun s hs => by simpa using hmin (s + 1) (by omega)) k'
      by_cases h : k' = a.1
      · subst h; simp [lookE, ha]
      · simp only [List.modify_succ_cons]
        unfold lookE at this ⊢
        rw [List.find?_cons_of_neg (by simpa using h), List.find?_cons_of_neg (by simpa using h)]
        exact this
theorem lookE_push {L : List (κ × Value)} {k : κ} {v : Value} (h : lookE L k = none) : ∀ k', lookE (L ++ [(k, v)]) k' = if k' = k then some v else lookE L k' := by
  intro k'
  unfold lookE at *
  rw [List.find?_append]
  by_cases hk : k' = k
  · subst hk
    have : L.find? (fun e => decide (k' = e.1)) = none := by simpa using h
    simp [this]
  · simp only [List.find?_cons, hk, decide_false, List.find?_nil, if_false]
    cases L.find? (fun e => decide (k' = e.1)) <;> rfl

theorem run_update_map (hT : P.underlying T = some (.map K E)) (hK : KeyT P K mk) {w : World} {r : Nat} {f : κ → Option Value} (h : MapIs mk w r f) (k : κ) (v : Value) :
    ∃ w', (Instr.mapUpdate T (.map (some r)) (mk k) v).run P w = .ok () w' ∧ MapIs mk w' r (fun k' => if k' = k then some v else f k') ∧ w.grownBy w' (some r) ∧ w'.heap.size = w.heap.size := by
  obtain ⟨es, clk, L, hr, hL, hf⟩ := h
  have hrl : r < w.heap.size := (Array.getElem?_eq_some_iff.1 hr).1
  obtain ⟨d, hd, hs⟩ := hK.same
  obtain ⟨o, h1, h2, h3⟩ := findNow_go hs k es.toList L 0 hL
  have hg : (getObj r).run P w = .ok (.map es clk) w := by simp [getObj, Sem.run, hr]
  have hset : ∀ (es' : Array MapEntry) (c' : Nat), (setObj r (.map es' c')).run P w = .ok () { w with heap := w.heap.setIfInBounds r (.map es' c') } := fun es' c' => by simp [setObj, Sem.run, hr]
  have hfk : (Instr.findKey K (mk k) es.toList).run P w = .ok o w := by
    simp [Instr.findKey, run_underlying hd, h1]
  have hgrow : ∀ (es' : Array MapEntry) (c' : Nat), w.grownBy { w with heap := w.heap.setIfInBounds r (.map es' c') } (some r) := fun es' c' =>
    ⟨rfl, rfl, rfl, by simp, fun i hi hne => by simp only [Array.getElem?_setIfInBounds]; rw [if_neg (fun e => hne (by rw [e]))]⟩
  have hget : ∀ (es' : Array MapEntry) (c' : Nat), ({ w with heap := w.heap.setIfInBounds r (.map es' c') } : World).heap[r]? = some (.map es' c') := fun es' c' => by
    simp [hrl]
  rw [hf] at h2
  have hlen : es.size = L.length := by have := congrArg List.length hL; simpa using this
  cases o with
  | none =>
    have hn : f k = none := by simpa using h2.symm
    refine ⟨_, ?_, ⟨_, _, L ++ [(k, v)], hget (es.push { key := mk k, val := v, born := clk }) (clk + 1), ?_, ?_⟩, hgrow _ _, by simp⟩
    · simp [Instr.mapUpdate, run_underlying hT, hg, hK.chk, hfk, hset]
    · simp [hL]
    · intro k'
      rw [lookE_push (by rw [hf]; exact hn), hf]
  | some p =>
    obtain ⟨i, v0⟩ := p
    obtain ⟨_, h5, h6, h7⟩ := h3 i v0 rfl
    simp only [Nat.sub_zero] at h5 h6 h7
    have hi : i < es.size := by omega
    have hkey : es[i].key = mk k := by
      have e1 : (es.toList.map fun e => (e.key, e.val))[i]? = (L.map fun p => (mk p.1, p.2))[i]? := by rw [hL]
      rw [List.getElem?_map, List.getElem?_map, List.getElem?_eq_getElem h5, List.getElem?_eq_getElem (by simpa using hi)] at e1
      rw [List.getElem?_eq_getElem h5] at h6
      simp only [Option.map_some, Option.some.injEq, Prod.mk.injEq] at e1 h6
      rw [← h6]; simpa using e1.1
    have hstay : ∀ x, (Instr.keyThatStays (mk k) (mk k)).run P x = .ok (mk k) x := fun x => by
      simp [Instr.keyThatStays, hK.bits]
    refine ⟨_, ?_, ⟨_, _, L.modify i fun _ => (k, v), hget (es.modify i fun e => { e with key := mk k, val := v }) clk, ?_, ?_⟩, hgrow _ _, by simp⟩
    · simp [Instr.mapUpdate, run_underlying hT, hg, hK.chk, hfk, hi, hkey, hstay, hset]
    · apply List.ext_getElem?
      intro n
      have e1 : (es.toList.map fun e => (e.key, e.val))[n]? = (L.map fun p => (mk p.1, p.2))[n]? := by rw [hL]
      rw [List.getElem?_map, List.getElem?_map] at e1
      rw [List.getElem?_map, List.getElem?_map, List.getElem?_modify, Array.toList_modify, List.getElem?_modify]
      by_cases hn : i = n
      · subst hn
        rw [List.getElem?_eq_getElem h5, List.getElem?_eq_getElem (by simpa using hi)]
        simp
      · simp only [hn, if_false]
        cases hx : es.toList[n]? <;> cases hy : L[n]? <;> simp_all
    · intro k'
      rw [lookE_set h5 h6 h7, hf]
end
end Dw
