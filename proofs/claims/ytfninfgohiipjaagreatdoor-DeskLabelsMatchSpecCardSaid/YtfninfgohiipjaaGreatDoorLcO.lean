/- What Within answers: plain words, and its contract. -/
import Derived.Test.YtfninfgohiipjaaGreatDoorLcN
namespace Go.Proofs.YtfninfgohiipjaaGreatDoor
open Go.RowKit Dw

def recP2 (T : List Th) (id : Int) (x : Th) : Bool := decide (x.kind = 2) && madeB T x id
def recsOf (T : List Th) (id : Int) (k : Nat) : List Int := ((T.take k).filter (recP2 T id)).map (·.id)
theorem recsOf_yes {T : List Th} {id : Int} {k : Nat} (hk : k < T.length) (h : recP2 T id T[k] = true) : recsOf T id (k + 1) = recsOf T id k ++ [(T[k]).id] := by
  unfold recsOf
  rw [List.take_succ_eq_append_getElem hk, List.filter_append, List.map_append]
  simp [h]
theorem recsOf_no {T : List Th} {id : Int} {k : Nat} (hk : k < T.length) (h : recP2 T id T[k] = false) : recsOf T id (k + 1) = recsOf T id k := by
  unfold recsOf
  rw [List.take_succ_eq_append_getElem hk, List.filter_append, List.map_append]
  simp [h]
theorem recsOf_le (T : List Th) (id : Int) (k : Nat) : (recsOf T id k).length ≤ k := by
  unfold recsOf
  rw [List.length_map]
  have h1 := List.length_filter_le (recP2 T id) (T.take k)
  have h2 : (T.take k).length ≤ k := by simp; omega
  omega
def ptsOf (T : List Th) (t : Th) : List Int := if t.kind = 4 ∧ t.parts.length = 0 then ((thAt T t.parent).map (·.parts)).getD [] else t.parts
def witL (T : List Th) (id : Int) (t : Th) : List Int := if t.kind = 2 then [id] else if t.kind = 1 then recsOf T id T.length else onceF (ptsOf T t)
def witF (T : List Th) (M : List Mv) (id : Int) : List Int × Int :=
  if chkC twoB T M ≠ 0 then ([], chkC twoB T M) else match thAt T id with
    | none => ([], 9)
    | some t => (witL T id t, 0)
theorem witF_bad {T : List Th} {M : List Mv} {id : Int} (h : chkC twoB T M ≠ 0) : witF T M id = ([], chkC twoB T M) := by unfold witF; rw [if_pos h]
theorem witF_none {T : List Th} {M : List Mv} {id : Int} (h : chkC twoB T M = 0) (ht : thAt T id = none) : witF T M id = ([], 9) := by unfold witF; rw [if_neg (by rw [h]; simp), ht]
theorem witF_some {T : List Th} {M : List Mv} {id : Int} {t : Th} (h : chkC twoB T M = 0) (ht : thAt T id = some t) : witF T M id = (witL T id t, 0) := by unfold witF; rw [if_neg (by rw [h]; simp), ht]
theorem thF_kind {t : Th} (h : thF twoB t = 0) : 1 ≤ t.kind ∧ t.kind ≤ 4 := by
  by_cases hk : t.kind < 1 ∨ 4 < t.kind
  · unfold thF at h; rw [if_pos hk] at h; cases h
  · omega
/-- A call that answers a slice of ints and a fault, and only makes memory. -/
def GivesIF (p : List Int × Int) (w : World) (e : Ending) (w' : World) : Prop :=
  ∃ A c, e = .returned (.tuple #[.slice A p.1.length c, .int .i64 p.2]) ∧ Ints w' A p.1 ∧ Below w.heap.size w w'
theorem GivesIF.nil {p : List Int × Int} {f : Int} {w w' : World} (h : p = ([], f)) (hb : Below w.heap.size w w') : GivesIF p w (.returned (.tuple #[.slice none 0 0, .int .i64 f])) w' := by
  subst h; exact ⟨none, 0, rfl, Rd1.nil, hb⟩
theorem GivesIF.mk {p : List Int × Int} {l : List Int} {f : Int} {A : Option Addr} {c : Nat} {w w' : World} (h : p = (l, f)) (hi : Ints w' A l) (hb : Below w.heap.size w w') : GivesIF p w (.returned (.tuple #[.slice A l.length c, .int .i64 f])) w' := by
  subst h; exact ⟨A, c, rfl, hi, hb⟩
end Go.Proofs.YtfninfgohiipjaaGreatDoor
