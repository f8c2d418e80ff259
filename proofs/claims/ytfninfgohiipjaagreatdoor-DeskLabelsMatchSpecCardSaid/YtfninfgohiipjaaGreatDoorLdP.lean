/- Plain facts about embargoes: no program in sight. -/
import Derived.Test.YtfninfgohiipjaaGreatDoorLcO
namespace Go.Proofs.YtfninfgohiipjaaGreatDoor
open Go.RowKit Dw

/-- An embargo; bA and bc say where its parties lie. -/
structure Em where
  id : Int
  til : Int
  but : List ByteArray
  bA : Option Addr
  bc : Nat
instance : Inhabited Em := ⟨⟨0, 0, [], none, 0⟩⟩
theorem getE {l : List Em} {i : Nat} (h : i < l.length) : l.getD i default = l[i] := by simp [List.getD, h]
theorem getB {l : List ByteArray} {i : Nat} (h : i < l.length) : l.getD i emp = l[i] := by simp [List.getD, h]

/-- The recordings within what an id is now. -/
def insO (T : List Th) (M : List Mv) (id : Int) : Option (List Int) := (findN T M (M.length + 1) id).bind fun n => (thAt T n).map (witL T n)
def insL (T : List Th) (M : List Mv) (id : Int) : List Int := (insO T M id).getD []
theorem findN_there {T : List Th} {M : List Mv} : ∀ {k : Nat} {id n : Int}, findN T M k id = some n → ∃ t, thAt T n = some t
  | 0, _, _, h => by cases h
  | k + 1, id, n, h => by
    rw [findN] at h
    by_cases hs : (thAt T id).isSome = true
    · rw [if_pos hs] at h
      cases h
      exact Option.isSome_iff_exists.1 hs
    · rw [if_neg hs] at h
      cases hm : mvAt M id with
      | none => rw [hm] at h; cases h
      | some t => rw [hm] at h; exact findN_there h
theorem insO_none {T : List Th} {M : List Mv} {id : Int} (h : findN T M (M.length + 1) id = none) : insO T M id = none := by unfold insO; rw [h]; rfl
theorem insO_some {T : List Th} {M : List Mv} {id n : Int} {t : Th} (h : findN T M (M.length + 1) id = some n) (ht : thAt T n = some t) : insO T M id = some (witL T n t) := by unfold insO; rw [h]; simp [ht]

/-- The fault of one of the parties of an embargo. -/
def btF (b : List ByteArray) (k : Nat) : Int :=
  if isNm (b.getD k emp) = false then 5
  else if 0 < k ∧ sle (b.getD k emp) (b.getD (k - 1) emp) = true then 8 else 0
def emOrd (a b : Em) : Bool := decide (a.id < b.id ∨ (a.id = b.id ∧ a.til < b.til))
def emF (T : List Th) (M : List Mv) (l : List Em) (i : Nat) : Int :=
  if insO T M (l.getD i default).id = none then 9
  else if (l.getD i default).til < 0 ∨ 200001 < (l.getD i default).til then 1
  else if 0 < i ∧ emOrd (l.getD (i - 1) default) (l.getD i default) = false then 8
  else if 20 < (l.getD i default).but.length then 2
  else firstF (btF (l.getD i default).but) (l.getD i default).but.length
def chkE (T : List Th) (M : List Mv) (l : List Em) : Int :=
  if chkC twoB T M ≠ 0 then chkC twoB T M
  else if 100 < l.length then 2
  else firstF (emF T M l) l.length
theorem chkE_bad {T : List Th} {M : List Mv} {l : List Em} (h : chkC twoB T M ≠ 0) : chkE T M l = chkC twoB T M := by unfold chkE; rw [if_pos h]
theorem chkE_large {T : List Th} {M : List Mv} {l : List Em} (h : chkC twoB T M = 0) (hl : 100 < l.length) : chkE T M l = 2 := by unfold chkE; rw [if_neg (by rw [h]; simp), if_pos hl]
theorem chkE_first {T : List Th} {M : List Mv} {l : List Em} (h : chkC twoB T M = 0) (hl : ¬ 100 < l.length) : chkE T M l = firstF (emF T M l) l.length := by unfold chkE; rw [if_neg (by rw [h]; simp), if_neg hl]
theorem chkE_ok {T : List Th} {M : List Mv} {l : List Em} (h : chkE T M l = 0) : chkC twoB T M = 0 ∧ l.length ≤ 100 ∧ ∀ j, j < l.length → emF T M l j = 0 := by
  by_cases h1 : chkC twoB T M = 0
  · by_cases h2 : 100 < l.length
    · rw [chkE_large h1 h2] at h; cases h
    · rw [chkE_first h1 h2] at h
      exact ⟨h1, by omega, firstF_all h⟩
  · rw [chkE_bad h1] at h; exact absurd h h1
theorem emF_ok {T : List Th} {M : List Mv} {l : List Em} {j : Nat} (hj : j < l.length) (h : emF T M l j = 0) : (∃ r, insO T M (l[j]).id = some r) ∧ 0 ≤ (l[j]).til ∧ (l[j]).til ≤ 200001 ∧ (l[j]).but.length ≤ 20 ∧ ∀ b ∈ (l[j]).but, isNm b = true := by
  unfold emF at h
  rw [getE hj] at h
  by_cases e1 : insO T M (l[j]).id = none
  · rw [if_pos e1] at h; cases h
  rw [if_neg e1] at h
  by_cases e2 : (l[j]).til < 0 ∨ 200001 < (l[j]).til
  · rw [if_pos e2] at h; cases h
  rw [if_neg e2] at h
  by_cases e3 : 0 < j ∧ emOrd (l.getD (j - 1) default) l[j] = false
  · rw [if_pos e3] at h; cases h
  rw [if_neg e3] at h
  by_cases e4 : 20 < (l[j]).but.length
  · rw [if_pos e4] at h; cases h
  rw [if_neg e4] at h
  refine ⟨Option.ne_none_iff_exists'.1 e1, by omega, by omega, by omega, fun b hb => ?_⟩
  obtain ⟨k, hk, rfl⟩ := List.getElem_of_mem hb
  have hz := firstF_all h k hk
  unfold btF at hz
  rw [getB hk] at hz
  cases hn : isNm (l[j]).but[k] with
  | true => rfl
  | false => rw [if_pos hn] at hz; cases hz

/-- The first day on which a party may hear recordings. -/
def stepD (T : List Th) (M : List Mv) (p : ByteArray) (r : List Int) (d : Int) (e : Em) : Int :=
  if memS e.but p = false ∧ r.any (fun n => memI (insL T M e.id) n) = true then max d e.til else d
def freeD (T : List Th) (M : List Mv) (l : List Em) (p : ByteArray) (r : List Int) (k : Nat) : Int := (l.take k).foldl (stepD T M p r) 0
theorem freeD_snoc {T : List Th} {M : List Mv} {l : List Em} {p : ByteArray} {r : List Int} {k : Nat} (hk : k < l.length) : freeD T M l p r (k + 1) = stepD T M p r (freeD T M l p r k) l[k] := by
  unfold freeD
  rw [List.take_succ_eq_append_getElem hk, List.foldl_append]
  rfl
def freeF (T : List Th) (M : List Mv) (l : List Em) (p : ByteArray) (id : Int) : Int × Int :=
  if chkE T M l ≠ 0 then (0, chkE T M l)
  else if isNm p = false then (0, 5)
  else match insO T M id with
    | none => (0, 9)
    | some r => (freeD T M l p r l.length, 0)
end Go.Proofs.YtfninfgohiipjaaGreatDoor
