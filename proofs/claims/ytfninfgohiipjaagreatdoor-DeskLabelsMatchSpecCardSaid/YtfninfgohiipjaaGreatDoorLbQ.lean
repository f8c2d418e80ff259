/- Plain facts about catalogues: what a right one gives. -/
import Derived.Test.YtfninfgohiipjaaGreatDoorLbP
namespace Dw

theorem getT {c : List Th} {i : Nat} (h : i < c.length) : c.getD i default = c[i] := by simp [List.getD, h]
theorem getM {c : List Mv} {i : Nat} (h : i < c.length) : c.getD i default = c[i] := by simp [List.getD, h]
theorem thAt_some {c : List Th} {id : Int} {t : Th} (h : thAt c id = some t) : t ∈ c ∧ t.id = id :=
  ⟨List.mem_of_find?_eq_some h, by simpa using List.find?_some h⟩
theorem thAt_none {c : List Th} {id : Int} : thAt c id = none ↔ ∀ t ∈ c, t.id ≠ id := by
  unfold thAt; rw [List.find?_eq_none]; simp
theorem thAt_first {c : List Th} {id : Int} {k : Nat} (hk : k < c.length) (h : (c[k]).id = id) (hp : ∀ j (hj : j < c.length), j < k → (c[j]).id ≠ id) : thAt c id = some c[k] := by
  unfold thAt
  rw [List.find?_eq_some_iff_getElem]
  exact ⟨by simpa using h, k, hk, rfl, fun j hj => by simpa using hp j (by omega) hj⟩
theorem thAt_all {c : List Th} {id : Int} (hp : ∀ j (hj : j < c.length), (c[j]).id ≠ id) : thAt c id = none := by
  rw [thAt_none]
  intro t ht
  obtain ⟨j, hj, rfl⟩ := List.getElem_of_mem ht
  exact hp j hj
def IncT (c : List Th) : Prop := ∀ i (h : i + 1 < c.length), (c[i]).id < (c[i + 1]).id
theorem IncT.lt {c : List Th} (h : IncT c) : ∀ (d i : Nat) (hj : i + d + 1 < c.length), (c[i]).id < (c[i + d + 1]).id
  | 0, i, hj => h i hj
  | d + 1, i, hj => Int.lt_trans (h.lt d i (by omega)) (h (i + d + 1) (by omega))
theorem IncT.lt' {c : List Th} (h : IncT c) {i j : Nat} (hij : i < j) (hj : j < c.length) : (c[i]'(by omega)).id < (c[j]).id := by
  obtain ⟨d, rfl⟩ : ∃ d, j = i + d + 1 := ⟨j - i - 1, by omega⟩
  exact h.lt d i hj
theorem IncT.inj {c : List Th} (h : IncT c) {i j : Nat} (hi : i < c.length) (hj : j < c.length) (e : (c[i]).id = (c[j]).id) : i = j := by
  rcases Nat.lt_trichotomy i j with h1 | h1 | h1
  · have := h.lt' h1 hj; omega
  · exact h1
  · have := h.lt' h1 hi; omega
theorem IncT.at_ {c : List Th} (h : IncT c) {i : Nat} (hi : i < c.length) : thAt c (c[i]).id = some c[i] :=
  thAt_first hi rfl fun j hj hji e => absurd (h.inj hj hi e) (by omega)
theorem thAt_take {c : List Th} {k : Nat} (hk : k < c.length) (id : Int) : thAt (c.take (k + 1)) id = (thAt (c.take k) id).or (if (c[k]).id = id then some c[k] else none) := by
  unfold thAt
  rw [List.take_succ_eq_append_getElem hk, List.find?_append]
  congr 1
  by_cases h : (c[k]).id = id <;> simp [h]
theorem IncT.fresh {c : List Th} (h : IncT c) {k : Nat} (hk : k < c.length) : thAt (c.take k) (c[k]).id = none := by
  rw [thAt_none]
  intro t ht e
  obtain ⟨j, hj, rfl⟩ := List.getElem_of_mem ht
  rw [List.length_take] at hj
  rw [List.getElem_take] at e
  exact absurd (h.inj (by omega) hk e) (by omega)
/-- The map of things, one more entered. -/
theorem IncT.step {c : List Th} (h : IncT c) {k : Nat} (hk : k < c.length) {β : Type} (f : Th → β) (id : Int) : (if id = (c[k]).id then some (f c[k]) else (thAt (c.take k) id).map f) = (thAt (c.take (k + 1)) id).map f := by
  rw [thAt_take hk]
  by_cases e : id = (c[k]).id
  · subst e
    rw [if_pos rfl, h.fresh hk]; simp
  · rw [if_neg e, if_neg (fun e' => e e'.symm)]; simp

theorem parOf_none {c : List Th} {id : Int} (h : thAt c id = none) : parOf c id = 0 := by unfold parOf; rw [h]
theorem parOf_some {c : List Th} {id : Int} {t : Th} (h : thAt c id = some t) : parOf c id = t.parent := by unfold parOf; rw [h]
theorem parN_succ (c : List Th) : ∀ (n : Nat) (id : Int), parN c (n + 1) id = parOf c (parN c n id)
  | 0, _ => rfl
  | n + 1, id => by rw [parN, parN_succ c n, ← parN]
theorem parN_add (c : List Th) : ∀ (n m : Nat) (id : Int), parN c (n + m) id = parN c m (parN c n id)
  | 0, m, id => by simp [parN]
  | n + 1, m, id => by rw [show n + 1 + m = (n + m) + 1 by omega, parN, parN_add c n m, parN]
def Pos (c : List Th) : Prop := ∀ t ∈ c, 1 ≤ t.id
theorem Pos.zero {c : List Th} (h : Pos c) : thAt c 0 = none := thAt_none.2 fun t ht e => by have := h t ht; omega
theorem parN_zero {c : List Th} (h : Pos c) : ∀ n, parN c n 0 = 0
  | 0 => rfl
  | n + 1 => by rw [parN, parOf_none h.zero, parN_zero h n]
theorem parN_stuck {c : List Th} (h : Pos c) {id : Int} (hn : thAt c id = none) (n : Nat) : parN c (n + 1) id = 0 := by
  rw [parN, parOf_none hn, parN_zero h]
/-- No way back from where nothing stands. -/
theorem loopT_stuck {c : List Th} (h : Pos c) {t : Th} (ht : t ∈ c) {j : Nat} (hj : thAt c (parN c j t.parent) = none) (hp : ∀ i, i < j → parN c i t.parent ≠ t.id) : loopT c t = false := by
  unfold loopT
  rw [List.any_eq_false]
  intro i hi
  simp only [decide_eq_true_eq]
  rcases Nat.lt_trichotomy i j with h1 | h1 | h1
  · exact hp i h1
  · subst h1
    exact fun e => (thAt_none.1 hj) t ht e.symm
  · obtain ⟨d, rfl⟩ : ∃ d, i = j + (d + 1) := ⟨i - j - 1, by omega⟩
    rw [parN_add, parN_stuck h hj]
    have := h t ht
    omega
theorem loopT_yes {c : List Th} {t : Th} {j : Nat} (hj : j < c.length) (h : parN c j t.parent = t.id) : loopT c t = true := by
  unfold loopT
  exact List.any_eq_true.2 ⟨j, List.mem_range.2 hj, by simpa using h⟩
theorem loopT_no {c : List Th} {t : Th} (hp : ∀ i, i < c.length → parN c i t.parent ≠ t.id) : loopT c t = false := by
  unfold loopT
  rw [List.any_eq_false]
  intro i hi
  simpa using hp i (List.mem_range.1 hi)

theorem tF1_inc {two : ByteArray → Bool} {c : List Th} (h : ∀ j, j < c.length → tF1 two c j = 0) : IncT c ∧ Pos c ∧ ∀ t ∈ c, thF two t = 0 := by
  have h1 : ∀ j (hj : j < c.length), 1 ≤ (c[j]).id ∧ (c[j]).id ≤ 1000000 ∧ thF two c[j] = 0 ∧ (0 < j → (c[j - 1]'(by omega)).id < (c[j]).id) := fun j hj => by
    have := h j hj
    unfold tF1 at this
    rw [getT hj] at this
    by_cases e1 : (c[j]).id < 1 ∨ 1000000 < (c[j]).id
    · rw [if_pos e1] at this; omega
    · rw [if_neg e1] at this
      by_cases e2 : 0 < j ∧ (c[j]).id ≤ (c.getD (j - 1) default).id
      · rw [if_pos e2] at this; omega
      · rw [if_neg e2] at this
        refine ⟨by omega, by omega, this, fun h0 => ?_⟩
        rw [getT (by omega)] at e2
        omega
  refine ⟨fun i hi => (h1 (i + 1) hi).2.2.2 (by omega), fun t ht => ?_, fun t ht => ?_⟩
  · obtain ⟨j, hj, rfl⟩ := List.getElem_of_mem ht
    exact (h1 j hj).1
  · obtain ⟨j, hj, rfl⟩ := List.getElem_of_mem ht
    exact (h1 j hj).2.2.1

/-- Ids that moved. -/
theorem mvAt_first {m : List Mv} {id : Int} {k : Nat} (hk : k < m.length) (h : (m[k]).frm = id) (hp : ∀ j (hj : j < m.length), j < k → (m[j]).frm ≠ id) : mvAt m id = some (m[k]).to := by
  unfold mvAt
  have : m.find? (fun x => decide (x.frm = id)) = some m[k] := by
    rw [List.find?_eq_some_iff_getElem]
    exact ⟨by simpa using h, k, hk, rfl, fun j hj => by simpa using hp j (by omega) hj⟩
  rw [this]; rfl
theorem mvAt_all {m : List Mv} {id : Int} (hp : ∀ j (hj : j < m.length), (m[j]).frm ≠ id) : mvAt m id = none := by
  unfold mvAt
  have : m.find? (fun x => decide (x.frm = id)) = none := by
    rw [List.find?_eq_none]
    intro x hx
    obtain ⟨j, hj, rfl⟩ := List.getElem_of_mem hx
    simpa using hp j hj
  rw [this]; rfl
/-- The map of ids that moved, as the program enters it: the last one stands. -/
def mvL (m : List Mv) : Nat → Int → Option Int
  | 0, _ => none
  | k + 1, id => if id = (m.getD k default).frm then some (m.getD k default).to else mvL m k id
theorem mvL_some {m : List Mv} {id : Int} : ∀ {k : Nat}, k ≤ m.length → ((mvL m k id).isSome = true ↔ ∃ j, ∃ hj : j < m.length, j < k ∧ (m[j]).frm = id)
  | 0, _ => by simp [mvL]
  | k + 1, hk => by
    rw [mvL, getM (by omega)]
    by_cases e : id = (m[k]).frm
    · rw [if_pos e]
      simp only [Option.isSome_some, true_iff]
      exact ⟨k, by omega, by omega, e.symm⟩
    · rw [if_neg e, mvL_some (by omega)]
      constructor
      · rintro ⟨j, hj, h1, h2⟩; exact ⟨j, hj, by omega, h2⟩
      · rintro ⟨j, hj, h1, h2⟩
        refine ⟨j, hj, ?_, h2⟩
        rcases Nat.lt_or_ge j k with h3 | h3
        · exact h3
        · exact absurd (by have : j = k := by omega
                           subst this; exact h2.symm) e
theorem mvL_is {m : List Mv} (id : Int) : (mvL m m.length id).isSome = (mvAt m id).isSome := by
  rw [Bool.eq_iff_iff, mvL_some (Nat.le_refl _)]
  unfold mvAt
  rw [Option.isSome_map, List.find?_isSome]
  constructor
  · rintro ⟨j, hj, _, h⟩; exact ⟨m[j], List.getElem_mem hj, by simpa using h⟩
  · rintro ⟨x, hx, h⟩
    obtain ⟨j, hj, rfl⟩ := List.getElem_of_mem hx
    exact ⟨j, hj, hj, by simpa using h⟩
def IncM (m : List Mv) : Prop := ∀ i (h : i + 1 < m.length), (m[i]).frm < (m[i + 1]).frm
theorem IncM.lt {c : List Mv} (h : IncM c) : ∀ (d i : Nat) (hj : i + d + 1 < c.length), (c[i]).frm < (c[i + d + 1]).frm
  | 0, i, hj => h i hj
  | d + 1, i, hj => Int.lt_trans (h.lt d i (by omega)) (h (i + d + 1) (by omega))
theorem IncM.inj {c : List Mv} (h : IncM c) {i j : Nat} (hi : i < c.length) (hj : j < c.length) (e : (c[i]).frm = (c[j]).frm) : i = j := by
  rcases Nat.lt_trichotomy i j with h1 | h1 | h1
  · obtain ⟨d, rfl⟩ : ∃ d, j = i + d + 1 := ⟨j - i - 1, by omega⟩
    have := h.lt d i hj; omega
  · exact h1
  · obtain ⟨d, rfl⟩ : ∃ d, i = j + d + 1 := ⟨i - j - 1, by omega⟩
    have := h.lt d j hi; omega
theorem mvL_at {m : List Mv} (h : IncM m) {x : Nat} (hx : x < m.length) : ∀ {k : Nat}, x < k → k ≤ m.length → mvL m k (m[x]).frm = some (m[x]).to
  | 0, h1, _ => by omega
  | k + 1, h1, hk => by
    rw [mvL, getM (by omega)]
    by_cases e : x = k
    · subst e; rw [if_pos rfl]
    · rw [if_neg (fun e' => e (h.inj hx (by omega) e')), mvL_at h hx (by omega) (by omega)]
theorem mvL_inc {m : List Mv} (h : IncM m) (id : Int) : mvL m m.length id = mvAt m id := by
  have hs := mvL_is (m := m) id
  cases hm : mvAt m id with
  | none =>
    rw [hm] at hs
    cases hl : mvL m m.length id with
    | none => rfl
    | some t => rw [hl] at hs; cases hs
  | some t =>
    unfold mvAt at hm
    cases hf : m.find? (fun x => decide (x.frm = id)) with
    | none => rw [hf] at hm; cases hm
    | some x =>
      rw [hf] at hm
      obtain ⟨hx, j, hj, e, _⟩ := List.find?_eq_some_iff_getElem.1 hf
      have hid : x.frm = id := by simpa using hx
      subst e
      rw [← hid, mvL_at h hj hj (Nat.le_refl _)]
      simpa using hm
theorem mvF1_inc {c : List Th} {m : List Mv} (h : ∀ j, j < m.length → mvF1 c m j = 0) : IncM m ∧ (∀ x ∈ m, 1 ≤ x.frm) := by
  have h1 : ∀ j (hj : j < m.length), 1 ≤ (m[j]).frm ∧ (0 < j → (m[j - 1]'(by omega)).frm < (m[j]).frm) := fun j hj => by
    have := h j hj
    unfold mvF1 at this
    rw [getM hj] at this
    by_cases e1 : (m[j]).frm < 1 ∨ 1000000 < (m[j]).frm
    · rw [if_pos e1] at this; omega
    · rw [if_neg e1] at this
      by_cases e2 : 0 < j ∧ (m[j]).frm ≤ (m.getD (j - 1) default).frm
      · rw [if_pos e2] at this; omega
      · refine ⟨by omega, fun h0 => ?_⟩
        rw [getM (by omega)] at e2
        omega
  refine ⟨fun i hi => (h1 (i + 1) hi).2 (by omega), fun x hx => ?_⟩
  obtain ⟨j, hj, rfl⟩ := List.getElem_of_mem hx
  exact (h1 j hj).1
/-- Where an id leads, as the program goes: from an id that leads nowhere it goes to 0. -/
def findP (c : List Th) (m : List Mv) : Nat → Int → Option Int
  | 0, _ => none
  | n + 1, id => if (thAt c id).isSome then some id else findP c m n ((mvAt m id).getD 0)
theorem findP_zero {c : List Th} {m : List Mv} (hc : Pos c) (hm : ∀ x ∈ m, 1 ≤ x.frm) : ∀ n, findP c m n 0 = none
  | 0 => rfl
  | n + 1 => by
    have hz : mvAt m 0 = none := mvAt_all fun j hj e => by have := hm m[j] (List.getElem_mem hj); omega
    rw [findP, hc.zero, hz]
    simp [findP_zero hc hm n]
theorem findP_findN {c : List Th} {m : List Mv} (hc : Pos c) (hm : ∀ x ∈ m, 1 ≤ x.frm) : ∀ n id, findP c m n id = findN c m n id
  | 0, _ => rfl
  | n + 1, id => by
    rw [findP, findN]
    by_cases h : (thAt c id).isSome = true
    · rw [if_pos h, if_pos h]
    · rw [if_neg h, if_neg h]
      cases hv : mvAt m id with
      | none => simp [findP_zero hc hm n]
      | some t => simp [findP_findN hc hm n t]
end Dw
