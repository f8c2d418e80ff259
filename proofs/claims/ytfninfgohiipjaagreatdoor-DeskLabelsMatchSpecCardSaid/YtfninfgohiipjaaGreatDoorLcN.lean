/- In a right catalogue every way from parent to parent ends. -/
import Derived.Test.YtfninfgohiipjaaGreatDoorLcM
namespace Go.Proofs.YtfninfgohiipjaaGreatDoor
open Go.RowKit Dw

theorem tF2_lnk {T : List Th} (h : ∀ j, j < T.length → tF2 T j = 0) : ∀ t ∈ T, upF T t = 0 ∧ loopT T t = false := by
  intro t ht
  obtain ⟨j, hj, rfl⟩ := List.getElem_of_mem ht
  have h1 := h j hj
  rw [tF2_is (getT hj)] at h1
  by_cases e1 : upF T T[j] = 0
  · refine ⟨e1, ?_⟩
    rw [if_neg (by rw [e1]; simp)] at h1
    by_cases e2 : partF T (T[j]).parts = 0
    · rw [if_neg (by rw [e2]; simp)] at h1
      cases e3 : loopT T T[j] with
      | false => rfl
      | true => rw [if_pos e3] at h1; cases h1
    · rw [if_pos e2] at h1; exact absurd h1 e2
  · rw [if_pos e1] at h1; exact absurd h1 e1
theorem upF_there {T : List Th} {t : Th} (h : upF T t = 0) (h0 : t.parent ≠ 0) : ∃ p, thAt T t.parent = some p := by
  cases hp : thAt T t.parent with
  | none => rw [upF_none h0 hp] at h; cases h
  | some p => exact ⟨p, rfl⟩
theorem parN_end {T : List Th} (hp : Pos T) (h : ∀ j, j < T.length → tF2 T j = 0) {t : Th} (ht : t ∈ T) : parN T T.length t.parent = 0 := by
  refine Classical.byContradiction fun hne => ?_
  have hl := tF2_lnk h
  have hnz : ∀ j, j ≤ T.length → parN T j t.parent ≠ 0 := fun j hj e => by
    apply hne
    rw [show T.length = j + (T.length - j) by omega, parN_add, e, parN_zero hp]
  have hall : ∀ j, j ≤ T.length → ∃ p, thAt T (parN T j t.parent) = some p := by
    intro j
    induction j with
    | zero => exact fun hj => upF_there (hl t ht).1 (hnz 0 hj)
    | succ j ih =>
      intro hj
      obtain ⟨p, hpj⟩ := ih (by omega)
      have e : parN T (j + 1) t.parent = p.parent := by rw [parN_succ, parOf_some hpj]
      rw [e]
      exact upF_there (hl p (thAt_some hpj).1).1 (by rw [← e]; exact hnz (j + 1) hj)
  have hnd : ((List.range (T.length + 1)).map fun n => parN T n t.parent).Nodup := by
    rw [List.nodup_iff_pairwise_ne, List.pairwise_iff_getElem]
    intro a b ha hb hab
    simp only [List.length_map, List.length_range] at ha hb
    simp only [List.getElem_map, List.getElem_range]
    intro e
    obtain ⟨p, hpa⟩ := hall a (by omega)
    have h2 := loopT_yes (c := T) (t := p) (j := b - a - 1) (by omega) (by
      rw [(thAt_some hpa).2]
      have e2 : parN T (a + ((b - a - 1) + 1)) t.parent = parN T b t.parent := by rw [show a + ((b - a - 1) + 1) = b by omega]
      rw [parN_add, parN, parOf_some hpa] at e2
      rw [e2, ← e])
    rw [(hl p (thAt_some hpa).1).2] at h2
    cases h2
  have hsub : ((List.range (T.length + 1)).map fun n => parN T n t.parent) ⊆ T.map (·.id) := by
    intro x hx
    obtain ⟨n, hn, rfl⟩ := List.mem_map.1 hx
    rw [List.mem_range] at hn
    obtain ⟨p, hpn⟩ := hall n (by omega)
    exact List.mem_map.2 ⟨p, (thAt_some hpn).1, (thAt_some hpn).2⟩
  have := hnd.length_le_of_subset hsub
  simp at this
  omega
end Go.Proofs.YtfninfgohiipjaaGreatDoor
