/- Plain laws of areas as sets of leaves. -/
import Derived.Test.YtnjepmbonhmdnaaDoorLawB
namespace Go.Proofs.YtnjepmbonhmdnaaDoor
open Go.RowKit Dw

section
variable {l : List Rg} {S : Nat → Bool}
theorem mem_plainOf {x : Ar} (h : x ∈ plainOf l S) : ∃ j, j < l.length ∧ plainTop l S j = true ∧ x = ⟨nmAt l j, false⟩ := by
  unfold plainOf at h
  obtain ⟨j, hj, rfl⟩ := List.mem_map.1 h
  obtain ⟨h1, h2⟩ := List.mem_filter.1 hj
  exact ⟨j, List.mem_range.1 h1, h2, rfl⟩
theorem findA_plain (g : GoodR l) {i : Nat} (hi : i < l.length) : findA (plainOf l S) (nmAt l i) = if plainTop l S i = true then some ⟨nmAt l i, false⟩ else none := by
  unfold findA
  by_cases hp : plainTop l S i = true
  · rw [if_pos hp]
    have hm : (⟨nmAt l i, false⟩ : Ar) ∈ plainOf l S := List.mem_map.2 ⟨i, List.mem_filter.2 ⟨List.mem_range.2 hi, hp⟩, rfl⟩
    cases hf : (plainOf l S).find? (fun x => decide (x.rg = nmAt l i)) with
    | none =>
      have := List.find?_eq_none.1 hf _ hm
      simp at this
    | some x =>
      have h1 := List.find?_some hf
      obtain ⟨j, _, _, rfl⟩ := mem_plainOf (List.mem_of_find?_eq_some hf)
      have h2 : nmAt l j = nmAt l i := by simpa using h1
      rw [h2]
  · rw [if_neg hp, List.find?_eq_none]
    intro x hx
    obtain ⟨j, hj, hpj, rfl⟩ := mem_plainOf hx
    have hne : nmAt l j ≠ nmAt l i := fun e => by
      rw [nmAt_of hj, nmAt_of hi] at e
      rw [g.nm_inj hj hi e] at hpj
      exact hp hpj
    simpa using hne
theorem lies_top (g : GoodR l) : ∀ {f i : Nat}, i < l.length → liesF l (plainOf l S) f i = true → ∃ k, underF l f i k = true ∧ plainTop l S k = true
  | 0, _, _, h => by simp [liesF] at h
  | f + 1, i, hi, h => by
    rw [liesF, findA_plain g hi] at h
    by_cases hp : plainTop l S i = true
    · exact ⟨i, by simp [underF], hp⟩
    · rw [if_neg hp] at h
      cases hu : up l i with
      | none => rw [hu] at h; cases h
      | some j =>
        rw [hu] at h
        obtain ⟨k, h1, h2⟩ := lies_top g (up_lt hu).2 h
        exact ⟨k, by rw [underF, hu]; simp [h1], h2⟩
theorem lies_of_full (g : GoodR l) : ∀ {f i : Nat}, i < l.length → upN l f i = none → fullP l S i = true → liesF l (plainOf l S) f i = true
  | 0, _, _, hu, _ => by simp [upN] at hu
  | f + 1, i, hi, hu, hf => by
    rw [liesF, findA_plain g hi]
    by_cases hp : plainTop l S i = true
    · rw [if_pos hp]; rfl
    · rw [if_neg hp]
      unfold plainTop at hp
      rw [hf] at hp
      rw [upN] at hu
      cases hup : up l i with
      | none => rw [hup] at hp; simp at hp
      | some j =>
        rw [hup] at hp hu
        exact lies_of_full g (up_lt hup).2 hu (by simpa using hp)
theorem leaf_lt {i : Nat} (h : i ∈ leafIdx l) : i < l.length ∧ isPar l i = false := by
  unfold leafIdx at h
  obtain ⟨h1, h2⟩ := List.mem_filter.1 h
  exact ⟨List.mem_range.1 h1, by simpa using h2⟩
theorem upN_last : ∀ {d i k : Nat}, upN l (d + 1) i = some k → ∃ x, up l x = some k
  | 0, i, k, h => by
    rw [upN] at h
    cases hu : up l i with
    | none => rw [hu] at h; cases h
    | some j =>
      rw [hu] at h
      have : j = k := by simpa [upN] using h
      subst this
      exact ⟨i, hu⟩
  | d + 1, i, k, h => by
    rw [upN] at h
    cases hu : up l i with
    | none => rw [hu] at h; cases h
    | some j => rw [hu] at h; exact upN_last h
theorem leaf_under (g : GoodR l) {i i' : Nat} (hi : i ∈ leafIdx l) (h : under l i' i = true) : i' = i := by
  obtain ⟨d, hd⟩ := underF_upN h
  cases d with
  | zero => simpa [upN] using hd
  | succ d =>
    obtain ⟨x, hx⟩ := upN_last hd
    have hl := leaf_lt hi
    have := parK_isPar g hl.1
    rw [hl.2] at this
    have h2 : parK l l.length i = true := List.any_eq_true.2 ⟨x, List.mem_range.2 (up_lt hx).1, by simp [hx]⟩
    rw [h2] at this
    cases this
/-- The plain area of a set of leaves stands for that set. -/
theorem lies_plain (g : GoodR l) {i : Nat} (hi : i ∈ leafIdx l) : lies l (plainOf l S) i = S i := by
  have hl := (leaf_lt hi).1
  rw [Bool.eq_iff_iff]
  constructor
  · intro h
    obtain ⟨k, h1, h2⟩ := lies_top g hl h
    unfold plainTop at h2
    have hf : fullP l S k = true := by
      cases hq : fullP l S k with
      | true => rfl
      | false => rw [hq] at h2; simp at h2
    have := List.all_eq_true.1 hf i hi
    have hu : under l i k = true := h1
    simpa [hu] using this
  · intro h
    refine lies_of_full g hl (g.ends i hl) ?_
    refine List.all_eq_true.2 fun i' hi' => ?_
    cases hu : under l i' i with
    | false => rfl
    | true =>
      rw [leaf_under g hi hu, h]
      rfl
theorem leavesOf_congr {a b : List Ar} (h : ∀ i ∈ leafIdx l, lies l a i = lies l b i) : leavesOf l a = leavesOf l b := by
  unfold leavesOf
  rw [List.filter_congr h]
theorem lies_of_leaves (g : GoodR l) {a b : List Ar} (h : leavesOf l a = leavesOf l b) : ∀ i ∈ leafIdx l, lies l a i = lies l b i := fun i hi => by
  rw [← mem_leaves g a hi, h, mem_leaves g b hi]
theorem sle_of_slt {a b : ByteArray} (h : slt a b = true) : sle b a = false := by
  unfold slt at h
  unfold sle
  rw [bytesLess_eq] at h ⊢
  have h1 : a.toList < b.toList := by simpa using h
  have h2 : ¬ b.toList < a.toList := fun h2 => List.lt_irrefl _ (List.lt_trans h1 h2)
  have h3 : b.toList ≠ a.toList := fun e => by rw [e] at h1; exact List.lt_irrefl _ h1
  simp [h2, h3]
theorem chkA_plain (g : GoodR l) (hn : (plainOf l S).length ≤ 100) : chkA l (plainOf l S) = 0 := by
  unfold chkA
  rw [if_neg (by omega)]
  have hnone : (List.range (plainOf l S).length).findSome? (arFault l (plainOf l S)) = none := by
    rw [List.findSome?_eq_none_iff]
    intro k hk
    have hk' := List.mem_range.1 hk
    obtain ⟨F, hF⟩ : ∃ F, F = (List.range l.length).filter (plainTop l S) := ⟨_, rfl⟩
    have hp : plainOf l S = F.map fun i => ⟨nmAt l i, false⟩ := by rw [hF]; rfl
    have hlen : (plainOf l S).length = F.length := by rw [hp, List.length_map]
    have hat : ∀ t, (ht : t < F.length) → rgAt (plainOf l S) t = nmAt l F[t] := fun t ht => by
      rw [rgAt_of (by omega)]
      simp [hp]
    have hlt : ∀ t, (ht : t < F.length) → F[t] < l.length := fun t ht => by
      have hm : ∀ x ∈ F, x < l.length := fun x hx => by
        rw [hF] at hx
        exact List.mem_range.1 (List.mem_filter.1 hx).1
      exact hm _ (List.getElem_mem ht)
    have hsort : F.Pairwise (· < ·) := by rw [hF]; exact List.pairwise_lt_range.filter _
    unfold arFault
    rw [hat k (by omega), nmAt_of (hlt k (by omega)), g.inc.idx (hlt k (by omega)), if_neg (by simp)]
    rw [if_neg]
    rintro ⟨h0, hle⟩
    rw [hat (k - 1) (by omega), nmAt_of (hlt (k - 1) (by omega))] at hle
    have hs := List.pairwise_iff_getElem.1 hsort (k - 1) k (by omega) (by omega) (by omega)
    obtain ⟨d, hd⟩ : ∃ d, F[k]'(by omega) = F[k - 1]'(by omega) + d + 1 := ⟨F[k]'(by omega) - F[k - 1]'(by omega) - 1, by omega⟩
    have hinc := g.inc.lt d (F[k - 1]'(by omega)) (by rw [← hd]; exact hlt k (by omega))
    have : slt (l[F[k - 1]'(by omega)]'(hlt _ (by omega))).nm (l[F[k]'(by omega)]'(hlt _ (by omega))).nm = true := by
      simpa only [hd] using hinc
    rw [sle_of_slt this] at hle
    cases hle
  rw [hnone]
end
end Go.Proofs.YtnjepmbonhmdnaaDoor
