/- Plain facts about asks and deliveries: no program in sight. -/
import Derived.Test.YtfninfgohiipjaaGreatDoorLdP
namespace Go.Proofs.YtfninfgohiipjaaGreatDoor
open Go.RowKit Dw

structure Ak where
  day : Int
  party : ByteArray
  id : Int
instance : Inhabited Ak := ⟨⟨0, emp, 0⟩⟩
structure Dl where
  day : Int
  party : ByteArray
  rc : Int
instance : Inhabited Dl := ⟨⟨0, emp, 0⟩⟩
theorem Dl.ext' {x y : Dl} (h1 : x.day = y.day) (h2 : x.party = y.party) (h3 : x.rc = y.rc) : x = y := by cases x; cases y; simp_all
theorem getK {l : List Ak} {i : Nat} (h : i < l.length) : l.getD i default = l[i] := by simp [List.getD, h]

/-- The order of triples. -/
def triLt (d1 : Int) (p1 : ByteArray) (n1 : Int) (d2 : Int) (p2 : ByteArray) (n2 : Int) : Bool :=
  decide (d1 < d2) || (decide (d1 = d2) && (slt p1 p2 || (decide (p1 = p2) && decide (n1 < n2))))
def akLt (a b : Ak) : Bool := triLt a.day a.party a.id b.day b.party b.id
def dlLt (a b : Dl) : Bool := triLt a.day a.party a.rc b.day b.party b.rc
theorem slt_total {a b : ByteArray} (h1 : slt a b = false) (h2 : slt b a = false) : a = b := by
  cases h : sle a b with
  | false => have := slt_of_not_sle h; rw [h2] at this; cases this
  | true =>
    unfold sle at h
    unfold slt at h1
    rw [h1, Bool.false_or] at h
    exact str_eq h
theorem slt_asymm {a b : ByteArray} (h : slt a b = true) : slt b a = false := by
  cases hb : slt b a with
  | false => rfl
  | true => have := slt_trans h hb; rw [slt_irrefl] at this; cases this
theorem triLt_iff {d1 : Int} {p1 : ByteArray} {n1 : Int} {d2 : Int} {p2 : ByteArray} {n2 : Int} : triLt d1 p1 n1 d2 p2 n2 = true ↔ d1 < d2 ∨ (d1 = d2 ∧ (slt p1 p2 = true ∨ (p1 = p2 ∧ n1 < n2))) := by
  unfold triLt; simp
theorem dlLt_iff {a b : Dl} : dlLt a b = true ↔ a.day < b.day ∨ (a.day = b.day ∧ (slt a.party b.party = true ∨ (a.party = b.party ∧ a.rc < b.rc))) := triLt_iff
theorem dlLt_irrefl (a : Dl) : dlLt a a = false := by
  cases h : dlLt a a with
  | false => rfl
  | true =>
    rcases dlLt_iff.1 h with h1 | ⟨_, h1 | ⟨_, h1⟩⟩
    · omega
    · rw [slt_irrefl] at h1; cases h1
    · omega
theorem dlLt_trans {a b c : Dl} (h : dlLt a b = true) (k : dlLt b c = true) : dlLt a c = true := by
  rw [dlLt_iff] at *
  rcases h with h | ⟨e, h⟩
  · rcases k with k | ⟨e2, _⟩
    · left; omega
    · left; omega
  · rcases k with k | ⟨e2, k⟩
    · left; omega
    · right
      refine ⟨by omega, ?_⟩
      rcases h with h | ⟨f, h⟩
      · rcases k with k | ⟨f2, _⟩
        · left; exact slt_trans h k
        · left; rw [← f2]; exact h
      · rcases k with k | ⟨f2, k⟩
        · left; rw [f]; exact k
        · right; exact ⟨f.trans f2, by omega⟩
theorem dlLt_asymm {a b : Dl} (h : dlLt a b = true) : dlLt b a = false := by
  cases hb : dlLt b a with
  | false => rfl
  | true => have := dlLt_trans h hb; rw [dlLt_irrefl] at this; cases this
theorem dlLt_total {a b : Dl} (h1 : dlLt a b = false) (h2 : dlLt b a = false) : a = b := by
  have n1 : ¬ (dlLt a b = true) := by rw [h1]; simp
  have n2 : ¬ (dlLt b a = true) := by rw [h2]; simp
  rw [dlLt_iff] at n1 n2
  have e : a.day = b.day := by
    rcases Int.lt_trichotomy a.day b.day with h | h | h
    · exact absurd (.inl h) n1
    · exact h
    · exact absurd (.inl h) n2
  have p : a.party = b.party := by
    refine slt_total ?_ ?_
    · cases hs : slt a.party b.party with
      | false => rfl
      | true => exact absurd (.inr ⟨e, .inl hs⟩) n1
    · cases hs : slt b.party a.party with
      | false => rfl
      | true => exact absurd (.inr ⟨e.symm, .inl hs⟩) n2
  refine Dl.ext' e p ?_
  rcases Int.lt_trichotomy a.rc b.rc with h | h | h
  · exact absurd (.inr ⟨e, .inr ⟨p, h⟩⟩) n1
  · exact h
  · exact absurd (.inr ⟨e.symm, .inr ⟨p.symm, h⟩⟩) n2
def dlLe (x y : Dl) : Bool := !dlLt y x
theorem dlLe_trans (a b c : Dl) (h : dlLe a b = true) (k : dlLe b c = true) : dlLe a c = true := by
  unfold dlLe at *
  cases hca : dlLt c a with
  | false => rfl
  | true =>
    exfalso
    have hba : dlLt b a = false := by simpa using h
    have hcb : dlLt c b = false := by simpa using k
    cases hab : dlLt a b with
    | true => have := dlLt_trans hca hab; rw [hcb] at this; cases this
    | false =>
      have := dlLt_total hab hba
      subst this
      rw [hcb] at hca; cases hca
theorem dlLe_total (a b : Dl) : (dlLe a b || dlLe b a) = true := by
  unfold dlLe
  cases h : dlLt b a with
  | false => rfl
  | true => rw [dlLt_asymm h]; rfl
theorem dlLe_anti {a b : Dl} (h : dlLe a b = true) (k : dlLe b a = true) : a = b := by
  unfold dlLe at *
  exact dlLt_total (by simpa using k) (by simpa using h)

/-- The fault of one ask. -/
def asF (T : List Th) (M : List Mv) (l : List Ak) (i : Nat) : Int :=
  if (l.getD i default).day < 0 ∨ 200000 < (l.getD i default).day then 1
  else if isNm (l.getD i default).party = false then 5
  else if insO T M (l.getD i default).id = none then 9
  else if 0 < i ∧ akLt (l.getD (i - 1) default) (l.getD i default) = false then 8
  else 0
def chkAs (T : List Th) (M : List Mv) (l : List Ak) : Int := if 500 < l.length then 2 else firstF (asF T M l) l.length
theorem chkAs_large {T : List Th} {M : List Mv} {l : List Ak} (h : 500 < l.length) : chkAs T M l = 2 := by unfold chkAs; rw [if_pos h]
theorem chkAs_first {T : List Th} {M : List Mv} {l : List Ak} (h : ¬ 500 < l.length) : chkAs T M l = firstF (asF T M l) l.length := by unfold chkAs; rw [if_neg h]
theorem chkAs_ok {T : List Th} {M : List Mv} {l : List Ak} (h : chkAs T M l = 0) : l.length ≤ 500 ∧ ∀ j, j < l.length → asF T M l j = 0 := by
  by_cases h2 : 500 < l.length
  · rw [chkAs_large h2] at h; cases h
  · rw [chkAs_first h2] at h
    exact ⟨by omega, firstF_all h⟩
theorem asF_at {T : List Th} {M : List Mv} {l : List Ak} {k : Nat} (h : k < l.length) : asF T M l k = if (l[k]).day < 0 ∨ 200000 < (l[k]).day then 1
    else if isNm (l[k]).party = false then 5 else if insO T M (l[k]).id = none then 9 else if 0 < k ∧ akLt (l.getD (k - 1) default) l[k] = false then 8 else 0 := by
  unfold asF; rw [getK h]
theorem asF_ok {T : List Th} {M : List Mv} {l : List Ak} {j : Nat} (hj : j < l.length) (h : asF T M l j = 0) : 0 ≤ (l[j]).day ∧ (l[j]).day ≤ 200000 ∧ isNm (l[j]).party = true ∧ ∃ r, insO T M (l[j]).id = some r := by
  rw [asF_at hj] at h
  by_cases e1 : (l[j]).day < 0 ∨ 200000 < (l[j]).day
  · rw [if_pos e1] at h; cases h
  rw [if_neg e1] at h
  by_cases e2 : isNm (l[j]).party = false
  · rw [if_pos e2] at h; cases h
  rw [if_neg e2] at h
  by_cases e3 : insO T M (l[j]).id = none
  · rw [if_pos e3] at h; cases h
  exact ⟨by omega, by omega, by simpa using e2, Option.ne_none_iff_exists'.1 e3⟩
theorem chkAs_take {T : List Th} {M : List Mv} {l : List Ak} (k : Nat) (h : chkAs T M l = 0) : chkAs T M (l.take k) = 0 := by
  obtain ⟨h1, h2⟩ := chkAs_ok h
  have hl : (l.take k).length ≤ l.length := by simp; omega
  rw [chkAs_first (by omega)]
  refine firstF_zero fun j hj => ?_
  have hj' : j < l.length := by omega
  have := h2 j hj'
  have e1 : ∀ i, i ≤ j → (l.take k).getD i default = l.getD i default := fun i hi => by
    rw [getK (by omega), getK (by omega)]; simp
  unfold asF at *
  rw [e1 j (Nat.le_refl _), e1 (j - 1) (by omega)]
  exact this

/-- What is delivered, before it is put in order. -/
def hasD (acc : List Dl) (p : ByteArray) (n : Int) : Bool := acc.any fun x => decide (x.party = p) && decide (x.rc = n)
def addD (fr : ByteArray → Int → Int) (a : Ak) (acc : List Dl) (n : Int) : List Dl := if hasD acc a.party n = true then acc else acc ++ [⟨max a.day (fr a.party n), a.party, n⟩]
def addA (fr : ByteArray → Int → Int) (ins : Int → List Int) (acc : List Dl) (a : Ak) : List Dl := (ins a.id).foldl (addD fr a) acc
def allD (fr : ByteArray → Int → Int) (ins : Int → List Int) (l : List Ak) : List Dl := l.foldl (addA fr ins) []
def srtD (l : List Dl) : List Dl := l.mergeSort dlLe
def frD (T : List Th) (M : List Mv) (l : List Em) (p : ByteArray) (n : Int) : Int := freeD T M l p [n] l.length
def delL (T : List Th) (M : List Mv) (l : List Em) (ak : List Ak) (upto : Int) : List Dl := srtD ((allD (frD T M l) (insL T M) ak).filter fun d => decide (d.day ≤ upto))
def delF (T : List Th) (M : List Mv) (l : List Em) (ak : List Ak) (upto : Int) : List Dl × Int :=
  if chkE T M l ≠ 0 then ([], chkE T M l)
  else if chkAs T M ak ≠ 0 then ([], chkAs T M ak)
  else if upto < 0 ∨ 200000 < upto then ([], 1)
  else (delL T M l ak upto, 0)
section
variable {T : List Th} {M : List Mv} {l : List Em} {ak : List Ak} {upto : Int}
theorem delF_bad (h : chkE T M l ≠ 0) : delF T M l ak upto = ([], chkE T M l) := by unfold delF; rw [if_pos h]
theorem delF_asks (h : chkE T M l = 0) (h2 : chkAs T M ak ≠ 0) : delF T M l ak upto = ([], chkAs T M ak) := by unfold delF; rw [if_neg (by rw [h]; simp), if_pos h2]
theorem delF_upto (h : chkE T M l = 0) (h2 : chkAs T M ak = 0) (h3 : upto < 0 ∨ 200000 < upto) : delF T M l ak upto = ([], 1) := by unfold delF; rw [if_neg (by rw [h]; simp), if_neg (by rw [h2]; simp), if_pos h3]
theorem delF_ok (h : chkE T M l = 0) (h2 : chkAs T M ak = 0) (h3 : ¬ (upto < 0 ∨ 200000 < upto)) : delF T M l ak upto = (delL T M l ak upto, 0) := by unfold delF; rw [if_neg (by rw [h]; simp), if_neg (by rw [h2]; simp), if_neg h3]
theorem delF_inv (h : (delF T M l ak upto).2 = 0) : chkE T M l = 0 ∧ chkAs T M ak = 0 ∧ ¬ (upto < 0 ∨ 200000 < upto) := by
  by_cases h1 : chkE T M l = 0
  · by_cases h2 : chkAs T M ak = 0
    · by_cases h3 : upto < 0 ∨ 200000 < upto
      · rw [delF_upto h1 h2 h3] at h; cases h
      · exact ⟨h1, h2, h3⟩
    · rw [delF_asks h1 h2] at h; exact absurd h h2
  · rw [delF_bad h1] at h; exact absurd h h1
theorem delF_nil (h : (delF T M l ak upto).2 ≠ 0) : (delF T M l ak upto).1 = [] := by
  by_cases h1 : chkE T M l = 0
  · by_cases h2 : chkAs T M ak = 0
    · by_cases h3 : upto < 0 ∨ 200000 < upto
      · rw [delF_upto h1 h2 h3]
      · rw [delF_ok h1 h2 h3] at h; exact absurd rfl h
    · rw [delF_asks h1 h2]
  · rw [delF_bad h1]
end

theorem addD_snoc {fr : ByteArray → Int → Int} {a : Ak} {L : List Int} {k : Nat} (hk : k < L.length) (acc : List Dl) : (L.take (k + 1)).foldl (addD fr a) acc = addD fr a ((L.take k).foldl (addD fr a) acc) L[k] := by
  rw [List.take_succ_eq_append_getElem hk, List.foldl_append]; rfl
theorem allD_snoc {fr : ByteArray → Int → Int} {ins : Int → List Int} {ak : List Ak} {k : Nat} (hk : k < ak.length) : allD fr ins (ak.take (k + 1)) = (ins (ak[k]).id).foldl (addD fr ak[k]) (allD fr ins (ak.take k)) := by
  unfold allD
  rw [List.take_succ_eq_append_getElem hk, List.foldl_append]; rfl

/-- Keys are told apart. -/
def Apart (l : List Dl) : Prop := l.Pairwise fun x y => ¬ (x.party = y.party ∧ x.rc = y.rc)
theorem hasD_iff {acc : List Dl} {p : ByteArray} {n : Int} : hasD acc p n = true ↔ ∃ x ∈ acc, x.party = p ∧ x.rc = n := by
  unfold hasD; simp
theorem addD_apart {fr : ByteArray → Int → Int} {a : Ak} {acc : List Dl} {n : Int} (h : Apart acc) : Apart (addD fr a acc n) := by
  unfold addD
  by_cases hh : hasD acc a.party n = true
  · rw [if_pos hh]; exact h
  · rw [if_neg hh]
    refine List.pairwise_append.2 ⟨h, List.pairwise_singleton _ _, fun x hx y hy e => ?_⟩
    simp only [List.mem_singleton] at hy
    subst hy
    exact hh (hasD_iff.2 ⟨x, hx, e.1, e.2⟩)
theorem addsD_apart {fr : ByteArray → Int → Int} {a : Ak} : ∀ (L : List Int) {acc : List Dl}, Apart acc → Apart (L.foldl (addD fr a) acc)
  | [], _, h => h
  | _ :: L, _, h => addsD_apart L (addD_apart h)
theorem addsA_apart {fr : ByteArray → Int → Int} {ins : Int → List Int} : ∀ (ak : List Ak) {acc : List Dl}, Apart acc → Apart (ak.foldl (addA fr ins) acc)
  | [], _, h => h
  | _ :: ak, _, h => addsA_apart ak (addsD_apart _ h)
theorem allD_apart (fr : ByteArray → Int → Int) (ins : Int → List Int) (ak : List Ak) : Apart (allD fr ins ak) := addsA_apart ak List.Pairwise.nil
theorem addD_pre {fr : ByteArray → Int → Int} {a : Ak} (acc : List Dl) (n : Int) : acc <+: addD fr a acc n := by
  unfold addD
  by_cases hh : hasD acc a.party n = true
  · rw [if_pos hh]; exact List.prefix_refl _
  · rw [if_neg hh]; exact List.prefix_append _ _
theorem addsD_pre {fr : ByteArray → Int → Int} {a : Ak} : ∀ (L : List Int) (acc : List Dl), acc <+: L.foldl (addD fr a) acc
  | [], _ => List.prefix_refl _
  | n :: L, acc => (addD_pre acc n).trans (addsD_pre L _)
theorem addsA_pre {fr : ByteArray → Int → Int} {ins : Int → List Int} : ∀ (ak : List Ak) (acc : List Dl), acc <+: ak.foldl (addA fr ins) acc
  | [], _ => List.prefix_refl _
  | _ :: ak, acc => (addsD_pre _ acc).trans (addsA_pre ak _)
theorem allD_take (fr : ByteArray → Int → Int) (ins : Int → List Int) (ak : List Ak) (k : Nat) : allD fr ins (ak.take k) <+: allD fr ins ak := by
  unfold allD
  conv => rhs; rw [← List.take_append_drop k ak, List.foldl_append]
  exact addsA_pre _ _
/-- Where a delivery comes from. -/
def FromA (fr : ByteArray → Int → Int) (ins : Int → List Int) (ak : List Ak) (x : Dl) : Prop := ∃ a ∈ ak, x.party = a.party ∧ x.rc ∈ ins a.id ∧ x.day = max a.day (fr a.party x.rc)
theorem addsD_from {fr : ByteArray → Int → Int} {a : Ak} : ∀ (L : List Int) (acc : List Dl) (x : Dl), x ∈ L.foldl (addD fr a) acc → x ∈ acc ∨ (x.party = a.party ∧ x.rc ∈ L ∧ x.day = max a.day (fr a.party x.rc))
  | [], _, _, h => .inl h
  | n :: L, acc, x, h => by
    rcases addsD_from L _ x h with h1 | ⟨h1, h2, h3⟩
    · unfold addD at h1
      by_cases hh : hasD acc a.party n = true
      · rw [if_pos hh] at h1; exact .inl h1
      · rw [if_neg hh] at h1
        rcases List.mem_append.1 h1 with h1 | h1
        · exact .inl h1
        · simp only [List.mem_singleton] at h1
          subst h1
          exact .inr ⟨rfl, List.mem_cons_self .., rfl⟩
    · exact .inr ⟨h1, List.mem_cons_of_mem _ h2, h3⟩
theorem addsA_from {fr : ByteArray → Int → Int} {ins : Int → List Int} : ∀ (ak : List Ak) (acc : List Dl) (x : Dl), x ∈ ak.foldl (addA fr ins) acc → x ∈ acc ∨ FromA fr ins ak x
  | [], _, _, h => .inl h
  | a :: ak, acc, x, h => by
    rcases addsA_from ak _ x h with h1 | ⟨b, hb, h2⟩
    · rcases addsD_from _ _ x h1 with h1 | h1
      · exact .inl h1
      · exact .inr ⟨a, List.mem_cons_self .., h1⟩
    · exact .inr ⟨b, List.mem_cons_of_mem _ hb, h2⟩
theorem allD_from {fr : ByteArray → Int → Int} {ins : Int → List Int} {ak : List Ak} {x : Dl} (h : x ∈ allD fr ins ak) : FromA fr ins ak x := by
  rcases addsA_from ak [] x h with h1 | h1
  · cases h1
  · exact h1

theorem srtD_perm (l : List Dl) : (srtD l).Perm l := List.mergeSort_perm _ _
theorem srtD_sorted (l : List Dl) : (srtD l).Pairwise fun a b => dlLe a b = true := List.pairwise_mergeSort dlLe_trans dlLe_total l
theorem sorted_uniq : ∀ {a b : List Dl}, a.Perm b → (a.Pairwise fun x y => dlLe x y = true) → (b.Pairwise fun x y => dlLe x y = true) → a = b
  | [], b, h, _, _ => by rw [List.nil_perm] at h; exact h.symm
  | x :: a, [], h, _, _ => by have := h.length_eq; simp at this
  | x :: a, y :: b, h, ha, hb => by
    obtain ⟨hx, ha'⟩ := List.pairwise_cons.1 ha
    obtain ⟨hy, hb'⟩ := List.pairwise_cons.1 hb
    have hxy : x = y := by
      have hx1 : x ∈ y :: b := h.mem_iff.1 (List.mem_cons_self ..)
      have hy1 : y ∈ x :: a := h.mem_iff.2 (List.mem_cons_self ..)
      rcases List.mem_cons.1 hx1 with e | hx2
      · exact e
      rcases List.mem_cons.1 hy1 with e | hy2
      · exact e.symm
      exact dlLe_anti (hx y hy2) (hy x hx2)
    subst hxy
    rw [sorted_uniq (List.perm_cons _ |>.1 h) ha' hb']
theorem srtD_of {l m : List Dl} (h : m.Perm l) (hm : m.Pairwise fun a b => dlLe a b = true) : m = srtD l := sorted_uniq (h.trans (srtD_perm l).symm) hm (srtD_sorted l)
theorem srtD_filter (l : List Dl) (p : Dl → Bool) : (srtD l).filter p = srtD (l.filter p) := srtD_of ((srtD_perm l).filter p) ((srtD_sorted l).filter p)
theorem dlLe_day {a b : Dl} (h : dlLe a b = true) : a.day ≤ b.day := by
  unfold dlLe at h
  have h' : ¬ (dlLt b a = true) := by simpa using h
  rw [dlLt_iff] at h'
  by_cases hh : a.day ≤ b.day
  · exact hh
  · exact absurd (.inl (by omega)) h'
theorem filter_prefix : ∀ {l : List Dl} (u : Int), (l.Pairwise fun a b => dlLe a b = true) → l.filter (fun d => decide (d.day ≤ u)) <+: l
  | [], _, _ => by simp
  | x :: l, u, h => by
    obtain ⟨h1, h2⟩ := List.pairwise_cons.1 h
    by_cases hx : x.day ≤ u
    · rw [List.filter_cons_of_pos (by simpa using hx)]
      exact List.prefix_cons_inj x |>.2 (filter_prefix u h2)
    · have : l.filter (fun d => decide (d.day ≤ u)) = [] := by
        rw [List.filter_eq_nil_iff]
        intro y hy
        have := dlLe_day (h1 y hy)
        simp; omega
      rw [List.filter_cons_of_neg (by simpa using hx), this]
      exact List.nil_prefix
theorem delL_later {T : List Th} {M : List Mv} {l : List Em} {ak : List Ak} {u v : Int} (h : u ≤ v) : delL T M l ak u <+: delL T M l ak v := by
  have : delL T M l ak u = (delL T M l ak v).filter fun d => decide (d.day ≤ u) := by
    unfold delL
    rw [srtD_filter, List.filter_filter]
    congr 1
    apply List.filter_congr
    intro x _
    by_cases h1 : x.day ≤ u
    · simp [h1]; omega
    · simp [h1]
  rw [this]
  exact filter_prefix u (srtD_sorted _)
theorem delL_mem {T : List Th} {M : List Mv} {l : List Em} {ak : List Ak} {u : Int} {x : Dl} : x ∈ delL T M l ak u ↔ x ∈ allD (frD T M l) (insL T M) ak ∧ x.day ≤ u := by
  unfold delL
  rw [(srtD_perm _).mem_iff]; simp
theorem delL_take {T : List Th} {M : List Mv} {l : List Em} {ak : List Ak} {u : Int} (k : Nat) {x : Dl} (h : x ∈ delL T M l (ak.take k) u) : x ∈ delL T M l ak u := by
  rw [delL_mem] at *
  exact ⟨(allD_take _ _ ak k).mem h.1, h.2⟩

/-- The reference puts each delivery where it belongs. -/
def insD (d : Dl) : List Dl → List Dl
  | [] => [d]
  | x :: t => if dlLt x d = true then x :: insD d t else d :: x :: t
theorem insD_perm (d : Dl) : ∀ l, (insD d l).Perm (d :: l)
  | [] => List.Perm.refl _
  | x :: t => by
    unfold insD
    by_cases h : dlLt x d = true
    · rw [if_pos h]
      exact ((insD_perm d t).cons x).trans (List.Perm.swap _ _ _)
    · rw [if_neg h]
theorem insD_sorted (d : Dl) : ∀ {l : List Dl}, (l.Pairwise fun a b => dlLe a b = true) → (insD d l).Pairwise fun a b => dlLe a b = true
  | [], _ => by unfold insD; exact List.pairwise_singleton _ _
  | x :: t, h => by
    obtain ⟨h1, h2⟩ := List.pairwise_cons.1 h
    unfold insD
    by_cases hx : dlLt x d = true
    · rw [if_pos hx]
      refine List.pairwise_cons.2 ⟨fun y hy => ?_, insD_sorted d h2⟩
      rcases List.mem_cons.1 ((insD_perm d t).mem_iff.1 hy) with rfl | hy
      · unfold dlLe; rw [dlLt_asymm hx]; rfl
      · exact h1 y hy
    · rw [if_neg hx]
      have hdx : dlLe d x = true := by unfold dlLe; simpa using hx
      refine List.pairwise_cons.2 ⟨fun y hy => ?_, h⟩
      rcases List.mem_cons.1 hy with rfl | hy
      · exact hdx
      · exact dlLe_trans _ _ _ hdx (h1 y hy)
def putD (u : Int) (out : List Dl) (d : Dl) : List Dl := if d.day ≤ u then insD d out else out
theorem putsD_sorted (u : Int) : ∀ (l out : List Dl), (out.Pairwise fun a b => dlLe a b = true) → (l.foldl (putD u) out).Pairwise fun a b => dlLe a b = true
  | [], _, h => h
  | d :: l, out, h => putsD_sorted u l _ (by
    unfold putD
    by_cases hd : d.day ≤ u
    · rw [if_pos hd]; exact insD_sorted d h
    · rw [if_neg hd]; exact h)
theorem putsD_perm (u : Int) : ∀ (l out : List Dl), (l.foldl (putD u) out).Perm (l.filter (fun d => decide (d.day ≤ u)) ++ out)
  | [], _ => List.Perm.refl _
  | d :: l, out => by
    rw [List.foldl_cons]
    refine (putsD_perm u l _).trans ?_
    unfold putD
    by_cases hd : d.day ≤ u
    · rw [if_pos hd, List.filter_cons_of_pos (by simpa using hd)]
      refine (List.Perm.append_left _ (insD_perm d out)).trans ?_
      exact List.perm_middle
    · rw [if_neg hd, List.filter_cons_of_neg (by simpa using hd)]
theorem putsD_srt (u : Int) (l : List Dl) : l.foldl (putD u) [] = srtD (l.filter fun d => decide (d.day ≤ u)) :=
  srtD_of (by have := putsD_perm u l []; rwa [List.append_nil] at this) (putsD_sorted u l [] List.Pairwise.nil)
theorem putsD_snoc {u : Int} {l : List Dl} {k : Nat} (hk : k < l.length) : (l.take (k + 1)).foldl (putD u) [] = putD u ((l.take k).foldl (putD u) []) l[k] := by
  rw [List.take_succ_eq_append_getElem hk, List.foldl_append]; rfl

/-- How many there may be. -/
theorem addsD_len {fr : ByteArray → Int → Int} {a : Ak} : ∀ (L : List Int) (acc : List Dl), (L.foldl (addD fr a) acc).length ≤ acc.length + L.length
  | [], _ => by simp
  | n :: L, acc => by
    have h := addsD_len (fr := fr) (a := a) L (addD fr a acc n)
    have h2 : (addD fr a acc n).length ≤ acc.length + 1 := by
      unfold addD
      split <;> simp
    rw [List.foldl_cons, List.length_cons]
    omega
theorem addsA_len {fr : ByteArray → Int → Int} {ins : Int → List Int} {B : Nat} (hB : ∀ id, (ins id).length ≤ B) : ∀ (ak : List Ak) (acc : List Dl), (ak.foldl (addA fr ins) acc).length ≤ acc.length + ak.length * B
  | [], _ => by simp
  | a :: ak, acc => by
    have h := addsA_len (fr := fr) hB ak (addA fr ins acc a)
    have h2 : (addA fr ins acc a).length ≤ acc.length + B := by
      have := addsD_len (fr := fr) (a := a) (ins a.id) acc
      have := hB a.id
      unfold addA
      omega
    rw [List.foldl_cons, List.length_cons, Nat.succ_mul]
    omega
end Go.Proofs.YtfninfgohiipjaaGreatDoor
