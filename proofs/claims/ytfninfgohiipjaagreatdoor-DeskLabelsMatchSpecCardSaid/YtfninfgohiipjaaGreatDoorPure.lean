/- Plain facts about regions, areas and chains of parents: no program in sight. -/
import GoSem.Op.String
namespace Dw

/-- Strings are byte arrays; `a ≤ b` of Go, as the walk writes it. -/
def sle (a b : ByteArray) : Bool := Go.Op.bytesLess a.toList b.toList || a.toList == b.toList
def slt (a b : ByteArray) : Bool := Go.Op.bytesLess a.toList b.toList

theorem bytesLess_eq : ∀ (x y : List UInt8), Go.Op.bytesLess x y = decide (x < y)
  | [], [] => by simp [Go.Op.bytesLess]
  | _ :: _, [] => by simp [Go.Op.bytesLess]
  | [], _ :: _ => by simp [Go.Op.bytesLess]
  | a :: x, b :: y => by
    rw [Go.Op.bytesLess, bytesLess_eq x y, Bool.eq_iff_iff]
    simp [List.cons_lt_cons_iff]

theorem loop_eq (bs : ByteArray) : ∀ (n i : Nat) (r : List UInt8), bs.size - i = n → i ≤ bs.size →
    ByteArray.toList.loop bs i r = r.reverse ++ bs.data.toList.drop i := by
  have hlen : bs.data.toList.length = bs.size := by cases bs; rfl
  intro n
  induction n with
  | zero =>
    intro i r h hi
    have e : i = bs.size := by omega
    subst e
    have hd : bs.data.toList.drop bs.size = [] := List.drop_of_length_le (by rw [hlen]; exact Nat.le_refl _)
    rw [ByteArray.toList.loop, if_neg (Nat.lt_irrefl _), hd, List.append_nil]
  | succ n ih =>
    intro i r h hi
    have hlt : i < bs.size := by omega
    rw [ByteArray.toList.loop, if_pos hlt, ih (i + 1) _ (by omega) (by omega)]
    have hl : i < bs.data.toList.length := by rw [hlen]; exact hlt
    rw [List.drop_eq_getElem_cons hl]
    have hg : bs.get! i = bs.data.toList[i] := by
      cases bs with
      | mk d =>
        have hd : i < d.size := hlt
        simp [ByteArray.get!, hd]
    simp [hg]
theorem toList_eq (bs : ByteArray) : bs.toList = bs.data.toList := by
  unfold ByteArray.toList
  rw [loop_eq bs bs.size 0 [] (by omega) (by omega)]
  simp

theorem toList_inj {a b : ByteArray} (h : a.toList = b.toList) : a = b := by
  rw [toList_eq, toList_eq] at h
  exact ByteArray.ext (Array.toList_inj.1 h)
theorem str_eq {a b : ByteArray} (h : (a.toList == b.toList) = true) : a = b := toList_inj (by simpa using h)
theorem str_ne {a b : ByteArray} (h : (a.toList == b.toList) = false) : a ≠ b := by
  rintro rfl
  simp at h
theorem str_refl (a : ByteArray) : (a.toList == a.toList) = true := by simp
theorem beq_of_eq {a b : ByteArray} (h : a = b) : (a.toList == b.toList) = true := by rw [h]; simp
theorem beq_of_ne {a b : ByteArray} (h : a ≠ b) : (a.toList == b.toList) = false := by
  rw [beq_eq_false_iff_ne]; exact fun e => h (toList_inj e)
theorem str_dec (a b : ByteArray) : (a.toList == b.toList) = decide (a = b) := by
  by_cases h : a = b
  · subst h; simp
  · rw [beq_of_ne h]; simp [h]

def emp : ByteArray := ⟨#[]⟩
theorem emp_toList : emp.toList = [] := by rw [toList_eq]; rfl

theorem emp_isEmpty : emp.toList.isEmpty = true := by rw [emp_toList]; rfl
theorem isEmpty_of_ne {s : ByteArray} (h : s ≠ emp) : s.toList.isEmpty = false := by
  cases hs : s.toList with
  | nil => exact absurd (toList_inj (hs.trans emp_toList.symm)) h
  | cons a l => rfl
theorem isEmpty_of_eq {s : ByteArray} (h : s = emp) : s.toList.isEmpty = true := by rw [h]; exact emp_isEmpty

theorem slt_irrefl (a : ByteArray) : slt a a = false := by
  unfold slt; rw [bytesLess_eq]; simp [List.lt_irrefl]
theorem slt_trans {a b c : ByteArray} (h : slt a b = true) (k : slt b c = true) : slt a c = true := by
  unfold slt at *; rw [bytesLess_eq] at *
  simp only [decide_eq_true_eq] at *
  exact List.lt_trans h k
/-- not (cur ≤ prev): prev < cur -/
theorem slt_of_not_sle {a b : ByteArray} (h : sle a b = false) : slt b a = true := by
  unfold sle at h
  unfold slt
  rw [bytesLess_eq] at *
  simp only [Bool.or_eq_false_iff, decide_eq_false_iff_not, beq_eq_false_iff_ne] at h
  simp only [decide_eq_true_eq]
  obtain ⟨h1, h2⟩ := h
  rw [List.not_lt] at h1
  refine Decidable.byContradiction fun h3 => h2 ?_
  rw [List.not_lt] at h3
  exact List.le_antisymm h3 h1
theorem ne_of_slt {a b : ByteArray} (h : slt a b = true) : a ≠ b := by
  rintro rfl; rw [slt_irrefl] at h; cases h

def memS (l : List ByteArray) (s : ByteArray) : Bool := l.any fun x => decide (x = s)
theorem memS_true {l : List ByteArray} {s : ByteArray} : memS l s = true ↔ s ∈ l := by
  unfold memS
  simp
theorem memS_false {l : List ByteArray} {s : ByteArray} : memS l s = false ↔ s ∉ l := by
  rw [← memS_true]; simp

structure Rg where
  nm : ByteArray
  par : ByteArray
structure Ar where
  rg : ByteArray
  out : Bool
instance : Inhabited Rg := ⟨⟨emp, emp⟩⟩
instance : Inhabited Ar := ⟨⟨emp, false⟩⟩

/-- The place of a name among regions. -/
def idx (l : List Rg) (s : ByteArray) : Option Nat := l.findIdx? fun r => decide (r.nm = s)

theorem idx_some {l : List Rg} {s : ByteArray} {i : Nat} (h : idx l s = some i) : ∃ hi : i < l.length, (l[i]).nm = s := by
  obtain ⟨hi, hp, _⟩ := List.findIdx?_eq_some_iff_getElem.1 h
  exact ⟨hi, by simpa using hp⟩
theorem idx_none {l : List Rg} {s : ByteArray} (h : idx l s = none) {i : Nat} (hi : i < l.length) : (l[i]).nm ≠ s := by
  have := List.findIdx?_eq_none_iff.1 h l[i] (List.getElem_mem hi)
  simpa using this
theorem idx_mk {l : List Rg} {s : ByteArray} {i : Nat} (hi : i < l.length) (h : (l[i]).nm = s) (hmin : ∀ j (hj : j < i), (l[j]).nm ≠ s) : idx l s = some i :=
  List.findIdx?_eq_some_iff_getElem.2 ⟨hi, by simpa using h, fun j hj => by simpa using hmin j hj⟩
theorem idx_mk_none {l : List Rg} {s : ByteArray} (h : ∀ j (hj : j < l.length), (l[j]).nm ≠ s) : idx l s = none := by
  refine List.findIdx?_eq_none_iff.2 fun x hx => ?_
  obtain ⟨j, hj, rfl⟩ := List.getElem_of_mem hx
  simpa using h j hj

/-- Names strictly increase. -/
def Inc (l : List Rg) : Prop := ∀ i (h : i + 1 < l.length), slt (l[i]).nm (l[i + 1]).nm = true
theorem Inc.lt {l : List Rg} (h : Inc l) : ∀ (d i : Nat) (hj : i + d + 1 < l.length), slt (l[i]).nm (l[i + d + 1]).nm = true
  | 0, i, hj => h i hj
  | d + 1, i, hj => slt_trans (h.lt d i (by omega)) (h (i + d + 1) (by omega))
theorem Inc.inj {l : List Rg} (h : Inc l) {i j : Nat} (hi : i < l.length) (hj : j < l.length) (e : (l[i]).nm = (l[j]).nm) : i = j := by
  rcases Nat.lt_trichotomy i j with h1 | h1 | h1
  · obtain ⟨d, rfl⟩ : ∃ d, j = i + d + 1 := ⟨j - i - 1, by omega⟩
    exact absurd e (ne_of_slt (h.lt d i hj))
  · exact h1
  · obtain ⟨d, rfl⟩ : ∃ d, i = j + d + 1 := ⟨i - j - 1, by omega⟩
    exact absurd e.symm (ne_of_slt (h.lt d j hi))
theorem Inc.idx {l : List Rg} (h : Inc l) {i : Nat} (hi : i < l.length) : idx l (l[i]).nm = some i :=
  idx_mk hi rfl fun j hj e => absurd (h.inj (by omega) hi e) (by omega)

/-- The place of the parent. -/
def up (l : List Rg) (i : Nat) : Option Nat :=
  match l[i]? with
  | some r => if r.par = emp then none else idx l r.par
  | none => none
def upN (l : List Rg) : Nat → Nat → Option Nat
  | 0, i => some i
  | n + 1, i => match up l i with
    | some j => upN l n j
    | none => none

theorem up_lt {l : List Rg} {i j : Nat} (h : up l i = some j) : i < l.length ∧ j < l.length := by
  unfold up at h
  split at h
  · rename_i r hr
    split at h
    · cases h
    · obtain ⟨hj, _⟩ := idx_some h
      exact ⟨(List.getElem?_eq_some_iff.1 hr).1, hj⟩
  · cases h
theorem up_of {l : List Rg} {i : Nat} (hi : i < l.length) : up l i = if (l[i]).par = emp then none else idx l (l[i]).par := by
  unfold up; rw [List.getElem?_eq_getElem hi]
theorem upN_add (l : List Rg) : ∀ (a b i : Nat), upN l (a + b) i = (upN l a i).bind (upN l b)
  | 0, b, i => by simp [upN]
  | a + 1, b, i => by
    rw [show a + 1 + b = (a + b) + 1 from by omega, upN, upN]
    cases up l i with
    | none => rfl
    | some j => exact upN_add l a b j
theorem upN_lt {l : List Rg} : ∀ {n i j : Nat}, i < l.length → upN l n i = some j → j < l.length
  | 0, i, j, hi, h => by simp [upN] at h; omega
  | n + 1, i, j, hi, h => by
    rw [upN] at h
    split at h
    · rename_i k hk; exact upN_lt (up_lt hk).2 h
    · cases h
theorem upN_none_mono {l : List Rg} {n m i : Nat} (h : upN l n i = none) (hm : n ≤ m) : upN l m i = none := by
  obtain ⟨d, rfl⟩ : ∃ d, m = n + d := ⟨m - n, by omega⟩
  rw [upN_add, h]; rfl
theorem upN_some_of {l : List Rg} {n m i j : Nat} (h : upN l m i = some j) (hm : n ≤ m) : ∃ k, upN l n i = some k := by
  cases hk : upN l n i with
  | some k => exact ⟨k, rfl⟩
  | none => rw [upN_none_mono hk hm] at h; cases h

/-- There is no way back: all chains end. -/
def EndsR (l : List Rg) : Prop := ∀ i, i < l.length → upN l (l.length + 2) i = none

theorem loop_forever {l : List Rg} {m i : Nat} (h : upN l m i = some i) : ∀ k, upN l (m * k) i = some i
  | 0 => by simp [upN]
  | k + 1 => by rw [Nat.mul_succ, upN_add, loop_forever h k]; exact h

/-- A chain that goes on longer than there are regions comes to a region twice. -/
theorem twice_of_long {l : List Rg} {i : Nat} (hi : i < l.length) (h : upN l l.length i ≠ none) :
    ∃ j m, j < l.length ∧ 0 < m ∧ m ≤ l.length ∧ upN l m j = some j := by
  refine Classical.byContradiction fun hno => ?_
  have hall : ∀ n, n ≤ l.length → ∃ k, upN l n i = some k := fun n hn => by
    cases hk : upN l l.length i with
    | none => exact absurd hk h
    | some k => exact upN_some_of hk hn
  have hnd : ((List.range (l.length + 1)).map fun n => (upN l n i).getD 0).Nodup := by
    rw [List.nodup_iff_pairwise_ne, List.pairwise_iff_getElem]
    intro a b ha hb hab
    simp only [List.length_map, List.length_range] at ha hb
    simp only [List.getElem_map, List.getElem_range]
    obtain ⟨x, hx⟩ := hall a (by omega)
    obtain ⟨y, hy⟩ := hall b (by omega)
    rw [hx, hy]
    intro e
    simp only [Option.getD_some] at e
    subst e
    refine hno ⟨x, b - a, upN_lt hi hx, by omega, by omega, ?_⟩
    have h2 : upN l (a + (b - a)) i = some x := by rw [show a + (b - a) = b from by omega]; exact hy
    rw [upN_add, hx] at h2
    exact h2
  have hsub : ((List.range (l.length + 1)).map fun n => (upN l n i).getD 0) ⊆ List.range l.length := by
    intro x hx
    obtain ⟨n, hn, rfl⟩ := List.mem_map.1 hx
    rw [List.mem_range] at hn
    obtain ⟨k, hk⟩ := hall n (by omega)
    rw [hk]
    simpa using upN_lt hi hk
  have := hnd.length_le_of_subset hsub
  simp at this
  omega

theorem not_ends_iff {l : List Rg} : ¬ EndsR l ↔ ∃ j m, j < l.length ∧ 0 < m ∧ m ≤ l.length ∧ upN l m j = some j := by
  constructor
  · intro h
    unfold EndsR at h
    have : ∃ i, i < l.length ∧ upN l (l.length + 2) i ≠ none := by
      refine Classical.byContradiction fun hn => h fun i hi => ?_
      exact Classical.byContradiction fun h2 => hn ⟨i, hi, h2⟩
    obtain ⟨i, hi, h2⟩ := this
    refine twice_of_long hi fun h3 => h2 (upN_none_mono h3 (by omega))
  · rintro ⟨j, m, hj, hm, hml, h⟩ hE
    have h1 := hE j hj
    have h2 := loop_forever h (l.length + 2)
    have : upN l (m * (l.length + 2)) j = none := upN_none_mono h1 (by
      calc l.length + 2 = 1 * (l.length + 2) := by omega
        _ ≤ m * (l.length + 2) := Nat.mul_le_mul_right _ hm)
    rw [this] at h2; cases h2

theorem findSome_first {α : Type} {n k : Nat} {f : Nat → Option α} {x : α} (hk : k < n) (hpre : ∀ j, j < k → f j = none) (h : f k = some x) :
    (List.range n).findSome? f = some x := by
  obtain ⟨d, rfl⟩ : ∃ d, n = k + (d + 1) := ⟨n - k - 1, by omega⟩
  rw [List.range_add, List.findSome?_append, List.findSome?_eq_none_iff.2 (fun j hj => hpre j (List.mem_range.1 hj)), List.range_succ_eq_map]
  simp [h]
theorem findSome_none {α : Type} {n : Nat} {f : Nat → Option α} (h : ∀ j, j < n → f j = none) : (List.range n).findSome? f = none :=
  List.findSome?_eq_none_iff.2 fun j hj => h j (List.mem_range.1 hj)

/-- A byte of a name. -/
def okB (c : UInt8) : Bool := (decide (97 ≤ c.toNat) && decide (c.toNat ≤ 122)) || (decide (48 ≤ c.toNat) && decide (c.toNat ≤ 57)) || decide (c.toNat = 45)
def isNm (s : ByteArray) : Bool := decide (1 ≤ s.size) && decide (s.size ≤ 40) && decide (97 ≤ (s.data.toList.headD 0).toNat) && decide ((s.data.toList.headD 0).toNat ≤ 122) && s.data.toList.all okB
theorem isNm_ne {s : ByteArray} (h : isNm s = true) : s ≠ emp := by
  rintro rfl
  revert h
  decide
theorem isNm_size {s : ByteArray} (h : isNm s = true) : 1 ≤ s.size ∧ s.size ≤ 40 := by
  unfold isNm at h
  simp only [Bool.and_eq_true, decide_eq_true_eq] at h
  exact ⟨h.1.1.1.1, h.1.1.1.2⟩

def nmAt (l : List Rg) (i : Nat) : ByteArray := (l.getD i default).nm
theorem nmAt_of {l : List Rg} {i : Nat} (h : i < l.length) : nmAt l i = (l[i]).nm := by simp [nmAt, List.getD, h]
def rgFault (l : List Rg) (i : Nat) : Option Int :=
  if isNm (nmAt l i) = false then some 5 else if 0 < i ∧ sle (nmAt l i) (nmAt l (i - 1)) = true then some 8 else none
def parBad (l : List Rg) (r : Rg) : Bool := decide (r.par ≠ emp) && (idx l r.par).isNone
instance (l : List Rg) : Decidable (EndsR l) := inferInstanceAs (Decidable (∀ i, i < l.length → upN l (l.length + 2) i = none))
def chkR (l : List Rg) : Int :=
  if l = [] then 9 else if 200 < l.length then 2 else
  match (List.range l.length).findSome? (rgFault l) with
  | some f => f
  | none => if l.any (parBad l) = true then 5 else if EndsR l then 0 else 14

structure GoodR (l : List Rg) : Prop where
  ne : l ≠ []
  len : l.length ≤ 200
  nm : ∀ i (h : i < l.length), isNm (l[i]).nm = true
  inc : Inc l
  par : ∀ i (h : i < l.length), (l[i]).par ≠ emp → ∃ j, idx l (l[i]).par = some j
  ends : EndsR l

theorem inc_of_fault {l : List Rg} (h : ∀ i, i < l.length → rgFault l i = none) : (∀ i (h : i < l.length), isNm (l[i]).nm = true) ∧ Inc l := by
  have hn : ∀ i (h : i < l.length), isNm (l[i]).nm = true := fun i hi => by
    have := h i hi
    unfold rgFault at this
    rw [nmAt_of hi] at this
    cases hb : isNm (l[i]).nm with
    | true => rfl
    | false => rw [if_pos hb] at this; cases this
  refine ⟨hn, fun i hi => ?_⟩
  have := h (i + 1) hi
  unfold rgFault at this
  rw [nmAt_of hi, if_neg (by rw [hn (i + 1) hi]; simp), show i + 1 - 1 = i from rfl, nmAt_of (by omega)] at this
  refine slt_of_not_sle ?_
  cases hb : sle (l[i + 1]).nm (l[i]).nm with
  | false => rfl
  | true => rw [if_pos ⟨by omega, hb⟩] at this; cases this

theorem rgFault_ne {l : List Rg} {i : Nat} {f : Int} (h : rgFault l i = some f) : f ≠ 0 := by
  unfold rgFault at h
  split at h
  · injection h with h; omega
  · split at h
    · injection h with h; omega
    · cases h

theorem good_of {l : List Rg} (h : chkR l = 0) : GoodR l := by
  unfold chkR at h
  split at h
  · omega
  · rename_i h1
    split at h
    · omega
    · rename_i h2
      split at h
      · rename_i f hf
        obtain ⟨i, _, hi⟩ := List.exists_of_findSome?_eq_some hf
        exact absurd h (rgFault_ne hi)
      · rename_i hn
        have hn' : ∀ i, i < l.length → rgFault l i = none := fun i hi => List.findSome?_eq_none_iff.1 hn i (List.mem_range.2 hi)
        obtain ⟨ha, hb⟩ := inc_of_fault hn'
        split at h
        · omega
        · rename_i h3
          split at h
          · rename_i h4
            refine ⟨h1, by omega, ha, hb, fun i hi hne => ?_, h4⟩
            cases hx : idx l (l[i]).par with
            | some j => exact ⟨j, rfl⟩
            | none => exact absurd (List.any_eq_true.2 ⟨l[i], List.getElem_mem hi, by simp [parBad, hne, hx]⟩) h3
          · omega

def rgAt (a : List Ar) (i : Nat) : ByteArray := (a.getD i default).rg
theorem rgAt_of {a : List Ar} {i : Nat} (h : i < a.length) : rgAt a i = (a[i]).rg := by simp [rgAt, List.getD, h]
def arFault (l : List Rg) (a : List Ar) (i : Nat) : Option Int :=
  if idx l (rgAt a i) = none then some 5 else if 0 < i ∧ sle (rgAt a i) (rgAt a (i - 1)) = true then some 8 else none
def chkA (l : List Rg) (a : List Ar) : Int :=
  if 100 < a.length then 2 else
  match (List.range a.length).findSome? (arFault l a) with
  | some f => f
  | none => 0

def findA (a : List Ar) (s : ByteArray) : Option Ar := a.find? fun x => decide (x.rg = s)
def liesF (l : List Rg) (a : List Ar) : Nat → Nat → Bool
  | 0, _ => false
  | f + 1, i => match findA a (nmAt l i) with
    | some x => !x.out
    | none => match up l i with
      | some j => liesF l a f j
      | none => false
def lies (l : List Rg) (a : List Ar) (i : Nat) : Bool := liesF l a (l.length + 2) i
def isPar (l : List Rg) (i : Nat) : Bool := l.any fun q => decide (q.par = nmAt l i)
def leafIdx (l : List Rg) : List Nat := (List.range l.length).filter fun i => !isPar l i
def leavesOf (l : List Rg) (a : List Ar) : List ByteArray := ((leafIdx l).filter (lies l a)).map (nmAt l)
def underF (l : List Rg) : Nat → Nat → Nat → Bool
  | 0, _, _ => false
  | f + 1, i, k => decide (i = k) || match up l i with
    | some j => underF l f j k
    | none => false
def under (l : List Rg) (i k : Nat) : Bool := underF l (l.length + 2) i k
def fullP (l : List Rg) (S : Nat → Bool) (k : Nat) : Bool := (leafIdx l).all fun i => !under l i k || S i
def plainTop (l : List Rg) (S : Nat → Bool) (i : Nat) : Bool := fullP l S i && match up l i with
  | none => true
  | some j => !fullP l S j
def plainOf (l : List Rg) (S : Nat → Bool) : List Ar := ((List.range l.length).filter (plainTop l S)).map fun i => ⟨nmAt l i, false⟩

def leavesS (l : List Rg) (a : List Ar) : List ByteArray × Int :=
  if chkR l ≠ 0 then ([], chkR l) else if chkA l a ≠ 0 then ([], chkA l a) else (leavesOf l a, 0)
def togetherS (op : Bool → Bool → Bool) (l : List Rg) (a b : List Ar) : List Ar × Int :=
  if chkR l ≠ 0 then ([], chkR l) else if chkA l a ≠ 0 then ([], chkA l a) else if chkA l b ≠ 0 then ([], chkA l b) else
  if 100 < (plainOf l fun i => op (lies l a i) (lies l b i)).length then ([], 2) else (plainOf l fun i => op (lies l a i) (lies l b i), 0)

theorem findA_some {a : List Ar} {s : ByteArray} {k : Nat} (hk : k < a.length) (h : (a[k]).rg = s) (hmin : ∀ j (hj : j < a.length), j < k → (a[j]).rg ≠ s) : findA a s = some a[k] := by
  unfold findA
  rw [List.find?_eq_some_iff_getElem]
  exact ⟨by simpa using h, k, hk, rfl, fun j hj => by simpa using hmin j (by omega) hj⟩
theorem findA_none {a : List Ar} {s : ByteArray} (h : ∀ j (hj : j < a.length), (a[j]).rg ≠ s) : findA a s = none := by
  unfold findA
  rw [List.find?_eq_none]
  intro x hx
  obtain ⟨j, hj, rfl⟩ := List.getElem_of_mem hx
  simpa using h j hj

theorem up_none {l : List Rg} {i : Nat} (hi : i < l.length) (h : (l[i]).par = emp) : up l i = none := by rw [up_of hi, if_pos h]
theorem GoodR.up_some {l : List Rg} (g : GoodR l) {i : Nat} (hi : i < l.length) (h : (l[i]).par ≠ emp) : ∃ j, ∃ hj : j < l.length, up l i = some j ∧ (l[i]).par = (l[j]).nm := by
  obtain ⟨j, hj⟩ := g.par i hi h
  obtain ⟨hjl, e⟩ := idx_some hj
  exact ⟨j, hjl, by rw [up_of hi, if_neg h]; exact hj, e.symm⟩
theorem GoodR.nm_ne {l : List Rg} (g : GoodR l) {i : Nat} (hi : i < l.length) : (l[i]).nm ≠ emp := isNm_ne (g.nm i hi)
theorem GoodR.nm_inj {l : List Rg} (g : GoodR l) {i j : Nat} (hi : i < l.length) (hj : j < l.length) (e : (l[i]).nm = (l[j]).nm) : i = j := g.inc.inj hi hj e

end Dw
