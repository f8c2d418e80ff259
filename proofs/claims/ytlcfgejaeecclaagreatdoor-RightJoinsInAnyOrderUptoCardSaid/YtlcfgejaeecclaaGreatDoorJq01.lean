/- Plain facts about regions, areas and chains of parents: no program in sight. Words for memory: slices that read as lists, kept under calls that only make memory. Walks over the reference of chapter 7 (places): region, has, around, IsLeaf, lies. Each returns what the plain function says. Walks over the reference of chapter 7 (places): around, lies, checkArea. -/
import GoSem.Op.String
import Derived.WalkKit
import Derived.Lib.Hide
import Derived.Deep.LoopGhost
import Derived.WalkLawsBesides
import Derived.WalkSpells
import Derived.Deep.AppendLies
import Derived.Maps.AppendAt
import Derived.Deep.QuietTactic
import Derived.BigQuiet
import Derived.Test.YtlcfgejaeecclaaGreatDoorProg
namespace Dw

/-- Strings are byte arrays; `a ≤ b` of Go, as the walk writes it. -/
def sle (a b : ByteArray) : Bool := Go.Op.bytesLess a.toList b.toList || a.toList == b.toList
def slt (a b : ByteArray) : Bool := Go.Op.bytesLess a.toList b.toList

theorem bytesLess_eq : ∀ (x y : List UInt8), Go.Op.bytesLess x y = decide (x < y)
  | [], [] => by simp [Go.Op.bytesLess]
  | _ :: _, [] => by simp [Go.Op.bytesLess]
  | [], _ :: _ => by simp [Go.Op.bytesLess]
  | a :: x, b :: y => by
    rw [Go.Op.bytesLess, bytesLess_eq x y, Bool.eq_iff_iff]
    simp [List.cons_lt_cons_iff]

theorem loop_eq (bs : ByteArray) : ∀ (n i : Nat) (r : List UInt8), bs.size - i = n → i ≤ bs.size →
    ByteArray.toList.loop bs i r = r.reverse ++ bs.data.toList.drop i := by
  have hlen : bs.data.toList.length = bs.size := by cases bs; rfl
  intro n
  induction n with
  | zero =>
    intro i r h hi
    have e : i = bs.size := by omega
    subst e
    have hd : bs.data.toList.drop bs.size = [] := List.drop_of_length_le (by rw [hlen]; exact Nat.le_refl _)
    rw [ByteArray.toList.loop, if_neg (Nat.lt_irrefl _), hd, List.append_nil]
  | succ n ih =>
    intro i r h hi
    have hlt : i < bs.size := by omega
    rw [ByteArray.toList.loop, if_pos hlt, ih (i + 1) _ (by omega) (by omega)]
    have hl : i < bs.data.toList.length := by rw [hlen]; exact hlt
    rw [List.drop_eq_getElem_cons hl]
    have hg : bs.get! i = bs.data.toList[i] := by
      cases bs with
      | mk d =>
        have hd : i < d.size := hlt
        simp [ByteArray.get!, hd]
    simp [hg]
theorem toList_eq (bs : ByteArray) : bs.toList = bs.data.toList := by
  unfold ByteArray.toList
  rw [loop_eq bs bs.size 0 [] (by omega) (by omega)]
  simp

theorem toList_inj {a b : ByteArray} (h : a.toList = b.toList) : a = b := by
  rw [toList_eq, toList_eq] at h
  exact ByteArray.ext (Array.toList_inj.1 h)
theorem str_eq {a b : ByteArray} (h : (a.toList == b.toList) = true) : a = b := toList_inj (by simpa using h)
theorem str_ne {a b : ByteArray} (h : (a.toList == b.toList) = false) : a ≠ b := by
  rintro rfl
  simp at h
theorem str_refl (a : ByteArray) : (a.toList == a.toList) = true := by simp
theorem beq_of_eq {a b : ByteArray} (h : a = b) : (a.toList == b.toList) = true := by rw [h]; simp
theorem beq_of_ne {a b : ByteArray} (h : a ≠ b) : (a.toList == b.toList) = false := by
  rw [beq_eq_false_iff_ne]; exact fun e => h (toList_inj e)
theorem str_dec (a b : ByteArray) : (a.toList == b.toList) = decide (a = b) := by
  by_cases h : a = b
  · subst h; simp
  · rw [beq_of_ne h]; simp [h]

def emp : ByteArray := ⟨#[]⟩
theorem emp_toList : emp.toList = [] := by rw [toList_eq]; rfl

theorem emp_isEmpty : emp.toList.isEmpty = true := by rw [emp_toList]; rfl
theorem isEmpty_of_ne {s : ByteArray} (h : s ≠ emp) : s.toList.isEmpty = false := by
  cases hs : s.toList with
  | nil => exact absurd (toList_inj (hs.trans emp_toList.symm)) h
  | cons a l => rfl
theorem isEmpty_of_eq {s : ByteArray} (h : s = emp) : s.toList.isEmpty = true := by rw [h]; exact emp_isEmpty

theorem slt_irrefl (a : ByteArray) : slt a a = false := by
  unfold slt; rw [bytesLess_eq]; simp [List.lt_irrefl]
theorem slt_trans {a b c : ByteArray} (h : slt a b = true) (k : slt b c = true) : slt a c = true := by
  unfold slt at *; rw [bytesLess_eq] at *
  simp only [decide_eq_true_eq] at *
  exact List.lt_trans h k
/-- not (cur ≤ prev): prev < cur -/
theorem slt_of_not_sle {a b : ByteArray} (h : sle a b = false) : slt b a = true := by
  unfold sle at h
  unfold slt
  rw [bytesLess_eq] at *
  simp only [Bool.or_eq_false_iff, decide_eq_false_iff_not, beq_eq_false_iff_ne] at h
  simp only [decide_eq_true_eq]
  obtain ⟨h1, h2⟩ := h
  rw [List.not_lt] at h1
  refine Decidable.byContradiction fun h3 => h2 ?_
  rw [List.not_lt] at h3
  exact List.le_antisymm h3 h1
theorem ne_of_slt {a b : ByteArray} (h : slt a b = true) : a ≠ b := by
  rintro rfl; rw [slt_irrefl] at h; cases h

def memS (l : List ByteArray) (s : ByteArray) : Bool := l.any fun x => decide (x = s)
theorem memS_true {l : List ByteArray} {s : ByteArray} : memS l s = true ↔ s ∈ l := by
  unfold memS
  simp
theorem memS_false {l : List ByteArray} {s : ByteArray} : memS l s = false ↔ s ∉ l := by
  rw [← memS_true]; simp

structure Rg where
  nm : ByteArray
  par : ByteArray
structure Ar where
  rg : ByteArray
  out : Bool
instance : Inhabited Rg := ⟨⟨emp, emp⟩⟩
instance : Inhabited Ar := ⟨⟨emp, false⟩⟩

/-- The place of a name among regions. -/
def idx (l : List Rg) (s : ByteArray) : Option Nat := l.findIdx? fun r => decide (r.nm = s)

theorem idx_some {l : List Rg} {s : ByteArray} {i : Nat} (h : idx l s = some i) : ∃ hi : i < l.length, (l[i]).nm = s := by
  obtain ⟨hi, hp, _⟩ := List.findIdx?_eq_some_iff_getElem.1 h
  exact ⟨hi, by simpa using hp⟩
theorem idx_none {l : List Rg} {s : ByteArray} (h : idx l s = none) {i : Nat} (hi : i < l.length) : (l[i]).nm ≠ s := by
  have := List.findIdx?_eq_none_iff.1 h l[i] (List.getElem_mem hi)
  simpa using this
theorem idx_mk {l : List Rg} {s : ByteArray} {i : Nat} (hi : i < l.length) (h : (l[i]).nm = s) (hmin : ∀ j (hj : j < i), (l[j]).nm ≠ s) : idx l s = some i :=
  List.findIdx?_eq_some_iff_getElem.2 ⟨hi, by simpa using h, fun j hj => by simpa using hmin j hj⟩
theorem idx_mk_none {l : List Rg} {s : ByteArray} (h : ∀ j (hj : j < l.length), (l[j]).nm ≠ s) : idx l s = none := by
  refine List.findIdx?_eq_none_iff.2 fun x hx => ?_
  obtain ⟨j, hj, rfl⟩ := List.getElem_of_mem hx
  simpa using h j hj

/-- Names strictly increase. -/
def Inc (l : List Rg) : Prop := ∀ i (h : i + 1 < l.length), slt (l[i]).nm (l[i + 1]).nm = true
theorem Inc.lt {l : List Rg} (h : Inc l) : ∀ (d i : Nat) (hj : i + d + 1 < l.length), slt (l[i]).nm (l[i + d + 1]).nm = true
  | 0, i, hj => h i hj
  | d + 1, i, hj => slt_trans (h.lt d i (by omega)) (h (i + d + 1) (by omega))
theorem Inc.inj {l : List Rg} (h : Inc l) {i j : Nat} (hi : i < l.length) (hj : j < l.length) (e : (l[i]).nm = (l[j]).nm) : i = j := by
  rcases Nat.lt_trichotomy i j with h1 | h1 | h1
  · obtain ⟨d, rfl⟩ : ∃ d, j = i + d + 1 := ⟨j - i - 1, by omega⟩
    exact absurd e (ne_of_slt (h.lt d i hj))
  · exact h1
  · obtain ⟨d, rfl⟩ : ∃ d, i = j + d + 1 := ⟨i - j - 1, by omega⟩
    exact absurd e.symm (ne_of_slt (h.lt d j hi))
theorem Inc.idx {l : List Rg} (h : Inc l) {i : Nat} (hi : i < l.length) : idx l (l[i]).nm = some i :=
  idx_mk hi rfl fun j hj e => absurd (h.inj (by omega) hi e) (by omega)

/-- The place of the parent. -/
def up (l : List Rg) (i : Nat) : Option Nat :=
  match l[i]? with
  | some r => if r.par = emp then none else idx l r.par
  | none => none
def upN (l : List Rg) : Nat → Nat → Option Nat
  | 0, i => some i
  | n + 1, i => match up l i with
    | some j => upN l n j
    | none => none

theorem up_lt {l : List Rg} {i j : Nat} (h : up l i = some j) : i < l.length ∧ j < l.length := by
  unfold up at h
  split at h
  · rename_i r hr
    split at h
    · cases h
    · obtain ⟨hj, _⟩ := idx_some h
      exact ⟨(List.getElem?_eq_some_iff.1 hr).1, hj⟩
  · cases h
theorem up_of {l : List Rg} {i : Nat} (hi : i < l.length) : up l i = if (l[i]).par = emp then none else idx l (l[i]).par := by
  unfold up; rw [List.getElem?_eq_getElem hi]
theorem upN_add (l : List Rg) : ∀ (a b i : Nat), upN l (a + b) i = (upN l a i).bind (upN l b)
  | 0, b, i => by simp [upN]
  | a + 1, b, i => by
    rw [show a + 1 + b = (a + b) + 1 from by omega, upN, upN]
    cases up l i with
    | none => rfl
    | some j => exact upN_add l a b j
theorem upN_lt {l : List Rg} : ∀ {n i j : Nat}, i < l.length → upN l n i = some j → j < l.length
  | 0, i, j, hi, h => by simp [upN] at h; omega
  | n + 1, i, j, hi, h => by
    rw [upN] at h
    split at h
    · rename_i k hk; exact upN_lt (up_lt hk).2 h
    · cases h
theorem upN_none_mono {l : List Rg} {n m i : Nat} (h : upN l n i = none) (hm : n ≤ m) : upN l m i = none := by
  obtain ⟨d, rfl⟩ : ∃ d, m = n + d := ⟨m - n, by omega⟩
  rw [upN_add, h]; rfl
theorem upN_some_of {l : List Rg} {n m i j : Nat} (h : upN l m i = some j) (hm : n ≤ m) : ∃ k, upN l n i = some k := by
  cases hk : upN l n i with
  | some k => exact ⟨k, rfl⟩
  | none => rw [upN_none_mono hk hm] at h; cases h

/-- There is no way back: all chains end. -/
def EndsR (l : List Rg) : Prop := ∀ i, i < l.length → upN l (l.length + 2) i = none

theorem loop_forever {l : List Rg} {m i : Nat} (h : upN l m i = some i) : ∀ k, upN l (m * k) i = some i
  | 0 => by simp [upN]
  | k + 1 => by rw [Nat.mul_succ, upN_add, loop_forever h k]; exact h

/-- A chain that goes on longer than there are regions comes to a region twice. -/
theorem twice_of_long {l : List Rg} {i : Nat} (hi : i < l.length) (h : upN l l.length i ≠ none) :
    ∃ j m, j < l.length ∧ 0 < m ∧ m ≤ l.length ∧ upN l m j = some j := by
  refine Classical.byContradiction fun hno => ?_
  have hall : ∀ n, n ≤ l.length → ∃ k, upN l n i = some k := fun n hn => by
    cases hk : upN l l.length i with
    | none => exact absurd hk h
    | some k => exact upN_some_of hk hn
  have hnd : ((List.range (l.length + 1)).map fun n => (upN l n i).getD 0).Nodup := by
    rw [List.nodup_iff_pairwise_ne, List.pairwise_iff_getElem]
    intro a b ha hb hab
    simp only [List.length_map, List.length_range] at ha hb
    simp only [List.getElem_map, List.getElem_range]
    obtain ⟨x, hx⟩ := hall a (by omega)
    obtain ⟨y, hy⟩ := hall b (by omega)
    rw [hx, hy]
    intro e
    simp only [Option.getD_some] at e
    subst e
    refine hno ⟨x, b - a, upN_lt hi hx, by omega, by omega, ?_⟩
    have h2 : upN l (a + (b - a)) i = some x := by rw [show a + (b - a) = b from by omega]; exact hy
    rw [upN_add, hx] at h2
    exact h2
  have hsub : ((List.range (l.length + 1)).map fun n => (upN l n i).getD 0) ⊆ List.range l.length := by
    intro x hx
    obtain ⟨n, hn, rfl⟩ := List.mem_map.1 hx
    rw [List.mem_range] at hn
    obtain ⟨k, hk⟩ := hall n (by omega)
    rw [hk]
    simpa using upN_lt hi hk
  have := hnd.length_le_of_subset hsub
  simp at this
  omega

theorem not_ends_iff {l : List Rg} : ¬ EndsR l ↔ ∃ j m, j < l.length ∧ 0 < m ∧ m ≤ l.length ∧ upN l m j = some j := by
  constructor
  · intro h
    unfold EndsR at h
    have : ∃ i, i < l.length ∧ upN l (l.length + 2) i ≠ none := by
      refine Classical.byContradiction fun hn => h fun i hi => ?_
      exact Classical.byContradiction fun h2 => hn ⟨i, hi, h2⟩
    obtain ⟨i, hi, h2⟩ := this
    refine twice_of_long hi fun h3 => h2 (upN_none_mono h3 (by omega))
  · rintro ⟨j, m, hj, hm, hml, h⟩ hE
    have h1 := hE j hj
    have h2 := loop_forever h (l.length + 2)
    have : upN l (m * (l.length + 2)) j = none := upN_none_mono h1 (by
      calc l.length + 2 = 1 * (l.length + 2) := by omega
        _ ≤ m * (l.length + 2) := Nat.mul_le_mul_right _ hm)
    rw [this] at h2; cases h2

theorem findSome_first {α : Type} {n k : Nat} {f : Nat → Option α} {x : α} (hk : k < n) (hpre : ∀ j, j < k → f j = none) (h : f k = some x) :
    (List.range n).findSome? f = some x := by
  obtain ⟨d, rfl⟩ : ∃ d, n = k + (d + 1) := ⟨n - k - 1, by omega⟩
  rw [List.range_add, List.findSome?_append, List.findSome?_eq_none_iff.2 (fun j hj => hpre j (List.mem_range.1 hj)), List.range_succ_eq_map]
  simp [h]
theorem findSome_none {α : Type} {n : Nat} {f : Nat → Option α} (h : ∀ j, j < n → f j = none) : (List.range n).findSome? f = none :=
  List.findSome?_eq_none_iff.2 fun j hj => h j (List.mem_range.1 hj)

/-- A byte of a name. -/
def okB (c : UInt8) : Bool := (decide (97 ≤ c.toNat) && decide (c.toNat ≤ 122)) || (decide (48 ≤ c.toNat) && decide (c.toNat ≤ 57)) || decide (c.toNat = 45)
def isNm (s : ByteArray) : Bool := decide (1 ≤ s.size) && decide (s.size ≤ 40) && decide (97 ≤ (s.data.toList.headD 0).toNat) && decide ((s.data.toList.headD 0).toNat ≤ 122) && s.data.toList.all okB
theorem isNm_ne {s : ByteArray} (h : isNm s = true) : s ≠ emp := by
  rintro rfl
  revert h
  decide
theorem isNm_size {s : ByteArray} (h : isNm s = true) : 1 ≤ s.size ∧ s.size ≤ 40 := by
  unfold isNm at h
  simp only [Bool.and_eq_true, decide_eq_true_eq] at h
  exact ⟨h.1.1.1.1, h.1.1.1.2⟩

def nmAt (l : List Rg) (i : Nat) : ByteArray := (l.getD i default).nm
theorem nmAt_of {l : List Rg} {i : Nat} (h : i < l.length) : nmAt l i = (l[i]).nm := by simp [nmAt, List.getD, h]
def rgFault (l : List Rg) (i : Nat) : Option Int :=
  if isNm (nmAt l i) = false then some 5 else if 0 < i ∧ sle (nmAt l i) (nmAt l (i - 1)) = true then some 8 else none
def parBad (l : List Rg) (r : Rg) : Bool := decide (r.par ≠ emp) && (idx l r.par).isNone
instance (l : List Rg) : Decidable (EndsR l) := inferInstanceAs (Decidable (∀ i, i < l.length → upN l (l.length + 2) i = none))
def chkR (l : List Rg) : Int :=
  if l = [] then 9 else if 200 < l.length then 2 else
  match (List.range l.length).findSome? (rgFault l) with
  | some f => f
  | none => if l.any (parBad l) = true then 5 else if EndsR l then 0 else 14

structure GoodR (l : List Rg) : Prop where
  ne : l ≠ []
  len : l.length ≤ 200
  nm : ∀ i (h : i < l.length), isNm (l[i]).nm = true
  inc : Inc l
  par : ∀ i (h : i < l.length), (l[i]).par ≠ emp → ∃ j, idx l (l[i]).par = some j
  ends : EndsR l

theorem inc_of_fault {l : List Rg} (h : ∀ i, i < l.length → rgFault l i = none) : (∀ i (h : i < l.length), isNm (l[i]).nm = true) ∧ Inc l := by
  have hn : ∀ i (h : i < l.length), isNm (l[i]).nm = true := fun i hi => by
    have := h i hi
    unfold rgFault at this
    rw [nmAt_of hi] at this
    cases hb : isNm (l[i]).nm with
    | true => rfl
    | false => rw [if_pos hb] at this; cases this
  refine ⟨hn, fun i hi => ?_⟩
  have := h (i + 1) hi
  unfold rgFault at this
  rw [nmAt_of hi, if_neg (by rw [hn (i + 1) hi]; simp), show i + 1 - 1 = i from rfl, nmAt_of (by omega)] at this
  refine slt_of_not_sle ?_
  cases hb : sle (l[i + 1]).nm (l[i]).nm with
  | false => rfl
  | true => rw [if_pos ⟨by omega, hb⟩] at this; cases this

theorem rgFault_ne {l : List Rg} {i : Nat} {f : Int} (h : rgFault l i = some f) : f ≠ 0 := by
  unfold rgFault at h
  split at h
  · injection h with h; omega
  · split at h
    · injection h with h; omega
    · cases h

theorem good_of {l : List Rg} (h : chkR l = 0) : GoodR l := by
  unfold chkR at h
  split at h
  · omega
  · rename_i h1
    split at h
    · omega
    · rename_i h2
      split at h
      · rename_i f hf
        obtain ⟨i, _, hi⟩ := List.exists_of_findSome?_eq_some hf
        exact absurd h (rgFault_ne hi)
      · rename_i hn
        have hn' : ∀ i, i < l.length → rgFault l i = none := fun i hi => List.findSome?_eq_none_iff.1 hn i (List.mem_range.2 hi)
        obtain ⟨ha, hb⟩ := inc_of_fault hn'
        split at h
        · omega
        · rename_i h3
          split at h
          · rename_i h4
            refine ⟨h1, by omega, ha, hb, fun i hi hne => ?_, h4⟩
            cases hx : idx l (l[i]).par with
            | some j => exact ⟨j, rfl⟩
            | none => exact absurd (List.any_eq_true.2 ⟨l[i], List.getElem_mem hi, by simp [parBad, hne, hx]⟩) h3
          · omega

def rgAt (a : List Ar) (i : Nat) : ByteArray := (a.getD i default).rg
theorem rgAt_of {a : List Ar} {i : Nat} (h : i < a.length) : rgAt a i = (a[i]).rg := by simp [rgAt, List.getD, h]
def arFault (l : List Rg) (a : List Ar) (i : Nat) : Option Int :=
  if idx l (rgAt a i) = none then some 5 else if 0 < i ∧ sle (rgAt a i) (rgAt a (i - 1)) = true then some 8 else none
def chkA (l : List Rg) (a : List Ar) : Int :=
  if 100 < a.length then 2 else
  match (List.range a.length).findSome? (arFault l a) with
  | some f => f
  | none => 0

def findA (a : List Ar) (s : ByteArray) : Option Ar := a.find? fun x => decide (x.rg = s)
def liesF (l : List Rg) (a : List Ar) : Nat → Nat → Bool
  | 0, _ => false
  | f + 1, i => match findA a (nmAt l i) with
    | some x => !x.out
    | none => match up l i with
      | some j => liesF l a f j
      | none => false
def lies (l : List Rg) (a : List Ar) (i : Nat) : Bool := liesF l a (l.length + 2) i
def isPar (l : List Rg) (i : Nat) : Bool := l.any fun q => decide (q.par = nmAt l i)
def leafIdx (l : List Rg) : List Nat := (List.range l.length).filter fun i => !isPar l i
def leavesOf (l : List Rg) (a : List Ar) : List ByteArray := ((leafIdx l).filter (lies l a)).map (nmAt l)
def underF (l : List Rg) : Nat → Nat → Nat → Bool
  | 0, _, _ => false
  | f + 1, i, k => decide (i = k) || match up l i with
    | some j => underF l f j k
    | none => false
def under (l : List Rg) (i k : Nat) : Bool := underF l (l.length + 2) i k
def fullP (l : List Rg) (S : Nat → Bool) (k : Nat) : Bool := (leafIdx l).all fun i => !under l i k || S i
def plainTop (l : List Rg) (S : Nat → Bool) (i : Nat) : Bool := fullP l S i && match up l i with
  | none => true
  | some j => !fullP l S j
def plainOf (l : List Rg) (S : Nat → Bool) : List Ar := ((List.range l.length).filter (plainTop l S)).map fun i => ⟨nmAt l i, false⟩

def leavesS (l : List Rg) (a : List Ar) : List ByteArray × Int :=
  if chkR l ≠ 0 then ([], chkR l) else if chkA l a ≠ 0 then ([], chkA l a) else (leavesOf l a, 0)
def togetherS (op : Bool → Bool → Bool) (l : List Rg) (a b : List Ar) : List Ar × Int :=
  if chkR l ≠ 0 then ([], chkR l) else if chkA l a ≠ 0 then ([], chkA l a) else if chkA l b ≠ 0 then ([], chkA l b) else
  if 100 < (plainOf l fun i => op (lies l a i) (lies l b i)).length then ([], 2) else (plainOf l fun i => op (lies l a i) (lies l b i), 0)

theorem findA_some {a : List Ar} {s : ByteArray} {k : Nat} (hk : k < a.length) (h : (a[k]).rg = s) (hmin : ∀ j (hj : j < a.length), j < k → (a[j]).rg ≠ s) : findA a s = some a[k] := by
  unfold findA
  rw [List.find?_eq_some_iff_getElem]
  exact ⟨by simpa using h, k, hk, rfl, fun j hj => by simpa using hmin j (by omega) hj⟩
theorem findA_none {a : List Ar} {s : ByteArray} (h : ∀ j (hj : j < a.length), (a[j]).rg ≠ s) : findA a s = none := by
  unfold findA
  rw [List.find?_eq_none]
  intro x hx
  obtain ⟨j, hj, rfl⟩ := List.getElem_of_mem hx
  simpa using h j hj

theorem up_none {l : List Rg} {i : Nat} (hi : i < l.length) (h : (l[i]).par = emp) : up l i = none := by rw [up_of hi, if_pos h]
theorem GoodR.up_some {l : List Rg} (g : GoodR l) {i : Nat} (hi : i < l.length) (h : (l[i]).par ≠ emp) : ∃ j, ∃ hj : j < l.length, up l i = some j ∧ (l[i]).par = (l[j]).nm := by
  obtain ⟨j, hj⟩ := g.par i hi h
  obtain ⟨hjl, e⟩ := idx_some hj
  exact ⟨j, hjl, by rw [up_of hi, if_neg h]; exact hj, e.symm⟩
theorem GoodR.nm_ne {l : List Rg} (g : GoodR l) {i : Nat} (hi : i < l.length) : (l[i]).nm ≠ emp := isNm_ne (g.nm i hi)
theorem GoodR.nm_inj {l : List Rg} (g : GoodR l) {i j : Nat} (hi : i < l.length) (hj : j < l.length) (e : (l[i]).nm = (l[j]).nm) : i = j := g.inc.inj hi hj e

end Dw

namespace Dw
open Go Go.RowKit

/-- A slice of one-cell elements reads as a list. -/
def Rd1 {α : Type} (f : α → Value) (w : World) (A : Option Addr) (l : List α) : Prop :=
  0 < l.length → ∃ b o : Nat, A = some ⟨b, o, none⟩ ∧ ∀ i (h : i < l.length), w.cell? ⟨b, o + i, none⟩ = some (f l[i])
/-- A slice of two-cell elements reads as a list. -/
def Rd2 {α : Type} (f g : α → Value) (w : World) (A : Option Addr) (l : List α) : Prop :=
  0 < l.length → ∃ b o : Nat, A = some ⟨b, o, none⟩ ∧ ∀ i (h : i < l.length), w.cell? ⟨b, o + i * 2, none⟩ = some (f l[i]) ∧ w.cell? ⟨b, o + i * 2 + 1, none⟩ = some (g l[i])

section
variable {α : Type} {f g : α → Value} {w w' : World} {A : Option Addr} {l : List α}
theorem Rd1.nil : Rd1 f w A [] := fun h => absurd h (by simp)
theorem Rd2.nil : Rd2 f g w A [] := fun h => absurd h (by simp)
theorem Rd1.keep (h : Rd1 f w A l) (hk : ∀ b o, b < w.heap.size → w'.cell? ⟨b, o, none⟩ = w.cell? ⟨b, o, none⟩) : Rd1 f w' A l := fun hl => by
  obtain ⟨b, o, rfl, hc⟩ := h hl
  exact ⟨b, o, rfl, fun i hi => (hk _ _ (World.block_lt_of_cell? w _ (hc i hi))).trans (hc i hi)⟩
theorem Rd2.keep (h : Rd2 f g w A l) (hk : ∀ b o, b < w.heap.size → w'.cell? ⟨b, o, none⟩ = w.cell? ⟨b, o, none⟩) : Rd2 f g w' A l := fun hl => by
  obtain ⟨b, o, rfl, hc⟩ := h hl
  exact ⟨b, o, rfl, fun i hi => ⟨(hk _ _ (World.block_lt_of_cell? w _ (hc i hi).1)).trans (hc i hi).1, (hk _ _ (World.block_lt_of_cell? w _ (hc i hi).2)).trans (hc i hi).2⟩⟩
theorem Rd1.below (h : Rd1 f w A l) (hb : Below w.heap.size w w') : Rd1 f w' A l := h.keep fun _ _ hlt => hb.cell hlt
theorem Rd2.below (h : Rd2 f g w A l) (hb : Below w.heap.size w w') : Rd2 f g w' A l := h.keep fun _ _ hlt => hb.cell hlt
theorem Rd1.alloc (h : Rd1 f w A l) (o : Obj) : Rd1 f (w.alloc o) A l := h.keep fun _ _ hlt => World.cell?_alloc_lt _ _ _ hlt
theorem Rd2.alloc (h : Rd2 f g w A l) (o : Obj) : Rd2 f g (w.alloc o) A l := h.keep fun _ _ hlt => World.cell?_alloc_lt _ _ _ hlt
theorem Rd1.drew (h : Rd1 f w A l) : Rd1 f w.drew A l := h
theorem Rd2.drew (h : Rd2 f g w A l) : Rd2 f g w.drew A l := h
theorem Rd1.drewN (h : Rd1 f w A l) (n : Nat) : Rd1 f (w.drewN n) A l := h
theorem Rd2.drewN (h : Rd2 f g w A l) (n : Nat) : Rd2 f g (w.drewN n) A l := h
theorem Rd1.at_ (h : Rd1 f w A l) (hl : 0 < l.length) : ∃ b o : Nat, A = some ⟨b, o, none⟩ ∧ b < w.heap.size ∧ ∀ i (h : i < l.length), w.cell? ⟨b, o + i, none⟩ = some (f l[i]) := by
  obtain ⟨b, o, rfl, hc⟩ := h hl
  exact ⟨b, o, rfl, World.block_lt_of_cell? w _ (hc 0 hl), hc⟩
theorem Rd2.at_ (h : Rd2 f g w A l) (hl : 0 < l.length) : ∃ b o : Nat, A = some ⟨b, o, none⟩ ∧ b < w.heap.size ∧ ∀ i (h : i < l.length), w.cell? ⟨b, o + i * 2, none⟩ = some (f l[i]) ∧ w.cell? ⟨b, o + i * 2 + 1, none⟩ = some (g l[i]) := by
  obtain ⟨b, o, rfl, hc⟩ := h hl
  exact ⟨b, o, rfl, World.block_lt_of_cell? w _ (hc 0 hl).1, hc⟩
end

theorem below_trans {a b c : World} (h : Below a.heap.size a b) (k : Below b.heap.size b c) : Below a.heap.size a c := h.trans (k.mono h.size)
theorem below_drewN {B : Nat} {a w : World} (h : Below B a w) (n : Nat) : Below B a (w.drewN n) := ⟨h.os, h.tape, h.output, h.size, h.block⟩

/-- An owned row of one-cell elements reads as its list. -/
theorem Rd1.of_own {α : Type} {f : α → Value} {w : World} {base : Nat} {e : TypeId} {l : List α} {v : Value} (h : w.ownsRow base e 1 v l.length (l.map f)) :
    ∃ A c, v = .slice A l.length c ∧ Rd1 f w A l := by
  rcases h.2 with ⟨rfl, hn⟩ | ⟨g, cap, cur, rfl, hb, hg, hnc, hm, hs, htake⟩
  · exact ⟨none, 0, by rw [hn], fun hl => by omega⟩
  · refine ⟨_, _, rfl, fun hl => ⟨g, 0, rfl, fun i hi => ?_⟩⟩
    rw [Nat.zero_add, cell_of_row w g i cur e (0, 0) hg]
    have : (cur.toList.take (l.length * 1))[i]? = (l.map f)[i]? := by rw [htake]
    rw [List.getElem?_take, if_pos (by omega)] at this
    simpa [hi] using this

/-- The row of a slice's element type in the program's table. -/
structure ElemT (P : Program) (t e : TypeId) (z : Value) (size bytes : Nat) : Prop where
  ty : P.underlying t = some (.slice e)
  info : (P.info? e).map (fun i => (i.zero, i.size, i.bytes)) = some (some z, size, bytes)
  zs : z.cells.size = size
  pos : 0 < size

/-- A slice value that is the call's own and holds a list. -/
def OwnL {α : Type} (enc : α → List Value) (k : Nat) (w : World) (base : Nat) (e : TypeId) (v : Value) (l : List α) : Prop :=
  w.ownsRow base e k v l.length (l.flatMap enc)

section
variable {α : Type} {enc : α → List Value} {k : Nat} {w w' : World} {base : Nat} {e : TypeId} {v : Value} {l : List α}
theorem OwnL.nil (enc : α → List Value) (k : Nat) (w : World) (base : Nat) (e : TypeId) : OwnL enc k w base e (.slice none 0 0) ([] : List α) := World.ownsRow_nil w base e k
theorem OwnL.alloc (h : OwnL enc k w base e v l) (o : Obj) : OwnL enc k (w.alloc o) base e v l := World.ownsRow.alloc h o
theorem OwnL.grown {row : Option Nat} (h : OwnL enc k w base e v l) (hg : w.grownBy w' row) (hne : v.ownBlock = none ∨ v.ownBlock ≠ row) : OwnL enc k w' base e v l := World.ownsRow.kept h hg hne
theorem grownBy_of_below (hb : Below w.heap.size w w') (row : Option Nat) : w.grownBy w' row := ⟨hb.os, hb.tape, hb.output, hb.size, fun i hi _ => hb.block i hi⟩
theorem OwnL.below (h : OwnL enc k w base e v l) (hb : Below w.heap.size w w') : OwnL enc k w' base e v l :=
  h.grown (row := none) (grownBy_of_below hb none) (by cases hv : v.ownBlock <;> simp)
theorem OwnL.drewN (h : OwnL enc k w base e v l) (n : Nat) : OwnL enc k (w.drewN n) base e v l := h
theorem flat1 {f : α → Value} (l : List α) : l.flatMap (fun x => [f x]) = l.map f := by
  induction l with
  | nil => rfl
  | cons a t ih => simp [List.flatMap_cons, ih]
theorem OwnL.rd1 {f : α → Value} (h : OwnL (fun x => [f x]) 1 w base e v l) : ∃ A c, v = .slice A l.length c ∧ Rd1 f w A l := by
  refine Rd1.of_own (base := base) (e := e) ?_
  unfold OwnL at h
  rw [flat1] at h
  exact h
theorem flat2 {f g : α → Value} (l : List α) (i : Nat) (hi : i < l.length) : (l.flatMap fun x => [f x, g x])[i * 2]? = some (f l[i]) ∧ (l.flatMap fun x => [f x, g x])[i * 2 + 1]? = some (g l[i]) := by
  induction l generalizing i with
  | nil => simp at hi
  | cons a t ih =>
    cases i with
    | zero => simp [List.flatMap_cons]
    | succ i =>
      have := ih i (by simpa using hi)
      rw [List.flatMap_cons, show (i + 1) * 2 = i * 2 + 2 from by omega, show i * 2 + 2 + 1 = (i * 2 + 1) + 2 from by omega]
      simpa using this
theorem OwnL.rd2 {f g : α → Value} (h : OwnL (fun x => [f x, g x]) 2 w base e v l) : ∃ A c, v = .slice A l.length c ∧ Rd2 f g w A l := by
  rcases h.2 with ⟨rfl, hn⟩ | ⟨b, cap, cur, rfl, hb, hg, hnc, hm, hs, htake⟩
  · exact ⟨none, 0, by rw [hn], fun hl => by omega⟩
  · refine ⟨_, _, rfl, fun hl => ⟨b, 0, rfl, fun i hi => ?_⟩⟩
    obtain ⟨h0, h1⟩ := flat2 (f := f) (g := g) l i hi
    rw [← htake, List.getElem?_take, if_pos (by omega)] at h0 h1
    rw [Nat.zero_add, cell_of_row w b _ cur e (0, 0) hg, cell_of_row w b _ cur e (0, 0) hg]
    exact ⟨by simpa using h0, by simpa using h1⟩
end

/-- append of one element to a slice of the call's own. -/
theorem wpList_push {P : Program} {α : Type} {enc : α → List Value} {k : Nat} {ops : Array Oper} {rest : List Oper} {o : Oper} {a : Act} {w : World} {Q : Exit → Act → World → Prop}
    {e : TypeId} {z : Value} {bytes : Nat} (s x : Operand) (t : TypeId) (hT : ElemT P t e z k bytes) (hgd : o.guard = none) (ho : o.op = .call { callee := .builtin .append, args := #[s, x], argTypes := #[t, t] })
    (base : Nat) (v : Value) (l : List α) (hs : a.eval s = v) (hown : OwnL enc k w base e v l)
    (g cp : Nat) (y : α) (hx : a.eval x = .slice (some ⟨g, 0, none⟩) 1 cp) (hnew : w.heap[g]? = some (.cells (enc y).toArray e (0, 0)))
    (hk : (enc y).length = k) (hone : ∀ u ∈ enc y, u.oneCell' = true) (hlen : l.length + 1 ≤ maxLen) (hbytes : (l.length + 1) * bytes ≤ 140737488355328) (hbase : base ≤ w.heap.size)
    (h : ∀ v' w', OwnL enc k w' base e v' (l ++ [y]) → w.grownBy w' v.ownBlock → Below base w w' → wpList P ops Q rest (a.put o.dst v') w') : wpList P ops Q (o :: rest) a w := by
  obtain ⟨i, hi, hz0, hz1, hz2⟩ := info_parts hT.info
  refine wpList_append_own _ hgd s x t ho base e i z k bytes hT.ty hi hz0 hz1 hz2 hT.zs hT.pos v l.length (l.flatMap enc) hs hown ⟨g, 0, none⟩ 1 cp (enc y) hx (by rw [hk]; omega) ?_ hone hlen hbytes hbase ?_
  · intro j u hj
    have := World.news_of_block hnew j u (by simpa using hj)
    exact this
  · intro v' w' h1 h2 _
    refine h v' w' ?_ h2 ((Below.refl _ _).grown h2 hbase fun j hj => (World.ownsRow.lt hown j hj).1)
    unfold OwnL
    simpa using h1
end Dw

namespace Go.Proofs.YtlcfgejaeecclaaGreatDoor
open Go.RowKit Dw

abbrev Rgs := Rd2 (fun r : Rg => Value.string r.nm) (fun r : Rg => Value.string r.par)
abbrev Ars := Rd2 (fun x : Ar => Value.string x.rg) (fun x : Ar => Value.bool x.out)
abbrev Strs := Rd1 Value.string

/-- A call that answers v and leaves the world as it is. -/
def Gives (v : Value) (w : World) (e : Ending) (w' : World) : Prop := e = .returned v ∧ w = w'
theorem Gives.mk {v v' : Value} {w w' : World} (h : v = v') (hw : w = w') : Gives v' w (.returned v) w' := ⟨by rw [h], hw⟩
theorem vint {a b : Int} (h : a = b) : Value.int .i64 a = .int .i64 b := by rw [h]
theorem vbool {a b : Bool} (h : a = b) : Value.bool a = .bool b := by rw [h]

def idxI (l : List Rg) (s : ByteArray) : Int := match idx l s with
  | some i => i
  | none => -1

def RegionRel (w : World) (l : List Rg) (nm : ByteArray) (m : Nat) (i : Value) (wr : World) : Prop :=
  wr = w ∧ ∃ k : Nat, k + m = l.length ∧ i = .int .i64 k ∧ ∀ j (h : j < l.length), j < k → (l[j]).nm ≠ nm

set_option maxHeartbeats 400000 in
theorem region_c (A : Option Addr) (c : Nat) (l : List Rg) (nm : ByteArray) (w : World) (hn : l.length ≤ 200) (h : Rgs w A l) :
    Calls Tryz.prog 83 #[.slice A l.length c, .string nm] w (Gives (.int .i64 (idxI l nm)) w) := by
  go_enter Tryz.func83, Tryz.ntmps83
  go_wp2
  go_loopg [5] l.length (RegionRel w l nm)
  case atStart => exact ⟨rfl, 0, by omega, rfl, fun j _ hj => absurd hj (by omega)⟩
  case round =>
    obtain ⟨hw, k, hk, rfl, hpre⟩ := hrel
    subst hw
    have HK := Lib.hid hk
    have HP := Lib.hid hpre
    have hk1 : k ≤ l.length := by omega
    clear hk hpre
    by_cases hlt : k < l.length
    · obtain ⟨b, o, rfl, hb, hc⟩ := h.at_ (by omega)
      have hc0 := (hc k hlt).1
      clear hc
      by_cases hq : (l[k]).nm = nm
      · have hqb := beq_of_eq hq
        have HQ := Lib.hid hq
        clear hq
        go_wp2
        go_ret
        refine Gives.mk (vint ?_) rfl
        unfold idxI
        rw [idx_mk hlt HQ.out (fun j hj => HP.out j (by omega) hj)]
      · have hqb := beq_of_ne hq
        have HQ := Lib.hid hq
        clear hq
        go_wp2
        go_roundg (gk - 1)
        case measure => have := HK.out; omega
        case rel =>
          refine ⟨rfl, k + 1, by have := HK.out; omega, by go_num, fun j hj hjk => ?_⟩
          rcases Nat.lt_or_ge j k with h1 | h1
          · exact HP.out j hj h1
          · obtain rfl : j = k := by omega
            exact HQ.out
    · go_wp2
      go_ret
      refine Gives.mk (vint ?_) rfl
      unfold idxI
      rw [idx_mk_none (fun j hj => HP.out j hj (by omega))]

def HasRel (w : World) (l : List ByteArray) (s : ByteArray) (m : Nat) (i : Value) (wr : World) : Prop :=
  wr = w ∧ ∃ k : Nat, k + m = l.length ∧ i = .int .i64 k ∧ ∀ j (h : j < l.length), j < k → l[j] ≠ s

set_option maxHeartbeats 400000 in
theorem has_c (A : Option Addr) (c : Nat) (l : List ByteArray) (s : ByteArray) (w : World) (hn : l.length ≤ 1000000) (h : Strs w A l) :
    Calls Tryz.prog 69 #[.slice A l.length c, .string s] w (Gives (.bool (memS l s)) w) := by
  go_enter Tryz.func69, Tryz.ntmps69
  go_wp2
  go_loopg [5] l.length (HasRel w l s)
  case atStart => exact ⟨rfl, 0, by omega, rfl, fun j _ hj => absurd hj (by omega)⟩
  case round =>
    obtain ⟨hw, k, hk, rfl, hpre⟩ := hrel
    subst hw
    have HK := Lib.hid hk
    have HP := Lib.hid hpre
    have hk1 : k ≤ l.length := by omega
    clear hk hpre
    by_cases hlt : k < l.length
    · obtain ⟨b, o, rfl, hb, hc⟩ := h.at_ (by omega)
      have hc0 := hc k hlt
      clear hc
      by_cases hq : l[k] = s
      · have hqb := beq_of_eq hq
        have HQ := Lib.hid hq
        clear hq
        go_wp2
        go_ret
        refine Gives.mk (vbool ?_) rfl
        exact (memS_true.2 (HQ.out ▸ List.getElem_mem hlt)).symm
      · have hqb := beq_of_ne hq
        have HQ := Lib.hid hq
        clear hq
        go_wp2
        go_roundg (gk - 1)
        case measure => have := HK.out; omega
        case rel =>
          refine ⟨rfl, k + 1, by have := HK.out; omega, by go_num, fun j hj hjk => ?_⟩
          rcases Nat.lt_or_ge j k with h1 | h1
          · exact HP.out j hj h1
          · obtain rfl : j = k := by omega
            exact HQ.out
    · go_wp2
      go_ret
      refine Gives.mk (vbool ?_) rfl
      refine (memS_false.2 fun hm => ?_).symm
      obtain ⟨j, hj, e⟩ := List.getElem_of_mem hm
      exact HP.out j hj (by omega) e

def leafB (l : List Rg) (nm : ByteArray) : Bool := (idx l nm).isSome && !l.any fun q => decide (q.par = nm)
theorem leafB_at {l : List Rg} (g : GoodR l) {i : Nat} (hi : i < l.length) : leafB l (l[i]).nm = !isPar l i := by
  unfold leafB isPar
  rw [g.inc.idx hi, nmAt_of hi]
  rfl

def IsLeafRel (w : World) (l : List Rg) (nm : ByteArray) (m : Nat) (i : Value) (wr : World) : Prop :=
  wr = w ∧ ∃ k : Nat, k + m = l.length ∧ i = .int .i64 k ∧ ∀ j (h : j < l.length), j < k → (l[j]).par ≠ nm

set_option maxHeartbeats 400000 in
theorem IsLeaf_c (A : Option Addr) (c : Nat) (l : List Rg) (nm : ByteArray) (w : World) (hn : l.length ≤ 200) (h : Rgs w A l) :
    Calls Tryz.prog 68 #[.slice A l.length c, .string nm] w (Gives (.bool (leafB l nm)) w) := by
  cases hix : idx l nm with
  | none =>
    have HX := Lib.hid hix
    clear hix
    have hi0 : idxI l nm = -1 := by unfold idxI; rw [HX.out]
    go_enter Tryz.func68, Tryz.ntmps68
    go_wp2_with (go_at_call 83; refine (region_c _ _ _ _ _ hn h).mono ?_; rintro e w' ⟨rfl, rfl⟩)
    go_ret
    refine Gives.mk (vbool ?_) rfl
    unfold leafB
    rw [HX.out]; rfl
  | some x =>
    have HX := Lib.hid hix
    clear hix
    have hi0 : idxI l nm = (x : Int) := by unfold idxI; rw [HX.out]
    go_enter Tryz.func68, Tryz.ntmps68
    go_wp2_with (go_at_call 83; refine (region_c _ _ _ _ _ hn h).mono ?_; rintro e w' ⟨rfl, rfl⟩)
    clear hi0
    go_loopg [5] l.length (IsLeafRel w l nm)
    case atStart => exact ⟨rfl, 0, by omega, rfl, fun j _ hj => absurd hj (by omega)⟩
    case round =>
      obtain ⟨hw, k, hk, rfl, hpre⟩ := hrel
      subst hw
      have HK := Lib.hid hk
      have HP := Lib.hid hpre
      have hk1 : k ≤ l.length := by omega
      clear hk hpre
      by_cases hlt : k < l.length
      · obtain ⟨b, o, rfl, hb, hc⟩ := h.at_ (by omega)
        have hc0 := (hc k hlt).2
        clear hc
        by_cases hq : (l[k]).par = nm
        · have hqb := beq_of_eq hq
          have HQ := Lib.hid hq
          clear hq
          go_wp2
          go_ret
          refine Gives.mk (vbool ?_) rfl
          have : (l.any fun q => decide (q.par = nm)) = true := List.any_eq_true.2 ⟨l[k], List.getElem_mem hlt, by simp [HQ.out]⟩
          simp [leafB, this]
        · have hqb := beq_of_ne hq
          have HQ := Lib.hid hq
          clear hq
          go_wp2
          go_roundg (gk - 1)
          case measure => have := HK.out; omega
          case rel =>
            refine ⟨rfl, k + 1, by have := HK.out; omega, by go_num, fun j hj hjk => ?_⟩
            rcases Nat.lt_or_ge j k with h1 | h1
            · exact HP.out j hj h1
            · obtain rfl : j = k := by omega
              exact HQ.out
      · go_wp2
        go_ret
        refine Gives.mk (vbool ?_) rfl
        have : (l.any fun q => decide (q.par = nm)) = false := by
          rw [List.any_eq_false]
          intro q hm
          obtain ⟨j, hj, rfl⟩ := List.getElem_of_mem hm
          simpa using HP.out j hj (by omega)
        simp [leafB, this, HX.out]
end Go.Proofs.YtlcfgejaeecclaaGreatDoor

namespace Go.Proofs.YtlcfgejaeecclaaGreatDoor
open Go.RowKit Dw

def AroundRel (w : World) (l : List Rg) (k : Nat) (res : Bool) (m : Nat) (name : Value) (wr : World) : Prop :=
  wr = w ∧ ((∃ j, ∃ hj : j < l.length, name = .string (l[j]).nm ∧ upN l m j = none ∧ underF l m j k = res) ∨ (name = .string emp ∧ res = false))

def LiesRel (w : World) (l : List Rg) (a : List Ar) (res : Bool) (m : Nat) (name : Value) (wr : World) : Prop :=
  wr = w ∧ ((∃ j, ∃ hj : j < l.length, name = .string (l[j]).nm ∧ upN l m j = none ∧ liesF l a m j = res) ∨ (name = .string emp ∧ res = false))
def LiesRel2 (w : World) (a : List Ar) (nm : ByteArray) (m : Nat) (i : Value) (wr : World) : Prop :=
  wr = w ∧ ∃ k : Nat, k + m = a.length ∧ i = .int .i64 k ∧ ∀ j (h : j < a.length), j < k → (a[j]).rg ≠ nm

set_option maxHeartbeats 800000 in
theorem lies_c (A A2 : Option Addr) (c c2 : Nat) (l : List Rg) (a : List Ar) (w : World) (g : GoodR l) (h : Rgs w A l) (h2 : Ars w A2 a) (hn2 : a.length ≤ 100) (i : Nat) (hi : i < l.length) :
    Calls Tryz.prog 103 #[.slice A l.length c, .slice A2 a.length c2, .string (l[i]).nm] w (Gives (.bool (lies l a i)) w) := by
  have hn := g.len
  generalize hres : lies l a i = res
  have HR := Lib.hid hres
  clear hres
  go_enter Tryz.func103, Tryz.ntmps103
  go_wp2
  go_loopg [2] (l.length + 2) (LiesRel w l a res)
  case atStart => exact ⟨rfl, .inl ⟨i, hi, rfl, g.ends i hi, HR.out⟩⟩
  case round =>
    obtain ⟨hw, hrel⟩ := hrel
    subst hw
    rcases hrel with ⟨j, hj, rfl, hup, hun⟩ | ⟨rfl, hres⟩
    · have HU := Lib.hid hup
      have HN := Lib.hid hun
      clear hup hun
      have hne := isEmpty_of_ne (g.nm_ne hj)
      obtain ⟨m, rfl⟩ : ∃ m, gk = m + 1 := by
        cases gk with
        | zero => exact absurd HU.out (by simp [upN])
        | succ m => exact ⟨m, rfl⟩
      go_wp2
      obtain ⟨wo, hwo⟩ : ∃ wo : World, wo = wr := ⟨_, rfl⟩
      subst hwo
      go_loopg [7] a.length (LiesRel2 wo a (l[j]).nm)
      case atStart => exact ⟨rfl, 0, by omega, rfl, fun j _ hj => absurd hj (by omega)⟩
      case round =>
        obtain ⟨hw, k, hk, rfl, hpre⟩ := hrel
        subst hw
        have HK := Lib.hid hk
        have HP := Lib.hid hpre
        have hk1 : k ≤ a.length := by omega
        clear hk hpre
        by_cases hlt : k < a.length
        · obtain ⟨b2, o2, rfl, hb2, hc2⟩ := h2.at_ (by omega)
          have hc0 := (hc2 k hlt).1
          have hc1 := (hc2 k hlt).2
          clear hc2
          by_cases hq : (a[k]).rg = (l[j]).nm
          · have hqb := beq_of_eq hq
            have hf := findA_some hlt hq (fun j hj hjk => HP.out j hj hjk)
            have hres : res = !(a[k]).out := by
              rw [← HN.out, liesF, nmAt_of hj, hf]
            have HS := Lib.hid hres
            clear hres hf hq
            go_wp2
            go_ret
            exact Gives.mk (vbool HS.out.symm) rfl
          · have hqb := beq_of_ne hq
            have HQ := Lib.hid hq
            clear hq
            go_wp2
            go_roundg (gk - 1)
            case measure => have := HK.out; omega
            case rel =>
              refine ⟨rfl, k + 1, by have := HK.out; omega, by go_num, fun j hj hjk => ?_⟩
              rcases Nat.lt_or_ge j k with h1 | h1
              · exact HP.out j hj h1
              · obtain rfl : j = k := by omega
                exact HQ.out
        · have hfn : findA a (nmAt l j) = none := findA_none fun t ht => by rw [nmAt_of hj]; exact HP.out t ht (by omega)
          have HF := Lib.hid hfn
          clear hfn
          have hix : idxI l (l[j]).nm = (j : Int) := by unfold idxI; rw [g.inc.idx hj]
          have HX := Lib.hid hix
          clear hix
          obtain ⟨b, o, rfl, hb, hc⟩ := h.at_ (by omega)
          have hc1 := (hc j hj).2
          clear hc
          go_wp2_with fail
          refine (region_c _ _ _ _ _ hn h).mono ?_
          rintro e w' ⟨rfl, rfl⟩
          rw [HX.out]
          go_wp2
          by_cases hp : (l[j]).par = emp
          · have hu := up_none hj hp
            go_roundg m
            case measure => omega
            case rel =>
              refine ⟨rfl, .inr ⟨by rw [hp], ?_⟩⟩
              have := HN.out
              rw [liesF, HF.out, hu] at this
              exact this.symm
          · obtain ⟨j', hj', hu, he⟩ := g.up_some hj hp
            go_roundg m
            case measure => omega
            case rel =>
              refine ⟨rfl, .inl ⟨j', hj', by rw [he], ?_, ?_⟩⟩
              · have := HU.out
                simpa only [upN, hu] using this
              · have := HN.out
                rw [liesF, HF.out, hu] at this
                exact this
    · have HS := Lib.hid hres
      clear hres
      have hne := emp_isEmpty
      go_wp2
      go_ret
      exact Gives.mk (vbool HS.out.symm) rfl
end Go.Proofs.YtlcfgejaeecclaaGreatDoor
