/- Plain facts about tracks, credits and labels: no program in sight. Plain facts about the names of a label: no program in sight. Lines, names, instruments and credits: packages credit and deadwaxref5. Credits: checkCredits of package credit, CheckCredits of the reference. Library calls (Itoa, Join, the Builder), and positions as text in both packages. Positions as text: Show of package clock and of the reference. Package credit: Text. -/
import Derived.Test.YtfninfgohiipjaaGreatDoorLdP
import Derived.Lib.ItoaNum
import Derived.Lib.Join
import Derived.Test.YtfninfgohiipjaaGreatDoorLdC
import Derived.Test.YtfninfgohiipjaaGreatDoorLdA
import Derived.Test.YtfninfgohiipjaaGreatDoorBldPlain
import Derived.Lib.QuietBelow
import Derived.Laws.IdiomStrings
import Derived.BigQuiet
import Derived.IntWalk
import Derived.Deep.RegionHeld3
namespace Go.Proofs.YtfninfgohiipjaaGreatDoor
open Go.RowKit Dw

/-- A credit; iA and ic say where its instruments lie. -/
structure Cr where
  role : ByteArray
  person : ByteArray
  name : ByteArray
  ins : List ByteArray
  n : Int
  iA : Option Addr
  ic : Nat
instance : Inhabited Cr := ⟨⟨emp, emp, emp, [], 0, none, 0⟩⟩
/-- A track; cA and cc say where its credits lie. -/
structure Tk where
  rc : Int
  len : Int
  crs : List Cr
  cA : Option Addr
  cc : Nat
instance : Inhabited Tk := ⟨⟨0, 0, [], none, 0⟩⟩
theorem getC {l : List Cr} {i : Nat} (h : i < l.length) : l.getD i default = l[i] := by simp [List.getD, h]
theorem getTk {l : List Tk} {i : Nat} (h : i < l.length) : l.getD i default = l[i] := by simp [List.getD, h]

/-- A line: by its bytes, and by whether two blanks follow each other in it. -/
def inLn (c : UInt8) : Bool := decide (32 ≤ c.toNat) && decide (c.toNat ≤ 126) && decide (c.toNat ≠ 124)
def lineB (two : Bool) (s : ByteArray) : Bool :=
  decide (1 ≤ s.size) && decide (s.size ≤ 60) && decide ((s.data.toList.headD 0).toNat ≠ 32) && decide ((s.data.toList.getLastD 0).toNat ≠ 32) && !two && s.data.toList.all inLn
theorem lineB_size {two : Bool} {s : ByteArray} (h : lineB two s = true) : 1 ≤ s.size ∧ s.size ≤ 60 := by
  unfold lineB at h
  simp only [Bool.and_eq_true, decide_eq_true_eq] at h
  exact ⟨h.1.1.1.1.1, h.1.1.1.1.2⟩

/-- The fault of a credit's instruments, of a credit, of credits. -/
def insF (b : List ByteArray) : Int := if b.length = 0 then 9 else if 20 < b.length then 2 else firstF (btF b) b.length
def crF (c : Cr) : Int :=
  if lineB (twoB c.role) c.role = false then 3
  else if lineB (twoB c.name) c.name = false then 3
  else if isNm c.person = false then 5
  else if insF c.ins ≠ 0 then insF c.ins
  else if c.n < 1 ∨ 100000 < c.n then 1 else 0
def crsF (l : List Cr) : Int := if 1000 < l.length then 2 else firstF (fun i => crF (l.getD i default)) l.length
theorem crsF_ok {l : List Cr} (h : crsF l = 0) : l.length ≤ 1000 ∧ ∀ c ∈ l, crF c = 0 := by
  unfold crsF at h
  by_cases h1 : 1000 < l.length
  · rw [if_pos h1] at h; cases h
  · rw [if_neg h1] at h
    refine ⟨by omega, fun c hc => ?_⟩
    obtain ⟨j, hj, rfl⟩ := List.getElem_of_mem hc
    have := firstF_all h j hj
    rwa [getC hj] at this
theorem crF_ok {c : Cr} (h : crF c = 0) : lineB (twoB c.role) c.role = true ∧ lineB (twoB c.name) c.name = true ∧ isNm c.person = true ∧ insF c.ins = 0 ∧ 1 ≤ c.n ∧ c.n ≤ 100000 := by
  unfold crF at h
  cases h1 : lineB (twoB c.role) c.role with
  | false => rw [if_pos h1] at h; cases h
  | true =>
  rw [if_neg (by rw [h1]; simp)] at h
  cases h2 : lineB (twoB c.name) c.name with
  | false => rw [if_pos h2] at h; cases h
  | true =>
  rw [if_neg (by rw [h2]; simp)] at h
  cases h3 : isNm c.person with
  | false => rw [if_pos h3] at h; cases h
  | true =>
  rw [if_neg (by rw [h3]; simp)] at h
  by_cases h4 : insF c.ins = 0
  · rw [if_neg (by rw [h4]; simp)] at h
    by_cases h5 : c.n < 1 ∨ 100000 < c.n
    · rw [if_pos h5] at h; cases h
    · exact ⟨rfl, rfl, rfl, h4, by omega, by omega⟩
  · rw [if_pos h4] at h; exact absurd h h4

/-- The fault of one track, of tracks. -/
def tkF (T : List Th) (l : List Tk) (i : Nat) : Int := match thAt T (l.getD i default).rc with
  | none => 9
  | some t => if t.kind ≠ 2 then 6
    else if 0 < i ∧ (l.getD i default).rc ≤ (l.getD (i - 1) default).rc then 8
    else if (l.getD i default).len < 0 ∨ 10000000000000 < (l.getD i default).len then 1
    else crsF (l.getD i default).crs
def chkT (T : List Th) (M : List Mv) (l : List Tk) : Int :=
  if chkC twoB T M ≠ 0 then chkC twoB T M
  else if 300 < l.length then 2
  else firstF (tkF T l) l.length
theorem chkT_bad {T : List Th} {M : List Mv} {l : List Tk} (h : chkC twoB T M ≠ 0) : chkT T M l = chkC twoB T M := by unfold chkT; rw [if_pos h]
theorem chkT_large {T : List Th} {M : List Mv} {l : List Tk} (h : chkC twoB T M = 0) (hl : 300 < l.length) : chkT T M l = 2 := by unfold chkT; rw [if_neg (by rw [h]; simp), if_pos hl]
theorem chkT_first {T : List Th} {M : List Mv} {l : List Tk} (h : chkC twoB T M = 0) (hl : ¬ 300 < l.length) : chkT T M l = firstF (tkF T l) l.length := by unfold chkT; rw [if_neg (by rw [h]; simp), if_neg hl]
theorem chkT_ok {T : List Th} {M : List Mv} {l : List Tk} (h : chkT T M l = 0) : chkC twoB T M = 0 ∧ l.length ≤ 300 ∧ ∀ j, j < l.length → tkF T l j = 0 := by
  by_cases h1 : chkC twoB T M = 0
  · by_cases h2 : 300 < l.length
    · rw [chkT_large h1 h2] at h; cases h
    · rw [chkT_first h1 h2] at h
      exact ⟨h1, by omega, firstF_all h⟩
  · rw [chkT_bad h1] at h; exact absurd h h1
theorem tkF_at {T : List Th} {l : List Tk} {k : Nat} (h : k < l.length) : tkF T l k = match thAt T (l[k]).rc with
    | none => 9
    | some t => if t.kind ≠ 2 then 6 else if 0 < k ∧ (l[k]).rc ≤ (l.getD (k - 1) default).rc then 8 else if (l[k]).len < 0 ∨ 10000000000000 < (l[k]).len then 1 else crsF (l[k]).crs := by
  unfold tkF; rw [getTk h]
theorem tkF_ok {T : List Th} {l : List Tk} {k : Nat} (hk : k < l.length) (h : tkF T l k = 0) : (∃ t, thAt T (l[k]).rc = some t ∧ t.kind = 2) ∧ (0 < k → (l.getD (k - 1) default).rc < (l[k]).rc) ∧ 0 ≤ (l[k]).len ∧ (l[k]).len ≤ 10000000000000 ∧ crsF (l[k]).crs = 0 := by
  rw [tkF_at hk] at h
  cases ht : thAt T (l[k]).rc with
  | none => rw [ht] at h; cases h
  | some t =>
    rw [ht] at h
    dsimp only at h
    by_cases h1 : t.kind ≠ 2
    · rw [if_pos h1] at h; cases h
    rw [if_neg h1] at h
    by_cases h2 : 0 < k ∧ (l[k]).rc ≤ (l.getD (k - 1) default).rc
    · rw [if_pos h2] at h; cases h
    rw [if_neg h2] at h
    by_cases h3 : (l[k]).len < 0 ∨ 10000000000000 < (l[k]).len
    · rw [if_pos h3] at h; cases h
    rw [if_neg h3] at h
    exact ⟨⟨t, rfl, by omega⟩, fun h0 => by omega, by omega, by omega, h⟩

/-- The track of a recording. -/
def tkAt (l : List Tk) (n : Int) : Option Tk := l.find? fun x => decide (x.rc = n)
def IncK (l : List Tk) : Prop := ∀ i (h : i + 1 < l.length), (l[i]).rc < (l[i + 1]).rc
theorem IncK.lt {c : List Tk} (h : IncK c) : ∀ (d i : Nat) (hj : i + d + 1 < c.length), (c[i]).rc < (c[i + d + 1]).rc
  | 0, i, hj => h i hj
  | d + 1, i, hj => Int.lt_trans (IncK.lt h d i (by omega)) (h (i + d + 1) hj)
theorem IncK.lt' {c : List Tk} (h : IncK c) {i j : Nat} (hij : i < j) (hj : j < c.length) : (c[i]'(by omega)).rc < (c[j]).rc := by
  obtain ⟨d, rfl⟩ : ∃ d, j = i + d + 1 := ⟨j - i - 1, by omega⟩
  exact h.lt d i hj
theorem chkT_inc {T : List Th} {M : List Mv} {l : List Tk} (h : chkT T M l = 0) : IncK l := fun i hi => by
  have := (tkF_ok hi ((chkT_ok h).2.2 (i + 1) hi)).2.1 (by omega)
  rwa [show i + 1 - 1 = i by omega, getTk (by omega)] at this
theorem tkAt_some {l : List Tk} {n : Int} {x : Tk} (h : tkAt l n = some x) : x ∈ l ∧ x.rc = n :=
  ⟨List.mem_of_find?_eq_some h, by have := List.find?_some h; simpa using this⟩
theorem tkAt_first {l : List Tk} {n : Int} {k : Nat} (hk : k < l.length) (h : (l[k]).rc = n) (hp : ∀ j (hj : j < l.length), j < k → (l[j]).rc ≠ n) : tkAt l n = some l[k] := by
  unfold tkAt
  rw [List.find?_eq_some_iff_getElem]
  exact ⟨by simpa using h, k, hk, rfl, fun j hj => by simpa using hp j (by omega) hj⟩
theorem tkAt_all {l : List Tk} {n : Int} (hp : ∀ j (hj : j < l.length), (l[j]).rc ≠ n) : tkAt l n = none := by
  unfold tkAt
  rw [List.find?_eq_none]
  intro x hx
  obtain ⟨j, hj, rfl⟩ := List.getElem_of_mem hx
  simpa using hp j hj
theorem tkAt_take {l : List Tk} {k : Nat} (hk : k < l.length) (n : Int) : tkAt (l.take (k + 1)) n = (tkAt (l.take k) n).or (if (l[k]).rc = n then some l[k] else none) := by
  unfold tkAt
  rw [List.take_succ_eq_append_getElem hk, List.find?_append]
  congr 1
  by_cases h : (l[k]).rc = n <;> simp [h]
theorem IncK.step {l : List Tk} (h : IncK l) {k : Nat} (hk : k < l.length) (n : Int) : (if n = (l[k]).rc then some l[k] else tkAt (l.take k) n) = tkAt (l.take (k + 1)) n := by
  rw [tkAt_take hk]
  by_cases e : n = (l[k]).rc
  · rw [if_pos e, if_pos e.symm]
    have : tkAt (l.take k) n = none := tkAt_all fun j hj => by
      have hj' : j < k := by simp at hj; omega
      have := h.lt' hj' hk
      simp only [List.getElem_take]
      omega
    rw [this]; rfl
  · rw [if_neg e, if_neg (fun e' => e e'.symm), Option.or_none]

/-- A position as text. -/
def itoaB (n : Int) : ByteArray := ⟨(Lib.itoa n).toArray⟩
def twoD (n : Nat) : ByteArray := ⟨[UInt8.ofNat (48 + n / 10), UInt8.ofNat (48 + n % 10)].toArray⟩
def showB (n rate : Int) : ByteArray :=
  ((((((⟨#[]⟩ ++ itoaB (n / rate / 3600)) ++ ⟨#[58]⟩) ++ twoD (n / rate / 60 % 60).toNat) ++ ⟨#[58]⟩) ++ twoD (n / rate % 60).toNat) ++ ⟨#[43]⟩) ++ itoaB (n % rate)
def showP (n rate : Int) : ByteArray × Int := if 10000000000000 < n then (⟨#[]⟩, 1) else (showB n rate, 0)
theorem dec_size (u : Nat) (k : Nat) (h : u < 10 ^ k) (h1 : 1 ≤ k) : (Lib.decDigits u).length ≤ k := by
  induction u using Nat.strongRecOn generalizing k with
  | _ u ih =>
    rw [Lib.decDigits]
    by_cases hu : u < 10
    · rw [dif_pos hu]; simpa using h1
    · rw [dif_neg hu, List.length_append]
      have hk : 2 ≤ k := by
        rcases Nat.lt_or_ge k 2 with h2 | h2
        · have : k = 1 := by omega
          subst this
          omega
        · exact h2
      have := ih (u / 10) (by omega) (k - 1) (by
        have e : 10 ^ k = 10 ^ (k - 1) * 10 := by rw [← Nat.pow_succ]; congr 1; omega
        rw [e] at h
        exact Nat.div_lt_of_lt_mul (by rwa [Nat.mul_comm])) (by omega)
      simp only [List.length_cons, List.length_nil]
      omega
theorem itoaB_size {n : Int} (h0 : 0 ≤ n) (h : n < 10000000000000000) : (itoaB n).size ≤ 16 := by
  unfold itoaB Lib.itoa
  rw [if_neg (by omega)]
  have := dec_size n.toNat 16 (by omega) (by omega)
  show (Lib.decDigits n.toNat).toArray.size ≤ 16
  simpa using this
theorem twoD_size (n : Nat) : (twoD n).size = 2 := rfl
theorem showB_size {n rate : Int} (h0 : 0 ≤ n) (h : n ≤ 10000000000000) (hr : 1 ≤ rate) (hr2 : rate ≤ 1000000) : (showB n rate).size ≤ 39 := by
  have q0 : 0 ≤ n / rate := Int.ediv_nonneg h0 (by omega)
  have q1 : n / rate ≤ n := Int.ediv_le_self _ h0
  have h1 := itoaB_size (n := n / rate / 3600) (by omega) (by omega)
  have r0 := Int.emod_nonneg n (b := rate) (by omega)
  have r1 := Int.emod_lt_of_pos n (b := rate) (by omega)
  have h2 := itoaB_size (n := n % rate) r0 (by omega)
  unfold showB
  simp only [ByteArray.size_append, twoD_size]
  have e0 : (⟨#[]⟩ : ByteArray).size = 0 := rfl
  have e1 : (⟨#[58]⟩ : ByteArray).size = 1 := rfl
  have e2 : (⟨#[43]⟩ : ByteArray).size = 1 := rfl
  omega
/-- The reference's two digits. -/
theorem two_small {n : Nat} (h : n < 10) : (⟨#[48]⟩ : ByteArray) ++ ⟨(Lib.decDigits n).toArray⟩ = twoD n := by
  rw [Lib.decDigits, dif_pos h]
  unfold twoD
  rw [show n / 10 = 0 by omega, show n % 10 = n by omega]
  apply ByteArray.ext
  simp [ByteArray.data_append]
theorem two_large {n : Nat} (h : ¬ n < 10) (h2 : n < 100) : (⟨(Lib.decDigits n).toArray⟩ : ByteArray) = twoD n := by
  rw [Lib.decDigits, dif_neg h, Lib.decDigits, dif_pos (by omega)]
  rfl
end Go.Proofs.YtfninfgohiipjaaGreatDoor

namespace Go.Proofs.YtfninfgohiipjaaGreatDoor
open Go.RowKit Dw

/-- The reference's text of credits, row for row. -/
def nmStep (l : List Cr) (k : Nat) (out : ByteArray) : ByteArray :=
  if 0 < k ∧ (l.getD (k - 1) default).role = (l.getD k default).role then out ++ (⟨#[44, 32]⟩ ++ (l.getD k default).name)
  else (if 0 < k then out ++ ⟨#[10]⟩ else out) ++ (((⟨#[32, 32]⟩ ++ (l.getD k default).role) ++ ⟨#[58, 32]⟩) ++ (l.getD k default).name)
def nmTo (l : List Cr) : Nat → ByteArray
  | 0 => ⟨#[]⟩
  | k + 1 => nmStep l k (nmTo l k)
def nmB (l : List Cr) : ByteArray := if l.length = 0 then ⟨#[]⟩ else nmTo l l.length ++ ⟨#[10]⟩
theorem nmTo_size {l : List Cr} (h : ∀ c ∈ l, c.role.size ≤ 60 ∧ c.name.size ≤ 60) : ∀ k, k ≤ l.length → (nmTo l k).size ≤ k * 130
  | 0, _ => by simp [nmTo, ByteArray.size]
  | k + 1, hk => by
    have h1 := nmTo_size h k (by omega)
    have h2 := h l[k] (List.getElem_mem (by omega))
    have e1 : (⟨#[44, 32]⟩ : ByteArray).size = 2 := rfl
    have e2 : (⟨#[10]⟩ : ByteArray).size = 1 := rfl
    have e3 : (⟨#[32, 32]⟩ : ByteArray).size = 2 := rfl
    have e4 : (⟨#[58, 32]⟩ : ByteArray).size = 2 := rfl
    rw [nmTo]
    unfold nmStep
    rw [getC (by omega : k < l.length)]
    split
    · simp only [ByteArray.size_append, e1]; omega
    · split
      · simp only [ByteArray.size_append, e2, e3, e4]; omega
      · simp only [ByteArray.size_append, e3, e4]; omega
theorem nmTo_ne (l : List Cr) (k : Nat) : (nmTo l (k + 1)).size ≠ 0 := by
  have e1 : (⟨#[44, 32]⟩ : ByteArray).size = 2 := rfl
  have e3 : (⟨#[32, 32]⟩ : ByteArray).size = 2 := rfl
  rw [nmTo]
  unfold nmStep
  split
  · simp only [ByteArray.size_append, e1]; omega
  · simp only [ByteArray.size_append, e3]; omega

/-- What stands before row i, where a row of names begins. -/
def preL (l : List Cr) (i : Nat) : List UInt8 := if i = 0 then [] else (nmTo l i).data.toList ++ [10]
def Bnd (l : List Cr) (i : Nat) : Prop := i = 0 ∨ i = l.length ∨ (l.getD (i - 1) default).role ≠ (l.getD i default).role
def nmsL (l : List Cr) (i k : Nat) : List ByteArray := ((l.drop i).take (k - i)).map (·.name)
theorem nmsL_one {l : List Cr} {i : Nat} (h : i < l.length) : nmsL l i (i + 1) = [(l[i]).name] := by
  unfold nmsL
  rw [show i + 1 - i = 1 by omega, List.drop_eq_getElem_cons h]
  rfl
theorem nmsL_snoc {l : List Cr} {i k : Nat} (hi : i ≤ k) (h : k < l.length) : nmsL l i (k + 1) = nmsL l i k ++ [(l[k]).name] := by
  unfold nmsL
  rw [show k + 1 - i = (k - i) + 1 by omega, List.take_succ_eq_append_getElem (by simp; omega), List.map_append]
  simp [show i + (k - i) = k by omega]
theorem nmsL_len {l : List Cr} {i k : Nat} (hi : i ≤ k) (h : k ≤ l.length) : (nmsL l i k).length = k - i := by
  unfold nmsL; simp; omega
theorem join_snoc (xs : List (List UInt8)) (x sep : List UInt8) (h : xs ≠ []) : Lib.join (xs ++ [x]) sep = Lib.join xs sep ++ (sep ++ x) := by
  cases xs with
  | nil => exact absurd rfl h
  | cons a r =>
    rw [List.cons_append, Lib.join_cons, Lib.join_cons]
    unfold Lib.joinTail
    simp
theorem data_app (a b : ByteArray) : (a ++ b).data.toList = a.data.toList ++ b.data.toList := by simp [ByteArray.data_append]
theorem nm_group {l : List Cr} {i : Nat} (hi : i < l.length) (hb : Bnd l i) : ∀ d, i + 1 + d ≤ l.length → (∀ j, i < j → j < i + 1 + d → (l.getD j default).role = (l.getD i default).role) →
    (nmTo l (i + 1 + d)).data.toList = preL l i ++ ([32, 32] ++ (l.getD i default).role.data.toList ++ [58, 32] ++ Lib.join ((nmsL l i (i + 1 + d)).map (·.data.toList)) [44, 32])
  | 0, _, _ => by
    rw [Nat.add_zero, nmTo, nmsL_one hi]
    unfold nmStep
    rw [getC hi]
    have hno : ¬ (0 < i ∧ (l.getD (i - 1) default).role = (l[i]).role) := by
      rintro ⟨h1, h2⟩
      rcases hb with h | h | h
      · omega
      · omega
      · rw [getC hi] at h; exact h h2
    rw [if_neg hno]
    simp only [List.map_cons, List.map_nil, Lib.join_one]
    unfold preL
    by_cases h0 : i = 0
    · subst h0
      simp [nmTo]
    · rw [if_pos (by omega), if_neg h0]
      simp
  | d + 1, hd, hr => by
    have ih := nm_group hi hb d (by omega) (fun j h1 h2 => hr j h1 (by omega))
    have hk : i + 1 + d < l.length := by omega
    have e1 : (l.getD (i + 1 + d) default).role = (l.getD i default).role := hr _ (by omega) (by omega)
    have e2 : (l.getD (i + 1 + d - 1) default).role = (l.getD i default).role := by
      rw [show i + 1 + d - 1 = i + d by omega]
      by_cases h0 : d = 0
      · rw [h0]; rfl
      · exact hr (i + d) (by omega) (by omega)
    rw [show i + 1 + (d + 1) = i + 1 + d + 1 by omega, nmTo]
    unfold nmStep
    rw [if_pos ⟨by omega, e2.trans e1.symm⟩, data_app, ih, nmsL_snoc (by omega) hk, List.map_append, List.map_cons, List.map_nil, join_snoc _ _ _ (by
      intro h
      have := congrArg List.length h
      rw [List.length_map, nmsL_len (by omega) (by omega)] at this
      simp at this
      omega), getC hk]
    simp
theorem nmB_pre {l : List Cr} : (nmB l).data.toList = preL l l.length := by
  unfold nmB preL
  split
  · rfl
  · rw [data_app]
end Go.Proofs.YtfninfgohiipjaaGreatDoor

namespace Go.Proofs.YtfninfgohiipjaaGreatDoor
open Go.RowKit Dw

def LineRel (w : World) (s : ByteArray) (m : Nat) (i : Value) (wr : World) : Prop :=
  w = wr ∧ ∃ k : Nat, k + m = s.size ∧ i = .int .i64 k ∧ ∀ j (h : j < s.size), j < k → inLn s[j] = true
theorem line_split {s : ByteArray} (h1 : 1 ≤ s.size) (h2 : s.size ≤ 60) : lineB (twoB s) s = (decide ((s[0]'h1).toNat ≠ 32) && decide ((s[s.size - 1]'(by omega)).toNat ≠ 32) && !twoB s && s.data.toList.all inLn) := by
  unfold lineB
  rw [headD_get s h1, lastD_get s h1]
  simp [h1, h2]

set_option maxHeartbeats 1000000 in
theorem isLine_c (s : ByteArray) (w : World) (hs : s.size ≤ 9223372036854775807) (hG : GOK w) :
    Calls Tryz.prog 100 #[.string s] w (Gives (.bool (lineB (twoB s) s)) w) := by
  generalize hres : lineB (twoB s) s = res
  have HR := Lib.hid hres
  clear hres
  by_cases h1 : 1 ≤ s.size
  · have hne := nonempty_of h1
    by_cases h2 : s.size ≤ 60
    · have HSP := Lib.hid (line_split h1 h2)
      have hsz : s.size - 1 < s.size := by omega
      by_cases h3 : (s[0]'h1).toNat = 32
      · have h3b : (((s[0]'h1).toNat : Int) == 32) = true := by rw [h3]; rfl
        have hres : res = false := by rw [← HR.out, HSP.out]; simp [h3]
        have HS := Lib.hid hres
        clear hres h3
        go_enter Tryz.func100, Tryz.ntmps100
        go_wp2_with fail
        go_ret
        exact Gives.mk (vbool HS.out.symm) rfl
      · have h3b : (((s[0]'h1).toNat : Int) == 32) = false := by rw [beq_eq_false_iff_ne]; omega
        by_cases h4 : (s[s.size - 1]'hsz).toNat = 32
        · have h4b : (((s[s.size - 1]'hsz).toNat : Int) == 32) = true := by rw [h4]; rfl
          have hres : res = false := by rw [← HR.out, HSP.out]; simp [h4]
          have HS := Lib.hid hres
          clear hres h3 h4
          go_enter Tryz.func100, Tryz.ntmps100
          go_wp2_with fail
          go_ret
          exact Gives.mk (vbool HS.out.symm) rfl
        · have h4b : (((s[s.size - 1]'hsz).toNat : Int) == 32) = false := by rw [beq_eq_false_iff_ne]; omega
          have HCON := Lib.hid (contains2_c s w (by omega) hG)
          cases h5 : twoB s with
          | true =>
            rw [h5] at HCON
            have hres : res = false := by rw [← HR.out, HSP.out]; simp [h5]
            have HS := Lib.hid hres
            clear hres h3 h4 h5
            go_enter Tryz.func100, Tryz.ntmps100
            go_wp2_with fail
            refine HCON.out.mono ?_
            rintro e w' ⟨rfl, rfl⟩
            go_wp2
            go_ret
            exact Gives.mk (vbool HS.out.symm) rfl
          | false =>
            rw [h5] at HCON
            have hres : res = s.data.toList.all inLn := by rw [← HR.out, HSP.out, h5]; simp [h3, h4]
            have HS := Lib.hid hres
            clear hres h3 h4 h5
            go_enter Tryz.func100, Tryz.ntmps100
            go_wp2_with fail
            refine HCON.out.mono ?_
            rintro e w' ⟨rfl, rfl⟩
            go_wp2
            go_loopg [31] s.size (LineRel w s)
            case atStart => exact ⟨rfl, 0, by omega, rfl, fun j _ hj => absurd hj (by omega)⟩
            case round =>
              obtain ⟨hw, k, hk, rfl, hpre⟩ := hrel
              subst hw
              have HK := Lib.hid hk
              have HP := Lib.hid hpre
              have hk1 : k ≤ s.size := by omega
              clear hk hpre
              by_cases hlt : k < s.size
              · by_cases hc1 : 32 ≤ (s[k]).toNat
                · by_cases hc2 : (s[k]).toNat ≤ 126
                  · by_cases hc3 : (s[k]).toNat ≠ 124
                    · have hc3b : (((s[k]).toNat : Int) == 124) = false := by rw [beq_eq_false_iff_ne]; omega
                      have HI : Hid (inLn s[k] = true) := by
                        show inLn s[k] = true
                        simp [inLn, hc1, hc2, hc3]
                      clear hc3
                      go_wp2
                      go_roundg (gk - 1)
                      case measure => have := HK.out; omega
                      case rel =>
                        refine ⟨rfl, k + 1, by have := HK.out; omega, by go_num, fun j hj hjk => ?_⟩
                        rcases Nat.lt_or_ge j k with h1 | h1
                        · exact HP.out j hj h1
                        · obtain rfl : j = k := by omega
                          exact HI.out
                    · have hc3' : ((s[k]).toNat : Int) = 124 := by omega
                      have hc3b : (((s[k]).toNat : Int) == 124) = true := by rw [hc3']; rfl
                      have HI : Hid (inLn s[k] = false) := by
                        show inLn s[k] = false
                        have : (s[k]).toNat = 124 := by omega
                        simp [inLn, this]
                      clear hc3 hc3'
                      go_wp2
                      go_ret
                      refine Gives.mk (vbool ?_) rfl
                      rw [HS.out]
                      cases ha : s.data.toList.all inLn with
                      | false => rfl
                      | true => exact absurd (all_get.1 ha k hlt) (by rw [HI.out]; simp)
                  · have HI : Hid (inLn s[k] = false) := by
                      show inLn s[k] = false
                      simp [inLn, hc2]
                    go_wp2
                    go_ret
                    refine Gives.mk (vbool ?_) rfl
                    rw [HS.out]
                    cases ha : s.data.toList.all inLn with
                    | false => rfl
                    | true => exact absurd (all_get.1 ha k hlt) (by rw [HI.out]; simp)
                · have HI : Hid (inLn s[k] = false) := by
                    show inLn s[k] = false
                    simp [inLn, hc1]
                  go_wp2
                  go_ret
                  refine Gives.mk (vbool ?_) rfl
                  rw [HS.out]
                  cases ha : s.data.toList.all inLn with
                  | false => rfl
                  | true => exact absurd (all_get.1 ha k hlt) (by rw [HI.out]; simp)
              · go_wp2
                go_ret
                refine Gives.mk (vbool ?_) rfl
                rw [HS.out]
                exact (all_get.2 fun j hj => HP.out j hj (by omega)).symm
    · have hres : res = false := by
        rw [← HR.out]
        unfold lineB
        simp [h2]
      have HS := Lib.hid hres
      clear hres
      go_enter Tryz.func100, Tryz.ntmps100
      go_wp2_with fail
      go_ret
      exact Gives.mk (vbool HS.out.symm) rfl
  · have hem := empty_of h1
    have hres : res = false := by
      rw [← HR.out]
      unfold lineB
      simp [h1]
    have HS := Lib.hid hres
    clear hres
    go_enter Tryz.func100, Tryz.ntmps100
    go_wp2_with fail
    go_ret
    exact Gives.mk (vbool HS.out.symm) rfl

set_option maxHeartbeats 1000000 in
theorem isLineR_c (s : ByteArray) (w : World) (hs : s.size ≤ 9223372036854775807) (hG : GOK w) :
    Calls Tryz.prog 109 #[.string s] w (Gives (.bool (lineB (twoB s) s)) w) := by
  generalize hres : lineB (twoB s) s = res
  have HR := Lib.hid hres
  clear hres
  by_cases h1 : 1 ≤ s.size
  · have hne := nonempty_of h1
    by_cases h2 : s.size ≤ 60
    · have HSP := Lib.hid (line_split h1 h2)
      have hsz : s.size - 1 < s.size := by omega
      by_cases h3 : (s[0]'h1).toNat = 32
      · have h3b : (((s[0]'h1).toNat : Int) == 32) = true := by rw [h3]; rfl
        have hres : res = false := by rw [← HR.out, HSP.out]; simp [h3]
        have HS := Lib.hid hres
        clear hres h3
        go_enter Tryz.func109, Tryz.ntmps109
        go_wp2_with fail
        go_ret
        exact Gives.mk (vbool HS.out.symm) rfl
      · have h3b : (((s[0]'h1).toNat : Int) == 32) = false := by rw [beq_eq_false_iff_ne]; omega
        by_cases h4 : (s[s.size - 1]'hsz).toNat = 32
        · have h4b : (((s[s.size - 1]'hsz).toNat : Int) == 32) = true := by rw [h4]; rfl
          have hres : res = false := by rw [← HR.out, HSP.out]; simp [h4]
          have HS := Lib.hid hres
          clear hres h3 h4
          go_enter Tryz.func109, Tryz.ntmps109
          go_wp2_with fail
          go_ret
          exact Gives.mk (vbool HS.out.symm) rfl
        · have h4b : (((s[s.size - 1]'hsz).toNat : Int) == 32) = false := by rw [beq_eq_false_iff_ne]; omega
          have HCON := Lib.hid (contains2_c s w (by omega) hG)
          cases h5 : twoB s with
          | true =>
            rw [h5] at HCON
            have hres : res = false := by rw [← HR.out, HSP.out]; simp [h5]
            have HS := Lib.hid hres
            clear hres h3 h4 h5
            go_enter Tryz.func109, Tryz.ntmps109
            go_wp2_with fail
            refine HCON.out.mono ?_
            rintro e w' ⟨rfl, rfl⟩
            go_wp2
            go_ret
            exact Gives.mk (vbool HS.out.symm) rfl
          | false =>
            rw [h5] at HCON
            have hres : res = s.data.toList.all inLn := by rw [← HR.out, HSP.out, h5]; simp [h3, h4]
            have HS := Lib.hid hres
            clear hres h3 h4 h5
            go_enter Tryz.func109, Tryz.ntmps109
            go_wp2_with fail
            refine HCON.out.mono ?_
            rintro e w' ⟨rfl, rfl⟩
            go_wp2
            go_loopg [30] s.size (LineRel w s)
            case atStart => exact ⟨rfl, 0, by omega, rfl, fun j _ hj => absurd hj (by omega)⟩
            case round =>
              obtain ⟨hw, k, hk, rfl, hpre⟩ := hrel
              subst hw
              have HK := Lib.hid hk
              have HP := Lib.hid hpre
              have hk1 : k ≤ s.size := by omega
              clear hk hpre
              by_cases hlt : k < s.size
              · by_cases hc1 : 32 ≤ (s[k]).toNat
                · by_cases hc2 : (s[k]).toNat ≤ 126
                  · by_cases hc3 : (s[k]).toNat ≠ 124
                    · have hc3b : (((s[k]).toNat : Int) == 124) = false := by rw [beq_eq_false_iff_ne]; omega
                      have HI : Hid (inLn s[k] = true) := by
                        show inLn s[k] = true
                        simp [inLn, hc1, hc2, hc3]
                      clear hc3
                      go_wp2
                      go_roundg (gk - 1)
                      case measure => have := HK.out; omega
                      case rel =>
                        refine ⟨rfl, k + 1, by have := HK.out; omega, by go_num, fun j hj hjk => ?_⟩
                        rcases Nat.lt_or_ge j k with h1 | h1
                        · exact HP.out j hj h1
                        · obtain rfl : j = k := by omega
                          exact HI.out
                    · have hc3' : ((s[k]).toNat : Int) = 124 := by omega
                      have hc3b : (((s[k]).toNat : Int) == 124) = true := by rw [hc3']; rfl
                      have HI : Hid (inLn s[k] = false) := by
                        show inLn s[k] = false
                        have : (s[k]).toNat = 124 := by omega
                        simp [inLn, this]
                      clear hc3 hc3'
                      go_wp2
                      go_ret
                      refine Gives.mk (vbool ?_) rfl
                      rw [HS.out]
                      cases ha : s.data.toList.all inLn with
                      | false => rfl
                      | true => exact absurd (all_get.1 ha k hlt) (by rw [HI.out]; simp)
                  · have HI : Hid (inLn s[k] = false) := by
                      show inLn s[k] = false
                      simp [inLn, hc2]
                    go_wp2
                    go_ret
                    refine Gives.mk (vbool ?_) rfl
                    rw [HS.out]
                    cases ha : s.data.toList.all inLn with
                    | false => rfl
                    | true => exact absurd (all_get.1 ha k hlt) (by rw [HI.out]; simp)
                · have HI : Hid (inLn s[k] = false) := by
                    show inLn s[k] = false
                    simp [inLn, hc1]
                  go_wp2
                  go_ret
                  refine Gives.mk (vbool ?_) rfl
                  rw [HS.out]
                  cases ha : s.data.toList.all inLn with
                  | false => rfl
                  | true => exact absurd (all_get.1 ha k hlt) (by rw [HI.out]; simp)
              · go_wp2
                go_ret
                refine Gives.mk (vbool ?_) rfl
                rw [HS.out]
                exact (all_get.2 fun j hj => HP.out j hj (by omega)).symm
    · have hres : res = false := by
        rw [← HR.out]
        unfold lineB
        simp [h2]
      have HS := Lib.hid hres
      clear hres
      go_enter Tryz.func109, Tryz.ntmps109
      go_wp2_with fail
      go_ret
      exact Gives.mk (vbool HS.out.symm) rfl
  · have hem := empty_of h1
    have hres : res = false := by
      rw [← HR.out]
      unfold lineB
      simp [h1]
    have HS := Lib.hid hres
    clear hres
    go_enter Tryz.func109, Tryz.ntmps109
    go_wp2_with fail
    go_ret
    exact Gives.mk (vbool HS.out.symm) rfl

set_option maxHeartbeats 800000 in
theorem isNameR5_c (s : ByteArray) (w : World) (hs : s.size ≤ 9223372036854775807) :
    Calls Tryz.prog 110 #[.string s] w (Gives (.bool (isNm s)) w) := by
  generalize hres : isNm s = res
  have HR := Lib.hid hres
  clear hres
  by_cases h1 : 1 ≤ s.size
  · have he : s.toList.isEmpty = false := isEmpty_of_ne (fun e => by rw [e] at h1; exact absurd h1 (by decide))
    by_cases h2 : s.size ≤ 40
    · by_cases h3 : 97 ≤ (s[0]'h1).toNat
      · by_cases h4 : (s[0]'h1).toNat ≤ 122
        · have hall := isNm_all h1 h2 h3 h4
          have HA := Lib.hid hall
          clear hall
          go_enter Tryz.func110, Tryz.ntmps110
          go_wp2
          go_loopg [24] s.size (NameRel w s)
          case atStart => exact ⟨rfl, 0, by omega, rfl, fun j _ hj => absurd hj (by omega)⟩
          case round =>
            obtain ⟨hw, k, hk, rfl, hpre⟩ := hrel
            subst hw
            have HK := Lib.hid hk
            have HP := Lib.hid hpre
            have hk1 : k ≤ s.size := by omega
            clear hk hpre
            by_cases hlt : k < s.size
            · have hcase : ((97 ≤ s[k].toNat ∧ s[k].toNat ≤ 122) ∨ (48 ≤ s[k].toNat ∧ s[k].toNat ≤ 57) ∨ (45 ≤ s[k].toNat ∧ s[k].toNat ≤ 45)) ∨ ((122 < s[k].toNat ∧ 1 ≤ s.size) ∨ (57 < s[k].toNat ∧ s[k].toNat < 97) ∨ (s[k].toNat < 48 ∧ s[k].toNat ≠ 45)) := by omega
              rcases hcase with hcase | hcase
              · have hok : okB s[k] = true := by
                  unfold okB
                  rcases hcase with ⟨a1, a2⟩ | ⟨a1, a2⟩ | ⟨a1, a2⟩
                  · simp [a1, a2]
                  · simp [a1, a2]
                  · have : s[k].toNat = 45 := by omega
                    simp [this]
                have HO := Lib.hid hok
                clear hok
                have fin : ∀ j (h : j < s.size), j < k + 1 → okB s[j] = true := fun j hj hjk => by
                  rcases Nat.lt_or_ge j k with h1 | h1
                  · exact HP.out j hj h1
                  · obtain rfl : j = k := by omega
                    exact HO.out
                have HF := Lib.hid fin
                clear fin
                rcases hcase with ⟨a1, a2⟩ | ⟨a1, a2⟩ | ⟨a1, a2⟩
                · go_wp2
                  go_roundg (gk - 1)
                  case measure => have := HK.out; omega
                  case rel => exact ⟨rfl, k + 1, by have := HK.out; omega, by go_num, HF.out⟩
                · go_wp2
                  go_roundg (gk - 1)
                  case measure => have := HK.out; omega
                  case rel => exact ⟨rfl, k + 1, by have := HK.out; omega, by go_num, HF.out⟩
                · have hb : ((s[k].toNat : Int) != 45) = false := by
                    have : (s[k].toNat : Int) = 45 := by omega
                    simp [this]
                  go_wp2
                  go_roundg (gk - 1)
                  case measure => have := HK.out; omega
                  case rel => exact ⟨rfl, k + 1, by have := HK.out; omega, by go_num, HF.out⟩
              · have hb : ((s[k].toNat : Int) != 45) = true := by rw [bne_iff_ne]; omega
                have hno : okB s[k] = false := by
                  unfold okB
                  simp
                  omega
                have hres : res = false := by
                  rw [← HR.out, HA.out, List.all_eq_false]
                  exact ⟨s[k], by rw [← data_get s k hlt]; exact List.getElem_mem _, by simp [hno]⟩
                have HS := Lib.hid hres
                clear hres hno
                rcases hcase with ⟨a1, a2⟩ | ⟨a1, a2⟩ | ⟨a1, a2⟩
                · have d1 : decide (122 < (s[k].toNat : Int)) = true := by simp; omega
                  have d2 : decide (57 < (s[k].toNat : Int)) = true := by simp; omega
                  have d3 : decide ((s[k].toNat : Int) < 97) = false := by simp; omega
                  have d4 : decide ((s[k].toNat : Int) < 48) = false := by simp; omega
                  go_wp2
                  go_ret
                  exact Gives.mk (vbool HS.out.symm) rfl
                · have d2 : decide (57 < (s[k].toNat : Int)) = true := by simp; omega
                  have d3 : decide ((s[k].toNat : Int) < 97) = true := by simp; omega
                  have d4 : decide ((s[k].toNat : Int) < 48) = false := by simp; omega
                  go_wp2
                  go_ret
                  exact Gives.mk (vbool HS.out.symm) rfl
                · have d3 : decide ((s[k].toNat : Int) < 97) = true := by simp; omega
                  have d4 : decide ((s[k].toNat : Int) < 48) = true := by simp; omega
                  go_wp2
                  go_ret
                  exact Gives.mk (vbool HS.out.symm) rfl
            · go_wp2
              go_ret
              refine Gives.mk (vbool ?_) rfl
              rw [← HR.out, HA.out, eq_comm, List.all_eq_true]
              intro x hx
              obtain ⟨j, hj, rfl⟩ := List.getElem_of_mem hx
              have hj' : j < s.size := by simpa using hj
              exact HP.out j hj' (by omega)
        · go_enter Tryz.func110, Tryz.ntmps110
          go_wp2
          go_ret
          refine Gives.mk (vbool ?_) rfl
          rw [← HR.out]
          unfold isNm
          rw [headD_get s h1]
          simp [h4]
      · go_enter Tryz.func110, Tryz.ntmps110
        go_wp2
        go_ret
        refine Gives.mk (vbool ?_) rfl
        rw [← HR.out]
        unfold isNm
        rw [headD_get s h1]
        simp [h3]
    · go_enter Tryz.func110, Tryz.ntmps110
      go_wp2
      go_ret
      refine Gives.mk (vbool ?_) rfl
      rw [← HR.out]
      unfold isNm
      simp [h2]
  · have he : s.toList.isEmpty = true := by
      cases hs : s.toList with
      | nil => rfl
      | cons a l =>
        have := congrArg List.length hs
        rw [toList_eq] at this
        simp at this
        omega
    go_enter Tryz.func110, Tryz.ntmps110
    go_wp2
    go_ret
    refine Gives.mk (vbool ?_) rfl
    rw [← HR.out]
    unfold isNm
    simp [h1]


/-- A slice of credits reads as a list. -/
def Crs (w : World) (A : Option Addr) (l : List Cr) : Prop :=
  0 < l.length → ∃ b o : Nat, A = some ⟨b, o, none⟩ ∧ ∀ i (h : i < l.length), w.cell? ⟨b, o + i * 5, none⟩ = some (.string (l[i]).role) ∧ w.cell? ⟨b, o + i * 5 + 1, none⟩ = some (.string (l[i]).person) ∧
    w.cell? ⟨b, o + i * 5 + 2, none⟩ = some (.string (l[i]).name) ∧ w.cell? ⟨b, o + i * 5 + 3, none⟩ = some (.slice (l[i]).iA (l[i]).ins.length (l[i]).ic) ∧ w.cell? ⟨b, o + i * 5 + 4, none⟩ = some (.int .i64 (l[i]).n)
def CrSz (c : Cr) : Prop := c.role.size ≤ 9223372036854775807 ∧ c.person.size ≤ 9223372036854775807 ∧ c.name.size ≤ 9223372036854775807 ∧ c.ins.length ≤ 9223372036854775807 ∧ c.ins.length ≤ c.ic ∧ ∀ s ∈ c.ins, s.size ≤ 9223372036854775807
structure CrsOk (w : World) (A : Option Addr) (l : List Cr) : Prop where
  crs : Crs w A l
  strs : ∀ c ∈ l, Strs w c.iA c.ins
  sized : l.length ≤ 9223372036854775807 ∧ ∀ c ∈ l, CrSz c
section
variable {w w' : World} {A : Option Addr} {l : List Cr}
theorem Crs.at_ (h : Crs w A l) (hl : 0 < l.length) : ∃ b o : Nat, A = some ⟨b, o, none⟩ ∧ b < w.heap.size ∧ ∀ i (h : i < l.length), w.cell? ⟨b, o + i * 5, none⟩ = some (.string (l[i]).role) ∧ w.cell? ⟨b, o + i * 5 + 1, none⟩ = some (.string (l[i]).person) ∧
    w.cell? ⟨b, o + i * 5 + 2, none⟩ = some (.string (l[i]).name) ∧ w.cell? ⟨b, o + i * 5 + 3, none⟩ = some (.slice (l[i]).iA (l[i]).ins.length (l[i]).ic) ∧ w.cell? ⟨b, o + i * 5 + 4, none⟩ = some (.int .i64 (l[i]).n) := by
  obtain ⟨b, o, rfl, hc⟩ := h hl
  exact ⟨b, o, rfl, World.block_lt_of_cell? w _ (hc 0 hl).1, hc⟩
theorem Crs.below (h : Crs w A l) (hb : Below w.heap.size w w') : Crs w' A l := fun hl => by
  obtain ⟨b, o, rfl, hlt, hc⟩ := h.at_ hl
  refine ⟨b, o, rfl, fun i hi => ?_⟩
  rw [hb.cell hlt, hb.cell hlt, hb.cell hlt, hb.cell hlt, hb.cell hlt]
  exact hc i hi
theorem CrsOk.below (h : CrsOk w A l) (hb : Below w.heap.size w w') : CrsOk w' A l := ⟨h.crs.below hb, fun e he => (h.strs e he).below hb, h.sized⟩
end
def crC (x : Cr) : Array Value := #[.string x.role, .string x.person, .string x.name, .slice x.iA x.ins.length x.ic, .int .i64 x.n]
def BoxC (w : World) (p : Nat) (x : Cr) : Prop := w.heap[p]? = some (.cells #[.string x.role, .string x.person, .string x.name, .slice x.iA x.ins.length x.ic, .int .i64 x.n] 113 (0, 0))
theorem BoxC.lt {w : World} {p : Nat} {x : Cr} (h : BoxC w p x) : p < w.heap.size := (Array.getElem?_eq_some_iff.1 h).1
theorem BoxC.below {w w' : World} {p : Nat} {x : Cr} (h : BoxC w p x) (hb : Below w.heap.size w w') : BoxC w' p x := (hb.block _ h.lt).trans h
theorem BoxC.cells {w : World} {p : Nat} {x : Cr} (h : BoxC w p x) : w.cell? ⟨p, 0, none⟩ = some (.string x.role) ∧ w.cell? ⟨p, 1, none⟩ = some (.string x.person) ∧ w.cell? ⟨p, 2, none⟩ = some (.string x.name) ∧ w.cell? ⟨p, 3, none⟩ = some (.slice x.iA x.ins.length x.ic) ∧ w.cell? ⟨p, 4, none⟩ = some (.int .i64 x.n) :=
  ⟨boxC h rfl, boxC h rfl, boxC h rfl, boxC h rfl, boxC h rfl⟩

theorem insF_none {b : List ByteArray} (h : b.length = 0) : insF b = 9 := by unfold insF; rw [if_pos h]
theorem insF_large {b : List ByteArray} (h : 20 < b.length) : insF b = 2 := by unfold insF; rw [if_neg (by omega), if_pos h]
theorem insF_first {b : List ByteArray} (h : b.length ≠ 0) (h2 : ¬ 20 < b.length) : insF b = firstF (btF b) b.length := by unfold insF; rw [if_neg h, if_neg h2]
def InsRel (w : World) (b : List ByteArray) (m : Nat) (i : Value) (wr : World) : Prop :=
  ∃ k : Nat, k + m = b.length ∧ i = .int .i64 k ∧ (∀ j, j < k → btF b j = 0) ∧ Below w.heap.size w wr

set_option maxRecDepth 100000 in
set_option maxHeartbeats 1000000 in
theorem checkInstruments_c (A : Option Addr) (c : Nat) (l : List ByteArray) (w : World) (hw : Strs w A l) (hl : l.length ≤ 9223372036854775807) (hsz : ∀ s ∈ l, s.size ≤ 9223372036854775807) :
    Calls Tryz.prog 101 #[.slice A l.length c] w (GivesB (.int .i64 (insF l)) w) := by
  have HSW := Lib.hid hw
  have HSZ := Lib.hid hsz
  clear hw hsz
  generalize hres : insF l = res
  have HR := Lib.hid hres
  clear hres
  by_cases h0 : l.length = 0
  · have HS := Lib.hid (HR.out.symm.trans (insF_none h0))
    have hb : ((l.length : Int) == 0) = true := by simpa using h0
    clear h0
    go_enter Tryz.func101, Tryz.ntmps101
    go_wp2
    go_ret
    exact GivesB.mk (vint HS.out.symm) (Below.refl _ _)
  have hb : ((l.length : Int) == 0) = false := by simpa using h0
  by_cases h20 : 20 < l.length
  · have HS := Lib.hid (HR.out.symm.trans (insF_large h20))
    go_enter Tryz.func101, Tryz.ntmps101
    go_wp2
    go_ret
    exact GivesB.mk (vint HS.out.symm) (Below.refl _ _)
  have HFST := Lib.hid (HR.out.symm.trans (insF_first h0 h20))
  have h0' : 0 < l.length := by omega
  clear h0
  go_enter Tryz.func101, Tryz.ntmps101
  go_wp2
  clear hb
  go_loopg [13] l.length (InsRel w l)
  case atStart => exact ⟨0, by omega, rfl, fun j hj => absurd hj (by omega), Below.refl _ _⟩
  case round =>
    obtain ⟨k, hk, rfl, hpre, hbr⟩ := hrel
    have HK := Lib.hid hk
    have HP := Lib.hid hpre
    have HBR := Lib.hid hbr
    have hk1 : k ≤ l.length := by omega
    clear hk hpre hbr
    by_cases hlt : k < l.length
    · obtain ⟨b2, o2, rfl, hb2, hc2⟩ := (HSW.out.below HBR.out).at_ (by omega)
      have q := hc2 k hlt
      have HC2 := Lib.hid hc2
      clear hc2
      have HER : Hid (∀ z : Int, btF l k = z → z ≠ 0 → res = z) := by
        show ∀ z : Int, _
        intro z h1 h2
        rw [HFST.out, firstF_at hlt HP.out (by rw [h1]; exact h2), h1]
      go_wp2_with fail
      refine (soundIsName_c _ _ (HSZ.out _ (List.getElem_mem hlt))).mono ?_
      rintro e w5 ⟨rfl, hb5⟩
      have HB5 := Lib.hid (below_trans HBR.out hb5)
      have hb25 : b2 < w5.heap.size := Nat.lt_of_lt_of_le hb2 hb5.size
      have HC5 : Hid (∀ i (h : i < l.length), w5.cell? ⟨b2, o2 + i, none⟩ = some (.string l[i])) := fun i h => (hb5.cell hb2).trans (HC2.out i h)
      clear hb5 q hb2 HC2
      cases hnm : isNm l[k] with
      | false =>
        have HI := Lib.hid (HER.out 5 (by rw [btF_at hlt, if_pos hnm]) (by decide))
        clear hnm
        go_wp2
        go_ret
        exact GivesB.mk (vint HI.out.symm) HB5.out
      | true =>
        have HBF : Hid (btF l k = if 0 < k ∧ sle l[k] (l.getD (k - 1) emp) = true then 8 else 0) := by
          show btF l k = _
          rw [btF_at hlt, if_neg (by rw [hnm]; simp)]
        clear hnm
        by_cases h3 : 0 < k ∧ sle l[k] (l.getD (k - 1) emp) = true
        · have HI := Lib.hid (HER.out 8 (by rw [HBF.out, if_pos h3]) (by decide))
          obtain ⟨h0, hle⟩ := h3
          have hd : decide ((0 : Int) < (k : Int)) = true := by simp; omega
          rw [getB (by omega)] at hle
          have q := HC5.out (k - 1) (by omega)
          unfold sle at hle
          go_wp2
          go_ret
          exact GivesB.mk (vint HI.out.symm) HB5.out
        · have HOK : Hid (btF l k = 0) := HBF.out.trans (if_neg h3)
          have HPN : Hid (∀ j, j < k + 1 → btF l j = 0) := fun j hj => by
            rcases Nat.lt_or_ge j k with h1 | h1
            · exact HP.out j h1
            · obtain rfl : j = k := by omega
              exact HOK.out
          clear HBF HOK
          by_cases h0 : 0 < k
          · have hd : decide ((0 : Int) < (k : Int)) = true := by simp; omega
            have hle : sle l[k] (l.getD (k - 1) emp) = false := by
              cases hh : sle l[k] (l.getD (k - 1) emp) with
              | false => rfl
              | true => exact absurd ⟨h0, hh⟩ h3
            rw [getB (by omega)] at hle
            have q := HC5.out (k - 1) (by omega)
            unfold sle at hle
            clear h3
            go_wp2
            go_roundg (gk - 1)
            case measure => have := HK.out; omega
            case rel => exact ⟨k + 1, by have := HK.out; omega, by go_num, HPN.out, HB5.out⟩
          · have hd : decide ((0 : Int) < (k : Int)) = false := by simp; omega
            clear h3
            go_wp2
            go_roundg (gk - 1)
            case measure => have := HK.out; omega
            case rel => exact ⟨k + 1, by have := HK.out; omega, by go_num, HPN.out, HB5.out⟩
    · have HS : Hid (res = 0) := by
        show res = 0
        rw [HFST.out, firstF_zero fun j hj => HP.out j (by omega)]
      go_wp2
      go_ret
      exact GivesB.mk (vint HS.out.symm) HBR.out
end Go.Proofs.YtfninfgohiipjaaGreatDoor

namespace Go.Proofs.YtfninfgohiipjaaGreatDoor
open Go.RowKit Dw

theorem crsF_large {l : List Cr} (h : 1000 < l.length) : crsF l = 2 := by unfold crsF; rw [if_pos h]
theorem crsF_first {l : List Cr} (h : ¬ 1000 < l.length) : crsF l = firstF (fun i => crF (l.getD i default)) l.length := by unfold crsF; rw [if_neg h]
theorem crF_role {c : Cr} (h : lineB (twoB c.role) c.role = false) : crF c = 3 := by unfold crF; rw [if_pos h]
theorem crF_name {c : Cr} (h : lineB (twoB c.role) c.role = true) (h2 : lineB (twoB c.name) c.name = false) : crF c = 3 := by unfold crF; rw [if_neg (by rw [h]; simp), if_pos h2]
theorem crF_person {c : Cr} (h : lineB (twoB c.role) c.role = true) (h2 : lineB (twoB c.name) c.name = true) (h3 : isNm c.person = false) : crF c = 5 := by unfold crF; rw [if_neg (by rw [h]; simp), if_neg (by rw [h2]; simp), if_pos h3]
theorem crF_ins {c : Cr} (h : lineB (twoB c.role) c.role = true) (h2 : lineB (twoB c.name) c.name = true) (h3 : isNm c.person = true) (h4 : insF c.ins ≠ 0) : crF c = insF c.ins := by
  unfold crF; rw [if_neg (by rw [h]; simp), if_neg (by rw [h2]; simp), if_neg (by rw [h3]; simp), if_pos h4]
theorem crF_n {c : Cr} (h : lineB (twoB c.role) c.role = true) (h2 : lineB (twoB c.name) c.name = true) (h3 : isNm c.person = true) (h4 : insF c.ins = 0) : crF c = if c.n < 1 ∨ 100000 < c.n then 1 else 0 := by
  unfold crF; rw [if_neg (by rw [h]; simp), if_neg (by rw [h2]; simp), if_neg (by rw [h3]; simp), if_neg (by rw [h4]; simp)]
def CkRel (w : World) (l : List Cr) (m : Nat) (i : Value) (wr : World) : Prop :=
  ∃ k : Nat, k + m = l.length ∧ i = .int .i64 k ∧ (∀ j, j < k → crF (l.getD j default) = 0) ∧ Below w.heap.size w wr

set_option maxRecDepth 100000 in
set_option maxHeartbeats 2000000 in
theorem checkCredits_c (A : Option Addr) (c : Nat) (l : List Cr) (w : World) (hw : CrsOk w A l) (hG : GOK w) :
    Calls Tryz.prog 71 #[.slice A l.length c] w (GivesB (.int .i64 (crsF l)) w) := by
  have HW := Lib.hid hw
  have hls := hw.sized.1
  clear hw
  generalize hres : crsF l = res
  have HR := Lib.hid hres
  clear hres
  by_cases hlg : 1000 < l.length
  · have HS := Lib.hid (HR.out.symm.trans (crsF_large hlg))
    go_enter Tryz.func71, Tryz.ntmps71
    go_wp2
    go_ret
    exact GivesB.mk (vint HS.out.symm) (Below.refl _ _)
  have HFST := Lib.hid (HR.out.symm.trans (crsF_first hlg))
  have hn : l.length ≤ 1000 := by omega
  clear hls
  go_enter Tryz.func71, Tryz.ntmps71
  go_wp2
  clear hlg
  go_loopg [11] l.length (CkRel w l)
  case atStart => exact ⟨0, by omega, rfl, fun j hj => absurd hj (by omega), Below.refl _ _⟩
  case round =>
    obtain ⟨k, hk, rfl, hpre, hbr⟩ := hrel
    have HK := Lib.hid hk
    have HP := Lib.hid hpre
    have HBR := Lib.hid hbr
    have hk1 : k ≤ l.length := by omega
    clear hk hpre hbr
    by_cases hlt : k < l.length
    · have hwb := HW.out.below HBR.out
      obtain ⟨b, o, rfl, hb, hcc⟩ := hwb.crs.at_ (by omega)
      obtain ⟨q0, q1, q2, q3, q4⟩ := hcc k hlt
      have HER : Hid (∀ z : Int, crF l[k] = z → z ≠ 0 → res = z) := by
        show ∀ z : Int, _
        intro z h1 h2
        rw [HFST.out, firstF_at hlt HP.out (by rw [getC hlt, h1]; exact h2), getC hlt, h1]
      have HNX : Hid (crF l[k] = 0 → ∀ j, j < k + 1 → crF (l.getD j default) = 0) := fun h0 j hj => by
        rcases Nat.lt_or_ge j k with h1 | h1
        · exact HP.out j h1
        · obtain rfl : j = k := by omega
          rw [getC hlt]; exact h0
      have HSI := Lib.hid (hwb.strs _ (List.getElem_mem hlt))
      have HSZ := Lib.hid (hwb.sized.2 _ (List.getElem_mem hlt))
      have HBX : Hid (BoxC (wr.alloc (.cells #[.string (l[k]).role, .string (l[k]).person, .string (l[k]).name, .slice (l[k]).iA (l[k]).ins.length (l[k]).ic, .int .i64 (l[k]).n] 113)) wr.heap.size l[k]) := heap_alloc_new _ _
      have HBA : Hid (Below w.heap.size w (wr.alloc (.cells #[.string (l[k]).role, .string (l[k]).person, .string (l[k]).name, .slice (l[k]).iA (l[k]).ins.length (l[k]).ic, .int .i64 (l[k]).n] 113))) := HBR.out.alloc HBR.out.size _
      have HB1 : Hid (Below wr.heap.size wr (wr.alloc (.cells #[.string (l[k]).role, .string (l[k]).person, .string (l[k]).name, .slice (l[k]).iA (l[k]).ins.length (l[k]).ic, .int .i64 (l[k]).n] 113))) := (Below.refl _ _).alloc (Nat.le_refl _) _
      clear hcc hwb
      generalize l[k] = x at *
      have hil : x.ins.length ≤ 9223372036854775807 := HSZ.out.2.2.2.1
      go_wp2_with fail
      refine (isLine_c _ _ HSZ.out.1 (hG.below HBA.out)).mono ?_
      rintro e w1 ⟨rfl, rfl⟩
      cases hl1 : lineB (twoB x.role) x.role with
      | false =>
        have HI := Lib.hid (HER.out 3 (crF_role hl1) (by decide))
        clear hl1
        go_wp2
        go_ret
        exact GivesB.mk (vint HI.out.symm) HBA.out
      | true =>
      have HL1 := Lib.hid hl1
      clear hl1
      go_wp2_with fail
      refine (isLine_c _ _ HSZ.out.2.2.1 (hG.below HBA.out)).mono ?_
      rintro e w1 ⟨rfl, rfl⟩
      cases hl2 : lineB (twoB x.name) x.name with
      | false =>
        have HI := Lib.hid (HER.out 3 (crF_name HL1.out hl2) (by decide))
        clear hl2
        go_wp2
        go_ret
        exact GivesB.mk (vint HI.out.symm) HBA.out
      | true =>
      have HL2 := Lib.hid hl2
      clear hl2
      go_wp2_with fail
      refine (soundIsName_c _ _ HSZ.out.2.1).mono ?_
      rintro e w2 ⟨rfl, hb2⟩
      have HB2 := Lib.hid (below_trans HBA.out hb2)
      have HX2 := Lib.hid (HBX.out.below hb2)
      have HS2 := Lib.hid ((HSI.out.below HB1.out).below hb2)
      clear hb2 HBA HBX HB1 HSI q0 q1 q2 q3 q4 hb
      obtain ⟨z0, z1, z2, z3, z4⟩ := HX2.out.cells
      have hzl := HX2.out.lt
      cases hnm : isNm x.person with
      | false =>
        have HI := Lib.hid (HER.out 5 (crF_person HL1.out HL2.out hnm) (by decide))
        clear hnm
        go_wp2
        go_ret
        exact GivesB.mk (vint HI.out.symm) HB2.out
      | true =>
      have HNM := Lib.hid hnm
      clear hnm
      go_wp2_with fail
      refine (checkInstruments_c _ _ _ _ HS2.out hil HSZ.out.2.2.2.2.2).mono ?_
      rintro e w3 ⟨rfl, hb3⟩
      have HB3 := Lib.hid (below_trans HB2.out hb3)
      have HX3 := Lib.hid (HX2.out.below hb3)
      clear hb3 HB2 HX2 HS2 z0 z1 z2 z3 z4 hzl
      generalize hpp : wr.heap.size = p at *
      clear hpp
      obtain ⟨z0, z1, z2, z3, z4⟩ := HX3.out.cells
      have hzl := HX3.out.lt
      by_cases hif : insF x.ins = 0
      case neg =>
        have HI := Lib.hid (HER.out _ (crF_ins HL1.out HL2.out HNM.out hif) hif)
        have hib : (insF x.ins != 0) = true := by simpa using hif
        clear hif
        generalize insF x.ins = z at *
        go_wp2
        go_ret
        exact GivesB.mk (vint HI.out.symm) HB3.out
      have HE := Lib.hid (crF_n HL1.out HL2.out HNM.out hif)
      rw [hif]
      clear hif
      by_cases hn1 : x.n < 1
      · have HI := Lib.hid (HER.out 1 (by rw [HE.out, if_pos (.inl hn1)]) (by decide))
        go_wp2
        go_ret
        exact GivesB.mk (vint HI.out.symm) HB3.out
      by_cases hn2 : 100000 < x.n
      · have HI := Lib.hid (HER.out 1 (by rw [HE.out, if_pos (.inr hn2)]) (by decide))
        go_wp2
        go_ret
        exact GivesB.mk (vint HI.out.symm) HB3.out
      have HN := Lib.hid (HNX.out (HE.out.trans (if_neg (by omega))))
      go_wp2
      go_roundg (gk - 1)
      case measure => have := HK.out; omega
      case rel => exact ⟨k + 1, by have := HK.out; omega, by go_num, HN.out, HB3.out⟩
    · have HS : Hid (res = 0) := by
        show res = 0
        rw [HFST.out, firstF_zero fun j hj => HP.out j (by omega)]
      go_wp2
      go_ret
      exact GivesB.mk (vint HS.out.symm) HBR.out

set_option maxHeartbeats 400000 in
theorem checkInstrumentsR_c (A : Option Addr) (c : Nat) (l : List ByteArray) (w : World) (hl : l.length ≤ 9223372036854775807) :
    Calls Tryz.prog 111 #[.slice A l.length c] w (Gives (.int .i64 (if l.length = 0 then 9 else if 20 < l.length then 2 else 0)) w) := by
  by_cases h0 : l.length = 0
  · have hb : ((l.length : Int) == 0) = true := by simpa using h0
    rw [if_pos h0]
    clear h0
    go_enter Tryz.func111, Tryz.ntmps111
    go_wp2
    go_ret
    exact Gives.mk rfl rfl
  have hb : ((l.length : Int) == 0) = false := by simpa using h0
  rw [if_neg h0]
  clear h0
  by_cases h20 : 20 < l.length
  · rw [if_pos h20]
    go_enter Tryz.func111, Tryz.ntmps111
    go_wp2
    go_ret
    exact Gives.mk rfl rfl
  rw [if_neg h20]
  go_enter Tryz.func111, Tryz.ntmps111
  go_wp2
  go_ret
  exact Gives.mk rfl rfl

def InsRel2 (w0 : World) (x : Cr) (m : Nat) (i : Value) (wr : World) : Prop :=
  ∃ k : Nat, k + m = x.ins.length ∧ i = .int .i64 k ∧ (∀ j, j < k → btF x.ins j = 0) ∧ wr = w0

set_option maxRecDepth 100000 in
set_option maxHeartbeats 2000000 in
theorem checkCreditR_c (x : Cr) (w : World) (hw : Strs w x.iA x.ins) (hsz : CrSz x) (hG : GOK w) :
    Calls Tryz.prog 76 #[.agg #[.string x.role, .string x.person, .string x.name, .slice x.iA x.ins.length x.ic, .int .i64 x.n]] w (GivesB (.int .i64 (crF x)) w) := by
  have HSI := Lib.hid hw
  have HSZ := Lib.hid hsz
  clear hw hsz
  have hil : x.ins.length ≤ 9223372036854775807 := HSZ.out.2.2.2.1
  generalize hres : crF x = res
  have HR := Lib.hid hres
  clear hres
  have HBX : Hid (BoxC (w.alloc (.cells #[.string x.role, .string x.person, .string x.name, .slice x.iA x.ins.length x.ic, .int .i64 x.n] 113)) w.heap.size x) := heap_alloc_new _ _
  have HBA : Hid (Below w.heap.size w (w.alloc (.cells #[.string x.role, .string x.person, .string x.name, .slice x.iA x.ins.length x.ic, .int .i64 x.n] 113))) := (Below.refl _ _).alloc (Nat.le_refl _) _
  go_enter Tryz.func76, Tryz.ntmps76
  go_wp2_with fail
  refine (isLineR_c _ _ HSZ.out.1 (hG.below HBA.out)).mono ?_
  rintro e w1 ⟨rfl, rfl⟩
  cases hl1 : lineB (twoB x.role) x.role with
  | false =>
    have HI := Lib.hid (HR.out.symm.trans (crF_role hl1))
    clear hl1
    go_wp2
    go_ret
    exact GivesB.mk (vint HI.out.symm) HBA.out
  | true =>
  have HL1 := Lib.hid hl1
  clear hl1
  go_wp2_with fail
  refine (isLineR_c _ _ HSZ.out.2.2.1 (hG.below HBA.out)).mono ?_
  rintro e w1 ⟨rfl, rfl⟩
  cases hl2 : lineB (twoB x.name) x.name with
  | false =>
    have HI := Lib.hid (HR.out.symm.trans (crF_name HL1.out hl2))
    clear hl2
    go_wp2
    go_ret
    exact GivesB.mk (vint HI.out.symm) HBA.out
  | true =>
  have HL2 := Lib.hid hl2
  clear hl2
  go_wp2_with fail
  refine (isNameR5_c _ _ HSZ.out.2.1).mono ?_
  rintro e w2 ⟨rfl, rfl⟩
  cases hnm : isNm x.person with
  | false =>
    have HI := Lib.hid (HR.out.symm.trans (crF_person HL1.out HL2.out hnm))
    clear hnm
    go_wp2
    go_ret
    exact GivesB.mk (vint HI.out.symm) HBA.out
  | true =>
  have HNM := Lib.hid hnm
  clear hnm
  go_wp2_with fail
  refine (checkInstrumentsR_c _ _ _ _ hil).mono ?_
  rintro e w3 ⟨rfl, rfl⟩
  have HS1 := Lib.hid (HSI.out.below HBA.out)
  by_cases h0 : x.ins.length = 0
  · have HI := Lib.hid (HR.out.symm.trans (by rw [crF_ins HL1.out HL2.out HNM.out (by rw [insF_none h0]; decide), insF_none h0]))
    rw [if_pos h0]
    clear h0
    go_wp2
    go_ret
    exact GivesB.mk (vint HI.out.symm) HBA.out
  rw [if_neg h0]
  by_cases h20 : 20 < x.ins.length
  · have HI := Lib.hid (HR.out.symm.trans (by rw [crF_ins HL1.out HL2.out HNM.out (by rw [insF_large h20]; decide), insF_large h20]))
    rw [if_pos h20]
    clear h0
    go_wp2
    go_ret
    exact GivesB.mk (vint HI.out.symm) HBA.out
  rw [if_neg h20]
  have HIF := Lib.hid (insF_first h0 h20)
  have hn20 : x.ins.length ≤ 20 := by omega
  have hn1 : 0 < x.ins.length := by omega
  clear h0 h20
  have HER : Hid (insF x.ins ≠ 0 → res = insF x.ins) := fun h => HR.out.symm.trans (crF_ins HL1.out HL2.out HNM.out h)
  have HFN : Hid (insF x.ins = 0 → res = if x.n < 1 ∨ 100000 < x.n then 1 else 0) := fun h => HR.out.symm.trans (crF_n HL1.out HL2.out HNM.out h)
  clear HSI
  generalize hw1 : (w.alloc (.cells #[.string x.role, .string x.person, .string x.name, .slice x.iA x.ins.length x.ic, .int .i64 x.n] 113)) = w1 at *
  clear hw1
  obtain ⟨z0, z1, z2, z3, z4⟩ := HBX.out.cells
  have hzl := HBX.out.lt
  generalize hpp : w.heap.size = p at *
  have HPP := Lib.hid hpp
  clear hpp
  obtain ⟨b2, o2, hA2, hb2, hc2⟩ := HS1.out.at_ hn1
  have HC2 := Lib.hid hc2
  rw [hA2] at z3 ⊢
  clear hc2 hA2
  go_wp2
  go_loopg [29] x.ins.length (InsRel2 w1 x)
  case atStart => exact ⟨0, by omega, rfl, fun j hj => absurd hj (by omega), rfl⟩
  case round =>
    obtain ⟨k, hk, rfl, hpre, rfl⟩ := hrel
    have HK := Lib.hid hk
    have HP := Lib.hid hpre
    have hk1 : k ≤ x.ins.length := by omega
    clear hk hpre
    by_cases hlt : k < x.ins.length
    · have q := HC2.out k hlt
      have HER2 : Hid (∀ z : Int, btF x.ins k = z → z ≠ 0 → res = z) := by
        show ∀ z : Int, _
        intro z h1 h2
        have h3 : insF x.ins = z := by rw [HIF.out, firstF_at hlt HP.out (by rw [h1]; exact h2), h1]
        rw [HER.out (by rw [h3]; exact h2), h3]
      go_wp2_with fail
      refine (isNameR5_c _ _ (HSZ.out.2.2.2.2.2 _ (List.getElem_mem hlt))).mono ?_
      rintro e w5 ⟨rfl, rfl⟩
      cases hnm : isNm x.ins[k] with
      | false =>
        have HI := Lib.hid (HER2.out 5 (by rw [btF_at hlt, if_pos hnm]) (by decide))
        clear hnm
        go_wp2
        go_ret
        exact GivesB.mk (vint HI.out.symm) (HPP.out ▸ HBA.out)
      | true =>
        have HBF : Hid (btF x.ins k = if 0 < k ∧ sle x.ins[k] (x.ins.getD (k - 1) emp) = true then 8 else 0) := by
          show btF x.ins k = _
          rw [btF_at hlt, if_neg (by rw [hnm]; simp)]
        clear hnm
        by_cases h3 : 0 < k ∧ sle x.ins[k] (x.ins.getD (k - 1) emp) = true
        · have HI := Lib.hid (HER2.out 8 (by rw [HBF.out, if_pos h3]) (by decide))
          obtain ⟨h0, hle⟩ := h3
          have hd : decide ((0 : Int) < (k : Int)) = true := by simp; omega
          rw [getB (by omega)] at hle
          have q' := HC2.out (k - 1) (by omega)
          unfold sle at hle
          go_wp2
          go_ret
          exact GivesB.mk (vint HI.out.symm) (HPP.out ▸ HBA.out)
        · have HOK : Hid (btF x.ins k = 0) := HBF.out.trans (if_neg h3)
          have HPN : Hid (∀ j, j < k + 1 → btF x.ins j = 0) := fun j hj => by
            rcases Nat.lt_or_ge j k with h1 | h1
            · exact HP.out j h1
            · obtain rfl : j = k := by omega
              exact HOK.out
          clear HBF HOK
          by_cases h0 : 0 < k
          · have hd : decide ((0 : Int) < (k : Int)) = true := by simp; omega
            have hle : sle x.ins[k] (x.ins.getD (k - 1) emp) = false := by
              cases hh : sle x.ins[k] (x.ins.getD (k - 1) emp) with
              | false => rfl
              | true => exact absurd ⟨h0, hh⟩ h3
            rw [getB (by omega)] at hle
            have q' := HC2.out (k - 1) (by omega)
            unfold sle at hle
            clear h3
            go_wp2
            go_roundg (gk - 1)
            case measure => have := HK.out; omega
            case rel => exact ⟨k + 1, by have := HK.out; omega, by go_num, HPN.out, rfl⟩
          · have hd : decide ((0 : Int) < (k : Int)) = false := by simp; omega
            clear h3
            go_wp2
            go_roundg (gk - 1)
            case measure => have := HK.out; omega
            case rel => exact ⟨k + 1, by have := HK.out; omega, by go_num, HPN.out, rfl⟩
    · have HZ : Hid (insF x.ins = 0) := by
        show _ = _
        rw [HIF.out, firstF_zero fun j hj => HP.out j (by omega)]
      by_cases hn1 : x.n < 1
      · have HI := Lib.hid ((HFN.out HZ.out).trans (if_pos (.inl hn1)))
        go_wp2
        go_ret
        exact GivesB.mk (vint HI.out.symm) (HPP.out ▸ HBA.out)
      by_cases hn2 : 100000 < x.n
      · have HI := Lib.hid ((HFN.out HZ.out).trans (if_pos (.inr hn2)))
        go_wp2
        go_ret
        exact GivesB.mk (vint HI.out.symm) (HPP.out ▸ HBA.out)
      have HI := Lib.hid ((HFN.out HZ.out).trans (if_neg (by omega)))
      go_wp2
      go_ret
      exact GivesB.mk (vint HI.out.symm) (HPP.out ▸ HBA.out)

set_option maxRecDepth 100000 in
set_option maxHeartbeats 1000000 in
theorem CheckCreditsR_c (A : Option Addr) (c : Nat) (l : List Cr) (w : World) (hw : CrsOk w A l) (hG : GOK w) :
    Calls Tryz.prog 38 #[.slice A l.length c] w (GivesB (.int .i64 (crsF l)) w) := by
  have HW := Lib.hid hw
  have hls := hw.sized.1
  clear hw
  generalize hres : crsF l = res
  have HR := Lib.hid hres
  clear hres
  by_cases hlg : 1000 < l.length
  · have HS := Lib.hid (HR.out.symm.trans (crsF_large hlg))
    go_enter Tryz.func38, Tryz.ntmps38
    go_wp2
    go_ret
    exact GivesB.mk (vint HS.out.symm) (Below.refl _ _)
  have HFST := Lib.hid (HR.out.symm.trans (crsF_first hlg))
  have hn : l.length ≤ 1000 := by omega
  clear hls
  go_enter Tryz.func38, Tryz.ntmps38
  go_wp2
  clear hlg
  go_loopg [11] l.length (CkRel w l)
  case atStart => exact ⟨0, by omega, rfl, fun j hj => absurd hj (by omega), Below.refl _ _⟩
  case round =>
    obtain ⟨k, hk, rfl, hpre, hbr⟩ := hrel
    have HK := Lib.hid hk
    have HP := Lib.hid hpre
    have HBR := Lib.hid hbr
    have hk1 : k ≤ l.length := by omega
    clear hk hpre hbr
    by_cases hlt : k < l.length
    · have hwb := HW.out.below HBR.out
      obtain ⟨b, o, rfl, hb, hcc⟩ := hwb.crs.at_ (by omega)
      obtain ⟨q0, q1, q2, q3, q4⟩ := hcc k hlt
      have HER : Hid (∀ z : Int, crF l[k] = z → z ≠ 0 → res = z) := by
        show ∀ z : Int, _
        intro z h1 h2
        rw [HFST.out, firstF_at hlt HP.out (by rw [getC hlt, h1]; exact h2), getC hlt, h1]
      have HNX : Hid (crF l[k] = 0 → ∀ j, j < k + 1 → crF (l.getD j default) = 0) := fun h0 j hj => by
        rcases Nat.lt_or_ge j k with h1 | h1
        · exact HP.out j h1
        · obtain rfl : j = k := by omega
          rw [getC hlt]; exact h0
      have HSI := Lib.hid (hwb.strs _ (List.getElem_mem hlt))
      have HSZ := Lib.hid (hwb.sized.2 _ (List.getElem_mem hlt))
      have HBA : Hid (Below w.heap.size w (wr.alloc (.cells #[.string (l[k]).role, .string (l[k]).person, .string (l[k]).name, .slice (l[k]).iA (l[k]).ins.length (l[k]).ic, .int .i64 (l[k]).n] 113))) := HBR.out.alloc HBR.out.size _
      have HB1 : Hid (Below wr.heap.size wr (wr.alloc (.cells #[.string (l[k]).role, .string (l[k]).person, .string (l[k]).name, .slice (l[k]).iA (l[k]).ins.length (l[k]).ic, .int .i64 (l[k]).n] 113))) := (Below.refl _ _).alloc (Nat.le_refl _) _
      clear hcc hwb
      generalize l[k] = x at *
      go_wp2_with fail
      refine (checkCreditR_c x _ (HSI.out.below HB1.out) HSZ.out (hG.below HBA.out)).mono ?_
      rintro e w3 ⟨rfl, hb3⟩
      have HB3 := Lib.hid (below_trans HBA.out hb3)
      clear hb3 HBA HB1 HSI q0 q1 q2 q3 q4
      by_cases hcf : crF x = 0
      case neg =>
        have HI := Lib.hid (HER.out _ rfl hcf)
        have hib : (crF x != 0) = true := by simpa using hcf
        clear hcf
        generalize crF x = z at *
        go_wp2
        go_ret
        exact GivesB.mk (vint HI.out.symm) HB3.out
      have HN := Lib.hid (HNX.out hcf)
      rw [hcf]
      clear hcf
      go_wp2
      go_roundg (gk - 1)
      case measure => have := HK.out; omega
      case rel => exact ⟨k + 1, by have := HK.out; omega, by go_num, HN.out, HB3.out⟩
    · have HS : Hid (res = 0) := by
        show res = 0
        rw [HFST.out, firstF_zero fun j hj => HP.out j (by omega)]
      go_wp2
      go_ret
      exact GivesB.mk (vint HS.out.symm) HBR.out
end Go.Proofs.YtfninfgohiipjaaGreatDoor

namespace Go.Proofs.YtfninfgohiipjaaGreatDoor
open Go.RowKit Dw

/-- The one table of the library that Itoa reads. -/
def POK (w : World) : Prop := Lib.TabIs Tryz.prog w "internal/strconv.uint64pow10" .u64 Lib.pow10Tab
theorem POK.below {w w' : World} (h : POK w) (hb : Below w.heap.size w w') : POK w' := by
  unfold POK Lib.TabIs World.var? at *
  have hg : Tryz.prog.globalNamed "internal/strconv.uint64pow10" = some 1 := by kernel_rfl
  rw [hg] at h ⊢
  simp only [Option.bind_some] at h ⊢
  have hlt : 1 < w.heap.size := by
    rcases Nat.lt_or_ge 1 w.heap.size with h1 | h1
    · exact h1
    · rw [Array.getElem?_eq_none h1] at h; cases h
  rw [hb.block _ hlt]
  exact h
theorem itoa_c (n : Int) (w : World) (h0 : -9223372036854775808 ≤ n) (h1 : n ≤ 9223372036854775807) (hP : POK w) : Calls Tryz.prog 25 #[.int .i64 n] w (GivesB (.string (itoaB n)) w) :=
  (Any.strconv_Itoa Tryz.laysM171 n h0 h1 w hP).mono fun _ _ ⟨he, k, os, hw⟩ => ⟨he, by rw [hw]; exact below_regrown w (w.drawn + k) os⟩
theorem itoaS_c (n : Nat) (w : World) (h : n < 100) : Calls Tryz.prog 25 #[.int .i64 (n : Int)] w (Gives (.string ⟨(Lib.decDigits n).toArray⟩) w) :=
  (Any.strconv_Itoa_small Tryz.lays171 n h w).mono fun _ _ ⟨he, hw⟩ => ⟨he, hw.symm⟩

/-- A builder that the call has made. -/
def Bld (B b : Nat) (l : List UInt8) (w : World) : Prop := Lib.IsBuilderF 64 5 B b (Lib.byteCells l) w
def GivesW (B b : Nat) (l : List UInt8) (n : Nat) (w : World) (e : Ending) (w' : World) : Prop :=
  e = .returned (.tuple #[.int .i64 (n : Int), .nilIface]) ∧ Bld B b l w' ∧ Below B w w' ∧ Lib.OthersKept 5 (some b) w w'
theorem byteCells_app (l m : List UInt8) : Lib.byteCells (l ++ m) = Lib.byteCells l ++ Lib.byteCells m := by unfold Lib.byteCells; rw [List.map_append]
theorem write_c (B b : Nat) (l : List UInt8) (s : ByteArray) (w : World) (h : Bld B b l w) (hl : l.length + s.size ≤ 140737488355328) (hB : B ≤ w.heap.size) :
    Calls Tryz.prog 24 #[.pointer (some ⟨b, 0, none⟩), .string s] w (GivesW B b (l ++ s.data.toList) s.size w) :=
  (Any.Builder_WriteString_k { Tryz.lays156 with } Tryz.Builder_Extra_156 B b (Lib.byteCells l) s w h (by rw [Lib.byteCells_length]; exact hl) hB).mono fun _ _ ⟨he, hb, hbl, hk⟩ => ⟨he, by
    show Lib.IsBuilderF _ _ _ _ _ _
    rw [byteCells_app]
    exact .inr hb, hbl, hk⟩
theorem bstr_c (B b : Nat) (l : List UInt8) (w : World) (h : Bld B b l w) (hB : B ≤ w.heap.size) :
    Calls Tryz.prog 29 #[.pointer (some ⟨b, 0, none⟩)] w fun e w' => e = .returned (.string ⟨l.toArray⟩) ∧ Below B w w' :=
  (Any.Builder_String_any_f Tryz.lays169 Tryz.Builder_Extra_169 B b l w h hB).mono fun _ _ ⟨he, _, hb⟩ => ⟨he, hb⟩
theorem blen_c (B b : Nat) (l : List UInt8) (w : World) (h : Bld B b l w) :
    Calls Tryz.prog 28 #[.pointer (some ⟨b, 0, none⟩)] w (Gives (.int .i64 (l.length : Int)) w) :=
  (Any.Builder_Len_f Tryz.lays170 B b (Lib.byteCells l) w h).mono fun _ _ ⟨he, hw⟩ => ⟨by rw [he, Lib.byteCells_length], hw.symm⟩
theorem join_c (A : Option Addr) (c : Nat) (xs : List ByteArray) (sep : ByteArray) (w : World) (h : Strs w A xs) (hc : xs.length ≤ c) (hN : xs.length ≤ 140737488355328)
    (hlen : (Lib.join (xs.map (·.data.toList)) sep.data.toList).length ≤ 140737488355328) :
    Calls Tryz.prog 63 #[.slice A xs.length c, .string sep] w (GivesB (.string ⟨(Lib.join (xs.map (·.data.toList)) sep.data.toList).toArray⟩) w) := by
  rcases Nat.eq_zero_or_pos xs.length with h0 | h0
  · have hx : xs = [] := List.eq_nil_of_length_eq_zero h0
    subst hx
    exact (Any.strings_Join_none Tryz.lays156 Tryz.Builder_Extra_156 A c sep w).mono fun _ _ ⟨he, hw⟩ => ⟨he, hw ▸ Below.refl _ _⟩
  · obtain ⟨b, o, rfl, hb, hcc⟩ := h.at_ h0
    exact Any.strings_Join Tryz.lays156 Tryz.Builder_Extra_156 b o c xs sep w (fun j x hj => by
      obtain ⟨hj', hx⟩ := List.getElem?_eq_some_iff.1 hj
      rw [← hx]
      exact hcc j hj') hb hN hc hlen
end Go.Proofs.YtfninfgohiipjaaGreatDoor

namespace Go.Proofs.YtfninfgohiipjaaGreatDoor
open Go.RowKit Dw

def rateB (n : Int) : Bool := decide (1 ≤ n ∧ n ≤ 1000000)
theorem vstr {a b : ByteArray} (h : a = b) : Value.string a = .string b := by rw [h]
theorem size_of_toArray (l : List UInt8) : (⟨l.toArray⟩ : ByteArray).size = l.length := by
  show l.toArray.size = l.length
  simp

set_option maxHeartbeats 400000 in
theorem isPos_c (n : Int) (w : World) (h0 : 0 ≤ n) : Calls Tryz.prog 61 #[.int .i64 n] w (Gives (.bool (decide (n ≤ 10000000000000))) w) := by
  have h1 : ¬ n < -10000000000000 := by omega
  have h2 : (-10000000000000 : Int) ≤ n := by omega
  go_enter Tryz.func61, Tryz.ntmps61
  go_wp2
  go_ret
  exact Gives.mk rfl rfl
set_option maxHeartbeats 400000 in
theorem isRate_c (n : Int) (w : World) : Calls Tryz.prog 23 #[.int .i64 n] w (Gives (.bool (rateB n)) w) := by
  by_cases h1 : 1 ≤ n
  · have HE : Hid (decide (n ≤ 1000000) = rateB n) := by show _ = _; unfold rateB; simp [h1]
    go_enter Tryz.func23, Tryz.ntmps23
    go_wp2
    go_ret
    exact Gives.mk (vbool HE.out) rfl
  · have HE : Hid (false = rateB n) := by show _ = _; unfold rateB; simp [h1]
    go_enter Tryz.func23, Tryz.ntmps23
    go_wp2
    go_ret
    exact Gives.mk (vbool HE.out) rfl
set_option maxHeartbeats 400000 in
theorem positionR_c (n : Int) (w : World) (h0 : 0 ≤ n) : Calls Tryz.prog 64 #[.int .i64 n] w (Gives (.bool (decide (n ≤ 10000000000000))) w) := by
  have h1 : ¬ n < -10000000000000 := by omega
  have h2 : (-10000000000000 : Int) ≤ n := by omega
  go_enter Tryz.func64, Tryz.ntmps64
  go_wp2
  go_ret
  exact Gives.mk rfl rfl
set_option maxHeartbeats 400000 in
theorem isRateR_c (n : Int) (w : World) : Calls Tryz.prog 65 #[.int .i64 n] w (Gives (.bool (rateB n)) w) := by
  by_cases h1 : 1 ≤ n
  · have HE : Hid (decide (n ≤ 1000000) = rateB n) := by show _ = _; unfold rateB; simp [h1]
    go_enter Tryz.func65, Tryz.ntmps65
    go_wp2
    go_ret
    exact Gives.mk (vbool HE.out) rfl
  · have HE : Hid (false = rateB n) := by show _ = _; unfold rateB; simp [h1]
    go_enter Tryz.func65, Tryz.ntmps65
    go_wp2
    go_ret
    exact Gives.mk (vbool HE.out) rfl

set_option maxHeartbeats 400000 in
theorem twoR_c (n : Nat) (w : World) (h : n < 100) : Calls Tryz.prog 66 #[.int .i64 (n : Int)] w (Gives (.string (twoD n)) w) := by
  by_cases h1 : n < 10
  · have HS := Lib.hid (two_small h1)
    have hz : (Lib.decDigits n).length ≤ 2 := dec_size n 2 (by omega) (by omega)
    have hz2 := size_of_toArray (Lib.decDigits n)
    have hz3 : (⟨(Lib.decDigits n).toArray⟩ : ByteArray).size ≤ 2 := by omega
    have HIT := Lib.hid (itoaS_c n w h)
    clear hz hz2
    generalize (⟨(Lib.decDigits n).toArray⟩ : ByteArray) = s at *
    go_enter Tryz.func66, Tryz.ntmps66
    go_wp2_with fail
    refine HIT.out.mono ?_
    rintro e w' ⟨rfl, rfl⟩
    go_wp2
    go_ret
    exact Gives.mk (vstr HS.out) rfl
  · have HS := Lib.hid (two_large h1 h)
    have HIT := Lib.hid (itoaS_c n w h)
    generalize (⟨(Lib.decDigits n).toArray⟩ : ByteArray) = s at *
    go_enter Tryz.func66, Tryz.ntmps66
    go_wp2_with fail
    refine HIT.out.mono ?_
    rintro e w' ⟨rfl, rfl⟩
    go_wp2
    go_ret
    exact Gives.mk (vstr HS.out) rfl

set_option maxRecDepth 100000 in
set_option maxHeartbeats 400000 in
theorem two_c (n : Nat) (w : World) (h : n < 100) : Calls Tryz.prog 62 #[.int .i64 (n : Int)] w (GivesB (.string (twoD n)) w) := by
  have hcv : (convert 62 9 (.slice (some ⟨w.heap.size, 0, none⟩) 2 2)).run Tryz.prog (w.alloc (.cells #[.int .u8 (48 + (n : Int) / 10), .int .u8 (48 + (n : Int) % 10)] 5)) = .ok (.string (twoD n)) (w.alloc (.cells #[.int .u8 (48 + (n : Int) / 10), .int .u8 (48 + (n : Int) % 10)] 5)) := by
    refine run_convert_bytes_back _ 62 9 5 ⟨w.heap.size, 0, none⟩ 2 [UInt8.ofNat (48 + n / 10), UInt8.ofNat (48 + n % 10)] Tryz.underlying62 Tryz.underlying5 Tryz.underlying9 (fun j hj => ?_)
    have hj2 : j = 0 ∨ j = 1 := by simp at hj; omega
    have hb := heap_alloc_new w (.cells #[.int .u8 (48 + (n : Int) / 10), .int .u8 (48 + (n : Int) % 10)] 5)
    rcases hj2 with rfl | rfl
    · have e : ((UInt8.ofNat (48 + n / 10)).toNat : Int) = 48 + (n : Int) / 10 := by rw [UInt8.toNat_ofNat']; omega
      show World.cell? _ ⟨w.heap.size, 0, none⟩ = some (.int .u8 ((UInt8.ofNat (48 + n / 10)).toNat : Int))
      rw [e]
      exact boxC hb rfl
    · have e : ((UInt8.ofNat (48 + n % 10)).toNat : Int) = 48 + (n : Int) % 10 := by rw [UInt8.toNat_ofNat']; omega
      show World.cell? _ ⟨w.heap.size, 1, none⟩ = some (.int .u8 ((UInt8.ofNat (48 + n % 10)).toNat : Int))
      rw [e]
      exact boxC hb rfl
  go_enter Tryz.func62, Tryz.ntmps62
  go_wp2
  go_ret
  exact GivesB.mk rfl ((Below.refl _ _).alloc (Nat.le_refl _) _)

theorem cat_ok (a b : ByteArray) (h : a.size + b.size ≤ 1000) : ∀ W, (Op.stringOp .add a b).run Tryz.prog W = .ok (.string (a ++ b)) W := fun W => run_string_add_sum W _ _ (by omega)
theorem show_cats (ia ta tb ib : ByteArray) (h1 : ia.size ≤ 16) (h2 : ib.size ≤ 16) (h3 : ta.size ≤ 2) (h4 : tb.size ≤ 2) :
    (∀ W, (Op.stringOp .add ⟨#[]⟩ ia).run Tryz.prog W = .ok (.string (⟨#[]⟩ ++ ia)) W) ∧
    (∀ W, (Op.stringOp .add (⟨#[]⟩ ++ ia) ⟨#[58]⟩).run Tryz.prog W = .ok (.string ((⟨#[]⟩ ++ ia) ++ ⟨#[58]⟩)) W) ∧
    (∀ W, (Op.stringOp .add ((⟨#[]⟩ ++ ia) ++ ⟨#[58]⟩) ta).run Tryz.prog W = .ok (.string (((⟨#[]⟩ ++ ia) ++ ⟨#[58]⟩) ++ ta)) W) ∧
    (∀ W, (Op.stringOp .add (((⟨#[]⟩ ++ ia) ++ ⟨#[58]⟩) ++ ta) ⟨#[58]⟩).run Tryz.prog W = .ok (.string ((((⟨#[]⟩ ++ ia) ++ ⟨#[58]⟩) ++ ta) ++ ⟨#[58]⟩)) W) ∧
    (∀ W, (Op.stringOp .add ((((⟨#[]⟩ ++ ia) ++ ⟨#[58]⟩) ++ ta) ++ ⟨#[58]⟩) tb).run Tryz.prog W = .ok (.string (((((⟨#[]⟩ ++ ia) ++ ⟨#[58]⟩) ++ ta) ++ ⟨#[58]⟩) ++ tb)) W) ∧
    (∀ W, (Op.stringOp .add (((((⟨#[]⟩ ++ ia) ++ ⟨#[58]⟩) ++ ta) ++ ⟨#[58]⟩) ++ tb) ⟨#[43]⟩).run Tryz.prog W = .ok (.string ((((((⟨#[]⟩ ++ ia) ++ ⟨#[58]⟩) ++ ta) ++ ⟨#[58]⟩) ++ tb) ++ ⟨#[43]⟩)) W) ∧
    (∀ W, (Op.stringOp .add ((((((⟨#[]⟩ ++ ia) ++ ⟨#[58]⟩) ++ ta) ++ ⟨#[58]⟩) ++ tb) ++ ⟨#[43]⟩) ib).run Tryz.prog W = .ok (.string (((((((⟨#[]⟩ ++ ia) ++ ⟨#[58]⟩) ++ ta) ++ ⟨#[58]⟩) ++ tb) ++ ⟨#[43]⟩) ++ ib)) W) := by
  have s0 : (⟨#[]⟩ : ByteArray).size = 0 := rfl
  have s1 : (⟨#[58]⟩ : ByteArray).size = 1 := rfl
  have s2 : (⟨#[43]⟩ : ByteArray).size = 1 := rfl
  refine ⟨cat_ok _ _ ?_, cat_ok _ _ ?_, cat_ok _ _ ?_, cat_ok _ _ ?_, cat_ok _ _ ?_, cat_ok _ _ ?_, cat_ok _ _ ?_⟩ <;> (simp only [ByteArray.size_append, s0, s1, s2]; omega)
def GivesSP (p : ByteArray × Int) (w : World) (e : Ending) (w' : World) : Prop := e = .returned (.tuple #[.string p.1, .int .i64 p.2]) ∧ Below w.heap.size w w'
theorem GivesSP.mk {p : ByteArray × Int} {s : ByteArray} {f : Int} {w w' : World} (h : p = (s, f)) (hb : Below w.heap.size w w') : GivesSP p w (.returned (.tuple #[.string s, .int .i64 f])) w' := by
  rw [h]; exact ⟨rfl, hb⟩

set_option maxRecDepth 100000 in
set_option maxHeartbeats 1000000 in
theorem show_c (n rate : Int) (w : World) (h0 : 0 ≤ n) (hn : n ≤ 1000000000000000) (hr1 : 1 ≤ rate) (hr2 : rate ≤ 1000000) (hP : POK w) :
    Calls Tryz.prog 26 #[.int .i64 n, .int .i64 rate] w (GivesSP (showP n rate) w) := by
  generalize hres : showP n rate = res
  have HR := Lib.hid hres
  clear hres
  have HPOK := Lib.hid hP
  clear hP
  have hneg : ¬ n < 0 := by omega
  have HRB : Hid (rateB rate = true) := by show rateB rate = true; unfold rateB; simp [hr1, hr2]
  by_cases hbig : 10000000000000 < n
  · have HS : Hid (res = (⟨#[]⟩, 1)) := by show res = _; rw [← HR.out]; unfold showP; rw [if_pos hbig]
    have hb : decide (n ≤ 10000000000000) = false := by simp; omega
    go_enter Tryz.func26, Tryz.ntmps26
    go_wp2_with fail
    refine (isPos_c n _ h0).mono ?_
    rintro e w1 ⟨rfl, rfl⟩
    rw [hb]
    go_wp2
    go_ret2
    exact GivesSP.mk HS.out (Below.refl _ _)
  · have HS : Hid (res = (showB n rate, 0)) := by show res = _; rw [← HR.out]; unfold showP; rw [if_neg hbig]
    have hb : decide (n ≤ 10000000000000) = true := by simp; omega
    have q0 : 0 ≤ n / rate := Int.ediv_nonneg h0 (by omega)
    have q1 : n / rate ≤ n := Int.ediv_le_self _ h0
    have r0 := Int.emod_nonneg n (b := rate) (by omega)
    have r1 := Int.emod_lt_of_pos n (b := rate) (by omega)
    have HSB : Hid (showB n rate = ((((((⟨#[]⟩ ++ itoaB (n / rate / 3600)) ++ ⟨#[58]⟩) ++ twoD (n / rate / 60 % 60).toNat) ++ ⟨#[58]⟩) ++ twoD (n / rate % 60).toNat) ++ ⟨#[43]⟩) ++ itoaB (n % rate)) := rfl
    obtain ⟨n1, hn1⟩ : ∃ n1 : Nat, n / rate / 60 % 60 = n1 := ⟨(n / rate / 60 % 60).toNat, by omega⟩
    obtain ⟨n2, hn2⟩ : ∃ n2 : Nat, n / rate % 60 = n2 := ⟨(n / rate % 60).toNat, by omega⟩
    have hs1 := itoaB_size (n := n / rate / 3600) (by omega) (by omega)
    have hs2 := itoaB_size (n := n % rate) r0 (by omega)
    have hs3 : (twoD n1).size ≤ 2 := Nat.le_refl _
    have hs4 : (twoD n2).size ≤ 2 := Nat.le_refl _
    have hm1 : n1 < 100 := by omega
    have hm2 : n2 < 100 := by omega
    have HI1 : Hid (∀ d os, Calls Tryz.prog 25 #[.int .i64 (n / rate / 3600)] (Sort.grow (redrawn w d) os) (GivesB (.string (itoaB (n / rate / 3600))) (Sort.grow (redrawn w d) os))) := fun d os => itoa_c _ _ (by omega) (by omega) (HPOK.out.below (below_regrown w d os))
    have HI2 : Hid (∀ d os, Calls Tryz.prog 25 #[.int .i64 (n % rate)] (Sort.grow (redrawn w d) os) (GivesB (.string (itoaB (n % rate))) (Sort.grow (redrawn w d) os))) := fun d os => itoa_c _ _ (by omega) (by omega) (HPOK.out.below (below_regrown w d os))
    have HT1 : Hid (∀ d os, Calls Tryz.prog 62 #[.int .i64 (n / rate / 60 % 60)] (Sort.grow (redrawn w d) os) (GivesB (.string (twoD n1)) (Sort.grow (redrawn w d) os))) := fun d os => by rw [hn1]; exact two_c _ _ (by omega)
    have HT2 : Hid (∀ d os, Calls Tryz.prog 62 #[.int .i64 (n / rate % 60)] (Sort.grow (redrawn w d) os) (GivesB (.string (twoD n2)) (Sort.grow (redrawn w d) os))) := fun d os => by rw [hn2]; exact two_c _ _ (by omega)
    have HF : Hid (((((((⟨#[]⟩ ++ itoaB (n / rate / 3600)) ++ ⟨#[58]⟩) ++ twoD n1) ++ ⟨#[58]⟩) ++ twoD n2) ++ ⟨#[43]⟩) ++ itoaB (n % rate) = showB n rate) := by
      show _ = _
      rw [HSB.out, hn1, hn2, Int.toNat_natCast, Int.toNat_natCast]
    clear hn1 hn2 HSB
    generalize hia : itoaB (n / rate / 3600) = ia at *
    generalize hib : itoaB (n % rate) = ib at *
    generalize hta : twoD n1 = ta at *
    generalize htb : twoD n2 = tb at *
    clear hia hib hta htb
    have HCT := Lib.hid (show_cats ia ta tb ib hs1 hs2 hs3 hs4)
    go_enter Tryz.func26, Tryz.ntmps26
    go_wp2_with fail
    refine (isPos_c n _ h0).mono ?_
    rintro e w1 ⟨rfl, rfl⟩
    rw [hb]
    go_wp2_with fail
    refine (isRate_c rate _).mono ?_
    rintro e w1 ⟨rfl, rfl⟩
    rw [HRB.out]
    have hr0 : ¬ rate = 0 := by omega
    have hrb : (rate == 0) = false := by simpa using hr0
    have u1 : (n / rate).tdiv 3600 = n / rate / 3600 := Int.tdiv_eq_ediv_of_nonneg q0
    have u2 : (n / rate).tdiv 60 = n / rate / 60 := Int.tdiv_eq_ediv_of_nonneg q0
    have u3 : (n / rate / 60).tmod 60 = n / rate / 60 % 60 := Int.tmod_eq_emod_of_nonneg (by omega)
    have u4 : (n / rate).tmod 60 = n / rate % 60 := Int.tmod_eq_emod_of_nonneg q0
    have u5 : n.tmod rate = n % rate := Int.tmod_eq_emod_of_nonneg h0
    have v1 : IntKind.i64.wrap (n / rate / 3600) = n / rate / 3600 := IntWalk.i64_in _ (by omega)
    have v2 : IntKind.i64.wrap (n / rate / 60) = n / rate / 60 := IntWalk.i64_in _ (by omega)
    have v3 : IntKind.i64.wrap (n / rate / 60 % 60) = n / rate / 60 % 60 := IntWalk.i64_in _ (by omega)
    have v4 : IntKind.i64.wrap (n / rate % 60) = n / rate % 60 := IntWalk.i64_in _ (by omega)
    have v5 : IntKind.i64.wrap (n % rate) = n % rate := IntWalk.i64_in _ (by omega)
    obtain ⟨c1, c2, c3, c4, c5, c6, c7⟩ := HCT.out
    go_wp2
    refine wp_region_quiet_below (by kernel_rfl) (by kernel_rfl) ?_
    repeat (quiet_step (first | with_reducible exact Calls.regrown_of (HI1.out _ _) | with_reducible exact Calls.regrown_of (HI2.out _ _) | with_reducible exact Calls.regrown_of (HT1.out _ _) | with_reducible exact Calls.regrown_of (HT2.out _ _)))
    refine wpQuiet_nil ?_
    intro _ hw'
    obtain ⟨⟨dq, osq⟩, hw''⟩ := hw'
    subst hw''
    have HBB := Lib.hid (below_regrown w dq osq)
    generalize Sort.grow (redrawn w dq) osq = w2 at *
    go_wp2
    go_ret2
    rw [HF.out]
    exact GivesSP.mk HS.out HBB.out

set_option maxRecDepth 100000 in
set_option maxHeartbeats 1000000 in
theorem showR_c (n rate : Int) (w : World) (h0 : 0 ≤ n) (hn : n ≤ 1000000000000000) (hr1 : 1 ≤ rate) (hr2 : rate ≤ 1000000) (hP : POK w) :
    Calls Tryz.prog 33 #[.int .i64 n, .int .i64 rate] w (GivesSP (showP n rate) w) := by
  generalize hres : showP n rate = res
  have HR := Lib.hid hres
  clear hres
  have HPOK := Lib.hid hP
  clear hP
  have hneg : ¬ n < 0 := by omega
  have HRB : Hid (rateB rate = true) := by show rateB rate = true; unfold rateB; simp [hr1, hr2]
  by_cases hbig : 10000000000000 < n
  · have HS : Hid (res = (⟨#[]⟩, 1)) := by show res = _; rw [← HR.out]; unfold showP; rw [if_pos hbig]
    have hb : decide (n ≤ 10000000000000) = false := by simp; omega
    go_enter Tryz.func33, Tryz.ntmps33
    go_wp2_with fail
    refine (positionR_c n _ h0).mono ?_
    rintro e w1 ⟨rfl, rfl⟩
    rw [hb]
    go_wp2
    go_ret2
    exact GivesSP.mk HS.out (Below.refl _ _)
  · have HS : Hid (res = (showB n rate, 0)) := by show res = _; rw [← HR.out]; unfold showP; rw [if_neg hbig]
    have hb : decide (n ≤ 10000000000000) = true := by simp; omega
    have q0 : 0 ≤ n / rate := Int.ediv_nonneg h0 (by omega)
    have q1 : n / rate ≤ n := Int.ediv_le_self _ h0
    have r0 := Int.emod_nonneg n (b := rate) (by omega)
    have r1 := Int.emod_lt_of_pos n (b := rate) (by omega)
    have HSB : Hid (showB n rate = ((((((⟨#[]⟩ ++ itoaB (n / rate / 3600)) ++ ⟨#[58]⟩) ++ twoD (n / rate / 60 % 60).toNat) ++ ⟨#[58]⟩) ++ twoD (n / rate % 60).toNat) ++ ⟨#[43]⟩) ++ itoaB (n % rate)) := rfl
    obtain ⟨n1, hn1⟩ : ∃ n1 : Nat, n / rate / 60 % 60 = n1 := ⟨(n / rate / 60 % 60).toNat, by omega⟩
    obtain ⟨n2, hn2⟩ : ∃ n2 : Nat, n / rate % 60 = n2 := ⟨(n / rate % 60).toNat, by omega⟩
    have hs1 := itoaB_size (n := n / rate / 3600) (by omega) (by omega)
    have hs2 := itoaB_size (n := n % rate) r0 (by omega)
    have hs3 : (twoD n1).size ≤ 2 := Nat.le_refl _
    have hs4 : (twoD n2).size ≤ 2 := Nat.le_refl _
    have hm1 : n1 < 100 := by omega
    have hm2 : n2 < 100 := by omega
    have HI1 : Hid (∀ d os, Calls Tryz.prog 25 #[.int .i64 (n / rate / 3600)] (Sort.grow (redrawn w d) os) (GivesB (.string (itoaB (n / rate / 3600))) (Sort.grow (redrawn w d) os))) := fun d os => itoa_c _ _ (by omega) (by omega) (HPOK.out.below (below_regrown w d os))
    have HI2 : Hid (∀ d os, Calls Tryz.prog 25 #[.int .i64 (n % rate)] (Sort.grow (redrawn w d) os) (GivesB (.string (itoaB (n % rate))) (Sort.grow (redrawn w d) os))) := fun d os => itoa_c _ _ (by omega) (by omega) (HPOK.out.below (below_regrown w d os))
    have HT1 : Hid (∀ d os, Calls Tryz.prog 66 #[.int .i64 (n / rate / 60 % 60)] (Sort.grow (redrawn w d) os) (GivesB (.string (twoD n1)) (Sort.grow (redrawn w d) os))) := fun d os => by rw [hn1]; exact givesB (twoR_c _ _ (by omega))
    have HT2 : Hid (∀ d os, Calls Tryz.prog 66 #[.int .i64 (n / rate % 60)] (Sort.grow (redrawn w d) os) (GivesB (.string (twoD n2)) (Sort.grow (redrawn w d) os))) := fun d os => by rw [hn2]; exact givesB (twoR_c _ _ (by omega))
    have HF : Hid (((((((⟨#[]⟩ ++ itoaB (n / rate / 3600)) ++ ⟨#[58]⟩) ++ twoD n1) ++ ⟨#[58]⟩) ++ twoD n2) ++ ⟨#[43]⟩) ++ itoaB (n % rate) = showB n rate) := by
      show _ = _
      rw [HSB.out, hn1, hn2, Int.toNat_natCast, Int.toNat_natCast]
    clear hn1 hn2 HSB
    generalize hia : itoaB (n / rate / 3600) = ia at *
    generalize hib : itoaB (n % rate) = ib at *
    generalize hta : twoD n1 = ta at *
    generalize htb : twoD n2 = tb at *
    clear hia hib hta htb
    have HCT := Lib.hid (show_cats ia ta tb ib hs1 hs2 hs3 hs4)
    go_enter Tryz.func33, Tryz.ntmps33
    go_wp2_with fail
    refine (positionR_c n _ h0).mono ?_
    rintro e w1 ⟨rfl, rfl⟩
    rw [hb]
    go_wp2_with fail
    refine (isRateR_c rate _).mono ?_
    rintro e w1 ⟨rfl, rfl⟩
    rw [HRB.out]
    have hr0 : ¬ rate = 0 := by omega
    have hrb : (rate == 0) = false := by simpa using hr0
    have u1 : (n / rate).tdiv 3600 = n / rate / 3600 := Int.tdiv_eq_ediv_of_nonneg q0
    have u2 : (n / rate).tdiv 60 = n / rate / 60 := Int.tdiv_eq_ediv_of_nonneg q0
    have u3 : (n / rate / 60).tmod 60 = n / rate / 60 % 60 := Int.tmod_eq_emod_of_nonneg (by omega)
    have u4 : (n / rate).tmod 60 = n / rate % 60 := Int.tmod_eq_emod_of_nonneg q0
    have u5 : n.tmod rate = n % rate := Int.tmod_eq_emod_of_nonneg h0
    have v1 : IntKind.i64.wrap (n / rate / 3600) = n / rate / 3600 := IntWalk.i64_in _ (by omega)
    have v2 : IntKind.i64.wrap (n / rate / 60) = n / rate / 60 := IntWalk.i64_in _ (by omega)
    have v3 : IntKind.i64.wrap (n / rate / 60 % 60) = n / rate / 60 % 60 := IntWalk.i64_in _ (by omega)
    have v4 : IntKind.i64.wrap (n / rate % 60) = n / rate % 60 := IntWalk.i64_in _ (by omega)
    have v5 : IntKind.i64.wrap (n % rate) = n % rate := IntWalk.i64_in _ (by omega)
    obtain ⟨c1, c2, c3, c4, c5, c6, c7⟩ := HCT.out
    go_wp2
    refine wp_region_quiet_below (by kernel_rfl) (by kernel_rfl) ?_
    repeat (quiet_step (first | with_reducible exact Calls.regrown_of (HI1.out _ _) | with_reducible exact Calls.regrown_of (HI2.out _ _) | with_reducible exact Calls.regrown_of (HT1.out _ _) | with_reducible exact Calls.regrown_of (HT2.out _ _)))
    refine wpQuiet_nil ?_
    intro _ hw'
    obtain ⟨⟨dq, osq⟩, hw''⟩ := hw'
    subst hw''
    have HBB := Lib.hid (below_regrown w dq osq)
    generalize Sort.grow (redrawn w dq) osq = w2 at *
    go_wp2
    go_ret2
    rw [HF.out]
    exact GivesSP.mk HS.out HBB.out
end Go.Proofs.YtfninfgohiipjaaGreatDoor

namespace Go.Proofs.YtfninfgohiipjaaGreatDoor
open Go.RowKit Dw

theorem tail_len (sep : List UInt8) : ∀ (r : List (List UInt8)) (m : Nat), (∀ x ∈ r, x.length ≤ m) → (Lib.joinTail sep r).length ≤ r.length * (sep.length + m)
  | [], _, _ => by simp [Lib.joinTail]
  | x :: r, m, h => by
    have h1 := tail_len sep r m (fun y hy => h y (List.mem_cons_of_mem _ hy))
    have h2 := h x (List.mem_cons_self ..)
    have e : (Lib.joinTail sep (x :: r)).length = sep.length + x.length + (Lib.joinTail sep r).length := by
      unfold Lib.joinTail; simp; omega
    rw [e, List.length_cons, Nat.succ_mul]
    omega
theorem join_len (sep : List UInt8) (xs : List (List UInt8)) (m : Nat) (h : ∀ x ∈ xs, x.length ≤ m) : (Lib.join xs sep).length ≤ xs.length * (sep.length + m) := by
  cases xs with
  | nil => simp [Lib.join_nil]
  | cons x r =>
    rw [Lib.join_cons, List.length_append, List.length_cons, Nat.succ_mul]
    have h1 := tail_len sep r m (fun y hy => h y (List.mem_cons_of_mem _ hy))
    have h2 := h x (List.mem_cons_self ..)
    omega
def joinB (xs : List ByteArray) (sep : ByteArray) : ByteArray := ⟨(Lib.join (xs.map (·.data.toList)) sep.data.toList).toArray⟩
theorem joinB_size {xs : List ByteArray} {sep : ByteArray} {m : Nat} (h : ∀ x ∈ xs, x.size ≤ m) : (joinB xs sep).size ≤ xs.length * (sep.size + m) := by
  have h1 := join_len sep.data.toList (xs.map (·.data.toList)) m (fun x hx => by
    obtain ⟨y, hy, rfl⟩ := List.mem_map.1 hx
    have := h y hy
    simpa using this)
  show (Lib.join (xs.map (·.data.toList)) sep.data.toList).toArray.size ≤ _
  simpa using h1
theorem joinB_c (A : Option Addr) (c : Nat) (xs : List ByteArray) (sep : ByteArray) (w : World) (h : Strs w A xs) (hc : xs.length ≤ c) (hN : xs.length ≤ 140737488355328) (hlen : (joinB xs sep).size ≤ 140737488355328) :
    Calls Tryz.prog 63 #[.slice A xs.length c, .string sep] w (GivesB (.string (joinB xs sep)) w) :=
  join_c A c xs sep w h hc hN (by
    have : (Lib.join (xs.map (·.data.toList)) sep.data.toList).toArray.size ≤ 140737488355328 := hlen
    simpa using this)

/-- A call that answers a text and a fault, and only makes memory. -/
def GivesTx (f : Int) (w : World) (e : Ending) (w' : World) : Prop := ∃ s : ByteArray, e = .returned (.tuple #[.string s, .int .i64 f]) ∧ Below w.heap.size w w'
theorem GivesTx.mk {f f' : Int} {s : ByteArray} {w w' : World} (h : f' = f) (hb : Below w.heap.size w w') : GivesTx f w (.returned (.tuple #[.string s, .int .i64 f'])) w' := ⟨s, by rw [h], hb⟩
def BelH (w w' : World) : Prop := Hid (Below w.heap.size w w')
def GivesH (w1 : World) (v : Value) (e : Ending) (w' : World) : Prop := e = .returned v ∧ BelH w1 w'
theorem GivesB.toH {w1 w w' : World} {v : Value} {e : Ending} (h : BelH w1 w) (hg : GivesB v w e w') : GivesH w1 v e w' := ⟨hg.1, below_trans h.out hg.2⟩
theorem BelH.alloc {w1 w : World} (h : BelH w1 w) (o : Obj) : BelH w1 (w.alloc o) := h.out.alloc h.out.size o
theorem cat_big (a b : ByteArray) (h : a.size + b.size ≤ 1000000000) : ∀ W, (Op.stringOp .add a b).run Tryz.prog W = .ok (.string (a ++ b)) W := fun W => run_string_add_sum W _ _ (by omega)
/-- What a write into the builder leaves, of a box of a credit too. -/
def GivesWC (w1 : World) (B : Nat) (l : List UInt8) (n : Nat) (p : Nat) (x : Cr) (e : Ending) (w' : World) : Prop :=
  e = .returned (.tuple #[.int .i64 (n : Int), .nilIface]) ∧ Bld B B l w' ∧ Below B w1 w' ∧ BoxC w' p x
theorem BoxC.kept {w w' : World} {p b : Nat} {x : Cr} (h : BoxC w p x) (hk : Lib.OthersKept 5 (some b) w w') (hne : p ≠ b) : BoxC w' p x :=
  hk p _ h (fun e => hne (by injection e)) (fun _ _ e => by injection e with _ e; exact absurd e (by decide))
def TxRel (w : World) (B : Nat) (l : List Cr) (m : Nat) (i : Value) (wr : World) : Prop :=
  ∃ k : Nat, k + m = l.length ∧ i = .int .i64 k ∧ ∃ bs : List UInt8, bs.length ≤ k * 5000 ∧ Bld B B bs wr ∧ Below w.heap.size w wr ∧ B < wr.heap.size
theorem Bld.below {B b : Nat} {l : List UInt8} {w w' : World} (h : Bld B b l w) (hb : Below w.heap.size w w') : Bld B b l w' := by
  unfold Bld Lib.IsBuilderF Lib.BuilderAtF at *
  rcases h with ⟨h1, v, h2, h3, h4⟩ | ⟨h1, v, h2, h3, h4⟩
  · exact .inl ⟨h1, v, (hb.block _ (Array.getElem?_eq_some_iff.1 h2).1).trans h2, h3.kept (grownBy_of_below hb none) (by cases hv : v.ownBlock with
    | none => exact .inl rfl
    | some g => exact .inr (by simp)), h4⟩
  · exact .inr ⟨h1, v, (hb.block _ (Array.getElem?_eq_some_iff.1 h2).1).trans h2, h3.kept (grownBy_of_below hb none) (by cases hv : v.ownBlock with
    | none => exact .inl rfl
    | some g => exact .inr (by simp)), h4⟩

set_option maxRecDepth 100000 in
set_option maxHeartbeats 1000000 in
theorem Text_c (A : Option Addr) (c : Nat) (l : List Cr) (w : World) (hw : CrsOk w A l) (hG : GOK w) (hP : POK w) :
    Calls Tryz.prog 36 #[.slice A l.length c] w (GivesTx (crsF l) w) := by
  have HW := Lib.hid hw
  have HG := Lib.hid hG
  have HPK := Lib.hid hP
  clear hw hG hP
  go_enter Tryz.func36, Tryz.ntmps36
  go_wp2_with fail
  refine (checkCredits_c A c l _ HW.out HG.out).mono ?_
  rintro e w2 ⟨rfl, hb2⟩
  have HB2 := Lib.hid hb2
  clear hb2
  by_cases hcf : crsF l = 0
  case neg =>
    have hcb : (crsF l != 0) = true := by simpa using hcf
    clear hcf
    generalize crsF l = z at *
    go_wp2
    go_ret2
    exact GivesTx.mk rfl HB2.out
  obtain ⟨hn, hok⟩ := crsF_ok hcf
  have HZF := Lib.hid hcf
  have HOK := Lib.hid hok
  clear hok
  rw [hcf]
  clear hcf
  have HBL : Hid (Bld w2.heap.size w2.heap.size [] (w2.alloc (.cells #[.pointer none, .slice none 0 0] 64))) := Lib.IsBuilderF.of (Lib.fresh_isBuilder 64 5 w2)
  have HBA : Hid (Below w.heap.size w (w2.alloc (.cells #[.pointer none, .slice none 0 0] 64))) := HB2.out.alloc HB2.out.size _
  have hwB : w.heap.size ≤ w2.heap.size := HB2.out.size
  have hlB : w2.heap.size < (w2.alloc (.cells #[.pointer none, .slice none 0 0] 64)).heap.size := by simp
  clear HB2
  go_wp2
  generalize hw3 : (w2.alloc (.cells #[.pointer none, .slice none 0 0] 64)) = w3 at *
  clear hw3
  generalize hBB : w2.heap.size = B at *
  clear hBB
  go_loopg [15] l.length (TxRel w B l)
  case atStart => exact ⟨0, by omega, rfl, [], by simp, HBL.out, HBA.out, hlB⟩
  clear HBL HBA hlB
  case round =>
    obtain ⟨k, hk, rfl, bs, hbs, hbld, hbel, hBr⟩ := hrel
    have HK := Lib.hid hk
    have HBS := Lib.hid hbs
    have HBL := Lib.hid hbld
    have HBR := Lib.hid hbel
    have hk1 : k ≤ l.length := by omega
    clear hk hbs hbld hbel
    by_cases hlt : k < l.length
    · have hwb := HW.out.below HBR.out
      obtain ⟨b, o, rfl, hb, hcc⟩ := hwb.crs.at_ (by omega)
      obtain ⟨q0, q1, q2, q3, q4⟩ := hcc k hlt
      obtain ⟨f1, f2, f3, f4, f5, f6⟩ := crF_ok (HOK.out _ (List.getElem_mem hlt))
      have hs1 := (lineB_size f1).2
      have hs2 := (lineB_size f2).2
      have hs3 := (isNm_size f3).2
      have hil : (l[k]).ins.length ≤ 20 ∧ ∀ s ∈ (l[k]).ins, s.size ≤ 40 := by
        unfold insF at f4
        by_cases h0 : (l[k]).ins.length = 0
        · rw [if_pos h0] at f4; cases f4
        rw [if_neg h0] at f4
        by_cases h2 : 20 < (l[k]).ins.length
        · rw [if_pos h2] at f4; cases f4
        rw [if_neg h2] at f4
        refine ⟨by omega, fun s hs => ?_⟩
        obtain ⟨j, hj, rfl⟩ := List.getElem_of_mem hs
        have hz := firstF_all f4 j hj
        unfold btF at hz
        rw [getB hj] at hz
        cases hnm : isNm (l[k]).ins[j] with
        | true => exact (isNm_size hnm).2
        | false => rw [if_pos hnm] at hz; cases hz
      have HIL := Lib.hid hil
      have HSI := Lib.hid (hwb.strs _ (List.getElem_mem hlt))
      have HIC := Lib.hid (hwb.sized.2 _ (List.getElem_mem hlt)).2.2.2.2.1
      clear hcc hwb f1 f2 f3 f4 hil
      generalize l[k] = x at *
      have hb1 : Below wr.heap.size wr (wr.alloc (.cells #[.string x.role, .string x.person, .string x.name, .slice x.iA x.ins.length x.ic, .int .i64 x.n] 113)) := (Below.refl _ _).alloc (Nat.le_refl _) _
      have HBX : Hid (BoxC (wr.alloc (.cells #[.string x.role, .string x.person, .string x.name, .slice x.iA x.ins.length x.ic, .int .i64 x.n] 113)) wr.heap.size x) := heap_alloc_new _ _
      have HBL1 := Lib.hid (HBL.out.below hb1)
      have HBR1 := Lib.hid (below_trans HBR.out hb1)
      have HSI1 := Lib.hid (HSI.out.below hb1)
      have hBr1 : B ≤ (wr.alloc (.cells #[.string x.role, .string x.person, .string x.name, .slice x.iA x.ins.length x.ic, .int .i64 x.n] 113)).heap.size := Nat.le_trans (Nat.le_of_lt hBr) hb1.size
      clear hb1 HBL HBR HSI
      go_wp2_with fail
      generalize hw1 : (wr.alloc (.cells #[.string x.role, .string x.person, .string x.name, .slice x.iA x.ins.length x.ic, .int .i64 x.n] 113)) = w1 at *
      clear hw1
      generalize hpp : wr.heap.size = p at *
      clear hpp q0 q1 q2 q3 q4 hb
      obtain ⟨j1, hj1⟩ : ∃ j1, j1 = joinB x.ins ⟨#[44]⟩ := ⟨_, rfl⟩
      obtain ⟨it, hit⟩ : ∃ it, it = itoaB x.n := ⟨_, rfl⟩
      obtain ⟨j2, hj2⟩ : ∃ j2, j2 = joinB [x.role, x.name, x.person, j1, it] ⟨#[124]⟩ := ⟨_, rfl⟩
      have hz1 : j1.size ≤ 900 := by
        rw [hj1]
        have h1 := joinB_size (xs := x.ins) (sep := ⟨#[44]⟩) (m := 40) HIL.out.2
        have h2 : (⟨#[44]⟩ : ByteArray).size = 1 := rfl
        rw [h2] at h1
        have h3 := HIL.out.1
        have h4 : x.ins.length * (1 + 40) ≤ 20 * 41 := Nat.mul_le_mul h3 (Nat.le_refl _)
        omega
      have hz2 : it.size ≤ 16 := by rw [hit]; exact itoaB_size (by omega) (by omega)
      have hz3 : j2.size ≤ 4600 := by
        rw [hj2]
        have h1 := joinB_size (xs := [x.role, x.name, x.person, j1, it]) (sep := ⟨#[124]⟩) (m := 900) (by
          intro s hs
          simp only [List.mem_cons, List.not_mem_nil, or_false] at hs
          rcases hs with rfl | rfl | rfl | rfl | rfl <;> omega)
        have h2 : (⟨#[124]⟩ : ByteArray).size = 1 := rfl
        rw [h2] at h1
        simp only [List.length_cons, List.length_nil] at h1
        omega
      have HJ1 : Hid (∀ W, BelH w1 W → Calls Tryz.prog 63 #[.slice x.iA x.ins.length x.ic, .string ⟨#[44]⟩] W (GivesH w1 (.string j1))) := fun W hW =>
        (joinB_c x.iA x.ic x.ins ⟨#[44]⟩ W (HSI1.out.below hW.out) HIC.out (by have := HIL.out.1; omega) (by rw [← hj1]; omega)).mono fun _ _ h => by rw [hj1]; exact GivesB.toH hW h
      have HI : Hid (∀ W, BelH w1 W → Calls Tryz.prog 25 #[.int .i64 x.n] W (GivesH w1 (.string it))) := fun W hW =>
        (itoa_c x.n W (by omega) (by omega) (HPK.out.below (below_trans HBR1.out hW.out))).mono fun _ _ h => by rw [hit]; exact GivesB.toH hW h
      have HJ2 : Hid (∀ (W : World) (g : Nat), W.heap[g]? = some (.cells #[.string x.role, .string x.name, .string x.person, .string j1, .string it] 9 (0, 0)) → BelH w1 W → Calls Tryz.prog 63 #[.slice (some ⟨g, 0, none⟩) 5 5, .string ⟨#[124]⟩] W (GivesH w1 (.string j2))) := fun W g hg hW =>
        (joinB_c (some ⟨g, 0, none⟩) 5 [x.role, x.name, x.person, j1, it] ⟨#[124]⟩ W (fun _ => ⟨g, 0, rfl, fun i hi => by
          have h5 : i = 0 ∨ i = 1 ∨ i = 2 ∨ i = 3 ∨ i = 4 := by simp at hi; omega
          rcases h5 with rfl | rfl | rfl | rfl | rfl <;> exact boxC hg rfl⟩) (by simp) (by simp) (by rw [← hj2]; omega)).mono fun _ _ h => by rw [hj2]; exact GivesB.toH hW h
      have HBC : Hid (∀ W, BelH w1 W → W.cell? ⟨p, 0, none⟩ = some (.string x.role) ∧ W.cell? ⟨p, 1, none⟩ = some (.string x.person) ∧ W.cell? ⟨p, 2, none⟩ = some (.string x.name) ∧ W.cell? ⟨p, 3, none⟩ = some (.slice x.iA x.ins.length x.ic) ∧ W.cell? ⟨p, 4, none⟩ = some (.int .i64 x.n)) := fun W hW => (HBX.out.below hW.out).cells
      have H1 : BelH w1 w1.drew := below_drewN (Below.refl _ _) 1
      obtain ⟨z0, z1, z2, z3, z4⟩ := HBX.out.cells
      have hzl := HBX.out.lt
      have hcat := cat_big j2 ⟨#[10]⟩ (by have : (⟨#[10]⟩ : ByteArray).size = 1 := rfl; omega)
      have hls : (j2 ++ ⟨#[10]⟩ : ByteArray).size ≤ 4601 := by
        have : (⟨#[10]⟩ : ByteArray).size = 1 := rfl
        rw [ByteArray.size_append]; omega
      generalize hln : (j2 ++ ⟨#[10]⟩ : ByteArray) = ln at *
      clear hln
      have HWR : Hid (∀ W, BelH w1 W → Calls Tryz.prog 24 #[.pointer (some ⟨B, 0, none⟩), .string ln] W (GivesWC w1 B (bs ++ ln.data.toList) ln.size p x)) := fun W hW =>
        (write_c B B bs ln W (HBL1.out.below hW.out) (by have := HBS.out; omega) (Nat.le_trans hBr1 hW.out.size)).mono fun _ w' ⟨he, h1, h2, h3⟩ =>
          ⟨he, h1, ((hW.out.mono hBr1).trans h2), (HBX.out.below hW.out).kept h3 (by omega)⟩
      have HLZ := Lib.hid hls
      clear hls
      clear hj1 hit hj2 hs1 hs2 hs3 f5 f6
      go_region_held3 (fun w' => (w'.cell? ⟨p, 0, none⟩ = some (.string x.role) ∧ w'.cell? ⟨p, 1, none⟩ = some (.string x.person)) ∧ (w'.cell? ⟨p, 2, none⟩ = some (.string x.name) ∧ w'.cell? ⟨p, 3, none⟩ = some (.slice x.iA x.ins.length x.ic)) ∧ w'.cell? ⟨p, 4, none⟩ = some (.int .i64 x.n)) (go_keep)
        (first
          | ((go_at_call 63; (with_reducible refine (HJ1.out _ (by assumption)).mono ?_); rintro e w3 ⟨rfl, H3⟩; obtain ⟨z0, z1, z2, z3, z4⟩ := HBC.out _ H3; have hzl3 := Nat.lt_of_lt_of_le hzl H3.out.size))
          | ((go_at_call 63; (with_reducible refine (HJ2.out _ _ (heap_alloc_new _ _) (BelH.alloc (by assumption) _)).mono ?_); rintro e w5 ⟨rfl, H5⟩; obtain ⟨z0, z1, z2, z3, z4⟩ := HBC.out _ H5; have hzl5 := Nat.lt_of_lt_of_le hzl H5.out.size))
          | ((go_at_call 24; (with_reducible refine (HWR.out _ (by assumption)).mono ?_); rintro e w6 ⟨rfl, hbl6, hb6, hx6⟩; have HB6 := Lib.hid hb6; have HBL6 := Lib.hid hbl6; obtain ⟨z0, z1, z2, z3, z4⟩ := hx6.cells; have hzl6 := hx6.lt; clear hb6 hbl6))
          | ((go_at_call 25; (with_reducible refine (HI.out _ (by assumption)).mono ?_); rintro e w4 ⟨rfl, H4⟩; obtain ⟨z0, z1, z2, z3, z4⟩ := HBC.out _ H4; have hzl4 := Nat.lt_of_lt_of_le hzl H4.out.size)))
      all_goals
        go_wp2
        go_roundg (gk - 1)
        case measure => have := HK.out; omega
        case rel =>
          refine ⟨k + 1, by have := HK.out; omega, by go_num, _, ?_, HBL6.out, HBR1.out.trans (HB6.out.mono hwB), Nat.lt_of_lt_of_le (Nat.lt_of_lt_of_le hBr (Nat.le_of_lt hzl)) HB6.out.size⟩
          have h1 := HBS.out
          have h2 : ln.data.toList.length ≤ 4601 := by simpa using HLZ.out
          rw [List.length_append, Nat.succ_mul]
          omega
    · have HBE := Lib.hid (bstr_c B B bs wr HBL.out (Nat.le_of_lt hBr))
      go_wp2_with fail
      refine HBE.out.mono ?_
      rintro e w4 ⟨rfl, hb4⟩
      have HB4 := Lib.hid (HBR.out.trans (hb4.mono hwB))
      clear hb4
      go_wp2
      go_ret2
      exact GivesTx.mk HZF.out.symm HB4.out
end Go.Proofs.YtfninfgohiipjaaGreatDoor
