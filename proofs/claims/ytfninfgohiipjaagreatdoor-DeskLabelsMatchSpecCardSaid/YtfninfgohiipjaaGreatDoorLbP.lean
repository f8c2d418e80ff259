/- Plain facts about catalogues: no program in sight. -/
import Derived.Test.YtfninfgohiipjaaGreatDoorPure
namespace Dw

/-- A thing of a catalogue; pA and pc say where its parts lie. -/
structure Th where
  id : Int
  kind : Int
  title : ByteArray
  code : ByteArray
  since : Int
  parent : Int
  parts : List Int
  pA : Option Go.Addr
  pc : Nat
instance : Inhabited Th := ⟨⟨0, 0, emp, emp, 0, 0, [], none, 0⟩⟩
structure Mv where
  frm : Int
  to : Int
instance : Inhabited Mv := ⟨⟨0, 0⟩⟩

/-- Signs of codes. -/
def digB (c : UInt8) : Bool := decide (48 ≤ c.toNat) && decide (c.toNat ≤ 57)
def sgnB (c : UInt8) : Bool := digB c || (decide (65 ≤ c.toNat) && decide (c.toNat ≤ 90))
def sval (c : UInt8) : Int := if c.toNat ≤ 57 then (c.toNat : Int) - 48 else (c.toNat : Int) - 55
def bodyB (kind : Int) (l : List UInt8) : Bool :=
  if kind = 1 then decide (l.length = 10) && decide (l.headD 0 = 84) && l.tail.all digB
  else if kind = 2 then decide (l.length = 10) && l.all sgnB
  else decide (l.length = 12) && l.all digB
/-- The sum of a row of digits, each times what its place says. -/
def sumW (wt : Nat → Int) : Nat → List UInt8 → Int
  | _, [] => 0
  | i, c :: l => wt i * ((c.toNat : Int) - 48) + sumW wt (i + 1) l
theorem sumW_snoc (wt : Nat → Int) : ∀ (l : List UInt8) (i : Nat) (c : UInt8), sumW wt i (l ++ [c]) = sumW wt i l + wt (i + l.length) * ((c.toNat : Int) - 48)
  | [], i, c => by simp [sumW]
  | a :: l, i, c => by
    rw [List.cons_append, sumW, sumW, sumW_snoc wt l (i + 1) c, List.length_cons, show i + (l.length + 1) = i + 1 + l.length by omega]
    omega
def stepP (p : Int) (c : UInt8) : Int := 2 * (if (p + sval c) % 36 = 0 then 36 else (p + sval c) % 36) % 37
def recP (l : List UInt8) : Int := l.foldl stepP 36
def wtW (i : Nat) : Int := i
def wtE (i : Nat) : Int := 1 + (i : Int) % 2 * 2
def fitB (kind : Int) (l : List UInt8) (c : UInt8) : Bool :=
  if kind = 1 then decide ((1 + sval c + sumW wtW 1 l.tail) % 10 = 0)
  else if kind = 2 then decide ((recP l + sval c) % 36 = 1)
  else decide ((sval c + sumW wtE 0 l) % 10 = 0)
def chkB (kind : Int) (c : UInt8) : Bool := if kind = 2 then sgnB c else digB c
def codeF (kind : Int) (l : List UInt8) : Int :=
  if kind < 1 ∨ 4 < kind then 4
  else if l = [] ∨ bodyB kind l.dropLast = false ∨ chkB kind (l.getLastD 0) = false then 3
  else if fitB kind l.dropLast (l.getLastD 0) = true then 0 else 16

/-- A title: by its bytes, and by whether two blanks follow each other in it (two is that). -/
def titleB (two : Bool) (s : ByteArray) : Bool :=
  decide (1 ≤ s.size) && decide (s.size ≤ 100) && decide ((s.data.toList.headD 0).toNat ≠ 32) && decide ((s.data.toList.getLastD 0).toNat ≠ 32) && !two && s.data.toList.all fun c => decide (32 ≤ c.toNat) && decide (c.toNat ≤ 126)

def thF (two : ByteArray → Bool) (t : Th) : Int :=
  if t.kind < 1 ∨ 4 < t.kind then 4
  else if titleB (two t.title) t.title = false then 3
  else if t.code ≠ emp ∧ codeF t.kind t.code.data.toList ≠ 0 then codeF t.kind t.code.data.toList
  else if t.since < 0 ∨ 200000 < t.since then 1
  else if (t.kind = 3 ∧ t.parent ≠ 0) ∨ (t.kind = 4 ∧ t.parent = 0) ∨ (t.kind ≤ 2 ∧ 0 < t.parts.length) then 3
  else if 50 < t.parts.length then 2
  else 0

/-- The thing with an id. -/
def thAt (c : List Th) (id : Int) : Option Th := c.find? fun t => decide (t.id = id)
def parOf (c : List Th) (id : Int) : Int := match thAt c id with
  | some t => t.parent
  | none => 0
def parN (c : List Th) : Nat → Int → Int
  | 0, id => id
  | n + 1, id => parN c n (parOf c id)
def loopT (c : List Th) (t : Th) : Bool := (List.range c.length).any fun j => decide (parN c j t.parent = t.id)
def partF (c : List Th) : List Int → Int
  | [] => 0
  | id :: l => match thAt c id with
    | none => 9
    | some x => if x.kind ≠ 2 then 6 else partF c l
def upF (c : List Th) (t : Th) : Int :=
  if t.parent = 0 then 0 else match thAt c t.parent with
    | none => 9
    | some p => if p.kind ≠ (if t.kind = 4 then 3 else 1) then 6 else 0
def lnkF (c : List Th) (t : Th) : Int :=
  if upF c t ≠ 0 then upF c t else if partF c t.parts ≠ 0 then partF c t.parts else if loopT c t = true then 14 else 0
def twT (c : List Th) (i : Nat) : Bool := (c.take i).any fun x => decide (x.kind = (c.getD i default).kind) && decide ((c.getD i default).code ≠ emp) && decide (x.code = (c.getD i default).code)

def mvAt (m : List Mv) (id : Int) : Option Int := (m.find? fun x => decide (x.frm = id)).map (·.to)
def findN (c : List Th) (m : List Mv) : Nat → Int → Option Int
  | 0, _ => none
  | n + 1, id => if (thAt c id).isSome then some id else match mvAt m id with
    | some t => findN c m n t
    | none => none
def mvF1 (c : List Th) (m : List Mv) (i : Nat) : Int :=
  if (m.getD i default).frm < 1 ∨ 1000000 < (m.getD i default).frm then 1
  else if 0 < i ∧ (m.getD i default).frm ≤ (m.getD (i - 1) default).frm then 8
  else if (thAt c (m.getD i default).frm).isSome then 7
  else if (thAt c (m.getD i default).to).isNone ∧ (mvAt m (m.getD i default).to).isNone then 9 else 0
def mvF2 (c : List Th) (m : List Mv) (i : Nat) : Int := if (findN c m (m.length + 1) (m.getD i default).frm).isNone then 14 else 0
def tF1 (two : ByteArray → Bool) (c : List Th) (i : Nat) : Int :=
  if (c.getD i default).id < 1 ∨ 1000000 < (c.getD i default).id then 1
  else if 0 < i ∧ (c.getD i default).id ≤ (c.getD (i - 1) default).id then 8
  else thF two (c.getD i default)
def tF2 (c : List Th) (i : Nat) : Int := if lnkF c (c.getD i default) ≠ 0 then lnkF c (c.getD i default) else if twT c i = true then 7 else 0

/-- The first fault of a row. -/
def firstF (f : Nat → Int) (n : Nat) : Int := ((List.range n).find? fun i => decide (f i ≠ 0)).elim 0 f
theorem firstF_at {f : Nat → Int} {n k : Nat} (hk : k < n) (hp : ∀ j, j < k → f j = 0) (hx : f k ≠ 0) : firstF f n = f k := by
  unfold firstF
  have : (List.range n).find? (fun i => decide (f i ≠ 0)) = some k := by
    rw [List.find?_range_eq_some]
    refine ⟨by simpa using hx, by simpa using hk, fun j hj => by simpa using hp j hj⟩
  rw [this]; rfl
theorem firstF_zero {f : Nat → Int} {n : Nat} (hp : ∀ j, j < n → f j = 0) : firstF f n = 0 := by
  unfold firstF
  have : (List.range n).find? (fun i => decide (f i ≠ 0)) = none := by
    rw [List.find?_eq_none]
    intro j hj
    simpa using hp j (List.mem_range.1 hj)
  rw [this]; rfl
theorem firstF_all {f : Nat → Int} {n : Nat} (h : firstF f n = 0) : ∀ j, j < n → f j = 0 := by
  intro j hj
  unfold firstF at h
  cases hf : (List.range n).find? (fun i => decide (f i ≠ 0)) with
  | none =>
    rw [List.find?_eq_none] at hf
    simpa using hf j (List.mem_range.2 hj)
  | some k =>
    rw [hf] at h
    have := List.find?_some hf
    have h' : f k = 0 := h
    simp [h'] at this

def chkC (two : ByteArray → Bool) (c : List Th) (m : List Mv) : Int :=
  if 300 < c.length ∨ 300 < m.length then 2
  else if firstF (tF1 two c) c.length ≠ 0 then firstF (tF1 two c) c.length
  else if firstF (tF2 c) c.length ≠ 0 then firstF (tF2 c) c.length
  else if firstF (mvF1 c m) m.length ≠ 0 then firstF (mvF1 c m) m.length
  else firstF (mvF2 c m) m.length
end Dw
