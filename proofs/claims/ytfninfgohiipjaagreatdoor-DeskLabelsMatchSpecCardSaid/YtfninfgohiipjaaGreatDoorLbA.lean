/- What calls give: words for contracts. -/
import Derived.Test.YtfninfgohiipjaaGreatDoorProg
import Derived.Test.YtfninfgohiipjaaGreatDoorHeap2
import Derived.Test.YtfninfgohiipjaaGreatDoorMaps2
import Derived.Test.YtfninfgohiipjaaGreatDoorLbQ
namespace Go.Proofs.YtfninfgohiipjaaGreatDoor
open Go.RowKit Dw

abbrev Strs := Rd1 Value.string
abbrev Ints := Rd1 (fun n : Int => Value.int .i64 n)
abbrev Mvs := Rd2 (fun x : Mv => Value.int .i64 x.frm) (fun x : Mv => Value.int .i64 x.to)

/-- A call that answers v and leaves the world as it is. -/
def Gives (v : Value) (w : World) (e : Ending) (w' : World) : Prop := e = .returned v ∧ w = w'
theorem Gives.mk {v v' : Value} {w w' : World} (h : v = v') (hw : w = w') : Gives v' w (.returned v) w' := ⟨by rw [h], hw⟩
/-- A call that answers v and only draws. -/
def GivesQ (v : Value) (w : World) (e : Ending) (w' : World) : Prop := e = .returned v ∧ ∃ n, w' = w.drewN n
theorem GivesQ.mk {v v' : Value} {w w' : World} (h : v = v') (hw : ∃ n, w' = w.drewN n) : GivesQ v' w (.returned v) w' := ⟨by rw [h], hw⟩
/-- A call that answers v and only makes memory. -/
def GivesB (v : Value) (w : World) (e : Ending) (w' : World) : Prop := e = .returned v ∧ Below w.heap.size w w'
theorem GivesB.mk {v v' : Value} {w w' : World} (h : v = v') (hw : Below w.heap.size w w') : GivesB v' w (.returned v) w' := ⟨by rw [h], hw⟩
theorem GivesQ.toB {v : Value} {w w' : World} {e : Ending} (h : GivesQ v w e w') : GivesB v w e w' := by
  obtain ⟨rfl, n, rfl⟩ := h
  exact ⟨rfl, below_drewN (Below.refl _ _) n⟩
theorem vint {a b : Int} (h : a = b) : Value.int .i64 a = .int .i64 b := by rw [h]
theorem vbool {a b : Bool} (h : a = b) : Value.bool a = .bool b := by rw [h]

abbrev nilSl : Value := .slice none 0 0
/-- A thing as a value. -/
def thC (t : Th) : List Value := [.int .i64 t.id, .int .i64 t.kind, .string t.title, .string t.code, .int .i64 t.since, .int .i64 t.parent, .slice t.pA t.parts.length t.pc]
abbrev thV (t : Th) : Value := .agg #[.int .i64 t.id, .int .i64 t.kind, .string t.title, .string t.code, .int .i64 t.since, .int .i64 t.parent, .slice t.pA t.parts.length t.pc]

/-- A slice of things reads as a list, with the parts of each. -/
def Ths (w : World) (A : Option Addr) (l : List Th) : Prop :=
  0 < l.length → ∃ b o : Nat, A = some ⟨b, o, none⟩ ∧ ∀ i (h : i < l.length), w.cell? ⟨b, o + i * 7, none⟩ = some (.int .i64 (l[i]).id) ∧ w.cell? ⟨b, o + i * 7 + 1, none⟩ = some (.int .i64 (l[i]).kind) ∧
    w.cell? ⟨b, o + i * 7 + 2, none⟩ = some (.string (l[i]).title) ∧ w.cell? ⟨b, o + i * 7 + 3, none⟩ = some (.string (l[i]).code) ∧ w.cell? ⟨b, o + i * 7 + 4, none⟩ = some (.int .i64 (l[i]).since) ∧
    w.cell? ⟨b, o + i * 7 + 5, none⟩ = some (.int .i64 (l[i]).parent) ∧ w.cell? ⟨b, o + i * 7 + 6, none⟩ = some (.slice (l[i]).pA (l[i]).parts.length (l[i]).pc)
def PartsOk (w : World) (l : List Th) : Prop := ∀ t ∈ l, Ints w t.pA t.parts

section
variable {w w' : World} {A : Option Addr} {l : List Th}
theorem Ths.at_ (h : Ths w A l) (hl : 0 < l.length) : ∃ b o : Nat, A = some ⟨b, o, none⟩ ∧ b < w.heap.size ∧ ∀ i (h : i < l.length), w.cell? ⟨b, o + i * 7, none⟩ = some (.int .i64 (l[i]).id) ∧ w.cell? ⟨b, o + i * 7 + 1, none⟩ = some (.int .i64 (l[i]).kind) ∧
    w.cell? ⟨b, o + i * 7 + 2, none⟩ = some (.string (l[i]).title) ∧ w.cell? ⟨b, o + i * 7 + 3, none⟩ = some (.string (l[i]).code) ∧ w.cell? ⟨b, o + i * 7 + 4, none⟩ = some (.int .i64 (l[i]).since) ∧
    w.cell? ⟨b, o + i * 7 + 5, none⟩ = some (.int .i64 (l[i]).parent) ∧ w.cell? ⟨b, o + i * 7 + 6, none⟩ = some (.slice (l[i]).pA (l[i]).parts.length (l[i]).pc) := by
  obtain ⟨b, o, rfl, hc⟩ := h hl
  exact ⟨b, o, rfl, World.block_lt_of_cell? w _ (hc 0 hl).1, hc⟩
theorem Ths.keep (h : Ths w A l) (hk : ∀ b o, b < w.heap.size → w'.cell? ⟨b, o, none⟩ = w.cell? ⟨b, o, none⟩) : Ths w' A l := fun hl => by
  obtain ⟨b, o, rfl, hb, hc⟩ := h.at_ hl
  refine ⟨b, o, rfl, fun i hi => ?_⟩
  rw [hk _ _ hb, hk _ _ hb, hk _ _ hb, hk _ _ hb, hk _ _ hb, hk _ _ hb, hk _ _ hb]
  exact hc i hi
theorem Ths.below (h : Ths w A l) (hb : Below w.heap.size w w') : Ths w' A l := h.keep fun _ _ hlt => hb.cell hlt
theorem PartsOk.below (h : PartsOk w l) (hb : Below w.heap.size w w') : PartsOk w' l := fun t ht => (h t ht).below hb
end

/-- A catalogue as a value, and what it reads as. -/
abbrev catV (A1 : Option Addr) (c1 : Nat) (T : List Th) (A2 : Option Addr) (c2 : Nat) (M : List Mv) : Value := .agg #[.slice A1 T.length c1, .slice A2 M.length c2]
structure CatOk (w : World) (A1 : Option Addr) (T : List Th) (A2 : Option Addr) (M : List Mv) : Prop where
  ths : Ths w A1 T
  parts : PartsOk w T
  mvs : Mvs w A2 M
  sized : ∀ t ∈ T, t.title.size ≤ 9223372036854775807 ∧ t.code.size ≤ 9223372036854775807 ∧ t.parts.length ≤ 9223372036854775807
theorem CatOk.below {w w' : World} {A1 : Option Addr} {T : List Th} {A2 : Option Addr} {M : List Mv} (h : CatOk w A1 T A2 M) (hb : Below w.heap.size w w') : CatOk w' A1 T A2 M := ⟨h.ths.below hb, h.parts.below hb, h.mvs.below hb, h.sized⟩
end Go.Proofs.YtfninfgohiipjaaGreatDoor
