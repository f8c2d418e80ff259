/- Package shelf: codes as keys of a map. -/
import Derived.Test.YtfninfgohiipjaaGreatDoorLbC
namespace Go.Proofs.YtfninfgohiipjaaGreatDoor
open Go.RowKit Dw

abbrev mkK (p : Int × ByteArray) : Value := .agg #[.int .i64 p.1, .string p.2]
theorem eqK (a b : Int × ByteArray) (w : World) : (Op.equal 121 (mkK a) (mkK b)).run Tryz.prog w = .ok (decide (a = b)) w := by
  have u9 := Tryz.underlying9
  have a9 := Tryz.isAgg9
  have z9 := Tryz.sizeOf9
  have u3 := Tryz.underlying3
  have a3 := Tryz.isAgg3
  have z3 := Tryz.sizeOf3
  have hS : Tryz.prog.underlying 121 = some (.struct (Tryz.prog.fieldsOf 121)) := by kernel_rfl
  have hp : Tryz.prog.stoodInHeld 121 = false := by kernel_rfl
  have e : ((a.1 == b.1) && (a.2.toList == b.2.toList)) = decide (a = b) := by
    rw [str_dec]
    obtain ⟨x, y⟩ := a
    obtain ⟨x', y'⟩ := b
    by_cases h1 : x = x' <;> by_cases h2 : y = y' <;> simp [h1, h2]
  rw [← e]
  unfold Op.equal
  rw [show Op.maxDepth = 9999 + 1 from rfl, run_equalIn_struct w 9999 121 _ _ hS hp]
  simp only [Program.fieldsOf, Tryz.underlying121]
  go_simp
  cases h1 : a.1 == b.1 <;> cases h2 : a.2.toList == b.2.toList <;> simp_all
theorem chkK (b : Bool) (a : Int × ByteArray) (w : World) : (Instr.checkKey b 10000 121 (mkK a)).run Tryz.prog w = .ok () w := by
  kernel_rfl
theorem bitsK (a : Int × ByteArray) : Instr.sameBits 10000 (mkK a) (mkK a) = true := by
  simp [Instr.sameBits, beq_toListBytes]
theorem kCode : KeyF Tryz.prog 121 mkK := keyF_ask Tryz.underlying121 (fun _ _ => rfl) eqK bitsK chkK
theorem tCodes : Tryz.prog.underlying 119 = some (.map 121 4) := Tryz.underlying119
theorem zBool (w : World) : (zeroValue 4).run Tryz.prog w = .ok (.bool false) w := by kernel_rfl

def hasK (T : List Th) (k : Nat) (p : Int × ByteArray) : Bool := (T.take k).any fun x => decide (x.kind = p.1) && decide (x.code = p.2)
def seenK (T : List Th) (k : Nat) (p : Int × ByteArray) : Option Value := if hasK T k p then some (.bool true) else none
theorem seenK_get (T : List Th) (k : Nat) (p : Int × ByteArray) : (seenK T k p).getD (.bool false) = .bool (hasK T k p) := by
  unfold seenK; cases hasK T k p <;> rfl
theorem seenK_snoc {T : List Th} {k : Nat} (hk : k < T.length) : (fun p => if p = ((T[k]).kind, (T[k]).code) then some (.bool true) else seenK T k p) = seenK T (k + 1) := by
  funext p
  have e : hasK T (k + 1) p = (hasK T k p || (decide ((T[k]).kind = p.1) && decide ((T[k]).code = p.2))) := by
    unfold hasK
    rw [List.take_succ_eq_append_getElem hk, List.any_append]; simp
  unfold seenK
  rw [e]
  obtain ⟨x, y⟩ := p
  by_cases h : (x, y) = ((T[k]).kind, (T[k]).code)
  · rw [if_pos h]
    injection h with h1 h2
    subst h1; subst h2
    simp
  · rw [if_neg h]
    have : (decide ((T[k]).kind = x) && decide ((T[k]).code = y)) = false := by
      by_cases h1 : (T[k]).kind = x
      · by_cases h2 : (T[k]).code = y
        · exact absurd (by rw [h1, h2]) h
        · simp [h2]
      · simp [h1]
    rw [this, Bool.or_false]
theorem twT_yes {T : List Th} {k : Nat} (hk : k < T.length) (hc : (T[k]).code ≠ emp) : twT T k = hasK T k ((T[k]).kind, (T[k]).code) := by
  unfold twT hasK
  rw [getT hk]
  congr 1
  funext x
  simp [hc]
theorem twT_no {T : List Th} {k : Nat} (hk : k < T.length) (hc : (T[k]).code = emp) : twT T k = false := by
  unfold twT
  rw [getT hk, List.any_eq_false]
  intro x _
  simp [hc]

def CkR1 (w : World) (T : List Th) (v1 v2 : Value) (m : Nat) (i : Value) (wr : World) : Prop :=
  ∃ k : Nat, k + m = T.length ∧ i = .int .i64 k ∧ (∀ j, j < k → tF1 twoB T j = 0) ∧ wr.heap[w.heap.size]? = some (.cells #[v1, v2] 25 (0, 0)) ∧ Below w.heap.size w wr
def CkR2 (w : World) (T : List Th) (v1 v2 : Value) (r r3 : Nat) (m : Nat) (i : Value) (wr : World) : Prop :=
  ∃ k : Nat, k + m = T.length ∧ i = .int .i64 k ∧ (∀ j, j < k → tF2 T j = 0) ∧ MapIs mkK wr r3 (seenK T k) ∧ StC w wr r T v1 v2
end Go.Proofs.YtfninfgohiipjaaGreatDoor
