/- The reference's deedText (printed by gen_dt.py). -/
import Derived.Test.YtlcfgejaeecclaaGreatDoorZr03
import Derived.Test.YtlcfgejaeecclaaGreatDoorZq26
set_option maxRecDepth 100000
set_option maxHeartbeats 8000000
namespace Go.Proofs.YtlcfgejaeecclaaGreatDoor
open Go.RowKit Dw
def sB (l : List UInt8) : ByteArray := ⟨l.toArray⟩
theorem sB_size (l : List UInt8) : (sB l).size = l.length := size_of_toArray l
theorem sB_add (l : List UInt8) (t : ByteArray) : sB l ++ t = sB (l ++ t.data.toList) := by
 apply ByteArray.ext
 apply Array.toList_inj.1
 rw [data_app]
 simp [sB]
theorem lit_data (t : ByteArray) : sB t.data.toList = t := by simp [sB]
theorem rl1 {pre s : ByteArray} {w : ByteArray} (hp : pre.data.toList = 32 :: 32 :: (w.data.toList ++ [32])) : ((pre ++ s) ++ ⟨#[10]⟩).data.toList = lnL [w, s] := by
 rw [data_app, data_app, hp]
 simp [lnL, Lib.join]
theorem rl2 {pre s t : ByteArray} {w : ByteArray} (hp : pre.data.toList = 32 :: 32 :: (w.data.toList ++ [32])) : ((((pre ++ s) ++ ⟨#[32]⟩) ++ t) ++ ⟨#[10]⟩).data.toList = lnL [w, s, t] := by
 rw [data_app, data_app, data_app, data_app, hp]
 simp [lnL, Lib.join]
theorem rl0 {pre : ByteArray} {w : ByteArray} (hp : pre.data.toList = 32 :: 32 :: (w.data.toList ++ [10])) : pre.data.toList = lnL [w] := by
 rw [hp]
 simp [lnL, Lib.join]
theorem rcat1 (L : List UInt8) (pre w s : ByteArray) (hp : pre.data.toList = 32 :: 32 :: (w.data.toList ++ [32])) (hw : w.size ≤ 4100) (hs : s.size ≤ 4100) (hL : L.length ≤ 900000000) :
  (∀ W, (Op.stringOp .add pre s).run Tryz.prog W = .ok (.string (pre ++ s)) W) ∧ (∀ W, (Op.stringOp .add (pre ++ s) ⟨#[10]⟩).run Tryz.prog W = .ok (.string ((pre ++ s) ++ ⟨#[10]⟩)) W) ∧
  (∀ W, (Op.stringOp .add (sB L) ((pre ++ s) ++ ⟨#[10]⟩)).run Tryz.prog W = .ok (.string (sB (L ++ lnL [w, s]))) W) := by
 have e1 : (⟨#[10]⟩ : ByteArray).size = 1 := rfl
 have e2 : pre.size = w.size + 3 := by
  have := congrArg List.length hp
  simpa using this
 refine ⟨cat_big _ _ (by omega), cat_big _ _ (by rw [ByteArray.size_append, e1]; omega), fun W => ?_⟩
 rw [cat_big (sB L) _ (by rw [ByteArray.size_append, ByteArray.size_append, e1, sB_size]; omega) W, sB_add, rl1 hp]
theorem rcat2 (L : List UInt8) (pre w s t : ByteArray) (hp : pre.data.toList = 32 :: 32 :: (w.data.toList ++ [32])) (hw : w.size ≤ 4100) (hs : s.size ≤ 4100) (ht : t.size ≤ 4100) (hL : L.length ≤ 900000000) :
  (∀ W, (Op.stringOp .add pre s).run Tryz.prog W = .ok (.string (pre ++ s)) W) ∧ (∀ W, (Op.stringOp .add (pre ++ s) ⟨#[32]⟩).run Tryz.prog W = .ok (.string ((pre ++ s) ++ ⟨#[32]⟩)) W) ∧
  (∀ W, (Op.stringOp .add ((pre ++ s) ++ ⟨#[32]⟩) t).run Tryz.prog W = .ok (.string (((pre ++ s) ++ ⟨#[32]⟩) ++ t)) W) ∧
  (∀ W, (Op.stringOp .add (((pre ++ s) ++ ⟨#[32]⟩) ++ t) ⟨#[10]⟩).run Tryz.prog W = .ok (.string ((((pre ++ s) ++ ⟨#[32]⟩) ++ t) ++ ⟨#[10]⟩)) W) ∧
  (∀ W, (Op.stringOp .add (sB L) ((((pre ++ s) ++ ⟨#[32]⟩) ++ t) ++ ⟨#[10]⟩)).run Tryz.prog W = .ok (.string (sB (L ++ lnL [w, s, t]))) W) := by
 have e1 : (⟨#[10]⟩ : ByteArray).size = 1 := rfl
 have e3 : (⟨#[32]⟩ : ByteArray).size = 1 := rfl
 have e2 : pre.size = w.size + 3 := by
  have := congrArg List.length hp
  simpa using this
 refine ⟨cat_big _ _ (by omega), cat_big _ _ ?_, cat_big _ _ ?_, cat_big _ _ ?_, fun W => ?_⟩
 ·simp only [ByteArray.size_append, e3]; omega
 ·simp only [ByteArray.size_append, e3]; omega
 ·simp only [ByteArray.size_append, e1, e3]; omega
 ·rw [cat_big (sB L) _ (by simp only [ByteArray.size_append, e1, e3, sB_size]; omega) W, sB_add, rl2 hp]
theorem rcat0 (L : List UInt8) (pre w : ByteArray) (hp : pre.data.toList = 32 :: 32 :: (w.data.toList ++ [10])) (hw : w.size ≤ 4100) (hL : L.length ≤ 900000000) :
  ∀ W, (Op.stringOp .add (sB L) pre).run Tryz.prog W = .ok (.string (sB (L ++ lnL [w]))) W := fun W => by
 have e2 : pre.size = w.size + 3 := by
  have := congrArg List.length hp
  simpa using this
 rw [cat_big (sB L) _ (by rw [sB_size]; omega) W, sB_add, rl0 hp]
structure DtS (w : World) (d : De) (W : World) : Prop where
 bel : Below w.heap.size w W
 box : Bx W w.heap.size (deC d) 54
theorem DtS.below {w W W' : World} {d : De} (h : DtS w d W) (hb : Below W.heap.size W W') : DtS w d W' := ⟨below_trans h.bel hb, h.box.below hb⟩
theorem em_gv (k : Int) : (givesB k = true ∧ k ≠ 1 ∧ k ≠ 4 ∧ k ≠ 5) ∨ givesB k = false := by
 cases h : givesB k with
 | false => exact .inr rfl
 | true =>
  left
  unfold givesB at h
  simp at h
  exact ⟨rfl, by omega, by omega, by omega⟩
def DaRel (w : World) (d : De) (L : List UInt8) (m : Nat) (s i : Value) (wr : World) : Prop :=
 ∃ k : Nat, k + m = d.ar.length ∧ i = .int .i64 (k : Nat) ∧ s = .string (sB (L ++ flatL arL (d.ar.take k))) ∧ DtS w d wr
def DuRel (w : World) (d : De) (L : List UInt8) (m : Nat) (s i : Value) (wr : World) : Prop :=
 ∃ k : Nat, k + m = d.us.length ∧ i = .int .i64 (k : Nat) ∧ s = .string (sB (L ++ flatL usL (d.us.take k))) ∧ DtS w d wr
def DsRel (w : World) (d : De) (L : List UInt8) (m : Nat) (s i : Value) (wr : World) : Prop :=
 ∃ k : Nat, k + m = d.sh.length ∧ i = .int .i64 (k : Nat) ∧ s = .string (sB (L ++ flatL shL (d.sh.take k))) ∧ DtS w d wr
end Go.Proofs.YtlcfgejaeecclaaGreatDoor
