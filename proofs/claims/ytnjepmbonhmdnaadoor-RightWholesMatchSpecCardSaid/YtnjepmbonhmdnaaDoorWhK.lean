/- Package right: parts of things as keys of a map. -/
import Derived.Test.YtnjepmbonhmdnaaDoorWhG
import Derived.Test.YtnjepmbonhmdnaaDoorMaps2
namespace Go.Proofs.YtnjepmbonhmdnaaDoor
open Go.RowKit Dw

abbrev mkC (p : ByteArray × ByteArray) : Value := .agg #[.string p.1, .string p.2]
theorem eqC (a b : ByteArray × ByteArray) (w : World) : (Op.equal 64 (mkC a) (mkC b)).run Tryd.prog w = .ok (decide (a = b)) w := by
  have u9 := Tryd.underlying9
  have a9 := Tryd.isAgg9
  have z9 := Tryd.sizeOf9
  have hS : Tryd.prog.underlying 64 = some (.struct (Tryd.prog.fieldsOf 64)) := by kernel_rfl
  have hp : Tryd.prog.stoodInHeld 64 = false := by kernel_rfl
  have e : ((a.1.toList == b.1.toList) && (a.2.toList == b.2.toList)) = decide (a = b) := by
    rw [str_dec, str_dec]
    obtain ⟨x, y⟩ := a
    obtain ⟨x', y'⟩ := b
    by_cases h1 : x = x' <;> by_cases h2 : y = y' <;> simp [h1, h2]
  rw [← e]
  unfold Op.equal
  rw [show Op.maxDepth = 9999 + 1 from rfl, run_equalIn_struct w 9999 64 _ _ hS hp]
  simp only [Program.fieldsOf, Tryd.underlying64]
  go_simp
  cases h1 : a.1.toList == b.1.toList <;> cases h2 : a.2.toList == b.2.toList <;> simp_all
theorem chkC (b : Bool) (a : ByteArray × ByteArray) (w : World) : (Instr.checkKey b 10000 64 (mkC a)).run Tryd.prog w = .ok () w := by
  kernel_rfl
theorem bitsC (a : ByteArray × ByteArray) : Instr.sameBits 10000 (mkC a) (mkC a) = true := by
  simp [Instr.sameBits, beq_toListBytes]
theorem kCon : KeyF Tryd.prog 64 mkC := keyF_ask Tryd.underlying64 (fun _ _ => rfl) eqC bitsC chkC
end Go.Proofs.YtnjepmbonhmdnaaDoor
