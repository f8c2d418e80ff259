/- The row of RightChangesAreAll said whole. -/
import Derived.Test.YtieoifkdobcpiaaGreatDoorSg42
set_option maxRecDepth 100000
set_option maxHeartbeats 8000000
namespace Go.Proofs.YtieoifkdobcpiaaGreatDoor.chg
open Go.ChangeShapes Go.WideShapes Go.ChangeAt Go.RowKit Go.Deep Dw
theorem said:Rows.RightChangesAreAllUptoSaid :=
 OpenClaim.holds_of_cond 3 Tryz.f3 rfl rfl rfl rfl rfl rfl rfl ⟨rfl,rfl,rfl,rfl,rfl⟩ rfl rfl rfl rfl rfl zb Tryz.func3 closed
  (eT zb) (by unfold Func.isWrapper;first | (rw [aF (by decide +kernel)];kernel_rfl) | (rw [aD (by decide +kernel)];exact ⟨rfl,rfl⟩))
  (fun os started H enc _ F=>by rw [OpenClaim.pre_eq_preRow];exact lifted os started H enc F)
end Go.Proofs.YtieoifkdobcpiaaGreatDoor.chg
