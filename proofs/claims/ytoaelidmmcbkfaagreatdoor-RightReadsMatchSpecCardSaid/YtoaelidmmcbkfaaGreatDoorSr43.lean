/- The row of RightReadsMatchSpec said whole. -/
import Derived.Test.YtoaelidmmcbkfaaGreatDoorSr42
set_option maxRecDepth 100000
set_option maxHeartbeats 8000000
namespace Go.Proofs.YtoaelidmmcbkfaaGreatDoor.reads
open Go.ChangeShapes Go.WideShapes Go.ChangeAt Go.RowKit Go.Deep Dw
theorem said:Rows.RightReadsMatchSpecSaid :=
 OpenClaim.holds_of_cond 3 Tryz.f3 rfl rfl rfl rfl rfl rfl rfl ⟨rfl,rfl,rfl,rfl,rfl⟩ rfl rfl rfl rfl rfl zb Tryz.func3 closed
  (of_decide_eq_true zb) (by unfold Func.isWrapper;first | (rw [aE qx];kernel_rfl) | (rw [aC qx];exact ⟨rfl,rfl⟩))
  (fun os started H enc _ F=>by rw [OpenClaim.pre_eq_preRow];exact lifted os started H enc F)
end Go.Proofs.YtoaelidmmcbkfaaGreatDoor.reads
