/- The row of RightTextsComeBack said whole. -/
import Derived.Test.YtoaelidmmcbkfaaGreatDoorSt38
set_option maxRecDepth 100000
set_option maxHeartbeats 8000000
namespace Go.Proofs.YtoaelidmmcbkfaaGreatDoor.texts
open Go.ChangeShapes Go.WideShapes Go.ChangeAt Go.RowKit Go.Deep Dw
theorem said:Rows.RightTextsComeBackUptoSaid :=
 OpenClaim.holds_of_cond 4 Tryz.f4 rfl rfl rfl rfl rfl rfl rfl ⟨rfl,rfl,rfl,rfl,rfl⟩ rfl rfl rfl rfl rfl zb Tryz.func4 closed
  (of_decide_eq_true zb) (by unfold Func.isWrapper;first | (rw [aE qt];kernel_rfl) | (rw [aC qt];exact ⟨rfl,rfl⟩))
  (fun os started H enc _ F=>by rw [OpenClaim.pre_eq_preRow];exact lifted os started H enc F)
end Go.Proofs.YtoaelidmmcbkfaaGreatDoor.texts
