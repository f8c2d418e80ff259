/- The row of RightMayMatchesSpec said whole. -/
import Derived.Test.YtieoifkdobcpiaaGreatDoorSm44
set_option maxRecDepth 100000
set_option maxHeartbeats 8000000
namespace Go.Proofs.YtieoifkdobcpiaaGreatDoor.may
open Go.ChangeShapes Go.WideShapes Go.ChangeAt Go.RowKit Go.Deep Dw
theorem said:Rows.RightMayMatchesSpecUptoSaid :=
 OpenClaim.holds_of_cond 7 Tryz.f7 rfl rfl rfl rfl rfl rfl rfl ⟨rfl,rfl,rfl,rfl,rfl⟩ rfl rfl rfl rfl rfl zc Tryz.func7 closed
  (of_decide_eq_true zc) (by unfold Func.isWrapper;first | (rw [aE qi];kernel_rfl) | (rw [aC qi];exact ⟨rfl,rfl⟩))
  (fun os started H enc _ F=>by rw [OpenClaim.pre_eq_preRow];exact lifted os started H enc F)
end Go.Proofs.YtieoifkdobcpiaaGreatDoor.may
