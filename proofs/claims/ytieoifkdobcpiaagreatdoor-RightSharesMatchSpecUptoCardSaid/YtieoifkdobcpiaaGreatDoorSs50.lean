/- The row of RightSharesMatchSpec said whole. -/
import Derived.Test.YtieoifkdobcpiaaGreatDoorSs49
set_option maxRecDepth 100000
set_option maxHeartbeats 8000000
namespace Go.Proofs.YtieoifkdobcpiaaGreatDoor.shares
open Go.ChangeShapes Go.WideShapes Go.ChangeAt Go.RowKit Go.Deep Dw
theorem said:Rows.RightSharesMatchSpecUptoSaid :=
 OpenClaim.holds_of_cond 6 Tryz.f6 rfl rfl rfl rfl rfl rfl rfl ⟨rfl,rfl,rfl,rfl,rfl⟩ rfl rfl rfl rfl rfl zc Tryz.func6 closed
  (of_decide_eq_true zc) (by unfold Func.isWrapper;first | (rw [if_pos qf];kernel_rfl) | (rw [if_neg qf];exact ⟨rfl,rfl⟩))
  (fun os started H enc _ F=>by rw [OpenClaim.pre_eq_preRow];exact lifted os started H enc F)
end Go.Proofs.YtieoifkdobcpiaaGreatDoor.shares
