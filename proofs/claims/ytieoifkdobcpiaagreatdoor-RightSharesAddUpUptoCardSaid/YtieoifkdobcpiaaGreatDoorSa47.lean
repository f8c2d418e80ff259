/- The row of RightSharesAddUp said whole. -/
import Derived.Test.YtieoifkdobcpiaaGreatDoorSa46
set_option maxRecDepth 100000
set_option maxHeartbeats 8000000
namespace Go.Proofs.YtieoifkdobcpiaaGreatDoor.addup
open Go.ChangeShapes Go.WideShapes Go.ChangeAt Go.RowKit Go.Deep Dw
theorem said:Rows.RightSharesAddUpUptoSaid :=
 OpenClaim.holds_of_cond 4 Tryz.f4 rfl rfl rfl rfl rfl rfl rfl ⟨rfl,rfl,rfl,rfl,rfl⟩ rfl rfl rfl rfl rfl zb Tryz.func4 closed
  (of_decide_eq_true zb) (by unfold Func.isWrapper;first | (rw [if_pos qi];kernel_rfl) | (rw [if_neg qi];exact ⟨rfl,rfl⟩))
  (fun os started H enc _ F=>by rw [OpenClaim.pre_eq_preRow];exact lifted os started H enc F)
end Go.Proofs.YtieoifkdobcpiaaGreatDoor.addup
