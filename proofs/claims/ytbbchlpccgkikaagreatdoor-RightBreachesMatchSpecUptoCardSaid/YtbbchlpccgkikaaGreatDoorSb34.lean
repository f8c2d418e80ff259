/- The row of RightBreachesMatchSpec said whole. -/
import Derived.Test.YtbbchlpccgkikaaGreatDoorSb33
set_option maxRecDepth 100000
set_option maxHeartbeats 8000000
namespace Go.Proofs.YtbbchlpccgkikaaGreatDoor.brc
open Go.ChangeShapes Go.WideShapes Go.ChangeAt Go.RowKit Go.Deep Dw
theorem said:Rows.RightBreachesMatchSpecUptoSaid:=
 OpenClaim.holds_of_cond 5 Tryz.f5 rfl rfl rfl rfl rfl rfl rfl ⟨rfl,rfl,rfl,rfl,rfl⟩ rfl rfl rfl rfl rfl zc Tryz.func5 closed
  (fE zc) (by unfold Func.isWrapper;first|(rw[aF qb];kernel_rfl)|(rw[aO qb];exact⟨rfl,rfl⟩))
  (fun os started H enc _ F=>by rw[OpenClaim.pre_eq_preRow];exact lifted os started H enc F)
end Go.Proofs.YtbbchlpccgkikaaGreatDoor.brc
