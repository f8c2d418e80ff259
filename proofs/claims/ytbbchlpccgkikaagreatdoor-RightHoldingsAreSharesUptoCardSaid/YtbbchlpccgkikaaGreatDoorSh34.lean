/- Parts of the proof, joined: The facts that the row of RightHoldingsAreShares states of the program. -/
import Derived.Test.YtbbchlpccgkikaaGreatDoorSh33
set_option maxRecDepth 100000
set_option maxHeartbeats 8000000
namespace Go.Proofs.YtbbchlpccgkikaaGreatDoor.hld
open Go.ChangeShapes Go.WideShapes Go.ChangeAt Go.RowKit Go.Deep Dw
theorem andT{a b:Bool}(ha:a=true)(hb:b=true):(a&&b)=true:=by rw[ha,hb];rfl
theorem closed:joinedFacts Tryz.pinned.checked.prog 3 Tryz.f3 (Rows.OpenSpec.upto Rows.rightHoldingsAreSharesSpec).bare Rows.rightHoldingsAreSharesUptoRow=true:=by
 unfold joinedFacts
 repeat' with_reducible apply andT
 all_goals as_aux_lemma=>kernel_rfl
end Go.Proofs.YtbbchlpccgkikaaGreatDoor.hld
