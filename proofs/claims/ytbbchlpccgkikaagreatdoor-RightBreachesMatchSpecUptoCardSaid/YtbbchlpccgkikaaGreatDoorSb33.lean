/- Parts of the proof, joined: The facts that the row of RightBreachesMatchSpec states of the program. -/
import Derived.Test.YtbbchlpccgkikaaGreatDoorSb32
set_option maxRecDepth 100000
set_option maxHeartbeats 8000000
namespace Go.Proofs.YtbbchlpccgkikaaGreatDoor.brc
open Go.ChangeShapes Go.WideShapes Go.ChangeAt Go.RowKit Go.Deep Dw
theorem andT{a b:Bool}(ha:a=true)(I:b=true):(a&&b)=true:=by rw[ha,I];rfl
theorem closed:joinedFacts Tryz.pinned.checked.prog 5 Tryz.f5 (Rows.OpenSpec.upto Rows.rightBreachesMatchSpecSpec).bare Rows.rightBreachesMatchSpecUptoRow=true:=by
 unfold joinedFacts
 repeat' with_reducible apply andT
 all_goals as_aux_lemma=>kernel_rfl
end Go.Proofs.YtbbchlpccgkikaaGreatDoor.brc
