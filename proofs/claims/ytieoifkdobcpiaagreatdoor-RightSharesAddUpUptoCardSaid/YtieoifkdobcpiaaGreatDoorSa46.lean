/- Parts of the proof, joined: The facts that the row of RightSharesAddUp states of the program, each. -/
import Derived.Test.YtieoifkdobcpiaaGreatDoorSa45
set_option maxRecDepth 100000
set_option maxHeartbeats 8000000
namespace Go.Proofs.YtieoifkdobcpiaaGreatDoor.addup
open Go.ChangeShapes Go.WideShapes Go.ChangeAt Go.RowKit Go.Deep Dw
theorem andT {a b:Bool} (ha:a=true) (hb:b=true):(a&&b)=true:=by rw [ha,hb];rfl
theorem closed:joinedFacts Tryz.pinned.checked.prog 4 Tryz.f4 (Rows.OpenSpec.upto Rows.rightSharesAddUpSpec).bare Rows.rightSharesAddUpUptoRow=true:=by
 unfold joinedFacts
 repeat' with_reducible apply andT
 all_goals as_aux_lemma=>kernel_rfl
end Go.Proofs.YtieoifkdobcpiaaGreatDoor.addup
