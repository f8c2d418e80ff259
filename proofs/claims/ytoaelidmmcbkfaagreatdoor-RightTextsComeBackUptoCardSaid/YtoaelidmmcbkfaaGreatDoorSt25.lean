/- Parts of the proof, joined: The reference's numbers: Plus, Compare (printed by gen_rnj.py). The re. -/
import Derived.Test.YtoaelidmmcbkfaaGreatDoorSt24
set_option maxRecDepth 100000
set_option maxHeartbeats 8000000
namespace Go.Proofs.YtoaelidmmcbkfaaGreatDoor
open Go.RowKit Dw
end Go.Proofs.YtoaelidmmcbkfaaGreatDoor
