/- Parts of the proof, joined: The reference's numbers: Compare (printed by gen_rnk.py). The referenc. -/
import Derived.Test.YtieoifkdobcpiaaGreatDoorSg17
set_option maxRecDepth 100000
set_option maxHeartbeats 8000000
namespace Go.Proofs.YtieoifkdobcpiaaGreatDoor
open Go.RowKit Dw
end Go.Proofs.YtieoifkdobcpiaaGreatDoor
