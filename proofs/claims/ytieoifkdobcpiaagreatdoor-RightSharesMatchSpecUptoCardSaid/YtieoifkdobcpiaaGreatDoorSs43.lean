/- The reference's controls. -/
import Derived.Test.YtieoifkdobcpiaaGreatDoorSs42
set_option maxRecDepth 100000
set_option maxHeartbeats 8000000
namespace Go.Proofs.YtieoifkdobcpiaaGreatDoor
open Go.RowKit Dw
end Go.Proofs.YtieoifkdobcpiaaGreatDoor
