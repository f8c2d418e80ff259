/- The reference's checkDeed = chkD. The reference's Check of a title = zBt. The reference's runs and Runs. -/
import Derived.Test.YtieoifkdobcpiaaGreatDoorSg27
import Derived.Test.YtieoifkdobcpiaaGreatDoorSg28
import Derived.Test.YtieoifkdobcpiaaGreatDoorSg29
import Derived.Test.YtieoifkdobcpiaaGreatDoorSg30
import Derived.Test.YtieoifkdobcpiaaGreatDoorSg31
import Derived.OwnWalk
set_option maxRecDepth 100000
set_option maxHeartbeats 8000000
namespace Go.Proofs.YtieoifkdobcpiaaGreatDoor
open Go.RowKit Dw
section
variable {w W W':World} {RA:Option Addr} {rc:Nat} {rs:List Rg} {UA:Option Addr} {uc:Nat} {us:List BA} {DA:Option Addr} {dc:Nat} {ds:List De}
end
end Go.Proofs.YtieoifkdobcpiaaGreatDoor
