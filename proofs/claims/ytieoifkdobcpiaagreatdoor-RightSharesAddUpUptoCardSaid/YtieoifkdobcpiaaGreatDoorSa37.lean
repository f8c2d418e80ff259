/- The reference's checkDeed = chkD. The reference's Check of a title = zCH. The reference's runs and Runs. -/
import Derived.Test.YtieoifkdobcpiaaGreatDoorSa32
import Derived.Test.YtieoifkdobcpiaaGreatDoorSa33
import Derived.Test.YtieoifkdobcpiaaGreatDoorSa34
import Derived.Test.YtieoifkdobcpiaaGreatDoorSa35
import Derived.Test.YtieoifkdobcpiaaGreatDoorSa36
import Derived.OwnWalk
set_option maxRecDepth 100000
set_option maxHeartbeats 8000000
namespace Go.Proofs.YtieoifkdobcpiaaGreatDoor
open Go.RowKit Dw
section
variable {w W W':World} {RA:Option Addr} {rc:Nat} {rs:List Rg} {UA:Option Addr} {uc:Nat} {us:List ByteArray} {DA:Option Addr} {dc:Nat} {ds:List De}
end
end Go.Proofs.YtieoifkdobcpiaaGreatDoor
