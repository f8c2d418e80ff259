/- The reference's checkDeed = chkD. The reference's Check of a title = zBQ. The reference's runs and Runs. -/
import Derived.Test.YtbbchlpccgkikaaGreatDoorSh17
import Derived.Test.YtbbchlpccgkikaaGreatDoorSh18
import Derived.Test.YtbbchlpccgkikaaGreatDoorSh19
import Derived.Test.YtbbchlpccgkikaaGreatDoorSh20
import Derived.Test.YtbbchlpccgkikaaGreatDoorSh21
import Derived.OwnWalk
set_option maxRecDepth 100000
set_option maxHeartbeats 8000000
namespace Go.Proofs.YtbbchlpccgkikaaGreatDoor
open Go.RowKit Dw
section
variable {w W W':World} {RA:Option Addr} {rc:Nat} {rs:List Rg} {UA:Option Addr} {uc:Nat} {us:List BA} {DA:Option Addr} {dc:Nat} {ds:List De}
end
end Go.Proofs.YtbbchlpccgkikaaGreatDoor
