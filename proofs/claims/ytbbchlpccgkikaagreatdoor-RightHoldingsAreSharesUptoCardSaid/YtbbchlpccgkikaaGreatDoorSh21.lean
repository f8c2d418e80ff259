/- The reference's checkDeed, one of five by kind (printed). -/
import Derived.Test.YtbbchlpccgkikaaGreatDoorSh14
set_option maxRecDepth 100000
set_option maxHeartbeats 8000000
namespace Go.Proofs.YtbbchlpccgkikaaGreatDoor
open Go.RowKit Dw
end Go.Proofs.YtbbchlpccgkikaaGreatDoor
