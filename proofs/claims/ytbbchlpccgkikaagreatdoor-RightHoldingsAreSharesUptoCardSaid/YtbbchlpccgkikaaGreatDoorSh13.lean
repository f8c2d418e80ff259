/- The reference's small functions over deeds; formed (printed by gen_rcb.py). -/
import Derived.Test.YtbbchlpccgkikaaGreatDoorSh12
set_option maxRecDepth 100000
set_option maxHeartbeats 8000000
namespace Go.Proofs.YtbbchlpccgkikaaGreatDoor
open Go.RowKit Dw
end Go.Proofs.YtbbchlpccgkikaaGreatDoor
