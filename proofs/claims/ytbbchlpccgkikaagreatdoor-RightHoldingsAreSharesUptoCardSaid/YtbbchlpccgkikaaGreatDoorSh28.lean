/- Package right: whether something about a thing changes on a day. -/
import Derived.Test.YtbbchlpccgkikaaGreatDoorSh26
set_option maxRecDepth 100000
set_option maxHeartbeats 8000000
namespace Go.Proofs.YtbbchlpccgkikaaGreatDoor
open Go.RowKit Dw
end Go.Proofs.YtbbchlpccgkikaaGreatDoor
