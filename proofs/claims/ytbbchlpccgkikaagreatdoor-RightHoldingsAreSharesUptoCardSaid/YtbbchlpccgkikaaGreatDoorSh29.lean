/- Package right: Changes; slices.Contains over ints. -/
import Derived.Test.YtbbchlpccgkikaaGreatDoorSh28
set_option maxRecDepth 100000
set_option maxHeartbeats 8000000
namespace Go.Proofs.YtbbchlpccgkikaaGreatDoor
open Go.RowKit Dw
end Go.Proofs.YtbbchlpccgkikaaGreatDoor
