/- The reference's CheckRatio answers ratF. The reference's checkShares. -/
import Derived.Test.YtbbchlpccgkikaaGreatDoorSh11
set_option maxRecDepth 100000
set_option maxHeartbeats 8000000
namespace Go.Proofs.YtbbchlpccgkikaaGreatDoor
open Go.RowKit Dw
section
variable {w W W':World} {d:De} {g:Nat} {A A2:Option Addr} {c c2:Nat} {pr:Nat×Nat}
end
end Go.Proofs.YtbbchlpccgkikaaGreatDoor
