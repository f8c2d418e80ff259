/- The reference's CheckRatio: what it answers (printed by gen_rnm.py). -/
import Derived.Test.YtbbchlpccgkikaaGreatDoorSh10
set_option maxRecDepth 100000
set_option maxHeartbeats 8000000
namespace Go.Proofs.YtbbchlpccgkikaaGreatDoor
open Go.RowKit Dw
def m0:BA:=⟨#[45,48]⟩
end Go.Proofs.YtbbchlpccgkikaaGreatDoor
