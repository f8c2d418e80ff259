/- Parts of the proof, joined: The reference's numbers: limbs of four digits in memory; trim. The ref. -/
import Derived.Test.YtoaelidmmcbkfaaGreatDoorSt07
set_option maxRecDepth 100000
set_option maxHeartbeats 8000000
namespace Go.Proofs.YtoaelidmmcbkfaaGreatDoor
open Go.RowKit Dw
section
variable {w w':World} {g:Nat} {L:List Nat}
end
open Go.Shelf Go.RowKit Go.Lib Dw
end Go.Proofs.YtoaelidmmcbkfaaGreatDoor
namespace Go.Proofs.YtoaelidmmcbkfaaGreatDoor
open Go.RowKit Dw
end Go.Proofs.YtoaelidmmcbkfaaGreatDoor
