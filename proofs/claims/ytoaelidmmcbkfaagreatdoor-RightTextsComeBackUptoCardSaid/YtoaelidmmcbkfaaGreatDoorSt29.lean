/- Parts of the proof, joined: The reference's deedText (printed by gen_dt.py). The reference's deedT. -/
import Derived.Test.YtoaelidmmcbkfaaGreatDoorSt28
import Derived.Test.YtoaelidmmcbkfaaGreatDoorSt23
set_option maxRecDepth 100000
set_option maxHeartbeats 8000000
namespace Go.Proofs.YtoaelidmmcbkfaaGreatDoor
open Go.RowKit Dw
def sB (l:List UInt8):BA:=⟨l.toArray⟩
section
variable {w W W':World} {RA:Option Addr} {rc:Nat} {rs:List Rg} {UA:Option Addr} {uc:Nat} {us:List BA} {DA:Option Addr} {dc:Nat} {ds:List De} {d:De}
end
theorem rangeB {w:World} {b:Nat} {cs:Array Value} {T:TypeId} (h:Bx w b cs T):w.rangeAt b 0 cs.toList:=fun j v hv=>by
 rw [bF];exact h.cell (by rw [←hv,Array.getElem?_toList])
end Go.Proofs.YtoaelidmmcbkfaaGreatDoor
