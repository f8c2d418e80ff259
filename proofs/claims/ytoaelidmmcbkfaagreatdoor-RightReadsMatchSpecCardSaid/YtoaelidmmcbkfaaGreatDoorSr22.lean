/- Package right: writeDeed (printed by gen_wd.py). -/
import Derived.Test.YtoaelidmmcbkfaaGreatDoorSr14
set_option maxRecDepth 100000
set_option maxHeartbeats 8000000
namespace Go.Proofs.YtoaelidmmcbkfaaGreatDoor
open Go.RowKit Dw
abbrev fldB (k:Int):Array Value:=#[.bool (zAf k || decide (k=1)),.bool (zAf k || decide (k=5)),.bool (zAf k),.bool (decide (k=2)),.bool (decide (k=3)),.bool (zAf k),.bool (zAf k),.bool (decide (k=1) || decide (k=5)),.bool (decide (k=4))]
theorem fldC_eq {k:Int} (hk:1≤k∧k≤5):fldC k=fldB k:=by
 have h5:k=1∨k=2∨k=3∨k=4∨k=5:=za
 rcases h5 with rfl | rfl | rfl | rfl | rfl<;>rfl
section
variable {w W W':World} {B b p4:Nat} {d:De} {l l':List UInt8}
end
end Go.Proofs.YtoaelidmmcbkfaaGreatDoor
