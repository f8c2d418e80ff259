/- The reference's small functions over deeds; formed (printed by gen_rcb.py). -/
import Derived.Test.YtoaelidmmcbkfaaGreatDoorSt27
import Derived.Test.YtoaelidmmcbkfaaGreatDoorSt18
set_option maxRecDepth 100000
set_option maxHeartbeats 8000000
namespace Go.Proofs.YtoaelidmmcbkfaaGreatDoor
open Go.RowKit Dw
theorem em_str (s:BA):(s=emp∧s.toList.isEmpty=true)∨(s≠emp∧s.toList.isEmpty=false):=by
 by_cases h:s=emp
 ·exact .inl ⟨h,zAm h⟩
 ·exact .inr ⟨h,zAn h⟩
end Go.Proofs.YtoaelidmmcbkfaaGreatDoor
