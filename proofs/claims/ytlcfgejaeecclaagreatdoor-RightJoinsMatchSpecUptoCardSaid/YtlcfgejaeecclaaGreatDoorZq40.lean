/- The law RightJoinsInAnyOrder as one call. -/
import Derived.Test.YtlcfgejaeecclaaGreatDoorZq39
set_option maxRecDepth 100000
set_option maxHeartbeats 8000000
namespace Go.Proofs.YtlcfgejaeecclaaGreatDoor
open Go.RowKit Dw
theorem joinP_len {rs rs2 R : List Rg} {us us2 U : List ByteArray} {ds ds2 S : List De} (h : JoinP rs us ds rs2 us2 ds2 0 R U S) : R.length ≤ 140737488355328 ∧ U.length ≤ 140737488355328 ∧ S.length ≤ 140737488355328 := by
 obtain ⟨c1, _, _, _, _, rfl, rfl, _, cs⟩ := h.2 rfl
 obtain ⟨h1, h2, h3⟩ := chkT_zero cs
 have h4 := (good_of h1).len
 omega
end Go.Proofs.YtlcfgejaeecclaaGreatDoor
