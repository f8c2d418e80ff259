/- The card of RightMayMatchesSpec. -/
import Derived.Test.YtieoifkdobcpiaaGreatDoorSm45
set_option maxRecDepth 100000
set_option maxHeartbeats 8000000
namespace Go.Proofs.YtieoifkdobcpiaaGreatDoor.may
open Go.ChangeShapes Go.WideShapes Go.ChangeAt Go.RowKit Go.Deep Dw
theorem plain (f:FuncId) (fn:Func) (hf:Tryz.pinned.checked.prog.funcNamed "deadwax/deadwaxlaw7.RightMayMatchesSpec" = some f) (hfn:Tryz.pinned.checked.prog.funcs[f]?=some fn) :
  true=Tryz.pinned.checked.prog.looks []∧∀ (j:Nat) t,fn.params[j]?=some t→Tryz.pinned.checked.prog.wantsStandIn t=false:=by
 obtain rfl:f=7:=fE ((show Tryz.prog.funcNamed "deadwax/deadwaxlaw7.RightMayMatchesSpec" = some 7 by kernel_rfl).symm.trans hf) |>.symm
 obtain rfl:fn=Tryz.f7:=(fE (Tryz.func7.symm.trans hfn)).symm;refine ⟨zc,fun j t ht=>?_⟩
 rw [Tryz.params7] at ht
 have hm:t=26∨t=9∨t=3:=by
  have:=Array.mem_of_getElem? ht;simp at this
  omega
 rcases hm with rfl | rfl | rfl
 ·exact (show Tryz.prog.wantsStandIn 26=false by kernel_rfl)
 ·exact (show Tryz.prog.wantsStandIn 9=false by kernel_rfl)
 ·exact (show Tryz.prog.wantsStandIn 3=false by kernel_rfl)
theorem card:Rows.RightMayMatchesSpecUptoCardSaid :=
 Claim7.holds_tied_plain_at .later [] _ _ _ _ said (fun _ h=>j2) zc (fun _ h=>j2) rightMayMatchesSpecUpto_row_tie rfl ⟨rfl,rfl⟩ zc rfl plain zc
end Go.Proofs.YtieoifkdobcpiaaGreatDoor.may
