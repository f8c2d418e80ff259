/- The card of RightReadsMatchSpec. -/
import Derived.Test.YtoaelidmmcbkfaaGreatDoorSr43
set_option maxRecDepth 100000
set_option maxHeartbeats 8000000
namespace Go.Proofs.YtoaelidmmcbkfaaGreatDoor.reads
open Go.ChangeShapes Go.WideShapes Go.ChangeAt Go.RowKit Go.Deep Dw
theorem plain (f:FuncId) (fn:Func) (hf:Tryz.pinned.checked.prog.funcNamed "deadwax/deadwaxlaw7.RightReadsMatchSpec" = some f) (hfn:Tryz.pinned.checked.prog.funcs[f]?=some fn) :
  true=Tryz.pinned.checked.prog.looks []∧∀ (j:Nat) t,fn.params[j]?=some t→Tryz.pinned.checked.prog.wantsStandIn t=false:=by
 obtain rfl:f=3:=dR ((show Tryz.prog.funcNamed "deadwax/deadwaxlaw7.RightReadsMatchSpec" = some 3 by kernel_rfl).symm.trans hf) |>.symm
 obtain rfl:fn=Tryz.f3:=(dR (Tryz.func3.symm.trans hfn)).symm;refine ⟨zb,fun j t ht=>?_⟩
 rw [Tryz.params3] at ht
 have hm:t=9:=by
  have:=Array.mem_of_getElem? ht
  simpa using this
 subst hm;exact (show Tryz.prog.wantsStandIn 9=false by kernel_rfl)
theorem card:Rows.RightReadsMatchSpecCardSaid :=
 Claim7.holds_tied_plain_at .later [] _ _ _ _ said (fun _ h=>zy) zb (fun _ h=>zy) rightReadsMatchSpec_row_tie rfl ⟨rfl,rfl⟩ zb rfl plain zb
end Go.Proofs.YtoaelidmmcbkfaaGreatDoor.reads
