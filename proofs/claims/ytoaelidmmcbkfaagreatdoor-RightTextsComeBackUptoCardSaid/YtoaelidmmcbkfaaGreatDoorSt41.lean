/- The card of RightTextsComeBack. -/
import Derived.Test.YtoaelidmmcbkfaaGreatDoorSt39
set_option maxRecDepth 100000
set_option maxHeartbeats 8000000
namespace Go.Proofs.YtoaelidmmcbkfaaGreatDoor.texts
open Go.ChangeShapes Go.WideShapes Go.ChangeAt Go.RowKit Go.Deep Dw
theorem plain (f:FuncId) (fn:Func) (hf:Tryz.pinned.checked.prog.funcNamed "deadwax/deadwaxlaw7.RightTextsComeBack" = some f) (hfn:Tryz.pinned.checked.prog.funcs[f]?=some fn) :
  true=Tryz.pinned.checked.prog.looks []∧∀ (j:Nat) t,fn.params[j]?=some t→Tryz.pinned.checked.prog.wantsStandIn t=false:=by
 obtain rfl:f=4:=dM ((show Tryz.prog.funcNamed "deadwax/deadwaxlaw7.RightTextsComeBack" = some 4 by kernel_rfl).symm.trans hf) |>.symm
 obtain rfl:fn=Tryz.f4:=(dM (Tryz.func4.symm.trans hfn)).symm;refine ⟨zb,fun j t ht=>?_⟩
 rw [Tryz.params4] at ht
 have hm:t=26∨t=9:=by
  have:=Array.mem_of_getElem? ht;simp at this
  omega
 rcases hm with rfl | rfl
 ·exact (show Tryz.prog.wantsStandIn 26=false by kernel_rfl)
 ·exact (show Tryz.prog.wantsStandIn 9=false by kernel_rfl)
theorem card:Rows.RightTextsComeBackUptoCardSaid :=
 Claim7.holds_tied_plain_at .later [] _ _ _ _ said (fun _ h=>yg) zb (fun _ h=>yg) rightTextsComeBackUpto_row_tie rfl ⟨rfl,rfl⟩ zb rfl plain zb
end Go.Proofs.YtoaelidmmcbkfaaGreatDoor.texts
