/- The card of RightSharesMatchSpec. -/
import Derived.Test.YtieoifkdobcpiaaGreatDoorSs50
set_option maxRecDepth 100000
set_option maxHeartbeats 8000000
namespace Go.Proofs.YtieoifkdobcpiaaGreatDoor.shares
open Go.ChangeShapes Go.WideShapes Go.ChangeAt Go.RowKit Go.Deep Dw
theorem plain (f:FuncId) (fn:Func) (hf:Tryz.pinned.checked.prog.funcNamed "deadwax/deadwaxlaw7.RightSharesMatchSpec" = some f) (hfn:Tryz.pinned.checked.prog.funcs[f]?=some fn) :
  true=Tryz.pinned.checked.prog.looks []∧∀ (j:Nat) t,fn.params[j]?=some t→Tryz.pinned.checked.prog.wantsStandIn t=false:=by
 obtain rfl:f=6:=Option.some.inj ((show Tryz.prog.funcNamed "deadwax/deadwaxlaw7.RightSharesMatchSpec" = some 6 by kernel_rfl).symm.trans hf) |>.symm
 obtain rfl:fn=Tryz.f6:=(Option.some.inj (Tryz.func6.symm.trans hfn)).symm;refine ⟨zc,fun j t ht=>?_⟩
 rw [Tryz.params6] at ht
 have hm:t=26∨t=9∨t=3:=by
  have:=Array.mem_of_getElem? ht;simp at this
  omega
 rcases hm with rfl | rfl | rfl
 ·exact (show Tryz.prog.wantsStandIn 26=false by kernel_rfl)
 ·exact (show Tryz.prog.wantsStandIn 9=false by kernel_rfl)
 ·exact (show Tryz.prog.wantsStandIn 3=false by kernel_rfl)
theorem card:Rows.RightSharesMatchSpecUptoCardSaid :=
 Claim7.holds_tied_plain_at .later [] _ _ _ _ said (fun _ h=>jx) zc (fun _ h=>jx) rightSharesMatchSpecUpto_row_tie rfl ⟨rfl,rfl⟩ zc rfl plain zc
end Go.Proofs.YtieoifkdobcpiaaGreatDoor.shares
