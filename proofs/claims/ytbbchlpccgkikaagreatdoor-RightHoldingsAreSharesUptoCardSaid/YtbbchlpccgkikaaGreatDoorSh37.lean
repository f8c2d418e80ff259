/- The card of RightHoldingsAreShares. -/
import Derived.Test.YtbbchlpccgkikaaGreatDoorSh35
set_option maxRecDepth 100000
set_option maxHeartbeats 8000000
namespace Go.Proofs.YtbbchlpccgkikaaGreatDoor.hld
open Go.ChangeShapes Go.WideShapes Go.ChangeAt Go.RowKit Go.Deep Dw
theorem plain (f:FuncId) (fn:Func) (hf:Tryz.pinned.checked.prog.funcNamed "deadwax/deadwaxlaw7.RightHoldingsAreShares" = some f) (hfn:Tryz.pinned.checked.prog.funcs[f]?=some fn) : true=Tryz.pinned.checked.prog.looks []∧∀ (j:Nat) t,fn.params[j]?=some t→Tryz.pinned.checked.prog.wantsStandIn t=false:=by
 obtain rfl:f=3:=Option.some.inj ((show Tryz.prog.funcNamed "deadwax/deadwaxlaw7.RightHoldingsAreShares" = some 3 by kernel_rfl).symm.trans hf) |>.symm
 obtain rfl:fn=Tryz.f3:=(Option.some.inj (Tryz.func3.symm.trans hfn)).symm;refine⟨zb,fun j t ht=>?_⟩;rw[Tryz.params3]at ht
 have hm:t=26\/t=9\/t=3:=by
  have:=Array.mem_of_getElem? ht;simp at this
  omega
 rcases hm with rfl|rfl|rfl
 ·exact(show Tryz.prog.wantsStandIn 26=false by kernel_rfl)
 ·exact(show Tryz.prog.wantsStandIn 9=false by kernel_rfl)
 ·exact(show Tryz.prog.wantsStandIn 3=false by kernel_rfl)
theorem card:Rows.RightHoldingsAreSharesUptoCardSaid:=
 Claim7.holds_tied_plain_at .later [] _ _ _ _ said (fun _ h=>qg) zb (fun _ h=>qg) rightHoldingsAreSharesUpto_row_tie rfl ⟨rfl,rfl⟩ zb rfl plain zb
end Go.Proofs.YtbbchlpccgkikaaGreatDoor.hld
