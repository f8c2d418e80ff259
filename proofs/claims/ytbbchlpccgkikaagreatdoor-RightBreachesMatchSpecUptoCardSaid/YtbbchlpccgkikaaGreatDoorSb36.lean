/- The card of RightBreachesMatchSpec. -/
import Derived.Test.YtbbchlpccgkikaaGreatDoorSb34
set_option maxRecDepth 100000
set_option maxHeartbeats 8000000
namespace Go.Proofs.YtbbchlpccgkikaaGreatDoor.brc
open Go.ChangeShapes Go.WideShapes Go.ChangeAt Go.RowKit Go.Deep Dw
theorem plain (f:FuncId) (fn:Func) (hf:Tryz.pinned.checked.prog.funcNamed "deadwax/deadwaxlaw7.RightBreachesMatchSpec" = some f) (hfn:Tryz.pinned.checked.prog.funcs[f]?=some fn) : true=Tryz.pinned.checked.prog.looks []∧∀ (j:Nat) t,fn.params[j]?=some t→Tryz.pinned.checked.prog.wantsStandIn t=false:=by
 obtain rfl:f=5:=fH ((show Tryz.prog.funcNamed "deadwax/deadwaxlaw7.RightBreachesMatchSpec" = some 5 by kernel_rfl).symm.trans hf) |>.symm
 obtain rfl:fn=Tryz.f5:=(fH (Tryz.func5.symm.trans hfn)).symm;refine⟨zc,fun j t ht=>?_⟩;rw[Tryz.params5]at ht
 have hm:t=26:=by
  have:=Array.mem_of_getElem? ht
  simpa using this
 subst hm;exact(show Tryz.prog.wantsStandIn 26=false by kernel_rfl)
theorem card:Rows.RightBreachesMatchSpecUptoCardSaid:=
 Claim7.holds_tied_plain_at .later [] _ _ _ _ said (fun _ h=>jn) zc (fun _ h=>jn) rightBreachesMatchSpecUpto_row_tie rfl ⟨rfl,rfl⟩ zc rfl plain zc
end Go.Proofs.YtbbchlpccgkikaaGreatDoor.brc
