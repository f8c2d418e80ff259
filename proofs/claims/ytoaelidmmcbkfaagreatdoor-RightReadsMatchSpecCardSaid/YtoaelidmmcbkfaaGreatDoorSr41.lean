/- Parts of the proof, joined: For every string, the law RightReadsMatchSpec returns true (Read is as. -/
import Derived.Test.YtoaelidmmcbkfaaGreatDoorSr44
import Derived.Test.YtoaelidmmcbkfaaGreatDoorSr40
import Derived.Stop.LaidErr
import Derived.Shelf.Vars
set_option maxRecDepth 100000
set_option maxHeartbeats 8000000
namespace Go.Proofs.YtoaelidmmcbkfaaGreatDoor.reads
open Go.ChangeShapes Go.WideShapes Go.ChangeAt Go.RowKit Go.Deep Dw
theorem gok_of {W:World} (h:W.ShapedOpen Tryz.prog):GOK W :=
 cell_of_shapedOpen_int (zero:=#[.int .i64 0]) h (of_decide_eq_true zb) zb rfl zb zb Tryz.underlying3
theorem contract (H:Type) (enc:TypeId×Value→H) (W:World) (base:Nat) (args:Array Value) (ds gs:List (DataW H)) (before:List MemPlace)
  (hval:∀ (j:Nat) t v,Tryz.f3.params[j]?=some t→args[j]?=some v→Value.okWide Tryz.prog W .any base t v)
  (hW:DataW.Whole enc Tryz.prog Tryz.f3.params.toList Rows.rightReadsMatchSpecSpec.vars false W args.toList ds gs before) (hsh:W.ShapedOpen Tryz.prog) :
  Calls Tryz.prog 3 args W fun e W'=>∃ v,e = .returned v∧Rows.rightReadsMatchSpecSpec.post enc Tryz.prog Tryz.f3 false true false false W args v W':=by
 have hW':=hW;obtain ⟨p,q,hA0,hV,rfl,hfz,hnd⟩:=hW;have hA:DataW.TrodAll enc Tryz.prog W 0 (fun _=>true) true Tryz.f3.params.toList args.toList ds p:=hA0
 rw [Tryz.params3] at hA hval;obtain ⟨v0,vs0,d0,ds0,p0,q0,hargs,rfl,rfl,h0,r0⟩:=trodAll_cons hA;obtain ⟨rfl,rfl,rfl⟩:=trodAll_nil r0;obtain rfl:args=#[v0]:=by cases args;simp_all
 obtain ⟨rfl,rfl⟩:=trodVars_none hV;obtain ⟨s,rfl,hs⟩:=open_s (hval 0 _ v0 rfl rfl) h0;refine (lawR_c s W hs (gok_of hsh)).mono fun e W' ⟨he,hbl⟩=>?_
 subst he;exact ⟨_,rfl,law_post (tb:=4) hW' rfl zb Tryz.underlying4 (by rw [Tryz.params3];decide) ⟨rfl,rfl,rfl⟩ hbl⟩
abbrev wit:Array Value:=#[.string ⟨#[]⟩]
theorem laid_met (os:Os):laidMet Tryz.prog Rows.rightReadsMatchSpecRow.laid ((laidWorld2 os).forCall (fun _ _=>0) ⟨#[],wit,[]⟩).memory :=
 laidMet_of_run' 8 zb zb
theorem reads (os:Os) {H:Type} (enc:TypeId×Value→H):∃ places,DataW.whole enc Tryz.prog ((laidWorld2 os).forCall (fun _ _=>0) ⟨#[],wit,[]⟩).memory Tryz.f3.params.toList Rows.rightReadsMatchSpecSpec.vars false wit.toList 8=some ([.lit (.string [])],[],places) :=
 ⟨[],zb⟩
theorem lifted (os:Os) (started:os.Started) (H:Type) (enc:TypeId×Value→H) (F:Stop.Interp) :
  ReturnsInHanded {} Tryz.checked os 3 .any ((OpenSpec.ofChange Rows.rightReadsMatchSpecSpec).preRow enc Tryz.prog Tryz.f3 Rows.rightReadsMatchSpecRow.domain false Rows.rightReadsMatchSpecRow.laid) (((OpenSpec.ofChange Rows.rightReadsMatchSpecSpec).at F).post enc Tryz.prog Tryz.f3 false true false false):=by
 obtain ⟨places,hx⟩:=reads os enc
 refine returnsInHanded_of_row (C:=Tryz.checked) (s:=OpenSpec.ofChange Rows.rightReadsMatchSpecSpec) own started zb Tryz.func3
  (witness_row_at (enc:=enc) (C:=Tryz.checked) false (laidWorld2 os) wit rfl zb zb zb
   (OpenSpec.preRow_of_cond 8 hx zb (fun k hk=>by cases hk) zb (laid_met os))) ?_
 intro W base args ds gs before hval hW _ _ _ _ hsh _;exact contract H enc W base args ds gs before hval hW hsh
end Go.Proofs.YtoaelidmmcbkfaaGreatDoor.reads
