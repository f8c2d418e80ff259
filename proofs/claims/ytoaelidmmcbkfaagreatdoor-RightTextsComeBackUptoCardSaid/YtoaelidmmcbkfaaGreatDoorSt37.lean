/- Parts of the proof, joined: For every title and string of bulk at most 1048576, the law RightTexts. -/
import Derived.Test.YtoaelidmmcbkfaaGreatDoorSt40
import Derived.Test.YtoaelidmmcbkfaaGreatDoorSt36
import Derived.Stop.LaidErr
import Derived.Shelf.Vars
set_option maxRecDepth 100000
set_option maxHeartbeats 8000000
namespace Go.Proofs.YtoaelidmmcbkfaaGreatDoor.texts
open Go.ChangeShapes Go.WideShapes Go.ChangeAt Go.RowKit Go.Deep Dw
theorem pok_of {W:World} (h:laidMetH Tryz.prog Rows.rightTextsComeBackUptoRow.laid W):POK W:=by
 have h':laidMet Tryz.prog Rows.rightTextsComeBackUptoRow.laid W:=h;exact Lib.tabIs_of_head (g:=5) (t:=233) (e:=198) (n:=20) zb zb zb zb zb zb (laidMet.tail (laidMet.tail h'))
theorem gok_of {W:World} (h:W.ShapedOpen Tryz.prog):GOK W :=
 cell_of_shapedOpen_int (zero:=#[.int .i64 0]) h (of_decide_eq_true zb) zb rfl zb zb Tryz.underlying3
theorem contract (H:Type) (enc:TypeId×Value→H) (W:World) (base:Nat) (args:Array Value) (ds gs:List (DataW H)) (before:List MemPlace)
  (hval:∀ (j:Nat) t v,Tryz.f4.params[j]?=some t→args[j]?=some v→Value.okWide Tryz.prog W .any base t v)
  (hW:DataW.Whole enc Tryz.prog Tryz.f4.params.toList Rows.rightTextsComeBackSpec.vars false W args.toList ds gs before) (hk:Rows.uptoSmall H (ds++gs)=true) (hlaid:laidMetH Tryz.prog Rows.rightTextsComeBackUptoRow.laid W) (hsh:W.ShapedOpen Tryz.prog) :
  Calls Tryz.prog 4 args W fun e W'=>∃ v,e = .returned v∧Rows.rightTextsComeBackSpec.post enc Tryz.prog Tryz.f4 false true false false W args v W':=by
 have hW':=hW;obtain ⟨p,q,hA0,hV,rfl,hfz,hnd⟩:=hW;have hA:DataW.TrodAll enc Tryz.prog W 0 (fun _=>true) true Tryz.f4.params.toList args.toList ds p:=hA0
 rw [Tryz.params4] at hA hval;obtain ⟨v0,vs0,d0,ds0,p0,q0,hargs,rfl,rfl,h0,r0⟩:=trodAll_cons hA;obtain ⟨v1,vs1,d1,ds1,p1,q1,rfl,rfl,rfl,h1,r1⟩:=trodAll_cons r0;obtain ⟨rfl,rfl,rfl⟩:=trodAll_nil r1;obtain rfl:args=#[v0,v1]:=by cases args;simp_all
 obtain ⟨rfl,rfl⟩:=trodVars_none hV;rw [aD] at hk;have hB:Rows.uptoBulkAll _≤1048576:=of_decide_eq_true hk;simp only [Rows.uptoBulkAll] at hB;obtain ⟨RA0,rc0,rs0,UA0,uc0,us0,DA0,dc0,dl0,rfl,ht0,hc0⟩:=open_title za (hval 0 _ v0 rfl rfl) h0;obtain ⟨s1,rfl,hs1⟩:=open_s (hval 1 _ v1 rfl rfl) h1;refine (lawT_c RA0 rc0 rs0 UA0 uc0 us0 DA0 dc0 dl0 s1 W ht0.rg ht0.st ht0.de ht0.rz ht0.uz hs1 ⟨by have:=ht0.lens;omega,by have:=ht0.lens;omega,by have:=ht0.lens;omega⟩ (pok_of hlaid) (gok_of hsh)).mono fun e W' ⟨he,hbl⟩=>?_
 subst he;exact ⟨_,rfl,law_post (tb:=4) hW' rfl zb Tryz.underlying4 (by rw [Tryz.params4];decide) ⟨rfl,rfl,rfl⟩ hbl⟩
abbrev wit:Array Value:=#[.agg #[zAj,zAj,zAj],.string ⟨#[]⟩]
theorem laid_met (os:Os):laidMet Tryz.prog Rows.rightTextsComeBackUptoRow.laid ((laidWorld2 os).forCall (fun _ _=>0) ⟨#[],wit,[]⟩).memory :=
 laidMet_of_run' 8 zb zb
theorem reads (os:Os) {H:Type} (enc:TypeId×Value→H):∃ places,DataW.whole enc Tryz.prog ((laidWorld2 os).forCall (fun _ _=>0) ⟨#[],wit,[]⟩).memory Tryz.f4.params.toList Rows.rightTextsComeBackSpec.vars false wit.toList 8=some ([.agg [.nil,.nil,.nil],.lit (.string [])],[],places) :=
 ⟨[],zb⟩
theorem lifted (os:Os) (started:os.Started) (H:Type) (enc:TypeId×Value→H) (F:Stop.Interp) :
  ReturnsInHanded {} Tryz.checked os 4 .any ((Rows.OpenSpec.upto Rows.rightTextsComeBackSpec).preRow enc Tryz.prog Tryz.f4 Rows.rightTextsComeBackUptoRow.domain false Rows.rightTextsComeBackUptoRow.laid) (((Rows.OpenSpec.upto Rows.rightTextsComeBackSpec).at F).post enc Tryz.prog Tryz.f4 false true false false):=by
 obtain ⟨places,hx⟩:=reads os enc
 refine returnsInHanded_of_row (C:=Tryz.checked) (s:=Rows.OpenSpec.upto Rows.rightTextsComeBackSpec) own started zb Tryz.func4
  (witness_row_at (enc:=enc) (C:=Tryz.checked) false (laidWorld2 os) wit rfl zb zb zb
   (OpenSpec.preRow_of_cond 8 hx zb (fun k hk=>by cases hk;kernel_rfl) zb (laid_met os))) ?_
 intro W base args ds gs before hval hW _ hcond _ hL hsh _;exact contract H enc W base args ds gs before hval hW (hcond _ rfl) hL hsh
end Go.Proofs.YtoaelidmmcbkfaaGreatDoor.texts
