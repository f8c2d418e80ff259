/- Parts of the proof, joined: For every title of bulk at most 1048576, the law RightBreachesMatchSpe. -/
import Derived.Test.YtbbchlpccgkikaaGreatDoorSb35
import Derived.Test.YtbbchlpccgkikaaGreatDoorSb31
import Derived.Stop.LaidErr
set_option maxRecDepth 100000
set_option maxHeartbeats 8000000
namespace Go.Proofs.YtbbchlpccgkikaaGreatDoor.brc
open Go.ChangeShapes Go.WideShapes Go.ChangeAt Go.RowKit Go.Deep Dw
theorem pok_of{W:World}(h:laidMetH Tryz.prog Rows.rightBreachesMatchSpecUptoRow.laid W):POK W:=by
 have h':laidMet Tryz.prog Rows.rightBreachesMatchSpecUptoRow.laid W:=h;exact Lib.tabIs_of_head (g:=1) (t:=375) (e:=253) (n:=20) zc zc zc zc zc zc (laidMet.tail (laidMet.tail h'))
theorem contract(H:Type)(enc:TypeId×Value->H)(W:World)(base:Nat)(args:Array Value)(U gs:List (DataW H))(before:List MemPlace)(hval:∀(j:Nat) t v,Tryz.f5.params[j]?=some t->args[j]?=some v->Value.okWide Tryz.prog W .any base t v)(hW:DataW.Whole enc Tryz.prog Tryz.f5.params.toList Rows.rightBreachesMatchSpecSpec.vars false W args.toList U gs before)(hk:Rows.uptoSmall H (U++gs)=true)(hlaid:laidMetH Tryz.prog Rows.rightBreachesMatchSpecUptoRow.laid W): Calls Tryz.prog 5 args W fun e W'=>∃v,e=.returned v/\Rows.rightBreachesMatchSpecSpec.post enc Tryz.prog Tryz.f5 false true false false W args v W':=by
 have hW':=hW;obtain⟨p,q,hA0,hV,rfl,hfz,hnd⟩:=hW;have hA:DataW.TrodAll enc Tryz.prog W 0 (fun _=>true) true Tryz.f5.params.toList args.toList U p:=hA0;rw[Tryz.params5]at hA hval;obtain⟨v0,vs0,d0,ds0,p0,q0,hargs,rfl,rfl,h0,r0⟩:=trodAll_cons hA;obtain⟨rfl,rfl,rfl⟩:=trodAll_nil r0;obtain rfl:args=#[v0]:=by cases args;simp_all
 obtain⟨rfl,rfl⟩:=trodVars_none hV;rw[bV]at hk;have hB:Rows.uptoBulkAll _<=1048576:=fE hk;simp only[Rows.uptoBulkAll]at hB;obtain⟨RA0,rc0,rs0,UA0,uc0,us0,DA0,dc0,dl0,rfl,ht0,hc0⟩:=open_title za (hval 0 _ v0 rfl rfl) h0;refine(lawB_c RA0 rc0 rs0 UA0 uc0 us0 DA0 dc0 dl0 W ht0.rg ht0.st ht0.de ht0.rz ht0.uz hc0 (pok_of hlaid)).mono fun e W' ⟨he,hbl⟩=>?_
 subst he;exact⟨_,rfl,law_post (tb:=4) hW' rfl zc Tryz.underlying4 (by rw[Tryz.params5];decide) ⟨rfl,rfl,rfl⟩ hbl⟩
abbrev wit:Array Value:=#[.agg #[zAo,zAo,zAo]]
theorem laid_met(os:Os):laidMet Tryz.prog Rows.rightBreachesMatchSpecUptoRow.laid ((laidWorld2 os).forCall (fun _ _=>0) ⟨#[],wit,[]⟩).memory:=
 laidMet_of_run' 8 zc zc
theorem reads(os:Os){H:Type}(enc:TypeId×Value->H):∃places,DataW.whole enc Tryz.prog ((laidWorld2 os).forCall (fun _ _=>0) ⟨#[],wit,[]⟩).memory Tryz.f5.params.toList Rows.rightBreachesMatchSpecSpec.vars false wit.toList 8=some ([.agg [.nil,.nil,.nil]],[],places):=
 ⟨[],zc⟩
theorem lifted(os:Os)(started:os.Started)(H:Type)(enc:TypeId×Value->H)(F:Stop.Interp): ReturnsInHanded {} Tryz.checked os 5 .any ((Rows.OpenSpec.upto Rows.rightBreachesMatchSpecSpec).preRow enc Tryz.prog Tryz.f5 Rows.rightBreachesMatchSpecUptoRow.domain false Rows.rightBreachesMatchSpecUptoRow.laid) (((Rows.OpenSpec.upto Rows.rightBreachesMatchSpecSpec).at F).post enc Tryz.prog Tryz.f5 false true false false):=by
 obtain⟨places,hx⟩:=reads os enc
 refine returnsInHanded_of_row (C:=Tryz.checked) (s:=Rows.OpenSpec.upto Rows.rightBreachesMatchSpecSpec) own started zc Tryz.func5
  (witness_row_at (enc:=enc) (C:=Tryz.checked) false (laidWorld2 os) wit rfl zc zc zc
   (OpenSpec.preRow_of_cond 8 hx zc (fun k hk=>by cases hk;kernel_rfl) zc (laid_met os))) ?_
 intro W base args U gs before hval hW _ hcond _ hL hsh _;exact contract H enc W base args U gs before hval hW (hcond _ rfl) hL
end Go.Proofs.YtbbchlpccgkikaaGreatDoor.brc
