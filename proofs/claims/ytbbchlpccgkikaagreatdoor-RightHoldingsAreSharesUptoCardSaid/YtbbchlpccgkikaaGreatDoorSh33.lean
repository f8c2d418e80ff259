/- Parts of the proof, joined: For every title, zAc and day of bulk at most 1048576, the law RightH. -/
import Derived.Test.YtbbchlpccgkikaaGreatDoorSh36
import Derived.Test.YtbbchlpccgkikaaGreatDoorSh32
import Derived.Stop.LaidErr
set_option maxRecDepth 100000
set_option maxHeartbeats 8000000
namespace Go.Proofs.YtbbchlpccgkikaaGreatDoor.hld
open Go.ChangeShapes Go.WideShapes Go.ChangeAt Go.RowKit Go.Deep Dw
theorem contract(H:Type)(enc:TypeId×Value->H)(W:World)(base:Nat)(args:Array Value)(ds gs:List (DataW H))(before:List MemPlace)(hval:∀(j:Nat) t v,Tryz.f3.params[j]?=some t->args[j]?=some v->Value.okWide Tryz.prog W .any base t v)(hW:DataW.Whole enc Tryz.prog Tryz.f3.params.toList Rows.rightHoldingsAreSharesSpec.vars false W args.toList ds gs before)(hk:Rows.uptoSmall H (ds++gs)=true): Calls Tryz.prog 3 args W fun e W'=>∃v,e=.returned v/\Rows.rightHoldingsAreSharesSpec.post enc Tryz.prog Tryz.f3 false true false false W args v W':=by
 have hW':=hW;obtain⟨p,q,hA0,hV,rfl,hfz,hnd⟩:=hW;have hA:DataW.TrodAll enc Tryz.prog W 0 (fun _=>true) true Tryz.f3.params.toList args.toList ds p:=hA0;rw[Tryz.params3]at hA hval;obtain⟨v0,vs0,d0,ds0,p0,q0,hargs,rfl,rfl,h0,r0⟩:=trodAll_cons hA;obtain⟨v1,vs1,d1,ds1,p1,q1,rfl,rfl,rfl,h1,r1⟩:=trodAll_cons r0;obtain⟨v2,vs2,d2,ds2,p2,q2,rfl,rfl,rfl,h2,r2⟩:=trodAll_cons r1;obtain⟨v3,vs3,d3,ds3,p3,q3,rfl,rfl,rfl,h3,r3⟩:=trodAll_cons r2;obtain⟨v4,vs4,d4,ds4,p4,q4,rfl,rfl,rfl,h4,r4⟩:=trodAll_cons r3;obtain⟨v5,vs5,d5,ds5,p5,q5,rfl,rfl,rfl,h5,r5⟩:=trodAll_cons r4;obtain⟨rfl,rfl,rfl⟩:=trodAll_nil r5;obtain rfl:args=#[v0,v1,v2,v3,v4,v5]:=by cases args;simp_all
 obtain⟨rfl,rfl⟩:=trodVars_none hV;rw[bE]at hk;have hB:Rows.uptoBulkAll _<=1048576:=eU hk;simp only[Rows.uptoBulkAll]at hB;obtain⟨RA0,rc0,rs0,UA0,uc0,us0,DA0,dc0,dl0,rfl,ht0,hc0⟩:=open_title za (hval 0 _ v0 rfl rfl) h0;obtain⟨s1,rfl,hs1⟩:=open_s (hval 1 _ v1 rfl rfl) h1;obtain⟨s2,rfl,hs2⟩:=open_s (hval 2 _ v2 rfl rfl) h2;obtain⟨s3,rfl,hs3⟩:=open_s (hval 3 _ v3 rfl rfl) h3;obtain⟨s4,rfl,hs4⟩:=open_s (hval 4 _ v4 rfl rfl) h4;obtain⟨n5,rfl,hn5,hm5⟩:=open_i (hval 5 _ v5 rfl rfl) h5;refine(lawH_c RA0 rc0 rs0 UA0 uc0 us0 DA0 dc0 dl0 s1 s2 s3 s4 n5 W ht0.rg ht0.st ht0.de ht0.rz ht0.uz hc0 hs1 hs2).mono fun e W' ⟨he,hbl⟩=>?_
 subst he;exact⟨_,rfl,law_post (tb:=4) hW' rfl zb Tryz.underlying4 (by rw[Tryz.params3];decide) ⟨rfl,rfl,rfl⟩ hbl⟩
abbrev wit:Array Value:=#[.agg #[zAm,zAm,zAm],.string ⟨#[]⟩,.string ⟨#[]⟩,.string ⟨#[]⟩,.string ⟨#[]⟩,.int .i64 0]
theorem laid_met(os:Os):laidMet Tryz.prog Rows.rightHoldingsAreSharesUptoRow.laid ((laidWorld os).forCall (fun _ _=>0) ⟨#[],wit,[]⟩).memory:=
 laidMet_of_run' 8 zb zb
theorem reads(os:Os){H:Type}(enc:TypeId×Value->H):∃places,DataW.whole enc Tryz.prog ((laidWorld os).forCall (fun _ _=>0) ⟨#[],wit,[]⟩).memory Tryz.f3.params.toList Rows.rightHoldingsAreSharesSpec.vars false wit.toList 8=some ([.agg [.nil,.nil,.nil],.lit (.string []),.lit (.string []),.lit (.string []),.lit (.string []),.lit (.int .i64 0)],[],places):=
 ⟨[],zb⟩
theorem lifted(os:Os)(started:os.Started)(H:Type)(enc:TypeId×Value->H)(F:Stop.Interp): ReturnsInHanded {} Tryz.checked os 3 .any ((Rows.OpenSpec.upto Rows.rightHoldingsAreSharesSpec).preRow enc Tryz.prog Tryz.f3 Rows.rightHoldingsAreSharesUptoRow.domain false Rows.rightHoldingsAreSharesUptoRow.laid) (((Rows.OpenSpec.upto Rows.rightHoldingsAreSharesSpec).at F).post enc Tryz.prog Tryz.f3 false true false false):=by
 obtain⟨places,hx⟩:=reads os enc
 refine returnsInHanded_of_row (C:=Tryz.checked) (s:=Rows.OpenSpec.upto Rows.rightHoldingsAreSharesSpec) own started zb Tryz.func3
  (witness_row_at (enc:=enc) (C:=Tryz.checked) false (laidWorld os) wit rfl zb zb zb
   (OpenSpec.preRow_of_cond 8 hx zb (fun k hk=>by cases hk;kernel_rfl) zb (laid_met os))) ?_
 intro W base args ds gs before hval hW _ hcond _ _ _ _;exact contract H enc W base args ds gs before hval hW (hcond _ rfl)
end Go.Proofs.YtbbchlpccgkikaaGreatDoor.hld
