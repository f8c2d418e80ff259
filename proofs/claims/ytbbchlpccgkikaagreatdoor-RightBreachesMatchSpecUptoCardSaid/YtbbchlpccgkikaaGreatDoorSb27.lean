/- The reference's valid. The reference's controls. -/
import Derived.Test.YtbbchlpccgkikaaGreatDoorSb24
set_option maxRecDepth 100000
set_option maxHeartbeats 8000000
namespace Go.Proofs.YtbbchlpccgkikaaGreatDoor
open Go.RowKit Dw
abbrev whrC(pl S:BA)(day:Int):Array Value:=#[.string pl,.string S,.int .i64 day]
theorem validR_c(RA:OA)(rc:Nat)(V:List Rg)(UA:OA)(O:Nat)(us:List BA)(DA:OA)(dc:Nat)(U:List De)(k i:Nat)(pl S:BA)(day:Int)(w:World)(hr:Rgs w RA V)(hd:Des w DA U)(g:GoodR V)(hi:i<V.length)(hpl:(V[i]).nm=pl)(hk:k<U.length)(hdl:U.length<=200)(hoe:OneEnd U)(hgv:zAg (U[k]).kd=true)(hul:(U[k]).us.length<=20)(hal:(U[k]).ar.length<=100): Calls Tryz.prog 113 #[.agg (tiC RA rc V UA O us DA dc U),.int .i64 (k:Int),.agg (whrC pl S day)] w (zAf (.bool (vB V U i S day U[k])) w):=by
 obtain⟨b,o,rfl,hb0,hc0⟩:=hd za;obtain⟨N,hok⟩:=hc0 k hk;have hbw:Below w.heap.size w ((w.alloc (.cells (tiC RA rc V UA O us (some ⟨b,o,none⟩) dc U) 26)).alloc (.cells (whrC pl S day) 135)):=((aR _ _).alloc (aK _) _).alloc ze _;have HX:Hid (Bx ((w.alloc (.cells (tiC RA rc V UA O us (some ⟨b,o,none⟩) dc U) 26)).alloc (.cells (whrC pl S day) 135)) w.heap.size (tiC RA rc V UA O us (some ⟨b,o,none⟩) dc U) 26):=(Bx.new _ _ _).alloc _;have HY:Hid (Bx ((w.alloc (.cells (tiC RA rc V UA O us (some ⟨b,o,none⟩) dc U) 26)).alloc (.cells (whrC pl S day) 135)) (w.heap.size+1) (whrC pl S day) 135):=Bx.new1 _ _ _ _;obtain⟨W,hW⟩:∃W,W=(w.alloc (.cells (tiC RA rc V UA O us (some ⟨b,o,none⟩) dc U) 26)).alloc (.cells (whrC pl S day) 135):=⟨_,rfl⟩;rw[<-hW]at hbw HX HY;have HDE:=zq (hd.below hbw);obtain⟨d,T⟩:∃d,U[k]=d:=⟨_,rfl⟩;have HRU:=fun(u:World)(hu:Below W.heap.size W u)=>runsR_c RA rc V UA O us (some ⟨b,o,none⟩) dc U k u (HDE.o.below hu) hk hdl
 have hrp:zBj U d=cutR d.bg (toP U d):=by unfold zBj;rw[aF (by rw[<-T];exact hgv)]
 rw[T]at N hok hul hal ⊢;simp only[T,toR_eq hoe,<-hrp]at HRU;have HRU:=zq HRU;generalize C:vB V U i S day d=res;have HR:=zq C;have HOK:=zq (hok.below hbw);have HRG:Hid (W.rangeAt b (o+k*16) (deC d).toList):=fun j v hv=>zAe hbw (N j v hv)
 have HB:=zq hbw;have HRR:=zq (hr.below hbw);have HPL:=zq hpl;have hb1:b<W.heap.size:=aB hb0 hbw.size;clear C hok N hbw hr hd hc0 T hrp hgv hpl
 go_enter Tryz.func113,Tryz.ntmps113;(go_upto_region 1 with fail);rw[<-hW];clear hW;have t2:=HX.o.c 2 rfl;have hst:=HX.o.lt;(iterate 14 go_step);refine fG _ _ zk b (o+k*16) zk (deC d).toList _ HRG.o Tryz.underlying126 rfl zc ?_;clear t2 hst;(go_upto_region 2 with fail);obtain⟨W2,hW2⟩:∃W2,W2=W.alloc (.cells (deC d) 126):=⟨_,rfl⟩;rw[<-hW2];have D:Below W.heap.size W W2:=by rw[hW2];exact(aR _ _).alloc (aK _) _
 have HD:Hid (Bx W2 W.heap.size (deC d) 126):=by show Bx _ _ _ _;rw[hW2];exact Bx.new _ _ _
 have HX2:=zq (HX.o.below D);have HY2:=zq (HY.o.below D);have HB2:=zq D;clear hW2 D HX HY;(iterate 2 go_step);refine fG _ _ zk w.heap.size 0 zk (tiC RA rc V UA O us (some ⟨b,o,none⟩) dc U).toList _ (zBt HX2.o) Tryz.underlying26 rfl zc ?_;(go_wp2_with fail);(with_reducible refine(HRU.o _ HB2.o).mono ?_);rintro e W3⟨rfl,hb3⟩;have HB3:=zq (zAa HB2.o hb3);have HD3:=zq (HD.o.below hb3);have HX3:=zq (HX2.o.below hb3);have HY3:=zq (HY2.o.below hb3);have HHA:=zq (has_c d.usA d.usc d.us S W3 za (HOK.o.uses.below HB3.o));have hli:=lies_c RA d.arA rc d.arc V d.ar W3 g (HRR.o.below HB3.o) (HOK.o.ars.below HB3.o) hal i hi;rw[HPL.o]at hli;have HLI:=zq hli;clear hb3 hli HD HX2 HY2 HB2 HRU;obtain⟨y0,y1,y2⟩:=HY3.o.t;have hsy:=HY3.o.lt;have x0:=HX3.o.c 0 rfl;have hsx:=HX3.o.lt;have d10:=HD3.o.c 10 rfl;have d11:=HD3.o.c 11 rfl;have hsd:=HD3.o.lt;have HBZ:=zq (zAa HB.o HB3.o)
 by_cases h1:(zBj U d).1<=day
 case neg =>
  have e1:decide ((zBj U d).1<=day)=false:=aE h1;have HV:Hid (res=false):=by show _=_;rw[<-HR.o];unfold vB;rw[e1];rfl
  clear h1;exact tfo
 have e1:decide ((zBj U d).1<=day)=true:=aD h1
 by_cases h2:day<(zBj U d).2
 case neg =>
  have e2:decide (day<(zBj U d).2)=false:=aE h2;have HV:Hid (res=false):=qi;clear h1 h2;exact tfo
 have e2:decide (day<(zBj U d).2)=true:=aD h2;have HR2:Hid ((zCE V d.ar i&&zCU d.us S)=res):=qi;clear h1 h2 HR;(go_wp2_with fail);(with_reducible refine HHA.o.mono ?_);rintro e W4⟨rfl,rfl⟩
 cases hmu:zCU d.us S with
 |false =>
  have HV:Hid (res=false):=by show _=_;rw[<-HR2.o,hmu,Bool.and_false]
  clear hmu;exact tfo
 |true =>
  have HV:Hid (zCE V d.ar i=res):=by show _=_;rw[<-HR2.o,hmu,Bool.and_true]
  clear hmu;(go_wp2_with fail);(with_reducible refine HLI.o.mono ?_);rintro e W5⟨rfl,rfl⟩;go_wp2;go_ret
  exact zAf.mk (zBy HV.o) HBZ.o
def CqR(W:World)(_T _S:Array Value)(nx:BA->Option BA)(ps:List BA)(res:BA)(m:Nat)(e2 e11:Value)(wr:World):Prop:=
 ∃(v:Value)(p:BA)(l seen:List BA),v=e11/\e2=.string p/\Below W.heap.size W wr/\zAv encS 1 wr W.heap.size 9 v l/\l.length<=m+2*ps.length+5/\l.length+m<=ps.length+1/\(∀x,zCU l x=zCU seen x)/\zCU seen p=false/\CtlI nx ps m seen p res
def CnR(W:World)(v:Value)(l:List BA)(U:List De)(P:De->Bool)(m:Nat)(e12 e13:Value)(wr:World):Prop:=
 ∃(q:BA)(j:Nat),e12=.string q/\j+m=U.length/\e13=.int .i64 (j:Nat)/\Below W.heap.size W wr/\zAv encS 1 wr W.heap.size 9 v l /\
  ((q=emp/\∀t (h:t<U.length),t<j->P U[t]=false)\/(q≠emp/\(U.find? P).map De.to_=some q))
theorem memS_app(l:List BA)(p x:BA)(seen:List BA)(h:∀x,zCU l x=zCU seen x):zCU (l++[p]) x=zCU (p::seen) x:=by
 have h1:=h x;unfold zCU at h1 ⊢;rw[bS,h1];simp[Bool.or_comm]
theorem controlsR_c(RA:OA)(rc:Nat)(V:List Rg)(UA:OA)(O:Nat)(us:List BA)(DA:OA)(dc:Nat)(U:List De)(i:Nat)(th ho pl S:BA)(day:Int)(w:World)(hr:Rgs w RA V)(hd:Des w DA U)(g:GoodR V)(hi:i<V.length)(hpl:(V[i]).nm=pl)(hdl:U.length<=200)(hoe:OneEnd U)(hsh:∀d∈U,d.ar.length<=100/\d.us.length<=20)(hto:∀d∈U,d.kd=3->d.to_≠emp): Calls Tryz.prog 179 #[.agg (tiC RA rc V UA O us DA dc U),.string th,.string ho,.agg (whrC pl S day),.int .i64 (U.length:Int)] w (zAf (.string (ctlF V U i S day th ho)) w):=by
 have HI0:=zq (ctlI_start V U i S day th ho);generalize ctlF V U i S day th ho=res at *;have hbw:Below w.heap.size w ((w.alloc (.cells (tiC RA rc V UA O us DA dc U) 26)).alloc (.cells (whrC pl S day) 135)):=((aR _ _).alloc (aK _) _).alloc ze _;have HX:Hid (Bx ((w.alloc (.cells (tiC RA rc V UA O us DA dc U) 26)).alloc (.cells (whrC pl S day) 135)) w.heap.size (tiC RA rc V UA O us DA dc U) 26):=(Bx.new _ _ _).alloc _;have HY:Hid (Bx ((w.alloc (.cells (tiC RA rc V UA O us DA dc U) 26)).alloc (.cells (whrC pl S day) 135)) (w.heap.size+1) (whrC pl S day) 135):=Bx.new1 _ _ _ _;obtain⟨W,hW⟩:∃W,W=(w.alloc (.cells (tiC RA rc V UA O us DA dc U) 26)).alloc (.cells (whrC pl S day) 135):=⟨_,rfl⟩;rw[<-hW]at hbw HX HY;have HB:=zq hbw;have HDW:=zq (hd.below hbw);have HRW:=zq (hr.below hbw);have HSH:=zq hsh;have HTO:=zq hto;clear hbw hr hd hsh hto
 go_enter Tryz.func179,Tryz.ntmps179;(go_upto_region 1 with fail);rw[<-hW];clear hW;go_wp2
 go_loopg[2,11] (U.length+2) (CqR W (tiC RA rc V UA O us DA dc U) (whrC pl S day) (nextP V U i S day th) (ho::U.map De.to_) res)
 case atStart=>exact⟨_,ho,[],[],rfl,rfl,aR _ _,zAv.nil _ _ _ _ _,ze,ze,fun _=>rfl,rfl,HI0.o⟩
 clear HI0
 case round =>
  obtain⟨v,p,l,seen,rfl,rfl,I,ho1,_,hlm,hsn,hps,hci⟩:=hrel;have HBW:=zq I;have HO:=zq ho1;have HSN:=zq hsn;have HPS:=zq hps;have HCI:=zq hci;simp only[bM,bZ]at hlm;have hll:l.length<=202:=za;have hW1:W.heap.size<=wr.heap.size:=I.size;obtain⟨gf,hgf⟩:∃gf,gf=gk:=⟨_,rfl⟩;subst hgf;clear I ho1 hsn hps hci
  go_wp2_with (at_builtin;refine zAT _ _ _ elStr rfl rfl W.heap.size v l rfl (HO.o.alloc _) wr.heap.size 1 p rfl (aJ _ _) rfl zr zn za zg ?_;intro v1 w2 hown2 hg2 D)
  have HO2:Hid (zAv encS 1 w2 W.heap.size 9 v1 (l++[p])):=hown2;have HB2:=zq ((HBW.o.alloc hW1 _).trans D);clear hown2 hg2 D HO HBW hW1;go_wp2
  go_loopg[12,13] U.length (CnR W v1 (l++[p]) U (zBN V U i S day th p true))
  case atStart=>exact⟨emp,0,rfl,za,rfl,HB2.o,HO2.o,.inl ⟨rfl,fun t _ ht=>absurd ht za⟩⟩
  clear HO2 HB2
  case round =>
   obtain⟨q,j,rfl,hjm,rfl,I,ho1,hfd⟩:=hrel;have HBW:=zq I;have HO:=zq ho1;have HJM:=zq hjm;have HFD:=zq hfd;have hjl:j<=U.length:=za;clear I ho1 hjm hfd
   by_cases hgo:j<U.length/\q=emp
   ·obtain⟨Y,hq⟩:=hgo
    have HP:Hid (∀t (h:t<U.length),t<j->zBN V U i S day th p true U[t]=false):=(HFD.o.elim (fun h=>h.2) (fun h=>absurd hq h.1));subst hq;have q0:=emp_isEmpty;obtain⟨b,o,hA,hb0,hc0⟩:=HDW.o za;subst hA;obtain⟨d,T⟩:∃d,U[j]=d:=⟨_,rfl⟩;have hp:=(hc0 j Y).1;rw[T]at hp;have N:wr.rangeAt b (o+j*16) (deC d).toList:=fun t v hv=>(HBW.o.cell (p:=⟨b,o+j*16+t,none⟩) hb0).trans (hp t v hv)
    have HDD:=zq T
    have HVR:Hid (zAg d.kd=true->∀u,Below W.heap.size W u->Calls Tryz.prog 113 #[.agg (tiC RA rc V UA O us (some ⟨b,o,none⟩) dc U),.int .i64 (j:Int),.agg (whrC pl S day)] u (zAf (.bool (vB V U i S day d)) u)):=fun hgv u hu=>by
     have:=validR_c RA rc V UA O us (some ⟨b,o,none⟩) dc U j i pl S day u (HRW.o.below hu) (HDW.o.below hu) g hi hpl Y hdl hoe (by rw[T];exact hgv) (HSH.o _ (aH Y)).2 (HSH.o _ (aH Y)).1
     rwa [T]at this
    have x2:_=some (Value.slice (some ⟨b,o,none⟩) U.length dc):=(HX.o.below HBW.o).c 2 rfl;have hsx:=(HX.o.below HBW.o).lt;clear hp hc0 T HFD;(go_upto_region 7 with fail);(iterate 14 go_step);refine fG _ _ zk b (o+j*16) zk (deC d).toList _ N Tryz.underlying126 rfl zc ?_;clear N x2 hsx q0;(go_upto_region 8 with fail);obtain⟨wd,hwd⟩:∃wd,wd=wr.alloc (.cells (deC d) 126):=⟨_,rfl⟩;rw[<-hwd];have hbd:Below wr.heap.size wr wd:=zm;have m:Hid (Bx wd wr.heap.size (deC d) 126):=zo;have HBD:=zq (zAa HBW.o hbd);have HOD:=zq (HO.o.below hbd);have HXD:=zq (HX.o.below HBD.o);have HYD:=zq (HY.o.below HBD.o);clear hwd hbd HO HBW;have d2:=m.o.c 2 rfl;have d3:=m.o.c 3 rfl;have d4:=m.o.c 4 rfl;have d8:wd.cell? ⟨wr.heap.size,8,none⟩=some (.bool d.ex):=m.o.c 8 rfl;have hsd:=m.o.lt
    have HNO:Hid (zBN V U i S day th p true d=false->∀t (h:t<U.length),t<j+1->zBN V U i S day th p true U[t]=false):=fun h t ht h9=>by
     rcases aI t j with h8|h8
     ·exact HP.o t ht h8
     ·obtain rfl:t=j:=by omega
      rw[HDD.o];exact h
    by_cases hq3:d.kd=3
    case neg =>
     have e1:(d.kd == 3)=false:=by simpa using hq3
     have HN:=zq (HNO.o (by unfold zBN;rw[aE hq3];rfl));clear hq3 HNO;exact tch
    have e1:(d.kd == 3)=true:=by simpa using hq3
    cases hex:d.ex with
    |false =>
     have HN:=zq (HNO.o (by unfold zBN;rw[hex];simp));rw[hex]at d8;clear hq3 HNO hex;exact tch
    |true =>
     rw[hex]at d8
     by_cases ht:d.th=th
     case neg =>
      have q1:=zAp ht;have HN:=zq (HNO.o (by unfold zBN;rw[aE ht];simp));clear hq3 ht HNO hex;exact tch
     have q1:=zAn ht
     by_cases hf:d.fr=p
     case neg =>
      have q2:=zAp hf;have HN:=zq (HNO.o (by unfold zBN;rw[aE hf];simp));clear hq3 ht hf HNO hex;exact tch
     have q2:=zAn hf;have HV:Hid (zBN V U i S day th p true d=vB V U i S day d):=by show _=_;unfold zBN;rw[aD hq3,aD ht,aD hf,hex];rfl
     have HVC:=zq (HVR.o (by rw[hq3];rfl) wd HBD.o);have HT3:=zq (HTO.o d (by rw[<-HDD.o];exact aH Y) hq3);clear hq3 ht hf hex;obtain⟨x0,x1,x2⟩:=HXD.o.t;have hsx:=HXD.o.lt;obtain⟨y0,y1,y2⟩:=HYD.o.t;have hsy:=HYD.o.lt;(go_wp2_with fail);(with_reducible refine HVC.o.mono ?_);rintro e w3⟨rfl,hb3⟩;have HB3:=zq (zAa HBD.o hb3);have HO3:=zq (HOD.o.below hb3);have HD3:=zq (m.o.below hb3);clear hb3 d2 d3 d4 d8 hsd x0 x1 x2 hsx y0 y1 y2 hsy e1 q1 q2 HXD HYD m HOD HBD HVC HVR
     cases hv:vB V U i S day d with
     |false =>
      have HN:=zq (HNO.o (by rw[HV.o,hv]));clear hv HNO;go_wp2
      go_roundg (gk-1)
      case measure=>have:=HJM.o;omega
      case rel=>exact⟨emp,j+1,rfl,yw,zi,HB3.o,HO3.o,.inl ⟨rfl,HN.o⟩⟩
     |true =>
      have HF:Hid ((U.find? (zBN V U i S day th p true)).map De.to_=some d.to_):=by
       show _=_
       rw[find_at Y (by rw[HDD.o,HV.o,hv]) HP.o,HDD.o];rfl
      have d5:=HD3.o.c 5 rfl;have hsd:=HD3.o.lt;clear hv HNO;go_wp2
      go_roundg (gk-1)
      case measure=>have:=HJM.o;omega
      case rel=>exact⟨d.to_,j+1,rfl,yw,zi,HB3.o,HO3.o,.inr ⟨HT3.o,HF.o⟩⟩
   ·obtain⟨A,c,rfl,hrd⟩:=HO.o.rd1
    have HRD:Hid (Strs wr A (l++[p])):=hrd;clear hrd;have hlt2:q=emp->¬j<U.length:=fun h1 h2=>hgo ⟨h2,h1⟩
    by_cases hq:q=emp
    ·have q0:=zAr hq
     have hje:=hlt2 hq
     have HNX:Hid (nextP V U i S day th p=none):=by
      show _=_
      unfold nextP
      rcases HFD.o with ⟨_,h⟩|⟨h,_⟩
      ·rw[find_no (fun t ht=>h t ht za)];rfl
      ·exact absurd hq h
     have HRS:=zq (HCI.o.none HPS.o HNX.o);subst hq;clear hgo hlt2 HFD;exact tep
    ·have q0:=zAq hq
     have hnx:nextP V U i S day th p=some q:=by
      unfold nextP
      rcases HFD.o with ⟨h,_⟩|⟨_,h⟩
      ·exact absurd h hq
      ·exact h
     have HC2:=zq (HCI.o.next HPS.o hnx (nextP_mem hnx));have hsz:(l++[p]).length=l.length+1:=ze;have hha:=has_c A c (l++[p]) q wr zg HRD.o;rw[hsz]at hha;have HHA:=zq hha;clear hha;have hma:=memS_app l p q seen HSN.o;have hgp:0<gf:=HC2.o.1;clear hgo hlt2 HFD hnx
     by_cases hjd:j<U.length
     all_goals
      (go_wp2_with fail);(with_reducible refine HHA.o.mono ?_);rintro e w4⟨rfl,rfl⟩
      cases hms:zCU (l++[p]) q with
      |true =>
       have HRS:=zq (HC2.o.2.stop (by rw[<-hma];exact hms));clear hms hma;exact tep
      |false =>
       have HM2:Hid (zCU (p::seen) q=false):=by show _=_;rw[<-hma];exact hms
       clear hms hma;go_wp2
       go_roundg (gf-1)
       case measure=>omega
       case rel=>exact⟨_,q,l++[p],p::seen,rfl,rfl,HBW.o,(by have:=HO.o;rwa [hsz]at this),zg,zg,fun x=>memS_app l p x seen HSN.o,HM2.o,HC2.o.2⟩
end Go.Proofs.YtbbchlpccgkikaaGreatDoor
