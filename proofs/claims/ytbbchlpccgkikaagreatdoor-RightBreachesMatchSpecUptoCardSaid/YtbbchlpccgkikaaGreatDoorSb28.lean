/- The reference's mayUse: whether a party may use the part of a holder. -/
import Derived.Test.YtbbchlpccgkikaaGreatDoorSb27
set_option maxRecDepth 100000
set_option maxHeartbeats 8000000
namespace Go.Proofs.YtbbchlpccgkikaaGreatDoor
open Go.RowKit Dw
theorem quiet_load_ti{G:Array Oper}{C:World->Prop}{Q:Act->Prop}{a:Act}{op:Oper}{rest:List Oper}(hw:Region.wanted op (yielded G a.tmps)=true)(x:Operand)(ho:op.op=.load 26 x)(b o:Nat)(hx:a.eval x=.pointer (some ⟨b,o,none⟩))(T:Array Value)(hT:T.size=3)(hS:∀w,C w->w.rangeAt b o T.toList)(h:wpQuiet Tryz.prog G C Q rest (a.put op.dst (.agg T))):wpQuiet Tryz.prog G C Q (op::rest) a:=by
 unfold wpQuiet;rw[aF hw];refine⟨.agg T,fun w hC=>?_,h⟩
 have hrun:(loadVar 26 ⟨b,o,none⟩).run Tryz.prog w=.ok (.agg T.toList.toArray) w:=run_loadVar_mid w b o _ _ _ (hS w hC) Tryz.underlying26 rfl (by
  rw[Array.length_toList,hT];kernel_rfl)
 unfold Oper.quietAt execOp;simp only[ho,hx,Instr.loadAt,Instr.sureAddr,Sem.run_bind,Sem.run_pure,Result.andThen_ok,hrun,Oper.quietUpon]
 first|exact⟨rfl,rfl⟩|exact⟨trivial,rfl⟩|trivial
theorem own_oneS(w:World)(base:Nat)(s:BA)(I:base<=w.heap.size):zAv encS 1 (w.alloc (.cells #[.string s] 9)) base 9 (.slice (some ⟨w.heap.size,0,none⟩) 1 1) [s]:=
 ⟨rfl,.inr ⟨w.heap.size,1,_,rfl,I,aJ _ _,aK _,zn,rfl,rfl⟩⟩
def MuR1(W:World)(U:List De)(ps:List BA)(Q:BA->De->Bool)(party:BA)(res:Bool)(n m:Nat)(qv iv:Value)(wr:World):Prop:=
 ∃(i:Nat)(v:Value)(G:List BA),v=qv/\iv=.int .i64 (i:Nat)/\zAv encS 1 wr W.heap.size 9 v G/\Giv ps G/\i+m=n/\mayN U Q party m i G=res/\Below W.heap.size W wr
def MuR2(W:World)(i:Nat)(g:BA)(U:List De)(P:De->Bool)(ps:List BA)(party:BA)(sc:Option (List BA))(m:Nat)(qv kv:Value)(wr:World):Prop:=
 ∃(k:Nat)(v:Value)(G:List BA),v=qv/\kv=.int .i64 (k:Nat)/\zAv encS 1 wr W.heap.size 9 v G/\Giv ps G/\G[i]?=some g/\k+m=U.length/\zCy P party (U.drop k) G=sc/\Below W.heap.size W wr
theorem mayUse_c(RA:OA)(rc:Nat)(V:List Rg)(UA:OA)(O:Nat)(us:List BA)(DA:OA)(dc:Nat)(U:List De)(i:Nat)(th party ho pl S:BA)(day:Int)(w:World)(hr:Rgs w RA V)(hd:Des w DA U)(g:GoodR V)(hi:i<V.length)(hpl:(V[i]).nm=pl)(hdl:U.length<=200)(hoe:OneEnd U)(hsh:∀d∈U,d.ar.length<=100/\d.us.length<=20)(hto:∀d∈U,d.kd=3->d.to_≠emp): Calls Tryz.prog 117 #[.agg (tiC RA rc V UA O us DA dc U),.string th,.string party,.string ho,.agg (whrC pl S day),.int .i64 (U.length:Int)] w (zAf (.bool (mayF V U i S day th party ho)) w):=by
 obtain⟨res,C⟩:∃res,res=mayF V U i S day th party ho:=⟨_,rfl⟩;rw[<-C];have HRES:=zq C;clear C;have hbw:Below w.heap.size w ((w.alloc (.cells (tiC RA rc V UA O us DA dc U) 26)).alloc (.cells (whrC pl S day) 135)):=((aR _ _).alloc (aK _) _).alloc ze _;have HX:Hid (Bx ((w.alloc (.cells (tiC RA rc V UA O us DA dc U) 26)).alloc (.cells (whrC pl S day) 135)) w.heap.size (tiC RA rc V UA O us DA dc U) 26):=(Bx.new _ _ _).alloc _;have HY:Hid (Bx ((w.alloc (.cells (tiC RA rc V UA O us DA dc U) 26)).alloc (.cells (whrC pl S day) 135)) (w.heap.size+1) (whrC pl S day) 135):=Bx.new1 _ _ _ _;obtain⟨W,hW⟩:∃W,W=(w.alloc (.cells (tiC RA rc V UA O us DA dc U) 26)).alloc (.cells (whrC pl S day) 135):=⟨_,rfl⟩;rw[<-hW]at hbw HX HY;have HB:=zq hbw;have HDW:=zq (hd.below hbw);have HRW:=zq (hr.below hbw);have HSH:=zq hsh;have HCO:=zq (controlsR_c RA rc V UA O us DA dc U i th ho pl S day W HRW.o HDW.o g hi hpl hdl hoe hsh hto);have HPS:=zq (ctlF_mem (V:=V) (U:=U) (i:=i) (S:=S) (day:=day) (th:=th) (ho:=ho));unfold mayF at HRES;obtain⟨c,hcc⟩:∃c,c=ctlF V U i S day th ho:=⟨_,rfl⟩;rw[<-hcc]at HCO HPS HRES;clear hbw hr hd hsh hto hcc
 go_enter Tryz.func117,Tryz.ntmps117;(go_upto_region 1 with fail);rw[<-hW];clear hW;obtain⟨y0,y1,y2⟩:=HY.o.t;have hsy:=HY.o.lt;(iterate 2 go_step);refine fG _ _ zk w.heap.size 0 zk (tiC RA rc V UA O us DA dc U).toList _ (zBt HX.o) Tryz.underlying26 rfl zc ?_;(go_wp2_with fail);(with_reducible refine HCO.o.mono ?_);rintro e w1⟨rfl,hb1⟩;have HB1:=zq hb1;clear hb1 HCO y0 y1 y2 hsy;(go_upto_region 2 with fail);obtain⟨w2,hw2⟩:∃w2,w2=w1.alloc (.cells #[.string c] 9):=⟨_,rfl⟩;rw[<-hw2];have hba:Below w1.heap.size w1 w2:=by rw[hw2];exact(aR _ _).alloc (aK _) _
 have HQ2:Hid (Bx w2 w1.heap.size #[.string c] 9):=by show Bx _ _ _ _;rw[hw2];exact Bx.new _ _ _
 have HB2:=zq (zAa HB1.o hba)
 have HO2:Hid (zAv encS 1 w2 W.heap.size 9 (.slice (some ⟨w1.heap.size,0,none⟩) 1 1) [c]):=by
  show zAv _ _ _ _ _ _ _
  rw[hw2];exact own_oneS w1 _ c HB1.o.size
 clear hw2 hba;have q0:=HQ2.o.c 0 rfl;have ql:=HQ2.o.lt
 by_cases hcp:c=party
 ·have e1:=zAn hcp
  have HS:Hid (res=true):=by show _=_;rw[HRES.o,aF hcp]
  clear hcp;go_wp2;go_ret
  exact zAf.mk qf (zAa HB.o HB2.o)
 have e1:=zAp hcp;rw[aO hcp]at HRES;clear hcp;go_wp2;clear q0 ql e1
 go_loopg[13,14] (U.length+2) (MuR1 W U (ho::U.map De.to_) (fun g=>zBN V U i S day th g false) party res (U.length+2))
 case atStart=>exact⟨0,_,[c],rfl,rfl,HO2.o,Giv.one HPS.o,za,HRES.o.symm,HB2.o⟩
 clear HO2 HB2 HB1 HQ2 HPS HRES
 case round =>
  obtain⟨j,v,G,rfl,rfl,how,hgv,hjm,hmy,I⟩:=hrel;have HO:=zq how;have HG:=zq hgv;have HJ:=zq hjm;have HMY:=zq hmy;have HBW:=zq I;have hgl:G.length<=U.length+1:=by simpa using hgv.len
  clear how hgv hjm hmy I;obtain⟨A0,c0,rfl,hrd0⟩:=HO.o.rd1
  by_cases Y:j<G.length
  ·obtain⟨f,rfl⟩:∃f,gk=f+1:=⟨gk-1,ya⟩
   obtain⟨gg,hg⟩:∃g,G[j]=g:=⟨_,rfl⟩;have HYES:=zq (mayN_yes (U:=U) (Q:=fun g=>zBN V U i S day th g false) (party:=party) (f:=f) Y);have HNXT:=zq (fun G'=>mayN_next (U:=U) (Q:=fun g=>zBN V U i S day th g false) (party:=party) (f:=f) (G':=G') Y);simp only[hg]at HYES HNXT;have HGJ:Hid (G[j]?=some gg):=by show _=_;rw[List.getElem?_eq_getElem Y,hg]
   obtain⟨sc,hsc⟩:∃sc,sc=zCy (zBN V U i S day th gg false) party U G:=⟨_,rfl⟩
   have HYS:Hid (sc=none->res=true):=fun h=>by
    rw[<-HMY.o];exact HYES.o (by rw[<-hsc,h])
   have HNS:Hid (∀G',sc=some G'->mayN U (fun g=>zBN V U i S day th g false) party f (j+1) G'=res):=fun G' h=>by
    rw[<-HMY.o];exact(HNXT.o G' (by rw[<-hsc,h])).symm
   have HSC0:=zq hsc;clear hsc hg HYES HNXT HMY hrd0;go_wp2
   go_loopg[13,15] U.length (MuR2 W j gg U (zBN V U i S day th gg false) (ho::U.map De.to_) party sc)
   case atStart=>exact⟨0,_,G,rfl,rfl,HO.o,HG.o,HGJ.o,za,HSC0.o.symm,HBW.o⟩
   clear HO HG HGJ HSC0 HBW Y hgl
   case round =>
    obtain⟨k,v,G,rfl,rfl,how,hgv,hgj,hkm,hsf,I⟩:=hrel;have HO:=zq how;have HG:=zq hgv;have HGJ:=zq hgj;have HK:=zq hkm;have HSC:=zq hsf;have HBW:=zq I;have hgl:G.length<=U.length+1:=by simpa using hgv.len
    obtain⟨hjl,hgj2⟩:=List.getElem?_eq_some_iff.1 hgj;have hkl:k<=U.length:=za;clear how hgv hgj hkm hsf I
    by_cases Y:k<U.length
    ·obtain⟨A1,c1,rfl,hrd⟩:=HO.o.rd1
     obtain⟨bG,oG,hA,hbG,hcG⟩:=hrd.at_ za;subst hA;have hgc:=hcG j hjl;rw[hgj2]at hgc;obtain⟨b,o,hA,hb0,hc0⟩:=HDW.o za;subst hA;obtain⟨d,T⟩:∃d,U[k]=d:=⟨_,rfl⟩;have hp:=(hc0 k Y).1;rw[T]at hp;have N:wr.rangeAt b (o+k*16) (deC d).toList:=fun t v hv=>(HBW.o.cell (p:=⟨b,o+k*16+t,none⟩) hb0).trans (hp t v hv)
     have HVR:Hid (zAg d.kd=true->∀u,Below W.heap.size W u->Calls Tryz.prog 113 #[.agg (tiC RA rc V UA O us (some ⟨b,o,none⟩) dc U),.int .i64 (k:Int),.agg (whrC pl S day)] u (zAf (.bool (vB V U i S day d)) u)):=fun hgv u hu=>by
      have:=validR_c RA rc V UA O us (some ⟨b,o,none⟩) dc U k i pl S day u (HRW.o.below hu) (HDW.o.below hu) g hi hpl Y hdl hoe (by rw[T];exact hgv) (HSH.o _ (aH Y)).2 (HSH.o _ (aH Y)).1
      rwa [T]at this
     have HDM:Hid (d.to_∈ho::U.map De.to_):=to_mem (by rw[<-T];exact aH Y) ho;have HSC2:=HSC.o;rw[bO Y,T]at HSC2;have HSC2:=zq HSC2;have x2:_=some (Value.slice (some ⟨b,o,none⟩) U.length dc):=(HX.o.below HBW.o).c 2 rfl;have hsx:=(HX.o.below HBW.o).lt;clear hp hc0 T hcG hrd hgj2;(go_upto_region 10 with fail);(iterate 14 go_step);refine fG _ _ zk b (o+k*16) zk (deC d).toList _ N Tryz.underlying126 rfl zc ?_;clear N x2 hsx;(go_upto_region 11 with fail);obtain⟨wd,hwd⟩:∃wd,wd=wr.alloc (.cells (deC d) 126):=⟨_,rfl⟩;rw[<-hwd];have hbd:Below wr.heap.size wr wd:=zm;have m:Hid (Bx wd wr.heap.size (deC d) 126):=zo;have HBD:=zq (zAa HBW.o hbd);have HOD:=zq (HO.o.below hbd);have HXD:=zq (HX.o.below HBD.o);have HYD:=zq (HY.o.below HBD.o);have gc:=zAe hbd hgc;clear hwd hbd HO HBW hgc;have d2:=m.o.c 2 rfl;have d3:=m.o.c 3 rfl;have d4:=m.o.c 4 rfl;have d8:wd.cell? ⟨wr.heap.size,8,none⟩=some (.bool d.ex):=m.o.c 8 rfl;have hsd:=m.o.lt;have HNO:Hid (zBN V U i S day th gg false d=false->zCy (zBN V U i S day th gg false) party (U.drop (k+1)) G=sc):=fun h=>by rw[<-HSC2.o,scanL_skip h]
     by_cases hq3:d.kd=3
     case neg =>
      have e1:(d.kd != 3)=true:=by simpa using hq3
      have HN:=zq (HNO.o (by unfold zBN;rw[aE hq3];rfl));clear hq3 HNO;exact tbz
     have e1:(d.kd != 3)=false:=by simpa using hq3
     cases hex:d.ex with
     |true =>
      have HN:=zq (HNO.o (by unfold zBN;rw[hex];simp));rw[hex]at d8;clear hq3 HNO hex;exact tbz
     |false =>
      rw[hex]at d8
      by_cases ht:d.th=th
      case neg =>
       have q1:=zAp ht;have HN:=zq (HNO.o (by unfold zBN;rw[aE ht];simp));clear hq3 ht HNO hex;exact tbz
      have q1:=zAn ht
      by_cases hf:d.fr=gg
      case neg =>
       have q2:=zAp hf;have HN:=zq (HNO.o (by unfold zBN;rw[aE hf];simp));clear hq3 ht hf HNO hex;exact tbz
      have q2:=zAn hf;have HV:Hid (zBN V U i S day th gg false d=vB V U i S day d):=by show _=_;unfold zBN;rw[aD hq3,aD ht,aD hf,hex];rfl
      have HVQ:Hid (∀d' os,Calls Tryz.prog 113 #[.agg (tiC RA rc V UA O us (some ⟨b,o,none⟩) dc U),.int .i64 (k:Int),.agg (whrC pl S day)] (Sort.grow (redrawn wd d') os) (zAf (.bool (vB V U i S day d)) (Sort.grow (redrawn wd d') os))):=fun d' os =>
       HVR.o (by rw[hq3];rfl) _ (zAa HBD.o (below_regrown wd d' os))
      have HLD:Hid (∀W',(∃p:Regrown,W'=Sort.grow (redrawn wd p.d) p.os)->W'.rangeAt w.heap.size 0 (tiC RA rc V UA O us (some ⟨b,o,none⟩) dc U).toList):=fun W' ⟨p,e⟩ i u hu=>by
       rw[e];exact cell_regrown (zBt HXD.o i u hu) p.d p.os
      have d2':=fun d' os=>cell_regrown d2 d' os
      have d3':=fun d' os=>cell_regrown d3 d' os
      have d4':=fun d' os=>cell_regrown d4 d' os
      have d8':=fun d' os=>cell_regrown d8 d' os
      have gc':=fun d' os=>cell_regrown gc d' os
      have y0:=fun d' os=>cell_regrown (HYD.o.c 0 rfl) d' os
      have y1:=fun d' os=>cell_regrown (HYD.o.c 1 rfl) d' os
      have y2:=fun d' os=>cell_regrown (HYD.o.c 2 rfl) d' os
      generalize vB V U i S day d=vb at *;clear hq3 ht hf hex HVR;refine wp_region_quiet_below zc zc ?_;iterate 23(quiet_step(fail))
      refine quiet_load_ti zc _ zk w.heap.size 0 zk (tiC RA rc V UA O us (some ⟨b,o,none⟩) dc U) rfl HLD.o ?_
      repeat(quiet_step(with_reducible exact Calls.regrown_of (HVQ.o _ _)))
      refine wpQuiet_nil ?_;intro _ hw';obtain⟨⟨dq,osq⟩,hw''⟩:=hw';subst hw'';have hbq:=below_regrown wd dq osq;have HBQ:=zq (zAa HBD.o hbq);have HOQ:=zq (HOD.o.below hbq);have HDQ:=zq (m.o.below hbq);clear hbq d2 d3 d4 d8 gc hsd d2' d3' d4' d8' gc' y0 y1 y2 HLD HVQ e1 q1 q2 HXD HYD m HOD HBD;generalize Sort.grow (redrawn wd dq) osq=wq at *
      cases vb with
      |false =>
       have HN:=zq (HNO.o HV.o);clear HNO;go_wp2
       go_roundg (gk-1)
       case measure=>have:=HK.o;omega
       case rel=>exact⟨k+1,_,G,rfl,zi,HOQ.o,HG.o,HGJ.o,zh,HN.o,HBQ.o⟩
      |true =>
       clear HNO;have d5:wq.cell? ⟨wr.heap.size,5,none⟩=some (.string d.to_):=HDQ.o.c 5 rfl;have d9:wq.cell? ⟨wr.heap.size,9,none⟩=some (.bool d.sb):=HDQ.o.c 9 rfl;have hsd:=HDQ.o.lt
       by_cases htp:d.to_=party
       ·have q1:=zAn htp
        have HS:Hid (res=true):=HYS.o (by rw[<-HSC2.o,scanL_hit HV.o htp]);clear htp;go_wp2;go_ret
        exact zAf.mk qf (zAa HB.o HBQ.o)
       have q1:=zAp htp;have HTP:=zq htp;clear htp
       cases hsb:d.sb with
       |false =>
        have HSN:Hid (zCy (zBN V U i S day th gg false) party (U.drop (k+1)) G=sc):=by show _=_;rw[<-HSC2.o,scanL_old HV.o HTP.o (by rw[hsb];rfl)]
        rw[hsb]at d9;clear hsb;exact tci
       |true =>
        rw[hsb]at d9;obtain⟨A7,c7,hA7,hrd7⟩:=HOQ.o.rd1;have HHA:=zq (has_c A7 c7 G d.to_ wq za hrd7);rw[<-hA7]at HHA;clear hA7 hrd7;(go_wp2_with fail);(with_reducible refine HHA.o.mono ?_);rintro e w4⟨rfl,rfl⟩;clear HHA
        cases hms:zCU G d.to_ with
        |true =>
         have HSN:Hid (zCy (zBN V U i S day th gg false) party (U.drop (k+1)) G=sc):=by show _=_;rw[<-HSC2.o,scanL_old HV.o HTP.o (by rw[hms];simp)]
         clear hms hsb;exact tci
        |false =>
         have HSN:Hid (zCy (zBN V U i S day th gg false) party (U.drop (k+1)) (G++[d.to_])=sc):=by show _=_;rw[<-HSC2.o,scanL_new HV.o HTP.o hsb hms]
         have HGN:=zq (HG.o.add HDM.o hms);have HGJ2:Hid ((G++[d.to_])[j]?=some gg):=by show _=_;rw[List.getElem?_append_left hjl];exact HGJ.o
         have hWq:W.heap.size<=wq.heap.size:=HBQ.o.size;clear hms hsb
         go_wp2_with (at_builtin;refine zAT _ _ _ elStr rfl rfl W.heap.size _ G rfl (HOQ.o.alloc _) wq.heap.size 1 d.to_ rfl (aJ _ _) rfl zr zn za zg ?_;intro v1 w6 hown6 hg6 hb6)
         have HO6:Hid (zAv encS 1 w6 W.heap.size 9 v1 (G++[d.to_])):=hown6;have HB6:=zq ((HBQ.o.alloc hWq _).trans hb6);clear hown6 hg6 hb6 hWq;go_wp2
         go_roundg (gk-1)
         case measure=>have:=HK.o;omega
         case rel=>exact⟨k+1,v1,G++[d.to_],rfl,zi,HO6.o,HGN.o,HGJ2.o,zh,HSN.o,HB6.o⟩
    ·have hke:k=U.length:=by have:=HK.o;omega
     have HRS:Hid (mayN U (fun g=>zBN V U i S day th g false) party f (j+1) G=res):=HNS.o G (by
      rw[<-HSC.o,hke,List.drop_length];rfl)
     have hke2:(k:Int)=(U.length:Int):=by rw[hke]
     clear hke;go_wp2
     go_roundg f
     case measure=>omega
     case rel=>exact⟨j+1,v,G,rfl,zi,HO.o,HG.o,ya,HRS.o,HBW.o⟩
  ·have HS:Hid (res=false):=by show _=_;rw[<-HMY.o];exact mayN_end za
   clear hrd0;go_wp2;go_ret
   exact zAf.mk qf (zAa HB.o HBW.o)
end Go.Proofs.YtbbchlpccgkikaaGreatDoor
