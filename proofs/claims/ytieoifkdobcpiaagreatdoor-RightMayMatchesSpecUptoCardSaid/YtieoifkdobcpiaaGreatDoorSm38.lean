/- The reference's mayUse: whether a party may use the part of a holder. -/
import Derived.Test.YtieoifkdobcpiaaGreatDoorSm37
set_option maxRecDepth 100000
set_option maxHeartbeats 8000000
namespace Go.Proofs.YtieoifkdobcpiaaGreatDoor
open Go.RowKit Dw
theorem quiet_load_ti {ops:Array Oper} {C:World→Prop} {Q:Act→Prop} {a:Act} {op:Oper} {rest:List Oper} (hw:Region.wanted op (yielded ops a.tmps)=true) (x:Operand) (ho:op.op = .load 26 x) (b o:Nat) (hx:a.eval x = .pointer (some ⟨b,o,none⟩)) (T:Array Value) (hT:T.size=3)
  (hS:∀ w,C w→w.rangeAt b o T.toList) (h:wpQuiet Tryz.prog ops C Q rest (a.put op.dst (.agg T))):wpQuiet Tryz.prog ops C Q (op::rest) a:=by
 unfold wpQuiet;rw [aE hw];refine ⟨.agg T,fun w hC=>?_,h⟩
 have hrun:(loadVar 26 ⟨b,o,none⟩).run Tryz.prog w = .ok (.agg T.toList.toArray) w:=run_loadVar_mid w b o _ _ _ (hS w hC) Tryz.underlying26 rfl (by
  rw [Array.length_toList,hT];kernel_rfl)
 unfold Oper.quietAt execOp;simp only [ho,hx,Instr.loadAt,Instr.sureAddr,Sem.run_bind,Sem.run_pure,Result.andThen_ok,hrun,Oper.quietUpon]
 first | exact ⟨rfl,rfl⟩ | exact ⟨trivial,rfl⟩ | trivial
theorem own_oneS (w:World) (base:Nat) (s:BA) (hb:base≤w.heap.size):zAT encS 1 (w.alloc (.cells #[.string s] 9)) base 9 (.slice (some ⟨w.heap.size,0,none⟩) 1 1) [s] :=
 ⟨rfl,.inr ⟨w.heap.size,1,_,rfl,hb,cS _ _,aB _,zm,rfl,rfl⟩⟩
def MuR1 (W:World) (ds:List De) (ps:List BA) (Q:BA→De→Bool) (party:BA) (res:Bool) (n m:Nat) (qv iv:Value) (wr:World):Prop :=
 ∃ (i:Nat) (v:Value) (G:List BA),v=qv∧iv = .int .i64 (i:Nat)∧zAT encS 1 wr W.heap.size 9 v G∧Giv ps G∧i+m=n∧mayN ds Q party m i G=res∧Below W.heap.size W wr
def MuR2 (W:World) (i:Nat) (g:BA) (ds:List De) (P:De→Bool) (ps:List BA) (party:BA) (sc:Option (List BA)) (m:Nat) (qv kv:Value) (wr:World):Prop :=
 ∃ (k:Nat) (v:Value) (G:List BA),v=qv∧kv = .int .i64 (k:Nat)∧zAT encS 1 wr W.heap.size 9 v G∧Giv ps G∧G[i]?=some g∧k+m=ds.length∧zDr P party (ds.drop k) G=sc∧Below W.heap.size W wr
theorem mayUse_c (RA:Option Addr) (rc:Nat) (rs:List Rg) (UA:Option Addr) (uc:Nat) (us:List BA) (DA:Option Addr) (dc:Nat) (ds:List De) (i:Nat) (th party ho pl use:BA) (day:Int) (w:World)
  (hr:Rgs w RA rs) (hd:Des w DA ds) (g:GoodR rs) (hi:i<rs.length) (hpl:(rs[i]).nm=pl) (hdl:ds.length≤200) (hoe:OneEnd ds) (hsh:∀ d∈ds,d.ar.length≤100∧d.us.length≤20) (hto:∀ d∈ds,d.kd=3→d.to_≠emp) :
  Calls Tryz.prog 58 #[.agg (tiC RA rc rs UA uc us DA dc ds),.string th,.string party,.string ho,.agg (whrC pl use day),.int .i64 (ds.length:Int)] w (zAe (.bool (mayF rs ds i use day th party ho)) w):=by
 obtain ⟨res,hres⟩:∃ res,res=mayF rs ds i use day th party ho:=⟨_,rfl⟩;rw [←hres];have HRES:=zq hres;clear hres;have hbw:Below w.heap.size w ((w.alloc (.cells (tiC RA rc rs UA uc us DA dc ds) 26)).alloc (.cells (whrC pl use day) 117)):=((aS _ _).alloc (aB _) _).alloc ze _;have HX:Hid (Bx ((w.alloc (.cells (tiC RA rc rs UA uc us DA dc ds) 26)).alloc (.cells (whrC pl use day) 117)) w.heap.size (tiC RA rc rs UA uc us DA dc ds) 26):=(Bx.new _ _ _).alloc _;have HY:Hid (Bx ((w.alloc (.cells (tiC RA rc rs UA uc us DA dc ds) 26)).alloc (.cells (whrC pl use day) 117)) (w.heap.size+1) (whrC pl use day) 117):=Bx.new1 _ _ _ _;obtain ⟨W,hW⟩:∃ W,W=(w.alloc (.cells (tiC RA rc rs UA uc us DA dc ds) 26)).alloc (.cells (whrC pl use day) 117):=⟨_,rfl⟩;rw [←hW] at hbw HX HY;have HB:=zq hbw;have HDW:=zq (hd.below hbw);have HRW:=zq (hr.below hbw);have HSH:=zq hsh;have HCO:=zq (controlsR_c RA rc rs UA uc us DA dc ds i th ho pl use day W HRW.o HDW.o g hi hpl hdl hoe hsh hto);have HPS:=zq (ctlF_mem (rs:=rs) (ds:=ds) (i:=i) (use:=use) (day:=day) (th:=th) (ho:=ho));unfold mayF at HRES;obtain ⟨c,hcc⟩:∃ c,c=ctlF rs ds i use day th ho:=⟨_,rfl⟩;rw [←hcc] at HCO HPS HRES;clear hbw hr hd hsh hto hcc
 go_enter Tryz.func58,Tryz.ntmps58
 go_upto_region 1 with fail
 rw [←hW];clear hW;obtain ⟨y0,y1,y2⟩:=HY.o.t;have hsy:=HY.o.lt
 iterate 2 go_step
 refine fC _ _ zk w.heap.size 0 zk (tiC RA rc rs UA uc us DA dc ds).toList _ (zBZ HX.o) Tryz.underlying26 rfl zc ?_
 go_wp2_with fail
 with_reducible refine HCO.o.mono ?_
 rintro e w1 ⟨rfl,hb1⟩;have HB1:=zq hb1;clear hb1 HCO y0 y1 y2 hsy;go_upto_region 2 with fail
 obtain ⟨w2,hw2⟩:∃ w2,w2=w1.alloc (.cells #[.string c] 9):=⟨_,rfl⟩;rw [←hw2];have hba:Below w1.heap.size w1 w2:=by rw [hw2];exact (aS _ _).alloc (aB _) _
 have HQ2:Hid (Bx w2 w1.heap.size #[.string c] 9):=by show Bx _ _ _ _;rw [hw2];exact Bx.new _ _ _
 have HB2:=zq (zAa HB1.o hba)
 have HO2:Hid (zAT encS 1 w2 W.heap.size 9 (.slice (some ⟨w1.heap.size,0,none⟩) 1 1) [c]):=by
  show zAT _ _ _ _ _ _ _
  rw [hw2];exact own_oneS w1 _ c HB1.o.size
 clear hw2 hba;have q0:=HQ2.o.c 0 rfl;have ql:=HQ2.o.lt
 by_cases hcp:c=party
 ·have e1:=zAn hcp
  have HS:Hid (res=true):=by show _=_;rw [HRES.o,aE hcp]
  clear hcp;go_wp2;go_ret
  exact zAe.mk jq (zAa HB.o HB2.o)
 have e1:=zAm hcp;rw [aC hcp] at HRES;clear hcp;go_wp2;clear q0 ql e1
 go_loopg [13,14] (ds.length+2) (MuR1 W ds (ho::ds.map De.to_) (fun g=>zCF rs ds i use day th g false) party res (ds.length+2))
 case atStart=>exact ⟨0,_,[c],rfl,rfl,HO2.o,Giv.one HPS.o,za,HRES.o.symm,HB2.o⟩
 clear HO2 HB2 HB1 HQ2 HPS HRES
 case round =>
  obtain ⟨j,v,G,rfl,rfl,how,hgv,hjm,hmy,hb⟩:=hrel;have HO:=zq how;have HG:=zq hgv;have HJ:=zq hjm;have HMY:=zq hmy;have HBW:=zq hb;have hgl:G.length≤ds.length+1:=by simpa using hgv.len
  clear how hgv hjm hmy hb;obtain ⟨A0,c0,rfl,hrd0⟩:=HO.o.rd1
  by_cases hlt:j<G.length
  ·obtain ⟨f,rfl⟩:∃ f,gk=f+1:=⟨gk - 1,yb⟩
   obtain ⟨gg,hg⟩:∃ g,G[j]=g:=⟨_,rfl⟩;have HYES:=zq (mayN_yes (ds:=ds) (Q:=fun g=>zCF rs ds i use day th g false) (party:=party) (f:=f) hlt)
   have HNXT:=zq (fun G'=>mayN_next (ds:=ds) (Q:=fun g=>zCF rs ds i use day th g false) (party:=party) (f:=f) (G':=G') hlt)
   simp only [hg] at HYES HNXT;have HGJ:Hid (G[j]?=some gg):=by show _=_;rw [List.getElem?_eq_getElem hlt,hg]
   obtain ⟨sc,hsc⟩:∃ sc,sc=zDr (zCF rs ds i use day th gg false) party ds G:=⟨_,rfl⟩
   have HYS:Hid (sc=none→res=true):=fun h=>by
    rw [←HMY.o];exact HYES.o (by rw [←hsc,h])
   have HNS:Hid (∀ G',sc=some G'→mayN ds (fun g=>zCF rs ds i use day th g false) party f (j+1) G'=res):=fun G' h=>by
    rw [←HMY.o];exact (HNXT.o G' (by rw [←hsc,h])).symm
   have HSC0:=zq hsc;clear hsc hg HYES HNXT HMY hrd0;go_wp2
   go_loopg [13,15] ds.length (MuR2 W j gg ds (zCF rs ds i use day th gg false) (ho::ds.map De.to_) party sc)
   case atStart=>exact ⟨0,_,G,rfl,rfl,HO.o,HG.o,HGJ.o,za,HSC0.o.symm,HBW.o⟩
   clear HO HG HGJ HSC0 HBW hlt hgl
   case round =>
    obtain ⟨k,v,G,rfl,rfl,how,hgv,hgj,hkm,hsf,hb⟩:=hrel;have HO:=zq how;have HG:=zq hgv;have HGJ:=zq hgj;have HK:=zq hkm;have HSC:=zq hsf;have HBW:=zq hb;have hgl:G.length≤ds.length+1:=by simpa using hgv.len
    obtain ⟨hjl,hgj2⟩:=List.getElem?_eq_some_iff.1 hgj;have hkl:k≤ds.length:=za;clear how hgv hgj hkm hsf hb
    by_cases hlt:k<ds.length
    ·obtain ⟨A1,c1,rfl,hrd⟩:=HO.o.rd1
     obtain ⟨bG,oG,hA,hbG,hcG⟩:=hrd.at_ za;subst hA;have hgc:=hcG j hjl;rw [hgj2] at hgc;obtain ⟨b,o,hA,hb0,hc0⟩:=HDW.o za;subst hA;obtain ⟨d,hdd⟩:∃ d,ds[k]=d:=⟨_,rfl⟩;have hp:=(hc0 k hlt).1;rw [hdd] at hp;have hrg:wr.rangeAt b (o+k*16) (deC d).toList:=fun t v hv=>(HBW.o.cell (p:=⟨b,o+k*16+t,none⟩) hb0).trans (hp t v hv)
     have HVR:Hid (zAh d.kd=true→∀ u,Below W.heap.size W u→Calls Tryz.prog 99 #[.agg (tiC RA rc rs UA uc us (some ⟨b,o,none⟩) dc ds),.int .i64 (k:Int),.agg (whrC pl use day)] u (zAe (.bool (vB rs ds i use day d)) u)):=fun hgv u hu=>by
      have:=validR_c RA rc rs UA uc us (some ⟨b,o,none⟩) dc ds k i pl use day u (HRW.o.below hu) (HDW.o.below hu) g hi hpl hlt hdl hoe (by rw [hdd];exact hgv) (HSH.o _ (aJ hlt)).2 (HSH.o _ (aJ hlt)).1
      rwa [hdd] at this
     have HDM:Hid (d.to_∈ho::ds.map De.to_):=to_mem (by rw [←hdd];exact aJ hlt) ho
     have HSC2:=HSC.o;rw [aF hlt,hdd] at HSC2;have HSC2:=zq HSC2;have x2:_=some (Value.slice (some ⟨b,o,none⟩) ds.length dc):=(HX.o.below HBW.o).c 2 rfl;have hsx:=(HX.o.below HBW.o).lt;clear hp hc0 hdd hcG hrd hgj2;go_upto_region 10 with fail
     iterate 14 go_step
     refine fC _ _ zk b (o+k*16) zk (deC d).toList _ hrg Tryz.underlying52 rfl zc ?_
     clear hrg x2 hsx;go_upto_region 11 with fail
     obtain ⟨wd,hwd⟩:∃ wd,wd=wr.alloc (.cells (deC d) 52):=⟨_,rfl⟩;rw [←hwd];have hbd:Below wr.heap.size wr wd:=zt;have HD1:Hid (Bx wd wr.heap.size (deC d) 52):=yg;have HBD:=zq (zAa HBW.o hbd);have HOD:=zq (HO.o.below hbd);have HXD:=zq (HX.o.below HBD.o);have HYD:=zq (HY.o.below HBD.o);have gc:=zAg hbd hgc;clear hwd hbd HO HBW hgc;have d2:=HD1.o.c 2 rfl;have d3:=HD1.o.c 3 rfl;have d4:=HD1.o.c 4 rfl;have d8:wd.cell? ⟨wr.heap.size,8,none⟩=some (.bool d.ex):=HD1.o.c 8 rfl;have hsd:=HD1.o.lt;have HNO:Hid (zCF rs ds i use day th gg false d=false→zDr (zCF rs ds i use day th gg false) party (ds.drop (k+1)) G=sc):=fun h=>by rw [←HSC2.o,scanL_skip h]
     by_cases hq3:d.kd=3
     case neg =>
      have e1:(d.kd != 3)=true:=by simpa using hq3
      have HN:=zq (HNO.o (by unfold zCF;rw [cX hq3];rfl))
      clear hq3 HNO
      go_quiet (fail)
      go_wp2
      go_roundg (gk - 1)
      case measure=>have:=HK.o;omega
      case rel=>exact ⟨k+1,_,G,rfl,zi,HOD.o.drewN _,HG.o,HGJ.o,zh,HN.o,zAd HBD.o _⟩
     have e1:(d.kd != 3)=false:=by simpa using hq3
     cases hex:d.ex with
     | true =>
      have HN:=zq (HNO.o (by unfold zCF;rw [hex];simp))
      rw [hex] at d8;clear hq3 HNO hex
      go_quiet (fail)
      go_wp2
      go_roundg (gk - 1)
      case measure=>have:=HK.o;omega
      case rel=>exact ⟨k+1,_,G,rfl,zi,HOD.o.drewN _,HG.o,HGJ.o,zh,HN.o,zAd HBD.o _⟩
     | false =>
      rw [hex] at d8
      by_cases ht:d.th=th
      case neg =>
       have q1:=zAm ht;have HN:=zq (HNO.o (by unfold zCF;rw [cX ht];simp))
       clear hq3 ht HNO hex
       go_quiet (fail)
       go_wp2
       go_roundg (gk - 1)
       case measure=>have:=HK.o;omega
       case rel=>exact ⟨k+1,_,G,rfl,zi,HOD.o.drewN _,HG.o,HGJ.o,zh,HN.o,zAd HBD.o _⟩
      have q1:=zAn ht
      by_cases hf:d.fr=gg
      case neg =>
       have q2:=zAm hf;have HN:=zq (HNO.o (by unfold zCF;rw [cX hf];simp))
       clear hq3 ht hf HNO hex
       go_quiet (fail)
       go_wp2
       go_roundg (gk - 1)
       case measure=>have:=HK.o;omega
       case rel=>exact ⟨k+1,_,G,rfl,zi,HOD.o.drewN _,HG.o,HGJ.o,zh,HN.o,zAd HBD.o _⟩
      have q2:=zAn hf;have HV:Hid (zCF rs ds i use day th gg false d=vB rs ds i use day d):=by show _=_;unfold zCF;rw [cW hq3,cW ht,cW hf,hex];rfl
      have HVQ:Hid (∀ d' os,Calls Tryz.prog 99 #[.agg (tiC RA rc rs UA uc us (some ⟨b,o,none⟩) dc ds),.int .i64 (k:Int),.agg (whrC pl use day)] (Sort.grow (redrawn wd d') os) (zAe (.bool (vB rs ds i use day d)) (Sort.grow (redrawn wd d') os))):=fun d' os =>
       HVR.o (by rw [hq3];rfl) _ (zAa HBD.o (below_regrown wd d' os))
      have HLD:Hid (∀ W',(∃ p:Regrown,W'=Sort.grow (redrawn wd p.d) p.os)→W'.rangeAt w.heap.size 0 (tiC RA rc rs UA uc us (some ⟨b,o,none⟩) dc ds).toList):=fun W' ⟨p,e⟩ i u hu=>by
       rw [e];exact cell_regrown (zBZ HXD.o i u hu) p.d p.os
      have d2':=fun d' os=>cell_regrown d2 d' os
      have d3':=fun d' os=>cell_regrown d3 d' os
      have d4':=fun d' os=>cell_regrown d4 d' os
      have d8':=fun d' os=>cell_regrown d8 d' os
      have gc':=fun d' os=>cell_regrown gc d' os
      have y0:=fun d' os=>cell_regrown (HYD.o.c 0 rfl) d' os
      have y1:=fun d' os=>cell_regrown (HYD.o.c 1 rfl) d' os
      have y2:=fun d' os=>cell_regrown (HYD.o.c 2 rfl) d' os
      generalize vB rs ds i use day d=vb at *;clear hq3 ht hf hex HVR;refine wp_region_quiet_below zc zc ?_
      iterate 23 (quiet_step (fail))
      refine quiet_load_ti zc _ zk w.heap.size 0 zk (tiC RA rc rs UA uc us (some ⟨b,o,none⟩) dc ds) rfl HLD.o ?_
      repeat (quiet_step (with_reducible exact Calls.regrown_of (HVQ.o _ _)))
      refine wpQuiet_nil ?_
      intro _ hw';obtain ⟨⟨dq,osq⟩,hw''⟩:=hw';subst hw'';have hbq:=below_regrown wd dq osq;have HBQ:=zq (zAa HBD.o hbq);have HOQ:=zq (HOD.o.below hbq);have HDQ:=zq (HD1.o.below hbq);clear hbq d2 d3 d4 d8 gc hsd d2' d3' d4' d8' gc' y0 y1 y2 HLD HVQ e1 q1 q2 HXD HYD HD1 HOD HBD;generalize Sort.grow (redrawn wd dq) osq=wq at *
      cases vb with
      | false =>
       have HN:=zq (HNO.o HV.o);clear HNO;go_wp2
       go_roundg (gk - 1)
       case measure=>have:=HK.o;omega
       case rel=>exact ⟨k+1,_,G,rfl,zi,HOQ.o,HG.o,HGJ.o,zh,HN.o,HBQ.o⟩
      | true =>
       clear HNO;have d5:wq.cell? ⟨wr.heap.size,5,none⟩=some (.string d.to_):=HDQ.o.c 5 rfl;have d9:wq.cell? ⟨wr.heap.size,9,none⟩=some (.bool d.sb):=HDQ.o.c 9 rfl;have hsd:=HDQ.o.lt
       by_cases htp:d.to_=party
       ·have q1:=zAn htp
        have HS:Hid (res=true):=HYS.o (by rw [←HSC2.o,scanL_hit HV.o htp])
        clear htp;go_wp2;go_ret
        exact zAe.mk jq (zAa HB.o HBQ.o)
       have q1:=zAm htp;have HTP:=zq htp;clear htp
       cases hsb:d.sb with
       | false =>
        have HSN:Hid (zDr (zCF rs ds i use day th gg false) party (ds.drop (k+1)) G=sc):=by show _=_;rw [←HSC2.o,scanL_old HV.o HTP.o (by rw [hsb];rfl)]
        rw [hsb] at d9;clear hsb;go_wp2
        go_roundg (gk - 1)
        case measure=>have:=HK.o;omega
        case rel=>exact ⟨k+1,_,G,rfl,zi,HOQ.o,HG.o,HGJ.o,zh,HSN.o,HBQ.o⟩
       | true =>
        rw [hsb] at d9;obtain ⟨A7,c7,hA7,hrd7⟩:=HOQ.o.rd1;have HHA:=zq (has_c A7 c7 G d.to_ wq za hrd7);rw [←hA7] at HHA;clear hA7 hrd7
        go_wp2_with fail
        with_reducible refine HHA.o.mono ?_
        rintro e w4 ⟨rfl,rfl⟩;clear HHA
        cases hms:zDt G d.to_ with
        | true =>
         have HSN:Hid (zDr (zCF rs ds i use day th gg false) party (ds.drop (k+1)) G=sc):=by show _=_;rw [←HSC2.o,scanL_old HV.o HTP.o (by rw [hms];simp)]
         clear hms hsb;go_wp2
         go_roundg (gk - 1)
         case measure=>have:=HK.o;omega
         case rel=>exact ⟨k+1,_,G,rfl,zi,HOQ.o,HG.o,HGJ.o,zh,HSN.o,HBQ.o⟩
        | false =>
         have HSN:Hid (zDr (zCF rs ds i use day th gg false) party (ds.drop (k+1)) (G++[d.to_])=sc):=by show _=_;rw [←HSC2.o,scanL_new HV.o HTP.o hsb hms]
         have HGN:=zq (HG.o.add HDM.o hms);have HGJ2:Hid ((G++[d.to_])[j]?=some gg):=by show _=_;rw [List.getElem?_append_left hjl];exact HGJ.o
         have hWq:W.heap.size≤wq.heap.size:=HBQ.o.size;clear hms hsb
         go_wp2_with (at_builtin;refine zBB _ _ _ elStr rfl rfl W.heap.size _ G rfl (HOQ.o.alloc _) wq.heap.size 1 d.to_ rfl (cS _ _) rfl zy zm za zg ?_;intro v1 w6 hown6 hg6 hb6)
         have HO6:Hid (zAT encS 1 w6 W.heap.size 9 v1 (G++[d.to_])):=hown6;have HB6:=zq ((HBQ.o.alloc hWq _).trans hb6);clear hown6 hg6 hb6 hWq;go_wp2
         go_roundg (gk - 1)
         case measure=>have:=HK.o;omega
         case rel=>exact ⟨k+1,v1,G++[d.to_],rfl,zi,HO6.o,HGN.o,HGJ2.o,zh,HSN.o,HB6.o⟩
    ·have hke:k=ds.length:=by have:=HK.o;omega
     have HRS:Hid (mayN ds (fun g=>zCF rs ds i use day th g false) party f (j+1) G=res):=HNS.o G (by
      rw [←HSC.o,hke,List.drop_length];rfl)
     have hke2:(k:Int)=(ds.length:Int):=by rw [hke]
     clear hke;go_wp2
     go_roundg f
     case measure=>omega
     case rel=>exact ⟨j+1,v,G,rfl,zi,HO.o,HG.o,yb,HRS.o,HBW.o⟩
  ·have HS:Hid (res=false):=by show _=_;rw [←HMY.o];exact mayN_end za
   clear hrd0;go_wp2;go_ret
   exact zAe.mk jq (zAa HB.o HBW.o)
end Go.Proofs.YtieoifkdobcpiaaGreatDoor
