/- Package right: who holds what (holdings). -/
import Derived.Test.YtbbchlpccgkikaaGreatDoorSh27
import Derived.Test.YtbbchlpccgkikaaGreatDoorSh29
import Derived.Deep.CutBlock
set_option maxRecDepth 100000
set_option maxHeartbeats 8000000
namespace Go.Proofs.YtbbchlpccgkikaaGreatDoor
open Go.RowKit Dw
def GivesHd(gq:zAV->Rat)(rs:List Rg)(us:List BA)(ds:List De)(th:BA)(w:World)(e:Ending)(w':World):Prop:=
 ∃(v:Value)(hs:List HM)(f:Int),e=.returned (.tuple #[v,.int .i64 f])/\OwnH w' w.heap.size v hs/\(∀h∈hs,OwnAr w' w.heap.size h)/\Below w.heap.size w w'/\HdRes gq rs us ds th (hs.map plH) f
def HuR(gq:zAV->Rat)(W:World)(B:Nat)(rs:List Rg)(us:List BA)(ds:List De)(th:BA)(E:List Int)(H:List Nat)(m:Nat)(ov iv:Value)(wr:World):Prop:=
 ∃(k:Nat)(v:Value)(hs:List HM),v=ov/\k+m=us.length/\iv=.int .i64 (k:Nat)/\OwnH wr B v hs/\(∀h∈hs,OwnAr wr B h)/\hs.map plH=totR (gP gq rs ds th) rs H E (us.take k)/\hs.length<=2000 /\
  (∀u∈us.take k,∀d∈E,¬bigF rs ds th H u d)/\Below B W wr/\Cln isUB wr v
def BefQ(wr:World)(v:Value)(bl:List QM):Prop:=(bl=[]/\v=.slice none 0 0)\/(∃g c,v=.slice (some ⟨g,0,none⟩) bl.length c/\0<bl.length/\Qs wr (some ⟨g,0,none⟩) bl)
def HdR(gq:zAV->Rat)(W:World)(B:Nat)(rs:List Rg)(ds:List De)(th u:BA)(E:List Int)(H:List Nat)(R0:List PH)(m:Nat)(ov bv gv iv:Value)(wr:World):Prop:=
 ∃(j:Nat)(v v2:Value)(hs:List HM)(bl:List QM)(b:Int),v=ov/\v2=bv/\j+m=E.length/\gv=.int .i64 b/\iv=.int .i64 (j:Nat)/\OwnH wr B v hs/\(∀h∈hs,OwnAr wr B h)/\BefQ wr v2 bl/\(∀x∈bl,QOk wr x)/\hs.length<=2000 /\
  (bl.map QM.q,b,hs.map plH)=useR (gP gq rs ds th) rs H (E.take j) u R0/\(bl=[]\/bl.map QM.q=H.map fun h=>gP gq rs ds th u b (lfI rs h))/\(∀d∈E.take j,¬bigF rs ds th H u d)/\Below B W wr/\Cln isUB wr v
def HcR(gq:zAV->Rat)(W:World)(rs:List Rg)(ds:List De)(th u:BA)(d:Int)(H:List Nat)(m:Nat)(ov iv:Value)(wr:World):Prop:=
 ∃(k:Nat)(v:Value)(l:List QM),v=ov/\k+m=H.length/\iv=.int .i64 (k:Nat)/\OwnQ wr W.heap.size v l/\(∀x∈l,QOk wr x)/\l.map QM.q=(H.take k).map (fun h=>gP gq rs ds th u d (lfI rs h)) /\
  (∀h∈H.take k,zBN rs ds (lfI rs h) th u d ds.length=false)/\(200000<d->k=0)/\(l=[]->v=.slice none 0 0)/\Below W.heap.size W wr/\Cln isU wr v
theorem qm_of{q:Rat}{w:World}{e:Ending}{w':World}(h:zCj q w e w'):∃x:QM,e=.returned (raV false x.A x.c x.q.num.natAbs x.A2 x.c2 x.q.den)/\x.q=q/\Nt w' x.A x.c x.q.num.natAbs/\Nt w' x.A2 x.c2 x.q.den/\Below w.heap.size w w':=by
 obtain⟨A,c,A2,c2,rfl,h1,h2,hb⟩:=h;exact⟨⟨q,A,c,A2,c2⟩,rfl,rfl,h1,h2,hb⟩
theorem holdings_c(fid:FuncId)(hen:∀(args:Array Value)(w:World),(callFunc fid args).run Tryz.prog w=.ok (.enter fid args) w)(caps:Array Value)(gq:zAV->Rat)(RA:Option Addr)(rc:Nat)(rs:List Rg)(UA:Option Addr)(uc:Nat)(us:List BA)(DA:Option Addr)(dc:Nat)(ds:List De)(L:Nat)(th:BA)(w:World)(hl:LgIs RA rc rs UA uc us DA dc ds w L)(hu:Strs w UA us)(hd:Des w DA ds)(hc:zBQ rs us ds=0)(hdc:ds.length<=dc)(hgz:∀use day i,0<=gq (zAt rs ds i th use day ds.length)/\SzQ 100000000 (gq (zAt rs ds i th use day ds.length)))(hgc:∀use day i (u:World) (ga:Nat),Below w.heap.size w u->zAy u ga (zAt rs ds i th use day ds.length)->Calls Tryz.prog fid (#[.map (some ga)]++caps) u (zCj (gq (zAt rs ds i th use day ds.length)) u)): Calls Tryz.prog 32 #[.pointer (some ⟨L,0,none⟩),.string th,.func (.func fid) #[] caps] w (GivesHd gq rs us ds th w):=by
 have hus:∀d∈ds,d.us.length<=1000000:=fun d hd=>dC (short_of hc d hd).2 zc
 obtain⟨hcr,hul,hdl⟩:=zBM hc;have hkd:∀d∈ds,1<=d.kd/\d.kd<=5:=fun d hd=>(zBO hc d hd).kd
 have hnl:(zAf rs).length<=200:=dC (leafIdx_le rs) (zDt hcr).len;have HED:=zq (edges_c RA rc rs UA uc us DA dc ds L th w hl hd hdl hkd);have HLG:=zq hl;have HU:=zq hu;have HD:=zq hd;have HC:=zq hc;have HUS:=zq hus;have HGZ:=zq hgz;have HGC:=zq hgc;have HGR:=zq (zDt hcr);have HKD:=zq hkd;clear hl hu hd hc hus hgz hgc hcr hkd
 go_enter Tryz.func32,Tryz.ntmps32;(go_wp2_with fail);(with_reducible refine HED.o.mono ?_);rintro e w1⟨E,ge,ce,rfl,hEl,hEs,hEm,hEc,hb1⟩;have HES:=zq hEs;have HEM:=zq hEm;have HEC:=zq hEc;have HB1:=zq hb1;have HCL:=zq (classes_c RA rc rs UA uc us DA dc ds L th w1 (HLG.o.below hb1) (HD.o.below hb1) hdl hnl);clear hEs hEm hEc hb1 HED HKD;(go_wp2_with fail);(with_reducible refine HCL.o.mono ?_);rintro e w2⟨cv,H,rfl,hcls,hHn,hHlt,hcov,hall,hdis,hb2⟩;have hHl:H.length<=200:=dC hHn hnl;have HB2:=zq (zAa HB1.o hb2);have HEC2:Hid (∀j (h:j<E.length),w2.cell? ⟨ge,j,none⟩=some (.int .i64 E[j])):=fun j h=>zAe hb2 (HEC.o j h)
 have HHL:=zq hHlt;have HCV:=zq hcov;have HAL:=zq hall;have HL2:=zq (HLG.o.below HB2.o);have HCS:=zq hcls;obtain⟨CA,cc,hcv,_⟩:=hall;subst hcv;obtain⟨r1,r2,g1,g2,AL,cL,vr,vi,ins,base,hlx,_⟩:=HL2.o;have HLX:=zq hlx;have l1:w2.cell? ⟨L,1,none⟩=some (.slice UA us.length uc):=HLX.o.c 1 rfl;have s1:=HLX.o.lt;clear hb2 hcls hHlt hcov hdis HCL HEC hlx hHn;obtain⟨nu,hnu⟩:∃nu,nu=us.length:=⟨_,rfl⟩;go_wp2_with fail
 go_loopg[10,34] us.length (HuR gq w2 w2.heap.size rs us ds th E H)
 case atStart=>exact⟨0,_,[],rfl,za,rfl,zAs.nil _ _ _ _ _,fun _ h=>(eZ h).elim,rfl,bW _,fun _ h=>(eZ h).elim,aJ _ _,Cln.nil _ _⟩
 case round =>
  obtain⟨k,v,hs,rfl,hk,rfl,how,har,hpl,hlen,hnb,hb,hcn⟩:=hrel;have HCO:=zq hcn;have HK:=zq hk;have HO:=zq how;have HAR:=zq har;have HPL:=zq hpl;have HNB:=zq hnb;have HB:=zq hb;clear hk how har hpl hnb hb hcn l1 s1
  by_cases hlt:k<us.length
  ·obtain⟨b,o,hA,hb0,hc0⟩:=(HU.o.below (zAa HB2.o HB.o)).at_ za
   subst hA;have c0:=hc0 k hlt;clear hc0 hb0
   have HT:Hid (totR (gP gq rs ds th) rs H E (us.take (k+1))=(useR (gP gq rs ds th) rs H E us[k] (totR (gP gq rs ds th) rs H E (us.take k))).2.2):=by
    show _=_
    unfold totR;rw[bA hlt,bB]
    rfl
   have HTK:Hid (us.take (k+1)=us.take k++[us[k]]):=bA hlt;have HMEM:Hid (us[k]∈us):=bI hlt
   have HML:Hid (∀R0:List PH,R0=totR (gP gq rs ds th) rs H E (us.take (k+1))->R0.length<=(totR (gP gq rs ds th) rs H E us).length):=by
    rintro R0 rfl;unfold totR
    conv=>rhs;rw[<-cM (k+1) us,bB]
    exact tot_mono _ _
   obtain⟨u,hu⟩:∃u,u=us[k]:=⟨_,rfl⟩;rw[<-hu]at HT HTK HMEM c0;clear hu;obtain⟨R0,hR0⟩:∃R0,R0=totR (gP gq rs ds th) rs H E (us.take k):=⟨_,rfl⟩;rw[<-hR0]at HT HPL;clear hR0;(go_wp2_with fail);obtain⟨gk1,hgk1⟩:∃gk1,gk1=gk:=⟨_,rfl⟩;subst hgk1
   go_loopg[10,13,14,40] E.length (HdR gq w2 w2.heap.size rs ds th u E H R0)
   case atStart=>exact⟨0,_,_,hs,[],0,rfl,rfl,za,rfl,rfl,HO.o,HAR.o,.inl ⟨rfl,rfl⟩,fun _ h=>(eZ h).elim,hlen,by rw[HPL.o];rfl,.inl rfl,fun _ h=>(eZ h).elim,HB.o,HCO.o⟩
   clear HO HAR HPL hlen c0 HCO
   case round =>
    obtain⟨j,v,v2,hs,bl,bg,rfl,rfl,hj,rfl,rfl,how,har,hbef,hbok,hlen,hst,hbn,hnb2,hb,hcn⟩:=hrel;have HCO:=zq hcn;have HJ:=zq hj;have HO:=zq how;have HAR:=zq har;have HBF:=zq hbef;have HBO:=zq hbok;have HST:=zq hst;have HBN:=zq hbn;have HNB2:=zq hnb2;have HBD:=zq hb;clear hj how har hbef hbok hst hbn hnb2 hb hcn
    by_cases hlj:j<E.length
    ·have ce0:=zAe HBD.o (HEC2.o j hlj)
     obtain⟨d,hd⟩:∃d,d=E[j]:=⟨_,rfl⟩;rw[<-hd]at ce0;have HDJ:=zq hd;clear hd
     go_upto_block 4 with fail
     go_cut[17] (fun nv wx=>∃(nv':Value)(nl:List QM),nv'=nv/\BefQ wx nv' nl/\(∀x∈nl,QOk wx x)/\nl.map QM.q=nowL (gP gq rs ds th) rs H u d/\¬bigF rs ds th H u d/\Below wr.heap.size wr wx)
     case first =>
      (go_wp2_with fail);obtain⟨wd,hwd⟩:∃wd:World,wd=wr:=⟨_,rfl⟩;subst hwd
      go_loopg[17,46] H.length (HcR gq wd rs ds th u d H)
      case atStart=>exact⟨0,_,[],rfl,za,rfl,zAs.nil _ _ _ _ _,fun _ h=>(eZ h).elim,rfl,fun _ h=>(eZ h).elim,fun _=>rfl,fun _=>rfl,aJ _ _,Cln.nil _ _⟩
      case round =>
       obtain⟨q,nv,nl,rfl,hq,rfl,hnow,hnok,hnm,hnlg,hq0,hnil,hbq,hcln⟩:=hrel;have HQ:=zq hq;have HNW:=zq hnow;have HNK:=zq hnok;have HNM:=zq hnm;have HNL:=zq hnlg;have HQ0:=zq hq0;have HBQ:=zq hbq;have HNI:=zq hnil;have HCN:=zq hcln;clear hq hnow hnok hnm hnlg hq0 hbq hnil hcln
       by_cases hltq:q<H.length
       ·have HBT:=zq (zAa HBD.o HBQ.o)
        obtain⟨A',c',hv,hr⟩:=HCS.o.below HBT.o
        injection hv with hA _ hcc
        subst hA;subst hcc;obtain⟨g,rfl,hr2⟩:=hr za;obtain⟨gj,nj,cj,z0,z1,z2⟩:=hr2 q hltq;clear hr hr2
        by_cases hday:200000<d
        ·have HK0:Hid (q=0):=HQ0.o hday
         have HNB3:Hid (¬bigF rs ds th H u d):=fun h=>by have:=h.1;omega
         have HNE:Hid (nl.map QM.q=nowL (gP gq rs ds th) rs H u d):=by
          show _=_
          unfold nowL;rw[aD hday,HNM.o,HK0.o];rfl
         have HNN:Hid (nl=[]):=by
          have:=HNM.o;rw[HK0.o]at this;exact List.map_eq_nil_iff.1 this
         have HNV:=zq (HNI.o HNN.o);have hdb:decide (200000<d)=true:=aT hday;go_wp2;go_meet;exact⟨nv,nl,rfl,.inl ⟨HNN.o,HNV.o⟩,HNK.o,HNE.o,HNB3.o,HBQ.o⟩
        ·have hdb:decide (200000<d)=false:=aU hday
         have hHq:=HHL.o _ (bI hltq);have HI:Hid ((zAf rs)[H[q]]?=some (lfI rs H[q])):=by show _=_;rw[List.getElem?_eq_getElem hHq,lfI_get hHq]
         have HTQ:Hid (H.take (q+1)=H.take q++[H[q]]):=bA hltq;have HMQ:Hid (H[q]∈H):=bI hltq;obtain⟨n,hn⟩:∃n,n=H[q]:=⟨_,rfl⟩;rw[<-hn]at HI HTQ HMQ z2;clear hn hHq;have HWT:=zq (zAa HB2.o HBT.o);have HPA:=zq (fun(u':World)(hu':Below wr.heap.size wr u')=>parts_c RA rc rs (some ⟨b,o,none⟩) uc us DA dc ds L n (lfI rs n) ds.length u d th true u' (HLG.o.below (zAa HWT.o hu')) (HD.o.below (zAa HWT.o hu')) HC.o HI.o (aE _) hdc HUS.o);have HDR:Hid (Below wr.heap.size wr wr.drew):=zAd (aJ _ _) 1;have l2:=(HLX.o.below HBT.o).c 2 rfl;have hsl:L<wr.heap.size:=(HLX.o.below HBT.o).lt
         cases hlg:zBN rs ds (lfI rs n) th u d ds.length with
         |true =>
          have HLONG:=zq hlg;rw[hlg]at HPA;clear hlg;have HBIG:Hid (bigF rs ds th H u d):=⟨za,n,HMQ.o,HLONG.o⟩;go_upto_region 16 with fail
          go_region_held3 (fun w'=>w'.cell? ⟨gj,0,none⟩=some (.int .i64 (n:Int))/\w'.cell? ⟨L,2,none⟩=some (.slice DA ds.length dc))
           ((refine⟨?_,?_⟩<;>first|with_reducible assumption|go_simp))
           (first
            |((go_at_call 36;(with_reducible refine(HPA.o wr.drew HDR.o).mono ?_);rintro e w5⟨hb5,hbad,_⟩;obtain rfl:=hbad rfl;have HB5:=zq (zAa HDR.o hb5);clear hb5 hbad;have y2:=zAe HB5.o z2;have y3:=zAe HB5.o l2)))
          clear y2 y3 l2 hsl z0 z1 z2 HPA HDR;go_wp2;go_ret2
          exact⟨_,[],2,rfl,zAs.nil _ _ _ _ _,fun _ h=>(eZ h).elim,zAa (zAa HB2.o HBT.o) HB5.o,E,H,HES.o,HEM.o,HHL.o,HCV.o,.inr ⟨rfl,rfl,.inl ⟨u,HMEM.o,d,by rw[HDJ.o];exact bI hlj,HBIG.o⟩⟩⟩
         |false =>
          have HLONG:=zq hlg;rw[hlg]at HPA;clear hlg;obtain⟨F,hF⟩:∃F,F=zAt rs ds (lfI rs n) th u d ds.length:=⟨_,rfl⟩;rw[<-hF]at HPA;go_upto_region 16 with fail
          go_region_held3 (fun w'=>w'.cell? ⟨gj,0,none⟩=some (.int .i64 (n:Int))/\w'.cell? ⟨L,2,none⟩=some (.slice DA ds.length dc))
           ((refine⟨?_,?_⟩<;>first|with_reducible assumption|go_simp))
           (first
            |((go_at_call 36;(with_reducible refine(HPA.o wr.drew HDR.o).mono ?_);rintro e w5⟨hb5,_,hok⟩;obtain⟨ga,rfl,hpa⟩:=hok rfl;have HB5:=zq (zAa HDR.o hb5);have HPM:=zq hpa;clear hb5 hok hpa;have y2:=zAe HB5.o z2;have y3:=zAe HB5.o l2)))
          have HB05:=zq (zAa HWT.o HB5.o)
          have HH1:Hid (Calls Tryz.prog fid (#[.map (some ga)]++caps) w5 (zCj (gq F) w5)):=by
           rw[hF];exact HGC.o u d (lfI rs n) w5 ga HB05.o (by rw[<-hF];exact HPM.o)
          have HGF:Hid (0<=gq F/\SzQ 100000000 (gq F)):=by rw[hF];exact HGZ.o u d (lfI rs n)
          have HGE:Hid (gP gq rs ds th u d (lfI rs n)=gq F):=by show _=_;rw[hF];rfl
          obtain⟨qv,hqv⟩:∃qv,qv=gq F:=⟨_,rfl⟩;rw[<-hqv]at HH1 HGF HGE;clear hqv hF;clear y2 y3 l2 hsl z0 z1 z2 HPA HDR;(go_wp2_with fail);(with_reducible refine HH1.o.mono ?_);intro e w6 hqt;obtain⟨x,rfl,hxq,h1,h2,hb6⟩:=qm_of hqt;have HB6:=zq (zAa HB5.o hb6);have HBQ6:=zq (zAa HBQ.o HB6.o);have HXQ:=zq hxq;have HX6:Hid (QOk w6 x):=⟨h1,h2,by rw[hxq];exact HGF.o.1,by rw[hxq];exact HGF.o.2⟩;clear h1 h2 hb6 HH1 hxq;have HN6:Hid (OwnQ w6 wd.heap.size nv nl):=zAs.below HNW.o HB6.o
          have hnl2:nl.length<=200:=by
           have:=bX List.length HNM.o;simp at this
           omega
          have hw6:wd.heap.size<=w6.heap.size:=HBQ6.o.size;have HC6:Hid (Cln isU w6 nv):=HCN.o.own HNW.o HB6.o;have hba:Below w6.heap.size w6 (w6.alloc (.cells (encQ x).toArray 86)):=(aJ _ _).alloc (aE _) _;have HCA:Hid (Cln isU (w6.alloc (.cells (encQ x).toArray 86)) nv):=HC6.o.own HN6.o hba
          go_wp2_with (at_builtin;refine wpList_pushC _ _ _ elQ rfl rfl wd.heap.size nv nl rfl (HN6.o.alloc _) w6.heap.size 1 x rfl (aK _ _) rfl (oneQ _) zm za ze isU HCA.o (encQ_noU x) zRat_noU ?_;intro v8 w7 hown7 hg7 hb7 hc7)
          have HO7:=zq hown7
          have HOK7:Hid (∀y∈nl++[x],QOk w7 y):=by
           intro y hy
           have hya:QOk w6 y:=by
            rcases List.mem_append.1 hy with hy|hy
            ·exact(HNK.o y hy).below HB6.o
            ·rw[List.mem_singleton.1 hy];exact HX6.o
           exact(hya.below hba).cln hg7 HCA.o
          have HB7:Hid (Below wd.heap.size wd w7):=(HBQ6.o.trans (hba.mono hw6)).trans hb7
          have HM7:Hid ((nl++[x]).map QM.q=(H.take (q+1)).map (fun h=>gP gq rs ds th u d (lfI rs h))):=by
           show _=_
           rw[HTQ.o,aA,aA,HNM.o];show _++[x.q]=_++[gP gq rs ds th u d (lfI rs n)]
           rw[HXQ.o,HGE.o]
          have HL7:Hid (∀h∈H.take (q+1),zBN rs ds (lfI rs h) th u d ds.length=false):=by
           intro h hh;rw[HTQ.o]at hh
           rcases List.mem_append.1 hh with hh|hh
           ·exact HNL.o h hh
           ·rw[List.mem_singleton.1 hh];exact HLONG.o
          have HC7:=zq hc7;clear hown7 hg7 hb7 hc7 hba;go_wp2
          go_roundg (gk-1)
          case measure=>have:=HQ.o;omega
          case rel=>exact⟨q+1,_,nl++[x],rfl,by have:=HQ.o;omega,zi,HO7.o,HOK7.o,HM7.o,HL7.o,fun h=>za,fun h=>by simp at h,HB7.o,HC7.o⟩
       ·obtain rfl:q=H.length:=by have:=HQ.o;omega
        have HNB3:Hid (¬bigF rs ds th H u d):=by
         rintro⟨_,h,hh,hlong⟩;have:=HNL.o h (by rw[aG];exact hh);rw[this]at hlong;cases hlong
        have HNE:Hid (nl.map QM.q=nowL (gP gq rs ds th) rs H u d):=by
         show _=_
         unfold nowL;have h1:=HNM.o;rw[aG]at h1
         by_cases hday:200000<d
         ·have h0:=HQ0.o hday
          rw[aD hday,h1,List.length_eq_zero_iff.1 h0];rfl
         ·rw[aW hday,h1]
        have HBE:Hid (BefQ wr nv nl):=by
         by_cases h0:0<nl.length
         ·obtain⟨g,c,rfl⟩:=zCd HNW.o h0
          exact .inr ⟨g,c,rfl,h0,OwnQ.qs HNW.o rfl⟩
         ·have:=List.length_eq_zero_iff.1 (show nl.length=0 by omega)
          exact .inl ⟨this,HNI.o this⟩
        go_wp2;go_meet;exact⟨nv,nl,rfl,HBE.o,HNK.o,HNE.o,HNB3.o,HBQ.o⟩
     case rest =>
      obtain⟨nv,nl,rfl,hnb,hnk,hnq,hn3,hbc⟩:=hcut;obtain⟨w4,rfl⟩:∃w4,w4=wc:=⟨_,rfl⟩;have HNB:=zq hnb;have HNK:=zq hnk;have HNQ:=zq hnq
      have HN3:Hid (∀x∈E.take (j+1),¬bigF rs ds th H u x):=by
       intro x hx;rw[bA hlj]at hx
       rcases List.mem_append.1 hx with hx|hx
       ·exact HNB2.o x hx
       ·rw[List.mem_singleton.1 hx,<-HDJ.o];exact hn3
      have HBC:=zq hbc;have HBD2:=zq (zAa HBD.o hbc);have HO2:Hid (OwnH w4 w2.heap.size v hs):=zAs.below HO.o hbc;have HAR2:Hid (∀h∈hs,OwnAr w4 w2.heap.size h):=fun h hh=>zAs.below (HAR.o h hh) hbc
      have HBO2:Hid (∀x∈bl,QOk w4 x):=fun x hx=>(HBO.o x hx).below hbc
      have HSTP:Hid (useR (gP gq rs ds th) rs H (E.take (j+1)) u R0=stepP (fun b e nums=>rowsF rs u b e (gP gq rs ds th u b) (posL nums)) (bl.map QM.q,bg,hs.map plH) (d,nl.map QM.q)):=by
       show _=_
       rw[HST.o,HNQ.o];unfold useR;rw[bA hlj,aA,bB,<-HDJ.o]
       rfl
      obtain⟨A,c,hv2,hq2⟩:∃A c,v2=.slice A bl.length c/\Qs w4 A bl/\(A=none↔bl=[])/\(bl=[]->c=0):=by
       rcases HBF.o with ⟨h1,h2⟩|⟨g,c,h1,h2,h3⟩
       ·exact⟨none,0,by rw[h1,h2];rfl,by rw[h1];exact fun h=>absurd h zd,by simp[h1],fun _=>rfl⟩
       ·exact⟨some ⟨g,0,none⟩,c,h1,h3.below hbc,by
         constructor
         ·intro h;cases h
         ·intro h;rw[h]at h2;exact absurd h2 zd,fun h=>by rw[h]at h2;exact absurd h2 zd⟩
      subst hv2;obtain⟨hqs,hAn,hcz⟩:=hq2;have HQS:=zq hqs;have HCO2:Hid (Cln isUB w4 v):=HCO.o.own HO.o hbc
      have hbl:bl.length<=200:=by
       rcases HBN.o with h|h
       ·rw[h];simp
       ·have:=bX List.length h
        rw[dE,dE]at this;omega
      have hnl2:nl.length<=200:=by
       have:=bX List.length HNQ.o;rw[dE]at this;unfold nowL at this
       split at this
       ·have h0:nl.length=0:=this
        omega
       ·rw[dE]at this;omega
      have HROW:=zq (fun(x:World)(hx:Below w4.heap.size w4 x)=>row_c RA rc rs (some ⟨b,o,none⟩) uc us DA dc ds L u bg d A c bl (.slice CA H.length cc) H (sigB rs th ds) x (HLG.o.below (zAa HB2.o (zAa HBD2.o hx))) (HAL.o.below (zAa HBD2.o hx)) hHl hnl (HQS.o.below hx) (fun y hy=>(HBO2.o y hy).below hx)
       (by
        rcases HBN.o with h|h
        ·exact .inl h
        ·have:=bX List.length h
         rw[dE,dE]at this;exact .inr this) HGR.o (gP gq rs ds th u bg)
       (fun k h1 h2=>by
        rcases HBN.o with h|h
        ·rw[h]at h1;exact absurd h1 (dF _)
        ·have h3:=bX (fun z=>z[k]?) h
         simp only[List.getElem?_map,List.getElem?_eq_getElem h1,List.getElem?_eq_getElem h2,aH,aI]at h3;exact h3)
       (fun n m _ _ e=>by
        have e2:sgL rs th (lfI rs n) ds=sgL rs th (lfI rs m) ds:=by
         have:=bX (fun z:BA=>z.data.toList) e
         simpa using this
        unfold gP;rw[parts_sg e2])
       (fun n hn=>by
        obtain⟨h,hh,e⟩:=HCV.o n hn;exact⟨h,hh,by show ByteArray.mk _=ByteArray.mk _;rw[e]⟩) HHL.o)
      clear hnb hnk hnq hn3 hbc hqs HNB2 HO HAR HBO HST HDJ HCO ce0;go_upto_region 21 with fail
      go_cut[86] (fun bv wx=>∃b:Bool,.bool b=bv/\(b=true↔bl≠[]/\bl.map QM.q=nl.map QM.q)/\Below w4.heap.size w4 wx)
      case first =>
       clear HROW HSTP HT HTK HMEM HML HGC HGZ HCS HAL HCV
       by_cases hbe:bl=[]
       ·obtain rfl:=hAn.2 hbe
        obtain rfl:=hcz hbe;subst hbe;clear hAn hcz;go_wp2;go_meet;exact⟨false,rfl,⟨fun h=>qg,fun h=>absurd rfl h.1⟩,aJ _ _⟩
       ·obtain⟨gb,rfl⟩:∃g,A=some g:=by
         cases A with
         |none=>exact absurd (hAn.1 rfl) hbe
         |some g=>exact⟨g,rfl⟩
        obtain⟨A3,c3,hnv,hq3⟩:∃A3 c3,nv=.slice A3 nl.length c3/\Qs w4 A3 nl:=by
         rcases HNB.o with ⟨h1,h2⟩|⟨g,c,h1,h2,h3⟩
         ·exact⟨none,0,by rw[h1,h2];rfl,by rw[h1];exact fun h=>absurd h zd⟩
         ·exact⟨_,c,h1,h3⟩
        subst hnv;have HSN:=zq (sameN_c (some gb) A3 c c3 bl nl w4 za za HQS.o hq3 HBO2.o HNK.o);obtain⟨z,hz⟩:∃z,z=decide (bl.map QM.q=nl.map QM.q):=⟨_,rfl⟩;rw[<-hz]at HSN
        have HZ:Hid (z=true↔bl≠[]/\bl.map QM.q=nl.map QM.q):=by
         show(_↔_)
         rw[hz,eW];exact⟨fun h=>⟨hbe,h⟩,fun h=>h.2⟩
        clear hz hbe hAn hcz hq3;(go_wp2_with fail);(with_reducible refine HSN.o.mono ?_);rintro e w5⟨rfl,hb5⟩;have HB5:=zq hb5;clear hb5 HSN;go_wp2;go_meet;exact⟨z,rfl,HZ.o,HB5.o⟩
      case rest =>
       obtain⟨b86,rfl,hb86,hbx⟩:=hcut;obtain⟨wx,rfl⟩:∃wx,wx=wc:=⟨_,rfl⟩;have HBX:=zq hbx;have HBD3:=zq (zAa HBD2.o hbx);have HO3:Hid (OwnH wx w2.heap.size v hs):=zAs.below HO2.o hbx;have HAR3:Hid (∀h∈hs,OwnAr wx w2.heap.size h):=fun h hh=>zAs.below (HAR2.o h hh) hbx
       have HCO3:Hid (Cln isUB wx v):=HCO2.o.own HO2.o hbx;have HB86:=zq hb86;have HC86:=zq (HROW.o wx hbx)
       have HBEF:Hid (BefQ wx nv nl):=by
        rcases HNB.o with h|⟨g,c,h1,h2,h3⟩
        ·exact .inl h
        ·exact .inr ⟨g,c,h1,h2,h3.below hbx⟩
       have HNK3:Hid (∀x∈nl,QOk wx x):=fun x hx=>(HNK.o x hx).below hbx
       clear hb86 hbx HROW HO2 HAR2 HCO2 HNB HNK
       cases b86 with
       |true =>
        obtain⟨hbe,heq⟩:=HB86.o.1 rfl
        have HST2:Hid ((bl.map QM.q,bg,hs.map plH)=useR (gP gq rs ds th) rs H (E.take (j+1)) u R0):=by
         show _=_
         rw[HSTP.o];unfold stepP;rw[aD ⟨fun h=>hbe (List.map_eq_nil_iff.1 h),heq⟩]
        have HBV:Hid (BefQ wx (.slice A bl.length c) bl):=by
         obtain⟨g,o,hA,_⟩:=HQS.o (List.length_pos_iff.2 hbe)
         rcases HBF.o with ⟨h,_⟩|⟨g',c',h1,h2,h3⟩
         ·exact absurd h hbe
         ·exact .inr ⟨g',c',h1,h2,by
           injection h1 with h1
           rw[<-h1];exact HQS.o.below HBX.o⟩
        have HBK:Hid (∀x∈bl,QOk wx x):=fun x hx=>(HBO2.o x hx).below HBX.o
        clear hbe heq hAn hcz HC86 HB86;go_wp2
        go_roundg (gk-1)
        case measure=>have:=HJ.o;omega
        case rel=>exact⟨j+1,v,_,hs,bl,bg,rfl,rfl,yi,rfl,zi,HO3.o,HAR3.o,HBV.o,HBK.o,hlen,HST2.o,HBN.o,HN3.o,HBD3.o,HCO3.o⟩
       |false =>
        have hnb:¬(bl≠[]/\bl.map QM.q=nl.map QM.q):=fun h=>by have:=HB86.o.2 h;cases this
        have HST2:Hid (useR (gP gq rs ds th) rs H (E.take (j+1)) u R0=(nl.map QM.q,d,hs.map plH++rowsF rs u bg d (gP gq rs ds th u bg) (posL (bl.map QM.q)))):=by
         show _=_
         rw[HSTP.o];unfold stepP;rw[aW (fun h=>hnb ⟨fun e=>h.1 (by show bl.map QM.q=[];rw[e];rfl),h.2⟩)]
        have HBN2:Hid (nl=[]\/nl.map QM.q=H.map fun h=>gP gq rs ds th u d (lfI rs h)):=by
         have:=HNQ.o;unfold nowL at this
         split at this
         ·exact .inl (List.map_eq_nil_iff.1 this)
         ·exact .inr this
        clear hnb hAn hcz HB86 HSTP;(go_wp2_with fail);(with_reducible refine HC86.o.mono ?_);rintro e w5⟨rv,rhs,rfl,hro,hra,hrp,hb5⟩;have HB5:=zq (zAa HBD3.o hb5);have HO5:Hid (OwnH w5 w2.heap.size v hs):=zAs.below HO3.o hb5;have HAR5:Hid (∀h∈hs,OwnAr w5 w2.heap.size h):=fun h hh=>zAs.below (HAR3.o h hh) hb5
        have HCO5:Hid (Cln isUB w5 v):=HCO3.o.own HO3.o hb5;have HRA:Hid (∀h∈rhs,OwnAr w5 w2.heap.size h):=fun h hh=>zCE (hra h hh) HBD3.o.size
        have HRP:=zq hrp
        have HBEF5:Hid (BefQ w5 nv nl):=by
         rcases HBEF.o with h|⟨g,c,h1,h2,h3⟩
         ·exact .inl h
         ·exact .inr ⟨g,c,h1,h2,h3.below hb5⟩
        have HNK5:Hid (∀x∈nl,QOk w5 x):=fun x hx=>(HNK3.o x hx).below hb5
        have hrl:rhs.length<=200:=by
         have h1:=bX List.length hrp;rw[dE]at h1;unfold rowsF at h1;rw[dE]at h1;have h2:=posL_len (bl.map QM.q);rw[dE]at h2;omega
        obtain⟨A6,c6,hrv,hrk⟩:=zAs.rdk hro
        have hA6:A6≠none\/rhs=[]:=by
         by_cases h0:0<rhs.length
         ·obtain⟨g,cp,h⟩:=zCd hro h0
          rw[hrv]at h
          injection h with h
          exact .inl (by rw[h];simp)
         ·exact .inr (List.length_eq_zero_iff.1 za)
        subst hrv;have HRK:=zq hrk;have hw5:=HB5.o.size;clear hro hra hrp hb5 hrk HC86 HBEF HNK3 HO3 HAR3 HCO3;go_upto_region 23 with (at_builtin;refine wpList_pushKC (k:=6) (enc:=encH) (fun _=>rfl) oneH _ _ _ elH rfl rfl w2.heap.size v hs rfl HO5.o A6 _ c6 rhs rfl rfl HRK.o hA6 zm za hw5 isUB HCO5.o encH_noU zHol_noU ?_;intro v6 w6 hown6 hg6 hb6 hc6)
        obtain⟨A7,c7,hv7,_⟩:=zAs.rdk hown6;subst hv7;have HO6:=zq hown6;have HC6:=zq hc6;have HB6:Hid (Below w2.heap.size w2 w6):=HB5.o.trans hb6
        have HAR6:Hid (∀h∈hs++rhs,OwnAr w6 w2.heap.size h):=by
         intro h hh
         have h1:OwnAr w5 w2.heap.size h:=by
          rcases List.mem_append.1 hh with hh|hh
          ·exact HAR5.o h hh
          ·exact HRA.o h hh
         exact h1.grown hg6 (zBR h1 HO5.o zc)
        have HBEF6:Hid (BefQ w6 nv nl):=by
         rcases HBEF5.o with h|⟨g,c,h1,h2,h3⟩
         ·exact .inl h
         ·exact .inr ⟨g,c,h1,h2,h3.cln hg6 HCO5.o⟩
        have HNK6:Hid (∀x∈nl,QOk w6 x):=fun x hx=>(HNK5.o x hx).cln hg6 (HCO5.o.mono fun _ h=>.inl h)
        have HST6:Hid ((nl.map QM.q,d,(hs++rhs).map plH)=useR (gP gq rs ds th) rs H (E.take (j+1)) u R0):=by
         show _=_
         rw[HST2.o,aA,HRP.o]
        obtain⟨N,hN⟩:∃N,N=(hs++rhs).length:=⟨_,rfl⟩;have HNE:=zq hN;rw[<-hN];have hll:N<=2200:=by rw[hN,dI];omega
        clear hN;clear hown6 hg6 hb6 hc6 HO5 HAR5 HRA HBEF5 HNK5 HCO5 HRK HST2 HRP hA6
        by_cases hbig:N<=2000
        ·have q1:decide ((N:Int)>2000)=false:=aU za
         have HBG:Hid ((hs++rhs).length<=2000):=by rw[<-HNE.o];exact hbig
         clear hbig;go_wp2
         go_roundg (gk-1)
         case measure=>have:=HJ.o;omega
         case rel=>exact⟨j+1,_,nv,hs++rhs,nl,d,rfl,rfl,yi,rfl,zi,by rw[HNE.o];exact HO6.o,HAR6.o,HBEF6.o,HNK6.o,HBG.o,HST6.o,HBN2.o,HN3.o,HB6.o,by rw[HNE.o];exact HC6.o⟩
        ·have q1:decide ((N:Int)>2000)=true:=aT za
         have HBG:Hid (2000<(totR (gP gq rs ds th) rs H E us).length):=by
          refine aB (Nat.lt_of_not_le hbig) ?_;refine dC ?_ (HML.o _ HT.o.symm);have h1:=bX (fun z=>z.2.2.length) HST6.o;simp only[dE]at h1;rw[HNE.o,h1];unfold useR
          conv=>rhs;rw[<-cM (j+1) E,aA,bB]
          exact foldP_mono _ _
         clear hbig;go_wp2;go_ret2
         exact⟨_,[],2,rfl,zAs.nil _ _ _ _ _,fun _ h=>(eZ h).elim,zAa HB2.o HB6.o,E,H,HES.o,HEM.o,HHL.o,HCV.o,.inr ⟨rfl,rfl,.inr HBG.o⟩⟩
    ·obtain rfl:j=E.length:=by have:=HJ.o;omega
     have HPL2:Hid (hs.map plH=totR (gP gq rs ds th) rs H E (us.take (k+1))):=by
      show _=_
      rw[HT.o];have h1:=HST.o;rw[aG]at h1;rw[<-h1]
     have HNB4:Hid (∀x∈us.take (k+1),∀d∈E,¬bigF rs ds th H x d):=by
      intro x hx;rw[HTK.o]at hx
      rcases List.mem_append.1 hx with hx|hx
      ·exact HNB.o x hx
      ·rw[List.mem_singleton.1 hx]
       have h1:=HNB2.o;rw[aG]at h1;exact h1
     clear HT HTK HML HBF HBO HST HBN HNB2;go_wp2
     go_roundg (gk1-1)
     case measure=>have:=HK.o;omega
     case rel=>exact⟨k+1,v,hs,rfl,zh,zi,HO.o,HAR.o,HPL2.o,hlen,HNB4.o,HBD.o,HCO.o⟩
  ·obtain rfl:k=us.length:=by have:=HK.o;omega
   have hsz:=HB2.o.size;have HPL2:Hid (hs.map plH=totR (gP gq rs ds th) rs H E us):=by have:=HPL.o;rwa [aG]at this
   have HNB2:Hid (∀u∈us,∀d∈E,¬bigF rs ds th H u d):=by have:=HNB.o;rwa [aG]at this
   clear HPL HNB;go_wp2;go_ret2
   exact⟨v,hs,0,rfl,zCE HO.o hsz,fun h hh=>zCE (HAR.o h hh) hsz,zAa HB2.o HB.o,E,H,HES.o,HEM.o,HHL.o,HCV.o,.inl ⟨rfl,HNB2.o,HPL2.o,by rw[dE];exact hlen⟩⟩
end Go.Proofs.YtbbchlpccgkikaaGreatDoor
