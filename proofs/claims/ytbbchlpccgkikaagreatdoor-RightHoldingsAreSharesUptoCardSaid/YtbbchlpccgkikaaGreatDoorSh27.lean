/- Parts of the proof, joined: Package right: the holdings of one row of days (row), from the numbers. -/
import Derived.Test.YtbbchlpccgkikaaGreatDoorSh26
set_option maxRecDepth 100000
set_option maxHeartbeats 8000000
namespace Go.Proofs.YtbbchlpccgkikaaGreatDoor
open Go.RowKit Dw
theorem elQ:ElemT Tryz.prog 152 86 (.agg zBj) 3 56:=⟨Tryz.underlying152,zb,rfl,zc⟩
theorem oneQ(x:QM):∀u∈encQ x,u.oneCell'=true:=fun u hu=>by
 simp only[encQ,eQ,eZ,or_false]at hu
 rcases hu with rfl|rfl|rfl<;>rfl
def posQ(l:List QM):List QM:=l.filter fun x=>decide (0<x.q)
theorem posQ_take{l:List QM}{k:Nat}(h:k<l.length):posQ (l.take (k+1))=posQ (l.take k)++(if 0<(l[k]).q then [l[k]] else []):=by
 unfold posQ;rw[bA h,dQ]
 by_cases e:0<(l[k]).q
 ·rw[aD e];simp[e]
 ·rw[aW e];simp[e]
theorem sgn_q{q:Rat}(h:0<=q):(sgnI false q.num.natAbs>0)↔0<q:=by
 by_cases h0:q=0
 ·rw[sgn_zero q h0]
  exact⟨fun e=>absurd e zc,fun e=>by subst h0;exact absurd e zc⟩
 ·rw[sgn_pos q h0]
  exact⟨fun _=>Std.lt_of_le_of_ne h fun e=>h0 e.symm,fun _=>zc⟩
structure HM where
 us:BA
 bg:Int
 en:Int
 ar:List Ar
 pn:BA
 pd:BA
 A:Option Addr
 c:Nat
abbrev encH(h:HM):List Value:=[.string h.us,.int .i64 h.bg,.int .i64 h.en,.slice h.A h.ar.length h.c,.string h.pn,.string h.pd]
theorem oneH(h:HM):∀u∈encH h,u.oneCell'=true:=fun u hu=>by
 simp only[encH,eQ,eZ,or_false]at hu
 rcases hu with rfl|rfl|rfl|rfl|rfl|rfl<;>rfl
theorem elH:ElemT Tryz.prog 27 43 (.agg #[.string ⟨#[]⟩,.int .i64 0,.int .i64 0,.slice none 0 0,.string ⟨#[]⟩,.string ⟨#[]⟩]) 6 88:=⟨Tryz.underlying27,zb,rfl,zc⟩
def rowsF(rs:List Rg)(use:BA)(bg en:Int)(G:Nat->Rat)(xs:List Rat):List (BA×Int×Int×List Ar×BA×BA):=
 xs.map fun x=>(use,bg,en,zAN rs (fun i=>decide (G i=x)),zCT x.num.natAbs,zCT x.den)
abbrev plH(h:HM):BA×Int×Int×List Ar×BA×BA:=(h.us,h.bg,h.en,h.ar,h.pn,h.pd)
abbrev OwnAr(w:World)(B:Nat)(h:HM):Prop:=zAs encA 2 w B 99 (.slice h.A h.ar.length h.c) h.ar
abbrev OwnH(w:World)(B:Nat)(v:Value)(l:List HM):Prop:=zAs encH 6 w B 43 v l
def GivesRow(rs:List Rg)(use:BA)(bg en:Int)(G:Nat->Rat)(nums:List Rat)(w:World)(e:Ending)(w':World):Prop:=
 ∃(v:Value)(hs:List HM),e=.returned v/\OwnH w' w.heap.size v hs/\(∀h∈hs,OwnAr w' w.heap.size h)/\hs.map plH=rowsF rs use bg en G (posL nums)/\Below w.heap.size w w'
def RwS(W:World)(B:Nat)(rs:List Rg)(use:BA)(bg en:Int)(G:Nat->Rat)(xs:List Rat)(m:Nat)(ov iv:Value)(wr:World):Prop:=
 ∃(j:Nat)(v:Value)(hs:List HM),v=ov/\j+m=xs.length/\iv=.int .i64 (j:Nat)/\OwnH wr B v hs/\(∀h∈hs,OwnAr wr B h)/\hs.map plH=rowsF rs use bg en G (xs.take j)/\Below B W wr
theorem mem_compGq{l:List QM}{p x:QM}(h:x∈zCJ QM.q p l):x∈l:=by
 induction l generalizing p with
 |nil=>simp[zCJ]at h
 |cons y l ih =>
  unfold zCJ at h
  split at h
  ·exact bM _ (ih h)
  ·rcases List.mem_cons.1 h with rfl|h
   ·exact bN
   ·exact bM _ (ih h)
theorem mem_compF{l:List QM}{x:QM}(h:x∈zCl QM.q l):x∈l:=by
 cases l with
 |nil=>exact h
 |cons y l =>
  rcases List.mem_cons.1 h with rfl|h
  ·exact bN
  ·exact bM _ (mem_compGq h)
theorem compG_len(l:List QM)(p:QM):(zCJ QM.q p l).length<=l.length:=by
 induction l generalizing p with
 |nil=>simp[zCJ]
 |cons y l ih =>
  unfold zCJ
  split
  ·exact Nat.le_succ_of_le (ih _)
  ·simpa using ih _
theorem compF_len(l:List QM):(zCl QM.q l).length<=l.length:=by
 cases l with
 |nil=>exact aE _
 |cons y l=>show(y::zCJ QM.q y l).length<=_;simpa using compG_len l y
theorem rd1_below{f:Bool->Value}{w w':World}{A:Option Addr}{l:List Bool}(h:Rd1 f w A l)(hb:Below w.heap.size w w'):Rd1 f w' A l:=fun hl=>by
 obtain⟨b,o,hA,hc⟩:=h hl;exact⟨b,o,hA,fun i hi=>zAe hb (hc i hi)⟩
theorem lfI_get{rs:List Rg}{n:Nat}(h:n<(zAf rs).length):(zAf rs)[n]=lfI rs n:=by
 unfold lfI;rw[List.getD_eq_getElem?_getD,List.getElem?_eq_getElem h];rfl
theorem chF_all{rs:List Rg}{sg:Nat->BA}{H:List Nat}{Y:Nat->Bool}{l:List QM}{G:Nat->Rat}{q:Rat}(hl:l.length=H.length)(hY:∀k (h:k<l.length),decide ((l[k]).q=q)=Y k)(hG:∀k (h1:k<l.length) (h2:k<H.length),(l[k]).q=G (lfI rs H[k]))(hinv:∀n m,n<(zAf rs).length->m<(zAf rs).length->sg n=sg m->G (lfI rs n)=G (lfI rs m))(hcov:∀n,n<(zAf rs).length->∃h∈H,sg h=sg n)(hlt:∀h∈H,h<(zAf rs).length){n:Nat}(hn:n<(zAf rs).length):chF sg H Y H.length n=decide (G (lfI rs n)=q):=by
 rw[bD,eW];unfold chF;rw[eH]
 constructor
 ·rintro⟨k,hk,h⟩
  have hk:=List.mem_range.1 hk;rw[dN,List.getD_eq_getElem?_getD,List.getElem?_eq_getElem hk,eE]at h;obtain⟨h1,h2⟩:=h;rw[<-hY k za]at h1;rw[hinv n _ hn (hlt _ (bI hk)) (eU h2),<-hG k za hk];exact eU h1
 ·intro h
  obtain⟨y,hy,e⟩:=hcov n hn;obtain⟨k,hk,rfl⟩:=List.mem_iff_getElem.1 hy;refine⟨k,List.mem_range.2 hk,?_⟩
  rw[dN,List.getD_eq_getElem?_getD,List.getElem?_eq_getElem hk,eE];refine⟨?_,aT e.symm⟩
  rw[<-hY k za,hG k za hk,hinv _ n (hlt _ hy) hn e];exact aT h
def RwR(W:World)(l:List QM)(B m:Nat)(ov iv:Value)(wr:World):Prop:=
 ∃(k:Nat)(v:Value),v=ov/\k+m=l.length/\iv=.int .i64 (k:Nat)/\OwnQ wr B v (posQ (l.take k))/\Below W.heap.size W wr
theorem row_c(RA:Option Addr)(rc:Nat)(rs:List Rg)(UA:Option Addr)(uc:Nat)(us:List BA)(DA:Option Addr)(dc:Nat)(ds:List De)(L:Nat)(use:BA)(bg en:Int)(A:Option Addr)(c:Nat)(l:List QM)(v:Value)(H:List Nat)(sg:Nat->BA)(w:World)(hl:LgIs RA rc rs UA uc us DA dc ds w L)(hcl:ClsAll w v H sg (zAf rs).length)(hH:H.length<=200)(hnl:(zAf rs).length<=200)(hq:Qs w A l)(hok:∀x∈l,QOk w x)(hlH:l=[]\/l.length=H.length)(hgr:GoodR rs)(G:Nat->Rat)(hG:∀k (h1:k<l.length) (h2:k<H.length),(l[k]).q=G (lfI rs H[k]))(hinv:∀n m,n<(zAf rs).length->m<(zAf rs).length->sg n=sg m->G (lfI rs n)=G (lfI rs m))(hcov:∀n,n<(zAf rs).length->∃h∈H,sg h=sg n)(hlt:∀h∈H,h<(zAf rs).length): Calls Tryz.prog 77 #[.pointer (some ⟨L,0,none⟩),.string use,.int .i64 bg,.int .i64 en,v,.slice A l.length c] w (GivesRow rs use bg en G (l.map QM.q) w):=by
 have HLG:=zq hl;have HCL:=zq hcl;have HQ:=zq hq;have HOK:=zq hok
 have hn:l.length<=200:=by
  rcases hlH with h|h
  ·rw[h];simp
  ·omega
 have HL0:=zq hlH;clear hlH;obtain⟨W,hW⟩:∃W,W=w.alloc (.cells #[.slice A l.length c] 152):=⟨_,rfl⟩;have HP1:Hid (Bx W w.heap.size #[.slice A l.length c] 152):=by rw[hW];exact Bx.new _ _ _
 have HB:Hid (Below w.heap.size w W):=by rw[hW];exact(aJ _ _).alloc (aE _) _
 have a0:=HP1.o.c 0 rfl;have s0:=HP1.o.lt;have hBW:w.heap.size<=W.heap.size:=HB.o.size;have HGR:=zq hgr;have HG:=zq hG;have HINV:=zq hinv;have HCOV:=zq hcov;have HLT:=zq hlt;clear hl hcl hq hok hgr hG hinv hcov hlt
 go_enter Tryz.func77,Tryz.ntmps77;(go_upto_region 2 with fail);rw[<-hW];clear hW;go_wp2_with fail
 go_loopg[13,24] l.length (RwR W l W.heap.size)
 case atStart=>exact⟨0,_,rfl,za,rfl,zAs.nil _ _ _ _ _,aJ _ _⟩
 case round =>
  obtain⟨k,v0,rfl,hk,rfl,hown,hbw⟩:=hrel;have HK:=zq hk;have HO:=zq hown;have HBW:=zq hbw;clear hk hown hbw a0 s0
  by_cases hlt:k<l.length
  ·obtain⟨b,o,rfl,hc⟩:=(HQ.o.below (zAa HB.o HBW.o)) za
   obtain⟨x0,x1,x2⟩:=hc k hlt;have HX:=zq ((HOK.o _ (bI hlt)).below (zAa HB.o HBW.o));have HT:=zq (posQ_take hlt);obtain⟨x,hx⟩:∃x,x=l[k]:=⟨_,rfl⟩;rw[<-hx]at HX HT x1 x2;have HSG:=zq (sgn_q HX.o.pos);have hpl:(posQ (l.take k)).length<=200:=dC (dR _ _) qe;clear hc hx;obtain⟨W2,hW2⟩:∃W2,W2=wr.alloc (.cells (raC x.A x.c x.q.num.natAbs x.A2 x.c2 x.q.den) 86):=⟨_,rfl⟩;have HBX:Hid (Bx W2 wr.heap.size (raC x.A x.c x.q.num.natAbs x.A2 x.c2 x.q.den) 86):=by rw[hW2];exact Bx.new _ _ _
   have HB2:Hid (Below wr.heap.size wr W2):=by rw[hW2];exact(aJ wr.heap.size wr).alloc (aE _) _
   obtain⟨y0,y1,y2⟩:=HBX.o.t;have s2:=HBX.o.lt;have HC:=zq (RSign_c false x.A x.A2 x.c x.c2 x.q.num.natAbs x.q.den W2);(go_upto_region 5 with fail);rw[<-hW2];clear hW2 x0 x1 x2;(go_wp2_with fail);(with_reducible refine HC.o.mono ?_);rintro e w3⟨rfl,hb3⟩;have HBX3:=zq (HBX.o.below hb3);have HO3:Hid (OwnQ w3 W.heap.size v0 (posQ (l.take k))):=zAs.below (zAs.below HO.o HB2.o) hb3;have HB3:=zq (zAa HBW.o (zAa HB2.o hb3));clear hb3 HC y0 y1 y2 s2;generalize sgnI false x.q.num.natAbs=z at *
   by_cases hz:0<x.q
   ·have hzz:0<z:=HSG.o.2 hz
    have HN:Hid (posQ (l.take (k+1))=posQ (l.take k)++[x]):=by show _=_;rw[HT.o,aD hz]
    obtain⟨y0,y1,y2⟩:=HBX3.o.t;have s2:=HBX3.o.lt;have hw3:W.heap.size<=w3.heap.size:=HB3.o.size;clear hz
    go_wp2_with (at_builtin;refine zBS _ _ _ elQ rfl rfl W.heap.size v0 (posQ (l.take k)) rfl (HO3.o.alloc _) w3.heap.size 1 x rfl (aK _ _) rfl (oneQ _) zm za ze ?_;intro v1 w5 hown5 hg5 hb5)
    have HO5:Hid (OwnQ w5 W.heap.size v1 (posQ (l.take (k+1)))):=by show zAs _ _ _ _ _ _ _;rw[HN.o];exact hown5
    have HB5:=zq (HB3.o.alloc hw3 (.cells (encQ x).toArray 86) |>.trans hb5);clear hown5 hg5 hb5 y0 y1 y2 s2;go_wp2
    go_roundg (gk-1)
    case measure=>have:=HK.o;omega
    case rel=>exact⟨k+1,_,rfl,zh,zi,HO5.o,HB5.o⟩
   ·have hzz:¬0<z:=fun e=>hz (HSG.o.1 e)
    have HN:Hid (posQ (l.take (k+1))=posQ (l.take k)):=by show _=_;rw[HT.o,aW hz,bE]
    clear hz;go_wp2
    go_roundg (gk-1)
    case measure=>have:=HK.o;omega
    case rel=>exact⟨k+1,_,rfl,zh,zi,by rw[HN.o];exact HO3.o,HB3.o⟩
  ·obtain rfl:k=l.length:=by have:=HK.o;omega
   have HO2:Hid (OwnQ wr W.heap.size v0 (posQ l)):=by have:=HO.o;rwa [aG]at this
   clear HO;have hpl:(posQ l).length<=200:=dC (dR _ _) hn
   have HOKU:Hid (∀x∈posQ l,∀u,Below W.heap.size wr u->QOk u x):=fun x hx u hu =>
    (HOK.o x (List.mem_filter.1 hx).1).below (zAa HB.o (HBW.o.trans hu))
   have HS:=zq (sortQ_c W.heap.size v0 (posQ l) wr HBW.o.size za HO2.o HOKU.o);(go_upto_region 8 with fail);(go_wp2_with fail);(with_reducible refine HS.o.mono ?_);rintro e w2⟨rfl,S,hperm,hsrt,hown2,hb2⟩;have HB2:=zq (HBW.o.trans hb2);have HPM:=zq hperm;have HSR:=zq hsrt;have HOKS:Hid (∀x∈S,∀u,Below W.heap.size w2 u->QOk u x):=fun x hx u hu=>HOKU.o x (hperm.mem_iff.1 hx) u (hb2.trans hu)
   have HCM:=zq (compact_c W.heap.size v0 S w2 (dC HBW.o.size hb2.size) (by rw[hperm.length_eq];omega) hown2 HOKS.o);clear hperm hsrt hown2 hb2 HS HOKU HO2;(go_wp2_with fail);(with_reducible refine HCM.o.mono ?_);rintro e w4⟨A4,c4,rfl,hq4,hb4⟩;have HB4:=zq (HB2.o.trans hb4);have HQ4:=zq hq4;have HOK4:Hid (∀x∈zCl QM.q S,∀u,Below W.heap.size w4 u->QOk u x):=fun x hx u hu=>HOKS.o x (mem_compF hx) u (hb4.trans hu)
   have HPOS:Hid ((zCl QM.q S).map QM.q=posL (l.map QM.q)):=by
    refine compF_posL HSR.o fun z=>?_
    rw[List.mem_map,List.mem_map]
    constructor
    ·rintro⟨x,hx,rfl⟩
     obtain⟨h1,h2⟩:=List.mem_filter.1 (HPM.o.mem_iff.1 hx);exact⟨⟨x,h1,rfl⟩,eU h2⟩
    ·rintro⟨⟨x,hx,rfl⟩,h2⟩
     exact⟨x,HPM.o.mem_iff.2 (List.mem_filter.2 ⟨hx,aT h2⟩),rfl⟩
   have hvl:(zCl QM.q S).length<=200:=by
    refine dC (compF_len S) ?_;rw[HPM.o.length_eq];exact hpl
   clear hq4 hb4 HCM HOKS HSR HPM;obtain⟨vs,hvs⟩:∃vs,vs=zCl QM.q S:=⟨_,rfl⟩;rw[<-hvs]at HQ4 HOK4 HPOS hvl ⊢;clear hvs;have HXL:Hid (posL (l.map QM.q)=vs.map QM.q):=HPOS.o.symm;clear HPOS;go_wp2_with fail
   go_loopg[16,42] vs.length (RwS w4 w4.heap.size rs use bg en G (vs.map QM.q))
   case atStart=>exact⟨0,_,[],rfl,zd,rfl,zAs.nil _ _ _ _ _,fun _ h=>(eZ h).elim,rfl,aJ _ _⟩
   case round =>
    obtain⟨j,v1,hs,rfl,hj,rfl,how,har,hpl2,hb⟩:=hrel;have HJ:=zq hj;have HO5:=zq how;have HAS:=zq har;have HPL2:=zq hpl2;have HB5:=zq hb;have HB45:=zq (HB4.o.trans (hb.mono HB4.o.size));clear hj how har hpl2 hb
    by_cases hlt:j<vs.length
    ·obtain⟨b,o,rfl,hc⟩:=(HQ4.o.below HB5.o) za
     obtain⟨x0,x1,x2⟩:=hc j hlt;have HX:=zq ((HOK4.o _ (bI hlt) w4 (aJ _ _)).below HB5.o)
     have HT:Hid (rowsF rs use bg en G ((vs.map QM.q).take (j+1))=rowsF rs use bg en G ((vs.map QM.q).take j)++[(use,bg,en,zAN rs (fun i=>decide (G i=vs[j].q)),zCT vs[j].q.num.natAbs,zCT vs[j].q.den)]):=by
      show _=_
      unfold rowsF;rw[bA (by simpa using hlt),aA];simp
     have hhl:hs.length<=200:=by
      have:=bX List.length HPL2.o;simp[rowsF]at this
      omega
     have HLH:Hid (l.length=H.length):=by
      rcases HL0.o with h|h
      ·have h1:=HXL.o
       rw[h]at h1;have h2:vs=[]:=List.map_eq_nil_iff.1 (h1.symm.trans (by simp[posL]));rw[h2]at hlt;exact absurd hlt (dF _)
      ·exact h
     obtain⟨x,hx⟩:∃x,x=vs[j]:=⟨_,rfl⟩;rw[<-hx]at HX HT x1 x2;clear hc hx;obtain⟨r1,r2,g1,g2,AL,cL,vr,vi,ins,base,hlx,hwr,_⟩:=HLG.o;have hBwr:=zAa HB.o HB45.o;have HLX:=zq (hlx.below hBwr);have HWR:=zq (hwr.below hBwr);have HP15:=zq (HP1.o.below HB45.o);clear hlx hwr hBwr;obtain⟨W2,hW2⟩:∃W2,W2=wr.alloc (.cells (raC x.A x.c x.q.num.natAbs x.A2 x.c2 x.q.den) 86):=⟨_,rfl⟩;have HBX:Hid (Bx W2 wr.heap.size (raC x.A x.c x.q.num.natAbs x.A2 x.c2 x.q.den) 86):=by rw[hW2];exact Bx.new _ _ _
     have HB2:Hid (Below wr.heap.size wr W2):=by rw[hW2];exact(aJ wr.heap.size wr).alloc (aE _) _
     obtain⟨y0,y1,y2⟩:=HBX.o.t;have s2:=HBX.o.lt
     have HRT:Hid (Calls Tryz.prog 84 #[raV false x.A x.c x.q.num.natAbs x.A2 x.c2 x.q.den,.int .i64 1099511627776] W2 (zAg (raOut x.q.num.natAbs x.q.den 1099511627776) W2)):=
      Ratio_c x.A x.A2 x.c x.c2 x.q.num.natAbs x.q.den 1099511627776 W2 (HX.o.n1.below HB2.o) (HX.o.n2.below HB2.o) HX.o.sz.1.1 HX.o.sz.2.1
     have hro:raOut x.q.num.natAbs x.q.den 1099511627776=.tuple #[.agg #[.string (zCT x.q.num.natAbs),.string (zCT x.q.den)],.bool true]:=by
      have z1:=digB_len HX.o.sz.1.1;have z2:=digB_len HX.o.sz.2.1;unfold raOut tooB;rw[aU za,aU za]
      rfl
     rw[hro]at HRT;generalize zCT x.q.num.natAbs=sn at *;generalize zCT x.q.den=sd at *;clear hro;(go_upto_region 14 with fail);rw[<-hW2];clear hW2 x0 x1 x2;(go_wp2_with fail);(with_reducible refine HRT.o.mono ?_);rintro e w3⟨rfl,hb3⟩;have HB3:=zq (zAa HB2.o hb3);have HBX3:=zq (HBX.o.below hb3);clear hb3 HRT y0 y1 y2 s2;obtain⟨w5,hw5⟩:∃w5,w5=w3.alloc (.cells #[.string sn,.string sd] 36):=⟨_,rfl⟩;have hb5:Below w3.heap.size w3 w5:=by rw[hw5];exact(aJ _ _).alloc (aE _) _
     have HQ5:Hid (Bx w5 w3.heap.size #[.string sn,.string sd] 36):=by rw[hw5];exact Bx.new _ _ _
     have HBX5:=zq (HBX3.o.below hb5);have HBR:=zq (zAa HB3.o hb5);have HP5:=zq (HP15.o.below HBR.o);have HBW5:=zq (zAa HB.o (zAa HB45.o HBR.o));clear hb5;obtain⟨q2,hq2⟩:∃q2,q2=w3.heap.size:=⟨_,rfl⟩;rw[<-hq2]at HQ5;obtain⟨Y,hY⟩:∃Y:Nat->Bool,Y=fun k=>decide ((l.map QM.q)[k]?=some x.q):=⟨_,rfl⟩
     have HYK:Hid (∀k (h:k<l.length),decide ((l[k]).q=x.q)=Y k):=by
      intro k h;rw[hY];simp[List.getElem?_eq_getElem h]
     have HCH:=zq (chosen_c 145 (enters_of Tryz.func145 zb rfl) RA rc rs UA uc us DA dc ds L w.heap.size wr.heap.size sg H Y v w5 (HLG.o.below HBW5.o) (HCL.o.below HBW5.o) hH hnl (fun k hk u hu=>by
      have hkl:k<l.length:=by rw[HLH.o];exact hk
      rw[<-HYK.o k hkl];exact row2_c A c k w.heap.size wr.heap.size l x u hkl za (HP5.o.below hu) (HBX5.o.below hu) (HQ.o.below (zAa HBW5.o hu)) ((HOK.o _ (bI hkl)).below (zAa HBW5.o hu)) ((HX.o.below HBR.o).below hu)))
     (go_upto_region 15 with fail);rw[<-hq2,<-hw5];clear hw5 hq2;(go_wp2_with fail);(with_reducible refine HCH.o.mono ?_);rintro e w8⟨go,cg,rfl,hgo,hb8⟩;have HB8:=zq (zAa HBR.o hb8);have HL8:Hid (Bx w8 L (lgC RA rc rs UA uc us DA dc ds.length r1 r2 g1 g2 AL cL vr vi) 151):=HLX.o.below HB8.o;have HQ8:=zq (HQ5.o.below hb8)
     have HSE:Hid ((List.range (zAf rs).length).map (chF sg H Y H.length)=(zAf rs).map (fun i=>decide (G i=x.q))):=by
      show _=_
      apply dU
      ·simp
      ·intro n h1 h2
       have hn1:n<(zAf rs).length:=qc;rw[eI,List.getElem_range,eI,lfI_get hn1];exact chF_all HLH.o HYK.o HG.o HINV.o HCOV.o HLT.o hn1
     have hrd:=oArr_rd (hgo);rw[HSE.o]at hrd
     have HPL:Hid (∀u,Below w8.heap.size w8 u->Calls Tryz.prog 98 #[.agg (wvC RA rc r1 r2 g1 g2 AL cL rs),.slice (some ⟨go,0,none⟩) (zAf rs).length cg] u (GivesAo (zAN rs (fun i=>decide (G i=x.q))) u)):=by
      intro u hu;have h:=plainO_c RA (some ⟨go,0,none⟩) rc r1 r2 g1 g2 AL cL cg rs (fun i=>decide (G i=x.q)) u HGR.o (HWR.o.below (zAa HB8.o hu)) (rd1_below hrd hu);rw[dE,wv_eq]at h;exact h
     have HDR:Hid (Below w8.heap.size w8 w8.drew):=zAd (aJ _ _) 1;have HO8:Hid (OwnH w8 w4.heap.size v1 hs):=zAs.below HO5.o HB8.o;have hB1:w4.heap.size<=wr.heap.size:=HB5.o.size;have hBB:w4.heap.size<=w8.heap.size:=dC HB5.o.size HB8.o.size;obtain⟨P,hP⟩:∃P,P=zAN rs (fun i=>decide (G i=x.q)):=⟨_,rfl⟩;rw[<-hP]at HPL HT;clear hP hgo hb8 hrd HCH HSE HQ5 HBX5 HP5;obtain⟨B,hBe⟩:∃B,B=w4.heap.size:=⟨_,rfl⟩;rw[<-hBe]at HO8 hBB HB5 HO5 HAS hB1;(go_upto_region 16 with fail);refine eJ (S:=fun w'=>Bx w' L (lgC RA rc rs UA uc us DA dc ds.length r1 r2 g1 g2 AL cL vr vi) 151/\Bx w' q2 #[.string sn,.string sd] 36) zb ?_ (fun hHeld=>?_)
     ·exact⟨HL8.o.drew,HQ8.o.drew⟩
     refine Dw.tk 0 ?_ rfl ?_ zg ?_
     rotate_left 1
     ·(intro w _;go_simp;try with_reducible rfl)
     simp only[eM,cY,Act.put,cV,eL,cS];refine Dw.tk 1 ?_ rfl ?_ zg ?_
     rotate_left 1
     ·(intro w _;go_simp;try with_reducible rfl)
     simp only[Dw.lay,Act.put];refine Dw.tk 2 ?_ rfl ?_ zg ?_
     rotate_left 1
     ·(intro w _;go_simp;try with_reducible rfl)
     simp only[Dw.lay,Act.put];refine Dw.tk 3 ?_ rfl ?_ zg ?_
     rotate_left 1
     ·(intro w _;go_simp;try with_reducible rfl)
     simp only[Dw.lay,Act.put];refine Dw.tk 4 ?_ rfl ?_ zg ?_
     rotate_left 1
     ·(intro w _;go_simp;try with_reducible rfl)
     simp only[Dw.lay,Act.put];refine Dw.tk 5 ?_ rfl ?_ zg ?_
     rotate_left 1
     ·(intro w _;go_simp;try with_reducible rfl)
     simp only[Dw.lay,Act.put];refine Dw.tk 6 ?_ rfl ?_ zg ?_
     rotate_left 1
     ·(intro w _;go_simp;try with_reducible rfl)
     simp only[Dw.lay,Act.put];refine eK (i:=7) (v:=.agg (wvC RA rc r1 r2 g1 g2 AL cL rs)) rfl zb zb zb (fun _ _ _ h=>h) ?_ zg ?_
     ·exact yieldsIf_load_mid zb _ _ zk L 3 zk (wvC RA rc r1 r2 g1 g2 AL cL rs).toList _ (fun w hw=>rangeL hw.1) Tryz.underlying103 rfl zb
     simp only[Dw.lay,Act.put];refine Dw.tk 8 ?_ rfl ?_ zg ?_
     rotate_left 1
     ·(intro w _;go_simp;try with_reducible rfl)
     simp only[Dw.lay,Act.put];refine Dw.tk 10 ?_ rfl ?_ zg ?_
     rotate_left 1
     ·(intro w hSw;have e0:=hSw.2.c 0 rfl;have e1:=hSw.2.c 1 rfl;go_simp;try with_reducible rfl)
     simp only[Dw.lay,Act.put];refine Dw.rd1 9 rfl (fun K hK=>?_);clear hHeld;go_simp
     go_at_call 98
     (with_reducible refine(HPL.o _ HDR.o).mono ?_);rintro e w9⟨A9,c9,rfl,har,hb9⟩;have HL9:=zq (HL8.o.drew.below hb9);have HQ9:=zq (HQ8.o.drew.below hb9);have HAR:=zq har;have HB9:=zq (zAa HDR.o hb9);clear har hb9;refine hK.out _ _ ⟨HL9.o,HQ9.o⟩ (fun hHeld=>?_);clear hK K
     try simp only[Dw.lay,Act.put]
     refine Dw.tk 11 ?_ rfl ?_ zg ?_
     rotate_left 1
     ·(intro w _;go_simp;try with_reducible rfl)
     simp only[Dw.lay,Act.put];refine Dw.rd1 12 rfl (fun K hK=>?_);clear hHeld;go_simp;obtain⟨wa,hwa⟩:∃wa,wa=w9.alloc (.cells (encH ⟨use,bg,en,P,sn,sd,A9,c9⟩).toArray 43):=⟨_,rfl⟩;rw[<-hwa];have hba:Below w9.heap.size w9 wa:=by rw[hwa];exact(aJ _ _).alloc (aE _) _
     have HNA:Hid (wa.heap[w9.heap.size]?=some (.cells (encH ⟨use,bg,en,P,sn,sd,A9,c9⟩).toArray 43 (0,0))):=by show _=_;rw[hwa];exact aK _ _
     have HLA:=zq (HL9.o.below hba);have HQA:=zq (HQ9.o.below hba);have HBA:=zq (zAa HB9.o hba);have HBA2:=zq hba;clear hba hwa;refine hK.out _ _ ⟨HLA.o,HQA.o⟩ (fun hHeld=>?_);clear hK K
     try simp only[Dw.lay,Act.put]
     refine Dw.rd1 13 rfl (fun K hK=>?_);clear hHeld;refine zCo (k:=6) (enc:=encH) zk _ _ _ zk elH B v1 hs zk (zAs.below HO8.o HBA.o) w9.heap.size 1 (⟨use,bg,en,P,sn,sd,A9,c9⟩:HM) zk HNA.o rfl rfl (oneH _) zm za (dC hBB HBA.o.size) ?_;intro gb cb wb hob hgb;have HOA:Hid (OwnH wa B v1 hs):=zAs.below HO8.o HBA.o;have HARA:Hid (OwnAr wa w8.heap.size ⟨use,bg,en,P,sn,sd,A9,c9⟩):=zAs.below HAR.o HBA2.o;have HLB:Hid (Bx wb L (lgC RA rc rs UA uc us DA dc ds.length r1 r2 g1 g2 AL cL vr vi) 151):=zCb HLA.o HOA.o zc hgb;have HQB:Hid (Bx wb q2 #[.string sn,.string sd] 36):=zCb HQA.o HOA.o zc hgb;have HBWB:Hid (Below B w4 wb):=((HB5.o.trans (HB8.o.mono hB1)).trans (HBA.o.mono hBB)).grown hgb (dC hBB HBA.o.size) (own_base HOA.o)
     have HARS:Hid (∀h∈hs++[(⟨use,bg,en,P,sn,sd,A9,c9⟩:HM)],OwnAr wb B h):=by
      intro h hh
      rcases List.mem_append.1 hh with hh|hh
      ·exact(zAs.below (zAs.below (HAS.o h hh) HB8.o) HBA.o).grown hgb (zBR (zAs.below (zAs.below (HAS.o h hh) HB8.o) HBA.o) HOA.o zc)
      ·rw[List.mem_singleton.1 hh]
       exact zCE (HARA.o.grown hgb (zBR HARA.o HOA.o zc)) hBB
     have HOB:=zq hob;clear hgb;refine hK.out _ _ ⟨HLB.o,HQB.o⟩ (fun hHeld=>?_);clear hK K
     try simp only[Dw.lay,Act.put]
     refine Dw.tk 14 ?_ rfl ?_ zg ?_
     rotate_left 1
     ·(intro w _;go_simp;try with_reducible rfl)
     simp only[Dw.lay,Act.put];refine wpAnyH_done zb ?_ _;clear hHeld;go_wp2
     go_roundg (gk-1)
     case measure=>have:=HJ.o;rw[dE]at this;omega
     case rel =>
      rw[hBe]at HOB HARS HBWB;refine⟨j+1,_,hs++[(⟨use,bg,en,P,sn,sd,A9,c9⟩:HM)],rfl,?_,zi,?_,HARS.o,?_,HBWB.o⟩
      ·have h1:=HJ.o
       rw[dE]at h1 ⊢;omega
      ·exact HOB.o
      ·rw[aA,HPL2.o,HT.o];rfl
    ·have hjl:j=vs.length:=by have h1:=HJ.o;rw[dE]at h1;omega
     subst hjl
     have HF:Hid (hs.map plH=rowsF rs use bg en G (posL (l.map QM.q))):=by
      have h1:=HPL2.o;rw[bC (by rw[dE];exact aE _)]at h1;rw[HXL.o];exact h1
     have hsz:w.heap.size<=w4.heap.size:=(zAa HB.o HB4.o).size;clear HPL2;go_wp2;go_ret
     exact⟨_,hs,rfl,zCE HO5.o hsz,fun h hh=>zCE (HAS.o h hh) hsz,HF.o,zAa HB.o HB45.o⟩
end Go.Proofs.YtbbchlpccgkikaaGreatDoor
namespace Dw
section
variable {β:Type}
def stepP(row:Int->Int->List Rat->List β)(s:List Rat×Int×List β)(x:Int×List Rat):List Rat×Int×List β:=
 if s.1≠[]/\s.1=x.2 then s else (x.2,x.1,s.2.2++row s.2.1 x.1 s.1)
theorem walkD_nil{row:Int->Int->List Rat->List β}{end_:Int}(h0:∀b e,row b e []=[]):∀(l:List (Int×List Rat))(b b':Int),zCh row end_ [] b l=zCh row end_ [] b' l
 |[],b,b'=>by unfold zCh;rw[h0,h0]
 |(d,a)::l,b,b'=>by
  unfold zCh
  by_cases e:a=[]
  ·rw[aD e,aD e];exact walkD_nil h0 l b b'
  ·rw[aW e,aW e,h0,h0]
theorem foldP{row:Int->Int->List Rat->List β}{end_:Int}(h0:∀b e,row b e []=[]):∀(l:List (Int×List Rat))(a0:List Rat)(b0:Int)(R:List β), ((l++[(end_,[])]).foldl (stepP row) (a0,b0,R)).2.2=R++zCh row end_ a0 b0 l
 |[],a0,b0,R=>by
  show(stepP row (a0,b0,R) (end_,[])).2.2=_
  unfold stepP zCh;rw[aW (fun h=>h.1 h.2)]
 |(d,a)::l,a0,b0,R=>by
  have hs:stepP row (a0,b0,R) (d,a)=if a0≠[]/\a0=a then (a0,b0,R) else (a,d,R++row b0 d a0):=rfl
  rw[bO,cO,hs];unfold zCh
  by_cases e:a0≠[]/\a0=a
  ·rw[aD e,aD e.2.symm]
   exact foldP h0 l a0 b0 R
  ·rw[aW e,foldP h0 l a d]
   by_cases e2:a=a0
   ·have:a0=[]:=eR fun h=>e ⟨h,e2.symm⟩
    subst e2;subst this;rw[aD rfl,h0,bE,walkD_nil h0 l d b0]
   ·rw[aW e2,List.append_assoc]
theorem foldP_use{row:Int->Int->List Rat->List β}{end_:Int}(h0:∀b e,row b e []=[])(l:List (Int×List Rat))(a0:List Rat)(R:List β): (((0,a0)::(l++[(end_,[])])).foldl (stepP row) ([],0,R)).2.2=R++zCh row end_ a0 0 l:=by
 rw[cO]
 have:stepP row ([],0,R) (0,a0)=(a0,0,R):=by
  unfold stepP;rw[aW (fun h=>h.1 rfl)];simp only;rw[h0,bE]
 rw[this];exact foldP h0 l a0 0 R
theorem stepP_mono{row:Int->Int->List Rat->List β}(s:List Rat×Int×List β)(x:Int×List Rat):s.2.2.length<=(stepP row s x).2.2.length:=by
 unfold stepP
 split
 ·exact aE _
 ·simp
theorem foldP_mono{row:Int->Int->List Rat->List β}:∀(l:List (Int×List Rat))(s:List Rat×Int×List β),s.2.2.length<=(l.foldl (stepP row) s).2.2.length
 |[],_=>aE _
 |x::l,s=>dC (stepP_mono s x) (foldP_mono l _)
end
end Dw
namespace Go.Proofs.YtbbchlpccgkikaaGreatDoor
open Go.RowKit Dw
theorem hold1_c(g p0:Nat)(f:zAV)(p:BA)(w:World)(hp:zAy w g f)(h1:Bx w p0 #[.string p] 9): Calls Tryz.prog 33 #[.map (some g),.pointer (some ⟨p0,0,none⟩)] w (zCj (f p) w):=by
 have HZ:Hid (Bx (w.alloc (.cells zBj 86)) w.heap.size zBj 86):=Bx.new _ _ _;have HB:Hid (Below w.heap.size w (w.alloc (.cells zBj 86))):=(aJ _ _).alloc (aE _) _;obtain⟨W,hW⟩:∃W,W=w.alloc (.cells zBj 86):=⟨_,rfl⟩;rw[<-hW]at HZ HB;have HO:=zq (of_c g f p W (hp.below HB.o));have x0:=(h1.below HB.o).c 0 rfl;have x1:=(h1.below HB.o).lt;generalize f p=q at *;clear hp h1
 go_enter Tryz.func33,Tryz.ntmps33;(go_upto_region 1 with fail);rw[<-hW];clear hW;(go_wp2_with fail);(with_reducible refine HO.o.mono ?_);rintro e w2⟨A,c,A2,c2,rfl,h1,h2,hb2⟩;have HZ2:=zq (HZ.o.below hb2);have HB2:=zq (zAa HB.o hb2);have H1:=zq h1;have H2:=zq h2;have zf:=HZ2.o.frozen;have zl:=HZ2.o.lt;obtain⟨z0,z1,z2⟩:=HZ2.o.t;clear h1 h2 hb2 x0 x1;go_wp2;refine aC (v:=raV false A c q.num.natAbs A2 c2 q.den) (by simp[results,Tryz.results33,go_sem,z0,z1,z2]) rfl ?_;exact⟨A,c,A2,c2,rfl,H1.o.setR HZ2.o _ _ _,H2.o.setR HZ2.o _ _ _,((HB2.o.setCell zd _).setCell zd _).setCell zd _⟩
end Go.Proofs.YtbbchlpccgkikaaGreatDoor
namespace Dw
open Go Go.RowKit
def Cln(p:Value->Prop)(w:World)(v:Value):Prop:=∀(g:Nat)(cs:Array Value)(e:TypeId)(fr:Nat×Nat),v.ownBlock=some g->w.heap[g]?=some (.cells cs e fr)->∀u∈cs.toList,¬p u
theorem Cln.nil(p:Value->Prop)(w:World):Cln p w (.slice none 0 0):=fun _ _ _ _ h _=>qg
theorem Cln.keep{p:Value->Prop}{w w':World}{v:Value}(h:Cln p w v)(hk:∀g,v.ownBlock=some g->w'.heap[g]?=w.heap[g]?):Cln p w' v:=fun g cs e fr hg hc=>h g cs e fr hg ((hk g hg).symm.trans hc)
theorem Cln.own{α:Type}{enc:α->List Value}{k base:Nat}{e:TypeId}{p:Value->Prop}{w w':World}{v:Value}{l:List α}(h:Cln p w v)(ho:zAs enc k w base e v l)(hb:Below w.heap.size w w'):Cln p w' v:=
 h.keep fun g hg=>hb.block g (bL ho g hg).2
theorem mem_zeroCells{z:Array Value}{n:Nat}{u:Value}(h:u∈(Builtin.zeroCells z n).toList):u∈z.toList:=by
 unfold Builtin.zeroCells at h;rw[Array.toList_map,List.mem_map]at h;obtain⟨i,hi,rfl⟩:=h;rw[Array.toList_range,List.mem_range]at hi;have hz:0<z.size:=Nat.pos_of_ne_zero fun e=>by rw[e]at hi;omega
 have hm:i%z.size<z.size:=bZ _ hz;rw[getElem!_pos z (i%z.size) hm];exact Array.mem_toList_iff.2 (Array.getElem_mem hm)
theorem cln_append{P:Program}{w w':World}{v v':Value}{t ty e:TypeId}{i:TypeInfo}{z:Value}(ht:P.underlying t=some (.slice e))(hi:P.info? e=some i)(hz:i.zero=some z){base size bytes n m c:Nat}{xs news:List Value}{a:Addr}(hsize:i.size=size)(hby:i.bytes=bytes)(hown:w.ownsRow base e size v n xs)(hl:news.length=m*size)(hnews:∀j u,news[j]?=some u->w.cell? (a.add j)=some u)(h1:∀u∈news,u.oneCell'=true)(hm:0<m)(h63:n+m<=maxLen)(hbytes:(n+m)*bytes<=140737488355328)(hr0:(Builtin.append_ #[t,t] ty #[v,.slice (some a) m c]).run P w=.ok v' w'){p:Value->Prop}(hcl:Cln p w v)(hnp:∀u∈news,¬p u)(hzp:∀u∈z.cells.toList,¬p u):Cln p w' v':=by
 subst hsize;subst hby;have hsmall:n+m<=9223372036854775807:=by simp only[maxLen]at h63;omega
 have fresh:∀(W:World)(ys:List Value)(k N C:Nat),W.heap.size=w.heap.size->(∀u∈ys,¬p u)->Cln p (W.alloc (.cells (ys.toArray++Builtin.zeroCells z.cells k) e)) (.slice (some ⟨w.heap.size,0,none⟩) N C):=by
  intro W ys k N C hW hys g cs e' fr hg hc u hu;have hg':g=w.heap.size:=by simpa[Value.ownBlock]using hg.symm
  subst hg';rw[<-hW,aK]at hc
  injection hc with hc
  injection hc with hc1
  subst hc1;rw[Array.toList_append,List.mem_append]at hu
  rcases hu with hu|hu
  ·exact hys u (by simpa using hu)
  ·exact hzp u (mem_zeroCells hu)
 rcases hown.2 with ⟨rfl,rfl⟩|⟨g,cap,cur,rfl,hbg,hg,hnc,hcm,hcs,htake⟩
 ·have hr:=run_append_nil (P:=P) w t ty e i z ht hi hz a m c news hl hnews hm za (by
   have hb:=hbytes;simp only[bJ]at hb;omega)
  rw[hr]at hr0
  injection hr0 with h2 h3
  subst h2;subst h3;exact fresh w.drew news _ _ _ rfl hnp
 ·have hxp:∀u∈cur.toList,¬p u:=fun u hu=>hcl g cur e (0,0) rfl hg u hu
  by_cases hroom:n+m<=cap
  ·have hfit:n*i.size+news.length<=cur.size:=by rw[hl,hcs,<-bT];exact bU _ hroom
   have hr:=run_append_room (P:=P) w t ty e i ht hi g n cap cur hg a m c news hl hnews h1 hroom hfit;rw[hr]at hr0
   injection hr0 with h2 h3
   subst h2;subst h3;intro g' cs e' fr hg' hc u hu;have e1:g'=g:=by simpa[Value.ownBlock]using hg'.symm
   subst e1;rw[setRow_heap w g' cur _ e (0,0) hg]at hc
   injection hc with hc
   injection hc with hc1
   subst hc1
   rcases List.mem_append.1 (show u∈cur.toList.take (n*i.size)++news++cur.toList.drop (n*i.size+news.length) from hu)with hu|hu
   ·rcases List.mem_append.1 hu with hu|hu
    ·exact hxp u (cQ hu)
    ·exact hnp u hu
   ·exact hxp u (List.mem_of_mem_drop hu)
  ·have holds:∀j u,xs[j]?=some u->w.cell? ((⟨g,0,none⟩:Addr).add j)=some u:=hown.cells (g:=g) rfl
   have hr:=run_append_grow (P:=P) w t ty e i z ht hi hz ⟨g,0,none⟩ n cap xs hown.1 holds a m c news hl hnews za za (growslice_fits za hbytes);rw[hr]at hr0
   injection hr0 with h2 h3
   subst h2;subst h3
   have hh:∀u∈xs++news,¬p u:=fun u hu=>by
    rcases List.mem_append.1 hu with hu|hu
    ·rw[<-htake]at hu;exact hxp u (cQ hu)
    ·exact hnp u hu
   have:=fresh w.drew (xs++news) (grownCap w (n+m) cap e-(n+m)) (n+m) (grownCap w (n+m) cap e) rfl hh
   simpa using this
theorem wpList_pushC{P:Program}{α:Type}{enc:α->List Value}{k:Nat}{ops:Array Oper}{rest:List Oper}{o:Oper}{a:Act}{w:World}{Q:Exit->Act->World->Prop}{e:TypeId}{z:Value}{bytes:Nat}(s x:Operand)(t:TypeId)(hT:ElemT P t e z k bytes)(hgd:o.guard=none)(ho:o.op=.call { callee:=.builtin .append,args:=#[s,x],argTypes:=#[t,t] })
  (base:Nat) (v:Value) (l:List α) (hs:a.eval s=v) (hown:zAs enc k w base e v l)
  (g cp:Nat) (y:α) (hx:a.eval x=.slice (some ⟨g,0,none⟩) 1 cp) (hnew:w.heap[g]?=some (.cells (enc y).toArray e (0,0)))
  (hk:(enc y).length=k) (hone:∀u∈enc y,u.oneCell'=true) (hlen:l.length+1<=maxLen) (hbytes:(l.length+1)*bytes<=140737488355328) (hbase:base<=w.heap.size)
  (p:Value->Prop) (hcl:Cln p w v) (hnp:∀u∈enc y,¬p u) (hzp:∀u∈z.cells.toList,¬p u)
  (h:∀v' w',zAs enc k w' base e v' (l++[y])->w.grownBy w' v.ownBlock->Below base w w'->Cln p w' v'->wpList P ops Q rest (a.put o.dst v') w'):wpList P ops Q (o::rest) a w:=by
 obtain⟨i,hi,hz0,hz1,hz2⟩:=info_parts hT.info;have hnews:∀j u,(enc y)[j]?=some u->w.cell? ((⟨g,0,none⟩:Addr).add j)=some u:=fun j u hj=>World.news_of_block hnew j u yg
 refine wpList_plain hgd fun _ hK=>?_
 obtain⟨v',w',hr,h2,h3,_⟩:=run_append_own (P:=P) w base t o.type e i z k bytes hT.ty hi hz0 hz1 hz2 hT.zs hT.pos v l.length (l.flatMap enc) hown ⟨g,0,none⟩ 1 cp (enc y) (by rw[hk];omega) hnews hone hlen hbytes hbase;have h4:=cln_append hT.ty hi hz0 hz1 hz2 hown (by rw[hk];omega) hnews hone Nat.zero_lt_one hlen hbytes hr hcl hnp hzp;unfold Oper.wp execOp;simp only[ho,resolve,invoke,builtin,Sem.run_bind,Sem.run_pure,Result.andThen_ok,List.map_toArray,dZ,List.map_nil,hs,hx,hr];refine hK _ _ (h v' w' ?_ h3 ((aJ _ _).grown h3 hbase fun j hj=>(bL hown j hj).1) h4);unfold zAs
 simpa using h2
theorem Cln.mono{p q:Value->Prop}{w:World}{v:Value}(h:Cln p w v)(hq:∀u,q u->p u):Cln q w v:=fun g cs e fr hg hc u hu hqu=>h g cs e fr hg hc u hu (hq u hqu)
theorem wpList_pushKC{P:Program}{α:Type}{enc:α->List Value}{k:Nat}(hk:∀x,(enc x).length=k)(hf:∀x,∀u∈enc x,u.oneCell'=true){ops:Array Oper}{rest:List Oper}{o:Oper}{a:Act}{w:World}{Q:Exit->Act->World->Prop}{e:TypeId}{z:Value}{bytes:Nat}(s x:Operand)(t:TypeId)(hT:ElemT P t e z k bytes)(hgd:o.guard=none)(ho:o.op=.call { callee:=.builtin .append,args:=#[s,x],argTypes:=#[t,t] })
  (base:Nat) (v:Value) (l:List α) (hs:a.eval s=v) (hown:zAs enc k w base e v l)
  (A:Option Addr) (m cp:Nat) (ys:List α) (hm:m=ys.length) (hx:a.eval x=.slice A m cp) (hr:RdK enc w A ys) (hA:A≠none\/ys=[])
  (hlen:l.length+ys.length<=maxLen) (hbytes:(l.length+ys.length)*bytes<=140737488355328) (hbase:base<=w.heap.size)
  (p:Value->Prop) (hcl:Cln p w v) (hnp:∀y,∀u∈enc y,¬p u) (hzp:∀u∈z.cells.toList,¬p u)
  (h:∀v' w',zAs enc k w' base e v' (l++ys)->w.grownBy w' v.ownBlock->Below base w w'->Cln p w' v'->wpList P ops Q rest (a.put o.dst v') w'):wpList P ops Q (o::rest) a w:=by
 obtain⟨i,hi,hz0,hz1,hz2⟩:=info_parts hT.info;subst hm
 have hfin:∀v' w',w'.ownsRow base e k v' (l.length+ys.length) (l.flatMap enc++ys.flatMap enc)->zAs enc k w' base e v' (l++ys):=fun v' w' h1=>by
  unfold zAs;rw[dI,List.flatMap_append];exact h1
 have hbel:∀w',w.grownBy w' v.ownBlock->Below base w w':=fun w' hg=>(aJ _ _).grown hg hbase fun j hj=>(bL hown j hj).1
 have idle:ys=[]->∀A',a.eval x=.slice A' 0 cp->wpList P ops Q (o::rest) a w:=by
  intro hy A' hx';subst hy;refine wpList_plain hgd fun _ hK=>?_
  have hrun:(Builtin.append_ #[t,t] o.type #[v,.slice A' 0 cp]).run P w=.ok v w:=by
   have hl0:∀ad,(loadCells ad 0).run P w=.ok #[] w:=fun ad=>by simp[loadCells,loadCellsFrom]
   rcases hown.2 with ⟨rfl,_⟩|⟨g,cap,cur,rfl,_,_,hnc,_⟩
   ·cases A' with
    |none=>simp[Builtin.append_,run_underlying hT.ty,Go.sizeOf,typeInfo,hi,Builtin.lenOf,Builtin.firstCells]
    |some ad=>simp[Builtin.append_,run_underlying hT.ty,Go.sizeOf,typeInfo,hi,Builtin.lenOf,Builtin.firstCells,hl0]
   ·cases A' with
    |none=>simp[Builtin.append_,run_underlying hT.ty,Go.sizeOf,typeInfo,hi,Builtin.lenOf,Builtin.firstCells,hnc,storeCells]
    |some ad=>simp[Builtin.append_,run_underlying hT.ty,Go.sizeOf,typeInfo,hi,Builtin.lenOf,Builtin.firstCells,hnc,storeCells,hl0]
  unfold Oper.wp execOp;simp only[ho,resolve,invoke,builtin,Sem.run_bind,Sem.run_pure,Result.andThen_ok,List.map_toArray,dZ,List.map_nil,hs,hx',hrun];exact hK _ _ (h v w (by simpa using hown) (World.grownBy.refl w _) (hbel w (World.grownBy.refl w _)) hcl)
 by_cases hy:ys=[]
 ·exact idle hy A (by rw[hx,hy];rfl)
 cases A with
 |none=>exact absurd (hA.resolve_left (fun h=>h rfl)) hy
 |some ad =>
  have hjl:0<ys.length:=List.length_pos_iff.2 hy
  have hnews:∀j u,(ys.flatMap enc)[j]?=some u->w.cell? (ad.add j)=some u:=fun j u hj=>by
   obtain⟨b,o,h1,hc⟩:=hr hjl
   injection h1 with h1
   subst h1;rw[addN];exact hc j u hj
  have hone:∀u∈ys.flatMap enc,u.oneCell'=true:=fun u hu=>by
   obtain⟨y,_,hy⟩:=List.mem_flatMap.1 hu;exact hf y u hy
  have hnp2:∀u∈ys.flatMap enc,¬p u:=fun u hu=>by
   obtain⟨y,_,hy⟩:=List.mem_flatMap.1 hu;exact hnp y u hy
  refine wpList_plain hgd fun _ hK=>?_
  obtain⟨v',w',hr',h2,h3,_⟩:=run_append_own (P:=P) w base t o.type e i z k bytes hT.ty hi hz0 hz1 hz2 hT.zs hT.pos v l.length (l.flatMap enc) hown ad ys.length cp (ys.flatMap enc) (flat_len hk ys) hnews hone hlen hbytes hbase;have h4:=cln_append hT.ty hi hz0 hz1 hz2 hown (flat_len hk ys) hnews hone hjl hlen hbytes hr' hcl hnp2 hzp;unfold Oper.wp execOp;simp only[ho,resolve,invoke,builtin,Sem.run_bind,Sem.run_pure,Result.andThen_ok,List.map_toArray,dZ,List.map_nil,hs,hx,hr'];exact hK _ _ (h v' w' (hfin v' w' h2) h3 (hbel w' h3) h4)
theorem Cln.ne{p:Value->Prop}{w:World}{v u:Value}{b o:Nat}(h:Cln p w v)(hc:w.cell? ⟨b,o,none⟩=some u)(hp:p u):some b≠v.ownBlock:=fun e=>by
 unfold World.cell? at hc
 split at hc
 case h_1 cs ty fr hcs =>
  simp only[eD,eF,if_false]at hc;exact h b cs ty fr e.symm hcs _ (List.mem_of_getElem? (by rw[Array.getElem?_toList];exact hc)) hp
 case h_2=>cases hc
end Dw
namespace Go.Proofs.YtbbchlpccgkikaaGreatDoor
open Go.RowKit Dw
def isU(u:Value):Prop:=∃x:Nat,u=u32V x
theorem Nt.cln{w w':World}{A:Option Addr}{c n:Nat}{v:Value}(h:Nt w A c n)(hg:w.grownBy w' v.ownBlock)(hcl:Cln isU w v):Nt w' A c n:=⟨fun hl=>by
 obtain⟨b,o,rfl,hlt,hc⟩:=h.rd.at_ hl;refine⟨b,o,rfl,fun i hi=>?_⟩;have hne:some b≠v.ownBlock:=hcl.ne (hc 0 hl) ⟨_,rfl⟩;rw[hg.cell_far ⟨b,o+i,none⟩ hlt hne];exact hc i hi,h.cap⟩
theorem QOk.cln{w w':World}{x:QM}{v:Value}(h:QOk w x)(hg:w.grownBy w' v.ownBlock)(hcl:Cln isU w v):QOk w' x:=⟨h.n1.cln hg hcl,h.n2.cln hg hcl,h.pos,h.sz⟩
theorem encQ_noU(x:QM):∀u∈encQ x,¬isU u:=fun u hu=>by
 simp only[encQ,eQ,eZ,or_false]at hu;rintro⟨n,rfl⟩
 rcases hu with h|h|h<;>cases h
def isUB(u:Value):Prop:=isU u\/∃b:Bool,u=.bool b
theorem encH_noU(h:HM):∀u∈encH h,¬isUB u:=fun u hu=>by
 simp only[encH,eQ,eZ,or_false]at hu;exact tbl
theorem zHol_noU:∀u∈(Value.agg #[.string ⟨#[]⟩,.int .i64 0,.int .i64 0,.slice none 0 0,.string ⟨#[]⟩,.string ⟨#[]⟩]).cells.toList,¬isUB u:=fun u hu=>by
 have hu:u∈[Value.string ⟨#[]⟩,.int .i64 0,.int .i64 0,.slice none 0 0,.string ⟨#[]⟩,.string ⟨#[]⟩]:=hu;simp only[eQ,eZ,or_false]at hu;exact tbl
theorem Qs.cln{w w':World}{A:Option Addr}{l:List QM}{v:Value}(h:Qs w A l)(hg:w.grownBy w' v.ownBlock)(hcl:Cln isUB w v):Qs w' A l:=fun hl=>by
 obtain⟨b,o,hA,hc⟩:=h hl;have hne:some b≠v.ownBlock:=hcl.ne (hc 0 hl).1 (.inr ⟨_,rfl⟩);have hlt:b<w.heap.size:=World.block_lt_of_cell? w _ (hc 0 hl).1;refine⟨b,o,hA,fun i hi=>?_⟩;rw[hg.cell_far ⟨b,o+i*3,none⟩ hlt hne,hg.cell_far ⟨b,o+i*3+1,none⟩ hlt hne,hg.cell_far ⟨b,o+i*3+2,none⟩ hlt hne];exact hc i hi
theorem zRat_noU:∀u∈(Value.agg zBj).cells.toList,¬isU u:=fun u hu=>by
 have hu:u∈[Value.bool false,.slice none 0 0,.slice none 0 0]:=hu;simp only[eQ,eZ,or_false]at hu;rintro⟨n,rfl⟩
 rcases hu with h|h|h<;>cases h
def gP(gq:zAV->Rat)(rs:List Rg)(ds:List De)(th:BA)(use:BA)(day:Int)(i:Nat):Rat:=gq (zAt rs ds i th use day ds.length)
def nowL(G:BA->Int->Nat->Rat)(rs:List Rg)(H:List Nat)(use:BA)(day:Int):List Rat:=if 200000<day then [] else H.map fun h=>G use day (lfI rs h)
abbrev PH:Type:=BA×Int×Int×List Ar×BA×BA
def useR(G:BA->Int->Nat->Rat)(rs:List Rg)(H:List Nat)(E:List Int)(u:BA)(R:List PH):List Rat×Int×List PH:=
 (E.map fun d=>(d,nowL G rs H u d)).foldl (stepP fun b e nums=>rowsF rs u b e (G u b) (posL nums)) ([],0,R)
def totR(G:BA->Int->Nat->Rat)(rs:List Rg)(H:List Nat)(E:List Int)(us:List BA):List PH:=us.foldl (fun R u=>(useR G rs H E u R).2.2) []
def bigF(rs:List Rg)(ds:List De)(th:BA)(H:List Nat)(u:BA)(d:Int):Prop:=d<=200000/\∃h∈H,zBN rs ds (lfI rs h) th u d ds.length=true
def HdRes(gq:zAV->Rat)(rs:List Rg)(us:List BA)(ds:List De)(th:BA)(R:List PH)(f:Int):Prop:=
 ∃(E:List Int)(H:List Nat),E.Pairwise (· < ·)/\(∀x,x∈E↔x∈edL th ds ds.length)/\(∀h∈H,h<(zAf rs).length)/\(∀n,n<(zAf rs).length->∃h∈H,sgL rs th (lfI rs h) ds=sgL rs th (lfI rs n) ds) /\
  ((f=0/\(∀u∈us,∀d∈E,¬bigF rs ds th H u d)/\R=totR (gP gq rs ds th) rs H E us/\R.length<=2000)\/(f=2/\R=[]/\((∃u∈us,∃d∈E,bigF rs ds th H u d)\/2000<(totR (gP gq rs ds th) rs H E us).length)))
theorem insR_len(x:Rat):∀l:List Rat,(insR x l).length<=l.length+1
 |[]=>aE _
 |y::l=>by
  unfold insR
  split
  ·simp
  ·split
   ·simp
   ·have:=insR_len x l
    simp only[bP];omega
theorem posL_len:∀l:List Rat,(posL l).length<=l.length
 |[]=>aE _
 |x::l=>by
  unfold posL;have:=posL_len l
  split
  ·have:=insR_len x (posL l)
   simp only[bP];omega
  ·simp only[bP];omega
theorem tot_mono{G:BA->Int->Nat->Rat}{rs:List Rg}{H:List Nat}{E:List Int}:∀(l:List BA)(R:List PH),R.length<=(l.foldl (fun R u=>(useR G rs H E u R).2.2) R).length
 |[],_=>aE _
 |u::l,R=>dC (foldP_mono (row:=fun b e nums=>rowsF rs u b e (G u b) (posL nums)) (E.map fun d=>(d,nowL G rs H u d)) ([],0,R)) (tot_mono l _)
end Go.Proofs.YtbbchlpccgkikaaGreatDoor
