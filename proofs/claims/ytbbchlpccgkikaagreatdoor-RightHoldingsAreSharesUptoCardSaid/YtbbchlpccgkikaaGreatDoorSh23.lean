/- Package right: newLedger (printed by gen_led.py). -/
import Derived.Test.YtbbchlpccgkikaaGreatDoorSh15
set_option maxRecDepth 100000
set_option maxHeartbeats 8000000
namespace Go.Proofs.YtbbchlpccgkikaaGreatDoor
open Go.RowKit Dw
def LgIs(RA:Option Addr)(rc:Nat)(rs:List Rg)(UA:Option Addr)(uc:Nat)(us:List BA)(DA:Option Addr)(dc:Nat)(dm:List De)(w:World)(L:Nat):Prop:=
 ∃r1 r2 g1 g2 AL cL vr vi ins base,Bx w L (lgC RA rc rs UA uc us DA dc dm.length r1 r2 g1 g2 AL cL vr vi) 151/\WR w RA r1 r2 g1 g2 AL rs /\
  zAs eRun 2 w base 173 vr (dm.map (zBL dm))/\zAs eIn 1 w base 108 vi ins/\ins.map Prod.snd=dm.map (insM rs)/\∀x∈ins,InS w x.1 x.2
theorem LgIs.below{RA:Option Addr}{rc:Nat}{rs:List Rg}{UA:Option Addr}{uc:Nat}{us:List BA}{DA:Option Addr}{dc:Nat}{dm:List De}{w w':World}{L:Nat}(h:LgIs RA rc rs UA uc us DA dc dm w L)(hb:Below w.heap.size w w'):LgIs RA rc rs UA uc us DA dc dm w' L:=by
 obtain⟨r1,r2,g1,g2,AL,cL,vr,vi,ins,base,h1,h2,h3,h4,h5,h6⟩:=h;exact⟨r1,r2,g1,g2,AL,cL,vr,vi,ins,base,h1.below hb,h2.below hb,h3.below hb,h4.below hb,h5,fun x hx=>(h6 x hx).below hb⟩
def GivesLg(RA:Option Addr)(rc:Nat)(rs:List Rg)(UA:Option Addr)(uc:Nat)(us:List BA)(DA:Option Addr)(dc:Nat)(dm:List De)(w:World)(e:Ending)(w':World):Prop:=
 ∃L,e=.returned (.pointer (some ⟨L,0,none⟩))/\LgIs RA rc rs UA uc us DA dc dm w' L/\Below w.heap.size w w'
theorem rangeL{RA:Option Addr}{rc:Nat}{rs:List Rg}{UA:Option Addr}{uc:Nat}{us:List BA}{DA:Option Addr}{dc many r1 r2 g1 g2:Nat}{AL:Option Addr}{cL:Nat}{vr vi:Value}{w:World}{L:Nat}(h:Bx w L (lgC RA rc rs UA uc us DA dc many r1 r2 g1 g2 AL cL vr vi) 151):w.rangeAt L 3 (wvC RA rc r1 r2 g1 g2 AL cL rs).toList:=fun j v hv=>by
 refine h.cell ?_;have e:(lgC RA rc rs UA uc us DA dc many r1 r2 g1 g2 AL cL vr vi).toList=(lgC RA rc rs UA uc us DA dc many r1 r2 g1 g2 AL cL vr vi).toList.take 3++((wvC RA rc r1 r2 g1 g2 AL cL rs).toList++[vr,vi]):=rfl;rw[<-Array.getElem?_toList,e,List.getElem?_append_right zd];have hj:=(List.getElem?_eq_some_iff.1 hv).1;rw[List.getElem?_append_left yg,<-hv]
 congr 1
 simp
theorem thereB{w:World}{g:Nat}{cs:Array Value}{T:TypeId}(h:Bx w g cs T){n:Nat}(hn:n<=cs.size):w.there g 0 n:=fun j hj=>by
 rw[bJ];exact⟨by rw[h.cell (i:=j) (Array.getElem?_eq_getElem za)];rfl,h.frozen j⟩
def NL1(wN:World)(C:Value->Value->Array Value)(ds:List De)(many:Nat)(m:Nat)(i:Value)(wr:World):Prop:=
 ∃k:Nat,k+m=many/\i=.int .i64 k/\LS wN C wN.heap.size (wN.heap.size+1) (endM (ds.take k)) (.slice none 0 0) (.slice none 0 0) (.slice none 0 0) (.slice none 0 0) [] [] wr
def NL2(wN:World)(C:Value->Value->Array Value)(rs:List Rg)(dm:List De)(m:Nat)(i:Value)(wr:World):Prop:=
 ∃(k:Nat)(vr vi:Value)(ins:List (Value×List Bool)),k+m=dm.length/\i=.int .i64 k/\LS wN C wN.heap.size (wN.heap.size+1) (endM dm) vr vi vr vi ((dm.take k).map (zBL dm)) ins wr/\ins.map Prod.snd=(dm.take k).map (insM rs)
theorem below_drew1{k:Nat}{w w':World}(h:Below k w w'):Below k w w'.drew:=zAd h 1
def SL(n:Nat)(A:World->Prop)(l:Array Bool)(w:World):Prop:=l.getD n false=false->A w
theorem SL.iff{n i:Nat}{A:World->Prop}(h:i≠n)(l:Array Bool)(w:World):SL n A (l.setIfInBounds i true) w↔SL n A l w:=by
 unfold SL;rw[getD_set_ne false h]
theorem SL.ahead{n i:Nat}{A:World->Prop}{ops:Array Oper}{w:World}(hd:depB ops n i=true)(h:Ahead .any ops (SL n A) i w):A w:=by
 obtain⟨l,hs,h1,h2⟩:=h;exact h2 (hs.back hd (getD_ft h1))
theorem bx_keep{w w':World}{g:Nat}{cs:Array Value}{T:TypeId}{q:Option Nat}(h:Bx w g cs T)(hg:w.grownBy w' q)(hne:q≠some g):Bx w' g cs T:=by
 show w'.heap[g]?=_
 rw[hg.block g h.lt fun e=>hne e.symm];exact h
theorem own_lt{α:Type}{enc:α->List Value}{k b:Nat}{e:TypeId}{w:World}{v:Value}{l:List α}(h:zAs enc k w b e v l){n:Nat}(hn:w.heap.size<=n):v.ownBlock≠some n:=fun e=>absurd (bL h _ e).2 za
theorem InS.sl{w:World}{x:Value}{M:List Bool}(h:InS w x M):∃a n c,x=.slice a n c:=by
 rcases h with ⟨rfl,_⟩|⟨_,_,_,_,rfl,_⟩<;>exact⟨_,_,_,rfl⟩
structure SP (W1:World) (C:Value->Value->Array Value) (L r:Nat) (f:BA->Option Value) (vr vi:Value) (runs:List (Int×Int)) (ins:List (Value×List Bool)) (s:Nat) (cells:Array Value) (x:Value) (M:List Bool) (w:World):Prop where
 ls:LS W1 C L r f vr vi vr vi runs ins w
 sp:Bx w s cells 173
 xs:InS w x M
 lo:W1.heap.size<=s
 ne:vr.ownBlock≠some s
theorem SP.set{W1 w:World}{C:Value->Value->Array Value}{L r:Nat}{f:BA->Option Value}{vr vi:Value}{runs:List (Int×Int)}{ins:List (Value×List Bool)}{s:Nat}{cells:Array Value}{x:Value}{M:List Bool}(h:SP W1 C L r f vr vi runs ins s cells x M w)(i:Nat)(u:Value): SP W1 C L r f vr vi runs ins s (cells.setIfInBounds i u) x M (w.setCell ⟨s,i,none⟩ u):=
 ⟨h.ls.far h.sp h.lo zc zc zc h.ne,h.sp.set i u,h.xs.keep fun g cs hc=>cW _ _ _ _ (zAA hc h.sp zc),h.lo,h.ne⟩
theorem SP.drew{W1 w:World}{C:Value->Value->Array Value}{L r:Nat}{f:BA->Option Value}{vr vi:Value}{runs:List (Int×Int)}{ins:List (Value×List Bool)}{s:Nat}{cells:Array Value}{x:Value}{M:List Bool}(h:SP W1 C L r f vr vi runs ins s cells x M w):SP W1 C L r f vr vi runs ins s cells x M w.drew:=
 ⟨h.ls.drew,h.sp.drew,h.xs.below (zAd (aJ _ _) 1),h.lo,h.ne⟩
theorem runP_some{ds:List De}{d:De}{t:Int}(hg:zAl d.kd=true)(h:endAt ds d.id=some t):zBL ds d=cutR d.bg (min d.en t):=by
 unfold zBL toP;rw[aD hg,h]
theorem runP_none{ds:List De}{d:De}(hg:zAl d.kd=true)(h:endAt ds d.id=none):zBL ds d=cutR d.bg d.en:=by
 unfold zBL toP;rw[aD hg,h]
theorem newLedger_c(RA:Option Addr)(rc:Nat)(rs:List Rg)(UA:Option Addr)(uc:Nat)(us:List BA)(DA:Option Addr)(dc:Nat)(ds:List De)(many:Nat)(w:World)(g:GoodR rs)(hck:∀d∈ds,(1<=d.kd/\d.kd<=5)/\(zAl d.kd=true->zCX rs d.ar=0))(hr:Rgs w RA rs)(hd:Des w DA ds)(hm:many<=ds.length)(hdc:many<=dc)(hdl:ds.length<=200): Calls Tryz.prog 42 #[.agg (tiC RA rc rs UA uc us DA dc ds),.int .i64 many] w (GivesLg RA rc rs UA uc us DA dc (ds.take many) w):=by
 have HDW:=zq hd;have HKD:=zq hck;have HRw:=zq hr;clear hd hck hr;have HX:Hid (Bx (w.alloc (.cells (tiC RA rc rs UA uc us DA dc ds) 26)) w.heap.size (tiC RA rc rs UA uc us DA dc ds) 26):=Bx.new _ _ _;have HB:Hid (Below w.heap.size w (w.alloc (.cells (tiC RA rc rs UA uc us DA dc ds) 26))):=(aJ _ _).alloc (aE _) _;obtain⟨W,hW⟩:∃W,W=w.alloc (.cells (tiC RA rc rs UA uc us DA dc ds) 26):=⟨_,rfl⟩;rw[<-hW]at HX HB
 go_enter Tryz.func42,Tryz.ntmps42;(go_upto_region 1 with fail);rw[<-hW];clear hW;have x2:W.cell? ⟨w.heap.size,2,none⟩=some (.slice DA ds.length dc):=HX.o.c 2 rfl;have xf:=HX.o.frozen 2;have hsx:=HX.o.lt;have hct:=run_cutToD DA ds.length dc many hdc;(go_upto_region 2 with fail);clear x2 xf hsx hct;obtain⟨w1,hw1⟩:∃w1,w1=W.setCell ⟨w.heap.size,2,none⟩ (.slice DA many dc):=⟨_,rfl⟩;rw[<-hw1];have HX1:Hid (Bx w1 w.heap.size #[.slice RA rs.length rc,.slice UA us.length uc,.slice DA many dc] 26):=by show Bx _ _ _ _;rw[hw1];exact HX.o.set 2 _
 have HB1:Hid (Below w.heap.size w w1):=by show Below _ _ _;rw[hw1];exact HB.o.setCell (aE _) _
 clear hw1 HX HB;refine eJ (S:=(fun w'=>Bx w' w.heap.size #[.slice RA rs.length rc,.slice UA us.length uc,.slice DA many dc] 26)) zb ?_ (fun hHeld=>?_)
 ·(first|exact HXN.o.alloc _|exact HXN.o|exact HX1.o.drew)
 refine eK (i:=0) (v:=.agg #[.slice RA rs.length rc,.slice UA us.length uc,.slice DA many dc]) rfl zb zb zb (fun _ _ _ h=>h) ?_ zg ?_
 ·exact yieldsIf_load_mid zb _ _ zk w.heap.size 0 zk (#[.slice RA rs.length rc,.slice UA us.length uc,.slice DA many dc]:Array Value).toList _ (fun w hw=>rangeB hw) Tryz.underlying26 rfl zb
 simp only[eM,cY,Act.put,cV,eL,cS];refine Dw.tk 1 ?_ rfl ?_ zg ?_
 rotate_left 1
 ·(intro w _;go_simp;try with_reducible rfl)
 simp only[Dw.lay,Act.put];refine Dw.tk 2 ?_ rfl ?_ zg ?_
 rotate_left 1
 ·(intro w hSw;have e0:=hSw.c 0 rfl;go_simp;try with_reducible rfl)
 simp only[Dw.lay,Act.put];refine Dw.rd1 3 rfl (fun K hK=>?_);clear hHeld;go_simp
 go_at_call 86
 (with_reducible refine(newWorld_c RA rc rs w1.drew g (HRw.o.below (below_drew1 HB1.o))).mono ?_);rintro e wN⟨r1,r2,g1,g2,AL,cL,rfl,hwr,hbN⟩;rw[wv_eq];have HWR:=zq hwr;have HBN:=zq (zAa (below_drew1 HB1.o) hbN);have HXN:=zq (HX1.o.drew.below hbN);clear hwr hbN;refine hK.out _ _ ?_ (fun hHeld=>?_)
 ·(first|exact HXN.o.alloc _|exact HXN.o|exact HX1.o.drew)
 clear hK K
 try simp only[Dw.lay,Act.put]
 refine Dw.tk 4 ?_ rfl ?_ zg ?_
 rotate_left 1
 ·(intro w _;go_simp;try with_reducible rfl)
 simp only[Dw.lay,Act.put];refine Dw.rd1 5 rfl (fun K hK=>?_);clear hHeld;go_simp;refine hK.out _ _ ?_ (fun hHeld=>?_)
 ·(first|exact HXN.o.alloc _|exact HXN.o|exact HX1.o.drew)
 clear hK K
 try simp only[Dw.lay,Act.put]
 refine Dw.tk 6 ?_ rfl ?_ zg ?_
 rotate_left 1
 ·(intro w _;go_simp;try with_reducible rfl)
 simp only[Dw.lay,Act.put];refine wpAnyH_done zb ?_ _;clear hHeld;have hmm:=@run_makeMap Tryz.prog;(go_upto_region 4 with fail);clear hmm
 have HLS:Hid (LS wN (fun vr vi=>lgC RA rc rs UA uc us DA dc many r1 r2 g1 g2 AL cL vr vi) wN.heap.size (wN.heap.size+1) (endM (ds.take 0)) (.slice none 0 0) (.slice none 0 0) (.slice none 0 0) (.slice none 0 0) [] [] ((wN.alloc (.cells (lgC RA rc rs UA uc us DA dc many r1 r2 g1 g2 AL cL (.slice none 0 0) (.slice none 0 0)) 151)).alloc (.map #[] 0))):=
  ⟨((aJ wN.heap.size wN).alloc (aE _) _).alloc zd _,aE _,(Bx.new _ _ _).alloc _,za,by rw[aM,endM_nil];have:=zAu.new Value.string (wN.alloc (.cells (lgC RA rc rs UA uc us DA dc many r1 r2 g1 g2 AL cL (.slice none 0 0) (.slice none 0 0)) 151));simpa using this,zAs.nil _ _ _ _ _,zAs.nil _ _ _ _ _,fun x hx=>by cases hx⟩
 obtain⟨w3,hw3⟩:∃w3,w3=(wN.alloc (.cells (lgC RA rc rs UA uc us DA dc many r1 r2 g1 g2 AL cL (.slice none 0 0) (.slice none 0 0)) 151)).alloc (.map #[] 0):=⟨_,rfl⟩;rw[<-hw3]at HLS ⊢;clear hw3;have x2:w3.cell? ⟨w.heap.size,2,none⟩=some (.slice DA many dc):=(HXN.o.below HLS.o.bel).c 2 rfl;have hsx:w.heap.size<w3.heap.size:=(HXN.o.below HLS.o.bel).lt;go_wp2
 go_loopg[30] many (NL1 wN (fun vr vi=>lgC RA rc rs UA uc us DA dc many r1 r2 g1 g2 AL cL vr vi) ds many)
 case atStart=>exact⟨0,za,rfl,HLS.o⟩
 clear x2 hsx HLS
 case round =>
  obtain⟨k,hkm,rfl,hls⟩:=hrel;have HK:=zq hkm;have HL:=zq hls;have hk1:k<=many:=za;clear hkm hls
  by_cases hlt:k<many
  ·obtain⟨b,o,hA,hb0,hc0⟩:=HDW.o za
   subst hA;have HC0:=zq hc0;clear hc0;obtain⟨d,hdd⟩:∃d,ds[k]'(by omega)=d:=⟨_,rfl⟩;have hp:=(HC0.o k za).1;rw[hdd]at hp;have hrg:wr.rangeAt b (o+k*16) (deC d).toList:=fun j v hv=>((zAa HBN.o HL.o.bel).cell (p:=⟨b,o+k*16+j,none⟩) hb0).trans (hp j v hv)
   have HTK:Hid (ds.take (k+1)=ds.take k++[d]):=by show _=_;rw[bA za,hdd]
   clear hp hdd;(go_upto_region 6 with fail);(iterate 5 go_step);refine eX _ _ zk b (o+k*16) zk (deC d).toList _ hrg Tryz.underlying126 rfl zb ?_;clear hrg;(go_upto_region 7 with fail);obtain⟨wd,hwd⟩:∃wd,wd=wr.alloc (.cells (deC d) 126):=⟨_,rfl⟩;rw[<-hwd];have HD:Hid (Bx wd wr.heap.size (deC d) 126):=yc;have HLD:Hid (LS wN (fun vr vi=>lgC RA rc rs UA uc us (some ⟨b,o,none⟩) dc many r1 r2 g1 g2 AL cL vr vi) wN.heap.size (wN.heap.size+1) (endM (ds.take k)) (.slice none 0 0) (.slice none 0 0) (.slice none 0 0) (.slice none 0 0) [] [] wd):=by show LS _ _ _ _ _ _ _ _ _ _ _ _;rw[hwd];exact HL.o.below ((aJ _ _).alloc (aE _) _)
   clear hwd HL;have x2:=HD.o.c 2 rfl;have x12:=HD.o.c 12 rfl;have x15:=HD.o.c 15 rfl;have hsd:=HD.o.lt
   by_cases hq:d.kd=4
   ·have e1:(d.kd == 4)=true:=by simpa using hq
    obtain⟨wu,hup,hmu,hgu,hsu⟩:=zAS tMapE (zAZ (P:=Tryz.prog) zb) HLD.o.mp d.ot (.int .i64 d.bg);have hmu2:zAu Value.string wu (wN.heap.size+1) (endM (ds.take (k+1))):=by rw[HTK.o,endM_push hq];exact hmu
    have HLU:=zq (HLD.o.upd hmu2 hgu);clear hq hmu hmu2 hgu hsu;exact tbs
   ·have e1:(d.kd == 4)=false:=by simpa using hq
    have HLU:Hid (LS wN (fun vr vi=>lgC RA rc rs UA uc us (some ⟨b,o,none⟩) dc many r1 r2 g1 g2 AL cL vr vi) wN.heap.size (wN.heap.size+1) (endM (ds.take (k+1))) (.slice none 0 0) (.slice none 0 0) (.slice none 0 0) (.slice none 0 0) [] [] wd):=by show LS _ _ _ _ _ _ _ _ _ _ _ _;rw[HTK.o,endM_skip hq];exact HLD.o
    clear hq;exact tbs
  ·have hke:k=many:=by omega
   obtain⟨dm,hdm⟩:∃dm,dm=ds.take many:=⟨_,rfl⟩;have hdml:dm.length=many:=by rw[hdm,cC];omega
   have HDM:Hid (∀i (h:i<dm.length),dm[i]=ds[i]'(by omega)):=fun i h=>by subst hdm;rw[aP]
   have HLS:Hid (LS wN (fun vr vi=>lgC RA rc rs UA uc us DA dc many r1 r2 g1 g2 AL cL vr vi) wN.heap.size (wN.heap.size+1) (endM dm) (.slice none 0 0) (.slice none 0 0) (.slice none 0 0) (.slice none 0 0) [] [] wr):=by show LS _ _ _ _ _ _ _ _ _ _ _ _;rw[hdm];have:=HL.o;rwa [hke]at this
   rw[<-hdm];have HDME:=zq hdm;clear hdm HL;obtain rfl:many=k:=hke.symm;clear hke;have x2:wr.cell? ⟨w.heap.size,2,none⟩=some (.slice DA many dc):=(HXN.o.below HLS.o.bel).c 2 rfl;have hsx:w.heap.size<wr.heap.size:=(HXN.o.below HLS.o.bel).lt;clear HK;have hdl2:dm.length<=200:=za;go_wp2
   go_loopg[46] many (NL2 wN (fun vr vi=>lgC RA rc rs UA uc us DA dc many r1 r2 g1 g2 AL cL vr vi) rs dm)
   case atStart=>exact⟨0,_,_,[],za,rfl,HLS.o,rfl⟩
   clear x2 hsx HLS
   case round =>
    obtain⟨j,vr,vi,ins,hjm,rfl,hls,hins⟩:=hrel;have HJ:=zq hjm;have HL:=zq hls;have HIN:=zq hins;have hj1:j<=dm.length:=za;have hil:ins.length<=200:=by have:=bX List.length hins;simp at this;omega
    have hrl:((dm.take j).map (zBL dm)).length<=200:=ze;clear hjm hls hins
    by_cases hlt:j<dm.length
    ·obtain⟨b,o,hA,hb0,hc0⟩:=HDW.o za
     subst hA;have HC0:=zq hc0;clear hc0;obtain⟨d,hdd⟩:∃d,dm[j]=d:=⟨_,rfl⟩;have hp:=HC0.o j za;rw[<-HDM.o j hlt,hdd]at hp;have HDOK:=zq (hp.2.below HBN.o);have hrg:wr.rangeAt b (o+j*16) (deC d).toList:=fun i v hv=>((zAa HBN.o HL.o.bel).cell (p:=⟨b,o+j*16+i,none⟩) hb0).trans (hp.1 i v hv)
     have HTK:Hid (dm.take (j+1)=dm.take j++[d]):=by show _=_;rw[bA hlt,hdd]
     have HK1:Hid ((1<=d.kd/\d.kd<=5)/\(zAl d.kd=true->zCX rs d.ar=0)):=HKD.o d (by rw[<-hdd,HDM.o j hlt];exact bI _);clear hp hdd;(go_upto_region 12 with fail);(iterate 5 go_step);refine eX _ _ zk b (o+j*16) zk (deC d).toList _ hrg Tryz.underlying126 rfl zb ?_;clear hrg;(go_upto_region 14 with fail);obtain⟨wd,hwd⟩:∃wd,wd=(wr.alloc (.cells (deC d) 126)).alloc (.cells #[.int .i64 0,.int .i64 0] 173):=⟨_,rfl⟩;rw[<-hwd];have HD:Hid (Bx wd wr.heap.size (deC d) 126):=by show Bx _ _ _ _;rw[hwd];exact(Bx.new _ _ _).alloc _
     have HRN:Hid (Bx wd (wr.heap.size+1) #[.int .i64 0,.int .i64 0] 173):=by show Bx _ _ _ _;rw[hwd];exact Bx.new1 _ _ _ _
     have HLD:Hid (LS wN (fun vr vi=>lgC RA rc rs UA uc us (some ⟨b,o,none⟩) dc many r1 r2 g1 g2 AL cL vr vi) wN.heap.size (wN.heap.size+1) (endM dm) vr vi vr vi ((dm.take j).map (zBL dm)) ins wd):=by show LS _ _ _ _ _ _ _ _ _ _ _ _;rw[hwd];exact HL.o.below (((aJ wr.heap.size wr).alloc (aE _) _).alloc zd _)
     have HNE:Hid (vr.ownBlock≠some (wr.heap.size+1)):=own_lt HL.o.rn za;have HLO:Hid (wN.heap.size<=wr.heap.size+1):=Nat.le_succ_of_le HL.o.bel.size;clear hwd HL;have x2:=HD.o.c 2 rfl;have hsd:=HD.o.lt;have HFO:=zq (fun W=>zBX d.kd W HK1.o.1);have hfp:=fldC_place d.kd HK1.o.1;(go_wp2_with fail);(with_reducible refine(HFO.o _).mono ?_);rintro e wf⟨rfl,hbf⟩;have HDF:=zq (HD.o.below hbf);have HRF:=zq (HRN.o.below hbf);have HLF:=zq (HLD.o.below hbf);clear hbf x2 hsd HFO HD HRN HLD;(go_upto_if 54 with fail);clear hfp
     go_cut[12,46] from 46 to 106 (fun v i wx=>i=.int .i64 (j:Nat)/\∃x,x=v/\SP wN (fun vr vi=>lgC RA rc rs UA uc us (some ⟨b,o,none⟩) dc many r1 r2 g1 g2 AL cL vr vi) wN.heap.size (wN.heap.size+1) (endM dm) vr vi ((dm.take j).map (zBL dm)) ins (wr.heap.size+1) (spC (zBL dm d)) x (insM rs d) wx)
     case first =>
      cases hgv:zAl d.kd with
      |false =>
       have HM:Hid (insM rs d=[]):=by show _=_;unfold insM;rw[aW (by rw[hgv];simp)]
       have HRP:Hid (zBL dm d=(0,0)):=by show _=_;unfold zBL;rw[aW (by rw[hgv];simp)]
       go_wp2;go_meet;exact⟨rfl,_,rfl,by rw[HM.o,HRP.o];exact⟨HLF.o,HRF.o,.inl ⟨rfl,rfl⟩,HLO.o,HNE.o⟩⟩
      |true =>
       have HGA:=zq (goodA_of (HK1.o.2 hgv));have HM:Hid (insM rs d=true::inL rs d.ar):=by show _=_;unfold insM;rw[aD hgv]
       have HGV:=zq hgv;clear hgv;(go_upto_region 15 with fail);refine eJ (S:=(fun w'=>LS wN (fun vr vi=>lgC RA rc rs UA uc us (some ⟨b,o,none⟩) dc many r1 r2 g1 g2 AL cL vr vi) wN.heap.size (wN.heap.size+1) (endM dm) vr vi vr vi ((dm.take j).map (zBL dm)) ins w'/\Bx w' wr.heap.size (deC d) 126)) zb ?_ (fun hHeld=>?_)
       ·(first|exact⟨HS6.o.ls,HD6.o⟩|exact⟨HL5.o,HD5.o⟩|exact⟨HLF.o.drew,HDF.o.drew⟩)
       refine Dw.tk 0 ?_ rfl ?_ zg ?_
       rotate_left 1
       ·(intro w _;go_simp;try with_reducible rfl)
       simp only[eM,cY,Act.put,cV,eL,cS];refine Dw.tk 1 ?_ rfl ?_ zg ?_
       rotate_left 1
       ·(intro w hSw;have e12:=hSw.2.c 12 rfl;go_simp;try with_reducible rfl)
       simp only[Dw.lay,Act.put];refine Dw.tk 2 ?_ rfl ?_ zg ?_
       rotate_left 1
       ·(intro w _;go_simp;try with_reducible rfl)
       simp only[Dw.lay,Act.put];refine Dw.tk 3 ?_ rfl ?_ zg ?_
       rotate_left 1
       ·(intro w hSw;have e13:=hSw.2.c 13 rfl;go_simp;try with_reducible rfl)
       simp only[Dw.lay,Act.put];refine Dw.tk 4 ?_ rfl ?_ zg ?_
       rotate_left 1
       ·(intro w _;go_simp;try with_reducible rfl)
       simp only[Dw.lay,Act.put];refine Dw.tk 5 ?_ rfl ?_ zg ?_
       rotate_left 1
       ·(intro w _;go_simp;try with_reducible rfl)
       simp only[Dw.lay,Act.put];refine Dw.tk 6 ?_ rfl ?_ zg ?_
       rotate_left 1
       ·(intro w _;go_simp;try with_reducible rfl)
       simp only[Dw.lay,Act.put];refine Dw.tk 7 ?_ rfl ?_ zg ?_
       rotate_left 1
       ·(intro w _;go_simp;try with_reducible rfl)
       simp only[Dw.lay,Act.put];refine eK (i:=8) (v:=.agg (wvC RA rc r1 r2 g1 g2 AL cL rs)) rfl zb zb zb (fun _ _ _ h=>h) ?_ zg ?_
       ·exact yieldsIf_load_mid zb _ _ zk wN.heap.size 3 zk (wvC RA rc r1 r2 g1 g2 AL cL rs).toList _ (fun w hw=>rangeL hw.1.lg) Tryz.underlying103 rfl zb
       simp only[Dw.lay,Act.put];refine Dw.tk 9 ?_ rfl ?_ zg ?_
       rotate_left 1
       ·(intro w _;go_simp;try with_reducible rfl)
       simp only[Dw.lay,Act.put];refine Dw.tk 10 ?_ rfl ?_ zg ?_
       rotate_left 1
       ·(intro w hSw;have e10:=hSw.2.c 10 rfl;go_simp;try with_reducible rfl)
       simp only[Dw.lay,Act.put];refine Dw.rd1 11 rfl (fun K hK=>?_);clear hHeld;go_simp
       go_at_call 88
       have hin:=in_c RA d.arA rc r1 r2 g1 g2 AL cL d.arc rs d.ar wf.drew g HGA.o (HWR.o.below HLF.o.drew.bel) ((HDOK.o.below HLF.o.drew.bel).ars);rw[wv_eq]at hin;(with_reducible refine hin.mono ?_);rintro e w5⟨go,cg,rfl,hgo,hb5⟩;have HL5:=zq (HLF.o.drew.below hb5);have HD5:=zq (HDF.o.drew.below hb5);have HR5:=zq (HRF.o.drew.below hb5);have HGO:Hid (InS w5 (.slice (some ⟨go,0,none⟩) (inL rs d.ar).length cg) (true::inL rs d.ar)):=.inr ⟨go,cg,_,rfl,rfl,hgo⟩;clear hgo hb5 hin;refine hK.out _ _ ?_ (fun hHeld=>?_)
       ·(first|exact⟨HS6.o.ls,HD6.o⟩|exact⟨HL5.o,HD5.o⟩|exact⟨HLF.o.drew,HDF.o.drew⟩)
       clear hK K
       try simp only[Dw.lay,Act.put]
       refine Dw.rd1 12 rfl (fun K hK=>?_);clear hHeld;rw[aD zb];obtain⟨w6,hw6⟩:∃w6,w6=w5.setCells (wr.heap.size+1) 0 (#[.int .i64 d.bg,.int .i64 d.en]:Array Value).toList:=⟨_,rfl⟩;refine wp_store_mid _ _ _ zk (wr.heap.size+1) 0 #[Value.int .i64 d.bg,Value.int .i64 d.en] zk zk (thereB HR5.o (aE 2)) zb zt ?_;rw[<-hw6];have HS6:Hid (SP wN (fun vr vi=>lgC RA rc rs UA uc us (some ⟨b,o,none⟩) dc many r1 r2 g1 g2 AL cL vr vi) wN.heap.size (wN.heap.size+1) (endM dm) vr vi ((dm.take j).map (zBL dm)) ins (wr.heap.size+1) #[.int .i64 d.bg,.int .i64 d.en] (.slice (some ⟨go,0,none⟩) (inL rs d.ar).length cg) (true::inL rs d.ar) w6):=by show SP _ _ _ _ _ _ _ _ _ _ _ _ _ _;rw[hw6];exact(SP.set ⟨HL5.o,HR5.o,HGO.o,HLO.o,HNE.o⟩ 0 (.int .i64 d.bg)).set 1 (.int .i64 d.en)
       have HD6:Hid (Bx w6 wr.heap.size (deC d) 126):=by show Bx _ _ _ _;rw[hw6];exact(HD5.o.far (by show wr.heap.size≠wr.heap.size+1;omega) _).far (by show wr.heap.size≠wr.heap.size+1;omega) _
       clear hw6;refine hK.out _ _ ?_ (fun hHeld=>?_)
       ·(first|exact⟨HS6.o.ls,HD6.o⟩|exact⟨HL5.o,HD5.o⟩|exact⟨HLF.o.drew,HDF.o.drew⟩)
       clear hK K
       try simp only[eM,cT,cY,Act.put]
       refine Dw.tk 13 ?_ rfl ?_ zg ?_
       rotate_left 1
       ·(intro w _;go_simp;try with_reducible rfl)
       simp only[Dw.lay,Act.put];refine wpAnyH_done zb ?_ _;clear hHeld;clear HLF HDF HRF;have hlk:=zAp tMap kStr zInt HS6.o.ls.mp d.id true;have x0:=HD6.o.c 0 rfl;have hsd:=HD6.o.lt;have s0:=HS6.o.sp.c 0 rfl;have s1:=HS6.o.sp.c 1 rfl;have f0:=HS6.o.sp.frozen 0;have f1:=HS6.o.sp.frozen 1;have hss:=HS6.o.sp.lt
       cases hea:endAt dm d.id with
       |none =>
        have HRP:=zq (runP_none HGV.o hea);rw[show endM dm d.id=none from bX (Option.map (Value.int .i64)) hea]at hlk;simp only[if_true,Option.getD_none,eD]at hlk;clear hea
        by_cases hle:d.en<=d.bg
        ·have e1:decide (d.en<=d.bg)=true:=aT hle
         have HV:Hid (zBL dm d=(0,0)):=by show _=_;rw[HRP.o];unfold cutR;rw[aD hle]
         clear hle;go_wp2;go_meet;exact⟨rfl,_,rfl,by rw[HM.o,HV.o];exact(HS6.o.set 0 _).set 1 _⟩
        ·have e1:decide (d.en<=d.bg)=false:=aU hle
         have HV:Hid (zBL dm d=(d.bg,d.en)):=by show _=_;rw[HRP.o];unfold cutR;rw[aW hle]
         clear hle;go_wp2;go_meet;exact⟨rfl,_,rfl,by rw[HM.o,HV.o];exact HS6.o⟩
       |some t =>
        have HRP:=zq (runP_some HGV.o hea);rw[show endM dm d.id=some (.int .i64 t) from bX (Option.map (Value.int .i64)) hea]at hlk;simp only[if_true,eE,Option.isSome_some]at hlk;clear hea;obtain⟨te,hte⟩:∃te,te=min d.en t:=⟨_,rfl⟩;have HTE:=zq hte;clear hte;(go_upto_region 19 with fail);rw[<-HTE.o];rw[<-HTE.o]at HRP;have HS7:=zq (HS6.o.set 1 (.int .i64 te));obtain⟨w7,hw7⟩:∃w7,w7=w6.setCell ⟨wr.heap.size+1,1,none⟩ (.int .i64 te):=⟨_,rfl⟩;rw[<-hw7]at HS7 ⊢;clear hw7 hlk x0 hsd s0 s1 f0 f1 hss;have s0:=HS7.o.sp.c 0 rfl;have s1:=HS7.o.sp.c 1 rfl;have f0:=HS7.o.sp.frozen 0;have f1:=HS7.o.sp.frozen 1;have hss:=HS7.o.sp.lt
        by_cases hle:te<=d.bg
        ·have e1:decide (te<=d.bg)=true:=aT hle
         have HV:Hid (zBL dm d=(0,0)):=by show _=_;rw[HRP.o];unfold cutR;rw[aD hle]
         clear hle;go_wp2;go_meet;exact⟨rfl,_,rfl,by rw[HM.o,HV.o];exact(HS7.o.set 0 _).set 1 _⟩
        ·have e1:decide (te<=d.bg)=false:=aU hle
         have HV:Hid (zBL dm d=(d.bg,te)):=by show _=_;rw[HRP.o];unfold cutR;rw[aW hle]
         clear hle;go_wp2;go_meet;exact⟨rfl,_,rfl,by rw[HM.o,HV.o];exact HS7.o⟩
     case rest =>
      obtain⟨rfl,x,rfl,hsp⟩:=hcut;obtain⟨xa,xn,xc,rfl⟩:=hsp.xs.sl;have HL:=zq hsp.drew.ls;have HX:=zq hsp.drew.xs;have HA:=zq (And.intro hsp.drew.ls.lg hsp.drew.sp);clear hsp HLF HDF HRF HDOK HK1;obtain⟨runs,hrn⟩:∃runs,runs=(dm.take j).map (zBL dm):=⟨_,rfl⟩;have HRE:=zq hrn;rw[<-hrn]at HL hrl;clear hrn;(go_upto_region 21 with fail);refine wp_region_late (S:=SL 18 (fun w'=>Bx w' wN.heap.size ((fun vr vi=>lgC RA rc rs UA uc us (some ⟨b,o,none⟩) dc many r1 r2 g1 g2 AL cL vr vi) vr vi) 151/\Bx w' (wr.heap.size+1) (spC (zBL dm d)) 173)) zb (fun _=>HA.o) ?_;intro hsh _;obtain⟨wq,hwq⟩:∃wq,wq=wc.drew:=⟨_,rfl⟩;rw[<-hwq]at HL HX HA ⊢;clear hwq;refine zBn (i:=0) (v:=?_) rfl zb zb zb (fun _ _ _ h=>h) (SL.iff zc) hsh (Or.inl ⟨zb,?_⟩) (fun _=>HA.o) ?_
      rotate_left 1
      ·(intro w _;go_simp;try with_reducible rfl)
      intro hsh _;simp only[eM,cY,Act.put,cV,eL,cS]at hsh ⊢;refine zBn (i:=1) (v:=?_) rfl zb zb zb (fun _ _ _ h=>h) (SL.iff zc) hsh (Or.inl ⟨zb,?_⟩) (fun _=>HA.o) ?_
      rotate_left 1
      ·(intro w _;go_simp;try with_reducible rfl)
      intro hsh _;simp only[Dw.lay,Act.put]at hsh ⊢;refine zBn (i:=2) (v:=?_) rfl zb zb zb (fun _ _ _ h=>h) (SL.iff zc) hsh (Or.inl ⟨zb,?_⟩) (fun _=>HA.o) ?_
      rotate_left 1
      ·(intro w _;go_simp;try with_reducible rfl)
      intro hsh _;simp only[Dw.lay,Act.put]at hsh ⊢;refine zBn (i:=3) (v:=?_) rfl zb zb zb (fun _ _ _ h=>h) (SL.iff zc) hsh (Or.inl ⟨zb,?_⟩) (fun _=>HA.o) ?_
      rotate_left 1
      ·(intro w _;go_simp;try with_reducible rfl)
      intro hsh _;simp only[Dw.lay,Act.put]at hsh ⊢;refine zBn (i:=4) (v:=?_) rfl zb zb zb (fun _ _ _ h=>h) (SL.iff zc) hsh (Or.inl ⟨zb,?_⟩) (fun _=>HA.o) ?_
      rotate_left 1
      ·(intro w _;go_simp;try with_reducible rfl)
      intro hsh _;simp only[Dw.lay,Act.put]at hsh ⊢;refine zBn (i:=5) (v:=?_) rfl zb zb zb (fun _ _ _ h=>h) (SL.iff zc) hsh (Or.inl ⟨zb,?_⟩) (fun _=>HA.o) ?_
      rotate_left 1
      ·(intro w hw;have e9:=(SL.ahead (n:=18) zb hw).1.c 9 rfl;have f9:=(SL.ahead (n:=18) zb hw).1.lt;go_simp;try with_reducible rfl)
      intro hsh _;simp only[Dw.lay,Act.put]at hsh ⊢;refine zBn (i:=6) (v:=.agg (spC (zBL dm d))) rfl zb zb zb (fun _ _ _ h=>h) (SL.iff zc) hsh ?_ (fun _=>HA.o) ?_
      ·exact yieldsIf_load_mid zb _ _ zk (wr.heap.size+1) 0 zk (spC (zBL dm d)).toList _ (fun w hw=>rangeB (SL.ahead (n:=18) zb hw).2) Tryz.underlying173 rfl zb
      intro hsh _;simp only[Dw.lay,Act.put]at hsh ⊢;refine zBn (i:=9) (v:=?_) rfl zb zb zb (fun _ _ _ h=>h) (SL.iff zc) hsh (Or.inl ⟨zb,?_⟩) (fun _=>HA.o) ?_
      rotate_left 1
      ·(intro w _;go_simp;try with_reducible rfl)
      intro hsh _;simp only[Dw.lay,Act.put]at hsh ⊢;refine zBn (i:=10) (v:=?_) rfl zb zb zb (fun _ _ _ h=>h) (SL.iff zc) hsh (Or.inl ⟨zb,?_⟩) (fun _=>HA.o) ?_
      rotate_left 1
      ·(intro w _;go_simp;try with_reducible rfl)
      intro hsh _;simp only[Dw.lay,Act.put]at hsh ⊢;refine zBn (i:=11) (v:=?_) rfl zb zb zb (fun _ _ _ h=>h) (SL.iff zc) hsh (Or.inl ⟨zb,?_⟩) (fun _=>HA.o) ?_
      rotate_left 1
      ·(intro w _;go_simp;try with_reducible rfl)
      intro hsh _;simp only[Dw.lay,Act.put]at hsh ⊢;refine zBn (i:=12) (v:=?_) rfl zb zb zb (fun _ _ _ h=>h) (SL.iff zc) hsh (Or.inl ⟨zb,?_⟩) (fun _=>HA.o) ?_
      rotate_left 1
      ·(intro w hw;have e9:=(SL.ahead (n:=18) zb hw).1.c 10 rfl;have f9:=(SL.ahead (n:=18) zb hw).1.lt;go_simp;try with_reducible rfl)
      intro hsh _;simp only[Dw.lay,Act.put]at hsh ⊢;refine zBn (i:=13) (v:=?_) rfl zb zb zb (fun _ _ _ h=>h) (SL.iff zc) hsh (Or.inl ⟨zb,?_⟩) (fun _=>HA.o) ?_
      rotate_left 1
      ·(intro w _;go_simp;try with_reducible rfl)
      intro hsh _;simp only[Dw.lay,Act.put]at hsh ⊢;clear hsh;refine zAR (rs:=[7,14]) zb zd ?_;refine AllL.cons rfl (fun K hK=>?_) ?_
      ·go_simp
       obtain⟨w7,hw7⟩:∃w7,w7=wq.alloc (.cells (spC (zBL dm d)) 173):=⟨_,rfl⟩;rw[<-hw7];have hb:Below wq.heap.size wq w7:=by rw[hw7];exact(aJ _ _).alloc (aE _) _
       have HP:Hid (Bx w7 wq.heap.size (spC (zBL dm d)) 173):=by show Bx _ _ _ _;rw[hw7];exact Bx.new _ _ _
       have HL:=zq (HL.o.below hb);have HX:=zq (HX.o.below hb);have HA:=zq (And.intro (HA.o.1.below hb) (HA.o.2.below hb));clear hb hw7;refine hK.out _ _ (fun _=>HA.o) (fun _=>?_);clear hK K
       try simp only[Dw.lay,Act.put]
       refine zAR (rs:=[8,14]) zb zd ?_;refine AllL.cons rfl (fun K hK=>?_) ?_
       ·refine zCo (k:=2) (enc:=eRun) zk _ _ _ zk elRun wN.heap.size vr runs zk HL.o.rn wq.heap.size 1 (zBL dm d) zk HP.o rfl rfl (oneRun _) zm za HL.o.bel.size ?_
        intro g8 cap8 w8 ho8 hg8;have HX:=zq (zDd HX.o HL.o.rn zc hg8);have HA:=zq (And.intro (zCb HA.o.1 HL.o.rn zc hg8) (bx_keep HA.o.2 hg8 HNE.o));have HL:=zq (HL.o.pushR ho8 hg8);refine hK.out _ _ (fun _=>HA.o) (fun _=>?_);clear hK K
        try simp only[Dw.lay,Act.put]
        refine zAR (rs:=[14]) zb zd ?_;refine AllL.cons rfl (fun K hK=>?_) AllL.nil;go_simp;obtain⟨w14,hw14⟩:∃w14,w14=w8.alloc (.cells #[.slice xa xn xc] 108):=⟨_,rfl⟩;rw[<-hw14];have hb:Below w8.heap.size w8 w14:=y9;have HI:Hid (Bx w14 w8.heap.size #[.slice xa xn xc] 108):=by show Bx _ _ _ _;rw[hw14];exact Bx.new _ _ _
        have HL:=zq (HL.o.below hb);have HX:=zq (HX.o.below hb);have HA:=zq (And.intro (HA.o.1.below hb) (HA.o.2.below hb));clear hb hw14;refine hK.out _ _ (fun _=>HA.o) (fun _=>?_);clear hK K
        try simp only[Dw.lay,Act.put]
        refine zAR (rs:=[15]) zb zd ?_;refine AllL.cons rfl (fun K hK=>?_) AllL.nil;refine zCo (k:=1) (enc:=eIn) zk _ _ _ zk elIn wN.heap.size vi ins zk HL.o.ns w8.heap.size 1 (.slice xa xn xc,insM rs d) zk HI.o rfl rfl (fun u hu=>by rw[List.mem_singleton.1 hu];exact HX.o.one) zm za HL.o.bel.size ?_;exact taa
       ·refine AllL.cons rfl (fun K hK=>?_) AllL.nil
        go_simp;obtain⟨w14,hw14⟩:∃w14,w14=w7.alloc (.cells #[.slice xa xn xc] 108):=⟨_,rfl⟩;rw[<-hw14];have hb:Below w7.heap.size w7 w14:=y9;have HI:Hid (Bx w14 w7.heap.size #[.slice xa xn xc] 108):=by show Bx _ _ _ _;rw[hw14];exact Bx.new _ _ _
        have HL:=zq (HL.o.below hb);have HX:=zq (HX.o.below hb);have HA:=zq (And.intro (HA.o.1.below hb) (HA.o.2.below hb));have HP:=zq (HP.o.below hb);clear hb hw14;refine hK.out _ _ (fun _=>HA.o) (fun _=>?_);clear hK K
        try simp only[Dw.lay,Act.put]
        refine zAR (rs:=[8]) zb zd ?_;refine AllL.cons rfl (fun K hK=>?_) AllL.nil;refine zCo (k:=2) (enc:=eRun) zk _ _ _ zk elRun wN.heap.size vr runs zk HL.o.rn wq.heap.size 1 (zBL dm d) zk HP.o rfl rfl (oneRun _) zm za HL.o.bel.size ?_;intro g8 cap8 w8 ho8 hg8;have HX:=zq (zDd HX.o HL.o.rn zc hg8);have HA:=zq (And.intro (zCb HA.o.1 HL.o.rn zc hg8) (bx_keep HA.o.2 hg8 HNE.o));have HI:=zq (zCb HI.o HL.o.rn zc hg8);have HL:=zq (HL.o.pushR ho8 hg8);refine hK.out _ _ (fun _=>HA.o) (fun _=>?_);clear hK K
        try simp only[Dw.lay,Act.put]
        refine zAR (rs:=[15]) zb zd ?_;refine AllL.cons rfl (fun K hK=>?_) AllL.nil;refine zCo (k:=1) (enc:=eIn) zk _ _ _ zk elIn wN.heap.size vi ins zk HL.o.ns w7.heap.size 1 (.slice xa xn xc,insM rs d) zk HI.o rfl rfl (fun u hu=>by rw[List.mem_singleton.1 hu];exact HX.o.one) zm za HL.o.bel.size ?_;exact taa
      ·refine AllL.cons rfl (fun K hK=>?_) AllL.nil
       go_simp;obtain⟨w14,hw14⟩:∃w14,w14=wq.alloc (.cells #[.slice xa xn xc] 108):=⟨_,rfl⟩;rw[<-hw14];have hb:Below wq.heap.size wq w14:=y9;have HI:Hid (Bx w14 wq.heap.size #[.slice xa xn xc] 108):=by show Bx _ _ _ _;rw[hw14];exact Bx.new _ _ _
       have HL:=zq (HL.o.below hb);have HX:=zq (HX.o.below hb);have HA:=zq (And.intro (HA.o.1.below hb) (HA.o.2.below hb));clear hb hw14;refine hK.out _ _ (fun _=>HA.o) (fun _=>?_);clear hK K
       try simp only[Dw.lay,Act.put]
       refine zAR (rs:=[7]) zb zd ?_;refine AllL.cons rfl (fun K hK=>?_) AllL.nil;go_simp;obtain⟨w7,hw7⟩:∃w7,w7=w14.alloc (.cells (spC (zBL dm d)) 173):=⟨_,rfl⟩;rw[<-hw7];have hb:Below w14.heap.size w14 w7:=by rw[hw7];exact(aJ _ _).alloc (aE _) _
       have HP:Hid (Bx w7 w14.heap.size (spC (zBL dm d)) 173):=by show Bx _ _ _ _;rw[hw7];exact Bx.new _ _ _
       have HL:=zq (HL.o.below hb);have HX:=zq (HX.o.below hb);have HA:=zq (And.intro (HA.o.1.below hb) (HA.o.2.below hb));have HI:=zq (HI.o.below hb);clear hb hw7;refine hK.out _ _ (fun _=>HA.o) (fun _=>?_);clear hK K
       try simp only[Dw.lay,Act.put]
       refine zAR (rs:=[8]) zb zd ?_;refine AllL.cons rfl (fun K hK=>?_) AllL.nil;refine zCo (k:=2) (enc:=eRun) zk _ _ _ zk elRun wN.heap.size vr runs zk HL.o.rn w14.heap.size 1 (zBL dm d) zk HP.o rfl rfl (oneRun _) zm za HL.o.bel.size ?_;intro g8 cap8 w8 ho8 hg8;have HX:=zq (zDd HX.o HL.o.rn zc hg8);have HA:=zq (And.intro (zCb HA.o.1 HL.o.rn zc hg8) (bx_keep HA.o.2 hg8 HNE.o));have HI:=zq (zCb HI.o HL.o.rn zc hg8);have HL:=zq (HL.o.pushR ho8 hg8);refine hK.out _ _ (fun _=>HA.o) (fun _=>?_);clear hK K
       try simp only[Dw.lay,Act.put]
       refine zAR (rs:=[15]) zb zd ?_;refine AllL.cons rfl (fun K hK=>?_) AllL.nil;refine zCo (k:=1) (enc:=eIn) zk _ _ _ zk elIn wN.heap.size vi ins zk HL.o.ns wq.heap.size 1 (.slice xa xn xc,insM rs d) zk HI.o rfl rfl (fun u hu=>by rw[List.mem_singleton.1 hu];exact HX.o.one) zm za HL.o.bel.size ?_;exact taa
    ·have hje:j=dm.length:=by omega
     have HIN2:Hid (ins.map Prod.snd=dm.map (insM rs)):=by show _=_;rw[HIN.o,hje,aG]
     rw[hje,aG]at HL;clear HIN hil hrl HJ;have hlt2:¬j<many:=za;go_wp2;go_ret
     have e9:=HDME.o;subst e9;exact⟨wN.heap.size,rfl,⟨r1,r2,g1,g2,AL,cL,vr,vi,ins,wN.heap.size,by rw[hdml];exact HL.o.lg,HWR.o.below HL.o.bel,HL.o.rn,HL.o.ns,HIN2.o,HL.o.el⟩,zAa HBN.o HL.o.bel⟩
end Go.Proofs.YtbbchlpccgkikaaGreatDoor
