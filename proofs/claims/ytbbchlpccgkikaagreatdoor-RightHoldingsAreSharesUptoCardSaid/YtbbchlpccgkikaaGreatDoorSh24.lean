/- Parts of the proof, joined: Package right: open, and Runs. Package right: a ledger's valid. Packag. -/
import Derived.Test.YtbbchlpccgkikaaGreatDoorSh22
import Derived.Test.YtbbchlpccgkikaaGreatDoorSh23
import Derived.Test.YtbbchlpccgkikaaGreatDoorSh16
import Derived.Ground.SlgmProg
import Derived.Shelf.SortM.Plain
import Derived.Shelf.SortM.SortNone
import Derived.Shelf.SlGeneric
import Derived.Deep.Upon
import Derived.Ground.SlgnProg
import Derived.Shelf.SlicesG.CompactI
set_option maxRecDepth 100000
set_option maxHeartbeats 8000000
namespace Go.Proofs.YtbbchlpccgkikaaGreatDoor
open Go.RowKit Dw
def openF(rs:List Rg)(us:List BA)(ds:List De)(ns:List BA):Int:=if zBQ rs us ds≠0 then zBQ rs us ds else if ns.all zBi=true then 0 else 5
def GivesOp(f:Int)(RA:Option Addr)(rc:Nat)(rs:List Rg)(UA:Option Addr)(uc:Nat)(us:List BA)(DA:Option Addr)(dc:Nat)(ds:List De)(w:World)(e:Ending)(w':World):Prop:=
 ∃P,e=.returned (.tuple #[.pointer P,.int .i64 f])/\Below w.heap.size w w'/\(f≠0->P=none)/\(f=0->∃L,P=some ⟨L,0,none⟩/\LgIs RA rc rs UA uc us DA dc ds w' L)
def OpR(w:World)(T:Array Value)(ns:List BA)(m:Nat)(i:Value)(wr:World):Prop:=
 Below w.heap.size w wr/\Bx wr w.heap.size T 26/\∃j,j+m=ns.length/\i=.int .i64 (j:Nat)/\∀q (hq:q<ns.length),q<j->zBi ns[q]=true
theorem open_c(RA:Option Addr)(rc:Nat)(rs:List Rg)(UA:Option Addr)(uc:Nat)(us:List BA)(DA:Option Addr)(dc:Nat)(ds:List De)(NA:Option Addr)(nc:Nat)(ns:List BA)(w:World)(hr:Rgs w RA rs)(hu:Strs w UA us)(hd:Des w DA ds)(hz:∀i (h:i<rs.length),(rs[i]).nm.size<=9223372036854775807)(hz2:∀i (h:i<us.length),(us[i]).size<=9223372036854775807)(hn:Strs w NA ns)(hnz:∀i (h:i<ns.length),(ns[i]).size<=9223372036854775807)(hnl:ns.length<=10)(hdc:ds.length<=dc): Calls Tryz.prog 31 #[.agg (tiC RA rc rs UA uc us DA dc ds),.slice NA ns.length nc] w (GivesOp (openF rs us ds ns) RA rc rs UA uc us DA dc ds w):=by
 generalize hres:openF rs us ds ns=res;have HR:=zq hres;clear hres;have HX:Hid (Bx (w.alloc (.cells (tiC RA rc rs UA uc us DA dc ds) 26)) w.heap.size (tiC RA rc rs UA uc us DA dc ds) 26):=Bx.new _ _ _;have HB:Hid (Below w.heap.size w (w.alloc (.cells (tiC RA rc rs UA uc us DA dc ds) 26))):=(aJ _ _).alloc (aE _) _;obtain⟨W,hW⟩:∃W,W=w.alloc (.cells (tiC RA rc rs UA uc us DA dc ds) 26):=⟨_,rfl⟩;rw[<-hW]at HX HB;have HCK:=zq (CheckT_c RA rc rs UA uc us DA dc ds W (hr.below HB.o) (hu.below HB.o) (hd.below HB.o) hz hz2);have HDw:=zq hd;have HRw:=zq hr;have HNw:=zq hn;have HNZ:=zq hnz;clear hr hu hd hn hnz
 go_enter Tryz.func31,Tryz.ntmps31;(go_upto_region 1 with fail);rw[<-hW];clear hW;(iterate 2 go_step);refine eX _ _ zk w.heap.size 0 zk (tiC RA rc rs UA uc us DA dc ds).toList _ (rangeB HX.o) Tryz.underlying26 rfl zb ?_;(go_wp2_with fail);(with_reducible refine HCK.o.mono ?_);rintro e w1⟨rfl,hb1⟩;have HB1:=zq (zAa HB.o hb1);have HX1:=zq (HX.o.below hb1);clear hb1 HCK HX HB
 by_cases hc:zBQ rs us ds=0
 case neg =>
  have hcb:(zBQ rs us ds != 0)=true:=by simpa using hc
  have HS:Hid (res=zBQ rs us ds):=by show _=_;rw[<-HR.o];unfold openF;rw[aD hc]
  have HN0:Hid (res≠0):=by show _≠_;rw[HS.o];exact hc
  clear hc;go_wp2;go_ret2
  exact⟨none,by rw[HS.o];rfl,HB1.o,fun _=>rfl,fun h=>absurd h HN0.o⟩
 have HC:=zq hc;rw[hc];clear hc;obtain⟨hcr,_,hdl⟩:=zBM HC.o;have HGR:=zq (zDt hcr)
 have HR2:Hid ((if ns.all zBi=true then (0:Int) else 5)=res):=by
  show _=_
  rw[<-HR.o];unfold openF;rw[aW (show ¬(zBQ rs us ds≠0) by rw[HC.o];simp)]
 clear HR hcr;go_wp2
 go_loopg[16] ns.length (OpR w (tiC RA rc rs UA uc us DA dc ds) ns)
 case atStart=>exact⟨HB1.o,HX1.o,0,za,rfl,fun q _ hq=>absurd hq za⟩
 clear HB1 HX1
 case round =>
  obtain⟨hb,hx,j,hjm,rfl,hpre⟩:=hrel;have HB:=zq hb;have HX:=zq hx;have HJM:=zq hjm;have HP:=zq hpre;have hjk:j<=ns.length:=za;clear hb hx hjm hpre
  by_cases hlj:j<ns.length
  ·obtain⟨b,o,hA,hb0,hc0⟩:=HNw.o.at_ za
   subst hA;obtain⟨nj,hnj⟩:∃nj,ns[j]=nj:=⟨_,rfl⟩;have hp:=hc0 j hlj;have hz0:=HNZ.o j hlj;rw[hnj]at hp hz0;have p0:wr.cell? ⟨b,o+j,none⟩=some (Value.string nj):=(HB.o.cell (p:=⟨b,o+j,none⟩) hb0).trans hp;have HNJ:=zq hnj;clear hp hc0 hnj;(go_wp2_with fail);(with_reducible refine(zBE nj _ hz0).mono ?_);rintro e w2⟨rfl,hb2⟩;have HB2:=zq (zAa HB.o hb2);have HX2:=zq (HX.o.below hb2);clear hb2 p0 HB HX
   cases hin:zBi nj with
   |false =>
    have HS:Hid (res=5):=by
     show _=_
     rw[<-HR2.o,aW fun h=>?_];have:=List.all_eq_true.1 h nj (by rw[<-HNJ.o];exact bI hlj);rw[hin]at this;cases this
    clear hin;go_wp2;go_ret2
    exact⟨none,by rw[HS.o];rfl,HB2.o,fun _=>rfl,fun h=>absurd (HS.o.symm.trans h) zc⟩
   |true =>
    have HIN:=zq hin;clear hin;go_wp2
    go_roundg (gk-1)
    case measure=>have:=HJM.o;omega
    case rel =>
     refine⟨HB2.o,HX2.o,j+1,by have:=HJM.o;omega,zi,fun q hq h=>?_⟩
     rcases aQ q j with h9|h9
     ·exact HP.o q hq h9
     ·obtain rfl:q=j:=by omega
      rw[HNJ.o];exact HIN.o
  ·have HS:Hid (res=0):=by
    show _=_
    rw[<-HR2.o,aD (List.all_eq_true.2 fun x hx=>?_)];obtain⟨i,hi,rfl⟩:=dO hx;exact HP.o i hi za
   have x2:wr.cell? ⟨w.heap.size,2,none⟩=some (Value.slice DA ds.length dc):=HX.o.c 2 rfl;have hsx:=HX.o.lt;have HNL:=zq (newLedger_c RA rc rs UA uc us DA dc ds ds.length wr HGR.o (chkT_kind HC.o) (HRw.o.below HB.o) (HDw.o.below HB.o) (aE _) hdc hdl);(go_upto_region 10 with fail);(iterate 2 go_step);refine eX _ _ zk w.heap.size 0 zk (tiC RA rc rs UA uc us DA dc ds).toList _ (rangeB HX.o) Tryz.underlying26 rfl zb ?_;(go_wp2_with fail);(with_reducible refine HNL.o.mono ?_);rintro e w2⟨L,rfl,hlg,hb2⟩;have HLG:=zq hlg;have HB2:=zq (zAa HB.o hb2);clear hb2 hlg x2 hsx HNL;go_wp2;go_ret2
   exact⟨some ⟨L,0,none⟩,by rw[HS.o];rfl,HB2.o,fun h=>absurd HS.o h,fun _=>⟨L,rfl,by have:=HLG.o;rwa [aG]at this⟩⟩
theorem run_at{ds:List De}{base:Nat}{w:World}{vr:Value}(h:zAs eRun 2 w base 173 vr (ds.map (zBL ds))){j:Nat}(hj:j<ds.length):∃b o c,vr=.slice (some ⟨b,o,none⟩) ds.length c/\w.cell? ⟨b,o+j*2,none⟩=some (.int .i64 (zBL ds ds[j]).1)/\w.cell? ⟨b,o+j*2+1,none⟩=some (.int .i64 (zBL ds ds[j]).2):=by
 obtain⟨A,c,rfl,hr⟩:=h.rdk;obtain⟨b,o,rfl,hc⟩:=hr (by rw[dE];omega);have h0:=flat_at (enc:=eRun) (k:=2) (fun _=>rfl) (ds.map (zBL ds)) j (by rw[dE];exact hj) 0 za;have h1:=flat_at (enc:=eRun) (k:=2) (fun _=>rfl) (ds.map (zBL ds)) j (by rw[dE];exact hj) 1 za;rw[eI]at h0 h1;refine⟨b,o,c,by rw[dE],hc _ _ h0,?_⟩
 rw[Nat.add_assoc];exact hc _ _ h1
abbrev sptC(n:Nat)(use:BA)(day:Int):Array Value:=#[.int .i64 (n:Int),.string use,.int .i64 day]
theorem zAe{w w':World}{a:Addr}{v:Value}(hb:Below w.heap.size w w')(h:w.cell? a=some v):w'.cell? a=some v:=by
 rw[hb.cell (block_lt_of_cell h)];exact h
theorem in_at{ds:List De}{rs:List Rg}{base:Nat}{w:World}{vi:Value}{ins:List (Value×List Bool)}(h:zAs eIn 1 w base 108 vi ins)(h5:ins.map Prod.snd=ds.map (insM rs))(h6:∀x∈ins,InS w x.1 x.2){j:Nat}(hj:j<ds.length): ∃b o c x,vi=.slice (some ⟨b,o,none⟩) ds.length c/\w.cell? ⟨b,o+j,none⟩=some x/\InS w x (insM rs ds[j]):=by
 have hl:ins.length=ds.length:=by have:=bX List.length h5;simpa using this
 obtain⟨A,c,rfl,hr⟩:=h.rdk;obtain⟨b,o,rfl,hc⟩:=hr za;have h0:=flat_at (enc:=eIn) (k:=1) (fun _=>rfl) ins j za 0 za
 have h1:(ins[j]'(by omega)).2=insM rs ds[j]:=by
  have e:(ins.map Prod.snd)[j]?=(ds.map (insM rs))[j]?:=by rw[h5]
  rw[List.getElem?_map,List.getElem?_map,List.getElem?_eq_getElem za,List.getElem?_eq_getElem hj]at e
  simpa using e
 refine⟨b,o,c,(ins[j]'(by omega)).1,by rw[hl],?_,?_⟩
 ·refine hc _ _ ?_
  rw[cR,cZ]at h0;rw[h0];rfl
 ·rw[<-h1]
  exact h6 _ (bI _)
theorem set_at{rs:List Rg}{d:De}{w:World}{x:Value}{n i:Nat}(hg:zAl d.kd=true)(h:InS w x (insM rs d))(hn:(zAf rs)[n]?=some i):∃go c,x=.slice (some ⟨go,0,none⟩) (inL rs d.ar).length c/\n<(inL rs d.ar).length/\go<w.heap.size/\w.cell? ⟨go,n,none⟩=some (.bool (lies rs d.ar i)):=by
 have hm:insM rs d=true::inL rs d.ar:=by unfold insM;rw[aD hg]
 rw[hm]at h;obtain⟨hn1,hn2⟩:=List.getElem?_eq_some_iff.1 hn;have hl:n<(inL rs d.ar).length:=by unfold inL;rw[dE];exact hn1
 rcases h with ⟨_,h⟩|⟨go,c,N,h,rfl,hh⟩
 ·cases h
 ·obtain rfl:inL rs d.ar=N:=(List.cons.inj h).2
  refine⟨go,c,rfl,hl,zAh hh,?_⟩
  rw[aX _ go n _ _ _ hh,zCr _ _ hl];have e:(inL rs d.ar)[n]?=some (lies rs d.ar i):=by unfold inL;rw[List.getElem?_map,hn];rfl
  rw[(List.getElem?_eq_some_iff.1 e).2];simp[hl]
theorem runP_gives{ds:List De}{d:De}{day:Int}(h1:(zBL ds d).1<=day)(h2:day<(zBL ds d).2):zAl d.kd=true:=by
 cases hg:zAl d.kd with
 |true=>rfl
 |false =>
  exfalso;unfold zBL at h1 h2;rw[aW (by rw[hg];simp)]at h1 h2;simp at h1 h2
  omega
theorem valid_c(RA:Option Addr)(rc:Nat)(rs:List Rg)(UA:Option Addr)(uc:Nat)(us:List BA)(DA:Option Addr)(dc:Nat)(ds:List De)(L k n i:Nat)(use:BA)(day:Int)(w:World)(hl:LgIs RA rc rs UA uc us DA dc ds w L)(hd:Des w DA ds)(hk:k<ds.length)(hn:(zAf rs)[n]?=some i)(hul:(ds[k]).us.length<=1000000): Calls Tryz.prog 108 #[.pointer (some ⟨L,0,none⟩),.int .i64 (k:Int),.agg (sptC n use day)] w (zAg (.bool (vB rs ds i use day ds[k])) w):=by
 obtain⟨b,o,rfl,hb0,hc0⟩:=hd za;obtain⟨hrg,hok⟩:=hc0 k hk;obtain⟨d,hdd⟩:∃d,ds[k]=d:=⟨_,rfl⟩;obtain⟨r1,r2,g1,g2,AL,cL,vr,vi,ins,base,hlx,_,hrn,hin,hin2,hin3⟩:=hl;obtain⟨rb,ro,rcap,hvr,c0,c1⟩:=run_at hrn hk;obtain⟨ib,io,icap,x,hvi,ci,hix⟩:=in_at hin hin2 hin3 hk;subst hvr hvi;rw[hdd]at hrg hok c0 c1 hix hul ⊢;generalize hres:vB rs ds i use day d=res;have HR:=zq hres;have HOK:=zq hok;have HIX:=zq hix;have HLX:=zq hlx;have hbw:Below w.heap.size w (w.alloc (.cells (sptC n use day) 90)):=(aJ _ _).alloc (aE _) _;have HX:Hid (Bx (w.alloc (.cells (sptC n use day) 90)) w.heap.size (sptC n use day) 90):=Bx.new _ _ _;obtain⟨W,hW⟩:∃W,W=w.alloc (.cells (sptC n use day) 90):=⟨_,rfl⟩;rw[<-hW]at HX hbw;have HB:=zq hbw;have k0:W.cell? ⟨rb,ro+k*2,none⟩=some (.int .i64 (zBL ds d).1):=zAe hbw c0;have k1:W.cell? ⟨rb,ro+k*2+1,none⟩=some (.int .i64 (zBL ds d).2):=zAe hbw c1;have HCI:Hid (W.cell? ⟨ib,io+k,none⟩=some x):=zAe hbw ci;have HRG:Hid (W.rangeAt b (o+k*16) (deC d).toList):=fun j v hv=>zAe hbw (hrg j v hv)
 clear hres hok hix hlx hbw hrn hin hin2 hin3 c0 c1 ci hrg hc0 hdd
 have HRR:Hid (W.rangeAt rb (ro+k*2) [.int .i64 (zBL ds d).1,.int .i64 (zBL ds d).2]):=fun j v hv=>by
  match j,hv with
  |0,hv=>injection hv with hv;subst hv;exact k0
  |1,hv=>injection hv with hv;subst hv;exact k1
 clear k0 k1
 go_enter Tryz.func108,Tryz.ntmps108;(go_upto_region 1 with fail);rw[<-hW];clear hW;have HLW:=zq (HLX.o.below HB.o);have l9:=HLW.o.c 9 rfl;have hsl:=HLW.o.lt;(iterate 20 go_step);refine eX _ _ zk rb (ro+k*2) zk [.int .i64 (zBL ds d).1,.int .i64 (zBL ds d).2] _ HRR.o Tryz.underlying173 rfl zb ?_;clear l9 hsl;(go_upto_region 2 with fail);obtain⟨W2,hW2⟩:∃W2,W2=W.alloc (.cells (spC (zBL ds d)) 173):=⟨_,rfl⟩;rw[<-hW2];have hb2:Below W.heap.size W W2:=by rw[hW2];exact(aJ _ _).alloc (aE _) _
 have HS:Hid (Bx W2 W.heap.size (spC (zBL ds d)) 173):=by show Bx _ _ _ _;rw[hW2];exact Bx.new _ _ _
 have HBW:=zq (zAa HB.o hb2);have HX2:=zq (HX.o.below hb2);have HL2:=zq (HLW.o.below hb2);have CI2:=zq (zAe hb2 HCI.o);have RG2:Hid (W2.rangeAt b (o+k*16) (deC d).toList):=fun j v hv=>zAe hb2 (HRG.o j v hv)
 clear hW2 hb2 HX HLW HCI HRG HRR;obtain⟨x0,x1,x2⟩:=HX2.o.t;have s0:=HS.o.c 0 rfl;have s1:=HS.o.c 1 rfl;have hsx:=HX2.o.lt;have hss:=HS.o.lt
 by_cases h1:(zBL ds d).1<=day
 ·have e1:decide ((zBL ds d).1<=day)=true:=aT h1
  by_cases h2:day<(zBL ds d).2
  ·have e2:decide (day<(zBL ds d).2)=true:=aT h2
   have hgv:=runP_gives h1 h2;obtain⟨go,cg,rfl,hlt,hgw,hcell⟩:=set_at hgv HIX.o hn;have q0:W2.cell? ⟨go,n,none⟩=some (.bool (lies rs d.ar i)):=zAe HBW.o hcell;have q1:=CI2.out;have l10:=HL2.o.c 10 rfl;have hsl:=HL2.o.lt;have HR2:Hid ((lies rs d.ar i&&memS d.us use)=res):=by show _=_;rw[<-HR.o];unfold vB;rw[e1,e2];rfl
   have hnn:decide (n<(inL rs d.ar).length)=true:=aT hlt;clear h1 h2 hgv hcell HR CI2 HIX
   cases hli:lies rs d.ar i with
   |false =>
    rw[hli]at q0;have HV:Hid (res=false):=by show _=_;rw[<-HR2.o,hli];rfl
    clear hli HR2;exact tck
   |true =>
    rw[hli]at q0;have HV:Hid (res=memS d.us use):=by show _=_;rw[<-HR2.o,hli];rfl
    have l2:=HL2.o.c 2 rfl;have d11:=RG2.out 11 _ rfl
    have hcon:∀m,Calls Tryz.prog 12 #[.slice d.usA d.us.length d.usc,.string use] (W2.drewN m) fun e w'=>e=.returned (.bool res)/\w'=W2.drewN m:=fun m =>
     (zDr d.usA d.usc d.us use (W2.drewN m) hul (HOK.o.uses.below (zAd HBW.o m))).mono fun e w' ⟨h1,h2⟩=>⟨by rw[h1,HV.o],h2.symm⟩
    have HCON:=zq hcon;clear hli HR2 hcon;go_quiet((go_at_call 12;exact Calls.quiet_of_same (HCON.o _)))
    go_wp2;go_ret
    exact zAg.mk rfl (zAd HBW.o _)
  ·have e2:decide (day<(zBL ds d).2)=false:=aU h2
   have HV:Hid (res=false):=by show _=_;rw[<-HR.o];unfold vB;rw[e1,e2];rfl
   clear h1 h2;exact tck
 ·have e1:decide ((zBL ds d).1<=day)=false:=aU h1
  have HV:Hid (res=false):=by show _=_;rw[<-HR.o];unfold vB;rw[e1];rfl
  clear h1;exact tck
theorem moves_c(RA:Option Addr)(rc:Nat)(rs:List Rg)(UA:Option Addr)(uc:Nat)(us:List BA)(DA:Option Addr)(dc:Nat)(ds:List De)(L k n i:Nat)(use:BA)(day:Int)(th:BA)(w:World)(hl:LgIs RA rc rs UA uc us DA dc ds w L)(hd:Des w DA ds)(hk:k<ds.length)(hn:(zAf rs)[n]?=some i)(hul:(ds[k]).us.length<=1000000): Calls Tryz.prog 81 #[.pointer (some ⟨L,0,none⟩),.int .i64 (k:Int),.string th,.agg (sptC n use day)] w (zAg (.bool (zCO rs ds i th use day ds[k])) w):=by
 have hbw:Below w.heap.size w (w.alloc (.cells (sptC n use day) 90)):=(aJ _ _).alloc (aE _) _;have HX:Hid (Bx (w.alloc (.cells (sptC n use day) 90)) w.heap.size (sptC n use day) 90):=Bx.new _ _ _;obtain⟨W,hW⟩:∃W,W=w.alloc (.cells (sptC n use day) 90):=⟨_,rfl⟩;rw[<-hW]at HX hbw;have HB:=zq hbw;obtain⟨b,o,rfl,hb0,hc0⟩:=(hd.below hbw) za;have hlW:=hl.below hbw;have HVAL:=zq (fun(u:World)(hu:Below W.heap.size W u)=>valid_c RA rc rs UA uc us (some ⟨b,o,none⟩) dc ds L k n i use day u (hlW.below hu) ((hd.below hbw).below hu) hk hn hul);obtain⟨d,hdd⟩:∃d,ds[k]=d:=⟨_,rfl⟩;have hrg:=(hc0 k hk).1;rw[hdd]at hrg HVAL ⊢;generalize hres:zCO rs ds i th use day d=res;have HR:=zq hres;obtain⟨r1,r2,g1,g2,AL,cL,vr,vi,ins,base,hlx,_⟩:=hlW;have l2:=hlx.c 2 rfl;have hsl:=hlx.lt;clear hl hd hbw hc0 hdd hres hlx hul
 go_enter Tryz.func81,Tryz.ntmps81;(go_upto_region 1 with fail);rw[<-hW];clear hW;(iterate 23 go_step);refine eX _ _ zk b (o+k*16) zk (deC d).toList _ hrg Tryz.underlying126 rfl zb ?_;clear hrg;(go_upto_region 2 with fail);obtain⟨wd,hwd⟩:∃wd,wd=W.alloc (.cells (deC d) 126):=⟨_,rfl⟩;rw[<-hwd];have hbd:Below W.heap.size W wd:=zv;have HD1:Hid (Bx wd W.heap.size (deC d) 126):=yc;have HXD:=zq (HX.o.below hbd);have HBD:=zq hbd;clear hwd hbd l2 hsl HX;have d2:=HD1.o.c 2 rfl;have d3:=HD1.o.c 3 rfl;have d12:=HD1.o.c 12 rfl;have hsd:=HD1.o.lt;obtain⟨x0,x1,x2⟩:=HXD.o.t;have hsx:=HXD.o.lt
 by_cases hq:d.kd=2
 ·have e1:(d.kd == 2)=true:=by simpa using hq
  by_cases ht:d.th=th
  ·have q1:=zBx ht
   have HE:Hid (res=vB rs ds i use day d):=by show _=_;rw[<-HR.o];unfold zCO;rw[aD hq,aT ht,Bool.true_and]
   clear hq ht;(go_wp2_with fail);(with_reducible refine(HVAL.o _ HBD.o).mono ?_);rintro e w3⟨rfl,hb3⟩;have HB3:=zq (zAa HB.o (zAa HBD.o hb3));clear hb3;go_wp2;go_ret
   exact zAg.mk (by rw[HE.o];rfl) HB3.o
  ·have q1:=zBh ht
   have HE:Hid (res=false):=by show _=_;rw[<-HR.o];unfold zCO;rw[aD hq,aU ht,Bool.false_and]
   clear hq ht;go_wp2;go_ret
   exact zAg.mk (by rw[HE.o];rfl) (zAa HB.o HBD.o)
 ·have e1:(d.kd == 2)=false:=by simpa using hq
  by_cases h5:d.kd=5
  ·have e2:(d.kd == 5)=true:=by simpa using h5
   have HE:Hid (res=decide (d.bg<=day)):=by show _=_;rw[<-HR.o];unfold zCO;rw[aW hq,aD h5]
   exact tcf
  ·have e2:(d.kd == 5)=false:=by simpa using h5
   have HE:Hid (res=false):=by show _=_;rw[<-HR.o];unfold zCO;rw[aW hq,aW h5]
   exact tcf
end Go.Proofs.YtbbchlpccgkikaaGreatDoor
namespace Go.Proofs.YtbbchlpccgkikaaGreatDoor
open Dw
theorem longQ_of{q:Rat}(h1:q.num.natAbs<10^2000)(h2:q.den<10^2000):zDg q=false:=by
 unfold zDg;simp only[bH,decide_eq_false_iff_not,Nat.not_le];exact⟨h1,h2⟩
theorem longQ_ratQ{nu de:BA}(h:ratF nu de=0):zDg (zCY nu de)=false:=by
 have e:=ratF_prQ h;obtain⟨h1,h2,h3,h4,h5⟩:=zCv h;have e1:zAD (zBe nu)=(zCY nu de).num.natAbs:=bX Prod.fst e;have e2:zAD de=(zCY nu de).den:=bX Prod.snd e
 have key:∀s:BA,numB s=true->s.size<=2000->zAD s<10^2000:=fun s hs hl=>by
  exact ta8
 exact longQ_of (by rw[<-e1];exact key _ h1 h4) (by rw[<-e2];exact key _ h2 h5)
theorem put_short(l:List Sh):∀(f:zAV),(∀s∈l,zDg (shQ s)=false)->(∀p,zDg (f p)=false)->∀p,zDg (zAj l f p)=false:=by
 induction l with
 |nil=>exact fun f _ hf=>hf
 |cons s l ih =>
  intro f hs hf;refine ih (upH f s.pt (shQ s)) (fun t ht=>hs t (bM _ ht)) fun p=>?_
  by_cases hp:p=s.pt
  ·subst hp;rw[zBv];exact hs s bN
  ·rw[zAJ _ _ hp];exact hf p
theorem start_short{rs:List Rg}{us:List BA}{ds:List De}(h:zBQ rs us ds=0)(th:BA)(day:Int):∀p,zDg (zCy th day ds p)=false:=by
 have key:∀(l:List De)(f:zAV),(∀d∈l,d∈ds)->(∀p,zDg (f p)=false)->∀p,zDg (l.foldl (orgF th day) f p)=false:=fun l=>by
  induction l with
  |nil=>exact fun f _ hf=>hf
  |cons d l ih =>
   intro f hl hf;refine ih (orgF th day f d) (fun e he=>hl e (bM _ he)) ?_;unfold orgF
   split
   ·next ho =>
    have hk:=(zDh.1 ho).1;have hs:=((zBO h d (hl d bN)).org hk).1;exact put_short _ _ (fun s hs'=>longQ_ratQ (hs.rat s hs')) hf
   ·exact hf
 exact key ds _ (fun d hd=>hd) fun _=>longQ_zero
theorem anyLong_no{K:List BA}{f:zAV}(h:∀p,zDg (f p)=false):zCR K f=false:=by
 unfold zCR;rw[dV];intro p _;simp[h p]
theorem longF_zero(rs:List Rg)(ds:List De)(i:Nat)(th use:BA)(day:Int):zBN rs ds i th use day 0=false:=rfl
theorem longF_succ(rs:List Rg)(ds:List De)(i:Nat)(th use:BA)(day:Int)(n:Nat):zBN rs ds i th use day (n+1)=(zBN rs ds i th use day n || zCR (zBY rs ds i th use day (n+1)) (zAt rs ds i th use day (n+1))):=by
 unfold zBN;rw[dP,dX];simp
theorem longF_mono{rs:List Rg}{ds:List De}{i:Nat}{th use:BA}{day:Int}{k:Nat}(h:zBN rs ds i th use day k=true):∀{n:Nat},k<=n->zBN rs ds i th use day n=true:=by
 intro n hn;unfold zBN at *;rw[eH]at *;obtain⟨x,hx,h2⟩:=h;exact⟨x,List.mem_range.2 (aB (List.mem_range.1 hx) hn),h2⟩
theorem longF_parts{rs:List Rg}{us:List BA}{ds:List De}(h:zBQ rs us ds=0)(i:Nat)(th use:BA)(day:Int):∀n,n<=ds.length->zBN rs ds i th use day n=false->∀p,zDg (zAt rs ds i th use day n p)=false
 |0,_,_=>start_short h th day
 |n+1,hn,hl=>by
  rw[longF_succ,bH]at hl;intro p
  cases hq:zDg (zAt rs ds i th use day (n+1) p)with
  |false=>rfl
  |true =>
   obtain⟨M,hM,_⟩:=zCn h i th use day (n+1) hn;have:=(anyLong_iff hM.ok).2 ⟨p,hq⟩;rw[hl.2]at this
   cases this
theorem longF_skip{rs:List Rg}{us:List BA}{ds:List De}(h:zBQ rs us ds=0){i:Nat}{th use:BA}{day:Int}{n:Nat}(hn:n<ds.length)(hm:zCO rs ds i th use day ds[n]=false)(hl:zBN rs ds i th use day n=false): zBN rs ds i th use day (n+1)=false/\zAt rs ds i th use day (n+1)=zAt rs ds i th use day n:=by
 obtain⟨e1,_⟩:=zDu rs i th use day hn;have e3:zAt rs ds i th use day (n+1)=zAt rs ds i th use day n:=by rw[e1];unfold zCP;rw[hm];rfl
 refine⟨?_,e3⟩
 rw[longF_succ,hl,e3,Bool.false_or];exact anyLong_no (longF_parts h i th use day n za hl)
theorem keysF_take{rs:List Rg}{ds:List De}{i:Nat}{th use:BA}{day:Int}{n:Nat}(hn:n<ds.length)(hm:zCO rs ds i th use day ds[n]=true): zAt rs ds i th use day (n+1)=zDw ds[n] (zAt rs ds i th use day n)/\zBY rs ds i th use day (n+1)=zAK ds[n] (zBY rs ds i th use day n):=by
 obtain⟨e1,e2⟩:=zDu rs i th use day hn;rw[e1,e2];unfold zCP zAL;rw[hm];exact⟨rfl,rfl⟩
theorem take_ask{rs:List Rg}{us:List BA}{ds:List De}(h:zBQ rs us ds=0){i:Nat}{th use:BA}{day:Int}{n:Nat}(hn:n<ds.length)(hm:zCO rs ds i th use day ds[n]=true): ∃M,HoldB (zAK ds[n] (zBY rs ds i th use day n)) M (zAt rs ds i th use day n)/\SzN 90000000 (M*growD ds[n])/\ds[n].sh.length<=20:=by
 obtain⟨M,h1,h2⟩:=zCn h i th use day n za;have hd:=bI hn;obtain⟨k1,_,_⟩:=parts_sum h i th use day n;have hl:(ds[n]).sh.length<=20:=(chkD_lens ((zAT h).2 n hn) (zAT h).1).2.2;have hz:=zBM h;generalize ds[n]=d at *;obtain⟨m1,_⟩:=keysTake_mem d (K:=zBY rs ds i th use day n);refine⟨M,h1.more (zCQ d k1).nodup m1,?_,hl⟩
 have h3:=growD_lt (zBO h d hd) hl (movB_kd hm);have h4:M*growD d<10^(40001*(n+1)+40001):=by rw[Nat.pow_add];exact Nat.mul_lt_mul'' h2 h3
 exact(szN_of h4).le (by have:=hz.2.2;omega)
theorem parts_sz{rs:List Rg}{us:List BA}{ds:List De}(h:zBQ rs us ds=0)(i:Nat)(th use:BA)(day:Int)(n:Nat)(hn:n<=ds.length)(p:BA):SzQ 10000000 (zAt rs ds i th use day n p):=by
 obtain⟨M,h1,h2⟩:=zCn h i th use day n hn;have hz:=zBM h;exact h1.sz ((szN_of h2).le (by have:=hz.2.2;omega)) p
open Go.RowKit Dw
def GivesPt(bad:Bool)(f:zAV)(w:World)(e:Ending)(w':World):Prop:=
 Below w.heap.size w w'/\(bad=true->e=.returned (.tuple #[.map none,.int .i64 2]))/\(bad=false->∃g,e=.returned (.tuple #[.map (some g),.int .i64 0])/\zAy w' g f)
def PtR(W:World)(g:Nat)(th:BA)(day:Int)(ds:List De)(m:Nat)(iv:Value)(wr:World):Prop:=
 ∃k:Nat,k+m=ds.length/\iv=.int .i64 (k:Int)/\zAy wr g ((ds.take k).foldl (orgF th day) (fun _=>0))/\Below W.heap.size W wr
def PtR1(W:World)(g:Nat)(F:zAV)(l:List Sh)(m:Nat)(iv:Value)(wr:World):Prop:=
 ∃j:Nat,j+m=l.length/\iv=.int .i64 (j:Int)/\zAy wr g (zAj (l.take j) F)/\W.grownBy wr (some g)
def PtR2(W:World)(g:Nat)(rs:List Rg)(ds:List De)(i:Nat)(th use:BA)(day:Int)(u:Nat)(lim:Bool)(m:Nat)(iv:Value)(wr:World):Prop:=
 ∃k:Nat,k+m=u/\iv=.int .i64 (k:Int)/\zAy wr g (zAt rs ds i th use day k)/\(lim=true->zBN rs ds i th use day k=false)/\Below W.heap.size W wr
theorem fold_succ(th:BA)(day:Int)(f:zAV){ds:List De}{k:Nat}(hk:k<ds.length):(ds.take (k+1)).foldl (orgF th day) f=orgF th day ((ds.take k).foldl (orgF th day) f) ds[k]:=by
 rw[take_snoc hk,bB];rfl
theorem putAll_succ(F:zAV){l:List Sh}{j:Nat}(h:j<l.length):zAj (l.take (j+1)) F=upH (zAj (l.take j) F) l[j].pt (shQ l[j]):=by
 unfold zAj;exact tc6
theorem parts_c(RA:Option Addr)(rc:Nat)(rs:List Rg)(UA:Option Addr)(uc:Nat)(us:List BA)(DA:Option Addr)(dc:Nat)(ds:List De)(L n i u:Nat)(use:BA)(day:Int)(th:BA)(lim:Bool)(w:World)(hl:LgIs RA rc rs UA uc us DA dc ds w L)(hd:Des w DA ds)(hc:zBQ rs us ds=0)(hn:(zAf rs)[n]?=some i)(hu:u<=ds.length)(hdc:ds.length<=dc)(hul:∀d∈ds,d.us.length<=1000000): Calls Tryz.prog 36 #[.pointer (some ⟨L,0,none⟩),.string th,.agg (sptC n use day),.int .i64 (u:Int),.bool lim] w (GivesPt (lim&&zBN rs ds i th use day u) (zAt rs ds i th use day u) w):=by
 have hbw:Below w.heap.size w (w.alloc (.cells (sptC n use day) 90)):=(aJ _ _).alloc (aE _) _;have HX0:Hid (Bx (w.alloc (.cells (sptC n use day) 90)) w.heap.size (sptC n use day) 90):=Bx.new _ _ _;obtain⟨W0,hW0⟩:∃W,W=w.alloc (.cells (sptC n use day) 90):=⟨_,rfl⟩;rw[<-hW0]at HX0 hbw;have HB0:=zq hbw;have hb1:Below W0.heap.size W0 (W0.alloc (.map #[] 0)):=(aJ _ _).alloc (aE _) _;have HPN:Hid (zAy (W0.alloc (.map #[] 0)) W0.heap.size (fun _=>0)):=zAy.new W0;have HX:=zq (HX0.o.below hb1);have HLW:=zq ((hl.below hbw).below hb1);have HDW:=zq ((hd.below hbw).below hb1);have HLW0:=zq (hl.below hbw);have HDW0:=zq (hd.below hbw);have HC:=zq hc;have HUL:=zq hul;have HNN:=zq hn;have hdl:=(zBM hc).2.2;clear hl hd hc hn hul hbw;obtain⟨r1,r2,g1,g2,AL,cL,vr,vi,ins,base,hlx,_⟩:=HLW.o;have HLX:=zq hlx;obtain⟨W,hW⟩:∃W,W=W0.alloc (.map #[] 0):=⟨_,rfl⟩;rw[<-hW]at hb1 HPN HX HLW HDW HLX hlx;have HB1:=zq hb1;clear hb1
 go_enter Tryz.func36,Tryz.ntmps36;(go_upto_region 1 with fail);rw[<-hW0];clear hW0;have hmm:=@run_makeMap Tryz.prog;(go_upto_region 2 with fail);clear hmm;rw[<-hW];clear hW;have l2:=HLX.o.c 2 rfl;have hsl:=HLX.o.lt;clear hlx;go_wp2
 go_loopg[26] ds.length (PtR W0 W0.heap.size th day ds)
 case atStart=>exact⟨0,za,rfl,HPN.o,HB1.o⟩
 clear l2 hsl HPN
 case round =>
  obtain⟨k,hkm,rfl,hpm,hb⟩:=hrel;have HK:=zq hkm;have HPM:=zq hpm;have HB:=zq hb;clear hkm hpm hb
  by_cases hlt:k<ds.length
  ·obtain⟨b,o,hA,hb0,hc0⟩:=HDW0.o za
   subst hA;have hpar:=zBO HC.o _ (bI hlt);have HFS:=zq (fold_succ th day (fun _=>0) hlt);have hrg:wr.rangeAt b (o+k*16) (deC ds[k]).toList:=fun q v hv=>zAe HB.o ((hc0 k hlt).1 q v hv)
   have HSH:=zq ((hc0 k hlt).2.shs.below HB.o);have hshl:=(hc0 k hlt).2.lens.2.2;generalize ds[k]=d at *;have HPA:=zq hpar;clear hc0 hpar;(go_upto_region 4 with fail);(iterate 5 go_step);refine eX _ _ zk b (o+k*16) zk (deC d).toList _ hrg Tryz.underlying126 rfl zb ?_;clear hrg;(go_upto_region 5 with fail);obtain⟨wd,hwd⟩:∃wd,wd=wr.alloc (.cells (deC d) 126):=⟨_,rfl⟩;rw[<-hwd];have hbd:Below wr.heap.size wr wd:=zv;have HD1:Hid (Bx wd wr.heap.size (deC d) 126):=yc;have HBD:=zq (zAa HB.o hbd);have HPM1:=zq (HPM.o.below hbd);have HSH1:=zq (HSH.o.below hbd);have HXD:=zq (HX0.o.below HBD.o);clear hwd hbd HPM HSH HB;have d2:=HD1.o.c 2 rfl;have d3:=HD1.o.c 3 rfl;have d12:=HD1.o.c 12 rfl;have hsd:=HD1.o.lt;have x2:=HXD.o.c 2 rfl;have hsx:=HXD.o.lt;generalize (ds.take k).foldl (orgF th day) (fun _=>0)=F at *
   have HNO:orgB th day d=false->Hid (zAy wd W0.heap.size ((ds.take (k+1)).foldl (orgF th day) (fun _=>0))):=fun h=>by
    show zAy _ _ _
    rw[HFS.o];unfold orgF;rw[aW (by rw[h];simp)];exact HPM1.o
   by_cases hq:d.kd=1
   case neg =>
    have e1:(d.kd == 1)=false:=by simpa using hq
    have HN:=HNO (by unfold orgB;rw[aU hq];rfl);clear hq HNO;exact tbq
   have e1:(d.kd == 1)=true:=by simpa using hq
   by_cases ht:d.th=th
   case neg =>
    have q1:=zBh ht;have HN:=HNO (by unfold orgB;rw[aU ht];simp);clear hq ht HNO;exact tbq
   have q1:=zBx ht
   by_cases hy:d.bg<=day
   case neg =>
    have q2:decide (d.bg<=day)=false:=aU hy;have HN:=HNO (by unfold orgB;rw[aU hy];simp);clear hq ht hy HNO;exact tbq
   have q2:decide (d.bg<=day)=true:=aT hy
   have HOT:Hid (orgF th day F d=zAj d.sh F):=by
    show _=_
    unfold orgF;rw[aD (zDh.2 ⟨hq,ht,hy⟩)]
   have HSO:=zq (HPA.o.org hq).1;have d14:=HD1.o.c 14 rfl;clear hq ht hy HNO;go_wp2;clear d2 d3 d12 d14 hsd x2 hsx
   go_loopg[49] d.sh.length (PtR1 wd W0.heap.size F d.sh)
   case atStart=>exact⟨0,za,rfl,HPM1.o,World.grownBy.refl _ _⟩
   case round =>
    obtain⟨j,hjm,rfl,hpm,hg⟩:=hrel;have HJ:=zq hjm;have HPJ:=zq hpm;have HG:=zq hg;clear hjm hpm hg
    by_cases hjl:j<d.sh.length
    ·obtain⟨b2,o2,hA,hc⟩:=(HSH1.o.parts HPM1.o HG.o) za
     have c0:=(hc j hjl).1;have c1:=(hc j hjl).2.1;have c2':=(hc j hjl).2.2;have HMEM:=zq (bI hjl);have HPS:=zq (putAll_succ F hjl);generalize d.sh[j]=s at *;have HFQ:Hid (∀u,Calls Tryz.prog 80 #[.agg #[.string s.nu,.string s.de]] u (zCj (shQ s) u)):=fun u=>FromQ_c s.nu s.de u (HSO.o.rat s HMEM.o) (HSO.o.pos s HMEM.o)
     have HA:=zq hA;have hba:=ba wr (.cells (shCl s) 38);have HZ:Hid (Bx (wr.alloc (.cells (shCl s) 38)) wr.heap.size (shCl s) 38):=Bx.new _ _ _;have HBA:=zq hba;rw[hA];clear hc hA hba;(go_upto_region 9 with fail);clear c0 c1 c2';obtain⟨fj,hfj⟩:∃fj,fj=zAj (d.sh.take j) F:=⟨_,rfl⟩;rw[<-hfj]at HPJ HPS;have HFJ:=zq hfj;clear hfj;obtain⟨w4,hw4⟩:∃w4,w4=wr.alloc (.cells (shCl s) 38):=⟨_,rfl⟩;rw[<-hw4]at HZ HBA ⊢;clear hw4;have HPM4:=zq (HPJ.o.below HBA.o);obtain⟨a0,a1,a2⟩:=HZ.o.t
     go_region_held3 (fun w'=>w'.cell? ⟨wr.heap.size,0,none⟩=some (.string s.pt)/\w'.cell? ⟨wr.heap.size,1,none⟩=some (.string s.nu)/\w'.cell? ⟨wr.heap.size,2,none⟩=some (.string s.de))
      ((refine⟨?_,?_,?_⟩<;>first|with_reducible assumption|go_simp))
      (first
       |((go_at_call 80;(with_reducible refine(HFQ.o w4.drew).mono ?_);rintro e2 w6⟨A7,c7,A8,c8,rfl,h7,h8,hb6⟩;have HB6:Hid (Below w4.heap.size w4 w6):=zAa (zAd (aJ _ _) 1) hb6;have HZ6:=zq (HZ.o.below HB6.o);have HPM6:=zq (HPM4.o.below HB6.o);have H7:=zq h7;have H8:=zq h8;clear h7 h8 hb6 a0 a1 a2;obtain⟨a0,a1,a2⟩:=HZ6.o.t))
       |((go_at_call 79;(with_reducible refine(put_c W0.heap.size fj s.pt A7 A8 c7 c8 (shQ s) w6 HPM6.o H7.o H8.o).mono ?_);rintro e5 w9⟨rfl,hp9,hg9⟩;have HZ9:=zq (HZ6.o.parts HPM6.o hg9);have HPM9:=zq hp9;have HG9:=zq hg9;clear hp9 hg9 a0 a1 a2;obtain⟨a0,a1,a2⟩:=HZ9.o.t)))
     have HE:Hid (zAy w9 W0.heap.size (zAj (d.sh.take (j+1)) F)):=by show zAy _ _ _;rw[HPS.o];exact HPM9.o
     have HGE:Hid (wd.grownBy w9 (some W0.heap.size)):=(HG.o.trans (zAG (zAa HBA.o HB6.o) _)).trans HG9.o;clear a0 a1 a2;exact tbh
    ·have hje:j=d.sh.length:=by have:=HJ.o;omega
     have HE:Hid (zAy wr W0.heap.size ((ds.take (k+1)).foldl (orgF th day) (fun _=>0))):=by
      have:=HPJ.o;rw[hje,aG,<-HOT.o]at this;show zAy _ _ _
      rw[HFS.o];exact this
     have HBE:=zq (zDp HBD.o HBD.o.size HG.o (aE _));clear HPJ;go_wp2
     go_roundg (ds.length-(k+1))
     case measure=>have:=HK.o;omega
     case rel=>exact⟨k+1,zh,zi,HE.o,HBE.o⟩
  ·obtain rfl:k=ds.length:=by have:=HK.o;omega
   have HPM0:Hid (zAy wr W0.heap.size (zAt rs ds i th use day 0)):=by
    have:=HPM.o;rw[aG]at this;exact this
   have l2:wr.cell? ⟨L,2,none⟩=some (.slice DA ds.length dc):=zAe HB.o ((by
    obtain⟨_,_,_,_,_,_,_,_,_,_,hx,_⟩:=HLW0.o;exact hx.c 2 rfl))
   have hsl:L<wr.heap.size:=aB (by obtain⟨_,_,_,_,_,_,_,_,_,_,hx,_⟩:=HLW0.o;exact hx.lt) HB.o.size;have ui:(0:Int)<=(u:Int)/\(u:Int)<=(dc:Int):=za;clear HPM HK;have HB2:=zq HB.o;have HLZ:Hid (lim=true->zBN rs ds i th use day 0=false):=fun _=>longF_zero rs ds i th use day
   go_wp2
   go_loopg[70] u (PtR2 W0 W0.heap.size rs ds i th use day u lim)
   case atStart=>exact⟨0,za,rfl,HPM0.o,HLZ.o,HB2.o⟩
   clear l2 hsl ui HPM0 HLZ HB2 HB
   case round =>
    obtain⟨k,hkm,rfl,hpm,hlf,hb⟩:=hrel;have HK:=zq hkm;have HPM:=zq hpm;have HLF:=zq hlf;have HB:=zq hb;clear hkm hpm hlf hb
    by_cases hlt:k<u
    ·have hkd:k<ds.length:=by omega
     obtain⟨b,o,hA,hb0,hc0⟩:=HDW0.o za;subst hA;have hrg:wr.rangeAt b (o+k*16) (deC ds[k]).toList:=fun q v hv=>zAe HB.o ((hc0 k hkd).1 q v hv)
     have HSH:=zq ((hc0 k hkd).2.shs.below HB.o);have HMV:=zq (fun(v:World)(hv:Below W0.heap.size W0 v)=>moves_c RA rc rs UA uc us (some ⟨b,o,none⟩) dc ds L k n i use day th v (HLW0.o.below hv) (HDW0.o.below hv) hkd HNN.o (HUL.o _ (bI hkd)))
     have HSK:Hid (zCO rs ds i th use day ds[k]=false->zAt rs ds i th use day (k+1)=zAt rs ds i th use day k):=fun hm=>by
      rw[(zDu rs i th use day hkd).1];unfold zCP;rw[aW (by rw[hm];simp)]
     have HSL:Hid (zCO rs ds i th use day ds[k]=false->zBN rs ds i th use day k=false->zBN rs ds i th use day (k+1)=false):=fun hm hl=>(longF_skip HC.o hkd hm hl).1
     have HTK:Hid (zCO rs ds i th use day ds[k]=true->zAt rs ds i th use day (k+1)=zDw ds[k] (zAt rs ds i th use day k)):=fun hm=>(keysF_take hkd hm).1
     have HTA:Hid (zCO rs ds i th use day ds[k]=true->∃M,HoldB (zAK ds[k] (zBY rs ds i th use day k)) M (zAt rs ds i th use day k)/\SzN 90000000 (M*growD ds[k])/\ds[k].sh.length<=20):=fun hm=>take_ask HC.o hkd hm
     have HPA:=zq (zBO HC.o _ (bI hkd));have HLS:=zq (longF_succ rs ds i th use day k);have HLM:Hid (zBN rs ds i th use day (k+1)=true->zBN rs ds i th use day u=true):=fun h=>longF_mono h za
     generalize ds[k]=d at *;clear hc0;(go_upto_region 14 with fail);(iterate 8 go_step);refine eX _ _ zk b (o+k*16) zk (deC d).toList _ hrg Tryz.underlying126 rfl zb ?_;clear hrg;(go_upto_region 15 with fail);obtain⟨wd,hwd⟩:∃wd,wd=wr.alloc (.cells (deC d) 126):=⟨_,rfl⟩;rw[<-hwd];have hbd:Below wr.heap.size wr wd:=zv;have HD1:Hid (Bx wd wr.heap.size (deC d) 126):=yc;have HBD:=zq (zAa HB.o hbd);have HPM1:=zq (HPM.o.below hbd);have HSH1:=zq (HSH.o.below hbd);have HXD:=zq (HX0.o.below HBD.o);clear hwd hbd HPM HSH HB;obtain⟨x0,x1,x2⟩:=HXD.o.t;have hsx:=HXD.o.lt;(go_wp2_with fail);(with_reducible refine(HMV.o _ HBD.o).mono ?_);rintro e w3⟨rfl,hb3⟩;have HB3:=zq (zAa HBD.o hb3);have HPM3:=zq (HPM1.o.below hb3);have HSH3:=zq (HSH1.o.below hb3);have HD3:=zq (HD1.o.below hb3);clear x0 x1 x2 hsx hb3 HPM1 HSH1 HD1 HXD HBD HMV
     cases hm:zCO rs ds i th use day d with
     |false =>
      have HE:Hid (zAy w3 W0.heap.size (zAt rs ds i th use day (k+1))):=by show zAy _ _ _;rw[HSK.o hm];exact HPM3.o
      have HL:Hid (lim=true->zBN rs ds i th use day (k+1)=false):=fun hh=>HSL.o hm (HLF.o hh)
      clear hm;go_wp2
      go_roundg (gk-1)
      case measure=>have:=HK.o;omega
      case rel=>exact⟨k+1,zh,zi,HE.o,HL.o,HB3.o⟩
     |true =>
      obtain⟨M,hM1,hM2,hM3⟩:=HTA.o hm;have HTE:=zq (HTK.o hm);obtain⟨m1,m2,m3,m4⟩:=keysTake_mem d (K:=zBY rs ds i th use day k);have HTC:=zq (take_c W0.heap.size _ M (zAt rs ds i th use day k) d w3 HPM3.o HSH3.o (movB_kd hm) HPA.o hM1 m2 m3 m4 hM2 za);clear hm hM1 hM2 hM3 m1 m2 m3 m4;(go_upto_region 16 with fail);(iterate 5 go_step);refine eX _ _ zk wr.heap.size 0 zk (deC d).toList _ (rangeB HD3.o) Tryz.underlying126 rfl zb ?_;(go_wp2_with fail);(with_reducible refine HTC.o.mono ?_);rintro e w4⟨rfl,hp4,hg4⟩;have HP4:Hid (zAy w4 W0.heap.size (zAt rs ds i th use day (k+1))):=by show zAy _ _ _;rw[HTE.o];exact hp4
      have HB4:=zq (zDp HB3.o HB3.o.size hg4 (aE _));clear hp4 hg4 HTC HPM3 HSH3 HD3 HB3
      cases lim with
      |false =>
       have HL:Hid (false=true->zBN rs ds i th use day (k+1)=false):=fun hh=>by cases hh
       go_wp2
       go_roundg (gk-1)
       case measure=>have:=HK.o;omega
       case rel=>exact⟨k+1,zh,zi,HP4.o,HL.o,HB4.o⟩
      |true =>
       have HKK:=(parts_sum HC.o i th use day (k+1)).2.1;have HLC:=zq (large_c W0.heap.size (zBY rs ds i th use day (k+1)) (zAt rs ds i th use day (k+1)) w4 HP4.o HKK (fun p=>(parts_sz HC.o i th use day (k+1) za p).le za))
       have HLS2:Hid (zCR (zBY rs ds i th use day (k+1)) (zAt rs ds i th use day (k+1))=zBN rs ds i th use day (k+1)):=by
        show _=_
        rw[HLS.o,HLF.o rfl,Bool.false_or]
       rw[HLS2.o]at HLC;clear HKK;(go_wp2_with fail);(with_reducible refine HLC.o.mono ?_);rintro e w5⟨rfl,hb5⟩;have HP5:=zq (HP4.o.below hb5);have HB5:=zq (zAa HB4.o hb5);clear hb5 HLC HP4 HB4
       cases hlo:zBN rs ds i th use day (k+1)with
       |false =>
        have HL:Hid (zBN rs ds i th use day (k+1)=false):=hlo;clear hlo;go_wp2
        go_roundg (gk-1)
        case measure=>have:=HK.o;omega
        case rel=>exact⟨k+1,zh,zi,HP5.o,(fun _=>HL.o),HB5.o⟩
       |true =>
        have HL:=zq (HLM.o hlo);clear hlo;go_wp2;go_ret2
        exact⟨zAa HB0.o HB5.o,fun _=>rfl,fun hh=>by rw[HL.o]at hh;cases hh⟩
    ·have hke:k=u:=by have:=HK.o;omega
     have HE:Hid (zAy wr W0.heap.size (zAt rs ds i th use day u)):=by have:=HPM.o;rw[hke]at this;exact this
     have HL:Hid ((lim&&zBN rs ds i th use day u)=false):=by
      show _=_
      cases lim with
      |false=>rfl
      |true=>have:=HLF.o rfl;rw[hke]at this;rw[this];rfl
     have HBZ:=zq (zAa HB0.o HB.o);clear HPM HLF hke;go_wp2;go_ret2
     unfold GivesPt;rw[HL.o];exact⟨HBZ.o,(fun hh=>by cases hh),fun _=>⟨_,rfl,HE.o⟩⟩
end Go.Proofs.YtbbchlpccgkikaaGreatDoor
namespace Go.Proofs
open Go.Shelf
def Tryz.sortS80_ren:Go.Shelf.Ren:=⟨fun|6=>105|8=>159|9=>168|19=>217|20=>218|21=>226|22=>227|23=>228|24=>229|25=>230|26=>231|27=>232|28=>233|29=>234|36=>280|31=>273|32=>274|37=>281|38=>282|39=>160|41=>306|n=>n,fun|27=>23|29=>9|3=>3|32=>248|26=>23|0=>0|44=>254|46=>253|4=>4|36=>293|35=>292|41=>156|5=>5|9=>9|53=>333|57=>337|63=>358|64=>257|n=>n,fun|n=>n⟩
theorem Tryz.sortS80:Go.Proofs.SlLaysM.n6 Tryz.prog Tryz.sortS80_ren:={
 mixed:=zb
 f6:=⟨Tryz.f105.name,zc,Tryz.func105.trans (bX some zb)⟩
 f8:=Tryz.func159.trans (bX some zb)
 f9:=⟨Tryz.f168.name,zc,Tryz.func168.trans (bX some zb)⟩
 f19:=Tryz.func217.trans (bX some zb)
 f20:=Tryz.func218.trans (bX some zb)
 f21:=⟨Tryz.f226.name,zc,Tryz.func226.trans (bX some zb)⟩
 f22:=⟨Tryz.f227.name,zc,Tryz.func227.trans (bX some zb)⟩
 f23:=⟨Tryz.f228.name,zc,Tryz.func228.trans (bX some zb)⟩
 f24:=⟨Tryz.f229.name,zc,Tryz.func229.trans (bX some zb)⟩
 f25:=⟨Tryz.f230.name,zc,Tryz.func230.trans (bX some zb)⟩
 f26:=⟨Tryz.f231.name,zc,Tryz.func231.trans (bX some zb)⟩
 f27:=⟨Tryz.f232.name,zc,Tryz.func232.trans (bX some zb)⟩
 f28:=⟨Tryz.f233.name,zc,Tryz.func233.trans (bX some zb)⟩
 f29:=⟨Tryz.f234.name,zc,Tryz.func234.trans (bX some zb)⟩
 f31:=Tryz.func273.trans (bX some zb)
 f32:=Tryz.func274.trans (bX some zb)
 f36:=⟨Tryz.f280.name,zc,Tryz.func280.trans (bX some zb)⟩
 f37:=⟨Tryz.f281.name,zc,Tryz.func281.trans (bX some zb)⟩
 f38:=⟨Tryz.f282.name,zc,Tryz.func282.trans (bX some zb)⟩
 f39:=⟨Tryz.f160.name,zc,Tryz.func160.trans (bX some zb)⟩
 f41:=⟨Tryz.f306.name,zc,Tryz.func306.trans (bX some zb)⟩
 t0:=Tryz.underlying0
 a0:=Tryz.isAgg0
 z0:=Tryz.sizeOf0
 v0:=Tryz.zeroValue0
 t3:=Tryz.underlying3
 a3:=Tryz.isAgg3
 z3:=Tryz.sizeOf3
 v3:=Tryz.zeroValue3
 t4:=Tryz.underlying4
 a4:=Tryz.isAgg4
 z4:=Tryz.sizeOf4
 v4:=Tryz.zeroValue4
 t5:=Tryz.underlying5
 a5:=Tryz.isAgg5
 z5:=Tryz.sizeOf5
 v5:=Tryz.zeroValue5
 t9:=Tryz.underlying9
 a9:=Tryz.isAgg9
 z9:=Tryz.sizeOf9
 v9:=Tryz.zeroValue9
 t26:=Tryz.underlying23
 a26:=Tryz.isAgg23
 z26:=Tryz.sizeOf23
 v26:=Tryz.zeroValue23
 t27:=Tryz.underlying23
 a27:=Tryz.isAgg23
 z27:=Tryz.sizeOf23
 v27:=Tryz.zeroValue23
 t29:=Tryz.underlying9
 a29:=Tryz.isAgg9
 z29:=Tryz.sizeOf9
 v29:=Tryz.zeroValue9
 t32:=Tryz.underlying248
 a32:=Tryz.isAgg248
 z32:=Tryz.sizeOf248
 v32:=Tryz.zeroValue248
 t35:=Tryz.underlying292
 a35:=Tryz.isAgg292
 z35:=Tryz.sizeOf292
 v35:=Tryz.zeroValue292
 t36:=Tryz.underlying293
 a36:=Tryz.isAgg293
 z36:=Tryz.sizeOf293
 v36:=Tryz.zeroValue293
 t41:=Tryz.underlying156
 a41:=Tryz.isAgg156
 z41:=Tryz.sizeOf156
 v41:=Tryz.zeroValue156
 t44:=Tryz.underlying254
 a44:=Tryz.isAgg254
 z44:=Tryz.sizeOf254
 v44:=Tryz.zeroValue254
 t46:=Tryz.underlying253
 a46:=Tryz.isAgg253
 z46:=Tryz.sizeOf253
 v46:=Tryz.zeroValue253
 t53:=Tryz.underlying333
 a53:=Tryz.isAgg333
 z53:=Tryz.sizeOf333
 v53:=Tryz.zeroValue333
 t57:=Tryz.underlying337
 a57:=Tryz.isAgg337
 z57:=Tryz.sizeOf337
 v57:=Tryz.zeroValue337
 t63:=Tryz.underlying358
 a63:=Tryz.isAgg358
 z63:=Tryz.sizeOf358
 v63:=Tryz.zeroValue358
 t64:=Tryz.underlying257
 a64:=Tryz.isAgg257
 z64:=Tryz.sizeOf257
 v64:=Tryz.zeroValue257 }
end Go.Proofs
namespace Go.Proofs.YtbbchlpccgkikaaGreatDoor
open Go.Shelf Go.RowKit Go.Lib Go.Sort Dw
def bytL(s:BA):List UInt8:=s.data.toList
def ofBy(l:List UInt8):BA:=⟨l.toArray⟩
theorem ofBy_byt(s:BA):ofBy (bytL s)=s:=by unfold ofBy bytL;cases s;simp
theorem byt_of(l:List UInt8):bytL (ofBy l)=l:=by unfold ofBy bytL;simp
theorem encStr_byt(s:BA):encStr (bytL s)=Value.string s:=by
 show Value.string ⟨(bytL s).toArray⟩=_
 have:=ofBy_byt s;unfold ofBy at this;rw[this]
def srtP(l:List BA):List BA:=((l.map bytL).mergeSort fun x y=>decide (x<=y)).map ofBy
theorem srtP_mem(l:List BA)(s:BA):s∈srtP l↔s∈l:=by
 unfold srtP;rw[List.mem_map]
 constructor
 ·rintro⟨x,hx,rfl⟩
  obtain⟨y,hy,rfl⟩:=List.mem_map.1 ((List.mergeSort_perm _ _).mem_iff.1 hx);rw[ofBy_byt];exact hy
 ·intro h
  exact⟨bytL s,(List.mergeSort_perm _ _).mem_iff.2 (aS h),ofBy_byt s⟩
theorem srtP_inc{l:List BA}(hn:l.Nodup):IncN (srtP l):=by
 have h1:=List.pairwise_mergeSort (le:=fun x y:List UInt8=>decide (x<=y)) (fun a b c h k=>by
  simp only[bG]at *;exact List.le_trans h k) (fun a b=>by
  simp only[Bool.or_eq_true,bG];exact List.le_total a b) (l.map bytL)
 have h2:((l.map bytL).mergeSort fun x y=>decide (x<=y)).Nodup:=by
  refine(List.mergeSort_perm _ _).nodup_iff.2 ?_;exact List.Pairwise.map bytL (fun a b h e=>h (by rw[<-ofBy_byt a,e,ofBy_byt])) hn
 unfold srtP IncN;rw[List.pairwise_map];refine(h1.and h2).imp fun{a b} h=>?_
 obtain⟨h3,h4⟩:=h;rw[slt_list,Dw.toList_eq,Dw.toList_eq];show decide (bytL (ofBy a)<bytL (ofBy b))=true
 rw[byt_of,byt_of,eW];simp only[bG]at h3
 rcases List.le_iff_lt_or_eq.1 h3 with h|h
 ·exact h
 ·exact absurd h h4
theorem srtP_holL{K:List BA}{f:zAV}(hk:IncN K)(hh:HoldOk K f){l:List BA}(hn:l.Nodup)(hm:∀p,p∈l↔f p≠0):srtP l=holL K f:=
 incN_ext (srtP_inc hn) (holL_inc hk) fun x=>by rw[srtP_mem,hm,holL_mem hh]
theorem below_putRow{α:Type}[Inhabited α](enc:α->Value){w:World}{blk B:Nat}(n:Nat)(d:Array α)(os:Array Obj)(hB:B<=blk)(hb:blk<w.heap.size):Below B w (grow (putRow enc (Sort.ahead w n) blk 0 d) os):=by
 have hp:Below B w (putRow enc (Sort.ahead w n) blk 0 d):=
  ⟨rfl,rfl,rfl,by rw[size_putRow];exact aE _,fun i hi=>by
   show((Sort.ahead w n).heap.modify blk _)[i]?=_
   rw[Array.getElem?_modify,aW za]
   rfl⟩
 refine⟨hp.os,hp.tape,hp.output,?_,fun i hi=>?_⟩
 ·rw[size_grow]
  exact dC hp.size (dG _ _)
 ·rw[heap_grow_old _ _ (by have:=hp.size;omega)]
  exact hp.block i hi
theorem sortP_c(g cap:Nat)(L:List BA)(base:Nat)(w:World)(hown:zAs encS 1 w base 9 (.slice (some ⟨g,0,none⟩) L.length cap) L)(hl:L.length<=1000000)(h0:0<L.length): Calls Tryz.prog 105 #[.slice (some ⟨g,0,none⟩) L.length cap] w fun e w'=>e=.returned (.tuple #[])/\Strs w' (some ⟨g,0,none⟩) (srtP L)/\Below base w w':=by
 obtain⟨hbase,cs,hcs⟩:=zAM hown (g:=g) rfl;have hgl:g<w.heap.size:=(Array.getElem?_eq_some_iff.1 hcs).1;obtain⟨A',c',he,hrd⟩:=hown.rd1
 injection he with hA _ _
 subst hA;obtain⟨b,o,e2,hc⟩:=hrd h0
 injection e2 with e2
 injection e2 with e3 e4 _
 subst e3;subst e4
 have hH:Holds encStr w g 0 (L.map bytL).toArray:=fun j hj=>by
  have hj':j<L.length:=yg;refine⟨?_,cU w g _ cs _ hcs⟩
  rw[hc j hj'];simp[hj',encStr_byt]
 have hS:=AnyM.slices_Sort_string Tryz.sortS80 g 0 cap (L.map bytL) w hH hgl ze;change Calls Tryz.prog 105 _ _ _ at hS;rw[dE]at hS;refine hS.mono fun e w' ⟨he,n,os,hw⟩=>⟨he,?_,?_⟩
 ·have hh:=holds_sortWorld encStr w g 0 n (L.map bytL).toArray ((L.map bytL).mergeSort fun x y=>decide (x<=y)).toArray os hgl hH zd
  have hw':w'=sortWorld encStr w g 0 n ((L.map bytL).mergeSort fun x y=>decide (x<=y)).toArray os:=hw;rw[hw'];refine fun hp=>⟨g,0,rfl,fun i hi=>?_⟩
  have hi':i<((L.map bytL).mergeSort fun x y=>decide (x<=y)).length:=by unfold srtP at hi;simpa using hi
  have:=(hh i (by simpa using hi')).1;rw[this];have e:(srtP L)[i]?=some (ofBy (((L.map bytL).mergeSort fun x y=>decide (x<=y))[i]'hi')):=by unfold srtP;rw[List.getElem?_map,List.getElem?_eq_getElem hi'];rfl
  rw[(List.getElem?_eq_some_iff.1 e).2,<-encStr_byt,byt_of]
  congr 2
  show((L.map bytL).mergeSort fun x y=>decide (x<=y)).toArray[i]! = _
  rw[getElem!_pos _ _ (by simpa using hi')]
  rfl
 ·rw[hw];exact below_putRow _ _ _ _ hbase hgl
def GivesPs(l:List BA)(w:World)(e:Ending)(w':World):Prop:=∃A c,e=.returned (.slice A l.length c)/\Strs w' A l/\Below w.heap.size w w'
def PsR(w:World)(g:Nat)(L:List (BA×Value))(m:Nat)(ov:Value)(wr:World):Prop:=
 ∃(R:List (BA×Value))(v:Value)(acc:List BA),v=ov/\R.length=m/\zBu Value.string wr w.heap.size g L R/\zAs encS 1 wr w.heap.size 9 v acc/\(acc++R.map (·.1)).Perm (L.map (·.1))/\Below w.heap.size w wr
theorem PRange_push{w w':World}{it g:Nat}{L R:List (BA×Value)}{α:Type}{enc:α->List Value}{k b:Nat}{e:TypeId}{v:Value}{l:List α}(h:zBu Value.string w it g L R)(ho:zAs enc k w b e v l)(hg:w.grownBy w' v.ownBlock):zBu Value.string w' it g L R:=by
 refine h.keep (hg.block g h.map.lt fun e2=>?_) (hg.block it h.lt fun e2=>?_)
 ·obtain⟨_,cs,hc⟩:=zAM ho e2.symm
  obtain⟨es,clk,h1,_⟩:=h.map;rw[h1]at hc;cases hc
 ·obtain⟨_,cs,hc⟩:=zAM ho e2.symm
  obtain⟨es,clk,since,c0,seen,_,_,_,_,_,h6,_⟩:=h;rw[h6]at hc;cases hc
theorem parties_c(g:Nat)(K:List BA)(f:zAV)(w:World)(hp:zAy w g f)(hk:IncN K)(hh:HoldOk K f)(hlen:K.length<=1000000):Calls Tryz.prog 50 #[.map (some g)] w (GivesPs (holL K f) w):=by
 obtain⟨L,h1,h2,h3⟩:=hp;obtain⟨o,hrun,hpr⟩:=zBu.start tMapP h1;have hgl:=h1.lt;have hLn:=h1.nodup
 have hLm:∀p,p∈L.map (·.1)↔f p≠0:=fun p=>by
  rw[h2,List.mem_map]
  constructor
  ·rintro⟨x,hx,rfl⟩;exact⟨x.2,hx⟩
  ·rintro⟨v,hv⟩;exact⟨_,hv,rfl⟩
 have hLl:L.length<=1000000:=by
  have:(L.map (·.1)).length<=K.length:=List.Nodup.length_le_of_subset hLn fun x hx=>eR fun hn=>(hLm x).1 hx (hh.out x hn)
  simp at this
  omega
 have HSE:Hid (∀l:List BA,l.Perm (L.map (·.1))->srtP l=holL K f):=fun l hl=>srtP_holL hk hh (hl.nodup_iff.2 hLn) fun p=>by rw[hl.mem_iff,hLm]
 have HPR:=zq hpr;have HB0:Hid (Below w.heap.size w (w.alloc o)):=(aJ _ _).alloc (aE _) _;clear h1 h2 h3 hpr hk hh hLn hLm
 go_enter Tryz.func50,Tryz.ntmps50;go_wp2;clear hrun
 go_loopg[3] L.length (PsR w g L)
 case atStart=>exact⟨L,_,[],rfl,rfl,HPR.o,zAs.nil _ _ _ _ _,List.Perm.refl _,HB0.o⟩
 clear HPR HB0
 case round =>
  obtain⟨R,v,acc,rfl,hm,hpr,how,hperm,hb⟩:=hrel;have HM:=zq hm;have HPR:=zq hpr;have HOW:=zq how;have HPM:=zq hperm;have HB:=zq hb
  have hal:acc.length+R.length<=1000000:=by
   have:=hperm.length_eq;simp at this
   omega
  clear hm hpr how hperm hb
  rcases zBu.next (P:=Tryz.prog) HPR.o str_inj za 0 with ⟨hR,hnx⟩|⟨x,R',w',hpx,hxL,hnx,hen,hpr',hg',hs'⟩
  ·have hpe:acc.Perm (L.map (·.1)):=by
    have:=HPM.o;rw[hR,List.map_nil,bE]at this;exact this
   have HS:=zq (HSE.o acc hpe);clear hR hpe
   obtain⟨A,c,hv⟩:∃A c,v=.slice A acc.length c:=by
    rcases HOW.o.2 with ⟨h,hn⟩|⟨g',cap,cur,h,_⟩
    ·exact⟨none,0,by rw[h,hn]⟩
    ·exact⟨_,_,h⟩
   subst hv
   by_cases h0:acc=[]
   ·subst h0
    have HNS:Hid (Calls Tryz.prog 105 #[.slice A 0 c] wr fun e w'=>e=.returned (.tuple #[])/\w'=wr):=AnyM.slices_Sort_string_none Tryz.sortS80 A c wr;have HLE:Hid (holL K f=[]):=by show _=_;rw[<-HS.o];unfold srtP;simp
    (go_wp2_with fail);(with_reducible refine HNS.o.mono ?_);rintro e w2⟨rfl,rfl⟩;go_wp2;go_ret
    unfold GivesPs;rw[HLE.o];exact⟨A,c,rfl,(fun h=>qg),HB.o⟩
   ·have hpos:0<acc.length:=List.length_pos_iff.2 h0
    obtain⟨g2,rfl⟩:∃g2,A=some ⟨g2,0,none⟩:=by
     rcases HOW.o.2 with ⟨h,hn⟩|⟨g',cap,cur,h,_⟩
     ·omega
     ·injection h with h;exact⟨_,h⟩
    have HSO:=zq (sortP_c g2 c acc w.heap.size wr HOW.o za hpos)
    have HLN:Hid (acc.length=(holL K f).length):=by
     show _=_
     rw[<-HS.o];unfold srtP;simp
    clear h0;(go_wp2_with fail);(with_reducible refine HSO.o.mono ?_);rintro e w2⟨rfl,hst,hb2⟩;have HST:=zq hst;have HB2:Hid (Below w.heap.size w w2):=HB.o.trans hb2;clear hst hb2;go_wp2;go_ret
    exact⟨_,c,by rw[HLN.o];rfl,by rw[<-HS.o];exact HST.o,HB2.o⟩
  ·obtain⟨p,val⟩:=x
   have HB1:=zq (zDp HB.o HB.o.size hg' (aE _))
   have HO1:Hid (zAs encS 1 w' w.heap.size 9 v acc):=HOW.o.grown hg' (by
    cases hvv:v.ownBlock with
    |none=>exact .inl rfl
    |some q =>
     refine .inr fun e=>?_
     injection e with e
     obtain⟨_,cs,hc⟩:=zAM HOW.o hvv;have:=pr_nocell HPR.o 0;obtain⟨es,clk,since,c0,seen,_,_,_,_,_,h6,_⟩:=HPR.o;rw[e,h6]at hc;cases hc)
   have HPR1:=zq hpr';have HPX:=zq hpx;have hRl:R.length=R'.length+1:=by have:=hpx.length_eq;rw[bP]at this;exact this
   have hws:w.heap.size<=w'.heap.size:=HB1.o.size;clear hpx hpr' hg' hs' hxL
   go_wp2_with (at_builtin;refine zBS _ _ _ elStr rfl rfl w.heap.size v acc rfl (HO1.o.alloc _) w'.heap.size 1 p rfl (aK _ _) rfl zt zm za ze ?_;intro v1 w4 hown4 hg4 hb4)
   have HO4:=zq hown4;have HB4:=zq ((HB1.o.alloc hws _).trans hb4);have HPR4:=zq (PRange_push (HPR1.o.below (ba _ _)) (HO1.o.alloc _) hg4);clear hown4 hg4 hb4;go_wp2
   go_roundg R'.length
   case measure=>have:=HM.o;omega
   case rel =>
    refine⟨R',_,acc++[p],rfl,rfl,HPR4.o,HO4.o,?_,HB4.o⟩
    have h5:=HPX.o.map (·.1);rw[dZ]at h5;rw[List.append_assoc,List.singleton_append];exact(List.Perm.append_left acc h5.symm).trans HPM.o
end Go.Proofs.YtbbchlpccgkikaaGreatDoor
namespace Go.Proofs.YtbbchlpccgkikaaGreatDoor
open Go.RowKit Dw
abbrev zSpot:Array Value:=#[.int .i64 0,.string ⟨#[]⟩,.int .i64 0]
def zCU(rs:List Rg)(us:List BA)(pl use:BA)(day:Int):Int:=if (leafB rs pl&&memS us use)=false then 5 else if zCF day=false then 1 else 0
def GivesSp(rs:List Rg)(us:List BA)(pl use:BA)(day:Int)(w:World)(e:Ending)(w':World):Prop:=
 Below w.heap.size w w'/\((zCU rs us pl use day≠0/\e=.returned (.tuple #[.agg zSpot,.int .i64 (zCU rs us pl use day)])) \/
  (zCU rs us pl use day=0/\∃n,(zAf rs)[n]?=some ((idx rs pl).getD 0)/\e=.returned (.tuple #[.agg (sptC n use day),.int .i64 0])))
theorem below_st3{b g:Nat}{w W:World}(h:Below b w W)(hb:b<=g)(u v x:Value):Below b w (((W.setCell ⟨g,0,none⟩ u).setCell ⟨g,1,none⟩ v).setCell ⟨g,2,none⟩ x):=((h.setCell hb _).setCell hb _).setCell hb _
theorem leaf_idx{l:List Rg}(g:GoodR l){s:BA}(h:leafB l s=true):∃n:Nat,lmF l l.length s=some (.int .i64 (n:Int))/\(zAf l)[n]?=some ((idx l s).getD 0)/\(idx l s).getD 0<l.length/\(l.getD ((idx l s).getD 0) default).nm=s:=by
 obtain⟨i,n,hi,h1,h2,h3⟩:=leaf_at g h;have hx:idx l s=some i:=by rw[<-h1];exact g.inc.idx hi
 refine⟨n,h2,by rw[hx];exact h3,by rw[hx];exact hi,?_⟩
 rw[hx,eE,List.getD_eq_getElem?_getD,List.getElem?_eq_getElem hi];exact h1
theorem spot_c(RA:Option Addr)(rc:Nat)(rs:List Rg)(UA:Option Addr)(uc:Nat)(us:List BA)(DA:Option Addr)(dc:Nat)(ds:List De)(L:Nat)(pl use:BA)(day:Int)(w:World)(g:GoodR rs)(hl:LgIs RA rc rs UA uc us DA dc ds w L)(hu:Strs w UA us)(hul:us.length<=20): Calls Tryz.prog 35 #[.pointer (some ⟨L,0,none⟩),.string pl,.string use,.int .i64 day] w (GivesSp rs us pl use day w):=by
 have hbw:Below w.heap.size w (w.alloc (.cells zSpot 90)):=(aJ _ _).alloc (aE _) _;have HX:Hid (Bx (w.alloc (.cells zSpot 90)) w.heap.size zSpot 90):=Bx.new _ _ _;obtain⟨W,hW⟩:∃W,W=w.alloc (.cells zSpot 90):=⟨_,rfl⟩;rw[<-hW]at HX hbw;have HB:=zq hbw;obtain⟨r1,r2,g1,g2,AL,cL,vr,vi,ins,base,hlx,hwr,_⟩:=hl.below hbw;have HUW:=zq (hu.below hbw);have hlk:=zAp tMap kStr zInt hwr.m2 pl true;clear hl hu hbw hwr
 go_enter Tryz.func35,Tryz.ntmps35;(go_upto_region 1 with fail);rw[<-hW];clear hW;have l6:=hlx.c 6 rfl;have l1:=hlx.c 1 rfl;have hsl:=hlx.lt;obtain⟨x0,x1,x2⟩:=HX.o.t;have f0:=HX.o.frozen 0;have f1:=HX.o.frozen 1;have f2:=HX.o.frozen 2;have hsx:=HX.o.lt;have HCO:=zq (zDr UA uc us use W za HUW.o);have HDY:=zq (isDay_c day W);clear hlx
 cases hlb:leafB rs pl with
 |false =>
  have HF:Hid (zCU rs us pl use day=5):=by show _=_;unfold zCU;rw[hlb];rfl
  rw[leaf_no g hlb]at hlk;simp only[if_true,Option.getD_none,eD]at hlk;clear hlb;exact taz
 |true =>
  obtain⟨n,hn1,hn2,_⟩:=leaf_idx g hlb;rw[hn1]at hlk;simp only[if_true,eE,Option.isSome_some]at hlk;have HN:=zq hn2;have HLB:=zq hlb;clear hn1 hn2 hlb;(go_wp2_with fail);(with_reducible refine HCO.o.mono ?_);rintro e w1⟨rfl,rfl⟩
  cases hmu:memS us use with
  |false =>
   have HF:Hid (zCU rs us pl use day=5):=by show _=_;unfold zCU;rw[HLB.o,hmu];rfl
   clear hmu;exact taz
  |true =>
   have HMU:=zq hmu;clear hmu;(go_wp2_with fail);(with_reducible refine HDY.o.mono ?_);rintro e w2⟨rfl,rfl⟩
   cases hdy:zCF day with
   |false =>
    have HF:Hid (zCU rs us pl use day=1):=by show _=_;unfold zCU;rw[HLB.o,HMU.o,hdy];rfl
    clear hdy;go_wp2;refine aC (v:=.tuple #[.agg zSpot,.int .i64 1]) ?_ rfl ?_
    ·simp[results,Tryz.results35,go_sem,x0,x1,x2]
    ·exact tdp
   |true =>
    have HF:Hid (zCU rs us pl use day=0):=by show _=_;unfold zCU;rw[HLB.o,HMU.o,hdy];rfl
    clear hdy;go_wp2;refine aC (v:=.tuple #[.agg (sptC n use day),.int .i64 0]) ?_ rfl ?_
    ·simp[results,Tryz.results35,go_sem,x0,x1,x2]
    ·exact⟨below_st3 HB.o (aE _) _ _ _,.inr ⟨HF.o,n,HN.o,rfl⟩⟩
theorem short_of{rs:List Rg}{us:List BA}{ds:List De}(h:zBQ rs us ds=0):∀d∈ds,d.ar.length<=100/\d.us.length<=20:=fun d hd=>by
 obtain⟨k,hk,rfl⟩:=dO hd;have:=chkD_lens ((zAT h).2 k hk) (zAT h).1;exact⟨this.1,this.2.1⟩
theorem strs2(W:World)(a b:BA):Strs (W.alloc (.cells #[.string a,.string b] 9)) (some ⟨W.heap.size,0,none⟩) [a,b]:=fun _=>⟨W.heap.size,0,rfl,fun i hi=>by
 rw[bJ,aX _ W.heap.size i _ _ _ (aK _ _)]
 match i,hi with
 |0,_=>rfl
 |1,_=>rfl⟩
abbrev eSr:Sh->List Value:=fun x=>[.string x.pt,.string x.nu,.string x.de]
theorem elSr:ElemT Tryz.prog 31 38 (.agg #[.string ⟨#[]⟩,.string ⟨#[]⟩,.string ⟨#[]⟩]) 3 48:=⟨Tryz.underlying31,zb,rfl,zc⟩
theorem oneSr(x:Sh):∀u∈eSr x,u.oneCell'=true:=zt
theorem own_shs{w:World}{b:Nat}{v:Value}{l:List Sh}(h:zAs eSr 3 w b 38 v l):∃A c,v=.slice A l.length c/\Shs w A l:=by
 obtain⟨A,c,e,hr⟩:=h.rdk;refine⟨A,c,e,fun hl=>?_⟩;obtain⟨b,o,e2,hc⟩:=hr hl;refine⟨b,o,e2,fun i hi=>?_⟩;have key:=flat_at (k:=3) (enc:=eSr) (fun _=>rfl) l i hi;refine⟨?_,?_,?_⟩
 ·have:=hc (i*3+0) _ (key 0 za)
  exact this
 ·have:=hc (i*3+1) _ (key 1 za)
  rw[<-Nat.add_assoc]at this;exact this
 ·have:=hc (i*3+2) _ (key 2 za)
  rw[<-Nat.add_assoc]at this;exact this
def shO(x:BA×Rat):Sh:=⟨x.1,(outQ x.2).1,(outQ x.2).2⟩
def GivesSh(l:List Sh)(w:World)(e:Ending)(w':World):Prop:=∃A c,e=.returned (.slice A l.length c)/\Shs w' A l/\Below w.heap.size w w'
def LiSR(W:World)(f:zAV)(P:List BA)(m:Nat)(ov iv:Value)(wr:World):Prop:=
 ∃(j:Nat)(v:Value),v=ov/\j+m=P.length/\iv=.int .i64 (j:Int)/\zAs eSr 3 wr W.heap.size 38 v ((P.take j).map fun p=>shO (p,f p))/\Below W.heap.size W wr
theorem take_map_snoc(f:zAV){P:List BA}{j:Nat}(h:j<P.length):((P.take (j+1)).map fun p=>shO (p,f p))=((P.take j).map fun p=>shO (p,f p))++[shO (P[j],f P[j])]:=by
 rw[bA h,aA];rfl
theorem list_c(g:Nat)(K:List BA)(f:zAV)(w:World)(hp:zAy w g f)(hk:IncN K)(hh:HoldOk K f)(hlen:K.length<=1000000)(hsz:∀p,SzQ 10000000 (f p)): Calls Tryz.prog 37 #[.map (some g)] w (GivesSh ((pairs (holL K f) f).map shO) w):=by
 have HPC:=zq (parties_c g K f w hp hk hh hlen);have HPM:=zq hp;have hPl:(holL K f).length<=1000000:=dC (dR _ _) hlen;have HPN:Hid (∀p∈holL K f,f p≠0):=fun p hpm=>(holL_mem hh).1 hpm
 have HPA:Hid ((pairs (holL K f) f).map shO=(holL K f).map fun p=>shO (p,f p)):=by show _=_;unfold pairs;rw[List.map_map];rfl
 have HSZ:=zq hsz;rw[HPA.o];generalize holL K f=P at *;clear hp hk hh hsz HPA hlen
 go_enter Tryz.func37,Tryz.ntmps37;(go_wp2_with fail);(with_reducible refine HPC.o.mono ?_);rintro e W⟨A,c,rfl,hst,hb⟩;have HST:=zq hst;have HB:=zq hb;have HPW:=zq (HPM.o.below hb);clear hst hb HPC HPM;go_wp2
 go_loopg[3,11] P.length (LiSR W f P)
 case atStart=>exact⟨0,_,rfl,za,rfl,zAs.nil _ _ _ _ _,aJ _ _⟩
 case round =>
  obtain⟨j,v,rfl,hjm,rfl,how,hb⟩:=hrel;have HJ:=zq hjm;have HOW:=zq how;have HBW:=zq hb;clear hjm how hb
  by_cases hlt:j<P.length
  ·obtain⟨b,o,hA,hb0,hc0⟩:=(HST.o.below HBW.o).at_ za
   subst hA;have hc:=hc0 j hlt;have HTS:=zq (take_map_snoc f hlt);have hne:=HPN.o _ (bI hlt);have hol:((P.take j).map fun p=>shO (p,f p)).length<=1000000:=ze;generalize P[j]=p at *;obtain⟨F,hF,hFp⟩:=(HPW.o.below HBW.o).is;have hlk:=zAp tMapP kStr zRatV hF p false
   rcases hFp p with ⟨h0,_⟩|⟨_,vv,hN,A3,c3,A4,c4,rfl,h3,h4⟩
   ·exact absurd h0 hne
   rw[hN]at hlk;simp only[eF,if_false,eE]at hlk
   have HRT:Hid (Calls Tryz.prog 84 #[raV false A3 c3 (f p).num.natAbs A4 c4 (f p).den,.int .i64 1099511627776] wr (zAg (raOut (f p).num.natAbs (f p).den 1099511627776) wr)):=
    Ratio_c A3 A4 c3 c4 (f p).num.natAbs (f p).den 1099511627776 wr h3 h4 (dC (HSZ.o p).1.1 za) (dC (HSZ.o p).2.1 za)
   have hro:raOut (f p).num.natAbs (f p).den 1099511627776=.tuple #[.agg #[.string (zCT (f p).num.natAbs),.string (zCT (f p).den)],.bool true]:=by
    have z1:=digB_len (HSZ.o p).1.1;have z2:=digB_len (HSZ.o p).2.1;unfold raOut tooB;rw[aU za,aU za]
    rfl
   rw[hro]at HRT;have HSH:Hid (shO (p,f p)=⟨p,zCT (f p).num.natAbs,zCT (f p).den⟩):=rfl;rw[HSH.o]at HTS;generalize zCT (f p).num.natAbs=sn at *;generalize zCT (f p).den=sd at *;clear hc0 hF hFp hN h3 h4 hro hne;(go_wp2_with fail);(with_reducible refine HRT.o.mono ?_);rintro e w3⟨rfl,hb3⟩;have hb4:=zAa hb3 (ba w3 (.cells #[.string sn,.string sd] 36));have HO4:=zq (HOW.o.below hb4);have HB4:=zq (zAa HBW.o hb4);have hW4:W.heap.size<=(w3.alloc (.cells #[.string sn,.string sd] 36)).heap.size:=HB4.o.size;clear hb3 hb4 hc hlk HRT;obtain⟨lo,hlo⟩:∃lo,lo=(P.take j).map fun p=>shO (p,f p):=⟨_,rfl⟩
   rw[<-hlo]at HO4 HTS hol;clear hlo HOW;(go_upto_region 6 with fail);obtain⟨w4,hw4⟩:∃w4,w4=w3.alloc (.cells #[.string sn,.string sd] 36):=⟨_,rfl⟩;have HY:Hid (Bx (w3.alloc (.cells #[.string sn,.string sd] 36)) w3.heap.size #[.string sn,.string sd] 36):=Bx.new _ _ _;rw[<-hw4]at HY HO4 HB4 hW4 ⊢;clear hw4;have y0:=HY.o.c 0 rfl;have y1:=HY.o.c 1 rfl;have hsy:=HY.o.lt
   go_wp2_with (at_builtin;refine zBS _ _ _ elSr rfl rfl W.heap.size v lo rfl (HO4.o.alloc _) w4.heap.size 1 (⟨p,sn,sd⟩:Sh) rfl (aK _ _) rfl (oneSr _) zm za ze ?_;intro v1 w5 hown5 hg5 hb5)
   have HO5:Hid (zAs eSr 3 w5 W.heap.size 38 v1 ((P.take (j+1)).map fun p=>shO (p,f p))):=by show zAs _ _ _ _ _ _ _;rw[HTS.o];exact hown5
   have HB5:=zq ((HB4.o.alloc hW4 _).trans hb5);clear hown5 hg5 hb5 y0 y1 hsy;go_wp2
   go_roundg (gk-1)
   case measure=>have:=HJ.o;omega
   case rel=>exact⟨j+1,_,rfl,yi,zi,HO5.o,HB5.o⟩
  ·have hje:j=P.length:=by have:=HJ.o;omega
   have HO:Hid (zAs eSr 3 wr W.heap.size 38 v (P.map fun p=>shO (p,f p))):=by
    have:=HOW.o;rw[hje,aG]at this;exact this
   obtain⟨A5,c5,rfl,hs5⟩:=own_shs HO.o;have HS5:=zq hs5;clear hs5;go_wp2;go_ret
   exact⟨A5,c5,rfl,HS5.o,zAa HB.o HBW.o⟩
def GivesSr(p:List (BA×Rat)×Int)(w:World)(e:Ending)(w':World):Prop:=∃A c,e=.returned (.tuple #[.slice A (p.1.map shO).length c,.int .i64 p.2])/\Shs w' A (p.1.map shO)/\Below w.heap.size w w'
theorem GivesSr.no{w w':World}{n:Int}(hb:Below w.heap.size w w'):GivesSr ([],n) w (.returned (.tuple #[.slice none 0 0,.int .i64 n])) w':=⟨none,0,rfl,(fun h=>absurd h zd),hb⟩
section
variable {rs:List Rg} {us:List BA} {ds:List De} {th pl use:BA} {day:Int}
theorem srF_chk(h:zBQ rs us ds≠0):zBs rs us ds th pl use day=([],zBQ rs us ds):=by unfold zBs;rw[aD h]
theorem srF_nm(h:zBQ rs us ds=0)(h2:zBi th=false):zBs rs us ds th pl use day=([],5):=by
 unfold zBs;rw[aW (show ¬(zBQ rs us ds≠0) by rw[h];simp),aD h2]
theorem srF_sp(h:zBQ rs us ds=0)(h2:zBi th=true)(h3:zCU rs us pl use day≠0):zBs rs us ds th pl use day=([],zCU rs us pl use day):=by
 unfold zBs;rw[aW (show ¬(zBQ rs us ds≠0) by rw[h];simp),aW (show ¬(zBi th=false) by rw[h2];simp)];unfold zCU at h3 ⊢
 split
 ·rfl
 ·next h4 =>
  rw[aW h4]at h3
  split
  ·rfl
  ·next h5=>rw[aW h5]at h3;exact absurd rfl h3
theorem srF_at(h:zBQ rs us ds=0)(h2:zBi th=true)(h3:zCU rs us pl use day=0):zBs rs us ds th pl use day=if zBN rs ds ((idx rs pl).getD 0) th use day ds.length=true then ([],2) else (pairs (holL (zBY rs ds ((idx rs pl).getD 0) th use day ds.length) (zAt rs ds ((idx rs pl).getD 0) th use day ds.length)) (zAt rs ds ((idx rs pl).getD 0) th use day ds.length),0):=by
 unfold zBs;rw[aW (show ¬(zBQ rs us ds≠0) by rw[h];simp),aW (show ¬(zBi th=false) by rw[h2];simp)];unfold zCU at h3
 split
 ·next h4=>rw[aD h4]at h3;cases h3
 ·next h4 =>
  rw[aW h4]at h3
  split
  ·next h5=>rw[aD h5]at h3;cases h3
  ·rfl
end
theorem insN_len(p:BA):∀l:List BA,(insN p l).length<=l.length+1
 |[]=>by simp[insN]
 |a::l=>by
  unfold insN;have:=insN_len p l
  split
  ·simp
  ·split
   ·simp
   ·simp;omega
theorem keysAll_len:∀(l:List Sh)(K:List BA),(keysAll l K).length<=K.length+l.length
 |[],_=>aE _
 |s::l,K=>by
  have h1:=keysAll_len l (insN s.pt K);have h2:=insN_len s.pt K;show(keysAll l (insN s.pt K)).length<=_
  simp only[bP];omega
theorem keys_len{rs:List Rg}{us:List BA}{ds:List De}(h:zBQ rs us ds=0)(i:Nat)(th use:BA)(day:Int)(n:Nat)(hn:n<=ds.length):(zBY rs ds i th use day n).length<=1000000:=by
 have hsl:∀d∈ds,d.sh.length<=20:=fun d hd=>by
  obtain⟨k,hk,rfl⟩:=dO hd;exact(chkD_lens ((zAT h).2 k hk) (zAT h).1).2.2
 have hdl:=(zBM h).2.2
 have h1:∀(l:List De)(K:List BA),(∀d∈l,d∈ds)->(l.foldl (zBa th day) K).length<=K.length+20*l.length:=fun l=>by
  induction l with
  |nil=>exact fun K _=>dG _ _
  |cons d l ih =>
   intro K hd;have a:=ih (zBa th day K d) fun e he=>hd e (bM _ he)
   have b:(zBa th day K d).length<=K.length+20:=by
    unfold zBa
    split
    ·have:=keysAll_len d.sh K
     have:=hsl d (hd d bN);omega
    ·omega
   show(l.foldl (zBa th day) (zBa th day K d)).length<=_
   rw[bP];omega
 have h2:∀(l:List De)(K:List BA),(∀d∈l,d∈ds)->(l.foldl (zAL (zCO rs ds i th use day)) K).length<=K.length+22*l.length:=fun l=>by
  induction l with
  |nil=>exact fun K _=>dG _ _
  |cons d l ih =>
   intro K hd;have a:=ih (zAL (zCO rs ds i th use day) K d) fun e he=>hd e (bM _ he)
   have b:(zAL (zCO rs ds i th use day) K d).length<=K.length+22:=by
    unfold zAL zAK
    split
    ·split
     ·have h3:=keysAll_len d.sh (insN d.fr K)
      have h4:=insN_len d.fr K;have:=hsl d (hd d bN);omega
     ·have h3:=insN_len d.to_ (insN d.fr K)
      have h4:=insN_len d.fr K;omega
    ·omega
   show(l.foldl (zAL _) (zAL _ K d)).length<=_
   rw[bP];omega
 have e1:=h2 (ds.take n) (zDf th day ds) fun d hd=>cQ hd
 have e2:=h1 ds [] fun d hd=>hd
 have e3:(ds.take n).length<=200:=qe;have e4:(zDf th day ds).length<=0+20*ds.length:=e2;unfold zBY;omega
theorem strs1(W:World)(a:BA):Strs (W.alloc (.cells #[.string a] 9)) (some ⟨W.heap.size,0,none⟩) [a]:=fun _=>⟨W.heap.size,0,rfl,fun i hi=>by
 rw[bJ,aX _ W.heap.size i _ _ _ (aK _ _)]
 match i,hi with
 |0,_=>rfl⟩
theorem Shares_c(RA:Option Addr)(rc:Nat)(rs:List Rg)(UA:Option Addr)(uc:Nat)(us:List BA)(DA:Option Addr)(dc:Nat)(ds:List De)(th pl use:BA)(day:Int)(w:World)(hr:Rgs w RA rs)(hu:Strs w UA us)(hd:Des w DA ds)(hz:∀i (h:i<rs.length),(rs[i]).nm.size<=9223372036854775807)(hz2:∀i (h:i<us.length),(us[i]).size<=9223372036854775807)(hdc:ds.length<=dc)(hth:th.size<=9223372036854775807): Calls Tryz.prog 9 #[.agg (tiC RA rc rs UA uc us DA dc ds),.string th,.string pl,.string use,.int .i64 day] w (GivesSr (zBs rs us ds th pl use day) w):=by
 generalize hres:zBs rs us ds th pl use day=res;have HR:=zq hres;clear hres;have HX:Hid (Bx (w.alloc (.cells (tiC RA rc rs UA uc us DA dc ds) 26)) w.heap.size (tiC RA rc rs UA uc us DA dc ds) 26):=Bx.new _ _ _;have HB:Hid (Below w.heap.size w (w.alloc (.cells (tiC RA rc rs UA uc us DA dc ds) 26))):=(aJ _ _).alloc (aE _) _;obtain⟨W,hW⟩:∃W,W=w.alloc (.cells (tiC RA rc rs UA uc us DA dc ds) 26):=⟨_,rfl⟩;rw[<-hW]at HX HB;have hba:Below W.heap.size W (W.alloc (.cells #[.string th] 9)):=(aJ _ _).alloc (aE _) _;have hbb:Below w.heap.size w (W.alloc (.cells #[.string th] 9)):=zAa HB.o hba;have HX1:=zq (HX.o.below hba)
 have HOP:Hid (Calls Tryz.prog 31 #[.agg (tiC RA rc rs UA uc us DA dc ds),.slice (some ⟨W.heap.size,0,none⟩) 1 1] (W.alloc (.cells #[.string th] 9)) (GivesOp (openF rs us ds [th]) RA rc rs UA uc us DA dc ds (W.alloc (.cells #[.string th] 9)))):=
  open_c RA rc rs UA uc us DA dc ds (some ⟨W.heap.size,0,none⟩) 1 [th] _ (hr.below hbb) (hu.below hbb) (hd.below hbb) hz hz2 (strs1 W th) (fun i h=>by
   match i,h with
   |0,_=>exact hth) zd hdc
 have HBB:=zq hbb;have HDw:=zq hd;have HUw:=zq hu;clear hr hu hd hba hbb
 go_enter Tryz.func9,Tryz.ntmps9;(go_upto_region 1 with fail);rw[<-hW];clear hW;(iterate 2 go_step);refine eX _ _ zk w.heap.size 0 zk (tiC RA rc rs UA uc us DA dc ds).toList _ (rangeB HX.o) Tryz.underlying26 rfl zb ?_;(go_wp2_with fail);(with_reducible refine HOP.o.mono ?_);rintro e w1⟨P,rfl,hb1,hp0,hp1⟩;have HB1:=zq (zAa HBB.o hb1);have HX2:=zq (HX1.o.below hb1);have HP0:=zq hp0;have HP1:=zq hp1;clear hb1 hp0 hp1 HOP HX HX1 HB HBB
 by_cases hc:zBQ rs us ds=0
 case neg =>
  have hof:openF rs us ds [th]=zBQ rs us ds:=by unfold openF;rw[aD hc]
  have hcb:(zBQ rs us ds != 0)=true:=by simpa using hc
  have HS:Hid (res=([],zBQ rs us ds)):=by show _=_;rw[<-HR.o,srF_chk hc]
  rw[hof];clear hc hof HP0 HP1;go_wp2;go_ret2
  rw[HS.o];exact GivesSr.no HB1.o
 cases hnm:zBi th with
 |false =>
  have hof:openF rs us ds [th]=5:=by
   exact tcc
  have HS:Hid (res=([],5)):=by show _=_;rw[<-HR.o,srF_nm hc hnm]
  rw[hof];clear hc hof HP0 HP1 hnm;go_wp2;go_ret2
  rw[HS.o];exact GivesSr.no HB1.o
 |true =>
  have hof:openF rs us ds [th]=0:=by
   exact tcd
  have HC:=zq hc;have HNM:=zq hnm;rw[hof];obtain⟨L,rfl,hlg⟩:=HP1.o hof;obtain⟨hcr,hul,hdl⟩:=zBM HC.o;have HSC:=zq (spot_c RA rc rs UA uc us DA dc ds L pl use day w1 (zDt hcr) hlg (HUw.o.below HB1.o) hul);have HLG:=zq hlg;clear hc hnm hof HP0 HP1 hlg hcr;(go_wp2_with fail);(with_reducible refine HSC.o.mono ?_);rintro e w2⟨hb2,hsp⟩;have HB2:=zq (zAa HB1.o hb2);have HL2:=zq (HLG.o.below hb2);have HX3:=zq (HX2.o.below hb2);clear hb2 HSC HLG HB1 HX2
  rcases hsp with ⟨hs0,rfl⟩|⟨hs0,n,hn,rfl⟩
  ·have HS:Hid (res=([],zCU rs us pl use day)):=by show _=_;rw[<-HR.o,srF_sp HC.o HNM.o hs0]
   have hcb:(zCU rs us pl use day != 0)=true:=by simpa using hs0
   have hba:Below w2.heap.size w2 (w2.alloc (.cells zSpot 90)):=(aJ _ _).alloc (aE _) _;have HB3:=zq (zAa HB2.o hba);clear hs0 hba;go_wp2;go_ret2
   rw[HS.o];exact GivesSr.no HB3.o
  ·have HS:=zq (srF_at HC.o HNM.o hs0)
   rw[HR.o]at HS;have hba:Below w2.heap.size w2 (w2.alloc (.cells (sptC n use day) 90)):=(aJ _ _).alloc (aE _) _;have HX4:Hid (Bx (w2.alloc (.cells (sptC n use day) 90)) w2.heap.size (sptC n use day) 90):=Bx.new _ _ _;have HL3:=zq (HL2.o.below hba);have HB3:=zq (zAa HB2.o hba);have HX5:=zq (HX3.o.below hba);obtain⟨w3,hw3⟩:∃w3,w3=w2.alloc (.cells (sptC n use day) 90):=⟨_,rfl⟩;rw[<-hw3]at HX4 HL3 HB3 HX5;obtain⟨i,hi⟩:∃i,i=(idx rs pl).getD 0:=⟨_,rfl⟩;rw[<-hi]at HS hn;have HPT:=zq (parts_c RA rc rs UA uc us DA dc ds L n i ds.length use day th true w3 HL3.o (HDw.o.below HB3.o) HC.o hn (aE _) hdc (fun d hd=>dC (short_of HC.o d hd).2 zc));rw[Bool.true_and]at HPT;have HKS:=zq (parts_sum HC.o i th use day ds.length);have HKL:=zq (keys_len HC.o i th use day ds.length (aE _));have HPZ:=zq (fun p=>parts_sz HC.o i th use day ds.length (aE _) p);clear hs0 hba hn hi;(go_upto_region 7 with fail);rw[<-hw3];clear hw3 HL2 HB2 HX3;obtain⟨x0,x1,x2⟩:=HX4.o.t;have hsx:=HX4.o.lt;have t2:=HX5.o.c 2 rfl;have hst:=HX5.o.lt;(go_wp2_with fail);(with_reducible refine HPT.o.mono ?_);rintro e w4⟨hb4,hbad,hok⟩;have HB4:=zq (zAa HB3.o hb4);clear hb4 x0 x1 x2 hsx t2 hst
   cases hlo:zBN rs ds i th use day ds.length with
   |true =>
    have he:=hbad hlo;subst he;have HS2:Hid (res=([],2)):=by show _=_;rw[HS.o,aD hlo]
    clear hlo hbad hok;go_wp2;go_ret2
    rw[HS2.o];exact GivesSr.no HB4.o
   |false =>
    obtain⟨g,rfl,hpm⟩:=hok hlo;have HS2:Hid (res=(pairs (holL (zBY rs ds i th use day ds.length) (zAt rs ds i th use day ds.length)) (zAt rs ds i th use day ds.length),0)):=by show _=_;rw[HS.o,aW (by rw[hlo];simp)]
    have HLC:=zq (list_c g _ _ w4 hpm HKS.o.1 HKS.o.2.1 HKL.o HPZ.o);clear hlo hbad hok hpm;(go_wp2_with fail);(with_reducible refine HLC.o.mono ?_);rintro e w5⟨A5,c5,rfl,hs5,hb5⟩;have HB5:=zq (zAa HB4.o hb5);have HS5:=zq hs5;clear hb5 hs5;go_wp2;go_ret2
    rw[HS2.o];exact⟨A5,c5,(by rw[dE];rfl),HS5.o,HB5.o⟩
def zCB(th:BA)(d:De):Bool:=decide (d.kd=5) || (decide (d.th=th)&&!decide (d.kd=4))
def edgeL(ds:List De)(d:De):List Int:=if zAl d.kd=true then [(zBL ds d).1,(zBL ds d).2] else [d.bg]
def edgeB(th:BA)(ds:List De)(day:Int):Bool:=ds.any fun d=>zCB th d&&(edgeL ds d).any fun n=>decide (n=day)
section
variable {rs:List Rg} {ds:List De} {i k:Nat} {th use:BA} {day:Int} {d:De}
theorem edgeB_no(h:edgeB th ds day=false)(hd:d∈ds)(hc:zCB th d=true):∀n∈edgeL ds d,n≠day:=fun n hn e=>by
 unfold edgeB at h;rw[dV]at h;have:=h d hd;rw[hc,Bool.true_and]at this;exact this (List.any_eq_true.2 ⟨n,hn,aT e⟩)
theorem vB_day(hg:zAl d.kd=true)(h:∀n∈edgeL ds d,n≠day):vB rs ds i use (day-1) d=vB rs ds i use day d:=by
 unfold edgeL at h;rw[aD hg]at h;have h1:=h (zBL ds d).1 zd;have h2:=h (zBL ds d).2 zd;unfold vB;have e1:decide ((zBL ds d).1<=day-1)=decide ((zBL ds d).1<=day):=by rw[bD,eW,eW];omega
 have e2:decide (day-1<(zBL ds d).2)=decide (day<(zBL ds d).2):=by rw[bD,eW,eW];omega
 rw[e1,e2]
theorem bg_day(hg:zAl d.kd=false)(h:∀n∈edgeL ds d,n≠day):decide (d.bg<=day-1)=decide (d.bg<=day):=by
 unfold edgeL at h;rw[aW (by rw[hg];simp)]at h;have h1:=h d.bg zd;rw[bD,eW,eW];omega
theorem orgB_day(hd:d∈ds)(h:edgeB th ds day=false):orgB th (day-1) d=orgB th day d:=by
 unfold orgB
 by_cases h1:d.kd=1
 ·by_cases h2:d.th=th
  ·have hc:zCB th d=true:=by unfold zCB;rw[h1,h2];simp
   rw[bg_day (by rw[h1];rfl) (edgeB_no h hd hc)]
  ·rw[aU h2];simp
 ·rw[aU h1];simp
theorem movB_day(hd:d∈ds)(h:edgeB th ds day=false):zCO rs ds i th use (day-1) d=zCO rs ds i th use day d:=by
 unfold zCO
 by_cases h1:d.kd=2
 ·rw[aD h1,aD h1]
  exact tbb
 ·rw[aW h1,aW h1]
  by_cases h3:d.kd=5
  ·have hc:zCB th d=true:=by unfold zCB;rw[h3];rfl
   rw[aD h3,aD h3,bg_day (by rw[h3];rfl) (edgeB_no h hd hc)]
  ·rw[aW h3,aW h3]
theorem licB_day{p:BA}{x:Bool}(hd:d∈ds)(h:edgeB th ds day=false):licB rs ds i use (day-1) th p x d=licB rs ds i use day th p x d:=by
 unfold licB
 by_cases h1:d.kd=3
 ·exact tbb
 ·rw[aU h1];simp
end
theorem parts_congr{rs:List Rg}{ds:List De}{i k:Nat}{th use use2:BA}{day day2:Int}(ho:∀d∈ds,orgB th day d=orgB th day2 d)(hm:∀d∈ds,zCO rs ds i th use day d=zCO rs ds k th use2 day2 d)(n:Nat): zAt rs ds i th use day n=zAt rs ds k th use2 day2 n:=by
 unfold zAt zCy
 have key:∀(l:List De)(f:zAV),(∀d∈l,d∈ds)->l.foldl (orgF th day) f=l.foldl (orgF th day2) f:=fun l=>by
  induction l with
  |nil=>exact fun _ _=>rfl
  |cons d l ih =>
   intro f hs;rw[cO,cO,ih _ fun x hx=>hs x (bM _ hx)];have:orgF th day f d=orgF th day2 f d:=by unfold orgF;rw[ho d (hs d bN)]
   rw[this]
 have key2:∀(l:List De)(f:zAV),(∀d∈l,d∈ds)->l.foldl (zCP (zCO rs ds i th use day)) f=l.foldl (zCP (zCO rs ds k th use2 day2)) f:=fun l=>by
  induction l with
  |nil=>exact fun _ _=>rfl
  |cons d l ih =>
   intro f hs;rw[cO,cO,ih _ fun x hx=>hs x (bM _ hx)];have:zCP (zCO rs ds i th use day) f d=zCP (zCO rs ds k th use2 day2) f d:=by unfold zCP;rw[hm d (hs d bN)]
   rw[this]
 rw[key ds _ fun _ h=>h,key2 (ds.take n) _ fun d hd=>cQ hd]
theorem concerns_c(RA:Option Addr)(rc:Nat)(rs:List Rg)(UA:Option Addr)(uc:Nat)(us:List BA)(DA:Option Addr)(dc:Nat)(ds:List De)(L k:Nat)(th:BA)(w:World)(hl:LgIs RA rc rs UA uc us DA dc ds w L)(hd:Des w DA ds)(hk:k<ds.length): Calls Tryz.prog 127 #[.pointer (some ⟨L,0,none⟩),.int .i64 (k:Int),.string th] w (zAg (.bool (zCB th ds[k])) w):=by
 obtain⟨b,o,rfl,hb0,hc0⟩:=hd za;obtain⟨d,hdd⟩:∃d,ds[k]=d:=⟨_,rfl⟩;have hrg:=(hc0 k hk).1;rw[hdd]at hrg ⊢;generalize hres:zCB th d=res;have HR:=zq hres;obtain⟨r1,r2,g1,g2,AL,cL,vr,vi,ins,base,hlx,_⟩:=hl;have l2:=hlx.c 2 rfl;have hsl:=hlx.lt;clear hd hc0 hdd hres hlx
 go_enter Tryz.func127,Tryz.ntmps127;(go_upto_region 1 with fail);(iterate 23 go_step);refine eX _ _ zk b (o+k*16) zk (deC d).toList _ hrg Tryz.underlying126 rfl zb ?_;clear hrg;(go_upto_region 2 with fail);obtain⟨wd,hwd⟩:∃wd,wd=w.alloc (.cells (deC d) 126):=⟨_,rfl⟩;rw[<-hwd];have hbd:Below w.heap.size w wd:=zv;have HD1:Hid (Bx wd w.heap.size (deC d) 126):=yc;have HBD:=zq hbd;clear hwd hbd l2 hsl;have d2:=HD1.o.c 2 rfl;have d3:=HD1.o.c 3 rfl;have hsd:=HD1.o.lt
 by_cases h5:d.kd=5
 ·have e1:(d.kd == 5)=true:=by simpa using h5
  have HE:Hid (res=true):=by show _=_;rw[<-HR.o];unfold zCB;rw[aT h5];rfl
  clear h5;exact tda
 ·have e1:(d.kd == 5)=false:=by simpa using h5
  by_cases ht:d.th=th
  ·have q1:=zBx ht
   by_cases h4:d.kd=4
   ·have e2:(d.kd != 4)=false:=by simpa using h4
    have HE:Hid (res=false):=by show _=_;rw[<-HR.o];unfold zCB;rw[aU h5,aT h4];simp
    clear h5 ht h4;exact tda
   ·have e2:(d.kd != 4)=true:=by simpa using h4
    have HE:Hid (res=true):=by show _=_;rw[<-HR.o];unfold zCB;rw[aT ht,aU h4];simp
    clear h5 ht h4;exact tda
  ·have q1:=zBh ht
   have HE:Hid (res=false):=by show _=_;rw[<-HR.o];unfold zCB;rw[aU h5,aU ht];rfl
   clear h5 ht;exact tda
theorem flat_ints:∀l:List Int,l.flatMap encI=l.map fun x=>Value.int .i64 x
 |[]=>rfl
 |a::l=>by rw[bK,flat_ints l];rfl
theorem own_ints{w:World}{base n c:Nat}{A:Option Addr}{l:List Int}(h:zAs encI 1 w base 3 (.slice A n c) l):∃bl,0<l.length->A=some ⟨bl,0,none⟩/\base<=bl/\bl<w.heap.size/\∀j z,l[j]?=some z->w.cell? ⟨bl,j,none⟩=some (.int .i64 z):=by
 obtain⟨A',c',e,hr⟩:=h.rdk
 injection e with e1 _ _
 subst e1
 rcases h.2 with ⟨h1,hn⟩|⟨g,cap,cur,hv,hb,hg,_⟩
 ·exact⟨0,fun h0=>za⟩
 ·injection hv with hv _ _
  refine⟨g,fun h0=>⟨hv,hb,(Array.getElem?_eq_some_iff.1 hg).1,fun j z hz=>?_⟩⟩;obtain⟨b,o,e,hc⟩:=hr h0;rw[hv]at e
  injection e with e
  injection e with e1 e2 _
  subst e1;subst e2
  have:=hc j (.int .i64 z) (by
   rw[flat_ints,List.getElem?_map,hz];rfl)
  rwa [bJ]at this
end Go.Proofs.YtbbchlpccgkikaaGreatDoor
namespace Go.Proofs
open Go.Shelf
def Tryz.sortI64_ren:Go.Shelf.Ren:=⟨fun|5=>128|8=>159|7=>189|19=>217|20=>218|10=>244|11=>245|12=>246|13=>247|14=>248|15=>249|16=>250|17=>251|18=>252|30=>293|31=>273|32=>274|33=>294|34=>295|35=>262|40=>323|n=>n,fun|23=>68|25=>3|3=>3|32=>248|22=>68|0=>0|44=>254|46=>253|4=>4|36=>293|35=>292|41=>156|5=>5|9=>9|53=>333|57=>337|63=>358|64=>257|n=>n,fun|n=>n⟩
theorem Tryz.sortI64:Go.Proofs.SlLaysM.n5 Tryz.prog Tryz.sortI64_ren:={
 mixed:=zb
 f5:=⟨Tryz.f128.name,zc,Tryz.func128.trans (bX some zb)⟩
 f7:=⟨Tryz.f189.name,zc,Tryz.func189.trans (bX some zb)⟩
 f8:=Tryz.func159.trans (bX some zb)
 f10:=⟨Tryz.f244.name,zc,Tryz.func244.trans (bX some zb)⟩
 f11:=⟨Tryz.f245.name,zc,Tryz.func245.trans (bX some zb)⟩
 f12:=⟨Tryz.f246.name,zc,Tryz.func246.trans (bX some zb)⟩
 f13:=⟨Tryz.f247.name,zc,Tryz.func247.trans (bX some zb)⟩
 f14:=⟨Tryz.f248.name,zc,Tryz.func248.trans (bX some zb)⟩
 f15:=⟨Tryz.f249.name,zc,Tryz.func249.trans (bX some zb)⟩
 f16:=⟨Tryz.f250.name,zc,Tryz.func250.trans (bX some zb)⟩
 f17:=⟨Tryz.f251.name,zc,Tryz.func251.trans (bX some zb)⟩
 f18:=⟨Tryz.f252.name,zc,Tryz.func252.trans (bX some zb)⟩
 f19:=Tryz.func217.trans (bX some zb)
 f20:=Tryz.func218.trans (bX some zb)
 f30:=⟨Tryz.f293.name,zc,Tryz.func293.trans (bX some zb)⟩
 f31:=Tryz.func273.trans (bX some zb)
 f32:=Tryz.func274.trans (bX some zb)
 f33:=⟨Tryz.f294.name,zc,Tryz.func294.trans (bX some zb)⟩
 f34:=⟨Tryz.f295.name,zc,Tryz.func295.trans (bX some zb)⟩
 f35:=⟨Tryz.f262.name,zc,Tryz.func262.trans (bX some zb)⟩
 f40:=⟨Tryz.f323.name,zc,Tryz.func323.trans (bX some zb)⟩
 t0:=Tryz.underlying0
 a0:=Tryz.isAgg0
 z0:=Tryz.sizeOf0
 v0:=Tryz.zeroValue0
 t3:=Tryz.underlying3
 a3:=Tryz.isAgg3
 z3:=Tryz.sizeOf3
 v3:=Tryz.zeroValue3
 t4:=Tryz.underlying4
 a4:=Tryz.isAgg4
 z4:=Tryz.sizeOf4
 v4:=Tryz.zeroValue4
 t5:=Tryz.underlying5
 a5:=Tryz.isAgg5
 z5:=Tryz.sizeOf5
 v5:=Tryz.zeroValue5
 t9:=Tryz.underlying9
 a9:=Tryz.isAgg9
 z9:=Tryz.sizeOf9
 v9:=Tryz.zeroValue9
 t22:=Tryz.underlying68
 a22:=Tryz.isAgg68
 z22:=Tryz.sizeOf68
 v22:=Tryz.zeroValue68
 t23:=Tryz.underlying68
 a23:=Tryz.isAgg68
 z23:=Tryz.sizeOf68
 v23:=Tryz.zeroValue68
 t25:=Tryz.underlying3
 a25:=Tryz.isAgg3
 z25:=Tryz.sizeOf3
 v25:=Tryz.zeroValue3
 t32:=Tryz.underlying248
 a32:=Tryz.isAgg248
 z32:=Tryz.sizeOf248
 v32:=Tryz.zeroValue248
 t35:=Tryz.underlying292
 a35:=Tryz.isAgg292
 z35:=Tryz.sizeOf292
 v35:=Tryz.zeroValue292
 t36:=Tryz.underlying293
 a36:=Tryz.isAgg293
 z36:=Tryz.sizeOf293
 v36:=Tryz.zeroValue293
 t41:=Tryz.underlying156
 a41:=Tryz.isAgg156
 z41:=Tryz.sizeOf156
 v41:=Tryz.zeroValue156
 t44:=Tryz.underlying254
 a44:=Tryz.isAgg254
 z44:=Tryz.sizeOf254
 v44:=Tryz.zeroValue254
 t46:=Tryz.underlying253
 a46:=Tryz.isAgg253
 z46:=Tryz.sizeOf253
 v46:=Tryz.zeroValue253
 t53:=Tryz.underlying333
 a53:=Tryz.isAgg333
 z53:=Tryz.sizeOf333
 v53:=Tryz.zeroValue333
 t57:=Tryz.underlying337
 a57:=Tryz.isAgg337
 z57:=Tryz.sizeOf337
 v57:=Tryz.zeroValue337
 t63:=Tryz.underlying358
 a63:=Tryz.isAgg358
 z63:=Tryz.sizeOf358
 v63:=Tryz.zeroValue358
 t64:=Tryz.underlying257
 a64:=Tryz.isAgg257
 z64:=Tryz.sizeOf257
 v64:=Tryz.zeroValue257 }
def Tryz.compI65_ren:Go.Shelf.Ren:=⟨fun|43=>129|n=>n,fun|22=>68|23=>3|3=>3|4=>4|0=>0|n=>n,fun|n=>n⟩
theorem Tryz.compI65:Go.Proofs.SlLaysN.n43 Tryz.prog Tryz.compI65_ren:={
 mixed:=zb
 f43:=⟨Tryz.f129.name,zc,Tryz.func129.trans (bX some zb)⟩
 t0:=Tryz.underlying0
 a0:=Tryz.isAgg0
 z0:=Tryz.sizeOf0
 v0:=Tryz.zeroValue0
 t3:=Tryz.underlying3
 a3:=Tryz.isAgg3
 z3:=Tryz.sizeOf3
 v3:=Tryz.zeroValue3
 t4:=Tryz.underlying4
 a4:=Tryz.isAgg4
 z4:=Tryz.sizeOf4
 v4:=Tryz.zeroValue4
 t22:=Tryz.underlying68
 a22:=Tryz.isAgg68
 z22:=Tryz.sizeOf68
 v22:=Tryz.zeroValue68
 t23:=Tryz.underlying3
 a23:=Tryz.isAgg3
 z23:=Tryz.sizeOf3
 v23:=Tryz.zeroValue3
 i23:=by kernel_rfl }
end Go.Proofs
namespace Go.Proofs.YtbbchlpccgkikaaGreatDoor
open Go.Shelf Go.RowKit Go.Lib Go.Sort Dw
theorem mem_compactI(zs:List Int):∀x,x∈Lib.compact zs↔x∈zs:=by
 have key:∀(d:Array Int)(m:Nat),m<=d.size->∀x,x∈compactUpTo d m↔∃j,j<m/\d[j]! = x:=by
  intro d m
  induction m with
  |zero=>intro _ x;simp[compactUpTo]
  |succ m ih =>
   intro hm x;rw[compactUpTo_succ,List.mem_append,ih za]
   constructor
   ·rintro(⟨j,hj,e⟩|h)
    ·exact⟨j,za,e⟩
    ·split at h
     ·exact⟨m,za,(List.mem_singleton.1 h).symm⟩
     ·cases h
   ·rintro⟨j,hj,e⟩
    by_cases hjm:j<m
    ·exact .inl ⟨j,hjm,e⟩
    ·obtain rfl:j=m:=by omega
     cases hk:keeps d j with
     |true=>exact .inr (by rw[aD rfl,e];exact List.mem_singleton.2 rfl)
     |false =>
      unfold keeps at hk;have hk2:=of_decide_eq_false hk;have h0:j≠0:=fun h=>hk2 (.inl h)
      have h1:d[j]! = d[j-1]!:=eR fun h=>hk2 (.inr h)
      exact .inl ⟨j-1,za,by rw[<-h1];exact e⟩
 intro x;unfold Lib.compact;rw[key zs.toArray zs.length zd]
 constructor
 ·rintro⟨j,hj,e⟩
  rw[<-e,getElem!_pos _ _ yg];simp
 ·intro h
  obtain⟨j,hj,e⟩:=dO h;exact⟨j,hj,by rw[getElem!_pos _ _ yg];simpa using e⟩
theorem compact_sorted{zs:List Int}(h:zs.Pairwise (·<=·)):(Lib.compact zs).Pairwise (· < ·):=by
 have hle:∀a b:Nat,a<=b->b<zs.toArray.size->zs.toArray[a]!<=zs.toArray[b]!:=fun a b hab hb=>by
  rw[getElem!_pos _ a za,getElem!_pos _ b hb]
  rcases aQ a b with hlt|hge
  ·simpa using List.pairwise_iff_getElem.1 h a b (by simp at hb;omega) (by simpa using hb) hlt
  ·obtain rfl:a=b:=by omega
   exact Int.le_refl _
 have key:∀m,m<=zs.toArray.size->(compactUpTo zs.toArray m).Pairwise (· < ·)/\∀x∈compactUpTo zs.toArray m,∃j,j<m/\zs.toArray[j]! = x:=fun m=>by
  induction m with
  |zero=>intro _;simp[compactUpTo]
  |succ m ih =>
   intro hm;obtain⟨i1,i2⟩:=ih za;rw[compactUpTo_succ]
   cases hk:keeps zs.toArray m with
   |false =>
    rw[aW zd,bE];exact⟨i1,fun x hx=>by obtain⟨j,hj,e⟩:=i2 x hx;exact⟨j,za,e⟩⟩
   |true =>
    rw[aD rfl];refine⟨List.pairwise_append.2 ⟨i1,zd,fun x hx y hy=>?_⟩,fun x hx=>?_⟩
    ·obtain⟨j,hj,e⟩:=i2 x hx
     rw[List.mem_singleton.1 hy,<-e];unfold keeps at hk;have hk2:=eU hk
     rcases hk2 with h0|hne
     ·omega
     ·have a1:=hle j (m-1) za za
      have a2:=hle (m-1) m za za;omega
    ·rcases List.mem_append.1 hx with hx|hx
     ·obtain⟨j,hj,e⟩:=i2 x hx;exact⟨j,za,e⟩
     ·exact⟨m,za,(List.mem_singleton.1 hx).symm⟩
 exact(key zs.length zd).1
def IntsAt(w:World)(g:Nat)(l:List Int):Prop:=Holds (Value.int .i64) w g 0 l.toArray
theorem own_holds{w:World}{base g cap:Nat}{l:List Int}(h:zAs encI 1 w base 3 (.slice (some ⟨g,0,none⟩) l.length cap) l)(h0:0<l.length):base<=g/\g<w.heap.size/\IntsAt w g l/\l.length<=cap:=by
 obtain⟨hbase,cs,hcs⟩:=zAM h (g:=g) rfl;refine⟨hbase,(Array.getElem?_eq_some_iff.1 hcs).1,fun j hj=>⟨?_,cU w g _ cs _ hcs⟩,?_⟩
 ·obtain⟨bl,hbl⟩:=own_ints h
  obtain⟨e,_,_,hc⟩:=hbl h0
  injection e with e
  injection e with e _ _
  subst e;have hj':j<l.length:=yg;rw[bJ,hc j _ (List.getElem?_eq_getElem hj')];rw[getElem!_pos l.toArray j hj];simp
 ·rcases h.2 with ⟨_,hn⟩|⟨g',cap',cur,hv,_,_,hnc,_⟩
  ·omega
  ·injection hv with _ _ hv
   rw[hv];exact hnc
theorem sortI_c(g cap:Nat)(L:List Int)(base:Nat)(w:World)(hb:base<=g)(hg:g<w.heap.size)(hH:IntsAt w g L)(hl:L.length<=1000000): Calls Tryz.prog 128 #[.slice (some ⟨g,0,none⟩) L.length cap] w fun e w'=>e=.returned (.tuple #[])/\∃L':List Int,L'.length=L.length/\L'.Pairwise (·<=·)/\(∀x,x∈L'↔x∈L)/\IntsAt w' g L'/\g<w'.heap.size/\Below base w w':=by
 have hS:=AnyM.slices_Sort_int Tryz.sortI64 g 0 cap L w hH hg za;change Calls Tryz.prog 128 _ _ _ at hS;refine hS.mono fun e w' ⟨he,n,os,hw⟩=>⟨he,L.mergeSort fun x y=>decide (x<=y),zd,?_,fun x=>zd,?_,?_,?_⟩
 ·have h1:=List.pairwise_mergeSort (le:=fun x y:Int=>decide (x<=y)) (fun a b c h k=>by simp only[bG]at *;exact Int.le_trans h k) (fun a b=>by simp only[Bool.or_eq_true,bG];exact Int.le_total a b) L
  exact h1.imp fun h=>eU h
 ·have hh:=holds_sortWorld (Value.int .i64) w g 0 n L.toArray (L.mergeSort fun x y=>decide (x<=y)).toArray os hg hH zd
  rw[show w'=sortWorld (Value.int .i64) w g 0 n (L.mergeSort fun x y=>decide (x<=y)).toArray os from hw];exact hh
 ·rw[show w'=sortWorld (Value.int .i64) w g 0 n (L.mergeSort fun x y=>decide (x<=y)).toArray os from hw]
  exact lt_sortWorld _ _ _ _ _ _ _ hg
 ·rw[hw];exact below_putRow _ _ _ _ hb hg
theorem compI_c(g cap:Nat)(L:List Int)(base:Nat)(w:World)(hb:base<=g)(hg:g<w.heap.size)(hH:IntsAt w g L)(hl:L.length<=1000000)(hc:L.length<=cap): Calls Tryz.prog 129 #[.slice (some ⟨g,0,none⟩) L.length cap] w fun e w'=>∃L':List Int,e=.returned (.slice (some ⟨g,0,none⟩) L'.length cap)/\L'.length<=L.length/\(L.Pairwise (·<=·)->L'.Pairwise (· < ·))/\(∀x,x∈L'↔x∈L)/\(∀j (h:j<L'.length),w'.cell? ⟨g,j,none⟩=some (.int .i64 L'[j]))/\Below base w w':=by
 have hS:=AnyG.slices_Compact_int Tryz.compI65 g 0 cap L w hH za hc;change Calls Tryz.prog 129 _ _ _ at hS;have hle:(Lib.compact L).length<=L.length:=by unfold Lib.compact compactUpTo;rw[dE];exact dC (dR _ _) zd
 refine hS.mono fun e w' ⟨he,q,hw⟩=>⟨Lib.compact L,he,hle,compact_sorted,mem_compactI L,?_,?_⟩
 ·have hh:=holds_putRow (Value.int .i64) _ g 0 L.toArray (Lib.compact L++List.replicate (L.length-(Lib.compact L).length) 0).toArray (holds_ahead (Value.int .i64) w q g 0 L.toArray hH) ze
  rw[<-hw]at hh;intro j hj;have hj2:j<(Lib.compact L++List.replicate (L.length-(Lib.compact L).length) 0).toArray.size:=ze;have:=(hh j hj2).1;rw[bJ]at this;rw[this];rw[getElem!_pos _ j hj2];simp only[eM];rw[eY hj]
 ·have:=below_putRow (Value.int .i64) q (Lib.compact L++List.replicate (L.length-(Lib.compact L).length) 0).toArray #[] hb hg
  rw[grow_empty,<-hw]at this;exact this
end Go.Proofs.YtbbchlpccgkikaaGreatDoor
