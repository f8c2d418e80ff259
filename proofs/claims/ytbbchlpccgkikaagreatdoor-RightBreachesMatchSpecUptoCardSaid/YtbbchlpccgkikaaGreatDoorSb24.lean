/- Parts of the proof, joined: Package right: open, and Runs. Package right: a ledger's valid. Packag. -/
import Derived.Test.YtbbchlpccgkikaaGreatDoorSb22
import Derived.Test.YtbbchlpccgkikaaGreatDoorSb23
import Derived.Test.YtbbchlpccgkikaaGreatDoorSb16
import Derived.Ground.SlgmProg
import Derived.Shelf.SortM.Plain
import Derived.Shelf.SortM.SortNone
import Derived.Shelf.SlGeneric
import Derived.Deep.Upon
import Derived.Ground.SlgnProg
import Derived.Shelf.SlicesG.CompactI
set_option maxRecDepth 100000
set_option maxHeartbeats 8000000
namespace Go.Proofs.YtbbchlpccgkikaaGreatDoor
open Go.RowKit Dw
def openF(V:List Rg)(us:List BA)(U:List De)(ns:List BA):Int:=if zBY V us U≠0 then zBY V us U else if ns.all zBw=true then 0 else 5
def GivesOp(f:Int)(RA:OA)(rc:Nat)(V:List Rg)(UA:OA)(O:Nat)(us:List BA)(DA:OA)(dc:Nat)(U:List De)(w:World)(e:Ending)(w':World):Prop:=
 ∃P,e=.returned (.tuple #[.pointer P,.int .i64 f])/\Below w.heap.size w w'/\(f≠0->P=none)/\(f=0->∃L,P=some ⟨L,0,none⟩/\LgIs RA rc V UA O us DA dc U w' L)
def OpR(w:World)(T:Array Value)(ns:List BA)(m:Nat)(i:Value)(wr:World):Prop:=
 Below w.heap.size w wr/\Bx wr w.heap.size T 26/\∃j,j+m=ns.length/\i=.int .i64 (j:Nat)/\∀q (hq:q<ns.length),q<j->zBw ns[q]=true
theorem open_c(RA:OA)(rc:Nat)(V:List Rg)(UA:OA)(O:Nat)(us:List BA)(DA:OA)(dc:Nat)(U:List De)(NA:OA)(nc:Nat)(ns:List BA)(w:World)(hr:Rgs w RA V)(hu:Strs w UA us)(hd:Des w DA U)(hz:∀i (h:i<V.length),(V[i]).nm.size<=9223372036854775807)(hz2:∀i (h:i<us.length),(us[i]).size<=9223372036854775807)(J:Strs w NA ns)(hnz:∀i (h:i<ns.length),(ns[i]).size<=9223372036854775807)(hnl:ns.length<=10)(hdc:U.length<=dc): Calls Tryz.prog 31 #[.agg (tiC RA rc V UA O us DA dc U),.slice NA ns.length nc] w (GivesOp (openF V us U ns) RA rc V UA O us DA dc U w):=by
 generalize C:openF V us U ns=res;have HR:=zq C;clear C;have HX:Hid (Bx (w.alloc (.cells (tiC RA rc V UA O us DA dc U) 26)) w.heap.size (tiC RA rc V UA O us DA dc U) 26):=Bx.new _ _ _;have HB:Hid (Below w.heap.size w (w.alloc (.cells (tiC RA rc V UA O us DA dc U) 26))):=(aR _ _).alloc (aK _) _;obtain⟨W,hW⟩:∃W,W=w.alloc (.cells (tiC RA rc V UA O us DA dc U) 26):=⟨_,rfl⟩;rw[<-hW]at HX HB;have HCK:=zq (CheckT_c RA rc V UA O us DA dc U W (hr.below HB.o) (hu.below HB.o) (hd.below HB.o) hz hz2);have HDw:=zq hd;have HRw:=zq hr;have HNw:=zq J;have HNZ:=zq hnz;clear hr hu hd J hnz
 go_enter Tryz.func31,Tryz.ntmps31;(go_upto_region 1 with fail);rw[<-hW];clear hW;(iterate 2 go_step);refine fG _ _ zk w.heap.size 0 zk (tiC RA rc V UA O us DA dc U).toList _ (zBt HX.o) Tryz.underlying26 rfl zc ?_;(go_wp2_with fail);(with_reducible refine HCK.o.mono ?_);rintro e w1⟨rfl,hb1⟩;have HB1:=zq (zAa HB.o hb1);have X:=zq (HX.o.below hb1);clear hb1 HCK HX HB
 by_cases hc:zBY V us U=0
 case neg =>
  have hcb:(zBY V us U != 0)=true:=by simpa using hc
  have HS:Hid (res=zBY V us U):=by show _=_;rw[<-HR.o];unfold openF;rw[aF hc]
  have HN0:Hid (res≠0):=by show _≠_;rw[HS.o];exact hc
  clear hc;go_wp2;go_ret2
  exact⟨none,qf,HB1.o,fun _=>rfl,fun h=>absurd h HN0.o⟩
 have HC:=zq hc;rw[hc];clear hc;obtain⟨hcr,_,hdl⟩:=zBd HC.o;have HGR:=zq (zCi hcr)
 have HR2:Hid ((if ns.all zBw=true then (0:Int) else 5)=res):=by
  show _=_
  rw[<-HR.o];unfold openF;rw[aO (show ¬(zBY V us U≠0) by rw[HC.o];simp)]
 clear HR hcr;go_wp2
 go_loopg[16] ns.length (OpR w (tiC RA rc V UA O us DA dc U) ns)
 case atStart=>exact⟨HB1.o,X.o,0,za,rfl,fun q _ hq=>absurd hq za⟩
 clear HB1 X
 case round =>
  obtain⟨I,hx,j,hjm,rfl,hpre⟩:=hrel;have HB:=zq I;have HX:=zq hx;have HJM:=zq hjm;have HP:=zq hpre;have hjk:j<=ns.length:=za;clear I hx hjm hpre
  by_cases hlj:j<ns.length
  ·obtain⟨b,o,hA,hb0,hc0⟩:=HNw.o.at_ za
   subst hA;obtain⟨nj,hnj⟩:∃nj,ns[j]=nj:=⟨_,rfl⟩;have hp:=hc0 j hlj;have hz0:=HNZ.o j hlj;rw[hnj]at hp hz0;have p0:wr.cell? ⟨b,o+j,none⟩=some (Value.string nj):=(HB.o.cell (p:=⟨b,o+j,none⟩) hb0).trans hp;have HNJ:=zq hnj;clear hp hc0 hnj;(go_wp2_with fail);(with_reducible refine(zCe nj _ hz0).mono ?_);rintro e w2⟨rfl,D⟩;have HB2:=zq (zAa HB.o D);have HX2:=zq (HX.o.below D);clear D p0 HB HX
   cases hin:zBw nj with
   |false =>
    have HS:Hid (res=5):=by
     show _=_
     rw[<-HR2.o,aO fun h=>?_];have:=List.all_eq_true.1 h nj (by rw[<-HNJ.o];exact aH hlj);rw[hin]at this;cases this
    clear hin;go_wp2;go_ret2
    exact⟨none,qf,HB2.o,fun _=>rfl,fun h=>absurd (HS.o.symm.trans h) zd⟩
   |true =>
    have HIN:=zq hin;clear hin;go_wp2
    go_roundg (gk-1)
    case measure=>have:=HJM.o;omega
    case rel =>
     refine⟨HB2.o,HX2.o,j+1,yw,zi,fun q hq h=>?_⟩
     rcases aI q j with h9|h9
     ·exact HP.o q hq h9
     ·obtain rfl:q=j:=by omega
      rw[HNJ.o];exact HIN.o
  ·have HS:Hid (res=0):=by
    show _=_
    rw[<-HR2.o,aF (List.all_eq_true.2 fun x hx=>?_)];obtain⟨i,hi,rfl⟩:=bD hx;exact HP.o i hi za
   have x2:wr.cell? ⟨w.heap.size,2,none⟩=some (Value.slice DA U.length dc):=HX.o.c 2 rfl;have hsx:=HX.o.lt;have HNL:=zq (newLedger_c RA rc V UA O us DA dc U U.length wr HGR.o (chkT_kind HC.o) (HRw.o.below HB.o) (HDw.o.below HB.o) (aK _) hdc hdl);(go_upto_region 10 with fail);(iterate 2 go_step);refine fG _ _ zk w.heap.size 0 zk (tiC RA rc V UA O us DA dc U).toList _ (zBt HX.o) Tryz.underlying26 rfl zc ?_;(go_wp2_with fail);(with_reducible refine HNL.o.mono ?_);rintro e w2⟨L,rfl,hlg,D⟩;have HLG:=zq hlg;have HB2:=zq (zAa HB.o D);clear D hlg x2 hsx HNL;go_wp2;go_ret2
   exact⟨some ⟨L,0,none⟩,qf,HB2.o,fun h=>absurd HS.o h,fun _=>⟨L,rfl,by have:=HLG.o;rwa [aN]at this⟩⟩
theorem run_at{U:List De}{base:Nat}{w:World}{vr:Value}(h:zAv eRun 2 w base 173 vr (U.map (zBj U))){j:Nat}(hj:j<U.length):∃b o c,vr=.slice (some ⟨b,o,none⟩) U.length c/\w.cell? ⟨b,o+j*2,none⟩=some (.int .i64 (zBj U U[j]).1)/\w.cell? ⟨b,o+j*2+1,none⟩=some (.int .i64 (zBj U U[j]).2):=by
 obtain⟨A,c,rfl,hr⟩:=h.rdk;obtain⟨b,o,rfl,hc⟩:=hr (by rw[bZ];omega);have h0:=flat_at (enc:=eRun) (k:=2) (fun _=>rfl) (U.map (zBj U)) j (by rw[bZ];exact hj) 0 za;have h1:=flat_at (enc:=eRun) (k:=2) (fun _=>rfl) (U.map (zBj U)) j (by rw[bZ];exact hj) 1 za;rw[cA]at h0 h1;refine⟨b,o,c,by rw[bZ],hc _ _ h0,?_⟩
 rw[Nat.add_assoc];exact hc _ _ h1
abbrev zDN(n:Nat)(S:BA)(day:Int):Array Value:=#[.int .i64 (n:Int),.string S,.int .i64 day]
theorem zAe{w w':World}{a:Addr}{v:Value}(I:Below w.heap.size w w')(h:w.cell? a=some v):w'.cell? a=some v:=by
 rw[I.cell (block_lt_of_cell h)];exact h
theorem in_at{U:List De}{V:List Rg}{base:Nat}{w:World}{vi:Value}{ins:List (Value×List Bool)}(h:zAv eIn 1 w base 108 vi ins)(h5:ins.map Prod.snd=U.map (insM V))(h6:∀x∈ins,InS w x.1 x.2){j:Nat}(hj:j<U.length): ∃b o c x,vi=.slice (some ⟨b,o,none⟩) U.length c/\w.cell? ⟨b,o+j,none⟩=some x/\InS w x (insM V U[j]):=by
 have hl:ins.length=U.length:=by have:=bE List.length h5;simpa using this
 obtain⟨A,c,rfl,hr⟩:=h.rdk;obtain⟨b,o,rfl,hc⟩:=hr za;have h0:=flat_at (enc:=eIn) (k:=1) (fun _=>rfl) ins j za 0 za
 have h1:(ins[j]'(by omega)).2=insM V U[j]:=by
  have e:(ins.map Prod.snd)[j]?=(U.map (insM V))[j]?:=by rw[h5]
  rw[List.getElem?_map,List.getElem?_map,List.getElem?_eq_getElem za,List.getElem?_eq_getElem hj]at e
  simpa using e
 refine⟨b,o,c,(ins[j]'(by omega)).1,by rw[hl],?_,?_⟩
 ·refine hc _ _ ?_
  rw[dK,dT]at h0;rw[h0];rfl
 ·rw[<-h1]
  exact h6 _ (aH _)
theorem set_at{V:List Rg}{d:De}{w:World}{x:Value}{n i:Nat}(hg:zAg d.kd=true)(h:InS w x (insM V d))(J:(zAh V)[n]?=some i):∃go c,x=.slice (some ⟨go,0,none⟩) (inL V d.ar).length c/\n<(inL V d.ar).length/\go<w.heap.size/\w.cell? ⟨go,n,none⟩=some (.bool (zCE V d.ar i)):=by
 have hm:insM V d=true::inL V d.ar:=by unfold insM;rw[aF hg]
 rw[hm]at h;obtain⟨hn1,hn2⟩:=List.getElem?_eq_some_iff.1 J;have hl:n<(inL V d.ar).length:=by unfold inL;rw[bZ];exact hn1
 rcases h with ⟨_,h⟩|⟨go,c,N,h,rfl,hh⟩
 ·cases h
 ·obtain rfl:inL V d.ar=N:=(List.cons.inj h).2
  refine⟨go,c,rfl,hl,zAj hh,?_⟩
  rw[bK _ go n _ _ _ hh,zDA _ _ hl];have e:(inL V d.ar)[n]?=some (zCE V d.ar i):=by unfold inL;rw[List.getElem?_map,J];rfl
  rw[(List.getElem?_eq_some_iff.1 e).2];simp[hl]
theorem runP_gives{U:List De}{d:De}{day:Int}(h1:(zBj U d).1<=day)(h2:day<(zBj U d).2):zAg d.kd=true:=by
 cases hg:zAg d.kd with
 |true=>rfl
 |false =>
  exfalso;unfold zBj at h1 h2;rw[aO (by rw[hg];simp)]at h1 h2;simp at h1 h2
  omega
theorem valid_c(RA:OA)(rc:Nat)(V:List Rg)(UA:OA)(O:Nat)(us:List BA)(DA:OA)(dc:Nat)(U:List De)(L k n i:Nat)(S:BA)(day:Int)(w:World)(hl:LgIs RA rc V UA O us DA dc U w L)(hd:Des w DA U)(hk:k<U.length)(J:(zAh V)[n]?=some i)(hul:(U[k]).us.length<=1000000): Calls Tryz.prog 108 #[.pointer (some ⟨L,0,none⟩),.int .i64 (k:Int),.agg (zDN n S day)] w (zAf (.bool (vB V U i S day U[k])) w):=by
 obtain⟨b,o,rfl,hb0,hc0⟩:=hd za;obtain⟨N,hok⟩:=hc0 k hk;obtain⟨d,T⟩:∃d,U[k]=d:=⟨_,rfl⟩;obtain⟨r1,r2,g1,g2,AL,cL,vr,vi,ins,base,hlx,_,hrn,hin,hin2,hin3⟩:=hl;obtain⟨rb,ro,rcap,hvr,c0,c1⟩:=run_at hrn hk;obtain⟨ib,io,icap,x,hvi,ci,hix⟩:=in_at hin hin2 hin3 hk;subst hvr hvi;rw[T]at N hok c0 c1 hix hul ⊢;generalize C:vB V U i S day d=res;have HR:=zq C;have HOK:=zq hok;have HIX:=zq hix;have HLX:=zq hlx;have hbw:Below w.heap.size w (w.alloc (.cells (zDN n S day) 90)):=(aR _ _).alloc (aK _) _;have HX:Hid (Bx (w.alloc (.cells (zDN n S day) 90)) w.heap.size (zDN n S day) 90):=Bx.new _ _ _;obtain⟨W,hW⟩:∃W,W=w.alloc (.cells (zDN n S day) 90):=⟨_,rfl⟩;rw[<-hW]at HX hbw;have HB:=zq hbw;have k0:W.cell? ⟨rb,ro+k*2,none⟩=some (.int .i64 (zBj U d).1):=zAe hbw c0;have k1:W.cell? ⟨rb,ro+k*2+1,none⟩=some (.int .i64 (zBj U d).2):=zAe hbw c1;have HCI:Hid (W.cell? ⟨ib,io+k,none⟩=some x):=zAe hbw ci;have HRG:Hid (W.rangeAt b (o+k*16) (deC d).toList):=fun j v hv=>zAe hbw (N j v hv)
 clear C hok hix hlx hbw hrn hin hin2 hin3 c0 c1 ci N hc0 T
 have HRR:Hid (W.rangeAt rb (ro+k*2) [.int .i64 (zBj U d).1,.int .i64 (zBj U d).2]):=fun j v hv=>by
  match j,hv with
  |0,hv=>injection hv with hv;subst hv;exact k0
  |1,hv=>injection hv with hv;subst hv;exact k1
 clear k0 k1
 go_enter Tryz.func108,Tryz.ntmps108;(go_upto_region 1 with fail);rw[<-hW];clear hW;have HLW:=zq (HLX.o.below HB.o);have l9:=HLW.o.c 9 rfl;have hsl:=HLW.o.lt;(iterate 20 go_step);refine fG _ _ zk rb (ro+k*2) zk [.int .i64 (zBj U d).1,.int .i64 (zBj U d).2] _ HRR.o Tryz.underlying173 rfl zc ?_;clear l9 hsl;(go_upto_region 2 with fail);obtain⟨W2,hW2⟩:∃W2,W2=W.alloc (.cells (spC (zBj U d)) 173):=⟨_,rfl⟩;rw[<-hW2];have D:Below W.heap.size W W2:=by rw[hW2];exact(aR _ _).alloc (aK _) _
 have HS:Hid (Bx W2 W.heap.size (spC (zBj U d)) 173):=by show Bx _ _ _ _;rw[hW2];exact Bx.new _ _ _
 have HBW:=zq (zAa HB.o D);have HX2:=zq (HX.o.below D);have HL2:=zq (HLW.o.below D);have CI2:=zq (zAe D HCI.o);have RG2:Hid (W2.rangeAt b (o+k*16) (deC d).toList):=fun j v hv=>zAe D (HRG.o j v hv)
 clear hW2 D HX HLW HCI HRG HRR;obtain⟨x0,x1,x2⟩:=HX2.o.t;have s0:=HS.o.c 0 rfl;have s1:=HS.o.c 1 rfl;have hsx:=HX2.o.lt;have hss:=HS.o.lt
 by_cases h1:(zBj U d).1<=day
 ·have e1:decide ((zBj U d).1<=day)=true:=aD h1
  by_cases h2:day<(zBj U d).2
  ·have e2:decide (day<(zBj U d).2)=true:=aD h2
   have hgv:=runP_gives h1 h2;obtain⟨go,cg,rfl,Y,hgw,hcell⟩:=set_at hgv HIX.o J;have q0:W2.cell? ⟨go,n,none⟩=some (.bool (zCE V d.ar i)):=zAe HBW.o hcell;have q1:=CI2.out;have l10:=HL2.o.c 10 rfl;have hsl:=HL2.o.lt;have HR2:Hid ((zCE V d.ar i&&zCU d.us S)=res):=qi;have hnn:decide (n<(inL V d.ar).length)=true:=aD Y;clear h1 h2 hgv hcell HR CI2 HIX
   cases hli:zCE V d.ar i with
   |false =>
    rw[hli]at q0;have HV:Hid (res=false):=by show _=_;rw[<-HR2.o,hli];rfl
    clear hli HR2;exact ted
   |true =>
    rw[hli]at q0;have HV:Hid (res=zCU d.us S):=by show _=_;rw[<-HR2.o,hli];rfl
    have l2:=HL2.o.c 2 rfl;have d11:=RG2.out 11 _ rfl
    have hcon:∀m,Calls Tryz.prog 12 #[.slice d.usA d.us.length d.usc,.string S] (W2.drewN m) fun e w'=>e=.returned (.bool res)/\w'=W2.drewN m:=fun m =>
     (containsS_c d.usA d.usc d.us S (W2.drewN m) hul (HOK.o.uses.below (zAb HBW.o m))).mono fun e w' ⟨h1,h2⟩=>⟨by rw[h1,HV.o],h2.symm⟩
    have HCON:=zq hcon;clear hli HR2 hcon;go_quiet((go_at_call 12;exact Calls.quiet_of_same (HCON.o _)))
    go_wp2;go_ret
    exact zAf.mk rfl (zAb HBW.o _)
  ·have e2:decide (day<(zBj U d).2)=false:=aE h2
   have HV:Hid (res=false):=qi;clear h1 h2;exact ted
 ·have e1:decide ((zBj U d).1<=day)=false:=aE h1
  have HV:Hid (res=false):=by show _=_;rw[<-HR.o];unfold vB;rw[e1];rfl
  clear h1;exact ted
theorem moves_c(RA:OA)(rc:Nat)(V:List Rg)(UA:OA)(O:Nat)(us:List BA)(DA:OA)(dc:Nat)(U:List De)(L k n i:Nat)(S:BA)(day:Int)(th:BA)(w:World)(hl:LgIs RA rc V UA O us DA dc U w L)(hd:Des w DA U)(hk:k<U.length)(J:(zAh V)[n]?=some i)(hul:(U[k]).us.length<=1000000): Calls Tryz.prog 81 #[.pointer (some ⟨L,0,none⟩),.int .i64 (k:Int),.string th,.agg (zDN n S day)] w (zAf (.bool (zCZ V U i th S day U[k])) w):=by
 have hbw:Below w.heap.size w (w.alloc (.cells (zDN n S day) 90)):=(aR _ _).alloc (aK _) _;have HX:Hid (Bx (w.alloc (.cells (zDN n S day) 90)) w.heap.size (zDN n S day) 90):=Bx.new _ _ _;obtain⟨W,hW⟩:∃W,W=w.alloc (.cells (zDN n S day) 90):=⟨_,rfl⟩;rw[<-hW]at HX hbw;have HB:=zq hbw;obtain⟨b,o,rfl,hb0,hc0⟩:=(hd.below hbw) za;have hlW:=hl.below hbw;have HVAL:=zq (fun(u:World)(hu:Below W.heap.size W u)=>valid_c RA rc V UA O us (some ⟨b,o,none⟩) dc U L k n i S day u (hlW.below hu) ((hd.below hbw).below hu) hk J hul);obtain⟨d,T⟩:∃d,U[k]=d:=⟨_,rfl⟩;have N:=(hc0 k hk).1;rw[T]at N HVAL ⊢;generalize C:zCZ V U i th S day d=res;have HR:=zq C;obtain⟨r1,r2,g1,g2,AL,cL,vr,vi,ins,base,hlx,_⟩:=hlW;have l2:=hlx.c 2 rfl;have hsl:=hlx.lt;clear hl hd hbw hc0 T C hlx hul
 go_enter Tryz.func81,Tryz.ntmps81;(go_upto_region 1 with fail);rw[<-hW];clear hW;(iterate 23 go_step);refine fG _ _ zk b (o+k*16) zk (deC d).toList _ N Tryz.underlying126 rfl zc ?_;clear N;(go_upto_region 2 with fail);obtain⟨wd,hwd⟩:∃wd,wd=W.alloc (.cells (deC d) 126):=⟨_,rfl⟩;rw[<-hwd];have hbd:Below W.heap.size W wd:=zm;have m:Hid (Bx wd W.heap.size (deC d) 126):=zo;have HXD:=zq (HX.o.below hbd);have HBD:=zq hbd;clear hwd hbd l2 hsl HX;have d2:=m.o.c 2 rfl;have d3:=m.o.c 3 rfl;have d12:=m.o.c 12 rfl;have hsd:=m.o.lt;obtain⟨x0,x1,x2⟩:=HXD.o.t;have hsx:=HXD.o.lt
 by_cases hq:d.kd=2
 ·have e1:(d.kd == 2)=true:=by simpa using hq
  by_cases ht:d.th=th
  ·have q1:=zAn ht
   have HE:Hid (res=vB V U i S day d):=by show _=_;rw[<-HR.o];unfold zCZ;rw[aF hq,aD ht,eL]
   clear hq ht;(go_wp2_with fail);(with_reducible refine(HVAL.o _ HBD.o).mono ?_);rintro e w3⟨rfl,hb3⟩;have HB3:=zq (zAa HB.o (zAa HBD.o hb3));clear hb3;go_wp2;go_ret
   exact zAf.mk (by rw[HE.o];rfl) HB3.o
  ·have q1:=zAp ht
   have HE:Hid (res=false):=by show _=_;rw[<-HR.o];unfold zCZ;rw[aF hq,aE ht,eK]
   clear hq ht;go_wp2;go_ret
   exact zAf.mk (by rw[HE.o];rfl) (zAa HB.o HBD.o)
 ·have e1:(d.kd == 2)=false:=by simpa using hq
  by_cases h5:d.kd=5
  ·have e2:(d.kd == 5)=true:=by simpa using h5
   have HE:Hid (res=decide (d.bg<=day)):=by show _=_;rw[<-HR.o];unfold zCZ;rw[aO hq,aF h5]
   exact td6
  ·have e2:(d.kd == 5)=false:=by simpa using h5
   have HE:Hid (res=false):=by show _=_;rw[<-HR.o];unfold zCZ;rw[aO hq,aO h5]
   exact td6
end Go.Proofs.YtbbchlpccgkikaaGreatDoor
namespace Go.Proofs.YtbbchlpccgkikaaGreatDoor
open Dw
theorem longF_zero(V:List Rg)(U:List De)(i:Nat)(th S:BA)(day:Int):longF V U i th S day 0=false:=rfl
theorem longF_succ(V:List Rg)(U:List De)(i:Nat)(th S:BA)(day:Int)(n:Nat):longF V U i th S day (n+1)=(longF V U i th S day n || anyLong (zBk V U i th S day (n+1)) (zAs V U i th S day (n+1))):=by
 unfold longF;rw[eF,bS];simp
theorem keysF_take{V:List Rg}{U:List De}{i:Nat}{th S:BA}{day:Int}{n:Nat}(J:n<U.length)(hm:zCZ V U i th S day U[n]=true): zAs V U i th S day (n+1)=zCO U[n] (zAs V U i th S day n)/\zBk V U i th S day (n+1)=zAz U[n] (zBk V U i th S day n):=by
 obtain⟨e1,e2⟩:=zEj V i th S day J;rw[e1,e2];unfold zDz zAW;rw[hm];exact⟨rfl,rfl⟩
theorem take_ask{V:List Rg}{us:List BA}{U:List De}(h:zBY V us U=0){i:Nat}{th S:BA}{day:Int}{n:Nat}(J:n<U.length)(hm:zCZ V U i th S day U[n]=true): ∃M,HoldB (zAz U[n] (zBk V U i th S day n)) M (zAs V U i th S day n)/\SzN 90000000 (M*growD U[n])/\U[n].sh.length<=20:=by
 obtain⟨M,h1,h2⟩:=zEk h i th S day n za;have hd:=aH J;obtain⟨k1,_,_⟩:=zCa h i th S day n;have hl:(U[n]).sh.length<=20:=(zDQ ((zAP h).2 n J) (zAP h).1).2.2;have hz:=zBd h;generalize U[n]=d at *;obtain⟨m1,_⟩:=zCv d (K:=zBk V U i th S day n);refine⟨M,h1.more (zCT d k1).nodup m1,?_,hl⟩
 have h3:=growD_lt (zBQ h d hd) hl (movB_kd hm);have h4:M*growD d<10^(40001*(n+1)+40001):=by rw[dV];exact Nat.mul_lt_mul'' h2 h3
 exact(szN_of h4).le (by have:=hz.2.2;omega)
theorem parts_sz{V:List Rg}{us:List BA}{U:List De}(h:zBY V us U=0)(i:Nat)(th S:BA)(day:Int)(n:Nat)(J:n<=U.length)(p:BA):SzQ 10000000 (zAs V U i th S day n p):=by
 obtain⟨M,h1,h2⟩:=zEk h i th S day n J;have hz:=zBd h;exact h1.sz ((szN_of h2).le (by have:=hz.2.2;omega)) p
open Go.RowKit Dw
def GivesPt(bad:Bool)(f:zBq)(w:World)(e:Ending)(w':World):Prop:=
 Below w.heap.size w w'/\(bad=true->e=.returned (.tuple #[.map none,.int .i64 2]))/\(bad=false->∃g,e=.returned (.tuple #[.map (some g),.int .i64 0])/\zAI w' g f)
def PtR(W:World)(g:Nat)(th:BA)(day:Int)(U:List De)(m:Nat)(iv:Value)(wr:World):Prop:=
 ∃k:Nat,k+m=U.length/\iv=.int .i64 (k:Int)/\zAI wr g ((U.take k).foldl (orgF th day) (fun _=>0))/\Below W.heap.size W wr
def PtR1(W:World)(g:Nat)(F:zBq)(l:List Sh)(m:Nat)(iv:Value)(wr:World):Prop:=
 ∃j:Nat,j+m=l.length/\iv=.int .i64 (j:Int)/\zAI wr g (zAl (l.take j) F)/\W.grownBy wr (some g)
theorem fold_succ(th:BA)(day:Int)(f:zBq){U:List De}{k:Nat}(hk:k<U.length):(U.take (k+1)).foldl (orgF th day) f=orgF th day ((U.take k).foldl (orgF th day) f) U[k]:=by
 rw[take_snoc hk,bQ];rfl
theorem putAll_succ(F:zBq){l:List Sh}{j:Nat}(h:j<l.length):zAl (l.take (j+1)) F=upH (zAl (l.take j) F) l[j].pt (shQ l[j]):=by
 unfold zAl;exact tfe
end Go.Proofs.YtbbchlpccgkikaaGreatDoor
namespace Go.Proofs
open Go.Shelf
def Tryz.sortS80_ren:Go.Shelf.Ren:=⟨fun|6=>105|8=>159|9=>168|19=>217|20=>218|21=>226|22=>227|23=>228|24=>229|25=>230|26=>231|27=>232|28=>233|29=>234|36=>280|31=>273|32=>274|37=>281|38=>282|39=>160|41=>306|n=>n,fun|27=>23|29=>9|3=>3|32=>248|26=>23|0=>0|44=>254|46=>253|4=>4|36=>293|35=>292|41=>156|5=>5|9=>9|53=>333|57=>337|63=>358|64=>257|n=>n,fun|n=>n⟩
theorem Tryz.sortS80:Go.Proofs.SlLaysM.n6 Tryz.prog Tryz.sortS80_ren:={
 mixed:=zc
 f6:=⟨Tryz.f105.name,zd,Tryz.func105.trans (bE some zc)⟩
 f8:=Tryz.func159.trans (bE some zc)
 f9:=⟨Tryz.f168.name,zd,Tryz.func168.trans (bE some zc)⟩
 f19:=Tryz.func217.trans (bE some zc)
 f20:=Tryz.func218.trans (bE some zc)
 f21:=⟨Tryz.f226.name,zd,Tryz.func226.trans (bE some zc)⟩
 f22:=⟨Tryz.f227.name,zd,Tryz.func227.trans (bE some zc)⟩
 f23:=⟨Tryz.f228.name,zd,Tryz.func228.trans (bE some zc)⟩
 f24:=⟨Tryz.f229.name,zd,Tryz.func229.trans (bE some zc)⟩
 f25:=⟨Tryz.f230.name,zd,Tryz.func230.trans (bE some zc)⟩
 f26:=⟨Tryz.f231.name,zd,Tryz.func231.trans (bE some zc)⟩
 f27:=⟨Tryz.f232.name,zd,Tryz.func232.trans (bE some zc)⟩
 f28:=⟨Tryz.f233.name,zd,Tryz.func233.trans (bE some zc)⟩
 f29:=⟨Tryz.f234.name,zd,Tryz.func234.trans (bE some zc)⟩
 f31:=Tryz.func273.trans (bE some zc)
 f32:=Tryz.func274.trans (bE some zc)
 f36:=⟨Tryz.f280.name,zd,Tryz.func280.trans (bE some zc)⟩
 f37:=⟨Tryz.f281.name,zd,Tryz.func281.trans (bE some zc)⟩
 f38:=⟨Tryz.f282.name,zd,Tryz.func282.trans (bE some zc)⟩
 f39:=⟨Tryz.f160.name,zd,Tryz.func160.trans (bE some zc)⟩
 f41:=⟨Tryz.f306.name,zd,Tryz.func306.trans (bE some zc)⟩
 t0:=Tryz.underlying0
 a0:=Tryz.isAgg0
 z0:=Tryz.sizeOf0
 v0:=Tryz.zeroValue0
 t3:=Tryz.underlying3
 a3:=Tryz.isAgg3
 z3:=Tryz.sizeOf3
 v3:=Tryz.zeroValue3
 t4:=Tryz.underlying4
 a4:=Tryz.isAgg4
 z4:=Tryz.sizeOf4
 v4:=Tryz.zeroValue4
 t5:=Tryz.underlying5
 a5:=Tryz.isAgg5
 z5:=Tryz.sizeOf5
 v5:=Tryz.zeroValue5
 t9:=Tryz.underlying9
 a9:=Tryz.isAgg9
 z9:=Tryz.sizeOf9
 v9:=Tryz.zeroValue9
 t26:=Tryz.underlying23
 a26:=Tryz.isAgg23
 z26:=Tryz.sizeOf23
 v26:=Tryz.zeroValue23
 t27:=Tryz.underlying23
 a27:=Tryz.isAgg23
 z27:=Tryz.sizeOf23
 v27:=Tryz.zeroValue23
 t29:=Tryz.underlying9
 a29:=Tryz.isAgg9
 z29:=Tryz.sizeOf9
 v29:=Tryz.zeroValue9
 t32:=Tryz.underlying248
 a32:=Tryz.isAgg248
 z32:=Tryz.sizeOf248
 v32:=Tryz.zeroValue248
 t35:=Tryz.underlying292
 a35:=Tryz.isAgg292
 z35:=Tryz.sizeOf292
 v35:=Tryz.zeroValue292
 t36:=Tryz.underlying293
 a36:=Tryz.isAgg293
 z36:=Tryz.sizeOf293
 v36:=Tryz.zeroValue293
 t41:=Tryz.underlying156
 a41:=Tryz.isAgg156
 z41:=Tryz.sizeOf156
 v41:=Tryz.zeroValue156
 t44:=Tryz.underlying254
 a44:=Tryz.isAgg254
 z44:=Tryz.sizeOf254
 v44:=Tryz.zeroValue254
 t46:=Tryz.underlying253
 a46:=Tryz.isAgg253
 z46:=Tryz.sizeOf253
 v46:=Tryz.zeroValue253
 t53:=Tryz.underlying333
 a53:=Tryz.isAgg333
 z53:=Tryz.sizeOf333
 v53:=Tryz.zeroValue333
 t57:=Tryz.underlying337
 a57:=Tryz.isAgg337
 z57:=Tryz.sizeOf337
 v57:=Tryz.zeroValue337
 t63:=Tryz.underlying358
 a63:=Tryz.isAgg358
 z63:=Tryz.sizeOf358
 v63:=Tryz.zeroValue358
 t64:=Tryz.underlying257
 a64:=Tryz.isAgg257
 z64:=Tryz.sizeOf257
 v64:=Tryz.zeroValue257 }
end Go.Proofs
namespace Go.Proofs.YtbbchlpccgkikaaGreatDoor
open Go.Shelf Go.RowKit Go.Lib Go.Sort Dw
def bytL(s:BA):List UInt8:=s.data.toList
def ofBy(l:List UInt8):BA:=⟨l.toArray⟩
theorem ofBy_byt(s:BA):ofBy (bytL s)=s:=by unfold ofBy bytL;cases s;simp
theorem byt_of(l:List UInt8):bytL (ofBy l)=l:=by unfold ofBy bytL;simp
theorem encStr_byt(s:BA):encStr (bytL s)=Value.string s:=by
 show Value.string ⟨(bytL s).toArray⟩=_
 have:=ofBy_byt s;unfold ofBy at this;rw[this]
def srtP(l:List BA):List BA:=((l.map bytL).mergeSort fun x y=>decide (x<=y)).map ofBy
theorem srtP_mem(l:List BA)(s:BA):s∈srtP l↔s∈l:=by
 unfold srtP;rw[List.mem_map]
 constructor
 ·rintro⟨x,hx,rfl⟩
  obtain⟨y,hy,rfl⟩:=List.mem_map.1 ((List.mergeSort_perm _ _).mem_iff.1 hx);rw[ofBy_byt];exact hy
 ·intro h
  exact⟨bytL s,(List.mergeSort_perm _ _).mem_iff.2 (bJ h),ofBy_byt s⟩
theorem srtP_inc{l:List BA}(J:l.Nodup):IncN (srtP l):=by
 have h1:=List.pairwise_mergeSort (le:=fun x y:List UInt8=>decide (x<=y)) (fun a b c h k=>by
  simp only[bX]at *;exact List.le_trans h k) (fun a b=>by
  simp only[Bool.or_eq_true,bX];exact List.le_total a b) (l.map bytL)
 have h2:((l.map bytL).mergeSort fun x y=>decide (x<=y)).Nodup:=by
  refine(List.mergeSort_perm _ _).nodup_iff.2 ?_;exact List.Pairwise.map bytL (fun a b h e=>h (by rw[<-ofBy_byt a,e,ofBy_byt])) J
 unfold srtP IncN;rw[List.pairwise_map];refine(h1.and h2).imp fun{a b} h=>?_
 obtain⟨h3,h4⟩:=h;rw[slt_list,Dw.toList_eq,Dw.toList_eq];show decide (bytL (ofBy a)<bytL (ofBy b))=true
 rw[byt_of,byt_of,fF];simp only[bX]at h3
 rcases List.le_iff_lt_or_eq.1 h3 with h|h
 ·exact h
 ·exact absurd h h4
theorem srtP_holL{K:List BA}{f:zBq}(hk:IncN K)(hh:HoldOk K f){l:List BA}(J:l.Nodup)(hm:∀p,p∈l↔f p≠0):srtP l=holL K f:=
 incN_ext (srtP_inc J) (holL_inc hk) fun x=>by rw[srtP_mem,hm,holL_mem hh]
theorem below_putRow{α:Type}[Inhabited α](enc:α->Value){w:World}{blk B:Nat}(n:Nat)(d:Array α)(os:Array Obj)(hB:B<=blk)(I:blk<w.heap.size):Below B w (grow (putRow enc (Sort.ahead w n) blk 0 d) os):=by
 have hp:Below B w (putRow enc (Sort.ahead w n) blk 0 d):=
  ⟨rfl,rfl,rfl,by rw[size_putRow];exact aK _,fun i hi=>by
   show((Sort.ahead w n).heap.modify blk _)[i]?=_
   rw[Array.getElem?_modify,aO za]
   rfl⟩
 refine⟨hp.os,hp.tape,hp.output,?_,fun i hi=>?_⟩
 ·rw[size_grow]
  exact dX hp.size (Nat.le_add_right _ _)
 ·rw[heap_grow_old _ _ (by have:=hp.size;omega)]
  exact hp.block i hi
theorem sortP_c(g cap:Nat)(L:List BA)(base:Nat)(w:World)(hown:zAv encS 1 w base 9 (.slice (some ⟨g,0,none⟩) L.length cap) L)(hl:L.length<=1000000)(h0:0<L.length): Calls Tryz.prog 105 #[.slice (some ⟨g,0,none⟩) L.length cap] w fun e w'=>e=.returned (.tuple #[])/\Strs w' (some ⟨g,0,none⟩) (srtP L)/\Below base w w':=by
 obtain⟨hbase,cs,hcs⟩:=zBc hown (g:=g) rfl;have hgl:g<w.heap.size:=(Array.getElem?_eq_some_iff.1 hcs).1;obtain⟨A',c',he,hrd⟩:=hown.rd1
 injection he with hA _ _
 subst hA;obtain⟨b,o,e2,hc⟩:=hrd h0
 injection e2 with e2
 injection e2 with e3 e4 _
 subst e3;subst e4
 have hH:Holds encStr w g 0 (L.map bytL).toArray:=fun j hj=>by
  have hj':j<L.length:=yh;refine⟨?_,dO w g _ cs _ hcs⟩
  rw[hc j hj'];simp[hj',encStr_byt]
 have hS:=AnyM.slices_Sort_string Tryz.sortS80 g 0 cap (L.map bytL) w hH hgl zg;change Calls Tryz.prog 105 _ _ _ at hS;rw[bZ]at hS;refine hS.mono fun e w' ⟨he,n,os,hw⟩=>⟨he,?_,?_⟩
 ·have hh:=holds_sortWorld encStr w g 0 n (L.map bytL).toArray ((L.map bytL).mergeSort fun x y=>decide (x<=y)).toArray os hgl hH ze
  have hw':w'=sortWorld encStr w g 0 n ((L.map bytL).mergeSort fun x y=>decide (x<=y)).toArray os:=hw;rw[hw'];refine fun hp=>⟨g,0,rfl,fun i hi=>?_⟩
  have hi':i<((L.map bytL).mergeSort fun x y=>decide (x<=y)).length:=by unfold srtP at hi;simpa using hi
  have:=(hh i (by simpa using hi')).1;rw[this];have e:(srtP L)[i]?=some (ofBy (((L.map bytL).mergeSort fun x y=>decide (x<=y))[i]'hi')):=by unfold srtP;rw[List.getElem?_map,List.getElem?_eq_getElem hi'];rfl
  rw[(List.getElem?_eq_some_iff.1 e).2,<-encStr_byt,byt_of]
  congr 2
  show((L.map bytL).mergeSort fun x y=>decide (x<=y)).toArray[i]! = _
  rw[getElem!_pos _ _ (by simpa using hi')]
  rfl
 ·rw[hw];exact below_putRow _ _ _ _ hbase hgl
def GivesPs(l:List BA)(w:World)(e:Ending)(w':World):Prop:=∃A c,e=.returned (.slice A l.length c)/\Strs w' A l/\Below w.heap.size w w'
def PsR(w:World)(g:Nat)(L:List (BA×Value))(m:Nat)(ov:Value)(wr:World):Prop:=
 ∃(R:List (BA×Value))(v:Value)(acc:List BA),v=ov/\R.length=m/\zCl Value.string wr w.heap.size g L R/\zAv encS 1 wr w.heap.size 9 v acc/\(acc++R.map (·.1)).Perm (L.map (·.1))/\Below w.heap.size w wr
theorem PRange_push{w w':World}{it g:Nat}{L R:List (BA×Value)}{α:Type}{enc:α->List Value}{k b:Nat}{e:TypeId}{v:Value}{l:List α}(h:zCl Value.string w it g L R)(ho:zAv enc k w b e v l)(hg:w.grownBy w' v.ownBlock):zCl Value.string w' it g L R:=by
 refine h.keep (hg.block g h.map.lt fun e2=>?_) (hg.block it h.lt fun e2=>?_)
 ·obtain⟨_,cs,hc⟩:=zBc ho e2.symm
  obtain⟨es,clk,h1,_⟩:=h.map;rw[h1]at hc;cases hc
 ·obtain⟨_,cs,hc⟩:=zBc ho e2.symm
  obtain⟨es,clk,since,c0,seen,_,_,_,_,_,h6,_⟩:=h;rw[h6]at hc;cases hc
theorem parties_c(g:Nat)(K:List BA)(f:zBq)(w:World)(hp:zAI w g f)(hk:IncN K)(hh:HoldOk K f)(hlen:K.length<=1000000):Calls Tryz.prog 50 #[.map (some g)] w (GivesPs (holL K f) w):=by
 obtain⟨L,h1,h2,h3⟩:=hp;obtain⟨o,hrun,hpr⟩:=zCl.start tMapP h1;have hgl:=h1.lt;have hLn:=h1.nodup
 have hLm:∀p,p∈L.map (·.1)↔f p≠0:=fun p=>by
  rw[h2,List.mem_map]
  constructor
  ·rintro⟨x,hx,rfl⟩;exact⟨x.2,hx⟩
  ·rintro⟨v,hv⟩;exact⟨_,hv,rfl⟩
 have hLl:L.length<=1000000:=by
  have:(L.map (·.1)).length<=K.length:=List.Nodup.length_le_of_subset hLn fun x hx=>bY fun J=>(hLm x).1 hx (hh.out x J)
  simp at this
  omega
 have HSE:Hid (∀l:List BA,l.Perm (L.map (·.1))->srtP l=holL K f):=fun l hl=>srtP_holL hk hh (hl.nodup_iff.2 hLn) fun p=>by rw[hl.mem_iff,hLm]
 have HPR:=zq hpr;have HB0:Hid (Below w.heap.size w (w.alloc o)):=(aR _ _).alloc (aK _) _;clear h1 h2 h3 hpr hk hh hLn hLm
 go_enter Tryz.func50,Tryz.ntmps50;go_wp2;clear hrun
 go_loopg[3] L.length (PsR w g L)
 case atStart=>exact⟨L,_,[],rfl,rfl,HPR.o,zAv.nil _ _ _ _ _,List.Perm.refl _,HB0.o⟩
 clear HPR HB0
 case round =>
  obtain⟨R,v,acc,rfl,hm,hpr,how,hperm,I⟩:=hrel;have HM:=zq hm;have HPR:=zq hpr;have HOW:=zq how;have HPM:=zq hperm;have HB:=zq I
  have hal:acc.length+R.length<=1000000:=by
   have:=hperm.length_eq;simp at this
   omega
  clear hm hpr how hperm I
  rcases zCl.next (P:=Tryz.prog) HPR.o str_inj za 0 with ⟨hR,hnx⟩|⟨x,R',w',hpx,hxL,hnx,hen,hpr',hg',hs'⟩
  ·have hpe:acc.Perm (L.map (·.1)):=by
    have:=HPM.o;rw[hR,List.map_nil,bV]at this;exact this
   have HS:=zq (HSE.o acc hpe);clear hR hpe
   obtain⟨A,c,hv⟩:∃A c,v=.slice A acc.length c:=by
    rcases HOW.o.2 with ⟨h,J⟩|⟨g',cap,cur,h,_⟩
    ·exact⟨none,0,by rw[h,J]⟩
    ·exact⟨_,_,h⟩
   subst hv
   by_cases h0:acc=[]
   ·subst h0
    have HNS:Hid (Calls Tryz.prog 105 #[.slice A 0 c] wr fun e w'=>e=.returned (.tuple #[])/\w'=wr):=AnyM.slices_Sort_string_none Tryz.sortS80 A c wr;have HLE:Hid (holL K f=[]):=by show _=_;rw[<-HS.o];unfold srtP;simp
    (go_wp2_with fail);(with_reducible refine HNS.o.mono ?_);rintro e w2⟨rfl,rfl⟩;go_wp2;go_ret
    unfold GivesPs;rw[HLE.o];exact⟨A,c,rfl,(fun h=>jn),HB.o⟩
   ·have hpos:0<acc.length:=List.length_pos_iff.2 h0
    obtain⟨g2,rfl⟩:∃g2,A=some ⟨g2,0,none⟩:=by
     rcases HOW.o.2 with ⟨h,J⟩|⟨g',cap,cur,h,_⟩
     ·omega
     ·injection h with h;exact⟨_,h⟩
    have HSO:=zq (sortP_c g2 c acc w.heap.size wr HOW.o za hpos)
    have HLN:Hid (acc.length=(holL K f).length):=by
     show _=_
     rw[<-HS.o];unfold srtP;simp
    clear h0;(go_wp2_with fail);(with_reducible refine HSO.o.mono ?_);rintro e w2⟨rfl,hst,D⟩;have M:=zq hst;have HB2:Hid (Below w.heap.size w w2):=HB.o.trans D;clear hst D;go_wp2;go_ret
    exact⟨_,c,by rw[HLN.o];rfl,by rw[<-HS.o];exact M.o,HB2.o⟩
  ·obtain⟨p,val⟩:=x
   have HB1:=zq (zCK HB.o HB.o.size hg' (aK _))
   have HO1:Hid (zAv encS 1 w' w.heap.size 9 v acc):=HOW.o.grown hg' (by
    cases hvv:v.ownBlock with
    |none=>exact .inl rfl
    |some q =>
     refine .inr fun e=>?_
     injection e with e
     obtain⟨_,cs,hc⟩:=zBc HOW.o hvv;have:=pr_nocell HPR.o 0;obtain⟨es,clk,since,c0,seen,_,_,_,_,_,h6,_⟩:=HPR.o;rw[e,h6]at hc;cases hc)
   have HPR1:=zq hpr';have HPX:=zq hpx;have hRl:R.length=R'.length+1:=by have:=hpx.length_eq;rw[bM]at this;exact this
   have hws:w.heap.size<=w'.heap.size:=HB1.o.size;clear hpx hpr' hg' hs' hxL
   go_wp2_with (at_builtin;refine zAT _ _ _ elStr rfl rfl w.heap.size v acc rfl (HO1.o.alloc _) w'.heap.size 1 p rfl (aJ _ _) rfl zr zn za zg ?_;intro v1 w4 E hg4 hb4)
   have HO4:=zq E;have HB4:=zq ((HB1.o.alloc hws _).trans hb4);have HPR4:=zq (PRange_push (HPR1.o.below (ba _ _)) (HO1.o.alloc _) hg4);clear E hg4 hb4;go_wp2
   go_roundg R'.length
   case measure=>have:=HM.o;omega
   case rel =>
    refine⟨R',_,acc++[p],rfl,rfl,HPR4.o,HO4.o,?_,HB4.o⟩
    have h5:=HPX.o.map (·.1);rw[aZ]at h5;rw[dN,List.singleton_append];exact(List.Perm.append_left acc h5.symm).trans HPM.o
end Go.Proofs.YtbbchlpccgkikaaGreatDoor
namespace Go.Proofs.YtbbchlpccgkikaaGreatDoor
open Go.RowKit Dw
def GivesLi(Ls:List Int)(w:World)(e:Ending)(w':World):Prop:=∃v,e=.returned v/\zAv zEh 1 w' w.heap.size 3 v Ls/\Below w.heap.size w w'
def LiR(W:World)(U:List De)(P:De->Bool)(m:Nat)(e i:Value)(wr:World):Prop:=
 ∃(v:Value)(j:Nat),v=e/\j+m=U.length/\i=.int .i64 (j:Nat)/\Below W.heap.size W wr/\zAv zEh 1 wr W.heap.size 3 v (licL U P j)
theorem licences_c(RA:OA)(rc:Nat)(V:List Rg)(UA:OA)(O:Nat)(us:List BA)(DA:OA)(dc:Nat)(U:List De)(L n i:Nat)(S:BA)(day:Int)(th p:BA)(x:Bool)(w:World)(hl:LgIs RA rc V UA O us DA dc U w L)(hd:Des w DA U)(J:(zAh V)[n]?=some i)(hul:∀d∈U,d.us.length<=1000000)(hdl:U.length<=200): Calls Tryz.prog 107 #[.pointer (some ⟨L,0,none⟩),.string th,.string p,.agg (zDN n S day),.bool x] w (GivesLi (licL U (zBN V U i S day th p x) U.length) w):=by
 have HLG:=zq hl;have HD:=zq hd;have HUL:=zq hul;have hbw:Below w.heap.size w (w.alloc (.cells (zDN n S day) 90)):=(aR _ _).alloc (aK _) _;have HX:Hid (Bx (w.alloc (.cells (zDN n S day) 90)) w.heap.size (zDN n S day) 90):=Bx.new _ _ _;obtain⟨W,hW⟩:∃W,W=w.alloc (.cells (zDN n S day) 90):=⟨_,rfl⟩;rw[<-hW]at HX hbw;have HB:=zq hbw;have HLW:=zq (hl.below hbw);have HDW:=zq (hd.below hbw);clear hl hd hul hbw;obtain⟨r1,r2,g1,g2,AL,cL,vr,vi,ins,base,hlx,_⟩:=HLW.o
 go_enter Tryz.func107,Tryz.ntmps107;(go_upto_region 1 with fail);rw[<-hW];clear hW;have l2:=hlx.c 2 rfl;have hsl:=hlx.lt;go_wp2
 go_loopg[11,20] U.length (LiR W U (zBN V U i S day th p x))
 case atStart=>exact⟨_,0,rfl,za,rfl,aR _ _,zAv.nil _ _ _ _ _⟩
 clear l2 hsl hlx
 case round =>
  obtain⟨v,j,rfl,hjm,rfl,I,ho⟩:=hrel;have HJ:=zq hjm;have HBW:=zq I;have HO:=zq ho;have hjl:j<=U.length:=za;have hll:=licL_len U (zBN V U i S day th p x) j;clear hjm I ho
  by_cases Y:j<U.length
  ·obtain⟨b,o,hA,hb0,hc0⟩:=HDW.o za
   subst hA;obtain⟨d,T⟩:∃d,U[j]=d:=⟨_,rfl⟩;have hp:=(hc0 j Y).1;rw[T]at hp;have N:wr.rangeAt b (o+j*16) (deC d).toList:=fun q v hv=>(HBW.o.cell (p:=⟨b,o+j*16+q,none⟩) hb0).trans (hp q v hv)
   have HS:Hid (licL U (zBN V U i S day th p x) (j+1)=licL U (zBN V U i S day th p x) j++(if zBN V U i S day th p x d=true then [(j:Int)] else [])):=by
    show _=_
    rw[licL_succ,List.getD_eq_getElem?_getD,List.getElem?_eq_getElem Y,cB,T]
   have hval:=fun(u:World)(hu:Below W.heap.size W u)=>valid_c RA rc V UA O us (some ⟨b,o,none⟩) dc U L j n i S day u (HLW.o.below hu) (HDW.o.below hu) Y J (HUL.o _ (aH Y))
   rw[T]at hval;have HVAL:=zq hval;clear hp hc0 T hval;(go_upto_region 4 with fail);(iterate 8 go_step);refine fG _ _ zk b (o+j*16) zk (deC d).toList _ N Tryz.underlying126 rfl zc ?_;clear N;(go_upto_region 5 with fail);obtain⟨wd,hwd⟩:∃wd,wd=wr.alloc (.cells (deC d) 126):=⟨_,rfl⟩;rw[<-hwd];have hbd:Below wr.heap.size wr wd:=zm;have m:Hid (Bx wd wr.heap.size (deC d) 126):=zo;have HBD:=zq (zAa HBW.o hbd);have HOD:=zq (HO.o.below hbd);have HXD:=zq (HX.o.below HBD.o);clear hwd hbd HO HBW;have d2:=m.o.c 2 rfl;have d3:=m.o.c 3 rfl;have d4:=m.o.c 4 rfl;have d8:=m.o.c 8 rfl;have hsd:=m.o.lt;obtain⟨x0,x1,x2⟩:=HXD.o.t;have hsx:=HXD.o.lt
   have HNO:zBN V U i S day th p x d=false->Hid (zAv zEh 1 wd W.heap.size 3 v (licL U (zBN V U i S day th p x) (j+1))):=fun h=>by
    show zAv _ _ _ _ _ _ _
    rw[HS.o,h,aO ze,bV];exact HOD.o
   by_cases hq:d.kd=3
   case neg =>
    have e1:(d.kd == 3)=false:=qd;have HN:=HNO (by unfold zBN;rw[aE hq];rfl);clear hq HNO;exact tcw
   have e1:(d.kd == 3)=true:=qd
   by_cases ht:d.th=th
   case neg =>
    have q1:=zAp ht;have HN:=HNO (by unfold zBN;rw[aE ht];simp);clear hq ht HNO;exact tcw
   have q1:=zAn ht
   by_cases hf:d.fr=p
   case neg =>
    have q2:=zAp hf;have HN:=HNO (by unfold zBN;rw[aE hf];simp);exact tco
   have q2:=zAn hf
   cases hx:d.ex == x with
   |false =>
    have HN:=HNO (by unfold zBN;rw[hx];simp);exact tco
   |true =>
    have HV:Hid (zBN V U i S day th p x d=vB V U i S day d):=by show _=_;unfold zBN;rw[aD hq,aD ht,aD hf,hx];rfl
    clear hq ht hf;(go_wp2_with fail);(with_reducible refine(HVAL.o _ HBD.o).mono ?_);rintro e w3⟨rfl,hb3⟩;have HB3:=zq (zAa HBD.o hb3);have HO3:=zq (HOD.o.below hb3);clear hb3 d2 d3 d4 d8 hsd x0 x1 x2 hsx e1 q1 q2 hx HXD m HOD HBD HVAL HNO
    cases hv:vB V U i S day d with
    |false =>
     have HN:Hid (zAv zEh 1 w3 W.heap.size 3 v (licL U (zBN V U i S day th p x) (j+1))):=by
      show zAv _ _ _ _ _ _ _
      rw[HS.o,HV.o,hv,aO ze,bV];exact HO3.o
     clear hv;go_wp2
     go_roundg (gk-1)
     case measure=>have:=HJ.o;omega
     case rel=>exact⟨_,j+1,rfl,ya,zi,HB3.o,HN.o⟩
    |true =>
     have HS2:Hid (licL U (zBN V U i S day th p x) (j+1)=licL U (zBN V U i S day th p x) j++[(j:Int)]):=by
      show _=_
      rw[HS.o,HV.o,hv,aF rfl]
     have hW3:W.heap.size<=w3.heap.size:=HB3.o.size;clear hv
     go_wp2_with (at_builtin;refine zAT _ _ _ elInt rfl rfl W.heap.size v (licL U (zBN V U i S day th p x) j) rfl (HO3.o.alloc _) w3.heap.size 1 (j:Int) rfl (aJ _ _) rfl zr zn za zg ?_;intro v1 w4 E hg4 hb4)
     have HO4:Hid (zAv zEh 1 w4 W.heap.size 3 v1 (licL U (zBN V U i S day th p x) (j+1))):=yr;have HB4:=zq ((HB3.o.alloc hW3 _).trans hb4);clear E hg4 hb4;go_wp2
     go_roundg (gk-1)
     case measure=>have:=HJ.o;omega
     case rel=>exact⟨_,j+1,rfl,ya,zi,HB4.o,HO4.o⟩
  ·have hje:j=U.length:=by omega
   rw[hje]at HO;go_wp2;go_ret
   exact⟨v,rfl,zAv.base HO.o HB.o.size,zAa HB.o HBW.o⟩
def zDu(seen:List BA):BA->Option Value:=fun x=>if zCU seen x=true then some (.bool true) else none
theorem seenM_nil:zDu []=fun _=>none:=by funext x;rfl
theorem seenM_cons(p:BA)(seen:List BA):zDu (p::seen)=fun x=>if x=p then some (.bool true) else zDu seen x:=by
 funext x
 unfold zDu
 by_cases h:x=p
 ·rw[aF (zBe.2 (by rw[h];exact cS)),aF h]
 ·rw[aO h]
  by_cases hm:zCU seen x=true
  ·rw[aF hm,aF (zBe.2 (cR _ (zBe.1 hm)))]
  ·rw[aO hm,aO fun h2=>?_]
   rcases List.mem_cons.1 (zBe.1 h2)with h3|h3
   ·exact h h3
   ·exact hm (zBe.2 h3)
theorem tMapSB:Tryz.prog.underlying 168=some (.map 9 4):=Tryz.underlying168
theorem zBoolS(w:World):(zeroValue 4).run Tryz.prog w=.ok (.bool false) w:=zc
def CtR(W:World)(nx:BA->Option BA)(ps:List BA)(res:BA)(m:Nat)(e:Value)(wr:World):Prop:=
 ∃(p:BA)(seen:List BA),e=.string p/\Below W.heap.size W wr/\W.heap.size<wr.heap.size/\zAt Value.string wr W.heap.size (zDu seen)/\CtlI nx ps m seen p res
theorem controls_c(RA:OA)(rc:Nat)(V:List Rg)(UA:OA)(O:Nat)(us:List BA)(DA:OA)(dc:Nat)(U:List De)(L n i:Nat)(S:BA)(day:Int)(th ho:BA)(w:World)(hl:LgIs RA rc V UA O us DA dc U w L)(hd:Des w DA U)(J:(zAh V)[n]?=some i)(hul:∀d∈U,d.us.length<=1000000)(hdl:U.length<=200): Calls Tryz.prog 106 #[.pointer (some ⟨L,0,none⟩),.string th,.string ho,.agg (zDN n S day)] w (zAf (.string (ctlF V U i S day th ho)) w):=by
 have HI0:=zq (ctlI_start V U i S day th ho);generalize ctlF V U i S day th ho=res at *;have hbw:Below w.heap.size w (w.alloc (.cells (zDN n S day) 90)):=(aR _ _).alloc (aK _) _;have HX:Hid (Bx (w.alloc (.cells (zDN n S day) 90)) w.heap.size (zDN n S day) 90):=Bx.new _ _ _;obtain⟨W,hW⟩:∃W,W=w.alloc (.cells (zDN n S day) 90):=⟨_,rfl⟩;rw[<-hW]at HX hbw;have HB:=zq hbw;have HLW:=zq (hl.below hbw);have HDW:=zq (hd.below hbw);have HUL:=zq hul;clear hl hd hul hbw;have hmm:=@run_makeMap Tryz.prog
 go_enter Tryz.func106,Tryz.ntmps106;(go_upto_region 1 with fail);rw[<-hW];clear hW;(go_upto_region 2 with fail);clear hmm;have HM0:Hid (zAt Value.string (W.alloc (.map #[] 0)) W.heap.size (zDu [])):=by show zAt _ _ _ _;rw[seenM_nil];exact zAt.new Value.string W
 have HBM:Hid (Below W.heap.size W (W.alloc (.map #[] 0))):=(aR _ _).alloc (aK _) _
 go_loopg[2] (U.length+2) (CtR W (nextP V U i S day th) (ho::U.map De.to_) res)
 case atStart=>exact⟨ho,[],rfl,HBM.o,ze,HM0.o,HI0.o⟩
 clear HM0 HBM HI0
 case round =>
  obtain⟨p,seen,rfl,I,hlt0,hm,hi⟩:=hrel;have HBW:=zq I;have HM:=zq hm;have HI:=zq hi;clear I hm hi;have hlk:=zAA tMapSB kStr zBoolS HM.o p false
  cases hms:zCU seen p with
  |true =>
   have HRS:=zq (HI.o.stop hms);rw[show zDu seen p=some (.bool true) by unfold zDu;rw[aF hms]]at hlk;simp only[eR,aL,cB]at hlk;clear hms;exact tep
  |false =>
   rw[show zDu seen p=none by unfold zDu;rw[aO (by rw[hms];simp)]]at hlk;simp only[eR,aL,eQ]at hlk;have HMS:=zq hms;clear hms;obtain⟨wu,hup,hmu,hgu,hsu⟩:=zAO tMapSB kStr HM.o p (.bool true);have HMU:Hid (zAt Value.string wu W.heap.size (zDu (p::seen))):=by show zAt _ _ _ _;rw[seenM_cons];exact hmu
   have hbu:Below W.heap.size W wu:=HBW.o.grown hgu HBW.o.size (fun k hk=>by injection hk with hk;rw[<-hk];exact aK _);have HBU:=zq hbu;have hltu:W.heap.size<wu.heap.size:=aB hlt0 hgu.size;have HXU:=zq (HX.o.below hbu);have HLC:=zq (licences_c RA rc V UA O us DA dc U L n i S day th p true wu (HLW.o.below hbu) (HDW.o.below hbu) J HUL.o hdl);obtain⟨Ls,hLs⟩:∃Ls,Ls=licL U (zBN V U i S day th p true) U.length:=⟨_,rfl⟩;rw[<-hLs]at HLC;have HLS:=zq hLs;have hll:Ls.length<=U.length:=by rw[hLs];exact licL_len _ _ _
   clear hmu hgu hsu hbu hLs HM HBW;obtain⟨x0,x1,x2⟩:=HXU.o.t;have hsx:=HXU.o.lt;(go_wp2_with fail);(with_reducible refine HLC.o.mono ?_);rintro e w5⟨v,rfl,ho5,hb5⟩;obtain⟨A,c,rfl,hrd⟩:=ho5.rdk;have HRD:=zq hrd;have HB5:=zq (zAa HBU.o hb5);have HM5:=zq (HMU.o.below hb5);have hlt5:W.heap.size<w5.heap.size:=aB hltu hb5.size;clear ho5 hb5 hrd x0 x1 x2 hsx hup hlk HLC HXU HMU HBU
   cases Ls with
   |nil =>
    have HRS:=zq (HI.o.none HMS.o (by show(U.find? _).map _=_;rw[licL_none HLS.o.symm];rfl));simp only[aY];go_wp2;go_ret
    exact zAf.mk (by rw[HRS.o];rfl) (zAa HB.o HB5.o)
   |cons z t =>
    obtain⟨k,hk,hz,hfd⟩:=licL_some HLS.o.symm;subst hz;obtain⟨d,T⟩:∃d,U[k]=d:=⟨_,rfl⟩;rw[T]at hfd;have hnx:nextP V U i S day th p=some d.to_:=by unfold nextP;rw[hfd];rfl
    have HNX:=zq (HI.o.next HMS.o hnx (nextP_mem hnx));obtain⟨b,o,hA,hb0,hc0⟩:=HDW.o za;subst hA;have hp:=(hc0 k hk).1;rw[T]at hp;have d5:w5.cell? ⟨b,o+k*16+5,none⟩=some (.string d.to_):=(HB5.o.cell (p:=⟨b,o+k*16+5,none⟩) hb0).trans (hp 5 _ rfl);obtain⟨b2,o2,rfl,hc2⟩:=HRD.o ze;have s0:w5.cell? ⟨b2,o2,none⟩=some (.int .i64 (k:Int)):=hc2 0 _ rfl;obtain⟨r1,r2,g1,g2,AL,cL,vr,vi,ins,base,hlx,_⟩:=HLW.o.below HB5.o;have l2:=hlx.c 2 rfl;have hsl:=hlx.lt;have hpos:0<gk:=HNX.o.1;have hln:(((k:Int)::t).length == 0)=false:=ze;clear hc0 hp hc2 hlx hfd hnx T HRD;simp only[bM]at *;have hln2:(((t.length+1:Nat):Int) == 0)=false:=zg;go_wp2;go_quiet(fail);go_wp2
    go_roundg (gk-1)
    case measure=>omega
    case rel=>exact⟨d.to_,p::seen,rfl,zAb HB5.o _,by simpa using hlt5,HM5.o.below (zAb (aR _ _) _),HNX.o.2⟩
theorem zCA{V:List Rg}{us:List BA}{U:List De}(h:zBY V us U=0):∀d∈U,d.ar.length<=100/\d.us.length<=20:=fun d hd=>by
 obtain⟨k,hk,rfl⟩:=bD hd;have:=zDQ ((zAP h).2 k hk) (zAP h).1;exact⟨this.1,this.2.1⟩
section
variable {V:List Rg} {us:List BA} {U:List De} {th pl S:BA} {day:Int}
end
theorem insN_len(p:BA):∀l:List BA,(zDT p l).length<=l.length+1
 |[]=>by simp[zDT]
 |a::l=>by
  unfold zDT;have:=insN_len p l
  split
  ·simp
  ·split
   ·simp
   ·simp;omega
theorem zDr:∀(l:List Sh)(K:List BA),(zBb l K).length<=K.length+l.length
 |[],_=>aK _
 |s::l,K=>by
  have h1:=zDr l (zDT s.pt K);have h2:=insN_len s.pt K;show(zBb l (zDT s.pt K)).length<=_
  simp only[bM];omega
theorem keys_len{V:List Rg}{us:List BA}{U:List De}(h:zBY V us U=0)(i:Nat)(th S:BA)(day:Int)(n:Nat)(J:n<=U.length):(zBk V U i th S day n).length<=1000000:=by
 have hsl:∀d∈U,d.sh.length<=20:=fun d hd=>by
  obtain⟨k,hk,rfl⟩:=bD hd;exact(zDQ ((zAP h).2 k hk) (zAP h).1).2.2
 have hdl:=(zBd h).2.2
 have h1:∀(l:List De)(K:List BA),(∀d∈l,d∈U)->(l.foldl (zAK th day) K).length<=K.length+20*l.length:=fun l=>by
  induction l with
  |nil=>exact fun K _=>Nat.le_add_right _ _
  |cons d l ih =>
   intro K hd;have a:=ih (zAK th day K d) fun e he=>hd e (cR _ he)
   have b:(zAK th day K d).length<=K.length+20:=by
    unfold zAK
    split
    ·have:=zDr d.sh K
     have:=hsl d (hd d cS);omega
    ·omega
   exact td7
 have h2:∀(l:List De)(K:List BA),(∀d∈l,d∈U)->(l.foldl (zAW (zCZ V U i th S day)) K).length<=K.length+22*l.length:=fun l=>by
  induction l with
  |nil=>exact fun K _=>Nat.le_add_right _ _
  |cons d l ih =>
   intro K hd;have a:=ih (zAW (zCZ V U i th S day) K d) fun e he=>hd e (cR _ he)
   have b:(zAW (zCZ V U i th S day) K d).length<=K.length+22:=by
    unfold zAW zAz
    split
    ·split
     ·have h3:=zDr d.sh (zDT d.fr K)
      have h4:=insN_len d.fr K;have:=hsl d (hd d cS);omega
     ·have h3:=insN_len d.to_ (zDT d.fr K)
      have h4:=insN_len d.fr K;omega
    ·omega
   show(l.foldl (zAW _) (zAW _ K d)).length<=_
   rw[bM];omega
 have e1:=h2 (U.take n) (zDV th day U) fun d hd=>dJ hd
 have e2:=h1 U [] fun d hd=>hd
 have e3:(U.take n).length<=200:=yc;have e4:(zDV th day U).length<=0+20*U.length:=e2;unfold zBk;omega
def scanD(party:BA)(d:De)(G:List BA):Option (List BA):=if d.to_=party then none else some (if (d.sb&&!zCU G d.to_)=true then G++[d.to_] else G)
def zCy(P:De->Bool)(party:BA):List De->List BA->Option (List BA)
 |[],G=>some G
 |d::l,G=>if P d=true then match scanD party d G with
  |none=>none
  |some G'=>zCy P party l G' else zCy P party l G
def scanF(party:BA):List De->List BA->Option (List BA)
 |[],G=>some G
 |d::l,G=>match scanD party d G with
  |none=>none
  |some G'=>scanF party l G'
theorem scanL_filter(P:De->Bool)(party:BA):∀(l:List De)(G:List BA),zCy P party l G=scanF party (l.filter P) G
 |[],_=>rfl
 |d::l,G=>by
  by_cases h:P d=true
  ·rw[zCy,aF h,fB h,scanF]
   cases scanD party d G with
   |none=>rfl
   |some G'=>exact scanL_filter P party l G'
  ·rw[zCy,aO h,eT h]
   exact scanL_filter P party l G
theorem lic_filter(P:De->Bool):∀(U:List De)(n:Nat),n<=U.length->((List.range n).filter fun j=>P (U.getD j default)).map (fun j=>U.getD j default)=(U.take n).filter P
 |_,0,_=>ze
 |U,n+1,h=>by
  have ih:=lic_filter P U n za;have e:U.getD n default=U[n]:=by rw[List.getD_eq_getElem?_getD,List.getElem?_eq_getElem za,cB]
  rw[eF,eG,aA,ih,aG za,eG]
  congr 1
  by_cases hp:P U[n]=true
  ·rw[fB (by rw[e];exact hp),fB hp]
   show[U.getD n default]=[U[n]]
   rw[e]
  ·rw[eT (by rw[e];exact hp),eT hp];simp
theorem lic_at{P:De->Bool}{U:List De}{q:Nat}(h:q<(licL U P U.length).length):∃(k:Nat)(hk:k<U.length)(h2:q<(U.filter P).length),(licL U P U.length)[q]=(k:Int)/\(U.filter P)[q]=U[k]:=by
 have hf:=lic_filter P U U.length (aK _);rw[aN]at hf;unfold licL at h ⊢;rw[bZ]at h;have h2:q<(U.filter P).length:=by rw[<-hf,bZ];exact h
 obtain⟨k,hk⟩:∃k,k=((List.range U.length).filter fun j=>P (U.getD j default))[q]:=⟨_,rfl⟩
 have hkr:k<U.length:=by
  have:=aH h;rw[<-hk]at this;exact List.mem_range.1 (List.mem_filter.1 this).1
 refine⟨k,hkr,h2,by rw[cA,<-hk],?_⟩
 have e:(U.filter P)[q]=U.getD k default:=by
  simp only[<-hf,cA];rw[hk]
 rw[e,List.getD_eq_getElem?_getD,List.getElem?_eq_getElem hkr,cB]
theorem lic_len{P:De->Bool}{U:List De}:(licL U P U.length).length=(U.filter P).length:=by
 have hf:=lic_filter P U U.length (aK _);rw[aN]at hf;rw[<-hf,bZ];unfold licL;rw[bZ]
theorem scanF_hit{party:BA}{G:List BA}{d:De}{l:List De}(ht:d.to_=party):scanF party (d::l) G=none:=by
 rw[scanF];unfold scanD;rw[aF ht]
theorem scanF_new{party:BA}{G:List BA}{d:De}{l:List De}(ht:d.to_≠party)(hs:d.sb=true)(hm:zCU G d.to_=false):scanF party (d::l) G=scanF party l (G++[d.to_]):=by
 rw[scanF];unfold scanD;rw[aO ht,aF (by rw[hs,hm];rfl)]
theorem scanF_old{party:BA}{G:List BA}{d:De}{l:List De}(ht:d.to_≠party)(hs:(d.sb&&!zCU G d.to_)=false):scanF party (d::l) G=scanF party l G:=by
 rw[scanF];unfold scanD;rw[aO ht,aO (by rw[hs];simp)]
def mayN(U:List De)(Q:BA->De->Bool)(party:BA):Nat->Nat->List BA->Bool
 |0,_,_=>false
 |f+1,i,G=>match G[i]? with
  |none=>false
  |some g=>match zCy (Q g) party U G with
   |none=>true
   |some G'=>mayN U Q party f (i+1) G'
def mayF(V:List Rg)(U:List De)(i:Nat)(S:BA)(day:Int)(th party ho:BA):Bool:=
 if ctlF V U i S day th ho=party then true else mayN U (fun g=>zBN V U i S day th g false) party (U.length+2) 0 [ctlF V U i S day th ho]
structure Giv (ps G:List BA):Prop where
 nd:G.Nodup
 sub:∀g∈G,g∈ps
theorem Giv.len{ps G:List BA}(h:Giv ps G):G.length<=ps.length:=nodup_len h.nd h.sub
theorem Giv.one{ps:List BA}{p:BA}(h:p∈ps):Giv ps [p]:=⟨ze,fun g hg=>by rw[List.mem_singleton.1 hg];exact h⟩
theorem Giv.add{ps G:List BA}{p:BA}(h:Giv ps G)(hp:p∈ps)(hm:zCU G p=false):Giv ps (G++[p]):=by
 refine⟨?_,fun g hg=>?_⟩
 ·rw[List.nodup_append]
  exact⟨h.nd,ze,fun a ha b I=>by rw[List.mem_singleton.1 I];exact fun e=>memS_false.1 hm (by rw[<-e];exact ha)⟩
 ·rcases List.mem_append.1 hg with hg|hg
  ·exact h.sub g hg
  ·rw[List.mem_singleton.1 hg];exact hp
theorem scanL_skip{P:De->Bool}{party:BA}{G:List BA}{d:De}{l:List De}(h:P d=false):zCy P party (d::l) G=zCy P party l G:=by
 rw[zCy,aO (by rw[h];simp)]
theorem scanL_hit{P:De->Bool}{party:BA}{G:List BA}{d:De}{l:List De}(h:P d=true)(ht:d.to_=party):zCy P party (d::l) G=none:=by
 rw[zCy,aF h];unfold scanD;rw[aF ht]
theorem scanL_new{P:De->Bool}{party:BA}{G:List BA}{d:De}{l:List De}(h:P d=true)(ht:d.to_≠party)(hs:d.sb=true)(hm:zCU G d.to_=false):zCy P party (d::l) G=zCy P party l (G++[d.to_]):=by
 rw[zCy,aF h];unfold scanD;rw[aO ht,aF (by rw[hs,hm];rfl)]
theorem scanL_old{P:De->Bool}{party:BA}{G:List BA}{d:De}{l:List De}(h:P d=true)(ht:d.to_≠party)(hs:(d.sb&&!zCU G d.to_)=false):zCy P party (d::l) G=zCy P party l G:=by
 rw[zCy,aF h];unfold scanD;rw[aO ht,aO (by rw[hs];simp)]
theorem mayN_end{U:List De}{Q:BA->De->Bool}{party:BA}{f i:Nat}{G:List BA}(h:G.length<=i):mayN U Q party f i G=false:=by
 cases f with
 |zero=>rfl
 |succ f=>rw[mayN,List.getElem?_eq_none h]
theorem mayN_yes{U:List De}{Q:BA->De->Bool}{party:BA}{f i:Nat}{G:List BA}(h:i<G.length)(hs:zCy (Q G[i]) party U G=none):mayN U Q party (f+1) i G=true:=by
 rw[mayN,List.getElem?_eq_getElem h];simp only[hs]
theorem mayN_next{U:List De}{Q:BA->De->Bool}{party:BA}{f i:Nat}{G G':List BA}(h:i<G.length)(hs:zCy (Q G[i]) party U G=some G'):mayN U Q party (f+1) i G=mayN U Q party f (i+1) G':=by
 rw[mayN,List.getElem?_eq_getElem h];simp only[hs]
theorem ctlN_mem{nx:BA->Option BA}{ps:List BA}(hq:∀p q,nx p=some q->q∈ps):∀(f:Nat)(seen:List BA)(p:BA),p∈ps->ctlN nx f seen p∈ps
 |0,_,_,h=>h
 |f+1,seen,p,h=>by
  unfold ctlN
  split
  ·exact h
  ·split
   ·exact h
   ·next q hx=>exact ctlN_mem hq f (p::seen) q (hq p q hx)
theorem ctlF_mem{V:List Rg}{U:List De}{i:Nat}{S:BA}{day:Int}{th ho:BA}:ctlF V U i S day th ho∈ho::U.map De.to_:=
 ctlN_mem (fun _ _ h=>nextP_mem h) _ _ _ cS
theorem to_mem{U:List De}{d:De}(h:d∈U)(ho:BA):d.to_∈ho::U.map De.to_:=cR _ (bJ h)
def zCx(th:BA)(d:De):Bool:=decide (d.kd=5) || (decide (d.th=th)&&!decide (d.kd=4))
def edgeL(U:List De)(d:De):List Int:=if zAg d.kd=true then [(zBj U d).1,(zBj U d).2] else [d.bg]
def zDo(th:BA)(U:List De)(day:Int):Bool:=U.any fun d=>zCx th d&&(edgeL U d).any fun n=>decide (n=day)
section
variable {V:List Rg} {U:List De} {i k:Nat} {th S:BA} {day:Int} {d:De}
theorem edgeB_no(h:zDo th U day=false)(hd:d∈U)(hc:zCx th d=true):∀n∈edgeL U d,n≠day:=fun n J e=>by
 unfold zDo at h;rw[bC]at h;have:=h d hd;rw[hc,eL]at this;exact this (List.any_eq_true.2 ⟨n,J,aD e⟩)
theorem vB_day(hg:zAg d.kd=true)(h:∀n∈edgeL U d,n≠day):vB V U i S (day-1) d=vB V U i S day d:=by
 unfold edgeL at h;rw[aF hg]at h;have h1:=h (zBj U d).1 ze;have h2:=h (zBj U d).2 ze;unfold vB;have e1:decide ((zBj U d).1<=day-1)=decide ((zBj U d).1<=day):=by rw[bU,fF,fF];omega
 have e2:decide (day-1<(zBj U d).2)=decide (day<(zBj U d).2):=by rw[bU,fF,fF];omega
 rw[e1,e2]
theorem bg_day(hg:zAg d.kd=false)(h:∀n∈edgeL U d,n≠day):decide (d.bg<=day-1)=decide (d.bg<=day):=by
 unfold edgeL at h;rw[aO (by rw[hg];simp)]at h;have h1:=h d.bg ze;rw[bU,fF,fF];omega
theorem orgB_day(hd:d∈U)(h:zDo th U day=false):orgB th (day-1) d=orgB th day d:=by
 unfold orgB
 by_cases h1:d.kd=1
 ·by_cases h2:d.th=th
  ·have hc:zCx th d=true:=by unfold zCx;rw[h1,h2];simp
   rw[bg_day (by rw[h1];rfl) (edgeB_no h hd hc)]
  ·rw[aE h2];simp
 ·rw[aE h1];simp
theorem movB_day(hd:d∈U)(h:zDo th U day=false):zCZ V U i th S (day-1) d=zCZ V U i th S day d:=by
 unfold zCZ
 by_cases h1:d.kd=2
 ·rw[aF h1,aF h1]
  exact tcj
 ·rw[aO h1,aO h1]
  by_cases h3:d.kd=5
  ·have hc:zCx th d=true:=by unfold zCx;rw[h3];rfl
   rw[aF h3,aF h3,bg_day (by rw[h3];rfl) (edgeB_no h hd hc)]
  ·rw[aO h3,aO h3]
theorem licB_day{p:BA}{x:Bool}(hd:d∈U)(h:zDo th U day=false):zBN V U i S (day-1) th p x d=zBN V U i S day th p x d:=by
 unfold zBN
 by_cases h1:d.kd=3
 ·exact tcj
 ·rw[aE h1];simp
end
theorem parts_congr{V:List Rg}{U:List De}{i k:Nat}{th S use2:BA}{day day2:Int}(ho:∀d∈U,orgB th day d=orgB th day2 d)(hm:∀d∈U,zCZ V U i th S day d=zCZ V U k th use2 day2 d)(n:Nat): zAs V U i th S day n=zAs V U k th use2 day2 n:=by
 unfold zAs zDh
 have key:∀(l:List De)(f:zBq),(∀d∈l,d∈U)->l.foldl (orgF th day) f=l.foldl (orgF th day2) f:=fun l=>by
  induction l with
  |nil=>exact fun _ _=>rfl
  |cons d l ih =>
   intro f hs;rw[dF,dF,ih _ fun x hx=>hs x (cR _ hx)];have:orgF th day f d=orgF th day2 f d:=by unfold orgF;rw[ho d (hs d cS)]
   rw[this]
 have key2:∀(l:List De)(f:zBq),(∀d∈l,d∈U)->l.foldl (zDz (zCZ V U i th S day)) f=l.foldl (zDz (zCZ V U k th use2 day2)) f:=fun l=>by
  induction l with
  |nil=>exact fun _ _=>rfl
  |cons d l ih =>
   intro f hs;rw[dF,dF,ih _ fun x hx=>hs x (cR _ hx)];have:zDz (zCZ V U i th S day) f d=zDz (zCZ V U k th use2 day2) f d:=by unfold zDz;rw[hm d (hs d cS)]
   rw[this]
 rw[key U _ fun _ h=>h,key2 (U.take n) _ fun d hd=>dJ hd]
theorem may_congr{V:List Rg}{U:List De}{i k:Nat}{S use2:BA}{day day2:Int}{th:BA}(hl:∀d∈U,∀p x,zBN V U i S day th p x d=zBN V U k use2 day2 th p x d)(party ho:BA): mayF V U i S day th party ho=mayF V U k use2 day2 th party ho:=by
 have J:nextP V U i S day th=nextP V U k use2 day2 th:=by
  funext p
  unfold nextP
  congr 1
  have:∀l:List De,(∀d∈l,d∈U)->l.find? (zBN V U i S day th p true)=l.find? (zBN V U k use2 day2 th p true):=fun l=>by
   induction l with
   |nil=>exact fun _=>rfl
   |cons d l ih =>
    intro hs;rw[List.find?_cons,List.find?_cons,hl d (hs d cS) p true,ih fun x hx=>hs x (cR _ hx)]
  exact this U fun _ h=>h
 have hc:ctlF V U i S day th ho=ctlF V U k use2 day2 th ho:=by unfold ctlF;rw[J]
 have hs:∀(g:BA)(l:List De)(G:List BA),(∀d∈l,d∈U)->zCy (zBN V U i S day th g false) party l G=zCy (zBN V U k use2 day2 th g false) party l G:=fun g l=>by
  induction l with
  |nil=>exact fun _ _=>rfl
  |cons d l ih =>
   intro G hs;rw[zCy,zCy,hl d (hs d cS) g false]
   split
   ·cases scanD party d G with
    |none=>rfl
    |some G'=>exact ih G' fun x hx=>hs x (cR _ hx)
   ·exact ih G fun x hx=>hs x (cR _ hx)
 have hm:∀(f j:Nat)(G:List BA),mayN U (fun g=>zBN V U i S day th g false) party f j G=mayN U (fun g=>zBN V U k use2 day2 th g false) party f j G:=fun f=>by
  induction f with
  |zero=>exact fun _ _=>rfl
  |succ f ih =>
   intro j G;rw[mayN,mayN]
   cases G[j]? with
   |none=>rfl
   |some g =>
    simp only;rw[hs g U G fun _ h=>h]
    cases zCy (zBN V U k use2 day2 th g false) party U G with
    |none=>rfl
    |some G'=>exact ih (j+1) G'
 unfold mayF;rw[hc]
 split
 ·rfl
 ·exact hm _ _ _
theorem concerns_c(RA:OA)(rc:Nat)(V:List Rg)(UA:OA)(O:Nat)(us:List BA)(DA:OA)(dc:Nat)(U:List De)(L k:Nat)(th:BA)(w:World)(hl:LgIs RA rc V UA O us DA dc U w L)(hd:Des w DA U)(hk:k<U.length): Calls Tryz.prog 127 #[.pointer (some ⟨L,0,none⟩),.int .i64 (k:Int),.string th] w (zAf (.bool (zCx th U[k])) w):=by
 obtain⟨b,o,rfl,hb0,hc0⟩:=hd za;obtain⟨d,T⟩:∃d,U[k]=d:=⟨_,rfl⟩;have N:=(hc0 k hk).1;rw[T]at N ⊢;generalize C:zCx th d=res;have HR:=zq C;obtain⟨r1,r2,g1,g2,AL,cL,vr,vi,ins,base,hlx,_⟩:=hl;have l2:=hlx.c 2 rfl;have hsl:=hlx.lt;clear hd hc0 T C hlx
 go_enter Tryz.func127,Tryz.ntmps127;(go_upto_region 1 with fail);(iterate 23 go_step);refine fG _ _ zk b (o+k*16) zk (deC d).toList _ N Tryz.underlying126 rfl zc ?_;clear N;(go_upto_region 2 with fail);obtain⟨wd,hwd⟩:∃wd,wd=w.alloc (.cells (deC d) 126):=⟨_,rfl⟩;rw[<-hwd];have hbd:Below w.heap.size w wd:=zm;have m:Hid (Bx wd w.heap.size (deC d) 126):=zo;have HBD:=zq hbd;clear hwd hbd l2 hsl;have d2:=m.o.c 2 rfl;have d3:=m.o.c 3 rfl;have hsd:=m.o.lt
 by_cases h5:d.kd=5
 ·have e1:(d.kd == 5)=true:=by simpa using h5
  have HE:Hid (res=true):=by show _=_;rw[<-HR.o];unfold zCx;rw[aD h5];rfl
  clear h5;exact tfl
 ·have e1:(d.kd == 5)=false:=by simpa using h5
  by_cases ht:d.th=th
  ·have q1:=zAn ht
   by_cases h4:d.kd=4
   ·have e2:(d.kd != 4)=false:=by simpa using h4
    have HE:Hid (res=false):=by show _=_;rw[<-HR.o];unfold zCx;rw[aE h5,aD h4];simp
    clear h5 ht h4;exact tfl
   ·have e2:(d.kd != 4)=true:=by simpa using h4
    have HE:Hid (res=true):=by show _=_;rw[<-HR.o];unfold zCx;rw[aD ht,aE h4];simp
    clear h5 ht h4;exact tfl
  ·have q1:=zAp ht
   have HE:Hid (res=false):=by show _=_;rw[<-HR.o];unfold zCx;rw[aE h5,aE ht];rfl
   clear h5 ht;exact tfl
theorem elQS:ElemT Tryz.prog 23 9 (.string ⟨#[]⟩) 1 16:=⟨Tryz.underlying23,zc,rfl,zd⟩
def QuS(w:World)(b:Nat)(v:Value)(l:List BA):Prop:=
 ∃(off cap:Nat)(cs:Array Value),v=.slice (some ⟨b,off,none⟩) l.length cap/\Bx w b cs 9/\off+cap<=cs.size/\l.length<=cap/\cap<=maxLen/\∀j (h:j<l.length),cs[off+j]?=some (.string l[j])
theorem QuS.below{w w':World}{b:Nat}{v:Value}{l:List BA}(h:QuS w b v l)(I:Below w.heap.size w w'):QuS w' b v l:=by
 obtain⟨off,cap,cs,e,h2,h3⟩:=h;exact⟨off,cap,cs,e,h2.below I,h3⟩
theorem QuS.lt{w:World}{b:Nat}{v:Value}{l:List BA}(h:QuS w b v l):b<w.heap.size:=by
 obtain⟨off,cap,cs,e,h2,h3⟩:=h;exact h2.lt
theorem QuS.grown{w w':World}{b g:Nat}{v:Value}{l:List BA}(h:QuS w b v l)(hg:w.grownBy w' (some g))(hne:b≠g):QuS w' b v l:=by
 obtain⟨off,cap,cs,e,h2,h3⟩:=h;exact⟨off,cap,cs,e,(hg.block b h2.lt fun e=>hne (fH e)).trans h2,h3⟩
theorem QuS.map_ne{w:World}{b g:Nat}{v:Value}{l:List BA}{f:BA->Option Value}(h:QuS w b v l)(hm:zAt Value.string w g f):b≠g:=fun e=>by
 obtain⟨off,cap,cs,_,h2,_⟩:=h;obtain⟨es,clk,L,h1,_⟩:=hm;unfold Bx at h2;rw[e,h1]at h2
 cases h2
theorem QuS.one{w:World}{b:Nat}{s:BA}(h:Bx w b #[.string s] 9):QuS w b (.slice (some ⟨b,0,none⟩) 1 1) [s]:=
 ⟨0,1,_,rfl,h,ze,ze,zn,fun j hj=>by
  have:j=0:=yh;subst this
  rfl⟩
theorem QuS.sl{w:World}{b:Nat}{v:Value}{l:List BA}(h:QuS w b v l):∃off cap,v=.slice (some ⟨b,off,none⟩) l.length cap/\l.length<=cap/\cap<=maxLen/\(∀j (h:j<l.length),w.cell? ⟨b,off+j,none⟩=some (.string l[j])):=by
 obtain⟨off,cap,cs,e,h2,h3,h4,h5,h6⟩:=h;exact⟨off,cap,e,h4,h5,fun j hj=>h2.cell (h6 j hj)⟩
theorem QuS.tail{w:World}{b off cap:Nat}{x:BA}{l:List BA}(h:QuS w b (.slice (some ⟨b,off,none⟩) (l.length+1) cap) (x::l)):QuS w b (.slice (if cap=1 then some ⟨b,off,none⟩ else some ⟨b,off+1,none⟩) l.length (cap-1)) l:=by
 obtain⟨off',cap',cs,e,h2,h3,h4,h5,h6⟩:=h;simp only[bM,Value.slice.injEq,aQ,Addr.mk.injEq,and_true,true_and]at e;obtain⟨rfl,rfl⟩:=e;simp only[bM]at h4 h6
 by_cases hc:cap=1
 ·rw[aF hc]
  exact⟨off,cap-1,cs,rfl,h2,za,za,za,fun j hj=>za⟩
 ·rw[aO hc]
  refine⟨off+1,cap-1,cs,rfl,h2,za,za,za,fun j hj=>?_⟩;have:=h6 (j+1) za;rw[show off+1+j=off+(j+1) by omega,this]
  rfl
theorem run_pushQ{w:World}{b:Nat}{v:Value}{l:List BA}(h:QuS w b v l)(x:BA)(g:Nat)(hx:w.cell? ⟨g,0,none⟩=some (.string x))(hl:l.length<=1000000)(ty:TypeId): ∃v' w',(Builtin.append_ #[23,23] ty #[v,.slice (some ⟨g,0,none⟩) 1 1]).run Tryz.prog w=.ok v' w'/\(∃b',QuS w' b' v' (l++[x])/\(b'=b\/b'=w.heap.size))/\w.grownBy w' (some b):=by
 obtain⟨i,hi,hz0,hz1,hz2⟩:=info_parts elQS.info;obtain⟨off,cap,cs,rfl,h2,h3,h4,h5,h6⟩:=h
 have hs:Src Tryz.prog i.size 23 (.slice (some ⟨g,0,none⟩) 1 1) 1 [.string x] w:=by
  rw[hz1];refine Src.ofSlice w elQS.ty ⟨g,0,none⟩ 1 1 [Value.string x] rfl (fun j u hj=>?_) (fun u hu=>by rw[List.mem_singleton.1 hu];rfl)
  match j,hj with
  |0,hj =>
   have e:Value.string x=u:=yh;rw[<-e];rw[Addr.add_lit];exact hx
 by_cases hfit:l.length+1<=cap
 ·have hrun:=run_append_room_src (P:=Tryz.prog) w 23 23 ty 9 i elQS.ty hi b off l.length cap (.slice (some ⟨g,0,none⟩) 1 1) 1 [.string x] hs hfit
   (fun j hj=>by
    have hj0:j=0:=yh;subst hj0;rw[hz1,dK,dT,bK w b _ _ _ _ h2];rw[Array.getElem?_eq_getElem (show off+l.length<cs.size by omega)]
    rfl)
   (fun j _=>h2.frozen _)
  rw[hz1,dK]at hrun;refine⟨_,_,hrun,⟨b,?_,.inl rfl⟩,?_⟩
  ·refine⟨off,cap,cs.setIfInBounds (off+l.length) (.string x),by rw[eA];rfl,h2.set _ _,jk,by rw[eA];exact hfit,h5,fun j hj=>?_⟩
   rw[eA,List.length_singleton]at hj
   by_cases hjl:j<l.length
   ·rw[Array.getElem?_setIfInBounds,aO za,List.getElem_append_left hjl]
    exact h6 j hjl
   ·obtain rfl:j=l.length:=by omega
    rw[Array.getElem?_setIfInBounds,aF rfl,aF za,List.getElem_append_right (aK _)];simp
  ·exact⟨rfl,rfl,rfl,by simp[World.setCells,World.setCell],fun k _ hne=>dQ w _ _ k (fun e=>hne (by rw[show k=b from e]))⟩
 ·have hce:cap=l.length:=by omega
  subst hce
  have hold:(Builtin.firstCells i.size l.length (.slice (some ⟨b,off,none⟩) l.length l.length)).run Tryz.prog w.drew=.ok (l.map Value.string).toArray w.drew:=by
   rw[hz1];refine(Src.ofSlice (size:=1) w elQS.ty ⟨b,off,none⟩ l.length l.length (l.map Value.string) ze (fun j u hj=>?_) (fun u hu=>?_):Src Tryz.prog 1 23 _ _ _ w).cellsD
   ·rw[List.getElem?_map]at hj
    by_cases hjl:j<l.length
    ·rw[List.getElem?_eq_getElem hjl]at hj
     simp only[aP,aQ]at hj;rw[<-hj];rw[Addr.add_lit];exact h2.cell (h6 j hjl)
    ·rw[List.getElem?_eq_none za]at hj;cases hj
   ·obtain⟨s,_,rfl⟩:=List.mem_map.1 hu
    rfl
  have hbytes:(l.length+1)*i.bytes<=140737488355328:=by rw[hz2];omega
  have hg:l.length<l.length+1:=za;have hrun:=run_append_grow_src (P:=Tryz.prog) w 23 23 ty 9 i _ elQS.ty hi hz0 (some ⟨b,off,none⟩) l.length l.length (l.map Value.string) hold (.slice (some ⟨g,0,none⟩) 1 1) 1 [.string x] hs hg za (growslice_fits hg hbytes);have hge:=grownCap_ge w (l.length+1) l.length 9;have hcm:=grownCap_le_maxLen w (l.length+1) l.length 9 zn;refine⟨_,_,hrun,⟨w.heap.size,?_,.inr rfl⟩,?_⟩
  ·refine⟨0,_,_,by rw[eA];rfl,aJ w.drew _,?_,by rw[eA];exact hge,hcm,fun j hj=>?_⟩
   ·rw[Array.size_append,List.size_toArray,size_zeroCells]
    simp only[eA,bZ,List.length_singleton];have:(Value.string ⟨#[]⟩).cells.size=1:=rfl;rw[this];omega
   ·rw[cO,Array.getElem?_append_left yh,List.getElem?_toArray,<-List.map_singleton (f:=Value.string),<-aA,List.getElem?_map,List.getElem?_eq_getElem hj]
    rfl
  ·exact⟨rfl,rfl,rfl,ze,fun k hk _=>eJ w.drew _ k hk⟩
theorem wpList_pushQ{G:Array Oper}{rest:List Oper}{o:Oper}{a:Act}{Q:Exit->Act->World->Prop}{w:World}(s x:Operand)(hgd:o.guard=none)(ho:o.op=.call { callee:=.builtin .append,args:=#[s,x],argTypes:=#[23,23] })
  (b:Nat) (v:Value) (l:List BA) (hv:a.eval s=v) (hq:QuS w b v l) (y:BA) (g:Nat) (hx:a.eval x=.slice (some ⟨g,0,none⟩) 1 1) (hc:w.cell? ⟨g,0,none⟩=some (.string y)) (hl:l.length<=1000000)
  (h:∀v' w' b',QuS w' b' v' (l++[y])->(b'=b\/b'=w.heap.size)->w.grownBy w' (some b)->wpList Tryz.prog G Q rest (a.put o.dst v') w'):wpList Tryz.prog G Q (o::rest) a w:=by
 refine wpList_plain hgd fun K hK'=>?_
 obtain⟨v',w',hrun,⟨b',h1,h2⟩,h3⟩:=run_pushQ hq y g hc hl o.type;unfold Oper.wp;simp[execOp,ho,resolve,invoke,builtin,hv,hx,hrun,Result.andThen]
 exact hK' _ _ (h v' w' b' h1 h2 h3)
theorem drop_cons'{α:Type}{l:List α}{i:Nat}(h:i<l.length):l.drop i=l[i]::l.drop (i+1):=bO h
theorem seenM_app(G:List BA)(p:BA):zDu (G++[p])=fun x=>if x=p then some (.bool true) else zDu G x:=by
 rw[<-seenM_cons]
 funext x
 unfold zDu
 have:zCU (G++[p]) x=zCU (p::G) x:=by
  rw[bU,zBe,zBe];simp[or_comm]
 rw[this]
theorem lic_get{P:De->Bool}{U:List De}{q:Nat}(h:q<(licL U P U.length).length):∃(k:Nat)(d:De),k<U.length/\(licL U P U.length)[q]?=some (k:Int)/\(U.filter P)[q]?=some d/\U[k]?=some d:=by
 obtain⟨k,hk,h2,e1,e2⟩:=lic_at h;exact⟨k,U[k],hk,by rw[List.getElem?_eq_getElem h,e1],by rw[List.getElem?_eq_getElem h2,e2],List.getElem?_eq_getElem hk⟩
theorem drop_get{α:Type}{l:List α}{q:Nat}{d:α}(h:l[q]?=some d):l.drop q=d::l.drop (q+1):=by
 obtain⟨hq,e⟩:=List.getElem?_eq_some_iff.1 h;rw[bO hq,e]
theorem flat_ints:∀l:List Int,l.flatMap zEh=l.map fun x=>Value.int .i64 x
 |[]=>rfl
 |a::l=>by rw[cP,flat_ints l];rfl
theorem own_ints{w:World}{base n c:Nat}{A:OA}{l:List Int}(h:zAv zEh 1 w base 3 (.slice A n c) l):∃bl,0<l.length->A=some ⟨bl,0,none⟩/\base<=bl/\bl<w.heap.size/\∀j z,l[j]?=some z->w.cell? ⟨bl,j,none⟩=some (.int .i64 z):=by
 obtain⟨A',c',e,hr⟩:=h.rdk
 injection e with e1 _ _
 subst e1
 rcases h.2 with ⟨h1,J⟩|⟨g,cap,cur,hv,I,hg,_⟩
 ·exact⟨0,fun h0=>za⟩
 ·injection hv with hv _ _
  refine⟨g,fun h0=>⟨hv,I,(Array.getElem?_eq_some_iff.1 hg).1,fun j z hz=>?_⟩⟩;obtain⟨b,o,e,hc⟩:=hr h0;rw[hv]at e
  injection e with e
  injection e with e1 e2 _
  subst e1;subst e2
  have:=hc j (.int .i64 z) (by
   rw[flat_ints,List.getElem?_map,hz];rfl)
  rwa [cO]at this
def MyR1(W:World)(gm:Nat)(U:List De)(ps:List BA)(Q:BA->De->Bool)(party:BA)(res:Bool)(n m:Nat)(qv:Value)(wr:World):Prop:=
 ∃(i b:Nat)(v:Value)(G:List BA),v=qv/\QuS wr b v (G.drop i)/\W.heap.size<=b/\zAt Value.string wr gm (zDu G)/\Giv ps G/\i<=G.length/\i+m=n/\mayN U Q party m i G=res/\Below W.heap.size W wr
def MyR2(W:World)(gm i bl lo hi:Nat)(Ls:List Int)(FL:List De)(ps:List BA)(party:BA)(sc:Option (List BA))(m:Nat)(qv iv:Value)(wr:World):Prop:=
 ∃(q b:Nat)(v:Value)(G:List BA),v=qv/\iv=.int .i64 (q:Nat)/\QuS wr b v (G.drop (i+1))/\W.heap.size<=b/\(b<lo\/hi<=b)/\hi<=wr.heap.size/\(∀j z,Ls[j]?=some z->wr.cell? ⟨bl,j,none⟩=some (.int .i64 z)) /\
  zAt Value.string wr gm (zDu G)/\Giv ps G/\i+1<=G.length/\q+m=Ls.length/\scanF party (FL.drop q) G=sc/\Below W.heap.size W wr
theorem may_c(RA:OA)(rc:Nat)(V:List Rg)(UA:OA)(O:Nat)(us:List BA)(DA:OA)(dc:Nat)(U:List De)(L n i:Nat)(S:BA)(day:Int)(th party ho:BA)(w:World)(hl:LgIs RA rc V UA O us DA dc U w L)(hd:Des w DA U)(J:(zAh V)[n]?=some i)(hul:∀d∈U,d.us.length<=1000000)(hdl:U.length<=200): Calls Tryz.prog 51 #[.pointer (some ⟨L,0,none⟩),.string th,.string party,.string ho,.agg (zDN n S day)] w (zAf (.bool (mayF V U i S day th party ho)) w):=by
 obtain⟨res,C⟩:∃res,res=mayF V U i S day th party ho:=⟨_,rfl⟩;rw[<-C];have HRES:=zq C;clear C;have hbw:Below w.heap.size w (w.alloc (.cells (zDN n S day) 90)):=(aR _ _).alloc (aK _) _;have HX:Hid (Bx (w.alloc (.cells (zDN n S day) 90)) w.heap.size (zDN n S day) 90):=Bx.new _ _ _;obtain⟨W,hW⟩:∃W,W=w.alloc (.cells (zDN n S day) 90):=⟨_,rfl⟩;rw[<-hW]at HX hbw;have HB:=zq hbw;have HLW:=zq (hl.below hbw);have HDW:=zq (hd.below hbw);have HUL:=zq hul;clear hl hd hul hbw;have HCO:=zq (controls_c RA rc V UA O us DA dc U L n i S day th ho W HLW.o HDW.o J HUL.o hdl);have HPS:=zq (ctlF_mem (V:=V) (U:=U) (i:=i) (S:=S) (day:=day) (th:=th) (ho:=ho));unfold mayF at HRES;obtain⟨c,hcc⟩:∃c,c=ctlF V U i S day th ho:=⟨_,rfl⟩;rw[<-hcc]at HCO HPS HRES;clear hcc;have hmm:=@run_makeMap Tryz.prog
 go_enter Tryz.func51,Tryz.ntmps51;(go_upto_region 1 with fail);rw[<-hW];clear hW;obtain⟨x0,x1,x2⟩:=HX.o.t;have hsx:=HX.o.lt;(go_wp2_with fail);(with_reducible refine HCO.o.mono ?_);rintro e w1⟨rfl,hb1⟩;have HB1:=zq hb1;clear hb1 HCO x0 x1 x2 hsx;(go_upto_region 2 with fail);obtain⟨w2,hw2⟩:∃w2,w2=w1.alloc (.cells #[.string c] 9):=⟨_,rfl⟩;rw[<-hw2];have hba:Below w1.heap.size w1 w2:=by rw[hw2];exact(aR _ _).alloc (aK _) _
 have HQ2:Hid (Bx w2 w1.heap.size #[.string c] 9):=by show Bx _ _ _ _;rw[hw2];exact Bx.new _ _ _
 have HB2:=zq (zAa HB1.o hba);have hs1:W.heap.size<=w1.heap.size:=HB1.o.size;have hs2:w1.heap.size<w2.heap.size:=HQ2.o.lt;clear hw2 hba;obtain⟨w4,hup,hm4,hg4,hz4⟩:=zAO (P:=Tryz.prog) tMapSB kStr (zAt.new Value.string w2) c (.bool true);have HM4:Hid (zAt Value.string w4 w2.heap.size (zDu [c])):=by show zAt _ _ _ _;rw[seenM_cons,seenM_nil];exact hm4
 have hba:Below w2.heap.size w2 (w2.alloc (.map #[] 0)):=(aR _ _).alloc (aK _) _;have HQ3:=zq (HQ2.o.below hba);have HQ4:Hid (Bx w4 w1.heap.size #[.string c] 9):=(hg4.block w1.heap.size HQ3.o.lt fun e=>by have:=fH e;omega).trans HQ3.o;have HB4:Hid (Below W.heap.size W w4):=zCK (zAa HB2.o hba) zg hg4 za;have hz5:w2.heap.size<w4.heap.size:=by rw[hz4];simp
 have q0:=HQ3.o.c 0 rfl;have ql:=HQ3.o.lt;have p0:=HQ4.o.c 0 rfl;have pl:=HQ4.o.lt;clear hm4 hg4 hz4 hba HQ2 HB2 HB1
 by_cases hcp:c=party
 ·have e1:=zAn hcp
  have HS:Hid (res=true):=by show _=_;rw[HRES.o,aF hcp]
  clear hcp;go_wp2;go_ret
  exact zAf.mk qf (zAa HB.o HB4.o)
 have e1:=zAp hcp;rw[aO hcp]at HRES;clear hcp;go_wp2;clear hup hmm q0 ql p0 pl e1;obtain⟨gm,hgm⟩:∃gm,gm=w2.heap.size:=⟨_,rfl⟩;have hgm2:W.heap.size<=gm:=za;have hgm3:gm<w4.heap.size:=za;rw[<-hgm]at HM4 ⊢;clear hgm
 go_loopg[11] (U.length+2) (MyR1 W gm U (ho::U.map De.to_) (fun g=>zBN V U i S day th g false) party res (U.length+2))
 case atStart=>exact⟨0,w1.heap.size,_,[c],rfl,QuS.one HQ4.o,hs1,HM4.o,Giv.one HPS.o,cZ _,za,HRES.o.symm,HB4.o⟩
 clear HM4 HQ4 HB4 HQ3 HPS HRES hz5 hs1 hs2 hgm3
 case round =>
  obtain⟨j,b,v,G,rfl,hq,hbb,hm,hgv,hjl,hjm,hmy,I⟩:=hrel;have HQ:=zq hq;have HM:=zq hm;have HG:=zq hgv;have HJ:=zq hjm;have HMY:=zq hmy;have HBW:=zq I;have hgl:G.length<=U.length+1:=by simpa using hgv.len
  clear hq hm hgv hjm hmy I
  by_cases Y:j<G.length
  ·obtain⟨f,rfl⟩:∃f,gk=f+1:=⟨gk-1,ya⟩
   obtain⟨g,hg⟩:∃g,G[j]=g:=⟨_,rfl⟩;have hdr:=drop_cons' Y;rw[hg]at hdr;have HYES:=zq (mayN_yes (U:=U) (Q:=fun g=>zBN V U i S day th g false) (party:=party) (f:=f) Y);have HNXT:=zq (fun G'=>mayN_next (U:=U) (Q:=fun g=>zBN V U i S day th g false) (party:=party) (f:=f) (G':=G') Y);simp only[hg]at HYES HNXT;rw[hdr]at HQ;clear hg hdr;obtain⟨off,cap,rfl,hc1,hc2,hcl⟩:=HQ.o.sl;have y0:wr.cell? ⟨b,off,none⟩=some (.string g):=hcl 0 ze;have hbl:b<wr.heap.size:=HQ.o.lt;have HQT:=zq HQ.o.tail;have hln:(G.drop (j+1)).length=G.length-(j+1):=dH;have HXW:=zq (HX.o.below HBW.o);have HLI:=zq (licences_c RA rc V UA O us DA dc U L n i S day th g false wr (HLW.o.below HBW.o) (HDW.o.below HBW.o) J HUL.o hdl);clear hcl HQ;simp only[bM]at hc1 hc2 ⊢;obtain⟨T,hT⟩:∃T,T=G.drop (j+1):=⟨_,rfl⟩;rw[<-hT]at HQT hln hc1 ⊢;have hTl:T.length<=1000000:=za;clear hln;have HT:=zq hT;clear hT;have k1:(0:Int)<(T.length:Int)+1:=za;have k2:(1:Int)<=(T.length:Int)+1:=za;unfold maxLen at hc2;obtain⟨x0,x1,x2⟩:=HXW.o.t;have hsx:=HXW.o.lt;(go_upto_region 8 with fail);obtain⟨v2,hv2⟩:∃v2,v2=Value.slice (if cap=1 then some ⟨b,off,none⟩ else some ⟨b,off+1,none⟩) T.length (cap-1):=⟨_,rfl⟩;rw[<-hv2]at HQT ⊢;clear hv2 k1 k2 hc1 hc2 y0;(go_wp2_with fail);(with_reducible refine HLI.o.mono ?_);rintro e w5⟨vl,rfl,ho5,hb5⟩;obtain⟨AL5,cL5,rfl,_⟩:=ho5.rdk;obtain⟨bl,hbl5⟩:=own_ints ho5;have hll:=licL_len U (zBN V U i S day th g false) U.length;have HLA:=zq (fun q (h:q<(licL U (zBN V U i S day th g false) U.length).length)=>lic_get h);have HLE:=zq (lic_len (U:=U) (P:=zBN V U i S day th g false));have HSF:=zq (fun G=>scanL_filter (zBN V U i S day th g false) party U G);obtain⟨Ls,hLs⟩:∃Ls,Ls=licL U (zBN V U i S day th g false) U.length:=⟨_,rfl⟩;obtain⟨FL,hFL⟩:∃FL,FL=U.filter (zBN V U i S day th g false):=⟨_,rfl⟩;simp only[<-hLs,<-hFL]at HLA HLE HSF hll hbl5 ⊢;clear hLs hFL ho5;have HB5:=zq (zAa HBW.o hb5);have HM5:=zq (HM.o.below hb5);have HQ5:=zq (HQT.o.below hb5);have hs5:=hb5.size;have hgm5:gm<wr.heap.size:=HM.o.lt;obtain⟨sc,hsc⟩:∃sc,sc=scanF party FL G:=⟨_,rfl⟩
   have HYS:Hid (sc=none->res=true):=fun h=>by
    rw[<-HMY.o];exact HYES.o (by rw[HSF.o,<-hsc,h])
   have HNS:Hid (∀G',sc=some G'->mayN U (fun g=>zBN V U i S day th g false) party f (j+1) G'=res):=fun G' h=>by
    rw[<-HMY.o];exact(HNXT.o G' (by rw[HSF.o,<-hsc,h])).symm
   obtain⟨lo,hlo⟩:∃lo,lo=wr.heap.size:=⟨_,rfl⟩;obtain⟨hi,hhi⟩:∃hi,hi=w5.heap.size:=⟨_,rfl⟩;rw[<-hlo]at hbl hgm5 hs5 hbl5;rw[<-hhi]at hs5 hbl5;rw[HT.o]at HQ5;have HBL:=zq hbl5;have HM2:Hid (MyR2 W gm j bl lo hi Ls FL (ho::U.map De.to_) party sc Ls.length v2 (.int .i64 0) w5):=⟨0,b,v2,G,rfl,rfl,HQ5.o,hbb,.inl hbl,za,fun q z hz=>(hbl5 (by have:=(List.getElem?_eq_some_iff.1 hz).1;omega)).2.2.2 q z hz,HM5.o,HG.o,Y,za,hsc.symm,HB5.o⟩;clear hsc hlo hhi hb5 hbl5 HQ5 HM5 HB5 HQT HM HBW HLI HXW x0 x1 x2 hsx HYES HNXT HSF HMY HG HT hbl hbb;go_wp2
   go_loopg[11,47] Ls.length (MyR2 W gm j bl lo hi Ls FL (ho::U.map De.to_) party sc)
   case atStart=>exact HM2.o
   clear HM2
   case round =>
    obtain⟨q,b,v,G,rfl,rfl,hq,hbb,hbr,hhs,hcl,hm,hgv,hjl,hqm,hsf,I⟩:=hrel;have HQ:=zq hq;have HM:=zq hm;have HG:=zq hgv;have HK:=zq hqm;have HSC:=zq hsf;have HBW:=zq I;have HCL:=zq hcl;clear hq hm hgv hqm hsf I hcl
    by_cases hql:q<Ls.length
    ·obtain⟨k,d,hk,e1,e2,e3⟩:=HLA.o q hql
     obtain⟨hA,hb1,D,_⟩:=HBL.o za;subst hA;have c0:=HCL.o q _ e1;have hbls:bl<wr.heap.size:=za;obtain⟨bd,od,hA,hbd0,hcd⟩:=HDW.o za;subst hA;obtain⟨hk2,e3⟩:=List.getElem?_eq_some_iff.1 e3;have hp:=(hcd k hk).1;rw[e3]at hp;have N:wr.rangeAt bd (od+k*16) (deC d).toList:=fun q v hv=>(HBW.o.cell (p:=⟨bd,od+k*16+q,none⟩) hbd0).trans (hp q v hv)
     have HDM:Hid (d.to_∈ho::U.map De.to_):=to_mem (by rw[<-e3];exact aH hk) ho;have HSC2:=HSC.o;rw[drop_get e2]at HSC2;have HSC2:=zq HSC2;obtain⟨r1,r2,g1,g2,ALx,cLx,vr,vi,ins,base,hlx,_⟩:=HLW.o.below HBW.o;have l2:=hlx.c 2 rfl;have hsl:=hlx.lt;clear hcd hp e1 e2 e3 hlx;(go_upto_region 11 with fail);clear c0;(iterate 23 go_step);refine fG _ _ zk bd (od+k*16) zk (deC d).toList _ N Tryz.underlying126 rfl zc ?_;clear N l2 hsl;(go_upto_region 12 with fail);obtain⟨wd,hwd⟩:∃wd,wd=wr.alloc (.cells (deC d) 126):=⟨_,rfl⟩;rw[<-hwd];have hbd:Below wr.heap.size wr wd:=zm;have HDX:Hid (Bx wd wr.heap.size (deC d) 126):=zo;have HBD:=zq (zAa HBW.o hbd);have HMD:=zq (HM.o.below hbd);have HQD:=zq (HQ.o.below hbd);have HCD:Hid (∀q z,Ls[q]?=some z->wd.cell? ⟨bl,q,none⟩=some (.int .i64 z)):=fun q z hz=>zAe hbd (HCL.o q z hz)
     have hgmr:gm<wr.heap.size:=HM.o.lt;have hsd:wr.heap.size<wd.heap.size:=HDX.o.lt;have hbr0:b<wr.heap.size:=HQ.o.lt;clear hwd hbd HBW HM HQ HCL;have d5:wd.cell? ⟨wr.heap.size,5,none⟩=some (.string d.to_):=HDX.o.c 5 rfl;have d9:wd.cell? ⟨wr.heap.size,9,none⟩=some (.bool d.sb):=HDX.o.c 9 rfl
     by_cases htp:d.to_=party
     ·have q1:=zAn htp
      have HS:Hid (res=true):=HYS.o (by rw[<-HSC2.o,scanF_hit htp]);clear htp;go_wp2;go_ret
      exact zAf.mk qf (zAa HB.o HBD.o)
     have q1:=zAp htp;have HTP:=zq htp;have hlk:=zAA tMapSB kStr zBoolS HMD.o d.to_ false;clear htp
     cases hsb:d.sb with
     |false =>
      have HSN:Hid (scanF party (FL.drop (q+1)) G=sc):=by show _=_;rw[<-HSC2.o,scanF_old HTP.o (by rw[hsb];rfl)]
      rw[hsb]at d9;clear hlk hsb;exact tb1
     |true =>
      rw[hsb]at d9
      cases hms:zCU G d.to_ with
      |true =>
       have HSN:Hid (scanF party (FL.drop (q+1)) G=sc):=by show _=_;rw[<-HSC2.o,scanF_old HTP.o (by rw[hms];simp)]
       rw[show zDu G d.to_=some (.bool true) by unfold zDu;rw[aF hms]]at hlk;simp only[eR,aL,cB]at hlk;clear hms hsb;exact tb1
      |false =>
       have HSN:Hid (scanF party (FL.drop (q+1)) (G++[d.to_])=sc):=by show _=_;rw[<-HSC2.o,scanF_new HTP.o hsb hms]
       have HGN:=zq (HG.o.add HDM.o hms);rw[show zDu G d.to_=none by unfold zDu;rw[aO (by rw[hms];simp)]]at hlk;simp only[eR,aL,eQ]at hlk;clear hms hsb;obtain⟨wu,hup,hmu,hgu,hsu⟩:=zAO (P:=Tryz.prog) tMapSB kStr HMD.o d.to_ (.bool true);have HMU:Hid (zAt Value.string wu gm (zDu (G++[d.to_]))):=by show zAt _ _ _ _;rw[seenM_app];exact hmu
       have hne1:b≠gm:=HQD.o.map_ne HMD.o;have HQU:=zq (HQD.o.grown hgu hne1);have HBU:=zq (zCK HBD.o HBD.o.size hgu hgm2);have HDU:Hid (Bx wu wr.heap.size (deC d) 126):=(hgu.block wr.heap.size HDX.o.lt fun e=>by have:=fH e;omega).trans HDX.o;have HCU:Hid (∀q z,Ls[q]?=some z->wu.cell? ⟨bl,q,none⟩=some (.int .i64 z)):=fun q z hz=>(World.cell?_of_block (a:=⟨bl,q,none⟩) (hgu.block bl za fun e=>by have:=fH e;omega)).trans (HCD.o q z hz)
       have hba:Below wu.heap.size wu (wu.alloc (.cells #[.string d.to_] 9)):=(aR _ _).alloc (aK _) _;have HQV:=zq (HQU.o.below hba);have HMV:=zq (HMU.o.below hba);have HBV:=zq (zAa HBU.o hba);have HCV:Hid (∀q z,Ls[q]?=some z->(wu.alloc (.cells #[.string d.to_] 9)).cell? ⟨bl,q,none⟩=some (.int .i64 z)):=fun q z hz=>zAe hba (HCU.o q z hz)
       have HNV:Hid ((wu.alloc (.cells #[.string d.to_] 9)).cell? ⟨wu.heap.size,0,none⟩=some (.string d.to_)):=(Bx.new wu #[.string d.to_] 9).c 0 rfl
       have hdl2:(G.drop (j+1)).length<=1000000:=by
        rw[dH];have:=HG.o.len;simp only[bM,bZ]at this;omega
       have u5:wu.cell? ⟨wr.heap.size,5,none⟩=some (.string d.to_):=HDU.o.c 5 rfl;have ul:wr.heap.size<wu.heap.size:=HDU.o.lt;clear hmu hgu hsu hba HMD HQD HBD HCD HDX HMU HQU HBU HCU HDU
       go_wp2_with (at_builtin;refine wpList_pushQ _ _ rfl rfl b v (G.drop (j+1)) rfl HQV.o d.to_ wu.heap.size rfl HNV.o hdl2 ?_;intro v3 w6 b3 hq3 hb3 hg3)
       have HQ6:Hid (QuS w6 b3 v3 ((G++[d.to_]).drop (j+1))):=by show QuS _ _ _ _;rw[List.drop_append_of_le_length hjl];exact hq3
       have hvl:wu.heap.size<(wu.alloc (.cells #[.string d.to_] 9)).heap.size:=ze;have HB6:=zq (zCK HBV.o HBV.o.size hg3 hbb);have HM6:Hid (zAt Value.string w6 gm (zDu (G++[d.to_]))):=HMV.o.keep (hg3.block gm HMV.o.lt fun e=>hne1 (fH e).symm);have HC6:Hid (∀q z,Ls[q]?=some z->w6.cell? ⟨bl,q,none⟩=some (.int .i64 z)):=fun q z hz=>(World.cell?_of_block (a:=⟨bl,q,none⟩) (hg3.block bl za fun e=>by have:=fH e;omega)).trans (HCV.o q z hz)
       have hs6:=hg3.size;have hb31:W.heap.size<=b3:=by rcases hb3 with h|h<;>omega
       have hb32:b3<lo\/hi<=b3:=by rcases hb3 with h|h<;>omega
       have hjl2:j+1<=(G++[d.to_]).length:=by rw[eA];omega
       clear hq3 hb3 hg3 hlk hup u5 d5 d9 q1 HQV HMV HBV HCV HNV;go_wp2
       go_roundg (gk-1)
       case measure=>have:=HK.o;omega
       case rel=>exact⟨q+1,b3,v3,G++[d.to_],rfl,zi,HQ6.o,hb31,hb32,za,HC6.o,HM6.o,HGN.o,hjl2,zh,HSN.o,HB6.o⟩
    ·have hqe:q=Ls.length:=by have:=HK.o;omega
     have hfl:FL.length<=q:=by rw[hqe,HLE.o];exact aK _
     have HRS:Hid (mayN U (fun g=>zBN V U i S day th g false) party f (j+1) G=res):=HNS.o G (by
      rw[<-HSC.o,List.drop_eq_nil_of_le hfl];rfl)
     clear hfl hqe;go_wp2
     go_roundg f
     case measure=>omega
     case rel=>exact⟨j+1,b,v,G,rfl,HQ.o,hbb,HM.o,HG.o,hjl,ya,HRS.o,HBW.o⟩
  ·have hje:G.drop j=[]:=List.drop_eq_nil_of_le za
   have HS:Hid (res=false):=by show _=_;rw[<-HMY.o];exact mayN_end za
   rw[hje]at HQ;obtain⟨off,cap,rfl,_⟩:=HQ.o.sl;simp only[aY];clear hje;go_wp2;go_ret
   exact zAf.mk qf (zAa HB.o HBW.o)
end Go.Proofs.YtbbchlpccgkikaaGreatDoor
namespace Go.Proofs
open Go.Shelf
def Tryz.sortI64_ren:Go.Shelf.Ren:=⟨fun|5=>128|8=>159|7=>189|19=>217|20=>218|10=>244|11=>245|12=>246|13=>247|14=>248|15=>249|16=>250|17=>251|18=>252|30=>293|31=>273|32=>274|33=>294|34=>295|35=>262|40=>323|n=>n,fun|23=>68|25=>3|3=>3|32=>248|22=>68|0=>0|44=>254|46=>253|4=>4|36=>293|35=>292|41=>156|5=>5|9=>9|53=>333|57=>337|63=>358|64=>257|n=>n,fun|n=>n⟩
theorem Tryz.sortI64:Go.Proofs.SlLaysM.n5 Tryz.prog Tryz.sortI64_ren:={
 mixed:=zc
 f5:=⟨Tryz.f128.name,zd,Tryz.func128.trans (bE some zc)⟩
 f7:=⟨Tryz.f189.name,zd,Tryz.func189.trans (bE some zc)⟩
 f8:=Tryz.func159.trans (bE some zc)
 f10:=⟨Tryz.f244.name,zd,Tryz.func244.trans (bE some zc)⟩
 f11:=⟨Tryz.f245.name,zd,Tryz.func245.trans (bE some zc)⟩
 f12:=⟨Tryz.f246.name,zd,Tryz.func246.trans (bE some zc)⟩
 f13:=⟨Tryz.f247.name,zd,Tryz.func247.trans (bE some zc)⟩
 f14:=⟨Tryz.f248.name,zd,Tryz.func248.trans (bE some zc)⟩
 f15:=⟨Tryz.f249.name,zd,Tryz.func249.trans (bE some zc)⟩
 f16:=⟨Tryz.f250.name,zd,Tryz.func250.trans (bE some zc)⟩
 f17:=⟨Tryz.f251.name,zd,Tryz.func251.trans (bE some zc)⟩
 f18:=⟨Tryz.f252.name,zd,Tryz.func252.trans (bE some zc)⟩
 f19:=Tryz.func217.trans (bE some zc)
 f20:=Tryz.func218.trans (bE some zc)
 f30:=⟨Tryz.f293.name,zd,Tryz.func293.trans (bE some zc)⟩
 f31:=Tryz.func273.trans (bE some zc)
 f32:=Tryz.func274.trans (bE some zc)
 f33:=⟨Tryz.f294.name,zd,Tryz.func294.trans (bE some zc)⟩
 f34:=⟨Tryz.f295.name,zd,Tryz.func295.trans (bE some zc)⟩
 f35:=⟨Tryz.f262.name,zd,Tryz.func262.trans (bE some zc)⟩
 f40:=⟨Tryz.f323.name,zd,Tryz.func323.trans (bE some zc)⟩
 t0:=Tryz.underlying0
 a0:=Tryz.isAgg0
 z0:=Tryz.sizeOf0
 v0:=Tryz.zeroValue0
 t3:=Tryz.underlying3
 a3:=Tryz.isAgg3
 z3:=Tryz.sizeOf3
 v3:=Tryz.zeroValue3
 t4:=Tryz.underlying4
 a4:=Tryz.isAgg4
 z4:=Tryz.sizeOf4
 v4:=Tryz.zeroValue4
 t5:=Tryz.underlying5
 a5:=Tryz.isAgg5
 z5:=Tryz.sizeOf5
 v5:=Tryz.zeroValue5
 t9:=Tryz.underlying9
 a9:=Tryz.isAgg9
 z9:=Tryz.sizeOf9
 v9:=Tryz.zeroValue9
 t22:=Tryz.underlying68
 a22:=Tryz.isAgg68
 z22:=Tryz.sizeOf68
 v22:=Tryz.zeroValue68
 t23:=Tryz.underlying68
 a23:=Tryz.isAgg68
 z23:=Tryz.sizeOf68
 v23:=Tryz.zeroValue68
 t25:=Tryz.underlying3
 a25:=Tryz.isAgg3
 z25:=Tryz.sizeOf3
 v25:=Tryz.zeroValue3
 t32:=Tryz.underlying248
 a32:=Tryz.isAgg248
 z32:=Tryz.sizeOf248
 v32:=Tryz.zeroValue248
 t35:=Tryz.underlying292
 a35:=Tryz.isAgg292
 z35:=Tryz.sizeOf292
 v35:=Tryz.zeroValue292
 t36:=Tryz.underlying293
 a36:=Tryz.isAgg293
 z36:=Tryz.sizeOf293
 v36:=Tryz.zeroValue293
 t41:=Tryz.underlying156
 a41:=Tryz.isAgg156
 z41:=Tryz.sizeOf156
 v41:=Tryz.zeroValue156
 t44:=Tryz.underlying254
 a44:=Tryz.isAgg254
 z44:=Tryz.sizeOf254
 v44:=Tryz.zeroValue254
 t46:=Tryz.underlying253
 a46:=Tryz.isAgg253
 z46:=Tryz.sizeOf253
 v46:=Tryz.zeroValue253
 t53:=Tryz.underlying333
 a53:=Tryz.isAgg333
 z53:=Tryz.sizeOf333
 v53:=Tryz.zeroValue333
 t57:=Tryz.underlying337
 a57:=Tryz.isAgg337
 z57:=Tryz.sizeOf337
 v57:=Tryz.zeroValue337
 t63:=Tryz.underlying358
 a63:=Tryz.isAgg358
 z63:=Tryz.sizeOf358
 v63:=Tryz.zeroValue358
 t64:=Tryz.underlying257
 a64:=Tryz.isAgg257
 z64:=Tryz.sizeOf257
 v64:=Tryz.zeroValue257 }
def Tryz.compI65_ren:Go.Shelf.Ren:=⟨fun|43=>129|n=>n,fun|22=>68|23=>3|3=>3|4=>4|0=>0|n=>n,fun|n=>n⟩
theorem Tryz.compI65:Go.Proofs.SlLaysN.n43 Tryz.prog Tryz.compI65_ren:={
 mixed:=zc
 f43:=⟨Tryz.f129.name,zd,Tryz.func129.trans (bE some zc)⟩
 t0:=Tryz.underlying0
 a0:=Tryz.isAgg0
 z0:=Tryz.sizeOf0
 v0:=Tryz.zeroValue0
 t3:=Tryz.underlying3
 a3:=Tryz.isAgg3
 z3:=Tryz.sizeOf3
 v3:=Tryz.zeroValue3
 t4:=Tryz.underlying4
 a4:=Tryz.isAgg4
 z4:=Tryz.sizeOf4
 v4:=Tryz.zeroValue4
 t22:=Tryz.underlying68
 a22:=Tryz.isAgg68
 z22:=Tryz.sizeOf68
 v22:=Tryz.zeroValue68
 t23:=Tryz.underlying3
 a23:=Tryz.isAgg3
 z23:=Tryz.sizeOf3
 v23:=Tryz.zeroValue3
 i23:=by kernel_rfl }
end Go.Proofs
namespace Go.Proofs.YtbbchlpccgkikaaGreatDoor
open Go.Shelf Go.RowKit Go.Lib Go.Sort Dw
theorem mem_compactI(zs:List Int):∀x,x∈Lib.compact zs↔x∈zs:=by
 have key:∀(d:Array Int)(m:Nat),m<=d.size->∀x,x∈compactUpTo d m↔∃j,j<m/\d[j]! = x:=by
  intro d m
  induction m with
  |zero=>intro _ x;simp[compactUpTo]
  |succ m ih =>
   intro hm x;rw[compactUpTo_succ,eY,ih za]
   constructor
   ·rintro(⟨j,hj,e⟩|h)
    ·exact⟨j,za,e⟩
    ·split at h
     ·exact⟨m,za,(List.mem_singleton.1 h).symm⟩
     ·cases h
   ·rintro⟨j,hj,e⟩
    by_cases hjm:j<m
    ·exact .inl ⟨j,hjm,e⟩
    ·obtain rfl:j=m:=by omega
     cases hk:keeps d j with
     |true=>exact .inr (by rw[aF rfl,e];exact List.mem_singleton.2 rfl)
     |false =>
      unfold keeps at hk;have hk2:=of_decide_eq_false hk;have h0:j≠0:=fun h=>hk2 (.inl h)
      have h1:d[j]! = d[j-1]!:=bY fun h=>hk2 (.inr h)
      exact .inl ⟨j-1,za,by rw[<-h1];exact e⟩
 intro x;unfold Lib.compact;rw[key zs.toArray zs.length ze]
 constructor
 ·rintro⟨j,hj,e⟩
  rw[<-e,getElem!_pos _ _ yh];simp
 ·intro h
  obtain⟨j,hj,e⟩:=bD h;exact⟨j,hj,by rw[getElem!_pos _ _ yh];simpa using e⟩
theorem compact_sorted{zs:List Int}(h:zs.Pairwise (·<=·)):(Lib.compact zs).Pairwise (· < ·):=by
 have hle:∀a b:Nat,a<=b->b<zs.toArray.size->zs.toArray[a]!<=zs.toArray[b]!:=fun a b hab I=>by
  rw[getElem!_pos _ a za,getElem!_pos _ b I]
  rcases aI a b with Y|hge
  ·simpa using List.pairwise_iff_getElem.1 h a b (by simp at I;omega) (by simpa using I) Y
  ·obtain rfl:a=b:=by omega
   exact Int.le_refl _
 have key:∀m,m<=zs.toArray.size->(compactUpTo zs.toArray m).Pairwise (· < ·)/\∀x∈compactUpTo zs.toArray m,∃j,j<m/\zs.toArray[j]! = x:=fun m=>by
  induction m with
  |zero=>intro _;simp[compactUpTo]
  |succ m ih =>
   intro hm;obtain⟨i1,i2⟩:=ih za;rw[compactUpTo_succ]
   cases hk:keeps zs.toArray m with
   |false =>
    rw[aO ze,bV];exact⟨i1,fun x hx=>by obtain⟨j,hj,e⟩:=i2 x hx;exact⟨j,za,e⟩⟩
   |true =>
    rw[aF rfl];refine⟨List.pairwise_append.2 ⟨i1,ze,fun x hx y hy=>?_⟩,fun x hx=>?_⟩
    ·obtain⟨j,hj,e⟩:=i2 x hx
     rw[List.mem_singleton.1 hy,<-e];unfold keeps at hk;have hk2:=fE hk
     rcases hk2 with h0|hne
     ·omega
     ·have a1:=hle j (m-1) za za
      have a2:=hle (m-1) m za za;omega
    ·rcases List.mem_append.1 hx with hx|hx
     ·obtain⟨j,hj,e⟩:=i2 x hx;exact⟨j,za,e⟩
     ·exact⟨m,za,(List.mem_singleton.1 hx).symm⟩
 exact(key zs.length ze).1
def IntsAt(w:World)(g:Nat)(l:List Int):Prop:=Holds (Value.int .i64) w g 0 l.toArray
theorem own_holds{w:World}{base g cap:Nat}{l:List Int}(h:zAv zEh 1 w base 3 (.slice (some ⟨g,0,none⟩) l.length cap) l)(h0:0<l.length):base<=g/\g<w.heap.size/\IntsAt w g l/\l.length<=cap:=by
 obtain⟨hbase,cs,hcs⟩:=zBc h (g:=g) rfl;refine⟨hbase,(Array.getElem?_eq_some_iff.1 hcs).1,fun j hj=>⟨?_,dO w g _ cs _ hcs⟩,?_⟩
 ·obtain⟨bl,hbl⟩:=own_ints h
  obtain⟨e,_,_,hc⟩:=hbl h0
  injection e with e
  injection e with e _ _
  subst e;have hj':j<l.length:=yh;rw[cO,hc j _ (List.getElem?_eq_getElem hj')];rw[getElem!_pos l.toArray j hj];simp
 ·rcases h.2 with ⟨_,J⟩|⟨g',cap',cur,hv,_,_,hnc,_⟩
  ·omega
  ·injection hv with _ _ hv
   rw[hv];exact hnc
theorem sortI_c(g cap:Nat)(L:List Int)(base:Nat)(w:World)(I:base<=g)(hg:g<w.heap.size)(hH:IntsAt w g L)(hl:L.length<=1000000): Calls Tryz.prog 128 #[.slice (some ⟨g,0,none⟩) L.length cap] w fun e w'=>e=.returned (.tuple #[])/\∃L':List Int,L'.length=L.length/\L'.Pairwise (·<=·)/\(∀x,x∈L'↔x∈L)/\IntsAt w' g L'/\g<w'.heap.size/\Below base w w':=by
 have hS:=AnyM.slices_Sort_int Tryz.sortI64 g 0 cap L w hH hg za;change Calls Tryz.prog 128 _ _ _ at hS;refine hS.mono fun e w' ⟨he,n,os,hw⟩=>⟨he,L.mergeSort fun x y=>decide (x<=y),ze,?_,fun x=>ze,?_,?_,?_⟩
 ·have h1:=List.pairwise_mergeSort (le:=fun x y:Int=>decide (x<=y)) (fun a b c h k=>by simp only[bX]at *;exact Int.le_trans h k) (fun a b=>by simp only[Bool.or_eq_true,bX];exact Int.le_total a b) L
  exact h1.imp fun h=>fE h
 ·have hh:=holds_sortWorld (Value.int .i64) w g 0 n L.toArray (L.mergeSort fun x y=>decide (x<=y)).toArray os hg hH ze
  rw[show w'=sortWorld (Value.int .i64) w g 0 n (L.mergeSort fun x y=>decide (x<=y)).toArray os from hw];exact hh
 ·rw[show w'=sortWorld (Value.int .i64) w g 0 n (L.mergeSort fun x y=>decide (x<=y)).toArray os from hw]
  exact lt_sortWorld _ _ _ _ _ _ _ hg
 ·rw[hw];exact below_putRow _ _ _ _ I hg
theorem compI_c(g cap:Nat)(L:List Int)(base:Nat)(w:World)(I:base<=g)(hg:g<w.heap.size)(hH:IntsAt w g L)(hl:L.length<=1000000)(hc:L.length<=cap): Calls Tryz.prog 129 #[.slice (some ⟨g,0,none⟩) L.length cap] w fun e w'=>∃L':List Int,e=.returned (.slice (some ⟨g,0,none⟩) L'.length cap)/\L'.length<=L.length/\(L.Pairwise (·<=·)->L'.Pairwise (· < ·))/\(∀x,x∈L'↔x∈L)/\(∀j (h:j<L'.length),w'.cell? ⟨g,j,none⟩=some (.int .i64 L'[j]))/\Below base w w':=by
 have hS:=AnyG.slices_Compact_int Tryz.compI65 g 0 cap L w hH za hc;change Calls Tryz.prog 129 _ _ _ at hS;have hle:(Lib.compact L).length<=L.length:=by unfold Lib.compact compactUpTo;rw[bZ];exact dX (eH _ _) ze
 refine hS.mono fun e w' ⟨he,q,hw⟩=>⟨Lib.compact L,he,hle,compact_sorted,mem_compactI L,?_,?_⟩
 ·have hh:=holds_putRow (Value.int .i64) _ g 0 L.toArray (Lib.compact L++List.replicate (L.length-(Lib.compact L).length) 0).toArray (holds_ahead (Value.int .i64) w q g 0 L.toArray hH) zg
  rw[<-hw]at hh;intro j hj;have hj2:j<(Lib.compact L++List.replicate (L.length-(Lib.compact L).length) 0).toArray.size:=zg;have:=(hh j hj2).1;rw[cO]at this;rw[this];rw[getElem!_pos _ j hj2];simp only[eZ];rw[List.getElem_append_left hj]
 ·have:=below_putRow (Value.int .i64) q (Lib.compact L++List.replicate (L.length-(Lib.compact L).length) 0).toArray #[] I hg
  rw[grow_empty,<-hw]at this;exact this
end Go.Proofs.YtbbchlpccgkikaaGreatDoor
