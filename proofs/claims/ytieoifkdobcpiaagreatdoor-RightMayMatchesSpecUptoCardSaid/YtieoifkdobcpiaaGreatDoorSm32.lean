/- Parts of the proof, joined: Package right: open, and Runs. Package right: a ledger's valid. The re. -/
import Derived.Test.YtieoifkdobcpiaaGreatDoorSm31
import Derived.Test.YtieoifkdobcpiaaGreatDoorSm24
import Derived.BigRegion
set_option maxRecDepth 100000
set_option maxHeartbeats 8000000
namespace Go.Proofs.YtieoifkdobcpiaaGreatDoor
open Go.RowKit Dw
def openF (rs:List Rg) (us:List BA) (ds:List De) (ns:List BA):Int:=if zCI rs us ds≠0 then zCI rs us ds else if ns.all zBe=true then 0 else 5
def GivesOp (f:Int) (RA:Option Addr) (rc:Nat) (rs:List Rg) (UA:Option Addr) (uc:Nat) (us:List BA) (DA:Option Addr) (dc:Nat) (ds:List De) (w:World) (e:Ending) (w':World):Prop :=
 ∃ P,e = .returned (.tuple #[.pointer P,.int .i64 f])∧Below w.heap.size w w'∧(f≠0→P=none)∧(f=0→∃ L,P=some ⟨L,0,none⟩∧LgIs RA rc rs UA uc us DA dc ds w' L)
def OpR (w:World) (T:Array Value) (ns:List BA) (m:Nat) (i:Value) (wr:World):Prop :=
 Below w.heap.size w wr∧Bx wr w.heap.size T 26∧∃ j,j+m=ns.length∧i = .int .i64 (j:Nat)∧∀ q (hq:q<ns.length),q<j→zBe ns[q]=true
theorem open_c (RA:Option Addr) (rc:Nat) (rs:List Rg) (UA:Option Addr) (uc:Nat) (us:List BA) (DA:Option Addr) (dc:Nat) (ds:List De) (NA:Option Addr) (nc:Nat) (ns:List BA) (w:World)
  (hr:Rgs w RA rs) (hu:Strs w UA us) (hd:Des w DA ds) (hz:∀ i (h:i<rs.length),(rs[i]).nm.size≤9223372036854775807) (hz2:∀ i (h:i<us.length),(us[i]).size≤9223372036854775807)
  (hn:Strs w NA ns) (hnz:∀ i (h:i<ns.length),(ns[i]).size≤9223372036854775807) (hnl:ns.length≤10) (hdc:ds.length≤dc) :
  Calls Tryz.prog 24 #[.agg (tiC RA rc rs UA uc us DA dc ds),.slice NA ns.length nc] w (GivesOp (openF rs us ds ns) RA rc rs UA uc us DA dc ds w):=by
 generalize hres:openF rs us ds ns=res;have HR:=zq hres;clear hres;have HX:Hid (Bx (w.alloc (.cells (tiC RA rc rs UA uc us DA dc ds) 26)) w.heap.size (tiC RA rc rs UA uc us DA dc ds) 26):=Bx.new _ _ _;have HB:Hid (Below w.heap.size w (w.alloc (.cells (tiC RA rc rs UA uc us DA dc ds) 26))):=(aS _ _).alloc (aB _) _;obtain ⟨W,hW⟩:∃ W,W=w.alloc (.cells (tiC RA rc rs UA uc us DA dc ds) 26):=⟨_,rfl⟩;rw [←hW] at HX HB;have HCK:=zq (CheckT_c RA rc rs UA uc us DA dc ds W (hr.below HB.o) (hu.below HB.o) (hd.below HB.o) hz hz2);have HDw:=zq hd;have HRw:=zq hr;have HNw:=zq hn;have HNZ:=zq hnz;clear hr hu hd hn hnz
 go_enter Tryz.func24,Tryz.ntmps24
 go_upto_region 1 with fail
 rw [←hW];clear hW
 iterate 2 go_step
 refine fC _ _ zk w.heap.size 0 zk (tiC RA rc rs UA uc us DA dc ds).toList _ (zBZ HX.o) Tryz.underlying26 rfl zc ?_
 go_wp2_with fail
 with_reducible refine HCK.o.mono ?_
 rintro e w1 ⟨rfl,hb1⟩;have HB1:=zq (zAa HB.o hb1);have HX1:=zq (HX.o.below hb1);clear hb1 HCK HX HB
 by_cases hc:zCI rs us ds=0
 case neg =>
  have hcb:(zCI rs us ds != 0)=true:=by simpa using hc
  have HS:Hid (res=zCI rs us ds):=by show _=_;rw [←HR.o];unfold openF;rw [aE hc]
  have HN0:Hid (res≠0):=by show _≠_;rw [HS.o];exact hc
  clear hc;go_wp2;go_ret2
  exact ⟨none,jq,HB1.o,fun _=>rfl,fun h=>absurd h HN0.o⟩
 have HC:=zq hc;rw [hc];clear hc;obtain ⟨hcr,_,hdl⟩:=zCs HC.o;have HGR:=zq (good_of hcr)
 have HR2:Hid ((if ns.all zBe=true then (0:Int) else 5)=res):=by
  show _=_
  rw [←HR.o];unfold openF;rw [aC (show ¬ (zCI rs us ds≠0) by rw [HC.o];simp)]
 clear HR hcr;go_wp2
 go_loopg [16] ns.length (OpR w (tiC RA rc rs UA uc us DA dc ds) ns)
 case atStart=>exact ⟨HB1.o,HX1.o,0,za,rfl,fun q _ hq=>absurd hq za⟩
 clear HB1 HX1
 case round =>
  obtain ⟨hb,hx,j,hjm,rfl,hpre⟩:=hrel;have HB:=zq hb;have HX:=zq hx;have HJM:=zq hjm;have HP:=zq hpre;have hjk:j≤ns.length:=za;clear hb hx hjm hpre
  by_cases hlj:j<ns.length
  ·obtain ⟨b,o,hA,hb0,hc0⟩:=HNw.o.at_ za
   subst hA;obtain ⟨nj,hnj⟩:∃ nj,ns[j]=nj:=⟨_,rfl⟩;have hp:=hc0 j hlj;have hz0:=HNZ.o j hlj;rw [hnj] at hp hz0;have p0:wr.cell? ⟨b,o+j,none⟩=some (Value.string nj):=(HB.o.cell (p:=⟨b,o+j,none⟩) hb0).trans hp;have HNJ:=zq hnj;clear hp hc0 hnj
   go_wp2_with fail
   with_reducible refine (zCj nj _ hz0).mono ?_
   rintro e w2 ⟨rfl,hb2⟩;have HB2:=zq (zAa HB.o hb2);have HX2:=zq (HX.o.below hb2);clear hb2 p0 HB HX
   cases hin:zBe nj with
   | false =>
    have HS:Hid (res=5):=by
     show _=_
     rw [←HR2.o,aC fun h=>?_]
     have:=List.all_eq_true.1 h nj (by rw [←HNJ.o];exact aJ hlj)
     rw [hin] at this;cases this
    clear hin;go_wp2;go_ret2
    exact ⟨none,jq,HB2.o,fun _=>rfl,fun h=>absurd (HS.o.symm.trans h) zd⟩
   | true =>
    have HIN:=zq hin;clear hin;go_wp2
    go_roundg (gk - 1)
    case measure=>have:=HJM.o;omega
    case rel =>
     refine ⟨HB2.o,HX2.o,j+1,zr,zi,fun q hq h=>?_⟩
     rcases aU q j with h9 | h9
     ·exact HP.o q hq h9
     ·obtain rfl:q=j:=by omega
      rw [HNJ.o];exact HIN.o
  ·have HS:Hid (res=0):=by
    show _=_
    rw [←HR2.o,aE (List.all_eq_true.2 fun x hx=>?_)]
    obtain ⟨i,hi,rfl⟩:=aK hx;exact HP.o i hi za
   have x2:wr.cell? ⟨w.heap.size,2,none⟩=some (Value.slice DA ds.length dc):=HX.o.c 2 rfl;have hsx:=HX.o.lt;have HNL:=zq (newLedger_c RA rc rs UA uc us DA dc ds ds.length wr HGR.o (chkT_kind HC.o) (HRw.o.below HB.o) (HDw.o.below HB.o) (aB _) hdc hdl);go_upto_region 10 with fail
   iterate 2 go_step
   refine fC _ _ zk w.heap.size 0 zk (tiC RA rc rs UA uc us DA dc ds).toList _ (zBZ HX.o) Tryz.underlying26 rfl zc ?_
   go_wp2_with fail
   with_reducible refine HNL.o.mono ?_
   rintro e w2 ⟨L,rfl,hlg,hb2⟩;have HLG:=zq hlg;have HB2:=zq (zAa HB.o hb2);clear hb2 hlg x2 hsx HNL;go_wp2;go_ret2
   exact ⟨some ⟨L,0,none⟩,jq,HB2.o,fun h=>absurd HS.o h,fun _=>⟨L,rfl,by have:=HLG.o;rwa [bX] at this⟩⟩
theorem run_at {ds:List De} {base:Nat} {w:World} {vr:Value} (h:zAT eRun 2 w base 138 vr (ds.map (zCG ds))) {j:Nat} (hj:j<ds.length):∃ b o c,vr = .slice (some ⟨b,o,none⟩) ds.length c∧w.cell? ⟨b,o+j*2,none⟩=some (.int .i64 (zCG ds ds[j]).1)∧w.cell? ⟨b,o+j*2+1,none⟩=some (.int .i64 (zCG ds ds[j]).2):=by
 obtain ⟨A,c,rfl,hr⟩:=h.rdk;obtain ⟨b,o,rfl,hc⟩:=hr (by rw [aM];omega)
 have h0:=flat_at (enc:=eRun) (k:=2) (fun _=>rfl) (ds.map (zCG ds)) j (by rw [aM];exact hj) 0 za
 have h1:=flat_at (enc:=eRun) (k:=2) (fun _=>rfl) (ds.map (zCG ds)) j (by rw [aM];exact hj) 1 za
 rw [aN] at h0 h1;refine ⟨b,o,c,by rw [aM],hc _ _ h0,?_⟩
 rw [Nat.add_assoc];exact hc _ _ h1
abbrev sptC (n:Nat) (use:BA) (day:Int):Array Value:=#[.int .i64 (n:Int),.string use,.int .i64 day]
theorem zAg {w w':World} {a:Addr} {v:Value} (hb:Below w.heap.size w w') (h:w.cell? a=some v):w'.cell? a=some v:=by
 rw [hb.cell (block_lt_of_cell h)];exact h
theorem in_at {ds:List De} {rs:List Rg} {base:Nat} {w:World} {vi:Value} {ins:List (Value×List Bool)} (h:zAT eIn 1 w base 113 vi ins) (h5:ins.map Prod.snd=ds.map (insM rs)) (h6:∀ x∈ins,InS w x.1 x.2) {j:Nat} (hj:j<ds.length) :
  ∃ b o c x,vi = .slice (some ⟨b,o,none⟩) ds.length c∧w.cell? ⟨b,o+j,none⟩=some x∧InS w x (insM rs ds[j]):=by
 have hl:ins.length=ds.length:=by have:=bH List.length h5;simpa using this
 obtain ⟨A,c,rfl,hr⟩:=h.rdk;obtain ⟨b,o,rfl,hc⟩:=hr za;have h0:=flat_at (enc:=eIn) (k:=1) (fun _=>rfl) ins j za 0 za
 have h1:(ins[j]'(by omega)).2=insM rs ds[j]:=by
  have e:(ins.map Prod.snd)[j]?=(ds.map (insM rs))[j]?:=by rw [h5]
  rw [List.getElem?_map,List.getElem?_map,List.getElem?_eq_getElem za,List.getElem?_eq_getElem hj] at e
  simpa using e
 refine ⟨b,o,c,(ins[j]'(by omega)).1,by rw [hl],?_,?_⟩
 ·refine hc _ _ ?_
  rw [cA,cZ] at h0;rw [h0];rfl
 ·rw [←h1]
  exact h6 _ (aJ _)
theorem set_at {rs:List Rg} {d:De} {w:World} {x:Value} {n i:Nat} (hg:zAh d.kd=true) (h:InS w x (insM rs d)) (hn:(zAG rs)[n]?=some i):∃ go c,x = .slice (some ⟨go,0,none⟩) (inL rs d.ar).length c∧n<(inL rs d.ar).length∧go<w.heap.size∧w.cell? ⟨go,n,none⟩=some (.bool (lies rs d.ar i)):=by
 have hm:insM rs d=inL rs d.ar:=by unfold insM;rw [aE hg]
 rw [hm] at h;obtain ⟨hn1,hn2⟩:=List.getElem?_eq_some_iff.1 hn;have hl:n<(inL rs d.ar).length:=by unfold inL;rw [aM];exact hn1
 rcases h with ⟨_,h⟩ | ⟨go,c,rfl,hh⟩
 ·rw [h] at hl;simp at hl
 ·refine ⟨go,c,rfl,hl,zAi hh,?_⟩
  rw [aR _ go n _ _ _ hh,zDL _ _ hl];have e:(inL rs d.ar)[n]?=some (lies rs d.ar i):=by unfold inL;rw [List.getElem?_map,hn];rfl
  rw [(List.getElem?_eq_some_iff.1 e).2];simp [hl]
theorem runP_gives {ds:List De} {d:De} {day:Int} (h1:(zCG ds d).1≤day) (h2:day<(zCG ds d).2):zAh d.kd=true:=by
 cases hg:zAh d.kd with
 | true=>rfl
 | false =>
  exfalso
  unfold zCG at h1 h2;rw [aC (by rw [hg];simp)] at h1 h2
  simp at h1 h2
  omega
theorem valid_c (RA:Option Addr) (rc:Nat) (rs:List Rg) (UA:Option Addr) (uc:Nat) (us:List BA) (DA:Option Addr) (dc:Nat) (ds:List De) (L k n i:Nat) (use:BA) (day:Int) (w:World)
  (hl:LgIs RA rc rs UA uc us DA dc ds w L) (hd:Des w DA ds) (hk:k<ds.length) (hn:(zAG rs)[n]?=some i) (hul:(ds[k]).us.length≤1000000) :
  Calls Tryz.prog 66 #[.pointer (some ⟨L,0,none⟩),.int .i64 (k:Int),.agg (sptC n use day)] w (zAe (.bool (vB rs ds i use day ds[k])) w):=by
 obtain ⟨b,o,rfl,hb0,hc0⟩:=hd za;obtain ⟨hrg,hok⟩:=hc0 k hk;obtain ⟨d,hdd⟩:∃ d,ds[k]=d:=⟨_,rfl⟩;obtain ⟨r1,r2,g1,g2,AL,cL,vr,vi,ins,base,hlx,_,hrn,hin,hin2,hin3⟩:=hl;obtain ⟨rb,ro,rcap,hvr,c0,c1⟩:=run_at hrn hk;obtain ⟨ib,io,icap,x,hvi,ci,hix⟩:=in_at hin hin2 hin3 hk;subst hvr hvi;rw [hdd] at hrg hok c0 c1 hix hul ⊢;generalize hres:vB rs ds i use day d=res;have HR:=zq hres;have HOK:=zq hok;have HIX:=zq hix;have HLX:=zq hlx;have hbw:Below w.heap.size w (w.alloc (.cells (sptC n use day) 76)):=(aS _ _).alloc (aB _) _;have HX:Hid (Bx (w.alloc (.cells (sptC n use day) 76)) w.heap.size (sptC n use day) 76):=Bx.new _ _ _;obtain ⟨W,hW⟩:∃ W,W=w.alloc (.cells (sptC n use day) 76):=⟨_,rfl⟩;rw [←hW] at HX hbw;have HB:=zq hbw;have k0:W.cell? ⟨rb,ro+k*2,none⟩=some (.int .i64 (zCG ds d).1):=zAg hbw c0;have k1:W.cell? ⟨rb,ro+k*2+1,none⟩=some (.int .i64 (zCG ds d).2):=zAg hbw c1;have HCI:Hid (W.cell? ⟨ib,io+k,none⟩=some x):=zAg hbw ci;have HRG:Hid (W.rangeAt b (o+k*16) (deC d).toList):=fun j v hv=>zAg hbw (hrg j v hv)
 clear hres hok hix hlx hbw hrn hin hin2 hin3 c0 c1 ci hrg hc0 hdd
 have HRR:Hid (W.rangeAt rb (ro+k*2) [.int .i64 (zCG ds d).1,.int .i64 (zCG ds d).2]):=fun j v hv=>by
  match j,hv with
  | 0,hv=>injection hv with hv;subst hv;exact k0
  | 1,hv=>injection hv with hv;subst hv;exact k1
 clear k0 k1
 go_enter Tryz.func66,Tryz.ntmps66
 go_upto_region 1 with fail
 rw [←hW];clear hW;have HLW:=zq (HLX.o.below HB.o);have l9:=HLW.o.c 9 rfl;have hsl:=HLW.o.lt
 iterate 20 go_step
 refine fC _ _ zk rb (ro+k*2) zk [.int .i64 (zCG ds d).1,.int .i64 (zCG ds d).2] _ HRR.o Tryz.underlying138 rfl zc ?_
 clear l9 hsl;go_upto_region 2 with fail
 obtain ⟨W2,hW2⟩:∃ W2,W2=W.alloc (.cells (spC (zCG ds d)) 138):=⟨_,rfl⟩;rw [←hW2];have hb2:Below W.heap.size W W2:=by rw [hW2];exact (aS _ _).alloc (aB _) _
 have HS:Hid (Bx W2 W.heap.size (spC (zCG ds d)) 138):=by show Bx _ _ _ _;rw [hW2];exact Bx.new _ _ _
 have HBW:=zq (zAa HB.o hb2);have HX2:=zq (HX.o.below hb2);have HL2:=zq (HLW.o.below hb2);have CI2:=zq (zAg hb2 HCI.o);have RG2:Hid (W2.rangeAt b (o+k*16) (deC d).toList):=fun j v hv=>zAg hb2 (HRG.o j v hv)
 clear hW2 hb2 HX HLW HCI HRG HRR;obtain ⟨x0,x1,x2⟩:=HX2.o.t;have s0:=HS.o.c 0 rfl;have s1:=HS.o.c 1 rfl;have hsx:=HX2.o.lt;have hss:=HS.o.lt
 by_cases h1:(zCG ds d).1≤day
 ·have e1:decide ((zCG ds d).1≤day)=true:=cW h1
  by_cases h2:day<(zCG ds d).2
  ·have e2:decide (day<(zCG ds d).2)=true:=cW h2
   have hgv:=runP_gives h1 h2;obtain ⟨go,cg,rfl,hlt,hgw,hcell⟩:=set_at hgv HIX.o hn;have q0:W2.cell? ⟨go,n,none⟩=some (.bool (lies rs d.ar i)):=zAg HBW.o hcell;have q1:=CI2.out;have l10:=HL2.o.c 10 rfl;have hsl:=HL2.o.lt;have HR2:Hid ((lies rs d.ar i&&zDt d.us use)=res):=qo;have hnn:decide (n<(inL rs d.ar).length)=true:=cW hlt;clear h1 h2 hgv hcell HR CI2 HIX
   cases hli:lies rs d.ar i with
   | false =>
    rw [hli] at q0;have HV:Hid (res=false):=by show _=_;rw [←HR2.o,hli];rfl
    clear hli HR2
    go_quiet (fail)
    go_wp2;go_ret
    exact zAe.mk (zAs HV.o.symm) (zAd HBW.o _)
   | true =>
    rw [hli] at q0;have HV:Hid (res=zDt d.us use):=by show _=_;rw [←HR2.o,hli];rfl
    have l2:=HL2.o.c 2 rfl;have d11:=RG2.out 11 _ rfl
    have hcon:∀ m,Calls Tryz.prog 21 #[.slice d.usA d.us.length d.usc,.string use] (W2.drewN m) fun e w'=>e = .returned (.bool res)∧w'=W2.drewN m:=fun m =>
     (containsS_c d.usA d.usc d.us use (W2.drewN m) hul (HOK.o.uses.below (zAd HBW.o m))).mono fun e w' ⟨h1,h2⟩=>⟨by rw [h1,HV.o],h2.symm⟩
    have HCON:=zq hcon;clear hli HR2 hcon
    go_quiet ((go_at_call 21;exact Calls.quiet_of_same (HCON.o _)))
    go_wp2;go_ret
    exact zAe.mk rfl (zAd HBW.o _)
  ·have e2:decide (day<(zCG ds d).2)=false:=cX h2
   have HV:Hid (res=false):=qo;clear h1 h2
   go_quiet (fail)
   go_wp2;go_ret
   exact zAe.mk (zAs HV.o.symm) (zAd HBW.o _)
 ·have e1:decide ((zCG ds d).1≤day)=false:=cX h1
  have HV:Hid (res=false):=by show _=_;rw [←HR.o];unfold vB;rw [e1];rfl
  clear h1
  go_quiet (fail)
  go_wp2;go_ret
  exact zAe.mk (zAs HV.o.symm) (zAd HBW.o _)
structure Ho where
 pt:BA
 t:Value
 b:Value
 q:Rat
def NumT (w:World) (t b:Value) (q:Rat):Prop:=∃ A c A2 c2,t=lmV A c q.num.natAbs∧b=lmV A2 c2 q.den∧Lt w A c q.num.natAbs∧Lt w A2 c2 q.den
theorem NumT.below {w w':World} {t b:Value} {q:Rat} (h:NumT w t b q) (hb:Below w.heap.size w w'):NumT w' t b q:=by
 obtain ⟨A,c,A2,c2,e1,e2,h1,h2⟩:=h;exact ⟨A,c,A2,c2,e1,e2,h1.below hb,h2.below hb⟩
abbrev eHo:Ho→List Value:=fun x=>[.string x.pt,.bool false,x.t,x.b]
def HoOk (w:World) (l:List Ho):Prop:=∀ x∈l,NumT w x.t x.b x.q
theorem HoOk.below {w w':World} {l:List Ho} (h:HoOk w l) (hb:Below w.heap.size w w'):HoOk w' l:=fun x hx=>(h x hx).below hb
abbrev prH (l:List Ho):List (BA×Rat):=l.map fun x=>(x.pt,x.q)
theorem elHo:ElemT Tryz.prog 119 123 (.agg #[.string emp,.bool false,.slice none 0 0,.slice none 0 0]) 4 72:=⟨Tryz.underlying119,zc,rfl,zd⟩
theorem oneHo {w:World} {x:Ho} (h:NumT w x.t x.b x.q):∀ u∈eHo x,u.oneCell'=true:=by
 obtain ⟨A,c,A2,c2,e1,e2,_⟩:=h;intro u hu;simp only [eHo,List.mem_cons,List.not_mem_nil,or_false] at hu
 rcases hu with rfl | rfl | rfl | rfl
 ·rfl
 ·rfl
 ·rw [e1];rfl
 ·rw [e2];rfl
abbrev OwnH (w:World) (base:Nat) (v:Value) (l:List Ho):Prop:=zAT eHo 4 w base 123 v l
def GivesHo (PL:List (BA×Rat)) (w:World) (e:Ending) (w':World):Prop:=∃ v l,e = .returned v∧OwnH w' w.heap.size v l∧HoOk w' l∧prH l=PL∧Below w.heap.size w w'
theorem ho_at {w:World} {b o:Nat} {l:List Ho} (hc:∀ (j:Nat) (v:Value),(l.flatMap eHo)[j]?=some v→w.cell? ⟨b,o+j,none⟩=some v) {j:Nat} (hj:j<l.length):w.rangeAt b (o+j*4) (eHo l[j]):=fun q v hv=>by
 have hq:q<4:=by
  rcases aU q 4 with h | h
  ·exact h
  ·rw [List.getElem?_eq_none zn] at hv;cases hv
 have:=hc (j*4+q) v (by rw [flat_at (k:=4) (fun _=>rfl) l j hj q hq];exact hv)
 rwa [←Nat.add_assoc] at this
theorem ge_sle {p a:BA} (h:sle p a=true):Op.bytesLess a.toList p.toList=false:=by
 cases hb:Op.bytesLess a.toList p.toList with
 | false=>rfl
 | true =>
  have:=sle_false (a:=p) (b:=a) hb;rw [h] at this
  cases this
theorem nge_sle {p a:BA} (h:sle p a=false):Op.bytesLess a.toList p.toList=true:=zBJ h
def WiR (W:World) (l:List Ho) (p:BA) (q:Rat) (m:Nat) (ov dv iv:Value) (wr:World):Prop :=
 ∃ (j:Nat) (lo:List Ho) (done:Bool) (v:Value),v=ov∧j+m=l.length∧iv = .int .i64 (j:Int)∧dv = .bool done∧OwnH wr W.heap.size v lo∧HoOk W lo∧lo.length≤2*j ∧
  prH lo++withR p q done (prH (l.drop j))=withR p q false (prH l)∧Below W.heap.size W wr
theorem withR_cons (p:BA) (x:Rat) (done:Bool) (a:BA×Rat) (l:List (BA×Rat)):withR p x done (a::l)=((if (!done&&sle p a.1)=true then [(p,x)] else [])++(if a.1=p then [] else [a]))++withR p x (done || sle p a.1) l:=rfl
theorem prH_app (a b:List Ho):prH (a++b)=prH a++prH b:=eQ
theorem drop_prH {l:List Ho} {j:Nat} (h:j<l.length):prH (l.drop j)=(l[j].pt,l[j].q)::prH (l.drop (j+1)):=by
 rw [aF h];rfl
theorem findQ_cons (a:BA×Rat) (l:List (BA×Rat)) (p:BA):findQ (a::l) p=if a.1=p then a.2 else findQ l p:=by
 unfold findQ
 by_cases h:a.1=p
 ·rw [List.find?_cons_of_pos zn,aE h]
 ·rw [List.find?_cons_of_neg zn,aC h]
def PoR (W:World) (l:List Ho) (p:BA) (m:Nat) (iv:Value) (wr:World):Prop :=
 ∃ j:Nat,j+m=l.length∧iv = .int .i64 (j:Int)∧findQ (prH (l.drop j)) p=findQ (prH l) p∧wr=W
theorem partOf_c (A:Option Addr) (c:Nat) (l:List Ho) (p:BA) (w:World) (hr:RdK eHo w A l) (hk:HoOk w l) (hl:l.length≤1000000) :
  Calls Tryz.prog 100 #[.slice A l.length c,.string p] w (zCw false (findQ (prH l) p).num.natAbs (findQ (prH l) p).den w):=by
 have hbw:Below w.heap.size w (w.alloc (.cells zBE 45)):=(aS _ _).alloc (aB _) _;have HX:Hid (Bx (w.alloc (.cells zBE 45)) w.heap.size zBE 45):=Bx.new _ _ _;obtain ⟨W,hW⟩:∃ W,W=w.alloc (.cells zBE 45):=⟨_,rfl⟩;rw [←hW] at hbw HX;have HB:=zq hbw
 have HR:Hid (RdK eHo W A l):=fun hl0=>by
  obtain ⟨b,o,e,hc⟩:=hr hl0;exact ⟨b,o,e,fun j v hv=>zAg hbw (hc j v hv)⟩
 have HK:=zq (hk.below hbw);have HI:=zq (Int_0 W);clear hr hk hbw;obtain ⟨F,hF⟩:∃ F,findQ (prH l) p=F:=⟨_,rfl⟩;rw [hF];have HF:=zq hF;clear hF
 go_enter Tryz.func100,Tryz.ntmps100
 go_upto_region 1 with fail
 rw [←hW];clear hW;go_wp2
 go_loopg [5] l.length (PoR W l p)
 case atStart=>exact ⟨0,za,rfl,rfl,rfl⟩
 case round =>
  obtain ⟨j,hjm,rfl,hfq,hw⟩:=hrel;subst hw;have HJ:=zq hjm;have HFQ:=zq hfq;clear hjm hfq
  by_cases hlt:j<l.length
  ·obtain ⟨b,o,hA,hc⟩:=HR.o za
   subst hA;have hrg:=ho_at hc hlt;have hkx:=HK.o _ (aJ hlt);have HFQ2:=HFQ.o;rw [drop_prH hlt,findQ_cons] at HFQ2;have HFQ2:=zq HFQ2;generalize l[j]=x at *;obtain ⟨pt,t,b2,q2⟩:=x;obtain ⟨A3,c3,A4,c4,e3,e4,h3,h4⟩:=hkx;simp only at e3 e4;subst e3;subst e4;have x0:wr.cell? ⟨b,o+j*4,none⟩=some (.string pt):=hrg 0 _ rfl;have x1:wr.cell? ⟨b,o+j*4+1,none⟩=some (.bool false):=hrg 1 _ rfl;have x2:wr.cell? ⟨b,o+j*4+1+1,none⟩=some (.slice A3 (zAc BT q2.num.natAbs).length c3):=hrg 2 _ rfl;have x3:wr.cell? ⟨b,o+j*4+1+2,none⟩=some (.slice A4 (zAc BT q2.den).length c4):=hrg 3 _ rfl;have H3:=zq h3;have H4:=zq h4;clear hrg hc h3 h4
   by_cases hp:pt=p
   ·have q1:=zAn hp
    have HE:Hid (q2=F):=by
     show _=_
     have:=HFQ2.o;rw [aE hp,HF.o] at this;exact this
    have hE:=HE.o;subst hE;clear hp HE;obtain ⟨z0,z1,z2⟩:=HX.o.t;have zf:=HX.o.frozen;have zl:=HX.o.lt;go_wp2;refine dY (v:=nuV false A3 c3 q2.num.natAbs A4 c4 q2.den) (by simp [results,Tryz.results100,go_sem,z0,z1,z2]) rfl ⟨A3,c3,A4,c4,rfl,H3.o.setR HX.o _ _ _ _ _,H4.o.setR HX.o _ _ _ _ _,zBo HB.o za _ _ _⟩
   ·have q1:=zAm hp
    have HE:Hid (findQ (prH (l.drop (j+1))) p=findQ (prH l) p):=by
     show _=_
     have:=HFQ2.o;rw [aC hp] at this;exact this
    clear hp;go_wp2
    go_roundg (gk - 1)
    case measure=>have:=HJ.o;omega
    case rel=>exact ⟨j+1,yb,zi,HE.o,rfl⟩
  ·have hje:j=l.length:=by have:=HJ.o;omega
   subst hje
   have HE:Hid (F=0):=by
    show _=_
    have:=HFQ.o;rw [List.drop_length] at this;rw [←HF.o,←this]
    rfl
   have hE:=HE.o;subst hE
   go_wp2_with fail
   with_reducible refine HI.o.mono ?_
   rintro e w2 ⟨A3,c3,A4,c4,rfl,h3,h4,hb2⟩;have HX2:=zq (HX.o.below hb2);have HB2:=zq (zAa HB.o hb2);have H3:=zq h3;have H4:=zq h4;clear hb2 h3 h4;have zf:=HX2.o.frozen;have zl:=HX2.o.lt;obtain ⟨z0,z1,z2⟩:=HX2.o.t;go_wp2;refine dY (v:=nuV false A3 c3 0 A4 c4 1) (by simp [results,Tryz.results100,go_sem,z0,z1,z2]) rfl ⟨A3,c3,A4,c4,rfl,H3.o.setR HX2.o _ _ _ _ _,H4.o.setR HX2.o _ _ _ _ _,zBo HB2.o za _ _ _⟩
theorem with_c (A A1 A2:Option Addr) (c c1 c2:Nat) (l:List Ho) (p:BA) (q:Rat) (w:World) (hr:RdK eHo w A l) (hk:HoOk w l) (hl:l.length≤1000000) (h1:Lt w A1 c1 q.num.natAbs) (h2:Lt w A2 c2 q.den) :
  Calls Tryz.prog 98 #[.slice A l.length c,.string p,nuV false A1 c1 q.num.natAbs A2 c2 q.den] w (GivesHo (withR p q false (prH l)) w):=by
 have hbw:Below w.heap.size w (w.alloc (.cells (nuC false A1 c1 q.num.natAbs A2 c2 q.den) 45)):=(aS _ _).alloc (aB _) _;have HX:Hid (Bx (w.alloc (.cells (nuC false A1 c1 q.num.natAbs A2 c2 q.den) 45)) w.heap.size (nuC false A1 c1 q.num.natAbs A2 c2 q.den) 45):=Bx.new _ _ _;obtain ⟨W,hW⟩:∃ W,W=w.alloc (.cells (nuC false A1 c1 q.num.natAbs A2 c2 q.den) 45):=⟨_,rfl⟩;rw [←hW] at hbw HX;have HB:=zq hbw
 have HR:Hid (RdK eHo W A l):=fun hl0=>by
  obtain ⟨b,o,e,hc⟩:=hr hl0;exact ⟨b,o,e,fun j v hv=>zAg hbw (hc j v hv)⟩
 have HK:=zq (hk.below hbw);have HNT:Hid (NumT W (lmV A1 c1 q.num.natAbs) (lmV A2 c2 q.den) q):=⟨A1,c1,A2,c2,rfl,rfl,h1.below hbw,h2.below hbw⟩;clear hr hk h1 h2 hbw
 go_enter Tryz.func98,Tryz.ntmps98
 go_upto_region 1 with fail
 rw [←hW];clear hW;go_wp2
 go_loopg [7,8,9] l.length (WiR W l p q)
 case atStart=>exact ⟨0,[],false,_,rfl,za,rfl,rfl,zAT.nil _ _ _ _ _,fun x hx=>(by cases hx),ze,rfl,aS _ _⟩
 case round =>
  obtain ⟨j,lo,done,v,rfl,hjm,rfl,rfl,hown,hok,hlo,hpr,hb⟩:=hrel;have HJ:=zq hjm;have HOW:=zq hown;have HOK:=zq hok;have HPR:=zq hpr;have HBW:=zq hb;have HX1:=zq (HX.o.below hb);have HN1:=zq (HNT.o.below hb);clear hjm hown hok hpr hb
  by_cases hlt:j<l.length
  ·obtain ⟨b,o,hA,hc⟩:=HR.o za
   subst hA;have hrg0:=ho_at hc hlt;have hrg:wr.rangeAt b (o+j*4) (eHo l[j]):=fun i v hv=>zAg HBW.o (hrg0 i v hv)
   have hkx:=HK.o _ (aJ hlt);have HDP:=zq (drop_prH hlt);have HKX:=zq hkx;generalize l[j]=x at *;obtain ⟨pt,t,b2,q2⟩:=x;obtain ⟨A3,c3,A4,c4,e3,e4,h3,h4⟩:=HKX.o;simp only at e3 e4;subst e3;subst e4;have x0:wr.cell? ⟨b,o+j*4,none⟩=some (.string pt):=hrg 0 _ rfl;have HRW:Hid (W.rangeAt b (o+j*4) (eHo ⟨pt,lmV A3 c3 q2.num.natAbs,lmV A4 c4 q2.den,q2⟩)):=hrg0;have HN3:Hid (NumT W (lmV A3 c3 q2.num.natAbs) (lmV A4 c4 q2.den) q2):=⟨A3,c3,A4,c4,rfl,rfl,h3,h4⟩;have hlo2:(lo.length+2)*72≤140737488355328:=yb;have hlo3:lo.length≤2*j:=hlo;clear hrg0 hrg hkx h3 h4 hc;go_upto_region 6 with fail
   go_cut [26] from 16 to 27 (fun v wx=>v = .bool (!done&&sle p pt)∧wx=wr)
   case first =>
    cases done with
    | true =>
     go_wp2;go_meet;exact ⟨rfl,rfl⟩
    | false =>
     cases hsl:sle p pt with
     | true =>
      have g1:=ge_sle hsl;have HSL:=zq hsl;clear hsl;go_wp2;go_meet;exact ⟨by rw [HSL.o];rfl,rfl⟩
     | false =>
      have g1:=nge_sle hsl;have HSL:=zq hsl;clear hsl;go_wp2;go_meet;exact ⟨by rw [HSL.o];rfl,rfl⟩
   case rest =>
   obtain ⟨rfl,hwx⟩:=hcut;subst hwx;obtain ⟨wr,hwr⟩:∃ wr,wr=wc:=⟨_,rfl⟩;subst hwr;go_upto_if 26 with fail
   go_cut [7,8] from 26 to 33 (fun ov dv wx=>∃ (lo2:List Ho) (v2:Value),v2=ov∧dv = .bool (done || sle p pt)∧OwnH wx W.heap.size v2 lo2∧HoOk W lo2∧lo2.length≤2*j+1∧prH lo2=prH lo++(if (!done&&sle p pt)=true then [(p,q)] else [])∧Below W.heap.size W wx)
   case first =>
    cases hb : !done&&sle p pt with
    | true =>
     have HD:Hid ((done || sle p pt)=true):=by
      show _=_
      rw [dT] at hb;rw [hb.2,Bool.or_true]
     have HBT:=zq hb;obtain ⟨y0,y1,y2⟩:=HX1.o.t;have hsy:=HX1.o.lt;have hWr:W.heap.size≤wr.heap.size:=HBW.o.size;clear hb
     go_wp2_with (at_builtin;refine zBB _ _ _ elHo rfl rfl W.heap.size v lo rfl (HOW.o.alloc _) wr.heap.size 1 (⟨p,lmV A1 c1 q.num.natAbs,lmV A2 c2 q.den,q⟩:Ho) rfl (cS _ _) rfl (oneHo HNT.o) zm za zg ?_;intro v1 w4 hown4 hg4 hb4)
     have HO4:=zq hown4;have HB4:=zq ((HBW.o.alloc hWr _).trans hb4);clear hown4 hg4 hb4;go_wp2;go_meet;refine ⟨lo++[⟨p,lmV A1 c1 q.num.natAbs,lmV A2 c2 q.den,q⟩],v1,rfl,(by rw [HD.o]),HO4.o,fun y hy=>?_,by rw [dA];simp;omega,by rw [prH_app,aE HBT.o];rfl,HB4.o⟩
     rcases List.mem_append.1 hy with h | h
     ·exact HOK.o y h
     ·rw [List.mem_singleton.1 h];exact HNT.o
    | false =>
     have HD:Hid ((done || sle p pt)=done):=by
      show _=_
      cases done with
      | true=>rfl
      | false=>simpa using hb
     have HBF:=zq hb;clear hb;go_wp2;go_meet;exact ⟨lo,v,rfl,(by rw [HD.o]),HOW.o,HOK.o,za,by simp [HBF.o],HBW.o⟩
   case rest =>
   obtain ⟨lo2,v2,rfl,rfl,hown2,hok2,hlen2,hpr2,hb2⟩:=hcut;have HO2:=zq hown2;have HK2:=zq hok2;have HP2:=zq hpr2;have HB2:=zq hb2;have hrg2:wc.rangeAt b (o+j*4) (eHo ⟨pt,lmV A3 c3 q2.num.natAbs,lmV A4 c4 q2.den,q2⟩):=fun i v hv=>zAg hb2 (HRW.o i v hv)
   have x0:wc.cell? ⟨b,o+j*4,none⟩=some (.string pt):=hrg2 0 _ rfl;have hWc:W.heap.size≤wc.heap.size:=hb2.size;clear hown2 hok2 hpr2 hb2 hlo;go_upto_region 9 with fail
   by_cases hp:pt=p
   ·have q1:=zAn hp
    have HE:Hid (prH lo2++withR p q (done || sle p pt) (prH (l.drop (j+1)))=withR p q false (prH l)):=by
     show _=_
     rw [←HPR.o,HDP.o,withR_cons,aE hp,HP2.o,aD,List.append_assoc]
    clear hp;go_wp2
    go_roundg (gk - 1)
    case measure=>have:=HJ.o;omega
    case rel=>exact ⟨j+1,lo2,_,_,rfl,yb,zi,rfl,HO2.o,HK2.o,za,HE.o,HB2.o⟩
   ·have q1:=zAm hp
    have HE:Hid (prH (lo2++[⟨pt,lmV A3 c3 q2.num.natAbs,lmV A4 c4 q2.den,q2⟩])++withR p q (done || sle p pt) (prH (l.drop (j+1)))=withR p q false (prH l)):=by
     show _=_
     rw [←HPR.o,HDP.o,withR_cons,aC hp,prH_app,HP2.o];simp
    clear hp;go_upto_region 10 with fail
    iterate 14 go_step
    refine fC _ _ zk b (o+j*4) zk (eHo ⟨pt,lmV A3 c3 q2.num.natAbs,lmV A4 c4 q2.den,q2⟩) _ hrg2 Tryz.underlying123 rfl zc ?_
    go_wp2_with (at_builtin;refine zBB _ _ _ elHo rfl rfl W.heap.size v2 lo2 rfl (HO2.o.alloc _) wc.heap.size 1 (⟨pt,lmV A3 c3 q2.num.natAbs,lmV A4 c4 q2.den,q2⟩:Ho) rfl (cS _ _) rfl (oneHo HN3.o) zm za zg ?_;intro v3 w5 hown5 hg5 hb5)
    have HO5:=zq hown5;have HB5:=zq ((HB2.o.alloc hWc _).trans hb5);clear hown5 hg5 hb5;go_wp2
    go_roundg (gk - 1)
    case measure=>have:=HJ.o;omega
    case rel =>
     refine ⟨j+1,lo2++[⟨pt,lmV A3 c3 q2.num.natAbs,lmV A4 c4 q2.den,q2⟩],_,_,rfl,yb,zi,rfl,HO5.o,fun y hy=>?_,by rw [dA];simp;omega,HE.o,HB5.o⟩
     rcases List.mem_append.1 hy with h | h
     ·exact HK2.o y h
     ·rw [List.mem_singleton.1 h];exact HN3.o
  ·have hje:j=l.length:=by have:=HJ.o;omega
   have HPE:=HPR.o;rw [hje,List.drop_length] at HPE;have hlo2:(lo.length+2)*72≤140737488355328:=za;have hWr:W.heap.size≤wr.heap.size:=HBW.o.size
   cases done with
   | true =>
    have HE:Hid (prH lo=withR p q false (prH l)):=by
     show _=_
     rw [←HPE]
     show _=prH lo++[]
     rw [aD]
    clear HPE;go_wp2;go_ret
    exact ⟨v,lo,rfl,zAT.base HOW.o HB.o.size,HOK.o.below HBW.o,HE.o,zAa HB.o HBW.o⟩
   | false =>
    have HE:Hid (prH (lo++[⟨p,lmV A1 c1 q.num.natAbs,lmV A2 c2 q.den,q⟩])=withR p q false (prH l)):=by
     show _=_
     rw [←HPE,prH_app]
     rfl
    obtain ⟨y0,y1,y2⟩:=HX1.o.t;have hsy:=HX1.o.lt;clear HPE
    go_wp2_with (at_builtin;refine zBB _ _ _ elHo rfl rfl W.heap.size v lo rfl (HOW.o.alloc _) wr.heap.size 1 (⟨p,lmV A1 c1 q.num.natAbs,lmV A2 c2 q.den,q⟩:Ho) rfl (cS _ _) rfl (oneHo HNT.o) zm za zg ?_;intro v1 w4 hown4 hg4 hb4)
    have HO4:=zq hown4;have HB4:=zq ((HBW.o.alloc hWr _).trans hb4);clear hown4 hg4 hb4;go_wp2;go_ret
    refine ⟨v1,_,rfl,zAT.base HO4.o HB.o.size,fun y hy=>?_,HE.o,zAa HB.o HB4.o⟩
    rcases List.mem_append.1 hy with h | h
    ·exact (HOK.o y h).below HB4.o
    ·rw [List.mem_singleton.1 h];exact HNT.o.below HB4.o
def GivesMiI (A:Option Addr) (c n:Nat) (w:World) (e:Ending) (w':World):Prop:=e = .returned (inV (decide (n≠0)) A c n)∧Below w.heap.size w w'
theorem IMinus_c (A:Option Addr) (c n:Nat) (w:World):Calls Tryz.prog 164 #[inV false A c n] w (GivesMiI A c n w):=by
 by_cases h0:n=0
 ·have hl:=wl_zero h0
  have hl2:¬ (0:Int)<((zAc B32 n).length:Int):=za;have hd:decide (n≠0)=false:=by simp [h0]
  unfold GivesMiI;rw [hd];clear h0 hd
  go_enter Tryz.func164,Tryz.ntmps164
  go_wp2;refine dY (v:=inV false A c n) (by simp [results,Tryz.results164,go_sem,hl]) rfl ⟨rfl,?_⟩
  exact ((aS w.heap.size w).alloc (aB _) _).alloc ze _
 ·have hl2:=wl_pos h0
  have hl3:0<(zAc B32 n).length:=za;have hd:decide (n≠0)=true:=by simp [h0]
  unfold GivesMiI;rw [hd];clear h0 hd
  go_enter Tryz.func164,Tryz.ntmps164
  go_wp2;refine dY (v:=inV true A c n) (by simp [results,Tryz.results164,go_sem]) rfl ⟨rfl,?_⟩
  exact ((aS w.heap.size w).alloc (aB _) _).alloc ze _
theorem RMul_c (A A2 A3 A4:Option Addr) (c c2 c3 c4 n d m e:Nat) (w:World) (h:Nt w A c n) (h2:Nt w A2 c2 d) (h3:Nt w A3 c3 m) (h4:Nt w A4 c4 e)
  (hn:(zAc B32 n).length≤100000000) (hd:(zAc B32 d).length≤100000000) (hm:(zAc B32 m).length≤100000000) (he:(zAc B32 e).length≤100000000) (hd0:0<d) (he0:0<e) :
  Calls Tryz.prog 113 #[raV false A c n A2 c2 d,raV false A3 c3 m A4 c4 e] w (zCB false (mulP (n,d) (m,e)).1 (mulP (n,d) (m,e)).2 w):=by
 have l1:=zDn n m;have l3:=zDn d e;have HM1:=zq (fun W (x:Nt W A c n) (y:Nt W A3 c3 m)=>IMul_c A A3 c c3 n m W x y za za)
 have HM3:=zq (fun W (x:Nt W A2 c2 d) (y:Nt W A4 c4 e)=>Mul_c A2 A4 c2 c4 d e W x y za za)
 have HO:=zq (fun A5 c5 A6 c6 W (x:Nt W A5 c5 (n*m)) (y:Nt W A6 c6 (d*e))=>Over_c A5 A6 c5 c6 (n*m) (d*e) false W x y (dN hd0 he0) za za)
 simp only [eB] at HO;have hap:mulP (n,d) (m,e)=zBY (n*m) (d*e):=rfl;rw [hap];clear hap l1 l3;generalize (zBY (n*m) (d*e)).1=pp at *;generalize (zBY (n*m) (d*e)).2=pq at *;generalize n*m=p1 at *;generalize d*e=p3 at *;have HX0:Hid (Bx (((w.alloc (.cells (raC A c n A2 c2 d) 89)).alloc (.cells (raC A3 c3 m A4 c4 e) 89)).alloc (.cells zBX 89)) w.heap.size (raC A c n A2 c2 d) 89):=((Bx.new _ _ _).alloc _).alloc _;have HY0:Hid (Bx (((w.alloc (.cells (raC A c n A2 c2 d) 89)).alloc (.cells (raC A3 c3 m A4 c4 e) 89)).alloc (.cells zBX 89)) (w.heap.size+1) (raC A3 c3 m A4 c4 e) 89):=(Bx.new1 _ _ _ _).alloc _;have HZ0:Hid (Bx (((w.alloc (.cells (raC A c n A2 c2 d) 89)).alloc (.cells (raC A3 c3 m A4 c4 e) 89)).alloc (.cells zBX 89)) (w.heap.size+1+1) zBX 89):=Bx.new2 _ _ _ _ _;have HB0:Hid (Below w.heap.size w (((w.alloc (.cells (raC A c n A2 c2 d) 89)).alloc (.cells (raC A3 c3 m A4 c4 e) 89)).alloc (.cells zBX 89))):=(((aS w.heap.size w).alloc (aB _) _).alloc ze _).alloc zg _;obtain ⟨W,hW⟩:∃ W,W=(((w.alloc (.cells (raC A c n A2 c2 d) 89)).alloc (.cells (raC A3 c3 m A4 c4 e) 89)).alloc (.cells zBX 89)):=⟨_,rfl⟩;have g1:Nt W A c n:=yu;have g2:Nt W A2 c2 d:=yp;have g3:Nt W A3 c3 m:=yq;have g4:Nt W A4 c4 e:=yr;rw [←hW] at HX0 HY0 HZ0 HB0;clear hn hd hm he hd0 he0
 go_enter Tryz.func113,Tryz.ntmps113
 go_wp2_with fail
 rw [←hW];clear hW;have HX:=zq (HX0.o.drew);have HY:=zq (HY0.o.drew);have HZ:=zq (HZ0.o.drew);have HB:Hid (Below w.heap.size w W.drew):=zAd HB0.o 1;obtain ⟨x0,x1,x2⟩:=HX0.o.t;obtain ⟨y0,y1,y2⟩:=HY0.o.t;clear HX0 HY0 HZ0 HB0
 go_region_held3 (fun w'=>(w'.cell? ⟨w.heap.size,0,none⟩=some (.bool false)∧w'.cell? ⟨w.heap.size,1,none⟩=some (.slice A (zAc B32 n).length c)∧w'.cell? ⟨w.heap.size,2,none⟩=some (.slice A2 (zAc B32 d).length c2))∧(w'.cell? ⟨w.heap.size+1,0,none⟩=some (.bool false)∧w'.cell? ⟨w.heap.size+1,1,none⟩=some (.slice A3 (zAc B32 m).length c3)∧w'.cell? ⟨w.heap.size+1,2,none⟩=some (.slice A4 (zAc B32 e).length c4)))
  ((refine ⟨⟨?_,?_,?_⟩,?_,?_,?_⟩<;>first | with_reducible assumption | go_simp))
  (first
   | ((go_at_call 76;(with_reducible refine (HM1.o _ g1.drew g3.drew).mono ?_);rintro e1 w1 ⟨A5,c5,rfl,h5,hb1⟩;have HX1:=zq (HX.o.below hb1);have HY1:=zq (HY.o.below hb1);have HZ1:=zq (HZ.o.below hb1);have HB1:=zq (HB.o.trans (hb1.mono HB.o.size));have g21:=g2.drew.below hb1;have g41:=g4.drew.below hb1;obtain ⟨a0,a1,a2⟩:=HX1.o.t;obtain ⟨b0,b1,b2⟩:=HY1.o.t;clear hb1))
   | ((go_at_call 119;(with_reducible refine (HM3.o _ g21 g41).mono ?_);rintro e4 w4 ⟨A8,c8,rfl,h8,hb4⟩;have HX4:=zq (HX1.o.below hb4);have HY4:=zq (HY1.o.below hb4);have HZ4:=zq (HZ1.o.below hb4);have HB4:=zq (zAa HB1.o hb4);have h54:=h5.below hb4;clear a0 a1 a2 b0 b1 b2;obtain ⟨a0,a1,a2⟩:=HX4.o.t;obtain ⟨b0,b1,b2⟩:=HY4.o.t;clear hb4))
   | ((go_at_call 117;(with_reducible refine (HO.o _ _ _ _ _ h54 h8).mono ?_);rintro e5 w5 ⟨A9,c9,AD,cE,rfl,h9,hF,hb5⟩;have HX5:=zq (HX4.o.below hb5);have HY5:=zq (HY4.o.below hb5);have HZ5:=zq (HZ4.o.below hb5);have HB5:=zq (zAa HB4.o hb5);clear a0 a1 a2 b0 b1 b2;obtain ⟨a0,a1,a2⟩:=HX5.o.t;obtain ⟨b0,b1,b2⟩:=HY5.o.t;obtain ⟨r0,r1,r2⟩:=HZ5.o.t;have fr:=HZ5.o.frozen;have rl:=HZ5.o.lt;clear hb5)))
 clear HX HY HZ HB;go_wp2;refine dY (v:=raV false A9 c9 pp AD cE pq) (by simp [results,Tryz.results113,go_sem,r0,r1,r2]) rfl ⟨A9,c9,AD,cE,rfl,h9.setR HZ5.o _ _ _,hF.setR HZ5.o _ _ _,?_⟩
 exact ((HB5.o.setCell zg _).setCell zg _).setCell zg _
theorem RSub_c (A A2 A3 A4:Option Addr) (c c2 c3 c4 n d m e:Nat) (w:World) (h:Nt w A c n) (h2:Nt w A2 c2 d) (h3:Nt w A3 c3 m) (h4:Nt w A4 c4 e)
  (hn:(zAc B32 n).length≤100000000) (hd:(zAc B32 d).length≤100000000) (hm:(zAc B32 m).length≤100000000) (he:(zAc B32 e).length≤100000000) (hd0:0<d) (he0:0<e) (hle:m*d≤n*e) :
  Calls Tryz.prog 114 #[raV false A c n A2 c2 d,raV false A3 c3 m A4 c4 e] w (zCB false (subP (n,d) (m,e)).1 (subP (n,d) (m,e)).2 w):=by
 have HA:Hid (∀ W,Nt W A c n→Nt W A2 c2 d→Nt W A3 c3 m→Nt W A4 c4 e→Calls Tryz.prog 75 #[raV false A c n A2 c2 d,raV (decide (m≠0)) A3 c3 m A4 c4 e] W (zCB false (subP (n,d) (m,e)).1 (subP (n,d) (m,e)).2 W)):=by
  intro W x1 x2 x3 x4
  by_cases h0:m=0
  ·have e1:decide (m≠0)=false:=by simp [h0]
   have e2:subP (n,d) (m,e)=addP (n,d) (m,e):=by
    unfold subP addP;rw [h0]
    show zBY (n*e - 0*d) (d*e)=zBY (n*e+0*d) (d*e)
    rw [Nat.zero_mul,Nat.sub_zero,cZ]
   rw [e1,e2];exact RAdd_c A A2 A3 A4 c c2 c3 c4 n d m e W x1 x2 x3 x4 hn hd hm he hd0 he0
  ·have e1:decide (m≠0)=true:=by simp [h0]
   rw [e1];exact RAddN_c A A2 A3 A4 c c2 c3 c4 n d m e W x1 x2 x3 x4 hn hd hm he hd0 he0 h0 hle
 have HMI:Hid (∀ W,Calls Tryz.prog 164 #[inV false A3 c3 m] W fun e w'=>e = .returned (inV (decide (m≠0)) A3 c3 m)∧Below W.heap.size W w'):=fun W=>IMinus_c A3 c3 m W
 generalize decide (m≠0)=ng at *;generalize (subP (n,d) (m,e)).1=pp at *;generalize (subP (n,d) (m,e)).2=pq at *;have HX0:Hid (Bx (((w.alloc (.cells (raC A c n A2 c2 d) 89)).alloc (.cells (raC A3 c3 m A4 c4 e) 89)).alloc (.cells zBX 89)) w.heap.size (raC A c n A2 c2 d) 89):=((Bx.new _ _ _).alloc _).alloc _;have HY0:Hid (Bx (((w.alloc (.cells (raC A c n A2 c2 d) 89)).alloc (.cells (raC A3 c3 m A4 c4 e) 89)).alloc (.cells zBX 89)) (w.heap.size+1) (raC A3 c3 m A4 c4 e) 89):=(Bx.new1 _ _ _ _).alloc _;have HZ0:Hid (Bx (((w.alloc (.cells (raC A c n A2 c2 d) 89)).alloc (.cells (raC A3 c3 m A4 c4 e) 89)).alloc (.cells zBX 89)) (w.heap.size+1+1) zBX 89):=Bx.new2 _ _ _ _ _;have HB0:Hid (Below w.heap.size w (((w.alloc (.cells (raC A c n A2 c2 d) 89)).alloc (.cells (raC A3 c3 m A4 c4 e) 89)).alloc (.cells zBX 89))):=(((aS w.heap.size w).alloc (aB _) _).alloc ze _).alloc zg _;obtain ⟨W,hW⟩:∃ W,W=(((w.alloc (.cells (raC A c n A2 c2 d) 89)).alloc (.cells (raC A3 c3 m A4 c4 e) 89)).alloc (.cells zBX 89)):=⟨_,rfl⟩;have g1:Nt W A c n:=yu;have g2:Nt W A2 c2 d:=yp;have g3:Nt W A3 c3 m:=yq;have g4:Nt W A4 c4 e:=yr;rw [←hW] at HX0 HY0 HZ0 HB0;clear hn hd hm he hd0 he0 hle
 go_enter Tryz.func114,Tryz.ntmps114
 go_wp2_with fail
 rw [←hW];clear hW;have HX:=zq (HX0.o.drew);have HY:=zq (HY0.o.drew);have HZ:=zq (HZ0.o.drew);have HB:Hid (Below w.heap.size w W.drew):=zAd HB0.o 1;obtain ⟨x0,x1,x2⟩:=HX0.o.t;obtain ⟨y0,y1,y2⟩:=HY0.o.t;clear HX0 HY0 HZ0 HB0
 go_region_held3 (fun w'=>(w'.cell? ⟨w.heap.size,0,none⟩=some (.bool false)∧w'.cell? ⟨w.heap.size,1,none⟩=some (.slice A (zAc B32 n).length c)∧w'.cell? ⟨w.heap.size,2,none⟩=some (.slice A2 (zAc B32 d).length c2))∧(w'.cell? ⟨w.heap.size+1,0,none⟩=some (.bool false)∧w'.cell? ⟨w.heap.size+1,1,none⟩=some (.slice A3 (zAc B32 m).length c3)∧w'.cell? ⟨w.heap.size+1,2,none⟩=some (.slice A4 (zAc B32 e).length c4)))
  ((refine ⟨⟨?_,?_,?_⟩,?_,?_,?_⟩<;>first | with_reducible assumption | go_simp))
  (first
   | ((go_at_call 164;(with_reducible refine (HMI.o _).mono ?_);rintro e1 w1 ⟨rfl,hb1⟩;have HX1:=zq (HX.o.below hb1);have HY1:=zq (HY.o.below hb1);have HZ1:=zq (HZ.o.below hb1);have HB1:=zq (HB.o.trans (hb1.mono HB.o.size));have g11:=g1.drew.below hb1;have g21:=g2.drew.below hb1;have g31:=g3.drew.below hb1;have g41:=g4.drew.below hb1;obtain ⟨a0,a1,a2⟩:=HX1.o.t;obtain ⟨b0,b1,b2⟩:=HY1.o.t;clear hb1))
   | ((go_at_call 75;(with_reducible refine (HA.o _ g11 g21 g31 g41).mono ?_);rintro e5 w5 ⟨A9,c9,AD,cE,rfl,h9,hF,hb5⟩;have HX5:=zq (HX1.o.below hb5);have HY5:=zq (HY1.o.below hb5);have HZ5:=zq (HZ1.o.below hb5);have HB5:=zq (zAa HB1.o hb5);clear a0 a1 a2 b0 b1 b2;obtain ⟨a0,a1,a2⟩:=HX5.o.t;obtain ⟨b0,b1,b2⟩:=HY5.o.t;obtain ⟨r0,r1,r2⟩:=HZ5.o.t;have fr:=HZ5.o.frozen;have rl:=HZ5.o.lt;clear hb5)))
 clear HX HY HZ HB;go_wp2;refine dY (v:=raV false A9 c9 pp AD cE pq) (by simp [results,Tryz.results114,go_sem,r0,r1,r2]) rfl ⟨A9,c9,AD,cE,rfl,h9.setR HZ5.o _ _ _,hF.setR HZ5.o _ _ _,?_⟩
 exact ((HB5.o.setCell zg _).setCell zg _).setCell zg _
end Go.Proofs.YtieoifkdobcpiaaGreatDoor
namespace Go.Proofs.YtieoifkdobcpiaaGreatDoor
open Dw
structure TxI (n0 q n k:Nat) (r:List UInt8):Prop where
 rev:RevD n0 (q*10 ^ (9 - k)+n) r
 lt:n<10 ^ (9 - k)
 fin:q=0→n=0→∃ h:r≠[],(r.getLast h).toNat≠48
theorem TxI.start {n0 a:Nat} {r:List UInt8} (h:RevD n0 a r) (ha:a≠0):TxI n0 (a / 1000000000) (a % 1000000000) 0 r:=by
 refine ⟨?_,?_,fun h1 h2=>?_⟩
 ·have e:a / 1000000000*10 ^ (9 - 0)+a % 1000000000=a:=by
   have e9:(10:Nat) ^ (9 - 0)=1000000000:=zd;rw [e9];omega
  rw [e];exact h
 ·have e9:(10:Nat) ^ (9 - 0)=1000000000:=by decide
  rw [e9];omega
 ·exfalso;omega
theorem TxI.step {n0 q n k:Nat} {r:List UInt8} (h:TxI n0 q n k r) (hk:k<9) (hp:0<q∨0<n):TxI n0 q (n / 10) (k+1) (r++[UInt8.ofNat (48+n % 10)]):=by
 obtain ⟨h1,h2,_⟩:=h;obtain ⟨P,hP⟩:∃ P,P=10 ^ (9 - (k+1)):=⟨_,rfl⟩;have e:10 ^ (9 - k)=P*10:=by rw [hP,←aZ];congr 1;omega
 rw [e] at h1 h2;have e3:q*(P*10)=q*P*10:=(bC _ _ _).symm;rw [e3] at h1;have h4:=h1.step;have e1:(q*P*10+n) / 10=q*P+n / 10:=za;have e2:(q*P*10+n) % 10=n % 10:=za;rw [e1,e2] at h4;refine ⟨by rw [←hP];exact h4,by rw [←hP];omega,fun hq hn=>⟨ze,?_⟩⟩
 have e9:∀ (c:UInt8) (h:r++[c]≠[]),(r++[c]).getLast h=c:=fun c h=>ze
 rw [e9,dig_one (n % 10) za];omega
theorem TxI.done {n0 q n k:Nat} {r:List UInt8} (h:TxI n0 q n k r) (hk:k=9∨(q=0∧n=0)):RevD n0 q r∧(q=0→∃ h:r≠[],(r.getLast h).toNat≠48):=by
 obtain ⟨h1,h2,h3⟩:=h
 rcases hk with rfl | ⟨rfl,rfl⟩
 ·have e9:(10:Nat) ^ (9 - 9)=1:=by decide
  rw [e9] at h1 h2;obtain rfl:n=0:=za;rw [cA,cZ] at h1;exact ⟨h1,fun hq=>h3 hq rfl⟩
 ·rw [Nat.zero_mul,cZ] at h1
  exact ⟨h1,fun _=>h3 rfl rfl⟩
theorem rev_digits {n0:Nat} {r:List UInt8} (h:RevD n0 0 r) (hl:∃ h:r≠[],(r.getLast h).toNat≠48):r.reverse=Lib.decDigits n0:=by
 obtain ⟨hne,h2⟩:=hl;exact h.done hne (.inr h2)
def Swp (r:List UInt8) (i:Nat) (L:List UInt8):Prop:=L.length=r.length∧∀ x:Nat,L[x]?=if x<i∨r.length≤x+i then r.reverse[x]? else r[x]?
theorem Swp.start (r:List UInt8):Swp r 0 r:=by
 refine ⟨rfl,fun x=>?_⟩
 split
 ·next h=>rw [List.getElem?_eq_none za,List.getElem?_eq_none (by rw [List.length_reverse];omega)]
 ·rfl
theorem Swp.get {r L:List UInt8} {i j:Nat} (h:Swp r i L) (hij:i+j+1=r.length) (hl:i<j):∃ (h1:i<L.length) (h2:j<L.length),(some L[i]=r[i]?)∧(some L[j]=r[j]?):=by
 obtain ⟨h1,h2⟩:=h;have a:=h2 i;have b:=h2 j;rw [aC za] at a b;refine ⟨za,za,?_,?_⟩
 ·rw [←a,List.getElem?_eq_getElem]
 ·rw [←b,List.getElem?_eq_getElem]
theorem Swp.step {r L:List UInt8} {i j:Nat} {a b:UInt8} (h:Swp r i L) (hij:i+j+1=r.length) (hl:i<j) (ha:some a=r[j]?) (hb:some b=r[i]?):Swp r (i+1) ((L.set i a).set j b):=by
 obtain ⟨h1,h2⟩:=h;refine ⟨j0,fun x=>?_⟩
 rw [List.getElem?_set,List.getElem?_set]
 by_cases hx:j=x
 ·subst hx
  rw [aE rfl,aE (by rw [dE];omega),aE za,List.getElem?_reverse za,hb]
  congr 1
  omega
 ·rw [aC hx]
  by_cases hy:i=x
  ·subst hy
   rw [aE rfl,aE za,aE za,List.getElem?_reverse za,ha]
   congr 1
   omega
  ·rw [aC hy,h2 x]
   by_cases hc:x<i∨r.length≤x+i
   ·rw [aE hc,aE za]
   ·rw [aC hc,aC za]
theorem Swp.done {r L:List UInt8} {i:Nat} (h:Swp r i L) (hl:r.length≤2*i+1):L=r.reverse:=by
 obtain ⟨h1,h2⟩:=h;refine List.ext_getElem? fun x=>?_
 rw [h2 x]
 split
 ·rfl
 ·next hc =>
  rw [List.getElem?_reverse za]
  congr 1
  omega
open Go.RowKit Dw
abbrev encB:UInt8→List Value:=fun c=>[.int .u8 (c.toNat:Int)]
theorem elB:ElemT Tryz.prog 131 5 (.int .u8 0) 1 1:=⟨Tryz.underlying131,zc,rfl,zd⟩
abbrev OwnB (w:World) (base:Nat) (v:Value) (l:List UInt8):Prop:=zAT encB 1 w base 5 v l
theorem rev_len {n0 a k:Nat} {r:List UInt8} (h:RevD n0 a r) (ha:0<a) (hn:(zAc B32 n0).length≤k):r.length≤10*k:=by
 have h1:=zBp zAu n0
 have h2:10 ^ r.length≤n0:=by
  rw [h.val];exact dI (Nat.le_mul_of_pos_left _ ha) (dK _ _)
 have h3:B32 ^ (zAc B32 n0).length≤10 ^ (10*k):=by
  rw [Nat.pow_mul];exact dI (dU (show B32≤10 ^ 10 by decide) _) (bY zd hn)
 refine Nat.le_of_not_lt fun hk=>?_
 have h4:10 ^ (10*k)≤10 ^ r.length:=bY zd za;omega
theorem digB_len {n k:Nat} (h:(zAc B32 n).length≤k):(zDx n).size≤10*k+1:=by
 rw [zDA];have h1:=zBp zAu n
 have h3:B32 ^ (zAc B32 n).length≤10 ^ (10*k):=by
  rw [Nat.pow_mul];exact dI (dU (show B32≤10 ^ 10 by decide) _) (bY zd h)
 refine (dig_len n (10*k+1) za).2 (dL h1 (dI h3 (bY zd za)))
theorem encB_flat (L:List UInt8):L.flatMap encB=L.map fun c=>Value.int .u8 (c.toNat:Int):=flat1 L
theorem OwnB.get {w:World} {B g c n:Nat} {L:List UInt8} (h:OwnB w B (.slice (some ⟨g,0,none⟩) n c) L) (hn:n=L.length) (i:Nat) (hi:i<L.length):w.cell? ⟨g,i,none⟩=some (.int .u8 (L[i].toNat:Int))∧w.frozen? ⟨g,i,none⟩=false:=by
 subst hn;unfold OwnB zAT at h;rw [encB_flat] at h;have h1:=World.ownsRow.cellAt h i za;exact ⟨by rw [h1];simp [hi],World.ownsRow.frozenAt h i⟩
theorem OwnB.put {w:World} {B g c n:Nat} {L:List UInt8} (h:OwnB w B (.slice (some ⟨g,0,none⟩) n c) L) (hn:n=L.length) (i:Nat) (x:UInt8) :
  OwnB (w.setCell ⟨g,i,none⟩ (.int .u8 (x.toNat:Int))) B (.slice (some ⟨g,0,none⟩) n c) (L.set i x):=by
 subst hn;unfold OwnB zAT at h ⊢;rw [encB_flat] at h ⊢;have h1:=(World.ownsRow.stored h i (.int .u8 (x.toNat:Int))).1;rw [List.map_set,dE];exact h1
theorem OwnB.lo {w:World} {B g c n:Nat} {L:List UInt8} (h:OwnB w B (.slice (some ⟨g,0,none⟩) n c) L):B≤g:=(zBA h rfl).1
theorem len_powB {B:Nat} (hB:1<B) {n k:Nat} (h:n<B ^ k):(zAc B n).length≤k:=by
 rcases bR (zAc B n).length with h0 | h0
 ·omega
 ·have:=zEq (B:=B) h0 (zCn hB h0)
  rw [zAl hB] at this;refine Nat.le_of_not_lt fun hk=>?_
  have h2:B ^ k≤B ^ ((zAc B n).length - 1):=bY za za;omega
theorem trim_a (A:Option Addr) (c:Nat) (L:List Nat) (w:World) (hn:L.length≤1000000000) (hc:L.length≤c) (h:Wds w A L) (hl:WLt B32 L) {n:Nat} (hv:zAf B32 L=n) :
  Calls Tryz.prog 172 #[.slice A L.length c] w fun e w'=>e = .returned (ntV A c n)∧Nt w A c n∧w'=w:=by
 have e:zBw L=zAc B32 n:=by rw [zCg zAu hl,hv]
 refine (trim_c A c L w hn hc h).mono ?_
 rintro _ _ ⟨rfl,rfl⟩;refine ⟨by rw [e],⟨?_,?_⟩,rfl⟩
 ·rw [←e]
  intro hp;obtain ⟨b,o,rfl,hlt,hcl⟩:=h.at_ jr;refine ⟨b,o,rfl,fun i hi=>?_⟩
  have hi':i<L.length:=jr;rw [hcl i hi']
  have:(zBw L)[i]=L[i]:=by
   have h1:=zDi L;rw [cV h1 hi,cQ]
  rw [this]
 ·rw [←e];have:=wtrim_len L;omega
def GivesNNf (q r:Nat) (w:World) (e:Ending) (w':World):Prop :=
 ∃ g c A2 c2,e = .returned (.tuple #[ntV (some ⟨g,0,none⟩) c q,ntV A2 c2 r])∧Nt w' (some ⟨g,0,none⟩) c q∧Nt w' A2 c2 r∧Below w.heap.size w w'∧w.heap.size≤g∧g<w'.heap.size
theorem divWord_f (A:Option Addr) (c a b:Nat) (w:World) (h:Nt w A c a) (hn:(zAc B32 a).length≤900000000) (hb1:1≤b) (hb2:b≤4294967295) :
  Calls Tryz.prog 165 #[ntV A c a,.int .u64 (b:Int)] w (GivesNNf (a / b) (a % b) w):=by
 have hmk:∀ w:World,(Instr.makeSlice 85 (.int .i64 ((zAc B32 a).length:Int)) (.int .i64 ((zAc B32 a).length:Int))).run Tryz.prog w =
   .ok (.slice (some ⟨w.heap.size,0,none⟩) (zAc B32 a).length (zAc B32 a).length) (w.alloc (.cells (Array.replicate (zAc B32 a).length (.int .u32 0)) 197)):=mk_nat _ za
 unfold ntV;have hl:=zAK zAu a;have HVA:=zq (zAl zAu a);obtain ⟨h,hcap⟩:=h;generalize zAc B32 a=l at *
 go_enter Tryz.func165,Tryz.ntmps165
 go_wp2;clear hmk;have hnew:=zCh.new w l.length;have hbel:Below w.heap.size w (w.alloc (.cells (Array.replicate l.length (.int .u32 0)) 197)):=(aS _ _).alloc (aB _) _;obtain ⟨g,hg⟩:∃ g,g=w.heap.size:=⟨_,rfl⟩;rw [←hg] at hnew;obtain ⟨w1,hw1⟩:∃ w1,w1=w.alloc (.cells (Array.replicate l.length (.int .u32 0)) 197):=⟨_,rfl⟩;rw [←hw1] at hnew hbel;rw [←hg,←hw1];have HG:=zq hg;have HB:=zq hbel;clear hg hbel hw1
 go_loopg [7,8] l.length (DwRel w g l b)
 case atStart=>exact ⟨0,List.replicate l.length 0,_,aB _,rfl,rfl,rfl,za,hnew,ze,WLt.zeros zCp _,by rw [aA (aB _),aA ze];simp [zAf],HB.o,yk⟩
 case round =>
  obtain ⟨rr,Q,z,hm,hz,rfl,rfl,hrr,hA,hQ,hLt,hV,hbw,hwg⟩:=hrel;have HV:=zq hV;have HQ:=zq hQ;clear hV hQ
  rcases bR gk with h0 | h0
  ·subst h0
   obtain rfl:z = -1:=hz
   have HT:Hid (zAf B32 Q=a / b∧rr=a % b):=by
    have h1:=HV.o;rw [dF,dF,HVA.o] at h1;have h2:=Nat.div_mod_unique (a:=a) (b:=b) (c:=rr) (d:=zAf B32 Q) za;have h3:=h2.2 ⟨by rw [h1,bB b];omega,hrr⟩
    exact ⟨h3.1.symm,h3.2.symm⟩
   go_wp2_with fail
   have hq2:=HQ.o;rw [←hq2];with_reducible refine (trim_a _ _ Q _ za (aB _) (by have:=hA.rd Q.length;rwa [bX] at this) hLt HT.o.1).mono ?_
   rintro e w' ⟨rfl,hn1,rfl⟩;clear hq2
   go_wp2_with fail
   have hnat:=natOf_c rr w' za;rw [HT.o.2] at hnat;rw [HT.o.2];with_reducible refine hnat.mono ?_
   rintro e w'' ⟨A2,c2,rfl,hn2,hb2'⟩;clear hnat;go_wp2;go_ret2
   exact ⟨_,_,A2,c2,rfl,hn1.below hb2',hn2,hbw.trans (hb2'.mono hbw.size),hwg,dL hA.lt hb2'.size⟩
  ·obtain ⟨j,rfl⟩:∃ j,gk=j+1:=⟨gk - 1,za⟩
   obtain rfl:z=(j:Int):=za;clear hz;have hj:j<l.length:=za;obtain ⟨b1,o1,hA0,hb,hcl⟩:=(h.below hbw).at_ za;subst hA0;have hc0:=hcl j hj;rw [zBK] at hc0;have hx:l[j]<4294967296:=hl.get j hj;have hjQ:j<Q.length:=by have:=HQ.o;omega
   have hc1:=hA.cell j hjQ;have hf1:=hA.frozen j;clear hcl;obtain ⟨X,hX⟩:∃ X,X=l[j]+4294967296*rr:=⟨_,rfl⟩;have hor:bits .or .u64 ((rr:Int)*4294967296) (l[j]:Int)=(X:Int):=by rw [or_u64' l[j] rr hx za,hX];simp
   have hX1:X≤18446744073709551615:=za
   have hq0:X / b≤4294967295:=by
    have:X / b<B32:=quot_lt (B:=B32) (by rw [hX];exact next_lt (B:=B32) hrr hx)
    rw [zCA] at this;omega
   have hq1:(X:Int) / (b:Int)≤4294967295:=by rw [←Int.natCast_ediv];omega
   have hq2:0≤(X:Int) / (b:Int):=Int.ediv_nonneg (dG X) (dG b);have HX:=zq hX;clear hX hq0;go_wp2
   go_roundg j
   case measure=>omega
   case rel=>exact DwRel.step hj hrr hA HQ.o hLt hb2 HV.o hbw hwg HX.o hx rfl rfl rfl
def TxR (w:World) (n0:Nat) (m:Nat) (av ov:Value) (wr:World):Prop :=
 ∃ A c r v,v=ov∧av=ntV A c m∧Nt wr A c m∧(zAc B32 m).length≤100000000∧OwnB wr w.heap.size v r∧RevD n0 m r∧(m=0→∃ h:r≠[],(r.getLast h).toNat≠48)∧Below w.heap.size w wr
def TxR2 (w:World) (n0:Nat) (gq c q:Nat) (m:Nat) (ov nv kv:Value) (wr:World):Prop :=
 ∃ (k n:Nat) (r:List UInt8) (v:Value),v=ov∧k+m=9∧kv = .int .i64 (k:Int)∧nv = .int .u64 (n:Int)∧TxI n0 q n k r∧Nt wr (some ⟨gq,0,none⟩) c q∧OwnB wr w.heap.size v r∧v.ownBlock≠some gq∧gq<wr.heap.size∧Below w.heap.size w wr
def TxR3 (w:World) (r:List UInt8) (g c:Nat) (m:Nat) (iv jv:Value) (wr:World):Prop :=
 ∃ (i:Nat) (z:Int) (L:List UInt8),i+m=r.length∧z=(r.length:Int) - 1 - i∧iv = .int .i64 (i:Int)∧jv = .int .i64 z∧Swp r i L∧OwnB wr w.heap.size (.slice (some ⟨g,0,none⟩) r.length c) L∧Below w.heap.size w wr
theorem Nt.push {w w':World} {g c n:Nat} {o:Obj} {row:Option Nat} (h:Nt w (some ⟨g,0,none⟩) c n) (hg:(w.alloc o).grownBy w' row) (hne:row≠some g):Nt w' (some ⟨g,0,none⟩) c n:=by
 have h2:=h.alloc o;refine ⟨fun hl=>?_,h2.cap⟩
 obtain ⟨b,o2,e,hc⟩:=h2.rd hl
 injection e with e
 injection e with e3 e4 _
 subst e3;subst e4;exact ⟨g,0,rfl,fun i hi=>hg.cell (hc i hi) fun e=>hne e.symm⟩
theorem text_zero (A:Option Addr) (c:Nat) (w:World):Calls Tryz.prog 115 #[ntV A c 0] w (zAe (.string (zDx 0)) w):=by
 rw [digB_zero]
 go_enter Tryz.func115,Tryz.ntmps115
 go_wp2;go_ret
 exact zAe.mk rfl (aS _ _)
theorem text_c (A:Option Addr) (c n:Nat) (w:World) (h:Nt w A c n) (hn:(zAc B32 n).length≤100000000):Calls Tryz.prog 115 #[ntV A c n] w (zAe (.string (zDx n)) w):=by
 by_cases h0:n=0
 ·subst h0
  exact text_zero A c w
 have hl:=pos_len (n:=n) za;have hlb:(((zAc B32 n).length:Int) == 0)=false:=by simp;intro e;rw [e] at hl;simp at hl
 have HN:=zq hn;have HN0:=zq h0;have HNT:=zq h;clear hl hn h0 h
 go_enter Tryz.func115,Tryz.ntmps115
 go_wp2
 go_loopg [0,3] n (TxR w n)
 case atStart=>exact ⟨A,c,[],_,rfl,rfl,HNT.o,HN.o,zAT.nil _ _ _ _ _,RevD.start n,fun e=>absurd e HN0.o,aS _ _⟩
 clear hlb
 case round =>
  obtain ⟨A',c',r,v,rfl,rfl,hnt,hlm,hown,hrev,hfin,hb⟩:=hrel
  by_cases hm:gk=0
  case neg =>
   have hl2:(0:Int)<((zAc B32 gk).length:Int):=wl_pos hm;have HDV:Hid (Calls Tryz.prog 165 #[ntV A' c' gk,.int .u64 1000000000] wr (GivesNNf (gk / 1000000000) (gk % 1000000000) wr)):=divWord_f A' c' gk 1000000000 wr hnt za za za;have HRV:=zq hrev;have HM:=zq hm;have HLM:=zq hlm;have HOW:=zq hown;have HB:=zq hb;clear hnt hlm hown hrev hfin hb hm
   go_wp2_with fail
   with_reducible refine HDV.o.mono ?_
   rintro e w1 ⟨gq,c5,A6,c6,rfl,h5,h6,hb1,hgq,hgl⟩
   have HNE:Hid (v.ownBlock≠some gq):=fun e=>by
    have:=(aT HOW.o gq e).2;omega
   have hr1:(zAc B32 (gk % 1000000000)).length≤2:=dI (len_powB (k:=1) zAu (by have:=bJ gk (show 0<1000000000 by decide);rw [zCA];omega)) za
   have HSM:=zq (zDh A6 c6 (gk % 1000000000) w1 h6 hr1);have HTX:=zq (TxI.start HRV.o HM.o);have HQ:Hid (gk / 1000000000<gk):=Nat.div_lt_self (eH HM.o) zd;have hql:(zAc B32 (gk / 1000000000)).length≤100000000:=dI (zAt zAu (dM _ _)) HLM.o;have HQL:=zq hql;clear hr1 hql;generalize gk / 1000000000=q at *;generalize gk % 1000000000=n1 at *
   go_wp2_with fail
   with_reducible refine HSM.o.mono ?_
   rintro e w2 ⟨rfl,nd,rfl⟩;have HOW2:=zq ((HOW.o.below hb1).drewN nd);have HB2:=zq (zAd (zAa HB.o hb1) nd);have HNT2:=zq (h5.drewN nd);have HGL:Hid (gq<(w1.drewN nd).heap.size):=hgl;clear hb1 h5 h6 HSM HOW HB HRV HLM hl2 hgq hgl;go_wp2
   go_loopg [3,6,8] 9 (TxR2 w n gq c5 q)
   case atStart=>exact ⟨0,n1,r,_,rfl,rfl,rfl,rfl,HTX.o,HNT2.o,HOW2.o,HNE.o,HGL.o,HB2.o⟩
   clear HTX HNT2 HOW2 HB2 HNE HGL
   case round =>
    obtain ⟨k,n2,r2,v2,rfl,hkm,rfl,rfl,htx,hnt,how,hne,hgl,hb⟩:=hrel;have HNE:=zq hne;have HGL:=zq hgl;have HKM:=zq hkm;have HTX:=zq htx;have HNT:=zq hnt;have HOW:=zq how;have HB:=zq hb;have hws:w.heap.size≤wr.heap.size:=hb.size
    have hn9:n2≤1000000000:=by
     have h1:=htx.lt;have h2:10 ^ (9 - k)≤10 ^ 9:=bY zd za;have h3:(10:Nat) ^ 9=1000000000:=zd;omega
    clear hkm htx hnt how hb hne hgl
    by_cases hgo:k<9∧(0<q∨0<n2)
    ·obtain ⟨hk9,hqn⟩:=hgo
     have HTS:=zq (HTX.o.step hk9 hqn)
     have hrl:r2.length≤1000000000:=by
      have h1:=rev_len HTX.o.rev (by
       rcases hqn with h | h
       ·exact dL (dN h (Nat.pow_pos zd)) (dK _ _)
       ·exact dL h (Nat.le_add_left _ _)) HN.o
      omega
     have hgt:((0:Int)<((zAc B32 q).length:Int)∧¬ zAc B32 q=[])∨((zAc B32 q).length=0∧decide (0<n2)=true∧0<n2):=by
      by_cases hq:q=0
      ·exact .inr ⟨wl_zero hq,cW za,za⟩
      ·exact .inl ⟨wl_pos hq,fun e=>hq ((zCv zAu).1 e)⟩
     obtain ⟨ch,hch⟩:∃ ch,ch=UInt8.ofNat (48+n2 % 10):=⟨_,rfl⟩
     have HNEW:Hid (∀ W:World,(W.alloc (.cells #[.int .u8 (48+(n2:Int) % 10)] 5)).heap[W.heap.size]?=some (.cells (encB ch).toArray 5 (0,0))):=fun W=>by
      have e:(ch.toNat:Int)=48+(n2:Int) % 10:=by rw [hch,dig_one (n2 % 10) za];omega
      rw [cS]
      show some (Obj.cells #[Value.int .u8 (48+(n2:Int) % 10)] 5 (0,0))=some (Obj.cells #[Value.int .u8 (ch.toNat:Int)] 5 (0,0))
      rw [e]
     rw [←hch] at HTS;clear hqn HTX hch
     rcases hgt with ⟨hgt,hgt2⟩ | ⟨hgt,hgt2,hgt3⟩
     all_goals
      go_wp2_with (at_builtin;refine zBj _ _ _ elB rfl rfl w.heap.size v2 r2 rfl (HOW.o.alloc _) wr.heap.size 1 ch rfl (HNEW.o wr) rfl zy zm za zg ?_;intro A1 c1 w4 hown4 hg4 hb4 hor4)
      have HO4:=zq hown4;have HB4:=zq ((HB.o.alloc hws _).trans hb4);have HN4:Hid (Nt w4 (some ⟨gq,0,none⟩) c5 q):=Nt.push HNT.o hg4 HNE.o
      have HGL4:Hid (gq<w4.heap.size):=by
       have h1:=hg4.size;have h2:=HGL.o;simp at h1
       show gq<w4.heap.size
       omega
      have HNE4:Hid ((Value.slice A1 (r2.length+1) c1).ownBlock≠some gq):=by
       rcases hor4 with h | h
       ·show _≠_;rw [h];exact HNE.o
       ·show _≠_
        rw [h];intro e
        injection e with e
        have:=HGL.o;simp at e
        omega
      clear hown4 hg4 hb4 hor4;go_wp2
      go_roundg (gk - 1)
      case measure=>have:=HKM.o;omega
      case rel=>exact ⟨k+1,n2 / 10,_,_,rfl,j1,zi,by first | rfl | go_num,HTS.o,HN4.o,HO4.o,HNE4.o,HGL4.o,HB4.o⟩
    ·have HTD:=zq (HTX.o.done j1)
     have hx:(¬ (k:Int)<9)∨((k:Int)<9∧(zAc B32 q).length=0∧n2=0):=by
      by_cases hk9:k<9
      ·exact .inr ⟨za,wl_zero za,za⟩
      ·exact .inl za
     clear hgo HTX
     rcases hx with hx | ⟨hx,hx2,rfl⟩
     all_goals
      go_wp2
      go_roundg q
      case measure=>exact HQ.o
      case rel=>exact ⟨some ⟨gq,0,none⟩,c5,r2,_,rfl,rfl,HNT.o,HQL.o,HOW.o,HTD.o.1,HTD.o.2,HB.o⟩
  case pos =>
   subst hm;have HRD:=zq (rev_digits hrev (hfin rfl))
   have hrl:r.length≤1000000001:=by
    have h1:=digB_len HN.o;rw [zDA,←HRD.o,List.length_reverse] at h1;omega
   have hr0:0<r.length:=List.length_pos_iff.2 (hfin rfl).1
   obtain ⟨g,cap,rfl⟩:∃ g cap,v = .slice (some ⟨g,0,none⟩) r.length cap:=by
    rcases hown.2 with ⟨_,h⟩ | ⟨g,cap,cur,h,_⟩
    ·omega
    ·exact ⟨g,cap,h⟩
   have HOW:=zq hown;have HB:=zq hb;have hl2:(zAc B32 0).length=0:=wl_zero rfl;clear hnt hlm hown hrev hfin hb;go_wp2
   go_loopg [9,10] r.length (TxR3 w r g cap)
   case atStart=>exact ⟨0,(r.length:Int) - 1,r,za,za,rfl,zi,Swp.start r,HOW.o,HB.o⟩
   clear HOW HB hl2
   case round =>
    obtain ⟨i,z,L,him,hz,rfl,rfl,hsw,how,hb⟩:=hrel;have HIM:=zq him;have HSW:=zq hsw;have HOW:=zq how;have HB:=zq hb;have hLl:L.length=r.length:=hsw.1;clear him hsw how hb
    by_cases hij:(i:Int)<z
    ·obtain ⟨j,rfl⟩:∃ j:Nat,z=(j:Int):=⟨z.toNat,za⟩
     have hij2:i+j+1=r.length:=za;obtain ⟨hi1,hj1,hga,hgb⟩:=HSW.o.get hij2 za;obtain ⟨ci,fi⟩:=HOW.o.get hLl.symm i hi1;obtain ⟨cj,fj⟩:=HOW.o.get hLl.symm j hj1;have HSS:=zq (HSW.o.step hij2 za hgb hga);have HOS:=zq ((HOW.o.put hLl.symm i L[j]).put (by simpa using hLl.symm) j L[i])
     have HBS:Hid (Below w.heap.size w ((wr.setCell ⟨g,i,none⟩ (.int .u8 (L[j].toNat:Int))).setCell ⟨g,j,none⟩ (.int .u8 (L[i].toNat:Int)))):=(HB.o.setCell HOW.o.lo _).setCell HOW.o.lo _;have hne:¬ (i=j):=za;have y1:(i:Int)<(r.length:Int):=za;have y2:(j:Int)<(r.length:Int):=za;have HIJ:=zq hij2;clear hga hgb hz hij2;generalize L[i]=bi at *;generalize L[j]=bj at *;go_upto_region 16 with fail
     go_region
     go_wp2
     go_roundg (gk - 1)
     case measure=>have:=HIM.o;omega
     case rel=>exact ⟨i+1,(j:Int) - 1,_,by have:=HIM.o;omega,by have:=HIJ.o;omega,zi,zi,HSS.o,HOS.o.drewN 1,zAd HBS.o 1⟩
    ·have hz2:r.length≤2*i+1:=by have:=HIM.o;omega
     have HE:=zq ((HSW.o.done hz2).trans HRD.o)
     have hcv:=run_convert_bytes_back (P:=Tryz.prog) wr 131 9 5 ⟨g,0,none⟩ cap L Tryz.underlying131 Tryz.underlying5 Tryz.underlying9 (fun q hq=>by
      rw [addN,aQ];exact (HOW.o.get hLl.symm q hq).1)
     rw [hLl,HE.o] at hcv;have hcv2:(convert 131 9 (.slice (some ⟨g,0,none⟩) r.length cap)).run Tryz.prog wr = .ok (.string (zDx n)) wr:=hcv;clear hcv;go_wp2;go_ret
     exact zAe.mk rfl HB.o
end Go.Proofs.YtieoifkdobcpiaaGreatDoor
