/- Parts of the proof, joined: Package right: open, and Runs. Package right: a ledger's valid. Packag. -/
import Derived.Test.YtieoifkdobcpiaaGreatDoorSg32
import Derived.Test.YtieoifkdobcpiaaGreatDoorSg33
import Derived.Test.YtieoifkdobcpiaaGreatDoorSg26
import Derived.Ground.SlgmProg
import Derived.Shelf.SortM.Plain
import Derived.Shelf.SortM.SortNone
import Derived.Shelf.SlGeneric
set_option maxRecDepth 100000
set_option maxHeartbeats 8000000
namespace Go.Proofs.YtieoifkdobcpiaaGreatDoor
open Go.RowKit Dw
def zCA (rs:List Rg) (us:List BA) (ds:List De) (ns:List BA):Int:=if zBt rs us ds≠0 then zBt rs us ds else if ns.all zAT=true then 0 else 5
def GivesOp (f:Int) (RA:Option Addr) (rc:Nat) (rs:List Rg) (UA:Option Addr) (uc:Nat) (us:List BA) (DA:Option Addr) (dc:Nat) (ds:List De) (w:World) (e:Ending) (w':World):Prop :=
 ∃ P,e = .returned (.tuple #[.pointer P,.int .i64 f])∧Below w.heap.size w w'∧(f≠0→P=none)∧(f=0→∃ L,P=some ⟨L,0,none⟩∧LgIs RA rc rs UA uc us DA dc ds w' L)
def OpR (w:World) (T:Array Value) (ns:List BA) (m:Nat) (i:Value) (wr:World):Prop :=
 Below w.heap.size w wr∧Bx wr w.heap.size T 26∧∃ j,j+m=ns.length∧i = .int .i64 (j:Nat)∧∀ q (hq:q<ns.length),q<j→zAT ns[q]=true
theorem open_c (RA:Option Addr) (rc:Nat) (rs:List Rg) (UA:Option Addr) (uc:Nat) (us:List BA) (DA:Option Addr) (dc:Nat) (ds:List De) (NA:Option Addr) (nc:Nat) (ns:List BA) (w:World)
  (hr:Rgs w RA rs) (hu:Strs w UA us) (hd:Des w DA ds) (hz:∀ i (h:i<rs.length),(rs[i]).nm.size≤9223372036854775807) (hz2:∀ i (h:i<us.length),(us[i]).size≤9223372036854775807)
  (hn:Strs w NA ns) (hnz:∀ i (h:i<ns.length),(ns[i]).size≤9223372036854775807) (hnl:ns.length≤10) (hdc:ds.length≤dc) :
  Calls Tryz.prog 24 #[.agg (tiC RA rc rs UA uc us DA dc ds),.slice NA ns.length nc] w (GivesOp (zCA rs us ds ns) RA rc rs UA uc us DA dc ds w):=by
 generalize hres:zCA rs us ds ns=res;have HR:=zq hres;clear hres;have HX:Hid (Bx (w.alloc (.cells (tiC RA rc rs UA uc us DA dc ds) 26)) w.heap.size (tiC RA rc rs UA uc us DA dc ds) 26):=Bx.new _ _ _;have HB:Hid (Below w.heap.size w (w.alloc (.cells (tiC RA rc rs UA uc us DA dc ds) 26))):=(aN _ _).alloc (aC _) _;obtain ⟨W,hW⟩:∃ W,W=w.alloc (.cells (tiC RA rc rs UA uc us DA dc ds) 26):=⟨_,rfl⟩;rw [←hW] at HX HB;have HCK:=zq (CheckT_c RA rc rs UA uc us DA dc ds W (hr.below HB.o) (hu.below HB.o) (hd.below HB.o) hz hz2);have HDw:=zq hd;have HRw:=zq hr;have HNw:=zq hn;have HNZ:=zq hnz;clear hr hu hd hn hnz
 go_enter Tryz.func24,Tryz.ntmps24
 go_upto_region 1 with fail
 rw [←hW];clear hW
 iterate 2 go_step
 refine eW _ _ zj w.heap.size 0 zj (tiC RA rc rs UA uc us DA dc ds).toList _ (zDh HX.o) Tryz.underlying26 rfl zb ?_
 go_wp2_with fail
 with_reducible refine HCK.o.mono ?_
 rintro e w1 ⟨rfl,hb1⟩;have HB1:=zq (zAa HB.o hb1);have HX1:=zq (HX.o.below hb1);clear hb1 HCK HX HB
 by_cases hc:zBt rs us ds=0
 case neg =>
  have hcb:(zBt rs us ds != 0)=true:=by simpa using hc
  have HS:Hid (res=zBt rs us ds):=by show _=_;rw [←HR.o];unfold zCA;rw [aF hc]
  have HN0:Hid (res≠0):=by show _≠_;rw [HS.o];exact hc
  clear hc;go_wp2;go_ret2
  exact ⟨none,by rw [HS.o];rfl,HB1.o,fun _=>rfl,fun h=>absurd h HN0.o⟩
 have HC:=zq hc;rw [hc];clear hc;obtain ⟨hcr,_,hdl⟩:=zBP HC.o;have HGR:=zq (good_of hcr)
 have HR2:Hid ((if ns.all zAT=true then (0:Int) else 5)=res):=by
  show _=_
  rw [←HR.o];unfold zCA;rw [aD (show ¬ (zBt rs us ds≠0) by rw [HC.o];simp)]
 clear HR hcr;go_wp2
 go_loopg [16] ns.length (OpR w (tiC RA rc rs UA uc us DA dc ds) ns)
 case atStart=>exact ⟨HB1.o,HX1.o,0,za,rfl,fun q _ hq=>absurd hq za⟩
 clear HB1 HX1
 case round =>
  obtain ⟨hb,hx,j,hjm,rfl,hpre⟩:=hrel;have HB:=zq hb;have HX:=zq hx;have HJM:=zq hjm;have HP:=zq hpre;have hjk:j≤ns.length:=za;clear hb hx hjm hpre
  by_cases hlj:j<ns.length
  ·obtain ⟨b,o,hA,hb0,hc0⟩:=HNw.o.at_ za
   subst hA;obtain ⟨nj,hnj⟩:∃ nj,ns[j]=nj:=⟨_,rfl⟩;have hp:=hc0 j hlj;have hz0:=HNZ.o j hlj;rw [hnj] at hp hz0;have p0:wr.cell? ⟨b,o+j,none⟩=some (Value.string nj):=(HB.o.cell (p:=⟨b,o+j,none⟩) hb0).trans hp;have HNJ:=zq hnj;clear hp hc0 hnj
   go_wp2_with fail
   with_reducible refine (zBI nj _ hz0).mono ?_
   rintro e w2 ⟨rfl,hb2⟩;have HB2:=zq (zAa HB.o hb2);have HX2:=zq (HX.o.below hb2);clear hb2 p0 HB HX
   cases hin:zAT nj with
   | false =>
    have HS:Hid (res=5):=by
     show _=_
     rw [←HR2.o,aD fun h=>?_]
     have:=List.all_eq_true.1 h nj (by rw [←HNJ.o];exact aJ hlj)
     rw [hin] at this;cases this
    clear hin;go_wp2;go_ret2
    exact ⟨none,by rw [HS.o];rfl,HB2.o,fun _=>rfl,fun h=>absurd (HS.o.symm.trans h) zc⟩
   | true =>
    have HIN:=zq hin;clear hin;go_wp2
    go_roundg (gk - 1)
    case measure=>have:=HJM.o;omega
    case rel =>
     refine ⟨HB2.o,HX2.o,j+1,by have:=HJM.o;omega,zi,fun q hq h=>?_⟩
     rcases bQ q j with h9 | h9
     ·exact HP.o q hq h9
     ·obtain rfl:q=j:=by omega
      rw [HNJ.o];exact HIN.o
  ·have HS:Hid (res=0):=by
    show _=_
    rw [←HR2.o,aF (List.all_eq_true.2 fun x hx=>?_)]
    obtain ⟨i,hi,rfl⟩:=dH hx;exact HP.o i hi za
   have x2:wr.cell? ⟨w.heap.size,2,none⟩=some (Value.slice DA ds.length dc):=HX.o.c 2 rfl;have hsx:=HX.o.lt;have HNL:=zq (newLedger_c RA rc rs UA uc us DA dc ds ds.length wr HGR.o (chkT_kind HC.o) (HRw.o.below HB.o) (HDw.o.below HB.o) (aC _) hdc hdl);go_upto_region 10 with fail
   iterate 2 go_step
   refine eW _ _ zj w.heap.size 0 zj (tiC RA rc rs UA uc us DA dc ds).toList _ (zDh HX.o) Tryz.underlying26 rfl zb ?_
   go_wp2_with fail
   with_reducible refine HNL.o.mono ?_
   rintro e w2 ⟨L,rfl,hlg,hb2⟩;have HLG:=zq hlg;have HB2:=zq (zAa HB.o hb2);clear hb2 hlg x2 hsx HNL;go_wp2;go_ret2
   exact ⟨some ⟨L,0,none⟩,by rw [HS.o];rfl,HB2.o,fun h=>absurd HS.o h,fun _=>⟨L,rfl,by have:=HLG.o;rwa [bO] at this⟩⟩
theorem run_at {ds:List De} {base:Nat} {w:World} {vr:Value} (h:zAE eRun 2 w base 138 vr (ds.map (zBS ds))) {j:Nat} (hj:j<ds.length):∃ b o c,vr = .slice (some ⟨b,o,none⟩) ds.length c∧w.cell? ⟨b,o+j*2,none⟩=some (.int .i64 (zBS ds ds[j]).1)∧w.cell? ⟨b,o+j*2+1,none⟩=some (.int .i64 (zBS ds ds[j]).2):=by
 obtain ⟨A,c,rfl,hr⟩:=h.rdk;obtain ⟨b,o,rfl,hc⟩:=hr (by rw [cW];omega)
 have h0:=flat_at (enc:=eRun) (k:=2) (fun _=>rfl) (ds.map (zBS ds)) j (by rw [cW];exact hj) 0 za
 have h1:=flat_at (enc:=eRun) (k:=2) (fun _=>rfl) (ds.map (zBS ds)) j (by rw [cW];exact hj) 1 za
 rw [List.getElem_map] at h0 h1;refine ⟨b,o,c,by rw [cW],hc _ _ h0,?_⟩
 rw [Nat.add_assoc];exact hc _ _ h1
abbrev zCP (n:Nat) (use:BA) (day:Int):Array Value:=#[.int .i64 (n:Int),.string use,.int .i64 day]
theorem zAs {w w':World} {a:Addr} {v:Value} (hb:Below w.heap.size w w') (h:w.cell? a=some v):w'.cell? a=some v:=by
 rw [hb.cell (block_lt_of_cell h)];exact h
theorem in_at {ds:List De} {rs:List Rg} {base:Nat} {w:World} {vi:Value} {ins:List (Value×List Bool)} (h:zAE eIn 1 w base 113 vi ins) (h5:ins.map Prod.snd=ds.map (insM rs)) (h6:∀ x∈ins,InS w x.1 x.2) {j:Nat} (hj:j<ds.length) :
  ∃ b o c x,vi = .slice (some ⟨b,o,none⟩) ds.length c∧w.cell? ⟨b,o+j,none⟩=some x∧InS w x (insM rs ds[j]):=by
 have hl:ins.length=ds.length:=by have:=bA List.length h5;simpa using this
 obtain ⟨A,c,rfl,hr⟩:=h.rdk;obtain ⟨b,o,rfl,hc⟩:=hr za;have h0:=flat_at (enc:=eIn) (k:=1) (fun _=>rfl) ins j za 0 za
 have h1:(ins[j]'(by omega)).2=insM rs ds[j]:=by
  have e:(ins.map Prod.snd)[j]?=(ds.map (insM rs))[j]?:=by rw [h5]
  rw [List.getElem?_map,List.getElem?_map,List.getElem?_eq_getElem za,List.getElem?_eq_getElem hj] at e
  simpa using e
 refine ⟨b,o,c,(ins[j]'(by omega)).1,by rw [hl],?_,?_⟩
 ·refine hc _ _ ?_
  rw [bS,cK] at h0;rw [h0];rfl
 ·rw [←h1]
  exact h6 _ (aJ _)
theorem set_at {rs:List Rg} {d:De} {w:World} {x:Value} {n i:Nat} (hg:zAj d.kd=true) (h:InS w x (insM rs d)) (hn:(zAm rs)[n]?=some i):∃ go c,x = .slice (some ⟨go,0,none⟩) (inL rs d.ar).length c∧n<(inL rs d.ar).length∧go<w.heap.size∧w.cell? ⟨go,n,none⟩=some (.bool (lies rs d.ar i)):=by
 have hm:insM rs d=true::inL rs d.ar:=by unfold insM;rw [aF hg]
 rw [hm] at h;obtain ⟨hn1,hn2⟩:=List.getElem?_eq_some_iff.1 hn;have hl:n<(inL rs d.ar).length:=by unfold inL;rw [cW];exact hn1
 rcases h with ⟨_,h⟩ | ⟨go,c,N,h,rfl,hh⟩
 ·cases h
 ·obtain rfl:inL rs d.ar=N:=(List.cons.inj h).2
  refine ⟨go,c,rfl,hl,zAf hh,?_⟩
  rw [aL _ go n _ _ _ hh,zCR _ _ hl];have e:(inL rs d.ar)[n]?=some (lies rs d.ar i):=by unfold inL;rw [List.getElem?_map,hn];rfl
  rw [(List.getElem?_eq_some_iff.1 e).2];simp [hl]
theorem runP_gives {ds:List De} {d:De} {day:Int} (h1:(zBS ds d).1≤day) (h2:day<(zBS ds d).2):zAj d.kd=true:=by
 cases hg:zAj d.kd with
 | true=>rfl
 | false =>
  exfalso
  unfold zBS at h1 h2;rw [aD (by rw [hg];simp)] at h1 h2
  simp at h1 h2
  omega
theorem valid_c (RA:Option Addr) (rc:Nat) (rs:List Rg) (UA:Option Addr) (uc:Nat) (us:List BA) (DA:Option Addr) (dc:Nat) (ds:List De) (L k n i:Nat) (use:BA) (day:Int) (w:World)
  (hl:LgIs RA rc rs UA uc us DA dc ds w L) (hd:Des w DA ds) (hk:k<ds.length) (hn:(zAm rs)[n]?=some i) (hul:(ds[k]).us.length≤1000000) :
  Calls Tryz.prog 66 #[.pointer (some ⟨L,0,none⟩),.int .i64 (k:Int),.agg (zCP n use day)] w (zAe (.bool (vB rs ds i use day ds[k])) w):=by
 obtain ⟨b,o,rfl,hb0,hc0⟩:=hd za;obtain ⟨hrg,hok⟩:=hc0 k hk;obtain ⟨d,hdd⟩:∃ d,ds[k]=d:=⟨_,rfl⟩;obtain ⟨r1,r2,g1,g2,AL,cL,vr,vi,ins,base,hlx,_,hrn,hin,hin2,hin3⟩:=hl;obtain ⟨rb,ro,rcap,hvr,c0,c1⟩:=run_at hrn hk;obtain ⟨ib,io,icap,x,hvi,ci,hix⟩:=in_at hin hin2 hin3 hk;subst hvr hvi;rw [hdd] at hrg hok c0 c1 hix hul ⊢;generalize hres:vB rs ds i use day d=res;have HR:=zq hres;have HOK:=zq hok;have HIX:=zq hix;have HLX:=zq hlx;have hbw:Below w.heap.size w (w.alloc (.cells (zCP n use day) 76)):=(aN _ _).alloc (aC _) _;have HX:Hid (Bx (w.alloc (.cells (zCP n use day) 76)) w.heap.size (zCP n use day) 76):=Bx.new _ _ _;obtain ⟨W,hW⟩:∃ W,W=w.alloc (.cells (zCP n use day) 76):=⟨_,rfl⟩;rw [←hW] at HX hbw;have HB:=zq hbw;have k0:W.cell? ⟨rb,ro+k*2,none⟩=some (.int .i64 (zBS ds d).1):=zAs hbw c0;have k1:W.cell? ⟨rb,ro+k*2+1,none⟩=some (.int .i64 (zBS ds d).2):=zAs hbw c1;have HCI:Hid (W.cell? ⟨ib,io+k,none⟩=some x):=zAs hbw ci;have HRG:Hid (W.rangeAt b (o+k*16) (deC d).toList):=fun j v hv=>zAs hbw (hrg j v hv)
 clear hres hok hix hlx hbw hrn hin hin2 hin3 c0 c1 ci hrg hc0 hdd
 have HRR:Hid (W.rangeAt rb (ro+k*2) [.int .i64 (zBS ds d).1,.int .i64 (zBS ds d).2]):=fun j v hv=>by
  match j,hv with
  | 0,hv=>injection hv with hv;subst hv;exact k0
  | 1,hv=>injection hv with hv;subst hv;exact k1
 clear k0 k1
 go_enter Tryz.func66,Tryz.ntmps66
 go_upto_region 1 with fail
 rw [←hW];clear hW;have HLW:=zq (HLX.o.below HB.o);have l9:=HLW.o.c 9 rfl;have hsl:=HLW.o.lt
 iterate 20 go_step
 refine eW _ _ zj rb (ro+k*2) zj [.int .i64 (zBS ds d).1,.int .i64 (zBS ds d).2] _ HRR.o Tryz.underlying138 rfl zb ?_
 clear l9 hsl;go_upto_region 2 with fail
 obtain ⟨W2,hW2⟩:∃ W2,W2=W.alloc (.cells (spC (zBS ds d)) 138):=⟨_,rfl⟩;rw [←hW2];have hb2:Below W.heap.size W W2:=by rw [hW2];exact (aN _ _).alloc (aC _) _
 have HS:Hid (Bx W2 W.heap.size (spC (zBS ds d)) 138):=by show Bx _ _ _ _;rw [hW2];exact Bx.new _ _ _
 have HBW:=zq (zAa HB.o hb2);have HX2:=zq (HX.o.below hb2);have HL2:=zq (HLW.o.below hb2);have CI2:=zq (zAs hb2 HCI.o);have RG2:Hid (W2.rangeAt b (o+k*16) (deC d).toList):=fun j v hv=>zAs hb2 (HRG.o j v hv)
 clear hW2 hb2 HX HLW HCI HRG HRR;obtain ⟨x0,x1,x2⟩:=HX2.o.t;have s0:=HS.o.c 0 rfl;have s1:=HS.o.c 1 rfl;have hsx:=HX2.o.lt;have hss:=HS.o.lt
 by_cases h1:(zBS ds d).1≤day
 ·have e1:decide ((zBS ds d).1≤day)=true:=cM h1
  by_cases h2:day<(zBS ds d).2
  ·have e2:decide (day<(zBS ds d).2)=true:=cM h2
   have hgv:=runP_gives h1 h2;obtain ⟨go,cg,rfl,hlt,hgw,hcell⟩:=set_at hgv HIX.o hn;have q0:W2.cell? ⟨go,n,none⟩=some (.bool (lies rs d.ar i)):=zAs HBW.o hcell;have q1:=CI2.out;have l10:=HL2.o.c 10 rfl;have hsl:=HL2.o.lt;have HR2:Hid ((lies rs d.ar i&&memS d.us use)=res):=by show _=_;rw [←HR.o];unfold vB;rw [e1,e2];rfl
   have hnn:decide (n<(inL rs d.ar).length)=true:=cM hlt;clear h1 h2 hgv hcell HR CI2 HIX
   cases hli:lies rs d.ar i with
   | false =>
    rw [hli] at q0;have HV:Hid (res=false):=by show _=_;rw [←HR2.o,hli];rfl
    clear hli HR2
    go_quiet (fail)
    go_wp2;go_ret
    exact zAe.mk (zAQ HV.o.symm) (zAc HBW.o _)
   | true =>
    rw [hli] at q0;have HV:Hid (res=memS d.us use):=by show _=_;rw [←HR2.o,hli];rfl
    have l2:=HL2.o.c 2 rfl;have d11:=RG2.out 11 _ rfl
    have hcon:∀ m,Calls Tryz.prog 21 #[.slice d.usA d.us.length d.usc,.string use] (W2.drewN m) fun e w'=>e = .returned (.bool res)∧w'=W2.drewN m:=fun m =>
     (containsS_c d.usA d.usc d.us use (W2.drewN m) hul (HOK.o.uses.below (zAc HBW.o m))).mono fun e w' ⟨h1,h2⟩=>⟨by rw [h1,HV.o],h2.symm⟩
    have HCON:=zq hcon;clear hli HR2 hcon
    go_quiet ((go_at_call 21;exact Calls.quiet_of_same (HCON.o _)))
    go_wp2;go_ret
    exact zAe.mk rfl (zAc HBW.o _)
  ·have e2:decide (day<(zBS ds d).2)=false:=cN h2
   have HV:Hid (res=false):=by show _=_;rw [←HR.o];unfold vB;rw [e1,e2];rfl
   clear h1 h2
   go_quiet (fail)
   go_wp2;go_ret
   exact zAe.mk (zAQ HV.o.symm) (zAc HBW.o _)
 ·have e1:decide ((zBS ds d).1≤day)=false:=cN h1
  have HV:Hid (res=false):=by show _=_;rw [←HR.o];unfold vB;rw [e1];rfl
  clear h1
  go_quiet (fail)
  go_wp2;go_ret
  exact zAe.mk (zAQ HV.o.symm) (zAc HBW.o _)
theorem moves_c (RA:Option Addr) (rc:Nat) (rs:List Rg) (UA:Option Addr) (uc:Nat) (us:List BA) (DA:Option Addr) (dc:Nat) (ds:List De) (L k n i:Nat) (use:BA) (day:Int) (th:BA) (w:World)
  (hl:LgIs RA rc rs UA uc us DA dc ds w L) (hd:Des w DA ds) (hk:k<ds.length) (hn:(zAm rs)[n]?=some i) (hul:(ds[k]).us.length≤1000000) :
  Calls Tryz.prog 71 #[.pointer (some ⟨L,0,none⟩),.int .i64 (k:Int),.string th,.agg (zCP n use day)] w (zAe (.bool (zCO rs ds i th use day ds[k])) w):=by
 have hbw:Below w.heap.size w (w.alloc (.cells (zCP n use day) 76)):=(aN _ _).alloc (aC _) _;have HX:Hid (Bx (w.alloc (.cells (zCP n use day) 76)) w.heap.size (zCP n use day) 76):=Bx.new _ _ _;obtain ⟨W,hW⟩:∃ W,W=w.alloc (.cells (zCP n use day) 76):=⟨_,rfl⟩;rw [←hW] at HX hbw;have HB:=zq hbw;obtain ⟨b,o,rfl,hb0,hc0⟩:=(hd.below hbw) za;have hlW:=hl.below hbw;have HVAL:=zq (fun (u:World) (hu:Below W.heap.size W u)=>valid_c RA rc rs UA uc us (some ⟨b,o,none⟩) dc ds L k n i use day u (hlW.below hu) ((hd.below hbw).below hu) hk hn hul)
 obtain ⟨d,hdd⟩:∃ d,ds[k]=d:=⟨_,rfl⟩;have hrg:=(hc0 k hk).1;rw [hdd] at hrg HVAL ⊢;generalize hres:zCO rs ds i th use day d=res;have HR:=zq hres;obtain ⟨r1,r2,g1,g2,AL,cL,vr,vi,ins,base,hlx,_⟩:=hlW;have l2:=hlx.c 2 rfl;have hsl:=hlx.lt;clear hl hd hbw hc0 hdd hres hlx hul
 go_enter Tryz.func71,Tryz.ntmps71
 go_upto_region 1 with fail
 rw [←hW];clear hW
 iterate 23 go_step
 refine eW _ _ zj b (o+k*16) zj (deC d).toList _ hrg Tryz.underlying52 rfl zb ?_
 clear hrg;go_upto_region 2 with fail
 obtain ⟨wd,hwd⟩:∃ wd,wd=W.alloc (.cells (deC d) 52):=⟨_,rfl⟩;rw [←hwd];have hbd:Below W.heap.size W wd:=zr;have HD1:Hid (Bx wd W.heap.size (deC d) 52):=zu;have HXD:=zq (HX.o.below hbd);have HBD:=zq hbd;clear hwd hbd l2 hsl HX;have d2:=HD1.o.c 2 rfl;have d3:=HD1.o.c 3 rfl;have d12:=HD1.o.c 12 rfl;have hsd:=HD1.o.lt;obtain ⟨x0,x1,x2⟩:=HXD.o.t;have hsx:=HXD.o.lt
 by_cases hq:d.kd=2
 ·have e1:(d.kd == 2)=true:=by simpa using hq
  by_cases ht:d.th=th
  ·have q1:=zBb ht
   have HE:Hid (res=vB rs ds i use day d):=by show _=_;rw [←HR.o];unfold zCO;rw [aF hq,cM ht,Bool.true_and]
   clear hq ht
   go_wp2_with fail
   with_reducible refine (HVAL.o _ HBD.o).mono ?_
   rintro e w3 ⟨rfl,hb3⟩;have HB3:=zq (zAa HB.o (zAa HBD.o hb3));clear hb3;go_wp2;go_ret
   exact zAe.mk qk HB3.o
  ·have q1:=zAM ht
   have HE:Hid (res=false):=by show _=_;rw [←HR.o];unfold zCO;rw [aF hq,cN ht,Bool.false_and]
   clear hq ht;go_wp2;go_ret
   exact zAe.mk qk (zAa HB.o HBD.o)
 ·have e1:(d.kd == 2)=false:=by simpa using hq
  by_cases h5:d.kd=5
  ·have e2:(d.kd == 5)=true:=by simpa using h5
   have HE:Hid (res=decide (d.bg≤day)):=by show _=_;rw [←HR.o];unfold zCO;rw [aD hq,aF h5]
   clear hq h5;go_wp2;go_ret
   exact zAe.mk qk (zAa HB.o HBD.o)
  ·have e2:(d.kd == 5)=false:=by simpa using h5
   have HE:Hid (res=false):=by show _=_;rw [←HR.o];unfold zCO;rw [aD hq,aD h5]
   clear hq h5;go_wp2;go_ret
   exact zAe.mk qk (zAa HB.o HBD.o)
end Go.Proofs.YtieoifkdobcpiaaGreatDoor
namespace Go.Proofs.YtieoifkdobcpiaaGreatDoor
open Dw
theorem longQ_of {q:Rat} (h1:q.num.natAbs<10 ^ 2000) (h2:q.den<10 ^ 2000):zDd q=false:=by
 unfold zDd;simp only [aI,decide_eq_false_iff_not,Nat.not_le];exact ⟨h1,h2⟩
theorem longQ_ratQ {nu de:BA} (h:ratF nu de=0):zDd (zCX nu de)=false:=by
 have e:=ratF_prQ h;obtain ⟨h1,h2,h3,h4,h5⟩:=zCt h;have e1:zAF (zBj nu)=(zCX nu de).num.natAbs:=bA Prod.fst e;have e2:zAF de=(zCX nu de).den:=bA Prod.snd e
 have key:∀ s:BA,numB s=true→s.size≤2000→zAF s<10 ^ 2000:=fun s hs hl=>by
  obtain ⟨q,hq⟩:∃ q,q=2000:=⟨_,rfl⟩;rw [←hq] at hl ⊢;refine cY (decV_dg (zBf hs).1) (bP zc ?_)
  simpa using hl
 exact longQ_of (by rw [←e1];exact key _ h1 h4) (by rw [←e2];exact key _ h2 h5)
theorem put_short (l:List Sh):∀ (f:zBa),(∀ s∈l,zDd (shQ s)=false)→(∀ p,zDd (f p)=false)→∀ p,zDd (zAi l f p)=false:=by
 induction l with
 | nil=>exact fun f _ hf=>hf
 | cons s l ih =>
  intro f hs hf;refine ih (upH f s.pt (shQ s)) (fun t ht=>hs t (aP _ ht)) fun p=>?_
  by_cases hp:p=s.pt
  ·subst hp;rw [zBy];exact hs s aQ
  ·rw [zAJ _ _ hp];exact hf p
theorem start_short {rs:List Rg} {us:List BA} {ds:List De} (h:zBt rs us ds=0) (th:BA) (day:Int):∀ p,zDd (zCv th day ds p)=false:=by
 have key:∀ (l:List De) (f:zBa),(∀ d∈l,d∈ds)→(∀ p,zDd (f p)=false)→∀ p,zDd (l.foldl (orgF th day) f p)=false:=fun l=>by
  induction l with
  | nil=>exact fun f _ hf=>hf
  | cons d l ih =>
   intro f hl hf;refine ih (orgF th day f d) (fun e he=>hl e (aP _ he)) ?_
   unfold orgF
   split
   ·next ho =>
    have hk:=(zDf.1 ho).1;have hs:=((zBU h d (hl d aQ)).org hk).1;exact put_short _ _ (fun s hs'=>longQ_ratQ (hs.rat s hs')) hf
   ·exact hf
 exact key ds _ (fun d hd=>hd) fun _=>longQ_zero
theorem anyLong_no {K:List BA} {f:zBa} (h:∀ p,zDd (f p)=false):zCU K f=false:=by
 unfold zCU;rw [List.any_eq_false];intro p _;simp [h p]
theorem longF_zero (rs:List Rg) (ds:List De) (i:Nat) (th use:BA) (day:Int):zBM rs ds i th use day 0=false:=rfl
theorem longF_succ (rs:List Rg) (ds:List De) (i:Nat) (th use:BA) (day:Int) (n:Nat):zBM rs ds i th use day (n+1)=(zBM rs ds i th use day n || zCU (zBr rs ds i th use day (n+1)) (zAp rs ds i th use day (n+1))):=by
 unfold zBM;rw [dI,dQ];simp
theorem longF_mono {rs:List Rg} {ds:List De} {i:Nat} {th use:BA} {day:Int} {k:Nat} (h:zBM rs ds i th use day k=true):∀ {n:Nat},k≤n→zBM rs ds i th use day n=true:=by
 intro n hn;unfold zBM at *;rw [eF] at *;obtain ⟨x,hx,h2⟩:=h;exact ⟨x,List.mem_range.2 (cY (List.mem_range.1 hx) hn),h2⟩
theorem longF_parts {rs:List Rg} {us:List BA} {ds:List De} (h:zBt rs us ds=0) (i:Nat) (th use:BA) (day:Int):∀ n,n≤ds.length→zBM rs ds i th use day n=false→∀ p,zDd (zAp rs ds i th use day n p)=false
 | 0,_,_=>start_short h th day
 | n+1,hn,hl=>by
  rw [longF_succ,aI] at hl;intro p
  cases hq:zDd (zAp rs ds i th use day (n+1) p) with
  | false=>rfl
  | true =>
   obtain ⟨M,hM,_⟩:=zCJ h i th use day (n+1) hn;have:=(anyLong_iff hM.ok).2 ⟨p,hq⟩;rw [hl.2] at this
   cases this
theorem longF_skip {rs:List Rg} {us:List BA} {ds:List De} (h:zBt rs us ds=0) {i:Nat} {th use:BA} {day:Int} {n:Nat} (hn:n<ds.length) (hm:zCO rs ds i th use day ds[n]=false) (hl:zBM rs ds i th use day n=false) :
  zBM rs ds i th use day (n+1)=false∧zAp rs ds i th use day (n+1)=zAp rs ds i th use day n:=by
 obtain ⟨e1,_⟩:=zDr rs i th use day hn;have e3:zAp rs ds i th use day (n+1)=zAp rs ds i th use day n:=by rw [e1];unfold zCQ;rw [hm];rfl
 refine ⟨?_,e3⟩
 rw [longF_succ,hl,e3,Bool.false_or];exact anyLong_no (longF_parts h i th use day n za hl)
theorem keysF_take {rs:List Rg} {ds:List De} {i:Nat} {th use:BA} {day:Int} {n:Nat} (hn:n<ds.length) (hm:zCO rs ds i th use day ds[n]=true) :
  zAp rs ds i th use day (n+1)=zDt ds[n] (zAp rs ds i th use day n)∧zBr rs ds i th use day (n+1)=zAG ds[n] (zBr rs ds i th use day n):=by
 obtain ⟨e1,e2⟩:=zDr rs i th use day hn;rw [e1,e2];unfold zCQ zAO;rw [hm];exact ⟨rfl,rfl⟩
theorem take_ask {rs:List Rg} {us:List BA} {ds:List De} (h:zBt rs us ds=0) {i:Nat} {th use:BA} {day:Int} {n:Nat} (hn:n<ds.length) (hm:zCO rs ds i th use day ds[n]=true) :
  ∃ M,HoldB (zAG ds[n] (zBr rs ds i th use day n)) M (zAp rs ds i th use day n)∧SzN 90000000 (M*growD ds[n])∧ds[n].sh.length≤20:=by
 obtain ⟨M,h1,h2⟩:=zCJ h i th use day n za;have hd:=aJ hn;obtain ⟨k1,_,_⟩:=zBC h i th use day n;have hl:(ds[n]).sh.length≤20:=(chkD_lens ((zBi h).2 n hn) (zBi h).1).2.2;have hz:=zBP h;generalize ds[n]=d at *;obtain ⟨m1,_⟩:=keysTake_mem d (K:=zBr rs ds i th use day n);refine ⟨M,h1.more (zCS d k1).nodup m1,?_,hl⟩
 have h3:=growD_lt (zBU h d hd) hl (movB_kd hm);have h4:M*growD d<10 ^ (40001*(n+1)+40001):=by rw [Nat.pow_add];exact Nat.mul_lt_mul'' h2 h3
 exact (szN_of h4).le (by have:=hz.2.2;omega)
theorem parts_sz {rs:List Rg} {us:List BA} {ds:List De} (h:zBt rs us ds=0) (i:Nat) (th use:BA) (day:Int) (n:Nat) (hn:n≤ds.length) (p:BA):SzQ 10000000 (zAp rs ds i th use day n p):=by
 obtain ⟨M,h1,h2⟩:=zCJ h i th use day n hn;have hz:=zBP h;exact h1.sz ((szN_of h2).le (by have:=hz.2.2;omega)) p
open Go.RowKit Dw
def GivesPt (bad:Bool) (f:zBa) (w:World) (e:Ending) (w':World):Prop :=
 Below w.heap.size w w'∧(bad=true→e = .returned (.tuple #[.map none,.int .i64 2]))∧(bad=false→∃ g,e = .returned (.tuple #[.map (some g),.int .i64 0])∧zAw w' g f)
def PtR (W:World) (g:Nat) (th:BA) (day:Int) (ds:List De) (m:Nat) (iv:Value) (wr:World):Prop :=
 ∃ k:Nat,k+m=ds.length∧iv = .int .i64 (k:Int)∧zAw wr g ((ds.take k).foldl (orgF th day) (fun _=>0))∧Below W.heap.size W wr
def PtR1 (W:World) (g:Nat) (F:zBa) (l:List Sh) (m:Nat) (iv:Value) (wr:World):Prop :=
 ∃ j:Nat,j+m=l.length∧iv = .int .i64 (j:Int)∧zAw wr g (zAi (l.take j) F)∧W.grownBy wr (some g)
def PtR2 (W:World) (g:Nat) (rs:List Rg) (ds:List De) (i:Nat) (th use:BA) (day:Int) (u:Nat) (lim:Bool) (m:Nat) (iv:Value) (wr:World):Prop :=
 ∃ k:Nat,k+m=u∧iv = .int .i64 (k:Int)∧zAw wr g (zAp rs ds i th use day k)∧(lim=true→zBM rs ds i th use day k=false)∧Below W.heap.size W wr
theorem fold_succ (th:BA) (day:Int) (f:zBa) {ds:List De} {k:Nat} (hk:k<ds.length):(ds.take (k+1)).foldl (orgF th day) f=orgF th day ((ds.take k).foldl (orgF th day) f) ds[k]:=by
 rw [take_snoc hk,bL];rfl
theorem putAll_succ (F:zBa) {l:List Sh} {j:Nat} (h:j<l.length):zAi (l.take (j+1)) F=upH (zAi (l.take j) F) l[j].pt (shQ l[j]):=by
 unfold zAi;rw [bF h,bL]
 rfl
theorem parts_c (RA:Option Addr) (rc:Nat) (rs:List Rg) (UA:Option Addr) (uc:Nat) (us:List BA) (DA:Option Addr) (dc:Nat) (ds:List De) (L n i u:Nat) (use:BA) (day:Int) (th:BA) (lim:Bool) (w:World)
  (hl:LgIs RA rc rs UA uc us DA dc ds w L) (hd:Des w DA ds) (hc:zBt rs us ds=0) (hn:(zAm rs)[n]?=some i) (hu:u≤ds.length) (hdc:ds.length≤dc) (hul:∀ d∈ds,d.us.length≤1000000) :
  Calls Tryz.prog 30 #[.pointer (some ⟨L,0,none⟩),.string th,.agg (zCP n use day),.int .i64 (u:Int),.bool lim] w (GivesPt (lim&&zBM rs ds i th use day u) (zAp rs ds i th use day u) w):=by
 have hbw:Below w.heap.size w (w.alloc (.cells (zCP n use day) 76)):=(aN _ _).alloc (aC _) _;have HX0:Hid (Bx (w.alloc (.cells (zCP n use day) 76)) w.heap.size (zCP n use day) 76):=Bx.new _ _ _;obtain ⟨W0,hW0⟩:∃ W,W=w.alloc (.cells (zCP n use day) 76):=⟨_,rfl⟩;rw [←hW0] at HX0 hbw;have HB0:=zq hbw;have hb1:Below W0.heap.size W0 (W0.alloc (.map #[] 0)):=(aN _ _).alloc (aC _) _;have HPN:Hid (zAw (W0.alloc (.map #[] 0)) W0.heap.size (fun _=>0)):=zAw.new W0
 have HX:=zq (HX0.o.below hb1);have HLW:=zq ((hl.below hbw).below hb1);have HDW:=zq ((hd.below hbw).below hb1);have HLW0:=zq (hl.below hbw);have HDW0:=zq (hd.below hbw);have HC:=zq hc;have HUL:=zq hul;have HNN:=zq hn;have hdl:=(zBP hc).2.2;clear hl hd hc hn hul hbw;obtain ⟨r1,r2,g1,g2,AL,cL,vr,vi,ins,base,hlx,_⟩:=HLW.o;have HLX:=zq hlx;obtain ⟨W,hW⟩:∃ W,W=W0.alloc (.map #[] 0):=⟨_,rfl⟩;rw [←hW] at hb1 HPN HX HLW HDW HLX hlx;have HB1:=zq hb1;clear hb1
 go_enter Tryz.func30,Tryz.ntmps30
 go_upto_region 1 with fail
 rw [←hW0];clear hW0;have hmm:=@run_makeMap Tryz.prog;go_upto_region 2 with fail
 clear hmm;rw [←hW];clear hW;have l2:=HLX.o.c 2 rfl;have hsl:=HLX.o.lt;clear hlx;go_wp2
 go_loopg [26] ds.length (PtR W0 W0.heap.size th day ds)
 case atStart=>exact ⟨0,za,rfl,HPN.o,HB1.o⟩
 clear l2 hsl HPN
 case round =>
  obtain ⟨k,hkm,rfl,hpm,hb⟩:=hrel;have HK:=zq hkm;have HPM:=zq hpm;have HB:=zq hb;clear hkm hpm hb
  by_cases hlt:k<ds.length
  ·obtain ⟨b,o,hA,hb0,hc0⟩:=HDW0.o za
   subst hA;have hpar:=zBU HC.o _ (aJ hlt);have HFS:=zq (fold_succ th day (fun _=>0) hlt)
   have hrg:wr.rangeAt b (o+k*16) (deC ds[k]).toList:=fun q v hv=>zAs HB.o ((hc0 k hlt).1 q v hv)
   have HSH:=zq ((hc0 k hlt).2.shs.below HB.o);have hshl:=(hc0 k hlt).2.lens.2.2;generalize ds[k]=d at *;have HPA:=zq hpar;clear hc0 hpar;go_upto_region 4 with fail
   iterate 5 go_step
   refine eW _ _ zj b (o+k*16) zj (deC d).toList _ hrg Tryz.underlying52 rfl zb ?_
   clear hrg;go_upto_region 5 with fail
   obtain ⟨wd,hwd⟩:∃ wd,wd=wr.alloc (.cells (deC d) 52):=⟨_,rfl⟩;rw [←hwd];have hbd:Below wr.heap.size wr wd:=zr;have HD1:Hid (Bx wd wr.heap.size (deC d) 52):=zu;have HBD:=zq (zAa HB.o hbd);have HPM1:=zq (HPM.o.below hbd);have HSH1:=zq (HSH.o.below hbd);have HXD:=zq (HX0.o.below HBD.o);clear hwd hbd HPM HSH HB;have d2:=HD1.o.c 2 rfl;have d3:=HD1.o.c 3 rfl;have d12:=HD1.o.c 12 rfl;have hsd:=HD1.o.lt;have x2:=HXD.o.c 2 rfl;have hsx:=HXD.o.lt;generalize (ds.take k).foldl (orgF th day) (fun _=>0)=F at *
   have HNO:orgB th day d=false→Hid (zAw wd W0.heap.size ((ds.take (k+1)).foldl (orgF th day) (fun _=>0))):=fun h=>by
    show zAw _ _ _
    rw [HFS.o];unfold orgF;rw [aD (by rw [h];simp)]
    exact HPM1.o
   by_cases hq:d.kd=1
   case neg =>
    have e1:(d.kd == 1)=false:=by simpa using hq
    have HN:=HNO (by unfold orgB;rw [cN hq];rfl)
    clear hq HNO;go_wp2
    go_roundg (gk - 1)
    case measure=>have:=HK.o;omega
    case rel=>exact ⟨k+1,zh,zi,HN.o,HBD.o⟩
   have e1:(d.kd == 1)=true:=by simpa using hq
   by_cases ht:d.th=th
   case neg =>
    have q1:=zAM ht;have HN:=HNO (by unfold orgB;rw [cN ht];simp)
    clear hq ht HNO;go_wp2
    go_roundg (gk - 1)
    case measure=>have:=HK.o;omega
    case rel=>exact ⟨k+1,zh,zi,HN.o,HBD.o⟩
   have q1:=zBb ht
   by_cases hy:d.bg≤day
   case neg =>
    have q2:decide (d.bg≤day)=false:=cN hy;have HN:=HNO (by unfold orgB;rw [cN hy];simp)
    clear hq ht hy HNO;go_wp2
    go_roundg (gk - 1)
    case measure=>have:=HK.o;omega
    case rel=>exact ⟨k+1,zh,zi,HN.o,HBD.o⟩
   have q2:decide (d.bg≤day)=true:=cM hy
   have HOT:Hid (orgF th day F d=zAi d.sh F):=by
    show _=_
    unfold orgF;rw [aF (zDf.2 ⟨hq,ht,hy⟩)]
   have HSO:=zq (HPA.o.org hq).1;have d14:=HD1.o.c 14 rfl;clear hq ht hy HNO;go_wp2;clear d2 d3 d12 d14 hsd x2 hsx
   go_loopg [49] d.sh.length (PtR1 wd W0.heap.size F d.sh)
   case atStart=>exact ⟨0,za,rfl,HPM1.o,World.grownBy.refl _ _⟩
   case round =>
    obtain ⟨j,hjm,rfl,hpm,hg⟩:=hrel;have HJ:=zq hjm;have HPJ:=zq hpm;have HG:=zq hg;clear hjm hpm hg
    by_cases hjl:j<d.sh.length
    ·obtain ⟨b2,o2,hA,hc⟩:=(HSH1.o.parts HPM1.o HG.o) za
     have c0:=(hc j hjl).1;have c1:=(hc j hjl).2.1;have c2':=(hc j hjl).2.2;have HMEM:=zq (aJ hjl);have HPS:=zq (putAll_succ F hjl);generalize d.sh[j]=s at *;have HFQ:Hid (∀ u,Calls Tryz.prog 70 #[.agg #[.string s.nu,.string s.de]] u (zCx (shQ s) u)):=fun u=>FromQ_c s.nu s.de u (HSO.o.rat s HMEM.o) (HSO.o.pos s HMEM.o)
     have HA:=zq hA;have hba:=ba wr (.cells (shCl s) 42);have HZ:Hid (Bx (wr.alloc (.cells (shCl s) 42)) wr.heap.size (shCl s) 42):=Bx.new _ _ _;have HBA:=zq hba;rw [hA];clear hc hA hba;go_upto_region 9 with fail
     clear c0 c1 c2';obtain ⟨fj,hfj⟩:∃ fj,fj=zAi (d.sh.take j) F:=⟨_,rfl⟩;rw [←hfj] at HPJ HPS;have HFJ:=zq hfj;clear hfj;obtain ⟨w4,hw4⟩:∃ w4,w4=wr.alloc (.cells (shCl s) 42):=⟨_,rfl⟩;rw [←hw4] at HZ HBA ⊢;clear hw4;have HPM4:=zq (HPJ.o.below HBA.o);obtain ⟨a0,a1,a2⟩:=HZ.o.t
     go_region_held3 (fun w'=>w'.cell? ⟨wr.heap.size,0,none⟩=some (.string s.pt)∧w'.cell? ⟨wr.heap.size,1,none⟩=some (.string s.nu)∧w'.cell? ⟨wr.heap.size,2,none⟩=some (.string s.de))
      ((refine ⟨?_,?_,?_⟩<;>first | with_reducible assumption | go_simp))
      (first
       | ((go_at_call 70;(with_reducible refine (HFQ.o w4.drew).mono ?_);rintro e2 w6 ⟨A7,c7,A8,c8,rfl,h7,h8,hb6⟩;have HB6:Hid (Below w4.heap.size w4 w6):=zAa (zAc (aN _ _) 1) hb6;have HZ6:=zq (HZ.o.below HB6.o);have HPM6:=zq (HPM4.o.below HB6.o);have H7:=zq h7;have H8:=zq h8;clear h7 h8 hb6 a0 a1 a2;obtain ⟨a0,a1,a2⟩:=HZ6.o.t))
       | ((go_at_call 69;(with_reducible refine (put_c W0.heap.size fj s.pt A7 A8 c7 c8 (shQ s) w6 HPM6.o H7.o H8.o).mono ?_);rintro e5 w9 ⟨rfl,hp9,hg9⟩;have HZ9:=zq (HZ6.o.parts HPM6.o hg9);have HPM9:=zq hp9;have HG9:=zq hg9;clear hp9 hg9 a0 a1 a2;obtain ⟨a0,a1,a2⟩:=HZ9.o.t)))
     have HE:Hid (zAw w9 W0.heap.size (zAi (d.sh.take (j+1)) F)):=by show zAw _ _ _;rw [HPS.o];exact HPM9.o
     have HGE:Hid (wd.grownBy w9 (some W0.heap.size)):=(HG.o.trans (zAH (zAa HBA.o HB6.o) _)).trans HG9.o;clear a0 a1 a2;rw [←HA.o];go_wp2
     go_roundg (gk - 1)
     case measure=>have:=HJ.o;omega
     case rel=>exact ⟨j+1,zt,zi,HE.o,HGE.o⟩
    ·have hje:j=d.sh.length:=by have:=HJ.o;omega
     have HE:Hid (zAw wr W0.heap.size ((ds.take (k+1)).foldl (orgF th day) (fun _=>0))):=by
      have:=HPJ.o;rw [hje,bO,←HOT.o] at this
      show zAw _ _ _
      rw [HFS.o];exact this
     have HBE:=zq (zBp HBD.o HBD.o.size HG.o (aC _));clear HPJ;go_wp2
     go_roundg (ds.length - (k+1))
     case measure=>have:=HK.o;omega
     case rel=>exact ⟨k+1,zh,zi,HE.o,HBE.o⟩
  ·obtain rfl:k=ds.length:=by have:=HK.o;omega
   have HPM0:Hid (zAw wr W0.heap.size (zAp rs ds i th use day 0)):=by
    have:=HPM.o;rw [bO] at this;exact this
   have l2:wr.cell? ⟨L,2,none⟩=some (.slice DA ds.length dc):=zAs HB.o ((by
    obtain ⟨_,_,_,_,_,_,_,_,_,_,hx,_⟩:=HLW0.o;exact hx.c 2 rfl))
   have hsl:L<wr.heap.size:=cY (by obtain ⟨_,_,_,_,_,_,_,_,_,_,hx,_⟩:=HLW0.o;exact hx.lt) HB.o.size
   have ui:(0:Int)≤(u:Int)∧(u:Int)≤(dc:Int):=za;clear HPM HK;have HB2:=zq HB.o;have HLZ:Hid (lim=true→zBM rs ds i th use day 0=false):=fun _=>longF_zero rs ds i th use day
   go_wp2
   go_loopg [70] u (PtR2 W0 W0.heap.size rs ds i th use day u lim)
   case atStart=>exact ⟨0,za,rfl,HPM0.o,HLZ.o,HB2.o⟩
   clear l2 hsl ui HPM0 HLZ HB2 HB
   case round =>
    obtain ⟨k,hkm,rfl,hpm,hlf,hb⟩:=hrel;have HK:=zq hkm;have HPM:=zq hpm;have HLF:=zq hlf;have HB:=zq hb;clear hkm hpm hlf hb
    by_cases hlt:k<u
    ·have hkd:k<ds.length:=by omega
     obtain ⟨b,o,hA,hb0,hc0⟩:=HDW0.o za;subst hA;have hrg:wr.rangeAt b (o+k*16) (deC ds[k]).toList:=fun q v hv=>zAs HB.o ((hc0 k hkd).1 q v hv)
     have HSH:=zq ((hc0 k hkd).2.shs.below HB.o);have HMV:=zq (fun (v:World) (hv:Below W0.heap.size W0 v)=>moves_c RA rc rs UA uc us (some ⟨b,o,none⟩) dc ds L k n i use day th v (HLW0.o.below hv) (HDW0.o.below hv) hkd HNN.o (HUL.o _ (aJ hkd)))
     have HSK:Hid (zCO rs ds i th use day ds[k]=false→zAp rs ds i th use day (k+1)=zAp rs ds i th use day k):=fun hm=>by
      rw [(zDr rs i th use day hkd).1];unfold zCQ;rw [aD (by rw [hm];simp)]
     have HSL:Hid (zCO rs ds i th use day ds[k]=false→zBM rs ds i th use day k=false→zBM rs ds i th use day (k+1)=false):=fun hm hl=>(longF_skip HC.o hkd hm hl).1
     have HTK:Hid (zCO rs ds i th use day ds[k]=true→zAp rs ds i th use day (k+1)=zDt ds[k] (zAp rs ds i th use day k)):=fun hm=>(keysF_take hkd hm).1
     have HTA:Hid (zCO rs ds i th use day ds[k]=true→∃ M,HoldB (zAG ds[k] (zBr rs ds i th use day k)) M (zAp rs ds i th use day k)∧SzN 90000000 (M*growD ds[k])∧ds[k].sh.length≤20):=fun hm=>take_ask HC.o hkd hm
     have HPA:=zq (zBU HC.o _ (aJ hkd));have HLS:=zq (longF_succ rs ds i th use day k);have HLM:Hid (zBM rs ds i th use day (k+1)=true→zBM rs ds i th use day u=true):=fun h=>longF_mono h za
     generalize ds[k]=d at *;clear hc0;go_upto_region 14 with fail
     iterate 8 go_step
     refine eW _ _ zj b (o+k*16) zj (deC d).toList _ hrg Tryz.underlying52 rfl zb ?_
     clear hrg;go_upto_region 15 with fail
     obtain ⟨wd,hwd⟩:∃ wd,wd=wr.alloc (.cells (deC d) 52):=⟨_,rfl⟩;rw [←hwd];have hbd:Below wr.heap.size wr wd:=zr;have HD1:Hid (Bx wd wr.heap.size (deC d) 52):=zu;have HBD:=zq (zAa HB.o hbd);have HPM1:=zq (HPM.o.below hbd);have HSH1:=zq (HSH.o.below hbd);have HXD:=zq (HX0.o.below HBD.o);clear hwd hbd HPM HSH HB;obtain ⟨x0,x1,x2⟩:=HXD.o.t;have hsx:=HXD.o.lt
     go_wp2_with fail
     with_reducible refine (HMV.o _ HBD.o).mono ?_
     rintro e w3 ⟨rfl,hb3⟩;have HB3:=zq (zAa HBD.o hb3);have HPM3:=zq (HPM1.o.below hb3);have HSH3:=zq (HSH1.o.below hb3);have HD3:=zq (HD1.o.below hb3);clear x0 x1 x2 hsx hb3 HPM1 HSH1 HD1 HXD HBD HMV
     cases hm:zCO rs ds i th use day d with
     | false =>
      have HE:Hid (zAw w3 W0.heap.size (zAp rs ds i th use day (k+1))):=by show zAw _ _ _;rw [HSK.o hm];exact HPM3.o
      have HL:Hid (lim=true→zBM rs ds i th use day (k+1)=false):=fun hh=>HSL.o hm (HLF.o hh)
      clear hm;go_wp2
      go_roundg (gk - 1)
      case measure=>have:=HK.o;omega
      case rel=>exact ⟨k+1,zh,zi,HE.o,HL.o,HB3.o⟩
     | true =>
      obtain ⟨M,hM1,hM2,hM3⟩:=HTA.o hm;have HTE:=zq (HTK.o hm);obtain ⟨m1,m2,m3,m4⟩:=keysTake_mem d (K:=zBr rs ds i th use day k);have HTC:=zq (take_c W0.heap.size _ M (zAp rs ds i th use day k) d w3 HPM3.o HSH3.o (movB_kd hm) HPA.o hM1 m2 m3 m4 hM2 za);clear hm hM1 hM2 hM3 m1 m2 m3 m4;go_upto_region 16 with fail
      iterate 5 go_step
      refine eW _ _ zj wr.heap.size 0 zj (deC d).toList _ (zDh HD3.o) Tryz.underlying52 rfl zb ?_
      go_wp2_with fail
      with_reducible refine HTC.o.mono ?_
      rintro e w4 ⟨rfl,hp4,hg4⟩;have HP4:Hid (zAw w4 W0.heap.size (zAp rs ds i th use day (k+1))):=by show zAw _ _ _;rw [HTE.o];exact hp4
      have HB4:=zq (zBp HB3.o HB3.o.size hg4 (aC _));clear hp4 hg4 HTC HPM3 HSH3 HD3 HB3
      cases lim with
      | false =>
       have HL:Hid (false=true→zBM rs ds i th use day (k+1)=false):=fun hh=>by cases hh
       go_wp2
       go_roundg (gk - 1)
       case measure=>have:=HK.o;omega
       case rel=>exact ⟨k+1,zh,zi,HP4.o,HL.o,HB4.o⟩
      | true =>
       have HKK:=(zBC HC.o i th use day (k+1)).2.1;have HLC:=zq (large_c W0.heap.size (zBr rs ds i th use day (k+1)) (zAp rs ds i th use day (k+1)) w4 HP4.o HKK (fun p=>(parts_sz HC.o i th use day (k+1) za p).le za))
       have HLS2:Hid (zCU (zBr rs ds i th use day (k+1)) (zAp rs ds i th use day (k+1))=zBM rs ds i th use day (k+1)):=by
        show _=_
        rw [HLS.o,HLF.o rfl,Bool.false_or]
       rw [HLS2.o] at HLC;clear HKK
       go_wp2_with fail
       with_reducible refine HLC.o.mono ?_
       rintro e w5 ⟨rfl,hb5⟩;have HP5:=zq (HP4.o.below hb5);have HB5:=zq (zAa HB4.o hb5);clear hb5 HLC HP4 HB4
       cases hlo:zBM rs ds i th use day (k+1) with
       | false =>
        have HL:Hid (zBM rs ds i th use day (k+1)=false):=hlo;clear hlo;go_wp2
        go_roundg (gk - 1)
        case measure=>have:=HK.o;omega
        case rel=>exact ⟨k+1,zh,zi,HP5.o,(fun _=>HL.o),HB5.o⟩
       | true =>
        have HL:=zq (HLM.o hlo);clear hlo;go_wp2;go_ret2
        exact ⟨zAa HB0.o HB5.o,fun _=>rfl,fun hh=>by rw [HL.o] at hh;cases hh⟩
    ·have hke:k=u:=by have:=HK.o;omega
     have HE:Hid (zAw wr W0.heap.size (zAp rs ds i th use day u)):=by have:=HPM.o;rw [hke] at this;exact this
     have HL:Hid ((lim&&zBM rs ds i th use day u)=false):=by
      show _=_
      cases lim with
      | false=>rfl
      | true=>have:=HLF.o rfl;rw [hke] at this;rw [this];rfl
     have HBZ:=zq (zAa HB0.o HB.o);clear HPM HLF hke;go_wp2;go_ret2
     unfold GivesPt;rw [HL.o];exact ⟨HBZ.o,(fun hh=>by cases hh),fun _=>⟨_,rfl,HE.o⟩⟩
end Go.Proofs.YtieoifkdobcpiaaGreatDoor
namespace Go.Proofs
open Go.Shelf
def Tryz.sortS80_ren:Go.Shelf.Ren:=⟨fun | 6=>80 | 8=>109 | 9=>121 | 19=>160 | 20=>161 | 21=>173 | 22=>174 | 23=>175 | 24=>176 | 25=>177 | 26=>178 | 27=>179 | 28=>180 | 29=>181 | 36=>228 | 31=>219 | 32=>220 | 37=>229 | 38=>230 | 39=>231 | 41=>263 | n=>n,fun | 27=>23 | 29=>9 | 3=>3 | 32=>188 | 26=>23 | 0=>0 | 44=>197 | 46=>95 | 4=>4 | 36=>229 | 35=>228 | 41=>133 | 5=>5 | 9=>9 | 53=>283 | 57=>287 | 63=>316 | 64=>219 | n=>n,fun | n=>n⟩
theorem Tryz.sortS80:Go.Proofs.SlLaysM.n6 Tryz.prog Tryz.sortS80_ren:={
 mixed:=zb
 f6:=⟨Tryz.f80.name,zc,Tryz.func80.trans (bA some zb)⟩
 f8:=Tryz.func109.trans (bA some zb)
 f9:=⟨Tryz.f121.name,zc,Tryz.func121.trans (bA some zb)⟩
 f19:=Tryz.func160.trans (bA some zb)
 f20:=Tryz.func161.trans (bA some zb)
 f21:=⟨Tryz.f173.name,zc,Tryz.func173.trans (bA some zb)⟩
 f22:=⟨Tryz.f174.name,zc,Tryz.func174.trans (bA some zb)⟩
 f23:=⟨Tryz.f175.name,zc,Tryz.func175.trans (bA some zb)⟩
 f24:=⟨Tryz.f176.name,zc,Tryz.func176.trans (bA some zb)⟩
 f25:=⟨Tryz.f177.name,zc,Tryz.func177.trans (bA some zb)⟩
 f26:=⟨Tryz.f178.name,zc,Tryz.func178.trans (bA some zb)⟩
 f27:=⟨Tryz.f179.name,zc,Tryz.func179.trans (bA some zb)⟩
 f28:=⟨Tryz.f180.name,zc,Tryz.func180.trans (bA some zb)⟩
 f29:=⟨Tryz.f181.name,zc,Tryz.func181.trans (bA some zb)⟩
 f31:=Tryz.func219.trans (bA some zb)
 f32:=Tryz.func220.trans (bA some zb)
 f36:=⟨Tryz.f228.name,zc,Tryz.func228.trans (bA some zb)⟩
 f37:=⟨Tryz.f229.name,zc,Tryz.func229.trans (bA some zb)⟩
 f38:=⟨Tryz.f230.name,zc,Tryz.func230.trans (bA some zb)⟩
 f39:=⟨Tryz.f231.name,zc,Tryz.func231.trans (bA some zb)⟩
 f41:=⟨Tryz.f263.name,zc,Tryz.func263.trans (bA some zb)⟩
 t0:=Tryz.underlying0
 a0:=Tryz.isAgg0
 z0:=Tryz.sizeOf0
 v0:=Tryz.zeroValue0
 t3:=Tryz.underlying3
 a3:=Tryz.isAgg3
 z3:=Tryz.sizeOf3
 v3:=Tryz.zeroValue3
 t4:=Tryz.underlying4
 a4:=Tryz.isAgg4
 z4:=Tryz.sizeOf4
 v4:=Tryz.zeroValue4
 t5:=Tryz.underlying5
 a5:=Tryz.isAgg5
 z5:=Tryz.sizeOf5
 v5:=Tryz.zeroValue5
 t9:=Tryz.underlying9
 a9:=Tryz.isAgg9
 z9:=Tryz.sizeOf9
 v9:=Tryz.zeroValue9
 t26:=Tryz.underlying23
 a26:=Tryz.isAgg23
 z26:=Tryz.sizeOf23
 v26:=Tryz.zeroValue23
 t27:=Tryz.underlying23
 a27:=Tryz.isAgg23
 z27:=Tryz.sizeOf23
 v27:=Tryz.zeroValue23
 t29:=Tryz.underlying9
 a29:=Tryz.isAgg9
 z29:=Tryz.sizeOf9
 v29:=Tryz.zeroValue9
 t32:=Tryz.underlying188
 a32:=Tryz.isAgg188
 z32:=Tryz.sizeOf188
 v32:=Tryz.zeroValue188
 t35:=Tryz.underlying228
 a35:=Tryz.isAgg228
 z35:=Tryz.sizeOf228
 v35:=Tryz.zeroValue228
 t36:=Tryz.underlying229
 a36:=Tryz.isAgg229
 z36:=Tryz.sizeOf229
 v36:=Tryz.zeroValue229
 t41:=Tryz.underlying133
 a41:=Tryz.isAgg133
 z41:=Tryz.sizeOf133
 v41:=Tryz.zeroValue133
 t44:=Tryz.underlying197
 a44:=Tryz.isAgg197
 z44:=Tryz.sizeOf197
 v44:=Tryz.zeroValue197
 t46:=Tryz.underlying95
 a46:=Tryz.isAgg95
 z46:=Tryz.sizeOf95
 v46:=Tryz.zeroValue95
 t53:=Tryz.underlying283
 a53:=Tryz.isAgg283
 z53:=Tryz.sizeOf283
 v53:=Tryz.zeroValue283
 t57:=Tryz.underlying287
 a57:=Tryz.isAgg287
 z57:=Tryz.sizeOf287
 v57:=Tryz.zeroValue287
 t63:=Tryz.underlying316
 a63:=Tryz.isAgg316
 z63:=Tryz.sizeOf316
 v63:=Tryz.zeroValue316
 t64:=Tryz.underlying219
 a64:=Tryz.isAgg219
 z64:=Tryz.sizeOf219
 v64:=Tryz.zeroValue219 }
end Go.Proofs
namespace Go.Proofs.YtieoifkdobcpiaaGreatDoor
open Go.Shelf Go.RowKit Go.Lib Go.Sort Dw
def bytL (s:BA):List UInt8:=s.data.toList
def ofBy (l:List UInt8):BA:=⟨l.toArray⟩
theorem ofBy_byt (s:BA):ofBy (bytL s)=s:=by unfold ofBy bytL;cases s;simp
theorem byt_of (l:List UInt8):bytL (ofBy l)=l:=by unfold ofBy bytL;simp
theorem encStr_byt (s:BA):encStr (bytL s)=Value.string s:=by
 show Value.string ⟨(bytL s).toArray⟩=_
 have:=ofBy_byt s;unfold ofBy at this;rw [this]
def srtP (l:List BA):List BA:=((l.map bytL).mergeSort fun x y=>decide (x≤y)).map ofBy
theorem srtP_mem (l:List BA) (s:BA):s∈srtP l↔s∈l:=by
 unfold srtP;rw [List.mem_map]
 constructor
 ·rintro ⟨x,hx,rfl⟩
  obtain ⟨y,hy,rfl⟩:=List.mem_map.1 ((List.mergeSort_perm _ _).mem_iff.1 hx);rw [ofBy_byt];exact hy
 ·intro h
  exact ⟨bytL s,(List.mergeSort_perm _ _).mem_iff.2 (eN h),ofBy_byt s⟩
theorem srtP_inc {l:List BA} (hn:l.Nodup):IncN (srtP l):=by
 have h1:=List.pairwise_mergeSort (le:=fun x y:List UInt8=>decide (x≤y)) (fun a b c h k=>by
  simp only [aH] at *;exact List.le_trans h k) (fun a b=>by
  simp only [Bool.or_eq_true,aH];exact List.le_total a b) (l.map bytL)
 have h2:((l.map bytL).mergeSort fun x y=>decide (x≤y)).Nodup:=by
  refine (List.mergeSort_perm _ _).nodup_iff.2 ?_
  exact List.Pairwise.map bytL (fun a b h e=>h (by rw [←ofBy_byt a,e,ofBy_byt])) hn
 unfold srtP IncN;rw [List.pairwise_map];refine (h1.and h2).imp fun {a b} h=>?_
 obtain ⟨h3,h4⟩:=h;rw [slt_list,Dw.toList_eq,Dw.toList_eq]
 show decide (bytL (ofBy a)<bytL (ofBy b))=true
 rw [byt_of,byt_of,eU];simp only [aH] at h3
 rcases List.le_iff_lt_or_eq.1 h3 with h | h
 ·exact h
 ·exact absurd h h4
theorem srtP_holL {K:List BA} {f:zBa} (hk:IncN K) (hh:HoldOk K f) {l:List BA} (hn:l.Nodup) (hm:∀ p,p∈l↔f p≠0):srtP l=holL K f :=
 incN_ext (srtP_inc hn) (holL_inc hk) fun x=>by rw [srtP_mem,hm,holL_mem hh]
theorem below_putRow {α:Type} [Inhabited α] (enc:α→Value) {w:World} {blk B:Nat} (n:Nat) (d:Array α) (os:Array Obj) (hB:B≤blk) (hb:blk<w.heap.size):Below B w (grow (putRow enc (Sort.ahead w n) blk 0 d) os):=by
 have hp:Below B w (putRow enc (Sort.ahead w n) blk 0 d) :=
  ⟨rfl,rfl,rfl,by rw [size_putRow];exact aC _,fun i hi=>by
   show ((Sort.ahead w n).heap.modify blk _)[i]?=_
   rw [Array.getElem?_modify,aD za]
   rfl⟩
 refine ⟨hp.os,hp.tape,hp.output,?_,fun i hi=>?_⟩
 ·rw [size_grow]
  exact cU hp.size (cX _ _)
 ·rw [heap_grow_old _ _ (by have:=hp.size;omega)]
  exact hp.block i hi
theorem sortP_c (g cap:Nat) (L:List BA) (base:Nat) (w:World) (hown:zAE encS 1 w base 9 (.slice (some ⟨g,0,none⟩) L.length cap) L) (hl:L.length≤1000000) (h0:0<L.length) :
  Calls Tryz.prog 80 #[.slice (some ⟨g,0,none⟩) L.length cap] w fun e w'=>e = .returned (.tuple #[])∧Strs w' (some ⟨g,0,none⟩) (srtP L)∧Below base w w':=by
 obtain ⟨hbase,cs,hcs⟩:=zAR hown (g:=g) rfl;have hgl:g<w.heap.size:=(Array.getElem?_eq_some_iff.1 hcs).1;obtain ⟨A',c',he,hrd⟩:=hown.rd1
 injection he with hA _ _
 subst hA;obtain ⟨b,o,e2,hc⟩:=hrd h0
 injection e2 with e2
 injection e2 with e3 e4 _
 subst e3;subst e4
 have hH:Holds encStr w g 0 (L.map bytL).toArray:=fun j hj=>by
  have hj':j<L.length:=yf;refine ⟨?_,bV w g _ cs _ hcs⟩
  rw [hc j hj'];simp [hj',encStr_byt]
 have hS:=AnyM.slices_Sort_string Tryz.sortS80 g 0 cap (L.map bytL) w hH hgl ze
 change Calls Tryz.prog 80 _ _ _ at hS
 rw [cW] at hS;refine hS.mono fun e w' ⟨he,n,os,hw⟩=>⟨he,?_,?_⟩
 ·have hh:=holds_sortWorld encStr w g 0 n (L.map bytL).toArray ((L.map bytL).mergeSort fun x y=>decide (x≤y)).toArray os hgl hH zd
  have hw':w'=sortWorld encStr w g 0 n ((L.map bytL).mergeSort fun x y=>decide (x≤y)).toArray os:=hw
  rw [hw'];refine fun hp=>⟨g,0,rfl,fun i hi=>?_⟩
  have hi':i<((L.map bytL).mergeSort fun x y=>decide (x≤y)).length:=by unfold srtP at hi;simpa using hi
  have:=(hh i (by simpa using hi')).1
  rw [this];have e:(srtP L)[i]?=some (ofBy (((L.map bytL).mergeSort fun x y=>decide (x≤y))[i]'hi')):=by unfold srtP;rw [List.getElem?_map,List.getElem?_eq_getElem hi'];rfl
  rw [(List.getElem?_eq_some_iff.1 e).2,←encStr_byt,byt_of]
  congr 2
  show ((L.map bytL).mergeSort fun x y=>decide (x≤y)).toArray[i]! = _
  rw [getElem!_pos _ _ (by simpa using hi')]
  rfl
 ·rw [hw];exact below_putRow _ _ _ _ hbase hgl
def GivesPs (l:List BA) (w:World) (e:Ending) (w':World):Prop:=∃ A c,e = .returned (.slice A l.length c)∧Strs w' A l∧Below w.heap.size w w'
def PsR (w:World) (g:Nat) (L:List (BA×Value)) (m:Nat) (ov:Value) (wr:World):Prop :=
 ∃ (R:List (BA×Value)) (v:Value) (acc:List BA),v=ov∧R.length=m∧zAU Value.string wr w.heap.size g L R∧zAE encS 1 wr w.heap.size 9 v acc∧(acc++R.map (·.1)).Perm (L.map (·.1))∧Below w.heap.size w wr
theorem PRange_push {w w':World} {it g:Nat} {L R:List (BA×Value)} {α:Type} {enc:α→List Value} {k b:Nat} {e:TypeId} {v:Value} {l:List α} (h:zAU Value.string w it g L R) (ho:zAE enc k w b e v l) (hg:w.grownBy w' v.ownBlock):zAU Value.string w' it g L R:=by
 refine h.keep (hg.block g h.map.lt fun e2=>?_) (hg.block it h.lt fun e2=>?_)
 ·obtain ⟨_,cs,hc⟩:=zAR ho e2.symm
  obtain ⟨es,clk,h1,_⟩:=h.map;rw [h1] at hc;cases hc
 ·obtain ⟨_,cs,hc⟩:=zAR ho e2.symm
  obtain ⟨es,clk,since,c0,seen,_,_,_,_,_,h6,_⟩:=h;rw [h6] at hc;cases hc
theorem parties_c (g:Nat) (K:List BA) (f:zBa) (w:World) (hp:zAw w g f) (hk:IncN K) (hh:HoldOk K f) (hlen:K.length≤1000000):Calls Tryz.prog 35 #[.map (some g)] w (GivesPs (holL K f) w):=by
 obtain ⟨L,h1,h2,h3⟩:=hp;obtain ⟨o,hrun,hpr⟩:=zAU.start tMapP h1;have hgl:=h1.lt;have hLn:=h1.nodup
 have hLm:∀ p,p∈L.map (·.1)↔f p≠0:=fun p=>by
  rw [h2,List.mem_map]
  constructor
  ·rintro ⟨x,hx,rfl⟩;exact ⟨x.2,hx⟩
  ·rintro ⟨v,hv⟩;exact ⟨_,hv,rfl⟩
 have hLl:L.length≤1000000:=by
  have:(L.map (·.1)).length≤K.length:=List.Nodup.length_le_of_subset hLn fun x hx=>eQ fun hn=>(hLm x).1 hx (hh.out x hn)
  simp at this
  omega
 have HSE:Hid (∀ l:List BA,l.Perm (L.map (·.1))→srtP l=holL K f):=fun l hl=>srtP_holL hk hh (hl.nodup_iff.2 hLn) fun p=>by rw [hl.mem_iff,hLm]
 have HPR:=zq hpr;have HB0:Hid (Below w.heap.size w (w.alloc o)):=(aN _ _).alloc (aC _) _;clear h1 h2 h3 hpr hk hh hLn hLm
 go_enter Tryz.func35,Tryz.ntmps35
 go_wp2;clear hrun
 go_loopg [3] L.length (PsR w g L)
 case atStart=>exact ⟨L,_,[],rfl,rfl,HPR.o,zAE.nil _ _ _ _ _,List.Perm.refl _,HB0.o⟩
 clear HPR HB0
 case round =>
  obtain ⟨R,v,acc,rfl,hm,hpr,how,hperm,hb⟩:=hrel;have HM:=zq hm;have HPR:=zq hpr;have HOW:=zq how;have HPM:=zq hperm;have HB:=zq hb
  have hal:acc.length+R.length≤1000000:=by
   have:=hperm.length_eq;simp at this
   omega
  clear hm hpr how hperm hb
  rcases zAU.next (P:=Tryz.prog) HPR.o str_inj za 0 with ⟨hR,hnx⟩ | ⟨x,R',w',hpx,hxL,hnx,hen,hpr',hg',hs'⟩
  ·have hpe:acc.Perm (L.map (·.1)):=by
    have:=HPM.o;rw [hR,List.map_nil,aE] at this;exact this
   have HS:=zq (HSE.o acc hpe);clear hR hpe
   obtain ⟨A,c,hv⟩:∃ A c,v = .slice A acc.length c:=by
    rcases HOW.o.2 with ⟨h,hn⟩ | ⟨g',cap,cur,h,_⟩
    ·exact ⟨none,0,by rw [h,hn]⟩
    ·exact ⟨_,_,h⟩
   subst hv
   by_cases h0:acc=[]
   ·subst h0
    have HNS:Hid (Calls Tryz.prog 80 #[.slice A 0 c] wr fun e w'=>e = .returned (.tuple #[])∧w'=wr):=AnyM.slices_Sort_string_none Tryz.sortS80 A c wr
    have HLE:Hid (holL K f=[]):=by show _=_;rw [←HS.o];unfold srtP;simp
    go_wp2_with fail
    with_reducible refine HNS.o.mono ?_
    rintro e w2 ⟨rfl,rfl⟩;go_wp2;go_ret
    unfold GivesPs;rw [HLE.o];exact ⟨A,c,rfl,(fun h=>qh),HB.o⟩
   ·have hpos:0<acc.length:=List.length_pos_iff.2 h0
    obtain ⟨g2,rfl⟩:∃ g2,A=some ⟨g2,0,none⟩:=by
     rcases HOW.o.2 with ⟨h,hn⟩ | ⟨g',cap,cur,h,_⟩
     ·omega
     ·injection h with h;exact ⟨_,h⟩
    have HSO:=zq (sortP_c g2 c acc w.heap.size wr HOW.o za hpos)
    have HLN:Hid (acc.length=(holL K f).length):=by
     show _=_
     rw [←HS.o];unfold srtP;simp
    clear h0
    go_wp2_with fail
    with_reducible refine HSO.o.mono ?_
    rintro e w2 ⟨rfl,hst,hb2⟩;have HST:=zq hst;have HB2:Hid (Below w.heap.size w w2):=HB.o.trans hb2;clear hst hb2;go_wp2;go_ret
    exact ⟨_,c,by rw [HLN.o];rfl,by rw [←HS.o];exact HST.o,HB2.o⟩
  ·obtain ⟨p,val⟩:=x
   have HB1:=zq (zBp HB.o HB.o.size hg' (aC _))
   have HO1:Hid (zAE encS 1 w' w.heap.size 9 v acc):=HOW.o.grown hg' (by
    cases hvv:v.ownBlock with
    | none=>exact .inl rfl
    | some q =>
     refine .inr fun e=>?_
     injection e with e
     obtain ⟨_,cs,hc⟩:=zAR HOW.o hvv;have:=pr_nocell HPR.o 0;obtain ⟨es,clk,since,c0,seen,_,_,_,_,_,h6,_⟩:=HPR.o;rw [e,h6] at hc;cases hc)
   have HPR1:=zq hpr';have HPX:=zq hpx;have hRl:R.length=R'.length+1:=by have:=hpx.length_eq;rw [aR] at this;exact this
   have hws:w.heap.size≤w'.heap.size:=HB1.o.size;clear hpx hpr' hg' hs' hxL
   go_wp2_with (at_builtin;refine zBX _ _ _ elStr rfl rfl w.heap.size v acc rfl (HO1.o.alloc _) w'.heap.size 1 p rfl (bZ _ _) rfl zx zm za ze ?_;intro v1 w4 hown4 hg4 hb4)
   have HO4:=zq hown4;have HB4:=zq ((HB1.o.alloc hws _).trans hb4);have HPR4:=zq (PRange_push (HPR1.o.below (ba _ _)) (HO1.o.alloc _) hg4);clear hown4 hg4 hb4;go_wp2
   go_roundg R'.length
   case measure=>have:=HM.o;omega
   case rel =>
    refine ⟨R',_,acc++[p],rfl,rfl,HPR4.o,HO4.o,?_,HB4.o⟩
    have h5:=HPX.o.map (·.1);rw [dT] at h5;rw [List.append_assoc,List.singleton_append];exact (List.Perm.append_left acc h5.symm).trans HPM.o
end Go.Proofs.YtieoifkdobcpiaaGreatDoor
namespace Go.Proofs.YtieoifkdobcpiaaGreatDoor
open Go.RowKit Dw
def GivesLi (Ls:List Int) (w:World) (e:Ending) (w':World):Prop:=∃ v,e = .returned v∧zAE encI 1 w' w.heap.size 3 v Ls∧Below w.heap.size w w'
def LiR (W:World) (ds:List De) (P:De→Bool) (m:Nat) (e i:Value) (wr:World):Prop :=
 ∃ (v:Value) (j:Nat),v=e∧j+m=ds.length∧i = .int .i64 (j:Nat)∧Below W.heap.size W wr∧zAE encI 1 wr W.heap.size 3 v (licL ds P j)
theorem licences_c (RA:Option Addr) (rc:Nat) (rs:List Rg) (UA:Option Addr) (uc:Nat) (us:List BA) (DA:Option Addr) (dc:Nat) (ds:List De) (L n i:Nat) (use:BA) (day:Int) (th p:BA) (x:Bool) (w:World)
  (hl:LgIs RA rc rs UA uc us DA dc ds w L) (hd:Des w DA ds) (hn:(zAm rs)[n]?=some i) (hul:∀ d∈ds,d.us.length≤1000000) (hdl:ds.length≤200) :
  Calls Tryz.prog 82 #[.pointer (some ⟨L,0,none⟩),.string th,.string p,.agg (zCP n use day),.bool x] w (GivesLi (licL ds (zCC rs ds i use day th p x) ds.length) w):=by
 have HLG:=zq hl;have HD:=zq hd;have HUL:=zq hul;have hbw:Below w.heap.size w (w.alloc (.cells (zCP n use day) 76)):=(aN _ _).alloc (aC _) _;have HX:Hid (Bx (w.alloc (.cells (zCP n use day) 76)) w.heap.size (zCP n use day) 76):=Bx.new _ _ _;obtain ⟨W,hW⟩:∃ W,W=w.alloc (.cells (zCP n use day) 76):=⟨_,rfl⟩;rw [←hW] at HX hbw;have HB:=zq hbw;have HLW:=zq (hl.below hbw);have HDW:=zq (hd.below hbw);clear hl hd hul hbw;obtain ⟨r1,r2,g1,g2,AL,cL,vr,vi,ins,base,hlx,_⟩:=HLW.o
 go_enter Tryz.func82,Tryz.ntmps82
 go_upto_region 1 with fail
 rw [←hW];clear hW;have l2:=hlx.c 2 rfl;have hsl:=hlx.lt;go_wp2
 go_loopg [11,20] ds.length (LiR W ds (zCC rs ds i use day th p x))
 case atStart=>exact ⟨_,0,rfl,za,rfl,aN _ _,zAE.nil _ _ _ _ _⟩
 clear l2 hsl hlx
 case round =>
  obtain ⟨v,j,rfl,hjm,rfl,hb,ho⟩:=hrel;have HJ:=zq hjm;have HBW:=zq hb;have HO:=zq ho;have hjl:j≤ds.length:=za;have hll:=licL_len ds (zCC rs ds i use day th p x) j;clear hjm hb ho
  by_cases hlt:j<ds.length
  ·obtain ⟨b,o,hA,hb0,hc0⟩:=HDW.o za
   subst hA;obtain ⟨d,hdd⟩:∃ d,ds[j]=d:=⟨_,rfl⟩;have hp:=(hc0 j hlt).1;rw [hdd] at hp;have hrg:wr.rangeAt b (o+j*16) (deC d).toList:=fun q v hv=>(HBW.o.cell (p:=⟨b,o+j*16+q,none⟩) hb0).trans (hp q v hv)
   have HS:Hid (licL ds (zCC rs ds i use day th p x) (j+1)=licL ds (zCC rs ds i use day th p x) j++(if zCC rs ds i use day th p x d=true then [(j:Int)] else [])):=by
    show _=_
    rw [licL_succ,List.getD_eq_getElem?_getD,List.getElem?_eq_getElem hlt,eB,hdd]
   have hval:=fun (u:World) (hu:Below W.heap.size W u)=>valid_c RA rc rs UA uc us (some ⟨b,o,none⟩) dc ds L j n i use day u (HLW.o.below hu) (HDW.o.below hu) hlt hn (HUL.o _ (aJ hlt))
   rw [hdd] at hval;have HVAL:=zq hval;clear hp hc0 hdd hval;go_upto_region 4 with fail
   iterate 8 go_step
   refine eW _ _ zj b (o+j*16) zj (deC d).toList _ hrg Tryz.underlying52 rfl zb ?_
   clear hrg;go_upto_region 5 with fail
   obtain ⟨wd,hwd⟩:∃ wd,wd=wr.alloc (.cells (deC d) 52):=⟨_,rfl⟩;rw [←hwd];have hbd:Below wr.heap.size wr wd:=zr;have HD1:Hid (Bx wd wr.heap.size (deC d) 52):=zu;have HBD:=zq (zAa HBW.o hbd);have HOD:=zq (HO.o.below hbd);have HXD:=zq (HX.o.below HBD.o);clear hwd hbd HO HBW;have d2:=HD1.o.c 2 rfl;have d3:=HD1.o.c 3 rfl;have d4:=HD1.o.c 4 rfl;have d8:=HD1.o.c 8 rfl;have hsd:=HD1.o.lt;obtain ⟨x0,x1,x2⟩:=HXD.o.t;have hsx:=HXD.o.lt
   have HNO:zCC rs ds i use day th p x d=false→Hid (zAE encI 1 wd W.heap.size 3 v (licL ds (zCC rs ds i use day th p x) (j+1))):=fun h=>by
    show zAE _ _ _ _ _ _ _
    rw [HS.o,h,aD zd,aE];exact HOD.o
   by_cases hq:d.kd=3
   case neg =>
    have e1:(d.kd == 3)=false:=by simpa using hq
    have HN:=HNO (by unfold zCC;rw [cN hq];rfl)
    clear hq HNO;go_wp2
    go_roundg (gk - 1)
    case measure=>have:=HJ.o;omega
    case rel=>exact ⟨_,j+1,rfl,zt,zi,HBD.o,HN.o⟩
   have e1:(d.kd == 3)=true:=by simpa using hq
   by_cases ht:d.th=th
   case neg =>
    have q1:=zAM ht;have HN:=HNO (by unfold zCC;rw [cN ht];simp)
    clear hq ht HNO;go_wp2
    go_roundg (gk - 1)
    case measure=>have:=HJ.o;omega
    case rel=>exact ⟨_,j+1,rfl,zt,zi,HBD.o,HN.o⟩
   have q1:=zBb ht
   by_cases hf:d.fr=p
   case neg =>
    have q2:=zAM hf;have HN:=HNO (by unfold zCC;rw [cN hf];simp)
    clear hq ht hf HNO;go_wp2
    go_roundg (gk - 1)
    case measure=>have:=HJ.o;omega
    case rel=>exact ⟨_,j+1,rfl,zt,zi,HBD.o,HN.o⟩
   have q2:=zBb hf
   cases hx:d.ex == x with
   | false =>
    have HN:=HNO (by unfold zCC;rw [hx];simp)
    clear hq ht hf HNO;go_wp2
    go_roundg (gk - 1)
    case measure=>have:=HJ.o;omega
    case rel=>exact ⟨_,j+1,rfl,zt,zi,HBD.o,HN.o⟩
   | true =>
    have HV:Hid (zCC rs ds i use day th p x d=vB rs ds i use day d):=by show _=_;unfold zCC;rw [cM hq,cM ht,cM hf,hx];rfl
    clear hq ht hf
    go_wp2_with fail
    with_reducible refine (HVAL.o _ HBD.o).mono ?_
    rintro e w3 ⟨rfl,hb3⟩;have HB3:=zq (zAa HBD.o hb3);have HO3:=zq (HOD.o.below hb3);clear hb3 d2 d3 d4 d8 hsd x0 x1 x2 hsx e1 q1 q2 hx HXD HD1 HOD HBD HVAL HNO
    cases hv:vB rs ds i use day d with
    | false =>
     have HN:Hid (zAE encI 1 w3 W.heap.size 3 v (licL ds (zCC rs ds i use day th p x) (j+1))):=by
      show zAE _ _ _ _ _ _ _
      rw [HS.o,HV.o,hv,aD zd,aE];exact HO3.o
     clear hv;go_wp2
     go_roundg (gk - 1)
     case measure=>have:=HJ.o;omega
     case rel=>exact ⟨_,j+1,rfl,zt,zi,HB3.o,HN.o⟩
    | true =>
     have HS2:Hid (licL ds (zCC rs ds i use day th p x) (j+1)=licL ds (zCC rs ds i use day th p x) j++[(j:Int)]):=by
      show _=_
      rw [HS.o,HV.o,hv,aF rfl]
     have hW3:W.heap.size≤w3.heap.size:=HB3.o.size;clear hv
     go_wp2_with (at_builtin;refine zBX _ _ _ elInt rfl rfl W.heap.size v (licL ds (zCC rs ds i use day th p x) j) rfl (HO3.o.alloc _) w3.heap.size 1 (j:Int) rfl (bZ _ _) rfl zx zm za ze ?_;intro v1 w4 hown4 hg4 hb4)
     have HO4:Hid (zAE encI 1 w4 W.heap.size 3 v1 (licL ds (zCC rs ds i use day th p x) (j+1))):=ym;have HB4:=zq ((HB3.o.alloc hW3 _).trans hb4);clear hown4 hg4 hb4;go_wp2
     go_roundg (gk - 1)
     case measure=>have:=HJ.o;omega
     case rel=>exact ⟨_,j+1,rfl,zt,zi,HB4.o,HO4.o⟩
  ·have hje:j=ds.length:=by omega
   rw [hje] at HO;go_wp2;go_ret
   exact ⟨v,rfl,zAE.base HO.o HB.o.size,zAa HB.o HBW.o⟩
def zCK (seen:List BA):BA→Option Value:=fun x=>if memS seen x=true then some (.bool true) else none
theorem seenM_nil:zCK []=fun _=>none:=by funext x;rfl
theorem seenM_cons (p:BA) (seen:List BA):zCK (p::seen)=fun x=>if x=p then some (.bool true) else zCK seen x:=by
 funext x
 unfold zCK
 by_cases h:x=p
 ·rw [aF (zBR.2 (by rw [h];exact aQ)),aF h]
 ·rw [aD h]
  by_cases hm:memS seen x=true
  ·rw [aF hm,aF (zBR.2 (aP _ (zBR.1 hm)))]
  ·rw [aD hm,aD fun h2=>?_]
   rcases List.mem_cons.1 (zBR.1 h2) with h3 | h3
   ·exact h h3
   ·exact hm (zBR.2 h3)
theorem tMapSB:Tryz.prog.underlying 157=some (.map 9 4):=Tryz.underlying157
theorem zBoolS (w:World):(zeroValue 4).run Tryz.prog w = .ok (.bool false) w:=zb
def CtR (W:World) (nx:BA→Option BA) (ps:List BA) (res:BA) (m:Nat) (e:Value) (wr:World):Prop :=
 ∃ (p:BA) (seen:List BA),e = .string p∧Below W.heap.size W wr∧W.heap.size<wr.heap.size∧zAq Value.string wr W.heap.size (zCK seen)∧CtlI nx ps m seen p res
theorem controls_c (RA:Option Addr) (rc:Nat) (rs:List Rg) (UA:Option Addr) (uc:Nat) (us:List BA) (DA:Option Addr) (dc:Nat) (ds:List De) (L n i:Nat) (use:BA) (day:Int) (th ho:BA) (w:World)
  (hl:LgIs RA rc rs UA uc us DA dc ds w L) (hd:Des w DA ds) (hn:(zAm rs)[n]?=some i) (hul:∀ d∈ds,d.us.length≤1000000) (hdl:ds.length≤200) :
  Calls Tryz.prog 81 #[.pointer (some ⟨L,0,none⟩),.string th,.string ho,.agg (zCP n use day)] w (zAe (.string (ctlF rs ds i use day th ho)) w):=by
 have HI0:=zq (ctlI_start rs ds i use day th ho);generalize ctlF rs ds i use day th ho=res at *;have hbw:Below w.heap.size w (w.alloc (.cells (zCP n use day) 76)):=(aN _ _).alloc (aC _) _;have HX:Hid (Bx (w.alloc (.cells (zCP n use day) 76)) w.heap.size (zCP n use day) 76):=Bx.new _ _ _;obtain ⟨W,hW⟩:∃ W,W=w.alloc (.cells (zCP n use day) 76):=⟨_,rfl⟩;rw [←hW] at HX hbw;have HB:=zq hbw;have HLW:=zq (hl.below hbw);have HDW:=zq (hd.below hbw);have HUL:=zq hul;clear hl hd hul hbw;have hmm:=@run_makeMap Tryz.prog
 go_enter Tryz.func81,Tryz.ntmps81
 go_upto_region 1 with fail
 rw [←hW];clear hW;go_upto_region 2 with fail
 clear hmm;have HM0:Hid (zAq Value.string (W.alloc (.map #[] 0)) W.heap.size (zCK [])):=by show zAq _ _ _ _;rw [seenM_nil];exact zAq.new Value.string W
 have HBM:Hid (Below W.heap.size W (W.alloc (.map #[] 0))):=(aN _ _).alloc (aC _) _
 go_loopg [2] (ds.length+2) (CtR W (nextP rs ds i use day th) (ho::ds.map De.to_) res)
 case atStart=>exact ⟨ho,[],rfl,HBM.o,zd,HM0.o,HI0.o⟩
 clear HM0 HBM HI0
 case round =>
  obtain ⟨p,seen,rfl,hb,hlt0,hm,hi⟩:=hrel;have HBW:=zq hb;have HM:=zq hm;have HI:=zq hi;clear hb hm hi;have hlk:=zAn tMapSB kStr zBoolS HM.o p false
  cases hms:memS seen p with
  | true =>
   have HRS:=zq (HI.o.stop hms);rw [show zCK seen p=some (.bool true) by unfold zCK;rw [aF hms]] at hlk
   simp only [eD,dO,eB] at hlk;clear hms;go_wp2;go_ret
   exact zAe.mk (by rw [HRS.o];rfl) (zAa HB.o HBW.o)
  | false =>
   rw [show zCK seen p=none by unfold zCK;rw [aD (by rw [hms];simp)]] at hlk
   simp only [eD,dO,dZ] at hlk;have HMS:=zq hms;clear hms;obtain ⟨wu,hup,hmu,hgu,hsu⟩:=zAC tMapSB kStr HM.o p (.bool true);have HMU:Hid (zAq Value.string wu W.heap.size (zCK (p::seen))):=by show zAq _ _ _ _;rw [seenM_cons];exact hmu
   have hbu:Below W.heap.size W wu:=HBW.o.grown hgu HBW.o.size (fun k hk=>by injection hk with hk;rw [←hk];exact aC _)
   have HBU:=zq hbu;have hltu:W.heap.size<wu.heap.size:=cY hlt0 hgu.size;have HXU:=zq (HX.o.below hbu);have HLC:=zq (licences_c RA rc rs UA uc us DA dc ds L n i use day th p true wu (HLW.o.below hbu) (HDW.o.below hbu) hn HUL.o hdl);obtain ⟨Ls,hLs⟩:∃ Ls,Ls=licL ds (zCC rs ds i use day th p true) ds.length:=⟨_,rfl⟩;rw [←hLs] at HLC;have HLS:=zq hLs;have hll:Ls.length≤ds.length:=by rw [hLs];exact licL_len _ _ _
   clear hmu hgu hsu hbu hLs HM HBW;obtain ⟨x0,x1,x2⟩:=HXU.o.t;have hsx:=HXU.o.lt
   go_wp2_with fail
   with_reducible refine HLC.o.mono ?_
   rintro e w5 ⟨v,rfl,ho5,hb5⟩;obtain ⟨A,c,rfl,hrd⟩:=ho5.rdk;have HRD:=zq hrd;have HB5:=zq (zAa HBU.o hb5);have HM5:=zq (HMU.o.below hb5);have hlt5:W.heap.size<w5.heap.size:=cY hltu hb5.size;clear ho5 hb5 hrd x0 x1 x2 hsx hup hlk HLC HXU HMU HBU
   cases Ls with
   | nil =>
    have HRS:=zq (HI.o.none HMS.o (by show (ds.find? _).map _=_;rw [licL_none HLS.o.symm];rfl))
    simp only [dP];go_wp2;go_ret
    exact zAe.mk (by rw [HRS.o];rfl) (zAa HB.o HB5.o)
   | cons z t =>
    obtain ⟨k,hk,hz,hfd⟩:=licL_some HLS.o.symm;subst hz;obtain ⟨d,hdd⟩:∃ d,ds[k]=d:=⟨_,rfl⟩;rw [hdd] at hfd;have hnx:nextP rs ds i use day th p=some d.to_:=by unfold nextP;rw [hfd];rfl
    have HNX:=zq (HI.o.next HMS.o hnx (nextP_mem hnx));obtain ⟨b,o,hA,hb0,hc0⟩:=HDW.o za;subst hA;have hp:=(hc0 k hk).1;rw [hdd] at hp;have d5:w5.cell? ⟨b,o+k*16+5,none⟩=some (.string d.to_):=(HB5.o.cell (p:=⟨b,o+k*16+5,none⟩) hb0).trans (hp 5 _ rfl);obtain ⟨b2,o2,rfl,hc2⟩:=HRD.o zd;have s0:w5.cell? ⟨b2,o2,none⟩=some (.int .i64 (k:Int)):=hc2 0 _ rfl;obtain ⟨r1,r2,g1,g2,AL,cL,vr,vi,ins,base,hlx,_⟩:=HLW.o.below HB5.o;have l2:=hlx.c 2 rfl;have hsl:=hlx.lt;have hpos:0<gk:=HNX.o.1;have hln:(((k:Int)::t).length == 0)=false:=zd;clear hc0 hp hc2 hlx hfd hnx hdd HRD;simp only [aR] at *;have hln2:(((t.length+1:Nat):Int) == 0)=false:=ze;go_wp2
    go_quiet (fail)
    go_wp2
    go_roundg (gk - 1)
    case measure=>omega
    case rel=>exact ⟨d.to_,p::seen,rfl,zAc HB5.o _,by simpa using hlt5,HM5.o.below (zAc (aN _ _) _),HNX.o.2⟩
abbrev zSpot:Array Value:=#[.int .i64 0,.string ⟨#[]⟩,.int .i64 0]
def zBz (rs:List Rg) (us:List BA) (pl use:BA) (day:Int):Int:=if (leafB rs pl&&memS us use)=false then 5 else if zCM day=false then 1 else 0
def GivesSp (rs:List Rg) (us:List BA) (pl use:BA) (day:Int) (w:World) (e:Ending) (w':World):Prop :=
 Below w.heap.size w w'∧((zBz rs us pl use day≠0∧e = .returned (.tuple #[.agg zSpot,.int .i64 (zBz rs us pl use day)])) ∨
  (zBz rs us pl use day=0∧∃ n,(zAm rs)[n]?=some ((idx rs pl).getD 0)∧e = .returned (.tuple #[.agg (zCP n use day),.int .i64 0])))
theorem below_st3 {b g:Nat} {w W:World} (h:Below b w W) (hb:b≤g) (u v x:Value):Below b w (((W.setCell ⟨g,0,none⟩ u).setCell ⟨g,1,none⟩ v).setCell ⟨g,2,none⟩ x):=((h.setCell hb _).setCell hb _).setCell hb _
theorem leaf_idx {l:List Rg} (g:GoodR l) {s:BA} (h:leafB l s=true):∃ n:Nat,lmF l l.length s=some (.int .i64 (n:Int))∧(zAm l)[n]?=some ((idx l s).getD 0)∧(idx l s).getD 0<l.length∧(l.getD ((idx l s).getD 0) default).nm=s:=by
 obtain ⟨i,n,hi,h1,h2,h3⟩:=leaf_at g h;have hx:idx l s=some i:=by rw [←h1];exact g.inc.idx hi
 refine ⟨n,h2,by rw [hx];exact h3,by rw [hx];exact hi,?_⟩
 rw [hx,eB,List.getD_eq_getElem?_getD,List.getElem?_eq_getElem hi];exact h1
theorem spot_c (RA:Option Addr) (rc:Nat) (rs:List Rg) (UA:Option Addr) (uc:Nat) (us:List BA) (DA:Option Addr) (dc:Nat) (ds:List De) (L:Nat) (pl use:BA) (day:Int) (w:World)
  (g:GoodR rs) (hl:LgIs RA rc rs UA uc us DA dc ds w L) (hu:Strs w UA us) (hul:us.length≤20) :
  Calls Tryz.prog 29 #[.pointer (some ⟨L,0,none⟩),.string pl,.string use,.int .i64 day] w (GivesSp rs us pl use day w):=by
 have hbw:Below w.heap.size w (w.alloc (.cells zSpot 76)):=(aN _ _).alloc (aC _) _;have HX:Hid (Bx (w.alloc (.cells zSpot 76)) w.heap.size zSpot 76):=Bx.new _ _ _;obtain ⟨W,hW⟩:∃ W,W=w.alloc (.cells zSpot 76):=⟨_,rfl⟩;rw [←hW] at HX hbw;have HB:=zq hbw;obtain ⟨r1,r2,g1,g2,AL,cL,vr,vi,ins,base,hlx,hwr,_⟩:=hl.below hbw;have HUW:=zq (hu.below hbw);have hlk:=zAn tMap kStr zInt hwr.m2 pl true;clear hl hu hbw hwr
 go_enter Tryz.func29,Tryz.ntmps29
 go_upto_region 1 with fail
 rw [←hW];clear hW;have l6:=hlx.c 6 rfl;have l1:=hlx.c 1 rfl;have hsl:=hlx.lt;obtain ⟨x0,x1,x2⟩:=HX.o.t;have f0:=HX.o.frozen 0;have f1:=HX.o.frozen 1;have f2:=HX.o.frozen 2;have hsx:=HX.o.lt;have HCO:=zq (containsS_c UA uc us use W za HUW.o);have HDY:=zq (isDay_c day W);clear hlx
 cases hlb:leafB rs pl with
 | false =>
  have HF:Hid (zBz rs us pl use day=5):=by show _=_;unfold zBz;rw [hlb];rfl
  rw [leaf_no g hlb] at hlk;simp only [dR,dZ,eA] at hlk;clear hlb;go_wp2;refine dL (v:=.tuple #[.agg zSpot,.int .i64 5]) ?_ rfl ?_
  ·simp [results,Tryz.results29,go_sem,x0,x1,x2]
  ·exact ⟨below_st3 HB.o (aC _) _ _ _,.inl ⟨by rw [HF.o];decide,by rw [HF.o]⟩⟩
 | true =>
  obtain ⟨n,hn1,hn2,_⟩:=leaf_idx g hlb;rw [hn1] at hlk;simp only [dR,eB,eC] at hlk;have HN:=zq hn2;have HLB:=zq hlb;clear hn1 hn2 hlb
  go_wp2_with fail
  with_reducible refine HCO.o.mono ?_
  rintro e w1 ⟨rfl,rfl⟩
  cases hmu:memS us use with
  | false =>
   have HF:Hid (zBz rs us pl use day=5):=by show _=_;unfold zBz;rw [HLB.o,hmu];rfl
   clear hmu;go_wp2;refine dL (v:=.tuple #[.agg zSpot,.int .i64 5]) ?_ rfl ?_
   ·simp [results,Tryz.results29,go_sem,x0,x1,x2]
   ·exact ⟨below_st3 HB.o (aC _) _ _ _,.inl ⟨by rw [HF.o];decide,by rw [HF.o]⟩⟩
  | true =>
   have HMU:=zq hmu;clear hmu
   go_wp2_with fail
   with_reducible refine HDY.o.mono ?_
   rintro e w2 ⟨rfl,rfl⟩
   cases hdy:zCM day with
   | false =>
    have HF:Hid (zBz rs us pl use day=1):=by show _=_;unfold zBz;rw [HLB.o,HMU.o,hdy];rfl
    clear hdy;go_wp2;refine dL (v:=.tuple #[.agg zSpot,.int .i64 1]) ?_ rfl ?_
    ·simp [results,Tryz.results29,go_sem,x0,x1,x2]
    ·exact ⟨below_st3 HB.o (aC _) _ _ _,.inl ⟨by rw [HF.o];decide,by rw [HF.o]⟩⟩
   | true =>
    have HF:Hid (zBz rs us pl use day=0):=by show _=_;unfold zBz;rw [HLB.o,HMU.o,hdy];rfl
    clear hdy;go_wp2;refine dL (v:=.tuple #[.agg (zCP n use day),.int .i64 0]) ?_ rfl ?_
    ·simp [results,Tryz.results29,go_sem,x0,x1,x2]
    ·exact ⟨below_st3 HB.o (aC _) _ _ _,.inr ⟨HF.o,n,HN.o,rfl⟩⟩
end Go.Proofs.YtieoifkdobcpiaaGreatDoor
