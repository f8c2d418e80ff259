/- Parts of the proof, joined: Package right: open, and Runs. Package right: a ledger's valid. Packag. -/
import Derived.Test.YtieoifkdobcpiaaGreatDoorSa37
import Derived.Test.YtieoifkdobcpiaaGreatDoorSa38
import Derived.Test.YtieoifkdobcpiaaGreatDoorSa31
set_option maxRecDepth 100000
set_option maxHeartbeats 8000000
namespace Go.Proofs.YtieoifkdobcpiaaGreatDoor
open Go.RowKit Dw
def openF (rs:List Rg) (us:List ByteArray) (ds:List De) (ns:List ByteArray):Int:=if zCH rs us ds≠0 then zCH rs us ds else if ns.all zBp=true then 0 else 5
def GivesOp (f:Int) (RA:Option Addr) (rc:Nat) (rs:List Rg) (UA:Option Addr) (uc:Nat) (us:List ByteArray) (DA:Option Addr) (dc:Nat) (ds:List De) (w:World) (e:Ending) (w':World):Prop :=
 ∃ P,e = .returned (.tuple #[.pointer P,.int .i64 f])∧Below w.heap.size w w'∧(f≠0→P=none)∧(f=0→∃ L,P=some ⟨L,0,none⟩∧LgIs RA rc rs UA uc us DA dc ds w' L)
def OpR (w:World) (T:Array Value) (ns:List ByteArray) (m:Nat) (i:Value) (wr:World):Prop :=
 Below w.heap.size w wr∧Bx wr w.heap.size T 26∧∃ j,j+m=ns.length∧i = .int .i64 (j:Nat)∧∀ q (hq:q<ns.length),q<j→zBp ns[q]=true
theorem open_c (RA:Option Addr) (rc:Nat) (rs:List Rg) (UA:Option Addr) (uc:Nat) (us:List ByteArray) (DA:Option Addr) (dc:Nat) (ds:List De) (NA:Option Addr) (nc:Nat) (ns:List ByteArray) (w:World)
  (hr:Rgs w RA rs) (hu:Strs w UA us) (hd:Des w DA ds) (hz:∀ i (h:i<rs.length),(rs[i]).nm.size≤9223372036854775807) (hz2:∀ i (h:i<us.length),(us[i]).size≤9223372036854775807)
  (hn:Strs w NA ns) (hnz:∀ i (h:i<ns.length),(ns[i]).size≤9223372036854775807) (hnl:ns.length≤10) (hdc:ds.length≤dc) :
  Calls Tryz.prog 24 #[.agg (tiC RA rc rs UA uc us DA dc ds),.slice NA ns.length nc] w (GivesOp (openF rs us ds ns) RA rc rs UA uc us DA dc ds w):=by
 generalize hres:openF rs us ds ns=res;have HR:=zq hres;clear hres;have HX:Hid (Bx (w.alloc (.cells (tiC RA rc rs UA uc us DA dc ds) 26)) w.heap.size (tiC RA rc rs UA uc us DA dc ds) 26):=Bx.new _ _ _;have HB:Hid (Below w.heap.size w (w.alloc (.cells (tiC RA rc rs UA uc us DA dc ds) 26))):=(Below.refl _ _).alloc (Nat.le_refl _) _;obtain ⟨W,hW⟩:∃ W,W=w.alloc (.cells (tiC RA rc rs UA uc us DA dc ds) 26):=⟨_,rfl⟩;rw [←hW] at HX HB;have HCK:=zq (CheckT_c RA rc rs UA uc us DA dc ds W (hr.below HB.o) (hu.below HB.o) (hd.below HB.o) hz hz2);have HDw:=zq hd;have HRw:=zq hr;have HNw:=zq hn;have HNZ:=zq hnz;clear hr hu hd hn hnz
 go_enter Tryz.func24,Tryz.ntmps24
 go_upto_region 1 with fail
 rw [←hW];clear hW
 iterate 2 go_step
 refine wp_load_mid _ _ zn w.heap.size 0 zn (tiC RA rc rs UA uc us DA dc ds).toList _ (rangeB HX.o) Tryz.underlying26 rfl zb ?_
 go_wp2_with fail
 with_reducible refine HCK.o.mono ?_
 rintro e w1 ⟨rfl,hb1⟩;have HB1:=zq (zAb HB.o hb1);have HX1:=zq (HX.o.below hb1);clear hb1 HCK HX HB
 by_cases hc:zCH rs us ds=0
 case neg =>
  have hcb:(zCH rs us ds != 0)=true:=by simpa using hc
  have HS:Hid (res=zCH rs us ds):=by show _=_;rw [←HR.o];unfold openF;rw [if_pos hc]
  have HN0:Hid (res≠0):=by show _≠_;rw [HS.o];exact hc
  clear hc;go_wp2;go_ret2
  exact ⟨none,by rw [HS.o];rfl,HB1.o,fun _=>rfl,fun h=>absurd h HN0.o⟩
 have HC:=zq hc;rw [hc];clear hc;obtain ⟨hcr,_,hdl⟩:=zCx HC.o;have HGR:=zq (good_of hcr)
 have HR2:Hid ((if ns.all zBp=true then (0:Int) else 5)=res):=by
  show _=_
  rw [←HR.o];unfold openF;rw [if_neg (show ¬ (zCH rs us ds≠0) by rw [HC.o];simp)]
 clear HR hcr;go_wp2
 go_loopg [16] ns.length (OpR w (tiC RA rc rs UA uc us DA dc ds) ns)
 case atStart=>exact ⟨HB1.o,HX1.o,0,za,rfl,fun q _ hq=>absurd hq za⟩
 clear HB1 HX1
 case round =>
  obtain ⟨hb,hx,j,hjm,rfl,hpre⟩:=hrel;have HB:=zq hb;have HX:=zq hx;have HJM:=zq hjm;have HP:=zq hpre;have hjk:j≤ns.length:=za;clear hb hx hjm hpre
  by_cases hlj:j<ns.length
  ·obtain ⟨b,o,hA,hb0,hc0⟩:=HNw.o.at_ za
   subst hA;obtain ⟨nj,hnj⟩:∃ nj,ns[j]=nj:=⟨_,rfl⟩;have hp:=hc0 j hlj;have hz0:=HNZ.o j hlj;rw [hnj] at hp hz0;have p0:wr.cell? ⟨b,o+j,none⟩=some (Value.string nj):=(HB.o.cell (p:=⟨b,o+j,none⟩) hb0).trans hp;have HNJ:=zq hnj;clear hp hc0 hnj
   go_wp2_with fail
   with_reducible refine (zBP nj _ hz0).mono ?_
   rintro e w2 ⟨rfl,hb2⟩;have HB2:=zq (zAb HB.o hb2);have HX2:=zq (HX.o.below hb2);clear hb2 p0 HB HX
   cases hin:zBp nj with
   | false =>
    have HS:Hid (res=5):=by
     show _=_
     rw [←HR2.o,if_neg fun h=>?_]
     have:=List.all_eq_true.1 h nj (by rw [←HNJ.o];exact List.getElem_mem hlj)
     rw [hin] at this;cases this
    clear hin;go_wp2;go_ret2
    exact ⟨none,by rw [HS.o];rfl,HB2.o,fun _=>rfl,fun h=>absurd (HS.o.symm.trans h) zc⟩
   | true =>
    have HIN:=zq hin;clear hin;go_wp2
    go_roundg (gk - 1)
    case measure=>have:=HJM.o;omega
    case rel =>
     refine ⟨HB2.o,HX2.o,j+1,by have:=HJM.o;omega,zi,fun q hq h=>?_⟩
     rcases Nat.lt_or_ge q j with h9 | h9
     ·exact HP.o q hq h9
     ·obtain rfl:q=j:=by omega
      rw [HNJ.o];exact HIN.o
  ·have HS:Hid (res=0):=by
    show _=_
    rw [←HR2.o,if_pos (List.all_eq_true.2 fun x hx=>?_)]
    obtain ⟨i,hi,rfl⟩:=List.getElem_of_mem hx;exact HP.o i hi za
   have x2:wr.cell? ⟨w.heap.size,2,none⟩=some (Value.slice DA ds.length dc):=HX.o.cell (i:=2) rfl;have hsx:=HX.o.lt;have HNL:=zq (newLedger_c RA rc rs UA uc us DA dc ds ds.length wr HGR.o (chkT_kind HC.o) (HRw.o.below HB.o) (HDw.o.below HB.o) (Nat.le_refl _) hdc hdl);go_upto_region 10 with fail
   iterate 2 go_step
   refine wp_load_mid _ _ zn w.heap.size 0 zn (tiC RA rc rs UA uc us DA dc ds).toList _ (rangeB HX.o) Tryz.underlying26 rfl zb ?_
   go_wp2_with fail
   with_reducible refine HNL.o.mono ?_
   rintro e w2 ⟨L,rfl,hlg,hb2⟩;have HLG:=zq hlg;have HB2:=zq (zAb HB.o hb2);clear hb2 hlg x2 hsx HNL;go_wp2;go_ret2
   exact ⟨some ⟨L,0,none⟩,by rw [HS.o];rfl,HB2.o,fun h=>absurd HS.o h,fun _=>⟨L,rfl,by have:=HLG.o;rwa [List.take_length] at this⟩⟩
theorem run_at {ds:List De} {base:Nat} {w:World} {vr:Value} (h:zAQ eRun 2 w base 138 vr (ds.map (zCB ds))) {j:Nat} (hj:j<ds.length):∃ b o c,vr = .slice (some ⟨b,o,none⟩) ds.length c∧w.cell? ⟨b,o+j*2,none⟩=some (.int .i64 (zCB ds ds[j]).1)∧w.cell? ⟨b,o+j*2+1,none⟩=some (.int .i64 (zCB ds ds[j]).2):=by
 obtain ⟨A,c,rfl,hr⟩:=h.rdk;obtain ⟨b,o,rfl,hc⟩:=hr (by rw [List.length_map];omega)
 have h0:=flat_at (enc:=eRun) (k:=2) (fun _=>rfl) (ds.map (zCB ds)) j (by rw [List.length_map];exact hj) 0 za
 have h1:=flat_at (enc:=eRun) (k:=2) (fun _=>rfl) (ds.map (zCB ds)) j (by rw [List.length_map];exact hj) 1 za
 rw [List.getElem_map] at h0 h1;refine ⟨b,o,c,by rw [List.length_map],hc _ _ h0,?_⟩
 rw [Nat.add_assoc];exact hc _ _ h1
abbrev sptC (n:Nat) (use:ByteArray) (day:Int):Array Value:=#[.int .i64 (n:Int),.string use,.int .i64 day]
theorem zAB {w w':World} {a:Addr} {v:Value} (hb:Below w.heap.size w w') (h:w.cell? a=some v):w'.cell? a=some v:=by
 rw [hb.cell (block_lt_of_cell h)];exact h
theorem in_at {ds:List De} {rs:List Rg} {base:Nat} {w:World} {vi:Value} {ins:List (Value×List Bool)} (h:zAQ eIn 1 w base 113 vi ins) (h5:ins.map Prod.snd=ds.map (insM rs)) (h6:∀ x∈ins,InS w x.1 x.2) {j:Nat} (hj:j<ds.length) :
  ∃ b o c x,vi = .slice (some ⟨b,o,none⟩) ds.length c∧w.cell? ⟨b,o+j,none⟩=some x∧InS w x (insM rs ds[j]):=by
 have hl:ins.length=ds.length:=by have:=congrArg List.length h5;simpa using this
 obtain ⟨A,c,rfl,hr⟩:=h.rdk;obtain ⟨b,o,rfl,hc⟩:=hr za;have h0:=flat_at (enc:=eIn) (k:=1) (fun _=>rfl) ins j za 0 za
 have h1:(ins[j]'(by omega)).2=insM rs ds[j]:=by
  have e:(ins.map Prod.snd)[j]?=(ds.map (insM rs))[j]?:=by rw [h5]
  rw [List.getElem?_map,List.getElem?_map,List.getElem?_eq_getElem za,List.getElem?_eq_getElem hj] at e
  simpa using e
 refine ⟨b,o,c,(ins[j]'(by omega)).1,by rw [hl],?_,?_⟩
 ·refine hc _ _ ?_
  rw [Nat.mul_one,Nat.add_zero] at h0;rw [h0];rfl
 ·rw [←h1]
  exact h6 _ (List.getElem_mem _)
theorem set_at {rs:List Rg} {d:De} {w:World} {x:Value} {n i:Nat} (hg:zAk d.kd=true) (h:InS w x (insM rs d)) (hn:(zAz rs)[n]?=some i):∃ go c,x = .slice (some ⟨go,0,none⟩) (inL rs d.ar).length c∧n<(inL rs d.ar).length∧go<w.heap.size∧w.cell? ⟨go,n,none⟩=some (.bool (lies rs d.ar i)):=by
 have hm:insM rs d=inL rs d.ar:=by unfold insM;rw [if_pos hg]
 rw [hm] at h;obtain ⟨hn1,hn2⟩:=List.getElem?_eq_some_iff.1 hn;have hl:n<(inL rs d.ar).length:=by unfold inL;rw [List.length_map];exact hn1
 rcases h with ⟨_,h⟩ | ⟨go,c,rfl,hh⟩
 ·rw [h] at hl;simp at hl
 ·refine ⟨go,c,rfl,hl,zAg hh,?_⟩
  rw [cell_of_row _ go n _ _ _ hh,zCZ _ _ hl];have e:(inL rs d.ar)[n]?=some (lies rs d.ar i):=by unfold inL;rw [List.getElem?_map,hn];rfl
  rw [(List.getElem?_eq_some_iff.1 e).2];simp [hl]
theorem runP_gives {ds:List De} {d:De} {day:Int} (h1:(zCB ds d).1≤day) (h2:day<(zCB ds d).2):zAk d.kd=true:=by
 cases hg:zAk d.kd with
 | true=>rfl
 | false =>
  exfalso
  unfold zCB at h1 h2;rw [if_neg (by rw [hg];simp)] at h1 h2
  simp at h1 h2
  omega
theorem valid_c (RA:Option Addr) (rc:Nat) (rs:List Rg) (UA:Option Addr) (uc:Nat) (us:List ByteArray) (DA:Option Addr) (dc:Nat) (ds:List De) (L k n i:Nat) (use:ByteArray) (day:Int) (w:World)
  (hl:LgIs RA rc rs UA uc us DA dc ds w L) (hd:Des w DA ds) (hk:k<ds.length) (hn:(zAz rs)[n]?=some i) (hul:(ds[k]).us.length≤1000000) :
  Calls Tryz.prog 66 #[.pointer (some ⟨L,0,none⟩),.int .i64 (k:Int),.agg (sptC n use day)] w (zAe (.bool (vB rs ds i use day ds[k])) w):=by
 obtain ⟨b,o,rfl,hb0,hc0⟩:=hd za;obtain ⟨hrg,hok⟩:=hc0 k hk;obtain ⟨d,hdd⟩:∃ d,ds[k]=d:=⟨_,rfl⟩;obtain ⟨r1,r2,g1,g2,AL,cL,vr,vi,ins,base,hlx,_,hrn,hin,hin2,hin3⟩:=hl;obtain ⟨rb,ro,rcap,hvr,c0,c1⟩:=run_at hrn hk;obtain ⟨ib,io,icap,x,hvi,ci,hix⟩:=in_at hin hin2 hin3 hk;subst hvr hvi;rw [hdd] at hrg hok c0 c1 hix hul ⊢;generalize hres:vB rs ds i use day d=res;have HR:=zq hres;have HOK:=zq hok;have HIX:=zq hix;have HLX:=zq hlx;have hbw:Below w.heap.size w (w.alloc (.cells (sptC n use day) 76)):=(Below.refl _ _).alloc (Nat.le_refl _) _;have HX:Hid (Bx (w.alloc (.cells (sptC n use day) 76)) w.heap.size (sptC n use day) 76):=Bx.new _ _ _;obtain ⟨W,hW⟩:∃ W,W=w.alloc (.cells (sptC n use day) 76):=⟨_,rfl⟩;rw [←hW] at HX hbw;have HB:=zq hbw;have k0:W.cell? ⟨rb,ro+k*2,none⟩=some (.int .i64 (zCB ds d).1):=zAB hbw c0;have k1:W.cell? ⟨rb,ro+k*2+1,none⟩=some (.int .i64 (zCB ds d).2):=zAB hbw c1;have HCI:Hid (W.cell? ⟨ib,io+k,none⟩=some x):=zAB hbw ci;have HRG:Hid (W.rangeAt b (o+k*16) (deC d).toList):=fun j v hv=>zAB hbw (hrg j v hv)
 clear hres hok hix hlx hbw hrn hin hin2 hin3 c0 c1 ci hrg hc0 hdd
 have HRR:Hid (W.rangeAt rb (ro+k*2) [.int .i64 (zCB ds d).1,.int .i64 (zCB ds d).2]):=fun j v hv=>by
  match j,hv with
  | 0,hv=>injection hv with hv;subst hv;exact k0
  | 1,hv=>injection hv with hv;subst hv;exact k1
 clear k0 k1
 go_enter Tryz.func66,Tryz.ntmps66
 go_upto_region 1 with fail
 rw [←hW];clear hW;have HLW:=zq (HLX.o.below HB.o);have l9:=HLW.o.cell (i:=9) rfl;have hsl:=HLW.o.lt
 iterate 20 go_step
 refine wp_load_mid _ _ zn rb (ro+k*2) zn [.int .i64 (zCB ds d).1,.int .i64 (zCB ds d).2] _ HRR.o Tryz.underlying138 rfl zb ?_
 clear l9 hsl;go_upto_region 2 with fail
 obtain ⟨W2,hW2⟩:∃ W2,W2=W.alloc (.cells (spC (zCB ds d)) 138):=⟨_,rfl⟩;rw [←hW2];have hb2:Below W.heap.size W W2:=by rw [hW2];exact (Below.refl _ _).alloc (Nat.le_refl _) _
 have HS:Hid (Bx W2 W.heap.size (spC (zCB ds d)) 138):=by show Bx _ _ _ _;rw [hW2];exact Bx.new _ _ _
 have HBW:=zq (zAb HB.o hb2);have HX2:=zq (HX.o.below hb2);have HL2:=zq (HLW.o.below hb2);have CI2:=zq (zAB hb2 HCI.o);have RG2:Hid (W2.rangeAt b (o+k*16) (deC d).toList):=fun j v hv=>zAB hb2 (HRG.o j v hv)
 clear hW2 hb2 HX HLW HCI HRG HRR;have x0:=HX2.o.cell (i:=0) rfl;have x1:=HX2.o.cell (i:=1) rfl;have x2:=HX2.o.cell (i:=2) rfl;have s0:=HS.o.cell (i:=0) rfl;have s1:=HS.o.cell (i:=1) rfl;have hsx:=HX2.o.lt;have hss:=HS.o.lt
 by_cases h1:(zCB ds d).1≤day
 ·have e1:decide ((zCB ds d).1≤day)=true:=decide_eq_true h1
  by_cases h2:day<(zCB ds d).2
  ·have e2:decide (day<(zCB ds d).2)=true:=decide_eq_true h2
   have hgv:=runP_gives h1 h2;obtain ⟨go,cg,rfl,hlt,hgw,hcell⟩:=set_at hgv HIX.o hn;have q0:W2.cell? ⟨go,n,none⟩=some (.bool (lies rs d.ar i)):=zAB HBW.o hcell;have q1:=CI2.out;have l10:=HL2.o.cell (i:=10) rfl;have hsl:=HL2.o.lt;have HR2:Hid ((lies rs d.ar i&&memS d.us use)=res):=by show _=_;rw [←HR.o];unfold vB;rw [e1,e2];rfl
   have hnn:decide (n<(inL rs d.ar).length)=true:=decide_eq_true hlt;clear h1 h2 hgv hcell HR CI2 HIX
   cases hli:lies rs d.ar i with
   | false =>
    rw [hli] at q0;have HV:Hid (res=false):=by show _=_;rw [←HR2.o,hli];rfl
    clear hli HR2
    go_quiet (fail)
    go_wp2;go_ret
    exact zAe.mk (zAU HV.o.symm) (zAd HBW.o _)
   | true =>
    rw [hli] at q0;have HV:Hid (res=memS d.us use):=by show _=_;rw [←HR2.o,hli];rfl
    have l2:=HL2.o.cell (i:=2) rfl;have d11:=RG2.out 11 _ rfl
    have hcon:∀ m,Calls Tryz.prog 21 #[.slice d.usA d.us.length d.usc,.string use] (W2.drewN m) fun e w'=>e = .returned (.bool res)∧w'=W2.drewN m:=fun m =>
     (containsS_c d.usA d.usc d.us use (W2.drewN m) hul (HOK.o.uses.below (zAd HBW.o m))).mono fun e w' ⟨h1,h2⟩=>⟨by rw [h1,HV.o],h2.symm⟩
    have HCON:=zq hcon;clear hli HR2 hcon
    go_quiet ((go_at_call 21;exact Calls.quiet_of_same (HCON.o _)))
    go_wp2;go_ret
    exact zAe.mk rfl (zAd HBW.o _)
  ·have e2:decide (day<(zCB ds d).2)=false:=decide_eq_false h2
   have HV:Hid (res=false):=by show _=_;rw [←HR.o];unfold vB;rw [e1,e2];rfl
   clear h1 h2
   go_quiet (fail)
   go_wp2;go_ret
   exact zAe.mk (zAU HV.o.symm) (zAd HBW.o _)
 ·have e1:decide ((zCB ds d).1≤day)=false:=decide_eq_false h1
  have HV:Hid (res=false):=by show _=_;rw [←HR.o];unfold vB;rw [e1];rfl
  clear h1
  go_quiet (fail)
  go_wp2;go_ret
  exact zAe.mk (zAU HV.o.symm) (zAd HBW.o _)
theorem moves_c (RA:Option Addr) (rc:Nat) (rs:List Rg) (UA:Option Addr) (uc:Nat) (us:List ByteArray) (DA:Option Addr) (dc:Nat) (ds:List De) (L k n i:Nat) (use:ByteArray) (day:Int) (th:ByteArray) (w:World)
  (hl:LgIs RA rc rs UA uc us DA dc ds w L) (hd:Des w DA ds) (hk:k<ds.length) (hn:(zAz rs)[n]?=some i) (hul:(ds[k]).us.length≤1000000) :
  Calls Tryz.prog 71 #[.pointer (some ⟨L,0,none⟩),.int .i64 (k:Int),.string th,.agg (sptC n use day)] w (zAe (.bool (movB rs ds i th use day ds[k])) w):=by
 have hbw:Below w.heap.size w (w.alloc (.cells (sptC n use day) 76)):=(Below.refl _ _).alloc (Nat.le_refl _) _;have HX:Hid (Bx (w.alloc (.cells (sptC n use day) 76)) w.heap.size (sptC n use day) 76):=Bx.new _ _ _;obtain ⟨W,hW⟩:∃ W,W=w.alloc (.cells (sptC n use day) 76):=⟨_,rfl⟩;rw [←hW] at HX hbw;have HB:=zq hbw;obtain ⟨b,o,rfl,hb0,hc0⟩:=(hd.below hbw) za;have hlW:=hl.below hbw;have HVAL:=zq (fun (u:World) (hu:Below W.heap.size W u)=>valid_c RA rc rs UA uc us (some ⟨b,o,none⟩) dc ds L k n i use day u (hlW.below hu) ((hd.below hbw).below hu) hk hn hul)
 obtain ⟨d,hdd⟩:∃ d,ds[k]=d:=⟨_,rfl⟩;have hrg:=(hc0 k hk).1;rw [hdd] at hrg HVAL ⊢;generalize hres:movB rs ds i th use day d=res;have HR:=zq hres;obtain ⟨r1,r2,g1,g2,AL,cL,vr,vi,ins,base,hlx,_⟩:=hlW;have l2:=hlx.cell (i:=2) rfl;have hsl:=hlx.lt;clear hl hd hbw hc0 hdd hres hlx hul
 go_enter Tryz.func71,Tryz.ntmps71
 go_upto_region 1 with fail
 rw [←hW];clear hW
 iterate 23 go_step
 refine wp_load_mid _ _ zn b (o+k*16) zn (deC d).toList _ hrg Tryz.underlying52 rfl zb ?_
 clear hrg;go_upto_region 2 with fail
 obtain ⟨wd,hwd⟩:∃ wd,wd=W.alloc (.cells (deC d) 52):=⟨_,rfl⟩;rw [←hwd];have hbd:Below W.heap.size W wd:=yj;have HD1:Hid (Bx wd W.heap.size (deC d) 52):=yk;have HXD:=zq (HX.o.below hbd);have HBD:=zq hbd;clear hwd hbd l2 hsl HX;have d2:=HD1.o.cell (i:=2) rfl;have d3:=HD1.o.cell (i:=3) rfl;have d12:=HD1.o.cell (i:=12) rfl;have hsd:=HD1.o.lt;have x0:=HXD.o.cell (i:=0) rfl;have x1:=HXD.o.cell (i:=1) rfl;have x2:=HXD.o.cell (i:=2) rfl;have hsx:=HXD.o.lt
 by_cases hq:d.kd=2
 ·have e1:(d.kd == 2)=true:=by simpa using hq
  by_cases ht:d.th=th
  ·have q1:=zBW ht
   have HE:Hid (res=vB rs ds i use day d):=by show _=_;rw [←HR.o];unfold movB;rw [if_pos hq,decide_eq_true ht,Bool.true_and]
   clear hq ht
   go_wp2_with fail
   with_reducible refine (HVAL.o _ HBD.o).mono ?_
   rintro e w3 ⟨rfl,hb3⟩;have HB3:=zq (zAb HB.o (zAb HBD.o hb3));clear hb3;go_wp2;go_ret
   exact zAe.mk (by rw [HE.o];rfl) HB3.o
  ·have q1:=zBG ht
   have HE:Hid (res=false):=by show _=_;rw [←HR.o];unfold movB;rw [if_pos hq,decide_eq_false ht,Bool.false_and]
   clear hq ht;go_wp2;go_ret
   exact zAe.mk (by rw [HE.o];rfl) (zAb HB.o HBD.o)
 ·have e1:(d.kd == 2)=false:=by simpa using hq
  by_cases h5:d.kd=5
  ·have e2:(d.kd == 5)=true:=by simpa using h5
   have HE:Hid (res=decide (d.bg≤day)):=by show _=_;rw [←HR.o];unfold movB;rw [if_neg hq,if_pos h5]
   clear hq h5;go_wp2;go_ret
   exact zAe.mk (by rw [HE.o];rfl) (zAb HB.o HBD.o)
  ·have e2:(d.kd == 5)=false:=by simpa using h5
   have HE:Hid (res=false):=by show _=_;rw [←HR.o];unfold movB;rw [if_neg hq,if_neg h5]
   clear hq h5;go_wp2;go_ret
   exact zAe.mk (by rw [HE.o];rfl) (zAb HB.o HBD.o)
end Go.Proofs.YtieoifkdobcpiaaGreatDoor
namespace Go.Proofs.YtieoifkdobcpiaaGreatDoor
open Dw
theorem longQ_of {q:Rat} (h1:q.num.natAbs<10 ^ 2000) (h2:q.den<10 ^ 2000):zCX q=false:=by
 unfold zCX;simp only [Bool.or_eq_false_iff,decide_eq_false_iff_not,Nat.not_le];exact ⟨h1,h2⟩
theorem longQ_ratQ {nu de:ByteArray} (h:zCN nu de=0):zCX (zBL nu de)=false:=by
 have e:=ratF_prQ h;obtain ⟨h1,h2,h3,h4,h5⟩:=zBY h;have e1:zAy (zAS nu)=(zBL nu de).num.natAbs:=congrArg Prod.fst e;have e2:zAy de=(zBL nu de).den:=congrArg Prod.snd e
 have key:∀ s:ByteArray,zCj s=true→s.size≤2000→zAy s<10 ^ 2000:=fun s hs hl=>by
  obtain ⟨q,hq⟩:∃ q,q=2000:=⟨_,rfl⟩;rw [←hq] at hl ⊢;refine Nat.lt_of_lt_of_le (decV_dg (zBa hs).1) (Nat.pow_le_pow_right zc ?_)
  simpa using hl
 exact longQ_of (by rw [←e1];exact key _ h1 h4) (by rw [←e2];exact key _ h2 h5)
theorem put_short (l:List Sh):∀ (f:zBm),(∀ s∈l,zCX (shQ s)=false)→(∀ p,zCX (f p)=false)→∀ p,zCX (zAi l f p)=false:=by
 induction l with
 | nil=>exact fun f _ hf=>hf
 | cons s l ih =>
  intro f hs hf;refine ih (upH f s.pt (shQ s)) (fun t ht=>hs t (List.mem_cons_of_mem _ ht)) fun p=>?_
  by_cases hp:p=s.pt
  ·subst hp;rw [zBD];exact hs s List.mem_cons_self
  ·rw [zAL _ _ hp];exact hf p
theorem start_short {rs:List Rg} {us:List ByteArray} {ds:List De} (h:zCH rs us ds=0) (th:ByteArray) (day:Int):∀ p,zCX (zCK th day ds p)=false:=by
 have key:∀ (l:List De) (f:zBm),(∀ d∈l,d∈ds)→(∀ p,zCX (f p)=false)→∀ p,zCX (l.foldl (orgF th day) f p)=false:=fun l=>by
  induction l with
  | nil=>exact fun f _ hf=>hf
  | cons d l ih =>
   intro f hl hf;refine ih (orgF th day f d) (fun e he=>hl e (List.mem_cons_of_mem _ he)) ?_
   unfold orgF
   split
   ·next ho =>
    have hk:=(zCm.1 ho).1;have hs:=((zBI h d (hl d List.mem_cons_self)).org hk).1;exact put_short _ _ (fun s hs'=>longQ_ratQ (hs.rat s hs')) hf
   ·exact hf
 exact key ds _ (fun d hd=>hd) fun _=>longQ_zero
theorem anyLong_no {K:List ByteArray} {f:zBm} (h:∀ p,zCX (f p)=false):zDb K f=false:=by
 unfold zDb;rw [List.any_eq_false];intro p _;simp [h p]
theorem longF_zero (rs:List Rg) (ds:List De) (i:Nat) (th use:ByteArray) (day:Int):zCp rs ds i th use day 0=false:=rfl
theorem longF_succ (rs:List Rg) (ds:List De) (i:Nat) (th use:ByteArray) (day:Int) (n:Nat):zCp rs ds i th use day (n+1)=(zCp rs ds i th use day n || zDb (zCd rs ds i th use day (n+1)) (zAI rs ds i th use day (n+1))):=by
 unfold zCp;rw [List.range_succ,List.any_append];simp
theorem longF_mono {rs:List Rg} {ds:List De} {i:Nat} {th use:ByteArray} {day:Int} {k:Nat} (h:zCp rs ds i th use day k=true):∀ {n:Nat},k≤n→zCp rs ds i th use day n=true:=by
 intro n hn;unfold zCp at *;rw [List.any_eq_true] at *;obtain ⟨x,hx,h2⟩:=h;exact ⟨x,List.mem_range.2 (Nat.lt_of_lt_of_le (List.mem_range.1 hx) hn),h2⟩
theorem longF_parts {rs:List Rg} {us:List ByteArray} {ds:List De} (h:zCH rs us ds=0) (i:Nat) (th use:ByteArray) (day:Int):∀ n,n≤ds.length→zCp rs ds i th use day n=false→∀ p,zCX (zAI rs ds i th use day n p)=false
 | 0,_,_=>start_short h th day
 | n+1,hn,hl=>by
  rw [longF_succ,Bool.or_eq_false_iff] at hl;intro p
  cases hq:zCX (zAI rs ds i th use day (n+1) p) with
  | false=>rfl
  | true =>
   obtain ⟨M,hM,_⟩:=zCT h i th use day (n+1) hn;have:=(anyLong_iff hM.ok).2 ⟨p,hq⟩;rw [hl.2] at this
   cases this
theorem longF_skip {rs:List Rg} {us:List ByteArray} {ds:List De} (h:zCH rs us ds=0) {i:Nat} {th use:ByteArray} {day:Int} {n:Nat} (hn:n<ds.length) (hm:movB rs ds i th use day ds[n]=false) (hl:zCp rs ds i th use day n=false) :
  zCp rs ds i th use day (n+1)=false∧zAI rs ds i th use day (n+1)=zAI rs ds i th use day n:=by
 obtain ⟨e1,_⟩:=zDy rs i th use day hn;have e3:zAI rs ds i th use day (n+1)=zAI rs ds i th use day n:=by rw [e1];unfold stepF;rw [hm];rfl
 refine ⟨?_,e3⟩
 rw [longF_succ,hl,e3,Bool.false_or];exact anyLong_no (longF_parts h i th use day n za hl)
theorem keysF_take {rs:List Rg} {ds:List De} {i:Nat} {th use:ByteArray} {day:Int} {n:Nat} (hn:n<ds.length) (hm:movB rs ds i th use day ds[n]=true) :
  zAI rs ds i th use day (n+1)=zDA ds[n] (zAI rs ds i th use day n)∧zCd rs ds i th use day (n+1)=zAJ ds[n] (zCd rs ds i th use day n):=by
 obtain ⟨e1,e2⟩:=zDy rs i th use day hn;rw [e1,e2];unfold stepF zAO;rw [hm];exact ⟨rfl,rfl⟩
theorem take_ask {rs:List Rg} {us:List ByteArray} {ds:List De} (h:zCH rs us ds=0) {i:Nat} {th use:ByteArray} {day:Int} {n:Nat} (hn:n<ds.length) (hm:movB rs ds i th use day ds[n]=true) :
  ∃ M,HoldB (zAJ ds[n] (zCd rs ds i th use day n)) M (zAI rs ds i th use day n)∧SzN 90000000 (M*growD ds[n])∧ds[n].sh.length≤20:=by
 obtain ⟨M,h1,h2⟩:=zCT h i th use day n za;have hd:=List.getElem_mem hn;obtain ⟨k1,_,_⟩:=parts_sum h i th use day n;have hl:(ds[n]).sh.length≤20:=(chkD_lens ((zBl h).2 n hn) (zBl h).1).2.2;have hz:=zCx h;generalize ds[n]=d at *;obtain ⟨m1,_⟩:=keysTake_mem d (K:=zCd rs ds i th use day n);refine ⟨M,h1.more (zDa d k1).nodup m1,?_,hl⟩
 have h3:=growD_lt (zBI h d hd) hl (movB_kd hm);have h4:M*growD d<10 ^ (40001*(n+1)+40001):=by rw [Nat.pow_add];exact Nat.mul_lt_mul'' h2 h3
 exact (szN_of h4).le (by have:=hz.2.2;omega)
theorem parts_sz {rs:List Rg} {us:List ByteArray} {ds:List De} (h:zCH rs us ds=0) (i:Nat) (th use:ByteArray) (day:Int) (n:Nat) (hn:n≤ds.length) (p:ByteArray):SzQ 10000000 (zAI rs ds i th use day n p):=by
 obtain ⟨M,h1,h2⟩:=zCT h i th use day n hn;have hz:=zCx h;exact h1.sz ((szN_of h2).le (by have:=hz.2.2;omega)) p
end Go.Proofs.YtieoifkdobcpiaaGreatDoor
