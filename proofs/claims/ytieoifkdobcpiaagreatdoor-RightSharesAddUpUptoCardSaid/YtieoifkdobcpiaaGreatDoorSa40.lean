/- Package right: a ledger's parts. -/
import Derived.Test.YtieoifkdobcpiaaGreatDoorSa39
set_option maxRecDepth 100000
set_option maxHeartbeats 8000000
namespace Go.Proofs.YtieoifkdobcpiaaGreatDoor
open Go.RowKit Dw
def GivesPt (bad:Bool) (f:zBm) (w:World) (e:Ending) (w':World):Prop :=
 Below w.heap.size w w'∧(bad=true→e = .returned (.tuple #[.map none,.int .i64 2]))∧(bad=false→∃ g,e = .returned (.tuple #[.map (some g),.int .i64 0])∧zAA w' g f)
def PtR (W:World) (g:Nat) (th:ByteArray) (day:Int) (ds:List De) (m:Nat) (iv:Value) (wr:World):Prop :=
 ∃ k:Nat,k+m=ds.length∧iv = .int .i64 (k:Int)∧zAA wr g ((ds.take k).foldl (orgF th day) (fun _=>0))∧Below W.heap.size W wr
def PtR1 (W:World) (g:Nat) (F:zBm) (l:List Sh) (m:Nat) (iv:Value) (wr:World):Prop :=
 ∃ j:Nat,j+m=l.length∧iv = .int .i64 (j:Int)∧zAA wr g (zAi (l.take j) F)∧W.grownBy wr (some g)
def PtR2 (W:World) (g:Nat) (rs:List Rg) (ds:List De) (i:Nat) (th use:ByteArray) (day:Int) (u:Nat) (lim:Bool) (m:Nat) (iv:Value) (wr:World):Prop :=
 ∃ k:Nat,k+m=u∧iv = .int .i64 (k:Int)∧zAA wr g (zAI rs ds i th use day k)∧(lim=true→zCp rs ds i th use day k=false)∧Below W.heap.size W wr
theorem fold_succ (th:ByteArray) (day:Int) (f:zBm) {ds:List De} {k:Nat} (hk:k<ds.length):(ds.take (k+1)).foldl (orgF th day) f=orgF th day ((ds.take k).foldl (orgF th day) f) ds[k]:=by
 rw [take_snoc hk,List.foldl_append];rfl
theorem putAll_succ (F:zBm) {l:List Sh} {j:Nat} (h:j<l.length):zAi (l.take (j+1)) F=upH (zAi (l.take j) F) l[j].pt (shQ l[j]):=by
 unfold zAi;rw [List.take_succ_eq_append_getElem h,List.foldl_append]
 rfl
theorem parts_c (RA:Option Addr) (rc:Nat) (rs:List Rg) (UA:Option Addr) (uc:Nat) (us:List ByteArray) (DA:Option Addr) (dc:Nat) (ds:List De) (L n i u:Nat) (use:ByteArray) (day:Int) (th:ByteArray) (lim:Bool) (w:World)
  (hl:LgIs RA rc rs UA uc us DA dc ds w L) (hd:Des w DA ds) (hc:zCH rs us ds=0) (hn:(zAz rs)[n]?=some i) (hu:u≤ds.length) (hdc:ds.length≤dc) (hul:∀ d∈ds,d.us.length≤1000000) :
  Calls Tryz.prog 30 #[.pointer (some ⟨L,0,none⟩),.string th,.agg (sptC n use day),.int .i64 (u:Int),.bool lim] w (GivesPt (lim&&zCp rs ds i th use day u) (zAI rs ds i th use day u) w):=by
 have hbw:Below w.heap.size w (w.alloc (.cells (sptC n use day) 76)):=(Below.refl _ _).alloc (Nat.le_refl _) _;have HX0:Hid (Bx (w.alloc (.cells (sptC n use day) 76)) w.heap.size (sptC n use day) 76):=Bx.new _ _ _;obtain ⟨W0,hW0⟩:∃ W,W=w.alloc (.cells (sptC n use day) 76):=⟨_,rfl⟩;rw [←hW0] at HX0 hbw;have HB0:=zq hbw;have hb1:Below W0.heap.size W0 (W0.alloc (.map #[] 0)):=(Below.refl _ _).alloc (Nat.le_refl _) _;have HPN:Hid (zAA (W0.alloc (.map #[] 0)) W0.heap.size (fun _=>0)):=zAA.new W0
 have HX:=zq (HX0.o.below hb1);have HLW:=zq ((hl.below hbw).below hb1);have HDW:=zq ((hd.below hbw).below hb1);have HLW0:=zq (hl.below hbw);have HDW0:=zq (hd.below hbw);have HC:=zq hc;have HUL:=zq hul;have HNN:=zq hn;have hdl:=(zCx hc).2.2;clear hl hd hc hn hul hbw;obtain ⟨r1,r2,g1,g2,AL,cL,vr,vi,ins,base,hlx,_⟩:=HLW.o;have HLX:=zq hlx;obtain ⟨W,hW⟩:∃ W,W=W0.alloc (.map #[] 0):=⟨_,rfl⟩;rw [←hW] at hb1 HPN HX HLW HDW HLX hlx;have HB1:=zq hb1;clear hb1
 go_enter Tryz.func30,Tryz.ntmps30
 go_upto_region 1 with fail
 rw [←hW0];clear hW0;have hmm:=@run_makeMap Tryz.prog;go_upto_region 2 with fail
 clear hmm;rw [←hW];clear hW;have l2:=HLX.o.cell (i:=2) rfl;have hsl:=HLX.o.lt;clear hlx;go_wp2
 go_loopg [26] ds.length (PtR W0 W0.heap.size th day ds)
 case atStart=>exact ⟨0,za,rfl,HPN.o,HB1.o⟩
 clear l2 hsl HPN
 case round =>
  obtain ⟨k,hkm,rfl,hpm,hb⟩:=hrel;have HK:=zq hkm;have HPM:=zq hpm;have HB:=zq hb;clear hkm hpm hb
  by_cases hlt:k<ds.length
  ·obtain ⟨b,o,hA,hb0,hc0⟩:=HDW0.o za
   subst hA;have hpar:=zBI HC.o _ (List.getElem_mem hlt);have HFS:=zq (fold_succ th day (fun _=>0) hlt)
   have hrg:wr.rangeAt b (o+k*16) (deC ds[k]).toList:=fun q v hv=>zAB HB.o ((hc0 k hlt).1 q v hv)
   have HSH:=zq ((hc0 k hlt).2.shs.below HB.o);have hshl:=(hc0 k hlt).2.lens.2.2;generalize ds[k]=d at *;have HPA:=zq hpar;clear hc0 hpar;go_upto_region 4 with fail
   iterate 5 go_step
   refine wp_load_mid _ _ zn b (o+k*16) zn (deC d).toList _ hrg Tryz.underlying52 rfl zb ?_
   clear hrg;go_upto_region 5 with fail
   obtain ⟨wd,hwd⟩:∃ wd,wd=wr.alloc (.cells (deC d) 52):=⟨_,rfl⟩;rw [←hwd];have hbd:Below wr.heap.size wr wd:=yj;have HD1:Hid (Bx wd wr.heap.size (deC d) 52):=yk;have HBD:=zq (zAb HB.o hbd);have HPM1:=zq (HPM.o.below hbd);have HSH1:=zq (HSH.o.below hbd);have HXD:=zq (HX0.o.below HBD.o);clear hwd hbd HPM HSH HB;have d2:=HD1.o.cell (i:=2) rfl;have d3:=HD1.o.cell (i:=3) rfl;have d12:=HD1.o.cell (i:=12) rfl;have hsd:=HD1.o.lt;have x2:=HXD.o.cell (i:=2) rfl;have hsx:=HXD.o.lt;generalize (ds.take k).foldl (orgF th day) (fun _=>0)=F at *
   have HNO:orgB th day d=false→Hid (zAA wd W0.heap.size ((ds.take (k+1)).foldl (orgF th day) (fun _=>0))):=fun h=>by
    show zAA _ _ _
    rw [HFS.o];unfold orgF;rw [if_neg (by rw [h];simp)]
    exact HPM1.o
   by_cases hq:d.kd=1
   case neg =>
    have e1:(d.kd == 1)=false:=by simpa using hq
    have HN:=HNO (by unfold orgB;rw [decide_eq_false hq];rfl)
    clear hq HNO;go_wp2
    go_roundg (gk - 1)
    case measure=>have:=HK.o;omega
    case rel=>exact ⟨k+1,zh,zi,HN.o,HBD.o⟩
   have e1:(d.kd == 1)=true:=by simpa using hq
   by_cases ht:d.th=th
   case neg =>
    have q1:=zBG ht;have HN:=HNO (by unfold orgB;rw [decide_eq_false ht];simp)
    clear hq ht HNO;go_wp2
    go_roundg (gk - 1)
    case measure=>have:=HK.o;omega
    case rel=>exact ⟨k+1,zh,zi,HN.o,HBD.o⟩
   have q1:=zBW ht
   by_cases hy:d.bg≤day
   case neg =>
    have q2:decide (d.bg≤day)=false:=decide_eq_false hy;have HN:=HNO (by unfold orgB;rw [decide_eq_false hy];simp)
    clear hq ht hy HNO;go_wp2
    go_roundg (gk - 1)
    case measure=>have:=HK.o;omega
    case rel=>exact ⟨k+1,zh,zi,HN.o,HBD.o⟩
   have q2:decide (d.bg≤day)=true:=decide_eq_true hy
   have HOT:Hid (orgF th day F d=zAi d.sh F):=by
    show _=_
    unfold orgF;rw [if_pos (zCm.2 ⟨hq,ht,hy⟩)]
   have HSO:=zq (HPA.o.org hq).1;have d14:=HD1.o.cell (i:=14) rfl;clear hq ht hy HNO;go_wp2;clear d2 d3 d12 d14 hsd x2 hsx
   go_loopg [49] d.sh.length (PtR1 wd W0.heap.size F d.sh)
   case atStart=>exact ⟨0,za,rfl,HPM1.o,World.grownBy.refl _ _⟩
   case round =>
    obtain ⟨j,hjm,rfl,hpm,hg⟩:=hrel;have HJ:=zq hjm;have HPJ:=zq hpm;have HG:=zq hg;clear hjm hpm hg
    by_cases hjl:j<d.sh.length
    ·obtain ⟨b2,o2,hA,hc⟩:=(HSH1.o.parts HPM1.o HG.o) za
     have c0:=(hc j hjl).1;have c1:=(hc j hjl).2.1;have c2':=(hc j hjl).2.2;have HMEM:=zq (List.getElem_mem hjl);have HPS:=zq (putAll_succ F hjl);generalize d.sh[j]=s at *;have HFQ:Hid (∀ u,Calls Tryz.prog 70 #[.agg #[.string s.nu,.string s.de]] u (zDt (shQ s) u)):=fun u=>FromQ_c s.nu s.de u (HSO.o.rat s HMEM.o) (HSO.o.pos s HMEM.o)
     have HA:=zq hA;have hba:=ba wr (.cells (shCl s) 42);have HZ:Hid (Bx (wr.alloc (.cells (shCl s) 42)) wr.heap.size (shCl s) 42):=Bx.new _ _ _;have HBA:=zq hba;rw [hA];clear hc hA hba;go_upto_region 9 with fail
     clear c0 c1 c2';obtain ⟨fj,hfj⟩:∃ fj,fj=zAi (d.sh.take j) F:=⟨_,rfl⟩;rw [←hfj] at HPJ HPS;have HFJ:=zq hfj;clear hfj;obtain ⟨w4,hw4⟩:∃ w4,w4=wr.alloc (.cells (shCl s) 42):=⟨_,rfl⟩;rw [←hw4] at HZ HBA ⊢;clear hw4;have HPM4:=zq (HPJ.o.below HBA.o);have a0:=HZ.o.cell (i:=0) rfl;have a1:=HZ.o.cell (i:=1) rfl;have a2:=HZ.o.cell (i:=2) rfl
     go_region_held3 (fun w'=>w'.cell? ⟨wr.heap.size,0,none⟩=some (.string s.pt)∧w'.cell? ⟨wr.heap.size,1,none⟩=some (.string s.nu)∧w'.cell? ⟨wr.heap.size,2,none⟩=some (.string s.de))
      ((refine ⟨?_,?_,?_⟩<;>first | with_reducible assumption | go_simp))
      (first
       | ((go_at_call 70;(with_reducible refine (HFQ.o w4.drew).mono ?_);rintro e2 w6 ⟨A7,c7,A8,c8,rfl,h7,h8,hb6⟩;have HB6:Hid (Below w4.heap.size w4 w6):=zAb (zAd (Below.refl _ _) 1) hb6;have HZ6:=zq (HZ.o.below HB6.o);have HPM6:=zq (HPM4.o.below HB6.o);have H7:=zq h7;have H8:=zq h8;clear h7 h8 hb6 a0 a1 a2;have a0:=HZ6.o.cell (i:=0) rfl;have a1:=HZ6.o.cell (i:=1) rfl;have a2:=HZ6.o.cell (i:=2) rfl))
       | ((go_at_call 69;(with_reducible refine (put_c W0.heap.size fj s.pt A7 A8 c7 c8 (shQ s) w6 HPM6.o H7.o H8.o).mono ?_);rintro e5 w9 ⟨rfl,hp9,hg9⟩;have HZ9:=zq (HZ6.o.parts HPM6.o hg9);have HPM9:=zq hp9;have HG9:=zq hg9;clear hp9 hg9 a0 a1 a2;have a0:=HZ9.o.cell (i:=0) rfl;have a1:=HZ9.o.cell (i:=1) rfl;have a2:=HZ9.o.cell (i:=2) rfl)))
     have HE:Hid (zAA w9 W0.heap.size (zAi (d.sh.take (j+1)) F)):=by show zAA _ _ _;rw [HPS.o];exact HPM9.o
     have HGE:Hid (wd.grownBy w9 (some W0.heap.size)):=(HG.o.trans (zAK (zAb HBA.o HB6.o) _)).trans HG9.o;clear a0 a1 a2;rw [←HA.o];go_wp2
     go_roundg (gk - 1)
     case measure=>have:=HJ.o;omega
     case rel=>exact ⟨j+1,by have:=HJ.o;omega,zi,HE.o,HGE.o⟩
    ·have hje:j=d.sh.length:=by have:=HJ.o;omega
     have HE:Hid (zAA wr W0.heap.size ((ds.take (k+1)).foldl (orgF th day) (fun _=>0))):=by
      have:=HPJ.o;rw [hje,List.take_length,←HOT.o] at this
      show zAA _ _ _
      rw [HFS.o];exact this
     have HBE:=zq (zDu HBD.o HBD.o.size HG.o (Nat.le_refl _));clear HPJ;go_wp2
     go_roundg (ds.length - (k+1))
     case measure=>have:=HK.o;omega
     case rel=>exact ⟨k+1,zh,zi,HE.o,HBE.o⟩
  ·obtain rfl:k=ds.length:=by have:=HK.o;omega
   have HPM0:Hid (zAA wr W0.heap.size (zAI rs ds i th use day 0)):=by
    have:=HPM.o;rw [List.take_length] at this;exact this
   have l2:wr.cell? ⟨L,2,none⟩=some (.slice DA ds.length dc):=zAB HB.o ((by
    obtain ⟨_,_,_,_,_,_,_,_,_,_,hx,_⟩:=HLW0.o;exact hx.cell (i:=2) rfl))
   have hsl:L<wr.heap.size:=Nat.lt_of_lt_of_le (by obtain ⟨_,_,_,_,_,_,_,_,_,_,hx,_⟩:=HLW0.o;exact hx.lt) HB.o.size
   have ui:(0:Int)≤(u:Int)∧(u:Int)≤(dc:Int):=za;clear HPM HK;have HB2:=zq HB.o;have HLZ:Hid (lim=true→zCp rs ds i th use day 0=false):=fun _=>longF_zero rs ds i th use day
   go_wp2
   go_loopg [70] u (PtR2 W0 W0.heap.size rs ds i th use day u lim)
   case atStart=>exact ⟨0,za,rfl,HPM0.o,HLZ.o,HB2.o⟩
   clear l2 hsl ui HPM0 HLZ HB2 HB
   case round =>
    obtain ⟨k,hkm,rfl,hpm,hlf,hb⟩:=hrel;have HK:=zq hkm;have HPM:=zq hpm;have HLF:=zq hlf;have HB:=zq hb;clear hkm hpm hlf hb
    by_cases hlt:k<u
    ·have hkd:k<ds.length:=by omega
     obtain ⟨b,o,hA,hb0,hc0⟩:=HDW0.o za;subst hA;have hrg:wr.rangeAt b (o+k*16) (deC ds[k]).toList:=fun q v hv=>zAB HB.o ((hc0 k hkd).1 q v hv)
     have HSH:=zq ((hc0 k hkd).2.shs.below HB.o);have HMV:=zq (fun (v:World) (hv:Below W0.heap.size W0 v)=>moves_c RA rc rs UA uc us (some ⟨b,o,none⟩) dc ds L k n i use day th v (HLW0.o.below hv) (HDW0.o.below hv) hkd HNN.o (HUL.o _ (List.getElem_mem hkd)))
     have HSK:Hid (movB rs ds i th use day ds[k]=false→zAI rs ds i th use day (k+1)=zAI rs ds i th use day k):=fun hm=>by
      rw [(zDy rs i th use day hkd).1];unfold stepF;rw [if_neg (by rw [hm];simp)]
     have HSL:Hid (movB rs ds i th use day ds[k]=false→zCp rs ds i th use day k=false→zCp rs ds i th use day (k+1)=false):=fun hm hl=>(longF_skip HC.o hkd hm hl).1
     have HTK:Hid (movB rs ds i th use day ds[k]=true→zAI rs ds i th use day (k+1)=zDA ds[k] (zAI rs ds i th use day k)):=fun hm=>(keysF_take hkd hm).1
     have HTA:Hid (movB rs ds i th use day ds[k]=true→∃ M,HoldB (zAJ ds[k] (zCd rs ds i th use day k)) M (zAI rs ds i th use day k)∧SzN 90000000 (M*growD ds[k])∧ds[k].sh.length≤20):=fun hm=>take_ask HC.o hkd hm
     have HPA:=zq (zBI HC.o _ (List.getElem_mem hkd));have HLS:=zq (longF_succ rs ds i th use day k);have HLM:Hid (zCp rs ds i th use day (k+1)=true→zCp rs ds i th use day u=true):=fun h=>longF_mono h za
     generalize ds[k]=d at *;clear hc0;go_upto_region 14 with fail
     iterate 8 go_step
     refine wp_load_mid _ _ zn b (o+k*16) zn (deC d).toList _ hrg Tryz.underlying52 rfl zb ?_
     clear hrg;go_upto_region 15 with fail
     obtain ⟨wd,hwd⟩:∃ wd,wd=wr.alloc (.cells (deC d) 52):=⟨_,rfl⟩;rw [←hwd];have hbd:Below wr.heap.size wr wd:=yj;have HD1:Hid (Bx wd wr.heap.size (deC d) 52):=yk;have HBD:=zq (zAb HB.o hbd);have HPM1:=zq (HPM.o.below hbd);have HSH1:=zq (HSH.o.below hbd);have HXD:=zq (HX0.o.below HBD.o);clear hwd hbd HPM HSH HB;have x0:=HXD.o.cell (i:=0) rfl;have x1:=HXD.o.cell (i:=1) rfl;have x2:=HXD.o.cell (i:=2) rfl;have hsx:=HXD.o.lt
     go_wp2_with fail
     with_reducible refine (HMV.o _ HBD.o).mono ?_
     rintro e w3 ⟨rfl,hb3⟩;have HB3:=zq (zAb HBD.o hb3);have HPM3:=zq (HPM1.o.below hb3);have HSH3:=zq (HSH1.o.below hb3);have HD3:=zq (HD1.o.below hb3);clear x0 x1 x2 hsx hb3 HPM1 HSH1 HD1 HXD HBD HMV
     cases hm:movB rs ds i th use day d with
     | false =>
      have HE:Hid (zAA w3 W0.heap.size (zAI rs ds i th use day (k+1))):=by show zAA _ _ _;rw [HSK.o hm];exact HPM3.o
      have HL:Hid (lim=true→zCp rs ds i th use day (k+1)=false):=fun hh=>HSL.o hm (HLF.o hh)
      clear hm;go_wp2
      go_roundg (gk - 1)
      case measure=>have:=HK.o;omega
      case rel=>exact ⟨k+1,zh,zi,HE.o,HL.o,HB3.o⟩
     | true =>
      obtain ⟨M,hM1,hM2,hM3⟩:=HTA.o hm;have HTE:=zq (HTK.o hm);obtain ⟨m1,m2,m3,m4⟩:=keysTake_mem d (K:=zCd rs ds i th use day k);have HTC:=zq (take_c W0.heap.size _ M (zAI rs ds i th use day k) d w3 HPM3.o HSH3.o (movB_kd hm) HPA.o hM1 m2 m3 m4 hM2 za);clear hm hM1 hM2 hM3 m1 m2 m3 m4;go_upto_region 16 with fail
      iterate 5 go_step
      refine wp_load_mid _ _ zn wr.heap.size 0 zn (deC d).toList _ (rangeB HD3.o) Tryz.underlying52 rfl zb ?_
      go_wp2_with fail
      with_reducible refine HTC.o.mono ?_
      rintro e w4 ⟨rfl,hp4,hg4⟩;have HP4:Hid (zAA w4 W0.heap.size (zAI rs ds i th use day (k+1))):=by show zAA _ _ _;rw [HTE.o];exact hp4
      have HB4:=zq (zDu HB3.o HB3.o.size hg4 (Nat.le_refl _));clear hp4 hg4 HTC HPM3 HSH3 HD3 HB3
      cases lim with
      | false =>
       have HL:Hid (false=true→zCp rs ds i th use day (k+1)=false):=fun hh=>by cases hh
       go_wp2
       go_roundg (gk - 1)
       case measure=>have:=HK.o;omega
       case rel=>exact ⟨k+1,zh,zi,HP4.o,HL.o,HB4.o⟩
      | true =>
       have HKK:=(parts_sum HC.o i th use day (k+1)).2.1;have HLC:=zq (large_c W0.heap.size (zCd rs ds i th use day (k+1)) (zAI rs ds i th use day (k+1)) w4 HP4.o HKK (fun p=>(parts_sz HC.o i th use day (k+1) za p).le za))
       have HLS2:Hid (zDb (zCd rs ds i th use day (k+1)) (zAI rs ds i th use day (k+1))=zCp rs ds i th use day (k+1)):=by
        show _=_
        rw [HLS.o,HLF.o rfl,Bool.false_or]
       rw [HLS2.o] at HLC;clear HKK
       go_wp2_with fail
       with_reducible refine HLC.o.mono ?_
       rintro e w5 ⟨rfl,hb5⟩;have HP5:=zq (HP4.o.below hb5);have HB5:=zq (zAb HB4.o hb5);clear hb5 HLC HP4 HB4
       cases hlo:zCp rs ds i th use day (k+1) with
       | false =>
        have HL:Hid (zCp rs ds i th use day (k+1)=false):=hlo;clear hlo;go_wp2
        go_roundg (gk - 1)
        case measure=>have:=HK.o;omega
        case rel=>exact ⟨k+1,zh,zi,HP5.o,(fun _=>HL.o),HB5.o⟩
       | true =>
        have HL:=zq (HLM.o hlo);clear hlo;go_wp2;go_ret2
        exact ⟨zAb HB0.o HB5.o,fun _=>rfl,fun hh=>by rw [HL.o] at hh;cases hh⟩
    ·have hke:k=u:=by have:=HK.o;omega
     have HE:Hid (zAA wr W0.heap.size (zAI rs ds i th use day u)):=by have:=HPM.o;rw [hke] at this;exact this
     have HL:Hid ((lim&&zCp rs ds i th use day u)=false):=by
      show _=_
      cases lim with
      | false=>rfl
      | true=>have:=HLF.o rfl;rw [hke] at this;rw [this];rfl
     have HBZ:=zq (zAb HB0.o HB.o);clear HPM HLF hke;go_wp2;go_ret2
     unfold GivesPt;rw [HL.o];exact ⟨HBZ.o,(fun hh=>by cases hh),fun _=>⟨_,rfl,HE.o⟩⟩
end Go.Proofs.YtieoifkdobcpiaaGreatDoor
