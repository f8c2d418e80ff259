/- Package right: May. The reference's valid. The reference's controls. -/
import Derived.Test.YtieoifkdobcpiaaGreatDoorSm36
set_option maxRecDepth 100000
set_option maxHeartbeats 8000000
namespace Go.Proofs.YtieoifkdobcpiaaGreatDoor
open Go.RowKit Dw
abbrev bfV (p:Bool×Int):Value:=.tuple #[.bool p.1,.int .i64 p.2]
section
variable {rs:List Rg} {us:List BA} {ds:List De} {th party pl use:BA} {day:Int}
theorem myF_chk (h:zCI rs us ds≠0):mayA rs us ds th party pl use day=(false,zCI rs us ds):=by unfold mayA;rw [aE h]
theorem myF_nm (h:zCI rs us ds=0) (h2:(zBe th&&zBe party)=false):mayA rs us ds th party pl use day=(false,5):=by
 unfold mayA;rw [aC (show ¬ (zCI rs us ds≠0) by rw [h];simp),aE h2]
theorem myF_sp (h:zCI rs us ds=0) (h2:(zBe th&&zBe party)=true) (h3:zCN rs us pl use day≠0):mayA rs us ds th party pl use day=(false,zCN rs us pl use day):=by
 unfold mayA;rw [aC (show ¬ (zCI rs us ds≠0) by rw [h];simp),aC (show ¬ ((zBe th&&zBe party)=false) by rw [h2];simp)]
 unfold zCN at h3 ⊢
 split
 ·rfl
 ·next h4 =>
  rw [aC h4] at h3
  split
  ·rfl
  ·next h5=>rw [aC h5] at h3;exact absurd rfl h3
theorem myF_at (h:zCI rs us ds=0) (h2:(zBe th&&zBe party)=true) (h3:zCN rs us pl use day=0):mayA rs us ds th party pl use day =
  if zCl rs ds ((idx rs pl).getD 0) th use day ds.length=true then (false,2) else (mayW rs ds ((idx rs pl).getD 0) th party use day,0):=by
 unfold mayA;rw [aC (show ¬ (zCI rs us ds≠0) by rw [h];simp),aC (show ¬ ((zBe th&&zBe party)=false) by rw [h2];simp)]
 unfold zCN at h3
 split
 ·next h4=>rw [aE h4] at h3;cases h3
 ·next h4 =>
  rw [aC h4] at h3
  split
  ·next h5=>rw [aE h5] at h3;cases h3
  ·rfl
end
theorem one_iff {q:Rat} (h:0≤q):q.num.natAbs=q.den↔q=1:=by
 constructor
 ·intro e
  have hr:=q.reduced;rw [e] at hr;have hd:q.den=1:=jz;have hn:=abs_num h;rw [e,hd] at hn;exact Rat.ext (by rw [←hn];rfl) (by rw [hd];rfl)
 ·intro e
  rw [e];rfl
theorem cmp_one {q:Rat} (h:0≤q):(zCZ (q.num.natAbs*1) (1*q.den)=0)↔q=1:=by
 rw [cA,Nat.one_mul,←one_iff h]
 rcases Nat.lt_trichotomy q.num.natAbs q.den with h1 | h1 | h1
 ·rw [zBF h1];constructor
  ·intro e;cases e
  ·intro e;omega
 ·rw [zCx h1];exact ⟨fun _=>h1,fun _=>rfl⟩
 ·rw [zBy h1];constructor
  ·intro e;cases e
  ·intro e;omega
theorem parts_count {w:World} {g:Nat} {f:zBm} {K:List BA} (h:zAI w g f) (hk:HoldOk K f):∃ (es:Array MapEntry) (clk:Nat),w.heap[g]?=some (.map es clk)∧(es.size=0↔holL K f=[]):=by
 obtain ⟨L,⟨es,clk,h1,h2,_⟩,h3,_⟩:=h;refine ⟨es,clk,h1,?_⟩
 have hlen:es.size=L.length:=by have:=bH List.length h2;simpa using this
 rw [hlen]
 constructor
 ·intro hl
  have:L=[]:=dQ hl;subst this;refine List.eq_nil_iff_forall_not_mem.2 fun p hp=>?_
  obtain ⟨v,hv⟩:=(h3 p).1 ((holL_mem hk).1 hp)
  cases hv
 ·intro hh
  refine aL fun hn=>?_
  obtain ⟨x,hx⟩:=List.exists_mem_of_length_pos (eH hn);have:=(holL_mem hk).2 ((h3 x.1).2 ⟨x.2,hx⟩);rw [hh] at this
  cases this
theorem run_len_map {w:World} {g:Nat} {es:Array MapEntry} {clk:Nat} (h:w.heap[g]?=some (.map es clk)) (ty:TypeId):(Builtin.len_ #[80] ty #[.map (some g)]).run Tryz.prog w = .ok (.int .i64 (es.size:Int)) w:=by
 simp [Builtin.len_,eE tMapP,getObj,Sem.run,h,goInt]
def MyLR (W:World) (P:List BA) (F:BA→Bool) (m:Nat) (iv:Value) (wr:World):Prop :=
 ∃ j:Nat,j+m=P.length∧iv = .int .i64 (j:Nat)∧(P.take j).all F=true∧Below W.heap.size W wr
theorem May_c (RA:Option Addr) (rc:Nat) (rs:List Rg) (UA:Option Addr) (uc:Nat) (us:List BA) (DA:Option Addr) (dc:Nat) (ds:List De) (th party pl use:BA) (day:Int) (w:World)
  (hr:Rgs w RA rs) (hu:Strs w UA us) (hd:Des w DA ds) (hz:∀ i (h:i<rs.length),(rs[i]).nm.size≤9223372036854775807) (hz2:∀ i (h:i<us.length),(us[i]).size≤9223372036854775807) (hdc:ds.length≤dc)
  (hth:th.size≤9223372036854775807) (hpa:party.size≤9223372036854775807) :
  Calls Tryz.prog 12 #[.agg (tiC RA rc rs UA uc us DA dc ds),.string th,.string party,.string pl,.string use,.int .i64 day] w (zAe (bfV (mayA rs us ds th party pl use day)) w):=by
 generalize hres:mayA rs us ds th party pl use day=res;have HR:=zq hres;clear hres;have HX:Hid (Bx (w.alloc (.cells (tiC RA rc rs UA uc us DA dc ds) 26)) w.heap.size (tiC RA rc rs UA uc us DA dc ds) 26):=Bx.new _ _ _;have HB:Hid (Below w.heap.size w (w.alloc (.cells (tiC RA rc rs UA uc us DA dc ds) 26))):=(aS _ _).alloc (aB _) _;obtain ⟨W,hW⟩:∃ W,W=w.alloc (.cells (tiC RA rc rs UA uc us DA dc ds) 26):=⟨_,rfl⟩;rw [←hW] at HX HB;have hba:Below W.heap.size W (W.alloc (.cells #[.string th,.string party] 9)):=(aS _ _).alloc (aB _) _;have hbb:Below w.heap.size w (W.alloc (.cells #[.string th,.string party] 9)):=zAa HB.o hba;have HX1:=zq (HX.o.below hba)
 have HOP:Hid (Calls Tryz.prog 24 #[.agg (tiC RA rc rs UA uc us DA dc ds),.slice (some ⟨W.heap.size,0,none⟩) 2 2] (W.alloc (.cells #[.string th,.string party] 9)) (GivesOp (openF rs us ds [th,party]) RA rc rs UA uc us DA dc ds (W.alloc (.cells #[.string th,.string party] 9)))) :=
  open_c RA rc rs UA uc us DA dc ds (some ⟨W.heap.size,0,none⟩) 2 [th,party] _ (hr.below hbb) (hu.below hbb) (hd.below hbb) hz hz2 (strs2 W th party) (fun i h=>by
   match i,h with
   | 0,_=>exact hth
   | 1,_=>exact hpa) ze hdc
 have HBB:=zq hbb;have HDw:=zq hd;have HUw:=zq hu;clear hr hu hd hba hbb
 go_enter Tryz.func12,Tryz.ntmps12
 go_upto_region 1 with fail
 rw [←hW];clear hW
 iterate 2 go_step
 refine fC _ _ zk w.heap.size 0 zk (tiC RA rc rs UA uc us DA dc ds).toList _ (zBZ HX.o) Tryz.underlying26 rfl zc ?_
 go_wp2_with fail
 with_reducible refine HOP.o.mono ?_
 rintro e w1 ⟨P,rfl,hb1,hp0,hp1⟩;have HB1:=zq (zAa HBB.o hb1);have HX2:=zq (HX1.o.below hb1);have HP0:=zq hp0;have HP1:=zq hp1;clear hb1 hp0 hp1 HOP HX HX1 HB HBB
 by_cases hc:zCI rs us ds=0
 case neg =>
  have hof:openF rs us ds [th,party]=zCI rs us ds:=by unfold openF;rw [aE hc]
  have hcb:(zCI rs us ds != 0)=true:=by simpa using hc
  have HS:Hid (res=(false,zCI rs us ds)):=by show _=_;rw [←HR.o,myF_chk hc]
  rw [hof];clear hc hof HP0 HP1;go_wp2;go_ret2
  exact zAe.mk yo HB1.o
 cases hnm:zBe th&&zBe party with
 | false =>
  have hof:openF rs us ds [th,party]=5:=by
   unfold openF;rw [aC (show ¬ (zCI rs us ds≠0) by rw [hc];simp),aC]
   simpa using hnm
  have HS:Hid (res=(false,5)):=by show _=_;rw [←HR.o,myF_nm hc hnm]
  rw [hof];clear hc hof HP0 HP1 hnm;go_wp2;go_ret2
  exact zAe.mk yo HB1.o
 | true =>
  have hof:openF rs us ds [th,party]=0:=by
   unfold openF;rw [aC (show ¬ (zCI rs us ds≠0) by rw [hc];simp),aE]
   simpa using hnm
  have HC:=zq hc;have HNM:=zq hnm;rw [hof];obtain ⟨L,rfl,hlg⟩:=HP1.o hof;obtain ⟨hcr,hul,hdl⟩:=zCs HC.o;have HSC:=zq (spot_c RA rc rs UA uc us DA dc ds L pl use day w1 (good_of hcr) hlg (HUw.o.below HB1.o) hul);have HLG:=zq hlg;clear hc hnm hof HP0 HP1 hlg hcr
  go_wp2_with fail
  with_reducible refine HSC.o.mono ?_
  rintro e w2 ⟨hb2,hsp⟩;have HB2:=zq (zAa HB1.o hb2);have HL2:=zq (HLG.o.below hb2);have HX3:=zq (HX2.o.below hb2);clear hb2 HSC HLG HB1 HX2
  rcases hsp with ⟨hs0,rfl⟩ | ⟨hs0,n,hn,rfl⟩
  ·have HS:Hid (res=(false,zCN rs us pl use day)):=by show _=_;rw [←HR.o,myF_sp HC.o HNM.o hs0]
   have hcb:(zCN rs us pl use day != 0)=true:=by simpa using hs0
   have hba:Below w2.heap.size w2 (w2.alloc (.cells zSpot 76)):=(aS _ _).alloc (aB _) _;have HB3:=zq (zAa HB2.o hba);clear hs0 hba;go_wp2;go_ret2
   exact zAe.mk yo HB3.o
  ·have HS:=zq (myF_at HC.o HNM.o hs0)
   rw [HR.o] at HS;have hba:Below w2.heap.size w2 (w2.alloc (.cells (sptC n use day) 76)):=(aS _ _).alloc (aB _) _;have HX4:Hid (Bx (w2.alloc (.cells (sptC n use day) 76)) w2.heap.size (sptC n use day) 76):=Bx.new _ _ _;have HL3:=zq (HL2.o.below hba);have HB3:=zq (zAa HB2.o hba);have HX5:=zq (HX3.o.below hba);obtain ⟨w3,hw3⟩:∃ w3,w3=w2.alloc (.cells (sptC n use day) 76):=⟨_,rfl⟩;rw [←hw3] at HX4 HL3 HB3 HX5;obtain ⟨i,hi⟩:∃ i,i=(idx rs pl).getD 0:=⟨_,rfl⟩;rw [←hi] at HS hn;have hus:∀ d∈ds,d.us.length≤1000000:=fun d hd=>dI (short_of HC.o d hd).2 zd
   have HPT:=zq (parts_c RA rc rs UA uc us DA dc ds L n i ds.length use day th true w3 HL3.o (HDw.o.below HB3.o) HC.o hn (aB _) hdc hus);rw [Bool.true_and] at HPT;have HKS:=zq (zDI HC.o i th use day ds.length);have HKL:=zq (keys_len HC.o i th use day ds.length (aB _));obtain ⟨M,hMb,hM⟩:=zCy HC.o i th use day ds.length (aB _);have HMB:=zq hMb;have HMZ:Hid (SzN 100000000 M):=(szN_of hM).le za
   have HMY:Hid (∀ (ho:BA) (u:World),Below w3.heap.size w3 u→Calls Tryz.prog 36 #[.pointer (some ⟨L,0,none⟩),.string th,.string party,.string ho,.agg (sptC n use day)] u (zAe (.bool (mayF rs ds i use day th party ho)) u)):=fun ho u hu =>
    may_c RA rc rs UA uc us DA dc ds L n i use day th party ho u (HL3.o.below hu) (HDw.o.below (zAa HB3.o hu)) hn hus hdl
   clear hs0 hba hn hi hMb hM hus;go_upto_region 7 with fail
   rw [←hw3];clear hw3 HL2 HB2 HX3;obtain ⟨x0,x1,x2⟩:=HX4.o.t;have hsx:=HX4.o.lt;have t2:=HX5.o.c 2 rfl;have hst:=HX5.o.lt
   go_wp2_with fail
   with_reducible refine HPT.o.mono ?_
   rintro e w4 ⟨hb4,hbad,hok⟩;have HB4:=zq (zAa HB3.o hb4);have HW4:=zq hb4;have HX6:=zq (HX4.o.below hb4);clear hb4 x0 x1 x2 hsx t2 hst HX4
   cases hlo:zCl rs ds i th use day ds.length with
   | true =>
    have he:=hbad hlo;subst he;have HS2:Hid (res=(false,2)):=by show _=_;rw [HS.o,aE hlo]
    clear hlo hbad hok;go_wp2;go_ret2
    exact zAe.mk (by first | (rw [HS2.o];rfl) | rw [HS2.o]) HB4.o
   | false =>
    obtain ⟨g,rfl,hpm⟩:=hok hlo;have HS2:Hid (res=(mayW rs ds i th party use day,0)):=by show _=_;rw [HS.o,aC (by rw [hlo];simp)]
    obtain ⟨es,clk,hes,hez⟩:=parts_count hpm HKS.o.2.1;have HTO:=zq (total_c g _ _ M w4 hpm HMB.o HMZ.o);have HSZ:Hid (SzQ 100000000 (zBQ (zBD rs ds i th use day ds.length) (zAH rs ds i th use day ds.length))):=szQ_le (sum_ge HMB.o.ok.pos) HMB.o.sum (sumF_den HMB.o.nz HMB.o.den _) HMB.o.nz HMZ.o;have HPM:=zq hpm;clear hlo hbad hok hpm HPT HMB HMZ;unfold mayW at HS2;obtain ⟨K,hK⟩:∃ K,K=zBD rs ds i th use day ds.length:=⟨_,rfl⟩;obtain ⟨f,hf⟩:∃ f,f=zAH rs ds i th use day ds.length:=⟨_,rfl⟩;rw [←hK,←hf] at HKS HTO HS2 hez HSZ;rw [←hK] at HKL;rw [←hf] at HPM;rw [←HKS.o.2.2] at HS2;clear hK hf;have hlen:=run_len_map hes
    by_cases hL0:es.size=0
    ·have HS3:Hid (res=(false,0)):=by
      show _=_
      rw [HS2.o];have hs:zBQ K f=0:=by rw [←sumF_holL,hez.1 hL0];rfl
      rw [hs]
      rfl
     rw [hL0] at hlen;go_wp2;go_ret2
     exact zAe.mk yy HB4.o
    ·have hln:((es.size:Int) == 0)=false:=by rw [aG];intro h;exact hL0 za
     have HS0:Hid (0≤zBQ K f):=sum_ge HKS.o.2.1.pos;obtain ⟨S,hS⟩:∃ S,S=zBQ K f:=⟨_,rfl⟩;rw [←hS] at HTO HSZ HS2 HS0;clear hez hS hL0 hes
     go_wp2_with fail
     with_reducible refine HTO.o.mono ?_
     rintro e w5 ⟨A5,c5,A6,c6,rfl,h5,h6,hb5⟩;have HB5:=zq (zAa HB4.o hb5);have HW5:=zq (zAa HW4.o hb5);have HX7:=zq (HX6.o.below hb5);have HP5:=zq (HPM.o.below hb5);have H5:=zq h5;have H6:=zq h6;clear hb5 h5 h6 hlen hln HTO HB4 HW4 HX6 HPM
     go_wp2_with fail
     with_reducible refine (whole1_c _).mono ?_
     rintro e w6 ⟨A7,c7,A8,c8,rfl,h7,h8,hb6⟩;have HCM:=zq (RCmp_c A5 A6 A7 A8 c5 c6 c7 c8 S.num.natAbs S.den 1 1 w6 (H5.o.below hb6) (H6.o.below hb6) h7 h8 HSZ.o.1.1 HSZ.o.2.1 zd zd);have HB6:=zq (zAa HB5.o hb6);have HW6:=zq (zAa HW5.o hb6);have HX8:=zq (HX7.o.below hb6);have HP6:=zq (HP5.o.below hb6);clear hb6 h7 h8 H5 H6 HB5 HW5 HX7 HP5 HSZ
     go_wp2_with fail
     with_reducible refine HCM.o.mono ?_
     rintro e w7 ⟨rfl,hb7⟩;have HB7:=zq (zAa HB6.o hb7);have HW7:=zq (zAa HW6.o hb7);have HX9:=zq (HX8.o.below hb7);have HPC:=zq (parties_c g K f w7 (HP6.o.below hb7) HKS.o.1 HKS.o.2.1 HKL.o);clear hb7 HCM HB6 HW6 HX8 HP6
     by_cases hS1:S=1
     case neg =>
      have hzb:(zCZ (S.num.natAbs*1) (1*S.den) != 0)=true:=by simpa using fun h=>hS1 ((cmp_one HS0.o).1 zn)
      have HS3:Hid (res=(false,0)):=by show _=_;rw [HS2.o,cX hS1];rfl
      obtain ⟨z,hz⟩:∃ z,z=zCZ (S.num.natAbs*1) (1*S.den):=⟨_,rfl⟩;rw [←hz] at hzb ⊢;clear hz hS1;go_wp2;go_ret2
      exact zAe.mk yy HB7.o
     rw [(cmp_one HS0.o).2 hS1];rw [cW hS1,Bool.true_and] at HS2;have hpl:(holL K f).length≤1000000:=dI (dX _ _) HKL.o;obtain ⟨PL,hPL⟩:∃ PL,PL=holL K f:=⟨_,rfl⟩;rw [←hPL] at HPC HS2 hpl;clear hPL hS1 HKS HKL HS0
     go_wp2_with fail
     with_reducible refine HPC.o.mono ?_
     rintro e w8 ⟨A9,c9,rfl,hst,hb8⟩;have HB8:=zq (zAa HB7.o hb8);have HW8:=zq (zAa HW7.o hb8);have HXA:=zq (HX9.o.below hb8);have HST:=zq hst;clear hb8 hst HPC HB7 HW7 HX9;go_wp2
     go_loopg [68] PL.length (MyLR w8 PL (fun h=>mayF rs ds i use day th party h))
     case atStart=>exact ⟨0,za,rfl,rfl,aS _ _⟩
     case round =>
      obtain ⟨j,hjm,rfl,hall,hb⟩:=hrel;have HJ:=zq hjm;have HAL:=zq hall;have HBW:=zq hb;clear hjm hall hb
      by_cases hjl:j<PL.length
      ·obtain ⟨b9,o9,hA,hc9⟩:=HST.o za
       subst hA;have c0:=zAg HBW.o (hc9 j hjl)
       have HTK:Hid ((PL.take (j+1)).all (fun h=>mayF rs ds i use day th party h)=mayF rs ds i use day th party PL[j]):=by
        show _=_
        rw [bM hjl,dS,HAL.o];simp
       have HAF:Hid (mayF rs ds i use day th party PL[j]=false→PL.all (fun h=>mayF rs ds i use day th party h)=false):=fun h=>by
        rw [List.all_eq_false];exact ⟨_,aJ hjl,jl⟩
       generalize PL[j]=hp at *;have HMC:=zq (HMY.o hp wr (zAa HW8.o HBW.o));have HXR:=zq (HXA.o.below HBW.o);obtain ⟨x0,x1,x2⟩:=HXR.o.t;have hsx:=HXR.o.lt;clear hc9
       go_wp2_with fail
       with_reducible refine HMC.o.mono ?_
       rintro e w9 ⟨rfl,hb9⟩;have HB9:=zq (zAa HBW.o hb9);clear hb9 HMC c0 x0 x1 x2 hsx HXR
       cases hmf:mayF rs ds i use day th party hp with
       | false =>
        have HS3:Hid (res=(false,0)):=by show _=_;rw [HS2.o,HAF.o hmf]
        clear hmf;go_wp2;go_ret2
        exact zAe.mk yy (zAa HB8.o HB9.o)
       | true =>
        have HT2:Hid ((PL.take (j+1)).all (fun h=>mayF rs ds i use day th party h)=true):=by show _=_;rw [HTK.o,hmf]
        clear hmf;go_wp2
        go_roundg (gk - 1)
        case measure=>have:=HJ.o;omega
        case rel=>exact ⟨j+1,yb,zi,HT2.o,HB9.o⟩
      ·have hje:PL.take j=PL:=cY za
       have HS3:Hid (res=(true,0)):=by show _=_;rw [HS2.o,←hje,HAL.o]
       clear hje;go_wp2;go_ret2
       exact zAe.mk yy (zAa HB8.o HBW.o)
abbrev whrC (pl use:BA) (day:Int):Array Value:=#[.string pl,.string use,.int .i64 day]
theorem validR_c (RA:Option Addr) (rc:Nat) (rs:List Rg) (UA:Option Addr) (uc:Nat) (us:List BA) (DA:Option Addr) (dc:Nat) (ds:List De) (k i:Nat) (pl use:BA) (day:Int) (w:World)
  (hr:Rgs w RA rs) (hd:Des w DA ds) (g:GoodR rs) (hi:i<rs.length) (hpl:(rs[i]).nm=pl) (hk:k<ds.length) (hdl:ds.length≤200) (hoe:OneEnd ds) (hgv:zAh (ds[k]).kd=true) (hul:(ds[k]).us.length≤20) (hal:(ds[k]).ar.length≤100) :
  Calls Tryz.prog 99 #[.agg (tiC RA rc rs UA uc us DA dc ds),.int .i64 (k:Int),.agg (whrC pl use day)] w (zAe (.bool (vB rs ds i use day ds[k])) w):=by
 obtain ⟨b,o,rfl,hb0,hc0⟩:=hd za;obtain ⟨hrg,hok⟩:=hc0 k hk;have hbw:Below w.heap.size w ((w.alloc (.cells (tiC RA rc rs UA uc us (some ⟨b,o,none⟩) dc ds) 26)).alloc (.cells (whrC pl use day) 117)):=((aS _ _).alloc (aB _) _).alloc ze _;have HX:Hid (Bx ((w.alloc (.cells (tiC RA rc rs UA uc us (some ⟨b,o,none⟩) dc ds) 26)).alloc (.cells (whrC pl use day) 117)) w.heap.size (tiC RA rc rs UA uc us (some ⟨b,o,none⟩) dc ds) 26):=(Bx.new _ _ _).alloc _;have HY:Hid (Bx ((w.alloc (.cells (tiC RA rc rs UA uc us (some ⟨b,o,none⟩) dc ds) 26)).alloc (.cells (whrC pl use day) 117)) (w.heap.size+1) (whrC pl use day) 117):=Bx.new1 _ _ _ _;obtain ⟨W,hW⟩:∃ W,W=(w.alloc (.cells (tiC RA rc rs UA uc us (some ⟨b,o,none⟩) dc ds) 26)).alloc (.cells (whrC pl use day) 117):=⟨_,rfl⟩;rw [←hW] at hbw HX HY;have HDE:=zq (hd.below hbw);obtain ⟨d,hdd⟩:∃ d,ds[k]=d:=⟨_,rfl⟩;have HRU:=fun (u:World) (hu:Below W.heap.size W u)=>runsR_c RA rc rs UA uc us (some ⟨b,o,none⟩) dc ds k u (HDE.o.below hu) hk hdl
 have hrp:zCG ds d=cutR d.bg (toP ds d):=by unfold zCG;rw [aE (by rw [←hdd];exact hgv)]
 rw [hdd] at hrg hok hul hal ⊢;simp only [hdd,toR_eq hoe,←hrp] at HRU;have HRU:=zq HRU;generalize hres:vB rs ds i use day d=res;have HR:=zq hres;have HOK:=zq (hok.below hbw);have HRG:Hid (W.rangeAt b (o+k*16) (deC d).toList):=fun j v hv=>zAg hbw (hrg j v hv)
 have HB:=zq hbw;have HRR:=zq (hr.below hbw);have HPL:=zq hpl;have hb1:b<W.heap.size:=dL hb0 hbw.size;clear hres hok hrg hbw hr hd hc0 hdd hrp hgv hpl
 go_enter Tryz.func99,Tryz.ntmps99
 go_upto_region 1 with fail
 rw [←hW];clear hW;have t2:=HX.o.c 2 rfl;have hst:=HX.o.lt
 iterate 14 go_step
 refine fC _ _ zk b (o+k*16) zk (deC d).toList _ HRG.o Tryz.underlying52 rfl zc ?_
 clear t2 hst;go_upto_region 2 with fail
 obtain ⟨W2,hW2⟩:∃ W2,W2=W.alloc (.cells (deC d) 52):=⟨_,rfl⟩;rw [←hW2];have hb2:Below W.heap.size W W2:=by rw [hW2];exact (aS _ _).alloc (aB _) _
 have HD:Hid (Bx W2 W.heap.size (deC d) 52):=by show Bx _ _ _ _;rw [hW2];exact Bx.new _ _ _
 have HX2:=zq (HX.o.below hb2);have HY2:=zq (HY.o.below hb2);have HB2:=zq hb2;clear hW2 hb2 HX HY
 iterate 2 go_step
 refine fC _ _ zk w.heap.size 0 zk (tiC RA rc rs UA uc us (some ⟨b,o,none⟩) dc ds).toList _ (zBZ HX2.o) Tryz.underlying26 rfl zc ?_
 go_wp2_with fail
 with_reducible refine (HRU.o _ HB2.o).mono ?_
 rintro e W3 ⟨rfl,hb3⟩;have HB3:=zq (zAa HB2.o hb3);have HD3:=zq (HD.o.below hb3);have HX3:=zq (HX2.o.below hb3);have HY3:=zq (HY2.o.below hb3);have HHA:=zq (has_c d.usA d.usc d.us use W3 za (HOK.o.uses.below HB3.o));have hli:=lies_c RA d.arA rc d.arc rs d.ar W3 g (HRR.o.below HB3.o) (HOK.o.ars.below HB3.o) hal i hi;rw [HPL.o] at hli;have HLI:=zq hli;clear hb3 hli HD HX2 HY2 HB2 HRU;obtain ⟨y0,y1,y2⟩:=HY3.o.t;have hsy:=HY3.o.lt;have x0:=HX3.o.c 0 rfl;have hsx:=HX3.o.lt;have d10:=HD3.o.c 10 rfl;have d11:=HD3.o.c 11 rfl;have hsd:=HD3.o.lt;have HBZ:=zq (zAa HB.o HB3.o)
 by_cases h1:(zCG ds d).1≤day
 case neg =>
  have e1:decide ((zCG ds d).1≤day)=false:=cX h1;have HV:Hid (res=false):=by show _=_;rw [←HR.o];unfold vB;rw [e1];rfl
  clear h1;go_wp2;go_ret
  exact zAe.mk (zAs HV.o.symm) HBZ.o
 have e1:decide ((zCG ds d).1≤day)=true:=cW h1
 by_cases h2:day<(zCG ds d).2
 case neg =>
  have e2:decide (day<(zCG ds d).2)=false:=cX h2;have HV:Hid (res=false):=qo;clear h1 h2;go_wp2;go_ret
  exact zAe.mk (zAs HV.o.symm) HBZ.o
 have e2:decide (day<(zCG ds d).2)=true:=cW h2;have HR2:Hid ((lies rs d.ar i&&zDt d.us use)=res):=qo;clear h1 h2 HR
 go_wp2_with fail
 with_reducible refine HHA.o.mono ?_
 rintro e W4 ⟨rfl,rfl⟩
 cases hmu:zDt d.us use with
 | false =>
  have HV:Hid (res=false):=by show _=_;rw [←HR2.o,hmu,Bool.and_false]
  clear hmu;go_wp2;go_ret
  exact zAe.mk (zAs HV.o.symm) HBZ.o
 | true =>
  have HV:Hid (lies rs d.ar i=res):=by show _=_;rw [←HR2.o,hmu,Bool.and_true]
  clear hmu
  go_wp2_with fail
  with_reducible refine HLI.o.mono ?_
  rintro e W5 ⟨rfl,rfl⟩;go_wp2;go_ret
  exact zAe.mk (zAs HV.o) HBZ.o
def CqR (W:World) (_T _S:Array Value) (nx:BA→Option BA) (ps:List BA) (res:BA) (m:Nat) (e2 e11:Value) (wr:World):Prop :=
 ∃ (v:Value) (p:BA) (l seen:List BA),v=e11∧e2 = .string p∧Below W.heap.size W wr∧zAT encS 1 wr W.heap.size 9 v l∧l.length≤m+2*ps.length+5∧l.length+m≤ps.length+1∧(∀ x,zDt l x=zDt seen x)∧zDt seen p=false∧CtlI nx ps m seen p res
def CnR (W:World) (v:Value) (l:List BA) (ds:List De) (P:De→Bool) (m:Nat) (e12 e13:Value) (wr:World):Prop :=
 ∃ (q:BA) (j:Nat),e12 = .string q∧j+m=ds.length∧e13 = .int .i64 (j:Nat)∧Below W.heap.size W wr∧zAT encS 1 wr W.heap.size 9 v l ∧
  ((q=emp∧∀ t (h:t<ds.length),t<j→P ds[t]=false)∨(q≠emp∧(ds.find? P).map De.to_=some q))
theorem memS_app (l:List BA) (p x:BA) (seen:List BA) (h:∀ x,zDt l x=zDt seen x):zDt (l++[p]) x=zDt (p::seen) x:=by
 have h1:=h x;unfold zDt at h1 ⊢;rw [eK,h1];simp [Bool.or_comm]
theorem controlsR_c (RA:Option Addr) (rc:Nat) (rs:List Rg) (UA:Option Addr) (uc:Nat) (us:List BA) (DA:Option Addr) (dc:Nat) (ds:List De) (i:Nat) (th ho pl use:BA) (day:Int) (w:World)
  (hr:Rgs w RA rs) (hd:Des w DA ds) (g:GoodR rs) (hi:i<rs.length) (hpl:(rs[i]).nm=pl) (hdl:ds.length≤200) (hoe:OneEnd ds) (hsh:∀ d∈ds,d.ar.length≤100∧d.us.length≤20) (hto:∀ d∈ds,d.kd=3→d.to_≠emp) :
  Calls Tryz.prog 105 #[.agg (tiC RA rc rs UA uc us DA dc ds),.string th,.string ho,.agg (whrC pl use day),.int .i64 (ds.length:Int)] w (zAe (.string (ctlF rs ds i use day th ho)) w):=by
 have HI0:=zq (ctlI_start rs ds i use day th ho);generalize ctlF rs ds i use day th ho=res at *;have hbw:Below w.heap.size w ((w.alloc (.cells (tiC RA rc rs UA uc us DA dc ds) 26)).alloc (.cells (whrC pl use day) 117)):=((aS _ _).alloc (aB _) _).alloc ze _;have HX:Hid (Bx ((w.alloc (.cells (tiC RA rc rs UA uc us DA dc ds) 26)).alloc (.cells (whrC pl use day) 117)) w.heap.size (tiC RA rc rs UA uc us DA dc ds) 26):=(Bx.new _ _ _).alloc _;have HY:Hid (Bx ((w.alloc (.cells (tiC RA rc rs UA uc us DA dc ds) 26)).alloc (.cells (whrC pl use day) 117)) (w.heap.size+1) (whrC pl use day) 117):=Bx.new1 _ _ _ _;obtain ⟨W,hW⟩:∃ W,W=(w.alloc (.cells (tiC RA rc rs UA uc us DA dc ds) 26)).alloc (.cells (whrC pl use day) 117):=⟨_,rfl⟩;rw [←hW] at hbw HX HY;have HB:=zq hbw;have HDW:=zq (hd.below hbw);have HRW:=zq (hr.below hbw);have HSH:=zq hsh;have HTO:=zq hto;clear hbw hr hd hsh hto
 go_enter Tryz.func105,Tryz.ntmps105
 go_upto_region 1 with fail
 rw [←hW];clear hW;go_wp2
 go_loopg [2,11] (ds.length+2) (CqR W (tiC RA rc rs UA uc us DA dc ds) (whrC pl use day) (nextP rs ds i use day th) (ho::ds.map De.to_) res)
 case atStart=>exact ⟨_,ho,[],[],rfl,rfl,aS _ _,zAT.nil _ _ _ _ _,ze,ze,fun _=>rfl,rfl,HI0.o⟩
 clear HI0
 case round =>
  obtain ⟨v,p,l,seen,rfl,rfl,hb,ho1,_,hlm,hsn,hps,hci⟩:=hrel;have HBW:=zq hb;have HO:=zq ho1;have HSN:=zq hsn;have HPS:=zq hps;have HCI:=zq hci;simp only [aY,aM] at hlm;have hll:l.length≤202:=za;have hW1:W.heap.size≤wr.heap.size:=hb.size;obtain ⟨gf,hgf⟩:∃ gf,gf=gk:=⟨_,rfl⟩;subst hgf;clear hb ho1 hsn hps hci
  go_wp2_with (at_builtin;refine zBB _ _ _ elStr rfl rfl W.heap.size v l rfl (HO.o.alloc _) wr.heap.size 1 p rfl (cS _ _) rfl zy zm za zg ?_;intro v1 w2 hown2 hg2 hb2)
  have HO2:Hid (zAT encS 1 w2 W.heap.size 9 v1 (l++[p])):=hown2;have HB2:=zq ((HBW.o.alloc hW1 _).trans hb2);clear hown2 hg2 hb2 HO HBW hW1;go_wp2
  go_loopg [12,13] ds.length (CnR W v1 (l++[p]) ds (zCF rs ds i use day th p true))
  case atStart=>exact ⟨emp,0,rfl,za,rfl,HB2.o,HO2.o,.inl ⟨rfl,fun t _ ht=>absurd ht za⟩⟩
  clear HO2 HB2
  case round =>
   obtain ⟨q,j,rfl,hjm,rfl,hb,ho1,hfd⟩:=hrel;have HBW:=zq hb;have HO:=zq ho1;have HJM:=zq hjm;have HFD:=zq hfd;have hjl:j≤ds.length:=za;clear hb ho1 hjm hfd
   by_cases hgo:j<ds.length∧q=emp
   ·obtain ⟨hlt,hq⟩:=hgo
    have HP:Hid (∀ t (h:t<ds.length),t<j→zCF rs ds i use day th p true ds[t]=false):=(HFD.o.elim (fun h=>h.2) (fun h=>absurd hq h.1))
    subst hq;have q0:=emp_isEmpty;obtain ⟨b,o,hA,hb0,hc0⟩:=HDW.o za;subst hA;obtain ⟨d,hdd⟩:∃ d,ds[j]=d:=⟨_,rfl⟩;have hp:=(hc0 j hlt).1;rw [hdd] at hp;have hrg:wr.rangeAt b (o+j*16) (deC d).toList:=fun t v hv=>(HBW.o.cell (p:=⟨b,o+j*16+t,none⟩) hb0).trans (hp t v hv)
    have HDD:=zq hdd
    have HVR:Hid (zAh d.kd=true→∀ u,Below W.heap.size W u→Calls Tryz.prog 99 #[.agg (tiC RA rc rs UA uc us (some ⟨b,o,none⟩) dc ds),.int .i64 (j:Int),.agg (whrC pl use day)] u (zAe (.bool (vB rs ds i use day d)) u)):=fun hgv u hu=>by
     have:=validR_c RA rc rs UA uc us (some ⟨b,o,none⟩) dc ds j i pl use day u (HRW.o.below hu) (HDW.o.below hu) g hi hpl hlt hdl hoe (by rw [hdd];exact hgv) (HSH.o _ (aJ hlt)).2 (HSH.o _ (aJ hlt)).1
     rwa [hdd] at this
    have x2:_=some (Value.slice (some ⟨b,o,none⟩) ds.length dc):=(HX.o.below HBW.o).c 2 rfl;have hsx:=(HX.o.below HBW.o).lt;clear hp hc0 hdd HFD;go_upto_region 7 with fail
    iterate 14 go_step
    refine fC _ _ zk b (o+j*16) zk (deC d).toList _ hrg Tryz.underlying52 rfl zc ?_
    clear hrg x2 hsx q0;go_upto_region 8 with fail
    obtain ⟨wd,hwd⟩:∃ wd,wd=wr.alloc (.cells (deC d) 52):=⟨_,rfl⟩;rw [←hwd];have hbd:Below wr.heap.size wr wd:=zt;have HD1:Hid (Bx wd wr.heap.size (deC d) 52):=yg;have HBD:=zq (zAa HBW.o hbd);have HOD:=zq (HO.o.below hbd);have HXD:=zq (HX.o.below HBD.o);have HYD:=zq (HY.o.below HBD.o);clear hwd hbd HO HBW;have d2:=HD1.o.c 2 rfl;have d3:=HD1.o.c 3 rfl;have d4:=HD1.o.c 4 rfl;have d8:wd.cell? ⟨wr.heap.size,8,none⟩=some (.bool d.ex):=HD1.o.c 8 rfl;have hsd:=HD1.o.lt
    have HNO:Hid (zCF rs ds i use day th p true d=false→∀ t (h:t<ds.length),t<j+1→zCF rs ds i use day th p true ds[t]=false):=fun h t ht h9=>by
     rcases aU t j with h8 | h8
     ·exact HP.o t ht h8
     ·obtain rfl:t=j:=by omega
      rw [HDD.o];exact h
    by_cases hq3:d.kd=3
    case neg =>
     have e1:(d.kd == 3)=false:=by simpa using hq3
     have HN:=zq (HNO.o (by unfold zCF;rw [cX hq3];rfl))
     clear hq3 HNO;go_wp2
     go_roundg (gk - 1)
     case measure=>have:=HJM.o;omega
     case rel=>exact ⟨emp,j+1,rfl,zr,zi,HBD.o,HOD.o,.inl ⟨rfl,HN.o⟩⟩
    have e1:(d.kd == 3)=true:=by simpa using hq3
    cases hex:d.ex with
    | false =>
     have HN:=zq (HNO.o (by unfold zCF;rw [hex];simp))
     rw [hex] at d8;clear hq3 HNO hex;go_wp2
     go_roundg (gk - 1)
     case measure=>have:=HJM.o;omega
     case rel=>exact ⟨emp,j+1,rfl,zr,zi,HBD.o,HOD.o,.inl ⟨rfl,HN.o⟩⟩
    | true =>
     rw [hex] at d8
     by_cases ht:d.th=th
     case neg =>
      have q1:=zAm ht;have HN:=zq (HNO.o (by unfold zCF;rw [cX ht];simp))
      clear hq3 ht HNO hex;go_wp2
      go_roundg (gk - 1)
      case measure=>have:=HJM.o;omega
      case rel=>exact ⟨emp,j+1,rfl,zr,zi,HBD.o,HOD.o,.inl ⟨rfl,HN.o⟩⟩
     have q1:=zAn ht
     by_cases hf:d.fr=p
     case neg =>
      have q2:=zAm hf;have HN:=zq (HNO.o (by unfold zCF;rw [cX hf];simp))
      clear hq3 ht hf HNO hex;go_wp2
      go_roundg (gk - 1)
      case measure=>have:=HJM.o;omega
      case rel=>exact ⟨emp,j+1,rfl,zr,zi,HBD.o,HOD.o,.inl ⟨rfl,HN.o⟩⟩
     have q2:=zAn hf;have HV:Hid (zCF rs ds i use day th p true d=vB rs ds i use day d):=by show _=_;unfold zCF;rw [cW hq3,cW ht,cW hf,hex];rfl
     have HVC:=zq (HVR.o (by rw [hq3];rfl) wd HBD.o)
     have HT3:=zq (HTO.o d (by rw [←HDD.o];exact aJ hlt) hq3)
     clear hq3 ht hf hex;obtain ⟨x0,x1,x2⟩:=HXD.o.t;have hsx:=HXD.o.lt;obtain ⟨y0,y1,y2⟩:=HYD.o.t;have hsy:=HYD.o.lt
     go_wp2_with fail
     with_reducible refine HVC.o.mono ?_
     rintro e w3 ⟨rfl,hb3⟩;have HB3:=zq (zAa HBD.o hb3);have HO3:=zq (HOD.o.below hb3);have HD3:=zq (HD1.o.below hb3);clear hb3 d2 d3 d4 d8 hsd x0 x1 x2 hsx y0 y1 y2 hsy e1 q1 q2 HXD HYD HD1 HOD HBD HVC HVR
     cases hv:vB rs ds i use day d with
     | false =>
      have HN:=zq (HNO.o (by rw [HV.o,hv]))
      clear hv HNO;go_wp2
      go_roundg (gk - 1)
      case measure=>have:=HJM.o;omega
      case rel=>exact ⟨emp,j+1,rfl,zr,zi,HB3.o,HO3.o,.inl ⟨rfl,HN.o⟩⟩
     | true =>
      have HF:Hid ((ds.find? (zCF rs ds i use day th p true)).map De.to_=some d.to_):=by
       show _=_
       rw [find_at hlt (by rw [HDD.o,HV.o,hv]) HP.o,HDD.o];rfl
      have d5:=HD3.o.c 5 rfl;have hsd:=HD3.o.lt;clear hv HNO;go_wp2
      go_roundg (gk - 1)
      case measure=>have:=HJM.o;omega
      case rel=>exact ⟨d.to_,j+1,rfl,zr,zi,HB3.o,HO3.o,.inr ⟨HT3.o,HF.o⟩⟩
   ·obtain ⟨A,c,rfl,hrd⟩:=HO.o.rd1
    have HRD:Hid (Strs wr A (l++[p])):=hrd;clear hrd;have hlt2:q=emp→¬ j<ds.length:=fun h1 h2=>hgo ⟨h2,h1⟩
    by_cases hq:q=emp
    ·have q0:=zAr hq
     have hje:=hlt2 hq
     have HNX:Hid (nextP rs ds i use day th p=none):=by
      show _=_
      unfold nextP
      rcases HFD.o with ⟨_,h⟩ | ⟨h,_⟩
      ·rw [find_no (fun t ht=>h t ht za)];rfl
      ·exact absurd hq h
     have HRS:=zq (HCI.o.none HPS.o HNX.o);subst hq;clear hgo hlt2 HFD;go_wp2;go_ret
     exact zAe.mk (by rw [HRS.o];rfl) (zAa HB.o HBW.o)
    ·have q0:=zAo hq
     have hnx:nextP rs ds i use day th p=some q:=by
      unfold nextP
      rcases HFD.o with ⟨h,_⟩ | ⟨_,h⟩
      ·exact absurd h hq
      ·exact h
     have HC2:=zq (HCI.o.next HPS.o hnx (nextP_mem hnx));have hsz:(l++[p]).length=l.length+1:=ze;have hha:=has_c A c (l++[p]) q wr zg HRD.o;rw [hsz] at hha;have HHA:=zq hha;clear hha;have hma:=memS_app l p q seen HSN.o;have hgp:0<gf:=HC2.o.1;clear hgo hlt2 HFD hnx
     by_cases hjd:j<ds.length
     all_goals
      go_wp2_with fail
      with_reducible refine HHA.o.mono ?_
      rintro e w4 ⟨rfl,rfl⟩
      cases hms:zDt (l++[p]) q with
      | true =>
       have HRS:=zq (HC2.o.2.stop (by rw [←hma];exact hms))
       clear hms hma;go_wp2;go_ret
       exact zAe.mk (by rw [HRS.o];rfl) (zAa HB.o HBW.o)
      | false =>
       have HM2:Hid (zDt (p::seen) q=false):=by show _=_;rw [←hma];exact hms
       clear hms hma;go_wp2
       go_roundg (gf - 1)
       case measure=>omega
       case rel=>exact ⟨_,q,l++[p],p::seen,rfl,rfl,HBW.o,(by have:=HO.o;rwa [hsz] at this),zg,zg,fun x=>memS_app l p x seen HSN.o,HM2.o,HC2.o.2⟩
end Go.Proofs.YtieoifkdobcpiaaGreatDoor
