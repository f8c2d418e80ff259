/- Parts of the proof, joined: The reference's Shares. The reference's May. Package right (places): s. -/
import Derived.Test.YtieoifkdobcpiaaGreatDoorSm40
import Derived.Test.YtieoifkdobcpiaaGreatDoorSm38
set_option maxRecDepth 100000
set_option maxHeartbeats 8000000
namespace Go.Proofs.YtieoifkdobcpiaaGreatDoor
open Go.RowKit Dw
def MzR (W:World) (L:List BA) (F:BA→Bool) (b0:Bool) (n m:Nat) (okv iv:Value) (wr:World):Prop :=
 ∃ (j:Nat) (b:Bool),okv = .bool b∧j+m=n∧iv = .int .i64 (j:Nat)∧b=(b0&&(L.take j).all F)∧Below W.heap.size W wr
theorem MayR_c (RA:Option Addr) (rc:Nat) (rs:List Rg) (UA:Option Addr) (uc:Nat) (us:List BA) (DA:Option Addr) (dc:Nat) (ds:List De) (th party pl use:BA) (day:Int) (w:World)
  (hr:Rgs w RA rs) (hu:Strs w UA us) (hd:Des w DA ds) (hz:∀ i (h:i<rs.length),(rs[i]).nm.size≤9223372036854775807) (hz2:∀ i (h:i<us.length),(us[i]).size≤9223372036854775807)
  (hth:th.size≤9223372036854775807) (hpa:party.size≤9223372036854775807) (hP:POK w) :
  Calls Tryz.prog 23 #[.agg (tiC RA rc rs UA uc us DA dc ds),.string th,.string party,.string pl,.string use,.int .i64 day] w (zAe (bfV (mayA rs us ds th party pl use day)) w):=by
 generalize hres:mayA rs us ds th party pl use day=res;have HR:=zq hres;clear hres;have HX:Hid (Bx (w.alloc (.cells (tiC RA rc rs UA uc us DA dc ds) 26)) w.heap.size (tiC RA rc rs UA uc us DA dc ds) 26):=Bx.new _ _ _;have HB:Hid (Below w.heap.size w (w.alloc (.cells (tiC RA rc rs UA uc us DA dc ds) 26))):=(aS _ _).alloc (aB _) _;obtain ⟨W,hW⟩:∃ W,W=w.alloc (.cells (tiC RA rc rs UA uc us DA dc ds) 26):=⟨_,rfl⟩;rw [←hW] at HX HB;have HCK:=zq (CheckTR_c RA rc rs UA uc us DA dc ds W (hr.below HB.o) (hu.below HB.o) (hd.below HB.o) hz hz2);have HDw:=zq hd;have HUw:=zq hu;have HRw:=zq hr;have HPw:=zq hP;clear hr hu hd hP
 go_enter Tryz.func23,Tryz.ntmps23
 go_upto_region 1 with fail
 rw [←hW];clear hW
 iterate 2 go_step
 refine fC _ _ zk w.heap.size 0 zk (tiC RA rc rs UA uc us DA dc ds).toList _ (zBZ HX.o) Tryz.underlying26 rfl zc ?_
 go_wp2_with fail
 with_reducible refine HCK.o.mono ?_
 rintro e w1 ⟨rfl,hb1⟩;have HB1:=zq (zAa HB.o hb1);have HX1:=zq (HX.o.below hb1);clear hb1 HCK HX HB
 by_cases hc:zCI rs us ds=0
 case neg =>
  have hcb:(zCI rs us ds != 0)=true:=by simpa using hc
  have HS:Hid (res=(false,zCI rs us ds)):=by show _=_;rw [←HR.o,myF_chk hc]
  clear hc;go_wp2;go_ret2
  exact zAe.mk yo HB1.o
 have HC:=zq hc;rw [hc];clear hc;obtain ⟨hcr,hul,hdl⟩:=zCs HC.o;have HGR:=zq (good_of hcr);have hrl:=HGR.o.len;have HN1:=zq (fun W=>zBn th W hth)
 have HN2:=zq (fun W=>zBn party W hpa)
 clear hcr
 go_wp2_with fail
 with_reducible refine (HN1.o _).mono ?_
 rintro e w2 ⟨rfl,rfl⟩
 cases hn1:zBe th with
 | false =>
  have HS:Hid (res=(false,5)):=by show _=_;rw [←HR.o,myF_nm HC.o (by rw [hn1];rfl)]
  clear hn1;go_wp2;go_ret2
  exact zAe.mk yo HB1.o
 | true =>
 go_wp2_with fail
 with_reducible refine (HN2.o _).mono ?_
 rintro e w3 ⟨rfl,rfl⟩
 cases hn2:zBe party with
 | false =>
  have HS:Hid (res=(false,5)):=by show _=_;rw [←HR.o,myF_nm HC.o (by rw [hn2,Bool.and_false])]
  clear hn1 hn2;go_wp2;go_ret2
  exact zAe.mk yo HB1.o
 | true =>
  have HNM:Hid ((zBe th&&zBe party)=true):=by show _=_;rw [hn1,hn2];rfl
  clear hn1 hn2 HN1 HN2;go_upto_region 7 with fail
  generalize hwg:World.alloc _ (Obj.cells #[.string pl,.string use,.int .i64 day] _)=w4;have HY4:Hid (Bx w4 w1.heap.size (whrC pl use day) 117):=by show Bx _ _ _ _;rw [←hwg];exact Bx.new _ _ _
  have hb4:Below w1.heap.size w1 w4:=by rw [←hwg];exact (aS _ _).alloc (aB _) _
  have HB4:=zq (zAa HB1.o hb4);have HX4:=zq (HX1.o.below hb4);clear hwg hb4 HX1 HB1;have HCW:=zq (checkWhere_c RA rc rs UA uc us DA dc ds pl use day w4 (HRw.o.below HB4.o) (HUw.o.below HB4.o) hrl hul)
  iterate 2 go_step
  refine fC _ _ zk w.heap.size 0 zk (tiC RA rc rs UA uc us DA dc ds).toList _ (zBZ HX4.o) Tryz.underlying26 rfl zc ?_
  obtain ⟨y0,y1,y2⟩:=HY4.o.t;have hsy:=HY4.o.lt
  go_wp2_with fail
  with_reducible refine HCW.o.mono ?_
  rintro e w5 ⟨rfl,hb5⟩;have HB5:=zq (zAa HB4.o hb5);have HX5:=zq (HX4.o.below hb5);have HY5:=zq (HY4.o.below hb5);clear hb5 y0 y1 y2 hsy HX4 HY4 HB4 HCW
  by_cases hs:zCN rs us pl use day=0
  case neg =>
   have hcb:(zCN rs us pl use day != 0)=true:=by simpa using hs
   have HS:Hid (res=(false,zCN rs us pl use day)):=by show _=_;rw [←HR.o,myF_sp HC.o HNM.o hs]
   clear hs;go_wp2;go_ret2
   exact zAe.mk yo HB5.o
  have HS:=zq (myF_at HC.o HNM.o hs);rw [HR.o] at HS;obtain ⟨_,_,_,hil,hin⟩:=leaf_idx HGR.o (spot_leaf hs);rw [List.getD_eq_getElem?_getD,List.getElem?_eq_getElem hil,aO] at hin;obtain ⟨i,hi⟩:∃ i,i=(idx rs pl).getD 0:=⟨_,rfl⟩;have hil2:i<rs.length:=by rw [hi];exact hil
  have hin2:(rs[i]).nm=pl:=by simp only [hi];exact hin
  rw [←hi] at HS;have HPT:=zq (partsR_c RA rc rs UA uc us DA dc ds i ds.length th pl use day w5 (HRw.o.below HB5.o) (HDw.o.below HB5.o) HC.o hil2 hin2 (aB _) (HPw.o.below HB5.o));have HKL:=zq (keys_len HC.o i th use day ds.length (aB _));have HKS:=zq (zDI HC.o i th use day ds.length);obtain ⟨M,hMb,hM⟩:=zCy HC.o i th use day ds.length (aB _);have HMB:=zq hMb
  have HM2:Hid (M<10 ^ 10000000):=by
   show M<_
   obtain ⟨a,ha⟩:∃ a,a=10000000:=⟨_,rfl⟩;rw [←ha];exact dL hM (bY za za)
  have HMU:Hid (∀ (ho:BA) (u:World),Below w.heap.size w u→Calls Tryz.prog 58 #[.agg (tiC RA rc rs UA uc us DA dc ds),.string th,.string party,.string ho,.agg (whrC pl use day),.int .i64 (ds.length:Int)] u (zAe (.bool (mayF rs ds i use day th party ho)) u)):=fun ho u hu =>
   mayUse_c RA rc rs UA uc us DA dc ds i th party ho pl use day u (HRw.o.below hu) (HDw.o.below hu) HGR.o hil2 hin2 hdl (deeds_oneEnd HC.o) (short_of HC.o) (to_ne HC.o)
  rw [hs];clear hs hil hin hi hil2 hin2 hMb hM;have x2:=HX5.o.c 2 rfl;have hsx:=HX5.o.lt;obtain ⟨y0,y1,y2⟩:=HY5.o.t;have hsy:=HY5.o.lt;go_upto_region 10 with fail
  iterate 2 go_step
  refine fC _ _ zk w.heap.size 0 zk (tiC RA rc rs UA uc us DA dc ds).toList _ (zBZ HX5.o) Tryz.underlying26 rfl zc ?_
  go_wp2_with fail
  with_reducible refine HPT.o.mono ?_
  rintro e w6 ⟨A,c,nn,rfl,hho,hb6⟩;have HB6:=zq (zAa HB5.o hb6);have HX6:=zq (HX5.o.below hb6);have HY6:=zq (HY5.o.below hb6);have HHO:=zq hho;clear hb6 hho x2 hsx y0 y1 y2 hsy HX5 HY5 HB5 HPT
  cases hlo:zCl rs ds i th use day ds.length with
  | true =>
   have HS2:Hid (res=(false,2)):=by show _=_;rw [HS.o,aE hlo]
   clear hlo;go_wp2;go_ret2
   exact zAe.mk (by first | (rw [HS2.o];rfl) | rw [HS2.o]) HB6.o
  | false =>
   have HS2:Hid (res=(mayW rs ds i th party use day,0)):=by show _=_;rw [HS.o,aC (by rw [hlo];simp)]
   unfold mayW at HS2;clear hlo HS;obtain ⟨K,hK⟩:∃ K,K=zBD rs ds i th use day ds.length:=⟨_,rfl⟩;obtain ⟨f,hf⟩:∃ f,f=zAH rs ds i th use day ds.length:=⟨_,rfl⟩;rw [←hK,←hf] at HKS HS2 HMB HHO;rw [←hK] at HKL;rw [←HKS.o.2.2,←sumF_holL] at HS2;clear hK hf;have hSle:zBQ (holL K f) f≤1:=by rw [sumF_holL];exact HMB.o.sum
   have HS0:Hid (0≤zBQ (holL K f) f):=sum_ge HMB.o.ok.pos;have hLl:(holL K f).length≤1000000:=dI (dX _ _) HKL.o;obtain ⟨A1,c1,l,he,hrd,hok,hpr⟩:=HHO.o
   injection he with he1 he2 he3
   subst he1 he2 he3
   have HSQ:Hid (SzQ 10000000 (zBQ (holL K f) f)):=by
    have:=(sums_sz HMB.o hSle HM2.o (holL K f).length).2
    rwa [bX] at this
   obtain ⟨L,hL⟩:∃ L,L=holL K f:=⟨_,rfl⟩;rw [←hL] at HS2 HS0 HSQ hSle hLl hpr;have hll:l.length=L.length:=zDG hpr;have HSU:=zq (sumR_c A c l K L f M w6 hrd hok hpr HMB.o hSle HM2.o za);have HRD:=zq hrd;have HPQ:=zq (fun j (h:j<l.length)=>ho_q hpr h)
   have HLL:=zq hll;obtain ⟨S,hS⟩:∃ S,S=zBQ L f:=⟨_,rfl⟩;rw [←hS] at HS2 HS0 HSQ HSU;have HSE:=zq hS;have hlb:l.length≤1000000:=za;clear hrd hok hpr HHO HKL HKS HMB HM2 hSle hLl hL hll hS
   by_cases hl0:l.length=0
   ·have HS3:Hid (res=(false,0)):=by
     show _=_
     have hLe:L=[]:=dQ (by have:=HLL.o;omega)
     rw [HS2.o,HSE.o,hLe]
     rfl
    have k1:decide ((0:Int)<(l.length:Int))=false:=cX za;go_wp2
    go_loopg [19,20] l.length (MzR w6 L (fun h=>mayF rs ds i use day th party h) false l.length)
    case atStart=>exact ⟨0,false,rfl,za,rfl,rfl,aS _ _⟩
    case round =>
     obtain ⟨j,b,rfl,hjm,rfl,hbe,hb⟩:=hrel;have hbf:b=false:=by rw [hbe];rfl
     subst hbf;have hje:¬ j<l.length:=za;have HBW:=zq hb;clear hbe hb hjm;go_wp2;go_ret2
     exact zAe.mk yy (zAa HB6.o HBW.o)
   ·have k1:decide ((0:Int)<(l.length:Int))=true:=cW za
    go_wp2_with fail
    with_reducible refine HSU.o.mono ?_
    rintro e w7 ⟨A5,c5,A6,c6,rfl,h5,h6,hb7⟩;have HB7:=zq (zAa HB6.o hb7);have HW7:=zq hb7;have H5:=zq h5;have H6:=zq h6;clear hb7 h5 h6 HSU
    go_wp2_with fail
    with_reducible refine (Int_1 _).mono ?_
    rintro e w8 ⟨A7,c7,A8,c8,rfl,h7,h8,hb8⟩;have HCM:=zq (compare_cT A5 A6 A7 A8 c5 c6 c7 c8 S.num.natAbs S.den 1 1 w8 (H5.o.below hb8) (H6.o.below hb8) h7 h8 (dI HSQ.o.1.2 za) (dI HSQ.o.2.2 za) zd zd (zEg S) zd);have HB8:=zq (zAa HB7.o hb8);have HW8:=zq (zAa HW7.o hb8);clear hb8 h7 h8 H5 H6 HB7 HW7
    go_wp2_with fail
    with_reducible refine HCM.o.mono ?_
    rintro e w9 ⟨rfl,hb9⟩;have HB9:=zq (zAa HB8.o hb9);have HW9:=zq (zAa HW8.o hb9)
    have hzb:(zCZ (S.num.natAbs*1) (1*S.den) == 0)=decide (S=1):=by
     rw [Bool.eq_iff_iff,fD,←cmp_one HS0.o];simp
    clear hb9 HCM HB8 HW8;obtain ⟨z,hz⟩:∃ z,z=zCZ (S.num.natAbs*1) (1*S.den):=⟨_,rfl⟩;rw [←hz] at hzb ⊢;obtain ⟨b0,hb0⟩:∃ b0,b0=decide (S=1):=⟨_,rfl⟩;rw [←hb0] at hzb HS2;clear hz hb0 HS0 HSQ HSE;go_wp2;clear hzb k1 hl0
    go_loopg [19,20] l.length (MzR w9 L (fun h=>mayF rs ds i use day th party h) b0 l.length)
    case atStart=>exact ⟨0,b0,rfl,za,rfl,ze,aS _ _⟩
    case round =>
     obtain ⟨j,b,rfl,hjm,rfl,hbe,hb⟩:=hrel;have HJ:=zq hjm;have HBE:=zq hbe;have HBW:=zq hb;clear hjm hbe hb;have HB10:=zq (zAa HB9.o HBW.o);have HW10:=zq (zAa HW9.o HBW.o)
     by_cases hjl:j<l.length
     ·obtain ⟨hj2,_,hpt⟩:=HPQ.o j hjl
      have HTK:Hid ((b0&&(L.take (j+1)).all (fun h=>mayF rs ds i use day th party h))=(b&&mayF rs ds i use day th party L[j])):=by
       show _=_
       rw [HBE.o,bM hj2,dS];simp [Bool.and_assoc]
      rw [←hpt] at HTK;obtain ⟨bl,ol,hA,hcl⟩:=HRD.o za;subst hA;have hrg:=ho_at hcl hjl;have c0:wr.cell? ⟨bl,ol+j*4,none⟩=some (.string (l[j]).pt):=zAg HW10.o (hrg 0 _ rfl);clear hrg hcl hpt;obtain ⟨pt,hpt⟩:∃ pt,pt=(l[j]).pt:=⟨_,rfl⟩;rw [←hpt] at c0 HTK;clear hpt
      cases b with
      | false =>
       have HN:Hid (false=(b0&&(L.take (j+1)).all (fun h=>mayF rs ds i use day th party h))):=by show _=_;rw [HTK.o];rfl
       clear c0;go_wp2
       go_quiet (fail)
       go_wp2
       go_roundg (gk - 1)
       case measure=>have:=HJ.o;omega
       case rel=>exact ⟨j+1,false,rfl,yb,zi,HN.o,zAd HBW.o _⟩
      | true =>
       have HXR:=zq (HX6.o.below HW10.o);have HYR:=zq (HY6.o.below HW10.o)
       have HVQ:Hid (∀ d' os,Calls Tryz.prog 58 #[.agg (tiC RA rc rs UA uc us DA dc ds),.string th,.string party,.string pt,.agg (whrC pl use day),.int .i64 (ds.length:Int)] (Sort.grow (redrawn wr d') os) (zAe (.bool (mayF rs ds i use day th party pt)) (Sort.grow (redrawn wr d') os))):=fun d' os =>
        HMU.o pt _ (zAa HB10.o (below_regrown wr d' os))
       have HLD:Hid (∀ W',(∃ p:Regrown,W'=Sort.grow (redrawn wr p.d) p.os)→W'.rangeAt w.heap.size 0 (tiC RA rc rs UA uc us DA dc ds).toList):=fun W' ⟨p,e⟩ i u hu=>by
        rw [e];exact cell_regrown (zBZ HXR.o i u hu) p.d p.os
       have c0':=fun d' os=>cell_regrown c0 d' os
       have x2:=fun d' os=>cell_regrown (HXR.o.c 2 rfl) d' os
       have y0:=fun d' os=>cell_regrown (HYR.o.c 0 rfl) d' os
       have y1:=fun d' os=>cell_regrown (HYR.o.c 1 rfl) d' os
       have y2:=fun d' os=>cell_regrown (HYR.o.c 2 rfl) d' os
       clear c0;generalize mayF rs ds i use day th party pt=vb at *;go_upto_region 17 with fail
       refine wp_region_quiet_below zc zc ?_
       iterate 2 (quiet_step (fail))
       refine quiet_load_ti zc _ zk w.heap.size 0 zk (tiC RA rc rs UA uc us DA dc ds) rfl HLD.o ?_
       repeat (quiet_step (with_reducible exact Calls.regrown_of (HVQ.o _ _)))
       refine wpQuiet_nil ?_
       intro _ hw';obtain ⟨⟨dq,osq⟩,hw''⟩:=hw';subst hw'';have HBQ:=zq (zAa HBW.o (below_regrown wr dq osq));have HN:Hid (vb=(b0&&(L.take (j+1)).all (fun h=>mayF rs ds i use day th party h))):=by show _=_;rw [HTK.o,Bool.true_and]
       clear c0' x2 y0 y1 y2 HLD HVQ HXR HYR HB10 HW10 HBW;generalize Sort.grow (redrawn wr dq) osq=wq at *;go_wp2
       go_roundg (gk - 1)
       case measure=>have:=HJ.o;omega
       case rel=>exact ⟨j+1,vb,rfl,yb,zi,HN.o,HBQ.o⟩
     ·have hte:L.take j=L:=cY (by have:=HLL.o;omega)
      have HS3:Hid (res=(b,0)):=by show _=_;rw [HS2.o,HBE.o,hte]
      clear hte;go_wp2;go_ret2
      exact zAe.mk yy HB10.o
abbrev encV:Value→List Value:=fun v=>[v]
theorem elSets:ElemT Tryz.prog 109 113 (.slice none 0 0) 1 24:=⟨Tryz.underlying109,zc,rfl,zd⟩
def SlA (w:World) (B:Option Addr) (aa:List (List Ar)):Prop :=
 ∃ b o:Nat,B=some ⟨b,o,none⟩∧b<w.heap.size∧∀ i (h:i<aa.length),∃ Ai ci,w.cell? ⟨b,o+i,none⟩=some (.slice Ai (aa[i]).length ci)∧Ars w Ai aa[i]
theorem SlA.below {w w':World} {B:Option Addr} {aa:List (List Ar)} (h:SlA w B aa) (hb:Below w.heap.size w w'):SlA w' B aa:=by
 obtain ⟨b,o,rfl,hlt,hc⟩:=h;refine ⟨b,o,rfl,dL hlt hb.size,fun i hi=>?_⟩
 obtain ⟨Ai,ci,h1,h2⟩:=hc i hi;exact ⟨Ai,ci,(hb.cell hlt).trans h1,h2.below hb⟩
def SetsOf (w:World) (l:List Rg) (aa:List (List Ar)) (vs:List Value):Prop :=
 ∀ (i:Nat) (v:Value),vs[i]?=some v→∃ a,aa[i]?=some a∧∃ gi ci,v = .slice (some ⟨gi,0,none⟩) (inL l a).length ci∧w.heap[gi]?=some (.cells (bArr (inL l a) (inL l a).length) 4 (0,0))
theorem SetsOf.keep {w w':World} {l:List Rg} {aa:List (List Ar)} {vs:List Value} (h:SetsOf w l aa vs) (hk:∀ (g:Nat) (cs:Array Value),w.heap[g]?=some (.cells cs 4 (0,0))→w'.heap[g]?=w.heap[g]?):SetsOf w' l aa vs:=fun i v hv=>by
 obtain ⟨a,ha,gi,ci,h1,h2⟩:=h i v hv;exact ⟨a,ha,gi,ci,h1,(hk _ _ h2).trans h2⟩
theorem SetsOf.below {w w':World} {l:List Rg} {aa:List (List Ar)} {vs:List Value} (h:SetsOf w l aa vs) (hb:Below w.heap.size w w'):SetsOf w' l aa vs :=
 h.keep fun _ _ hg=>hb.block _ (zAi hg)
theorem SetsOf.push {w:World} {l:List Rg} {aa:List (List Ar)} {vs:List Value} (h:SetsOf w l aa vs) {a:List Ar} {gi ci:Nat} (ha:aa[vs.length]?=some a) (hg:w.heap[gi]?=some (.cells (bArr (inL l a) (inL l a).length) 4 (0,0))) :
  SetsOf w l aa (vs++[.slice (some ⟨gi,0,none⟩) (inL l a).length ci]):=fun i v hv=>by
 rcases Nat.lt_trichotomy i vs.length with h1 | h1 | h1
 ·rw [List.getElem?_append_left h1] at hv
  exact h i v hv
 ·subst h1
  simp at hv
  exact ⟨a,ha,gi,ci,hv.symm,hg⟩
 ·rw [List.getElem?_append_right za,List.getElem?_eq_none zg] at hv
  cases hv
theorem six_cells {w:World} {s:Nat} {a0 a1 a2 a3 a4 a5:Value} {T:TypeId} (h:w.heap[s]?=some (.cells #[a0,a1,a2,a3,a4,a5] T (0,0))) :
  w.cell? ⟨s,0,none⟩=some a0∧w.cell? ⟨s,1,none⟩=some a1∧w.cell? ⟨s,2,none⟩=some a2∧w.cell? ⟨s,3,none⟩=some a3∧w.cell? ⟨s,4,none⟩=some a4∧w.cell? ⟨s,5,none⟩=some a5 :=
 ⟨by rw [aR w _ 0 _ _ _ h];rfl,by rw [aR w _ 1 _ _ _ h];rfl,by rw [aR w _ 2 _ _ _ h];rfl,by rw [aR w _ 3 _ _ _ h];rfl,by rw [aR w _ 4 _ _ _ h];rfl,by rw [aR w _ 5 _ _ _ h];rfl⟩
theorem six_free {w:World} {s:Nat} {cs:Array Value} {T:TypeId} (h:w.heap[s]?=some (.cells cs T (0,0))) :
  w.frozen? ⟨s,0,none⟩=false∧w.frozen? ⟨s,1,none⟩=false∧w.frozen? ⟨s,2,none⟩=false∧w.frozen? ⟨s,3,none⟩=false∧w.frozen? ⟨s,4,none⟩=false∧w.frozen? ⟨s,5,none⟩=false :=
 ⟨cO w _ 0 _ _ h,cO w _ 1 _ _ h,cO w _ 2 _ _ h,cO w _ 3 _ _ h,cO w _ 4 _ _ h,cO w _ 5 _ _ h⟩
theorem below6 {B:Nat} {w w':World} {s:Nat} (h:Below B w w') (hs:B≤s) (b0 b1 b2 b3 b4 b5:Value):Below B w ((((((w'.setCell ⟨s,0,none⟩ b0).setCell ⟨s,1,none⟩ b1).setCell ⟨s,2,none⟩ b2).setCell ⟨s,3,none⟩ b3).setCell ⟨s,4,none⟩ b4).setCell ⟨s,5,none⟩ b5) :=
 (((((h.setCell (p:=⟨s,0,none⟩) hs _).setCell (p:=⟨s,1,none⟩) hs _).setCell (p:=⟨s,2,none⟩) hs _).setCell (p:=⟨s,3,none⟩) hs _).setCell (p:=⟨s,4,none⟩) hs _).setCell (p:=⟨s,5,none⟩) hs _
theorem z6 {j:Nat} {v:Value} (h:(#[zAp,.map none,zAp,.map none,zAp,zAp]:Array Value)[j]?=some v):v=zAp∨v = .map none:=by
 match j,h with
 | 0,h=>simp at h;exact .inl h.symm
 | 1,h=>simp at h;exact .inr h.symm
 | 2,h=>simp at h;exact .inl h.symm
 | 3,h=>simp at h;exact .inr h.symm
 | 4,h=>simp at h;exact .inl h.symm
 | 5,h=>simp at h;exact .inl h.symm
 | j+6,h=>rw [Array.getElem?_eq_none ze] at h;cases h
theorem rd1_set0 {α:Type} {f:α→Value} {w w':World} {A:Option Addr} {L:List α} {s:Nat} {T:TypeId} (h:Rd1 f w A L) (hs:w.heap[s]?=some (.cells #[zAp,.map none,zAp,.map none,zAp,zAp] T (0,0))) (hk:∀ x,x≠s→w'.heap[x]?=w.heap[x]?) (hf:∀ x,f x≠zAp∧f x≠.map none):Rd1 f w' A L:=fun hl=>by
 obtain ⟨b,o,rfl,hc⟩:=h hl;refine ⟨b,o,rfl,fun i hi=>?_⟩
 have hne:b≠s:=fun e=>by
  subst e;have:=hc i hi;rw [aR w b _ _ _ _ hs] at this
  rcases z6 this with h1 | h1
  ·exact (hf _).1 h1
  ·exact (hf _).2 h1
 rw [World.cell?_of_block (hk _ hne)];exact hc i hi
theorem rd2_set0 {α:Type} {f f2:α→Value} {w w':World} {A:Option Addr} {L:List α} {s:Nat} {T:TypeId} (h:Rd2 f f2 w A L) (hs:w.heap[s]?=some (.cells #[zAp,.map none,zAp,.map none,zAp,zAp] T (0,0))) (hk:∀ x,x≠s→w'.heap[x]?=w.heap[x]?) (hf:∀ x,f x≠zAp∧f x≠.map none):Rd2 f f2 w' A L:=fun hl=>by
 obtain ⟨b,o,rfl,hc⟩:=h hl;refine ⟨b,o,rfl,fun i hi=>?_⟩
 have hne:b≠s:=fun e=>by
  subst e;have:=(hc i hi).1;rw [aR w b _ _ _ _ hs] at this
  rcases z6 this with h1 | h1
  ·exact (hf _).1 h1
  ·exact (hf _).2 h1
 rw [World.cell?_of_block (hk _ hne),World.cell?_of_block (hk _ hne)];exact hc i hi
theorem WR.set0 {w w':World} {A:Option Addr} {r1 r2 g1 g2:Nat} {AL:Option Addr} {l:List Rg} {s:Nat} (h:WR w A r1 r2 g1 g2 AL l) (hs:w.heap[s]?=some (.cells #[zAp,.map none,zAp,.map none,zAp,zAp] 108 (0,0))) (hk:∀ x,x≠s→w'.heap[x]?=w.heap[x]?) (hsz:w.heap.size≤w'.heap.size):WR w' A r1 r2 g1 g2 AL l:=by
 obtain ⟨cs,hcs⟩:=h.h3;have hg2:g2≠s:=zAM hcs hs zd;refine ⟨rd2_set0 h.rg hs hk (fun x=>ze),h.m1.keep (hk _ (zAj h.m1 hs).symm),rd1_set0 h.lv hs hk (fun x=>ze),h.m2.keep (hk _ (zAj h.m2 hs).symm),fun i hi=>?_,fun i hi=>?_,dL h.h1 hsz,dL h.h2 hsz,cs,(hk _ hg2).trans hcs⟩
 ·have hne:g1≠s:=fun e=>by
   subst e;have:=h.up i hi;rw [aR w g1 _ _ _ _ hs] at this
   rcases z6 this with h1 | h1<;>simp at h1
  rw [World.cell?_of_block (hk _ hne)];exact h.up i hi
 ·obtain ⟨Ai,ci,h1,h2⟩:=h.bl i hi
  exact ⟨Ai,ci,by rw [World.cell?_of_block (hk _ hg2)];exact h1,rd1_set0 h2 hs hk (fun x=>ze)⟩
theorem size6 (w:World) (s:Nat) (b0 b1 b2 b3 b4 b5:Value):w.heap.size≤((((((w.setCell ⟨s,0,none⟩ b0).setCell ⟨s,1,none⟩ b1).setCell ⟨s,2,none⟩ b2).setCell ⟨s,3,none⟩ b3).setCell ⟨s,4,none⟩ b4).setCell ⟨s,5,none⟩ b5).heap.size:=ze
theorem own_rd {w w':World} {base n c:Nat} {T:TypeId} {O:Option Addr} {vs:List Value} (h:zAT encV 1 w base T (.slice O n c) vs) (hk:∀ g,base≤g→w'.heap[g]?=w.heap[g]?):Rd1 id w' O vs:=by
 obtain ⟨O',c',e,hr⟩:=(own_keepB h fun g h1 _=>hk g h1).rd1
 injection e with e1
 subst e1;exact hr
def zw:Value:=.agg #[zAp,.map none,zAp,.map none,zAp,zAp]
def areasF (l:List Rg) (aa:List (List Ar)):Int:=if zDU l≠0 then zDU l else ((aa.map (zDw l)).find? fun f=>decide (f≠0)).getD 0
def GivesAs (A:Option Addr) (c:Nat) (l:List Rg) (aa:List (List Ar)) (w:World) (e:Ending) (w':World):Prop :=
 Below w.heap.size w w'∧((areasF l aa≠0∧e = .returned (.tuple #[zw,zAp,.int .i64 (areasF l aa)])) ∨
  (zDU l=0∧(∀ i (h:i<aa.length),zDw l aa[i]=0)∧∃ r1 r2 g1 g2 AL cL O co vs,e = .returned (.tuple #[wv A c r1 r2 g1 g2 AL cL l,.slice O aa.length co,.int .i64 0])∧WR w' A r1 r2 g1 g2 AL l ∧
   vs.length=aa.length∧Rd1 id w' O vs∧SetsOf w' l aa vs))
def ArRel (W:World) (l:List Rg) (aa:List (List Ar)) (m:Nat) (out i:Value) (wr:World):Prop :=
 ∃ (k:Nat) (vs:List Value),k+m=aa.length∧i = .int .i64 k∧vs.length=k∧(∀ j (h:j<aa.length),j<k→zDw l aa[j]=0)∧zAT encV 1 wr W.heap.size 113 out vs∧SetsOf wr l aa vs∧Below W.heap.size W wr
theorem areasF_R {l:List Rg} {aa:List (List Ar)} (h:zDU l≠0):areasF l aa=zDU l:=by rw [areasF,aE h]
theorem areasF_A {l:List Rg} {aa:List (List Ar)} (h:zDU l=0) {k:Nat} (hk:k<aa.length) (hpre:∀ j (h:j<aa.length),j<k→zDw l aa[j]=0) (hf:zDw l aa[k]≠0):areasF l aa=zDw l aa[k]:=by
 rw [areasF,aC (by simp [h])]
 have:(aa.map (zDw l)).find? (fun f=>decide (f≠0))=some (zDw l aa[k]):=by
  rw [List.find?_eq_some_iff_getElem];refine ⟨by simpa using hf,k,by simpa using hk,ze,fun j hj=>?_⟩
  simp [hpre j za hj]
 rw [this];rfl
theorem areas_c (A B:Option Addr) (c cb:Nat) (l:List Rg) (aa:List (List Ar)) (w:World) (h:Rgs w A l) (hz:∀ i (h:i<l.length),(l[i]).nm.size≤9223372036854775807) (h2:SlA w B aa) (hn2:aa.length≤2) :
  Calls Tryz.prog 50 #[.slice A l.length c,.slice B aa.length cb] w (GivesAs A c l aa w):=by
 have hwb:Below w.heap.size w (w.alloc (.cells #[zAp,.map none,zAp,.map none,zAp,zAp] 108)):=(aS _ _).alloc (aB _) _;have hblk:=cS w (.cells #[zAp,.map none,zAp,.map none,zAp,zAp] 108);generalize hres:zDU l=res;have HR:=zq hres
 go_enter Tryz.func50,Tryz.ntmps50
 go_wp2_with fail
 refine (CheckRegions_c _ _ _ _ (h.below hwb) hz).mono ?_
 rintro e w1 ⟨rfl,hb1⟩;have hw1:Below w.heap.size w w1:=zAa hwb hb1;have hblk1:w1.heap[w.heap.size]?=some (.cells #[zAp,.map none,zAp,.map none,zAp,zAp] 108 (0,0)):=(hb1.block _ ze).trans hblk;have h1:=h.below hw1;have h21:=h2.below hw1;have HW1:=zq hw1;rw [hres];clear hwb hblk hb1 h h2 hw1
 by_cases hr:res=0
 ·subst hr
  have g:=good_of hres;clear hres
  go_wp2_with fail
  refine (newWorld_c A c l w1 g h1).mono ?_
  rintro e w2 ⟨r1,r2,g1,g2,AL,cL,rfl,hwr2,hb2⟩;unfold wv;have hblk2:w2.heap[w.heap.size]?=some (.cells #[zAp,.map none,zAp,.map none,zAp,zAp] 108 (0,0)):=(hb2.block _ (zAi hblk1)).trans hblk1;have hsl2:=h21.below hb2;have hwb2:Below w.heap.size w w2:=zAa HW1.o hb2;clear hb2 HW1 h1 h21 hblk1;go_wp2;generalize hW:w2.alloc (.cells #[.slice A l.length c,.map (some r1),.slice AL (zCt l (fun i=>!zAL l i) l.length).length cL,.map (some r2),.slice (some ⟨g1,0,none⟩) l.length l.length,.slice (some ⟨g2,0,none⟩) l.length l.length] 108)=W
  have hWr:=cS w2 (.cells #[.slice A l.length c,.map (some r1),.slice AL (zCt l (fun i=>!zAL l i) l.length).length cL,.map (some r2),.slice (some ⟨g1,0,none⟩) l.length l.length,.slice (some ⟨g2,0,none⟩) l.length l.length] 108)
  have hWb:Below w2.heap.size w2 W:=qf;rw [hW] at hWr;have hw2W:w2.heap.size<W.heap.size:=zAi hWr;have hblkW:W.heap[w.heap.size]?=some (.cells #[zAp,.map none,zAp,.map none,zAp,zAp] 108 (0,0)):=(hWb.block _ (zAi hblk2)).trans hblk2;have hwW:w.heap.size<W.heap.size:=zAi hblkW;obtain ⟨s8,hs8⟩:∃ s8,s8=w2.heap.size:=⟨_,rfl⟩;rw [←hs8] at hWr hw2W ⊢;have HWR:=zq (hwr2.below hWb);have HSL:=zq (hsl2.below hWb);have HWb:=zq (hwb2.trans (hWb.mono hwb2.size));have HWr:=zq hWr;have HBk:=zq hblkW;clear hW hWr hWb hblkW hblk2 hwr2 hsl2 hwb2 hs8;clear w1 w2
  go_loopg [9,23] aa.length (ArRel W l aa)
  case atStart=>exact ⟨0,[],za,rfl,rfl,fun j _ hj=>absurd hj za,zAT.nil _ _ _ _ _,fun i v hv=>by simp at hv,aS _ _⟩
  case round =>
   obtain ⟨k,vs,hk,rfl,hvs,hpre,hown,hsets,hbel⟩:=hrel;have HK:=zq hk;have HP:=zq hpre;have HB:=zq hbel;have HV:=zq hvs;have hk1:k≤aa.length:=za;have hs8r:s8<wr.heap.size:=dL hw2W hbel.size;have hwr:w.heap.size<wr.heap.size:=dL hwW hbel.size;have hrow:wr.heap[s8]?=_:=(hbel.block _ hw2W).trans HWr.o;have hs0:wr.cell? ⟨s8,0,none⟩=some (.slice A l.length c):=by rw [aR _ s8 0 _ _ _ hrow];rfl
   have hs1:wr.cell? ⟨s8,1,none⟩=some (.map (some r1)):=by rw [aR _ s8 1 _ _ _ hrow];rfl
   have hs2:wr.cell? ⟨s8,2,none⟩=some (.slice AL (zCt l (fun i=>!zAL l i) l.length).length cL):=by rw [aR _ s8 2 _ _ _ hrow];rfl
   have hs3:wr.cell? ⟨s8,3,none⟩=some (.map (some r2)):=by rw [aR _ s8 3 _ _ _ hrow];rfl
   have hs4:wr.cell? ⟨s8,4,none⟩=some (.slice (some ⟨g1,0,none⟩) l.length l.length):=by rw [aR _ s8 4 _ _ _ hrow];rfl
   have hs5:wr.cell? ⟨s8,5,none⟩=some (.slice (some ⟨g2,0,none⟩) l.length l.length):=by rw [aR _ s8 5 _ _ _ hrow];rfl
   have HRow:=zq hrow;clear hk hpre hbel hvs hrow
   by_cases hlt:k<aa.length
   ·obtain ⟨b,o,rfl,hb,hc⟩:=HSL.o.below HB.o
    obtain ⟨Ai,ci,hci,hai⟩:=hc k hlt;have hwrr:=HWR.o.below HB.o;clear hc;generalize hak:zDw l aa[k]=fk;have HAK:=zq hak
    go_wp2_with fail
    refine (checkArea_c A Ai c r1 r2 g1 g2 AL cL ci l aa[k] wr g hwrr hai).mono ?_
    rintro e w3 ⟨rfl,hb3⟩;rw [hak]
    by_cases hf:fk=0
    ·subst hf
     have ga:=goodA_of hak;have hrow3:w3.heap[s8]?=_:=(hb3.block _ hs8r).trans HRow.o;obtain ⟨hs0',hs1',hs2',hs3',hs4',hs5'⟩:=six_cells hrow3;have hs8':s8<w3.heap.size:=zAi hrow3;have hwr3:=hwrr.below hb3;have hai3:=hai.below hb3;have hown3:=hown.below hb3;have hsets3:=hsets.below hb3;have hbel3:Below W.heap.size W w3:=zAa HB.o hb3;clear hs0 hs1 hs2 hs3 hs4 hs5 hrow3 hb3 hwrr hai hown hsets hak hci hb hwr
     go_wp2_with fail
     refine (in_c A Ai c r1 r2 g1 g2 AL cL ci l aa[k] w3 g ga hwr3 hai3).mono ?_
     rintro e w4 ⟨gi,cgi,rfl,hgi,hb4⟩;have hown4:=hown3.below hb4;have hsets4:=hsets3.below hb4;have hbel4:Below W.heap.size W w4:=zAa hbel3 hb4;have hWle:W.heap.size≤w4.heap.size:=hbel4.size;clear hown3 hsets3 hbel3 hb4 hs0' hs1' hs2' hs3' hs4' hs5' hwr3 hai3 hs8';have hvl:vs.length+1≤2:=by have:=HV.o;omega
     have HSP:=zq (SetsOf.push (ci:=cgi) hsets4 (a:=aa[k]) (gi:=gi) (by rw [HV.o];simp [hlt]) hgi)
     go_wp2_with (at_builtin;refine zBB _ _ _ elSets rfl rfl W.heap.size _ vs rfl (hown4.alloc _) w4.heap.size 1 (.slice (some ⟨gi,0,none⟩) (inL l aa[k]).length cgi) rfl (cS _ _) rfl zy zm za zg ?_;intro v5 w5 hown5 hg5 hb5)
     have hkeep:∀ (g:Nat) (cs:Array Value),w4.heap[g]?=some (.cells cs 4 (0,0))→w5.heap[g]?=w4.heap[g]?:=fun g cs hg =>
      (hg5.block _ (zAi (zBt hg)) fun e2=>by
       obtain ⟨_,cs',hcs⟩:=zBA hown4 e2.symm;exact zAM hg hcs zd rfl).trans ((zBt hg).trans hg.symm)
     have HO5:=zq hown5;have HS5:=zq (HSP.o.keep hkeep);have HB5:=zq ((hbel4.alloc hWle _).trans hb5);clear hown4 hsets4 hbel4 hown5 hg5 hb5 hkeep hgi HSP;go_wp2
     go_roundg (gk - 1)
     case measure=>have:=HK.o;omega
     case rel =>
      refine ⟨k+1,_,zh,zi,by simp [HV.o],fun j hj hjk=>?_,HO5.o,HS5.o,HB5.o⟩
      rcases aU j k with h1 | h1
      ·exact HP.o j hj h1
      ·obtain rfl:j=k:=by omega
       exact HAK.o
    ·have hfb:(fk != 0)=true:=by simpa using hf
     have hblk3:w3.heap[w.heap.size]?=_:=(hb3.block _ hwr).trans ((HB.o.block _ hwW).trans HBk.o);obtain ⟨hd0,hd1,hd2,hd3,hd4,hd5⟩:=six_cells hblk3;obtain ⟨hf0,hf1,hf2,hf3,hf4,hf5⟩:=six_free hblk3;have ha:areasF l aa=fk:=by rw [areasF_A HR.o hlt HP.o (by rw [hak];exact hf)];exact hak
     have HA:=zq ha;have HB3:=zq (HWb.o.trans ((zAa HB.o hb3).mono (bP hwW)));clear hblk3 hs0 hs1 hs2 hs3 hs4 hs5 hb3 hwrr hai hown hsets hak hci hb hwr ha;go_wp2;refine dY (v:=.tuple #[zw,zAp,.int .i64 fk]) ?_ rfl ?_
     ·simp [results,Tryz.results50,go_sem,zw,hd0,hd1,hd2,hd3,hd4,hd5]
     ·exact ⟨below6 HB3.o (aB _) _ _ _ _ _ _,.inl ⟨by rw [HA.o];exact hf,by rw [HA.o]⟩⟩
   ·have hke:k=aa.length:=by omega
    have HKE:=zq hke;have hblk3:wr.heap[w.heap.size]?=_:=(HB.o.block _ hwW).trans HBk.o;obtain ⟨hd0,hd1,hd2,hd3,hd4,hd5⟩:=six_cells hblk3;obtain ⟨hf0,hf1,hf2,hf3,hf4,hf5⟩:=six_free hblk3;have HO:=zq hown;have HS:=zq hsets;have HB3:=zq (HWb.o.trans (HB.o.mono (bP hwW)));obtain ⟨O,co,rfl,hrd⟩:=hown.rd1;have HD:=zq hrd;have HBL:=zq hblk3;clear hblk3 hown hsets hke hrd;go_wp2;refine dY (v:=.tuple #[wv A c r1 r2 g1 g2 AL cL l,.slice O aa.length co,.int .i64 0]) ?_ rfl ?_
    ·have e:vs.length=aa.length:=by rw [HV.o,HKE.o]
     simp [results,Tryz.results50,go_sem,wv,hd0,hd1,hd2,hd3,hd4,hd5,e]
    ·refine ⟨below6 HB3.o (aB _) _ _ _ _ _ _,.inr ⟨HR.o,fun i hi=>HP.o i hi (by rw [HKE.o];exact hi),r1,r2,g1,g2,AL,cL,O,co,vs,rfl,?_,by rw [HV.o,HKE.o],?_,?_⟩⟩
     ·exact (HWR.o.below HB.o).set0 HBL.o (setCells6 _ _ _ _ _ _) (size6 _ _ _ _ _ _ _ _)
     ·exact own_rd HO.o fun g hg=>setCells6 _ _ _ _ _ _ _ (Nat.ne_of_gt (dL hwW hg))
     ·exact HS.o.keep fun g cs hg=>setCells6 _ _ _ _ _ _ _ (fun e=>by rw [e,HBL.o] at hg;injection hg with hg;injection hg with _ hg;exact absurd hg zd)
 ·have hrb:(res != 0)=true:=by simpa using hr
  have hd0:w1.cell? ⟨w.heap.size,0,none⟩=some zAp:=by rw [aR w1 _ 0 _ _ _ hblk1];rfl
  have hd1:w1.cell? ⟨w.heap.size,1,none⟩=some (.map none):=by rw [aR w1 _ 1 _ _ _ hblk1];rfl
  have hd2:w1.cell? ⟨w.heap.size,2,none⟩=some zAp:=by rw [aR w1 _ 2 _ _ _ hblk1];rfl
  have hd3:w1.cell? ⟨w.heap.size,3,none⟩=some (.map none):=by rw [aR w1 _ 3 _ _ _ hblk1];rfl
  have hd4:w1.cell? ⟨w.heap.size,4,none⟩=some zAp:=by rw [aR w1 _ 4 _ _ _ hblk1];rfl
  have hd5:w1.cell? ⟨w.heap.size,5,none⟩=some zAp:=by rw [aR w1 _ 5 _ _ _ hblk1];rfl
  have hf0:=cO w1 _ 0 _ _ hblk1;have hf1:=cO w1 _ 1 _ _ hblk1;have hf2:=cO w1 _ 2 _ _ hblk1;have hf3:=cO w1 _ 3 _ _ hblk1;have hf4:=cO w1 _ 4 _ _ hblk1;have hf5:=cO w1 _ 5 _ _ hblk1;clear hblk1 hres;go_wp2;refine dY (v:=.tuple #[zw,zAp,.int .i64 res]) ?_ rfl ?_
  ·simp [results,Tryz.results50,go_sem,zw,hd0,hd1,hd2,hd3,hd4,hd5]
  ·have ha:areasF l aa=res:=by rw [areasF_R (by rw [HR.o];exact hr)];exact HR.o
   refine ⟨(((((HW1.o.setCell (p:=⟨w.heap.size,0,none⟩) (aB _) _).setCell (p:=⟨w.heap.size,1,none⟩) (aB _) _).setCell (p:=⟨w.heap.size,2,none⟩) (aB _) _).setCell (p:=⟨w.heap.size,3,none⟩) (aB _) _).setCell (p:=⟨w.heap.size,4,none⟩) (aB _) _).setCell (p:=⟨w.heap.size,5,none⟩) (aB _) _,.inl ⟨by rw [ha];exact hr,by rw [ha]⟩⟩
def GivesS2 (r:List BA×Int) (w:World) (e:Ending) (w':World):Prop :=
 ∃ A c,e = .returned (.tuple #[.slice A r.1.length c,.int .i64 r.2])∧Strs w' A r.1∧Below w.heap.size w w'
theorem GivesS2.err {r:List BA×Int} {w w':World} {f:Int} (hr:r=([],f)) (hw:Below w.heap.size w w'):GivesS2 r w (.returned (.tuple #[.slice none 0 0,.int .i64 f])) w':=by
 subst hr;exact ⟨none,0,rfl,Rd1.nil,hw⟩
theorem GivesS2.ok {r:List BA×Int} {l:List BA} {w w':World} {f:Int} {A:Option Addr} {c:Nat} (hr:r=(l,f)) (hl:Strs w' A l) (hw:Below w.heap.size w w'):GivesS2 r w (.returned (.tuple #[.slice A l.length c,.int .i64 f])) w':=by
 subst hr;exact ⟨A,c,rfl,hl,hw⟩
theorem areasF_1 (l:List Rg) (a:List Ar):areasF l [a]=if zDU l≠0 then zDU l else zDw l a:=by
 unfold areasF
 by_cases h:zDU l=0
 ·by_cases h2:zDw l a=0
  ·simp [h,h2]
  ·simp [h,h2]
 ·simp [h]
def lvTo (l:List Rg) (a:List Ar) (k:Nat):List BA:=(((zAG l).take k).filter (lies l a)).map (nmAt l)
theorem lvTo_succ {l:List Rg} {a:List Ar} {k:Nat} (h:k<(zAG l).length):lvTo l a (k+1)=lvTo l a k++if lies l a (zAG l)[k] then [nmAt l (zAG l)[k]] else []:=by
 unfold lvTo;rw [bM h,dW,eQ]
 congr 1
 cases hl:lies l a (zAG l)[k]<;>simp [hl]
theorem lvTo_le (l:List Rg) (a:List Ar) (k:Nat):(lvTo l a k).length≤k:=by
 unfold lvTo;rw [aM];refine dI (dX _ _) ?_
 rw [bN];omega
def LvRel (W:World) (l:List Rg) (a:List Ar) (m:Nat) (out i:Value) (wr:World):Prop :=
 ∃ k:Nat,k+m=(zAG l).length∧i = .int .i64 k∧zAT encS 1 wr W.heap.size 9 out (lvTo l a k)∧Below W.heap.size W wr
theorem Leaves_c (A A2:Option Addr) (c c2:Nat) (l:List Rg) (a:List Ar) (w:World) (h:Rgs w A l) (h2:Ars w A2 a) (hz:∀ i (h:i<l.length),(l[i]).nm.size≤9223372036854775807) :
  Calls Tryz.prog 20 #[.slice A l.length c,.slice A2 a.length c2] w (GivesS2 (leavesS l a) w):=by
 have hwb:Below w.heap.size w (w.alloc (.cells #[.slice A2 a.length c2] 50)):=(aS _ _).alloc (aB _) _
 have hsl:SlA (w.alloc (.cells #[.slice A2 a.length c2] 50)) (some ⟨w.heap.size,0,none⟩) [a] :=
  ⟨w.heap.size,0,rfl,ze,fun i hi=>by
   have:i=0:=by simp at hi;omega
   subst this;exact ⟨A2,c2,by rw [aR _ w.heap.size _ _ _ _ (cS _ _)];rfl,h2.below hwb⟩⟩
 generalize hres:leavesS l a=res;have HR:=zq hres;clear hres
 go_enter Tryz.func20,Tryz.ntmps20
 go_wp2_with fail
 refine (areas_c A (some ⟨w.heap.size,0,none⟩) c 1 l [a] _ (h.below hwb) hz hsl ze).mono ?_
 rintro e w1 ⟨hb1,⟨hf,rfl⟩ | ⟨hr,hc,r1,r2,g1,g2,AL,cL,O,co,vs,rfl,hwr,hvl,hrd,hsets⟩⟩
 ·have hw1:Below w.heap.size w w1:=zAa hwb hb1
  have hrs:res=([],areasF l [a]):=by
   rw [←HR.o,leavesS];rw [areasF_1] at hf ⊢
   by_cases hq:zDU l=0
   ·rw [aC (by simp [hq])] at hf
    simp [hq,hf]
   ·simp [hq]
  have HS:=zq hrs;generalize areasF l [a]=f at *;have hfb:(f != 0)=true:=by simpa using hf
  have HB:=zq (hw1.alloc hw1.size (.cells #[zAp,.map none,zAp,.map none,zAp,zAp] 108));clear hrs hf hb1 hw1 hwb hsl h h2;unfold zw;go_wp2;go_ret2
  exact GivesS2.err HS.o HB.o
 ·have hw1:Below w.heap.size w w1:=zAa hwb hb1
  have g:=good_of hr;have hn:=g.len;have ha0:zDw l a=0:=hc 0 ze
  have hrs:res=(zBC l a,0):=by
   rw [←HR.o,leavesS];simp [hr,ha0]
  have HS:=zq hrs;clear hrs hb1 hwb hsl h h2 hc ha0 hr
  obtain ⟨v0,hv0⟩:∃ v0,vs=[v0]:=by
   match vs,hvl with
   | [v0],_=>exact ⟨v0,rfl⟩
  subst hv0;obtain ⟨a',ha',gi,ci,rfl,hgi⟩:=hsets 0 v0 rfl;have:a'=a:=by simpa using ha'.symm
  subst this;obtain ⟨bo,oo,rfl,hbo,hco⟩:=hrd.at_ ze;have hco0:w1.cell? ⟨bo,oo,none⟩=some (.slice (some ⟨gi,0,none⟩) (inL l a').length ci):=hco 0 ze;clear hco hsets hvl ha' hrd;unfold wv;go_wp2;have hgl:(zCt l (fun i=>!zAL l i) l.length).length=(zAG l).length:=by rw [gath_len l a',inL,aM]
  have hil:(zAG l).length≤200:=dI (leafTo_le l l.length) hn;rw [hgl];have HGL:=zq hgl;clear hgl;generalize hW:w1.alloc (.cells #[.slice A l.length c,.map (some r1),.slice AL (zAG l).length cL,.map (some r2),.slice (some ⟨g1,0,none⟩) l.length l.length,.slice (some ⟨g2,0,none⟩) l.length l.length] 108)=W;have hWb:Below w1.heap.size w1 W:=qf;have HLV:=zq (hwr.lv.below hWb);have hgW:gi<W.heap.size:=dL (zAi hgi) hWb.size;have HGI:=zq ((hWb.block _ (zAi hgi)).trans hgi);have hboW:bo<W.heap.size:=dL hbo hWb.size;have hcoW:=(hWb.cell hbo).trans hco0;have HWb:=zq (zAa hw1 hWb);clear hW hWb hwr hgi hbo hco0 hw1;obtain ⟨s6,hs6⟩:∃ s6,s6=w1.heap.size:=⟨_,rfl⟩;rw [←hs6];clear hs6;clear w1;have hinl:(inL l a').length=(zAG l).length:=by rw [inL,aM]
  rw [hinl] at hcoW;have HIN:=zq hinl;clear hinl
  go_loopg [9,26] (zAG l).length (LvRel W l a')
  case atStart=>exact ⟨0,za,rfl,zAT.nil _ _ _ _ _,aS _ _⟩
  case round =>
   obtain ⟨k,hk,rfl,hown,hbel⟩:=hrel;have HK:=zq hk;have hk1:k≤(zAG l).length:=za;clear hk
   by_cases hlt:k<(zAG l).length
   ·have hltG:k<(zCt l (fun i=>!zAL l i) l.length).length:=by rw [HGL.o];exact hlt
    obtain ⟨b,o,rfl,hb,hc⟩:=HLV.o.at_ za;have hyl:=leafIdx_lt hlt
    have hc0:wr.cell? ⟨b,o+k,none⟩=some (.string (nmAt l (zAG l)[k])):=by
     rw [hbel.cell hb,hc k hltG,gath_get l hltG hlt]
    have hbr:b<wr.heap.size:=dL hb hbel.size;have hcor:=(hbel.cell hboW).trans hcoW;have hbor:bo<wr.heap.size:=dL hboW hbel.size;have hgr:gi<wr.heap.size:=dL hgW hbel.size
    have hcs:wr.cell? ⟨gi,k,none⟩=some (.bool (lies l a' (zAG l)[k])):=by
     rw [hbel.cell hgW,aR _ gi k _ _ _ HGI.o,zDL _ _ (by rw [HIN.o];exact hlt)]
     simp [inL,hlt]
    have hle:=lvTo_le l a' k;have hwr:W.heap.size≤wr.heap.size:=hbel.size;have HSU:=zq (lvTo_succ (a:=a') hlt);clear hc;generalize hx:nmAt l (zAG l)[k]=nm at *
    cases hq:lies l a' (zAG l)[k] with
    | false =>
     rw [hq] at hcs;have HQ:=zq hq;have HO:=zq hown;have HB:=zq hbel;clear hq hown hbel hx;go_wp2
     go_roundg (gk - 1)
     case measure=>have:=HK.o;omega
     case rel=>exact ⟨k+1,zh,zi,by rw [HSU.o,HQ.o];simpa using HO.o,HB.o⟩
    | true =>
     rw [hq] at hcs;have HQ:=zq hq;clear hq hx
     go_wp2_with (at_builtin;refine zBB _ _ _ elStr rfl rfl W.heap.size _ (lvTo l a' k) rfl (hown.alloc _) wr.heap.size 1 nm rfl (cS _ _) rfl zy zm za zg ?_;intro v1 w2 hown2 hg2 hb2)
     have HO:=zq hown2;have HB:=zq ((hbel.alloc hwr _).trans hb2);clear hown hbel hown2 hg2 hb2;go_wp2
     go_roundg (gk - 1)
     case measure=>have:=HK.o;omega
     case rel=>exact ⟨k+1,zh,zi,by rw [HSU.o,HQ.o];simpa using HO.o,HB.o⟩
   ·have hke:k=(zAG l).length:=by omega
    have e:lvTo l a' k=zBC l a':=by rw [hke,lvTo,bX];rfl
    rw [e] at hown;obtain ⟨A',c',rfl,hrd⟩:=hown.rd1;have HB:=zq (zAa HWb.o hbel);have HD:=zq hrd;clear e hown hrd hbel hke;go_wp2;go_ret2
    exact GivesS2.ok HS.o HD.o HB.o
def sa:BA:=⟨#[97]⟩
theorem leaves_awake:leavesS [⟨sa,emp⟩] [⟨sa,false⟩]=([sa],0):=qi
theorem awake_c (w:World):Calls Tryz.prog 10 #[] w (zAe (.bool true) w):=by
 have hb1:Below w.heap.size w (w.alloc (.cells #[.string ⟨#[97]⟩,.string ⟨#[]⟩] 72)):=(aS _ _).alloc (aB _) _;have hb2:Below w.heap.size w ((w.alloc (.cells #[.string ⟨#[97]⟩,.string ⟨#[]⟩] 72)).alloc (.cells #[.string ⟨#[97]⟩,.bool false] 74)):=hb1.alloc hb1.size _
 have hr:Rgs ((w.alloc (.cells #[.string ⟨#[97]⟩,.string ⟨#[]⟩] 72)).alloc (.cells #[.string ⟨#[97]⟩,.bool false] 74)) (some ⟨w.heap.size,0,none⟩) [⟨sa,emp⟩]:=fun _ =>
  ⟨w.heap.size,0,rfl,fun i hi=>by
   have:i=0:=by simp at hi;omega
   subst this
   constructor
   ·rw [aR _ w.heap.size _ _ _ _ (zBt (cS _ _))];rfl
   ·rw [aR _ w.heap.size _ _ _ _ (zBt (cS _ _))];rfl⟩
 have ha:Ars ((w.alloc (.cells #[.string ⟨#[97]⟩,.string ⟨#[]⟩] 72)).alloc (.cells #[.string ⟨#[97]⟩,.bool false] 74)) (some ⟨w.heap.size+1,0,none⟩) [⟨sa,false⟩]:=fun _ =>
  ⟨w.heap.size+1,0,rfl,fun i hi=>by
   have:i=0:=by simp at hi;omega
   subst this;have hn:=cS (w.alloc (.cells #[.string ⟨#[97]⟩,.string ⟨#[]⟩] 72)) (.cells #[.string ⟨#[97]⟩,.bool false] 74);rw [show (w.alloc (.cells #[.string ⟨#[97]⟩,.string ⟨#[]⟩] 72)).heap.size=w.heap.size+1 by simp] at hn
   constructor
   ·rw [aR _ (w.heap.size+1) _ _ _ _ hn];rfl
   ·rw [aR _ (w.heap.size+1) _ _ _ _ hn];rfl⟩
 have hl:=Leaves_c (some ⟨w.heap.size,0,none⟩) (some ⟨w.heap.size+1,0,none⟩) 1 1 [⟨sa,emp⟩] [⟨sa,false⟩] _ hr ha (fun i hi=>by
  have:i=0:=by simp at hi;omega
  subst this
  show (sa.size:Nat)≤9223372036854775807
  decide)
 rw [leaves_awake] at hl
 go_enter Tryz.func10,Tryz.ntmps10
 go_wp2_with fail
 refine hl.mono ?_
 rintro e w1 ⟨A1,c1,rfl,hx,hb⟩;have HB:=zq (hb2.trans (hb.mono hb2.size));obtain ⟨b,o,rfl,hbl,hc⟩:=hx.at_ ze;have hc0:w1.cell? ⟨b,o,none⟩=some (.string ⟨#[97]⟩):=hc 0 ze;clear hl hr ha hb1 hb2 hb hx hc;go_wp2;go_ret
 exact zAe.mk rfl HB.o
end Go.Proofs.YtieoifkdobcpiaaGreatDoor
