/- The law RightSharesAddUp as one call. -/
import Derived.Test.YtieoifkdobcpiaaGreatDoorSa41
import Derived.Test.YtieoifkdobcpiaaGreatDoorSa43
set_option maxRecDepth 100000
set_option maxHeartbeats 8000000
namespace Go.Proofs.YtieoifkdobcpiaaGreatDoor
open Go.RowKit Dw
structure SuT (W0:World) (q:Rat) (A:Option Addr) (c:Nat) (A2:Option Addr) (c2:Nat) (q2:Rat) (A3:Option Addr) (c3:Nat) (A4:Option Addr) (c4:Nat) (W:World):Prop where
 bel:Below W0.heap.size W0 W
 s:Bx W W0.heap.size (nuC false A c q.num.natAbs A2 c2 q.den) 45
 o:Bx W (W0.heap.size+1) (nuC false A3 c3 q2.num.natAbs A4 c4 q2.den) 45
 s1:Lt W A c q.num.natAbs
 s2:Lt W A2 c2 q.den
 o1:Lt W A3 c3 q2.num.natAbs
 o2:Lt W A4 c4 q2.den
section
variable {W0 W W':World} {q q2 q':Rat} {A A2 A3 A4 A5 A6:Option Addr} {c c2 c3 c4 c5 c6:Nat}
theorem SuT.below (h:SuT W0 q A c A2 c2 q2 A3 c3 A4 c4 W) (hb:Below W.heap.size W W'):SuT W0 q A c A2 c2 q2 A3 c3 A4 c4 W' :=
 ⟨zAb h.bel hb,h.s.below hb,h.o.below hb,h.s1.below hb,h.s2.below hb,h.o1.below hb,h.o2.below hb⟩
theorem SuT.setS (h:SuT W0 q A c A2 c2 q2 A3 c3 A4 c4 W) (h1:Lt W A5 c5 q'.num.natAbs) (h2:Lt W A6 c6 q'.den) :
  SuT W0 q' A5 c5 A6 c6 q2 A3 c3 A4 c4 (((W.setCell ⟨W0.heap.size,0,none⟩ (.bool false)).setCell ⟨W0.heap.size,1,none⟩ (.slice A5 (zAc BT q'.num.natAbs).length c5)).setCell ⟨W0.heap.size,2,none⟩ (.slice A6 (zAc BT q'.den).length c6)) :=
 ⟨((h.bel.setCell (Nat.le_refl _) _).setCell (Nat.le_refl _) _).setCell (Nat.le_refl _) _,((h.s.set 0 _).set 1 _).set 2 _,((h.o.far (Nat.succ_ne_self _) _).far (Nat.succ_ne_self _) _).far (Nat.succ_ne_self _) _,
  h1.setN h.s zd zd zd _ _ _ _ _ _ _,h2.setN h.s zd zd zd _ _ _ _ _ _ _,h.o1.setN h.s zd zd zd _ _ _ _ _ _ _,h.o2.setN h.s zd zd zd _ _ _ _ _ _ _⟩
theorem SuT.setO (h:SuT W0 q A c A2 c2 q2 A3 c3 A4 c4 W) (h1:Lt W A5 c5 q'.num.natAbs) (h2:Lt W A6 c6 q'.den) :
  SuT W0 q A c A2 c2 q' A5 c5 A6 c6 (((W.setCell ⟨W0.heap.size+1,0,none⟩ (.bool false)).setCell ⟨W0.heap.size+1,1,none⟩ (.slice A5 (zAc BT q'.num.natAbs).length c5)).setCell ⟨W0.heap.size+1,2,none⟩ (.slice A6 (zAc BT q'.den).length c6)) :=
 ⟨((h.bel.setCell (Nat.le_succ _) _).setCell (Nat.le_succ _) _).setCell (Nat.le_succ _) _,((h.s.far (Nat.succ_ne_self _).symm _).far (Nat.succ_ne_self _).symm _).far (Nat.succ_ne_self _).symm _,((h.o.set 0 _).set 1 _).set 2 _,
  h.s1.setN h.o zd zd zd _ _ _ _ _ _ _,h.s2.setN h.o zd zd zd _ _ _ _ _ _ _,h1.setN h.o zd zd zd _ _ _ _ _ _ _,h2.setN h.o zd zd zd _ _ _ _ _ _ _⟩
theorem SuT.start (n1:Lt W0 A c 0) (n2:Lt W0 A2 c2 1) (n3:Lt W0 A3 c3 0) (n4:Lt W0 A4 c4 1) :
  SuT W0 0 A c A2 c2 0 A3 c3 A4 c4 ((W0.alloc (.cells (nuC false A c 0 A2 c2 1) 45)).alloc (.cells (nuC false A3 c3 0 A4 c4 1) 45)) :=
 ⟨((Below.refl _ _).alloc (Nat.le_refl _) _).alloc zd _,(Bx.new _ _ _).alloc _,Bx.new1 _ _ _ _,(n1.alloc _).alloc _,(n2.alloc _).alloc _,(n3.alloc _).alloc _,(n4.alloc _).alloc _⟩
end
structure LsOk (rl:List Sh) (Q:Nat→Rat) (tot:Rat):Prop where
 rat:∀ i (h:i<rl.length),zCN (rl[i]).nu (rl[i]).de=0∧posB (rl[i]).nu=true∧0≤zBL (rl[i]).nu (rl[i]).de∧SzQ 50000000 (zBL (rl[i]).nu (rl[i]).de)
 inc:∀ i (h:i+1<rl.length),slt (rl[i]).pt (rl[i+1]).pt=true
 zero:Q 0=0
 succ:∀ i (h:i<rl.length),Q (i+1)=Q i+zBL (rl[i]).nu (rl[i]).de
 pos:∀ i,0≤Q i∧SzQ 50000000 (Q i)
 last:Q rl.length=tot
 len:rl.length≤1000000
theorem shares_ok {rs:List Rg} {us:List ByteArray} {ds:List De} {th pl use:ByteArray} {day:Int} (h:(zCe rs us ds th pl use day).2=0) :
  zCH rs us ds=0∧∃ Q,LsOk ((zCe rs us ds th pl use day).1.map shO) Q (zBC th day ds):=by
 have hc:zCH rs us ds=0:=Classical.byContradiction fun hn=>by rw [srF_chk hn] at h;exact hn h
 refine ⟨hc,?_⟩
 have hn:zBp th=true:=by
  cases hn:zBp th with
  | true=>rfl
  | false=>rw [srF_nm hc hn] at h;cases h
 have hs:zDn rs us pl use day=0:=Classical.byContradiction fun hx=>by rw [srF_sp hc hn hx] at h;exact hx h
 have hlen:=(zCx hc).2.2;have hk:=keys_len hc ((idx rs pl).getD 0) th use day ds.length (Nat.le_refl _);rw [srF_at hc hn hs] at h ⊢;obtain ⟨M,hb,hM⟩:=zCT hc ((idx rs pl).getD 0) th use day ds.length (Nat.le_refl _);obtain ⟨k1,k2,k3⟩:=parts_sum hc ((idx rs pl).getD 0) th use day ds.length;have hlq:=longF_parts hc ((idx rs pl).getD 0) th use day ds.length (Nat.le_refl _);have hps:=parts_sz hc ((idx rs pl).getD 0) th use day ds.length (Nat.le_refl _)
 cases hl:zCp rs ds ((idx rs pl).getD 0) th use day ds.length with
 | true=>rw [hl,if_pos rfl] at h;cases h
 | false =>
  have hlq:=hlq hl;rw [if_neg zd];generalize zCd rs ds ((idx rs pl).getD 0) th use day ds.length=K at *;generalize zAI rs ds ((idx rs pl).getD 0) th use day ds.length=f at *
  have hM2:M<10 ^ 10000000:=by
   obtain ⟨a,ha⟩:∃ a,a=10000000:=⟨_,rfl⟩;rw [←ha];exact Nat.lt_of_lt_of_le hM (Nat.pow_le_pow_right za za)
  have hL:=holL_inc (f:=f) k1;have hsum:zCt (holL K f) f=zBC th day ds:=by rw [sumF_holL,k3]
  have hle:zCt (holL K f) f≤1:=by rw [sumF_holL];exact hb.sum
  have hnz:∀ p∈holL K f,f p≠0:=fun p hp=>(holL_mem k2).1 hp
  have e1:((pairs (holL K f) f).map shO)=(holL K f).map fun p=>shO (p,f p):=by unfold pairs;rw [List.map_map];rfl
  have e2:(holL K f).length≤K.length:=List.length_filter_le _ _
  show ∃ Q,LsOk ((pairs (holL K f) f).map shO) Q _
  rw [e1];generalize holL K f=L at *;refine ⟨fun i=>zCt (L.take i) f,⟨fun i hi=>?_,fun i hi=>?_,rfl,fun i hi=>?_,fun i=>?_,?_,?_⟩⟩
  ·rw [List.length_map] at hi
   rw [List.getElem_map];have hp:=k2.pos (L[i]);have hq:=hnz _ (List.getElem_mem hi)
   show zCN (outQ (f L[i])).1 (outQ (f L[i])).2=0∧posB (outQ (f L[i])).1=true∧0≤zBL (outQ (f L[i])).1 (outQ (f L[i])).2∧SzQ 50000000 (zBL (outQ (f L[i])).1 (outQ (f L[i])).2)
   rw [outQ_back hp];exact ⟨outQ_right (hlq _),outQ_pos hq,hp,(hps _).le zc⟩
  ·rw [List.length_map] at hi
   rw [List.getElem_map,List.getElem_map];exact List.pairwise_iff_getElem.1 hL i (i+1) za hi za
  ·rw [List.length_map] at hi
   rw [List.getElem_map]
   show _=_+zBL (outQ (f L[i])).1 (outQ (f L[i])).2
   rw [outQ_back (k2.pos _)];exact sumF_snoc hi
  ·have:=sums_sz hb hle hM2 i
   exact ⟨this.1,this.2.le zc⟩
  ·show zCt (L.take _) f=_
   rw [List.length_map,List.take_length];exact hsum
  ·rw [List.length_map]
   omega
theorem shares_none {rs:List Rg} {us:List ByteArray} {ds:List De} {th pl use:ByteArray} {day:Int} (h:(zCe rs us ds th pl use day).2≠0):(zCe rs us ds th pl use day).1=[]:=by
 by_cases hc:zCH rs us ds=0
 case neg=>rw [srF_chk hc]
 cases hn:zBp th with
 | false=>rw [srF_nm hc hn]
 | true =>
  by_cases hs:zDn rs us pl use day=0
  case neg=>rw [srF_sp hc hn hs]
  rw [srF_at hc hn hs] at h ⊢
  cases hl:zCp rs ds ((idx rs pl).getD 0) th use day ds.length with
  | true=>rw [if_pos rfl]
  | false=>rw [hl,if_neg zd] at h;exact absurd rfl h
def Su1 (W0:World) (rl:List Sh) (Q:Nat→Rat) (m:Nat) (i:Value) (wr:World):Prop :=
 ∃ A c A2 c2 A3 c3 A4 c4 j,SuT W0 (Q j) A c A2 c2 0 A3 c3 A4 c4 wr∧j+m=rl.length∧i = .int .i64 (j:Nat)
def Su2 (W0:World) (tot:Rat) (th:ByteArray) (day:Int) (ds:List De) (m:Nat) (i:Value) (wr:World):Prop :=
 ∃ A c A2 c2 A3 c3 A4 c4 j,SuT W0 tot A c A2 c2 (zBC th day (ds.take j)) A3 c3 A4 c4 wr∧j+m=ds.length∧i = .int .i64 (j:Nat)
def Su3 (W0:World) (g:Nat) (tot o:Rat) (th:ByteArray) (day:Int) (d:De) (m:Nat) (i:Value) (wr:World):Prop :=
 ∃ A c A2 c2 A3 c3 A4 c4 k,SuT W0 tot A c A2 c2 (o+zBb (d.sh.take k)) A3 c3 A4 c4 wr∧Bx wr g (deC d) 52∧(orgB th day d=false→k=0)∧k+m=d.sh.length∧i = .int .i64 (k:Nat)
theorem lawA_c (RA:Option Addr) (rc:Nat) (rs:List Rg) (UA:Option Addr) (uc:Nat) (us:List ByteArray) (DA:Option Addr) (dc:Nat) (ds:List De) (th pl use:ByteArray) (day:Int) (w:World)
  (hr:Rgs w RA rs) (hu:Strs w UA us) (hd:Des w DA ds) (hz:∀ i (h:i<rs.length),(rs[i]).nm.size≤9223372036854775807) (hz2:∀ i (h:i<us.length),(us[i]).size≤9223372036854775807) (hdc:ds.length≤dc)
  (hth:th.size≤9223372036854775807) :
  Calls Tryz.prog 4 #[.agg (tiC RA rc rs UA uc us DA dc ds),.string th,.string pl,.string use,.int .i64 day] w (zAe (.bool true) w):=by
 have HX:Hid (Bx (w.alloc (.cells (tiC RA rc rs UA uc us DA dc ds) 26)) w.heap.size (tiC RA rc rs UA uc us DA dc ds) 26):=Bx.new _ _ _;have HB:Hid (Below w.heap.size w (w.alloc (.cells (tiC RA rc rs UA uc us DA dc ds) 26))):=(Below.refl _ _).alloc (Nat.le_refl _) _;obtain ⟨W,hW⟩:∃ W,W=w.alloc (.cells (tiC RA rc rs UA uc us DA dc ds) 26):=⟨_,rfl⟩;rw [←hW] at HX HB;have HR:=zq (hr.below HB.o);have HU:=zq (hu.below HB.o);have HD:=zq (hd.below HB.o);clear hr hu hd
 go_enter Tryz.func4,Tryz.ntmps4
 go_upto_region 1 with fail
 rw [←hW];clear hW;have HC:=zq (Shares_c RA rc rs UA uc us DA dc ds th pl use day W HR.o HU.o HD.o hz hz2 hdc hth);have HNO:=zq (@shares_none rs us ds th pl use day);have HYE:=zq (@shares_ok rs us ds th pl use day);obtain ⟨res,hres⟩:∃ res,res=zCe rs us ds th pl use day:=⟨_,rfl⟩;rw [←hres] at HC HNO HYE;clear hres
 iterate 2 go_step
 refine wp_load_mid _ _ zn w.heap.size 0 zn (tiC RA rc rs UA uc us DA dc ds).toList _ (rangeB HX.o) Tryz.underlying26 rfl zb ?_
 go_wp2_with fail
 with_reducible refine HC.o.mono ?_
 rintro e w1 ⟨A1,c1,rfl,hs1,hb1⟩;have HB1:=zq (zAb HB.o hb1);have HX1:=zq (HX.o.below hb1);have HD1:=zq (HD.o.below hb1);have HS1:=zq hs1;clear hb1 hs1 HB HX HC HR HU HD;obtain ⟨ra,rf⟩:=res
 by_cases hf:rf=0
 case neg =>
  have hra:=HNO.o hf;simp only at hra;subst hra;have hfb:(rf != 0)=true:=by simpa using hf
  clear hf HNO HYE HS1;simp only [List.map_nil,List.length_nil]
  go_wp2_with fail
  with_reducible refine (awake_c _).mono ?_
  rintro e w2 ⟨rfl,hb2⟩;have HB2:=zq (zAb HB1.o hb2);clear hb2;go_wp2;go_ret
  exact zAe.mk rfl HB2.o
 subst hf;obtain ⟨hc,Q,hok⟩:=HYE.o rfl;simp only at hok HS1;have HCK:=zq hc;have HOK:=zq hok;have hdl:=(zCx hc).2.2;generalize ra.map shO=rl at *;have hrl:=hok.len;clear hc hok HNO HYE
 go_wp2_with fail
 with_reducible refine (Int_0 _).mono ?_
 rintro e w2 ⟨A2,c2,A3,c3,rfl,n2,n3,hb2⟩;have HB2:=zq (zAb HB1.o hb2);have HX2:=zq (HX1.o.below hb2);have HD2:=zq (HD1.o.below hb2);have HS2:=zq (HS1.o.below hb2);have N2:=zq n2;have N3:=zq n3;clear hb2 n2 n3 HB1 HX1 HD1 HS1
 go_wp2_with fail
 with_reducible refine (Int_0 _).mono ?_
 rintro e w3 ⟨A4,c4,A5,c5,rfl,n4,n5,hb3⟩;have HB3:=zq (zAb HB2.o hb3);have HX3:=zq (HX2.o.below hb3);have HD3:=zq (HD2.o.below hb3);have HS3:=zq (HS2.o.below hb3);have N2':=zq (N2.out.below hb3);have N3':=zq (N3.out.below hb3);have N4:=zq n4;have N5:=zq n5;clear hb3 n4 n5 HB2 HX2 HD2 HS2 N2 N3;go_upto_region 5 with fail
 obtain ⟨wb,hwb⟩:∃ wb,wb=(w3.alloc (.cells #[.bool false,.slice A2 (zAc BT 0).length c2,.slice A3 (zAc BT 1).length c3] 45)).alloc (.cells #[.bool false,.slice A4 (zAc BT 0).length c4,.slice A5 (zAc BT 1).length c5] 45):=⟨_,rfl⟩;have HST:Hid (SuT w3 0 A2 c2 A3 c3 0 A4 c4 A5 c5 wb):=by show SuT _ _ _ _ _ _ _ _ _ _ _ _;rw [hwb];exact SuT.start N2'.out N3'.out N4.out N5.out
 rw [←hwb];clear hwb N2' N3' N4 N5;go_wp2
 go_loopg [15] rl.length (Su1 w3 rl Q)
 case atStart=>exact ⟨A2,c2,A3,c3,A4,c4,A5,c5,0,by rw [HOK.o.zero];exact HST.o,za,rfl⟩
 clear HST
 case round =>
  obtain ⟨B1,d1,B2,d2,B3,d3,B4,d4,j,hst,hjm,rfl⟩:=hrel;have HST:=zq hst;have HJ:=zq hjm;clear hst hjm
  by_cases hlt:j<rl.length
  ·obtain ⟨b,o,hA,hb0,hc0⟩:=HS3.o.at_ za
   subst hA;obtain ⟨hr1,hr2,hr3,hr4⟩:=HOK.o.rat j hlt;have HSC:=zq (HOK.o.succ j hlt);have HPS:=zq (HOK.o.pos j);have c0:=(HST.o.bel.cell (p:=⟨b,o+j*3,none⟩) hb0).trans (hc0 j hlt).1;have c1':=(HST.o.bel.cell (p:=⟨b,o+j*3+1,none⟩) hb0).trans (hc0 j hlt).2.1;have c2':=(HST.o.bel.cell (p:=⟨b,o+j*3+2,none⟩) hb0).trans (hc0 j hlt).2.2
   have HIN:Hid (∀ h:0<j,wr.cell? ⟨b,o+(j - 1)*3,none⟩=some (.string (rl[j - 1]'(by omega)).pt)∧sle (rl[j]).pt (rl[j - 1]'(by omega)).pt=false):=fun h=>by
    refine ⟨(HST.o.bel.cell (p:=⟨b,o+(j - 1)*3,none⟩) hb0).trans (hc0 (j - 1) za).1,sle_false ?_⟩
    have:=HOK.o.inc (j - 1) za
    simpa [show j - 1+1=j by omega] using this
   clear hc0;obtain ⟨s,hs⟩:∃ s,rl[j]=s:=⟨_,rfl⟩;simp only [hs] at HSC c0 c1' c2' HIN hr1 hr2 hr3 hr4;clear hs;obtain ⟨z1,z2,z3,z4,z5⟩:=zBY hr1;have hz1:s.nu.size≤9223372036854775807:=by rw [(negB_no (posB_neg hr2)).2] at z4;omega
   have hz2':s.de.size≤9223372036854775807:=za
   have HCR:Hid (∀ d os,Calls Tryz.prog 15 #[.agg #[.string s.nu,.string s.de]] (Sort.grow (redrawn wr d) os) (zAe (.int .i64 0) (Sort.grow (redrawn wr d) os))):=fun d os=>by
    have:=chkRatioR_c s.nu s.de (Sort.grow (redrawn wr d) os) hz1 hz2';rw [hr1] at this;exact this
   have HOF:Hid (∀ u,Calls Tryz.prog 17 #[.agg #[.string s.nu,.string s.de]] u (GivesNq (zBL s.nu s.de) u)):=fun u=>OfT_c s.nu s.de u hr1 hr2
   have HR3:=zq hr3;have HR4:=zq hr4;have HC1:=zq c1';have HC2:=zq c2';clear z1 z2 z3 z4 z5 hz1 hz2' hr1 hr2 hr3 hr4;have k0:∀ d os,(Sort.grow (redrawn wr d) os).cell? ⟨b,o+j*3,none⟩=some (Value.string s.pt):=fun d os=>cell_regrown c0 d os
   have k1:∀ d os,(Sort.grow (redrawn wr d) os).cell? ⟨b,o+j*3+1,none⟩=some (Value.string s.nu):=fun d os=>cell_regrown c1' d os
   have k2:∀ d os,(Sort.grow (redrawn wr d) os).cell? ⟨b,o+j*3+2,none⟩=some (Value.string s.de):=fun d os=>cell_regrown c2' d os
   clear c0 c1' c2'
   by_cases hj0:0<j
   case' pos =>
    have zp:=fun d os=>cell_regrown (HIN.o hj0).1 d os
    have hle:=(HIN.o hj0).2;unfold sle at hle;have hd:decide ((0:Int)<(j:Int))=true:=ze;have hw0:IntKind.i64.wrap ((j:Int) - 1)=(j:Int) - 1:=IntWalk.i64_in _ za;have hw1:(0:Int)≤(j:Int) - 1:=za;have hw2:(j:Int) - 1<(rl.length:Int):=za;have hw3:((j:Int) - 1).toNat=j - 1:=za;have hw4:(1:Int)≤(j:Int):=za;go_upto_region 8 with fail
    refine wp_region_quiet_below zb zb ?_
    repeat (quiet_step (with_reducible exact Calls.regrown_of (HCR.o _ _)))
    clear hw0 hw1 hw2 hw3 hw4;refine wpQuiet_nil ?_
    intro _ hw';obtain ⟨⟨dq,osq⟩,hw''⟩:=hw';subst hw''
   case' neg =>
    have hd:decide ((0:Int)<(j:Int))=false:=ze;go_upto_region 8 with fail
    refine wp_region_quiet_below zb zb ?_
    iterate 11 (quiet_step (with_reducible exact Calls.regrown_of (HCR.o _ _)))
    iterate 12 (rw [wpQuiet];go_simp)
    repeat (quiet_step (fail))
    refine wpQuiet_nil ?_
    intro ⟨dq,osq⟩
   all_goals
    have HSK:=zq (HST.o.below (below_regrown wr dq osq));have c1':=cell_regrown HC1.o dq osq;have c2':=cell_regrown HC2.o dq osq;clear k0 k1 k2 hd HIN HCR HST HC1 HC2;generalize Sort.grow (redrawn wr dq) osq=wk at *;have s0:=HSK.o.s.cell (i:=0) rfl;have s1:=HSK.o.s.cell (i:=1) rfl;have s2:=HSK.o.s.cell (i:=2) rfl;go_upto_region 10 with fail
    have HSB:Hid (Below wk.heap.size wk wk.drew):=zAd (Below.refl _ _) 1;refine zDd (S:=SL 8 (fun w'=>Below wk.heap.size wk w')) zb (fun _=>HSB.o) ?_
    intro hsh _;refine zAC (i:=1) (v:=?_) rfl zb zb zb (fun _ _ _ h=>h) (SL.iff zc) hsh (Or.inl ⟨zb,?_⟩) (fun _=>HSB.o) ?_
    rotate_left 1
    ·(intro w9 _;go_simp;try with_reducible rfl)
    intro hsh _;simp only [Dw.lay,Act.put] at hsh ⊢;refine zAC (i:=2) (v:=?_) rfl zb zb zb (fun _ _ _ h=>h) (SL.iff zc) hsh (Or.inl ⟨zb,?_⟩) (fun _=>HSB.o) ?_
    rotate_left 1
    ·(intro w9 _;go_simp;try with_reducible rfl)
    intro hsh _;simp only [Dw.lay,Act.put] at hsh ⊢;refine zAC (i:=3) (v:=?_) rfl zb zb zb (fun _ _ _ h=>h) (SL.iff zc) hsh (Or.inl ⟨zb,?_⟩) (fun _=>HSB.o) ?_
    rotate_left 1
    ·(intro w9 _;go_simp;try with_reducible rfl)
    intro hsh _;simp only [Dw.lay,Act.put] at hsh ⊢;refine zAC (i:=4) (v:=?_) rfl zb zb zb (fun _ _ _ h=>h) (SL.iff zc) hsh (Or.inl ⟨zb,?_⟩) (fun _=>HSB.o) ?_
    rotate_left 1
    ·(intro w9 _;go_simp;try with_reducible rfl)
    intro hsh _;simp only [Dw.lay,Act.put] at hsh ⊢;refine zAC (i:=5) (v:=?_) rfl zb zb zb (fun _ _ _ h=>h) (SL.iff zc) hsh (Or.inl ⟨zb,?_⟩) (fun _=>HSB.o) ?_
    rotate_left 1
    ·(intro w9 hw9;have hb9:=SL.ahead (n:=8) zb hw9;have e0:=zAB hb9 c1';have e1:=zAB hb9 c2';go_simp;try with_reducible rfl)
    intro hsh _;simp only [Dw.lay,Act.put] at hsh ⊢;refine zAC (i:=0) (v:=?_) rfl zb zb zb (fun _ _ _ h=>h) (SL.iff zc) hsh (Or.inl ⟨zb,?_⟩) (fun _=>HSB.o) ?_
    rotate_left 1
    ·(intro w9 hw9;have hb9:=SL.ahead (n:=8) zb hw9;have e0:=zAB hb9 s0;have e1:=zAB hb9 s1;have e2:=zAB hb9 s2;go_simp;try with_reducible rfl)
    intro hsh _;simp only [List.getElem_toArray,List.getElem_cons_zero,Act.put,List.setIfInBounds_toArray,List.set_cons_zero,List.set_cons_succ] at hsh ⊢;clear hsh;refine zAl (rs:=[6]) zb zd ?_
    refine zBA.cons rfl (fun K hK=>?_) zBA.nil
    go_simp
    go_at_call 17
    with_reducible refine (HOF.o _).mono ?_
    rintro e v1 ⟨A6,c6,A7,c7,rfl,h6,h7,hb⟩;have HB1:Hid (Below wk.heap.size wk v1):=zAb HSB.o hb;have HS1:=zq (HSK.o.below HB1.o);have H6:=zq h6;have H7:=zq h7;clear hb h6 h7 HOF;refine hK.out _ _ (fun _=>HB1.o) (fun _=>?_)
    clear hK K
    try simp only [Dw.lay,Act.put]
    refine zAl (rs:=[7]) zb zd ?_
    refine zBA.cons rfl (fun K hK=>?_) zBA.nil
    have HPL:Hid (Calls Tryz.prog 16 #[nuV false B1 d1 (Q j).num.natAbs B2 d2 (Q j).den,nuV false A6 c6 (zBL s.nu s.de).num.natAbs A7 c7 (zBL s.nu s.de).den] v1 (GivesNq (Q j+zBL s.nu s.de) v1)) :=
     PlusQ_c B1 B2 A6 A7 d1 d2 c6 c7 (Q j) (zBL s.nu s.de) v1 HS1.o.s1 HS1.o.s2 H6.o H7.o HPS.o.1 HR3.o HPS.o.2 HR4.o
    go_simp
    go_at_call 16
    with_reducible refine HPL.o.mono ?_
    rintro e v2 ⟨A8,c8,A9,c9,rfl,h8,h9,hb⟩;have HB2:Hid (Below wk.heap.size wk v2):=zAb HB1.o hb;have HS2:=zq (HS1.o.below hb);have HS4:=zq (HS2.o.setS h8 h9);clear hb h8 h9 HS1 HPL H6 H7;refine hK.out _ _ (fun _=>HB2.o) (fun _=>?_)
    clear hK K
    try simp only [Dw.lay,Act.put]
    refine zAl (rs:=[8]) zb zd ?_
    refine zBA.cons rfl (fun K hK=>?_) zBA.nil
    have p0:=HS2.o.s.cell (i:=0) rfl;have p1:=HS2.o.s.cell (i:=1) rfl;have p2:=HS2.o.s.cell (i:=2) rfl;have sf:=HS2.o.s.frozen;have sl:=HS2.o.s.lt
    go_simp
    clear p0 p1 p2 sf sl;refine hK.out _ _ (fun h=>absurd h zc) (fun _=>?_)
    clear hK K
    try simp only [Dw.lay,Act.put]
    refine anyL_done zb ?_ _
    go_wp2
    go_roundg (gk - 1)
    case measure=>have:=HJ.o;omega
    case rel=>exact ⟨A8,c8,A9,c9,B3,d3,B4,d4,j+1,by rw [HSC.o];exact HS4.o,by have:=HJ.o;omega,zi⟩
  ·obtain rfl:j=rl.length:=by have:=HJ.o;omega
   have HTB:=zq (HOK.o.pos rl.length);rw [HOK.o.last] at HST HTB;obtain ⟨tot,htot⟩:∃ tot,tot=zBC th day ds:=⟨_,rfl⟩;rw [←htot] at HST HTB;have HTO:=zq htot;clear htot HOK HS3 HJ;go_wp2
   go_loopg [16] ds.length (Su2 w3 tot th day ds)
   case atStart=>exact ⟨B1,d1,B2,d2,B3,d3,B4,d4,0,HST.o,za,rfl⟩
   clear HST
   case round =>
    obtain ⟨D1,e1,D2,e2,D3,e3,D4,e4,i,hst,him,rfl⟩:=hrel;have HST:=zq hst;have HI:=zq him;clear hst him;have HXR:=zq (HX3.o.below HST.o.bel);have t2:=HXR.o.cell (i:=2) rfl;have tl:=HXR.o.lt
    by_cases hlt:i<ds.length
    ·obtain ⟨b,o,hA,hb0,hc0⟩:=HD3.o za
     subst hA;have hrg:wr.rangeAt b (o+i*16) (deC ds[i]).toList:=fun q v hv=>zAB HST.o.bel ((hc0 i hlt).1 q v hv)
     have HSH:=zq (hc0 i hlt).2.shs;have hshl:=(hc0 i hlt).2.lens.2.2;have HOS:=zq (orgSum_succ th day hlt);have HO1:=zq (fun h:orgB th day ds[i]=true=>org_first HCK.o hlt h)
     have HOR:=zq (zBI HCK.o _ (List.getElem_mem hlt)).org;have HSZ:=zq (shs_sz HCK.o (List.getElem_mem hlt));obtain ⟨oi,hoi⟩:∃ oi,oi=zBC th day (ds.take i):=⟨_,rfl⟩;rw [←hoi] at HST HOS HO1;clear hoi;generalize ds[i]=d at *;clear hc0;go_upto_region 14 with fail
     iterate 14 go_step
     refine wp_load_mid _ _ zn b (o+i*16) zn (deC d).toList _ hrg Tryz.underlying52 rfl zb ?_
     clear hrg t2 tl;go_upto_region 15 with fail
     obtain ⟨wd,hwd⟩:∃ wd,wd=wr.alloc (.cells (deC d) 52):=⟨_,rfl⟩;rw [←hwd];have hbd:Below wr.heap.size wr wd:=yj;have HD1:Hid (Bx wd wr.heap.size (deC d) 52):=yk;have HST1:=zq (HST.o.below hbd);have hgd:w3.heap.size+1<wr.heap.size:=HST.o.o.lt;obtain ⟨gd,hgd2⟩:∃ gd,gd=wr.heap.size:=⟨_,rfl⟩;rw [←hgd2] at HD1 hgd ⊢;clear hwd hbd hgd2 HST
     have HZ0:Hid (SuT w3 tot D1 e1 D2 e2 (oi+zBb (d.sh.take 0)) D3 e3 D4 e4 wd):=by
      have e:oi+zBb (d.sh.take 0)=oi:=by
       show oi+(0:Rat)=oi
       grind
      show SuT _ _ _ _ _ _ _ _ _ _ _ _
      rw [e];exact HST1.o
     go_wp2
     go_loopg [18] d.sh.length (Su3 w3 gd tot oi th day d)
     case atStart=>exact ⟨D1,e1,D2,e2,D3,e3,D4,e4,0,HZ0.o,HD1.o,fun _=>rfl,za,rfl⟩
     clear HZ0 HST1
     case round =>
      obtain ⟨F1,f1,F2,f2,F3,f3,F4,f4,k,hst,hbx,hno,hkm,rfl⟩:=hrel;have HSK:=zq hst;have HDK:=zq hbx;have HNK:=zq hno;have HK:=zq hkm;clear hst hbx hno hkm;have d2:=HDK.o.cell (i:=2) rfl;have d3:=HDK.o.cell (i:=3) rfl;have d12:=HDK.o.cell (i:=12) rfl;have y14:wr.cell? ⟨gd,14,none⟩=some (.slice d.shA d.sh.length d.shc):=HDK.o.cell (i:=14) rfl;have hsd:=HDK.o.lt
      have HNO:orgB th day d=false→Hid (SuT w3 tot F1 f1 F2 f2 (zBC th day (ds.take (i+1))) F3 f3 F4 f4 wr):=fun h=>by
       show SuT _ _ _ _ _ _ _ _ _ _ _ _
       rw [HOS.o,if_neg (by rw [h];simp)]
       have:=HSK.o;rw [HNK.o h] at this;exact this
      by_cases hq:d.kd=1
      case neg =>
       have e1:(d.kd == 1)=false:=by simpa using hq
       have HN:=HNO (by unfold orgB;rw [decide_eq_false hq];rfl)
       clear hq HNO;go_wp2
       go_roundg (ds.length - (i+1))
       case measure=>have:=HI.o;omega
       case rel=>exact ⟨F1,f1,F2,f2,F3,f3,F4,f4,i+1,HN.o,by have:=HI.o;omega,zi⟩
      have e1:(d.kd == 1)=true:=by simpa using hq
      by_cases ht:d.th=th
      case neg =>
       have q1:=zBG ht;have HN:=HNO (by unfold orgB;rw [decide_eq_false ht];simp)
       clear hq ht HNO;go_wp2
       go_roundg (ds.length - (i+1))
       case measure=>have:=HI.o;omega
       case rel=>exact ⟨F1,f1,F2,f2,F3,f3,F4,f4,i+1,HN.o,by have:=HI.o;omega,zi⟩
      have q1:=zBW ht
      by_cases hy:d.bg≤day
      case neg =>
       have q2:decide (d.bg≤day)=false:=decide_eq_false hy;have HN:=HNO (by unfold orgB;rw [decide_eq_false hy];simp)
       clear hq ht hy HNO;go_wp2
       go_roundg (ds.length - (i+1))
       case measure=>have:=HI.o;omega
       case rel=>exact ⟨F1,f1,F2,f2,F3,f3,F4,f4,i+1,HN.o,by have:=HI.o;omega,zi⟩
      have q2:decide (d.bg≤day)=true:=decide_eq_true hy;have HOB:Hid (orgB th day d=true):=zCm.2 ⟨hq,ht,hy⟩;have HSO:=zq (HOR.o hq).1;have HSQ:=zq (HSZ.o hq);clear hq ht hy HNO
      by_cases hkl:k<d.sh.length
      ·obtain ⟨b2,o2,hA2,hb2,hc2⟩:=HSH.o.at_ za
       rw [hA2] at y14;clear hA2;have c1':=(HSK.o.bel.cell (p:=⟨b2,o2+k*3+1,none⟩) hb2).trans (hc2 k hkl).2.1;have c2':=(HSK.o.bel.cell (p:=⟨b2,o2+k*3+2,none⟩) hb2).trans (hc2 k hkl).2.2;have hr1:=HSO.o.rat _ (List.getElem_mem hkl);have hr2:=HSO.o.pos _ (List.getElem_mem hkl);have HSN:=zq (shSum_snoc hkl);clear hc2;obtain ⟨s,hs⟩:∃ s,d.sh[k]=s:=⟨_,rfl⟩;simp only [hs] at HSN c1' c2' hr1 hr2;clear hs;have HOV0:oi+zBb (d.sh.take k)=zBb (d.sh.take k):=by rw [HO1.o HOB.o];grind
       obtain ⟨ov,hov⟩:∃ ov,ov=oi+zBb (d.sh.take k):=⟨_,rfl⟩;rw [←hov] at HSK
       have HOV:Hid (0≤ov∧SzQ 50000000 ov):=by
        rw [hov,HOV0];exact ⟨(HSQ.o k).1,(HSQ.o k).2.le zc⟩
       have HSX:Hid (oi+zBb (d.sh.take (k+1))=ov+zBL s.nu s.de):=by
        show _=_
        rw [HSN.o,hov]
        show _=_+shQ s
        grind
       have HR3:Hid (0≤zBL s.nu s.de):=ratQ_pos _ _;have HR4:Hid (SzQ 50000000 (zBL s.nu s.de)):=(ratQ_sz hr1).le zc;have HOF:Hid (∀ u,Calls Tryz.prog 17 #[.agg #[.string s.nu,.string s.de]] u (GivesNq (zBL s.nu s.de) u)):=fun u=>OfT_c s.nu s.de u hr1 hr2
       clear hr1 hr2 hov HOV0 HSN;go_upto_region 18 with fail
       clear d2 d3 d12 e1 q1 q2;have s0:=HSK.o.o.cell (i:=0) rfl;have s1:=HSK.o.o.cell (i:=1) rfl;have s2:=HSK.o.o.cell (i:=2) rfl;have HSB:Hid (Below wr.heap.size wr wr.drew):=zAd (Below.refl _ _) 1;refine zDd (S:=SL 9 (fun w'=>Below wr.heap.size wr w')) zb (fun _=>HSB.o) ?_
       intro hsh _;refine zAC (i:=1) (v:=?_) rfl zb zb zb (fun _ _ _ h=>h) (SL.iff zc) hsh (Or.inl ⟨zb,?_⟩) (fun _=>HSB.o) ?_
       rotate_left 1
       ·(intro w9 _;go_simp;try with_reducible rfl)
       intro hsh _;simp only [Dw.lay,Act.put] at hsh ⊢;refine zAC (i:=2) (v:=?_) rfl zb zb zb (fun _ _ _ h=>h) (SL.iff zc) hsh (Or.inl ⟨zb,?_⟩) (fun _=>HSB.o) ?_
       rotate_left 1
       ·(intro w9 hw9;have hb9:=SL.ahead (n:=9) zb hw9;have e0:=zAB hb9 y14;go_simp;try with_reducible rfl)
       intro hsh _;simp only [Dw.lay,Act.put] at hsh ⊢;refine zAC (i:=3) (v:=?_) rfl zb zb zb (fun _ _ _ h=>h) (SL.iff zc) hsh (Or.inl ⟨zb,?_⟩) (fun _=>HSB.o) ?_
       rotate_left 1
       ·(intro w9 _;go_simp;try with_reducible rfl)
       intro hsh _;simp only [Dw.lay,Act.put] at hsh ⊢;refine zAC (i:=4) (v:=?_) rfl zb zb zb (fun _ _ _ h=>h) (SL.iff zc) hsh (Or.inl ⟨zb,?_⟩) (fun _=>HSB.o) ?_
       rotate_left 1
       ·(intro w9 _;go_simp;try with_reducible rfl)
       intro hsh _;simp only [Dw.lay,Act.put] at hsh ⊢;refine zAC (i:=5) (v:=?_) rfl zb zb zb (fun _ _ _ h=>h) (SL.iff zc) hsh (Or.inl ⟨zb,?_⟩) (fun _=>HSB.o) ?_
       rotate_left 1
       ·(intro w9 _;go_simp;try with_reducible rfl)
       intro hsh _;simp only [Dw.lay,Act.put] at hsh ⊢;refine zAC (i:=6) (v:=?_) rfl zb zb zb (fun _ _ _ h=>h) (SL.iff zc) hsh (Or.inl ⟨zb,?_⟩) (fun _=>HSB.o) ?_
       rotate_left 1
       ·(intro w9 hw9;have hb9:=SL.ahead (n:=9) zb hw9;have e0:=zAB hb9 c1';have e1:=zAB hb9 c2';go_simp;try with_reducible rfl)
       intro hsh _;simp only [Dw.lay,Act.put] at hsh ⊢;refine zAC (i:=0) (v:=?_) rfl zb zb zb (fun _ _ _ h=>h) (SL.iff zc) hsh (Or.inl ⟨zb,?_⟩) (fun _=>HSB.o) ?_
       rotate_left 1
       ·(intro w9 hw9;have hb9:=SL.ahead (n:=9) zb hw9;have e0:=zAB hb9 s0;have e1:=zAB hb9 s1;have e2:=zAB hb9 s2;go_simp;try with_reducible rfl)
       intro hsh _;simp only [List.getElem_toArray,List.getElem_cons_zero,Act.put,List.setIfInBounds_toArray,List.set_cons_zero,List.set_cons_succ] at hsh ⊢;clear hsh;refine zAl (rs:=[7]) zb zd ?_
       refine zBA.cons rfl (fun K hK=>?_) zBA.nil
       go_simp
       go_at_call 17
       with_reducible refine (HOF.o _).mono ?_
       rintro e v1 ⟨A6,c6,A7,c7,rfl,h6,h7,hb⟩;have HB1:Hid (Below wr.heap.size wr v1):=zAb HSB.o hb;have HS1:=zq (HSK.o.below HB1.o);have HD5:=zq (HDK.o.below HB1.o);have H6:=zq h6;have H7:=zq h7;clear hb h6 h7 HOF;refine hK.out _ _ (fun _=>HB1.o) (fun _=>?_)
       clear hK K
       try simp only [Dw.lay,Act.put]
       refine zAl (rs:=[8]) zb zd ?_
       refine zBA.cons rfl (fun K hK=>?_) zBA.nil
       have HPL:Hid (Calls Tryz.prog 16 #[nuV false F3 f3 ov.num.natAbs F4 f4 ov.den,nuV false A6 c6 (zBL s.nu s.de).num.natAbs A7 c7 (zBL s.nu s.de).den] v1 (GivesNq (ov+zBL s.nu s.de) v1)) :=
        PlusQ_c F3 F4 A6 A7 f3 f4 c6 c7 ov (zBL s.nu s.de) v1 HS1.o.o1 HS1.o.o2 H6.o H7.o HOV.o.1 HR3.o HOV.o.2 HR4.o
       go_simp
       go_at_call 16
       with_reducible refine HPL.o.mono ?_
       rintro e v2 ⟨A8,c8,A9,c9,rfl,h8,h9,hb⟩;have HB2:Hid (Below wr.heap.size wr v2):=zAb HB1.o hb;have HS2:=zq (HS1.o.below hb);have HD6:=zq (HD5.o.below hb);have HS4:=zq (HS2.o.setO h8 h9);clear hb h8 h9 HS1 HPL H6 H7 HD5;refine hK.out _ _ (fun _=>HB2.o) (fun _=>?_)
       clear hK K
       try simp only [Dw.lay,Act.put]
       refine zAl (rs:=[9]) zb zd ?_
       refine zBA.cons rfl (fun K hK=>?_) zBA.nil
       have p0:=HS2.o.o.cell (i:=0) rfl;have p1:=HS2.o.o.cell (i:=1) rfl;have p2:=HS2.o.o.cell (i:=2) rfl;have sf:=HS2.o.o.frozen;have sl:=HS2.o.o.lt
       go_simp
       clear p0 p1 p2 sf sl;refine hK.out _ _ (fun h=>absurd h zc) (fun _=>?_)
       clear hK K
       try simp only [Dw.lay,Act.put]
       refine anyL_done zb ?_ _
       clear s0 s1 s2 y14 c1' c2' hsd
       have HD7:Hid (Bx (((v2.setCell ⟨w3.heap.size+1,0,none⟩ (.bool false)).setCell ⟨w3.heap.size+1,1,none⟩ (.slice A8 (zAc BT (ov+zBL s.nu s.de).num.natAbs).length c8)).setCell ⟨w3.heap.size+1,2,none⟩ (.slice A9 (zAc BT (ov+zBL s.nu s.de).den).length c9)) gd (deC d) 52) :=
        ((HD6.o.far (by show gd≠w3.heap.size+1;omega) _).far (by show gd≠w3.heap.size+1;omega) _).far (by show gd≠w3.heap.size+1;omega) _
       go_wp2
       go_roundg (gk - 1)
       case measure=>have:=HK.o;omega
       case rel=>exact ⟨F1,f1,F2,f2,A8,c8,A9,c9,k+1,by rw [HSX.o];exact HS4.o,HD7.o,fun h=>absurd HOB.o (by rw [h];simp),zh,zi⟩
      ·have hke:k=d.sh.length:=by have:=HK.o;omega
       have HN:Hid (SuT w3 tot F1 f1 F2 f2 (zBC th day (ds.take (i+1))) F3 f3 F4 f4 wr):=by
        show SuT _ _ _ _ _ _ _ _ _ _ _ _
        rw [HOS.o,if_pos HOB.o];have:=HSK.o;rw [hke,List.take_length] at this;exact this
       clear hke;go_wp2
       go_roundg (ds.length - (i+1))
       case measure=>have:=HI.o;omega
       case rel=>exact ⟨F1,f1,F2,f2,F3,f3,F4,f4,i+1,HN.o,by have:=HI.o;omega,zi⟩
    ·have hie:i=ds.length:=by have:=HI.o;omega
     have HSE:Hid (SuT w3 tot D1 e1 D2 e2 tot D3 e3 D4 e4 wr):=by
      have:=HST.o;rw [hie,List.take_length,←HTO.o] at this;exact this
     have HCM:=zq (compare_cT D1 D2 D3 D4 e1 e2 e3 e4 tot.num.natAbs tot.den tot.num.natAbs tot.den wr HSE.o.s1 HSE.o.s2 HSE.o.o1 HSE.o.o2 HTB.o.2.1.2 HTB.o.2.2.2 HTB.o.2.1.2 HTB.o.2.2.2 (den_q tot) (den_q tot));rw [zCq rfl] at HCM;have s0:=HSE.o.s.cell (i:=0) rfl;have s1:=HSE.o.s.cell (i:=1) rfl;have s2:=HSE.o.s.cell (i:=2) rfl;have o0:=HSE.o.o.cell (i:=0) rfl;have o1:=HSE.o.o.cell (i:=1) rfl;have o2:=HSE.o.o.cell (i:=2) rfl;have HBE:=zq (zAb HB3.o HSE.o.bel);have hie2:(i:Int)=(ds.length:Int):=by rw [hie]
     clear hie HST HSE
     go_wp2_with fail
     with_reducible refine HCM.o.mono ?_
     rintro e w5 ⟨rfl,hb5⟩;have HB5:=zq (zAb HBE.o hb5);clear hb5 s0 s1 s2 o0 o1 o2 HCM
     go_wp2_with fail
     with_reducible refine (awake_c _).mono ?_
     rintro e w6 ⟨rfl,hb6⟩;have HB6:=zq (zAb HB5.o hb6);clear hb6;go_wp2;go_ret
     exact zAe.mk rfl HB6.o
end Go.Proofs.YtieoifkdobcpiaaGreatDoor
