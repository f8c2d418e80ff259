/- Package right: whether something about a thing changes on a day. -/
import Derived.Test.YtieoifkdobcpiaaGreatDoorSg38
set_option maxRecDepth 100000
set_option maxHeartbeats 8000000
namespace Go.Proofs.YtieoifkdobcpiaaGreatDoor
open Go.RowKit Dw
def ChR1 (W:World) (H:List Nat) (us:List BA) (rs:List Rg) (ds:List De) (day:Int) (th:BA) (m:Nat) (iv:Value) (wr:World):Prop :=
 ∃ k:Nat,k+m=H.length∧iv = .int .i64 (k:Nat)∧(∀ q (h:q<H.length),q<k→∀ u∈us,¬ chgP rs ds (lfI rs H[q]) u day th)∧Below W.heap.size W wr
def ChR2 (W:World) (i:Nat) (us:List BA) (rs:List Rg) (ds:List De) (day:Int) (th:BA) (m:Nat) (iv:Value) (wr:World):Prop :=
 ∃ j:Nat,j+m=us.length∧iv = .int .i64 (j:Nat)∧(∀ q (h:q<us.length),q<j→¬ chgP rs ds i us[q] day th)∧Below W.heap.size W wr
def ChR3 (W:World) (i:Nat) (u:BA) (rs:List Rg) (ds:List De) (day:Int) (th:BA) (m:Nat) (iv:Value) (wr:World):Prop :=
 ∃ l:Nat,l+m=ds.length∧iv = .int .i64 (l:Nat)∧(∀ q (h:q<ds.length),q<l→ds[q].kd=3→ds[q].th=th→vB rs ds i u (day - 1) ds[q]=vB rs ds i u day ds[q])∧Below W.heap.size W wr
theorem changes_c (RA:Option Addr) (rc:Nat) (rs:List Rg) (UA:Option Addr) (uc:Nat) (us:List BA) (DA:Option Addr) (dc:Nat) (ds:List De) (L:Nat) (th:BA) (v:Value) (H:List Nat) (day:Int) (w:World)
  (hl:LgIs RA rc rs UA uc us DA dc ds w L) (hu:Strs w UA us) (hd:Des w DA ds) (hc:zBt rs us ds=0) (hcl:ClsIs w v H) (hlt:∀ h∈H,h<(zAm rs).length) (hHl:H.length≤200) (hdc:ds.length≤dc) (h1:1≤day) (h2:day≤200000) :
  Calls Tryz.prog 27 #[.pointer (some ⟨L,0,none⟩),.string th,v,.int .i64 day] w (GivesIff (∃ h∈H,∃ u∈us,chgP rs ds (lfI rs h) u day th) w):=by
 have hus:∀ d∈ds,d.us.length≤1000000:=fun d hd=>cU (short_of hc d hd).2 zc
 obtain ⟨_,hul,hdl⟩:=zBP hc;have HLG:=zq hl;have HU:=zq hu;have HD:=zq hd;have HC:=zq hc;have HUS:=zq hus;have HLT:=zq hlt;obtain ⟨A,c,rfl,hrows⟩:=hcl;have HRW:=zq hrows;obtain ⟨r1,r2,g1,g2,AL,cL,vr,vi,ins,base,hlx,_⟩:=HLG.o;have HLX:=zq hlx;clear hl hu hd hc hus hlt hrows hlx
 go_enter Tryz.func27,Tryz.ntmps27
 go_wp2_with fail
 go_loopg [23] H.length (ChR1 w H us rs ds day th)
 case atStart=>exact ⟨0,za,rfl,fun q _ hq=>za,aN _ _⟩
 case round =>
  obtain ⟨k,hkm,rfl,hno,hb⟩:=hrel;have HK:=zq hkm;have HNO:=zq hno;have HB:=zq hb;clear hkm hno hb
  by_cases hlt:k<H.length
  ·obtain ⟨g,hA,hcs⟩:=HRW.o za
   subst hA;obtain ⟨gj,nj,cj,ca0,hn0,cb0⟩:=hcs k hlt;have ca:=zAs HB.o ca0;have hmem:H[k]∈H:=aJ hlt;obtain ⟨n,hn⟩:∃ n,n=H[k]:=⟨_,rfl⟩;rw [←hn] at cb0 hmem;have HNE:=zq hn;have HCB:=zq cb0;have hnj:(0:Int)<(nj:Int):=za;have hnl:=HLT.o n hmem
   have HN:Hid ((zAm rs)[n]?=some (lfI rs n)):=by
    show _=_
    unfold lfI;rw [List.getD_eq_getElem?_getD,List.getElem?_eq_getElem hnl];rfl
   have HYES:Hid (∀ u∈us,chgP rs ds (lfI rs n) u day th→∃ h∈H,∃ u∈us,chgP rs ds (lfI rs h) u day th):=fun u hu hch=>⟨n,hmem,u,hu,hch⟩
   obtain ⟨i,hi⟩:∃ i,i=lfI rs n:=⟨_,rfl⟩;rw [←hi] at HN HYES;have HIE:=zq hi;have l1:=(HLX.o.below HB.o).c 1 rfl;have hsl:L<wr.heap.size:=cY HLX.o.lt HB.o.size;have HKL:=zq hlt;clear hcs ca0 cb0 hn hmem hnl hi
   go_wp2_with fail
   rename World=>w1
   go_loopg [33] us.length (ChR2 w i us rs ds day th)
   case atStart=>exact ⟨0,za,rfl,fun q _ hq=>za,HB.o⟩
   clear l1 hsl ca
   case round =>
    obtain ⟨j,hjm,rfl,hno,hb⟩:=hrel;have HJ:=zq hjm;have HNO2:=zq hno;have HB2:=zq hb;clear hjm hno hb
    by_cases hlj:j<us.length
    ·obtain ⟨bu,ou,hUA,hcu⟩:=HU.o za
     subst hUA;have cu:=zAs HB2.o (hcu j hlj);have hum:=aJ hlj;obtain ⟨u,hu⟩:∃ u,u=us[j]:=⟨_,rfl⟩;rw [←hu] at cu hum;have HUE:=zq hu;have HYES2:=zq (HYES.o u hum);have cg:=zAs HB2.o HCB.o;have hwr:IntKind.i64.wrap (day - 1)=day - 1:=IntWalk.i64_in _ za;clear hcu hum hu;go_upto_region 7 with fail
     go_cut [13,14] (fun p1 p2 wx=>∃ b1 b2:Nat,p1 = .pointer (some ⟨b1,0,none⟩)∧p2 = .pointer (some ⟨b2,0,none⟩)∧Bx wx b1 (zCP n u (day - 1)) 76∧Bx wx b2 (zCP n u day) 76∧Below w.heap.size w wx)
     case first =>
      have KC:Hid (∀ w',Below w.heap.size w w'→w'.cell? ⟨gj,0,none⟩=some (.int .i64 (n:Int))):=fun w' hb=>zAs hb HCB.o
      have hws:w.heap.size≤wr.heap.size:=HB2.o.size;have HDW:Hid (∀ x,Below w.heap.size w x→Below w.heap.size w x.drew):=fun x h=>zAc h 1
      have HAZ:Hid (∀ (o1:Obj) (cs:Array Value) (T:TypeId),Bx ((wr.alloc o1).alloc (.cells cs T)).drew (wr.heap.size+1) cs T):=fun o1 cs T=>by
       have e:(wr.alloc o1).heap.size=wr.heap.size+1:=zd;rw [←e];exact (Bx.new (wr.alloc o1) cs T).drew
      have HAY:Hid (∀ (cs:Array Value) (T:TypeId) (o2:Obj),Bx ((wr.alloc (.cells cs T)).alloc o2).drew wr.heap.size cs T):=fun cs T o2=>((Bx.new wr cs T).below (ba _ _)).drew
      have HAQ:Hid (∀ o1 o2:Obj,Below w.heap.size w ((wr.alloc o1).alloc o2).drew):=fun o1 o2=>zAc ((HB2.o.alloc hws _).alloc ze _) 1
      clear cg;have cg:=KC.out _ HB2.o
      go_region_held3 (fun w'=>w'.cell? ⟨gj,0,none⟩=some (.int .i64 (n:Int)))
       (first | with_reducible assumption | (refine KC.out _ ?_;repeat (first | exact HB2.o | refine HDW.o _ ?_ | refine Below.alloc ?_ (by first | omega | (simp;omega)) _ | refine Below.setCell ?_ (by first | omega | (simp;omega)) _)))
       (fail)
      ·go_wp2
       go_meet;exact ⟨wr.heap.size,wr.heap.size+1,rfl,rfl,HAY.o _ _ _,HAZ.o _ _ _,HAQ.o _ _⟩
      ·go_wp2
       go_meet;exact ⟨wr.heap.size+1,wr.heap.size,rfl,rfl,HAZ.o _ _ _,HAY.o _ _ _,HAQ.o _ _⟩
     case rest =>
      obtain ⟨b1,b2,rfl,rfl,hx1,hx2,hbx⟩:=hcut;have HX1:=zq hx1;have HX2:=zq hx2;have HBX:=zq hbx;have l2:=(HLX.o.below hbx).c 2 rfl;have hsl:L<wc.heap.size:=cY HLX.o.lt hbx.size;clear hx1 hx2 hbx cg hwr cu
      go_wp2_with fail
      go_loopg [56] ds.length (ChR3 wc i u rs ds day th)
      case atStart=>exact ⟨0,za,rfl,fun q _ hq=>za,aN _ _⟩
      clear l2 hsl
      case round =>
       obtain ⟨l,hlm,rfl,hno,hb⟩:=hrel;have HL:=zq hlm;have HNO3:=zq hno;have HB3:=zq hb;have HBW:=zq (zAa HBX.o hb);clear hlm hno hb
       by_cases hll:l<ds.length
       ·obtain ⟨b,o,hA,hb0,hc0⟩:=HD.o za
        subst hA;have HV1:=zq (fun (u':World) (hu':Below w.heap.size w u')=>valid_c RA rc rs (some ⟨bu,ou,none⟩) uc us (some ⟨b,o,none⟩) dc ds L l n i u (day - 1) u' (HLG.o.below hu') (HD.o.below hu') hll HN.o (HUS.o _ (aJ hll)))
        have HV2:=zq (fun (u':World) (hu':Below w.heap.size w u')=>valid_c RA rc rs (some ⟨bu,ou,none⟩) uc us (some ⟨b,o,none⟩) dc ds L l n i u day u' (HLG.o.below hu') (HD.o.below hu') hll HN.o (HUS.o _ (aJ hll)))
        have hp:=(hc0 l hll).1
        have HNX:Hid ((ds[l].kd=3→ds[l].th=th→vB rs ds i u (day - 1) ds[l]=vB rs ds i u day ds[l])→∀ q (h:q<ds.length),q<l+1→ds[q].kd=3→ds[q].th=th→vB rs ds i u (day - 1) ds[q]=vB rs ds i u day ds[q]):=fun h q hq hql=>by
         by_cases e:q=l
         ·subst e;exact h
         ·exact HNO3.o q hq za
        have HCH:Hid (ds[l].kd=3→ds[l].th=th→vB rs ds i u (day - 1) ds[l]≠vB rs ds i u day ds[l]→∃ h∈H,∃ u∈us,chgP rs ds (lfI rs h) u day th):=fun h3 ht hv=>HYES2.o (.inl ⟨_,aJ hll,h3,ht,hv⟩)
        generalize ds[l]=d at *;have hrg:wr.rangeAt b (o+l*16) (deC d).toList:=fun q v hv=>zAs HBW.o (hp q v hv)
        clear hp hc0;go_upto_region 10 with fail
        iterate 8 go_step
        refine eW _ _ zj b (o+l*16) zj (deC d).toList _ hrg Tryz.underlying52 rfl zb ?_
        clear hrg;go_upto_region 11 with fail
        obtain ⟨wd,hwd⟩:∃ wd,wd=wr.alloc (.cells (deC d) 52):=⟨_,rfl⟩;rw [←hwd];have hbd:Below wr.heap.size wr wd:=zr;have HD1:Hid (Bx wd wr.heap.size (deC d) 52):=zu;have HBD:=zq (zAa HBW.o hbd);have HB3D:=zq (zAa HB3.o hbd);have HXA:=zq (HX1.o.below HB3D.o);have HXB:=zq (HX2.o.below HB3D.o);clear hwd hbd;have d2:=HD1.o.c 2 rfl;have d3:=HD1.o.c 3 rfl;have hsd:=HD1.o.lt
        by_cases h3:d.kd=3
        case neg =>
         have e1:(d.kd == 3)=false:=by simpa using h3
         have HR:=zq (HNX.o fun h=>absurd h h3)
         clear h3 HNX HCH HV1 HV2
         go_quiet (fail)
         go_wp2
         go_roundg (gk - 1)
         case measure=>have:=HL.o;omega
         case rel=>exact ⟨l+1,qe,zi,HR.o,zAc HB3D.o _⟩
        have e1:(d.kd == 3)=true:=by simpa using h3
        by_cases ht:d.th=th
        case neg =>
         have q1:=zAM ht;have HR:=zq (HNX.o fun _ h=>absurd h ht)
         clear h3 ht HNX HCH HV1 HV2
         go_quiet (fail)
         go_wp2
         go_roundg (gk - 1)
         case measure=>have:=HL.o;omega
         case rel=>exact ⟨l+1,qe,zi,HR.o,zAc HB3D.o _⟩
        have q1:=zBb ht;have HVA:Hid (∀ d' os,Calls Tryz.prog 66 #[.pointer (some ⟨L,0,none⟩),.int .i64 (l:Int),.agg (zCP n u (day - 1))] (Sort.grow (redrawn wd d') os) (zAe (.bool (vB rs ds i u (day - 1) d)) (Sort.grow (redrawn wd d') os))):=fun d' os=>HV1.o _ (zAa HBD.o (below_regrown wd d' os))
        have HVB:Hid (∀ d' os,Calls Tryz.prog 66 #[.pointer (some ⟨L,0,none⟩),.int .i64 (l:Int),.agg (zCP n u day)] (Sort.grow (redrawn wd d') os) (zAe (.bool (vB rs ds i u day d)) (Sort.grow (redrawn wd d') os))):=fun d' os=>HV2.o _ (zAa HBD.o (below_regrown wd d' os))
        have HR:=zq (fun (hv:vB rs ds i u (day - 1) d=vB rs ds i u day d)=>HNX.o fun _ _=>hv)
        have HY:=zq (HCH.o h3 ht);generalize vB rs ds i u (day - 1) d=va at *;generalize vB rs ds i u day d=vb at *;have d2':=fun d' os=>cell_regrown d2 d' os
        have d3':=fun d' os=>cell_regrown d3 d' os
        have x0:=fun d' os=>cell_regrown (HXA.o.c 0 rfl) d' os
        have x1:=fun d' os=>cell_regrown (HXA.o.c 1 rfl) d' os
        have x2:=fun d' os=>cell_regrown (HXA.o.c 2 rfl) d' os
        have y0:=fun d' os=>cell_regrown (HXB.o.c 0 rfl) d' os
        have y1:=fun d' os=>cell_regrown (HXB.o.c 1 rfl) d' os
        have y2:=fun d' os=>cell_regrown (HXB.o.c 2 rfl) d' os
        clear h3 ht HNX HCH HV1 HV2;refine wp_region_quiet_below zb zb ?_
        repeat (quiet_step (first | with_reducible exact Calls.regrown_of (HVA.o _ _) | with_reducible exact Calls.regrown_of (HVB.o _ _)))
        refine wpQuiet_nil ?_
        intro _ hw';obtain ⟨⟨dq,osq⟩,hw''⟩:=hw';subst hw'';have hbq:=below_regrown wd dq osq;have HBQ:=zq (zAa HBD.o hbq);have HB3Q:=zq (zAa HB3D.o hbq);clear hbq d2 d3 hsd d2' d3' x0 x1 x2 y0 y1 y2 HVA HVB e1 q1 HXA HXB HD1 HBD HB3D;generalize Sort.grow (redrawn wd dq) osq=wq at *
        cases va with
        | false =>
         cases vb with
         | false =>
          have HRR:=zq (HR.o rfl);clear HR HY;go_wp2
          go_roundg (gk - 1)
          case measure=>have:=HL.o;omega
          case rel=>exact ⟨l+1,qe,zi,HRR.o,HB3Q.o⟩
         | true =>
          have HYY:=zq (HY.o zd);clear HR HY;go_wp2;go_ret
          exact ⟨true,rfl,⟨fun _=>HYY.o,fun _=>rfl⟩,HBQ.o⟩
        | true =>
         cases vb with
         | false =>
          have HYY:=zq (HY.o zd);clear HR HY;go_wp2;go_ret
          exact ⟨true,rfl,⟨fun _=>HYY.o,fun _=>rfl⟩,HBQ.o⟩
         | true =>
          have HRR:=zq (HR.o rfl);clear HR HY;go_wp2
          go_roundg (gk - 1)
          case measure=>have:=HL.o;omega
          case rel=>exact ⟨l+1,qe,zi,HRR.o,HB3Q.o⟩
       ·obtain rfl:l=ds.length:=by have:=HL.o;omega
        have HLV:Hid (∀ d∈ds,d.kd=3→d.th=th→vB rs ds i u (day - 1) d=vB rs ds i u day d):=fun d hd=>by
         obtain ⟨q,hq,rfl⟩:=dH hd;exact HNO3.o q hq hq
        have HXA:=zq (HX1.o.below HB3.o);have HXB:=zq (HX2.o.below HB3.o);have HPA:=zq (fun (u':World) (hu':Below w.heap.size w u')=>parts_c RA rc rs (some ⟨bu,ou,none⟩) uc us DA dc ds L n i ds.length u (day - 1) th false u' (HLG.o.below hu') (HD.o.below hu') HC.o HN.o (aC _) hdc HUS.o)
        have HPB:=zq (fun (u':World) (hu':Below w.heap.size w u')=>parts_c RA rc rs (some ⟨bu,ou,none⟩) uc us DA dc ds L n i ds.length u day th false u' (HLG.o.below hu') (HD.o.below hu') HC.o HN.o (aC _) hdc HUS.o)
        simp only [Bool.false_and] at HPA HPB
        have HS:=zq (fun ga gb u' (h1:zAw u' ga (zAp rs ds i th u (day - 1) ds.length)) (h2:zAw u' gb (zAp rs ds i th u day ds.length))=>same_c ga gb _ _ u' h1 h2 (fun p=>(parts_sz HC.o i th u (day - 1) ds.length (aC _) p).le za) (fun p=>(parts_sz HC.o i th u day ds.length (aC _) p).le za)
         (zBC HC.o i th u (day - 1) ds.length).2.1.pos (zBC HC.o i th u day ds.length).2.1.pos)
        have HYP:Hid (zAp rs ds i th u (day - 1) ds.length≠zAp rs ds i th u day ds.length→∃ h∈H,∃ u∈us,chgP rs ds (lfI rs h) u day th):=fun h=>HYES2.o (.inr h)
        have HNP:Hid (zAp rs ds i th u (day - 1) ds.length=zAp rs ds i th u day ds.length→∀ q (h:q<us.length),q<j+1→¬ chgP rs ds i us[q] day th):=fun he q hq hqj=>by
         by_cases e:q=j
         ·subst e
          rw [←HUE.o];rintro (⟨d,hd,h3,ht,hv⟩ | hp)
          ·exact hv (HLV.o d hd h3 ht)
          ·exact hp he
         ·exact HNO2.o q hq za
        generalize zAp rs ds i th u (day - 1) ds.length=fa at *;generalize zAp rs ds i th u day ds.length=fb at *;obtain ⟨x0,x1,x2⟩:=HXA.o.t;have hsx:=HXA.o.lt;have l2:=(HLX.o.below HBW.o).c 2 rfl;have hsl:L<wr.heap.size:=cY HLX.o.lt HBW.o.size;clear HLV HXA HNO3;have hws:w.heap.size≤wr.heap.size:=HBW.o.size;have HDR:Hid (Below w.heap.size w wr.drew):=zAc HBW.o 1;go_upto_region 14 with fail
        go_region_held3 (fun w'=>w'.cell? ⟨b1,0,none⟩=some (.int .i64 (n:Int))∧w'.cell? ⟨b1,1,none⟩=some (.string u)∧w'.cell? ⟨b1,2,none⟩=some (.int .i64 (day - 1))∧w'.cell? ⟨L,2,none⟩=some (.slice DA ds.length dc))
         ((refine ⟨?_,?_,?_,?_⟩<;>first | with_reducible assumption | go_simp))
         (first
          | ((go_at_call 30;(with_reducible refine (HPA.o wr.drew HDR.o).mono ?_);rintro e w5 ⟨hb5,_,hok⟩;obtain ⟨ga,rfl,hpa⟩:=hok rfl;have HB5:Hid (Below w.heap.size w w5):=zAa HDR.o hb5;have HC5:=zq (zAa (zAa HB3.o (zAc (aN _ _) 1)) hb5);have HX5:=zq (HX1.o.below HC5.o);have HPM:=zq hpa;clear hb5 hok hpa x0 x1 x2 hsx l2 hsl;obtain ⟨x0,x1,x2⟩:=HX5.o.t;have l2:=(HLX.o.below HB5.o).c 2 rfl)))
        have HXC:=zq (HX2.o.below HC5.o);clear x0 x1 x2 l2 HX5 HPA HDR hws;obtain ⟨x0,x1,x2⟩:=HXC.o.t;have hsx:=HXC.o.lt;have l2:=(HLX.o.below HB5.o).c 2 rfl;have hsl:L<w5.heap.size:=cY HLX.o.lt HB5.o.size;have HDR:Hid (Below w.heap.size w w5.drew):=zAc HB5.o 1;go_upto_region 15 with fail
        go_region_held3 (fun w'=>w'.cell? ⟨b2,0,none⟩=some (.int .i64 (n:Int))∧w'.cell? ⟨b2,1,none⟩=some (.string u)∧w'.cell? ⟨b2,2,none⟩=some (.int .i64 day)∧w'.cell? ⟨L,2,none⟩=some (.slice DA ds.length dc))
         ((refine ⟨?_,?_,?_,?_⟩<;>first | with_reducible assumption | go_simp))
         (first
          | ((go_at_call 30;(with_reducible refine (HPB.o w5.drew HDR.o).mono ?_);rintro e w6 ⟨hb6,_,hok⟩;obtain ⟨gb,rfl,hpb⟩:=hok rfl;have HB6:Hid (Below w.heap.size w w6):=zAa HDR.o hb6;have hbz:=zAa (zAc (aN w5.heap.size w5) 1) hb6;have HX6:=zq (HXC.o.below hbz);have HPM6:=zq (HPM.o.below hbz);have HPN:=zq hpb;clear hb6 hok hpb hbz x0 x1 x2 hsx l2 hsl;obtain ⟨x0,x1,x2⟩:=HX6.o.t;have l2:=(HLX.o.below HB6.o).c 2 rfl)))
        have HSC:=zq (HS.o ga gb w6 HPM6.o HPN.o);clear x0 x1 x2 l2 HX6 HPB HDR HS HPM HPM6 HPN HXC HXB
        go_wp2_with fail
        with_reducible refine HSC.o.mono ?_
        rintro e w7 ⟨b,rfl,hbi,hb7⟩;have HB7:=zq (zAa HB6.o hb7);have HBI:=zq hbi;clear hb7 hbi HSC
        cases b with
        | false =>
         have HYY:=zq (HYP.o fun e=>by have:=HBI.o.2 e;cases this)
         go_wp2;go_ret
         exact ⟨true,rfl,⟨fun _=>HYY.o,fun _=>rfl⟩,HB7.o⟩
        | true =>
         have HNN:=zq (HNP.o (HBI.o.1 rfl));go_wp2
         go_roundg (us.length - j - 1)
         case measure=>have:=HJ.o;omega
         case rel=>exact ⟨j+1,zt,zi,HNN.o,HB7.o⟩
    ·obtain rfl:j=us.length:=by have:=HJ.o;omega
     have HN2:Hid (∀ u∈us,¬ chgP rs ds i u day th):=fun u hu=>by
      obtain ⟨q,hq,rfl⟩:=dH hu;exact HNO2.o q hq hq
     go_wp2
     go_roundg (H.length - k - 1)
     case measure=>have:=HK.o;omega
     case rel =>
      refine ⟨k+1,by have:=HKL.o;omega,zi,fun q hq hqk u hu=>?_,HB2.o⟩
      by_cases hqe:q=k
      ·subst hqe
       rw [←HNE.o,←HIE.o];exact HN2.o u hu
      ·exact HNO.o q hq za u hu
  ·obtain rfl:k=H.length:=by have:=HK.o;omega
   go_wp2;go_ret
   refine ⟨false,rfl,⟨(fun h=>qh),?_⟩,HB.o⟩
   rintro ⟨h,hh,u,hu,hch⟩;obtain ⟨q,hq,rfl⟩:=dH hh;exact absurd hch (HNO.o q hq hq u hu)
end Go.Proofs.YtieoifkdobcpiaaGreatDoor
