/- Parts of the proof, joined: The reference's checkDeed = chkD. The reference's Check of a title = c. -/
import Derived.Test.YtieoifkdobcpiaaGreatDoorSm25
import Derived.Test.YtieoifkdobcpiaaGreatDoorSm26
import Derived.Test.YtieoifkdobcpiaaGreatDoorSm27
import Derived.Test.YtieoifkdobcpiaaGreatDoorSm28
import Derived.Test.YtieoifkdobcpiaaGreatDoorSm29
import Derived.OwnWalk
import Derived.Lib.QuietBelow
import Derived.Deep.CutRange
set_option maxRecDepth 100000
set_option maxHeartbeats 8000000
namespace Go.Proofs.YtieoifkdobcpiaaGreatDoor
open Go.RowKit Dw
theorem checkDeedR_c (RA:Option Addr) (rc:Nat) (rs:List Rg) (UA:Option Addr) (uc:Nat) (us:List BA) (DA:Option Addr) (dc:Nat) (ds:List De) (k:Nat) (w:World) (g:GoodR rs) (hr:Rgs w RA rs) (hu:Strs w UA us) (hul:us.length≤1000000) (hd:Des w DA ds) (hk:k<ds.length) (hdl:ds.length≤200) :
  Calls Tryz.prog 94 #[.agg (tiC RA rc rs UA uc us DA dc ds),.int .i64 k] w (zAe (.int .i64 (chkD rs us (ds.take k) ds[k])) w):=by
 by_cases h0:ds[k].kd<1∨5<ds[k].kd
 ·exact checkDeed_x RA rc rs UA uc us DA dc ds k w g hr hu hul hd hk hdl h0
 ·by_cases h1:ds[k].kd=1
  ·exact checkDeed_b RA rc rs UA uc us DA dc ds k w g hr hu hul hd hk hdl h1
  ·by_cases h5:ds[k].kd=5
   ·exact checkDeed_z RA rc rs UA uc us DA dc ds k w g hr hu hul hd hk hdl h5
   ·by_cases h4:ds[k].kd=4
    ·exact checkDeed_e RA rc rs UA uc us DA dc ds k w g hr hu hul hd hk hdl h4
    ·exact checkDeed_g RA rc rs UA uc us DA dc ds k w g hr hu hul hd hk hdl za
structure TS (w:World) (RA:Option Addr) (rc:Nat) (rs:List Rg) (UA:Option Addr) (uc:Nat) (us:List BA) (DA:Option Addr) (dc:Nat) (ds:List De) (W:World):Prop where
 bel:Below w.heap.size w W
 ti:Bx W w.heap.size (tiC RA rc rs UA uc us DA dc ds) 26
section
variable {w W W':World} {RA:Option Addr} {rc:Nat} {rs:List Rg} {UA:Option Addr} {uc:Nat} {us:List BA} {DA:Option Addr} {dc:Nat} {ds:List De}
theorem TS.below (h:TS w RA rc rs UA uc us DA dc ds W) (hb:Below W.heap.size W W'):TS w RA rc rs UA uc us DA dc ds W':=⟨zAa h.bel hb,h.ti.below hb⟩
theorem TS.drewN (h:TS w RA rc rs UA uc us DA dc ds W) (n:Nat):TS w RA rc rs UA uc us DA dc ds (W.drewN n):=h.below (zAd (aS _ _) n)
end
def chkT2 (rs:List Rg) (us:List BA) (ds:List De):Int:=if 200<ds.length then 2 else match (List.range ds.length).findSome? (zCU rs us ds) with
  | some f=>f
  | none=>0
theorem chkT_un {rs:List Rg} {us:List BA} {ds:List De} {k:Nat} {f:Int} (h0:zDU rs=0) (h1:us≠[]) (h2:¬ 20<us.length) (hk:k<us.length) (hp:∀ j,j<k→zBg us j=none) (hf:zBg us k=some f):zCI rs us ds=f:=by
 unfold zCI;rw [aC (fun h=>h h0),aC h1,aC h2,zAU hk hp hf]
theorem chkT_de {rs:List Rg} {us:List BA} {ds:List De} (h0:zDU rs=0) (h1:us≠[]) (h2:¬ 20<us.length) (hp:∀ j,j<us.length→zBg us j=none):zCI rs us ds=chkT2 rs us ds:=by
 unfold zCI chkT2;rw [aC (fun h=>h h0),aC h1,aC h2,zBf hp]
 rfl
theorem deFault_of {rs:List Rg} {us:List BA} {ds:List De} {k:Nat} (hk:k<ds.length):zCU rs us ds k=if chkD rs us (ds.take k) ds[k]≠0 then some (chkD rs us (ds.take k) ds[k]) else none:=by
 unfold zCU;rw [show ds.getD k default=ds[k] by simp [List.getD,hk]]
def UnRelT (w:World) (RA:Option Addr) (rc:Nat) (rs:List Rg) (UA:Option Addr) (uc:Nat) (us:List BA) (DA:Option Addr) (dc:Nat) (ds:List De) (m:Nat) (i:Value) (wr:World):Prop :=
 TS w RA rc rs UA uc us DA dc ds wr∧∃ k:Nat,k+m=us.length∧i = .int .i64 k∧∀ j,j<k→zBg us j=none
def DeRelT (w:World) (RA:Option Addr) (rc:Nat) (rs:List Rg) (UA:Option Addr) (uc:Nat) (us:List BA) (DA:Option Addr) (dc:Nat) (ds:List De) (m:Nat) (i:Value) (wr:World):Prop :=
 TS w RA rc rs UA uc us DA dc ds wr∧∃ k:Nat,k+m=ds.length∧i = .int .i64 k∧∀ j,j<k→zCU rs us ds j=none
theorem CheckTR_c (RA:Option Addr) (rc:Nat) (rs:List Rg) (UA:Option Addr) (uc:Nat) (us:List BA) (DA:Option Addr) (dc:Nat) (ds:List De) (w:World)
  (hr:Rgs w RA rs) (hu:Strs w UA us) (hd:Des w DA ds) (hz:∀ i (h:i<rs.length),(rs[i]).nm.size≤9223372036854775807) (hz2:∀ i (h:i<us.length),(us[i]).size≤9223372036854775807) :
  Calls Tryz.prog 52 #[.agg (tiC RA rc rs UA uc us DA dc ds)] w (zAe (.int .i64 (zCI rs us ds)) w):=by
 generalize hres:zCI rs us ds=res;have HR:=zq hres;clear hres;have HST:Hid (TS w RA rc rs UA uc us DA dc ds (w.alloc (.cells (tiC RA rc rs UA uc us DA dc ds) 26))):=⟨(aS w.heap.size w).alloc (aB _) _,Bx.new _ _ _⟩;obtain ⟨W,hW⟩:∃ W,W=w.alloc (.cells (tiC RA rc rs UA uc us DA dc ds) 26):=⟨_,rfl⟩;rw [←hW] at HST;have HRG:=zq hr;have HU:=zq hu;have HDE:=zq hd;clear hr hu hd
 go_enter Tryz.func52,Tryz.ntmps52
 go_upto_region 1 with fail
 rw [←hW];clear hW;have x0:=HST.o.ti.c 0 rfl;have xs:=HST.o.ti.lt
 go_wp2_with fail
 refine (CheckRegionsR_c RA rc rs W (HRG.o.below HST.o.bel) hz).mono ?_
 rintro e w1 ⟨rfl,nd,rfl⟩;have HST1:=zq (HST.o.drewN nd);clear x0 xs HST hz
 by_cases hcr:zDU rs=0
 case neg =>
  have hcb:(zDU rs != 0)=true:=by simpa using hcr
  have HS:Hid (res=zDU rs):=by
   show _=_
   rw [←HR.o];unfold zCI;rw [aE hcr]
  clear hcr HR;go_wp2;go_ret
  exact zAe.mk (zAx HS.o.symm) HST1.o.bel
 have HCR:=zq hcr;have g:=good_of hcr;rw [hcr];clear hcr;have x1:=HST1.o.ti.c 1 rfl;have xs:=HST1.o.ti.lt
 by_cases hu0:us=[]
 ·have hlb:((us.length:Int) == 0)=true:=by rw [hu0];rfl
  have HS:Hid (res=9):=by
   show _=_
   rw [←HR.o];unfold zCI;rw [aC (fun h=>h HCR.o),aE hu0]
  clear hu0 HR;go_wp2;go_ret
  exact zAe.mk (zAx HS.o.symm) HST1.o.bel
 have hup:0<us.length:=List.length_pos_iff.2 hu0;have hlb:((us.length:Int) == 0)=false:=by rw [aG];omega
 have HU0:=zq hu0;clear hu0
 by_cases hu20:20<us.length
 ·have HS:Hid (res=2):=by
   show _=_
   rw [←HR.o];unfold zCI;rw [aC (fun h=>h HCR.o),aC HU0.o,aE hu20]
  have h20:(20:Int)<(us.length:Int):=za;clear hu20 HR;go_wp2;go_ret
  exact zAe.mk (zAx HS.o.symm) HST1.o.bel
 have h20:¬ (20:Int)<(us.length:Int):=za;have HH:Hid (∀ k f,k<us.length→(∀ j,j<k→zBg us j=none)→zBg us k=some f→res=f):=fun k f hk hp hf=>by rw [←HR.o];exact chkT_un HCR.o HU0.o hu20 hk hp hf
 have HN:Hid ((∀ j,j<us.length→zBg us j=none)→res=chkT2 rs us ds):=fun hp=>by rw [←HR.o];exact chkT_de HCR.o HU0.o hu20 hp
 have hul:us.length≤1000000:=za;have HZ2:=zq hz2;clear hu20 HR hz2;obtain ⟨b,o,hA,hbu,hcu⟩:=HU.o.at_ hup;have HCU:=zq hcu;have HA:=zq hA;clear hcu hA;go_wp2
 go_loopg [4] us.length (UnRelT w RA rc rs UA uc us DA dc ds)
 case atStart=>exact ⟨HST1.o,0,za,rfl,fun j hj=>absurd hj za⟩
 case round =>
  clear HST1 x1 xs;obtain ⟨hst,k,hkm,rfl,hpre⟩:=hrel;have HST:=zq hst;have HK:=zq hkm;have HP:=zq hpre;have hk1:k≤us.length:=za;clear hkm hpre hst;have x1:wr.cell? ⟨w.heap.size,1,none⟩=some (.slice (some ⟨b,o,none⟩) us.length uc):=by rw [←HA.o];exact HST.o.ti.c 1 rfl
  have xs:=HST.o.ti.lt
  by_cases hlt:k<us.length
  ·have hc0:wr.cell? ⟨b,o+k,none⟩=some (.string us[k]):=(HST.o.bel.cell hbu).trans (HCU.o k hlt)
   have hzk:=HZ2.o k hlt
   go_wp2_with fail
   with_reducible refine (zBn us[k] _ hzk).mono ?_
   rintro e w2 ⟨rfl,rfl⟩
   cases hnm:zBe us[k] with
   | false =>
    have HS:Hid (res=5):=HH.o k 5 hlt HP.o (by unfold zBg;rw [zCP hlt,aE hnm])
    clear hnm;go_wp2;go_ret
    exact zAe.mk (zAx HS.o.symm) HST.o.bel
   | true =>
    have HNM:=zq hnm;clear hnm
    by_cases hk0:0<k
    case pos =>
     have zp:wr.cell? ⟨b,o+(k - 1),none⟩=some (.string (us[k - 1]'(by omega))):=(HST.o.bel.cell hbu).trans (HCU.o (k - 1) za)
     have hd:decide ((0:Int)<(k:Int))=true:=zg;have hd0:decide ((0:Int)≤(k:Int) - 1)=true:=zg
     cases hle:sle us[k] (us[k - 1]'(by omega)) with
     | true =>
      have HS:Hid (res=8):=HH.o k 8 hlt HP.o qc;unfold sle at hle;go_wp2
      go_quiet (fail)
      go_wp2;go_ret
      exact zAe.mk (zAx HS.o.symm) (HST.o.drewN _).bel
     | false =>
      have HF:Hid (zBg us k=none):=by
       show _=_
       unfold zBg;rw [zCP hlt,zCP (show k - 1<us.length by omega),aC qd,aC (fun hh=>jy)]
      unfold sle at hle;go_wp2
      go_quiet (fail)
      go_wp2
      go_roundg (gk - 1)
      case measure=>have:=HK.o;omega
      case rel =>
       refine ⟨HST.o.drewN _,k+1,zh,zi,fun j hj=>?_⟩
       rcases aU j k with h9 | h9
       ·exact HP.o j h9
       ·obtain rfl:j=k:=by omega
        exact HF.o
    case neg =>
     have hd:decide ((0:Int)<(k:Int))=false:=zg
     have HF:Hid (zBg us k=none):=by
      show _=_
      unfold zBg;rw [zCP hlt,aC qd,aC (fun hh=>hk0 hh.1)]
     go_wp2
     go_quiet (fail)
     go_wp2
     go_roundg (gk - 1)
     case measure=>have:=HK.o;omega
     case rel =>
      refine ⟨HST.o.drewN _,k+1,zh,zi,fun j hj=>?_⟩
      rcases aU j k with h9 | h9
      ·exact HP.o j h9
      ·obtain rfl:j=k:=by omega
       exact HF.o
  ·have hke:k=us.length:=by omega
   have HE:Hid (chkT2 rs us ds=res):=(HN.o (by rw [←hke];exact HP.o)).symm
   have x2:=HST.o.ti.c 2 rfl;clear HK HP HN HH HCU hk1 hbu
   by_cases hd200:200<ds.length
   ·have HS:Hid (res=2):=by show _=_;rw [←HE.o];unfold chkT2;rw [aE hd200]
    have h200:(200:Int)<(ds.length:Int):=za;clear hd200;go_wp2;go_ret
    exact zAe.mk (zAx HS.o.symm) HST.o.bel
   have h200:¬ (200:Int)<(ds.length:Int):=za
   have HE2:Hid ((match (List.range ds.length).findSome? (zCU rs us ds) with
     | some f=>f
     | none=>0)=res):=by
    show _=_
    rw [←HE.o];unfold chkT2;rw [aC hd200]
   have hdl:ds.length≤200:=za;clear HE hd200;have HSTL:=HST;clear HST;go_wp2
   go_loopg [5] ds.length (DeRelT w RA rc rs UA uc us DA dc ds)
   case atStart=>exact ⟨HSTL.o,0,za,rfl,fun j hj=>absurd hj za⟩
   case round =>
    clear HSTL x1 x2 xs;obtain ⟨hst,q,hqm,rfl,hpre⟩:=hrel;have HST:=zq hst;have HQ:=zq hqm;have HP:=zq hpre;have hq1:q≤ds.length:=za;clear hqm hpre hst
    by_cases hlq:q<ds.length
    ·have x2:=HST.o.ti.c 2 rfl
     have xs:=HST.o.ti.lt;go_upto_region 20 with fail
     iterate 2 go_step
     refine fC _ _ zk w.heap.size 0 zk (tiC RA rc rs UA uc us DA dc ds).toList _ (zBZ HST.o.ti) Tryz.underlying26 rfl zc ?_
     go_wp2_with fail
     with_reducible refine (checkDeedR_c RA rc rs UA uc us DA dc ds q _ g (HRG.o.below HST.o.bel) (HU.o.below HST.o.bel) hul (HDE.o.below HST.o.bel) hlq hdl).mono ?_
     rintro e w3 ⟨rfl,hb3⟩;have HST3:=zq (HST.o.below hb3);clear x2 xs hb3 HST
     by_cases hdf:chkD rs us (ds.take q) ds[q]=0
     ·have HF:Hid (zCU rs us ds q=none):=by
       show _=_
       rw [deFault_of hlq,aC (fun h=>h hdf)]
      rw [hdf];clear hdf;go_wp2
      go_roundg (gk - 1)
      case measure=>have:=HQ.o;omega
      case rel =>
       refine ⟨HST3.o,q+1,by have:=HQ.o;omega,zi,fun j hj=>?_⟩
       rcases aU j q with h9 | h9
       ·exact HP.o j h9
       ·obtain rfl:j=q:=by omega
        exact HF.o
     ·have HS:Hid (res=chkD rs us (ds.take q) ds[q]):=by
       show _=_
       rw [←HE2.o,zAU hlq HP.o (x:=chkD rs us (ds.take q) ds[q]) (by rw [deFault_of hlq,aE hdf])]
      have hdb:(chkD rs us (ds.take q) ds[q] != 0)=true:=by simpa using hdf
      clear hdf;go_wp2;go_ret
      exact zAe.mk (zAx HS.o.symm) HST3.o.bel
    ·have HS:Hid (res=0):=by
      show _=_
      rw [←HE2.o,zBf (fun j hj=>HP.o j za)]
     have x2:=HST.o.ti.c 2 rfl;have xs:=HST.o.ti.lt;go_wp2;go_ret
     exact zAe.mk (zAx HS.o.symm) HST.o.bel
abbrev iiV (p:Int×Int):Value:=.tuple #[.int .i64 p.1,.int .i64 p.2]
theorem toR_snoc (l:List De) (x d:De):toR (l++[x]) d=if endsB d.id x=true then min (toR l d) x.bg else toR l d:=by
 unfold toR;rw [bU];rfl
def RunR (W:World) (ds:List De) (d:De) (m:Nat) (e i:Value) (wr:World):Prop :=
 ∃ q j,wr=W.drewN q∧j+m=ds.length∧i = .int .i64 (j:Nat)∧e = .int .i64 (toR (ds.take j) d)
theorem runsR_c (RA:Option Addr) (rc:Nat) (rs:List Rg) (UA:Option Addr) (uc:Nat) (us:List BA) (DA:Option Addr) (dc:Nat) (ds:List De) (k:Nat) (w:World) (hd:Des w DA ds) (hk:k<ds.length) (hdl:ds.length≤200) :
  Calls Tryz.prog 142 #[.agg (tiC RA rc rs UA uc us DA dc ds),.int .i64 k] w (zAe (iiV (cutR ds[k].bg (toR ds ds[k]))) w):=by
 obtain ⟨b,o,rfl,hb0,hc0⟩:=hd za;have hrg:=(hc0 k hk).1;obtain ⟨d,hdd⟩:∃ d,ds[k]=d:=⟨_,rfl⟩;rw [hdd] at hrg ⊢;have HC0:=zq hc0;clear hd hc0 hdd;have HX:Hid (Bx (w.alloc (.cells (tiC RA rc rs UA uc us (some ⟨b,o,none⟩) dc ds) 26)) w.heap.size (tiC RA rc rs UA uc us (some ⟨b,o,none⟩) dc ds) 26):=Bx.new _ _ _;have HB:Hid (Below w.heap.size w (w.alloc (.cells (tiC RA rc rs UA uc us (some ⟨b,o,none⟩) dc ds) 26))):=(aS _ _).alloc (aB _) _;obtain ⟨W,hW⟩:∃ W,W=w.alloc (.cells (tiC RA rc rs UA uc us (some ⟨b,o,none⟩) dc ds) 26):=⟨_,rfl⟩;rw [←hW] at HX HB
 go_enter Tryz.func142,Tryz.ntmps142
 go_upto_region 1 with fail
 rw [←hW];clear hW;have x2:W.cell? ⟨w.heap.size,2,none⟩=some (.slice (some ⟨b,o,none⟩) ds.length dc):=HX.o.c 2 rfl;have hsx:=HX.o.lt;have q0:W.cell? ⟨b,o+k*16,none⟩=some (.string d.id):=(HB.o.cell (p:=⟨b,o+k*16,none⟩) hb0).trans (hrg 0 _ rfl);have q11:W.cell? ⟨b,o+k*16+12,none⟩=some (.int .i64 d.bg):=(HB.o.cell (p:=⟨b,o+k*16+12,none⟩) hb0).trans (hrg 12 _ rfl);have q12:W.cell? ⟨b,o+k*16+13,none⟩=some (.int .i64 d.en):=(HB.o.cell (p:=⟨b,o+k*16+13,none⟩) hb0).trans (hrg 13 _ rfl);clear hrg
 go_quiet (fail)
 go_wp2
 go_loopg [7,8] ds.length (RunR W ds d)
 case atStart=>exact ⟨_,0,rfl,za,rfl,rfl⟩
 case round =>
  obtain ⟨q,j,rfl,hjm,rfl,rfl⟩:=hrel;have HJM:=zq hjm;have hjk:j≤ds.length:=za;clear hjm
  by_cases hlj:j<ds.length
  ·obtain ⟨pj,hpj⟩:∃ pj,ds[j]=pj:=⟨_,rfl⟩
   have hp:=(HC0.o j hlj).1;rw [hpj] at hp;have p2:W.cell? ⟨b,o+j*16+2,none⟩=some (.int .i64 pj.kd):=(HB.o.cell (p:=⟨b,o+j*16+2,none⟩) hb0).trans (hp 2 _ rfl);have p11:W.cell? ⟨b,o+j*16+12,none⟩=some (.int .i64 pj.bg):=(HB.o.cell (p:=⟨b,o+j*16+12,none⟩) hb0).trans (hp 12 _ rfl);have p15:W.cell? ⟨b,o+j*16+15,none⟩=some (.string pj.ot):=(HB.o.cell (p:=⟨b,o+j*16+15,none⟩) hb0).trans (hp 15 _ rfl)
   have HS:Hid (toR (ds.take (j+1)) d=if endsB d.id pj=true then min (toR (ds.take j) d) pj.bg else toR (ds.take j) d):=by
    show _=_
    rw [bM hlj,hpj,toR_snoc]
   generalize toR (ds.take j) d=te at HS;clear hp hpj
   by_cases hq:pj.kd=4
   ·have e1:(pj.kd == 4)=true:=by simpa using hq
    by_cases he:pj.ot=d.id
    ·have HT:Hid (toR (ds.take (j+1)) d=min te pj.bg):=by show _=_;rw [HS.o,aE (zCD.2 ⟨hq,he⟩)]
     have q1:=zAn he;clear hq he HS;go_wp2
     go_quiet (fail)
     go_wp2
     go_roundg (gk - 1)
     case measure=>have:=HJM.o;omega
     case rel=>exact ⟨_,j+1,rfl,zr,zi,by rw [HT.o]⟩
    ·have HT:Hid (toR (ds.take (j+1)) d=te):=by show _=_;rw [HS.o,aC (fun h=>he (zCD.1 h).2)]
     have q1:=zAm he;clear hq he HS;go_wp2
     go_quiet (fail)
     go_wp2
     go_roundg (gk - 1)
     case measure=>have:=HJM.o;omega
     case rel=>exact ⟨_,j+1,rfl,zr,zi,by rw [HT.o]⟩
   ·have e1:(pj.kd == 4)=false:=by simpa using hq
    have HT:Hid (toR (ds.take (j+1)) d=te):=by show _=_;rw [HS.o,aC (fun h=>hq (zCD.1 h).1)]
    clear hq HS;go_wp2
    go_quiet (fail)
    go_wp2
    go_roundg (gk - 1)
    case measure=>have:=HJM.o;omega
    case rel=>exact ⟨_,j+1,rfl,zr,zi,by rw [HT.o]⟩
  ·have hje:j=ds.length:=by omega
   rw [hje,bX];have HB2:=zq (zAd HB.o q);generalize hte:toR ds d=te;have HTE:=zq hte;clear hte;clear hjk;subst hje
   by_cases hle:te≤d.bg
   ·have HV:Hid (cutR d.bg te=(0,0)):=by show _=_;unfold cutR;rw [aE hle]
    have e1:decide (te≤d.bg)=true:=cW hle;clear hle;go_wp2;go_ret2
    exact zAe.mk (by rw [HTE.o,HV.o];rfl) HB2.o
   ·have HV:Hid (cutR d.bg te=(d.bg,te)):=by show _=_;unfold cutR;rw [aC hle]
    have e1:decide (te≤d.bg)=false:=cX hle;clear hle;go_wp2;go_ret2
    exact zAe.mk (by rw [HTE.o,HV.o];rfl) HB2.o
theorem find_at {α:Type} {p:α→Bool} {l:List α} {j:Nat} (hj:j<l.length) (h:p l[j]=true) (hn:∀ q (hq:q<l.length),q<j→p l[q]=false):l.find? p=some l[j]:=by
 rw [List.find?_eq_some_iff_getElem];exact ⟨h,j,hj,rfl,fun q hq=>by rw [hn q za hq];rfl⟩
theorem find_no {α:Type} {p:α→Bool} {l:List α} (hn:∀ q (hq:q<l.length),p l[q]=false):l.find? p=none:=by
 rw [List.find?_eq_none];intro x hx;obtain ⟨i,hi,rfl⟩:=aK hx;rw [hn i hi];simp
open Go.Shelf Go.RowKit Go.Lib Dw
end Go.Proofs.YtieoifkdobcpiaaGreatDoor
namespace Dw
open Go Go.RowKit
end Dw
namespace Go.Proofs.YtieoifkdobcpiaaGreatDoor
open Go.RowKit Dw
theorem elemDs:Tryz.prog.underlying 24=some (.slice (Tryz.prog.elem 24)):=zc
theorem run_cutToD (A:Option Addr) (n c k:Nat) (hk:k≤c) (W:World):(Instr.slice 24 (.slice A n c) none (some (.int .i64 (k:Int))) none).run Tryz.prog W = .ok (.slice A k c) W:=by
 have h0:(0:Int)≤(k:Int)∧(k:Int)≤(c:Int):=za;rw [run_slice_h (ht:=elemDs) (kh:=.i64) (h:=(k:Int)) (h0:=h0.1) (h2:=h0.2)];have hs:(sizeOf (Tryz.prog.elem 24)).run Tryz.prog W = .ok 16 W:=zc;rw [hs];have:(A.map fun x=>x.add 0)=A:=by cases A<;>simp [Addr.add]
 simp [sliced,Result.andThen,this]
theorem zAT.base {α:Type} {enc:α→List Value} {k:Nat} {w:World} {b b':Nat} {e:TypeId} {v:Value} {l:List α} (h:zAT enc k w b e v l) (hb:b'≤b):zAT enc k w b' e v l:=by
 refine ⟨h.1,?_⟩
 rcases h.2 with hn | ⟨g,cap,cur,hv,hg,rest⟩
 ·exact .inl hn
 ·exact .inr ⟨g,cap,cur,hv,za,rest⟩
theorem zDy {P:Program} {w:World} {α:Type} {enc:α→List Value} {k:Nat} {e:TypeId} {z:Value} {bytes:Nat} {ops:Array Oper} {o:Oper} {a:Act} {K:Act→World→Prop} {Q:Exit→Act→World→Prop} {E:Prop} (hgd:o.guard=none) (s x:Operand) (t:TypeId)
  (ho:o.op = .call { callee:=.builtin .append,args:=#[s,x],argTypes:=#[t,t] }) (hT:ElemT P t e z k bytes) (base:Nat) (v:Value) (l:List α) (hs:a.eval s=v) (hown:zAT enc k w base e v l)
  (bk c:Nat) (y:α) (hx:a.eval x = .slice (some ⟨bk,0,none⟩) 1 c) {cs:Array Value} {T:TypeId} {fr:Nat×Nat} (hblk:w.heap[bk]?=some (.cells cs T fr)) (hcs:cs.toList=enc y) (hk:(enc y).length=k) (hone:∀ u∈enc y,u.oneCell'=true)
  (hlen:l.length+1≤maxLen) (hbytes:(l.length+1)*bytes≤140737488355328) (hbase:base≤w.heap.size)
  (h:∀ g cap w',zAT enc k w' base e (.slice (some ⟨g,0,none⟩) (l.length+1) cap) (l++[y])→w.grownBy w' v.ownBlock→K (a.put o.dst (.slice (some ⟨g,0,none⟩) (l.length+1) cap)) w') :
  if Region.wanted o (yielded ops a.tmps)=true then Oper.wp P o a w K Q else E:=by
 obtain ⟨i,hi,hz0,hz1,hz2⟩:=info_parts hT.info;refine step_append_lies w hgd s x t ho base e i z k bytes hT.ty hi hz0 hz1 hz2 hT.zs hT.pos v l.length (l.flatMap enc) hs hown ⟨bk,0,none⟩ 1 c (enc y) hx (by rw [hk,Nat.one_mul]) ?_ hone za hlen hbytes hbase w.heap.size rfl ?_
 ·rw [←hcs];exact World.news_of_block hblk
 ·intro g cap w' h1 h2 _ _
  refine h g cap w' ?_ h2
  unfold zAT;rw [dA,List.flatMap_append]
  simpa using h1
theorem own_ne_type {α β:Type} {enc:α→List Value} {enc2:β→List Value} {k k2 b b2:Nat} {e e2:TypeId} {w:World} {v v2:Value} {l:List α} {l2:List β} (h:zAT enc k w b e v l) (h2:zAT enc2 k2 w b2 e2 v2 l2) (hne:e≠e2):v.ownBlock=none∨v.ownBlock≠v2.ownBlock:=by
 cases hv:v.ownBlock with
 | none=>exact .inl rfl
 | some q =>
  refine .inr fun he=>?_
  obtain ⟨_,cs,hc⟩:=zBA h hv;obtain ⟨_,cs2,hc2⟩:=zBA h2 he.symm;exact zAM hc hc2 hne rfl
theorem own_ne_mapJ {α:Type} {enc:α→List Value} {k b:Nat} {e:TypeId} {w:World} {v:Value} {l:List α} (h:zAT enc k w b e v l) {r:Nat} {f:BA→Option Value} (hm:zAA Value.string w r f):v.ownBlock=none∨v.ownBlock≠some r:=by
 cases hv:v.ownBlock with
 | none=>exact .inl rfl
 | some q =>
  refine .inr fun he=>?_
  obtain ⟨_,cs,hc⟩:=zBA h hv
  injection he with he
  exact zAj hm hc he
theorem own_far {α:Type} {enc:α→List Value} {k b:Nat} {e:TypeId} {w:World} {v:Value} {l:List α} (h:zAT enc k w b e v l) {g:Nat} {cs:Array Value} {t:TypeId} (hg:Bx w g cs t) (ht:e≠t) (i:Nat) (u:Value):zAT enc k (w.setCell ⟨g,i,none⟩ u) b e v l :=
 ownsRow_setCell_other h (fun e2=>by
  obtain ⟨_,cs2,hcs⟩:=zBA h e2;exact zAM hcs hg ht rfl) u
end Go.Proofs.YtieoifkdobcpiaaGreatDoor
namespace Dw
open Go Go.Proofs.YtieoifkdobcpiaaGreatDoor
section
variable {P:Program} {ops:Array Oper} {Q:Exit→Act→World→Prop} {md:Region.Mode} {S:Array Bool→World→Prop}
def anyL (P:Program) (md:Region.Mode) (ops:Array Oper) (Q:Exit→Act→World→Prop) (S:Array Bool→World→Prop):Nat→Array Bool→Act→World→Prop
 | 0,l,a,w=>Region.ready md ops l=[]∧Q .normal a w
 | n+1,l,a,w=>(Region.ready md ops l=[]→Q .normal a w) ∧
  ∀ i∈Region.ready md ops l,wpOp P ops Q i (fun a' w'=>S (l.setIfInBounds i true) w'∧anyL P md ops Q S n (l.setIfInBounds i true) a' w') a w
theorem anyL_any:∀ (n:Nat) (l:Array Bool) (a:Act) (w:World),anyL P md ops Q S n l a w→wpAny P md ops Q n l a w
 | 0,_,_,_,h=>h
 | n+1,_,_,_,h=>⟨h.1,fun i hi=>wpOp_mono (fun a' w' h'=>anyL_any n _ a' w' h'.2) (h.2 i hi)⟩
def ShutL (md:Region.Mode) (ops:Array Oper) (l:Array Bool):Prop:=∀ (j:Nat) (o:Oper),ops[j]?=some o→l.getD j false=true→∀ e∈o.after,Region.binds md e=true→l.getD e.on false=true
theorem ShutL.set {l:Array Bool} (h:ShutL md ops l) {j:Nat} (hj:j∈Region.ready md ops l):ShutL md ops (l.setIfInBounds j true):=fun k o ho hk e he hb=>by
 refine getD_set_true ?_
 by_cases hkj:j=k
 ·subst hkj
  obtain ⟨_,o',ho',hall⟩:=mem_ready.1 hj;rw [ho] at ho'
  injection ho' with ho'
  subst ho';exact hall e he hb
 ·rw [getD_set_ne false hkj] at hk
  exact h k o ho hk e he hb
theorem ShutL.start (n:Nat):ShutL md ops (Array.replicate n false):=fun j o _ hj=>by
 exfalso
 rw [Array.getD_eq_getD_getElem?,Array.getElem?_replicate] at hj
 split at hj<;>simp at hj
abbrev Ahead (md:Region.Mode) (ops:Array Oper) (S:Array Bool→World→Prop) (i:Nat):World→Prop:=fun w=>∃ l,ShutL md ops l∧l.getD i true=false∧S l w
theorem anyL_first {i:Nat} {oi:Oper} {v:Value} (hi:ops[i]?=some oi) (hsel:∀ (j:Nat) (o:Oper) cs b,ops[j]?=some o→o.op≠.select cs b)
  (hQ:∀ c a w,Q (.panic c) (a.put oi.dst v) w→Q (.panic c) a w) (hSi:∀ l w,S (l.setIfInBounds i true) w↔S l w) :
  ∀ (fuel:Nat) (l:Array Bool) (a:Act) (w:World),ShutL md ops l →
   (∀ j oj,ops[j]?=some oj→j≠i→l.getD j true=false→(∀ e∈oj.after,Region.binds md e=true→e.on≠i)→oi.apart ops oj=true) →
   i∈Region.ready md ops l→YieldsIf P ops (Ahead md ops S i) oi v a→S l w →
   anyL P md ops Q S fuel (l.setIfInBounds i true) (a.put oi.dst v) w→anyL P md ops Q S (fuel+1) l a w:=by
 intro fuel
 induction fuel with
 | zero =>
  intro l a w hsh _ hr hy hS H;refine ⟨fun h=>(by rw [h] at hr;cases hr),fun j hj=>?_⟩
  by_cases hji:j=i
  ·subst hji
   exact hy.wpOp hi ⟨l,hsh,(mem_ready.1 hr).1,hS⟩ ⟨(hSi _ _).2 hS,H⟩
  ·have:=ready_mono hj hji
   rw [H.1] at this
   cases this
 | succ fuel ih =>
  intro l a w hsh hfree hr hy hS H;refine ⟨fun h=>(by rw [h] at hr;cases hr),fun j hj=>?_⟩
  by_cases hji:j=i
  ·subst hji
   exact hy.wpOp hi ⟨l,hsh,(mem_ready.1 hr).1,hS⟩ ⟨(hSi _ _).2 hS,H⟩
  ·have h1:=H.2 j (ready_mono hj hji)
   obtain ⟨hjun,oj,hoj,hall⟩:=mem_ready.1 hj
   have hnot:∀ e∈oj.after,Region.binds md e=true→e.on≠i:=fun e he hb heq=>by
    have h1:=hall e he hb;have h0:=(mem_ready.1 hr).1;rw [heq] at h1
    rcases aU i l.size with h' | h'
    ·simp [h'] at h0 h1;rw [h0] at h1;cases h1
    ·simp [Array.getElem?_eq_none h'] at h1
   have h2:=wpOp_putIf hoj (hfree j oj hoj hji hjun hnot) (fun cs b=>hsel i oi cs b hi) (fun cs b=>hsel j oj cs b hoj) hQ hy h1
   have hfree':∀ k ok,ops[k]?=some ok→k≠i→(l.setIfInBounds j true).getD k true=false →
     (∀ e∈ok.after,Region.binds md e=true→e.on≠i)→oi.apart ops ok=true:=fun k ok hk hki hun hno=>by
    refine hfree k ok hk hki ?_ hno
    by_cases hjk:j=k
    ·subst hjk;exact hjun
    ·rw [getD_set_ne true hjk] at hun;exact hun
   refine wpOp_mono (fun a' w' h3=>?_) h2
   have hs3:S (l.setIfInBounds j true) w':=by
    have:=h3.2.1;rw [Array.setIfInBounds_comm _ _ (fun e=>hji e.symm)] at this
    exact (hSi _ _).1 this
   refine ⟨hs3,ih (l.setIfInBounds j true) a' w' (hsh.set hj) hfree' (ready_mono hr (Ne.symm hji)) h3.1 hs3 ?_⟩
   rw [Array.setIfInBounds_comm _ _ hji];exact h3.2.2
theorem zBR {i:Nat} {oi:Oper} {v:Value} {fuel:Nat} {l:Array Bool} {a:Act} {w:World} (hi:ops[i]?=some oi)
  (hs:Region.noSelect ops=true) (hf:Region.free md ops l i=true) (hr:(Region.ready md ops l).contains i=true)
  (hQ:∀ c a w,Q (.panic c) (a.put oi.dst v) w→Q (.panic c) a w) (hSi:∀ l w,S (l.setIfInBounds i true) w↔S l w) (hsh:ShutL md ops l) (hy:YieldsIf P ops (Ahead md ops S i) oi v a) (hS:S l w)
  (h:ShutL md ops (l.setIfInBounds i true)→S (l.setIfInBounds i true) w→anyL P md ops Q S fuel (l.setIfInBounds i true) (a.put oi.dst v) w):anyL P md ops Q S (fuel+1) l a w :=
 anyL_first hi (Region.noSelect_spec hs) hQ hSi fuel l a w hsh (Region.free_spec hi hf) jz hy hS (h (hsh.set jz) ((hSi _ _).2 hS))
def zCz (P:Program) (md:Region.Mode) (ops:Array Oper) (Q:Exit→Act→World→Prop) (S:Array Bool→World→Prop) (fuel:Nat) (l:Array Bool) (a:Act) (w:World) (rs:List Nat):Prop :=
 ∀ i∈rs,wpOp P ops Q i (fun a' w'=>S (l.setIfInBounds i true) w'∧anyL P md ops Q S fuel (l.setIfInBounds i true) a' w') a w
theorem zCz.nil {fuel:Nat} {l:Array Bool} {a:Act} {w:World}:zCz P md ops Q S fuel l a w []:=fun _ h=>j2
theorem zCz.cons {fuel:Nat} {l:Array Bool} {a:Act} {w:World} {i:Nat} {o:Oper} {rs:List Nat} (ho:ops[i]?=some o)
  (h:∀ K':Act→World→Prop,Shut (∀ a w,S (l.setIfInBounds i true) w→(S (l.setIfInBounds i true) w→anyL P md ops Q S fuel (l.setIfInBounds i true) a w)→K' a w)→if Region.wanted o (yielded ops a.tmps)=true then Oper.wp P o a w K' Q else K' (a.put o.dst undef) w)
  (hs:zCz P md ops Q S fuel l a w rs):zCz P md ops Q S fuel l a w (i::rs):=fun j hj=>by
 rcases List.mem_cons.1 hj with rfl | hj
 ·exact wpOp_step ho (fun K' hK=>h K' (fun a w hS hW=>hK a w ⟨hS,hW hS⟩))
 ·exact hs j hj
theorem zAE {rs:List Nat} {fuel:Nat} {l:Array Bool} {a:Act} {w:World} (hr:Region.ready md ops l=rs) (hne:rs≠[]) (h:zCz P md ops Q S fuel l a w rs):anyL P md ops Q S (fuel+1) l a w :=
 ⟨fun h0=>absurd (hr▸h0) hne,hr▸h⟩
theorem anyL_done {l:Array Bool} {a:Act} {w:World} (hr:Region.ready md ops l=[]) (h:Q .normal a w):∀ fuel,anyL P md ops Q S fuel l a w
 | 0=>⟨hr,h⟩
 | _+1=>⟨fun _=>h,by rw [hr];simp⟩
theorem wp_region_late {id:Nat} {a:Act} {w:World} (hm:P.follows .mixedOrders=true) (hS:S (Array.replicate ops.size false) w.drew)
  (h:ShutL .any ops (Array.replicate ops.size false)→S (Array.replicate ops.size false) w.drew→anyL P .any ops Q S ops.size (Array.replicate ops.size false) a w.drew):(Code.region id ops true).wp P Q a w :=
 wp_region_any hm (anyL_any _ _ _ _ (h (ShutL.start _) hS))
theorem ShutL.back {l:Array Bool} (h:ShutL .any ops l) {i j:Nat} (hd:depB ops i j=true) (hj:l.getD j false=false):l.getD i false=false:=by
 cases hli:l.getD i false with
 | false=>rfl
 | true =>
  have h2:l.getD j false=true:=zBq (done:=fun k=>l.getD k false) hd (fun o ho e he hb=>h i o ho hli e he hb)
  rw [hj] at h2
  cases h2
theorem getD_ft {l:Array Bool} {j:Nat} (h:l.getD j true=false):l.getD j false=false:=by
 rw [Array.getD_eq_getD_getElem?] at h ⊢
 cases he:l[j]? with
 | none=>rfl
 | some b=>rw [he] at h;simpa using h
end
end Dw
namespace Go.Proofs.YtieoifkdobcpiaaGreatDoor
open Go.RowKit Dw
abbrev wvC (RA:Option Addr) (rc r1 r2 g1 g2:Nat) (AL:Option Addr) (cL:Nat) (rs:List Rg):Array Value :=
 #[.slice RA rs.length rc,.map (some r1),.slice AL (zCt rs (fun i=>!zAL rs i) rs.length).length cL,.map (some r2),.slice (some ⟨g1,0,none⟩) rs.length rs.length,.slice (some ⟨g2,0,none⟩) rs.length rs.length]
theorem wv_eq (RA:Option Addr) (rc r1 r2 g1 g2:Nat) (AL:Option Addr) (cL:Nat) (rs:List Rg):wv RA rc r1 r2 g1 g2 AL cL rs = .agg (wvC RA rc r1 r2 g1 g2 AL cL rs):=rfl
abbrev lgC (RA:Option Addr) (rc:Nat) (rs:List Rg) (UA:Option Addr) (uc:Nat) (us:List BA) (DA:Option Addr) (dc many r1 r2 g1 g2:Nat) (AL:Option Addr) (cL:Nat) (vr vi:Value):Array Value :=
 #[.slice RA rs.length rc,.slice UA us.length uc,.slice DA many dc,.slice RA rs.length rc,.map (some r1),.slice AL (zCt rs (fun i=>!zAL rs i) rs.length).length cL,.map (some r2),.slice (some ⟨g1,0,none⟩) rs.length rs.length,.slice (some ⟨g2,0,none⟩) rs.length rs.length,vr,vi]
abbrev spC (p:Int×Int):Array Value:=#[.int .i64 p.1,.int .i64 p.2]
abbrev eRun:Int×Int→List Value:=fun p=>[.int .i64 p.1,.int .i64 p.2]
abbrev eIn:Value×List Bool→List Value:=fun x=>[x.1]
theorem elRun:ElemT Tryz.prog 128 138 (.agg #[.int .i64 0,.int .i64 0]) 2 16:=⟨Tryz.underlying128,zc,rfl,zd⟩
theorem elIn:ElemT Tryz.prog 109 113 (.slice none 0 0) 1 24:=⟨Tryz.underlying109,zc,rfl,zd⟩
theorem oneRun (p:Int×Int):∀ u∈eRun p,u.oneCell'=true:=zy
def InS (w:World) (x:Value) (M:List Bool):Prop:=(x = .slice none 0 0∧M=[])∨∃ go c,x = .slice (some ⟨go,0,none⟩) M.length c∧w.heap[go]?=some (.cells (bArr M M.length) 4 (0,0))
theorem InS.one {w:World} {x:Value} {M:List Bool} (h:InS w x M):x.oneCell'=true:=by
 rcases h with ⟨rfl,_⟩ | ⟨_,_,rfl,_⟩<;>rfl
theorem InS.keep {w w':World} {x:Value} {M:List Bool} (h:InS w x M) (hk:∀ (g:Nat) (cs:Array Value),w.heap[g]?=some (Obj.cells cs 4 (0,0))→w'.heap[g]?=w.heap[g]?):InS w' x M :=
 h.imp id fun ⟨go,c,e,hg⟩=>⟨go,c,e,(hk go _ hg).trans hg⟩
theorem InS.below {w w':World} {x:Value} {M:List Bool} (h:InS w x M) (hb:Below w.heap.size w w'):InS w' x M:=h.keep fun g _ hg=>hb.block g (zAi hg)
def insM (rs:List Rg) (d:De):List Bool:=if zAh d.kd=true then inL rs d.ar else []
structure LS (W1:World) (C:Value→Value→Array Value) (L r:Nat) (f:BA→Option Value) (cr ci vr vi:Value) (runs:List (Int×Int)) (ins:List (Value×List Bool)) (w:World):Prop where
 bel:Below W1.heap.size W1 w
 lo:W1.heap.size≤L
 lg:Bx w L (C cr ci) 130
 rlo:W1.heap.size≤r
 mp:zAA Value.string w r f
 rn:zAT eRun 2 w W1.heap.size 138 vr runs
 ns:zAT eIn 1 w W1.heap.size 113 vi ins
 el:∀ x∈ins,InS w x.1 x.2
section
variable {W1 w w':World} {C:Value→Value→Array Value} {L r:Nat} {f:BA→Option Value} {cr ci vr vi v':Value} {runs:List (Int×Int)} {ins:List (Value×List Bool)}
theorem LS.below (h:LS W1 C L r f cr ci vr vi runs ins w) (hb:Below w.heap.size w w'):LS W1 C L r f cr ci vr vi runs ins w' :=
 ⟨zAa h.bel hb,h.lo,h.lg.below hb,h.rlo,h.mp.below hb,h.rn.below hb,h.ns.below hb,fun x hx=>(h.el x hx).below hb⟩
theorem LS.drewN (h:LS W1 C L r f cr ci vr vi runs ins w) (n:Nat):LS W1 C L r f cr ci vr vi runs ins (w.drewN n):=h.below (zAd (aS _ _) n)
theorem LS.drew (h:LS W1 C L r f cr ci vr vi runs ins w):LS W1 C L r f cr ci vr vi runs ins w.drew:=h.drewN 1
theorem zCi {g:Nat} {cs:Array Value} {T e:TypeId} {α:Type} {enc:α→List Value} {k b:Nat} {v:Value} {l:List α} (h:Bx w g cs T) (ho:zAT enc k w b e v l) (hne:T≠e) (hg:w.grownBy w' v.ownBlock):Bx w' g cs T:=by
 show w'.heap[g]?=_
 rw [hg.block g h.lt fun e2=>by
  obtain ⟨_,cs2,hc⟩:=zBA ho e2.symm;exact zAM h hc hne rfl]
 exact h
theorem map_grown {f:BA→Option Value} {α:Type} {enc:α→List Value} {k b:Nat} {e:TypeId} {v:Value} {l:List α} (h:zAA Value.string w r f) (ho:zAT enc k w b e v l) (hg:w.grownBy w' v.ownBlock):zAA Value.string w' r f :=
 h.keep (hg.block r h.lt fun e2=>by
  obtain ⟨_,cs2,hc⟩:=zBA ho e2.symm;exact zAj h hc rfl)
theorem zDX {α:Type} {enc:α→List Value} {k b:Nat} {e:TypeId} {v x:Value} {l:List α} {M:List Bool} (h:InS w x M) (ho:zAT enc k w b e v l) (hne:4≠e) (hg:w.grownBy w' v.ownBlock):InS w' x M :=
 h.keep fun g cs hc=>hg.block g (zAi hc) fun e2=>by
  obtain ⟨_,cs2,hc2⟩:=zBA ho e2.symm;exact zAM hc hc2 hne rfl
theorem own_base {α:Type} {enc:α→List Value} {k b:Nat} {e:TypeId} {v:Value} {l:List α} (ho:zAT enc k w b e v l):∀ q,v.ownBlock=some q→b≤q:=fun _q hq=>(zBA ho hq).1
theorem LS.pushR (h:LS W1 C L r f cr ci vr vi runs ins w) {p:Int×Int} (hn:zAT eRun 2 w' W1.heap.size 138 v' (runs++[p])) (hg:w.grownBy w' vr.ownBlock):LS W1 C L r f cr ci v' vi (runs++[p]) ins w' :=
 ⟨h.bel.grown hg h.bel.size (own_base h.rn),h.lo,zCi h.lg h.rn zd hg,h.rlo,map_grown h.mp h.rn hg,hn,h.ns.grown hg (own_ne_type h.ns h.rn zd),fun x hx=>zDX (h.el x hx) h.rn zd hg⟩
theorem LS.pushI (h:LS W1 C L r f cr ci vr vi runs ins w) {x:Value×List Bool} (hx:InS w x.1 x.2) (hn:zAT eIn 1 w' W1.heap.size 113 v' (ins++[x])) (hg:w.grownBy w' vi.ownBlock):LS W1 C L r f cr ci vr v' runs (ins++[x]) w' :=
 ⟨h.bel.grown hg h.bel.size (own_base h.ns),h.lo,zCi h.lg h.ns zd hg,h.rlo,map_grown h.mp h.ns hg,h.rn.grown hg (own_ne_type h.rn h.ns zd),hn,fun y hy=>by
  rcases List.mem_append.1 hy with hy | hy
  ·exact zDX (h.el y hy) h.ns zd hg
  ·rw [List.mem_singleton.1 hy];exact zDX hx h.ns zd hg⟩
theorem LS.set (h:LS W1 C L r f cr ci vr vi runs ins w) {i:Nat} {u cr' ci':Value} (hC:(C cr ci).setIfInBounds i u=C cr' ci'):LS W1 C L r f cr' ci' vr vi runs ins (w.setCell ⟨L,i,none⟩ u) :=
 ⟨h.bel.setCell h.lo _,h.lo,by rw [←hC];exact h.lg.set i u,h.rlo,h.mp.setCell (zAj h.mp h.lg).symm _,own_far h.rn h.lg zd i u,own_far h.ns h.lg zd i u,fun x hx=>(h.el x hx).keep fun g cs hc=>cR _ _ _ _ (zAM hc h.lg zd)⟩
theorem LS.far (h:LS W1 C L r f cr ci vr vi runs ins w) {g i:Nat} {cs:Array Value} {T:TypeId} {u:Value} (hg:Bx w g cs T) (hlo:W1.heap.size≤g) (h1:T≠130) (h3:T≠113) (h4:T≠4) (hr:vr.ownBlock≠some g):LS W1 C L r f cr ci vr vi runs ins (w.setCell ⟨g,i,none⟩ u) :=
 ⟨h.bel.setCell hlo _,h.lo,h.lg.far (show L≠g from zAM h.lg hg (fun e=>h1 e.symm)) _,h.rlo,h.mp.setCell (zAj h.mp hg).symm _,ownsRow_setCell_other h.rn hr _,own_far h.ns hg (fun e=>h3 e.symm) i u,fun x hx=>(h.el x hx).keep fun _g2 _cs2 hc=>cR _ _ _ _ (zAM hc hg (fun e=>h4 e.symm))⟩
theorem LS.upd {f':BA→Option Value} (h:LS W1 C L r f cr ci vr vi runs ins w) (hm:zAA Value.string w' r f') (hg:w.grownBy w' (some r)):LS W1 C L r f' cr ci vr vi runs ins w' :=
 ⟨h.bel.grown hg h.bel.size (fun k hk=>by injection hk with hk;rw [←hk];exact h.rlo),h.lo,by
  show w'.heap[L]?=_
  rw [hg.block L h.lg.lt (by simp;exact zAj h.mp h.lg)]
  exact h.lg,h.rlo,hm,h.rn.grown hg (own_ne_mapJ h.rn h.mp),h.ns.grown hg (own_ne_mapJ h.ns h.mp),fun x hx=>(h.el x hx).keep fun g cs hc=>hg.block g (zAi hc) (by simp;exact zAj h.mp hc)⟩
end
theorem chkD_kind {rs:List Rg} {us:List BA} {pre:List De} {d:De} (h:chkD rs us pre d=0):(1≤d.kd∧d.kd≤5)∧(zAh d.kd=true→zDw rs d.ar=0):=by
 unfold chkD at h
 split at h
 ·cases h
 split at h
 ·cases h
 split at h
 ·cases h
 split at h
 ·cases h
 split at h
 ·cases h
 next hk =>
 split at h
 ·cases h
 refine ⟨za,fun hg=>?_⟩
 rw [aE hg] at h;unfold giftF at h
 split at h
 ·cases h
 split at h
 ·cases h
 split at h
 ·next h1=>exact absurd h h1
 split at h
 ·next h1=>exact absurd h h1
 next ha=>simpa using ha
theorem chkT_kind {rs:List Rg} {us:List BA} {ds:List De} (h:zCI rs us ds=0):∀ d∈ds,(1≤d.kd∧d.kd≤5)∧(zAh d.kd=true→zDw rs d.ar=0):=fun d hd=>by
 obtain ⟨i,hi,rfl⟩:=aK hd;exact chkD_kind ((zAZ h).2 i hi)
theorem fldC_p1 (W:World):(Instr.field 135 (.agg (fldC 1)) 5).run Tryz.prog W = .ok (.bool (zAh 1)) W:=zc
theorem fldC_p2 (W:World):(Instr.field 135 (.agg (fldC 2)) 5).run Tryz.prog W = .ok (.bool (zAh 2)) W:=zc
theorem fldC_p3 (W:World):(Instr.field 135 (.agg (fldC 3)) 5).run Tryz.prog W = .ok (.bool (zAh 3)) W:=zc
theorem fldC_p4 (W:World):(Instr.field 135 (.agg (fldC 4)) 5).run Tryz.prog W = .ok (.bool (zAh 4)) W:=zc
theorem fldC_p5 (W:World):(Instr.field 135 (.agg (fldC 5)) 5).run Tryz.prog W = .ok (.bool (zAh 5)) W:=zc
theorem fldC_place (k:Int) (h:1≤k∧k≤5) (W:World):(Instr.field 135 (.agg (fldC k)) 5).run Tryz.prog W = .ok (.bool (zAh k)) W:=by
 have h5:k=1∨k=2∨k=3∨k=4∨k=5:=za
 rcases h5 with rfl | rfl | rfl | rfl | rfl
 ·exact fldC_p1 W
 ·exact fldC_p2 W
 ·exact fldC_p3 W
 ·exact fldC_p4 W
 ·exact fldC_p5 W
theorem tMapE:Tryz.prog.underlying 106=some (.map 9 3):=Tryz.underlying106
abbrev endM (l:List De):BA→Option Value:=fun x=>(endAt l x).map (Value.int .i64)
theorem endM_nil:endM []=fun _=>none:=rfl
theorem endM_skip {l:List De} {d:De} (h:d.kd≠4):endM (l++[d])=endM l:=by
 funext x
 show (endAt (l++[d]) x).map _=(endAt l x).map _
 rw [endAt_snoc,aC (fun hh=>h (zCD.1 hh).1)]
theorem endM_push {l:List De} {d:De} (h:d.kd=4):endM (l++[d])=fun x=>if x=d.ot then some (.int .i64 d.bg) else endM l x:=by
 funext x
 show (endAt (l++[d]) x).map _=_
 rw [endAt_snoc]
 by_cases hx:x=d.ot
 ·rw [aE hx,aE (zCD.2 ⟨h,hx.symm⟩)];rfl
 ·rw [aC hx,aC (fun hh=>hx (zCD.1 hh).2.symm)]
end Go.Proofs.YtieoifkdobcpiaaGreatDoor
