/- The reference's checkDeed = chkD. The reference's Check of a title = chkT. -/
import Derived.Test.YtoaelidmmcbkfaaGreatDoorSr33
import Derived.Test.YtoaelidmmcbkfaaGreatDoorSr34
import Derived.Test.YtoaelidmmcbkfaaGreatDoorSr35
import Derived.Test.YtoaelidmmcbkfaaGreatDoorSr36
import Derived.Test.YtoaelidmmcbkfaaGreatDoorSr37
set_option maxRecDepth 100000
set_option maxHeartbeats 8000000
namespace Go.Proofs.YtoaelidmmcbkfaaGreatDoor
open Go.RowKit Dw
theorem checkDeedR_c (RA:Option Addr) (rc:Nat) (rs:List Rg) (UA:Option Addr) (uc:Nat) (us:List BA) (DA:Option Addr) (dc:Nat) (ds:List De) (k:Nat) (w:World) (g:GoodR rs) (hr:Rgs w RA rs) (hu:Strs w UA us) (hul:us.length≤1000000) (hd:Des w DA ds) (hk:k<ds.length) (hdl:ds.length≤200) :
  Calls Tryz.prog 56 #[.agg (tiC RA rc rs UA uc us DA dc ds),.int .i64 k] w (zAd (.int .i64 (chkD rs us (ds.take k) ds[k])) w):=by
 by_cases h0:ds[k].kd<1∨5<ds[k].kd
 ·exact checkDeed_x RA rc rs UA uc us DA dc ds k w g hr hu hul hd hk hdl h0
 ·by_cases h1:ds[k].kd=1
  ·exact checkDeed_b RA rc rs UA uc us DA dc ds k w g hr hu hul hd hk hdl h1
  ·by_cases h5:ds[k].kd=5
   ·exact checkDeed_z RA rc rs UA uc us DA dc ds k w g hr hu hul hd hk hdl h5
   ·by_cases h4:ds[k].kd=4
    ·exact checkDeed_e RA rc rs UA uc us DA dc ds k w g hr hu hul hd hk hdl h4
    ·exact checkDeed_g RA rc rs UA uc us DA dc ds k w g hr hu hul hd hk hdl za
structure TS (w:World) (RA:Option Addr) (rc:Nat) (rs:List Rg) (UA:Option Addr) (uc:Nat) (us:List BA) (DA:Option Addr) (dc:Nat) (ds:List De) (W:World):Prop where
 bel:Below w.heap.size w W
 ti:Bx W w.heap.size (tiC RA rc rs UA uc us DA dc ds) 26
section
variable {w W W':World} {RA:Option Addr} {rc:Nat} {rs:List Rg} {UA:Option Addr} {uc:Nat} {us:List BA} {DA:Option Addr} {dc:Nat} {ds:List De}
theorem TS.below (h:TS w RA rc rs UA uc us DA dc ds W) (hb:Below W.heap.size W W'):TS w RA rc rs UA uc us DA dc ds W':=⟨zAb h.bel hb,h.ti.below hb⟩
theorem TS.drewN (h:TS w RA rc rs UA uc us DA dc ds W) (n:Nat):TS w RA rc rs UA uc us DA dc ds (W.drewN n):=h.below (zAc (bS _ _) n)
end
def chkT2 (rs:List Rg) (us:List BA) (ds:List De):Int:=if 200<ds.length then 2 else match (List.range ds.length).findSome? (zCy rs us ds) with
  | some f=>f
  | none=>0
theorem chkT_un {rs:List Rg} {us:List BA} {ds:List De} {k:Nat} {f:Int} (h0:zEd rs=0) (h1:us≠[]) (h2:¬ 20<us.length) (hk:k<us.length) (hp:∀ j,j<k→zBs us j=none) (hf:zBs us k=some f):chkT rs us ds=f:=by
 unfold chkT;rw [aC (fun h=>h h0),aC h1,aC h2,zAZ hk hp hf]
theorem chkT_de {rs:List Rg} {us:List BA} {ds:List De} (h0:zEd rs=0) (h1:us≠[]) (h2:¬ 20<us.length) (hp:∀ j,j<us.length→zBs us j=none):chkT rs us ds=chkT2 rs us ds:=by
 unfold chkT chkT2;rw [aC (fun h=>h h0),aC h1,aC h2,zBk hp]
 rfl
theorem deFault_of {rs:List Rg} {us:List BA} {ds:List De} {k:Nat} (hk:k<ds.length):zCy rs us ds k=if chkD rs us (ds.take k) ds[k]≠0 then some (chkD rs us (ds.take k) ds[k]) else none:=by
 unfold zCy;rw [show ds.getD k default=ds[k] by simp [List.getD,hk]]
def UnRelT (w:World) (RA:Option Addr) (rc:Nat) (rs:List Rg) (UA:Option Addr) (uc:Nat) (us:List BA) (DA:Option Addr) (dc:Nat) (ds:List De) (m:Nat) (i:Value) (wr:World):Prop :=
 TS w RA rc rs UA uc us DA dc ds wr∧∃ k:Nat,k+m=us.length∧i = .int .i64 k∧∀ j,j<k→zBs us j=none
def DeRelT (w:World) (RA:Option Addr) (rc:Nat) (rs:List Rg) (UA:Option Addr) (uc:Nat) (us:List BA) (DA:Option Addr) (dc:Nat) (ds:List De) (m:Nat) (i:Value) (wr:World):Prop :=
 TS w RA rc rs UA uc us DA dc ds wr∧∃ k:Nat,k+m=ds.length∧i = .int .i64 k∧∀ j,j<k→zCy rs us ds j=none
theorem CheckTR_c (RA:Option Addr) (rc:Nat) (rs:List Rg) (UA:Option Addr) (uc:Nat) (us:List BA) (DA:Option Addr) (dc:Nat) (ds:List De) (w:World)
  (hr:Rgs w RA rs) (hu:Strs w UA us) (hd:Des w DA ds) (hz:∀ i (h:i<rs.length),(rs[i]).nm.size≤9223372036854775807) (hz2:∀ i (h:i<us.length),(us[i]).size≤9223372036854775807) :
  Calls Tryz.prog 18 #[.agg (tiC RA rc rs UA uc us DA dc ds)] w (zAd (.int .i64 (chkT rs us ds)) w):=by
 generalize hres:chkT rs us ds=res;have HR:=zq hres;clear hres;have HST:Hid (TS w RA rc rs UA uc us DA dc ds (w.alloc (.cells (tiC RA rc rs UA uc us DA dc ds) 26))):=⟨(bS w.heap.size w).alloc (aB _) _,Bx.new _ _ _⟩;obtain ⟨W,hW⟩:∃ W,W=w.alloc (.cells (tiC RA rc rs UA uc us DA dc ds) 26):=⟨_,rfl⟩;rw [←hW] at HST;have HRG:=zq hr;have HU:=zq hu;have HDE:=zq hd;clear hr hu hd
 go_enter Tryz.func18,Tryz.ntmps18
 go_upto_region 1 with fail
 rw [←hW];clear hW;have x0:=HST.o.ti.c 0 rfl;have xs:=HST.o.ti.lt
 go_wp2_with fail
 refine (CheckRegionsR_c RA rc rs W (HRG.o.below HST.o.bel) hz).mono ?_
 rintro e w1 ⟨rfl,nd,rfl⟩;have HST1:=zq (HST.o.drewN nd);clear x0 xs HST hz
 by_cases hcr:zEd rs=0
 case neg =>
  have hcb:(zEd rs != 0)=true:=by simpa using hcr
  have HS:Hid (res=zEd rs):=by
   show _=_
   rw [←HR.o];unfold chkT;rw [aE hcr]
  clear hcr HR;go_wp2;go_ret
  exact zAd.mk (zAC HS.o.symm) HST1.o.bel
 have HCR:=zq hcr;have g:=good_of hcr;rw [hcr];clear hcr;have x1:=HST1.o.ti.c 1 rfl;have xs:=HST1.o.ti.lt
 by_cases hu0:us=[]
 ·have hlb:((us.length:Int) == 0)=true:=by rw [hu0];rfl
  have HS:Hid (res=9):=by
   show _=_
   rw [←HR.o];unfold chkT;rw [aC (fun h=>h HCR.o),aE hu0]
  clear hu0 HR;go_wp2;go_ret
  exact zAd.mk (zAC HS.o.symm) HST1.o.bel
 have hup:0<us.length:=List.length_pos_iff.2 hu0;have hlb:((us.length:Int) == 0)=false:=ja;have HU0:=zq hu0;clear hu0
 by_cases hu20:20<us.length
 ·have HS:Hid (res=2):=by
   show _=_
   rw [←HR.o];unfold chkT;rw [aC (fun h=>h HCR.o),aC HU0.o,aE hu20]
  have h20:(20:Int)<(us.length:Int):=za;clear hu20 HR;go_wp2;go_ret
  exact zAd.mk (zAC HS.o.symm) HST1.o.bel
 have h20:¬ (20:Int)<(us.length:Int):=za;have HH:Hid (∀ k f,k<us.length→(∀ j,j<k→zBs us j=none)→zBs us k=some f→res=f):=fun k f hk hp hf=>by rw [←HR.o];exact chkT_un HCR.o HU0.o hu20 hk hp hf
 have HN:Hid ((∀ j,j<us.length→zBs us j=none)→res=chkT2 rs us ds):=fun hp=>by rw [←HR.o];exact chkT_de HCR.o HU0.o hu20 hp
 have hul:us.length≤1000000:=za;have HZ2:=zq hz2;clear hu20 HR hz2;obtain ⟨b,o,hA,hbu,hcu⟩:=HU.o.at_ hup;have HCU:=zq hcu;have HA:=zq hA;clear hcu hA;go_wp2
 go_loopg [4] us.length (UnRelT w RA rc rs UA uc us DA dc ds)
 case atStart=>exact ⟨HST1.o,0,za,rfl,fun j hj=>absurd hj za⟩
 case round =>
  clear HST1 x1 xs;obtain ⟨hst,k,hkm,rfl,hpre⟩:=hrel;have HST:=zq hst;have HK:=zq hkm;have HP:=zq hpre;have hk1:k≤us.length:=za;clear hkm hpre hst;have x1:wr.cell? ⟨w.heap.size,1,none⟩=some (.slice (some ⟨b,o,none⟩) us.length uc):=by rw [←HA.o];exact HST.o.ti.c 1 rfl
  have xs:=HST.o.ti.lt
  by_cases hlt:k<us.length
  ·have hc0:wr.cell? ⟨b,o+k,none⟩=some (.string us[k]):=(HST.o.bel.cell hbu).trans (HCU.o k hlt)
   have hzk:=HZ2.o k hlt
   go_wp2_with fail
   with_reducible refine (zBy us[k] _ hzk).mono ?_
   rintro e w2 ⟨rfl,rfl⟩
   cases hnm:zBA us[k] with
   | false =>
    have HS:Hid (res=5):=HH.o k 5 hlt HP.o (by unfold zBs;rw [zCH hlt,aE hnm])
    clear hnm;go_wp2;go_ret
    exact zAd.mk (zAC HS.o.symm) HST.o.bel
   | true =>
    have HNM:=zq hnm;clear hnm
    by_cases hk0:0<k
    case pos =>
     have zp:wr.cell? ⟨b,o+(k - 1),none⟩=some (.string (us[k - 1]'(by omega))):=(HST.o.bel.cell hbu).trans (HCU.o (k - 1) za)
     have hd:decide ((0:Int)<(k:Int))=true:=zg;have hd0:decide ((0:Int)≤(k:Int) - 1)=true:=zg
     cases hle:sle us[k] (us[k - 1]'(by omega)) with
     | true =>
      have HS:Hid (res=8):=HH.o k 8 hlt HP.o qr;unfold sle at hle;go_wp2
      go_quiet (fail)
      go_wp2;go_ret
      exact zAd.mk (zAC HS.o.symm) (HST.o.drewN _).bel
     | false =>
      have HF:Hid (zBs us k=none):=by
       show _=_
       unfold zBs;rw [zCH hlt,zCH (show k - 1<us.length by omega),aC qu,aC (fun hh=>xc)]
      unfold sle at hle;go_wp2
      go_quiet (fail)
      go_wp2
      go_roundg (gk - 1)
      case measure=>have:=HK.o;omega
      case rel =>
       refine ⟨HST.o.drewN _,k+1,zl,zn,fun j hj=>?_⟩
       rcases bO j k with h9 | h9
       ·exact HP.o j h9
       ·obtain rfl:j=k:=by omega
        exact HF.o
    case neg =>
     have hd:decide ((0:Int)<(k:Int))=false:=zg
     have HF:Hid (zBs us k=none):=by
      show _=_
      unfold zBs;rw [zCH hlt,aC qu,aC (fun hh=>hk0 hh.1)]
     go_wp2
     go_quiet (fail)
     go_wp2
     go_roundg (gk - 1)
     case measure=>have:=HK.o;omega
     case rel =>
      refine ⟨HST.o.drewN _,k+1,zl,zn,fun j hj=>?_⟩
      rcases bO j k with h9 | h9
      ·exact HP.o j h9
      ·obtain rfl:j=k:=by omega
       exact HF.o
  ·have hke:k=us.length:=by omega
   have HE:Hid (chkT2 rs us ds=res):=(HN.o (by rw [←hke];exact HP.o)).symm
   have x2:=HST.o.ti.c 2 rfl;clear HK HP HN HH HCU hk1 hbu
   by_cases hd200:200<ds.length
   ·have HS:Hid (res=2):=by show _=_;rw [←HE.o];unfold chkT2;rw [aE hd200]
    have h200:(200:Int)<(ds.length:Int):=za;clear hd200;go_wp2;go_ret
    exact zAd.mk (zAC HS.o.symm) HST.o.bel
   have h200:¬ (200:Int)<(ds.length:Int):=za
   have HE2:Hid ((match (List.range ds.length).findSome? (zCy rs us ds) with
     | some f=>f
     | none=>0)=res):=by
    show _=_
    rw [←HE.o];unfold chkT2;rw [aC hd200]
   have hdl:ds.length≤200:=za;clear HE hd200;have HSTL:=HST;clear HST;go_wp2
   go_loopg [5] ds.length (DeRelT w RA rc rs UA uc us DA dc ds)
   case atStart=>exact ⟨HSTL.o,0,za,rfl,fun j hj=>absurd hj za⟩
   case round =>
    clear HSTL x1 x2 xs;obtain ⟨hst,q,hqm,rfl,hpre⟩:=hrel;have HST:=zq hst;have HQ:=zq hqm;have HP:=zq hpre;have hq1:q≤ds.length:=za;clear hqm hpre hst
    by_cases hlq:q<ds.length
    ·have x2:=HST.o.ti.c 2 rfl
     have xs:=HST.o.ti.lt;go_upto_region 20 with fail
     iterate 2 go_step
     refine eA _ _ zo w.heap.size 0 zo (tiC RA rc rs UA uc us DA dc ds).toList _ (rangeB HST.o.ti) Tryz.underlying26 rfl zb ?_
     go_wp2_with fail
     with_reducible refine (checkDeedR_c RA rc rs UA uc us DA dc ds q _ g (HRG.o.below HST.o.bel) (HU.o.below HST.o.bel) hul (HDE.o.below HST.o.bel) hlq hdl).mono ?_
     rintro e w3 ⟨rfl,hb3⟩;have HST3:=zq (HST.o.below hb3);clear x2 xs hb3 HST
     by_cases hdf:chkD rs us (ds.take q) ds[q]=0
     ·have HF:Hid (zCy rs us ds q=none):=by
       show _=_
       rw [deFault_of hlq,aC (fun h=>h hdf)]
      rw [hdf];clear hdf;go_wp2
      go_roundg (gk - 1)
      case measure=>have:=HQ.o;omega
      case rel =>
       refine ⟨HST3.o,q+1,by have:=HQ.o;omega,zn,fun j hj=>?_⟩
       rcases bO j q with h9 | h9
       ·exact HP.o j h9
       ·obtain rfl:j=q:=by omega
        exact HF.o
     ·have HS:Hid (res=chkD rs us (ds.take q) ds[q]):=by
       show _=_
       rw [←HE2.o,zAZ hlq HP.o (x:=chkD rs us (ds.take q) ds[q]) (by rw [deFault_of hlq,aE hdf])]
      have hdb:(chkD rs us (ds.take q) ds[q] != 0)=true:=by simpa using hdf
      clear hdf;go_wp2;go_ret
      exact zAd.mk (zAC HS.o.symm) HST3.o.bel
    ·have HS:Hid (res=0):=by
      show _=_
      rw [←HE2.o,zBk (fun j hj=>HP.o j za)]
     have x2:=HST.o.ti.c 2 rfl;have xs:=HST.o.ti.lt;go_wp2;go_ret
     exact zAd.mk (zAC HS.o.symm) HST.o.bel
end Go.Proofs.YtoaelidmmcbkfaaGreatDoor
