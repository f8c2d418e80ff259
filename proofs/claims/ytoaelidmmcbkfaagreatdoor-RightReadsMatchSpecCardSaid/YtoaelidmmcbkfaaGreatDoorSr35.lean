/- The reference's checkDeed, one of five by kind (printed). -/
import Derived.Test.YtoaelidmmcbkfaaGreatDoorSr32
set_option maxRecDepth 100000
set_option maxHeartbeats 8000000
namespace Go.Proofs.YtoaelidmmcbkfaaGreatDoor
open Go.RowKit Dw
theorem checkDeed_b (RA:Option Addr) (rc:Nat) (rs:List Rg) (UA:Option Addr) (uc:Nat) (us:List BA) (DA:Option Addr) (dc:Nat) (ds:List De) (k:Nat) (w:World) (_g:GoodR rs) (hr:Rgs w RA rs) (hu:Strs w UA us) (_hul:us.length≤1000000) (hd:Des w DA ds) (hk:k<ds.length) (hdl:ds.length≤200) (hK:ds[k].kd=1) :
  Calls Tryz.prog 56 #[.agg (tiC RA rc rs UA uc us DA dc ds),.int .i64 k] w (zAd (.int .i64 (chkD rs us (ds.take k) ds[k])) w):=by
 generalize hres:chkD rs us (ds.take k) ds[k]=res;rw [chkD_eq] at hres;have HR:=zq hres;clear hres;have HDS:=zq hd;obtain ⟨b,o,rfl,hb0,hc0⟩:=hd za;have HC0:=zq hc0;have hok:=(hc0 k hk).2;have hrg:=(hc0 k hk).1;obtain ⟨d,hdd⟩:∃ d,ds[k]=d:=⟨_,rfl⟩;rw [hdd] at HR hok hrg hK;have HK:=zq hK;clear hK;have HD:=zq hok;have HDD:=zq hdd;clear hd hc0 hok hdd;have HRG:=zq hr;have HU:=zq hu;clear hr hu;obtain ⟨z1,z2,z3,z4,z5,z6⟩:=HD.o.strs;have HX0:Hid (Bx (w.alloc (.cells (tiC RA rc rs UA uc us (some ⟨b,o,none⟩) dc ds) 26)) w.heap.size (tiC RA rc rs UA uc us (some ⟨b,o,none⟩) dc ds) 26):=Bx.new _ _ _
 have HST0:Hid (GS w RA rc rs UA uc us (some ⟨b,o,none⟩) dc ds d ((w.alloc (.cells (tiC RA rc rs UA uc us (some ⟨b,o,none⟩) dc ds) 26)).alloc (.cells (deC d) 47))) :=
  ⟨((bS w.heap.size w).alloc (aB _) _).alloc zd _,(Bx.new _ _ _).alloc _,Bx.new1 _ _ _ _⟩
 obtain ⟨W2,hW2⟩:∃ W,W=(w.alloc (.cells (tiC RA rc rs UA uc us (some ⟨b,o,none⟩) dc ds) 26)).alloc (.cells (deC d) 47):=⟨_,rfl⟩;rw [←hW2] at HST0;have hrg1:(w.alloc (.cells (tiC RA rc rs UA uc us (some ⟨b,o,none⟩) dc ds) 26)).rangeAt b (o+k*16) (deC d).toList:=fun j v hv=>(((bS w.heap.size w).alloc (aB _) _).cell hb0).trans (hrg j v hv)
 have HRA:=zq hrg1;clear hrg hrg1;have y2:(w.alloc (.cells (tiC RA rc rs UA uc us (some ⟨b,o,none⟩) dc ds) 26)).cell? ⟨w.heap.size,2,none⟩=some (.slice (some ⟨b,o,none⟩) ds.length dc):=HX0.o.c 2 rfl
 go_enter Tryz.func56,Tryz.ntmps56
 go_upto_region 1 with fail
 iterate 14 go_step
 refine eA _ _ zo b (o+k*16) zo (deC d).toList _ HRA.o Tryz.underlying47 rfl zb ?_
 go_upto_region 2 with fail
 rw [←hW2];clear hW2 y2 HRA HX0;have y0:=HST0.o.de.c 0 rfl;have y1:=HST0.o.de.c 1 rfl;have ys:=HST0.o.de.lt;have hn1:=fun W=>zBy d.id W z1
 have hd1:=fun W=>zCS d.day W
 cases h1:zBA d.id with
 | false =>
  rw [h1] at hn1;have HN1:=zq hn1;have HS:Hid (res=5):=vf;clear h1 hn1 hd1
  go_wp2_with fail
  with_reducible refine (HN1.o _).mono ?_
  rintro e w1 ⟨rfl,rfl⟩;go_wp2;go_ret
  exact zAd.mk (zAC HS.o.symm) HST0.o.bel
 | true =>
 rw [h1] at hn1;have HN1:=zq hn1
 cases h2:zCm d.day with
 | false =>
  rw [h2] at hd1;have HD1:=zq hd1;have HS:Hid (res=1):=qm;clear h1 h2 hn1 hd1
  go_wp2_with fail
  with_reducible refine (HN1.o _).mono ?_
  rintro e w1 ⟨rfl,rfl⟩
  go_wp2_with fail
  with_reducible refine (HD1.o _).mono ?_
  rintro e w2 ⟨rfl,rfl⟩;go_wp2;go_ret
  exact zAd.mk (zAC HS.o.symm) HST0.o.bel
 | true =>
 rw [h2] at hd1;have HD1:=zq hd1
 have HR1:Hid ((if zDK (ds.take k) d=false then 8 else chk2 rs us (ds.take k) d)=res):=by
  show _=_
  have hh:=HR.o
  rwa [aC vr,aC (by rw [h2];simp)] at hh
 clear h1 h2 hn1 hd1 HR
 go_wp2_with fail
 with_reducible refine (HN1.o _).mono ?_
 rintro e w1 ⟨rfl,rfl⟩
 go_wp2_with fail
 with_reducible refine (HD1.o _).mono ?_
 rintro e w2 ⟨rfl,rfl⟩;clear HN1 HD1;have y2:_=some (Value.slice (some ⟨b,o,none⟩) ds.length dc):=HST0.o.ti.c 2 rfl;have yt:=HST0.o.ti.lt;go_upto_region 6 with fail
 go_cut [63] (fun v wx=>v = .bool (!zDK (ds.take k) d)∧GS w RA rc rs UA uc us (some ⟨b,o,none⟩) dc ds d wx)
 case first =>
  by_cases hk0:0<k
  ·obtain ⟨pd,hpd⟩:∃ pd,ds[k - 1]'(by omega)=pd:=⟨_,rfl⟩
   have hp:=(HC0.o (k - 1) za).1;rw [hpd] at hp;have HO:Hid (zDK (ds.take k) d=deLt pd d):=j4;have p0:_=some (Value.string pd.id):=(HST0.o.bel.cell (p:=⟨b,o+(k - 1)*16,none⟩) hb0).trans (hp 0 _ rfl);have p1:_=some (Value.int .i64 pd.day):=(HST0.o.bel.cell (p:=⟨b,o+(k - 1)*16+1,none⟩) hb0).trans (hp 1 _ rfl);have hd:decide ((0:Int)<(k:Int))=true:=zg;have hd0:decide ((0:Int)≤(k:Int) - 1)=true:=zg;clear hp hpd
   rcases Int.lt_trichotomy d.day pd.day with h | h | h
   ·have HS:Hid (deLt pd d=false):=by show _=_;unfold deLt;simp;omega
    have e1:decide (d.day<pd.day)=true:=cP h;clear h
    go_quiet (fail)
    go_wp2_with fail
    go_meet;exact ⟨zAu yq,HST0.o.drewN _⟩
   ·have e1:decide (d.day<pd.day)=false:=cQ za
    have e2:(d.day == pd.day)=true:=xi
    cases hle:sle d.id pd.id with
    | true =>
     have HS:Hid (deLt pd d=false):=yo;unfold sle at hle;clear h
     go_quiet (fail)
     go_wp2_with fail
     go_meet;exact ⟨zAu yq,HST0.o.drewN _⟩
    | false =>
     have HS:Hid (deLt pd d=true):=yo;unfold sle at hle;clear h
     go_quiet (fail)
     go_wp2_with fail
     go_meet;exact ⟨zAu yq,HST0.o.drewN _⟩
   ·have e1:decide (d.day<pd.day)=false:=cQ za
    have e2:(d.day == pd.day)=false:=zg;have HS:Hid (deLt pd d=true):=vg;clear h
    go_quiet (fail)
    go_wp2_with fail
    go_meet;exact ⟨zAu yq,HST0.o.drewN _⟩
  ·have hd:decide ((0:Int)<(k:Int))=false:=by simp;omega
   have HO:Hid (zDK (ds.take k) d=true):=by
    show _=_
    have:k=0:=za;rw [this];rfl
   go_quiet (fail)
   go_wp2_with fail
   go_meet;exact ⟨zAu (by rw [HO.o];rfl),HST0.o.drewN _⟩
 case rest =>
  obtain ⟨rfl,hst⟩:=hcut;clear y0 y1 y2 ys yt HST0;have HST:=zq hst;clear hst
  cases hob:zDK (ds.take k) d with
  | false =>
   have HS:Hid (res=8):=j8;clear hob;go_wp2;go_ret
   exact zAd.mk (zAC HS.o.symm) HST.o.bel
  | true =>
  have HR2:Hid (chk2 rs us (ds.take k) d=res):=by
   show _=_
   have hh:=HR1.o
   rwa [aC (by rw [hob];simp)] at hh
  clear hob HR1;go_wp2
  go_loopg [6] k (PreRel w RA rc rs UA uc us (some ⟨b,o,none⟩) dc ds d k (fun p=>decide (p.id=d.id)))
  case atStart=>exact ⟨HST.o,0,za,rfl,fun q _ hq=>absurd hq za⟩
  case round =>
   clear HST;obtain ⟨hst,j,hjm,rfl,hpre⟩:=hrel;have HST:=zq hst;have HJM:=zq hjm;have HP:=zq hpre;have hjk:j≤k:=za;clear hst hjm hpre
   by_cases hlt:j<k
   ·obtain ⟨pj,hpj⟩:∃ pj,ds[j]'(by omega)=pj:=⟨_,rfl⟩
    have hp:=(HC0.o j za).1;rw [hpj] at hp;have p0:_=some (Value.string pj.id):=(HST.o.bel.cell (p:=⟨b,o+j*16,none⟩) hb0).trans (hp 0 _ rfl);have y0:=HST.o.de.c 0 rfl;have y2:_=some (Value.slice (some ⟨b,o,none⟩) ds.length dc):=HST.o.ti.c 2 rfl;have ys:=HST.o.de.lt;have yt:=HST.o.ti.lt;have HPJ:=zq hpj;have hjl:j<ds.length:=za;clear hp hpj
    by_cases he:pj.id=d.id
    ·have HS:Hid (res=7):=by
      show _=_
      have e:((ds.take k).any fun p=>decide (p.id=d.id))=true:=zBL hlt hk jo
      rw [←HR2.o];unfold chk2;rw [aE e]
     have q1:=zAy he;clear he;go_wp2
     go_quiet (fail)
     go_wp2;go_ret
     exact zAd.mk (zAC HS.o.symm) (HST.o.drewN _).bel
    ·have HE:=zq he
     have q1:=zAo he;clear he;go_wp2
     go_quiet (fail)
     go_wp2
     go_roundg (gk - 1)
     case measure=>have:=HJM.o;omega
     case rel =>
      refine ⟨HST.o.drewN _,j+1,qe,zn,fun q h q2=>?_⟩
      rcases bO q j with h9 | h9
      ·exact HP.o q h h9
      ·obtain rfl:q=j:=by omega
       rw [HPJ.o];exact cQ HE.o
   ·have HR3:Hid (chk3 rs us (ds.take k) d=res):=by
     show _=_
     have e:((ds.take k).any fun p=>decide (p.id=d.id))=false:=zBC fun q h q2=>HP.o q h za
     rw [←HR2.o];unfold chk2;rw [aC xj]
    clear HR2 HP HJM;have k2:_=some (Value.int .i64 d.kd):=HST.o.de.c 2 rfl;have ys:=HST.o.de.lt;have hkc:=HK.o;have hk1':1≤d.kd:=za;have hk5':d.kd≤5:=za;have hk0:¬ (d.kd<1∨5<d.kd):=za;clear hkc
    have HR4:Hid ((if zAB d=true then 3 else chk4 rs us (ds.take k) d)=res):=by
     show _=_
     have hh:=HR3.o;unfold chk3 at hh
     rwa [aC hk0] at hh
    clear hk0 HR3;go_upto_region 15 with fail
    clear k2 ys
    iterate 2 go_step
    refine eA _ _ zo (w.heap.size+1) 0 zo (deC d).toList _ (rangeB HST.o.de) Tryz.underlying47 rfl zb ?_
    have hfo:=fun W=>formedR_c d W HD.o.lens
    cases hnb:zAB d with
    | true =>
     rw [hnb,Bool.not_true] at hfo;have HFO:=zq hfo;have HS:Hid (res=3):=vx;clear hfo hnb
     go_wp2_with fail
     with_reducible refine (HFO.o _).mono ?_
     rintro e w5 ⟨rfl,hb5⟩;go_wp2;go_ret
     exact zAd.mk (zAC HS.o.symm) (zAb HST.o.bel hb5)
    | false =>
    rw [hnb,Bool.not_false] at hfo;have HFO:=zq hfo
    have HR5:Hid (chk4 rs us (ds.take k) d=res):=by
     show _=_
     have hh:=HR4.o
     rwa [aC (by rw [hnb];simp)] at hh
    clear hfo hnb HR4
    go_wp2_with fail
    with_reducible refine (HFO.o _).mono ?_
    rintro e w5 ⟨rfl,hb5⟩;have HST5:=zq (HST.o.below hb5);clear hb5 HST HFO;have ys:=HST5.o.de.lt;have hkc:=HK.o
    have HR6:Hid (divF (ds.take k) d=res):=by
     show _=_
     have hh:=HR5.o;unfold chk4 at hh
     rwa [aC (by unfold zAf;simp [hkc]),aC za] at hh
    have HKC:=zq hkc;rw [divF_eq] at HR6;have k2:_=some (Value.int .i64 d.kd):=HST5.o.de.c 2 rfl;rw [hkc] at k2;have y11:_=some (Value.int .i64 d.bg):=HST5.o.de.c 12 rfl;have yn:_=some (Value.string d.th):=HST5.o.de.c 3 rfl;have hn1:=fun W=>zBy d.th W z2
    have hd1:=fun W=>zCS d.bg W
    cases h1:zBA d.th with
    | false =>
     rw [h1] at hn1;have HN1:=zq hn1;have HS:Hid (res=5):=by show _=_;rw [←HR6.o,aE (.inl ⟨hkc,h1⟩)]
     clear h1 hn1 hd1 hkc
     go_wp2_with fail
     with_reducible refine (HN1.o _).mono ?_
     rintro e w40 ⟨rfl,rfl⟩;go_wp2;go_ret
     exact zAd.mk (zAC HS.o.symm) HST5.o.bel
    | true =>
    rw [h1] at hn1;have HN1:=zq hn1
    have HR7:Hid ((if zCm d.bg=false then 1 else if shF d.kd d.sh≠0 then shF d.kd d.sh else div2 (ds.take k) d)=res):=by
     show _=_
     have hh:=HR6.o
     rwa [aC (fun h=>h.elim (fun q=>by rw [h1] at q;cases q.2) (fun q=>by have:=q.1;omega))] at hh
    clear h1 hn1 hkc HR6
    cases hb1:zCm d.bg with
    | false =>
     rw [hb1] at hd1;have HD1:=zq hd1;have HS:Hid (res=1):=by show _=_;rw [←HR7.o,aE hb1]
     clear hd1 hb1
     go_wp2_with fail
     with_reducible refine (HN1.o _).mono ?_
     rintro e w40 ⟨rfl,rfl⟩
     go_wp2_with fail
     with_reducible refine (HD1.o _).mono ?_
     rintro e w41 ⟨rfl,rfl⟩;go_wp2;go_ret
     exact zAd.mk (zAC HS.o.symm) HST5.o.bel
    | true =>
    rw [hb1] at hd1;have HD1:=zq hd1
    have HR8:Hid ((if shF d.kd d.sh≠0 then shF d.kd d.sh else div2 (ds.take k) d)=res):=by
     show _=_
     have hh:=HR7.o
     rwa [aC (by rw [hb1];simp)] at hh
    clear hd1 hb1 HR7
    go_wp2_with fail
    with_reducible refine (HN1.o _).mono ?_
    rintro e w40 ⟨rfl,rfl⟩
    go_wp2_with fail
    with_reducible refine (HD1.o _).mono ?_
    rintro e w41 ⟨rfl,rfl⟩;go_upto_region 27 with fail
    clear k2 y11 yn ys HN1 HD1 HR5
    iterate 2 go_step
    refine eA _ _ zo (w.heap.size+1) 0 zo (deC d).toList _ (rangeB HST5.o.de) Tryz.underlying47 rfl zb ?_
    go_wp2_with fail
    with_reducible refine (checkSharesR_c d _ (HD.o.below HST5.o.bel)).mono ?_
    rintro e w42 ⟨rfl,hb42⟩;have HST6:=zq (HST5.o.below hb42);clear hb42 HST5
    by_cases hsf:shF d.kd d.sh=0
    case' neg =>
     have HS:Hid (res=shF d.kd d.sh):=by show _=_;rw [←HR8.o,aE hsf]
     have hrb2:(shF d.kd d.sh != 0)=true:=by simpa using hsf
     clear hsf;go_wp2;go_ret
     exact zAd.mk (zAC HS.o.symm) HST6.o.bel
    have HR9:Hid (div2 (ds.take k) d=res):=by
     show _=_
     have hh:=HR8.o
     rwa [aC (fun h=>h hsf)] at hh
    rw [hsf];clear hsf HR8;have hl3:=HD.o.lens.2.2;go_wp2
    go_loopg [8] d.sh.length (SheRel w RA rc rs UA uc us (some ⟨b,o,none⟩) dc ds d)
    case atStart=>exact ⟨HST6.o,0,za,rfl,fun q _ hq=>absurd hq za⟩
    case round =>
     clear HST6;obtain ⟨hst,j,hjm,rfl,hpre⟩:=hrel;have HST:=zq hst;have HJM:=zq hjm;have HP:=zq hpre;have hjk:j≤d.sh.length:=za;clear hst hjm hpre;have k2:_=some (Value.int .i64 d.kd):=HST.o.de.c 2 rfl;rw [HKC.o] at k2;have ys:=HST.o.de.lt
     by_cases hlt:j<d.sh.length
     ·have y14:=HST.o.de.c 14 rfl
      go_wp2
      go_quiet (fail)
      go_wp2
      go_roundg (gk - 1)
      case measure=>have:=HJM.o;omega
      case rel =>
       exact ⟨HST.o.drewN _,j+1,qe,zn,fun q h q2 h5=>absurd (HKC.o.symm.trans h5) zc⟩
     ·have HR10:Hid ((if ((ds.take k).any fun p=>decide (p.kd=d.kd)&&decide (p.th=d.th)&&decide (p.fr=d.fr))=true then 7 else 0)=res):=by
       show _=_
       have hh:=HR9.o;unfold div2 at hh
       rwa [aC (fun h=>by
        have e:(d.sh.any fun s=>decide (s.pt=d.fr))=false:=by
         rw [bU];intro x hx;obtain ⟨q,hq,rfl⟩:=aJ hx;rw [HP.o q hq za h.1];simp
        rw [e] at h
        cases h.2)] at hh
      have HSTL:=HST;have y14:=HST.o.de.c 14 rfl;clear HR9 HJM HP HST;go_wp2;clear k2 ys y14
      go_loopg [9] k (PreRel w RA rc rs UA uc us (some ⟨b,o,none⟩) dc ds d k (fun p=>decide (p.kd=d.kd)&&decide (p.th=d.th)&&decide (p.fr=d.fr)))
      case atStart=>exact ⟨HSTL.o,0,za,rfl,fun q _ hq=>absurd hq za⟩
      case round =>
       clear HSTL;obtain ⟨hst,j,hjm,rfl,hpre⟩:=hrel;have HST:=zq hst;have HJM:=zq hjm;have HP:=zq hpre;have hjk:j≤k:=za;clear hst hjm hpre
       by_cases hlt:j<k
       ·obtain ⟨pj,hpj⟩:∃ pj,ds[j]'(by omega)=pj:=⟨_,rfl⟩
        have hp:=(HC0.o j za).1;rw [hpj] at hp;have p2:_=some (Value.int .i64 pj.kd):=(HST.o.bel.cell (p:=⟨b,o+j*16+2,none⟩) hb0).trans (hp 2 _ rfl);have p3:_=some (Value.string pj.th):=(HST.o.bel.cell (p:=⟨b,o+j*16+3,none⟩) hb0).trans (hp 3 _ rfl);have p4:_=some (Value.string pj.fr):=(HST.o.bel.cell (p:=⟨b,o+j*16+4,none⟩) hb0).trans (hp 4 _ rfl);have k2:_=some (Value.int .i64 d.kd):=HST.o.de.c 2 rfl;rw [HKC.o] at k2;have y3:_=some (Value.string d.th):=HST.o.de.c 3 rfl;have y4:_=some (Value.string d.fr):=HST.o.de.c 4 rfl;have y2:_=some (Value.slice (some ⟨b,o,none⟩) ds.length dc):=HST.o.ti.c 2 rfl;have ys:=HST.o.de.lt;have yt:=HST.o.ti.lt;have HPJ:=zq hpj;have hjl:j<ds.length:=za;clear hp hpj
        by_cases hq:pj.kd=d.kd
        ·have e1:(pj.kd == 1)=true:=by rw [hq,HKC.o];rfl
         by_cases he:pj.th=d.th
         ·have q1:=zAy he
          by_cases he2:pj.fr=d.fr
          ·have HF:Hid ((decide (pj.kd=d.kd)&&decide (pj.th=d.th)&&decide (pj.fr=d.fr))=true):=by show _=_;rw [cP hq,cP he,cP he2];rfl
           have q2:=zAy he2;clear hq he he2
           have HS:Hid (res=7):=by
            show _=_
            have e:((ds.take k).any fun p=>decide (p.kd=d.kd)&&decide (p.th=d.th)&&decide (p.fr=d.fr))=true:=zBL hlt hk (by rw [HPJ.o];exact HF.o)
            rw [←HR10.o,aE e]
           go_wp2
           go_quiet (fail)
           go_wp2;go_ret
           exact zAd.mk (zAC HS.o.symm) (HST.o.drewN _).bel
          ·have HF:Hid ((decide (pj.kd=d.kd)&&decide (pj.th=d.th)&&decide (pj.fr=d.fr))=false):=by show _=_;rw [cQ he2];simp
           have q2:=zAo he2;clear hq he he2;go_wp2
           go_quiet (fail)
           go_wp2
           go_roundg (gk - 1)
           case measure=>have:=HJM.o;omega
           case rel =>
            refine ⟨HST.o.drewN _,j+1,qe,zn,fun q h q2=>?_⟩
            rcases bO q j with h9 | h9
            ·exact HP.o q h h9
            ·obtain rfl:q=j:=by omega
             rw [HPJ.o];exact HF.o
         ·have HF:Hid ((decide (pj.kd=d.kd)&&decide (pj.th=d.th)&&decide (pj.fr=d.fr))=false):=by show _=_;rw [cQ he];simp
          have q1:=zAo he;clear hq he;go_wp2
          go_quiet (fail)
          go_wp2
          go_roundg (gk - 1)
          case measure=>have:=HJM.o;omega
          case rel =>
           refine ⟨HST.o.drewN _,j+1,qe,zn,fun q h q2=>?_⟩
           rcases bO q j with h9 | h9
           ·exact HP.o q h h9
           ·obtain rfl:q=j:=by omega
            rw [HPJ.o];exact HF.o
        ·have e1:(pj.kd == 1)=false:=by
          have h9:pj.kd≠1:=fun h=>hq (h.trans HKC.o.symm)
          simpa using h9
         have HF:Hid ((decide (pj.kd=d.kd)&&decide (pj.th=d.th)&&decide (pj.fr=d.fr))=false):=by show _=_;rw [cQ hq];rfl
         clear hq;go_wp2
         go_quiet (fail)
         go_wp2
         go_roundg (gk - 1)
         case measure=>have:=HJM.o;omega
         case rel =>
          refine ⟨HST.o.drewN _,j+1,qe,zn,fun q h q2=>?_⟩
          rcases bO q j with h9 | h9
          ·exact HP.o q h h9
          ·obtain rfl:q=j:=by omega
           rw [HPJ.o];exact HF.o
       ·have HS:Hid (res=0):=by
         show _=_
         have e:((ds.take k).any fun p=>decide (p.kd=d.kd)&&decide (p.th=d.th)&&decide (p.fr=d.fr))=false:=zBC fun q h q2=>HP.o q h za
         rw [←HR10.o,aC xj]
        go_wp2;go_ret
        exact zAd.mk (zAC HS.o.symm) HST.o.bel
end Go.Proofs.YtoaelidmmcbkfaaGreatDoor
