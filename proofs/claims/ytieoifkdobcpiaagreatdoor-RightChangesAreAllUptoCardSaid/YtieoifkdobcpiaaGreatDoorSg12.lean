/- Package right: values of a deed that gives (its walks printed by gen_val.py). -/
import Derived.Test.YtieoifkdobcpiaaGreatDoorSg11
set_option maxRecDepth 100000
set_option maxHeartbeats 8000000
namespace Go.Proofs.YtieoifkdobcpiaaGreatDoor
open Go.RowKit Dw
def restF (d:De):Int:=if zCM d.bg=false∨zCM d.en=false then 1 else if d.en≤d.bg then 8 else 0
def zCH (l:List Rg) (us:List BA) (d:De):Int :=
 if zAT d.th=false∨zAT d.fr=false∨zAT d.to_=false then 5
 else if d.fr=d.to_ then 12
 else if parF d≠0 then parF d
 else if zBu l us d≠0 then zBu l us d else restF d
theorem giftF_two (l:List Rg) (us:List BA) (d:De):giftF l us d=zCH l us d:=by
 unfold giftF zCH zBu restF
 by_cases h1:chkA l d.ar=0
 ·by_cases h2:zCn l d.ar=[]∨d.us=[]
  ·simp [h1,h2]
  ·simp [h1,h2]
 ·simp [h1]
theorem values_3 (ci:Nat) (A:Option Addr) (c r1 r2 g1 g2:Nat) (AL:Option Addr) (cL:Nat) (l:List Rg) (uA:Option Addr) (uc:Nat) (us:List BA) (m2 m3 m4 m5:Nat) (p d:De) (f2 f3:BA→Option Value) (w:World)
  (hk:d.kd=3) (g:GoodR l) (hul:us.length≤1000000) (hc:Bx w ci (ckC A c r1 r2 g1 g2 AL cL l uA uc us m2 m3 m4 m5 p) 184) (hw:WR w A r1 r2 g1 g2 AL l) (hu:Strs w uA us) (hd:DeOk w d) (h2:zAq Value.string w m2 f2) (h3:zAq Value.string w m3 f3) :
  Calls Tryz.prog 149 #[.pointer (some ⟨ci,0,none⟩),deV d,.agg #[.bool true,.bool true,.bool true,.bool false,.bool true,.bool true,.bool true,.bool false,.bool false]] w (zAe (.int .i64 (zCH l us d)) w):=by
 generalize hres:zCH l us d=res;have HR:=zq hres;clear hres;have HV:=zq (VS.start w ci #[.bool true,.bool true,.bool true,.bool false,.bool true,.bool true,.bool true,.bool false,.bool false] A c r1 r2 g1 g2 AL cL l uA uc us m2 m3 m4 m5 p d f2 f3 hc hw hu hd h2 h3);clear hc hw hu hd h2 h3;obtain ⟨W,hW⟩:∃ W,W=(w.alloc (.cells (deC d) 52)).alloc (.cells #[.bool true,.bool true,.bool true,.bool false,.bool true,.bool true,.bool true,.bool false,.bool false] 135):=⟨_,rfl⟩;rw [←hW] at HV
 go_enter Tryz.func149,Tryz.ntmps149
 go_wp2_with fail
 rw [←hW];clear hW;have hsz:=HV.o.fx.lt;have x3:=HV.o.dx.c 3 rfl;have x4:=HV.o.dx.c 4 rfl;have x5:=HV.o.dx.c 5 rfl;have y0:=HV.o.fx.c 0 rfl;have y1:=HV.o.fx.c 1 rfl;have y2:=HV.o.fx.c 2 rfl;have y3:=HV.o.fx.c 3 rfl;have y4:=HV.o.fx.c 4 rfl;have y5:=HV.o.fx.c 5 rfl;have y6:=HV.o.fx.c 6 rfl;have y7:=HV.o.fx.c 7 rfl;have y8:=HV.o.fx.c 8 rfl;have hz:=HV.o.dok.strs.2.1
 go_wp2_with fail
 with_reducible refine (zBI d.th _ hz).mono ?_
 rintro e w2 ⟨rfl,hb2⟩;have HV2:=zq (HV.o.below hb2);clear hsz x3 x4 x5 y0 y1 y2 y3 y4 y5 y6 y7 y8 hz;clear hb2 HV
 cases hnm0:zAT d.th with
 | false =>
  have hor:zAT d.th=false∨zAT d.fr=false∨zAT d.to_=false:=.inl hnm0;have hsz:=HV2.o.fx.lt;have x3:=HV2.o.dx.c 3 rfl;have x4:=HV2.o.dx.c 4 rfl;have x5:=HV2.o.dx.c 5 rfl;have y0:=HV2.o.fx.c 0 rfl;have y1:=HV2.o.fx.c 1 rfl;have y2:=HV2.o.fx.c 2 rfl;have y3:=HV2.o.fx.c 3 rfl;have y4:=HV2.o.fx.c 4 rfl;have y5:=HV2.o.fx.c 5 rfl;have y6:=HV2.o.fx.c 6 rfl;have y7:=HV2.o.fx.c 7 rfl;have y8:=HV2.o.fx.c 8 rfl
  have HS:Hid (res=5):=by
   show _=_
   rw [←HR.o];unfold zCH;rw [aF hor]
  clear hor HR hnm0;go_wp2;go_ret
  exact zAe.mk (zAX HS.o.symm) HV2.o.bel
 | true =>
  have hsz:=HV2.o.fx.lt;have x3:=HV2.o.dx.c 3 rfl;have x4:=HV2.o.dx.c 4 rfl;have x5:=HV2.o.dx.c 5 rfl;have y0:=HV2.o.fx.c 0 rfl;have y1:=HV2.o.fx.c 1 rfl;have y2:=HV2.o.fx.c 2 rfl;have y3:=HV2.o.fx.c 3 rfl;have y4:=HV2.o.fx.c 4 rfl;have y5:=HV2.o.fx.c 5 rfl;have y6:=HV2.o.fx.c 6 rfl;have y7:=HV2.o.fx.c 7 rfl;have y8:=HV2.o.fx.c 8 rfl;have hz:=HV2.o.dok.strs.2.2.1
  go_wp2_with fail
  with_reducible refine (zBI d.fr _ hz).mono ?_
  rintro e w3 ⟨rfl,hb3⟩;have HV3:=zq (HV2.o.below hb3);clear hsz x3 x4 x5 y0 y1 y2 y3 y4 y5 y6 y7 y8 hz;clear hb3 HV2
  cases hnm1:zAT d.fr with
  | false =>
   have hor:zAT d.th=false∨zAT d.fr=false∨zAT d.to_=false:=.inr (.inl hnm1);have hsz:=HV3.o.fx.lt;have x3:=HV3.o.dx.c 3 rfl;have x4:=HV3.o.dx.c 4 rfl;have x5:=HV3.o.dx.c 5 rfl;have y0:=HV3.o.fx.c 0 rfl;have y1:=HV3.o.fx.c 1 rfl;have y2:=HV3.o.fx.c 2 rfl;have y3:=HV3.o.fx.c 3 rfl;have y4:=HV3.o.fx.c 4 rfl;have y5:=HV3.o.fx.c 5 rfl;have y6:=HV3.o.fx.c 6 rfl;have y7:=HV3.o.fx.c 7 rfl;have y8:=HV3.o.fx.c 8 rfl
   have HS:Hid (res=5):=by
    show _=_
    rw [←HR.o];unfold zCH;rw [aF hor]
   clear hor HR hnm0 hnm1;go_wp2;go_ret
   exact zAe.mk (zAX HS.o.symm) HV3.o.bel
  | true =>
   have hsz:=HV3.o.fx.lt;have x3:=HV3.o.dx.c 3 rfl;have x4:=HV3.o.dx.c 4 rfl;have x5:=HV3.o.dx.c 5 rfl;have y0:=HV3.o.fx.c 0 rfl;have y1:=HV3.o.fx.c 1 rfl;have y2:=HV3.o.fx.c 2 rfl;have y3:=HV3.o.fx.c 3 rfl;have y4:=HV3.o.fx.c 4 rfl;have y5:=HV3.o.fx.c 5 rfl;have y6:=HV3.o.fx.c 6 rfl;have y7:=HV3.o.fx.c 7 rfl;have y8:=HV3.o.fx.c 8 rfl;have hz:=HV3.o.dok.strs.2.2.2.1
   go_wp2_with fail
   with_reducible refine (zBI d.to_ _ hz).mono ?_
   rintro e w4 ⟨rfl,hb4⟩;have HV4:=zq (HV3.o.below hb4);clear hsz x3 x4 x5 y0 y1 y2 y3 y4 y5 y6 y7 y8 hz;clear hb4 HV3
   cases hnm2:zAT d.to_ with
   | false =>
    have hor:zAT d.th=false∨zAT d.fr=false∨zAT d.to_=false:=.inr (.inr hnm2);have hsz:=HV4.o.fx.lt;have x3:=HV4.o.dx.c 3 rfl;have x4:=HV4.o.dx.c 4 rfl;have x5:=HV4.o.dx.c 5 rfl;have y0:=HV4.o.fx.c 0 rfl;have y1:=HV4.o.fx.c 1 rfl;have y2:=HV4.o.fx.c 2 rfl;have y3:=HV4.o.fx.c 3 rfl;have y4:=HV4.o.fx.c 4 rfl;have y5:=HV4.o.fx.c 5 rfl;have y6:=HV4.o.fx.c 6 rfl;have y7:=HV4.o.fx.c 7 rfl;have y8:=HV4.o.fx.c 8 rfl
    have HS:Hid (res=5):=by
     show _=_
     rw [←HR.o];unfold zCH;rw [aF hor]
    clear hor HR hnm0 hnm1 hnm2;go_wp2;go_ret
    exact zAe.mk (zAX HS.o.symm) HV4.o.bel
   | true =>
    have HR1:Hid ((if d.fr=d.to_ then (12:Int) else if parF d≠0 then parF d else if zBu l us d≠0 then zBu l us d else restF d)=res):=by
     show _=_
     have hn:¬ (zAT d.th=false∨zAT d.fr=false∨zAT d.to_=false):=by rw [hnm0,hnm1,hnm2];simp
     rw [←HR.o];unfold zCH;rw [aD hn]
    clear hnm0 hnm1 hnm2 HR
    by_cases hft:d.fr=d.to_
    ·have hfb:(d.fr.toList == d.to_.toList)=true:=zBb hft
     have hsz:=HV4.o.fx.lt;have x3:=HV4.o.dx.c 3 rfl;have x4:=HV4.o.dx.c 4 rfl;have x5:=HV4.o.dx.c 5 rfl;have y0:=HV4.o.fx.c 0 rfl;have y1:=HV4.o.fx.c 1 rfl;have y2:=HV4.o.fx.c 2 rfl;have y3:=HV4.o.fx.c 3 rfl;have y4:=HV4.o.fx.c 4 rfl;have y5:=HV4.o.fx.c 5 rfl;have y6:=HV4.o.fx.c 6 rfl;have y7:=HV4.o.fx.c 7 rfl;have y8:=HV4.o.fx.c 8 rfl
     have HS:Hid (res=12):=by
      show _=_
      rw [←HR1.o,aF hft]
     clear hft HR1;go_wp2;go_ret
     exact zAe.mk (zAX HS.o.symm) HV4.o.bel
    have hfb:(d.fr.toList == d.to_.toList)=false:=zAM hft
    have HR2:Hid ((if parF d≠0 then parF d else if zBu l us d≠0 then zBu l us d else restF d)=res):=by
     show _=_
     rw [←HR1.o,aD hft]
    clear hft HR1
    have hpf:parF d=0:=by
     unfold parF;rw [aF za]
    have HR3:Hid ((if zBu l us d≠0 then zBu l us d else restF d)=res):=by
     show _=_
     have hn:¬ parF d≠0:=fun h=>h hpf
     rw [←HR2.o,aD hn]
    clear hpf HR2 hk;have x4:=HV4.o.dx.c 4 rfl;have x5:=HV4.o.dx.c 5 rfl;have HPL:=zq (place_c ci A c r1 r2 g1 g2 AL cL l uA uc us m2 m3 m4 m5 p d w4 HV4.o.ck g HV4.o.wrl HV4.o.st hul HV4.o.dok);have hsz:=HV4.o.fx.lt;have x0:=HV4.o.dx.c 0 rfl;have x1:=HV4.o.dx.c 1 rfl;have x2:=HV4.o.dx.c 2 rfl;have x3:=HV4.o.dx.c 3 rfl;have x4:=HV4.o.dx.c 4 rfl;have x5:=HV4.o.dx.c 5 rfl;have x6:=HV4.o.dx.c 6 rfl;have x7:=HV4.o.dx.c 7 rfl;have x8:=HV4.o.dx.c 8 rfl;have x9:=HV4.o.dx.c 9 rfl;have x10:=HV4.o.dx.c 10 rfl;have x11:=HV4.o.dx.c 11 rfl;have x12:=HV4.o.dx.c 12 rfl;have x13:=HV4.o.dx.c 13 rfl;have x14:=HV4.o.dx.c 14 rfl;have x15:=HV4.o.dx.c 15 rfl;have y0:=HV4.o.fx.c 0 rfl;have y1:=HV4.o.fx.c 1 rfl;have y2:=HV4.o.fx.c 2 rfl;have y3:=HV4.o.fx.c 3 rfl;have y4:=HV4.o.fx.c 4 rfl;have y5:=HV4.o.fx.c 5 rfl;have y6:=HV4.o.fx.c 6 rfl;have y7:=HV4.o.fx.c 7 rfl;have y8:=HV4.o.fx.c 8 rfl
    go_wp2_with fail
    with_reducible refine HPL.o.mono ?_
    rintro e w4p ⟨rfl,hbp⟩;have HV5:=zq (HV4.o.below hbp);clear hsz x0 x1 x2 x3 x4 x5 x6 x7 x8 x9 x10 x11 x12 x13 x14 x15 y0 y1 y2 y3 y4 y5 y6 y7 y8;clear hbp HV4 HPL
    by_cases hpz:zBu l us d=0
    case neg =>
     have hpb:(zBu l us d != 0)=true:=by simpa using hpz
     have HS:Hid (res=zBu l us d):=by
      show _=_
      rw [←HR3.o,aF hpz]
     clear HR3 hpz;go_wp2;go_ret
     exact zAe.mk (zAX HS.o.symm) HV5.o.bel
    have HRP:Hid (restF d=res):=by
     show _=_
     rw [←HR3.o,aD (fun h=>h hpz)]
    rw [hpz];clear hpz HR3;have HDY:=zq (fun n W'=>isDay_c n W')
    have hsz:=HV5.o.fx.lt;have x11:=HV5.o.dx.c 11 rfl;have x12:=HV5.o.dx.c 12 rfl;have x13:=HV5.o.dx.c 13 rfl;have y0:=HV5.o.fx.c 0 rfl;have y1:=HV5.o.fx.c 1 rfl;have y2:=HV5.o.fx.c 2 rfl;have y3:=HV5.o.fx.c 3 rfl;have y4:=HV5.o.fx.c 4 rfl;have y5:=HV5.o.fx.c 5 rfl;have y6:=HV5.o.fx.c 6 rfl;have y7:=HV5.o.fx.c 7 rfl;have y8:=HV5.o.fx.c 8 rfl
    go_wp2_with fail
    with_reducible refine (HDY.o _ _).mono ?_
    rintro e w4qa ⟨rfl,rfl⟩
    cases hb1:zCM d.bg with
    | false =>
     have HS:Hid (res=1):=by
      show _=_
      rw [←HRP.o];unfold restF;rw [aF (.inl hb1)]
     clear hb1 HRP HDY;go_wp2;go_ret
     exact zAe.mk (zAX HS.o.symm) HV5.o.bel
    | true =>
     go_wp2_with fail
     with_reducible refine (HDY.o _ _).mono ?_
     rintro e w4qb ⟨rfl,rfl⟩
     cases hb2:zCM d.en with
     | false =>
      have HS:Hid (res=1):=by
       show _=_
       rw [←HRP.o];unfold restF;rw [aF (.inr hb2)]
      clear hb1 hb2 HRP HDY;go_wp2;go_ret
      exact zAe.mk (zAX HS.o.symm) HV5.o.bel
     | true =>
      have HRZ:Hid ((if d.en≤d.bg then (8:Int) else 0)=res):=by
       show _=_
       have hn:¬ (zCM d.bg=false∨zCM d.en=false):=by rw [hb1,hb2];simp
       rw [←HRP.o];unfold restF;rw [aD hn]
      clear hb1 hb2 HDY HRP
      by_cases hle:d.en≤d.bg
      ·have hleb:decide (d.en≤d.bg)=true:=cM hle
       have HS:Hid (res=8):=by
        show _=_
        rw [←HRZ.o,aF hle]
       clear HRZ;go_wp2;go_ret
       exact zAe.mk (zAX HS.o.symm) HV5.o.bel
      ·have hleb:decide (d.en≤d.bg)=false:=cN hle
       have HS:Hid (res=0):=by
        show _=_
        rw [←HRZ.o,aD hle]
       clear HRZ;go_wp2;go_ret
       exact zAe.mk (zAX HS.o.symm) HV5.o.bel
end Go.Proofs.YtieoifkdobcpiaaGreatDoor
