/- Parts of the proof, joined: Package right: equal says whether two deeds are equal (printed by gen_. -/
import Derived.Test.YtoaelidmmcbkfaaGreatDoorSt17
import Derived.Test.YtoaelidmmcbkfaaGreatDoorSt18
import Derived.Shelf.GgSortFunc.Compose
set_option maxRecDepth 100000
set_option maxHeartbeats 8000000
namespace Go.Proofs.YtoaelidmmcbkfaaGreatDoor
open Go.RowKit Dw
def zBp (d e:De):Prop:=d.id=e.id∧d.day=e.day∧d.kd=e.kd∧d.th=e.th∧d.fr=e.fr∧d.to_=e.to_∧(d.nu=e.nu∧d.de=e.de)∧d.ex=e.ex∧d.sb=e.sb∧d.ar=e.ar∧d.us=e.us∧d.bg=e.bg∧d.en=e.en∧d.sh=e.sh∧d.ot=e.ot
def zAv (same:Prop) (w:World) (e:Ending) (w':World):Prop:=∃ r:Bool,e = .returned (.bool r)∧(r=true↔same)∧Below w.heap.size w w'
theorem zAv.no {same:Prop} {w w':World} (h:¬ same) (hw:Below w.heap.size w w'):zAv same w (.returned (.bool false)) w':=⟨false,rfl,⟨(fun e=>by cases e),fun e=>absurd e h⟩,hw⟩
theorem zAv.yes {same:Prop} {w w':World} (h:same) (hw:Below w.heap.size w w'):zAv same w (.returned (.bool true)) w':=⟨true,rfl,⟨fun _=>h,fun _=>rfl⟩,hw⟩
end Go.Proofs.YtoaelidmmcbkfaaGreatDoor
namespace Dw
end Dw
namespace Go.Proofs.YtoaelidmmcbkfaaGreatDoor
open Go.Shelf Go.RowKit Go.Lib Go.Sort Dw
end Go.Proofs.YtoaelidmmcbkfaaGreatDoor
namespace Go.Proofs.YtoaelidmmcbkfaaGreatDoor
open Go.RowKit Dw
def divV (d:De):Int :=
 if (d.kd=1∧zAC d.th=false)∨(d.kd=5∧zAC d.fr=false) then 5 else if zCG d.bg=false then 1 else zBV d
theorem values_1 (ci:Nat) (A:Option Addr) (c r1 r2 g1 g2:Nat) (AL:Option Addr) (cL:Nat) (l:List Rg) (uA:Option Addr) (uc:Nat) (us:List BA) (m2 m3 m4 m5:Nat) (p d:De) (f2 f3:BA→Option Value) (w:World)
  (hk:d.kd=1) (hc:Bx w ci (ckC A c r1 r2 g1 g2 AL cL l uA uc us m2 m3 m4 m5 p) 101) (hw:WR w A r1 r2 g1 g2 AL l) (hu:Strs w uA us) (hd:DeOk w d) (h2:zAt Value.string w m2 f2) (h3:zAt Value.string w m3 f3) :
  Calls Tryz.prog 76 #[.pointer (some ⟨ci,0,none⟩),deV d,.agg #[.bool true,.bool false,.bool false,.bool false,.bool false,.bool false,.bool false,.bool true,.bool false]] w (zAe (.int .i64 (divV d)) w):=by
 generalize hres:divV d=res;have HR:=zq hres;clear hres;have HV:=zq (VS.start w ci #[.bool true,.bool false,.bool false,.bool false,.bool false,.bool false,.bool false,.bool true,.bool false] A c r1 r2 g1 g2 AL cL l uA uc us m2 m3 m4 m5 p d f2 f3 hc hw hu hd h2 h3);clear hc hw hu hd h2 h3;obtain ⟨W,hW⟩:∃ W,W=(w.alloc (.cells (deC d) 47)).alloc (.cells #[.bool true,.bool false,.bool false,.bool false,.bool false,.bool false,.bool false,.bool true,.bool false] 84):=⟨_,rfl⟩;rw [←hW] at HV
 go_enter Tryz.func76,Tryz.ntmps76
 go_wp2_with fail
 rw [←hW];clear hW;have hsz:=HV.o.fx.lt;have x3:=HV.o.dx.c 3 rfl;have x12:=HV.o.dx.c 12 rfl;have y0:=HV.o.fx.c 0 rfl;have y1:=HV.o.fx.c 1 rfl;have y2:=HV.o.fx.c 2 rfl;have y3:=HV.o.fx.c 3 rfl;have y4:=HV.o.fx.c 4 rfl;have y5:=HV.o.fx.c 5 rfl;have y6:=HV.o.fx.c 6 rfl;have y7:=HV.o.fx.c 7 rfl;have y8:=HV.o.fx.c 8 rfl;have hz:=HV.o.dok.strs.2.1
 go_wp2_with fail
 with_reducible refine (zBM d.th _ hz).mono ?_
 rintro e w2 ⟨rfl,hb2⟩;have HV2:=zq (HV.o.below hb2);clear hsz x3 x12 y0 y1 y2 y3 y4 y5 y6 y7 y8;clear hb2 HV
 cases hnm:zAC d.th with
 | false =>
  have HS:Hid (res=5):=by
   show _=_
   rw [←HR.o];unfold divV;rw [hk];simp [hnm]
  clear hnm HR hk;have hsz:=HV2.o.fx.lt;have x3:=HV2.o.dx.c 3 rfl;have x12:=HV2.o.dx.c 12 rfl;have y0:=HV2.o.fx.c 0 rfl;have y1:=HV2.o.fx.c 1 rfl;have y2:=HV2.o.fx.c 2 rfl;have y3:=HV2.o.fx.c 3 rfl;have y4:=HV2.o.fx.c 4 rfl;have y5:=HV2.o.fx.c 5 rfl;have y6:=HV2.o.fx.c 6 rfl;have y7:=HV2.o.fx.c 7 rfl;have y8:=HV2.o.fx.c 8 rfl;go_wp2;go_ret
  exact zAe.mk (zBa HS.o.symm) HV2.o.bel
 | true =>
  have HR1:Hid ((if zCG d.bg=false then (1:Int) else zBV d)=res):=by
   show _=_
   rw [←HR.o];unfold divV;rw [hk];simp [hnm]
  clear hnm HR hk;have HDY:=zq (fun W'=>isDay_c d.bg W')
  have hsz:=HV2.o.fx.lt;have x3:=HV2.o.dx.c 3 rfl;have x12:=HV2.o.dx.c 12 rfl;have y0:=HV2.o.fx.c 0 rfl;have y1:=HV2.o.fx.c 1 rfl;have y2:=HV2.o.fx.c 2 rfl;have y3:=HV2.o.fx.c 3 rfl;have y4:=HV2.o.fx.c 4 rfl;have y5:=HV2.o.fx.c 5 rfl;have y6:=HV2.o.fx.c 6 rfl;have y7:=HV2.o.fx.c 7 rfl;have y8:=HV2.o.fx.c 8 rfl
  go_wp2_with fail
  with_reducible refine (HDY.o _).mono ?_
  rintro e w3 ⟨rfl,rfl⟩
  cases hb:zCG d.bg with
  | false =>
   have HS:Hid (res=1):=by
    show _=_
    rw [←HR1.o,aE hb]
   clear hb HR1;go_wp2;go_ret
   exact zAe.mk (zBa HS.o.symm) HV2.o.bel
  | true =>
   have HS:Hid (res=zBV d):=by
    show _=_
    rw [←HR1.o,aC (by rw [hb];simp)]
   have HSH:=zq (checkShares_c d w2 HV2.o.dok);clear hb HR1 HDY;have x0:=HV2.o.dx.c 0 rfl;have x1:=HV2.o.dx.c 1 rfl;have x2:=HV2.o.dx.c 2 rfl;have x4:=HV2.o.dx.c 4 rfl;have x5:=HV2.o.dx.c 5 rfl;have x6:=HV2.o.dx.c 6 rfl;have x7:=HV2.o.dx.c 7 rfl;have x8:=HV2.o.dx.c 8 rfl;have x9:=HV2.o.dx.c 9 rfl;have x10:=HV2.o.dx.c 10 rfl;have x11:=HV2.o.dx.c 11 rfl;have x13:=HV2.o.dx.c 13 rfl;have x14:=HV2.o.dx.c 14 rfl;have x15:=HV2.o.dx.c 15 rfl
   go_wp2_with fail
   with_reducible refine HSH.o.mono ?_
   rintro e w4 ⟨rfl,hb4⟩;have HV4:=zq (HV2.o.below hb4);clear hsz x0 x1 x2 x3 x4 x5 x6 x7 x8 x9 x10 x11 x12 x13 x14 x15 y0 y1 y2 y3 y4 y5 y6 y7 y8;clear hb4 HV2 HSH;have hsz:=HV4.o.fx.lt;have y0:=HV4.o.fx.c 0 rfl;have y1:=HV4.o.fx.c 1 rfl;have y2:=HV4.o.fx.c 2 rfl;have y3:=HV4.o.fx.c 3 rfl;have y4:=HV4.o.fx.c 4 rfl;have y5:=HV4.o.fx.c 5 rfl;have y6:=HV4.o.fx.c 6 rfl;have y7:=HV4.o.fx.c 7 rfl;have y8:=HV4.o.fx.c 8 rfl
   by_cases hz:zBV d=0
   ·rw [hz] at HS ⊢
    clear hz;go_wp2;go_ret
    exact zAe.mk (zBa HS.o.symm) HV4.o.bel
   ·have hzb:(zBV d != 0)=true:=by simpa using hz
    clear hz;go_wp2;go_ret
    exact zAe.mk (zBa HS.o.symm) HV4.o.bel
theorem values_5 (ci:Nat) (A:Option Addr) (c r1 r2 g1 g2:Nat) (AL:Option Addr) (cL:Nat) (l:List Rg) (uA:Option Addr) (uc:Nat) (us:List BA) (m2 m3 m4 m5:Nat) (p d:De) (f2 f3:BA→Option Value) (w:World)
  (hk:d.kd=5) (hc:Bx w ci (ckC A c r1 r2 g1 g2 AL cL l uA uc us m2 m3 m4 m5 p) 101) (hw:WR w A r1 r2 g1 g2 AL l) (hu:Strs w uA us) (hd:DeOk w d) (h2:zAt Value.string w m2 f2) (h3:zAt Value.string w m3 f3) :
  Calls Tryz.prog 76 #[.pointer (some ⟨ci,0,none⟩),deV d,.agg #[.bool false,.bool true,.bool false,.bool false,.bool false,.bool false,.bool false,.bool true,.bool false]] w (zAe (.int .i64 (divV d)) w):=by
 generalize hres:divV d=res;have HR:=zq hres;clear hres;have HV:=zq (VS.start w ci #[.bool false,.bool true,.bool false,.bool false,.bool false,.bool false,.bool false,.bool true,.bool false] A c r1 r2 g1 g2 AL cL l uA uc us m2 m3 m4 m5 p d f2 f3 hc hw hu hd h2 h3);clear hc hw hu hd h2 h3;obtain ⟨W,hW⟩:∃ W,W=(w.alloc (.cells (deC d) 47)).alloc (.cells #[.bool false,.bool true,.bool false,.bool false,.bool false,.bool false,.bool false,.bool true,.bool false] 84):=⟨_,rfl⟩;rw [←hW] at HV
 go_enter Tryz.func76,Tryz.ntmps76
 go_wp2_with fail
 rw [←hW];clear hW;have hsz:=HV.o.fx.lt;have x4:=HV.o.dx.c 4 rfl;have x12:=HV.o.dx.c 12 rfl;have y0:=HV.o.fx.c 0 rfl;have y1:=HV.o.fx.c 1 rfl;have y2:=HV.o.fx.c 2 rfl;have y3:=HV.o.fx.c 3 rfl;have y4:=HV.o.fx.c 4 rfl;have y5:=HV.o.fx.c 5 rfl;have y6:=HV.o.fx.c 6 rfl;have y7:=HV.o.fx.c 7 rfl;have y8:=HV.o.fx.c 8 rfl;have hz:=HV.o.dok.strs.2.2.1
 go_wp2_with fail
 with_reducible refine (zBM d.fr _ hz).mono ?_
 rintro e w2 ⟨rfl,hb2⟩;have HV2:=zq (HV.o.below hb2);clear hsz x4 x12 y0 y1 y2 y3 y4 y5 y6 y7 y8;clear hb2 HV
 cases hnm:zAC d.fr with
 | false =>
  have HS:Hid (res=5):=by
   show _=_
   rw [←HR.o];unfold divV;rw [hk];simp [hnm]
  clear hnm HR hk;have hsz:=HV2.o.fx.lt;have x4:=HV2.o.dx.c 4 rfl;have x12:=HV2.o.dx.c 12 rfl;have y0:=HV2.o.fx.c 0 rfl;have y1:=HV2.o.fx.c 1 rfl;have y2:=HV2.o.fx.c 2 rfl;have y3:=HV2.o.fx.c 3 rfl;have y4:=HV2.o.fx.c 4 rfl;have y5:=HV2.o.fx.c 5 rfl;have y6:=HV2.o.fx.c 6 rfl;have y7:=HV2.o.fx.c 7 rfl;have y8:=HV2.o.fx.c 8 rfl;go_wp2;go_ret
  exact zAe.mk (zBa HS.o.symm) HV2.o.bel
 | true =>
  have HR1:Hid ((if zCG d.bg=false then (1:Int) else zBV d)=res):=by
   show _=_
   rw [←HR.o];unfold divV;rw [hk];simp [hnm]
  clear hnm HR hk;have HDY:=zq (fun W'=>isDay_c d.bg W')
  have hsz:=HV2.o.fx.lt;have x4:=HV2.o.dx.c 4 rfl;have x12:=HV2.o.dx.c 12 rfl;have y0:=HV2.o.fx.c 0 rfl;have y1:=HV2.o.fx.c 1 rfl;have y2:=HV2.o.fx.c 2 rfl;have y3:=HV2.o.fx.c 3 rfl;have y4:=HV2.o.fx.c 4 rfl;have y5:=HV2.o.fx.c 5 rfl;have y6:=HV2.o.fx.c 6 rfl;have y7:=HV2.o.fx.c 7 rfl;have y8:=HV2.o.fx.c 8 rfl
  go_wp2_with fail
  with_reducible refine (HDY.o _).mono ?_
  rintro e w3 ⟨rfl,rfl⟩
  cases hb:zCG d.bg with
  | false =>
   have HS:Hid (res=1):=by
    show _=_
    rw [←HR1.o,aE hb]
   clear hb HR1;go_wp2;go_ret
   exact zAe.mk (zBa HS.o.symm) HV2.o.bel
  | true =>
   have HS:Hid (res=zBV d):=by
    show _=_
    rw [←HR1.o,aC (by rw [hb];simp)]
   have HSH:=zq (checkShares_c d w2 HV2.o.dok);clear hb HR1 HDY;have x0:=HV2.o.dx.c 0 rfl;have x1:=HV2.o.dx.c 1 rfl;have x2:=HV2.o.dx.c 2 rfl;have x3:=HV2.o.dx.c 3 rfl;have x5:=HV2.o.dx.c 5 rfl;have x6:=HV2.o.dx.c 6 rfl;have x7:=HV2.o.dx.c 7 rfl;have x8:=HV2.o.dx.c 8 rfl;have x9:=HV2.o.dx.c 9 rfl;have x10:=HV2.o.dx.c 10 rfl;have x11:=HV2.o.dx.c 11 rfl;have x13:=HV2.o.dx.c 13 rfl;have x14:=HV2.o.dx.c 14 rfl;have x15:=HV2.o.dx.c 15 rfl
   go_wp2_with fail
   with_reducible refine HSH.o.mono ?_
   rintro e w4 ⟨rfl,hb4⟩;have HV4:=zq (HV2.o.below hb4);clear hsz x0 x1 x2 x3 x4 x5 x6 x7 x8 x9 x10 x11 x12 x13 x14 x15 y0 y1 y2 y3 y4 y5 y6 y7 y8;clear hb4 HV2 HSH;have hsz:=HV4.o.fx.lt;have y0:=HV4.o.fx.c 0 rfl;have y1:=HV4.o.fx.c 1 rfl;have y2:=HV4.o.fx.c 2 rfl;have y3:=HV4.o.fx.c 3 rfl;have y4:=HV4.o.fx.c 4 rfl;have y5:=HV4.o.fx.c 5 rfl;have y6:=HV4.o.fx.c 6 rfl;have y7:=HV4.o.fx.c 7 rfl;have y8:=HV4.o.fx.c 8 rfl
   by_cases hz:zBV d=0
   ·rw [hz] at HS ⊢
    clear hz;go_wp2;go_ret
    exact zAe.mk (zBa HS.o.symm) HV4.o.bel
   ·have hzb:(zBV d != 0)=true:=by simpa using hz
    clear hz;go_wp2;go_ret
    exact zAe.mk (zBa HS.o.symm) HV4.o.bel
def restF (d:De):Int:=if zCG d.bg=false∨zCG d.en=false then 1 else if d.en≤d.bg then 8 else 0
def zCA (l:List Rg) (us:List BA) (d:De):Int :=
 if zAC d.th=false∨zAC d.fr=false∨zAC d.to_=false then 5
 else if d.fr=d.to_ then 12
 else if parF d≠0 then parF d
 else if zBv l us d≠0 then zBv l us d else restF d
theorem giftF_two (l:List Rg) (us:List BA) (d:De):giftF l us d=zCA l us d:=by
 unfold giftF zCA zBv restF
 by_cases h1:chkA l d.ar=0
 ·by_cases h2:zCg l d.ar=[]∨d.us=[]
  ·simp [h1,h2]
  ·simp [h1,h2]
 ·simp [h1]
theorem values_3 (ci:Nat) (A:Option Addr) (c r1 r2 g1 g2:Nat) (AL:Option Addr) (cL:Nat) (l:List Rg) (uA:Option Addr) (uc:Nat) (us:List BA) (m2 m3 m4 m5:Nat) (p d:De) (f2 f3:BA→Option Value) (w:World)
  (hk:d.kd=3) (g:GoodR l) (hul:us.length≤1000000) (hc:Bx w ci (ckC A c r1 r2 g1 g2 AL cL l uA uc us m2 m3 m4 m5 p) 101) (hw:WR w A r1 r2 g1 g2 AL l) (hu:Strs w uA us) (hd:DeOk w d) (h2:zAt Value.string w m2 f2) (h3:zAt Value.string w m3 f3) :
  Calls Tryz.prog 76 #[.pointer (some ⟨ci,0,none⟩),deV d,.agg #[.bool true,.bool true,.bool true,.bool false,.bool true,.bool true,.bool true,.bool false,.bool false]] w (zAe (.int .i64 (zCA l us d)) w):=by
 generalize hres:zCA l us d=res;have HR:=zq hres;clear hres;have HV:=zq (VS.start w ci #[.bool true,.bool true,.bool true,.bool false,.bool true,.bool true,.bool true,.bool false,.bool false] A c r1 r2 g1 g2 AL cL l uA uc us m2 m3 m4 m5 p d f2 f3 hc hw hu hd h2 h3);clear hc hw hu hd h2 h3;obtain ⟨W,hW⟩:∃ W,W=(w.alloc (.cells (deC d) 47)).alloc (.cells #[.bool true,.bool true,.bool true,.bool false,.bool true,.bool true,.bool true,.bool false,.bool false] 84):=⟨_,rfl⟩;rw [←hW] at HV
 go_enter Tryz.func76,Tryz.ntmps76
 go_wp2_with fail
 rw [←hW];clear hW;have hsz:=HV.o.fx.lt;have x3:=HV.o.dx.c 3 rfl;have x4:=HV.o.dx.c 4 rfl;have x5:=HV.o.dx.c 5 rfl;have y0:=HV.o.fx.c 0 rfl;have y1:=HV.o.fx.c 1 rfl;have y2:=HV.o.fx.c 2 rfl;have y3:=HV.o.fx.c 3 rfl;have y4:=HV.o.fx.c 4 rfl;have y5:=HV.o.fx.c 5 rfl;have y6:=HV.o.fx.c 6 rfl;have y7:=HV.o.fx.c 7 rfl;have y8:=HV.o.fx.c 8 rfl;have hz:=HV.o.dok.strs.2.1
 go_wp2_with fail
 with_reducible refine (zBM d.th _ hz).mono ?_
 rintro e w2 ⟨rfl,hb2⟩;have HV2:=zq (HV.o.below hb2);clear hsz x3 x4 x5 y0 y1 y2 y3 y4 y5 y6 y7 y8 hz;clear hb2 HV
 cases hnm0:zAC d.th with
 | false =>
  have hor:zAC d.th=false∨zAC d.fr=false∨zAC d.to_=false:=.inl hnm0;have hsz:=HV2.o.fx.lt;have x3:=HV2.o.dx.c 3 rfl;have x4:=HV2.o.dx.c 4 rfl;have x5:=HV2.o.dx.c 5 rfl;have y0:=HV2.o.fx.c 0 rfl;have y1:=HV2.o.fx.c 1 rfl;have y2:=HV2.o.fx.c 2 rfl;have y3:=HV2.o.fx.c 3 rfl;have y4:=HV2.o.fx.c 4 rfl;have y5:=HV2.o.fx.c 5 rfl;have y6:=HV2.o.fx.c 6 rfl;have y7:=HV2.o.fx.c 7 rfl;have y8:=HV2.o.fx.c 8 rfl
  have HS:Hid (res=5):=by
   show _=_
   rw [←HR.o];unfold zCA;rw [aE hor]
  clear hor HR hnm0;go_wp2;go_ret
  exact zAe.mk (zBa HS.o.symm) HV2.o.bel
 | true =>
  have hsz:=HV2.o.fx.lt;have x3:=HV2.o.dx.c 3 rfl;have x4:=HV2.o.dx.c 4 rfl;have x5:=HV2.o.dx.c 5 rfl;have y0:=HV2.o.fx.c 0 rfl;have y1:=HV2.o.fx.c 1 rfl;have y2:=HV2.o.fx.c 2 rfl;have y3:=HV2.o.fx.c 3 rfl;have y4:=HV2.o.fx.c 4 rfl;have y5:=HV2.o.fx.c 5 rfl;have y6:=HV2.o.fx.c 6 rfl;have y7:=HV2.o.fx.c 7 rfl;have y8:=HV2.o.fx.c 8 rfl;have hz:=HV2.o.dok.strs.2.2.1
  go_wp2_with fail
  with_reducible refine (zBM d.fr _ hz).mono ?_
  rintro e w3 ⟨rfl,hb3⟩;have HV3:=zq (HV2.o.below hb3);clear hsz x3 x4 x5 y0 y1 y2 y3 y4 y5 y6 y7 y8 hz;clear hb3 HV2
  cases hnm1:zAC d.fr with
  | false =>
   have hor:zAC d.th=false∨zAC d.fr=false∨zAC d.to_=false:=.inr (.inl hnm1);have hsz:=HV3.o.fx.lt;have x3:=HV3.o.dx.c 3 rfl;have x4:=HV3.o.dx.c 4 rfl;have x5:=HV3.o.dx.c 5 rfl;have y0:=HV3.o.fx.c 0 rfl;have y1:=HV3.o.fx.c 1 rfl;have y2:=HV3.o.fx.c 2 rfl;have y3:=HV3.o.fx.c 3 rfl;have y4:=HV3.o.fx.c 4 rfl;have y5:=HV3.o.fx.c 5 rfl;have y6:=HV3.o.fx.c 6 rfl;have y7:=HV3.o.fx.c 7 rfl;have y8:=HV3.o.fx.c 8 rfl
   have HS:Hid (res=5):=by
    show _=_
    rw [←HR.o];unfold zCA;rw [aE hor]
   clear hor HR hnm0 hnm1;go_wp2;go_ret
   exact zAe.mk (zBa HS.o.symm) HV3.o.bel
  | true =>
   have hsz:=HV3.o.fx.lt;have x3:=HV3.o.dx.c 3 rfl;have x4:=HV3.o.dx.c 4 rfl;have x5:=HV3.o.dx.c 5 rfl;have y0:=HV3.o.fx.c 0 rfl;have y1:=HV3.o.fx.c 1 rfl;have y2:=HV3.o.fx.c 2 rfl;have y3:=HV3.o.fx.c 3 rfl;have y4:=HV3.o.fx.c 4 rfl;have y5:=HV3.o.fx.c 5 rfl;have y6:=HV3.o.fx.c 6 rfl;have y7:=HV3.o.fx.c 7 rfl;have y8:=HV3.o.fx.c 8 rfl;have hz:=HV3.o.dok.strs.2.2.2.1
   go_wp2_with fail
   with_reducible refine (zBM d.to_ _ hz).mono ?_
   rintro e w4 ⟨rfl,hb4⟩;have HV4:=zq (HV3.o.below hb4);clear hsz x3 x4 x5 y0 y1 y2 y3 y4 y5 y6 y7 y8 hz;clear hb4 HV3
   cases hnm2:zAC d.to_ with
   | false =>
    have hor:zAC d.th=false∨zAC d.fr=false∨zAC d.to_=false:=.inr (.inr hnm2);have hsz:=HV4.o.fx.lt;have x3:=HV4.o.dx.c 3 rfl;have x4:=HV4.o.dx.c 4 rfl;have x5:=HV4.o.dx.c 5 rfl;have y0:=HV4.o.fx.c 0 rfl;have y1:=HV4.o.fx.c 1 rfl;have y2:=HV4.o.fx.c 2 rfl;have y3:=HV4.o.fx.c 3 rfl;have y4:=HV4.o.fx.c 4 rfl;have y5:=HV4.o.fx.c 5 rfl;have y6:=HV4.o.fx.c 6 rfl;have y7:=HV4.o.fx.c 7 rfl;have y8:=HV4.o.fx.c 8 rfl
    have HS:Hid (res=5):=by
     show _=_
     rw [←HR.o];unfold zCA;rw [aE hor]
    clear hor HR hnm0 hnm1 hnm2;go_wp2;go_ret
    exact zAe.mk (zBa HS.o.symm) HV4.o.bel
   | true =>
    have HR1:Hid ((if d.fr=d.to_ then (12:Int) else if parF d≠0 then parF d else if zBv l us d≠0 then zBv l us d else restF d)=res):=by
     show _=_
     have hn:¬ (zAC d.th=false∨zAC d.fr=false∨zAC d.to_=false):=by rw [hnm0,hnm1,hnm2];simp
     rw [←HR.o];unfold zCA;rw [aC hn]
    clear hnm0 hnm1 hnm2 HR
    by_cases hft:d.fr=d.to_
    ·have hfb:(d.fr.toList == d.to_.toList)=true:=zAQ hft
     have hsz:=HV4.o.fx.lt;have x3:=HV4.o.dx.c 3 rfl;have x4:=HV4.o.dx.c 4 rfl;have x5:=HV4.o.dx.c 5 rfl;have y0:=HV4.o.fx.c 0 rfl;have y1:=HV4.o.fx.c 1 rfl;have y2:=HV4.o.fx.c 2 rfl;have y3:=HV4.o.fx.c 3 rfl;have y4:=HV4.o.fx.c 4 rfl;have y5:=HV4.o.fx.c 5 rfl;have y6:=HV4.o.fx.c 6 rfl;have y7:=HV4.o.fx.c 7 rfl;have y8:=HV4.o.fx.c 8 rfl
     have HS:Hid (res=12):=by
      show _=_
      rw [←HR1.o,aE hft]
     clear hft HR1;go_wp2;go_ret
     exact zAe.mk (zBa HS.o.symm) HV4.o.bel
    have hfb:(d.fr.toList == d.to_.toList)=false:=zAw hft
    have HR2:Hid ((if parF d≠0 then parF d else if zBv l us d≠0 then zBv l us d else restF d)=res):=by
     show _=_
     rw [←HR1.o,aC hft]
    clear hft HR1
    have hpf:parF d=0:=by
     unfold parF;rw [aE za]
    have HR3:Hid ((if zBv l us d≠0 then zBv l us d else restF d)=res):=by
     show _=_
     have hn:¬ parF d≠0:=fun h=>h hpf
     rw [←HR2.o,aC hn]
    clear hpf HR2 hk;have x4:=HV4.o.dx.c 4 rfl;have x5:=HV4.o.dx.c 5 rfl;have HPL:=zq (place_c ci A c r1 r2 g1 g2 AL cL l uA uc us m2 m3 m4 m5 p d w4 HV4.o.ck g HV4.o.wrl HV4.o.st hul HV4.o.dok);have hsz:=HV4.o.fx.lt;have x0:=HV4.o.dx.c 0 rfl;have x1:=HV4.o.dx.c 1 rfl;have x2:=HV4.o.dx.c 2 rfl;have x3:=HV4.o.dx.c 3 rfl;have x4:=HV4.o.dx.c 4 rfl;have x5:=HV4.o.dx.c 5 rfl;have x6:=HV4.o.dx.c 6 rfl;have x7:=HV4.o.dx.c 7 rfl;have x8:=HV4.o.dx.c 8 rfl;have x9:=HV4.o.dx.c 9 rfl;have x10:=HV4.o.dx.c 10 rfl;have x11:=HV4.o.dx.c 11 rfl;have x12:=HV4.o.dx.c 12 rfl;have x13:=HV4.o.dx.c 13 rfl;have x14:=HV4.o.dx.c 14 rfl;have x15:=HV4.o.dx.c 15 rfl;have y0:=HV4.o.fx.c 0 rfl;have y1:=HV4.o.fx.c 1 rfl;have y2:=HV4.o.fx.c 2 rfl;have y3:=HV4.o.fx.c 3 rfl;have y4:=HV4.o.fx.c 4 rfl;have y5:=HV4.o.fx.c 5 rfl;have y6:=HV4.o.fx.c 6 rfl;have y7:=HV4.o.fx.c 7 rfl;have y8:=HV4.o.fx.c 8 rfl
    go_wp2_with fail
    with_reducible refine HPL.o.mono ?_
    rintro e w4p ⟨rfl,hbp⟩;have HV5:=zq (HV4.o.below hbp);clear hsz x0 x1 x2 x3 x4 x5 x6 x7 x8 x9 x10 x11 x12 x13 x14 x15 y0 y1 y2 y3 y4 y5 y6 y7 y8;clear hbp HV4 HPL
    by_cases hpz:zBv l us d=0
    case neg =>
     have hpb:(zBv l us d != 0)=true:=by simpa using hpz
     have HS:Hid (res=zBv l us d):=by
      show _=_
      rw [←HR3.o,aE hpz]
     clear HR3 hpz;go_wp2;go_ret
     exact zAe.mk (zBa HS.o.symm) HV5.o.bel
    have HRP:Hid (restF d=res):=by
     show _=_
     rw [←HR3.o,aC (fun h=>h hpz)]
    rw [hpz];clear hpz HR3;have HDY:=zq (fun n W'=>isDay_c n W')
    have hsz:=HV5.o.fx.lt;have x11:=HV5.o.dx.c 11 rfl;have x12:=HV5.o.dx.c 12 rfl;have x13:=HV5.o.dx.c 13 rfl;have y0:=HV5.o.fx.c 0 rfl;have y1:=HV5.o.fx.c 1 rfl;have y2:=HV5.o.fx.c 2 rfl;have y3:=HV5.o.fx.c 3 rfl;have y4:=HV5.o.fx.c 4 rfl;have y5:=HV5.o.fx.c 5 rfl;have y6:=HV5.o.fx.c 6 rfl;have y7:=HV5.o.fx.c 7 rfl;have y8:=HV5.o.fx.c 8 rfl
    go_wp2_with fail
    with_reducible refine (HDY.o _ _).mono ?_
    rintro e w4qa ⟨rfl,rfl⟩
    cases hb1:zCG d.bg with
    | false =>
     have HS:Hid (res=1):=by
      show _=_
      rw [←HRP.o];unfold restF;rw [aE (.inl hb1)]
     clear hb1 HRP HDY;go_wp2;go_ret
     exact zAe.mk (zBa HS.o.symm) HV5.o.bel
    | true =>
     go_wp2_with fail
     with_reducible refine (HDY.o _ _).mono ?_
     rintro e w4qb ⟨rfl,rfl⟩
     cases hb2:zCG d.en with
     | false =>
      have HS:Hid (res=1):=by
       show _=_
       rw [←HRP.o];unfold restF;rw [aE (.inr hb2)]
      clear hb1 hb2 HRP HDY;go_wp2;go_ret
      exact zAe.mk (zBa HS.o.symm) HV5.o.bel
     | true =>
      have HRZ:Hid ((if d.en≤d.bg then (8:Int) else 0)=res):=by
       show _=_
       have hn:¬ (zCG d.bg=false∨zCG d.en=false):=by rw [hb1,hb2];simp
       rw [←HRP.o];unfold restF;rw [aC hn]
      clear hb1 hb2 HDY HRP
      by_cases hle:d.en≤d.bg
      ·have hleb:decide (d.en≤d.bg)=true:=cD hle
       have HS:Hid (res=8):=by
        show _=_
        rw [←HRZ.o,aE hle]
       clear HRZ;go_wp2;go_ret
       exact zAe.mk (zBa HS.o.symm) HV5.o.bel
      ·have hleb:decide (d.en≤d.bg)=false:=cF hle
       have HS:Hid (res=0):=by
        show _=_
        rw [←HRZ.o,aC hle]
       clear HRZ;go_wp2;go_ret
       exact zAe.mk (zBa HS.o.symm) HV5.o.bel
end Go.Proofs.YtoaelidmmcbkfaaGreatDoor
