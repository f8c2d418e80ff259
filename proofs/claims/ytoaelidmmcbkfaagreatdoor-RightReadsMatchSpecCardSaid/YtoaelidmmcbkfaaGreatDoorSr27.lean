/- Parts of the proof, joined: The reference's reader of a deed: no first line; the whole. slices.Equ. -/
import Derived.Test.YtoaelidmmcbkfaaGreatDoorSr25
import Derived.Test.YtoaelidmmcbkfaaGreatDoorSr26
import Derived.Shelf.GgSortFunc.Compose
set_option maxRecDepth 100000
set_option maxHeartbeats 8000000
namespace Go.Proofs.YtoaelidmmcbkfaaGreatDoor
open Go.RowKit Dw
theorem deedJ_n (r:Nat) (LA:Option Addr) (c:Nat) (L:List Ln) (k:Nat) (w:World) (h:RdJ w r LA c L k) (hG:GOK w) (hF:zAG (L.drop k) = .error (L.drop k)) (hng:∀ i dy kw,nxF zCC 3 (L.drop k)=some [i,dy,kw]→rowL i=true→(zDv dy).isSome=true→kdX kw<1) :
  Calls Tryz.prog 17 #[.pointer (some ⟨r,0,none⟩)] w (zDF r LA c L k w):=by
 have hrw:=h.bx.lt;have hmany:=h.many;have HLA:=zq h.la;have HF:=zq hF;have HX:Hid (Bx (w.alloc (.cells (deC zBV) 47)) w.heap.size (deC zBV) 47):=Bx.new _ _ _;have HB:Hid (Below w.heap.size w (w.alloc (.cells (deC zBV) 47))):=(bS _ _).alloc (aB _) _;obtain ⟨W,hW⟩:∃ W,W=w.alloc (.cells (deC zBV) 47):=⟨_,rfl⟩;rw [←hW] at HX HB;have HI:=zq (h.below HB.o);have HW:Hid (Calls Tryz.prog 14 #[.pointer (some ⟨r,0,none⟩),.string ⟨#[100,101,101,100]⟩,.int .i64 3] W (zBN (nxF zCC 3 (L.drop k)) W)):=zCD r LA c L k ⟨#[100,101,101,100]⟩ 3 W HI.o (hG.below HB.o) zc;have HNG:=zq hng
 have HT:Hid (∀ V,nxF zCC 3 (L.drop k)=some V→∃ i dy kw,V=[i,dy,kw]∧i.length≤600000∧dy.length≤600000):=fun V hV=>by
  have hl:=zDw hV
  match V,hl with
  | [i,dy,kw],_=>exact ⟨i,dy,kw,rfl,zAU h.drops hV zd,zAU h.drops hV zd⟩
 generalize nxF zCC 3 (L.drop k)=res at *;clear h hG hF hng;have hW2:W=w.alloc (.cells #[.string ⟨#[]⟩,.int .i64 0,.int .i64 0,.string ⟨#[]⟩,.string ⟨#[]⟩,.string ⟨#[]⟩,.string ⟨#[]⟩,.string ⟨#[]⟩,.bool false,.bool false,.slice none 0 0,.slice none 0 0,.int .i64 0,.int .i64 0,.slice none 0 0,.string ⟨#[]⟩] 47):=hW;clear hW
 go_enter Tryz.func17,Tryz.ntmps17
 go_upto_region 1 with fail
 rw [←hW2];clear hW2
 go_wp2_with fail
 with_reducible refine HW.o.mono ?_
 rintro e w1 ⟨A,n1,c1,rfl,hst,hb1⟩;have HI1:=zq (HI.o.below hb1);have HX1:=zq (HX.o.below hb1);have HB1:=zq (zAb HB.o hb1);have HST:=zq hst;clear hst hb1 HW HI HX HB
 cases res with
 | none =>
  obtain ⟨hst,hz,hgv⟩:=zBg (k:=k) (ok:=false) (d:=zBV) hrw HLA.o HI1.o (KeptB.below HB1.o) HX1.o rfl (fun h=>zy) (fun _=>HF.o)
  have HSR:=zq hst;have HZ:=zq hz;have HGO:=zq hgv;have zx:=HX1.o.lt;clear hst hz hgv;go_upto_region 3 with fail
  go_wp2_with (refine zAg rfl _ _ _ rfl ⟨w.heap.size,0,none⟩ (deV zBV) rfl rfl HSR.o ?_)
  refine dD (v:=.tuple #[deV zBV,.bool false]) (zAD rfl rfl HZ.o) rfl ?_
  exact HGO.o
 | some V =>
  obtain ⟨i,dy,kw,rfl,hil,hdl⟩:=HT.o V rfl;obtain ⟨rfl,hlo,hst⟩:=HST.o _ rfl;obtain ⟨bw,ow,hA2,hc2⟩:=hst zd;subst hA2;have c0:w1.cell? ⟨bw,ow,none⟩=some (.string (ofL i)):=hc2 0 zd;have c1':w1.cell? ⟨bw,ow+1,none⟩=some (.string (ofL dy)):=hc2 1 zd;have c2':w1.cell? ⟨bw,ow+2,none⟩=some (.string (ofL kw)):=hc2 2 zd;have HR:=zq (zCg (ofL i) w1 zr);rw [zAj] at HR;have HN2:=zq (HNG.o i dy kw rfl);generalize rowL i=b1 at *;clear hlo hst hc2 HST HT HNG
  go_wp2_with fail
  with_reducible refine HR.o.mono ?_
  rintro e vv ⟨rfl,rfl⟩;clear HR
  cases b1 with
  | false =>
   clear c0 c1' c2';obtain ⟨hst,hz,hgv⟩:=zBg (k:=k) (ok:=false) (d:=zBV) hrw HLA.o HI1.o (KeptB.below HB1.o) HX1.o rfl (fun h=>zy) (fun _=>HF.o)
   have HSR:=zq hst;have HZ:=zq hz;have HGO:=zq hgv;have zx:=HX1.o.lt;clear hst hz hgv;go_upto_region 3 with fail
   go_wp2_with (refine zAg rfl _ _ _ rfl ⟨w.heap.size,0,none⟩ (deV zBV) rfl rfl HSR.o ?_)
   refine dD (v:=.tuple #[deV zBV,.bool false]) (zAD rfl rfl HZ.o) rfl ?_
   exact HGO.o
  | true =>
   have HN3:Hid ((zDv dy).isSome=true→kdX kw<1):=HN2.o zk;have HN:=zq (rsNum_c (ofL dy) w1 zr);rw [zAj] at HN;generalize (zDv dy).isSome=ok at *;generalize (zDv dy).getD 0=nv at *
   go_wp2_with fail
   with_reducible refine HN.o.mono ?_
   rintro e w3 ⟨rfl,hb3⟩;have HI3:=zq (HI1.o.below hb3);have HX3:=zq (HX1.o.below hb3);have HB3:=zq (zAb HB1.o hb3);have c2:=zAh hb3 c2';clear hb3 HI1 HX1 HB1 c0 c1' c2' HN HN2;have KA:Hid (w3.drew.cell? ⟨bw,ow+2,none⟩=some (.string (ofL kw))):=zAh (zAc (bS _ _) 1) c2;have HWD:=zq (wordsR_c w3.drew);go_upto_region 5 with fail
   refine dW (S:=(fun w'=>w'.cell? ⟨bw,ow+2,none⟩=some (.string (ofL kw)))) zb ?_ (fun hHeld=>?_)
   ·first | exact KA.out | exact KB.out
   refine Dw.tk 1 ?_ rfl ?_ zh ?_
   rotate_left 1
   ·(intro w _;go_simp;try with_reducible rfl)
   simp only [Dw.lay,Act.put];refine Dw.tk 2 ?_ rfl ?_ zh ?_
   rotate_left 1
   ·(intro w _;go_simp;try with_reducible rfl)
   simp only [Dw.lay,Act.put];refine Dw.tk 3 ?_ rfl ?_ zh ?_
   rotate_left 1
   ·(intro w hSw;(try dsimp only at hSw);go_simp;try with_reducible rfl)
   simp only [Dw.lay,Act.put];refine Dw.rd1 0 rfl (fun K hK=>?_)
   clear hHeld
   go_simp
   go_at_call 48
   with_reducible refine HWD.o.mono ?_
   rintro e w4 ⟨g,rfl,hb4,hx4⟩;have hbt:=zAb (zAc (bS w3.heap.size w3) 1) hb4;have KB:=zq (zAh hb4 KA.out);have HPO:Hid (Calls Tryz.prog 47 #[.slice (some ⟨g,0,none⟩) 5 5,.string (ofL kw)] w4 (zEe kdWs (ofL kw) w4)):=zCO (some ⟨g,0,none⟩) 5 kdWs (ofL kw) w4 zc (kd_cells hx4);have HI4:=zq (HI3.o.below hbt);have HX4:=zq (HX3.o.below hbt);have HB4:=zq (zAb HB3.o hbt);clear hbt hb4 hx4 HWD HI3 HX3 HB3;refine hK.out _ _ ?_ (fun hHeld=>?_)
   ·first | exact KA.out | exact KB.out
   clear hK K
   try simp only [Dw.lay,Act.put]
   refine Dw.rd1 4 rfl (fun K hK=>?_)
   clear hHeld
   go_simp
   go_at_call 47
   with_reducible refine HPO.o.mono ?_
   rintro e w5 ⟨z,rfl,hz,rfl⟩;obtain ⟨z1,z2,z3⟩:=zDV hz;clear hz HPO;refine hK.out _ _ ?_ (fun hHeld=>?_)
   ·first | exact KA.out | exact KB.out
   clear hK K
   try simp only [Dw.lay,Act.put]
   refine Dw.rd1 5 rfl (fun K hK=>?_)
   clear hHeld
   go_simp
   refine hK.out _ _ ?_ (fun hHeld=>?_)
   ·first | exact KA.out | exact KB.out
   clear hK K
   try simp only [Dw.lay,Act.put]
   refine dZ zb ?_ _
   clear hHeld;clear c2
   cases ok with
   | false =>
    clear z1;obtain ⟨hst,hz,hgv⟩:=zBg (k:=k) (ok:=false) (d:=zBV) hrw HLA.o HI4.o (KeptB.below HB4.o) HX4.o rfl (fun h=>zy) (fun _=>HF.o)
    have HSR:=zq hst;have HZ:=zq hz;have HGO:=zq hgv;have zx:=HX4.o.lt;clear hst hz hgv;go_upto_region 7 with fail
    go_wp2_with (refine zAg rfl _ _ _ rfl ⟨w.heap.size,0,none⟩ (deV zBV) rfl rfl HSR.o ?_)
    refine dD (v:=.tuple #[deV zBV,.bool false]) (zAD rfl rfl HZ.o) rfl ?_
    exact HGO.o
   | true =>
    have hk1:=HN3.o zk;have hz0:z<0:=za;clear z1 z2 z3 hk1;obtain ⟨hst,hz,hgv⟩:=zBg (k:=k) (ok:=false) (d:=zBV) hrw HLA.o HI4.o (KeptB.below HB4.o) HX4.o rfl (fun h=>zy) (fun _=>HF.o)
    have HSR:=zq hst;have HZ:=zq hz;have HGO:=zq hgv;have zx:=HX4.o.lt;clear hst hz hgv;go_upto_region 7 with fail
    go_wp2_with (refine zAg rfl _ _ _ rfl ⟨w.heap.size,0,none⟩ (deV zBV) rfl rfl HSR.o ?_)
    refine dD (v:=.tuple #[deV zBV,.bool false]) (zAD rfl rfl HZ.o) rfl ?_
    exact HGO.o
theorem deedJ_c (r:Nat) (LA:Option Addr) (c:Nat) (L:List Ln) (k:Nat) (w:World) (h:RdJ w r LA c L k) (hG:GOK w) (hg:gkB<r) :
  Calls Tryz.prog 17 #[.pointer (some ⟨r,0,none⟩)] w (zDF r LA c L k w):=by
 by_cases hgood:∃ i dy kw,nxF zCC 3 (L.drop k)=some [i,dy,kw]∧rowL i=true∧(zDv dy).isSome=true∧1≤kdX kw
 ·obtain ⟨i,dy,kw,h1,h2,h3,h4⟩:=hgood
  obtain ⟨n,h3⟩:=Option.isSome_iff_exists.1 h3;have h5:=kdX_le kw
  rcases (show kdX kw=1∨kdX kw=2∨kdX kw=3∨kdX kw=4∨kdX kw=5 by omega) with hk | hk | hk | hk | hk
  ·exact deedJ_41 r LA c L k w h hG hg i dy kw n h1 h2 h3 (.inr (.inl hk))
  ·exact deedJ_23 r LA c L k w h hG hg i dy kw n h1 h2 h3 (.inl hk)
  ·exact deedJ_23 r LA c L k w h hG hg i dy kw n h1 h2 h3 (.inr hk)
  ·exact deedJ_41 r LA c L k w h hG hg i dy kw n h1 h2 h3 (.inl hk)
  ·exact deedJ_41 r LA c L k w h hG hg i dy kw n h1 h2 h3 (.inr (.inr hk))
 ·have hng:∀ i dy kw,nxF zCC 3 (L.drop k)=some [i,dy,kw]→rowL i=true→(zDv dy).isSome=true→kdX kw<1:=fun i dy kw h1 h2 h3=>by
   rcases Int.lt_or_le (kdX kw) 1 with h4 | h4
   ·exact h4
   ·exact absurd ⟨i,dy,kw,h1,h2,h3,h4⟩ hgood
  refine deedJ_n r LA c L k w h hG ?_ hng
  rw [deedX_nx]
  cases hn:nxF zCC 3 (L.drop k) with
  | none=>rfl
  | some W =>
   have hl:=zDw hn
   match W,hl with
   | [i,dy,kw],_ =>
    simp only
    cases hd:zDv dy with
    | none=>rfl
    | some n =>
     simp only;rw [aC];rintro ⟨h1,h2⟩;have:=hng i dy kw hn h1 (by rw [hd];rfl)
     omega
def GivesEq (same:Prop) (w:World) (e:Ending) (w':World):Prop:=∃ r:Bool,e = .returned (.bool r)∧(r=true↔same)∧∃ n,w'=w.drewN n
theorem GivesEq.no {same:Prop} {w w':World} (h:¬ same) (hw:∃ n,w'=w.drewN n):GivesEq same w (.returned (.bool false)) w':=⟨false,rfl,⟨(fun e=>vz),fun e=>absurd e h⟩,hw⟩
theorem GivesEq.yes {same:Prop} {w w':World} (h:same) (hw:∃ n,w'=w.drewN n):GivesEq same w (.returned (.bool true)) w':=⟨true,rfl,⟨fun _=>h,fun _=>rfl⟩,hw⟩
def EqRel2 {α:Type} (w:World) (L M:List α) (m:Nat) (i:Value) (wr:World):Prop :=
 ∃ q,wr=w.drewN q∧∃ k:Nat,k+m=L.length∧i = .int .i64 k∧∀ j,j<k→L[j]?=M[j]?
theorem same_of {α:Type} {L M:List α} (hl:L.length=M.length) {k:Nat} (hk:L.length≤k) (h:∀ j,j<k→L[j]?=M[j]?):L=M:=by
 apply List.ext_getElem?
 intro i
 by_cases hi:i<k
 ·exact h i hi
 ·rw [List.getElem?_eq_none za,List.getElem?_eq_none za]
theorem bool_ne {a b:Bool} (h:¬ a=b):(a == b)=false:=by cases a<;>cases b<;>simp_all
def zBS (d e:De):Prop:=d.id=e.id∧d.day=e.day∧d.kd=e.kd∧d.th=e.th∧d.fr=e.fr∧d.to_=e.to_∧(d.nu=e.nu∧d.de=e.de)∧d.ex=e.ex∧d.sb=e.sb∧d.ar=e.ar∧d.us=e.us∧d.bg=e.bg∧d.en=e.en∧d.sh=e.sh∧d.ot=e.ot
def zAP (same:Prop) (w:World) (e:Ending) (w':World):Prop:=∃ r:Bool,e = .returned (.bool r)∧(r=true↔same)∧Below w.heap.size w w'
theorem zAP.no {same:Prop} {w w':World} (h:¬ same) (hw:Below w.heap.size w w'):zAP same w (.returned (.bool false)) w':=⟨false,rfl,⟨(fun e=>vz),fun e=>absurd e h⟩,hw⟩
theorem zAP.yes {same:Prop} {w w':World} (h:same) (hw:Below w.heap.size w w'):zAP same w (.returned (.bool true)) w':=⟨true,rfl,⟨fun _=>h,fun _=>rfl⟩,hw⟩
end Go.Proofs.YtoaelidmmcbkfaaGreatDoor
namespace Dw
end Dw
namespace Go.Proofs.YtoaelidmmcbkfaaGreatDoor
open Go.Shelf Go.RowKit Go.Lib Go.Sort Dw
end Go.Proofs.YtoaelidmmcbkfaaGreatDoor
namespace Go.Proofs.YtoaelidmmcbkfaaGreatDoor
open Go.RowKit Dw
def divV (d:De):Int :=
 if (d.kd=1∧zBA d.th=false)∨(d.kd=5∧zBA d.fr=false) then 5 else if zCm d.bg=false then 1 else zCF d
theorem values_1 (ci:Nat) (A:Option Addr) (c r1 r2 g1 g2:Nat) (AL:Option Addr) (cL:Nat) (l:List Rg) (uA:Option Addr) (uc:Nat) (us:List BA) (m2 m3 m4 m5:Nat) (p d:De) (f2 f3:BA→Option Value) (w:World)
  (hk:d.kd=1) (hc:Bx w ci (ckC A c r1 r2 g1 g2 AL cL l uA uc us m2 m3 m4 m5 p) 101) (hw:WR w A r1 r2 g1 g2 AL l) (hu:Strs w uA us) (hd:DeOk w d) (h2:zAO Value.string w m2 f2) (h3:zAO Value.string w m3 f3) :
  Calls Tryz.prog 76 #[.pointer (some ⟨ci,0,none⟩),deV d,.agg #[.bool true,.bool false,.bool false,.bool false,.bool false,.bool false,.bool false,.bool true,.bool false]] w (zAd (.int .i64 (divV d)) w):=by
 generalize hres:divV d=res;have HR:=zq hres;clear hres;have HV:=zq (VS.start w ci #[.bool true,.bool false,.bool false,.bool false,.bool false,.bool false,.bool false,.bool true,.bool false] A c r1 r2 g1 g2 AL cL l uA uc us m2 m3 m4 m5 p d f2 f3 hc hw hu hd h2 h3);clear hc hw hu hd h2 h3;obtain ⟨W,hW⟩:∃ W,W=(w.alloc (.cells (deC d) 47)).alloc (.cells #[.bool true,.bool false,.bool false,.bool false,.bool false,.bool false,.bool false,.bool true,.bool false] 84):=⟨_,rfl⟩;rw [←hW] at HV
 go_enter Tryz.func76,Tryz.ntmps76
 go_wp2_with fail
 rw [←hW];clear hW;have hsz:=HV.o.fx.lt;have x3:=HV.o.dx.c 3 rfl;have x12:=HV.o.dx.c 12 rfl;have y0:=HV.o.fx.c 0 rfl;have y1:=HV.o.fx.c 1 rfl;have y2:=HV.o.fx.c 2 rfl;have y3:=HV.o.fx.c 3 rfl;have y4:=HV.o.fx.c 4 rfl;have y5:=HV.o.fx.c 5 rfl;have y6:=HV.o.fx.c 6 rfl;have y7:=HV.o.fx.c 7 rfl;have y8:=HV.o.fx.c 8 rfl;have hz:=HV.o.dok.strs.2.1
 go_wp2_with fail
 with_reducible refine (zCp d.th _ hz).mono ?_
 rintro e w2 ⟨rfl,hb2⟩;have HV2:=zq (HV.o.below hb2);clear hsz x3 x12 y0 y1 y2 y3 y4 y5 y6 y7 y8;clear hb2 HV
 cases hnm:zBA d.th with
 | false =>
  have HS:Hid (res=5):=by
   show _=_
   rw [←HR.o];unfold divV;rw [hk];simp [hnm]
  clear hnm HR hk;have hsz:=HV2.o.fx.lt;have x3:=HV2.o.dx.c 3 rfl;have x12:=HV2.o.dx.c 12 rfl;have y0:=HV2.o.fx.c 0 rfl;have y1:=HV2.o.fx.c 1 rfl;have y2:=HV2.o.fx.c 2 rfl;have y3:=HV2.o.fx.c 3 rfl;have y4:=HV2.o.fx.c 4 rfl;have y5:=HV2.o.fx.c 5 rfl;have y6:=HV2.o.fx.c 6 rfl;have y7:=HV2.o.fx.c 7 rfl;have y8:=HV2.o.fx.c 8 rfl;go_wp2;go_ret
  exact zAd.mk (zAC HS.o.symm) HV2.o.bel
 | true =>
  have HR1:Hid ((if zCm d.bg=false then (1:Int) else zCF d)=res):=by
   show _=_
   rw [←HR.o];unfold divV;rw [hk];simp [hnm]
  clear hnm HR hk;have HDY:=zq (fun W'=>isDay_c d.bg W')
  have hsz:=HV2.o.fx.lt;have x3:=HV2.o.dx.c 3 rfl;have x12:=HV2.o.dx.c 12 rfl;have y0:=HV2.o.fx.c 0 rfl;have y1:=HV2.o.fx.c 1 rfl;have y2:=HV2.o.fx.c 2 rfl;have y3:=HV2.o.fx.c 3 rfl;have y4:=HV2.o.fx.c 4 rfl;have y5:=HV2.o.fx.c 5 rfl;have y6:=HV2.o.fx.c 6 rfl;have y7:=HV2.o.fx.c 7 rfl;have y8:=HV2.o.fx.c 8 rfl
  go_wp2_with fail
  with_reducible refine (HDY.o _).mono ?_
  rintro e w3 ⟨rfl,rfl⟩
  cases hb:zCm d.bg with
  | false =>
   have HS:Hid (res=1):=by
    show _=_
    rw [←HR1.o,aE hb]
   clear hb HR1;go_wp2;go_ret
   exact zAd.mk (zAC HS.o.symm) HV2.o.bel
  | true =>
   have HS:Hid (res=zCF d):=by
    show _=_
    rw [←HR1.o,aC (by rw [hb];simp)]
   have HSH:=zq (checkShares_c d w2 HV2.o.dok);clear hb HR1 HDY;have x0:=HV2.o.dx.c 0 rfl;have x1:=HV2.o.dx.c 1 rfl;have x2:=HV2.o.dx.c 2 rfl;have x4:=HV2.o.dx.c 4 rfl;have x5:=HV2.o.dx.c 5 rfl;have x6:=HV2.o.dx.c 6 rfl;have x7:=HV2.o.dx.c 7 rfl;have x8:=HV2.o.dx.c 8 rfl;have x9:=HV2.o.dx.c 9 rfl;have x10:=HV2.o.dx.c 10 rfl;have x11:=HV2.o.dx.c 11 rfl;have x13:=HV2.o.dx.c 13 rfl;have x14:=HV2.o.dx.c 14 rfl;have x15:=HV2.o.dx.c 15 rfl
   go_wp2_with fail
   with_reducible refine HSH.o.mono ?_
   rintro e w4 ⟨rfl,hb4⟩;have HV4:=zq (HV2.o.below hb4);clear hsz x0 x1 x2 x3 x4 x5 x6 x7 x8 x9 x10 x11 x12 x13 x14 x15 y0 y1 y2 y3 y4 y5 y6 y7 y8;clear hb4 HV2 HSH;have hsz:=HV4.o.fx.lt;have y0:=HV4.o.fx.c 0 rfl;have y1:=HV4.o.fx.c 1 rfl;have y2:=HV4.o.fx.c 2 rfl;have y3:=HV4.o.fx.c 3 rfl;have y4:=HV4.o.fx.c 4 rfl;have y5:=HV4.o.fx.c 5 rfl;have y6:=HV4.o.fx.c 6 rfl;have y7:=HV4.o.fx.c 7 rfl;have y8:=HV4.o.fx.c 8 rfl
   by_cases hz:zCF d=0
   ·rw [hz] at HS ⊢
    clear hz;go_wp2;go_ret
    exact zAd.mk (zAC HS.o.symm) HV4.o.bel
   ·have hzb:(zCF d != 0)=true:=by simpa using hz
    clear hz;go_wp2;go_ret
    exact zAd.mk (zAC HS.o.symm) HV4.o.bel
theorem values_5 (ci:Nat) (A:Option Addr) (c r1 r2 g1 g2:Nat) (AL:Option Addr) (cL:Nat) (l:List Rg) (uA:Option Addr) (uc:Nat) (us:List BA) (m2 m3 m4 m5:Nat) (p d:De) (f2 f3:BA→Option Value) (w:World)
  (hk:d.kd=5) (hc:Bx w ci (ckC A c r1 r2 g1 g2 AL cL l uA uc us m2 m3 m4 m5 p) 101) (hw:WR w A r1 r2 g1 g2 AL l) (hu:Strs w uA us) (hd:DeOk w d) (h2:zAO Value.string w m2 f2) (h3:zAO Value.string w m3 f3) :
  Calls Tryz.prog 76 #[.pointer (some ⟨ci,0,none⟩),deV d,.agg #[.bool false,.bool true,.bool false,.bool false,.bool false,.bool false,.bool false,.bool true,.bool false]] w (zAd (.int .i64 (divV d)) w):=by
 generalize hres:divV d=res;have HR:=zq hres;clear hres;have HV:=zq (VS.start w ci #[.bool false,.bool true,.bool false,.bool false,.bool false,.bool false,.bool false,.bool true,.bool false] A c r1 r2 g1 g2 AL cL l uA uc us m2 m3 m4 m5 p d f2 f3 hc hw hu hd h2 h3);clear hc hw hu hd h2 h3;obtain ⟨W,hW⟩:∃ W,W=(w.alloc (.cells (deC d) 47)).alloc (.cells #[.bool false,.bool true,.bool false,.bool false,.bool false,.bool false,.bool false,.bool true,.bool false] 84):=⟨_,rfl⟩;rw [←hW] at HV
 go_enter Tryz.func76,Tryz.ntmps76
 go_wp2_with fail
 rw [←hW];clear hW;have hsz:=HV.o.fx.lt;have x4:=HV.o.dx.c 4 rfl;have x12:=HV.o.dx.c 12 rfl;have y0:=HV.o.fx.c 0 rfl;have y1:=HV.o.fx.c 1 rfl;have y2:=HV.o.fx.c 2 rfl;have y3:=HV.o.fx.c 3 rfl;have y4:=HV.o.fx.c 4 rfl;have y5:=HV.o.fx.c 5 rfl;have y6:=HV.o.fx.c 6 rfl;have y7:=HV.o.fx.c 7 rfl;have y8:=HV.o.fx.c 8 rfl;have hz:=HV.o.dok.strs.2.2.1
 go_wp2_with fail
 with_reducible refine (zCp d.fr _ hz).mono ?_
 rintro e w2 ⟨rfl,hb2⟩;have HV2:=zq (HV.o.below hb2);clear hsz x4 x12 y0 y1 y2 y3 y4 y5 y6 y7 y8;clear hb2 HV
 cases hnm:zBA d.fr with
 | false =>
  have HS:Hid (res=5):=by
   show _=_
   rw [←HR.o];unfold divV;rw [hk];simp [hnm]
  clear hnm HR hk;have hsz:=HV2.o.fx.lt;have x4:=HV2.o.dx.c 4 rfl;have x12:=HV2.o.dx.c 12 rfl;have y0:=HV2.o.fx.c 0 rfl;have y1:=HV2.o.fx.c 1 rfl;have y2:=HV2.o.fx.c 2 rfl;have y3:=HV2.o.fx.c 3 rfl;have y4:=HV2.o.fx.c 4 rfl;have y5:=HV2.o.fx.c 5 rfl;have y6:=HV2.o.fx.c 6 rfl;have y7:=HV2.o.fx.c 7 rfl;have y8:=HV2.o.fx.c 8 rfl;go_wp2;go_ret
  exact zAd.mk (zAC HS.o.symm) HV2.o.bel
 | true =>
  have HR1:Hid ((if zCm d.bg=false then (1:Int) else zCF d)=res):=by
   show _=_
   rw [←HR.o];unfold divV;rw [hk];simp [hnm]
  clear hnm HR hk;have HDY:=zq (fun W'=>isDay_c d.bg W')
  have hsz:=HV2.o.fx.lt;have x4:=HV2.o.dx.c 4 rfl;have x12:=HV2.o.dx.c 12 rfl;have y0:=HV2.o.fx.c 0 rfl;have y1:=HV2.o.fx.c 1 rfl;have y2:=HV2.o.fx.c 2 rfl;have y3:=HV2.o.fx.c 3 rfl;have y4:=HV2.o.fx.c 4 rfl;have y5:=HV2.o.fx.c 5 rfl;have y6:=HV2.o.fx.c 6 rfl;have y7:=HV2.o.fx.c 7 rfl;have y8:=HV2.o.fx.c 8 rfl
  go_wp2_with fail
  with_reducible refine (HDY.o _).mono ?_
  rintro e w3 ⟨rfl,rfl⟩
  cases hb:zCm d.bg with
  | false =>
   have HS:Hid (res=1):=by
    show _=_
    rw [←HR1.o,aE hb]
   clear hb HR1;go_wp2;go_ret
   exact zAd.mk (zAC HS.o.symm) HV2.o.bel
  | true =>
   have HS:Hid (res=zCF d):=by
    show _=_
    rw [←HR1.o,aC (by rw [hb];simp)]
   have HSH:=zq (checkShares_c d w2 HV2.o.dok);clear hb HR1 HDY;have x0:=HV2.o.dx.c 0 rfl;have x1:=HV2.o.dx.c 1 rfl;have x2:=HV2.o.dx.c 2 rfl;have x3:=HV2.o.dx.c 3 rfl;have x5:=HV2.o.dx.c 5 rfl;have x6:=HV2.o.dx.c 6 rfl;have x7:=HV2.o.dx.c 7 rfl;have x8:=HV2.o.dx.c 8 rfl;have x9:=HV2.o.dx.c 9 rfl;have x10:=HV2.o.dx.c 10 rfl;have x11:=HV2.o.dx.c 11 rfl;have x13:=HV2.o.dx.c 13 rfl;have x14:=HV2.o.dx.c 14 rfl;have x15:=HV2.o.dx.c 15 rfl
   go_wp2_with fail
   with_reducible refine HSH.o.mono ?_
   rintro e w4 ⟨rfl,hb4⟩;have HV4:=zq (HV2.o.below hb4);clear hsz x0 x1 x2 x3 x4 x5 x6 x7 x8 x9 x10 x11 x12 x13 x14 x15 y0 y1 y2 y3 y4 y5 y6 y7 y8;clear hb4 HV2 HSH;have hsz:=HV4.o.fx.lt;have y0:=HV4.o.fx.c 0 rfl;have y1:=HV4.o.fx.c 1 rfl;have y2:=HV4.o.fx.c 2 rfl;have y3:=HV4.o.fx.c 3 rfl;have y4:=HV4.o.fx.c 4 rfl;have y5:=HV4.o.fx.c 5 rfl;have y6:=HV4.o.fx.c 6 rfl;have y7:=HV4.o.fx.c 7 rfl;have y8:=HV4.o.fx.c 8 rfl
   by_cases hz:zCF d=0
   ·rw [hz] at HS ⊢
    clear hz;go_wp2;go_ret
    exact zAd.mk (zAC HS.o.symm) HV4.o.bel
   ·have hzb:(zCF d != 0)=true:=by simpa using hz
    clear hz;go_wp2;go_ret
    exact zAd.mk (zAC HS.o.symm) HV4.o.bel
def restF (d:De):Int:=if zCm d.bg=false∨zCm d.en=false then 1 else if d.en≤d.bg then 8 else 0
def zDt (l:List Rg) (us:List BA) (d:De):Int :=
 if zBA d.th=false∨zBA d.fr=false∨zBA d.to_=false then 5
 else if d.fr=d.to_ then 12
 else if parF d≠0 then parF d
 else if zBY l us d≠0 then zBY l us d else restF d
theorem giftF_two (l:List Rg) (us:List BA) (d:De):giftF l us d=zDt l us d:=by
 unfold giftF zDt zBY restF
 by_cases h1:zDN l d.ar=0
 ·by_cases h2:zBG l d.ar=[]∨d.us=[]
  ·simp [h1,h2]
  ·simp [h1,h2]
 ·simp [h1]
theorem values_3 (ci:Nat) (A:Option Addr) (c r1 r2 g1 g2:Nat) (AL:Option Addr) (cL:Nat) (l:List Rg) (uA:Option Addr) (uc:Nat) (us:List BA) (m2 m3 m4 m5:Nat) (p d:De) (f2 f3:BA→Option Value) (w:World)
  (hk:d.kd=3) (g:GoodR l) (hul:us.length≤1000000) (hc:Bx w ci (ckC A c r1 r2 g1 g2 AL cL l uA uc us m2 m3 m4 m5 p) 101) (hw:WR w A r1 r2 g1 g2 AL l) (hu:Strs w uA us) (hd:DeOk w d) (h2:zAO Value.string w m2 f2) (h3:zAO Value.string w m3 f3) :
  Calls Tryz.prog 76 #[.pointer (some ⟨ci,0,none⟩),deV d,.agg #[.bool true,.bool true,.bool true,.bool false,.bool true,.bool true,.bool true,.bool false,.bool false]] w (zAd (.int .i64 (zDt l us d)) w):=by
 generalize hres:zDt l us d=res;have HR:=zq hres;clear hres;have HV:=zq (VS.start w ci #[.bool true,.bool true,.bool true,.bool false,.bool true,.bool true,.bool true,.bool false,.bool false] A c r1 r2 g1 g2 AL cL l uA uc us m2 m3 m4 m5 p d f2 f3 hc hw hu hd h2 h3);clear hc hw hu hd h2 h3;obtain ⟨W,hW⟩:∃ W,W=(w.alloc (.cells (deC d) 47)).alloc (.cells #[.bool true,.bool true,.bool true,.bool false,.bool true,.bool true,.bool true,.bool false,.bool false] 84):=⟨_,rfl⟩;rw [←hW] at HV
 go_enter Tryz.func76,Tryz.ntmps76
 go_wp2_with fail
 rw [←hW];clear hW;have hsz:=HV.o.fx.lt;have x3:=HV.o.dx.c 3 rfl;have x4:=HV.o.dx.c 4 rfl;have x5:=HV.o.dx.c 5 rfl;have y0:=HV.o.fx.c 0 rfl;have y1:=HV.o.fx.c 1 rfl;have y2:=HV.o.fx.c 2 rfl;have y3:=HV.o.fx.c 3 rfl;have y4:=HV.o.fx.c 4 rfl;have y5:=HV.o.fx.c 5 rfl;have y6:=HV.o.fx.c 6 rfl;have y7:=HV.o.fx.c 7 rfl;have y8:=HV.o.fx.c 8 rfl;have hz:=HV.o.dok.strs.2.1
 go_wp2_with fail
 with_reducible refine (zCp d.th _ hz).mono ?_
 rintro e w2 ⟨rfl,hb2⟩;have HV2:=zq (HV.o.below hb2);clear hsz x3 x4 x5 y0 y1 y2 y3 y4 y5 y6 y7 y8 hz;clear hb2 HV
 cases hnm0:zBA d.th with
 | false =>
  have hor:zBA d.th=false∨zBA d.fr=false∨zBA d.to_=false:=.inl hnm0;have hsz:=HV2.o.fx.lt;have x3:=HV2.o.dx.c 3 rfl;have x4:=HV2.o.dx.c 4 rfl;have x5:=HV2.o.dx.c 5 rfl;have y0:=HV2.o.fx.c 0 rfl;have y1:=HV2.o.fx.c 1 rfl;have y2:=HV2.o.fx.c 2 rfl;have y3:=HV2.o.fx.c 3 rfl;have y4:=HV2.o.fx.c 4 rfl;have y5:=HV2.o.fx.c 5 rfl;have y6:=HV2.o.fx.c 6 rfl;have y7:=HV2.o.fx.c 7 rfl;have y8:=HV2.o.fx.c 8 rfl
  have HS:Hid (res=5):=by
   show _=_
   rw [←HR.o];unfold zDt;rw [aE hor]
  clear hor HR hnm0;go_wp2;go_ret
  exact zAd.mk (zAC HS.o.symm) HV2.o.bel
 | true =>
  have hsz:=HV2.o.fx.lt;have x3:=HV2.o.dx.c 3 rfl;have x4:=HV2.o.dx.c 4 rfl;have x5:=HV2.o.dx.c 5 rfl;have y0:=HV2.o.fx.c 0 rfl;have y1:=HV2.o.fx.c 1 rfl;have y2:=HV2.o.fx.c 2 rfl;have y3:=HV2.o.fx.c 3 rfl;have y4:=HV2.o.fx.c 4 rfl;have y5:=HV2.o.fx.c 5 rfl;have y6:=HV2.o.fx.c 6 rfl;have y7:=HV2.o.fx.c 7 rfl;have y8:=HV2.o.fx.c 8 rfl;have hz:=HV2.o.dok.strs.2.2.1
  go_wp2_with fail
  with_reducible refine (zCp d.fr _ hz).mono ?_
  rintro e w3 ⟨rfl,hb3⟩;have HV3:=zq (HV2.o.below hb3);clear hsz x3 x4 x5 y0 y1 y2 y3 y4 y5 y6 y7 y8 hz;clear hb3 HV2
  cases hnm1:zBA d.fr with
  | false =>
   have hor:zBA d.th=false∨zBA d.fr=false∨zBA d.to_=false:=.inr (.inl hnm1);have hsz:=HV3.o.fx.lt;have x3:=HV3.o.dx.c 3 rfl;have x4:=HV3.o.dx.c 4 rfl;have x5:=HV3.o.dx.c 5 rfl;have y0:=HV3.o.fx.c 0 rfl;have y1:=HV3.o.fx.c 1 rfl;have y2:=HV3.o.fx.c 2 rfl;have y3:=HV3.o.fx.c 3 rfl;have y4:=HV3.o.fx.c 4 rfl;have y5:=HV3.o.fx.c 5 rfl;have y6:=HV3.o.fx.c 6 rfl;have y7:=HV3.o.fx.c 7 rfl;have y8:=HV3.o.fx.c 8 rfl
   have HS:Hid (res=5):=by
    show _=_
    rw [←HR.o];unfold zDt;rw [aE hor]
   clear hor HR hnm0 hnm1;go_wp2;go_ret
   exact zAd.mk (zAC HS.o.symm) HV3.o.bel
  | true =>
   have hsz:=HV3.o.fx.lt;have x3:=HV3.o.dx.c 3 rfl;have x4:=HV3.o.dx.c 4 rfl;have x5:=HV3.o.dx.c 5 rfl;have y0:=HV3.o.fx.c 0 rfl;have y1:=HV3.o.fx.c 1 rfl;have y2:=HV3.o.fx.c 2 rfl;have y3:=HV3.o.fx.c 3 rfl;have y4:=HV3.o.fx.c 4 rfl;have y5:=HV3.o.fx.c 5 rfl;have y6:=HV3.o.fx.c 6 rfl;have y7:=HV3.o.fx.c 7 rfl;have y8:=HV3.o.fx.c 8 rfl;have hz:=HV3.o.dok.strs.2.2.2.1
   go_wp2_with fail
   with_reducible refine (zCp d.to_ _ hz).mono ?_
   rintro e w4 ⟨rfl,hb4⟩;have HV4:=zq (HV3.o.below hb4);clear hsz x3 x4 x5 y0 y1 y2 y3 y4 y5 y6 y7 y8 hz;clear hb4 HV3
   cases hnm2:zBA d.to_ with
   | false =>
    have hor:zBA d.th=false∨zBA d.fr=false∨zBA d.to_=false:=.inr (.inr hnm2);have hsz:=HV4.o.fx.lt;have x3:=HV4.o.dx.c 3 rfl;have x4:=HV4.o.dx.c 4 rfl;have x5:=HV4.o.dx.c 5 rfl;have y0:=HV4.o.fx.c 0 rfl;have y1:=HV4.o.fx.c 1 rfl;have y2:=HV4.o.fx.c 2 rfl;have y3:=HV4.o.fx.c 3 rfl;have y4:=HV4.o.fx.c 4 rfl;have y5:=HV4.o.fx.c 5 rfl;have y6:=HV4.o.fx.c 6 rfl;have y7:=HV4.o.fx.c 7 rfl;have y8:=HV4.o.fx.c 8 rfl
    have HS:Hid (res=5):=by
     show _=_
     rw [←HR.o];unfold zDt;rw [aE hor]
    clear hor HR hnm0 hnm1 hnm2;go_wp2;go_ret
    exact zAd.mk (zAC HS.o.symm) HV4.o.bel
   | true =>
    have HR1:Hid ((if d.fr=d.to_ then (12:Int) else if parF d≠0 then parF d else if zBY l us d≠0 then zBY l us d else restF d)=res):=by
     show _=_
     have hn:¬ (zBA d.th=false∨zBA d.fr=false∨zBA d.to_=false):=by rw [hnm0,hnm1,hnm2];simp
     rw [←HR.o];unfold zDt;rw [aC hn]
    clear hnm0 hnm1 hnm2 HR
    by_cases hft:d.fr=d.to_
    ·have hfb:(d.fr.toList == d.to_.toList)=true:=zAy hft
     have hsz:=HV4.o.fx.lt;have x3:=HV4.o.dx.c 3 rfl;have x4:=HV4.o.dx.c 4 rfl;have x5:=HV4.o.dx.c 5 rfl;have y0:=HV4.o.fx.c 0 rfl;have y1:=HV4.o.fx.c 1 rfl;have y2:=HV4.o.fx.c 2 rfl;have y3:=HV4.o.fx.c 3 rfl;have y4:=HV4.o.fx.c 4 rfl;have y5:=HV4.o.fx.c 5 rfl;have y6:=HV4.o.fx.c 6 rfl;have y7:=HV4.o.fx.c 7 rfl;have y8:=HV4.o.fx.c 8 rfl
     have HS:Hid (res=12):=by
      show _=_
      rw [←HR1.o,aE hft]
     clear hft HR1;go_wp2;go_ret
     exact zAd.mk (zAC HS.o.symm) HV4.o.bel
    have hfb:(d.fr.toList == d.to_.toList)=false:=zAo hft
    have HR2:Hid ((if parF d≠0 then parF d else if zBY l us d≠0 then zBY l us d else restF d)=res):=by
     show _=_
     rw [←HR1.o,aC hft]
    clear hft HR1
    have hpf:parF d=0:=by
     unfold parF;rw [aE za]
    have HR3:Hid ((if zBY l us d≠0 then zBY l us d else restF d)=res):=by
     show _=_
     have hn:¬ parF d≠0:=fun h=>h hpf
     rw [←HR2.o,aC hn]
    clear hpf HR2 hk;have x4:=HV4.o.dx.c 4 rfl;have x5:=HV4.o.dx.c 5 rfl;have HPL:=zq (place_c ci A c r1 r2 g1 g2 AL cL l uA uc us m2 m3 m4 m5 p d w4 HV4.o.ck g HV4.o.wrl HV4.o.st hul HV4.o.dok);have hsz:=HV4.o.fx.lt;have x0:=HV4.o.dx.c 0 rfl;have x1:=HV4.o.dx.c 1 rfl;have x2:=HV4.o.dx.c 2 rfl;have x3:=HV4.o.dx.c 3 rfl;have x4:=HV4.o.dx.c 4 rfl;have x5:=HV4.o.dx.c 5 rfl;have x6:=HV4.o.dx.c 6 rfl;have x7:=HV4.o.dx.c 7 rfl;have x8:=HV4.o.dx.c 8 rfl;have x9:=HV4.o.dx.c 9 rfl;have x10:=HV4.o.dx.c 10 rfl;have x11:=HV4.o.dx.c 11 rfl;have x12:=HV4.o.dx.c 12 rfl;have x13:=HV4.o.dx.c 13 rfl;have x14:=HV4.o.dx.c 14 rfl;have x15:=HV4.o.dx.c 15 rfl;have y0:=HV4.o.fx.c 0 rfl;have y1:=HV4.o.fx.c 1 rfl;have y2:=HV4.o.fx.c 2 rfl;have y3:=HV4.o.fx.c 3 rfl;have y4:=HV4.o.fx.c 4 rfl;have y5:=HV4.o.fx.c 5 rfl;have y6:=HV4.o.fx.c 6 rfl;have y7:=HV4.o.fx.c 7 rfl;have y8:=HV4.o.fx.c 8 rfl
    go_wp2_with fail
    with_reducible refine HPL.o.mono ?_
    rintro e w4p ⟨rfl,hbp⟩;have HV5:=zq (HV4.o.below hbp);clear hsz x0 x1 x2 x3 x4 x5 x6 x7 x8 x9 x10 x11 x12 x13 x14 x15 y0 y1 y2 y3 y4 y5 y6 y7 y8;clear hbp HV4 HPL
    by_cases hpz:zBY l us d=0
    case neg =>
     have hpb:(zBY l us d != 0)=true:=by simpa using hpz
     have HS:Hid (res=zBY l us d):=by
      show _=_
      rw [←HR3.o,aE hpz]
     clear HR3 hpz;go_wp2;go_ret
     exact zAd.mk (zAC HS.o.symm) HV5.o.bel
    have HRP:Hid (restF d=res):=by
     show _=_
     rw [←HR3.o,aC (fun h=>h hpz)]
    rw [hpz];clear hpz HR3;have HDY:=zq (fun n W'=>isDay_c n W')
    have hsz:=HV5.o.fx.lt;have x11:=HV5.o.dx.c 11 rfl;have x12:=HV5.o.dx.c 12 rfl;have x13:=HV5.o.dx.c 13 rfl;have y0:=HV5.o.fx.c 0 rfl;have y1:=HV5.o.fx.c 1 rfl;have y2:=HV5.o.fx.c 2 rfl;have y3:=HV5.o.fx.c 3 rfl;have y4:=HV5.o.fx.c 4 rfl;have y5:=HV5.o.fx.c 5 rfl;have y6:=HV5.o.fx.c 6 rfl;have y7:=HV5.o.fx.c 7 rfl;have y8:=HV5.o.fx.c 8 rfl
    go_wp2_with fail
    with_reducible refine (HDY.o _ _).mono ?_
    rintro e w4qa ⟨rfl,rfl⟩
    cases hb1:zCm d.bg with
    | false =>
     have HS:Hid (res=1):=by
      show _=_
      rw [←HRP.o];unfold restF;rw [aE (.inl hb1)]
     clear hb1 HRP HDY;go_wp2;go_ret
     exact zAd.mk (zAC HS.o.symm) HV5.o.bel
    | true =>
     go_wp2_with fail
     with_reducible refine (HDY.o _ _).mono ?_
     rintro e w4qb ⟨rfl,rfl⟩
     cases hb2:zCm d.en with
     | false =>
      have HS:Hid (res=1):=by
       show _=_
       rw [←HRP.o];unfold restF;rw [aE (.inr hb2)]
      clear hb1 hb2 HRP HDY;go_wp2;go_ret
      exact zAd.mk (zAC HS.o.symm) HV5.o.bel
     | true =>
      have HRZ:Hid ((if d.en≤d.bg then (8:Int) else 0)=res):=by
       show _=_
       have hn:¬ (zCm d.bg=false∨zCm d.en=false):=by rw [hb1,hb2];simp
       rw [←HRP.o];unfold restF;rw [aC hn]
      clear hb1 hb2 HDY HRP
      by_cases hle:d.en≤d.bg
      ·have hleb:decide (d.en≤d.bg)=true:=cP hle
       have HS:Hid (res=8):=by
        show _=_
        rw [←HRZ.o,aE hle]
       clear HRZ;go_wp2;go_ret
       exact zAd.mk (zAC HS.o.symm) HV5.o.bel
      ·have hleb:decide (d.en≤d.bg)=false:=cQ hle
       have HS:Hid (res=0):=by
        show _=_
        rw [←HRZ.o,aC hle]
       clear HRZ;go_wp2;go_ret
       exact zAd.mk (zAC HS.o.symm) HV5.o.bel
end Go.Proofs.YtoaelidmmcbkfaaGreatDoor
