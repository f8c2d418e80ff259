/- The reference's reader of a deed: an end, an origin, a pass. -/
import Derived.Test.YtoaelidmmcbkfaaGreatDoorSr24
set_option maxRecDepth 100000
set_option maxHeartbeats 8000000
namespace Go.Proofs.YtoaelidmmcbkfaaGreatDoor
open Go.RowKit Dw
theorem deedJ_41 (r:Nat) (LA:Option Addr) (c:Nat) (L:List Ln) (k:Nat) (w:World) (h:RdJ w r LA c L k) (hG:GOK w) (hg:gkB<r) (i dy kw:Ln) (n:Nat) (hn:nxF zCC 3 (L.drop k)=some [i,dy,kw]) (hi:rowL i=true) (hd:zDv dy=some n) (hk:kdX kw=4∨kdX kw=1∨kdX kw=5) :
  Calls Tryz.prog 17 #[.pointer (some ⟨r,0,none⟩)] w (zDF r LA c L k w):=by
 have hrw:=h.bx.lt;have hmany:=h.many;have HLA:=zq h.la;have HG0:=zq hG;obtain ⟨kd,hkd⟩:∃ kd,kd=kdX kw:=⟨_,rfl⟩;rw [←hkd] at hk;have hkl:k<L.length:=zBi (zDY j6);have hil:=zAU (n:=i) h.drops hn zd;have hdl:=zAU (n:=dy) h.drops hn zd;have hwl:=zAU (n:=kw) h.drops hn zd;have hk0:1≤kd∧kd≤5:=za
 have HP0:Hid (zAG (L.drop k)=bodyX (ofL i) n kd (L.drop (k+1))):=by
  show _=_
  rw [deedX_nx,hn];simp only [hd];rw [aE ⟨hi,za⟩,zAX,hkd]
 have HX:Hid (Bx (w.alloc (.cells (deC zBV) 47)) w.heap.size (deC zBV) 47):=Bx.new _ _ _;have HB:Hid (Below w.heap.size w (w.alloc (.cells (deC zBV) 47))):=(bS _ _).alloc (aB _) _;obtain ⟨W,hW⟩:∃ W,W=w.alloc (.cells (deC zBV) 47):=⟨_,rfl⟩;rw [←hW] at HX HB;have HI:=zq (h.below HB.o)
 have HW:Hid (Calls Tryz.prog 14 #[.pointer (some ⟨r,0,none⟩),.string ⟨#[100,101,101,100]⟩,.int .i64 3] W (zBN (some [i,dy,kw]) W)):=by
  rw [←hn];exact zCD r LA c L k ⟨#[100,101,101,100]⟩ 3 W HI.o (hG.below HB.o) zc
 have HR:=zq (fun u=>zCg (ofL i) u zr)
 have HN:=zq (fun u=>rsNum_c (ofL dy) u zr)
 simp only [zAj,hi] at HR;simp only [zAj,hd] at HN;have HKD:=zq hkd;have HKG:=zq hk;clear h hG hn hi hd hkd hk;have hW2:W=w.alloc (.cells #[.string ⟨#[]⟩,.int .i64 0,.int .i64 0,.string ⟨#[]⟩,.string ⟨#[]⟩,.string ⟨#[]⟩,.string ⟨#[]⟩,.string ⟨#[]⟩,.bool false,.bool false,.slice none 0 0,.slice none 0 0,.int .i64 0,.int .i64 0,.slice none 0 0,.string ⟨#[]⟩] 47):=hW;clear hW
 go_enter Tryz.func17,Tryz.ntmps17
 go_upto_region 1 with fail
 rw [←hW2];clear hW2
 go_wp2_with fail
 with_reducible refine HW.o.mono ?_
 rintro e w1 ⟨A,n1,c1,rfl,hst,hb1⟩;obtain ⟨rfl,hlo,hst⟩:=hst _ rfl;obtain ⟨bw,ow,hA2,hc2⟩:=hst zd;subst hA2
 have hbw:w.heap.size+1≤bw:=by
  have h1:=hlo bw ow rfl;have h2:=HX.o.lt;omega
 have c0:w1.cell? ⟨bw,ow,none⟩=some (.string (ofL i)):=hc2 0 zd;have c1':w1.cell? ⟨bw,ow+1,none⟩=some (.string (ofL dy)):=hc2 1 zd;have c2':w1.cell? ⟨bw,ow+2,none⟩=some (.string (ofL kw)):=hc2 2 zd;have HI1:=zq (HI.o.below hb1);have HX1:=zq (HX.o.below hb1);have HB1:=zq (zAb HB.o hb1);clear hlo hst hc2 hb1 HW HI HX HB
 go_wp2_with fail
 with_reducible refine (HR.o _).mono ?_
 rintro e w2 ⟨rfl,rfl⟩
 go_wp2_with fail
 with_reducible refine (HN.o _).mono ?_
 rintro e w3 ⟨rfl,hb3⟩;have HI3:=zq (HI1.o.below hb3);have HX3:=zq (HX1.o.below hb3);have HB3:=zq (zAb HB1.o hb3);have C0:=zq (zAh hb3 c0);have c2:=zAh hb3 c2';clear hb3 HI1 HX1 HB1 c0 c1' c2' HR HN;have KA:Hid (w3.drew.cell? ⟨bw,ow+2,none⟩=some (.string (ofL kw))):=zAh (zAc (bS _ _) 1) c2;have HWD:=zq (wordsR_c w3.drew);go_upto_region 5 with fail
 refine dW (S:=(fun w'=>w'.cell? ⟨bw,ow+2,none⟩=some (.string (ofL kw)))) zb ?_ (fun hHeld=>?_)
 ·first | exact KA.out | exact KB.out
 refine Dw.tk 1 ?_ rfl ?_ zh ?_
 rotate_left 1
 ·(intro w _;go_simp;try with_reducible rfl)
 simp only [Dw.lay,Act.put];refine Dw.tk 2 ?_ rfl ?_ zh ?_
 rotate_left 1
 ·(intro w _;go_simp;try with_reducible rfl)
 simp only [Dw.lay,Act.put];refine Dw.tk 3 ?_ rfl ?_ zh ?_
 rotate_left 1
 ·(intro w hSw;(try dsimp only at hSw);go_simp;try with_reducible rfl)
 simp only [Dw.lay,Act.put];refine Dw.rd1 0 rfl (fun K hK=>?_)
 clear hHeld
 go_simp
 go_at_call 48
 with_reducible refine HWD.o.mono ?_
 rintro e w4 ⟨g,rfl,hb4,hx4⟩;have hbt:=zAb (zAc (bS w3.heap.size w3) 1) hb4;have KB:=zq (zAh hb4 KA.out);have HPO:Hid (Calls Tryz.prog 47 #[.slice (some ⟨g,0,none⟩) 5 5,.string (ofL kw)] w4 (zEe kdWs (ofL kw) w4)):=zCO (some ⟨g,0,none⟩) 5 kdWs (ofL kw) w4 zc (kd_cells hx4);have HI4:=zq (HI3.o.below hbt);have HX4:=zq (HX3.o.below hbt);have HB4:=zq (zAb HB3.o hbt);have C04:=zq (zAh hbt C0.out);clear hbt hb4 hx4 HWD HI3 HX3 HB3 C0;refine hK.out _ _ ?_ (fun hHeld=>?_)
 ·first | exact KA.out | exact KB.out
 clear hK K
 try simp only [Dw.lay,Act.put]
 refine Dw.rd1 4 rfl (fun K hK=>?_)
 clear hHeld
 go_simp
 go_at_call 47
 with_reducible refine HPO.o.mono ?_
 rintro e w5 ⟨z,rfl,hz,rfl⟩;obtain ⟨z1,z2,z3⟩:=zDV hz;clear hz HPO;refine hK.out _ _ ?_ (fun hHeld=>?_)
 ·first | exact KA.out | exact KB.out
 clear hK K
 try simp only [Dw.lay,Act.put]
 refine Dw.rd1 5 rfl (fun K hK=>?_)
 clear hHeld
 go_simp
 refine hK.out _ _ ?_ (fun hHeld=>?_)
 ·first | exact KA.out | exact KB.out
 clear hK K
 try simp only [Dw.lay,Act.put]
 refine dZ zb ?_ _
 clear hHeld;have hzk:z=kd - 1:=by have:=HKD.o;omega
 subst hzk;clear z1;have x1:=HI4.o.bx.c 1 rfl;have xs:=HI4.o.bx.lt;have xf:=HI4.o.bx.frozen;have c0:=C04.out;have HK1:=zq (HI4.o.setk (k':=k+1) hkl);have hkw:IntKind.i64.wrap (kd - 1+1)=kd:=qh;have hz0:0≤kd - 1:=za;go_upto_region 9 with fail
 have ek:((k:Int)+1)=((k+1:Nat):Int):=za;rw [ek];clear ek x1 xs xf c0;obtain ⟨w6,hw6⟩:∃ w6,w6=w5.setCell ⟨r,1,none⟩ (.int .i64 ((k+1:Nat):Int)):=⟨_,rfl⟩;have HI6:Hid (RdJ w6 r LA c L (k+1)):=jb;have g6:w5.grownBy w6 (some r):=vk;have c0:w6.cell? ⟨bw,ow,none⟩=some (.string (ofL i)):=g6.cell C04.out (fun e=>by have:bw=r:=jp;omega)
 have HX6:Hid (Bx w6 w.heap.size (deC zBV) 47):=(g6.block _ HX4.o.lt fun e=>yk).trans HX4.o
 have HK6:Hid (KeptB w.heap.size r w w6):=(KeptB.below HB4.o).trans (KeptB.grown g6 HB4.o.size);rw [←hw6];clear hw6 g6 HK1 HI4 HX4 HB4 C04;obtain ⟨q,hq⟩:∃ q,q=w6.heap.size:=⟨_,rfl⟩;obtain ⟨d,hd⟩:∃ d:De,d = { zBV with id:=ofL i,day:=(n:Int),kd:=kd }:=⟨_,rfl⟩
 have hba:Below w6.heap.size w6 (w6.alloc (.cells (deC d) 47)):=(bS _ _).alloc (aB _) _;obtain ⟨w7,hw7⟩:∃ w7,w7=w6.alloc (.cells (deC d) 47):=⟨_,rfl⟩
 have HMa:Hid (DjM w r LA c L q w7 d (k+1)):=by
  have hu:w.heap.size<w6.heap.size:=HX6.o.lt
  show DjM _ _ _ _ _ _ _ _ _
  rw [hq,hw7];refine ⟨?_,HI6.o.below hba,HK6.o.trans (KeptB.below (hba.mono HK6.o.size)),HX6.o.below hba,hu⟩
  rw [hd];exact ⟨Bx.new _ _ _,zAF.nil _ _ _ _ _,zAF.nil _ _ _ _ _,.inl rfl,(fun h=>absurd h zd),fun _ _ e=>vz⟩
 have HDZ:Hid (d = { zBV with id:=d.id,day:=d.day,kd:=d.kd }):=by show _=_;rw [hd]
 have hdk:d.kd=kd:=by rw [hd]
 have HSa:Hid (Stp st1 (zAG (L.drop k)) L d (k+1) false):=⟨(fun h=>zy),fun _=>by
  rw [HP0.o,bodyX_st,hd]
  rfl⟩
 have hw7x:w7=w6.alloc (.cells #[.string (ofL i),.int .i64 (n:Int),.int .i64 kd,.string ⟨#[]⟩,.string ⟨#[]⟩,.string ⟨#[]⟩,.string ⟨#[]⟩,.string ⟨#[]⟩,.bool false,.bool false,.slice none 0 0,.slice none 0 0,.int .i64 0,.int .i64 0,.slice none 0 0,.string ⟨#[]⟩] 47):=by rw [hw7,hd];rfl
 clear hba HI6 HX6 HK6 hw7 hd;go_upto_region 10 with fail
 rw [←hq,←hw7x];clear hq hw7x c0 hkw hz0;have hk:=HKG.o;rw [←hdk] at hk hk0;clear hdk HKD HP0 HKG
 rcases hk with hk | hk | hk
 ·have Cgv:Hid (zAf d.kd=false):=by show _=_;rw [hk];rfl
  have Cdv:Hid (divB d.kd=false):=zv;have Cth:Hid ((zAf d.kd || decide (d.kd=1))=false):=zv
  have Cfr:Hid ((zAf d.kd || decide (d.kd=5))=false):=zv
  have Cpt:Hid (decide (d.kd=2)=false):=zv;have Cex:Hid (decide (d.kd=3)=false):=zv;have Cot:Hid (decide (d.kd=4)=true):=zv;have e1:(d.kd == 1)=false:=yw;have e5:(d.kd == 5)=false:=yw;have e2:(d.kd == 2)=false:=yw;have e3:(d.kd == 3)=false:=yw;have e4:(d.kd == 4)=true:=yw;have HGV:Hid (∀ u,Calls Tryz.prog 49 #[.int .i64 d.kd] u (zAr (.bool false) u)):=fun u=>by have h:=zEl d.kd u;rwa [show zAf d.kd=false from Cgv.out] at h
  have HDV:Hid (∀ u,Calls Tryz.prog 53 #[.int .i64 d.kd] u (zAr (.bool false) u)):=fun u=>by have h:=zDl d.kd u;rwa [show divB d.kd=false from Cdv.out] at h
  clear hk hk0;have HSath:=zq (HSa.o.th0 Cth.out yx);have HSathfr:=zq (HSath.o.fr0 Cfr.out yx);have HSathfrto:=zq (HSathfr.o.to0 Cgv.out yx);have HSathfrtopt:=zq (HSathfrto.o.pt0 Cpt.out qo);have HSathfrtoptex:=zq (HSathfrtopt.o.ex0 Cex.out zj);have HSathfrtoptexsb:=zq (HSathfrtoptex.o.sb0 Cex.out zj);have HSathfrtoptexsbar:=zq (HSathfrtoptexsb.o.ar0 Cgv.out zj);have HSathfrtoptexsbarus:=zq (HSathfrtoptexsbar.o.us0 Cgv.out zj);have y2:World.cell? _ ⟨q,2,none⟩=some (.int .i64 d.kd):=HMa.o.de.bx.c 2 rfl;have ysx:=HMa.o.de.bx.lt
  go_wp2_with fail
  with_reducible refine (HGV.o _).mono ?_
  rintro e vv ⟨rfl,rfl⟩;clear y2 ysx;have y2:World.cell? _ ⟨q,2,none⟩=some (.int .i64 d.kd):=HMa.o.de.bx.c 2 rfl;have ysx:=HMa.o.de.bx.lt
  go_wp2_with fail
  with_reducible refine (HGV.o _).mono ?_
  rintro e vv ⟨rfl,rfl⟩;clear y2 ysx;have y2:World.cell? _ ⟨q,2,none⟩=some (.int .i64 d.kd):=HMa.o.de.bx.c 2 rfl;have ysx:=HMa.o.de.bx.lt
  go_wp2_with fail
  with_reducible refine (HGV.o _).mono ?_
  rintro e vv ⟨rfl,rfl⟩;clear y2 ysx;have y2:World.cell? _ ⟨q,2,none⟩=some (.int .i64 d.kd):=HMa.o.de.bx.c 2 rfl;have ysx:=HMa.o.de.bx.lt
  go_wp2_with fail
  clear y2 ysx
  go_loopg [] 1 (fun (_:Nat) (wr:World)=>DjM w r LA c L q wr (d) (k+1))
  case atStart=>exact HMa.o
  case round =>
   clear HMa;have HM8:=zq hrel;clear hrel;have y2:World.cell? _ ⟨q,2,none⟩=some (.int .i64 d.kd):=HM8.o.de.bx.c 2 rfl;have ysx:=HM8.o.de.bx.lt
   go_wp2_with fail
   with_reducible refine (HGV.o _).mono ?_
   rintro e vv ⟨rfl,rfl⟩
   go_wp2_with fail
   clear y2 ysx
   go_loopg [] 1 (fun (_:Nat) (wr:World)=>DjM w r LA c L q wr (d) (k+1))
   case atStart=>exact HM8.o
   case round =>
    clear HM8;have HM9:=zq hrel;clear hrel;have y2:World.cell? _ ⟨q,2,none⟩=some (.int .i64 d.kd):=HM9.o.de.bx.c 2 rfl;have ysx:=HM9.o.de.bx.lt
    go_wp2_with fail
    with_reducible refine (HGV.o _).mono ?_
    rintro e vv ⟨rfl,rfl⟩
    go_wp2_with fail
    clear y2 ysx;have HN:=zq (zEh r LA c L (k+1) ⟨#[32,32,98,101,103,105,110]⟩ zAM rfl zc _ HM9.o.rd (HG0.o.kept HM9.o.kp hg hrw));have HQ10:=zq (HSathfrtoptexsbarus.o.bg);generalize nuO false zAM (L.drop (k+1))=an10 at HN HQ10;generalize an10.getD 0=x10 at HN HQ10;generalize an10.isSome=ok10 at HN HQ10;generalize nxk (k+1) ok10=k10 at HN HQ10
    go_wp2_with fail
    with_reducible refine HN.o.mono ?_
    rintro e v10 ⟨rfl,hi,hgr⟩;have HP10:=zq (HM9.o.next hrw hi hgr);have y:=HP10.o.de.bx.c 12 rfl;have hsx:=HP10.o.de.bx.lt;have hfx:=HP10.o.de.bx.frozen;have HM10:=zq (HP10.o.put (d':={ d with bg:=(x10:Int) }) hrw HLA.o 12 (.int .i64 (x10:Int)) rfl ⟨rfl,rfl⟩ ⟨rfl,rfl⟩ HP10.o.de.shs HP10.o.de.shq)
    clear hi hgr HN HM9 HSathfrtoptexsbarus;go_upto_region 44 with fail
    generalize v10.setCell ⟨q,12,none⟩ (.int .i64 (x10:Int))=w10 at *;clear y hsx hfx HP10
    cases ok10 with
    | false =>
     have HF:Hid (zAG (L.drop k) = .error (L.drop k10)):=HQ10.o.1 rfl;obtain ⟨dz,hdz⟩:∃ dz:De,dz = { d with bg:=(x10:Int) }:=⟨_,rfl⟩
     rw [←hdz] at HM10;clear hdz;obtain ⟨hst,hz,hgv⟩:=zBg (k:=k) (ok:=false) hrw HLA.o HM10.o.rd HM10.o.kp HM10.o.rs rfl (fun h=>zy) (fun _=>HF.o)
     have HX:=zq HM10.o.de.bx;have HSR:=zq hst;have HZ:=zq hz;have HGO:=zq hgv;clear hst hz hgv;go_upto_region 45 with fail
     iterate 2 go_step
     refine eA _ _ zo q 0 zo (deC dz).toList _ (zBu HX.o) Tryz.underlying47 rfl zb ?_
     go_wp2_with (refine zAg rfl _ _ _ rfl ⟨w.heap.size,0,none⟩ (deV dz) rfl rfl HSR.o ?_)
     refine dD (v:=.tuple #[deV dz,.bool false]) (zAD rfl rfl HZ.o) rfl ?_
     exact HGO.o
    | true =>
     have HS10:Hid (Stp st10 (zAG (L.drop k)) L { d with bg:=(x10:Int) } k10 false):=HQ10.o
     clear HQ10;have HS10en:=zq (HS10.o.en0 Cgv.out zj);have HS10ensh:=zq (HS10en.o.sh0 Cdv.out zj);have y2:World.cell? _ ⟨q,2,none⟩=some (.int .i64 d.kd):=HM10.o.de.bx.c 2 rfl;have ysx:=HM10.o.de.bx.lt
     go_wp2_with fail
     with_reducible refine (HGV.o _).mono ?_
     rintro e vv ⟨rfl,rfl⟩;clear y2 ysx
     go_wp2_with fail
     go_loopg [] 1 (fun (_:Nat) (wr:World)=>DjM w r LA c L q wr ({ d with bg:=(x10:Int) }) k10)
     case atStart=>exact HM10.o
     case round =>
      clear HM10;have HM11:=zq hrel;clear hrel;have y2:World.cell? _ ⟨q,2,none⟩=some (.int .i64 d.kd):=HM11.o.de.bx.c 2 rfl;have ysx:=HM11.o.de.bx.lt
      go_wp2_with fail
      with_reducible refine (HDV.o _).mono ?_
      rintro e vv ⟨rfl,rfl⟩;go_upto_region 58 with fail
      clear y2 ysx;have HN:=zq (zCs r LA c L k10 ⟨#[32,32,101,110,100,115]⟩ zEm rfl zc _ HM11.o.rd (HG0.o.kept HM11.o.kp hg hrw));have HQ12:=zq (HS10ensh.o.ot Cot.out);generalize nmO false zEm (L.drop k10)=an12 at HN HQ12;generalize ofL (an12.getD [])=x12 at HN HQ12;generalize an12.isSome=ok12 at HN HQ12;generalize nxk k10 ok12=k12 at HN HQ12
      go_wp2_with fail
      with_reducible refine HN.o.mono ?_
      rintro e v12 ⟨rfl,hi,hgr⟩;have HP12:=zq (HM11.o.next hrw hi hgr);have y:=HP12.o.de.bx.c 15 rfl;have hsx:=HP12.o.de.bx.lt;have hfx:=HP12.o.de.bx.frozen;have HM12:=zq (HP12.o.put (d':={ d with bg:=(x10:Int),ot:=x12 }) hrw HLA.o 15 (.string x12) rfl ⟨rfl,rfl⟩ ⟨rfl,rfl⟩ HP12.o.de.shs HP12.o.de.shq)
      clear hi hgr HN HM11 HS10ensh;go_upto_region 59 with fail
      generalize v12.setCell ⟨q,15,none⟩ (.string x12)=w12 at *;clear y hsx hfx HP12
      cases ok12 with
      | false =>
       have HF:Hid (zAG (L.drop k) = .error (L.drop k12)):=HQ12.o.1 rfl;obtain ⟨dz,hdz⟩:∃ dz:De,dz = { d with bg:=(x10:Int),ot:=x12 }:=⟨_,rfl⟩
       rw [←hdz] at HM12;clear hdz;obtain ⟨hst,hz,hgv⟩:=zBg (k:=k) (ok:=false) hrw HLA.o HM12.o.rd HM12.o.kp HM12.o.rs rfl (fun h=>zy) (fun _=>HF.o)
       have HX:=zq HM12.o.de.bx;have HSR:=zq hst;have HZ:=zq hz;have HGO:=zq hgv;clear hst hz hgv;go_upto_region 60 with fail
       iterate 2 go_step
       refine eA _ _ zo q 0 zo (deC dz).toList _ (zBu HX.o) Tryz.underlying47 rfl zb ?_
       go_wp2_with (refine zAg rfl _ _ _ rfl ⟨w.heap.size,0,none⟩ (deV dz) rfl rfl HSR.o ?_)
       refine dD (v:=.tuple #[deV dz,.bool false]) (zAD rfl rfl HZ.o) rfl ?_
       exact HGO.o
      | true =>
       have HS12:Hid (Stp (fun d M=>.ok (d,M)) (zAG (L.drop k)) L { d with bg:=(x10:Int),ot:=x12 } k12 false):=HQ12.o
       clear HQ12;have HE:Hid (zAG (L.drop k) = .ok (plD ({ d with bg:=(x10:Int),ot:=x12 }),L.drop k12)):=(HS12.o.2 rfl).symm
       obtain ⟨dz,hdz⟩:∃ dz:De,dz = { d with bg:=(x10:Int),ot:=x12 }:=⟨_,rfl⟩
       rw [←hdz] at HM12 HE;clear hdz;obtain ⟨hst,hz,hgv⟩:=zBg (k:=k) (ok:=true) hrw HLA.o HM12.o.rd HM12.o.kp HM12.o.rs rfl (fun _=>⟨q,HM12.o.uq,HM12.o.de,HE.o⟩) (fun h=>zy)
       have HX:=zq HM12.o.de.bx;have HSR:=zq hst;have HZ:=zq hz;have HGO:=zq hgv;clear hst hz hgv;go_upto_region 61 with fail
       iterate 2 go_step
       refine eA _ _ zo q 0 zo (deC dz).toList _ (zBu HX.o) Tryz.underlying47 rfl zb ?_
       go_wp2_with (refine zAg rfl _ _ _ rfl ⟨w.heap.size,0,none⟩ (deV dz) rfl rfl HSR.o ?_)
       refine dD (v:=.tuple #[deV dz,.bool true]) (zAD rfl rfl HZ.o) rfl ?_
       exact HGO.o
 ·have Cgv:Hid (zAf d.kd=false):=by show _=_;rw [hk];rfl
  have Cdv:Hid (divB d.kd=true):=zv;have Cpt:Hid (decide (d.kd=2)=false):=zv;have Cex:Hid (decide (d.kd=3)=false):=zv;have Cot:Hid (decide (d.kd=4)=false):=zv;have Cth:Hid ((zAf d.kd || decide (d.kd=1))=true):=zv
  have Cfr:Hid ((zAf d.kd || decide (d.kd=5))=false):=zv
  have e1:(d.kd == 1)=true:=yw;have e2:(d.kd == 2)=false:=yw;have e3:(d.kd == 3)=false:=yw;have e4:(d.kd == 4)=false:=yw;have e5:(d.kd == 5)=false:=yw;have HGV:Hid (∀ u,Calls Tryz.prog 49 #[.int .i64 d.kd] u (zAr (.bool false) u)):=fun u=>by have h:=zEl d.kd u;rwa [show zAf d.kd=false from Cgv.out] at h
  have HDV:Hid (∀ u,Calls Tryz.prog 53 #[.int .i64 d.kd] u (zAr (.bool true) u)):=fun u=>by have h:=zDl d.kd u;rwa [show divB d.kd=true from Cdv.out] at h
  clear hk hk0;have y2:World.cell? _ ⟨q,2,none⟩=some (.int .i64 d.kd):=HMa.o.de.bx.c 2 rfl;have ysx:=HMa.o.de.bx.lt
  go_wp2_with fail
  with_reducible refine (HGV.o _).mono ?_
  rintro e vv ⟨rfl,rfl⟩;have HN:=zq (zCs r LA c L (k+1) ⟨#[32,32,116,104,105,110,103]⟩ zBq rfl zc _ HMa.o.rd (HG0.o.kept HMa.o.kp hg hrw));have HQ8:=zq (HSa.o.th Cth.out);generalize nmO false zBq (L.drop (k+1))=an8 at HN HQ8;generalize ofL (an8.getD [])=x8 at HN HQ8;generalize an8.isSome=ok8 at HN HQ8;generalize nxk (k+1) ok8=k8 at HN HQ8
  go_wp2_with fail
  with_reducible refine HN.o.mono ?_
  rintro e v8 ⟨rfl,hi,hgr⟩;clear y2 ysx;have HP8:=zq (HMa.o.next hrw hi hgr);have y:=HP8.o.de.bx.c 3 rfl;have hsx:=HP8.o.de.bx.lt;have hfx:=HP8.o.de.bx.frozen;have HM8:=zq (HP8.o.put (d':={ d with th:=x8 }) hrw HLA.o 3 (.string x8) rfl ⟨rfl,rfl⟩ ⟨rfl,rfl⟩ HP8.o.de.shs HP8.o.de.shq)
  clear hi hgr HN HMa HSa;go_upto_region 12 with fail
  generalize v8.setCell ⟨q,3,none⟩ (.string x8)=w8 at *;clear y hsx hfx HP8
  cases ok8 with
  | false =>
   have HF:Hid (zAG (L.drop k) = .error (L.drop k8)):=HQ8.o.1 rfl;obtain ⟨dz,hdz⟩:∃ dz:De,dz = { d with th:=x8 }:=⟨_,rfl⟩
   rw [←hdz] at HM8;clear hdz;obtain ⟨hst,hz,hgv⟩:=zBg (k:=k) (ok:=false) hrw HLA.o HM8.o.rd HM8.o.kp HM8.o.rs rfl (fun h=>zy) (fun _=>HF.o)
   have HX:=zq HM8.o.de.bx;have HSR:=zq hst;have HZ:=zq hz;have HGO:=zq hgv;clear hst hz hgv;go_upto_region 13 with fail
   iterate 2 go_step
   refine eA _ _ zo q 0 zo (deC dz).toList _ (zBu HX.o) Tryz.underlying47 rfl zb ?_
   go_wp2_with (refine zAg rfl _ _ _ rfl ⟨w.heap.size,0,none⟩ (deV dz) rfl rfl HSR.o ?_)
   refine dD (v:=.tuple #[deV dz,.bool false]) (zAD rfl rfl HZ.o) rfl ?_
   exact HGO.o
  | true =>
   have HS8:Hid (Stp st2 (zAG (L.drop k)) L { d with th:=x8 } k8 false):=HQ8.o
   clear HQ8;have HS8fr:=zq (HS8.o.fr0 Cfr.out yx);have y2:World.cell? _ ⟨q,2,none⟩=some (.int .i64 d.kd):=HM8.o.de.bx.c 2 rfl;have ysx:=HM8.o.de.bx.lt
   go_wp2_with fail
   with_reducible refine (HGV.o _).mono ?_
   rintro e vv ⟨rfl,rfl⟩;clear y2 ysx;have HS8frto:=zq (HS8fr.o.to0 Cgv.out yx);have HS8frtopt:=zq (HS8frto.o.pt0 Cpt.out qo);have HS8frtoptex:=zq (HS8frtopt.o.ex0 Cex.out zj);have HS8frtoptexsb:=zq (HS8frtoptex.o.sb0 Cex.out zj);have HS8frtoptexsbar:=zq (HS8frtoptexsb.o.ar0 Cgv.out zj);have HS8frtoptexsbarus:=zq (HS8frtoptexsbar.o.us0 Cgv.out zj);have y2:World.cell? _ ⟨q,2,none⟩=some (.int .i64 d.kd):=HM8.o.de.bx.c 2 rfl;have ysx:=HM8.o.de.bx.lt
   go_wp2_with fail
   with_reducible refine (HGV.o _).mono ?_
   rintro e vv ⟨rfl,rfl⟩;clear y2 ysx;have y2:World.cell? _ ⟨q,2,none⟩=some (.int .i64 d.kd):=HM8.o.de.bx.c 2 rfl;have ysx:=HM8.o.de.bx.lt
   go_wp2_with fail
   clear y2 ysx
   go_loopg [] 1 (fun (_:Nat) (wr:World)=>DjM w r LA c L q wr ({ d with th:=x8 }) k8)
   case atStart=>exact HM8.o
   case round =>
    clear HM8;have HM9:=zq hrel;clear hrel;have y2:World.cell? _ ⟨q,2,none⟩=some (.int .i64 d.kd):=HM9.o.de.bx.c 2 rfl;have ysx:=HM9.o.de.bx.lt
    go_wp2_with fail
    with_reducible refine (HGV.o _).mono ?_
    rintro e vv ⟨rfl,rfl⟩
    go_wp2_with fail
    clear y2 ysx
    go_loopg [] 1 (fun (_:Nat) (wr:World)=>DjM w r LA c L q wr ({ d with th:=x8 }) k8)
    case atStart=>exact HM9.o
    case round =>
     clear HM9;have HM10:=zq hrel;clear hrel;have y2:World.cell? _ ⟨q,2,none⟩=some (.int .i64 d.kd):=HM10.o.de.bx.c 2 rfl;have ysx:=HM10.o.de.bx.lt
     go_wp2_with fail
     with_reducible refine (HGV.o _).mono ?_
     rintro e vv ⟨rfl,rfl⟩
     go_wp2_with fail
     clear y2 ysx;have HN:=zq (zEh r LA c L k8 ⟨#[32,32,98,101,103,105,110]⟩ zAM rfl zc _ HM10.o.rd (HG0.o.kept HM10.o.kp hg hrw));have HQ11:=zq (HS8frtoptexsbarus.o.bg);generalize nuO false zAM (L.drop k8)=an11 at HN HQ11;generalize an11.getD 0=x11 at HN HQ11;generalize an11.isSome=ok11 at HN HQ11;generalize nxk k8 ok11=k11 at HN HQ11
     go_wp2_with fail
     with_reducible refine HN.o.mono ?_
     rintro e v11 ⟨rfl,hi,hgr⟩;have HP11:=zq (HM10.o.next hrw hi hgr);have y:=HP11.o.de.bx.c 12 rfl;have hsx:=HP11.o.de.bx.lt;have hfx:=HP11.o.de.bx.frozen;have HM11:=zq (HP11.o.put (d':={ d with th:=x8,bg:=(x11:Int) }) hrw HLA.o 12 (.int .i64 (x11:Int)) rfl ⟨rfl,rfl⟩ ⟨rfl,rfl⟩ HP11.o.de.shs HP11.o.de.shq)
     clear hi hgr HN HM10 HS8frtoptexsbarus;go_upto_region 44 with fail
     generalize v11.setCell ⟨q,12,none⟩ (.int .i64 (x11:Int))=w11 at *;clear y hsx hfx HP11
     cases ok11 with
     | false =>
      have HF:Hid (zAG (L.drop k) = .error (L.drop k11)):=HQ11.o.1 rfl;obtain ⟨dz,hdz⟩:∃ dz:De,dz = { d with th:=x8,bg:=(x11:Int) }:=⟨_,rfl⟩
      rw [←hdz] at HM11;clear hdz;obtain ⟨hst,hz,hgv⟩:=zBg (k:=k) (ok:=false) hrw HLA.o HM11.o.rd HM11.o.kp HM11.o.rs rfl (fun h=>zy) (fun _=>HF.o)
      have HX:=zq HM11.o.de.bx;have HSR:=zq hst;have HZ:=zq hz;have HGO:=zq hgv;clear hst hz hgv;go_upto_region 45 with fail
      iterate 2 go_step
      refine eA _ _ zo q 0 zo (deC dz).toList _ (zBu HX.o) Tryz.underlying47 rfl zb ?_
      go_wp2_with (refine zAg rfl _ _ _ rfl ⟨w.heap.size,0,none⟩ (deV dz) rfl rfl HSR.o ?_)
      refine dD (v:=.tuple #[deV dz,.bool false]) (zAD rfl rfl HZ.o) rfl ?_
      exact HGO.o
     | true =>
      have HS11:Hid (Stp st10 (zAG (L.drop k)) L { d with th:=x8,bg:=(x11:Int) } k11 false):=HQ11.o
      clear HQ11;have HS11en:=zq (HS11.o.en0 Cgv.out zj);have y2:World.cell? _ ⟨q,2,none⟩=some (.int .i64 d.kd):=HM11.o.de.bx.c 2 rfl;have ysx:=HM11.o.de.bx.lt
      go_wp2_with fail
      with_reducible refine (HGV.o _).mono ?_
      rintro e vv ⟨rfl,rfl⟩;clear y2 ysx
      go_wp2_with fail
      obtain ⟨da,hda⟩:∃ da:De,da = { d with th:=x8,bg:=(x11:Int) }:=⟨_,rfl⟩
      have HKA:Hid (da.kd=d.kd∧da.shA=none∧da.sh=[]∧da.ot=emp∧da.shc=0):=jd;rw [←hda] at HM11 HS11en;clear hda HDZ;obtain ⟨all,hall⟩:∃ all,all=shsO false (L.drop k11):=⟨_,rfl⟩;have HSA:=zq (fun A c=>HS11en.o.sh (by rw [HKA.o.1];exact Cdv.out) A c)
      rw [←hall] at HSA;have HALL:Hid (all=(zAW (L.drop k11)).1):=hall;have HK0:=HM11.o.rd.le;have HM0:=zq (deN HM11.o HKA.o.2.1 HKA.o.2.2.1 HKA.o.2.2.2.2);clear hall HS11en
      go_loopg [] (L.length+1 - k11) (ShJ w r LA c L q da k11 all)
      case atStart=>exact ⟨[],none,0,HM0.o,zAF.nil _ _ _ _ _,HALL.o.symm,zg⟩
      case round =>
       obtain ⟨T,A,cA,hm,hown,hal,hms⟩:=hrel;have HM:=zq hm;have HO:=zq hown;have HA1:=zq hal;have HMS:=zq hms;have hTl:T.length≤600000:=j5;obtain ⟨kk,hkk⟩:∃ kk,kk=k11+T.length:=⟨_,rfl⟩;have HKK:=zq hkk;rw [←hkk] at HM HA1;clear hm hown hal hms hkk HM0 HM11 HALL;have HW:Hid (∀ u,RdJ u r LA c L kk→GOK u→Calls Tryz.prog 14 #[.pointer (some ⟨r,0,none⟩),.string ⟨#[32,32,115,104,97,114,101]⟩,.int .i64 2] u (zBN (nxF (sp2++zCh) 2 (L.drop kk)) u)):=fun u h1 h2=>zCD r LA c L kk ⟨#[32,32,115,104,97,114,101]⟩ 2 u h1 h2 zc
       have HS1:=zq (shr1_nx (L.drop kk));have HNO:Hid (shr1 (L.drop kk)=none→T=all):=fun h=>by rw [←HA1.o,zCu,h,aD]
       have HYES:Hid (∀ x,shr1 (L.drop kk)=some x→(T++[x])++(zAW (L.drop (kk+1))).1=all):=fun x h=>by
        rw [←HA1.o,zCu (L.drop kk),h];simp only [cC,dI,zAX]
       have HWT:Hid (∀ W,nxF (sp2++zCh) 2 (L.drop kk)=some W→kk<L.length∧∃ p s,W=[p,s]∧p.length≤600000∧s.length≤600000):=fun W hW=>by
        refine ⟨zBi (zDY vo),?_⟩
        have hl:=zDw hW
        match W,hl with
        | [p,s],_=>exact ⟨p,s,rfl,zAU HM.o.rd.drops hW zd,zAU HM.o.rd.drops hW zd⟩
       generalize shr1 (L.drop kk)=ans at *;generalize nxF (sp2++zCh) 2 (L.drop kk)=res at *;clear HA1
       have HFIN:Hid (∀ w',ans=none→DjM w r LA c L q w' { da with shA:=A,sh:=T,shc:=cA } kk→DjM w r LA c L q w' { da with shA:=A,sh:=all,shc:=cA } kk∧Stp st12 (zAG (L.drop k)) L { da with shA:=A,sh:=all,shc:=cA } kk false):=fun w' ha hm=>by
        have hT:=HNO.o ha;have h2:=HSA.o A cA;subst hT;rw [←HKK.o] at h2;exact ⟨hm,h2⟩
       have y2:World.cell? _ ⟨q,2,none⟩=some (.int .i64 da.kd):=HM.o.de.bx.c 2 rfl;rw [HKA.o.1] at y2;have ysx:=HM.o.de.bx.lt
       go_wp2_with fail
       with_reducible refine (HDV.o _).mono ?_
       rintro e vv ⟨rfl,rfl⟩;clear y2 ysx;have HW1:=zq (HW.o _ HM.o.rd (HG0.o.kept HM.o.kp hg hrw))
       go_wp2_with fail
       with_reducible refine HW1.o.mono ?_
       rintro e v1 ⟨A3,n3,c3,rfl,hst3,hb3⟩;have HM1:=zq (HM.o.below hrw hb3);have HO1:=zq (HO.o.below hb3);have HB3:=zq hb3;have HST:=zq hst3;have HOV:Hid (∀ j,(Value.slice A T.length cA).ownBlock=some j→j<wr.heap.size):=fun j hj=>(bT HO.o j hj).2
       have HQW:=HM.o.de.bx.lt;clear hst3 hb3 HW1 HW HM HO
       cases res with
       | none =>
        have HF2:=zq (HFIN.o _ HS1.o HM1.o);have HSo:=zq (HF2.o.2.ot0 qf HKA.o.2.2.2.1);have HE:Hid (zAG (L.drop k) = .ok (plD { da with shA:=A,sh:=all,shc:=cA },L.drop kk)):=(HSo.o.2 rfl).symm
        have HM7:=zq HF2.o.1;have y2:World.cell? _ ⟨q,2,none⟩=some (.int .i64 da.kd):=HM7.o.de.bx.c 2 rfl;rw [HKA.o.1] at y2;have ysx:=HM7.o.de.bx.lt;go_upto_region 61 with fail
        clear y2 ysx;obtain ⟨dz,hdz⟩:∃ dz:De,dz = { da with shA:=A,sh:=all,shc:=cA }:=⟨_,rfl⟩
        rw [←hdz] at HM7 HE;clear hdz;obtain ⟨hst,hz,hgv⟩:=zBg (k:=k) (ok:=true) hrw HLA.o HM7.o.rd HM7.o.kp HM7.o.rs rfl (fun _=>⟨q,HM7.o.uq,HM7.o.de,HE.o⟩) (fun h=>zy)
        have HX:=zq HM7.o.de.bx;have HSR:=zq hst;have HZ:=zq hz;have HGO:=zq hgv;clear hst hz hgv
        iterate 2 go_step
        refine eA _ _ zo q 0 zo (deC dz).toList _ (zBu HX.o) Tryz.underlying47 rfl zb ?_
        go_wp2_with (refine zAg rfl _ _ _ rfl ⟨w.heap.size,0,none⟩ (deV dz) rfl rfl HSR.o ?_)
        refine dD (v:=.tuple #[deV dz,.bool true]) (zAD rfl rfl HZ.o) rfl ?_
        exact HGO.o
       | some W =>
        obtain ⟨hkl2,p,s,rfl,hpl,hsl⟩:=HWT.o W rfl;obtain ⟨rfl,hlo,hst⟩:=HST.o _ rfl;obtain ⟨bw,ow,hA2,hc2⟩:=hst zd;subst hA2;have hbw:wr.heap.size≤bw:=hlo bw ow rfl;have c1':v1.cell? ⟨bw,ow,none⟩=some (.string (ofL p)):=hc2 0 zd;have c2':v1.cell? ⟨bw,ow+1,none⟩=some (.string (ofL s)):=hc2 1 zd;have HR:=zq (zCg (ofL p) v1 zr);rw [zAj] at HR
        have HS2:Hid (ans=if rowL p=true then match zDP s with
         | some (n,d)=>some ⟨ofL p,ofL n,ofL d⟩
         | none=>none else none):=HS1.o
        generalize rowL p=b at *;clear hc2 hst hlo HST HWT HS1
        go_wp2_with fail
        with_reducible refine HR.o.mono ?_
        rintro e vv ⟨rfl,rfl⟩
        cases b with
        | false =>
         have HF2:=zq (HFIN.o _ HS2.o HM1.o);clear c1' c2';have HSo:=zq (HF2.o.2.ot0 qf HKA.o.2.2.2.1);have HE:Hid (zAG (L.drop k) = .ok (plD { da with shA:=A,sh:=all,shc:=cA },L.drop kk)):=(HSo.o.2 rfl).symm
         have HM7:=zq HF2.o.1;have y2:World.cell? _ ⟨q,2,none⟩=some (.int .i64 da.kd):=HM7.o.de.bx.c 2 rfl;rw [HKA.o.1] at y2;have ysx:=HM7.o.de.bx.lt;go_upto_region 61 with fail
         clear y2 ysx;obtain ⟨dz,hdz⟩:∃ dz:De,dz = { da with shA:=A,sh:=all,shc:=cA }:=⟨_,rfl⟩
         rw [←hdz] at HM7 HE;clear hdz;obtain ⟨hst,hz,hgv⟩:=zBg (k:=k) (ok:=true) hrw HLA.o HM7.o.rd HM7.o.kp HM7.o.rs rfl (fun _=>⟨q,HM7.o.uq,HM7.o.de,HE.o⟩) (fun h=>zy)
         have HX:=zq HM7.o.de.bx;have HSR:=zq hst;have HZ:=zq hz;have HGO:=zq hgv;clear hst hz hgv
         iterate 2 go_step
         refine eA _ _ zo q 0 zo (deC dz).toList _ (zBu HX.o) Tryz.underlying47 rfl zb ?_
         go_wp2_with (refine zAg rfl _ _ _ rfl ⟨w.heap.size,0,none⟩ (deV dz) rfl rfl HSR.o ?_)
         refine dD (v:=.tuple #[deV dz,.bool true]) (zAD rfl rfl HZ.o) rfl ?_
         exact HGO.o
        | true =>
         have HRR:=zq (rsPart_c (ofL s) v1 zr (HG0.o.kept HM1.o.kp hg hrw));obtain ⟨s1,hs1⟩:∃ x,x=ofL ((zDP s).getD ([],[])).1:=⟨_,rfl⟩;obtain ⟨s2,hs2⟩:∃ x,x=ofL ((zDP s).getD ([],[])).2:=⟨_,rfl⟩;obtain ⟨ok,hok⟩:∃ ok,ok=(zDP s).isSome:=⟨_,rfl⟩;have HRV:Hid (rpV (ofL s) = .tuple #[.agg #[.string s1,.string s2],.bool ok]):=by show _=_;unfold rpV;rw [zAj,hs1,hs2,hok]
         rw [HRV.o] at HRR
         have HNK:Hid (ok=false→ans=none):=fun h=>by
          rw [hok] at h;rw [HS2.o]
          cases hx:zDP s with
          | none=>rfl
          | some _=>rw [hx] at h;cases h
         have HYK:Hid (ok=true→ans=some ⟨ofL p,s1,s2⟩):=fun h=>by
          rw [hok] at h;rw [HS2.o]
          cases hx:zDP s with
          | none=>rw [hx] at h;cases h
          | some x=>rw [hs1,hs2,hx];rfl
         clear hs1 hs2 hok HRV HS2
         go_wp2_with fail
         with_reducible refine HRR.o.mono ?_
         rintro e v2 ⟨rfl,hb4⟩;have HX:Hid (Bx (v2.alloc (.cells #[.string s1,.string s2] 43)) v2.heap.size #[.string s1,.string s2] 43):=Bx.new _ _ _;have hba:Below v2.heap.size v2 (v2.alloc (.cells #[.string s1,.string s2] 43)):=(bS _ _).alloc (aB _) _;have hbt:=zAb hb4 hba;have HM2:=zq (HM1.o.below hrw hbt);have HO2:=zq (HO1.o.below hbt);have C1:=zq (zAh hbt c1');have HV2:Hid (wr.heap.size≤v2.heap.size):=cV HB3.o.size hb4.size;clear hba hbt hb4 HRR HM1 HO1 c1' c2' HR;go_upto_region 54 with fail
         obtain ⟨gx,hgx⟩:∃ gx,gx=v2.heap.size:=⟨_,rfl⟩;obtain ⟨v3,hv3⟩:∃ v3,v3=v2.alloc (.cells #[.string s1,.string s2] 43):=⟨_,rfl⟩;rw [←hgx] at HX HV2;rw [←hv3] at HX HM2 HO2 C1;rw [←hgx,←hv3];clear hgx hv3
         cases ok with
         | false =>
          have HF2:=zq (HFIN.o _ (HNK.o rfl) HM2.o);have HSo:=zq (HF2.o.2.ot0 qf HKA.o.2.2.2.1);have HE:Hid (zAG (L.drop k) = .ok (plD { da with shA:=A,sh:=all,shc:=cA },L.drop kk)):=(HSo.o.2 rfl).symm
          have HM7:=zq HF2.o.1;have y2:World.cell? _ ⟨q,2,none⟩=some (.int .i64 da.kd):=HM7.o.de.bx.c 2 rfl;rw [HKA.o.1] at y2;have ysx:=HM7.o.de.bx.lt;go_upto_region 61 with fail
          clear y2 ysx;obtain ⟨dz,hdz⟩:∃ dz:De,dz = { da with shA:=A,sh:=all,shc:=cA }:=⟨_,rfl⟩
          rw [←hdz] at HM7 HE;clear hdz;obtain ⟨hst,hz,hgv⟩:=zBg (k:=k) (ok:=true) hrw HLA.o HM7.o.rd HM7.o.kp HM7.o.rs rfl (fun _=>⟨q,HM7.o.uq,HM7.o.de,HE.o⟩) (fun h=>zy)
          have HX:=zq HM7.o.de.bx;have HSR:=zq hst;have HZ:=zq hz;have HGO:=zq hgv;clear hst hz hgv
          iterate 2 go_step
          refine eA _ _ zo q 0 zo (deC dz).toList _ (zBu HX.o) Tryz.underlying47 rfl zb ?_
          go_wp2_with (refine zAg rfl _ _ _ rfl ⟨w.heap.size,0,none⟩ (deV dz) rfl rfl HSR.o ?_)
          refine dD (v:=.tuple #[deV dz,.bool true]) (zAD rfl rfl HZ.o) rfl ?_
          exact HGO.o
         | true =>
          have HN:=zq (HYES.o _ (HYK.o rfl));clear HYES HYK HNK HFIN HNO;obtain ⟨wk,hwk⟩:∃ wk,wk=v3.drew:=⟨_,rfl⟩;have hbd:Below v3.heap.size v3 wk:=by rw [hwk];exact zAc (bS _ _) 1
          have HMk:=zq (HM2.o.below hrw hbd);have HOk:=zq (HO2.o.below hbd);have HXk:=zq (HX.o.below hbd);have HAd:Hid (wk.cell? ⟨q,14,none⟩=some (.slice A T.length cA)∧wk.cell? ⟨bw,ow,none⟩=some (.string (ofL p))∧wk.cell? ⟨gx,0,none⟩=some (.string s1)∧wk.cell? ⟨gx,1,none⟩=some (.string s2)):=⟨HMk.o.de.bx.c 14 rfl,zAh hbd C1.out,HXk.o.c 0 rfl,HXk.o.c 1 rfl⟩;have hba:Below wk.heap.size wk (wk.alloc (.cells #[.string (ofL p),.string s1,.string s2] 110)):=(bS _ _).alloc (aB _) _;have HAa:=zq (show (wk.alloc (.cells #[.string (ofL p),.string s1,.string s2] 110)).cell? ⟨q,14,none⟩=some (.slice A T.length cA)∧(wk.alloc (.cells #[.string (ofL p),.string s1,.string s2] 110)).cell? ⟨bw,ow,none⟩=some (.string (ofL p))∧(wk.alloc (.cells #[.string (ofL p),.string s1,.string s2] 110)).cell? ⟨gx,0,none⟩=some (.string s1)∧(wk.alloc (.cells #[.string (ofL p),.string s1,.string s2] 110)).cell? ⟨gx,1,none⟩=some (.string s2) from ⟨zAh hba HAd.o.1,zAh hba HAd.o.2.1,zAh hba HAd.o.2.2.1,zAh hba HAd.o.2.2.2⟩)
          have HMa:=zq (HMk.o.below hrw hba);have HOa:=zq (HOk.o.below hba);have t2:Hid ((wk.alloc (.cells #[.string (ofL p),.string s1,.string s2] 110)).heap[wk.heap.size]?=some (.cells #[.string (ofL p),.string s1,.string s2] 110 (0,0))):=cI wk _;have t4:Hid (q+1≤(wk.alloc (.cells #[.string (ofL p),.string s1,.string s2] 110)).heap.size):=HMa.o.de.bx.lt;clear hba hbd C1 HM2 HO2 HX;go_upto_region 55 with fail
          refine zCn (S:=SLq 10 (fun w'=>w'.cell? ⟨q,14,none⟩=some (.slice A T.length cA)∧w'.cell? ⟨bw,ow,none⟩=some (.string (ofL p))∧w'.cell? ⟨gx,0,none⟩=some (.string s1)∧w'.cell? ⟨gx,1,none⟩=some (.string s2))) zb (fun _=>xh) ?_
          intro hsh _;rw [←hwk];clear hwk;refine zAx (i:=0) (v:=?_) rfl zb zb zb (fun _ _ _ h=>h) (SLq.iff zc) hsh (Or.inl ⟨zb,?_⟩) (fun _=>HAd.o) ?_
          rotate_left 1
          ·(intro w9 _;go_simp;try with_reducible rfl)
          intro hsh _;simp only [eB,cN,Act.put,cF,dY,bV] at hsh ⊢;refine zAx (i:=1) (v:=?_) rfl zb zb zb (fun _ _ _ h=>h) (SLq.iff zc) hsh (Or.inl ⟨zb,?_⟩) (fun _=>HAd.o) ?_
          rotate_left 1
          ·(intro w9 hw9;have hA:=SLq.ahead (n:=10) zb hw9;obtain ⟨a1,a2,a3,a4⟩:=hA;go_simp;try with_reducible rfl)
          intro hsh _;simp only [Dw.lay,Act.put] at hsh ⊢;refine zAx (i:=2) (v:=?_) rfl zb zb zb (fun _ _ _ h=>h) (SLq.iff zc) hsh (Or.inl ⟨zb,?_⟩) (fun _=>HAd.o) ?_
          rotate_left 1
          ·(intro w9 _;go_simp;try with_reducible rfl)
          intro hsh _;simp only [Dw.lay,Act.put] at hsh ⊢;refine zAx (i:=3) (v:=?_) rfl zb zb zb (fun _ _ _ h=>h) (SLq.iff zc) hsh (Or.inl ⟨zb,?_⟩) (fun _=>HAd.o) ?_
          rotate_left 1
          ·(intro w9 _;go_simp;try with_reducible rfl)
          intro hsh _;simp only [Dw.lay,Act.put] at hsh ⊢;refine zAx (i:=4) (v:=?_) rfl zb zb zb (fun _ _ _ h=>h) (SLq.iff zc) hsh (Or.inl ⟨zb,?_⟩) (fun _=>HAd.o) ?_
          rotate_left 1
          ·(intro w9 hw9;have hA:=SLq.ahead (n:=10) zb hw9;obtain ⟨a1,a2,a3,a4⟩:=hA;go_simp;try with_reducible rfl)
          intro hsh _;simp only [Dw.lay,Act.put] at hsh ⊢;refine zAx (i:=5) (v:=?_) rfl zb zb zb (fun _ _ _ h=>h) (SLq.iff zc) hsh (Or.inl ⟨zb,?_⟩) (fun _=>HAd.o) ?_
          rotate_left 1
          ·(intro w9 hw9;have hA:=SLq.ahead (n:=10) zb hw9;obtain ⟨a1,a2,a3,a4⟩:=hA;go_simp;try with_reducible rfl)
          intro hsh _;simp only [Dw.lay,Act.put] at hsh ⊢;refine zAx (i:=6) (v:=?_) rfl zb zb zb (fun _ _ _ h=>h) (SLq.iff zc) hsh (Or.inl ⟨zb,?_⟩) (fun _=>HAd.o) ?_
          rotate_left 1
          ·(intro w9 _;go_simp;try with_reducible rfl)
          intro hsh _;simp only [Dw.lay,Act.put] at hsh ⊢;clear hsh;refine zAI (rs:=[7]) zb zd ?_
          refine zCX.cons rfl (fun K hK=>?_) zCX.nil
          go_simp
          refine hK.out _ _ (fun _=>HAa.o) (fun _=>?_)
          clear hK K
          try simp only [Dw.lay,Act.put]
          refine zAI (rs:=[8]) zb zd ?_
          refine zCX.cons rfl (fun K hK=>?_) zCX.nil
          refine zEa (k:=3) (enc:=eShr) zo _ _ _ zo elShr (q+1) (.slice A T.length cA) T zo HOa.o wk.heap.size 1 (⟨ofL p,s1,s2⟩:Sh) zo t2.out rfl rfl (oneShr _) zt za t4.out ?_
          intro g9 cap9 w9 ho9 hg9;obtain ⟨z0,zs,zf,hm9,ho10⟩:=HMa.o.pushS hrw HLA.o HOa.o ho9 hg9;have HM9:=zq hm9;have HO9:=zq ho10;have HA9:Hid (w9.cell? ⟨q,14,none⟩=some (.slice A T.length cA)∧w9.cell? ⟨bw,ow,none⟩=some (.string (ofL p))∧w9.cell? ⟨gx,0,none⟩=some (.string s1)∧w9.cell? ⟨gx,1,none⟩=some (.string s2)):=⟨z0,hg9.cell HAa.o.2.1 (fun e=>by have h2:bw<wr.heap.size:=HOV.o _ e.symm;omega),hg9.cell HAa.o.2.2.1 (fun e=>qn),hg9.cell HAa.o.2.2.2 (fun e=>qn)⟩
          have zf0:=zf 14;clear hm9 zf ho9 hg9 ho10;refine hK.out _ _ (fun _=>HA9.o) (fun _=>?_)
          clear hK K
          try simp only [Dw.lay,Act.put]
          refine zAI (rs:=[9]) zb zd ?_
          refine zCX.cons rfl (fun K hK=>?_) zCX.nil
          go_simp
          refine hK.out _ _ (fun _=>HA9.o) (fun _=>?_)
          clear hK K
          try simp only [Dw.lay,Act.put]
          refine zAI (rs:=[10]) zb zd ?_
          refine zCX.cons rfl (fun K hK=>?_) zCX.nil
          go_simp
          refine hK.out _ _ (fun h=>absurd h zc) (fun _=>?_)
          clear hK K
          try simp only [Dw.lay,Act.put]
          refine anyL_done zb ?_ _
          obtain ⟨w10,hw10⟩:∃ w10,w10=w9.setCell ⟨q,14,none⟩ (.slice (some ⟨g9,0,none⟩) (T.length+1) cap9):=⟨_,rfl⟩;rw [←hw10] at HM9 HO9 ⊢;clear hw10 t2 t4 HAd HAa HMa HMk HA9 z0 zs zf0 HOa HOk HXk;have y1:w10.cell? ⟨r,1,none⟩=some (.int .i64 (kk:Int)):=HM9.o.rd.bx.c 1 rfl;have ys:=HM9.o.rd.bx.lt;have yf:=HM9.o.rd.bx.frozen;have hkm:=HM9.o.rd.many;have HM10:=zq (HM9.o.next hrw (HM9.o.rd.setk (k':=kk+1) hkl2) (zAn _ _ _));have HO10:Hid (zAF eShr 3 (w10.setCell ⟨r,1,none⟩ (.int .i64 ((kk+1:Nat):Int))) (q+1) 110 (.slice (some ⟨g9,0,none⟩) (T.length+1) cap9) (T++[⟨ofL p,s1,s2⟩])):=HO9.o.grown (zAn _ _ _) (zAR HO9.o (show r<q+1 by have:=HM9.o.uq;omega))
          clear HM9 HO9
          go_wp2_with fail
          have ek:((kk:Int)+1)=((kk+1:Nat):Int):=za;rw [ek]
          go_roundg (gk - 1)
          case measure=>have:=HMS.o;have:=HKK.o;omega
          case rel=>exact ⟨T++[⟨ofL p,s1,s2⟩],some ⟨g9,0,none⟩,cap9,jn,by rw [cY];exact HO10.o,j3,yu⟩
 ·have Cgv:Hid (zAf d.kd=false):=by show _=_;rw [hk];rfl
  have Cdv:Hid (divB d.kd=true):=zv;have Cpt:Hid (decide (d.kd=2)=false):=zv;have Cex:Hid (decide (d.kd=3)=false):=zv;have Cot:Hid (decide (d.kd=4)=false):=zv;have Cth:Hid ((zAf d.kd || decide (d.kd=1))=false):=zv
  have Cfr:Hid ((zAf d.kd || decide (d.kd=5))=true):=zv
  have e1:(d.kd == 1)=false:=yw;have e2:(d.kd == 2)=false:=yw;have e3:(d.kd == 3)=false:=yw;have e4:(d.kd == 4)=false:=yw;have e5:(d.kd == 5)=true:=yw;have HGV:Hid (∀ u,Calls Tryz.prog 49 #[.int .i64 d.kd] u (zAr (.bool false) u)):=fun u=>by have h:=zEl d.kd u;rwa [show zAf d.kd=false from Cgv.out] at h
  have HDV:Hid (∀ u,Calls Tryz.prog 53 #[.int .i64 d.kd] u (zAr (.bool true) u)):=fun u=>by have h:=zDl d.kd u;rwa [show divB d.kd=true from Cdv.out] at h
  clear hk hk0;have HSath:=zq (HSa.o.th0 Cth.out yx);have y2:World.cell? _ ⟨q,2,none⟩=some (.int .i64 d.kd):=HMa.o.de.bx.c 2 rfl;have ysx:=HMa.o.de.bx.lt
  go_wp2_with fail
  with_reducible refine (HGV.o _).mono ?_
  rintro e vv ⟨rfl,rfl⟩
  go_wp2_with fail
  with_reducible refine (HGV.o _).mono ?_
  rintro e vv ⟨rfl,rfl⟩;have HN:=zq (zCs r LA c L (k+1) ⟨#[32,32,102,114,111,109]⟩ zCa rfl zc _ HMa.o.rd (HG0.o.kept HMa.o.kp hg hrw));have HQ8:=zq (HSath.o.fr Cfr.out);generalize nmO false zCa (L.drop (k+1))=an8 at HN HQ8;generalize ofL (an8.getD [])=x8 at HN HQ8;generalize an8.isSome=ok8 at HN HQ8;generalize nxk (k+1) ok8=k8 at HN HQ8
  go_wp2_with fail
  with_reducible refine HN.o.mono ?_
  rintro e v8 ⟨rfl,hi,hgr⟩;clear y2 ysx;have HP8:=zq (HMa.o.next hrw hi hgr);have y:=HP8.o.de.bx.c 4 rfl;have hsx:=HP8.o.de.bx.lt;have hfx:=HP8.o.de.bx.frozen;have HM8:=zq (HP8.o.put (d':={ d with fr:=x8 }) hrw HLA.o 4 (.string x8) rfl ⟨rfl,rfl⟩ ⟨rfl,rfl⟩ HP8.o.de.shs HP8.o.de.shq)
  clear hi hgr HN HMa HSath;go_upto_region 16 with fail
  generalize v8.setCell ⟨q,4,none⟩ (.string x8)=w8 at *;clear y hsx hfx HP8
  cases ok8 with
  | false =>
   have HF:Hid (zAG (L.drop k) = .error (L.drop k8)):=HQ8.o.1 rfl;obtain ⟨dz,hdz⟩:∃ dz:De,dz = { d with fr:=x8 }:=⟨_,rfl⟩
   rw [←hdz] at HM8;clear hdz;obtain ⟨hst,hz,hgv⟩:=zBg (k:=k) (ok:=false) hrw HLA.o HM8.o.rd HM8.o.kp HM8.o.rs rfl (fun h=>zy) (fun _=>HF.o)
   have HX:=zq HM8.o.de.bx;have HSR:=zq hst;have HZ:=zq hz;have HGO:=zq hgv;clear hst hz hgv;go_upto_region 17 with fail
   iterate 2 go_step
   refine eA _ _ zo q 0 zo (deC dz).toList _ (zBu HX.o) Tryz.underlying47 rfl zb ?_
   go_wp2_with (refine zAg rfl _ _ _ rfl ⟨w.heap.size,0,none⟩ (deV dz) rfl rfl HSR.o ?_)
   refine dD (v:=.tuple #[deV dz,.bool false]) (zAD rfl rfl HZ.o) rfl ?_
   exact HGO.o
  | true =>
   have HS8:Hid (Stp st3 (zAG (L.drop k)) L { d with fr:=x8 } k8 false):=HQ8.o
   clear HQ8;have HS8to:=zq (HS8.o.to0 Cgv.out yx);have HS8topt:=zq (HS8to.o.pt0 Cpt.out qo);have HS8toptex:=zq (HS8topt.o.ex0 Cex.out zj);have HS8toptexsb:=zq (HS8toptex.o.sb0 Cex.out zj);have HS8toptexsbar:=zq (HS8toptexsb.o.ar0 Cgv.out zj);have HS8toptexsbarus:=zq (HS8toptexsbar.o.us0 Cgv.out zj);have y2:World.cell? _ ⟨q,2,none⟩=some (.int .i64 d.kd):=HM8.o.de.bx.c 2 rfl;have ysx:=HM8.o.de.bx.lt
   go_wp2_with fail
   with_reducible refine (HGV.o _).mono ?_
   rintro e vv ⟨rfl,rfl⟩;clear y2 ysx;have y2:World.cell? _ ⟨q,2,none⟩=some (.int .i64 d.kd):=HM8.o.de.bx.c 2 rfl;have ysx:=HM8.o.de.bx.lt
   go_wp2_with fail
   clear y2 ysx
   go_loopg [] 1 (fun (_:Nat) (wr:World)=>DjM w r LA c L q wr ({ d with fr:=x8 }) k8)
   case atStart=>exact HM8.o
   case round =>
    clear HM8;have HM9:=zq hrel;clear hrel;have y2:World.cell? _ ⟨q,2,none⟩=some (.int .i64 d.kd):=HM9.o.de.bx.c 2 rfl;have ysx:=HM9.o.de.bx.lt
    go_wp2_with fail
    with_reducible refine (HGV.o _).mono ?_
    rintro e vv ⟨rfl,rfl⟩
    go_wp2_with fail
    clear y2 ysx
    go_loopg [] 1 (fun (_:Nat) (wr:World)=>DjM w r LA c L q wr ({ d with fr:=x8 }) k8)
    case atStart=>exact HM9.o
    case round =>
     clear HM9;have HM10:=zq hrel;clear hrel;have y2:World.cell? _ ⟨q,2,none⟩=some (.int .i64 d.kd):=HM10.o.de.bx.c 2 rfl;have ysx:=HM10.o.de.bx.lt
     go_wp2_with fail
     with_reducible refine (HGV.o _).mono ?_
     rintro e vv ⟨rfl,rfl⟩
     go_wp2_with fail
     clear y2 ysx;have HN:=zq (zEh r LA c L k8 ⟨#[32,32,98,101,103,105,110]⟩ zAM rfl zc _ HM10.o.rd (HG0.o.kept HM10.o.kp hg hrw));have HQ11:=zq (HS8toptexsbarus.o.bg);generalize nuO false zAM (L.drop k8)=an11 at HN HQ11;generalize an11.getD 0=x11 at HN HQ11;generalize an11.isSome=ok11 at HN HQ11;generalize nxk k8 ok11=k11 at HN HQ11
     go_wp2_with fail
     with_reducible refine HN.o.mono ?_
     rintro e v11 ⟨rfl,hi,hgr⟩;have HP11:=zq (HM10.o.next hrw hi hgr);have y:=HP11.o.de.bx.c 12 rfl;have hsx:=HP11.o.de.bx.lt;have hfx:=HP11.o.de.bx.frozen;have HM11:=zq (HP11.o.put (d':={ d with fr:=x8,bg:=(x11:Int) }) hrw HLA.o 12 (.int .i64 (x11:Int)) rfl ⟨rfl,rfl⟩ ⟨rfl,rfl⟩ HP11.o.de.shs HP11.o.de.shq)
     clear hi hgr HN HM10 HS8toptexsbarus;go_upto_region 44 with fail
     generalize v11.setCell ⟨q,12,none⟩ (.int .i64 (x11:Int))=w11 at *;clear y hsx hfx HP11
     cases ok11 with
     | false =>
      have HF:Hid (zAG (L.drop k) = .error (L.drop k11)):=HQ11.o.1 rfl;obtain ⟨dz,hdz⟩:∃ dz:De,dz = { d with fr:=x8,bg:=(x11:Int) }:=⟨_,rfl⟩
      rw [←hdz] at HM11;clear hdz;obtain ⟨hst,hz,hgv⟩:=zBg (k:=k) (ok:=false) hrw HLA.o HM11.o.rd HM11.o.kp HM11.o.rs rfl (fun h=>zy) (fun _=>HF.o)
      have HX:=zq HM11.o.de.bx;have HSR:=zq hst;have HZ:=zq hz;have HGO:=zq hgv;clear hst hz hgv;go_upto_region 45 with fail
      iterate 2 go_step
      refine eA _ _ zo q 0 zo (deC dz).toList _ (zBu HX.o) Tryz.underlying47 rfl zb ?_
      go_wp2_with (refine zAg rfl _ _ _ rfl ⟨w.heap.size,0,none⟩ (deV dz) rfl rfl HSR.o ?_)
      refine dD (v:=.tuple #[deV dz,.bool false]) (zAD rfl rfl HZ.o) rfl ?_
      exact HGO.o
     | true =>
      have HS11:Hid (Stp st10 (zAG (L.drop k)) L { d with fr:=x8,bg:=(x11:Int) } k11 false):=HQ11.o
      clear HQ11;have HS11en:=zq (HS11.o.en0 Cgv.out zj);have y2:World.cell? _ ⟨q,2,none⟩=some (.int .i64 d.kd):=HM11.o.de.bx.c 2 rfl;have ysx:=HM11.o.de.bx.lt
      go_wp2_with fail
      with_reducible refine (HGV.o _).mono ?_
      rintro e vv ⟨rfl,rfl⟩;clear y2 ysx
      go_wp2_with fail
      obtain ⟨da,hda⟩:∃ da:De,da = { d with fr:=x8,bg:=(x11:Int) }:=⟨_,rfl⟩
      have HKA:Hid (da.kd=d.kd∧da.shA=none∧da.sh=[]∧da.ot=emp∧da.shc=0):=jd;rw [←hda] at HM11 HS11en;clear hda HDZ;obtain ⟨all,hall⟩:∃ all,all=shsO false (L.drop k11):=⟨_,rfl⟩;have HSA:=zq (fun A c=>HS11en.o.sh (by rw [HKA.o.1];exact Cdv.out) A c)
      rw [←hall] at HSA;have HALL:Hid (all=(zAW (L.drop k11)).1):=hall;have HK0:=HM11.o.rd.le;have HM0:=zq (deN HM11.o HKA.o.2.1 HKA.o.2.2.1 HKA.o.2.2.2.2);clear hall HS11en
      go_loopg [] (L.length+1 - k11) (ShJ w r LA c L q da k11 all)
      case atStart=>exact ⟨[],none,0,HM0.o,zAF.nil _ _ _ _ _,HALL.o.symm,zg⟩
      case round =>
       obtain ⟨T,A,cA,hm,hown,hal,hms⟩:=hrel;have HM:=zq hm;have HO:=zq hown;have HA1:=zq hal;have HMS:=zq hms;have hTl:T.length≤600000:=j5;obtain ⟨kk,hkk⟩:∃ kk,kk=k11+T.length:=⟨_,rfl⟩;have HKK:=zq hkk;rw [←hkk] at HM HA1;clear hm hown hal hms hkk HM0 HM11 HALL;have HW:Hid (∀ u,RdJ u r LA c L kk→GOK u→Calls Tryz.prog 14 #[.pointer (some ⟨r,0,none⟩),.string ⟨#[32,32,115,104,97,114,101]⟩,.int .i64 2] u (zBN (nxF (sp2++zCh) 2 (L.drop kk)) u)):=fun u h1 h2=>zCD r LA c L kk ⟨#[32,32,115,104,97,114,101]⟩ 2 u h1 h2 zc
       have HS1:=zq (shr1_nx (L.drop kk));have HNO:Hid (shr1 (L.drop kk)=none→T=all):=fun h=>by rw [←HA1.o,zCu,h,aD]
       have HYES:Hid (∀ x,shr1 (L.drop kk)=some x→(T++[x])++(zAW (L.drop (kk+1))).1=all):=fun x h=>by
        rw [←HA1.o,zCu (L.drop kk),h];simp only [cC,dI,zAX]
       have HWT:Hid (∀ W,nxF (sp2++zCh) 2 (L.drop kk)=some W→kk<L.length∧∃ p s,W=[p,s]∧p.length≤600000∧s.length≤600000):=fun W hW=>by
        refine ⟨zBi (zDY vo),?_⟩
        have hl:=zDw hW
        match W,hl with
        | [p,s],_=>exact ⟨p,s,rfl,zAU HM.o.rd.drops hW zd,zAU HM.o.rd.drops hW zd⟩
       generalize shr1 (L.drop kk)=ans at *;generalize nxF (sp2++zCh) 2 (L.drop kk)=res at *;clear HA1
       have HFIN:Hid (∀ w',ans=none→DjM w r LA c L q w' { da with shA:=A,sh:=T,shc:=cA } kk→DjM w r LA c L q w' { da with shA:=A,sh:=all,shc:=cA } kk∧Stp st12 (zAG (L.drop k)) L { da with shA:=A,sh:=all,shc:=cA } kk false):=fun w' ha hm=>by
        have hT:=HNO.o ha;have h2:=HSA.o A cA;subst hT;rw [←HKK.o] at h2;exact ⟨hm,h2⟩
       have y2:World.cell? _ ⟨q,2,none⟩=some (.int .i64 da.kd):=HM.o.de.bx.c 2 rfl;rw [HKA.o.1] at y2;have ysx:=HM.o.de.bx.lt
       go_wp2_with fail
       with_reducible refine (HDV.o _).mono ?_
       rintro e vv ⟨rfl,rfl⟩;clear y2 ysx;have HW1:=zq (HW.o _ HM.o.rd (HG0.o.kept HM.o.kp hg hrw))
       go_wp2_with fail
       with_reducible refine HW1.o.mono ?_
       rintro e v1 ⟨A3,n3,c3,rfl,hst3,hb3⟩;have HM1:=zq (HM.o.below hrw hb3);have HO1:=zq (HO.o.below hb3);have HB3:=zq hb3;have HST:=zq hst3;have HOV:Hid (∀ j,(Value.slice A T.length cA).ownBlock=some j→j<wr.heap.size):=fun j hj=>(bT HO.o j hj).2
       have HQW:=HM.o.de.bx.lt;clear hst3 hb3 HW1 HW HM HO
       cases res with
       | none =>
        have HF2:=zq (HFIN.o _ HS1.o HM1.o);have HSo:=zq (HF2.o.2.ot0 qf HKA.o.2.2.2.1);have HE:Hid (zAG (L.drop k) = .ok (plD { da with shA:=A,sh:=all,shc:=cA },L.drop kk)):=(HSo.o.2 rfl).symm
        have HM7:=zq HF2.o.1;have y2:World.cell? _ ⟨q,2,none⟩=some (.int .i64 da.kd):=HM7.o.de.bx.c 2 rfl;rw [HKA.o.1] at y2;have ysx:=HM7.o.de.bx.lt;go_upto_region 61 with fail
        clear y2 ysx;obtain ⟨dz,hdz⟩:∃ dz:De,dz = { da with shA:=A,sh:=all,shc:=cA }:=⟨_,rfl⟩
        rw [←hdz] at HM7 HE;clear hdz;obtain ⟨hst,hz,hgv⟩:=zBg (k:=k) (ok:=true) hrw HLA.o HM7.o.rd HM7.o.kp HM7.o.rs rfl (fun _=>⟨q,HM7.o.uq,HM7.o.de,HE.o⟩) (fun h=>zy)
        have HX:=zq HM7.o.de.bx;have HSR:=zq hst;have HZ:=zq hz;have HGO:=zq hgv;clear hst hz hgv
        iterate 2 go_step
        refine eA _ _ zo q 0 zo (deC dz).toList _ (zBu HX.o) Tryz.underlying47 rfl zb ?_
        go_wp2_with (refine zAg rfl _ _ _ rfl ⟨w.heap.size,0,none⟩ (deV dz) rfl rfl HSR.o ?_)
        refine dD (v:=.tuple #[deV dz,.bool true]) (zAD rfl rfl HZ.o) rfl ?_
        exact HGO.o
       | some W =>
        obtain ⟨hkl2,p,s,rfl,hpl,hsl⟩:=HWT.o W rfl;obtain ⟨rfl,hlo,hst⟩:=HST.o _ rfl;obtain ⟨bw,ow,hA2,hc2⟩:=hst zd;subst hA2;have hbw:wr.heap.size≤bw:=hlo bw ow rfl;have c1':v1.cell? ⟨bw,ow,none⟩=some (.string (ofL p)):=hc2 0 zd;have c2':v1.cell? ⟨bw,ow+1,none⟩=some (.string (ofL s)):=hc2 1 zd;have HR:=zq (zCg (ofL p) v1 zr);rw [zAj] at HR
        have HS2:Hid (ans=if rowL p=true then match zDP s with
         | some (n,d)=>some ⟨ofL p,ofL n,ofL d⟩
         | none=>none else none):=HS1.o
        generalize rowL p=b at *;clear hc2 hst hlo HST HWT HS1
        go_wp2_with fail
        with_reducible refine HR.o.mono ?_
        rintro e vv ⟨rfl,rfl⟩
        cases b with
        | false =>
         have HF2:=zq (HFIN.o _ HS2.o HM1.o);clear c1' c2';have HSo:=zq (HF2.o.2.ot0 qf HKA.o.2.2.2.1);have HE:Hid (zAG (L.drop k) = .ok (plD { da with shA:=A,sh:=all,shc:=cA },L.drop kk)):=(HSo.o.2 rfl).symm
         have HM7:=zq HF2.o.1;have y2:World.cell? _ ⟨q,2,none⟩=some (.int .i64 da.kd):=HM7.o.de.bx.c 2 rfl;rw [HKA.o.1] at y2;have ysx:=HM7.o.de.bx.lt;go_upto_region 61 with fail
         clear y2 ysx;obtain ⟨dz,hdz⟩:∃ dz:De,dz = { da with shA:=A,sh:=all,shc:=cA }:=⟨_,rfl⟩
         rw [←hdz] at HM7 HE;clear hdz;obtain ⟨hst,hz,hgv⟩:=zBg (k:=k) (ok:=true) hrw HLA.o HM7.o.rd HM7.o.kp HM7.o.rs rfl (fun _=>⟨q,HM7.o.uq,HM7.o.de,HE.o⟩) (fun h=>zy)
         have HX:=zq HM7.o.de.bx;have HSR:=zq hst;have HZ:=zq hz;have HGO:=zq hgv;clear hst hz hgv
         iterate 2 go_step
         refine eA _ _ zo q 0 zo (deC dz).toList _ (zBu HX.o) Tryz.underlying47 rfl zb ?_
         go_wp2_with (refine zAg rfl _ _ _ rfl ⟨w.heap.size,0,none⟩ (deV dz) rfl rfl HSR.o ?_)
         refine dD (v:=.tuple #[deV dz,.bool true]) (zAD rfl rfl HZ.o) rfl ?_
         exact HGO.o
        | true =>
         have HRR:=zq (rsPart_c (ofL s) v1 zr (HG0.o.kept HM1.o.kp hg hrw));obtain ⟨s1,hs1⟩:∃ x,x=ofL ((zDP s).getD ([],[])).1:=⟨_,rfl⟩;obtain ⟨s2,hs2⟩:∃ x,x=ofL ((zDP s).getD ([],[])).2:=⟨_,rfl⟩;obtain ⟨ok,hok⟩:∃ ok,ok=(zDP s).isSome:=⟨_,rfl⟩;have HRV:Hid (rpV (ofL s) = .tuple #[.agg #[.string s1,.string s2],.bool ok]):=by show _=_;unfold rpV;rw [zAj,hs1,hs2,hok]
         rw [HRV.o] at HRR
         have HNK:Hid (ok=false→ans=none):=fun h=>by
          rw [hok] at h;rw [HS2.o]
          cases hx:zDP s with
          | none=>rfl
          | some _=>rw [hx] at h;cases h
         have HYK:Hid (ok=true→ans=some ⟨ofL p,s1,s2⟩):=fun h=>by
          rw [hok] at h;rw [HS2.o]
          cases hx:zDP s with
          | none=>rw [hx] at h;cases h
          | some x=>rw [hs1,hs2,hx];rfl
         clear hs1 hs2 hok HRV HS2
         go_wp2_with fail
         with_reducible refine HRR.o.mono ?_
         rintro e v2 ⟨rfl,hb4⟩;have HX:Hid (Bx (v2.alloc (.cells #[.string s1,.string s2] 43)) v2.heap.size #[.string s1,.string s2] 43):=Bx.new _ _ _;have hba:Below v2.heap.size v2 (v2.alloc (.cells #[.string s1,.string s2] 43)):=(bS _ _).alloc (aB _) _;have hbt:=zAb hb4 hba;have HM2:=zq (HM1.o.below hrw hbt);have HO2:=zq (HO1.o.below hbt);have C1:=zq (zAh hbt c1');have HV2:Hid (wr.heap.size≤v2.heap.size):=cV HB3.o.size hb4.size;clear hba hbt hb4 HRR HM1 HO1 c1' c2' HR;go_upto_region 54 with fail
         obtain ⟨gx,hgx⟩:∃ gx,gx=v2.heap.size:=⟨_,rfl⟩;obtain ⟨v3,hv3⟩:∃ v3,v3=v2.alloc (.cells #[.string s1,.string s2] 43):=⟨_,rfl⟩;rw [←hgx] at HX HV2;rw [←hv3] at HX HM2 HO2 C1;rw [←hgx,←hv3];clear hgx hv3
         cases ok with
         | false =>
          have HF2:=zq (HFIN.o _ (HNK.o rfl) HM2.o);have HSo:=zq (HF2.o.2.ot0 qf HKA.o.2.2.2.1);have HE:Hid (zAG (L.drop k) = .ok (plD { da with shA:=A,sh:=all,shc:=cA },L.drop kk)):=(HSo.o.2 rfl).symm
          have HM7:=zq HF2.o.1;have y2:World.cell? _ ⟨q,2,none⟩=some (.int .i64 da.kd):=HM7.o.de.bx.c 2 rfl;rw [HKA.o.1] at y2;have ysx:=HM7.o.de.bx.lt;go_upto_region 61 with fail
          clear y2 ysx;obtain ⟨dz,hdz⟩:∃ dz:De,dz = { da with shA:=A,sh:=all,shc:=cA }:=⟨_,rfl⟩
          rw [←hdz] at HM7 HE;clear hdz;obtain ⟨hst,hz,hgv⟩:=zBg (k:=k) (ok:=true) hrw HLA.o HM7.o.rd HM7.o.kp HM7.o.rs rfl (fun _=>⟨q,HM7.o.uq,HM7.o.de,HE.o⟩) (fun h=>zy)
          have HX:=zq HM7.o.de.bx;have HSR:=zq hst;have HZ:=zq hz;have HGO:=zq hgv;clear hst hz hgv
          iterate 2 go_step
          refine eA _ _ zo q 0 zo (deC dz).toList _ (zBu HX.o) Tryz.underlying47 rfl zb ?_
          go_wp2_with (refine zAg rfl _ _ _ rfl ⟨w.heap.size,0,none⟩ (deV dz) rfl rfl HSR.o ?_)
          refine dD (v:=.tuple #[deV dz,.bool true]) (zAD rfl rfl HZ.o) rfl ?_
          exact HGO.o
         | true =>
          have HN:=zq (HYES.o _ (HYK.o rfl));clear HYES HYK HNK HFIN HNO;obtain ⟨wk,hwk⟩:∃ wk,wk=v3.drew:=⟨_,rfl⟩;have hbd:Below v3.heap.size v3 wk:=by rw [hwk];exact zAc (bS _ _) 1
          have HMk:=zq (HM2.o.below hrw hbd);have HOk:=zq (HO2.o.below hbd);have HXk:=zq (HX.o.below hbd);have HAd:Hid (wk.cell? ⟨q,14,none⟩=some (.slice A T.length cA)∧wk.cell? ⟨bw,ow,none⟩=some (.string (ofL p))∧wk.cell? ⟨gx,0,none⟩=some (.string s1)∧wk.cell? ⟨gx,1,none⟩=some (.string s2)):=⟨HMk.o.de.bx.c 14 rfl,zAh hbd C1.out,HXk.o.c 0 rfl,HXk.o.c 1 rfl⟩;have hba:Below wk.heap.size wk (wk.alloc (.cells #[.string (ofL p),.string s1,.string s2] 110)):=(bS _ _).alloc (aB _) _;have HAa:=zq (show (wk.alloc (.cells #[.string (ofL p),.string s1,.string s2] 110)).cell? ⟨q,14,none⟩=some (.slice A T.length cA)∧(wk.alloc (.cells #[.string (ofL p),.string s1,.string s2] 110)).cell? ⟨bw,ow,none⟩=some (.string (ofL p))∧(wk.alloc (.cells #[.string (ofL p),.string s1,.string s2] 110)).cell? ⟨gx,0,none⟩=some (.string s1)∧(wk.alloc (.cells #[.string (ofL p),.string s1,.string s2] 110)).cell? ⟨gx,1,none⟩=some (.string s2) from ⟨zAh hba HAd.o.1,zAh hba HAd.o.2.1,zAh hba HAd.o.2.2.1,zAh hba HAd.o.2.2.2⟩)
          have HMa:=zq (HMk.o.below hrw hba);have HOa:=zq (HOk.o.below hba);have t2:Hid ((wk.alloc (.cells #[.string (ofL p),.string s1,.string s2] 110)).heap[wk.heap.size]?=some (.cells #[.string (ofL p),.string s1,.string s2] 110 (0,0))):=cI wk _;have t4:Hid (q+1≤(wk.alloc (.cells #[.string (ofL p),.string s1,.string s2] 110)).heap.size):=HMa.o.de.bx.lt;clear hba hbd C1 HM2 HO2 HX;go_upto_region 55 with fail
          refine zCn (S:=SLq 10 (fun w'=>w'.cell? ⟨q,14,none⟩=some (.slice A T.length cA)∧w'.cell? ⟨bw,ow,none⟩=some (.string (ofL p))∧w'.cell? ⟨gx,0,none⟩=some (.string s1)∧w'.cell? ⟨gx,1,none⟩=some (.string s2))) zb (fun _=>xh) ?_
          intro hsh _;rw [←hwk];clear hwk;refine zAx (i:=0) (v:=?_) rfl zb zb zb (fun _ _ _ h=>h) (SLq.iff zc) hsh (Or.inl ⟨zb,?_⟩) (fun _=>HAd.o) ?_
          rotate_left 1
          ·(intro w9 _;go_simp;try with_reducible rfl)
          intro hsh _;simp only [eB,cN,Act.put,cF,dY,bV] at hsh ⊢;refine zAx (i:=1) (v:=?_) rfl zb zb zb (fun _ _ _ h=>h) (SLq.iff zc) hsh (Or.inl ⟨zb,?_⟩) (fun _=>HAd.o) ?_
          rotate_left 1
          ·(intro w9 hw9;have hA:=SLq.ahead (n:=10) zb hw9;obtain ⟨a1,a2,a3,a4⟩:=hA;go_simp;try with_reducible rfl)
          intro hsh _;simp only [Dw.lay,Act.put] at hsh ⊢;refine zAx (i:=2) (v:=?_) rfl zb zb zb (fun _ _ _ h=>h) (SLq.iff zc) hsh (Or.inl ⟨zb,?_⟩) (fun _=>HAd.o) ?_
          rotate_left 1
          ·(intro w9 _;go_simp;try with_reducible rfl)
          intro hsh _;simp only [Dw.lay,Act.put] at hsh ⊢;refine zAx (i:=3) (v:=?_) rfl zb zb zb (fun _ _ _ h=>h) (SLq.iff zc) hsh (Or.inl ⟨zb,?_⟩) (fun _=>HAd.o) ?_
          rotate_left 1
          ·(intro w9 _;go_simp;try with_reducible rfl)
          intro hsh _;simp only [Dw.lay,Act.put] at hsh ⊢;refine zAx (i:=4) (v:=?_) rfl zb zb zb (fun _ _ _ h=>h) (SLq.iff zc) hsh (Or.inl ⟨zb,?_⟩) (fun _=>HAd.o) ?_
          rotate_left 1
          ·(intro w9 hw9;have hA:=SLq.ahead (n:=10) zb hw9;obtain ⟨a1,a2,a3,a4⟩:=hA;go_simp;try with_reducible rfl)
          intro hsh _;simp only [Dw.lay,Act.put] at hsh ⊢;refine zAx (i:=5) (v:=?_) rfl zb zb zb (fun _ _ _ h=>h) (SLq.iff zc) hsh (Or.inl ⟨zb,?_⟩) (fun _=>HAd.o) ?_
          rotate_left 1
          ·(intro w9 hw9;have hA:=SLq.ahead (n:=10) zb hw9;obtain ⟨a1,a2,a3,a4⟩:=hA;go_simp;try with_reducible rfl)
          intro hsh _;simp only [Dw.lay,Act.put] at hsh ⊢;refine zAx (i:=6) (v:=?_) rfl zb zb zb (fun _ _ _ h=>h) (SLq.iff zc) hsh (Or.inl ⟨zb,?_⟩) (fun _=>HAd.o) ?_
          rotate_left 1
          ·(intro w9 _;go_simp;try with_reducible rfl)
          intro hsh _;simp only [Dw.lay,Act.put] at hsh ⊢;clear hsh;refine zAI (rs:=[7]) zb zd ?_
          refine zCX.cons rfl (fun K hK=>?_) zCX.nil
          go_simp
          refine hK.out _ _ (fun _=>HAa.o) (fun _=>?_)
          clear hK K
          try simp only [Dw.lay,Act.put]
          refine zAI (rs:=[8]) zb zd ?_
          refine zCX.cons rfl (fun K hK=>?_) zCX.nil
          refine zEa (k:=3) (enc:=eShr) zo _ _ _ zo elShr (q+1) (.slice A T.length cA) T zo HOa.o wk.heap.size 1 (⟨ofL p,s1,s2⟩:Sh) zo t2.out rfl rfl (oneShr _) zt za t4.out ?_
          intro g9 cap9 w9 ho9 hg9;obtain ⟨z0,zs,zf,hm9,ho10⟩:=HMa.o.pushS hrw HLA.o HOa.o ho9 hg9;have HM9:=zq hm9;have HO9:=zq ho10;have HA9:Hid (w9.cell? ⟨q,14,none⟩=some (.slice A T.length cA)∧w9.cell? ⟨bw,ow,none⟩=some (.string (ofL p))∧w9.cell? ⟨gx,0,none⟩=some (.string s1)∧w9.cell? ⟨gx,1,none⟩=some (.string s2)):=⟨z0,hg9.cell HAa.o.2.1 (fun e=>by have h2:bw<wr.heap.size:=HOV.o _ e.symm;omega),hg9.cell HAa.o.2.2.1 (fun e=>qn),hg9.cell HAa.o.2.2.2 (fun e=>qn)⟩
          have zf0:=zf 14;clear hm9 zf ho9 hg9 ho10;refine hK.out _ _ (fun _=>HA9.o) (fun _=>?_)
          clear hK K
          try simp only [Dw.lay,Act.put]
          refine zAI (rs:=[9]) zb zd ?_
          refine zCX.cons rfl (fun K hK=>?_) zCX.nil
          go_simp
          refine hK.out _ _ (fun _=>HA9.o) (fun _=>?_)
          clear hK K
          try simp only [Dw.lay,Act.put]
          refine zAI (rs:=[10]) zb zd ?_
          refine zCX.cons rfl (fun K hK=>?_) zCX.nil
          go_simp
          refine hK.out _ _ (fun h=>absurd h zc) (fun _=>?_)
          clear hK K
          try simp only [Dw.lay,Act.put]
          refine anyL_done zb ?_ _
          obtain ⟨w10,hw10⟩:∃ w10,w10=w9.setCell ⟨q,14,none⟩ (.slice (some ⟨g9,0,none⟩) (T.length+1) cap9):=⟨_,rfl⟩;rw [←hw10] at HM9 HO9 ⊢;clear hw10 t2 t4 HAd HAa HMa HMk HA9 z0 zs zf0 HOa HOk HXk;have y1:w10.cell? ⟨r,1,none⟩=some (.int .i64 (kk:Int)):=HM9.o.rd.bx.c 1 rfl;have ys:=HM9.o.rd.bx.lt;have yf:=HM9.o.rd.bx.frozen;have hkm:=HM9.o.rd.many;have HM10:=zq (HM9.o.next hrw (HM9.o.rd.setk (k':=kk+1) hkl2) (zAn _ _ _));have HO10:Hid (zAF eShr 3 (w10.setCell ⟨r,1,none⟩ (.int .i64 ((kk+1:Nat):Int))) (q+1) 110 (.slice (some ⟨g9,0,none⟩) (T.length+1) cap9) (T++[⟨ofL p,s1,s2⟩])):=HO9.o.grown (zAn _ _ _) (zAR HO9.o (show r<q+1 by have:=HM9.o.uq;omega))
          clear HM9 HO9
          go_wp2_with fail
          have ek:((kk:Int)+1)=((kk+1:Nat):Int):=za;rw [ek]
          go_roundg (gk - 1)
          case measure=>have:=HMS.o;have:=HKK.o;omega
          case rel=>exact ⟨T++[⟨ofL p,s1,s2⟩],some ⟨g9,0,none⟩,cap9,jn,by rw [cY];exact HO10.o,j3,yu⟩
end Go.Proofs.YtoaelidmmcbkfaaGreatDoor
