/- The reference's reader of a deed: an assignment, a licence. -/
import Derived.Test.YtoaelidmmcbkfaaGreatDoorSr24
set_option maxRecDepth 100000
set_option maxHeartbeats 8000000
namespace Go.Proofs.YtoaelidmmcbkfaaGreatDoor
open Go.RowKit Dw
theorem deedJ_23 (r:Nat) (LA:Option Addr) (c:Nat) (L:List Ln) (k:Nat) (w:World) (h:RdJ w r LA c L k) (hG:GOK w) (hg:gkB<r) (i dy kw:Ln) (n:Nat) (hn:nxF zCC 3 (L.drop k)=some [i,dy,kw]) (hi:rowL i=true) (hd:zDv dy=some n) (hk:kdX kw=2∨kdX kw=3) :
  Calls Tryz.prog 17 #[.pointer (some ⟨r,0,none⟩)] w (zDF r LA c L k w):=by
 have hrw:=h.bx.lt;have hmany:=h.many;have HLA:=zq h.la;have HG0:=zq hG;obtain ⟨kd,hkd⟩:∃ kd,kd=kdX kw:=⟨_,rfl⟩;rw [←hkd] at hk;have hkl:k<L.length:=zBi (zDY j6);have hil:=zAU (n:=i) h.drops hn zd;have hdl:=zAU (n:=dy) h.drops hn zd;have hwl:=zAU (n:=kw) h.drops hn zd;have hk0:1≤kd∧kd≤5:=za
 have HP0:Hid (zAG (L.drop k)=bodyX (ofL i) n kd (L.drop (k+1))):=by
  show _=_
  rw [deedX_nx,hn];simp only [hd];rw [aE ⟨hi,za⟩,zAX,hkd]
 have HX:Hid (Bx (w.alloc (.cells (deC zBV) 47)) w.heap.size (deC zBV) 47):=Bx.new _ _ _;have HB:Hid (Below w.heap.size w (w.alloc (.cells (deC zBV) 47))):=(bS _ _).alloc (aB _) _;obtain ⟨W,hW⟩:∃ W,W=w.alloc (.cells (deC zBV) 47):=⟨_,rfl⟩;rw [←hW] at HX HB;have HI:=zq (h.below HB.o)
 have HW:Hid (Calls Tryz.prog 14 #[.pointer (some ⟨r,0,none⟩),.string ⟨#[100,101,101,100]⟩,.int .i64 3] W (zBN (some [i,dy,kw]) W)):=by
  rw [←hn];exact zCD r LA c L k ⟨#[100,101,101,100]⟩ 3 W HI.o (hG.below HB.o) zc
 have HR:=zq (fun u=>zCg (ofL i) u zr)
 have HN:=zq (fun u=>rsNum_c (ofL dy) u zr)
 simp only [zAj,hi] at HR;simp only [zAj,hd] at HN;have HKD:=zq hkd;have HKG:=zq hk;clear h hG hn hi hd hkd hk;have hW2:W=w.alloc (.cells #[.string ⟨#[]⟩,.int .i64 0,.int .i64 0,.string ⟨#[]⟩,.string ⟨#[]⟩,.string ⟨#[]⟩,.string ⟨#[]⟩,.string ⟨#[]⟩,.bool false,.bool false,.slice none 0 0,.slice none 0 0,.int .i64 0,.int .i64 0,.slice none 0 0,.string ⟨#[]⟩] 47):=hW;clear hW
 go_enter Tryz.func17,Tryz.ntmps17
 go_upto_region 1 with fail
 rw [←hW2];clear hW2
 go_wp2_with fail
 with_reducible refine HW.o.mono ?_
 rintro e w1 ⟨A,n1,c1,rfl,hst,hb1⟩;obtain ⟨rfl,hlo,hst⟩:=hst _ rfl;obtain ⟨bw,ow,hA2,hc2⟩:=hst zd;subst hA2
 have hbw:w.heap.size+1≤bw:=by
  have h1:=hlo bw ow rfl;have h2:=HX.o.lt;omega
 have c0:w1.cell? ⟨bw,ow,none⟩=some (.string (ofL i)):=hc2 0 zd;have c1':w1.cell? ⟨bw,ow+1,none⟩=some (.string (ofL dy)):=hc2 1 zd;have c2':w1.cell? ⟨bw,ow+2,none⟩=some (.string (ofL kw)):=hc2 2 zd;have HI1:=zq (HI.o.below hb1);have HX1:=zq (HX.o.below hb1);have HB1:=zq (zAb HB.o hb1);clear hlo hst hc2 hb1 HW HI HX HB
 go_wp2_with fail
 with_reducible refine (HR.o _).mono ?_
 rintro e w2 ⟨rfl,rfl⟩
 go_wp2_with fail
 with_reducible refine (HN.o _).mono ?_
 rintro e w3 ⟨rfl,hb3⟩;have HI3:=zq (HI1.o.below hb3);have HX3:=zq (HX1.o.below hb3);have HB3:=zq (zAb HB1.o hb3);have C0:=zq (zAh hb3 c0);have c2:=zAh hb3 c2';clear hb3 HI1 HX1 HB1 c0 c1' c2' HR HN;have KA:Hid (w3.drew.cell? ⟨bw,ow+2,none⟩=some (.string (ofL kw))):=zAh (zAc (bS _ _) 1) c2;have HWD:=zq (wordsR_c w3.drew);go_upto_region 5 with fail
 refine dW (S:=(fun w'=>w'.cell? ⟨bw,ow+2,none⟩=some (.string (ofL kw)))) zb ?_ (fun hHeld=>?_)
 ·first | exact KA.out | exact KB.out
 refine Dw.tk 1 ?_ rfl ?_ zh ?_
 rotate_left 1
 ·(intro w _;go_simp;try with_reducible rfl)
 simp only [Dw.lay,Act.put];refine Dw.tk 2 ?_ rfl ?_ zh ?_
 rotate_left 1
 ·(intro w _;go_simp;try with_reducible rfl)
 simp only [Dw.lay,Act.put];refine Dw.tk 3 ?_ rfl ?_ zh ?_
 rotate_left 1
 ·(intro w hSw;(try dsimp only at hSw);go_simp;try with_reducible rfl)
 simp only [Dw.lay,Act.put];refine Dw.rd1 0 rfl (fun K hK=>?_)
 clear hHeld
 go_simp
 go_at_call 48
 with_reducible refine HWD.o.mono ?_
 rintro e w4 ⟨g,rfl,hb4,hx4⟩;have hbt:=zAb (zAc (bS w3.heap.size w3) 1) hb4;have KB:=zq (zAh hb4 KA.out);have HPO:Hid (Calls Tryz.prog 47 #[.slice (some ⟨g,0,none⟩) 5 5,.string (ofL kw)] w4 (zEe kdWs (ofL kw) w4)):=zCO (some ⟨g,0,none⟩) 5 kdWs (ofL kw) w4 zc (kd_cells hx4);have HI4:=zq (HI3.o.below hbt);have HX4:=zq (HX3.o.below hbt);have HB4:=zq (zAb HB3.o hbt);have C04:=zq (zAh hbt C0.out);clear hbt hb4 hx4 HWD HI3 HX3 HB3 C0;refine hK.out _ _ ?_ (fun hHeld=>?_)
 ·first | exact KA.out | exact KB.out
 clear hK K
 try simp only [Dw.lay,Act.put]
 refine Dw.rd1 4 rfl (fun K hK=>?_)
 clear hHeld
 go_simp
 go_at_call 47
 with_reducible refine HPO.o.mono ?_
 rintro e w5 ⟨z,rfl,hz,rfl⟩;obtain ⟨z1,z2,z3⟩:=zDV hz;clear hz HPO;refine hK.out _ _ ?_ (fun hHeld=>?_)
 ·first | exact KA.out | exact KB.out
 clear hK K
 try simp only [Dw.lay,Act.put]
 refine Dw.rd1 5 rfl (fun K hK=>?_)
 clear hHeld
 go_simp
 refine hK.out _ _ ?_ (fun hHeld=>?_)
 ·first | exact KA.out | exact KB.out
 clear hK K
 try simp only [Dw.lay,Act.put]
 refine dZ zb ?_ _
 clear hHeld;have hzk:z=kd - 1:=by have:=HKD.o;omega
 subst hzk;clear z1;have x1:=HI4.o.bx.c 1 rfl;have xs:=HI4.o.bx.lt;have xf:=HI4.o.bx.frozen;have c0:=C04.out;have HK1:=zq (HI4.o.setk (k':=k+1) hkl);have hkw:IntKind.i64.wrap (kd - 1+1)=kd:=qh;have hz0:0≤kd - 1:=za;go_upto_region 9 with fail
 have ek:((k:Int)+1)=((k+1:Nat):Int):=za;rw [ek];clear ek x1 xs xf c0;obtain ⟨w6,hw6⟩:∃ w6,w6=w5.setCell ⟨r,1,none⟩ (.int .i64 ((k+1:Nat):Int)):=⟨_,rfl⟩;have HI6:Hid (RdJ w6 r LA c L (k+1)):=jb;have g6:w5.grownBy w6 (some r):=vk;have c0:w6.cell? ⟨bw,ow,none⟩=some (.string (ofL i)):=g6.cell C04.out (fun e=>by have:bw=r:=jp;omega)
 have HX6:Hid (Bx w6 w.heap.size (deC zBV) 47):=(g6.block _ HX4.o.lt fun e=>yk).trans HX4.o
 have HK6:Hid (KeptB w.heap.size r w w6):=(KeptB.below HB4.o).trans (KeptB.grown g6 HB4.o.size);rw [←hw6];clear hw6 g6 HK1 HI4 HX4 HB4 C04;obtain ⟨q,hq⟩:∃ q,q=w6.heap.size:=⟨_,rfl⟩;obtain ⟨d,hd⟩:∃ d:De,d = { zBV with id:=ofL i,day:=(n:Int),kd:=kd }:=⟨_,rfl⟩
 have hba:Below w6.heap.size w6 (w6.alloc (.cells (deC d) 47)):=(bS _ _).alloc (aB _) _;obtain ⟨w7,hw7⟩:∃ w7,w7=w6.alloc (.cells (deC d) 47):=⟨_,rfl⟩
 have HMa:Hid (DjM w r LA c L q w7 d (k+1)):=by
  have hu:w.heap.size<w6.heap.size:=HX6.o.lt
  show DjM _ _ _ _ _ _ _ _ _
  rw [hq,hw7];refine ⟨?_,HI6.o.below hba,HK6.o.trans (KeptB.below (hba.mono HK6.o.size)),HX6.o.below hba,hu⟩
  rw [hd];exact ⟨Bx.new _ _ _,zAF.nil _ _ _ _ _,zAF.nil _ _ _ _ _,.inl rfl,(fun h=>absurd h zd),fun _ _ e=>vz⟩
 have HDZ:Hid (d = { zBV with id:=d.id,day:=d.day,kd:=d.kd }):=by show _=_;rw [hd]
 have hdk:d.kd=kd:=by rw [hd]
 have HSa:Hid (Stp st1 (zAG (L.drop k)) L d (k+1) false):=⟨(fun h=>zy),fun _=>by
  rw [HP0.o,bodyX_st,hd]
  rfl⟩
 have hw7x:w7=w6.alloc (.cells #[.string (ofL i),.int .i64 (n:Int),.int .i64 kd,.string ⟨#[]⟩,.string ⟨#[]⟩,.string ⟨#[]⟩,.string ⟨#[]⟩,.string ⟨#[]⟩,.bool false,.bool false,.slice none 0 0,.slice none 0 0,.int .i64 0,.int .i64 0,.slice none 0 0,.string ⟨#[]⟩] 47):=by rw [hw7,hd];rfl
 clear hba HI6 HX6 HK6 hw7 hd;go_upto_region 10 with fail
 rw [←hq,←hw7x];clear hq hw7x c0 hkw hz0;have hk:=HKG.o;rw [←hdk] at hk hk0;clear hdk HKD HP0 HKG
 rcases hk with hk | hk
 ·have Cgv:Hid (zAf d.kd=true):=by show _=_;rw [hk];rfl
  have Cdv:Hid (divB d.kd=false):=zv;have Cpt:Hid (decide (d.kd=2)=true):=zv;have Cex:Hid (decide (d.kd=3)=false):=zv;have Cot:Hid (decide (d.kd=4)=false):=zv;have Cth:Hid ((zAf d.kd || decide (d.kd=1))=true):=zv
  have Cfr:Hid ((zAf d.kd || decide (d.kd=5))=true):=zv
  have e1:(d.kd == 1)=false:=yw;have e2:(d.kd == 2)=true:=yw;have e3:(d.kd == 3)=false:=yw;have e4:(d.kd == 4)=false:=yw;have e5:(d.kd == 5)=false:=yw;have HGV:Hid (∀ u,Calls Tryz.prog 49 #[.int .i64 d.kd] u (zAr (.bool true) u)):=fun u=>by have h:=zEl d.kd u;rwa [show zAf d.kd=true from Cgv.out] at h
  have HDV:Hid (∀ u,Calls Tryz.prog 53 #[.int .i64 d.kd] u (zAr (.bool false) u)):=fun u=>by have h:=zDl d.kd u;rwa [show divB d.kd=false from Cdv.out] at h
  clear hk hk0;have y2:World.cell? _ ⟨q,2,none⟩=some (.int .i64 d.kd):=HMa.o.de.bx.c 2 rfl;have ysx:=HMa.o.de.bx.lt
  go_wp2_with fail
  with_reducible refine (HGV.o _).mono ?_
  rintro e vv ⟨rfl,rfl⟩;have HN:=zq (zCs r LA c L (k+1) ⟨#[32,32,116,104,105,110,103]⟩ zBq rfl zc _ HMa.o.rd (HG0.o.kept HMa.o.kp hg hrw));have HQ8:=zq (HSa.o.th Cth.out);generalize nmO false zBq (L.drop (k+1))=an8 at HN HQ8;generalize ofL (an8.getD [])=x8 at HN HQ8;generalize an8.isSome=ok8 at HN HQ8;generalize nxk (k+1) ok8=k8 at HN HQ8
  go_wp2_with fail
  with_reducible refine HN.o.mono ?_
  rintro e v8 ⟨rfl,hi,hgr⟩;clear y2 ysx;have HP8:=zq (HMa.o.next hrw hi hgr);have y:=HP8.o.de.bx.c 3 rfl;have hsx:=HP8.o.de.bx.lt;have hfx:=HP8.o.de.bx.frozen;have HM8:=zq (HP8.o.put (d':={ d with th:=x8 }) hrw HLA.o 3 (.string x8) rfl ⟨rfl,rfl⟩ ⟨rfl,rfl⟩ HP8.o.de.shs HP8.o.de.shq)
  clear hi hgr HN HMa HSa;go_upto_region 12 with fail
  generalize v8.setCell ⟨q,3,none⟩ (.string x8)=w8 at *;clear y hsx hfx HP8
  cases ok8 with
  | false =>
   have HF:Hid (zAG (L.drop k) = .error (L.drop k8)):=HQ8.o.1 rfl;obtain ⟨dz,hdz⟩:∃ dz:De,dz = { d with th:=x8 }:=⟨_,rfl⟩
   rw [←hdz] at HM8;clear hdz;obtain ⟨hst,hz,hgv⟩:=zBg (k:=k) (ok:=false) hrw HLA.o HM8.o.rd HM8.o.kp HM8.o.rs rfl (fun h=>zy) (fun _=>HF.o)
   have HX:=zq HM8.o.de.bx;have HSR:=zq hst;have HZ:=zq hz;have HGO:=zq hgv;clear hst hz hgv;go_upto_region 13 with fail
   iterate 2 go_step
   refine eA _ _ zo q 0 zo (deC dz).toList _ (zBu HX.o) Tryz.underlying47 rfl zb ?_
   go_wp2_with (refine zAg rfl _ _ _ rfl ⟨w.heap.size,0,none⟩ (deV dz) rfl rfl HSR.o ?_)
   refine dD (v:=.tuple #[deV dz,.bool false]) (zAD rfl rfl HZ.o) rfl ?_
   exact HGO.o
  | true =>
   have HS8:Hid (Stp st2 (zAG (L.drop k)) L { d with th:=x8 } k8 false):=HQ8.o
   clear HQ8;have y2:World.cell? _ ⟨q,2,none⟩=some (.int .i64 d.kd):=HM8.o.de.bx.c 2 rfl;have ysx:=HM8.o.de.bx.lt
   go_wp2_with fail
   with_reducible refine (HGV.o _).mono ?_
   rintro e vv ⟨rfl,rfl⟩;have HN:=zq (zCs r LA c L k8 ⟨#[32,32,102,114,111,109]⟩ zCa rfl zc _ HM8.o.rd (HG0.o.kept HM8.o.kp hg hrw));have HQ9:=zq (HS8.o.fr Cfr.out);generalize nmO false zCa (L.drop k8)=an9 at HN HQ9;generalize ofL (an9.getD [])=x9 at HN HQ9;generalize an9.isSome=ok9 at HN HQ9;generalize nxk k8 ok9=k9 at HN HQ9
   go_wp2_with fail
   with_reducible refine HN.o.mono ?_
   rintro e v9 ⟨rfl,hi,hgr⟩;clear y2 ysx;have HP9:=zq (HM8.o.next hrw hi hgr);have y:=HP9.o.de.bx.c 4 rfl;have hsx:=HP9.o.de.bx.lt;have hfx:=HP9.o.de.bx.frozen;have HM9:=zq (HP9.o.put (d':={ d with th:=x8,fr:=x9 }) hrw HLA.o 4 (.string x9) rfl ⟨rfl,rfl⟩ ⟨rfl,rfl⟩ HP9.o.de.shs HP9.o.de.shq)
   clear hi hgr HN HM8 HS8;go_upto_region 16 with fail
   generalize v9.setCell ⟨q,4,none⟩ (.string x9)=w9 at *;clear y hsx hfx HP9
   cases ok9 with
   | false =>
    have HF:Hid (zAG (L.drop k) = .error (L.drop k9)):=HQ9.o.1 rfl;obtain ⟨dz,hdz⟩:∃ dz:De,dz = { d with th:=x8,fr:=x9 }:=⟨_,rfl⟩
    rw [←hdz] at HM9;clear hdz;obtain ⟨hst,hz,hgv⟩:=zBg (k:=k) (ok:=false) hrw HLA.o HM9.o.rd HM9.o.kp HM9.o.rs rfl (fun h=>zy) (fun _=>HF.o)
    have HX:=zq HM9.o.de.bx;have HSR:=zq hst;have HZ:=zq hz;have HGO:=zq hgv;clear hst hz hgv;go_upto_region 17 with fail
    iterate 2 go_step
    refine eA _ _ zo q 0 zo (deC dz).toList _ (zBu HX.o) Tryz.underlying47 rfl zb ?_
    go_wp2_with (refine zAg rfl _ _ _ rfl ⟨w.heap.size,0,none⟩ (deV dz) rfl rfl HSR.o ?_)
    refine dD (v:=.tuple #[deV dz,.bool false]) (zAD rfl rfl HZ.o) rfl ?_
    exact HGO.o
   | true =>
    have HS9:Hid (Stp st3 (zAG (L.drop k)) L { d with th:=x8,fr:=x9 } k9 false):=HQ9.o
    clear HQ9;have y2:World.cell? _ ⟨q,2,none⟩=some (.int .i64 d.kd):=HM9.o.de.bx.c 2 rfl;have ysx:=HM9.o.de.bx.lt
    go_wp2_with fail
    with_reducible refine (HGV.o _).mono ?_
    rintro e vv ⟨rfl,rfl⟩;have HN:=zq (zCs r LA c L k9 ⟨#[32,32,116,111]⟩ kTo rfl zc _ HM9.o.rd (HG0.o.kept HM9.o.kp hg hrw));have HQ10:=zq (HS9.o.to_ Cgv.out);generalize nmO false kTo (L.drop k9)=an10 at HN HQ10;generalize ofL (an10.getD [])=x10 at HN HQ10;generalize an10.isSome=ok10 at HN HQ10;generalize nxk k9 ok10=k10 at HN HQ10
    go_wp2_with fail
    with_reducible refine HN.o.mono ?_
    rintro e v10 ⟨rfl,hi,hgr⟩;clear y2 ysx;have HP10:=zq (HM9.o.next hrw hi hgr);have y:=HP10.o.de.bx.c 5 rfl;have hsx:=HP10.o.de.bx.lt;have hfx:=HP10.o.de.bx.frozen;have HM10:=zq (HP10.o.put (d':={ d with th:=x8,fr:=x9,to_:=x10 }) hrw HLA.o 5 (.string x10) rfl ⟨rfl,rfl⟩ ⟨rfl,rfl⟩ HP10.o.de.shs HP10.o.de.shq)
    clear hi hgr HN HM9 HS9;go_upto_region 20 with fail
    generalize v10.setCell ⟨q,5,none⟩ (.string x10)=w10 at *;clear y hsx hfx HP10
    cases ok10 with
    | false =>
     have HF:Hid (zAG (L.drop k) = .error (L.drop k10)):=HQ10.o.1 rfl;obtain ⟨dz,hdz⟩:∃ dz:De,dz = { d with th:=x8,fr:=x9,to_:=x10 }:=⟨_,rfl⟩
     rw [←hdz] at HM10;clear hdz;obtain ⟨hst,hz,hgv⟩:=zBg (k:=k) (ok:=false) hrw HLA.o HM10.o.rd HM10.o.kp HM10.o.rs rfl (fun h=>zy) (fun _=>HF.o)
     have HX:=zq HM10.o.de.bx;have HSR:=zq hst;have HZ:=zq hz;have HGO:=zq hgv;clear hst hz hgv;go_upto_region 21 with fail
     iterate 2 go_step
     refine eA _ _ zo q 0 zo (deC dz).toList _ (zBu HX.o) Tryz.underlying47 rfl zb ?_
     go_wp2_with (refine zAg rfl _ _ _ rfl ⟨w.heap.size,0,none⟩ (deV dz) rfl rfl HSR.o ?_)
     refine dD (v:=.tuple #[deV dz,.bool false]) (zAD rfl rfl HZ.o) rfl ?_
     exact HGO.o
    | true =>
     have HS10:Hid (Stp st4 (zAG (L.drop k)) L { d with th:=x8,fr:=x9,to_:=x10 } k10 false):=HQ10.o
     clear HQ10;have HW:=zq (show Calls Tryz.prog 14 #[.pointer (some ⟨r,0,none⟩),.string ⟨#[32,32,112,97,114,116]⟩,.int .i64 1] _ (zBN (nxF (sp2++zDU) 1 (L.drop k10)) _) from zCD r LA c L k10 ⟨#[32,32,112,97,114,116]⟩ 1 _ HM10.o.rd (HG0.o.kept HM10.o.kp hg hrw) zc)
     have HPA:=zq (paO_nx (L.drop k10));have HQP:=zq (fun s1 s2 hs=>HS10.o.pt Cpt.out (s1:=s1) (s2:=s2) hs)
     have HPT:Hid (∀ W,nxF (sp2++zDU) 1 (L.drop k10)=some W→k10<L.length∧∃ s,W=[s]∧s.length≤600000):=fun W hW=>by
      refine ⟨zBi (zDY vo),?_⟩
      have hl:=zDw hW
      match W,hl with
      | [s],_=>exact ⟨s,rfl,zAU HM10.o.rd.drops hW zd⟩
     generalize nxF (sp2++zDU) 1 (L.drop k10)=res at *;generalize paO false (L.drop k10)=pa at *;have y2:World.cell? _ ⟨q,2,none⟩=some (.int .i64 d.kd):=HM10.o.de.bx.c 2 rfl;have ysx:=HM10.o.de.bx.lt
     go_wp2_with fail
     with_reducible refine HW.o.mono ?_
     rintro e v20 ⟨A3,n3,c3,rfl,hst3,hb3⟩;clear y2 ysx;have HMp:=zq (HM10.o.below hrw hb3);have HST:=zq hst3;clear hst3 hb3 HW HM10 HS10
     cases res with
     | none =>
      have hpa:pa=none:=HPA.o;subst hpa;have HF:Hid (zAG (L.drop k) = .error (L.drop k10)):=(HQP.o ⟨#[]⟩ ⟨#[]⟩ (fun p h=>zy)).1 rfl
      clear HQP HPA HPT HST;obtain ⟨dz,hdz⟩:∃ dz:De,dz = { d with th:=x8,fr:=x9,to_:=x10 }:=⟨_,rfl⟩
      rw [←hdz] at HMp;clear hdz;obtain ⟨hst,hz,hgv⟩:=zBg (k:=k) (ok:=false) hrw HLA.o HMp.o.rd HMp.o.kp HMp.o.rs rfl (fun h=>zy) (fun _=>HF.o)
      have HX:=zq HMp.o.de.bx;have HSR:=zq hst;have HZ:=zq hz;have HGO:=zq hgv;clear hst hz hgv;go_upto_region 27 with fail
      iterate 2 go_step
      refine eA _ _ zo q 0 zo (deC dz).toList _ (zBu HX.o) Tryz.underlying47 rfl zb ?_
      go_wp2_with (refine zAg rfl _ _ _ rfl ⟨w.heap.size,0,none⟩ (deV dz) rfl rfl HSR.o ?_)
      refine dD (v:=.tuple #[deV dz,.bool false]) (zAD rfl rfl HZ.o) rfl ?_
      exact HGO.o
     | some W =>
      obtain ⟨hkl2,s,rfl,hsl⟩:=HPT.o W rfl;obtain ⟨rfl,hlo,hst⟩:=HST.o _ rfl;obtain ⟨b3,o3,hA2,hc2⟩:=hst zd;subst hA2;have c3':v20.cell? ⟨b3,o3,none⟩=some (.string (ofL s)):=hc2 0 zd;have hpa:pa=zDP s:=HPA.o;have HRR:=zq (rsPart_c (ofL s) v20 zr (HG0.o.kept HMp.o.kp hg hrw));obtain ⟨s1,hs1⟩:∃ x,x=ofL ((zDP s).getD ([],[])).1:=⟨_,rfl⟩;obtain ⟨s2,hs2⟩:∃ x,x=ofL ((zDP s).getD ([],[])).2:=⟨_,rfl⟩;obtain ⟨ok,hok⟩:∃ ok,ok=pa.isSome:=⟨_,rfl⟩;have HRV:Hid (rpV (ofL s) = .tuple #[.agg #[.string s1,.string s2],.bool ok]):=by show _=_;unfold rpV;rw [zAj,hs1,hs2,hok,hpa]
      rw [HRV.o] at HRR;have HQ2:=zq (HQP.o s1 s2 (fun p h=>by rw [hpa] at h;rw [hs1,hs2,h];exact ⟨rfl,rfl⟩))
      rw [←hok] at HQ2;clear hc2 hst hlo HST HPT HPA HQP hpa hs1 hs2 hok HRV
      go_wp2_with fail
      with_reducible refine HRR.o.mono ?_
      rintro e v21 ⟨rfl,hb4⟩;have HMq:=zq (HMp.o.below hrw hb4);have y6:=HMq.o.de.bx.c 6 rfl;have y7:=HMq.o.de.bx.c 7 rfl;have hsx:=HMq.o.de.bx.lt;have hfx:=HMq.o.de.bx.frozen;have HMr:=zq (HMq.o.put (d':={ d with th:=x8,fr:=x9,to_:=x10,nu:=s1 }) hrw HLA.o 6 (.string s1) rfl ⟨rfl,rfl⟩ ⟨rfl,rfl⟩ HMq.o.de.shs HMq.o.de.shq)
      have HMs:=zq (HMr.o.put (d':={ d with th:=x8,fr:=x9,to_:=x10,nu:=s1,de:=s2 }) hrw HLA.o 7 (.string s2) rfl ⟨rfl,rfl⟩ ⟨rfl,rfl⟩ HMr.o.de.shs HMr.o.de.shq)
      clear hb4 HRR HMp c3' HMr;go_upto_region 26 with fail
      generalize (v21.setCell ⟨q,6,none⟩ (.string s1)).setCell ⟨q,7,none⟩ (.string s2)=w22 at *;clear y6 y7 hsx hfx HMq
      cases ok with
      | false =>
       have HF:Hid (zAG (L.drop k) = .error (L.drop k10)):=HQ2.o.1 rfl;clear HQ2;obtain ⟨dz,hdz⟩:∃ dz:De,dz = { d with th:=x8,fr:=x9,to_:=x10,nu:=s1,de:=s2 }:=⟨_,rfl⟩
       rw [←hdz] at HMs;clear hdz;obtain ⟨hst,hz,hgv⟩:=zBg (k:=k) (ok:=false) hrw HLA.o HMs.o.rd HMs.o.kp HMs.o.rs rfl (fun h=>zy) (fun _=>HF.o)
       have HX:=zq HMs.o.de.bx;have HSR:=zq hst;have HZ:=zq hz;have HGO:=zq hgv;clear hst hz hgv;go_upto_region 27 with fail
       iterate 2 go_step
       refine eA _ _ zo q 0 zo (deC dz).toList _ (zBu HX.o) Tryz.underlying47 rfl zb ?_
       go_wp2_with (refine zAg rfl _ _ _ rfl ⟨w.heap.size,0,none⟩ (deV dz) rfl rfl HSR.o ?_)
       refine dD (v:=.tuple #[deV dz,.bool false]) (zAD rfl rfl HZ.o) rfl ?_
       exact HGO.o
      | true =>
       have HSp:Hid (Stp st5 (zAG (L.drop k)) L { d with th:=x8,fr:=x9,to_:=x10,nu:=s1,de:=s2 } (k10+1) false):=HQ2.o
       clear HQ2;have z1:w22.cell? ⟨r,1,none⟩=some (.int .i64 (k10:Int)):=HMs.o.rd.bx.c 1 rfl;have zs:=HMs.o.rd.bx.lt;have zf:=HMs.o.rd.bx.frozen;have zm:=HMs.o.rd.many;have HMt:=zq (HMs.o.next hrw (HMs.o.rd.setk (k':=k10+1) hkl2) (zAn _ _ _));clear HMs;go_upto_region 29 with fail
       have ek:((k10:Int)+1)=((k10+1:Nat):Int):=za;rw [ek];clear ek z1 zs zf zm;generalize w22.setCell ⟨r,1,none⟩ (.int .i64 ((k10+1:Nat):Int))=w23 at *;generalize k10+1=k23 at *;have HSpex:=zq (HSp.o.ex0 Cex.out zj);have HSpexsb:=zq (HSpex.o.sb0 Cex.out zj);have y2:World.cell? _ ⟨q,2,none⟩=some (.int .i64 d.kd):=HMt.o.de.bx.c 2 rfl;have ysx:=HMt.o.de.bx.lt
       go_wp2_with fail
       clear y2 ysx;obtain ⟨da,hda⟩:∃ da:De,da = { d with th:=x8,fr:=x9,to_:=x10,nu:=s1,de:=s2 }:=⟨_,rfl⟩
       have HKA:Hid (da.kd=d.kd∧(da.arA=none∧da.ar=[]∧da.arc=0)∧(da.usA=none∧da.us=[]∧da.usc=0)∧(da.shA=none∧da.sh=[])∧da.ot=emp):=qb;rw [←hda] at HMt HSpexsb;clear hda HDZ;obtain ⟨all,hall⟩:∃ all,all=arsO false (L.drop k23):=⟨_,rfl⟩;have HSA:=zq (fun A c=>HSpexsb.o.ar (by rw [HKA.o.1];exact Cgv.out) A c)
       rw [←hall] at HSA;have HALL:Hid (all=(zBf (L.drop k23)).1):=hall;have HK0:=HMt.o.rd.le;have HM0:=zq (deA HMt.o HKA.o.2.1.1 HKA.o.2.1.2.1 HKA.o.2.1.2.2);clear hall HSpexsb
       go_loopg [] (L.length+1 - k23) (ArJ w r LA c L q da k23 all)
       case atStart=>exact ⟨[],none,0,HM0.o,HALL.o.symm,zg⟩
       case round =>
        obtain ⟨T,A,cA,hm,hal,hms⟩:=hrel;have HM:=zq hm;have HA1:=zq hal;have HMS:=zq hms;have hTl:T.length≤600000:=vn;obtain ⟨kk,hkk⟩:∃ kk,kk=k23+T.length:=⟨_,rfl⟩;have HKK:=zq hkk;rw [←hkk] at HM HA1;clear hm hal hms hkk HM0 HMt HALL;have HW1:=zq (fun u h1 h2=>zCs r LA c L kk ⟨#[32,32,105,110]⟩ kIn rfl zc u h1 h2)
        have HW2:=zq (fun u h1 h2=>zCs r LA c L kk ⟨#[32,32,111,117,116]⟩ zDE rfl zc u h1 h2)
        have HST:=zq (areasX_step (L.drop kk));have HP1:Hid (∀ n,nmO false kIn (L.drop kk)=some n→kk<L.length):=fun n h=>nmO_pos h
        have HP2:Hid (∀ n,nmO false zDE (L.drop kk)=some n→kk<L.length):=fun n h=>nmO_pos h
        rw [zAX] at HST;generalize nmO false kIn (L.drop kk)=a1 at *;generalize nmO false zDE (L.drop kk)=a2 at *;have y2:World.cell? _ ⟨q,2,none⟩=some (.int .i64 da.kd):=HM.o.de.bx.c 2 rfl;rw [HKA.o.1] at y2;have ysx:=HM.o.de.bx.lt
        go_wp2_with fail
        with_reducible refine (HGV.o _).mono ?_
        rintro e vv ⟨rfl,rfl⟩;clear y2 ysx;have HC1:=zq (HW1.o _ HM.o.rd (HG0.o.kept HM.o.kp hg hrw))
        go_wp2_with fail
        with_reducible refine HC1.o.mono ?_
        rintro e v1 ⟨rfl,hi1,hg1⟩;have HM1:=zq (HM.o.next hrw hi1 hg1);clear hi1 hg1 HM HC1 HW1
        cases a1 with
        | some n =>
         have hkl1:=HP1.o n rfl;clear HW2;have HTN:Hid ((T++[⟨ofL n,false⟩])++(zBf (L.drop (kk+1))).1=all):=yg;clear HA1 HST HP1 HP2 HSA;have HM2:Hid (DjM w r LA c L q v1 { da with arA:=A,ar:=T,arc:=cA } (kk+1)):=HM1.o
         clear HM1;have x10:v1.cell? ⟨q,10,none⟩=some (.slice A T.length cA):=HM2.o.de.bx.c 10 rfl;have HO:Hid (zAF eAr 2 v1 (q+1) 65 (.slice A T.length cA) T):=HM2.o.de.ars;have hqs:=HM2.o.de.bx.lt;have hfs:=HM2.o.de.bx.frozen;obtain ⟨sn,hsn⟩:∃ sn,sn=ofL n:=⟨_,rfl⟩;have HSN:=zq hsn;rw [show ((some n).getD []:Ln)=n from rfl,←hsn]
         clear hsn
         go_wp2_with (at_builtin;refine zAp _ _ _ elAr rfl rfl (q+1) (.slice A T.length cA) T rfl (HO.o.alloc _) v1.heap.size 1 (⟨sn,false⟩:Ar) rfl (cI _ _) rfl zu zt za zg ?_;intro A1 c1 w4 hown4 hg4 hb4 hor4;obtain ⟨k1,k3,k4,k5⟩:=HM2.o.pushAr hrw HLA.o HKA.o.2.2.2.1.1 HKA.o.2.2.2.1.2 hown4 hg4 hor4;have K1:=zq k1;clear hown4 hg4 hb4 hor4 k1)
         go_roundg (gk - 1)
         case measure=>have:=HMS.o;have:=HKK.o;omega
         case rel=>exact ⟨T++[⟨sn,false⟩],_,_,qc,yh,yu⟩
        | none =>
         have HC2:=zq (HW2.o _ HM1.o.rd (HG0.o.kept HM1.o.kp hg hrw))
         go_wp2_with fail
         with_reducible refine HC2.o.mono ?_
         rintro e v2 ⟨rfl,hi2,hg2⟩;have HM1b:=zq (HM1.o.next hrw hi2 hg2);clear hi2 hg2 HM1 HC2 HW2
         cases a2 with
         | some n =>
          have hkl1:=HP2.o n rfl;have HTN:Hid ((T++[⟨ofL n,true⟩])++(zBf (L.drop (kk+1))).1=all):=yg;clear HA1 HST HP1 HP2 HSA;have HM2:Hid (DjM w r LA c L q v2 { da with arA:=A,ar:=T,arc:=cA } (kk+1)):=HM1b.o
          clear HM1b;have x10:v2.cell? ⟨q,10,none⟩=some (.slice A T.length cA):=HM2.o.de.bx.c 10 rfl;have HO:Hid (zAF eAr 2 v2 (q+1) 65 (.slice A T.length cA) T):=HM2.o.de.ars;have hqs:=HM2.o.de.bx.lt;have hfs:=HM2.o.de.bx.frozen;obtain ⟨sn,hsn⟩:∃ sn,sn=ofL n:=⟨_,rfl⟩;have HSN:=zq hsn;rw [show ((some n).getD []:Ln)=n from rfl,←hsn]
          clear hsn
          go_wp2_with (at_builtin;refine zAp _ _ _ elAr rfl rfl (q+1) (.slice A T.length cA) T rfl (HO.o.alloc _) v2.heap.size 1 (⟨sn,true⟩:Ar) rfl (cI _ _) rfl zu zt za zg ?_;intro A1 c1 w4 hown4 hg4 hb4 hor4;obtain ⟨k1,k3,k4,k5⟩:=HM2.o.pushAr hrw HLA.o HKA.o.2.2.2.1.1 HKA.o.2.2.2.1.2 hown4 hg4 hor4;have K1:=zq k1;clear hown4 hg4 hb4 hor4 k1)
          go_roundg (gk - 1)
          case measure=>have:=HMS.o;have:=HKK.o;omega
          case rel=>exact ⟨T++[⟨sn,true⟩],_,_,qc,yh,yu⟩
         | none =>
          have hTa:T=all:=qw;have HS8:=zq (HSA.o A cA);subst hTa;rw [←HKK.o] at HS8;have HM8:Hid (DjM w r LA c L q v2 { da with arA:=A,ar:=T,arc:=cA } kk):=HM1b.o
          clear HSA HM1b HA1 HST HP1 HP2 HMS HKK hTl;obtain ⟨db,hdb⟩:∃ db:De,db = { da with arA:=A,ar:=T,arc:=cA }:=⟨_,rfl⟩
          have HKB:Hid (db.kd=d.kd∧(db.usA=none∧db.us=[]∧db.usc=0)∧(db.shA=none∧db.sh=[])∧db.ot=emp):=j9;rw [←hdb] at HM8 HS8;clear hdb HKA;obtain ⟨all2,hall⟩:∃ all,all=ussO false (L.drop kk):=⟨_,rfl⟩;have HSA:=zq (fun A c=>HS8.o.us (by rw [HKB.o.1];exact Cgv.out) A c)
          rw [←hall] at HSA;have HALL:Hid (all2=(zAQ sp2 zDn (L.drop kk)).1):=hall;have HK0:=HM8.o.rd.le;have HM0:=zq (deU HM8.o HKB.o.2.1.1 HKB.o.2.1.2.1 HKB.o.2.1.2.2);clear hall HS8
          go_wp2_with fail
          go_loopg [] (L.length+1 - kk) (UsJ w r LA c L q db kk all2)
          case atStart=>exact ⟨[],none,0,HM0.o,HALL.o.symm,zg⟩
          case round =>
           obtain ⟨U,B,cB,hm,hal,hms⟩:=hrel;have HM:=zq hm;have HA1:=zq hal;have HMS:=zq hms;have hTl:U.length≤600000:=vn;obtain ⟨ku,hku⟩:∃ ku,ku=kk+U.length:=⟨_,rfl⟩;have HKK:=zq hku;rw [←hku] at HM HA1;clear hm hal hms hku HM0 HM8 HALL;have HW1:=zq (fun u h1 h2=>zCs r LA c L ku ⟨#[32,32,102,111,114]⟩ zDn rfl zc u h1 h2)
           have HST:=zq (usesX_stepN (L.drop ku));have HP1:Hid (∀ n,nmO false zDn (L.drop ku)=some n→ku<L.length):=fun n h=>nmO_pos h
           rw [zAX] at HST;generalize nmO false zDn (L.drop ku)=a1 at *;have y2:World.cell? _ ⟨q,2,none⟩=some (.int .i64 db.kd):=HM.o.de.bx.c 2 rfl;rw [HKB.o.1] at y2;have ysx:=HM.o.de.bx.lt
           go_wp2_with fail
           with_reducible refine (HGV.o _).mono ?_
           rintro e vv ⟨rfl,rfl⟩;clear y2 ysx;have HC1:=zq (HW1.o _ HM.o.rd (HG0.o.kept HM.o.kp hg hrw))
           go_wp2_with fail
           with_reducible refine HC1.o.mono ?_
           rintro e v1 ⟨rfl,hi1,hg1⟩;have HM1:=zq (HM.o.next hrw hi1 hg1);clear hi1 hg1 HM HC1 HW1
           cases a1 with
           | some n =>
            have hkl1:=HP1.o n rfl;have HTN:Hid ((U++[ofL n])++(zAQ sp2 zDn (L.drop (ku+1))).1=all2):=yg;clear HA1 HST HP1 HSA;have HM2:Hid (DjM w r LA c L q v1 { db with usA:=B,us:=U,usc:=cB } (ku+1)):=HM1.o
            clear HM1;have x11:v1.cell? ⟨q,11,none⟩=some (.slice B U.length cB):=HM2.o.de.bx.c 11 rfl;have HO:Hid (zAF eSt 1 v1 (q+1) 9 (.slice B U.length cB) U):=HM2.o.de.uss;have hqs:=HM2.o.de.bx.lt;have hfs:=HM2.o.de.bx.frozen;obtain ⟨sn,hsn⟩:∃ sn,sn=ofL n:=⟨_,rfl⟩;have HSN:=zq hsn;rw [show ((some n).getD []:Ln)=n from rfl,←hsn]
            clear hsn
            go_wp2_with (at_builtin;refine zAp _ _ _ elStr rfl rfl (q+1) (.slice B U.length cB) U rfl (HO.o.alloc _) v1.heap.size 1 (sn:BA) rfl (cI _ _) rfl zu zt za zg ?_;intro A1 c1 w4 hown4 hg4 hb4 hor4;obtain ⟨k1,k3,k4,k5⟩:=HM2.o.pushUs hrw HLA.o HKB.o.2.2.1.1 HKB.o.2.2.1.2 hown4 hg4 hor4;have K1:=zq k1;clear hown4 hg4 hb4 hor4 k1)
            go_roundg (gk - 1)
            case measure=>have:=HMS.o;have:=HKK.o;omega
            case rel=>exact ⟨U++[sn],_,_,qc,yh,yu⟩
           | none =>
            have hTa:U=all2:=qw;have HSv:=zq (HSA.o B cB);subst hTa;rw [←HKK.o] at HSv;have HMv0:Hid (DjM w r LA c L q v1 { db with usA:=B,us:=U,usc:=cB } ku):=HM1.o
            obtain ⟨dd,hdd⟩:∃ dd:De,dd = { db with usA:=B,us:=U,usc:=cB }:=⟨_,rfl⟩
            have HDK:Hid (dd.kd=d.kd∧(dd.shA=none∧dd.sh=[])∧dd.ot=emp):=by show _∧_∧_;rw [hdd];exact ⟨HKB.o.1,HKB.o.2.2.1,HKB.o.2.2.2⟩
            rw [←hdd] at HMv0 HSv;clear HSA HM1 HA1 HST HP1 HMS HKK hTl hdd HKB;have Cgv2:Hid (zAf dd.kd=true):=by show _=_;rw [HDK.o.1];exact Cgv.out
            have Cdv2:Hid (divB dd.kd=false):=by show _=_;rw [HDK.o.1];exact Cdv.out
            have Cot2:Hid (decide (dd.kd=4)=false):=by show _=_;rw [HDK.o.1];exact Cot.out
            have HN:=zq (zEh r LA c L ku ⟨#[32,32,98,101,103,105,110]⟩ zAM rfl zc _ HMv0.o.rd (HG0.o.kept HMv0.o.kp hg hrw));have HQ11:=zq (HSv.o.bg);generalize nuO false zAM (L.drop ku)=an11 at HN HQ11;generalize an11.getD 0=x11 at HN HQ11;generalize an11.isSome=ok11 at HN HQ11;generalize nxk ku ok11=k11 at HN HQ11
            go_wp2_with fail
            with_reducible refine HN.o.mono ?_
            rintro e v11 ⟨rfl,hi,hgr⟩;have HP11:=zq (HMv0.o.next hrw hi hgr);have y:=HP11.o.de.bx.c 12 rfl;have hsx:=HP11.o.de.bx.lt;have hfx:=HP11.o.de.bx.frozen;have HM11:=zq (HP11.o.put (d':={ dd with bg:=(x11:Int) }) hrw HLA.o 12 (.int .i64 (x11:Int)) rfl ⟨rfl,rfl⟩ ⟨rfl,rfl⟩ HP11.o.de.shs HP11.o.de.shq)
            clear hi hgr HN HMv0 HSv;go_upto_region 44 with fail
            generalize v11.setCell ⟨q,12,none⟩ (.int .i64 (x11:Int))=w11 at *;clear y hsx hfx HP11
            cases ok11 with
            | false =>
             have HF:Hid (zAG (L.drop k) = .error (L.drop k11)):=HQ11.o.1 rfl;obtain ⟨dz,hdz⟩:∃ dz:De,dz = { dd with bg:=(x11:Int) }:=⟨_,rfl⟩
             rw [←hdz] at HM11;clear hdz;obtain ⟨hst,hz,hgv⟩:=zBg (k:=k) (ok:=false) hrw HLA.o HM11.o.rd HM11.o.kp HM11.o.rs rfl (fun h=>zy) (fun _=>HF.o)
             have HX:=zq HM11.o.de.bx;have HSR:=zq hst;have HZ:=zq hz;have HGO:=zq hgv;clear hst hz hgv;go_upto_region 45 with fail
             iterate 2 go_step
             refine eA _ _ zo q 0 zo (deC dz).toList _ (zBu HX.o) Tryz.underlying47 rfl zb ?_
             go_wp2_with (refine zAg rfl _ _ _ rfl ⟨w.heap.size,0,none⟩ (deV dz) rfl rfl HSR.o ?_)
             refine dD (v:=.tuple #[deV dz,.bool false]) (zAD rfl rfl HZ.o) rfl ?_
             exact HGO.o
            | true =>
             have HS11:Hid (Stp st10 (zAG (L.drop k)) L { dd with bg:=(x11:Int) } k11 false):=HQ11.o
             clear HQ11;have y2:World.cell? _ ⟨q,2,none⟩=some (.int .i64 dd.kd):=HM11.o.de.bx.c 2 rfl;rw [HDK.o.1] at y2;have ysx:=HM11.o.de.bx.lt
             go_wp2_with fail
             with_reducible refine (HGV.o _).mono ?_
             rintro e vv ⟨rfl,rfl⟩;have HN:=zq (zEh r LA c L k11 ⟨#[32,32,101,110,100]⟩ kEnd rfl zc _ HM11.o.rd (HG0.o.kept HM11.o.kp hg hrw));have HQ12:=zq (HS11.o.en Cgv2.out);generalize nuO false kEnd (L.drop k11)=an12 at HN HQ12;generalize an12.getD 0=x12 at HN HQ12;generalize an12.isSome=ok12 at HN HQ12;generalize nxk k11 ok12=k12 at HN HQ12
             go_wp2_with fail
             with_reducible refine HN.o.mono ?_
             rintro e v12 ⟨rfl,hi,hgr⟩;clear y2 ysx;have HP12:=zq (HM11.o.next hrw hi hgr);have y:=HP12.o.de.bx.c 13 rfl;have hsx:=HP12.o.de.bx.lt;have hfx:=HP12.o.de.bx.frozen;have HM12:=zq (HP12.o.put (d':={ dd with bg:=(x11:Int),en:=(x12:Int) }) hrw HLA.o 13 (.int .i64 (x12:Int)) rfl ⟨rfl,rfl⟩ ⟨rfl,rfl⟩ HP12.o.de.shs HP12.o.de.shq)
             clear hi hgr HN HM11 HS11;go_upto_region 48 with fail
             generalize v12.setCell ⟨q,13,none⟩ (.int .i64 (x12:Int))=w12 at *;clear y hsx hfx HP12
             cases ok12 with
             | false =>
              have HF:Hid (zAG (L.drop k) = .error (L.drop k12)):=HQ12.o.1 rfl;obtain ⟨dz,hdz⟩:∃ dz:De,dz = { dd with bg:=(x11:Int),en:=(x12:Int) }:=⟨_,rfl⟩
              rw [←hdz] at HM12;clear hdz;obtain ⟨hst,hz,hgv⟩:=zBg (k:=k) (ok:=false) hrw HLA.o HM12.o.rd HM12.o.kp HM12.o.rs rfl (fun h=>zy) (fun _=>HF.o)
              have HX:=zq HM12.o.de.bx;have HSR:=zq hst;have HZ:=zq hz;have HGO:=zq hgv;clear hst hz hgv;go_upto_region 49 with fail
              iterate 2 go_step
              refine eA _ _ zo q 0 zo (deC dz).toList _ (zBu HX.o) Tryz.underlying47 rfl zb ?_
              go_wp2_with (refine zAg rfl _ _ _ rfl ⟨w.heap.size,0,none⟩ (deV dz) rfl rfl HSR.o ?_)
              refine dD (v:=.tuple #[deV dz,.bool false]) (zAD rfl rfl HZ.o) rfl ?_
              exact HGO.o
             | true =>
              have HS12:Hid (Stp st11 (zAG (L.drop k)) L { dd with bg:=(x11:Int),en:=(x12:Int) } k12 false):=HQ12.o
              clear HQ12;have HS12sh:=zq (HS12.o.sh0 Cdv2.out (HDK.o.2.1.2));have HS12shot:=zq (HS12sh.o.ot0 Cot2.out (HDK.o.2.2))
              go_wp2_with fail
              go_loopg [] 1 (fun (_:Nat) (wr:World)=>DjM w r LA c L q wr ({ dd with bg:=(x11:Int),en:=(x12:Int) }) k12)
              case atStart=>exact HM12.o
              case round =>
               clear HM12;have HM13:=zq hrel;clear hrel;have y2:World.cell? _ ⟨q,2,none⟩=some (.int .i64 dd.kd):=HM13.o.de.bx.c 2 rfl;rw [HDK.o.1] at y2;have ysx:=HM13.o.de.bx.lt
               go_wp2_with fail
               with_reducible refine (HDV.o _).mono ?_
               rintro e vv ⟨rfl,rfl⟩;go_upto_region 61 with fail
               clear y2 ysx;have HE:Hid (zAG (L.drop k) = .ok (plD ({ dd with bg:=(x11:Int),en:=(x12:Int) }),L.drop k12)):=(HS12shot.o.2 rfl).symm
               obtain ⟨dz,hdz⟩:∃ dz:De,dz = { dd with bg:=(x11:Int),en:=(x12:Int) }:=⟨_,rfl⟩
               rw [←hdz] at HM13 HE;clear hdz;obtain ⟨hst,hz,hgv⟩:=zBg (k:=k) (ok:=true) hrw HLA.o HM13.o.rd HM13.o.kp HM13.o.rs rfl (fun _=>⟨q,HM13.o.uq,HM13.o.de,HE.o⟩) (fun h=>zy)
               have HX:=zq HM13.o.de.bx;have HSR:=zq hst;have HZ:=zq hz;have HGO:=zq hgv;clear hst hz hgv;go_upto_region 61 with fail
               iterate 2 go_step
               refine eA _ _ zo q 0 zo (deC dz).toList _ (zBu HX.o) Tryz.underlying47 rfl zb ?_
               go_wp2_with (refine zAg rfl _ _ _ rfl ⟨w.heap.size,0,none⟩ (deV dz) rfl rfl HSR.o ?_)
               refine dD (v:=.tuple #[deV dz,.bool true]) (zAD rfl rfl HZ.o) rfl ?_
               exact HGO.o
 ·have Cgv:Hid (zAf d.kd=true):=by show _=_;rw [hk];rfl
  have Cdv:Hid (divB d.kd=false):=zv;have Cpt:Hid (decide (d.kd=2)=false):=zv;have Cex:Hid (decide (d.kd=3)=true):=zv;have Cot:Hid (decide (d.kd=4)=false):=zv;have Cth:Hid ((zAf d.kd || decide (d.kd=1))=true):=zv
  have Cfr:Hid ((zAf d.kd || decide (d.kd=5))=true):=zv
  have e1:(d.kd == 1)=false:=yw;have e2:(d.kd == 2)=false:=yw;have e3:(d.kd == 3)=true:=yw;have e4:(d.kd == 4)=false:=yw;have e5:(d.kd == 5)=false:=yw;have HGV:Hid (∀ u,Calls Tryz.prog 49 #[.int .i64 d.kd] u (zAr (.bool true) u)):=fun u=>by have h:=zEl d.kd u;rwa [show zAf d.kd=true from Cgv.out] at h
  have HDV:Hid (∀ u,Calls Tryz.prog 53 #[.int .i64 d.kd] u (zAr (.bool false) u)):=fun u=>by have h:=zDl d.kd u;rwa [show divB d.kd=false from Cdv.out] at h
  clear hk hk0;have y2:World.cell? _ ⟨q,2,none⟩=some (.int .i64 d.kd):=HMa.o.de.bx.c 2 rfl;have ysx:=HMa.o.de.bx.lt
  go_wp2_with fail
  with_reducible refine (HGV.o _).mono ?_
  rintro e vv ⟨rfl,rfl⟩;have HN:=zq (zCs r LA c L (k+1) ⟨#[32,32,116,104,105,110,103]⟩ zBq rfl zc _ HMa.o.rd (HG0.o.kept HMa.o.kp hg hrw));have HQ8:=zq (HSa.o.th Cth.out);generalize nmO false zBq (L.drop (k+1))=an8 at HN HQ8;generalize ofL (an8.getD [])=x8 at HN HQ8;generalize an8.isSome=ok8 at HN HQ8;generalize nxk (k+1) ok8=k8 at HN HQ8
  go_wp2_with fail
  with_reducible refine HN.o.mono ?_
  rintro e v8 ⟨rfl,hi,hgr⟩;clear y2 ysx;have HP8:=zq (HMa.o.next hrw hi hgr);have y:=HP8.o.de.bx.c 3 rfl;have hsx:=HP8.o.de.bx.lt;have hfx:=HP8.o.de.bx.frozen;have HM8:=zq (HP8.o.put (d':={ d with th:=x8 }) hrw HLA.o 3 (.string x8) rfl ⟨rfl,rfl⟩ ⟨rfl,rfl⟩ HP8.o.de.shs HP8.o.de.shq)
  clear hi hgr HN HMa HSa;go_upto_region 12 with fail
  generalize v8.setCell ⟨q,3,none⟩ (.string x8)=w8 at *;clear y hsx hfx HP8
  cases ok8 with
  | false =>
   have HF:Hid (zAG (L.drop k) = .error (L.drop k8)):=HQ8.o.1 rfl;obtain ⟨dz,hdz⟩:∃ dz:De,dz = { d with th:=x8 }:=⟨_,rfl⟩
   rw [←hdz] at HM8;clear hdz;obtain ⟨hst,hz,hgv⟩:=zBg (k:=k) (ok:=false) hrw HLA.o HM8.o.rd HM8.o.kp HM8.o.rs rfl (fun h=>zy) (fun _=>HF.o)
   have HX:=zq HM8.o.de.bx;have HSR:=zq hst;have HZ:=zq hz;have HGO:=zq hgv;clear hst hz hgv;go_upto_region 13 with fail
   iterate 2 go_step
   refine eA _ _ zo q 0 zo (deC dz).toList _ (zBu HX.o) Tryz.underlying47 rfl zb ?_
   go_wp2_with (refine zAg rfl _ _ _ rfl ⟨w.heap.size,0,none⟩ (deV dz) rfl rfl HSR.o ?_)
   refine dD (v:=.tuple #[deV dz,.bool false]) (zAD rfl rfl HZ.o) rfl ?_
   exact HGO.o
  | true =>
   have HS8:Hid (Stp st2 (zAG (L.drop k)) L { d with th:=x8 } k8 false):=HQ8.o
   clear HQ8;have y2:World.cell? _ ⟨q,2,none⟩=some (.int .i64 d.kd):=HM8.o.de.bx.c 2 rfl;have ysx:=HM8.o.de.bx.lt
   go_wp2_with fail
   with_reducible refine (HGV.o _).mono ?_
   rintro e vv ⟨rfl,rfl⟩;have HN:=zq (zCs r LA c L k8 ⟨#[32,32,102,114,111,109]⟩ zCa rfl zc _ HM8.o.rd (HG0.o.kept HM8.o.kp hg hrw));have HQ9:=zq (HS8.o.fr Cfr.out);generalize nmO false zCa (L.drop k8)=an9 at HN HQ9;generalize ofL (an9.getD [])=x9 at HN HQ9;generalize an9.isSome=ok9 at HN HQ9;generalize nxk k8 ok9=k9 at HN HQ9
   go_wp2_with fail
   with_reducible refine HN.o.mono ?_
   rintro e v9 ⟨rfl,hi,hgr⟩;clear y2 ysx;have HP9:=zq (HM8.o.next hrw hi hgr);have y:=HP9.o.de.bx.c 4 rfl;have hsx:=HP9.o.de.bx.lt;have hfx:=HP9.o.de.bx.frozen;have HM9:=zq (HP9.o.put (d':={ d with th:=x8,fr:=x9 }) hrw HLA.o 4 (.string x9) rfl ⟨rfl,rfl⟩ ⟨rfl,rfl⟩ HP9.o.de.shs HP9.o.de.shq)
   clear hi hgr HN HM8 HS8;go_upto_region 16 with fail
   generalize v9.setCell ⟨q,4,none⟩ (.string x9)=w9 at *;clear y hsx hfx HP9
   cases ok9 with
   | false =>
    have HF:Hid (zAG (L.drop k) = .error (L.drop k9)):=HQ9.o.1 rfl;obtain ⟨dz,hdz⟩:∃ dz:De,dz = { d with th:=x8,fr:=x9 }:=⟨_,rfl⟩
    rw [←hdz] at HM9;clear hdz;obtain ⟨hst,hz,hgv⟩:=zBg (k:=k) (ok:=false) hrw HLA.o HM9.o.rd HM9.o.kp HM9.o.rs rfl (fun h=>zy) (fun _=>HF.o)
    have HX:=zq HM9.o.de.bx;have HSR:=zq hst;have HZ:=zq hz;have HGO:=zq hgv;clear hst hz hgv;go_upto_region 17 with fail
    iterate 2 go_step
    refine eA _ _ zo q 0 zo (deC dz).toList _ (zBu HX.o) Tryz.underlying47 rfl zb ?_
    go_wp2_with (refine zAg rfl _ _ _ rfl ⟨w.heap.size,0,none⟩ (deV dz) rfl rfl HSR.o ?_)
    refine dD (v:=.tuple #[deV dz,.bool false]) (zAD rfl rfl HZ.o) rfl ?_
    exact HGO.o
   | true =>
    have HS9:Hid (Stp st3 (zAG (L.drop k)) L { d with th:=x8,fr:=x9 } k9 false):=HQ9.o
    clear HQ9;have y2:World.cell? _ ⟨q,2,none⟩=some (.int .i64 d.kd):=HM9.o.de.bx.c 2 rfl;have ysx:=HM9.o.de.bx.lt
    go_wp2_with fail
    with_reducible refine (HGV.o _).mono ?_
    rintro e vv ⟨rfl,rfl⟩;have HN:=zq (zCs r LA c L k9 ⟨#[32,32,116,111]⟩ kTo rfl zc _ HM9.o.rd (HG0.o.kept HM9.o.kp hg hrw));have HQ10:=zq (HS9.o.to_ Cgv.out);generalize nmO false kTo (L.drop k9)=an10 at HN HQ10;generalize ofL (an10.getD [])=x10 at HN HQ10;generalize an10.isSome=ok10 at HN HQ10;generalize nxk k9 ok10=k10 at HN HQ10
    go_wp2_with fail
    with_reducible refine HN.o.mono ?_
    rintro e v10 ⟨rfl,hi,hgr⟩;clear y2 ysx;have HP10:=zq (HM9.o.next hrw hi hgr);have y:=HP10.o.de.bx.c 5 rfl;have hsx:=HP10.o.de.bx.lt;have hfx:=HP10.o.de.bx.frozen;have HM10:=zq (HP10.o.put (d':={ d with th:=x8,fr:=x9,to_:=x10 }) hrw HLA.o 5 (.string x10) rfl ⟨rfl,rfl⟩ ⟨rfl,rfl⟩ HP10.o.de.shs HP10.o.de.shq)
    clear hi hgr HN HM9 HS9;go_upto_region 20 with fail
    generalize v10.setCell ⟨q,5,none⟩ (.string x10)=w10 at *;clear y hsx hfx HP10
    cases ok10 with
    | false =>
     have HF:Hid (zAG (L.drop k) = .error (L.drop k10)):=HQ10.o.1 rfl;obtain ⟨dz,hdz⟩:∃ dz:De,dz = { d with th:=x8,fr:=x9,to_:=x10 }:=⟨_,rfl⟩
     rw [←hdz] at HM10;clear hdz;obtain ⟨hst,hz,hgv⟩:=zBg (k:=k) (ok:=false) hrw HLA.o HM10.o.rd HM10.o.kp HM10.o.rs rfl (fun h=>zy) (fun _=>HF.o)
     have HX:=zq HM10.o.de.bx;have HSR:=zq hst;have HZ:=zq hz;have HGO:=zq hgv;clear hst hz hgv;go_upto_region 21 with fail
     iterate 2 go_step
     refine eA _ _ zo q 0 zo (deC dz).toList _ (zBu HX.o) Tryz.underlying47 rfl zb ?_
     go_wp2_with (refine zAg rfl _ _ _ rfl ⟨w.heap.size,0,none⟩ (deV dz) rfl rfl HSR.o ?_)
     refine dD (v:=.tuple #[deV dz,.bool false]) (zAD rfl rfl HZ.o) rfl ?_
     exact HGO.o
    | true =>
     have HS10:Hid (Stp st4 (zAG (L.drop k)) L { d with th:=x8,fr:=x9,to_:=x10 } k10 false):=HQ10.o
     clear HQ10;have HS10pt:=zq (HS10.o.pt0 Cpt.out qo);have HN:=zq (flagJ_n r LA c L k10 ⟨#[32,32,101,120,99,108,117,115,105,118,101]⟩ zDu rfl zc _ HM10.o.rd (HG0.o.kept HM10.o.kp hg hrw));have HQ11:=zq (HS10pt.o.ex Cex.out);generalize flB false zDu (L.drop k10)=b11 at *;generalize nxk k10 b11=k11 at *;have y2:World.cell? _ ⟨q,2,none⟩=some (.int .i64 d.kd):=HM10.o.de.bx.c 2 rfl;have ysx:=HM10.o.de.bx.lt
     go_wp2_with fail
     with_reducible refine HN.o.mono ?_
     rintro e v11 ⟨rfl,hi,hgr⟩;clear y2 ysx;have HP11:=zq (HM10.o.next hrw hi hgr);have y:=HP11.o.de.bx.c 8 rfl;have hsx:=HP11.o.de.bx.lt;have hfx:=HP11.o.de.bx.frozen;have HM11:=zq (HP11.o.put (d':={ d with th:=x8,fr:=x9,to_:=x10,ex:=b11 }) hrw HLA.o 8 (.bool b11) rfl ⟨rfl,rfl⟩ ⟨rfl,rfl⟩ HP11.o.de.shs HP11.o.de.shq)
     clear hi hgr HN HM10 HS10pt;go_upto_region 31 with fail
     generalize v11.setCell ⟨q,8,none⟩ (.bool b11)=w11 at *;clear y hsx hfx HP11;have HS11:Hid (Stp st6 (zAG (L.drop k)) L { d with th:=x8,fr:=x9,to_:=x10,ex:=b11 } k11 false):=HQ11.o
     clear HQ11;have HN:=zq (flagJ_n r LA c L k11 ⟨#[32,32,115,117,98]⟩ kSub rfl zc _ HM11.o.rd (HG0.o.kept HM11.o.kp hg hrw));have HQ12:=zq (HS11.o.sb Cex.out);generalize flB false kSub (L.drop k11)=b12 at *;generalize nxk k11 b12=k12 at *
     go_wp2_with fail
     with_reducible refine HN.o.mono ?_
     rintro e v12 ⟨rfl,hi,hgr⟩;have HP12:=zq (HM11.o.next hrw hi hgr);have y:=HP12.o.de.bx.c 9 rfl;have hsx:=HP12.o.de.bx.lt;have hfx:=HP12.o.de.bx.frozen;have HM12:=zq (HP12.o.put (d':={ d with th:=x8,fr:=x9,to_:=x10,ex:=b11,sb:=b12 }) hrw HLA.o 9 (.bool b12) rfl ⟨rfl,rfl⟩ ⟨rfl,rfl⟩ HP12.o.de.shs HP12.o.de.shq)
     clear hi hgr HN HM11 HS11
     go_wp2_with fail
     generalize v12.setCell ⟨q,9,none⟩ (.bool b12)=w12 at *;clear y hsx hfx HP12;have HS12:Hid (Stp st7 (zAG (L.drop k)) L { d with th:=x8,fr:=x9,to_:=x10,ex:=b11,sb:=b12 } k12 false):=HQ12.o
     clear HQ12;obtain ⟨da,hda⟩:∃ da:De,da = { d with th:=x8,fr:=x9,to_:=x10,ex:=b11,sb:=b12 }:=⟨_,rfl⟩
     have HKA:Hid (da.kd=d.kd∧(da.arA=none∧da.ar=[]∧da.arc=0)∧(da.usA=none∧da.us=[]∧da.usc=0)∧(da.shA=none∧da.sh=[])∧da.ot=emp):=qb;rw [←hda] at HM12 HS12;clear hda HDZ;obtain ⟨all,hall⟩:∃ all,all=arsO false (L.drop k12):=⟨_,rfl⟩;have HSA:=zq (fun A c=>HS12.o.ar (by rw [HKA.o.1];exact Cgv.out) A c)
     rw [←hall] at HSA;have HALL:Hid (all=(zBf (L.drop k12)).1):=hall;have HK0:=HM12.o.rd.le;have HM0:=zq (deA HM12.o HKA.o.2.1.1 HKA.o.2.1.2.1 HKA.o.2.1.2.2);clear hall HS12
     go_loopg [] (L.length+1 - k12) (ArJ w r LA c L q da k12 all)
     case atStart=>exact ⟨[],none,0,HM0.o,HALL.o.symm,zg⟩
     case round =>
      obtain ⟨T,A,cA,hm,hal,hms⟩:=hrel;have HM:=zq hm;have HA1:=zq hal;have HMS:=zq hms;have hTl:T.length≤600000:=vn;obtain ⟨kk,hkk⟩:∃ kk,kk=k12+T.length:=⟨_,rfl⟩;have HKK:=zq hkk;rw [←hkk] at HM HA1;clear hm hal hms hkk HM0 HM12 HALL;have HW1:=zq (fun u h1 h2=>zCs r LA c L kk ⟨#[32,32,105,110]⟩ kIn rfl zc u h1 h2)
      have HW2:=zq (fun u h1 h2=>zCs r LA c L kk ⟨#[32,32,111,117,116]⟩ zDE rfl zc u h1 h2)
      have HST:=zq (areasX_step (L.drop kk));have HP1:Hid (∀ n,nmO false kIn (L.drop kk)=some n→kk<L.length):=fun n h=>nmO_pos h
      have HP2:Hid (∀ n,nmO false zDE (L.drop kk)=some n→kk<L.length):=fun n h=>nmO_pos h
      rw [zAX] at HST;generalize nmO false kIn (L.drop kk)=a1 at *;generalize nmO false zDE (L.drop kk)=a2 at *;have y2:World.cell? _ ⟨q,2,none⟩=some (.int .i64 da.kd):=HM.o.de.bx.c 2 rfl;rw [HKA.o.1] at y2;have ysx:=HM.o.de.bx.lt
      go_wp2_with fail
      with_reducible refine (HGV.o _).mono ?_
      rintro e vv ⟨rfl,rfl⟩;clear y2 ysx;have HC1:=zq (HW1.o _ HM.o.rd (HG0.o.kept HM.o.kp hg hrw))
      go_wp2_with fail
      with_reducible refine HC1.o.mono ?_
      rintro e v1 ⟨rfl,hi1,hg1⟩;have HM1:=zq (HM.o.next hrw hi1 hg1);clear hi1 hg1 HM HC1 HW1
      cases a1 with
      | some n =>
       have hkl1:=HP1.o n rfl;clear HW2;have HTN:Hid ((T++[⟨ofL n,false⟩])++(zBf (L.drop (kk+1))).1=all):=yg;clear HA1 HST HP1 HP2 HSA;have HM2:Hid (DjM w r LA c L q v1 { da with arA:=A,ar:=T,arc:=cA } (kk+1)):=HM1.o
       clear HM1;have x10:v1.cell? ⟨q,10,none⟩=some (.slice A T.length cA):=HM2.o.de.bx.c 10 rfl;have HO:Hid (zAF eAr 2 v1 (q+1) 65 (.slice A T.length cA) T):=HM2.o.de.ars;have hqs:=HM2.o.de.bx.lt;have hfs:=HM2.o.de.bx.frozen;obtain ⟨sn,hsn⟩:∃ sn,sn=ofL n:=⟨_,rfl⟩;have HSN:=zq hsn;rw [show ((some n).getD []:Ln)=n from rfl,←hsn]
       clear hsn
       go_wp2_with (at_builtin;refine zAp _ _ _ elAr rfl rfl (q+1) (.slice A T.length cA) T rfl (HO.o.alloc _) v1.heap.size 1 (⟨sn,false⟩:Ar) rfl (cI _ _) rfl zu zt za zg ?_;intro A1 c1 w4 hown4 hg4 hb4 hor4;obtain ⟨k1,k3,k4,k5⟩:=HM2.o.pushAr hrw HLA.o HKA.o.2.2.2.1.1 HKA.o.2.2.2.1.2 hown4 hg4 hor4;have K1:=zq k1;clear hown4 hg4 hb4 hor4 k1)
       go_roundg (gk - 1)
       case measure=>have:=HMS.o;have:=HKK.o;omega
       case rel=>exact ⟨T++[⟨sn,false⟩],_,_,qc,yh,yu⟩
      | none =>
       have HC2:=zq (HW2.o _ HM1.o.rd (HG0.o.kept HM1.o.kp hg hrw))
       go_wp2_with fail
       with_reducible refine HC2.o.mono ?_
       rintro e v2 ⟨rfl,hi2,hg2⟩;have HM1b:=zq (HM1.o.next hrw hi2 hg2);clear hi2 hg2 HM1 HC2 HW2
       cases a2 with
       | some n =>
        have hkl1:=HP2.o n rfl;have HTN:Hid ((T++[⟨ofL n,true⟩])++(zBf (L.drop (kk+1))).1=all):=yg;clear HA1 HST HP1 HP2 HSA;have HM2:Hid (DjM w r LA c L q v2 { da with arA:=A,ar:=T,arc:=cA } (kk+1)):=HM1b.o
        clear HM1b;have x10:v2.cell? ⟨q,10,none⟩=some (.slice A T.length cA):=HM2.o.de.bx.c 10 rfl;have HO:Hid (zAF eAr 2 v2 (q+1) 65 (.slice A T.length cA) T):=HM2.o.de.ars;have hqs:=HM2.o.de.bx.lt;have hfs:=HM2.o.de.bx.frozen;obtain ⟨sn,hsn⟩:∃ sn,sn=ofL n:=⟨_,rfl⟩;have HSN:=zq hsn;rw [show ((some n).getD []:Ln)=n from rfl,←hsn]
        clear hsn
        go_wp2_with (at_builtin;refine zAp _ _ _ elAr rfl rfl (q+1) (.slice A T.length cA) T rfl (HO.o.alloc _) v2.heap.size 1 (⟨sn,true⟩:Ar) rfl (cI _ _) rfl zu zt za zg ?_;intro A1 c1 w4 hown4 hg4 hb4 hor4;obtain ⟨k1,k3,k4,k5⟩:=HM2.o.pushAr hrw HLA.o HKA.o.2.2.2.1.1 HKA.o.2.2.2.1.2 hown4 hg4 hor4;have K1:=zq k1;clear hown4 hg4 hb4 hor4 k1)
        go_roundg (gk - 1)
        case measure=>have:=HMS.o;have:=HKK.o;omega
        case rel=>exact ⟨T++[⟨sn,true⟩],_,_,qc,yh,yu⟩
       | none =>
        have hTa:T=all:=qw;have HS8:=zq (HSA.o A cA);subst hTa;rw [←HKK.o] at HS8;have HM8:Hid (DjM w r LA c L q v2 { da with arA:=A,ar:=T,arc:=cA } kk):=HM1b.o
        clear HSA HM1b HA1 HST HP1 HP2 HMS HKK hTl;obtain ⟨db,hdb⟩:∃ db:De,db = { da with arA:=A,ar:=T,arc:=cA }:=⟨_,rfl⟩
        have HKB:Hid (db.kd=d.kd∧(db.usA=none∧db.us=[]∧db.usc=0)∧(db.shA=none∧db.sh=[])∧db.ot=emp):=j9;rw [←hdb] at HM8 HS8;clear hdb HKA;obtain ⟨all2,hall⟩:∃ all,all=ussO false (L.drop kk):=⟨_,rfl⟩;have HSA:=zq (fun A c=>HS8.o.us (by rw [HKB.o.1];exact Cgv.out) A c)
        rw [←hall] at HSA;have HALL:Hid (all2=(zAQ sp2 zDn (L.drop kk)).1):=hall;have HK0:=HM8.o.rd.le;have HM0:=zq (deU HM8.o HKB.o.2.1.1 HKB.o.2.1.2.1 HKB.o.2.1.2.2);clear hall HS8
        go_wp2_with fail
        go_loopg [] (L.length+1 - kk) (UsJ w r LA c L q db kk all2)
        case atStart=>exact ⟨[],none,0,HM0.o,HALL.o.symm,zg⟩
        case round =>
         obtain ⟨U,B,cB,hm,hal,hms⟩:=hrel;have HM:=zq hm;have HA1:=zq hal;have HMS:=zq hms;have hTl:U.length≤600000:=vn;obtain ⟨ku,hku⟩:∃ ku,ku=kk+U.length:=⟨_,rfl⟩;have HKK:=zq hku;rw [←hku] at HM HA1;clear hm hal hms hku HM0 HM8 HALL;have HW1:=zq (fun u h1 h2=>zCs r LA c L ku ⟨#[32,32,102,111,114]⟩ zDn rfl zc u h1 h2)
         have HST:=zq (usesX_stepN (L.drop ku));have HP1:Hid (∀ n,nmO false zDn (L.drop ku)=some n→ku<L.length):=fun n h=>nmO_pos h
         rw [zAX] at HST;generalize nmO false zDn (L.drop ku)=a1 at *;have y2:World.cell? _ ⟨q,2,none⟩=some (.int .i64 db.kd):=HM.o.de.bx.c 2 rfl;rw [HKB.o.1] at y2;have ysx:=HM.o.de.bx.lt
         go_wp2_with fail
         with_reducible refine (HGV.o _).mono ?_
         rintro e vv ⟨rfl,rfl⟩;clear y2 ysx;have HC1:=zq (HW1.o _ HM.o.rd (HG0.o.kept HM.o.kp hg hrw))
         go_wp2_with fail
         with_reducible refine HC1.o.mono ?_
         rintro e v1 ⟨rfl,hi1,hg1⟩;have HM1:=zq (HM.o.next hrw hi1 hg1);clear hi1 hg1 HM HC1 HW1
         cases a1 with
         | some n =>
          have hkl1:=HP1.o n rfl;have HTN:Hid ((U++[ofL n])++(zAQ sp2 zDn (L.drop (ku+1))).1=all2):=yg;clear HA1 HST HP1 HSA;have HM2:Hid (DjM w r LA c L q v1 { db with usA:=B,us:=U,usc:=cB } (ku+1)):=HM1.o
          clear HM1;have x11:v1.cell? ⟨q,11,none⟩=some (.slice B U.length cB):=HM2.o.de.bx.c 11 rfl;have HO:Hid (zAF eSt 1 v1 (q+1) 9 (.slice B U.length cB) U):=HM2.o.de.uss;have hqs:=HM2.o.de.bx.lt;have hfs:=HM2.o.de.bx.frozen;obtain ⟨sn,hsn⟩:∃ sn,sn=ofL n:=⟨_,rfl⟩;have HSN:=zq hsn;rw [show ((some n).getD []:Ln)=n from rfl,←hsn]
          clear hsn
          go_wp2_with (at_builtin;refine zAp _ _ _ elStr rfl rfl (q+1) (.slice B U.length cB) U rfl (HO.o.alloc _) v1.heap.size 1 (sn:BA) rfl (cI _ _) rfl zu zt za zg ?_;intro A1 c1 w4 hown4 hg4 hb4 hor4;obtain ⟨k1,k3,k4,k5⟩:=HM2.o.pushUs hrw HLA.o HKB.o.2.2.1.1 HKB.o.2.2.1.2 hown4 hg4 hor4;have K1:=zq k1;clear hown4 hg4 hb4 hor4 k1)
          go_roundg (gk - 1)
          case measure=>have:=HMS.o;have:=HKK.o;omega
          case rel=>exact ⟨U++[sn],_,_,qc,yh,yu⟩
         | none =>
          have hTa:U=all2:=qw;have HSv:=zq (HSA.o B cB);subst hTa;rw [←HKK.o] at HSv;have HMv0:Hid (DjM w r LA c L q v1 { db with usA:=B,us:=U,usc:=cB } ku):=HM1.o
          obtain ⟨dd,hdd⟩:∃ dd:De,dd = { db with usA:=B,us:=U,usc:=cB }:=⟨_,rfl⟩
          have HDK:Hid (dd.kd=d.kd∧(dd.shA=none∧dd.sh=[])∧dd.ot=emp):=by show _∧_∧_;rw [hdd];exact ⟨HKB.o.1,HKB.o.2.2.1,HKB.o.2.2.2⟩
          rw [←hdd] at HMv0 HSv;clear HSA HM1 HA1 HST HP1 HMS HKK hTl hdd HKB;have Cgv2:Hid (zAf dd.kd=true):=by show _=_;rw [HDK.o.1];exact Cgv.out
          have Cdv2:Hid (divB dd.kd=false):=by show _=_;rw [HDK.o.1];exact Cdv.out
          have Cot2:Hid (decide (dd.kd=4)=false):=by show _=_;rw [HDK.o.1];exact Cot.out
          have HN:=zq (zEh r LA c L ku ⟨#[32,32,98,101,103,105,110]⟩ zAM rfl zc _ HMv0.o.rd (HG0.o.kept HMv0.o.kp hg hrw));have HQ13:=zq (HSv.o.bg);generalize nuO false zAM (L.drop ku)=an13 at HN HQ13;generalize an13.getD 0=x13 at HN HQ13;generalize an13.isSome=ok13 at HN HQ13;generalize nxk ku ok13=k13 at HN HQ13
          go_wp2_with fail
          with_reducible refine HN.o.mono ?_
          rintro e v13 ⟨rfl,hi,hgr⟩;have HP13:=zq (HMv0.o.next hrw hi hgr);have y:=HP13.o.de.bx.c 12 rfl;have hsx:=HP13.o.de.bx.lt;have hfx:=HP13.o.de.bx.frozen;have HM13:=zq (HP13.o.put (d':={ dd with bg:=(x13:Int) }) hrw HLA.o 12 (.int .i64 (x13:Int)) rfl ⟨rfl,rfl⟩ ⟨rfl,rfl⟩ HP13.o.de.shs HP13.o.de.shq)
          clear hi hgr HN HMv0 HSv;go_upto_region 44 with fail
          generalize v13.setCell ⟨q,12,none⟩ (.int .i64 (x13:Int))=w13 at *;clear y hsx hfx HP13
          cases ok13 with
          | false =>
           have HF:Hid (zAG (L.drop k) = .error (L.drop k13)):=HQ13.o.1 rfl;obtain ⟨dz,hdz⟩:∃ dz:De,dz = { dd with bg:=(x13:Int) }:=⟨_,rfl⟩
           rw [←hdz] at HM13;clear hdz;obtain ⟨hst,hz,hgv⟩:=zBg (k:=k) (ok:=false) hrw HLA.o HM13.o.rd HM13.o.kp HM13.o.rs rfl (fun h=>zy) (fun _=>HF.o)
           have HX:=zq HM13.o.de.bx;have HSR:=zq hst;have HZ:=zq hz;have HGO:=zq hgv;clear hst hz hgv;go_upto_region 45 with fail
           iterate 2 go_step
           refine eA _ _ zo q 0 zo (deC dz).toList _ (zBu HX.o) Tryz.underlying47 rfl zb ?_
           go_wp2_with (refine zAg rfl _ _ _ rfl ⟨w.heap.size,0,none⟩ (deV dz) rfl rfl HSR.o ?_)
           refine dD (v:=.tuple #[deV dz,.bool false]) (zAD rfl rfl HZ.o) rfl ?_
           exact HGO.o
          | true =>
           have HS13:Hid (Stp st10 (zAG (L.drop k)) L { dd with bg:=(x13:Int) } k13 false):=HQ13.o
           clear HQ13;have y2:World.cell? _ ⟨q,2,none⟩=some (.int .i64 dd.kd):=HM13.o.de.bx.c 2 rfl;rw [HDK.o.1] at y2;have ysx:=HM13.o.de.bx.lt
           go_wp2_with fail
           with_reducible refine (HGV.o _).mono ?_
           rintro e vv ⟨rfl,rfl⟩;have HN:=zq (zEh r LA c L k13 ⟨#[32,32,101,110,100]⟩ kEnd rfl zc _ HM13.o.rd (HG0.o.kept HM13.o.kp hg hrw));have HQ14:=zq (HS13.o.en Cgv2.out);generalize nuO false kEnd (L.drop k13)=an14 at HN HQ14;generalize an14.getD 0=x14 at HN HQ14;generalize an14.isSome=ok14 at HN HQ14;generalize nxk k13 ok14=k14 at HN HQ14
           go_wp2_with fail
           with_reducible refine HN.o.mono ?_
           rintro e v14 ⟨rfl,hi,hgr⟩;clear y2 ysx;have HP14:=zq (HM13.o.next hrw hi hgr);have y:=HP14.o.de.bx.c 13 rfl;have hsx:=HP14.o.de.bx.lt;have hfx:=HP14.o.de.bx.frozen;have HM14:=zq (HP14.o.put (d':={ dd with bg:=(x13:Int),en:=(x14:Int) }) hrw HLA.o 13 (.int .i64 (x14:Int)) rfl ⟨rfl,rfl⟩ ⟨rfl,rfl⟩ HP14.o.de.shs HP14.o.de.shq)
           clear hi hgr HN HM13 HS13;go_upto_region 48 with fail
           generalize v14.setCell ⟨q,13,none⟩ (.int .i64 (x14:Int))=w14 at *;clear y hsx hfx HP14
           cases ok14 with
           | false =>
            have HF:Hid (zAG (L.drop k) = .error (L.drop k14)):=HQ14.o.1 rfl;obtain ⟨dz,hdz⟩:∃ dz:De,dz = { dd with bg:=(x13:Int),en:=(x14:Int) }:=⟨_,rfl⟩
            rw [←hdz] at HM14;clear hdz;obtain ⟨hst,hz,hgv⟩:=zBg (k:=k) (ok:=false) hrw HLA.o HM14.o.rd HM14.o.kp HM14.o.rs rfl (fun h=>zy) (fun _=>HF.o)
            have HX:=zq HM14.o.de.bx;have HSR:=zq hst;have HZ:=zq hz;have HGO:=zq hgv;clear hst hz hgv;go_upto_region 49 with fail
            iterate 2 go_step
            refine eA _ _ zo q 0 zo (deC dz).toList _ (zBu HX.o) Tryz.underlying47 rfl zb ?_
            go_wp2_with (refine zAg rfl _ _ _ rfl ⟨w.heap.size,0,none⟩ (deV dz) rfl rfl HSR.o ?_)
            refine dD (v:=.tuple #[deV dz,.bool false]) (zAD rfl rfl HZ.o) rfl ?_
            exact HGO.o
           | true =>
            have HS14:Hid (Stp st11 (zAG (L.drop k)) L { dd with bg:=(x13:Int),en:=(x14:Int) } k14 false):=HQ14.o
            clear HQ14;have HS14sh:=zq (HS14.o.sh0 Cdv2.out (HDK.o.2.1.2));have HS14shot:=zq (HS14sh.o.ot0 Cot2.out (HDK.o.2.2))
            go_wp2_with fail
            go_loopg [] 1 (fun (_:Nat) (wr:World)=>DjM w r LA c L q wr ({ dd with bg:=(x13:Int),en:=(x14:Int) }) k14)
            case atStart=>exact HM14.o
            case round =>
             clear HM14;have HM15:=zq hrel;clear hrel;have y2:World.cell? _ ⟨q,2,none⟩=some (.int .i64 dd.kd):=HM15.o.de.bx.c 2 rfl;rw [HDK.o.1] at y2;have ysx:=HM15.o.de.bx.lt
             go_wp2_with fail
             with_reducible refine (HDV.o _).mono ?_
             rintro e vv ⟨rfl,rfl⟩;go_upto_region 61 with fail
             clear y2 ysx;have HE:Hid (zAG (L.drop k) = .ok (plD ({ dd with bg:=(x13:Int),en:=(x14:Int) }),L.drop k14)):=(HS14shot.o.2 rfl).symm
             obtain ⟨dz,hdz⟩:∃ dz:De,dz = { dd with bg:=(x13:Int),en:=(x14:Int) }:=⟨_,rfl⟩
             rw [←hdz] at HM15 HE;clear hdz;obtain ⟨hst,hz,hgv⟩:=zBg (k:=k) (ok:=true) hrw HLA.o HM15.o.rd HM15.o.kp HM15.o.rs rfl (fun _=>⟨q,HM15.o.uq,HM15.o.de,HE.o⟩) (fun h=>zy)
             have HX:=zq HM15.o.de.bx;have HSR:=zq hst;have HZ:=zq hz;have HGO:=zq hgv;clear hst hz hgv;go_upto_region 61 with fail
             iterate 2 go_step
             refine eA _ _ zo q 0 zo (deC dz).toList _ (zBu HX.o) Tryz.underlying47 rfl zb ?_
             go_wp2_with (refine zAg rfl _ _ _ rfl ⟨w.heap.size,0,none⟩ (deV dz) rfl rfl HSR.o ?_)
             refine dD (v:=.tuple #[deV dz,.bool true]) (zAD rfl rfl HZ.o) rfl ?_
             exact HGO.o
end Go.Proofs.YtoaelidmmcbkfaaGreatDoor
