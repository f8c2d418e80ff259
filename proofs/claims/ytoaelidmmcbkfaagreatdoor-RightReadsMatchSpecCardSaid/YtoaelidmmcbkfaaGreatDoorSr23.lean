/- Package right: a reader's deed. -/
import Derived.Test.YtoaelidmmcbkfaaGreatDoorSr15
import Derived.Test.YtoaelidmmcbkfaaGreatDoorSr22
set_option maxRecDepth 100000
set_option maxHeartbeats 8000000
namespace Go.Proofs.YtoaelidmmcbkfaaGreatDoor
open Go.RowKit Dw
theorem numA_two (o:Option Nat):numA o = .tuple #[.int .i64 ((o.getD 0:Nat):Int),.bool o.isSome]:=by cases o<;>rfl
def KdRel (wB:World) (q:Nat) (d:De) (kx:Int) (m:Nat) (iv:Value) (wr:World):Prop :=
 ∃ j:Nat,j+m=6∧1≤j∧iv = .int .i64 (j:Nat)∧DeI wr q { d with kd:=if kx<(j:Int) then kx else 0 }∧wB.grownBy wr (some q)
theorem rdDeed_c (r:Nat) (LA:Option Addr) (c:Nat) (L:List Ln) (k:Nat) (w:World) (h:RdI w r LA c L k false) (hG:GOK w) (hg:gkB<r) :
  Calls Tryz.prog 12 #[.pointer (some ⟨r,0,none⟩)] w (GivesRde r LA c L k w):=by
 have hrw:=h.bx.lt;have hmany:=h.many;have HLA:=zq h.la;have HG0:=zq hG;have hba:Below w.heap.size w (w.alloc (.cells (deC zBV) 47)):=(bS _ _).alloc (aB _) _;have hbb:Below (w.alloc (.cells (deC zBV) 47)).heap.size (w.alloc (.cells (deC zBV) 47)) ((w.alloc (.cells (deC zBV) 47)).alloc (.cells (deC zBV) 47)):=(bS _ _).alloc (aB _) _;have HX0:Hid (Bx (w.alloc (.cells (deC zBV) 47)) w.heap.size (deC zBV) 47):=Bx.new _ _ _
 have HD0:Hid (DeI ((w.alloc (.cells (deC zBV) 47)).alloc (.cells (deC zBV) 47)) (w.heap.size+1) zBV):=by
  have e:(w.alloc (.cells (deC zBV) 47)).heap.size=w.heap.size+1:=zd;rw [←e];exact DeI.zero _
 have hs2:((w.alloc (.cells (deC zBV) 47)).alloc (.cells (deC zBV) 47)).heap.size=w.heap.size+2:=zd;obtain ⟨W,hW⟩:∃ W,W=(w.alloc (.cells (deC zBV) 47)).alloc (.cells (deC zBV) 47):=⟨_,rfl⟩;rw [←hW] at HD0 hbb hs2;have HBR:=zq (HX0.o.below hbb);have HBW:=zq (zAb hba hbb);have HI:=zq (h.below HBW.o);have HG:=zq (hG.below HBW.o);have HW:Hid (Calls Tryz.prog 27 #[.pointer (some ⟨r,0,none⟩),.string ⟨#[]⟩,.string ⟨#[100,101,101,100]⟩,.int .i64 4] W (zBK (wdO false [] zCC 4 (L.drop k)) W)):=zEt r LA c L k false ⟨#[]⟩ ⟨#[100,101,101,100]⟩ 4 W HI.o HG.o zc
 have HP0:Hid (zAG (L.drop k)=match wdO false [] zCC 4 (L.drop k) with
  | some [_,i,dy,kw]=>match zDv dy with
   | some n=>if rowL i=true∧0<kdX kw then bodyX (ofL i) n (kdX kw) (L.drop k).tail else .error (L.drop k)
   | none=>.error (L.drop k)
  | _=>.error (L.drop k)):=rfl
 have HWT:Hid (∀ V,wdO false [] zCC 4 (L.drop k)=some V→k<L.length∧∃ i dy kw,V=[zCC,i,dy,kw]∧i.length≤600000∧dy.length≤600000):=fun V hV=>by
  have hV2:wdF [] zCC 4 (L.drop k)=some V:=hV;obtain ⟨i,dy,kw,hn,_⟩:=wd_four hV2;refine ⟨zBi (zEs (by rw [hV];rfl)),i,dy,kw,hn,?_,?_⟩
  ·exact zCI (m:=4) HI.o.drops hV2 vj
  ·exact zCI (m:=4) HI.o.drops hV2 vj
 generalize wdO false [] zCC 4 (L.drop k)=res at *;clear h hG hba hbb HX0;have hW2:W=(w.alloc (.cells #[.string ⟨#[]⟩,.int .i64 0,.int .i64 0,.string ⟨#[]⟩,.string ⟨#[]⟩,.string ⟨#[]⟩,.string ⟨#[]⟩,.string ⟨#[]⟩,.bool false,.bool false,.slice none 0 0,.slice none 0 0,.int .i64 0,.int .i64 0,.slice none 0 0,.string ⟨#[]⟩] 47)).alloc (.cells #[.string ⟨#[]⟩,.int .i64 0,.int .i64 0,.string ⟨#[]⟩,.string ⟨#[]⟩,.string ⟨#[]⟩,.string ⟨#[]⟩,.string ⟨#[]⟩,.bool false,.bool false,.slice none 0 0,.slice none 0 0,.int .i64 0,.int .i64 0,.slice none 0 0,.string ⟨#[]⟩] 47):=hW;clear hW
 go_enter Tryz.func12,Tryz.ntmps12
 go_upto_region 2 with fail
 rw [←hW2];clear hW2
 go_wp2_with fail
 with_reducible refine HW.o.mono ?_
 rintro e w1 ⟨A,c1,rfl,hst,hb1⟩;have HI1:=zq (HI.o.below hb1);have HD1:=zq (HD0.o.below hb1);have HR1:=zq (HBR.o.below hb1);have HB1:=zq (zAb HBW.o hb1);have HST:=zq hst;clear hst hb1 HW HI HD0 HBR HBW;go_upto_if 13 with fail
 go_cut [5] (fun okv wx=>∃ (ok:Bool) (d:De),okv = .bool ok∧DeI wx (w.heap.size+1) d∧RdI wx r LA c L k false∧KeptB w.heap.size r w wx∧Bx wx w.heap.size (deC zBV) 47 ∧
  (ok=true→k<L.length∧(1≤d.kd∧d.kd≤5)∧d = { zBV with id:=d.id,day:=d.day,kd:=d.kd }∧zAG (L.drop k)=bodyX d.id d.day d.kd (L.drop (k+1)))∧(ok=false→zAG (L.drop k) = .error (L.drop k)))
 case first =>
  cases res with
  | none =>
   have HE:Hid (zAG (L.drop k) = .error (L.drop k)):=HP0.o;clear HP0 HWT HST
   go_wp2_with fail
   go_meet;exact ⟨false,zBV,rfl,HD1.o,HI1.o,KeptB.below HB1.o,HR1.o,(fun h=>zy),fun _=>HE.o⟩
  | some V =>
   obtain ⟨hkl,i,dy,kw,rfl,hil,hdl⟩:=HWT.o V rfl;obtain ⟨hlo,hst⟩:=HST.o _ rfl;obtain ⟨bw,ow,hA2,hc2⟩:=hst zd;subst hA2;have hbq:w.heap.size+2≤bw:=by have:=hlo bw ow rfl;omega
   have c1':w1.cell? ⟨bw,ow+1,none⟩=some (.string (ofL i)):=hc2 1 zd;have c2':w1.cell? ⟨bw,ow+2,none⟩=some (.string (ofL dy)):=hc2 2 zd;have c3':w1.cell? ⟨bw,ow+3,none⟩=some (.string (ofL kw)):=hc2 3 zd
   have HE:Hid (zAG (L.drop k)=match zDv dy with
    | some n=>if rowL i=true∧0<kdX kw then bodyX (ofL i) n (kdX kw) (L.drop k).tail else .error (L.drop k)
    | none=>.error (L.drop k)):=HP0.o
   clear hst hlo hc2 HST HWT HP0;obtain ⟨q,hq⟩:∃ q,q=w.heap.size+1:=⟨_,rfl⟩;have HQ:=zq hq;rw [←hq] at HD1;have hqb:q<bw:=za;clear hq hs2;have y0:w1.cell? ⟨q,0,none⟩=some (.string ⟨#[]⟩):=HD1.o.bx.c 0 rfl;have hsx:=HD1.o.bx.lt;have hfx:=HD1.o.bx.frozen;obtain ⟨wA,hwA⟩:∃ wA,wA=w1.setCell ⟨q,0,none⟩ (.string (ofL i)):=⟨_,rfl⟩;have gA:w1.grownBy wA (some q):=by rw [hwA];exact zAn _ _ _
   have HDA:Hid (DeI wA q { zBV with id:=ofL i }):=by
    show DeI _ _ _
    rw [hwA];exact HD1.o.set 0 _ rfl ⟨rfl,rfl⟩ ⟨rfl,rfl⟩ (fun h=>absurd h zd) (fun _ _ e=>vz)
   have HGA:=zq gA;have a2:wA.cell? ⟨bw,ow+2,none⟩=some (.string (ofL dy)):=gA.cell c2' fun e=>by have:bw=q:=jp;omega
   have HN:=zq (readNumber_c (ofL dy) wA zr);rw [numV_ans] at HN;clear gA HD1;rw [←HQ.o];go_upto_region 5 with fail
   rw [←hwA];clear hwA y0 hsx hfx c2'
   go_wp2_with fail
   with_reducible refine HN.o.mono ?_
   rintro e w2 ⟨rfl,hb2⟩;rw [numA_two];have HD2:=zq (HDA.o.below hb2);have HB2:=zq hb2;obtain ⟨nv,hnv⟩:∃ nv,nv=(zDv dy).getD 0:=⟨_,rfl⟩;obtain ⟨okN,hok⟩:∃ okN,okN=(zDv dy).isSome:=⟨_,rfl⟩;have HNV:=zq hnv;have HOK:=zq hok;rw [←hnv,←hok];have y1:w2.cell? ⟨q,1,none⟩=some (.int .i64 0):=HD2.o.bx.c 1 rfl;have hsx:=HD2.o.bx.lt;have hfx:=HD2.o.bx.frozen;obtain ⟨wB,hwB⟩:∃ wB,wB=w2.setCell ⟨q,1,none⟩ (.int .i64 (nv:Int)):=⟨_,rfl⟩;have gB:w2.grownBy wB (some q):=by rw [hwB];exact zAn _ _ _
   have HDB:Hid (DeI wB q { zBV with id:=ofL i,day:=nv }):=by
    show DeI _ _ _
    rw [hwB];exact HD2.o.set 1 _ rfl ⟨rfl,rfl⟩ ⟨rfl,rfl⟩ (fun h=>absurd h zd) (fun _ _ e=>vz)
   have HG1B:Hid (w1.grownBy wB (some q)):=(HGA.o.trans (zAA hb2 q)).trans gB;clear gB hb2 hnv hok HN HDA HGA HB2 HD2 a2;go_upto_region 6 with fail
   rw [←hwB];clear hwB y1 hsx hfx;obtain ⟨dB,hdB⟩:∃ dB:De,dB = { zBV with id:=ofL i,day:=nv }:=⟨_,rfl⟩
   obtain ⟨kx,hkx⟩:∃ kx,kx=kdX kw:=⟨_,rfl⟩;have HKX:=zq hkx;have hk0:=kdX_le kw;rw [←hkx] at hk0;have HDB2:=zq hdB
   have HDB3:Hid (DeI wB q { dB with kd:=if kx<((1:Nat):Int) then kx else 0 }):=by
    have e:(if kx<((1:Nat):Int) then kx else 0)=0:=by split<;>omega
    show DeI _ _ _
    rw [e,hdB];exact HDB.o
   clear hdB hkx HDB
   go_wp2_with fail
   go_loopg [6] 5 (KdRel wB q dB kx)
   case atStart=>exact ⟨1,za,za,rfl,HDB3.o,World.grownBy.refl _ _⟩
   case round =>
    obtain ⟨j,hjm,hj1,rfl,hd,hgr⟩:=hrel;have HDR:=zq hd;have HGR:=zq hgr;have HJ:=zq hjm;have c3:wr.cell? ⟨bw,ow+3,none⟩=some (.string (ofL kw)):=(HG1B.o.trans hgr).cell c3' fun e=>by have:bw=q:=jp;omega
    clear hd hgr hjm c1' c3'
    by_cases hj5:j≤5
    ·have HWD:=zq (fun u=>(word_c (j:Int) u ⟨za,za⟩).mono (R':=fun e u'=>e = .returned (.string (kdS (j:Int)))∧u'=u) fun _ _ h=>⟨h.1,h.2.symm⟩)
     have hkw:(kdS (j:Int)=ofL kw)↔kx=(j:Int):=by
      have h:=kdX_at kw (j:=(j:Int)) za za;rw [HKX.o];refine Iff.trans ⟨fun e=>?_,fun e=>?_⟩ h
      ·rw [e,zAj]
      ·rw [←zDJ (kdS (j:Int)),e]
     have HKD:Hid ((if kx<((j+1:Nat):Int) then kx else 0)=if kx=(j:Int) then (j:Int) else (if kx<(j:Int) then kx else 0)):=by
      show _=_
      split<;>split<;>(try split)<;>omega
     generalize kdS (j:Int)=sj at *
     by_cases hks:sj=ofL kw
     ·have e1:=zAy hks
      have HKJ:=zq (hkw.1 hks);clear hkw hks;go_upto_region 9 with fail
      go_quiet ((go_at_call 30;exact Calls.quiet_of_same (HWD.o _)))
      have HDN:=zq (HDR.o.below (zAc (bS _ _) nq));have HGN:=zq (HGR.o.trans (zAA (zAc (bS _ _) nq) q));clear c3 HDR HGR e1;generalize wr.drewN nq=w5 at *;have y2:w5.cell? ⟨q,2,none⟩=some (.int .i64 (if kx<(j:Int) then kx else 0)):=HDN.o.bx.c 2 rfl
      have hsx:=HDN.o.bx.lt;have hfx:=HDN.o.bx.frozen
      have HDC:Hid (DeI (w5.setCell ⟨q,2,none⟩ (.int .i64 (j:Int))) q { dB with kd:=if kx<((j+1:Nat):Int) then kx else 0 }):=by
       show DeI _ _ _
       rw [HKD.o,aE HKJ.o];exact HDN.o.set 2 _ rfl ⟨rfl,rfl⟩ ⟨rfl,rfl⟩ HDN.o.shs HDN.o.shq
      have HGC:=zq (HGN.o.trans (zAn w5 ⟨q,2,none⟩ (.int .i64 (j:Int))))
      go_wp2_with fail
      go_roundg (gk - 1)
      case measure=>have:=HJ.o;omega
      case rel=>exact ⟨j+1,by have:=HJ.o;omega,za,zn,HDC.o,HGC.o⟩
     ·have e1:=zAo hks
      have HKJ:Hid (¬ kx=(j:Int)):=fun e=>hks (hkw.2 e)
      clear hkw hks;go_upto_region 9 with fail
      go_quiet ((go_at_call 30;exact Calls.quiet_of_same (HWD.o _)))
      have HDN:=zq (HDR.o.below (zAc (bS _ _) nq));have HGN:=zq (HGR.o.trans (zAA (zAc (bS _ _) nq) q));clear c3 HDR HGR e1;generalize wr.drewN nq=w5 at *
      have HDC:Hid (DeI w5 q { dB with kd:=if kx<((j+1:Nat):Int) then kx else 0 }):=by
       show DeI _ _ _
       rw [HKD.o,aC HKJ.o];exact HDN.o
      go_wp2_with fail
      go_roundg (gk - 1)
      case measure=>have:=HJ.o;omega
      case rel=>exact ⟨j+1,by have:=HJ.o;omega,za,zn,HDC.o,HGN.o⟩
    ·have hj6:j=6:=by have:=HJ.o;omega
     have HDE:Hid (DeI wr q { dB with kd:=kx }):=by
      have h:=HDR.o;rw [hj6,aE za] at h;exact h
     clear HDR c3 HJ
     have HDF:Hid (zAG (L.drop k)=if okN=true∧rowL i=true∧0<kx then bodyX (ofL i) nv kx (L.drop (k+1)) else .error (L.drop k)):=by
      show _=_
      rw [HE.o,HOK.o,HNV.o,HKX.o,zAX]
      cases zDv dy with
      | none=>simp
      | some n=>simp
     have HFN:Hid (∀ (wx:World) (ok:Bool),Below wr.heap.size wr wx→ok=(okN&&rowL i&&decide (0<kx))→∃ (ok':Bool) (d:De),Value.bool ok = .bool ok'∧DeI wx (w.heap.size+1) d∧RdI wx r LA c L k false∧KeptB w.heap.size r w wx∧Bx wx w.heap.size (deC zBV) 47 ∧
       (ok'=true→k<L.length∧(1≤d.kd∧d.kd≤5)∧d = { zBV with id:=d.id,day:=d.day,kd:=d.kd }∧zAG (L.drop k)=bodyX d.id d.day d.kd (L.drop (k+1)))∧(ok'=false→zAG (L.drop k) = .error (L.drop k))):=fun wx ok hb hok=>by
      have hg1:=(HG1B.o.trans HGR.o);have hqw:q=w.heap.size+1:=HQ.o;refine ⟨ok,{ dB with kd:=kx },rfl,?_,?_,?_,?_,fun h=>?_,fun h=>?_⟩
      ·rw [←hqw];exact HDE.o.below hb
      ·exact (HI1.o.grown hg1 za (fun b o e=>xe)).below hb
      ·refine (KeptB.below HB1.o).trans (KeptB.trans ⟨hg1.os,hg1.tape,hg1.output,hg1.size,fun i hi _=>hg1.block i (cX hi HB1.o.size) fun e=>yk⟩ (KeptB.below (hb.mono (cV HB1.o.size hg1.size))))
      ·exact Bx.below ((hg1.block _ HR1.o.lt fun e=>yk).trans HR1.o) hb
      ·rw [h] at hok
       simp only [Bool.true_eq,dA,aH] at hok;refine ⟨hkl,⟨by show 1≤kx;omega,by show kx≤5;omega⟩,?_,?_⟩
       ·rw [HDB2.o]
       ·rw [HDF.o,aE ⟨hok.1.1,hok.1.2,hok.2⟩,HDB2.o]
      ·rw [HDF.o,aC]
       rintro ⟨h1,h2,h3⟩;rw [hok,h1,h2,cP h3] at h
       cases h
     have y0:wr.cell? ⟨q,0,none⟩=some (.string (ofL i)):=by
      have h:=HDE.o.bx.c 0 rfl;rw [HDB2.o] at h;exact h
     have y2:wr.cell? ⟨q,2,none⟩=some (.int .i64 kx):=HDE.o.bx.c 2 rfl;have hsx:=HDE.o.bx.lt;have HR:=zq (isRow_c (ofL i) wr zr);rw [zAj] at HR;clear HDF HE HDE
     cases okN with
     | false =>
      go_wp2_with fail
      rw [HQ.o];go_meet;exact HFN.o wr false (bS _ _) zd
     | true =>
      generalize rowL i=b at *
      go_wp2_with fail
      with_reducible refine HR.o.mono ?_
      rintro e w7 ⟨rfl,hb7⟩;have HB7:=zq hb7;have z2:=zAh hb7 y2;have hs7:q<w7.heap.size:=cX hsx hb7.size;clear hb7 y0 y2 hsx
      cases b with
      | false =>
       go_wp2_with fail
       rw [HQ.o];go_meet;exact HFN.o w7 false HB7.o zd
      | true =>
       by_cases hkp:0<kx
       ·go_wp2_with fail
        rw [HQ.o];go_meet;exact HFN.o w7 true HB7.o (by simp [hkp])
       ·have q1:decide (0<kx)=false:=cQ hkp
        go_wp2_with fail
        rw [HQ.o];go_meet;exact HFN.o w7 false HB7.o (by simp [hkp])
 case rest =>
  obtain ⟨ok,d,rfl,hd,hi,hk,hx,hyes,hno⟩:=hcut;have HDC:=zq hd;have HKC:=zq hk;have HXC:=zq hx;have HYES:=zq hyes;have HNO:=zq hno;have HN:=zq (next_c r LA c L k false ok wc hi (fun h=>(hyes h).1))
  clear hd hi hk hx hyes hno HD1 HR1 HB1 HI1 HST HWT HP0
  go_wp2_with fail
  with_reducible refine HN.o.mono ?_
  rintro e w2 ⟨rfl,hi2,hg2⟩;rw [Bool.false_or] at hi2;have x2:w2.cell? ⟨r,2,none⟩=some (.bool (!ok)):=hi2.bx.c 2 rfl;have hrs:=hi2.bx.lt;have hd2:DeI w2 (w.heap.size+1) d:=HDC.o.grown hg2 za;have hk2:KeptB w.heap.size r w w2:=HKC.o.trans (KeptB.grown hg2 HKC.o.size);have hx2:Bx w2 w.heap.size (deC zBV) 47:=(hg2.block _ HXC.o.lt fun e=>yk).trans HXC.o
  cases ok with
  | false =>
   obtain ⟨hst,hz,hgv⟩:=rd_end (k:=k) hrw HLA.o hd2 hi2 hk2 hx2 rfl ⟨fun _=>HNO.o rfl,(fun h=>zy)⟩
   have HX:=zq hd2.bx;have HST:=zq hst;have HZ:=zq hz;have HGV:=zq hgv;clear hi2 hg2 hd2 hk2 hx2 hst hz hgv HN HDC HKC HXC HYES HNO;go_upto_region 14 with fail
   iterate 2 go_step
   refine eA _ _ zo (w.heap.size+1) 0 zo (deC d).toList _ (zBu HX.o) Tryz.underlying47 rfl zb ?_
   go_wp2_with (refine zAg rfl _ _ _ rfl ⟨w.heap.size,0,none⟩ (deV d) rfl rfl HST.o ?_)
   refine dD (v:=deV d) (res_deed rfl HZ.o) rfl ?_
   exact HGV.o
  | true =>
   obtain ⟨hkl,hkd,hde,hbody⟩:=HYES.o rfl
   have HST:Hid (Stp st1 (zAG (L.drop k)) L d (k+1) false):=⟨(fun h=>zy),fun _=>by
    rw [hbody,bodyX_st]
    congr 1
    rw [hde]
    rfl⟩
   have HDZ:=zq hde;have HD2:=zq hd2;have HI2:=zq hi2;have HK2:=zq hk2;have HX2:=zq hx2;have HFO:=zq (zCM d.kd w2 hkd);rw [fldC_eq hkd] at HFO;have y2:w2.cell? ⟨w.heap.size+1,2,none⟩=some (.int .i64 d.kd):=hd2.bx.c 2 rfl;have hsx:=hd2.bx.lt;clear hi2 hg2 hd2 hk2 hx2 HN HDC HKC HXC HYES HNO hde hbody
   go_wp2_with fail
   with_reducible refine HFO.o.mono ?_
   rintro e w3 ⟨rfl,hb3⟩;have hba:Below w3.heap.size w3 (w3.alloc (.cells (fldB d.kd) 84)):=(bS _ _).alloc (aB _) _;have hbt:=zAb hb3 hba
   have HBD:Hid (BdM w r LA c L w3.heap.size (fldB d.kd) 84 (w3.alloc (.cells (fldB d.kd) 84)) d (k+1) false) :=
    ⟨HD2.o.below hbt,HI2.o.below hbt,HK2.o.trans (KeptB.below (hbt.mono HK2.o.size)),HX2.o.below hbt,Bx.new _ _ _,cX HD2.o.bx.lt hb3.size⟩
   clear HFO HD2 HI2 HK2 HX2 hba hbt hb3 y2 hsx x2 hrs;go_upto_region 16 with fail
   obtain ⟨u,hu⟩:∃ u,u=w3.heap.size:=⟨_,rfl⟩;obtain ⟨w4,hw4⟩:∃ w4,w4=w3.alloc (.cells #[.bool (zAf d.kd || decide (d.kd=1)),.bool (zAf d.kd || decide (d.kd=5)),.bool (zAf d.kd),.bool (decide (d.kd=2)),.bool (decide (d.kd=3)),.bool (zAf d.kd),.bool (zAf d.kd),.bool (decide (d.kd=1) || decide (d.kd=5)),.bool (decide (d.kd=4))] 84):=⟨_,rfl⟩
   have HB4:Hid (BdM w r LA c L u (fldB d.kd) 84 w4 d (k+1) false):=by
    show BdM _ _ _ _ _ _ _ _ _ _ _ _
    rw [hw4,hu];exact HBD.o
   rw [←hw4,←hu];clear hw4 hu HBD;have hk5:d.kd=1∨d.kd=2∨d.kd=3∨d.kd=4∨d.kd=5:=za
   rcases hk5 with h4 | h4 | h4 | h4 | h4
   ·have HK4:=zq h4
    rw [h4] at HB4;have Cth:Hid ((zAf d.kd || decide (d.kd=1))=true):=zi
    have Cfr:Hid ((zAf d.kd || decide (d.kd=5))=false):=zi
    have Cto:Hid (zAf d.kd=false):=zi;have Cpt:Hid (decide (d.kd=2)=false):=zi;have Cex:Hid (decide (d.kd=3)=false):=zi;have Csb:Hid (decide (d.kd=3)=false):=zi;have Car:Hid (zAf d.kd=false):=zi;have Cus:Hid (zAf d.kd=false):=zi;have Cen:Hid (zAf d.kd=false):=zi;have Csh:Hid (divB d.kd=true):=zi;have Cot:Hid (decide (d.kd=4)=false):=zi;clear hkd h4;have u0:w4.cell? ⟨u,0,none⟩=some (.bool true):=HB4.o.fl.c 0 rfl;have ul:=HB4.o.fl.lt
    have HN:Hid (Calls Tryz.prog 33 #[.pointer (some ⟨r,0,none⟩),.string ⟨#[116,104,105,110,103]⟩] w4 (zBJ (.string (ofL ((nmO false zBq (L.drop (k+1))).getD []))) r LA c L (nxk (k+1) (nmO false zBq (L.drop (k+1))).isSome) (false || !(nmO false zBq (L.drop (k+1))).isSome) w4)) :=
     name_c r LA c L (k+1) false ⟨#[116,104,105,110,103]⟩ w4 HB4.o.rd (HG0.o.kept HB4.o.kp hg hrw)
    have HQ5:=zq (HST.o.th Cth.out);generalize nmO false zBq (L.drop (k+1))=an5 at HN HQ5;generalize ofL (an5.getD [])=x5 at HN HQ5;generalize nxk (k+1) an5.isSome=k5 at HN HQ5;generalize (false || !an5.isSome)=bad5 at HN HQ5
    go_wp2_with fail
    with_reducible refine HN.o.mono ?_
    rintro e v5 ⟨rfl,hi,hgr⟩;have HP5:=zq (HB4.o.next hrw hi hgr);have y:v5.cell? ⟨w.heap.size+1,3,none⟩=some (.string d.th):=HP5.o.de.bx.c 3 rfl;have hsx:=HP5.o.de.bx.lt;have hfx:=HP5.o.de.bx.frozen;have HB5:=zq (HP5.o.put (d':={ d with th:=x5 }) hrw HLA.o 3 (.string x5) rfl ⟨rfl,rfl⟩ ⟨rfl,rfl⟩ HP5.o.de.shs HP5.o.de.shq)
    clear hi hgr HN HB4 HST ul;go_upto_region 18 with fail
    generalize v5.setCell ⟨w.heap.size+1,3,none⟩ (.string x5)=w5 at *;clear y hsx hfx;have u1:w5.cell? ⟨u,1,none⟩=some (.bool false):=HB5.o.fl.c 1 rfl;have ul:=HB5.o.fl.lt;have HS5fr:=zq (HQ5.o.fr0 Cfr.out yx);have u2:w5.cell? ⟨u,2,none⟩=some (.bool false):=HB5.o.fl.c 2 rfl;have ul:=HB5.o.fl.lt;have HS5to:=zq (HS5fr.o.to0 Cto.out yx);have u3:w5.cell? ⟨u,3,none⟩=some (.bool false):=HB5.o.fl.c 3 rfl;have ul:=HB5.o.fl.lt;have HS5pt:=zq (HS5to.o.pt0 Cpt.out qo);have u4:w5.cell? ⟨u,4,none⟩=some (.bool false):=HB5.o.fl.c 4 rfl;have ul:=HB5.o.fl.lt;have HS5ex:=zq (HS5pt.o.ex0 Cex.out zj);have HS5sb:=zq (HS5ex.o.sb0 Csb.out zj);have u5:w5.cell? ⟨u,5,none⟩=some (.bool false):=HB5.o.fl.c 5 rfl;have ul:=HB5.o.fl.lt;have HS5ar:=zq (HS5sb.o.ar0 Car.out zj);have HS5us:=zq (HS5ar.o.us0 Cus.out zj)
    have HN:Hid (Calls Tryz.prog 39 #[.pointer (some ⟨r,0,none⟩),.string ⟨#[98,101,103,105,110]⟩] w5 (zBJ (.int .i64 (((nuO bad5 zAM (L.drop k5)).getD 0:Nat):Int)) r LA c L (nxk k5 (nuO bad5 zAM (L.drop k5)).isSome) (bad5 || !(nuO bad5 zAM (L.drop k5)).isSome) w5)) :=
     rdNum_c r LA c L k5 bad5 ⟨#[98,101,103,105,110]⟩ w5 HB5.o.rd (HG0.o.kept HB5.o.kp hg hrw)
    have HQ6:=zq (HS5us.o.bg);generalize nuO bad5 zAM (L.drop k5)=an6 at HN HQ6;generalize an6.getD 0=x6 at HN HQ6;generalize nxk k5 an6.isSome=k6 at HN HQ6;generalize (bad5 || !an6.isSome)=bad6 at HN HQ6
    go_wp2_with fail
    with_reducible refine HN.o.mono ?_
    rintro e v6 ⟨rfl,hi,hgr⟩;have HP6:=zq (HB5.o.next hrw hi hgr);have y:v6.cell? ⟨w.heap.size+1,12,none⟩=some (.int .i64 d.bg):=HP6.o.de.bx.c 12 rfl;have hsx:=HP6.o.de.bx.lt;have hfx:=HP6.o.de.bx.frozen;have HB6:=zq (HP6.o.put (d':={ d with th:=x5,bg:=(x6:Int) }) hrw HLA.o 12 (.int .i64 (x6:Int)) rfl ⟨rfl,rfl⟩ ⟨rfl,rfl⟩ HP6.o.de.shs HP6.o.de.shq)
    clear hi hgr HN HB5 HS5us ul;go_upto_region 31 with fail
    generalize v6.setCell ⟨w.heap.size+1,12,none⟩ (.int .i64 (x6:Int))=w6 at *;clear y hsx hfx;have u6:w6.cell? ⟨u,6,none⟩=some (.bool false):=HB6.o.fl.c 6 rfl;have ul:=HB6.o.fl.lt;have HS6en:=zq (HQ6.o.en0 Cen.out zj);have u7:w6.cell? ⟨u,7,none⟩=some (.bool true):=HB6.o.fl.c 7 rfl;have ul:=HB6.o.fl.lt;have HN:Hid (Calls Tryz.prog 40 #[.pointer (some ⟨r,0,none⟩)] w6 (GivesShs (shsO bad6 (L.drop k6)) r LA c L k6 bad6 w6)):=shares_c r LA c L k6 bad6 w6 HB6.o.rd (HG0.o.kept HB6.o.kp hg hrw) hg;have HQ7:=zq (fun A c=>HS6en.o.sh Csh.out A c)
    go_wp2_with fail
    with_reducible refine HN.o.mono ?_
    rintro e v7 ⟨A7,c7,rfl,hs,hb,hi,hgr⟩;have HP7:=zq (HB6.o.next hrw hi hgr);have HQ7x:=zq (HQ7.o A7 c7);generalize shsO bad6 (L.drop k6)=x7 at *;generalize k6+x7.length=k7 at *;have y:v7.cell? ⟨w.heap.size+1,14,none⟩=some (.slice d.shA d.sh.length d.shc):=HP7.o.de.bx.c 14 rfl;have hsx:=HP7.o.de.bx.lt;have hfx:=HP7.o.de.bx.frozen;have HB7:=zq (HP7.o.put (d':={ d with th:=x5,bg:=(x6:Int),shA:=A7,sh:=x7,shc:=c7 }) hrw HLA.o 14 (.slice A7 x7.length c7) rfl ⟨rfl,rfl⟩ ⟨rfl,rfl⟩ hs (fun b o e=>by have h1:=hb b o e;have h2:=HB6.o.de.bx.lt;omega))
    clear hi hgr hs hb HN HB6 HS6en HQ7 ul;go_upto_region 35 with fail
    generalize v7.setCell ⟨w.heap.size+1,14,none⟩ (.slice A7 x7.length c7)=w7 at *;clear y hsx hfx;have u8:w7.cell? ⟨u,8,none⟩=some (.bool false):=HB7.o.fl.c 8 rfl;have ul:=HB7.o.fl.lt;have HS7ot:=zq (HQ7x.o.ot0 Cot.out yx);obtain ⟨d2,hd2⟩:∃ d2,d2 = { d with th:=x5,bg:=(x6:Int),shA:=A7,sh:=x7,shc:=c7 }:=⟨_,rfl⟩
    rw [←hd2] at HB7 HS7ot;obtain ⟨hst,hz,hgv⟩:=rd_end (k:=k) hrw HLA.o HB7.o.de HB7.o.rd HB7.o.kp HB7.o.rs rfl HS7ot.o;have HX:=zq HB7.o.de.bx;have HSR:=zq hst;have HZ:=zq hz;have HGV:=zq hgv;clear hst hz hgv HB7 HS7ot hd2 HDZ;go_upto_region 37 with fail
    iterate 2 go_step
    refine eA _ _ zo (w.heap.size+1) 0 zo (deC d2).toList _ (zBu HX.o) Tryz.underlying47 rfl zb ?_
    go_wp2_with (refine zAg rfl _ _ _ rfl ⟨w.heap.size,0,none⟩ (deV d2) rfl rfl HSR.o ?_)
    refine dD (v:=deV d2) (res_deed rfl HZ.o) rfl ?_
    exact HGV.o
   ·have HK4:=zq h4
    rw [h4] at HB4;have Cth:Hid ((zAf d.kd || decide (d.kd=1))=true):=zi
    have Cfr:Hid ((zAf d.kd || decide (d.kd=5))=true):=zi
    have Cto:Hid (zAf d.kd=true):=zi;have Cpt:Hid (decide (d.kd=2)=true):=zi;have Cex:Hid (decide (d.kd=3)=false):=zi;have Csb:Hid (decide (d.kd=3)=false):=zi;have Car:Hid (zAf d.kd=true):=zi;have Cus:Hid (zAf d.kd=true):=zi;have Cen:Hid (zAf d.kd=true):=zi;have Csh:Hid (divB d.kd=false):=zi;have Cot:Hid (decide (d.kd=4)=false):=zi;clear hkd h4;have u0:w4.cell? ⟨u,0,none⟩=some (.bool true):=HB4.o.fl.c 0 rfl;have ul:=HB4.o.fl.lt
    have HN:Hid (Calls Tryz.prog 33 #[.pointer (some ⟨r,0,none⟩),.string ⟨#[116,104,105,110,103]⟩] w4 (zBJ (.string (ofL ((nmO false zBq (L.drop (k+1))).getD []))) r LA c L (nxk (k+1) (nmO false zBq (L.drop (k+1))).isSome) (false || !(nmO false zBq (L.drop (k+1))).isSome) w4)) :=
     name_c r LA c L (k+1) false ⟨#[116,104,105,110,103]⟩ w4 HB4.o.rd (HG0.o.kept HB4.o.kp hg hrw)
    have HQ5:=zq (HST.o.th Cth.out);generalize nmO false zBq (L.drop (k+1))=an5 at HN HQ5;generalize ofL (an5.getD [])=x5 at HN HQ5;generalize nxk (k+1) an5.isSome=k5 at HN HQ5;generalize (false || !an5.isSome)=bad5 at HN HQ5
    go_wp2_with fail
    with_reducible refine HN.o.mono ?_
    rintro e v5 ⟨rfl,hi,hgr⟩;have HP5:=zq (HB4.o.next hrw hi hgr);have y:v5.cell? ⟨w.heap.size+1,3,none⟩=some (.string d.th):=HP5.o.de.bx.c 3 rfl;have hsx:=HP5.o.de.bx.lt;have hfx:=HP5.o.de.bx.frozen;have HB5:=zq (HP5.o.put (d':={ d with th:=x5 }) hrw HLA.o 3 (.string x5) rfl ⟨rfl,rfl⟩ ⟨rfl,rfl⟩ HP5.o.de.shs HP5.o.de.shq)
    clear hi hgr HN HB4 HST ul;go_upto_region 18 with fail
    generalize v5.setCell ⟨w.heap.size+1,3,none⟩ (.string x5)=w5 at *;clear y hsx hfx;have u1:w5.cell? ⟨u,1,none⟩=some (.bool true):=HB5.o.fl.c 1 rfl;have ul:=HB5.o.fl.lt
    have HN:Hid (Calls Tryz.prog 33 #[.pointer (some ⟨r,0,none⟩),.string ⟨#[102,114,111,109]⟩] w5 (zBJ (.string (ofL ((nmO bad5 zCa (L.drop k5)).getD []))) r LA c L (nxk k5 (nmO bad5 zCa (L.drop k5)).isSome) (bad5 || !(nmO bad5 zCa (L.drop k5)).isSome) w5)) :=
     name_c r LA c L k5 bad5 ⟨#[102,114,111,109]⟩ w5 HB5.o.rd (HG0.o.kept HB5.o.kp hg hrw)
    have HQ6:=zq (HQ5.o.fr Cfr.out);generalize nmO bad5 zCa (L.drop k5)=an6 at HN HQ6;generalize ofL (an6.getD [])=x6 at HN HQ6;generalize nxk k5 an6.isSome=k6 at HN HQ6;generalize (bad5 || !an6.isSome)=bad6 at HN HQ6
    go_wp2_with fail
    with_reducible refine HN.o.mono ?_
    rintro e v6 ⟨rfl,hi,hgr⟩;have HP6:=zq (HB5.o.next hrw hi hgr);have y:v6.cell? ⟨w.heap.size+1,4,none⟩=some (.string d.fr):=HP6.o.de.bx.c 4 rfl;have hsx:=HP6.o.de.bx.lt;have hfx:=HP6.o.de.bx.frozen;have HB6:=zq (HP6.o.put (d':={ d with th:=x5,fr:=x6 }) hrw HLA.o 4 (.string x6) rfl ⟨rfl,rfl⟩ ⟨rfl,rfl⟩ HP6.o.de.shs HP6.o.de.shq)
    clear hi hgr HN HB5 HQ5 ul;go_upto_region 20 with fail
    generalize v6.setCell ⟨w.heap.size+1,4,none⟩ (.string x6)=w6 at *;clear y hsx hfx;have u2:w6.cell? ⟨u,2,none⟩=some (.bool true):=HB6.o.fl.c 2 rfl;have ul:=HB6.o.fl.lt
    have HN:Hid (Calls Tryz.prog 33 #[.pointer (some ⟨r,0,none⟩),.string ⟨#[116,111]⟩] w6 (zBJ (.string (ofL ((nmO bad6 kTo (L.drop k6)).getD []))) r LA c L (nxk k6 (nmO bad6 kTo (L.drop k6)).isSome) (bad6 || !(nmO bad6 kTo (L.drop k6)).isSome) w6)) :=
     name_c r LA c L k6 bad6 ⟨#[116,111]⟩ w6 HB6.o.rd (HG0.o.kept HB6.o.kp hg hrw)
    have HQ7:=zq (HQ6.o.to_ Cto.out);generalize nmO bad6 kTo (L.drop k6)=an7 at HN HQ7;generalize ofL (an7.getD [])=x7 at HN HQ7;generalize nxk k6 an7.isSome=k7 at HN HQ7;generalize (bad6 || !an7.isSome)=bad7 at HN HQ7
    go_wp2_with fail
    with_reducible refine HN.o.mono ?_
    rintro e v7 ⟨rfl,hi,hgr⟩;have HP7:=zq (HB6.o.next hrw hi hgr);have y:v7.cell? ⟨w.heap.size+1,5,none⟩=some (.string d.to_):=HP7.o.de.bx.c 5 rfl;have hsx:=HP7.o.de.bx.lt;have hfx:=HP7.o.de.bx.frozen;have HB7:=zq (HP7.o.put (d':={ d with th:=x5,fr:=x6,to_:=x7 }) hrw HLA.o 5 (.string x7) rfl ⟨rfl,rfl⟩ ⟨rfl,rfl⟩ HP7.o.de.shs HP7.o.de.shq)
    clear hi hgr HN HB6 HQ6 ul;go_upto_region 22 with fail
    generalize v7.setCell ⟨w.heap.size+1,5,none⟩ (.string x7)=w7 at *;clear y hsx hfx;have u3:w7.cell? ⟨u,3,none⟩=some (.bool true):=HB7.o.fl.c 3 rfl;have ul:=HB7.o.fl.lt
    have HN:Hid (Calls Tryz.prog 34 #[.pointer (some ⟨r,0,none⟩)] w7 (GivesPa (paO bad7 (L.drop k7)) r LA c L (nxk k7 (paO bad7 (L.drop k7)).isSome) (bad7 || !(paO bad7 (L.drop k7)).isSome) w7)) :=
     part_c r LA c L k7 bad7 w7 HB7.o.rd (HG0.o.kept HB7.o.kp hg hrw)
    have HQ8:Hid (∀ s1 s2:BA,(∀ p,paO bad7 (L.drop k7)=some p→s1=ofL p.1∧s2=ofL p.2)→Stp st5 (zAG (L.drop k)) L { d with th:=x5,fr:=x6,to_:=x7,nu:=s1,de:=s2 } (nxk k7 (paO bad7 (L.drop k7)).isSome) (bad7 || !(paO bad7 (L.drop k7)).isSome)):=fun s1 s2 hs=>HQ7.o.pt Cpt.out hs
    generalize paO bad7 (L.drop k7)=an8 at HN HQ8;generalize nxk k7 an8.isSome=k8 at HN HQ8;generalize (bad7 || !an8.isSome)=bad8 at HN HQ8
    go_wp2_with fail
    with_reducible refine HN.o.mono ?_
    rintro e v8 ⟨s1,s2,rfl,hss,hi,hgr⟩;have HP8:=zq (HB7.o.next hrw hi hgr);have HQQ:=zq (HQ8.o s1 s2 hss);have y6:v8.cell? ⟨w.heap.size+1,6,none⟩=some (.string d.nu):=HP8.o.de.bx.c 6 rfl;have y7:v8.cell? ⟨w.heap.size+1,7,none⟩=some (.string d.de):=HP8.o.de.bx.c 7 rfl;have hsx:=HP8.o.de.bx.lt;have hfx:=HP8.o.de.bx.frozen;have HPP:=zq (HP8.o.put (d':={ d with th:=x5,fr:=x6,to_:=x7,nu:=s1 }) hrw HLA.o 6 (.string s1) rfl ⟨rfl,rfl⟩ ⟨rfl,rfl⟩ HP8.o.de.shs HP8.o.de.shq)
    have HB8:=zq (HPP.o.put (d':={ d with th:=x5,fr:=x6,to_:=x7,nu:=s1,de:=s2 }) hrw HLA.o 7 (.string s2) rfl ⟨rfl,rfl⟩ ⟨rfl,rfl⟩ HPP.o.de.shs HPP.o.de.shq)
    clear hi hgr HN HB7 HQ7 HPP hss ul;go_upto_region 24 with fail
    generalize (v8.setCell ⟨w.heap.size+1,6,none⟩ (.string s1)).setCell ⟨w.heap.size+1,7,none⟩ (.string s2)=w8 at *;clear y6 y7 hsx hfx;have u4:w8.cell? ⟨u,4,none⟩=some (.bool false):=HB8.o.fl.c 4 rfl;have ul:=HB8.o.fl.lt;have HS8ex:=zq (HQQ.o.ex0 Cex.out zj);have HS8sb:=zq (HS8ex.o.sb0 Csb.out zj);have u5:w8.cell? ⟨u,5,none⟩=some (.bool true):=HB8.o.fl.c 5 rfl;have ul:=HB8.o.fl.lt;have HN:=zq (areas_names r (w.heap.size+1) LA c L k8 bad8 { d with th:=x5,fr:=x6,to_:=x7,nu:=s1,de:=s2 } u _ 84 w8 HB8.o.fl HB8.o.uq HB8.o.rd HB8.o.de zj zj zj zj za (fun b o e=>xe) (HG0.o.kept HB8.o.kp hg hrw) hg)
    have HQ9:=zq (fun A c=>HS8sb.o.ar Car.out A c)
    generalize arsO bad8 (L.drop k8)=x9 at HN HQ9;generalize k8+x9.length=k9 at HN HQ9
    go_wp2_with fail
    with_reducible refine HN.o.mono ?_
    rintro e w9 ⟨rfl,A9,c9,hd,hi,hk,hf⟩;have HB9:=zq (HB8.o.names hd hi hk hrw hf);have HQ9x:=zq (HQ9.o A9 c9);clear hd hi hk hf HN HB8 HS8sb HQ9 ul;go_upto_region 29 with fail
    have HN:=zq (uses_names r (w.heap.size+1) LA c L k9 bad8 { d with th:=x5,fr:=x6,to_:=x7,nu:=s1,de:=s2,arA:=A9,ar:=x9,arc:=c9 } u _ 84 w9 HB9.o.fl HB9.o.uq HB9.o.rd HB9.o.de zj zj zj zj za (fun b o e=>xe) (HG0.o.kept HB9.o.kp hg hrw) hg)
    have HQ10:=zq (fun A c=>HQ9x.o.us Cus.out A c)
    generalize ussO bad8 (L.drop k9)=x10 at HN HQ10;generalize k9+x10.length=k10 at HN HQ10
    go_wp2_with fail
    with_reducible refine HN.o.mono ?_
    rintro e w10 ⟨rfl,A10,c10,hd,hi,hk,hf⟩;have HB10:=zq (HB9.o.names hd hi hk hrw hf);have HQ10x:=zq (HQ10.o A10 c10);clear hd hi hk hf HN HB9 HQ9x HQ10;go_upto_region 30 with fail
    have HN:Hid (Calls Tryz.prog 39 #[.pointer (some ⟨r,0,none⟩),.string ⟨#[98,101,103,105,110]⟩] w10 (zBJ (.int .i64 (((nuO bad8 zAM (L.drop k10)).getD 0:Nat):Int)) r LA c L (nxk k10 (nuO bad8 zAM (L.drop k10)).isSome) (bad8 || !(nuO bad8 zAM (L.drop k10)).isSome) w10)) :=
     rdNum_c r LA c L k10 bad8 ⟨#[98,101,103,105,110]⟩ w10 HB10.o.rd (HG0.o.kept HB10.o.kp hg hrw)
    have HQ11:=zq (HQ10x.o.bg);generalize nuO bad8 zAM (L.drop k10)=an11 at HN HQ11;generalize an11.getD 0=x11 at HN HQ11;generalize nxk k10 an11.isSome=k11 at HN HQ11;generalize (bad8 || !an11.isSome)=bad11 at HN HQ11
    go_wp2_with fail
    with_reducible refine HN.o.mono ?_
    rintro e v11 ⟨rfl,hi,hgr⟩;have HP11:=zq (HB10.o.next hrw hi hgr);have y:v11.cell? ⟨w.heap.size+1,12,none⟩=some (.int .i64 d.bg):=HP11.o.de.bx.c 12 rfl;have hsx:=HP11.o.de.bx.lt;have hfx:=HP11.o.de.bx.frozen;have HB11:=zq (HP11.o.put (d':={ d with th:=x5,fr:=x6,to_:=x7,nu:=s1,de:=s2,arA:=A9,ar:=x9,arc:=c9,usA:=A10,us:=x10,usc:=c10,bg:=(x11:Int) }) hrw HLA.o 12 (.int .i64 (x11:Int)) rfl ⟨rfl,rfl⟩ ⟨rfl,rfl⟩ HP11.o.de.shs HP11.o.de.shq)
    clear hi hgr HN HB10 HQ10x;go_upto_region 31 with fail
    generalize v11.setCell ⟨w.heap.size+1,12,none⟩ (.int .i64 (x11:Int))=w11 at *;clear y hsx hfx;have u6:w11.cell? ⟨u,6,none⟩=some (.bool true):=HB11.o.fl.c 6 rfl;have ul:=HB11.o.fl.lt
    have HN:Hid (Calls Tryz.prog 39 #[.pointer (some ⟨r,0,none⟩),.string ⟨#[101,110,100]⟩] w11 (zBJ (.int .i64 (((nuO bad11 kEnd (L.drop k11)).getD 0:Nat):Int)) r LA c L (nxk k11 (nuO bad11 kEnd (L.drop k11)).isSome) (bad11 || !(nuO bad11 kEnd (L.drop k11)).isSome) w11)) :=
     rdNum_c r LA c L k11 bad11 ⟨#[101,110,100]⟩ w11 HB11.o.rd (HG0.o.kept HB11.o.kp hg hrw)
    have HQ12:=zq (HQ11.o.en Cen.out);generalize nuO bad11 kEnd (L.drop k11)=an12 at HN HQ12;generalize an12.getD 0=x12 at HN HQ12;generalize nxk k11 an12.isSome=k12 at HN HQ12;generalize (bad11 || !an12.isSome)=bad12 at HN HQ12
    go_wp2_with fail
    with_reducible refine HN.o.mono ?_
    rintro e v12 ⟨rfl,hi,hgr⟩;have HP12:=zq (HB11.o.next hrw hi hgr);have y:v12.cell? ⟨w.heap.size+1,13,none⟩=some (.int .i64 d.en):=HP12.o.de.bx.c 13 rfl;have hsx:=HP12.o.de.bx.lt;have hfx:=HP12.o.de.bx.frozen;have HB12:=zq (HP12.o.put (d':={ d with th:=x5,fr:=x6,to_:=x7,nu:=s1,de:=s2,arA:=A9,ar:=x9,arc:=c9,usA:=A10,us:=x10,usc:=c10,bg:=(x11:Int),en:=(x12:Int) }) hrw HLA.o 13 (.int .i64 (x12:Int)) rfl ⟨rfl,rfl⟩ ⟨rfl,rfl⟩ HP12.o.de.shs HP12.o.de.shq)
    clear hi hgr HN HB11 HQ11 ul;go_upto_region 33 with fail
    generalize v12.setCell ⟨w.heap.size+1,13,none⟩ (.int .i64 (x12:Int))=w12 at *;clear y hsx hfx;have u7:w12.cell? ⟨u,7,none⟩=some (.bool false):=HB12.o.fl.c 7 rfl;have ul:=HB12.o.fl.lt;have HS12sh:=zq (HQ12.o.sh0 Csh.out zj);have u8:w12.cell? ⟨u,8,none⟩=some (.bool false):=HB12.o.fl.c 8 rfl;have ul:=HB12.o.fl.lt;have HS12ot:=zq (HS12sh.o.ot0 Cot.out yx);obtain ⟨d2,hd2⟩:∃ d2,d2 = { d with th:=x5,fr:=x6,to_:=x7,nu:=s1,de:=s2,arA:=A9,ar:=x9,arc:=c9,usA:=A10,us:=x10,usc:=c10,bg:=(x11:Int),en:=(x12:Int) }:=⟨_,rfl⟩
    rw [←hd2] at HB12 HS12ot;obtain ⟨hst,hz,hgv⟩:=rd_end (k:=k) hrw HLA.o HB12.o.de HB12.o.rd HB12.o.kp HB12.o.rs rfl HS12ot.o;have HX:=zq HB12.o.de.bx;have HSR:=zq hst;have HZ:=zq hz;have HGV:=zq hgv;clear hst hz hgv HB12 HS12ot hd2 HDZ;go_upto_region 37 with fail
    iterate 2 go_step
    refine eA _ _ zo (w.heap.size+1) 0 zo (deC d2).toList _ (zBu HX.o) Tryz.underlying47 rfl zb ?_
    go_wp2_with (refine zAg rfl _ _ _ rfl ⟨w.heap.size,0,none⟩ (deV d2) rfl rfl HSR.o ?_)
    refine dD (v:=deV d2) (res_deed rfl HZ.o) rfl ?_
    exact HGV.o
   ·have HK4:=zq h4
    rw [h4] at HB4;have Cth:Hid ((zAf d.kd || decide (d.kd=1))=true):=zi
    have Cfr:Hid ((zAf d.kd || decide (d.kd=5))=true):=zi
    have Cto:Hid (zAf d.kd=true):=zi;have Cpt:Hid (decide (d.kd=2)=false):=zi;have Cex:Hid (decide (d.kd=3)=true):=zi;have Csb:Hid (decide (d.kd=3)=true):=zi;have Car:Hid (zAf d.kd=true):=zi;have Cus:Hid (zAf d.kd=true):=zi;have Cen:Hid (zAf d.kd=true):=zi;have Csh:Hid (divB d.kd=false):=zi;have Cot:Hid (decide (d.kd=4)=false):=zi;clear hkd h4;have u0:w4.cell? ⟨u,0,none⟩=some (.bool true):=HB4.o.fl.c 0 rfl;have ul:=HB4.o.fl.lt
    have HN:Hid (Calls Tryz.prog 33 #[.pointer (some ⟨r,0,none⟩),.string ⟨#[116,104,105,110,103]⟩] w4 (zBJ (.string (ofL ((nmO false zBq (L.drop (k+1))).getD []))) r LA c L (nxk (k+1) (nmO false zBq (L.drop (k+1))).isSome) (false || !(nmO false zBq (L.drop (k+1))).isSome) w4)) :=
     name_c r LA c L (k+1) false ⟨#[116,104,105,110,103]⟩ w4 HB4.o.rd (HG0.o.kept HB4.o.kp hg hrw)
    have HQ5:=zq (HST.o.th Cth.out);generalize nmO false zBq (L.drop (k+1))=an5 at HN HQ5;generalize ofL (an5.getD [])=x5 at HN HQ5;generalize nxk (k+1) an5.isSome=k5 at HN HQ5;generalize (false || !an5.isSome)=bad5 at HN HQ5
    go_wp2_with fail
    with_reducible refine HN.o.mono ?_
    rintro e v5 ⟨rfl,hi,hgr⟩;have HP5:=zq (HB4.o.next hrw hi hgr);have y:v5.cell? ⟨w.heap.size+1,3,none⟩=some (.string d.th):=HP5.o.de.bx.c 3 rfl;have hsx:=HP5.o.de.bx.lt;have hfx:=HP5.o.de.bx.frozen;have HB5:=zq (HP5.o.put (d':={ d with th:=x5 }) hrw HLA.o 3 (.string x5) rfl ⟨rfl,rfl⟩ ⟨rfl,rfl⟩ HP5.o.de.shs HP5.o.de.shq)
    clear hi hgr HN HB4 HST ul;go_upto_region 18 with fail
    generalize v5.setCell ⟨w.heap.size+1,3,none⟩ (.string x5)=w5 at *;clear y hsx hfx;have u1:w5.cell? ⟨u,1,none⟩=some (.bool true):=HB5.o.fl.c 1 rfl;have ul:=HB5.o.fl.lt
    have HN:Hid (Calls Tryz.prog 33 #[.pointer (some ⟨r,0,none⟩),.string ⟨#[102,114,111,109]⟩] w5 (zBJ (.string (ofL ((nmO bad5 zCa (L.drop k5)).getD []))) r LA c L (nxk k5 (nmO bad5 zCa (L.drop k5)).isSome) (bad5 || !(nmO bad5 zCa (L.drop k5)).isSome) w5)) :=
     name_c r LA c L k5 bad5 ⟨#[102,114,111,109]⟩ w5 HB5.o.rd (HG0.o.kept HB5.o.kp hg hrw)
    have HQ6:=zq (HQ5.o.fr Cfr.out);generalize nmO bad5 zCa (L.drop k5)=an6 at HN HQ6;generalize ofL (an6.getD [])=x6 at HN HQ6;generalize nxk k5 an6.isSome=k6 at HN HQ6;generalize (bad5 || !an6.isSome)=bad6 at HN HQ6
    go_wp2_with fail
    with_reducible refine HN.o.mono ?_
    rintro e v6 ⟨rfl,hi,hgr⟩;have HP6:=zq (HB5.o.next hrw hi hgr);have y:v6.cell? ⟨w.heap.size+1,4,none⟩=some (.string d.fr):=HP6.o.de.bx.c 4 rfl;have hsx:=HP6.o.de.bx.lt;have hfx:=HP6.o.de.bx.frozen;have HB6:=zq (HP6.o.put (d':={ d with th:=x5,fr:=x6 }) hrw HLA.o 4 (.string x6) rfl ⟨rfl,rfl⟩ ⟨rfl,rfl⟩ HP6.o.de.shs HP6.o.de.shq)
    clear hi hgr HN HB5 HQ5 ul;go_upto_region 20 with fail
    generalize v6.setCell ⟨w.heap.size+1,4,none⟩ (.string x6)=w6 at *;clear y hsx hfx;have u2:w6.cell? ⟨u,2,none⟩=some (.bool true):=HB6.o.fl.c 2 rfl;have ul:=HB6.o.fl.lt
    have HN:Hid (Calls Tryz.prog 33 #[.pointer (some ⟨r,0,none⟩),.string ⟨#[116,111]⟩] w6 (zBJ (.string (ofL ((nmO bad6 kTo (L.drop k6)).getD []))) r LA c L (nxk k6 (nmO bad6 kTo (L.drop k6)).isSome) (bad6 || !(nmO bad6 kTo (L.drop k6)).isSome) w6)) :=
     name_c r LA c L k6 bad6 ⟨#[116,111]⟩ w6 HB6.o.rd (HG0.o.kept HB6.o.kp hg hrw)
    have HQ7:=zq (HQ6.o.to_ Cto.out);generalize nmO bad6 kTo (L.drop k6)=an7 at HN HQ7;generalize ofL (an7.getD [])=x7 at HN HQ7;generalize nxk k6 an7.isSome=k7 at HN HQ7;generalize (bad6 || !an7.isSome)=bad7 at HN HQ7
    go_wp2_with fail
    with_reducible refine HN.o.mono ?_
    rintro e v7 ⟨rfl,hi,hgr⟩;have HP7:=zq (HB6.o.next hrw hi hgr);have y:v7.cell? ⟨w.heap.size+1,5,none⟩=some (.string d.to_):=HP7.o.de.bx.c 5 rfl;have hsx:=HP7.o.de.bx.lt;have hfx:=HP7.o.de.bx.frozen;have HB7:=zq (HP7.o.put (d':={ d with th:=x5,fr:=x6,to_:=x7 }) hrw HLA.o 5 (.string x7) rfl ⟨rfl,rfl⟩ ⟨rfl,rfl⟩ HP7.o.de.shs HP7.o.de.shq)
    clear hi hgr HN HB6 HQ6 ul;go_upto_region 22 with fail
    generalize v7.setCell ⟨w.heap.size+1,5,none⟩ (.string x7)=w7 at *;clear y hsx hfx;have u3:w7.cell? ⟨u,3,none⟩=some (.bool false):=HB7.o.fl.c 3 rfl;have ul:=HB7.o.fl.lt;have HS7pt:=zq (HQ7.o.pt0 Cpt.out qo);have u4:w7.cell? ⟨u,4,none⟩=some (.bool true):=HB7.o.fl.c 4 rfl;have ul:=HB7.o.fl.lt
    have HN:Hid (Calls Tryz.prog 35 #[.pointer (some ⟨r,0,none⟩),.string ⟨#[101,120,99,108,117,115,105,118,101]⟩] w7 (zBJ (.bool (flB bad7 zDu (L.drop k7))) r LA c L (nxk k7 (flB bad7 zDu (L.drop k7))) bad7 w7)) :=
     flag_c r LA c L k7 bad7 ⟨#[101,120,99,108,117,115,105,118,101]⟩ w7 HB7.o.rd (HG0.o.kept HB7.o.kp hg hrw)
    have HQ8:=zq (HS7pt.o.ex Cex.out);generalize flB bad7 zDu (L.drop k7)=x8 at HN HQ8;generalize nxk k7 x8=k8 at HN HQ8
    go_wp2_with fail
    with_reducible refine HN.o.mono ?_
    rintro e v8 ⟨rfl,hi,hgr⟩;have HP8:=zq (HB7.o.next hrw hi hgr);have y:v8.cell? ⟨w.heap.size+1,8,none⟩=some (.bool d.ex):=HP8.o.de.bx.c 8 rfl;have hsx:=HP8.o.de.bx.lt;have hfx:=HP8.o.de.bx.frozen;have HB8:=zq (HP8.o.put (d':={ d with th:=x5,fr:=x6,to_:=x7,ex:=x8 }) hrw HLA.o 8 (.bool x8) rfl ⟨rfl,rfl⟩ ⟨rfl,rfl⟩ HP8.o.de.shs HP8.o.de.shq)
    clear hi hgr HN HB7 HS7pt ul;go_upto_region 26 with fail
    generalize v8.setCell ⟨w.heap.size+1,8,none⟩ (.bool x8)=w8 at *;clear y hsx hfx
    have HN:Hid (Calls Tryz.prog 35 #[.pointer (some ⟨r,0,none⟩),.string ⟨#[115,117,98]⟩] w8 (zBJ (.bool (flB bad7 kSub (L.drop k8))) r LA c L (nxk k8 (flB bad7 kSub (L.drop k8))) bad7 w8)) :=
     flag_c r LA c L k8 bad7 ⟨#[115,117,98]⟩ w8 HB8.o.rd (HG0.o.kept HB8.o.kp hg hrw)
    have HQ9:=zq (HQ8.o.sb Csb.out);generalize flB bad7 kSub (L.drop k8)=x9 at HN HQ9;generalize nxk k8 x9=k9 at HN HQ9
    go_wp2_with fail
    with_reducible refine HN.o.mono ?_
    rintro e v9 ⟨rfl,hi,hgr⟩;have HP9:=zq (HB8.o.next hrw hi hgr);have y:v9.cell? ⟨w.heap.size+1,9,none⟩=some (.bool d.sb):=HP9.o.de.bx.c 9 rfl;have hsx:=HP9.o.de.bx.lt;have hfx:=HP9.o.de.bx.frozen;have HB9:=zq (HP9.o.put (d':={ d with th:=x5,fr:=x6,to_:=x7,ex:=x8,sb:=x9 }) hrw HLA.o 9 (.bool x9) rfl ⟨rfl,rfl⟩ ⟨rfl,rfl⟩ HP9.o.de.shs HP9.o.de.shq)
    clear hi hgr HN HB8 HQ8;go_upto_region 27 with fail
    generalize v9.setCell ⟨w.heap.size+1,9,none⟩ (.bool x9)=w9 at *;clear y hsx hfx;have u5:w9.cell? ⟨u,5,none⟩=some (.bool true):=HB9.o.fl.c 5 rfl;have ul:=HB9.o.fl.lt;have HN:=zq (areas_names r (w.heap.size+1) LA c L k9 bad7 { d with th:=x5,fr:=x6,to_:=x7,ex:=x8,sb:=x9 } u _ 84 w9 HB9.o.fl HB9.o.uq HB9.o.rd HB9.o.de zj zj zj zj za (fun b o e=>xe) (HG0.o.kept HB9.o.kp hg hrw) hg)
    have HQ10:=zq (fun A c=>HQ9.o.ar Car.out A c)
    generalize arsO bad7 (L.drop k9)=x10 at HN HQ10;generalize k9+x10.length=k10 at HN HQ10
    go_wp2_with fail
    with_reducible refine HN.o.mono ?_
    rintro e w10 ⟨rfl,A10,c10,hd,hi,hk,hf⟩;have HB10:=zq (HB9.o.names hd hi hk hrw hf);have HQ10x:=zq (HQ10.o A10 c10);clear hd hi hk hf HN HB9 HQ9 HQ10 ul;go_upto_region 29 with fail
    have HN:=zq (uses_names r (w.heap.size+1) LA c L k10 bad7 { d with th:=x5,fr:=x6,to_:=x7,ex:=x8,sb:=x9,arA:=A10,ar:=x10,arc:=c10 } u _ 84 w10 HB10.o.fl HB10.o.uq HB10.o.rd HB10.o.de zj zj zj zj za (fun b o e=>xe) (HG0.o.kept HB10.o.kp hg hrw) hg)
    have HQ11:=zq (fun A c=>HQ10x.o.us Cus.out A c)
    generalize ussO bad7 (L.drop k10)=x11 at HN HQ11;generalize k10+x11.length=k11 at HN HQ11
    go_wp2_with fail
    with_reducible refine HN.o.mono ?_
    rintro e w11 ⟨rfl,A11,c11,hd,hi,hk,hf⟩;have HB11:=zq (HB10.o.names hd hi hk hrw hf);have HQ11x:=zq (HQ11.o A11 c11);clear hd hi hk hf HN HB10 HQ10x HQ11;go_upto_region 30 with fail
    have HN:Hid (Calls Tryz.prog 39 #[.pointer (some ⟨r,0,none⟩),.string ⟨#[98,101,103,105,110]⟩] w11 (zBJ (.int .i64 (((nuO bad7 zAM (L.drop k11)).getD 0:Nat):Int)) r LA c L (nxk k11 (nuO bad7 zAM (L.drop k11)).isSome) (bad7 || !(nuO bad7 zAM (L.drop k11)).isSome) w11)) :=
     rdNum_c r LA c L k11 bad7 ⟨#[98,101,103,105,110]⟩ w11 HB11.o.rd (HG0.o.kept HB11.o.kp hg hrw)
    have HQ12:=zq (HQ11x.o.bg);generalize nuO bad7 zAM (L.drop k11)=an12 at HN HQ12;generalize an12.getD 0=x12 at HN HQ12;generalize nxk k11 an12.isSome=k12 at HN HQ12;generalize (bad7 || !an12.isSome)=bad12 at HN HQ12
    go_wp2_with fail
    with_reducible refine HN.o.mono ?_
    rintro e v12 ⟨rfl,hi,hgr⟩;have HP12:=zq (HB11.o.next hrw hi hgr);have y:v12.cell? ⟨w.heap.size+1,12,none⟩=some (.int .i64 d.bg):=HP12.o.de.bx.c 12 rfl;have hsx:=HP12.o.de.bx.lt;have hfx:=HP12.o.de.bx.frozen;have HB12:=zq (HP12.o.put (d':={ d with th:=x5,fr:=x6,to_:=x7,ex:=x8,sb:=x9,arA:=A10,ar:=x10,arc:=c10,usA:=A11,us:=x11,usc:=c11,bg:=(x12:Int) }) hrw HLA.o 12 (.int .i64 (x12:Int)) rfl ⟨rfl,rfl⟩ ⟨rfl,rfl⟩ HP12.o.de.shs HP12.o.de.shq)
    clear hi hgr HN HB11 HQ11x;go_upto_region 31 with fail
    generalize v12.setCell ⟨w.heap.size+1,12,none⟩ (.int .i64 (x12:Int))=w12 at *;clear y hsx hfx;have u6:w12.cell? ⟨u,6,none⟩=some (.bool true):=HB12.o.fl.c 6 rfl;have ul:=HB12.o.fl.lt
    have HN:Hid (Calls Tryz.prog 39 #[.pointer (some ⟨r,0,none⟩),.string ⟨#[101,110,100]⟩] w12 (zBJ (.int .i64 (((nuO bad12 kEnd (L.drop k12)).getD 0:Nat):Int)) r LA c L (nxk k12 (nuO bad12 kEnd (L.drop k12)).isSome) (bad12 || !(nuO bad12 kEnd (L.drop k12)).isSome) w12)) :=
     rdNum_c r LA c L k12 bad12 ⟨#[101,110,100]⟩ w12 HB12.o.rd (HG0.o.kept HB12.o.kp hg hrw)
    have HQ13:=zq (HQ12.o.en Cen.out);generalize nuO bad12 kEnd (L.drop k12)=an13 at HN HQ13;generalize an13.getD 0=x13 at HN HQ13;generalize nxk k12 an13.isSome=k13 at HN HQ13;generalize (bad12 || !an13.isSome)=bad13 at HN HQ13
    go_wp2_with fail
    with_reducible refine HN.o.mono ?_
    rintro e v13 ⟨rfl,hi,hgr⟩;have HP13:=zq (HB12.o.next hrw hi hgr);have y:v13.cell? ⟨w.heap.size+1,13,none⟩=some (.int .i64 d.en):=HP13.o.de.bx.c 13 rfl;have hsx:=HP13.o.de.bx.lt;have hfx:=HP13.o.de.bx.frozen;have HB13:=zq (HP13.o.put (d':={ d with th:=x5,fr:=x6,to_:=x7,ex:=x8,sb:=x9,arA:=A10,ar:=x10,arc:=c10,usA:=A11,us:=x11,usc:=c11,bg:=(x12:Int),en:=(x13:Int) }) hrw HLA.o 13 (.int .i64 (x13:Int)) rfl ⟨rfl,rfl⟩ ⟨rfl,rfl⟩ HP13.o.de.shs HP13.o.de.shq)
    clear hi hgr HN HB12 HQ12 ul;go_upto_region 33 with fail
    generalize v13.setCell ⟨w.heap.size+1,13,none⟩ (.int .i64 (x13:Int))=w13 at *;clear y hsx hfx;have u7:w13.cell? ⟨u,7,none⟩=some (.bool false):=HB13.o.fl.c 7 rfl;have ul:=HB13.o.fl.lt;have HS13sh:=zq (HQ13.o.sh0 Csh.out zj);have u8:w13.cell? ⟨u,8,none⟩=some (.bool false):=HB13.o.fl.c 8 rfl;have ul:=HB13.o.fl.lt;have HS13ot:=zq (HS13sh.o.ot0 Cot.out yx);obtain ⟨d2,hd2⟩:∃ d2,d2 = { d with th:=x5,fr:=x6,to_:=x7,ex:=x8,sb:=x9,arA:=A10,ar:=x10,arc:=c10,usA:=A11,us:=x11,usc:=c11,bg:=(x12:Int),en:=(x13:Int) }:=⟨_,rfl⟩
    rw [←hd2] at HB13 HS13ot;obtain ⟨hst,hz,hgv⟩:=rd_end (k:=k) hrw HLA.o HB13.o.de HB13.o.rd HB13.o.kp HB13.o.rs rfl HS13ot.o;have HX:=zq HB13.o.de.bx;have HSR:=zq hst;have HZ:=zq hz;have HGV:=zq hgv;clear hst hz hgv HB13 HS13ot hd2 HDZ;go_upto_region 37 with fail
    iterate 2 go_step
    refine eA _ _ zo (w.heap.size+1) 0 zo (deC d2).toList _ (zBu HX.o) Tryz.underlying47 rfl zb ?_
    go_wp2_with (refine zAg rfl _ _ _ rfl ⟨w.heap.size,0,none⟩ (deV d2) rfl rfl HSR.o ?_)
    refine dD (v:=deV d2) (res_deed rfl HZ.o) rfl ?_
    exact HGV.o
   ·have HK4:=zq h4
    rw [h4] at HB4;have Cth:Hid ((zAf d.kd || decide (d.kd=1))=false):=zi
    have Cfr:Hid ((zAf d.kd || decide (d.kd=5))=false):=zi
    have Cto:Hid (zAf d.kd=false):=zi;have Cpt:Hid (decide (d.kd=2)=false):=zi;have Cex:Hid (decide (d.kd=3)=false):=zi;have Csb:Hid (decide (d.kd=3)=false):=zi;have Car:Hid (zAf d.kd=false):=zi;have Cus:Hid (zAf d.kd=false):=zi;have Cen:Hid (zAf d.kd=false):=zi;have Csh:Hid (divB d.kd=false):=zi;have Cot:Hid (decide (d.kd=4)=true):=zi;clear hkd h4;have u0:w4.cell? ⟨u,0,none⟩=some (.bool false):=HB4.o.fl.c 0 rfl;have ul:=HB4.o.fl.lt;have HS4th:=zq (HST.o.th0 Cth.out yx);have u1:w4.cell? ⟨u,1,none⟩=some (.bool false):=HB4.o.fl.c 1 rfl;have ul:=HB4.o.fl.lt;have HS4fr:=zq (HS4th.o.fr0 Cfr.out yx);have u2:w4.cell? ⟨u,2,none⟩=some (.bool false):=HB4.o.fl.c 2 rfl;have ul:=HB4.o.fl.lt;have HS4to:=zq (HS4fr.o.to0 Cto.out yx);have u3:w4.cell? ⟨u,3,none⟩=some (.bool false):=HB4.o.fl.c 3 rfl;have ul:=HB4.o.fl.lt;have HS4pt:=zq (HS4to.o.pt0 Cpt.out qo);have u4:w4.cell? ⟨u,4,none⟩=some (.bool false):=HB4.o.fl.c 4 rfl;have ul:=HB4.o.fl.lt;have HS4ex:=zq (HS4pt.o.ex0 Cex.out zj);have HS4sb:=zq (HS4ex.o.sb0 Csb.out zj);have u5:w4.cell? ⟨u,5,none⟩=some (.bool false):=HB4.o.fl.c 5 rfl;have ul:=HB4.o.fl.lt;have HS4ar:=zq (HS4sb.o.ar0 Car.out zj);have HS4us:=zq (HS4ar.o.us0 Cus.out zj)
    have HN:Hid (Calls Tryz.prog 39 #[.pointer (some ⟨r,0,none⟩),.string ⟨#[98,101,103,105,110]⟩] w4 (zBJ (.int .i64 (((nuO false zAM (L.drop (k+1))).getD 0:Nat):Int)) r LA c L (nxk (k+1) (nuO false zAM (L.drop (k+1))).isSome) (false || !(nuO false zAM (L.drop (k+1))).isSome) w4)) :=
     rdNum_c r LA c L (k+1) false ⟨#[98,101,103,105,110]⟩ w4 HB4.o.rd (HG0.o.kept HB4.o.kp hg hrw)
    have HQ5:=zq (HS4us.o.bg);generalize nuO false zAM (L.drop (k+1))=an5 at HN HQ5;generalize an5.getD 0=x5 at HN HQ5;generalize nxk (k+1) an5.isSome=k5 at HN HQ5;generalize (false || !an5.isSome)=bad5 at HN HQ5
    go_wp2_with fail
    with_reducible refine HN.o.mono ?_
    rintro e v5 ⟨rfl,hi,hgr⟩;have HP5:=zq (HB4.o.next hrw hi hgr);have y:v5.cell? ⟨w.heap.size+1,12,none⟩=some (.int .i64 d.bg):=HP5.o.de.bx.c 12 rfl;have hsx:=HP5.o.de.bx.lt;have hfx:=HP5.o.de.bx.frozen;have HB5:=zq (HP5.o.put (d':={ d with bg:=(x5:Int) }) hrw HLA.o 12 (.int .i64 (x5:Int)) rfl ⟨rfl,rfl⟩ ⟨rfl,rfl⟩ HP5.o.de.shs HP5.o.de.shq)
    clear hi hgr HN HB4 HS4us ul;go_upto_region 31 with fail
    generalize v5.setCell ⟨w.heap.size+1,12,none⟩ (.int .i64 (x5:Int))=w5 at *;clear y hsx hfx;have u6:w5.cell? ⟨u,6,none⟩=some (.bool false):=HB5.o.fl.c 6 rfl;have ul:=HB5.o.fl.lt;have HS5en:=zq (HQ5.o.en0 Cen.out zj);have u7:w5.cell? ⟨u,7,none⟩=some (.bool false):=HB5.o.fl.c 7 rfl;have ul:=HB5.o.fl.lt;have HS5sh:=zq (HS5en.o.sh0 Csh.out zj);have u8:w5.cell? ⟨u,8,none⟩=some (.bool true):=HB5.o.fl.c 8 rfl;have ul:=HB5.o.fl.lt
    have HN:Hid (Calls Tryz.prog 33 #[.pointer (some ⟨r,0,none⟩),.string ⟨#[101,110,100,115]⟩] w5 (zBJ (.string (ofL ((nmO bad5 zEm (L.drop k5)).getD []))) r LA c L (nxk k5 (nmO bad5 zEm (L.drop k5)).isSome) (bad5 || !(nmO bad5 zEm (L.drop k5)).isSome) w5)) :=
     name_c r LA c L k5 bad5 ⟨#[101,110,100,115]⟩ w5 HB5.o.rd (HG0.o.kept HB5.o.kp hg hrw)
    have HQ6:=zq (HS5sh.o.ot Cot.out);generalize nmO bad5 zEm (L.drop k5)=an6 at HN HQ6;generalize ofL (an6.getD [])=x6 at HN HQ6;generalize nxk k5 an6.isSome=k6 at HN HQ6;generalize (bad5 || !an6.isSome)=bad6 at HN HQ6
    go_wp2_with fail
    with_reducible refine HN.o.mono ?_
    rintro e v6 ⟨rfl,hi,hgr⟩;have HP6:=zq (HB5.o.next hrw hi hgr);have y:v6.cell? ⟨w.heap.size+1,15,none⟩=some (.string d.ot):=HP6.o.de.bx.c 15 rfl;have hsx:=HP6.o.de.bx.lt;have hfx:=HP6.o.de.bx.frozen;have HB6:=zq (HP6.o.put (d':={ d with bg:=(x5:Int),ot:=x6 }) hrw HLA.o 15 (.string x6) rfl ⟨rfl,rfl⟩ ⟨rfl,rfl⟩ HP6.o.de.shs HP6.o.de.shq)
    clear hi hgr HN HB5 HS5sh ul;go_upto_region 37 with fail
    generalize v6.setCell ⟨w.heap.size+1,15,none⟩ (.string x6)=w6 at *;clear y hsx hfx;obtain ⟨d2,hd2⟩:∃ d2,d2 = { d with bg:=(x5:Int),ot:=x6 }:=⟨_,rfl⟩
    rw [←hd2] at HB6 HQ6;obtain ⟨hst,hz,hgv⟩:=rd_end (k:=k) hrw HLA.o HB6.o.de HB6.o.rd HB6.o.kp HB6.o.rs rfl HQ6.o;have HX:=zq HB6.o.de.bx;have HSR:=zq hst;have HZ:=zq hz;have HGV:=zq hgv;clear hst hz hgv HB6 HQ6 hd2 HDZ;go_upto_region 37 with fail
    iterate 2 go_step
    refine eA _ _ zo (w.heap.size+1) 0 zo (deC d2).toList _ (zBu HX.o) Tryz.underlying47 rfl zb ?_
    go_wp2_with (refine zAg rfl _ _ _ rfl ⟨w.heap.size,0,none⟩ (deV d2) rfl rfl HSR.o ?_)
    refine dD (v:=deV d2) (res_deed rfl HZ.o) rfl ?_
    exact HGV.o
   ·have HK4:=zq h4
    rw [h4] at HB4;have Cth:Hid ((zAf d.kd || decide (d.kd=1))=false):=zi
    have Cfr:Hid ((zAf d.kd || decide (d.kd=5))=true):=zi
    have Cto:Hid (zAf d.kd=false):=zi;have Cpt:Hid (decide (d.kd=2)=false):=zi;have Cex:Hid (decide (d.kd=3)=false):=zi;have Csb:Hid (decide (d.kd=3)=false):=zi;have Car:Hid (zAf d.kd=false):=zi;have Cus:Hid (zAf d.kd=false):=zi;have Cen:Hid (zAf d.kd=false):=zi;have Csh:Hid (divB d.kd=true):=zi;have Cot:Hid (decide (d.kd=4)=false):=zi;clear hkd h4;have u0:w4.cell? ⟨u,0,none⟩=some (.bool false):=HB4.o.fl.c 0 rfl;have ul:=HB4.o.fl.lt;have HS4th:=zq (HST.o.th0 Cth.out yx);have u1:w4.cell? ⟨u,1,none⟩=some (.bool true):=HB4.o.fl.c 1 rfl;have ul:=HB4.o.fl.lt
    have HN:Hid (Calls Tryz.prog 33 #[.pointer (some ⟨r,0,none⟩),.string ⟨#[102,114,111,109]⟩] w4 (zBJ (.string (ofL ((nmO false zCa (L.drop (k+1))).getD []))) r LA c L (nxk (k+1) (nmO false zCa (L.drop (k+1))).isSome) (false || !(nmO false zCa (L.drop (k+1))).isSome) w4)) :=
     name_c r LA c L (k+1) false ⟨#[102,114,111,109]⟩ w4 HB4.o.rd (HG0.o.kept HB4.o.kp hg hrw)
    have HQ5:=zq (HS4th.o.fr Cfr.out);generalize nmO false zCa (L.drop (k+1))=an5 at HN HQ5;generalize ofL (an5.getD [])=x5 at HN HQ5;generalize nxk (k+1) an5.isSome=k5 at HN HQ5;generalize (false || !an5.isSome)=bad5 at HN HQ5
    go_wp2_with fail
    with_reducible refine HN.o.mono ?_
    rintro e v5 ⟨rfl,hi,hgr⟩;have HP5:=zq (HB4.o.next hrw hi hgr);have y:v5.cell? ⟨w.heap.size+1,4,none⟩=some (.string d.fr):=HP5.o.de.bx.c 4 rfl;have hsx:=HP5.o.de.bx.lt;have hfx:=HP5.o.de.bx.frozen;have HB5:=zq (HP5.o.put (d':={ d with fr:=x5 }) hrw HLA.o 4 (.string x5) rfl ⟨rfl,rfl⟩ ⟨rfl,rfl⟩ HP5.o.de.shs HP5.o.de.shq)
    clear hi hgr HN HB4 HS4th ul;go_upto_region 20 with fail
    generalize v5.setCell ⟨w.heap.size+1,4,none⟩ (.string x5)=w5 at *;clear y hsx hfx;have u2:w5.cell? ⟨u,2,none⟩=some (.bool false):=HB5.o.fl.c 2 rfl;have ul:=HB5.o.fl.lt;have HS5to:=zq (HQ5.o.to0 Cto.out yx);have u3:w5.cell? ⟨u,3,none⟩=some (.bool false):=HB5.o.fl.c 3 rfl;have ul:=HB5.o.fl.lt;have HS5pt:=zq (HS5to.o.pt0 Cpt.out qo);have u4:w5.cell? ⟨u,4,none⟩=some (.bool false):=HB5.o.fl.c 4 rfl;have ul:=HB5.o.fl.lt;have HS5ex:=zq (HS5pt.o.ex0 Cex.out zj);have HS5sb:=zq (HS5ex.o.sb0 Csb.out zj);have u5:w5.cell? ⟨u,5,none⟩=some (.bool false):=HB5.o.fl.c 5 rfl;have ul:=HB5.o.fl.lt;have HS5ar:=zq (HS5sb.o.ar0 Car.out zj);have HS5us:=zq (HS5ar.o.us0 Cus.out zj)
    have HN:Hid (Calls Tryz.prog 39 #[.pointer (some ⟨r,0,none⟩),.string ⟨#[98,101,103,105,110]⟩] w5 (zBJ (.int .i64 (((nuO bad5 zAM (L.drop k5)).getD 0:Nat):Int)) r LA c L (nxk k5 (nuO bad5 zAM (L.drop k5)).isSome) (bad5 || !(nuO bad5 zAM (L.drop k5)).isSome) w5)) :=
     rdNum_c r LA c L k5 bad5 ⟨#[98,101,103,105,110]⟩ w5 HB5.o.rd (HG0.o.kept HB5.o.kp hg hrw)
    have HQ6:=zq (HS5us.o.bg);generalize nuO bad5 zAM (L.drop k5)=an6 at HN HQ6;generalize an6.getD 0=x6 at HN HQ6;generalize nxk k5 an6.isSome=k6 at HN HQ6;generalize (bad5 || !an6.isSome)=bad6 at HN HQ6
    go_wp2_with fail
    with_reducible refine HN.o.mono ?_
    rintro e v6 ⟨rfl,hi,hgr⟩;have HP6:=zq (HB5.o.next hrw hi hgr);have y:v6.cell? ⟨w.heap.size+1,12,none⟩=some (.int .i64 d.bg):=HP6.o.de.bx.c 12 rfl;have hsx:=HP6.o.de.bx.lt;have hfx:=HP6.o.de.bx.frozen;have HB6:=zq (HP6.o.put (d':={ d with fr:=x5,bg:=(x6:Int) }) hrw HLA.o 12 (.int .i64 (x6:Int)) rfl ⟨rfl,rfl⟩ ⟨rfl,rfl⟩ HP6.o.de.shs HP6.o.de.shq)
    clear hi hgr HN HB5 HS5us ul;go_upto_region 31 with fail
    generalize v6.setCell ⟨w.heap.size+1,12,none⟩ (.int .i64 (x6:Int))=w6 at *;clear y hsx hfx;have u6:w6.cell? ⟨u,6,none⟩=some (.bool false):=HB6.o.fl.c 6 rfl;have ul:=HB6.o.fl.lt;have HS6en:=zq (HQ6.o.en0 Cen.out zj);have u7:w6.cell? ⟨u,7,none⟩=some (.bool true):=HB6.o.fl.c 7 rfl;have ul:=HB6.o.fl.lt;have HN:Hid (Calls Tryz.prog 40 #[.pointer (some ⟨r,0,none⟩)] w6 (GivesShs (shsO bad6 (L.drop k6)) r LA c L k6 bad6 w6)):=shares_c r LA c L k6 bad6 w6 HB6.o.rd (HG0.o.kept HB6.o.kp hg hrw) hg;have HQ7:=zq (fun A c=>HS6en.o.sh Csh.out A c)
    go_wp2_with fail
    with_reducible refine HN.o.mono ?_
    rintro e v7 ⟨A7,c7,rfl,hs,hb,hi,hgr⟩;have HP7:=zq (HB6.o.next hrw hi hgr);have HQ7x:=zq (HQ7.o A7 c7);generalize shsO bad6 (L.drop k6)=x7 at *;generalize k6+x7.length=k7 at *;have y:v7.cell? ⟨w.heap.size+1,14,none⟩=some (.slice d.shA d.sh.length d.shc):=HP7.o.de.bx.c 14 rfl;have hsx:=HP7.o.de.bx.lt;have hfx:=HP7.o.de.bx.frozen;have HB7:=zq (HP7.o.put (d':={ d with fr:=x5,bg:=(x6:Int),shA:=A7,sh:=x7,shc:=c7 }) hrw HLA.o 14 (.slice A7 x7.length c7) rfl ⟨rfl,rfl⟩ ⟨rfl,rfl⟩ hs (fun b o e=>by have h1:=hb b o e;have h2:=HB6.o.de.bx.lt;omega))
    clear hi hgr hs hb HN HB6 HS6en HQ7 ul;go_upto_region 35 with fail
    generalize v7.setCell ⟨w.heap.size+1,14,none⟩ (.slice A7 x7.length c7)=w7 at *;clear y hsx hfx;have u8:w7.cell? ⟨u,8,none⟩=some (.bool false):=HB7.o.fl.c 8 rfl;have ul:=HB7.o.fl.lt;have HS7ot:=zq (HQ7x.o.ot0 Cot.out yx);obtain ⟨d2,hd2⟩:∃ d2,d2 = { d with fr:=x5,bg:=(x6:Int),shA:=A7,sh:=x7,shc:=c7 }:=⟨_,rfl⟩
    rw [←hd2] at HB7 HS7ot;obtain ⟨hst,hz,hgv⟩:=rd_end (k:=k) hrw HLA.o HB7.o.de HB7.o.rd HB7.o.kp HB7.o.rs rfl HS7ot.o;have HX:=zq HB7.o.de.bx;have HSR:=zq hst;have HZ:=zq hz;have HGV:=zq hgv;clear hst hz hgv HB7 HS7ot hd2 HDZ;go_upto_region 37 with fail
    iterate 2 go_step
    refine eA _ _ zo (w.heap.size+1) 0 zo (deC d2).toList _ (zBu HX.o) Tryz.underlying47 rfl zb ?_
    go_wp2_with (refine zAg rfl _ _ _ rfl ⟨w.heap.size,0,none⟩ (deV d2) rfl rfl HSR.o ?_)
    refine dD (v:=deV d2) (res_deed rfl HZ.o) rfl ?_
    exact HGV.o
end Go.Proofs.YtoaelidmmcbkfaaGreatDoor
