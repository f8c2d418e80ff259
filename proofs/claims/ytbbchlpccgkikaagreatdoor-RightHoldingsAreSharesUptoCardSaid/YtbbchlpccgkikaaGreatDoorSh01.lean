/- Parts of the proof, joined: Plain facts about regions, areas and chains of parents: no program in . -/
import Derived.Test.YtbbchlpccgkikaaGreatDoorSh00
import GoSem.Op.String
import Derived.WalkKit
import Derived.Lib.Hide
import Derived.Deep.LoopGhost
import Derived.WalkLawsBesides
import Derived.WalkSpells
import Derived.Deep.AppendLies
import Derived.Maps.AppendAt
import Derived.Deep.QuietTactic
import Derived.BigQuiet
import Derived.Test.YtbbchlpccgkikaaGreatDoorProg
import Derived.Laws.BitsAllLaws
import Derived.Ground.NamesProg
import Derived.Shelf.Small.Bits
import Derived.Shelf.Bits.Mul64
import Derived.Laws.CopyOwn
import Derived.Deep.DeepCutAuto
import Derived.Deep.RegionHeld3
import Derived.StillTailTactics
import Derived.Lib.Strings
set_option maxRecDepth 100000
set_option maxHeartbeats 8000000
namespace Dw
theorem taa{p:Prop}(h:p:=by
 intro g15 cap15 w15 ho15 hg15;have HA:=zq (And.intro (zCb HA.o.1 HL.o.ns zc hg15) (zCb HA.o.2 HL.o.ns zc hg15));have HL:=zq (HL.o.pushI HX.o ho15 hg15);refine hK.out _ _ (fun _=>HA.o) (fun _=>?_);clear hK K
 try simp only[Dw.lay,Act.put]
 refine zAR (rs:=[16]) zb zd ?_;refine AllL.cons rfl (fun K hK=>?_) AllL.nil;go_simp;refine hK.out _ _ (fun _=>HA.o) (fun _=>?_);clear hK K
 try simp only[Dw.lay,Act.put]
 refine zAR (rs:=[17]) zb zd ?_;refine AllL.cons rfl (fun K hK=>?_) AllL.nil;go_simp;refine hK.out _ _ (fun _=>HA.o) (fun _=>?_);clear hK K
 try simp only[Dw.lay,Act.put]
 refine zAR (rs:=[18]) zb zd ?_;refine AllL.cons rfl (fun K hK=>?_) AllL.nil;have c9:=HL.o.lg.c 9 rfl;have f9:=HL.o.lg.frozen 9;have l9:=HL.o.lg.lt;go_simp;have HL:=zq (HL.o.set (i:=9) (cr':=(.slice (some ⟨g8,0,none⟩) (runs.length+1) cap8)) (ci':=vi) rfl);clear c9 f9 l9;refine hK.out _ _ (fun h=>absurd h zc) (fun _=>?_);clear hK K
 try simp only[Dw.lay,Act.put]
 refine zAR (rs:=[19]) zb zd ?_;refine AllL.cons rfl (fun K hK=>?_) AllL.nil;go_simp;refine hK.out _ _ (fun h=>absurd h zc) (fun _=>?_);clear hK K
 try simp only[Dw.lay,Act.put]
 refine zAR (rs:=[20]) zb zd ?_;refine AllL.cons rfl (fun K hK=>?_) AllL.nil;go_simp;refine hK.out _ _ (fun h=>absurd h zc) (fun _=>?_);clear hK K
 try simp only[Dw.lay,Act.put]
 refine zAR (rs:=[21]) zb zd ?_;refine AllL.cons rfl (fun K hK=>?_) AllL.nil;have c9:=HL.o.lg.c 10 rfl;have f9:=HL.o.lg.frozen 10;have l9:=HL.o.lg.lt;go_simp;have HL:=zq (HL.o.set (i:=10) (cr':=(.slice (some ⟨g8,0,none⟩) (runs.length+1) cap8)) (ci':=(.slice (some ⟨g15,0,none⟩) (ins.length+1) cap15)) rfl);clear c9 f9 l9;refine hK.out _ _ (fun h=>absurd h zc) (fun _=>?_);clear hK K
 try simp only[Dw.lay,Act.put]
 refine anyL_done zb ?_ _;go_wp2
 go_roundg (gk-1)
 case measure=>have:j+gk=dm.length:=HJ.o;omega
 case rel =>
  refine⟨j+1,(.slice (some ⟨g8,0,none⟩) (runs.length+1) cap8),(.slice (some ⟨g15,0,none⟩) (ins.length+1) cap15),ins++[(.slice xa xn xc,insM rs d)],by have:j+gk=dm.length:=HJ.o;show j+1+(gk-1)=dm.length;omega,zi,?_,?_⟩
  ·rw[HTK.o,aA,<-HRE.o];exact HL.o
  ·rw[HTK.o,aA,aA,HIN.o];rfl):p:=h
theorem tab{p:Prop}(h:p:=by
 clear hc1;(go_wp2_with fail);(with_reducible refine(HQ1.o _ _ _ hn1 h5).mono ?_);rintro e w2⟨A6,c6,A7,c7,rfl,h6,_,hb6⟩;have hd2:=hd1.below hb6;have h52:=h5.below hb6;have HB2:=zq (zAa HB.o hb6);have hz2:w.heap.size+1<w2.heap.size:=aB hz hb6.size;have m0:w2.cell? ⟨w.heap.size+1,0,none⟩=some (.bool false):=(hb6.cell (p:=⟨w.heap.size+1,0,none⟩) hz).trans k0;have m1:w2.cell? ⟨w.heap.size+1,1,none⟩=some (.slice none 0 0):=(hb6.cell (p:=⟨w.heap.size+1,1,none⟩) hz).trans k1;have m2:w2.cell? ⟨w.heap.size+1,2,none⟩=some (.slice none 0 0):=(hb6.cell (p:=⟨w.heap.size+1,2,none⟩) hz).trans k2
 have f0:∀i,w2.frozen? ⟨w.heap.size+1,i,none⟩=false:=fun i=>by
  rw[hb6.frozen (p:=⟨w.heap.size+1,i,none⟩) hz,hf _ _ zd];go_simp
 have n0:w2.cell? ⟨w.heap.size,0,none⟩=some (.bool ng):=by
  rw[hb6.cell (p:=⟨w.heap.size,0,none⟩) (by show w.heap.size<_;omega),hc _ _ ze];go_simp
 clear hb6 k0 k1 k2 hc hf HB;(go_wp2_with fail);(with_reducible refine(HQ2.o _ _ _ hd2 h52).mono ?_);rintro e w3⟨A8,c8,A9,c9,rfl,h8,_,hb8⟩;have h63:=h6.below hb8;have HB3:=zq (zAa HB2.o hb8);have k0:w3.cell? ⟨w.heap.size+1,0,none⟩=some (.bool false):=(hb8.cell (p:=⟨w.heap.size+1,0,none⟩) hz2).trans m0;have k1:w3.cell? ⟨w.heap.size+1,1,none⟩=some (.slice none 0 0):=(hb8.cell (p:=⟨w.heap.size+1,1,none⟩) hz2).trans m1;have k2:w3.cell? ⟨w.heap.size+1,2,none⟩=some (.slice none 0 0):=(hb8.cell (p:=⟨w.heap.size+1,2,none⟩) hz2).trans m2;have f3:∀i,w3.frozen? ⟨w.heap.size+1,i,none⟩=false:=fun i=>(hb8.frozen (p:=⟨w.heap.size+1,i,none⟩) hz2).trans (f0 i)
 have n3:w3.cell? ⟨w.heap.size,0,none⟩=some (.bool ng):=(hb8.cell (p:=⟨w.heap.size,0,none⟩) (by show w.heap.size<_;omega)).trans n0;have hz3:w.heap.size+1<w3.heap.size:=aB hz2 hb8.size;clear hb8 m0 m1 m2 n0 f0 HB2;go_wp2;refine aC (v:=raV ng A6 c6 (n/G) A8 c8 (d/G)) (by simp[results,Tryz.results164,go_sem,k0,k1,k2]) rfl ⟨A6,c6,A8,c8,rfl,h63.set3 k0 k1 k2 (nb_ _) (ns_ _ _ _) (ns_ _ _ _) _ _ _,h8.set3 k0 k1 k2 (nb_ _) (ns_ _ _ _) (ns_ _ _ _) _ _ _,?_⟩
 exact((HB3.o.setCell zd _).setCell zd _).setCell zd _):p:=h
theorem tac{p:Prop}(h:p:=by
 have x5:=HV2.o.dx.c 5 rfl;have x6:=HV2.o.dx.c 6 rfl;have x7:=HV2.o.dx.c 7 rfl;have x8:=HV2.o.dx.c 8 rfl;have x9:=HV2.o.dx.c 9 rfl;have x10:=HV2.o.dx.c 10 rfl;have x11:=HV2.o.dx.c 11 rfl;have x13:=HV2.o.dx.c 13 rfl;have x14:=HV2.o.dx.c 14 rfl;have x15:=HV2.o.dx.c 15 rfl;(go_wp2_with fail);(with_reducible refine HSH.o.mono ?_);rintro e w4⟨rfl,hb4⟩;have HV4:=zq (HV2.o.below hb4);clear hsz x0 x1 x2 x3 x4 x5 x6 x7 x8 x9 x10 x11 x12 x13 x14 x15 y0 y1 y2 y3 y4 y5 y6 y7 y8;clear hb4 HV2 HSH;have hsz:=HV4.o.fx.lt;have y0:=HV4.o.fx.c 0 rfl;have y1:=HV4.o.fx.c 1 rfl;have y2:=HV4.o.fx.c 2 rfl;have y3:=HV4.o.fx.c 3 rfl;have y4:=HV4.o.fx.c 4 rfl;have y5:=HV4.o.fx.c 5 rfl;have y6:=HV4.o.fx.c 6 rfl;have y7:=HV4.o.fx.c 7 rfl;have y8:=HV4.o.fx.c 8 rfl
 by_cases hz:zCw d=0
 ·rw[hz]at HS ⊢
  clear hz;exact tds
 ·have hzb:(zCw d != 0)=true:=by simpa using hz
  clear hz;exact tds):p:=h
theorem tad{p:Prop}(h:p:=by
 have hkL:k<L.length:=by have:=HL.o;omega
 obtain⟨b,o,hA0,hb,hcl⟩:=(h.below hbw).at_ za;subst hA0;have hc0:=hcl k hlt;rw[zBt]at hc0;have hx:l[k]<4294967296:=hl.get k hlt;have hc1:=hA.cell k hkL;have hf1:=hA.frozen k;clear hcl
 by_cases hlr:k<r.length
 ·obtain⟨b2,o2,hA2,hb2,hcl2⟩:=(h2.below hbw).at_ za
  subst hA2;have hc2:=hcl2 k hlr;rw[zBt]at hc2;have hy:r[k]<4294967296:=hr.get k hlr;clear hcl2;go_wp2
  go_roundg (gk-1)
  case measure=>have:=HM.o;omega
  case rel=>exact AddRel.step HM.o hlt hA HL.o hLt HV.o HZ.o hbw hwg (zAO hlr) rfl za zd rfl zd
 ·have HR:Hid (zAk B32 (r.take (k+1))=zAk B32 (r.take k)+B32^k*0):=by
   exact tdk
  go_wp2
  go_roundg (gk-1)
  case measure=>have:=HM.o;omega
  case rel=>exact AddRel.step HM.o hlt hA HL.o hLt HV.o HZ.o hbw hwg HR.o (s:=cy+l[k]) rfl za zd rfl zd):p:=h
theorem tae{p:Prop}(h:p:=by
 obtain⟨j,rfl⟩:∃j,gk=j+1:=⟨gk-1,za⟩;obtain rfl:z=(j:Int):=za;clear hz;have hj:j<l.length:=za;obtain⟨b1,o1,hA0,hb,hcl⟩:=(h.below hbw).at_ za;subst hA0;have hc0:=hcl j hj;rw[zBt]at hc0;have hx:l[j]<4294967296:=hl.get j hj;have hjQ:j<Q.length:=by have:=HQ.o;omega
 have hc1:=hA.cell j hjQ;have hf1:=hA.frozen j;clear hcl;obtain⟨X,hX⟩:∃X,X=l[j]+4294967296*rr:=⟨_,rfl⟩;have hor:bits .or .u64 ((rr:Int)*4294967296) (l[j]:Int)=(X:Int):=by rw[or_u64' l[j] rr hx za,hX];simp
 have hX1:X<=18446744073709551615:=za
 have hq0:X/b<=4294967295:=by
  have:X/b<B32:=quot_lt (B:=B32) (by rw[hX];exact next_lt (B:=B32) hrr hx);rw[zBZ]at this;omega
 have hq1:(X:Int)/(b:Int)<=4294967295:=by rw[<-Int.natCast_ediv];omega
 have hq2:0<=(X:Int)/(b:Int):=Int.ediv_nonneg (Int.natCast_nonneg X) (Int.natCast_nonneg b);have HX:=zq hX;clear hX hq0;go_wp2
 go_roundg j
 case measure=>omega
 case rel=>exact DwRel.step hj hrr hA HQ.o hLt hb2 HV.o hbw hwg HX.o hx rfl rfl rfl):p:=h
theorem taf{p:Prop}(h:p:=by
 go_wp2_with (at_builtin;refine zBS _ _ _ elAr rfl rfl W.heap.size _ (gathA l (zAE l S) k) rfl ((hown.alloc _).alloc _) (wr.heap.size+1) 1 ⟨zCg l k,false⟩ rfl HNEW.o rfl zt zm za ze ?_;intro v1 w3 hown3 hg3 hb3)
 have HO3:=zq hown3;have HR3:=zq (keep3 hg3 hown);have HB3:=zq (((HB.o.alloc HB.o.size (.cells #[.string (l[k]).nm,.string (l[k]).par] 97)).alloc (by have:=HB.o.size;simp;omega) (.cells #[.string (l[k]).nm,.bool false] 99)).trans hb3);clear hown3 hg3 hb3 keep3 hown;go_wp2
 go_roundg (gk-1)
 case measure=>have:=HK.o;omega
 case rel=>exact⟨k+1,zh,zi,HR3.o,by rw[gathA_yes HPT.o];exact HO3.o,HB3.o⟩):p:=h
theorem tag{p:Prop}(h:p:=by
 have hor:zBi d.th=false\/zBi d.fr=false\/zBi d.to_=false:=.inr (.inr hnm2);have hsz:=HV4.o.fx.lt;have x3:=HV4.o.dx.c 3 rfl;have x4:=HV4.o.dx.c 4 rfl;have x5:=HV4.o.dx.c 5 rfl;have y0:=HV4.o.fx.c 0 rfl;have y1:=HV4.o.fx.c 1 rfl;have y2:=HV4.o.fx.c 2 rfl;have y3:=HV4.o.fx.c 3 rfl;have y4:=HV4.o.fx.c 4 rfl;have y5:=HV4.o.fx.c 5 rfl;have y6:=HV4.o.fx.c 6 rfl;have y7:=HV4.o.fx.c 7 rfl;have y8:=HV4.o.fx.c 8 rfl
 have HS:Hid (res=5):=by
  exact tdv
 clear hor HR hnm0 hnm1 hnm2;exact tds):p:=h
theorem tah{p:Prop}(h:p:=by
 have hor:zBi d.th=false\/zBi d.fr=false\/zBi d.to_=false:=.inr (.inl hnm1);have hsz:=HV3.o.fx.lt;have x3:=HV3.o.dx.c 3 rfl;have x4:=HV3.o.dx.c 4 rfl;have x5:=HV3.o.dx.c 5 rfl;have y0:=HV3.o.fx.c 0 rfl;have y1:=HV3.o.fx.c 1 rfl;have y2:=HV3.o.fx.c 2 rfl;have y3:=HV3.o.fx.c 3 rfl;have y4:=HV3.o.fx.c 4 rfl;have y5:=HV3.o.fx.c 5 rfl;have y6:=HV3.o.fx.c 6 rfl;have y7:=HV3.o.fx.c 7 rfl;have y8:=HV3.o.fx.c 8 rfl
 have HS:Hid (res=5):=by
  exact tdv
 clear hor HR hnm0 hnm1;go_wp2;go_ret
 exact zAg.mk (zCp HS.o.symm) HV3.o.bel):p:=h
theorem tai{p:Prop}(h:p:=by
 have hor:zBi d.th=false\/zBi d.fr=false\/zBi d.to_=false:=.inl hnm0;have hsz:=HV2.o.fx.lt;have x3:=HV2.o.dx.c 3 rfl;have x4:=HV2.o.dx.c 4 rfl;have x5:=HV2.o.dx.c 5 rfl;have y0:=HV2.o.fx.c 0 rfl;have y1:=HV2.o.fx.c 1 rfl;have y2:=HV2.o.fx.c 2 rfl;have y3:=HV2.o.fx.c 3 rfl;have y4:=HV2.o.fx.c 4 rfl;have y5:=HV2.o.fx.c 5 rfl;have y6:=HV2.o.fx.c 6 rfl;have y7:=HV2.o.fx.c 7 rfl;have y8:=HV2.o.fx.c 8 rfl
 have HS:Hid (res=5):=by
  exact tdv
 clear hor HR hnm0;exact tdt):p:=h
theorem taj{p:Prop}(h:p:=by
 have hfb:(d.fr.toList == d.to_.toList)=true:=zBx hft;have hsz:=HV4.o.fx.lt;have x3:=HV4.o.dx.c 3 rfl;have x4:=HV4.o.dx.c 4 rfl;have x5:=HV4.o.dx.c 5 rfl;have y0:=HV4.o.fx.c 0 rfl;have y1:=HV4.o.fx.c 1 rfl;have y2:=HV4.o.fx.c 2 rfl;have y3:=HV4.o.fx.c 3 rfl;have y4:=HV4.o.fx.c 4 rfl;have y5:=HV4.o.fx.c 5 rfl;have y6:=HV4.o.fx.c 6 rfl;have y7:=HV4.o.fx.c 7 rfl;have y8:=HV4.o.fx.c 8 rfl
 have HS:Hid (res=12):=by
  show _=_
  rw[<-HR1.o,aD hft]
 clear hft HR1;exact tds):p:=h
theorem tak{p:Prop}(h:p:=by
 go_wp2;go_quiet(fail);obtain⟨w3,hrun,hm3,hg3,hs3⟩:=zAS tMap kStr (HM2.o.drewN nq) (l[k]).nm (.int .i64 (k:Int));have HM3:=zq hm3;have HB3:=zq (below_map (zAd HB2.o nq) hg3 (aE _) (by have:=HB2.o.size;simpa using this));have HR0:=zq hr0;clear hm3 hg3 hs3 HM2 HB2 hr0;go_wp2
 go_roundg (gk-1)
 case measure=>have:=HK.o;omega
 case rel =>
  refine⟨k+1,zh,zi,fun j hj=>?_,?_,HB3.o⟩
  ·exact tdo
  ·have:=HM3.o
   rw[<-HR0.o]at this;exact this):p:=h
theorem tal{p:Prop}(h:p:=by
 apply List.ext_getElem?
 intro n;have e1:(es.toList.map fun e=>(e.key,e.val))[n]?=(L.map fun p=>(mk p.1,p.2))[n]?:=by rw[hL]
 rw[List.getElem?_map,List.getElem?_map]at e1;rw[List.getElem?_map,List.getElem?_map,List.getElem?_modify,Array.toList_modify,List.getElem?_modify]
 by_cases hn:i=n
 ·subst hn
  rw[List.getElem?_eq_getElem h5,List.getElem?_eq_getElem yf];simp
 ·simp only[hn,if_false]
  cases hx:es.toList[n]?<;>cases hy:L[n]?<;>simp_all):p:=h
theorem tam{p:Prop}(h:p:=by
 have hA2:=hA.set l.length cy;have hl2:(L.set l.length cy).length=l.length+1:=by rw[aF,HL.o]
 rw[<-hl2];(with_reducible refine(trim_n _ _ (L.set l.length cy) _ w za (aE _) (by have:=hA2.rd (L.set l.length cy).length;rwa [aG]at this) (hLt.set yk _) (hbw.setCell hwg _) HT.o).mono ?_);rintro e w' ⟨A,c,rfl,hn,hb⟩;clear hl2 hA2;go_wp2;go_ret
 exact⟨A,c,rfl,hn,hb⟩):p:=h
theorem tan{p:Prop}(h:p:=by
 have x12:=HV2.o.dx.c 12 rfl;have y0:=HV2.o.fx.c 0 rfl;have y1:=HV2.o.fx.c 1 rfl;have y2:=HV2.o.fx.c 2 rfl;have y3:=HV2.o.fx.c 3 rfl;have y4:=HV2.o.fx.c 4 rfl;have y5:=HV2.o.fx.c 5 rfl;have y6:=HV2.o.fx.c 6 rfl;have y7:=HV2.o.fx.c 7 rfl;have y8:=HV2.o.fx.c 8 rfl;exact tdt):p:=h
theorem tao{p:Prop}(h:p:=by
 have HO4:Hid (OwnB w4 w1.heap.size (.slice A1 ((sgL rs th i (ds.take j)).length+1) c1) (sgL rs th i (ds.take (j+1)))):=by show zAs _ _ _ _ _ _ _;rw[HS2.o];exact hown4
 have HB4:=zq ((HB3.o.alloc hw3 _).trans hb4);clear hown4 hg4 hb4 hor4 s0;go_wp2
 go_roundg (gk-1)
 case measure=>have:=HJ.o;omega
 case rel=>exact⟨j+1,_,rfl,yi,zi,HO4.o,HB4.o⟩):p:=h
theorem tap{p:Prop}(h:p:=by
 have e1:(es.toList.map fun e=>(e.key,e.val))[i]?=(L.map fun p=>(mk p.1,p.2))[i]?:=by rw[hL]
 rw[List.getElem?_map,List.getElem?_map,List.getElem?_eq_getElem h5,List.getElem?_eq_getElem yf]at e1;rw[List.getElem?_eq_getElem h5]at h6;simp only[aH,aI,Prod.mk.injEq]at e1 h6;rw[<-h6];simpa using e1.1):p:=h
theorem taq{p:Prop}(h:p:=by
 refine zAq ho rfl (v:=.map (some w1.heap.size)) (w':=w1.alloc (.map #[] 0)) (by simp[execOp,run_makeMap]) ⟨_,zo,_,r1,r2,g1,g2,AL,cL,hJ.step za za za hd ((aJ _ _).alloc (aE _) _) ⟨zd,zd,zd,zd,zd,fun _=>⟨rfl,zd,aK _ _⟩,zd⟩⟩):p:=h
theorem tar{p:Prop}(h:p:=by
 (go_wp2_with fail);refine wp_region_still_tail 6 zb zb ?_;simp only[aL,aM,aN,aO]
 repeat still_step
 refine wpStill_nil ?_;change wpList _ _ _ _ _ w13.drew;(go_wp2_with fail);go_ret
 exact zCi.ok (zCp HS.o.symm) HF.o HF.o.bel):p:=h
theorem tas{p:Prop}(h:p:=by
 rw[<-e];intro hp;obtain⟨b,o,rfl,hlt,hcl⟩:=h.at_ (by have:=wtrim_len L;omega);refine⟨b,o,rfl,fun i hi=>?_⟩;have hi':i<L.length:=by have:=wtrim_len L;omega
 rw[hcl i hi']
 have:(zBm L)[i]=L[i]:=by
  have h1:=wtrim_prefix L;rw[List.getElem_of_eq h1 hi,aP]
 rw[this]):p:=h
theorem tat{p:Prop}(h:p:=by
 go_wp2;go_quiet(fail);go_wp2
 go_roundg (gk-1)
 case measure=>have:=HK.o;omega
 case rel =>
  refine⟨k+1,zh,zi,fun j hj=>?_,zAd HB2.o _⟩
  exact tdo):p:=h
theorem tau{p:Prop}(h:p:=by
 go_wp2
 go_roundg (gk-1)
 case measure=>have:=HK.o;omega
 case rel =>
  refine⟨k+1,zh,zi,fun j hj hjk=>?_,HM2.o,HB2.o⟩
  rcases aQ j k with h1|h1
  ·exact HP.o j hj h1
  ·obtain rfl:j=k:=by omega
   exact HF.o):p:=h
theorem tav{p:Prop}(h:p:=by
 have hld:(Instr.loadAt 101 (.pointer (some ⟨s,5,none⟩))).run Tryz.prog w1=.ok (slAt g2 n) w1:=by simp[go_sem,hc5 zc]
 exact zAq ho rfl (v:=slAt g2 n) (w':=w1) (by simp[execOp,ev,hld]) ⟨_,zo,hJ.pure zc zd hd⟩):p:=h
theorem taw{p:Prop}(h:p:=by
 have hl2:=HL.o;rw[<-hl2];(with_reducible refine(trim_n _ _ L _ w za (aE _) (by have:=hA.rd L.length;rwa [aG]at this) hLt hbw HT.o).mono ?_);rintro e w' ⟨A,c,rfl,hn,hb⟩;clear hl2;go_wp2;go_ret
 exact⟨A,c,rfl,hn,hb⟩):p:=h
theorem tax{p:Prop}(h:p:=by
 go_wp2
 go_roundg (gk-1)
 case measure=>have:=HK.o;omega
 case rel =>
  refine⟨k+1,zh,zi,fun j hj=>?_,HBL2.o⟩
  exact tdn):p:=h
theorem tay{p:Prop}(h:p:=by
 have h1:=HV.o;rw[aO,aO,HVA.o]at h1;have h2:=Nat.div_mod_unique (a:=a) (b:=b) (c:=rr) (d:=zAk B32 Q) za;have h3:=h2.2 ⟨by rw[h1,aR b];omega,hrr⟩;exact⟨h3.1.symm,h3.2.symm⟩):p:=h
theorem taz{p:Prop}(h:p:=by
 go_wp2;refine aC (v:=.tuple #[.agg zSpot,.int .i64 5]) ?_ rfl ?_
 ·simp[results,Tryz.results35,go_sem,x0,x1,x2]
 ·exact tdp):p:=h
theorem ta0{p:Prop}(h:p:=by
 rw[hany,hA]at HCO;have HS:=zq he;clear he h hk hany;(go_wp2_with fail);(with_reducible refine HCO.o.mono ?_);rintro e w10⟨rfl,hb10⟩;go_wp2;go_ret
 exact zAg.mk (zCp HS.o) (zAa HST9.o.bel hb10)):p:=h
theorem ta1{p:Prop}(h:p:=by
 go_wp2
 go_roundg (gk-1)
 case measure=>have:=HK.o;omega
 case rel=>exact⟨k+1,zh,zi,zAF HP.o,by rw[gathA_no HPT.o];exact HO.o.alloc _,HB.o.alloc HB.o.size _⟩):p:=h
theorem ta2{p:Prop}(h:p:=by
 have h9:(t[i]?).map (·.1)=some k:=zr;obtain⟨p,hp,hpk⟩:=Option.map_eq_some_iff.1 h9;exact h1 (by rw[e,<-hpk];exact aS (f:=(·.1)) (List.mem_of_getElem? hp))):p:=h
theorem ta3{p:Prop}(h:p:=by
 go_wp2;refine aC (v:=.tuple #[.agg zRt,.bool false]) (by simp[results,Tryz.results84,go_sem,z0,z1]) rfl ⟨by rw[HR.o],(HB2.o.setCell zd _).setCell zd _⟩):p:=h
theorem ta4{p:Prop}(h:p:=by
 have q0:=zAx t0;have HS:Hid (zAw d=true):=by show _=_;unfold zAw zAl;rw[HK.o];simp[t0]
 clear t0;exact tdu):p:=h
theorem ta5{p:Prop}(h:p:=by
 exfalso;obtain⟨k,_,hk⟩:=List.exists_of_findSome?_eq_some hf;unfold zBB at hk;exact tdq):p:=h
theorem ta6{p:Prop}(h:p:=by
 show _=_
 by_cases e:q=p
 ·rw[aT e,(cmp_zero hq hp).2 e];rfl
 ·rw[aU e]
  exact(beq_eq_false_iff_ne.2 fun e2=>e ((cmp_zero hq hp).1 e2)).symm):p:=h
theorem ta7{p:Prop}(h:p:=by
 (go_wp2_with fail);(with_reducible refine HAW.o.mono ?_);rintro e w4⟨rfl,hb4⟩;have HB4:=zq (zAa HB2.o hb4);clear hb4;go_wp2;go_ret
 exact zAg.mk rfl HB4.o):p:=h
theorem ta8{p:Prop}(h:p:=by
 obtain⟨q,hq⟩:∃q,q=2000:=⟨_,rfl⟩;rw[<-hq]at hl ⊢;refine aB (decV_dg (zBc hs).1) (aV zc ?_)
 simpa using hl):p:=h
theorem ta9{p:Prop}(h:p:=by
 go_wp2
 go_roundg (gk-1)
 case measure=>have:=HK.o;omega
 case rel=>exact⟨k+1,zh,zi,by rw[HSU.o,HQ.o];simpa using HO.o,HB.o⟩):p:=h
theorem tba{p:Prop}(h:p:=by
 go_enter Tryz.func197,Tryz.ntmps197
 go_wp2_with (go_at_call 262;refine(isNaN_c _ _).mono ?_;rintro e w' ⟨rfl,rfl⟩)
 go_ret
 exact zBk.mk (zCp HS.o.symm) rfl):p:=h
theorem tbb{p:Prop}(h:p:=by
 by_cases h2:d.th=th
 ·have hc:zCB th d=true:=by unfold zCB;rw[h1,h2];simp
  rw[vB_day (by rw[h1];rfl) (edgeB_no h hd hc)]
 ·rw[aU h2];simp):p:=h
theorem tbc{p:Prop}(h:p:=by
 rcases q4 with q4|⟨q4,q4b⟩
 ·exact tdu
 ·exact tdu):p:=h
theorem tbd{p:Prop}(h:p:=by
 rw[hv];have HV:=zq hv;clear hv h
 go_enter Tryz.func267,Tryz.ntmps267;exact tdr):p:=h
theorem tbe{p:Prop}(h:p:=by
 exact zAq ho rfl (v:=.pointer (some ⟨s,5,none⟩)) (w':=w1) (by simp[execOp,hev3,hfld]) ⟨_,zo,hJ.pure zc zd hd⟩):p:=h
theorem tbf{p:Prop}(h:p:=by
 rw[zAb _ _ zc]at hd;rw[zAb _ _ zc,zAb _ _ zc,zAb _ _ zc,zAb _ _ zc];exact h.d9' hd):p:=h
theorem tbg{p:Prop}(h:p:=by
 show _=_
 have hn:¬(zBi d.th=false\/zBi d.fr=false\/zBi d.to_=false):=by rw[hnm0,hnm1,hnm2];simp
 rw[<-HR.o];unfold giftF2;rw[aW hn]):p:=h
theorem tbh{p:Prop}(h:p:=by
 rw[<-HA.o];go_wp2
 go_roundg (gk-1)
 case measure=>have:=HJ.o;omega
 case rel=>exact⟨j+1,yi,zi,HE.o,HGE.o⟩):p:=h
theorem tbi{p:Prop}(h:p:=by
 have HS:=zq hres;clear hres
 go_enter Tryz.func90,Tryz.ntmps90;(go_wp2_with fail);go_ret
 exact zAg.mk (zDm HS.o.symm) (aJ _ _)):p:=h
theorem tbj{p:Prop}(h:p:=by
 rw[<-Rat.num_nonneg,Rat.num_mkRat]
 split
 ·exact Int.le_refl _
 ·exact Int.ediv_nonneg (Int.natCast_nonneg _) (Int.natCast_nonneg _)):p:=h
theorem tbk{p:Prop}(h:p:=by
 exact zAq ho rfl (v:=.int .i64 (y:Int)) (w':=w1) (by simp[execOp,hev12]) ⟨_,zo,hJ.pure zc zd hd⟩):p:=h
theorem tbl{p:Prop}(h:p:=by
 rintro(⟨n,rfl⟩|⟨b,rfl⟩)
 ·rcases hu with h|h|h|h|h|h<;>cases h
 ·rcases hu with h|h|h|h|h|h<;>cases h):p:=h
theorem tbm{p:Prop}(h:p:=by
 have HS:Hid (res=1):=by
  show _=_
  rw[<-HR1.o,aD hb]
 clear hb HR1;exact tdt):p:=h
theorem tbn{p:Prop}(h:p:=by
 clear hp2 hg2 hs2 hq;go_wp2;exact aC (v:=.tuple #[]) (by simp[results,Tryz.results79,go_sem]) rfl ⟨rfl,HP2.o,HG.o⟩):p:=h
theorem tbo{p:Prop}(h:p:=by
 have hgv:zAl d.kd=true:=by rw[hk];decide
 rw[aD hgv,aD hgv,tw0 za za,giftF_two];simp
 exact fun h=>h.symm):p:=h
theorem tbp{p:Prop}(h:p:=by
 unfold zAK;exact tdl):p:=h
theorem tbq{p:Prop}(h:p:=by
 go_wp2
 go_roundg (gk-1)
 case measure=>have:=HK.o;omega
 case rel=>exact⟨k+1,zh,zi,HN.o,HBD.o⟩):p:=h
theorem tbr{p:Prop}(h:p:=by
 unfold zAK;exact tdm):p:=h
theorem tbs{p:Prop}(h:p:=by
 go_wp2
 go_roundg (gk-1)
 case measure=>have:=HK.o;omega
 case rel=>exact⟨k+1,zh,zi,HLU.o⟩):p:=h
theorem tbt{p:Prop}(h:p:=by
 go_enter Tryz.func191,Tryz.ntmps191;exact tdr):p:=h
theorem tbu{p:Prop}(h:p:=by
 show _=_
 have hn:¬(zCF d.bg=false\/zCF d.en=false):=by rw[hb1,hb2];simp
 rw[<-HRP.o];unfold restF;rw[aW hn]):p:=h
theorem tbv{p:Prop}(h:p:=by
 rw[hv];have HV:=zq hv;clear hv
 go_enter Tryz.func163,Tryz.ntmps163;go_wp2;go_ret
 exact zBU.mk rfl ⟨0,rfl⟩):p:=h
theorem tbw{p:Prop}(h:p:=by
 rw[aX w b _ _ _ _ hs]at this
 rcases z6 this with h1|h1
 ·exact(hf _).1 h1
 ·exact(hf _).2 h1):p:=h
theorem tbx{p:Prop}(h:p:=by
 exact yields_deed zb (.tmp 3) rfl w.heap.size 0 zb d (fun w hSw=>rangeD hSw.dx)):p:=h
theorem tby{p:Prop}(h:p:=by
 have:cs.toList.drop (0+0+new.toList.length)=[]:=aY (by simp[hn,hcs]);rw[this];simp):p:=h
theorem tbz{p:Prop}(h:p:=by
 rw[zAb _ _ zc]at hd;rw[zAb _ _ zc,zAb _ _ zc];exact h.d11' hd):p:=h
theorem tb0{p:Prop}(h:p:=by
 rw[List.find?_eq_none];intro q hq hs;have:=List.any_eq_true.2 ⟨q,hq,hs⟩;rw[h]at this;cases this):p:=h
theorem tb1{p:Prop}(h:p:=by
 clear HR3;go_wp2;go_ret
 exact zAg.mk (zCp HS.o.symm) (zAd (zAd HV.o.bel _) _)):p:=h
theorem tb2{p:Prop}(h:p:=by
 rw[zAb _ _ zc]at hd;rw[zAb _ _ zc];exact(h.alloc (.map #[] 0)).d10 hd):p:=h
theorem tb3{p:Prop}(h:p:=by
 rw[zAb _ _ zc]at hd;rw[zAb _ _ zc];exact(h.alloc (.map #[] 0)).d0 hd):p:=h
theorem tb4{p:Prop}(h:p:=by
 rw[zAb _ _ zc]at hd;rw[zAb _ _ zc];exact(h.alloc (.map #[] 0)).d3 hd):p:=h
theorem tb5{p:Prop}(h:p:=by
 rw[zAb _ _ zc]at hd;rw[zAb _ _ zc];exact(h.alloc (.map #[] 0)).d4 hd):p:=h
theorem tb6{p:Prop}(h:p:=by
 rw[zAb _ _ zc]at hd;rw[zAb _ _ zc];exact(h.alloc (.map #[] 0)).d5 hd):p:=h
theorem tb7{p:Prop}(h:p:=by
 rw[zAb _ _ zc]at hd;rw[zAb _ _ zc];exact(h.alloc (.map #[] 0)).d6 hd):p:=h
theorem tb8{p:Prop}(h:p:=by
 rw[zAb _ _ zc]at hd;rw[zAb _ _ zc];exact(h.alloc (.map #[] 0)).d7 hd):p:=h
theorem tb9{p:Prop}(h:p:=by
 rw[zAb _ _ zc]at hd;rw[zAb _ _ zc];exact(h.alloc (.map #[] 0)).d8 hd):p:=h
theorem tca{p:Prop}(h:p:=by
 have q3':shF 5 d.sh=0:=by rw[<-hk];exact q3
 rw[aW q2,aW q2];simp only[q3',hk,q4];simp):p:=h
theorem tcb{p:Prop}(h:p:=by
 rw[zAb _ _ e2]at hkd;rw[zAr,zAb _ _ e2];exact .inr (h.fs k hk hk9 hkd).2.2.1):p:=h
theorem tcc{p:Prop}(h:p:=by
 unfold openF;rw[aW (show ¬(zBQ rs us ds≠0) by rw[hc];simp),aW]
 simpa using hnm):p:=h
theorem tcd{p:Prop}(h:p:=by
 unfold openF;rw[aW (show ¬(zBQ rs us ds≠0) by rw[hc];simp),aD]
 simpa using hnm):p:=h
theorem tce{p:Prop}(h:p:=by
 obtain⟨b,o,rfl,hc⟩:=h hl;exact⟨b,o,rfl,World.block_lt_of_cell? w _ (hc 0 hl).1,hc⟩):p:=h
theorem tcf{p:Prop}(h:p:=by
 clear hq h5;go_wp2;go_ret
 exact zAg.mk (by rw[HE.o];rfl) (zAa HB.o HBD.o)):p:=h
theorem tcg{p:Prop}(h:p:=by
 rw[hz2];have h:((bytes*n:Nat):Int)<=281474976710656:=za
 rwa [aZ]at h):p:=h
theorem tch{p:Prop}(h:p:=by
 rw[List.getLast?_eq_getElem?,List.getElem?_eq_getElem za]at htop
 injection htop):p:=h
theorem tci{p:Prop}(h:p:=by
 go_wp2;go_ret
 exact zCi.bad (zCp HS.o.symm) (by rw[HS.o];decide) HV2.o.cs.bel):p:=h
theorem tcj{p:Prop}(h:p:=by
 go_wp2;go_ret
 exact zCi.bad (zCp HS.o.symm) (by rw[HS.o];decide) HVY.o.cs.bel):p:=h
theorem tck{p:Prop}(h:p:=by
 go_quiet(fail);go_wp2;go_ret
 exact zAg.mk (zDm HV.o.symm) (zAd HBW.o _)):p:=h
theorem tcl{p:Prop}(h:p:=by
 rw[zAb _ _ e2]at hkd;rw[zAb _ _ e2];exact h.dj j k hj hk hj9 hk9 hne hjd hkd):p:=h
theorem tcm{p:Prop}(h:p:=by
 rcases Nat.lt_or_gt_of_ne hde with h|h
 ·rw[zCI h];rfl
 ·rw[zCS h];rfl):p:=h
theorem tcn{p:Prop}(h:p:=by
 have HS:=zq he;clear he h hk;go_wp2;go_ret
 exact zAg.mk (zCp HS.o) HST9.o.bel):p:=h
theorem tco{p:Prop}(h:p:=by
 rw[zAb _ _ zc]at hd;have:=(h.d9' hd).2.2.1;rw[hi]at this;cases this):p:=h
theorem tcp{p:Prop}(h:p:=by
 rw[zAb _ _ zc]at hd;have:=(h.d9' hd).2.2.2;rw[hi]at this;cases this):p:=h
theorem tcq{p:Prop}(h:p:=by
 rw[zAb _ _ zc]at hd;rw[zAb _ _ zc];exact h.d10 hd):p:=h
theorem tcr{p:Prop}(h:p:=by
 rw[zAb _ _ zc]at hd;rw[zAb _ _ zc];exact h.d1 hd):p:=h
theorem tcs{p:Prop}(h:p:=by
 rw[zAb _ _ zc]at hd;rw[zAb _ _ zc];exact h.d2 hd):p:=h
theorem tct{p:Prop}(h:p:=by
 rw[zAb _ _ zc]at hd;rw[zAb _ _ zc];exact h.d3 hd):p:=h
theorem tcu{p:Prop}(h:p:=by
 rw[zAb _ _ zc]at hd;rw[zAb _ _ zc];exact h.d4 hd):p:=h
theorem tcv{p:Prop}(h:p:=by
 rw[zAb _ _ zc]at hd;rw[zAb _ _ zc];exact h.d5 hd):p:=h
theorem tcw{p:Prop}(h:p:=by
 rw[zAb _ _ zc]at hd;rw[zAb _ _ zc];exact h.d6 hd):p:=h
theorem tcx{p:Prop}(h:p:=by
 rw[zAb _ _ zc]at hd;rw[zAb _ _ zc];exact h.d7 hd):p:=h
theorem tcy{p:Prop}(h:p:=by
 rw[zAb _ _ zc]at hd;rw[zAb _ _ zc];exact h.d8 hd):p:=h
theorem tcz{p:Prop}(h:p:=by
 rw[zAb _ _ zc]at hd;rw[zAb _ _ zc];exact h.d9 hd):p:=h
theorem tc0{p:Prop}(h:p:=by
 rw[zAb _ _ zc]at hd;rw[zAb _ _ zc];exact h.d0 hd):p:=h
theorem tc1{p:Prop}(h:p:=by
 exact((HB.o.setCell zd _).setCell zd _).setCell zd _):p:=h
theorem tc2{p:Prop}(h:p:=by
 exact((aJ w.heap.size w).alloc (aE _) _).alloc zd _):p:=h
theorem tc3{p:Prop}(h:p:=by
 clear h3 h4;go_wp2;go_ret
 exact zAg.mk (zCp HS.o.symm) HB0.o):p:=h
theorem tc4{p:Prop}(h:p:=by
 exact(HB.o.setCell ze _).setCell ze _):p:=h
theorem tc5{p:Prop}(h:p:=by
 go_wp2;go_ret
 exact zBU.mk (zCp HF.o.symm) ⟨nd,rfl⟩):p:=h
theorem tc6{p:Prop}(h:p:=by
 rw[bA h,bB]
 rfl):p:=h
theorem tc7{p:Prop}(h:p:=by
 go_wp2;go_ret
 exact zAg.mk (zCp HS.o.symm) HV10.o.bel):p:=h
theorem tc8{p:Prop}(h:p:=by
 go_wp2;go_ret
 exact zAg.mk (zCp HS.o.symm) HV5.o.bel):p:=h
theorem tc9{p:Prop}(h:p:=by
 rw[aD hk];exact(zBy _).2 (.inl ⟨s,hs,rfl⟩)):p:=h
theorem tda{p:Prop}(h:p:=by
 go_wp2;go_ret
 exact zAg.mk (by rw[HE.o];rfl) HBD.o):p:=h
theorem tdb{p:Prop}(h:p:=by
 go_wp2;go_meet;exact⟨false,rfl,HE.o,aJ _ _⟩):p:=h
theorem tdc{p:Prop}(h:p:=by
 go_wp2;go_ret
 exact zAg.mk (zDm HS.o.symm) HB2.o):p:=h
theorem tdd{p:Prop}(h:p:=by
 rw[zAb _ _ zc]at hd hd';exact h.d12 hd hd'):p:=h
theorem tde{p:Prop}(h:p:=by
 go_wp2;go_ret
 exact zAg.mk (zCp HS.o.symm) HB0.o):p:=h
theorem tdf{p:Prop}(h:p:=by
 go_wp2;go_ret
 exact zAg.mk (zCp HS.o.symm) HB2.o):p:=h
theorem tdg{p:Prop}(h:p:=by
 go_wp2;go_ret
 exact zAg.mk (zCp HS.o.symm) HB1.o):p:=h
theorem tdh{p:Prop}(h:p:=by
 show _=_
 rw[<-HR.o];unfold divV;rw[hk];simp[hnm]):p:=h
theorem tdi{p:Prop}(h:p:=by
 go_wp2;go_ret
 exact zBk.mk (zDm HV.o.symm) rfl):p:=h
theorem tdj{p:Prop}(h:p:=by
 rw[zAb _ _ zc]at hd;exact h.d11 hd):p:=h
theorem tdk{p:Prop}(h:p:=by
 show zAk B32 (r.take (k+1))=zAk B32 (r.take k)+B32^k*0
 rw[bC za,bC za];simp):p:=h
theorem tdl{p:Prop}(h:p:=by
 split
 ·exact(zBy _).2 (.inr (zBP.2 (.inl rfl)))
 ·exact zBP.2 (.inr (zBP.2 (.inl rfl)))):p:=h
theorem tdm{p:Prop}(h:p:=by
 split
 ·exact(zBy _).2 (.inr (zBP.2 (.inr hp)))
 ·exact zBP.2 (.inr (zBP.2 (.inr hp)))):p:=h
theorem tdn{p:Prop}(h:p:=by
 rcases aQ j k with h9|h9
 ·exact HP.o j h9
 ·obtain rfl:j=k:=by omega
  exact HF.o):p:=h
theorem tdo{p:Prop}(h:p:=by
 rcases aQ j k with h1|h1
 ·exact HP.o j h1
 ·obtain rfl:j=k:=by omega
  exact HF.o):p:=h
theorem tdp{p:Prop}(h:p:=by
 exact⟨below_st3 HB.o (aE _) _ _ _,.inl ⟨by rw[HF.o];decide,by rw[HF.o]⟩⟩):p:=h
theorem tdq{p:Prop}(h:p:=by
 split at hk
 ·cases hk;cases h
 ·split at hk
  ·cases hk;cases h
  ·cases hk):p:=h
theorem tdr{p:Prop}(h:p:=by
 go_wp2;go_ret
 exact zAg.mk rfl ((aJ w.heap.size w).alloc (aE _) _)):p:=h
theorem tds{p:Prop}(h:p:=by
 go_wp2;go_ret
 exact zAg.mk (zCp HS.o.symm) HV4.o.bel):p:=h
theorem tdt{p:Prop}(h:p:=by
 go_wp2;go_ret
 exact zAg.mk (zCp HS.o.symm) HV2.o.bel):p:=h
theorem tdu{p:Prop}(h:p:=by
 go_wp2;go_ret
 exact zAg.mk (zDm HS.o.symm) HB2.o):p:=h
theorem tdv{p:Prop}(h:p:=by
 show _=_
 rw[<-HR.o];unfold giftF2;rw[aD hor]):p:=h
def sle(a b:BA):Bool:=Go.Op.bytesLess a.toList b.toList || a.toList == b.toList
def slt(a b:BA):Bool:=Go.Op.bytesLess a.toList b.toList
theorem zBV:∀(x y:List UInt8),Go.Op.bytesLess x y=decide (x<y)
 |[],[]=>by simp[Go.Op.bytesLess]
 |_::_,[]=>by simp[Go.Op.bytesLess]
 |[],_::_=>by simp[Go.Op.bytesLess]
 |a::x,b::y=>by
  rw[Go.Op.bytesLess,zBV x y,bD];simp[List.cons_lt_cons_iff]
theorem loop_eq(bs:BA):∀(n i:Nat)(r:List UInt8),bs.size-i=n->i<=bs.size -> ByteArray.toList.loop bs i r=r.reverse++bs.data.toList.drop i:=by
 have hlen:bs.data.toList.length=bs.size:=by cases bs;rfl
 intro n
 induction n with
 |zero =>
  intro i r h hi;have e:i=bs.size:=za;subst e;have hd:bs.data.toList.drop bs.size=[]:=aY (by rw[hlen];exact aE _);rw[ByteArray.toList.loop,aW (Nat.lt_irrefl _),hd,bE]
 |succ n ih =>
  intro i r h hi;have hlt:i<bs.size:=za;rw[ByteArray.toList.loop,aD hlt,ih (i+1) _ za za];have hl:i<bs.data.toList.length:=by rw[hlen];exact hlt
  rw[bF hl]
  have hg:bs.get! i=bs.data.toList[i]:=by
   cases bs with
   |mk d =>
    have hd:i<d.size:=hlt;simp[ByteArray.get!,hd]
  simp[hg]
theorem toList_eq(bs:BA):bs.toList=bs.data.toList:=by
 unfold ByteArray.toList;rw[loop_eq bs bs.size 0 [] za za];simp
theorem toList_inj{a b:BA}(h:a.toList=b.toList):a=b:=by
 rw[toList_eq,toList_eq]at h;exact ByteArray.ext (Array.toList_inj.1 h)
theorem str_eq{a b:BA}(h:(a.toList == b.toList)=true):a=b:=toList_inj zr
theorem zBx{a b:BA}(h:a=b):(a.toList == b.toList)=true:=by rw[h];simp
theorem zBh{a b:BA}(h:a≠b):(a.toList == b.toList)=false:=by
 rw[beq_eq_false_iff_ne];exact fun e=>h (toList_inj e)
def emp:BA:=⟨#[]⟩
theorem emp_toList:emp.toList=[]:=by rw[toList_eq];rfl
theorem emp_isEmpty:emp.toList.isEmpty=true:=by rw[emp_toList];rfl
theorem zAx{s:BA}(h:s≠emp):s.toList.isEmpty=false:=by
 cases hs:s.toList with
 |nil=>exact absurd (toList_inj (hs.trans emp_toList.symm)) h
 |cons a l=>rfl
theorem zAv{s:BA}(h:s=emp):s.toList.isEmpty=true:=by rw[h];exact emp_isEmpty
theorem slt_irrefl(a:BA):slt a a=false:=by
 unfold slt;rw[zBV];simp[List.lt_irrefl]
theorem slt_trans{a b c:BA}(h:slt a b=true)(k:slt b c=true):slt a c=true:=by
 unfold slt at *;rw[zBV]at *;simp only[bG]at *;exact List.lt_trans h k
theorem zBq{a b:BA}(h:sle a b=false):slt b a=true:=by
 unfold sle at h;unfold slt;rw[zBV]at *;simp only[bH,decide_eq_false_iff_not,beq_eq_false_iff_ne]at h;simp only[bG];obtain⟨h1,h2⟩:=h;rw[List.not_lt]at h1;refine Decidable.byContradiction fun h3=>h2 ?_
 rw[List.not_lt]at h3;exact List.le_antisymm h3 h1
theorem zCc{a b:BA}(h:slt a b=true):a≠b:=by
 rintro rfl;rw[slt_irrefl]at h;cases h
def memS(l:List BA)(s:BA):Bool:=l.any fun x=>decide (x=s)
theorem zBz{l:List BA}{s:BA}:memS l s=true↔s∈l:=by
 unfold memS;simp
structure Rg where
 nm:BA
 par:BA
structure Ar where
 rg:BA
 out:Bool
instance:Inhabited Rg:=⟨⟨emp,emp⟩⟩
instance:Inhabited Ar:=⟨⟨emp,false⟩⟩
def idx(l:List Rg)(s:BA):Option Nat:=l.findIdx? fun r=>decide (r.nm=s)
theorem idx_some{l:List Rg}{s:BA}{i:Nat}(h:idx l s=some i):∃hi:i<l.length,(l[i]).nm=s:=by
 obtain⟨hi,hp,_⟩:=List.findIdx?_eq_some_iff_getElem.1 h;exact⟨hi,by simpa using hp⟩
theorem idx_none{l:List Rg}{s:BA}(h:idx l s=none){i:Nat}(hi:i<l.length):(l[i]).nm≠s:=by
 have:=List.findIdx?_eq_none_iff.1 h l[i] (bI hi)
 simpa using this
theorem idx_mk{l:List Rg}{s:BA}{i:Nat}(hi:i<l.length)(h:(l[i]).nm=s)(hmin:∀j (hj:j<i),(l[j]).nm≠s):idx l s=some i:=
 List.findIdx?_eq_some_iff_getElem.2 ⟨hi,zr,fun j hj=>by simpa using hmin j hj⟩
def Inc(l:List Rg):Prop:=∀i (h:i+1<l.length),slt (l[i]).nm (l[i+1]).nm=true
theorem Inc.lt{l:List Rg}(h:Inc l):∀(d i:Nat)(hj:i+d+1<l.length),slt (l[i]).nm (l[i+d+1]).nm=true
 |0,i,hj=>h i hj
 |d+1,i,hj=>slt_trans (h.lt d i za) (h (i+d+1) za)
theorem Inc.inj{l:List Rg}(h:Inc l){i j:Nat}(hi:i<l.length)(hj:j<l.length)(e:(l[i]).nm=(l[j]).nm):i=j:=by
 rcases Nat.lt_trichotomy i j with h1|h1|h1
 ·obtain⟨d,rfl⟩:∃d,j=i+d+1:=⟨j-i-1,za⟩
  exact absurd e (zCc (h.lt d i hj))
 ·exact h1
 ·obtain⟨d,rfl⟩:∃d,i=j+d+1:=⟨i-j-1,za⟩
  exact absurd e.symm (zCc (h.lt d j hi))
theorem Inc.idx{l:List Rg}(h:Inc l){i:Nat}(hi:i<l.length):idx l (l[i]).nm=some i:=
 idx_mk hi rfl fun j hj e=>absurd (h.inj za hi e) za
def up(l:List Rg)(i:Nat):Option Nat:=
 match l[i]? with
 |some r=>if r.par=emp then none else idx l r.par
 |none=>none
def upN(l:List Rg):Nat->Nat->Option Nat
 |0,i=>some i
 |n+1,i=>match up l i with
  |some j=>upN l n j
  |none=>none
theorem up_lt{l:List Rg}{i j:Nat}(h:up l i=some j):i<l.length/\j<l.length:=by
 unfold up at h
 split at h
 ·rename_i r hr
  split at h
  ·cases h
  ·obtain⟨hj,_⟩:=idx_some h
   exact⟨(List.getElem?_eq_some_iff.1 hr).1,hj⟩
 ·cases h
theorem up_of{l:List Rg}{i:Nat}(hi:i<l.length):up l i=if (l[i]).par=emp then none else idx l (l[i]).par:=by
 unfold up;rw[List.getElem?_eq_getElem hi]
theorem upN_add(l:List Rg):∀(a b i:Nat),upN l (a+b) i=(upN l a i).bind (upN l b)
 |0,b,i=>by simp[upN]
 |a+1,b,i=>by
  rw[show a+1+b=(a+b)+1 from by omega,upN,upN]
  cases up l i with
  |none=>rfl
  |some j=>exact upN_add l a b j
theorem upN_none_mono{l:List Rg}{n m i:Nat}(h:upN l n i=none)(hm:n<=m):upN l m i=none:=by
 obtain⟨d,rfl⟩:∃d,m=n+d:=⟨m-n,za⟩;rw[upN_add,h];rfl
def EndsR(l:List Rg):Prop:=∀i,i<l.length->upN l (l.length+2) i=none
theorem loop_forever{l:List Rg}{m i:Nat}(h:upN l m i=some i):∀k,upN l (m*k) i=some i
 |0=>by simp[upN]
 |k+1=>by rw[Nat.mul_succ,upN_add,loop_forever h k];exact h
theorem zBf{α:Type}{n k:Nat}{f:Nat->Option α}{x:α}(hk:k<n)(hpre:∀j,j<k->f j=none)(h:f k=some x): (List.range n).findSome? f=some x:=by
 obtain⟨d,rfl⟩:∃d,n=k+(d+1):=⟨n-k-1,za⟩;rw[List.range_add,List.findSome?_append,List.findSome?_eq_none_iff.2 (fun j hj=>hpre j (List.mem_range.1 hj)),List.range_succ_eq_map];simp[h]
theorem zBl{α:Type}{n:Nat}{f:Nat->Option α}(h:∀j,j<n->f j=none):(List.range n).findSome? f=none:=
 List.findSome?_eq_none_iff.2 fun j hj=>h j (List.mem_range.1 hj)
def okB(c:UInt8):Bool:=(decide (97<=c.toNat)&&decide (c.toNat<=122)) || (decide (48<=c.toNat)&&decide (c.toNat<=57)) || decide (c.toNat=45)
def zBi(s:BA):Bool:=decide (1<=s.size)&&decide (s.size<=40)&&decide (97<=(s.data.toList.headD 0).toNat)&&decide ((s.data.toList.headD 0).toNat<=122)&&s.data.toList.all okB
theorem isNm_ne{s:BA}(h:zBi s=true):s≠emp:=by
 rintro rfl
 revert h
 decide
def zCg(l:List Rg)(i:Nat):BA:=(l.getD i default).nm
theorem zAH{l:List Rg}{i:Nat}(h:i<l.length):zCg l i=(l[i]).nm:=by simp[zCg,List.getD,h]
def zBb(l:List Rg)(i:Nat):Option Int:=
 if zBi (zCg l i)=false then some 5 else if 0<i/\sle (zCg l i) (zCg l (i-1))=true then some 8 else none
def zCD(l:List Rg)(r:Rg):Bool:=decide (r.par≠emp)&&(idx l r.par).isNone
instance (l:List Rg):Decidable (EndsR l):=inferInstanceAs (Decidable (∀i,i<l.length->upN l (l.length+2) i=none))
def chkR(l:List Rg):Int:=
 if l=[] then 9 else if 200<l.length then 2 else
 match (List.range l.length).findSome? (zBb l)with
 |some f=>f
 |none=>if l.any (zCD l)=true then 5 else if EndsR l then 0 else 14
structure GoodR (l:List Rg):Prop where
 ne:l≠[]
 len:l.length<=200
 nm:∀i (h:i<l.length),zBi (l[i]).nm=true
 inc:Inc l
 par:∀i (h:i<l.length),(l[i]).par≠emp->∃j,idx l (l[i]).par=some j
 ends:EndsR l
theorem inc_of_fault{l:List Rg}(h:∀i,i<l.length->zBb l i=none):(∀i (h:i<l.length),zBi (l[i]).nm=true)/\Inc l:=by
 have hn:∀i (h:i<l.length),zBi (l[i]).nm=true:=fun i hi=>by
  have:=h i hi;unfold zBb at this;rw[zAH hi]at this
  cases hb:zBi (l[i]).nm with
  |true=>rfl
  |false=>rw[aD hb]at this;cases this
 refine⟨hn,fun i hi=>?_⟩;have:=h (i+1) hi;unfold zBb at this;rw[zAH hi,aW (by rw[hn (i+1) hi];simp),show i+1-1=i from rfl,zAH za]at this;refine zBq ?_
 cases hb:sle (l[i+1]).nm (l[i]).nm with
 |false=>rfl
 |true=>rw[aD ⟨za,hb⟩]at this;cases this
theorem rgFault_ne{l:List Rg}{i:Nat}{f:Int}(h:zBb l i=some f):f≠0:=by
 unfold zBb at h
 split at h
 ·injection h with h;omega
 ·split at h
  ·injection h with h;omega
  ·cases h
theorem zDt{l:List Rg}(h:chkR l=0):GoodR l:=by
 unfold chkR at h
 split at h
 ·omega
 ·rename_i h1
  split at h
  ·omega
  ·rename_i h2
   split at h
   ·rename_i f hf
    obtain⟨i,_,hi⟩:=List.exists_of_findSome?_eq_some hf;exact absurd h (rgFault_ne hi)
   ·rename_i hn
    have hn':∀i,i<l.length->zBb l i=none:=fun i hi=>List.findSome?_eq_none_iff.1 hn i (List.mem_range.2 hi)
    obtain⟨ha,hb⟩:=inc_of_fault hn'
    split at h
    ·omega
    ·rename_i h3
     split at h
     ·rename_i h4
      refine⟨h1,za,ha,hb,fun i hi hne=>?_,h4⟩
      cases hx:idx l (l[i]).par with
      |some j=>exact⟨j,rfl⟩
      |none=>exact absurd (List.any_eq_true.2 ⟨l[i],bI hi,by simp[zCD,hne,hx]⟩) h3
     ·omega
def rgAt(a:List Ar)(i:Nat):BA:=(a.getD i default).rg
theorem rgAt_of{a:List Ar}{i:Nat}(h:i<a.length):rgAt a i=(a[i]).rg:=by simp[rgAt,List.getD,h]
def zBw(l:List Rg)(a:List Ar)(i:Nat):Option Int:=
 if idx l (rgAt a i)=none then some 5 else if 0<i/\sle (rgAt a i) (rgAt a (i-1))=true then some 8 else none
def zCX(l:List Rg)(a:List Ar):Int:=
 if 100<a.length then 2 else
 match (List.range a.length).findSome? (zBw l a)with
 |some f=>f
 |none=>0
def findA(a:List Ar)(s:BA):Option Ar:=a.find? fun x=>decide (x.rg=s)
def liesF(l:List Rg)(a:List Ar):Nat->Nat->Bool
 |0,_=>false
 |f+1,i=>match findA a (zCg l i)with
  |some x=>!x.out
  |none=>match up l i with
   |some j=>liesF l a f j
   |none=>false
def lies(l:List Rg)(a:List Ar)(i:Nat):Bool:=liesF l a (l.length+2) i
def zAB(l:List Rg)(i:Nat):Bool:=l.any fun q=>decide (q.par=zCg l i)
def zAf(l:List Rg):List Nat:=(List.range l.length).filter fun i=>!zAB l i
def zAW(l:List Rg)(a:List Ar):List BA:=((zAf l).filter (lies l a)).map (zCg l)
def zBH(l:List Rg):Nat->Nat->Nat->Bool
 |0,_,_=>false
 |f+1,i,k=>decide (i=k) || match up l i with
  |some j=>zBH l f j k
  |none=>false
def under(l:List Rg)(i k:Nat):Bool:=zBH l (l.length+2) i k
def fullP(l:List Rg)(S:Nat->Bool)(k:Nat):Bool:=(zAf l).all fun i=>!under l i k || S i
def zAE(l:List Rg)(S:Nat->Bool)(i:Nat):Bool:=fullP l S i&&match up l i with
 |none=>true
 |some j=>!fullP l S j
def zAN(l:List Rg)(S:Nat->Bool):List Ar:=((List.range l.length).filter (zAE l S)).map fun i=>⟨zCg l i,false⟩
def leavesS(l:List Rg)(a:List Ar):List BA×Int:=
 if chkR l≠0 then ([],chkR l) else if zCX l a≠0 then ([],zCX l a) else (zAW l a,0)
theorem up_none{l:List Rg}{i:Nat}(hi:i<l.length)(h:(l[i]).par=emp):up l i=none:=by rw[up_of hi,aD h]
theorem GoodR.up_some{l:List Rg}(g:GoodR l){i:Nat}(hi:i<l.length)(h:(l[i]).par≠emp):∃j,∃hj:j<l.length,up l i=some j/\(l[i]).par=(l[j]).nm:=by
 obtain⟨j,hj⟩:=g.par i hi h;obtain⟨hjl,e⟩:=idx_some hj;exact⟨j,hjl,by rw[up_of hi,aW h];exact hj,e.symm⟩
theorem GoodR.nm_ne{l:List Rg}(g:GoodR l){i:Nat}(hi:i<l.length):(l[i]).nm≠emp:=isNm_ne (g.nm i hi)
theorem GoodR.nm_inj{l:List Rg}(g:GoodR l){i j:Nat}(hi:i<l.length)(hj:j<l.length)(e:(l[i]).nm=(l[j]).nm):i=j:=g.inc.inj hi hj e
open Go Go.RowKit
def Rd1{α:Type}(f:α->Value)(w:World)(A:Option Addr)(l:List α):Prop:=
 0<l.length->∃b o:Nat,A=some ⟨b,o,none⟩/\∀i (h:i<l.length),w.cell? ⟨b,o+i,none⟩=some (f l[i])
def Rd2{α:Type}(f g:α->Value)(w:World)(A:Option Addr)(l:List α):Prop:=
 0<l.length->∃b o:Nat,A=some ⟨b,o,none⟩/\∀i (h:i<l.length),w.cell? ⟨b,o+i*2,none⟩=some (f l[i])/\w.cell? ⟨b,o+i*2+1,none⟩=some (g l[i])
section
variable {α:Type} {f g:α→Value} {w w':World} {A:Option Addr} {l:List α}
theorem Rd1.nil:Rd1 f w A []:=fun h=>absurd h zd
theorem Rd2.nil:Rd2 f g w A []:=fun h=>absurd h zd
theorem Rd1.keep(h:Rd1 f w A l)(hk:∀b o,b<w.heap.size->w'.cell? ⟨b,o,none⟩=w.cell? ⟨b,o,none⟩):Rd1 f w' A l:=fun hl=>by
 obtain⟨b,o,rfl,hc⟩:=h hl;exact⟨b,o,rfl,fun i hi=>(hk _ _ (World.block_lt_of_cell? w _ (hc i hi))).trans (hc i hi)⟩
theorem Rd2.keep(h:Rd2 f g w A l)(hk:∀b o,b<w.heap.size->w'.cell? ⟨b,o,none⟩=w.cell? ⟨b,o,none⟩):Rd2 f g w' A l:=fun hl=>by
 obtain⟨b,o,rfl,hc⟩:=h hl;exact⟨b,o,rfl,fun i hi=>⟨(hk _ _ (World.block_lt_of_cell? w _ (hc i hi).1)).trans (hc i hi).1,(hk _ _ (World.block_lt_of_cell? w _ (hc i hi).2)).trans (hc i hi).2⟩⟩
theorem Rd1.below(h:Rd1 f w A l)(hb:Below w.heap.size w w'):Rd1 f w' A l:=h.keep fun _ _ hlt=>hb.cell hlt
theorem Rd2.below(h:Rd2 f g w A l)(hb:Below w.heap.size w w'):Rd2 f g w' A l:=h.keep fun _ _ hlt=>hb.cell hlt
theorem Rd1.alloc(h:Rd1 f w A l)(o:Obj):Rd1 f (w.alloc o) A l:=h.keep fun _ _ hlt=>World.cell?_alloc_lt _ _ _ hlt
theorem Rd1.drew(h:Rd1 f w A l):Rd1 f w.drew A l:=h
theorem Rd2.drew(h:Rd2 f g w A l):Rd2 f g w.drew A l:=h
theorem Rd1.drewN(h:Rd1 f w A l)(n:Nat):Rd1 f (w.drewN n) A l:=h
theorem Rd1.at_(h:Rd1 f w A l)(hl:0<l.length):∃b o:Nat,A=some ⟨b,o,none⟩/\b<w.heap.size/\∀i (h:i<l.length),w.cell? ⟨b,o+i,none⟩=some (f l[i]):=by
 obtain⟨b,o,rfl,hc⟩:=h hl;exact⟨b,o,rfl,World.block_lt_of_cell? w _ (hc 0 hl),hc⟩
theorem Rd2.at_(h:Rd2 f g w A l)(hl:0<l.length):∃b o:Nat,A=some ⟨b,o,none⟩/\b<w.heap.size/\∀i (h:i<l.length),w.cell? ⟨b,o+i*2,none⟩=some (f l[i])/\w.cell? ⟨b,o+i*2+1,none⟩=some (g l[i]):=by
 exact tce
end
theorem zAa{a b c:World}(h:Below a.heap.size a b)(k:Below b.heap.size b c):Below a.heap.size a c:=h.trans (k.mono h.size)
theorem zAd{B:Nat}{a w:World}(h:Below B a w)(n:Nat):Below B a (w.drewN n):=⟨h.os,h.tape,h.output,h.size,h.block⟩
theorem Rd1.of_own{α:Type}{f:α->Value}{w:World}{base:Nat}{e:TypeId}{l:List α}{v:Value}(h:w.ownsRow base e 1 v l.length (l.map f)): ∃A c,v=.slice A l.length c/\Rd1 f w A l:=by
 rcases h.2 with ⟨rfl,hn⟩|⟨g,cap,cur,rfl,hb,hg,hnc,hm,hs,htake⟩
 ·exact⟨none,0,by rw[hn],fun hl=>za⟩
 ·refine⟨_,_,rfl,fun hl=>⟨g,0,rfl,fun i hi=>?_⟩⟩
  rw[bJ,aX w g i cur e (0,0) hg];have:(cur.toList.take (l.length*1))[i]?=(l.map f)[i]?:=by rw[htake]
  rw[List.getElem?_take,aD za]at this
  simpa[hi]using this
structure ElemT (P:Program) (t e:TypeId) (z:Value) (size bytes:Nat):Prop where
 ty:P.underlying t=some (.slice e)
 info:(P.info? e).map (fun i=>(i.zero,i.size,i.bytes))=some (some z,size,bytes)
 zs:z.cells.size=size
 pos:0<size
def zAs{α:Type}(enc:α->List Value)(k:Nat)(w:World)(base:Nat)(e:TypeId)(v:Value)(l:List α):Prop:=
 w.ownsRow base e k v l.length (l.flatMap enc)
section
variable {α:Type} {enc:α→List Value} {k:Nat} {w w':World} {base:Nat} {e:TypeId} {v:Value} {l:List α}
theorem zAs.nil(enc:α->List Value)(k:Nat)(w:World)(base:Nat)(e:TypeId):zAs enc k w base e (.slice none 0 0) ([]:List α):=World.ownsRow_nil w base e k
theorem zAs.alloc(h:zAs enc k w base e v l)(o:Obj):zAs enc k (w.alloc o) base e v l:=World.ownsRow.alloc h o
theorem zAs.grown{row:Option Nat}(h:zAs enc k w base e v l)(hg:w.grownBy w' row)(hne:v.ownBlock=none\/v.ownBlock≠row):zAs enc k w' base e v l:=World.ownsRow.kept h hg hne
theorem zAG(hb:Below w.heap.size w w')(row:Option Nat):w.grownBy w' row:=⟨hb.os,hb.tape,hb.output,hb.size,fun i hi _=>hb.block i hi⟩
theorem zAs.below(h:zAs enc k w base e v l)(hb:Below w.heap.size w w'):zAs enc k w' base e v l:=
 h.grown (row:=none) (zAG hb none) (by cases hv:v.ownBlock<;>simp)
theorem zAs.drewN(h:zAs enc k w base e v l)(n:Nat):zAs enc k (w.drewN n) base e v l:=h
theorem flat1{f:α->Value}(l:List α):l.flatMap (fun x=>[f x])=l.map f:=by
 induction l with
 |nil=>rfl
 |cons a t ih=>simp[List.flatMap_cons,ih]
theorem zAs.rd1{f:α->Value}(h:zAs (fun x=>[f x]) 1 w base e v l):∃A c,v=.slice A l.length c/\Rd1 f w A l:=by
 refine Rd1.of_own (base:=base) (e:=e) ?_;unfold zAs at h;rw[flat1]at h;exact h
theorem flat2{f g:α->Value}(l:List α)(i:Nat)(hi:i<l.length):(l.flatMap fun x=>[f x,g x])[i*2]?=some (f l[i])/\(l.flatMap fun x=>[f x,g x])[i*2+1]?=some (g l[i]):=by
 induction l generalizing i with
 |nil=>simp at hi
 |cons a t ih =>
  cases i with
  |zero=>simp[List.flatMap_cons]
  |succ i =>
   have:=ih i yf;rw[bK,show(i+1)*2=i*2+2 from by omega,show i*2+2+1=(i*2+1)+2 from by omega]
   simpa using this
theorem zAs.rd2{f g:α->Value}(h:zAs (fun x=>[f x,g x]) 2 w base e v l):∃A c,v=.slice A l.length c/\Rd2 f g w A l:=by
 rcases h.2 with ⟨rfl,hn⟩|⟨b,cap,cur,rfl,hb,hg,hnc,hm,hs,htake⟩
 ·exact⟨none,0,by rw[hn],fun hl=>za⟩
 ·refine⟨_,_,rfl,fun hl=>⟨b,0,rfl,fun i hi=>?_⟩⟩
  obtain⟨h0,h1⟩:=flat2 (f:=f) (g:=g) l i hi;rw[<-htake,List.getElem?_take,aD za]at h0 h1;rw[bJ,aX w b _ cur e (0,0) hg,aX w b _ cur e (0,0) hg];exact⟨by simpa using h0,qc⟩
end
theorem zBS{P:Program}{α:Type}{enc:α->List Value}{k:Nat}{ops:Array Oper}{rest:List Oper}{o:Oper}{a:Act}{w:World}{Q:Exit->Act->World->Prop}{e:TypeId}{z:Value}{bytes:Nat}(s x:Operand)(t:TypeId)(hT:ElemT P t e z k bytes)(hgd:o.guard=none)(ho:o.op=.call { callee:=.builtin .append,args:=#[s,x],argTypes:=#[t,t] })
  (base:Nat) (v:Value) (l:List α) (hs:a.eval s=v) (hown:zAs enc k w base e v l)
  (g cp:Nat) (y:α) (hx:a.eval x=.slice (some ⟨g,0,none⟩) 1 cp) (hnew:w.heap[g]?=some (.cells (enc y).toArray e (0,0)))
  (hk:(enc y).length=k) (hone:∀u∈enc y,u.oneCell'=true) (hlen:l.length+1<=maxLen) (hbytes:(l.length+1)*bytes<=140737488355328) (hbase:base<=w.heap.size)
  (h:∀v' w',zAs enc k w' base e v' (l++[y])->w.grownBy w' v.ownBlock->Below base w w'->wpList P ops Q rest (a.put o.dst v') w'):wpList P ops Q (o::rest) a w:=by
 obtain⟨i,hi,hz0,hz1,hz2⟩:=info_parts hT.info;refine wpList_append_own _ hgd s x t ho base e i z k bytes hT.ty hi hz0 hz1 hz2 hT.zs hT.pos v l.length (l.flatMap enc) hs hown ⟨g,0,none⟩ 1 cp (enc y) hx (by rw[hk];omega) ?_ hone hlen hbytes hbase ?_
 ·intro j u hj
  have:=World.news_of_block hnew j u yg;exact this
 ·intro v' w' h1 h2 _
  refine h v' w' ?_ h2 ((aJ _ _).grown h2 hbase fun j hj=>(bL hown j hj).1);unfold zAs
  simpa using h1
end Dw
namespace Go.Proofs.YtbbchlpccgkikaaGreatDoor
open Go.RowKit Dw
abbrev Rgs:=Rd2 (fun r:Rg=>Value.string r.nm) (fun r:Rg=>Value.string r.par)
abbrev Ars:=Rd2 (fun x:Ar=>Value.string x.rg) (fun x:Ar=>Value.bool x.out)
abbrev Strs:=Rd1 Value.string
def zBk(v:Value)(w:World)(e:Ending)(w':World):Prop:=e=.returned v/\w=w'
theorem zBk.mk{v v':Value}{w w':World}(h:v=v')(hw:w=w'):zBk v' w (.returned v) w':=⟨by rw[h],hw⟩
theorem zCp{a b:Int}(h:a=b):Value.int .i64 a=.int .i64 b:=by rw[h]
theorem zDm{a b:Bool}(h:a=b):Value.bool a=.bool b:=by rw[h]
def leafB(l:List Rg)(nm:BA):Bool:=(idx l nm).isSome&&!l.any fun q=>decide (q.par=nm)
theorem leafB_at{l:List Rg}(g:GoodR l){i:Nat}(hi:i<l.length):leafB l (l[i]).nm=!zAB l i:=by
 unfold leafB zAB;rw[g.inc.idx hi,zAH hi]
 rfl
end Go.Proofs.YtbbchlpccgkikaaGreatDoor
namespace Go.Proofs.YtbbchlpccgkikaaGreatDoor
def zAk(B:Nat):List Nat->Nat
 |[]=>0
 |a::l=>a+B*zAk B l
def WLt(B:Nat)(l:List Nat):Prop:=∀x∈l,x<B
def zBm:List Nat->List Nat
 |[]=>[]
 |a::l=>if zBm l=[]/\a=0 then [] else a::zBm l
def wordsF(B:Nat):Nat->Nat->List Nat
 |0,_=>[]
 |f+1,n=>if n=0 then [] else n%B::wordsF B f (n/B)
def zAc(B n:Nat):List Nat:=wordsF B n n
theorem WLt.tail{B a:Nat}{l:List Nat}(h:WLt B (a::l)):WLt B l:=fun x hx=>h x (bM _ hx)
theorem WLt.head{B a:Nat}{l:List Nat}(h:WLt B (a::l)):a<B:=h a bN
theorem WLt.nil{B:Nat}:WLt B []:=fun _ hx=>by cases hx
theorem WLt.cons{B a:Nat}{l:List Nat}(h:a<B)(hl:WLt B l):WLt B (a::l):=fun x hx=>by
 rcases List.mem_cons.1 hx with rfl|hx
 ·exact h
 ·exact hl x hx
theorem zBT(B:Nat):∀l r:List Nat,zAk B (l++r)=zAk B l+B^l.length*zAk B r
 |[],r=>qh
 |a::l,r=>by
  rw[bO,zAk,zAk,zBT B l r,bP,bQ,bR,aR (B^l.length) B,bS];omega
theorem zCW{B:Nat}:∀{l:List Nat},WLt B l->zAk B l<B^l.length
 |[],_=>qh
 |a::l,h=>by
  have h1:=zCW h.tail;have h2:=h.head;rw[zAk,bP,bQ,aR]
  calc a+zAk B l*B<B+zAk B l*B:=by omega
   _=(zAk B l+1)*B:=by rw[bT,Nat.one_mul,Nat.add_comm]
   _<=B^l.length*B:=bU _ h1
theorem wval_zero{B:Nat}:∀{l:List Nat},WLt B l->zAk B l=0->zBm l=[]
 |[],_,_=>rfl
 |a::l,h,e=>by
  have hB:0<B:=bV (bW _) h.head;rw[zAk]at e;have h1:a=0:=za;have h2:B*zAk B l=0:=za
  have h3:zAk B l=0:=by
   rcases Nat.mul_eq_zero.1 h2 with h|h
   ·omega
   ·exact h
  rw[zBm,aD ⟨wval_zero h.tail h3,h1⟩]
theorem wtrim_eq{B:Nat}:∀{l r:List Nat},WLt B l->WLt B r->zAk B l=zAk B r->zBm l=zBm r
 |[],r,_,hr,e=>(wval_zero hr e.symm).symm
 |a::l,[],hl,_,e=>wval_zero hl e
 |a::l,b::r,hl,hr,e=>by
  have h1:=hl.head;have h2:=hr.head;rw[zAk,zAk]at e
  have e1:a=b:=by
   have:=bX (· % B) e;simp only[Nat.add_mul_mod_self_left]at this
   rwa [bY h1,bY h2]at this
  have e2:zAk B l=zAk B r:=by
   have h3:B*zAk B l=B*zAk B r:=za;exact Nat.eq_of_mul_eq_mul_left za h3
  rw[zBm,zBm,wtrim_eq hl.tail hr.tail e2,e1]
theorem wordsF_ok{B:Nat}(hB:1<B):∀f n:Nat,n<=f->zAk B (wordsF B f n)=n/\WLt B (wordsF B f n)/\zBm (wordsF B f n)=wordsF B f n
 |0,n,h=>by
  obtain rfl:n=0:=za;exact⟨rfl,WLt.nil,rfl⟩
 |f+1,n,h=>by
  rw[wordsF]
  split
  ·next h0=>subst h0;exact⟨rfl,WLt.nil,rfl⟩
  ·next h0 =>
   have hlt:n/B<n:=Nat.div_lt_self za hB;obtain⟨h1,h2,h3⟩:=wordsF_ok hB f (n/B) za;refine⟨?_,WLt.cons (bZ _ za) h2,?_⟩
   ·rw[zAk,h1];exact cA n B
   ·rw[zBm,aW,h3]
    rintro⟨e1,e2⟩;rw[h3]at e1;have e3:n/B=0:=by rw[<-h1,e1];rfl
    have:=cA n B;rw[e2,e3]at this;omega
theorem zAz{B:Nat}(hB:1<B)(n:Nat):zAk B (zAc B n)=n:=(wordsF_ok hB n n (aE _)).1
theorem zAX{B:Nat}(hB:1<B)(n:Nat):WLt B (zAc B n):=(wordsF_ok hB n n (aE _)).2.1
theorem words_trim{B:Nat}(hB:1<B)(n:Nat):zBm (zAc B n)=zAc B n:=(wordsF_ok hB n n (aE _)).2.2
theorem wtrim_words{B:Nat}(hB:1<B){l:List Nat}(h:WLt B l):zBm l=zAc B (zAk B l):=by
 rw[<-words_trim hB (zAk B l)];exact wtrim_eq h (zAX hB _) (zAz hB _).symm
theorem zCA{B:Nat}(hB:1<B){n:Nat}:zAc B n=[]↔n=0:=
 ⟨fun h=>by rw[<-zAz hB n,h];rfl,fun h=>by subst h;rfl⟩
theorem zCf{B:Nat}(hB:1<B)(n:Nat):n<B^(zAc B n).length:=by
 have:=zCW (zAX hB n)
 rwa [zAz hB]at this
theorem digit_le{B q u v top v1 n:Nat}(h:q*v<=u)(hv:v1*B^n<=v)(hu:u<(top+1)*B^n)(h1:0<v1):q<=top/v1:=by
 rw[Nat.le_div_iff_mul_le h1]
 have h2:q*v1*B^n<(top+1)*B^n:=by
  calc q*v1*B^n=q*(v1*B^n):=by rw[bS]
   _<=q*v:=cB _ hv
   _<=u:=h
   _<_:=hu
 have:=Nat.lt_of_mul_lt_mul_right h2;omega
theorem wval_one(B a:Nat):zAk B [a]=a:=qh
theorem zAO{B i:Nat}{l:List Nat}(hi:i<l.length):zAk B (l.take (i+1))=zAk B (l.take i)+B^i*l[i]:=by
 rw[bA hi,zBT,wval_one,cC,cK (Nat.le_of_lt hi)]
theorem zDn{B i:Nat}{l:List Nat}(hi:i<l.length):zAk B (l.drop i)=l[i]+B*zAk B (l.drop (i+1)):=by
 rw[bF hi,zAk]
theorem zCq(B i:Nat)(l:List Nat)(hi:i<=l.length):zAk B l=zAk B (l.take i)+B^i*zAk B (l.drop i):=by
 have:=zBT B (l.take i) (l.drop i);rw[cM,cC,cK hi]at this;exact this
theorem add_col{B i x y o c a b s:Nat}(h:o+B^i*c=x+y)(hs:s=c+a+b):(o+B^i*(s%B))+B^(i+1)*(s/B)=(x+B^i*a)+(y+B^i*b):=by
 have h1:B^i*(s%B)+B^(i+1)*(s/B)=B^i*s:=by
  rw[bQ,bS,<-bR,cA]
 have h2:B^i*s=B^i*c+B^i*a+B^i*b:=by rw[hs,bR,bR]
 omega
theorem next_lt{B r v x:Nat}(hr:r<v)(hx:x<B):x+B*r<v*B:=by
 calc x+B*r<B+B*r:=by omega
  _=(r+1)*B:=by rw[bT,Nat.one_mul,aR B r,Nat.add_comm]
  _<=v*B:=bU _ hr
theorem quot_lt{B u v:Nat}(h:u<v*B):u/v<B:=by
 have hv:0<v:=by
  rcases cN v with e|e
  ·subst e;simp at h
  ·exact e
 exact(Nat.div_lt_iff_lt_mul hv).2 (by rw[aR];exact h)
theorem div_next{B r v x:Nat}(hv:0<v)(q:Nat):(x+B*(q*v+r))/v=B*q+(x+B*r)/v/\(x+B*(q*v+r))%v=(x+B*r)%v:=by
 have e:x+B*(q*v+r)=x+B*r+v*(B*q):=by
  rw[bR,<-bS,aR v];omega
 rw[e,Nat.add_mul_div_left _ _ hv,Nat.add_mul_mod_self_left];exact⟨za,rfl⟩
theorem sub_col{B i:Nat}{x y o c a b s:Int}(h:o+(B:Int)^i*c=x-y)(hs:s=c+a-b): (o+(B:Int)^i*(s%(B:Int)))+(B:Int)^(i+1)*(s/(B:Int))=(x+(B:Int)^i*a)-(y+(B:Int)^i*b):=by
 have h1:(B:Int)^i*(s%(B:Int))+(B:Int)^(i+1)*(s/(B:Int))=(B:Int)^i*s:=by
  rw[Int.pow_succ,Int.mul_assoc,<-Int.mul_add,Int.emod_add_mul_ediv]
 have h2:(B:Int)^i*s=(B:Int)^i*c+(B:Int)^i*a-(B:Int)^i*b:=by rw[hs,Int.mul_sub,Int.mul_add]
 omega
theorem gcd_step{a b:Nat}:Nat.gcd a b=Nat.gcd b (a%b):=by
 rw[Nat.gcd_comm,Nat.gcd_rec,Nat.gcd_comm]
def zBW(l:List UInt8):Nat:=l.foldl (fun n c=>10*n+(c.toNat-48)) 0
theorem decV_from(l:List UInt8):∀n:Nat,l.foldl (fun n c=>10*n+(c.toNat-48)) n=n*10^l.length+zBW l:=by
 induction l with
 |nil=>intro n;simp[zBW]
 |cons c l ih =>
  intro n;have e:zBW (c::l)=l.foldl (fun n c=>10*n+(c.toNat-48)) (10*0+(c.toNat-48)):=rfl;rw[cO,ih,e,ih,bP,bQ,bT]
  have h1:10*n*10^l.length=n*(10^l.length*10):=by
   rw[aR 10 n,bS,aR 10]
  rw[h1,cP,bJ];omega
theorem zCK(l r:List UInt8):zBW (l++r)=zBW l*10^r.length+zBW r:=by
 unfold zBW;rw[bB];exact decV_from r _
theorem decV_cut(l:List UInt8)(k:Nat):zBW l=zBW (l.take k)*10^(l.length-k)+zBW (l.drop k):=by
 have:=zCK (l.take k) (l.drop k);rw[cM,List.length_drop]at this;exact this
theorem decV_lt{l:List UInt8}(h:∀c∈l,c.toNat-48<10):zBW l<10^l.length:=by
 induction l with
 |nil=>simp[zBW]
 |cons c l ih =>
  have e:zBW (c::l)=l.foldl (fun n c=>10*n+(c.toNat-48)) (10*0+(c.toNat-48)):=rfl;have h1:=ih fun x hx=>h x (bM _ hx)
  have h2:=h c bN;rw[e,decV_from,bP,bQ]
  calc (10*0+(c.toNat-48))*10^l.length+zBW l<(10*0+(c.toNat-48))*10^l.length+10^l.length:=by omega
   _=(c.toNat-48+1)*10^l.length:=by rw[cP,bJ,bT,Nat.one_mul]
   _<=10*10^l.length:=bU _ h2
   _=10^l.length*10:=aR _ _
theorem scale_col{B i m o c a s:Nat}(hs:s=c+m*a):o+B^i*(s%B)+B^(i+1)*(s/B)=o+B^i*c+B^i*(m*a):=by
 have h1:B^i*(s%B)+B^(i+1)*(s/B)=B^i*s:=by
  rw[bQ,bS,<-bR,cA]
 have h2:B^i*s=B^i*c+B^i*(m*a):=by rw[hs,bR]
 omega
theorem wtrim_zero:∀l:List Nat,zBm (l++[0])=zBm l
 |[]=>by simp[zBm]
 |a::l=>by rw[bO,zBm,zBm,wtrim_zero l]
theorem wtrim_ne{a:Nat}(h:a≠0):∀l:List Nat,zBm (l++[a])=l++[a]
 |[]=>by simp[zBm,h]
 |b::l=>by
  rw[bO,zBm,wtrim_ne h l,aW];rintro⟨e,_⟩;simp at e
theorem wtrim_take_zero{L:List Nat}{k:Nat}(hk:k<L.length)(h:L[k]=0):zBm (L.take (k+1))=zBm (L.take k):=by
 rw[bA hk,h,wtrim_zero]
theorem wtrim_take_ne{L:List Nat}{k:Nat}(hk:k<L.length)(h:L[k]≠0):zBm (L.take (k+1))=L.take (k+1):=by
 rw[bA hk,wtrim_ne h]
theorem wtrim_len(L:List Nat):(zBm L).length<=L.length:=by
 induction L with
 |nil=>simp[zBm]
 |cons a l ih =>
  rw[zBm]
  split<;>simp<;>omega
theorem wtrim_prefix:∀L:List Nat,zBm L=L.take (zBm L).length
 |[]=>by simp[zBm]
 |a::l=>by
  rw[zBm]
  split
  ·simp
  ·rw[bP,aL,<-wtrim_prefix l]
theorem wtrim_last:∀{L:List Nat},zBm L=L->∀(h:L≠[]),L.getLast h≠0
 |[],_,h=>absurd rfl h
 |[a],e,_=>by
  intro h0;have h1:a=0:=by simpa using h0
  subst h1;simp[zBm]at e
 |a::b::l,e,_=>by
  rw[zBm]at e
  split at e
  ·cases e
  ·injection e with _ e
   rw[List.getLast_cons zd];exact wtrim_last e zd
section
variable {B:Nat}
theorem zCH(hB:1<B){n:Nat}(h:0<(zAc B n).length):(zAc B n)[(zAc B n).length-1]≠0:=by
 have h0:zAc B n≠[]:=fun e=>by rw[e]at h;simp at h
 have:=wtrim_last (words_trim hB n) h0
 rwa [List.getLast_eq_getElem]at this
theorem wval_ge{l:List Nat}(h:0<l.length)(h0:l[l.length-1]≠0):B^(l.length-1)<=zAk B l:=by
 have e:l.length-1<l.length:=za;have h1:=zAO (B:=B) e;rw[show l.length-1+1=l.length by omega,aG]at h1;rw[h1];have:1<=l[l.length-1]:=za;have h2:=cB (B^(l.length-1)) this;omega
theorem lt_of_len(hB:1<B){a b:Nat}(h:(zAc B a).length<(zAc B b).length):a<b:=by
 have h1:=zCf hB a;have h2:=wval_ge (B:=B) (l:=zAc B b) za (zCH hB za);rw[zAz hB]at h2;have h3:B^(zAc B a).length<=B^((zAc B b).length-1):=aV za za;omega
theorem zCt(hB:1<B){a k:Nat}(h:a<B^k):(zAc B a).length<=k:=by
 rcases aQ k (zAc B a).length with h1|h1
 ·have h2:=wval_ge (B:=B) (l:=zAc B a) za (zCH hB za)
  rw[zAz hB]at h2;have h3:B^k<=B^((zAc B a).length-1):=aV za za;omega
 ·exact h1
theorem zAI(hB:1<B){a b:Nat}(h:a<=b):(zAc B a).length<=(zAc B b).length:=
 zCt hB (bV h (zCf hB b))
theorem wval_lt_of{l r:List Nat}(hl:WLt B l)(e:l.length=r.length){i:Nat}(hi:i<l.length)(hi':i<r.length)(hd:l.drop (i+1)=r.drop (i+1))(h:l[i]<r[i]):zAk B l<zAk B r:=by
 have h1:=zCq B i l za;have h2:=zCq B i r za;rw[zDn hi]at h1;rw[zDn hi',<-hd]at h2;have h3:zAk B (l.take i)<B^(l.take i).length:=zCW fun x hx=>hl x (cQ hx)
 rw[cC,cK za]at h3;have h4:B^i*(l[i]+1)<=B^i*r[i]:=cB _ h;rw[h1,h2,bR,bR];rw[bR,cR]at h4;omega
end
def cmpN(a b:Nat):Int:=if a<b then -1 else if a=b then 0 else 1
theorem zCI{a b:Nat}(h:a<b):cmpN a b=-1:=by rw[cmpN,aD h]
theorem zCS{a b:Nat}(h:b<a):cmpN a b=1:=by rw[cmpN,aW za,aW za]
theorem zDq{a b:Nat}(h:a=b):cmpN a b=0:=by rw[cmpN,aW za,aD h]
theorem step_col{B i:Nat}{W U V q u v w c lo hi b b':Int}(h:W=U-q*V+(B:Int)^i*(c+b))(hC:c+q*v=lo+B*hi)(hw:w=u-lo-b+B*b'): W+(B:Int)^i*w=(U+(B:Int)^i*u)-q*(V+(B:Int)^i*v)+(B:Int)^(i+1)*(hi+b'):=by
 have h1:(B:Int)^i*w=(B:Int)^i*u-(B:Int)^i*lo-(B:Int)^i*b+(B:Int)^i*(B*b'):=by
  rw[hw,Int.mul_add,Int.mul_sub,Int.mul_sub]
 have h2:(B:Int)^i*(c+b)=(B:Int)^i*c+(B:Int)^i*b:=Int.mul_add ..
 have h3:q*(V+(B:Int)^i*v)=q*V+(B:Int)^i*(q*v):=by
  rw[Int.mul_add,Int.mul_left_comm]
 have h4:(B:Int)^(i+1)*(hi+b')=(B:Int)^i*(B*hi)+(B:Int)^i*(B*b'):=by
  rw[Int.pow_succ,Int.mul_assoc,Int.mul_add,Int.mul_add]
 have h5:(B:Int)^i*c+(B:Int)^i*(q*v)=(B:Int)^i*lo+(B:Int)^i*(B*hi):=by
  rw[<-Int.mul_add,<-Int.mul_add,hC]
 omega
theorem wval_set(B:Nat):∀(l:List Nat)(i:Nat)(x:Nat)(h:i<l.length),zAk B (l.set i x)+B^i*l[i]=zAk B l+B^i*x
 |[],i,x,h=>absurd h zd
 |a::l,0,x,_=>by simp[zAk];omega
 |a::l,i+1,x,h=>by
  have ih:=wval_set B l i x zr;have e1:B^(i+1)*l[i]'(by simpa using h)=B*(B^i*l[i]'(by simpa using h)):=by rw[bQ,aR (B^i) B,bS]
  have e2:B^(i+1)*x=B*(B^i*x):=by rw[bQ,aR (B^i) B,bS]
  rw[cS,zAk,zAk,cT,e1,e2];have h2:=bX (B*·) ih;simp only[bR]at h2;omega
theorem take_set_succ{α:Type}(l:List α)(k:Nat)(x:α)(h:k<l.length):(l.set k x).take (k+1)=l.take k++[x]:=by
 rw[bA zr,List.take_set_of_le (aE k)];simp
theorem drop_set_pred{α:Type}(l:List α)(k:Nat)(x:α)(h:k<l.length):(l.set k x).drop k=x::l.drop (k+1):=by
 rw[bF zr,List.drop_set_of_lt (Nat.lt_succ_self k)];simp
theorem WLt.set{B:Nat}{l:List Nat}(h:WLt B l){x:Nat}(hx:x<B)(i:Nat):WLt B (l.set i x):=fun y hy=>by
 rcases List.mem_or_eq_of_mem_set hy with h1|h1
 ·exact h y h1
 ·rw[h1];exact hx
theorem WLt.take{B:Nat}{l:List Nat}(h:WLt B l)(k:Nat):WLt B (l.take k):=fun y hy=>h y (cQ hy)
theorem WLt.drop{B:Nat}{l:List Nat}(h:WLt B l)(k:Nat):WLt B (l.drop k):=fun y hy=>h y (List.mem_of_mem_drop hy)
theorem WLt.append{B:Nat}{l r:List Nat}(h:WLt B l)(k:WLt B r):WLt B (l++r):=fun y hy=>by
 rcases List.mem_append.1 hy with h1|h1
 ·exact h y h1
 ·exact k y h1
theorem WLt.get{B:Nat}{l:List Nat}(h:WLt B l)(i:Nat)(hi:i<l.length):l[i]<B:=h _ (bI hi)
theorem WLt.zeros{B:Nat}(hB:0<B)(n:Nat):WLt B (List.replicate n 0):=fun y hy=>by
 rw[List.eq_of_mem_replicate hy];exact hB
theorem wval_zeros(B n:Nat):zAk B (List.replicate n 0)=0:=by
 induction n with
 |zero=>rfl
 |succ n ih=>rw[List.replicate_succ,zAk,ih];simp
theorem zCV{B:Nat}{l:List Nat}{k n:Nat}(h:zAk B (l.drop k)<B^n)(hk:k+n<=l.length):zAk B (l.drop (k+n))=0:=by
 have e:=zCq B n (l.drop k) (by rw[List.length_drop];omega);rw[List.drop_drop]at e
 rcases cN (zAk B (l.drop (k+n)))with h0|h0
 ·exact h0
 ·have:B^n*1<=B^n*zAk B (l.drop (k+n)):=cB _ h0
  omega
theorem shr_col{B i s R T u0 x y r:Nat}(hB:0<B)(hs:0<s)(hd:s∣B)(hx:x<B)(h:s*R+u0=T+B^i*(x%s))(hr:r=(x+B*y)/s%B): s*(R+B^i*r)+u0=(T+B^i*x)+B^(i+1)*(y%s):=by
 obtain⟨m,rfl⟩:=hd
 have hm:0<m:=by
  rcases cN m with e|e
  ·subst e;simp at hB
  ·exact e
 have e1:(x+s*m*y)/s=x/s+m*y:=by rw[bS,Nat.add_mul_div_left _ _ hs]
 have e2:x/s<m:=(Nat.div_lt_iff_lt_mul hs).2 (by rw[aR];exact hx)
 have e3:m*y=m*(y%s)+s*m*(y/s):=by
  conv=>lhs;rw[<-cA y s]
  rw[bR,<-bS,aR m s]
 have e4:x/s+m*(y%s)<s*m:=by
  have:m*(y%s)<=m*(s-1):=cB _ (by have:=bZ y hs;omega)
  have h2:m*(s-1)+m=s*m:=by
   rw[<-Nat.mul_succ,aR];congr 1;omega
  omega
 have e5:r=x/s+m*(y%s):=by
  rw[hr,e1,e3,<-Nat.add_assoc,Nat.add_mul_mod_self_left,bY e4]
 have e6:s*r+x%s=x+s*m*(y%s):=by
  rw[e5,bR];have:=cA x s;rw[<-bS];omega
 have h7:s*(R+(s*m)^i*r)=s*R+(s*m)^i*(s*r):=by rw[bR,Nat.mul_left_comm]
 have h8:=bX ((s*m)^i*·) e6;simp only[bR]at h8;have h9:(s*m)^(i+1)*(y%s)=(s*m)^i*(s*m*(y%s)):=by rw[bQ,bS]
 rw[h7,h9];omega
theorem wval_window{B:Nat}{l W:List Nat}{j n:Nat}(hl:j+n<=l.length)(hW:W.length=n)(h0:zAk B (l.drop (j+n))=0): zAk B ((l.take j++W++l.drop (j+n)).drop j)=zAk B W:=by
 have h1:(l.take j).length=j:=qe;rw[List.append_assoc,List.drop_append_of_le_length za,aY za,List.nil_append,zBT,h0];simp
open Go.RowKit Dw
def B32:Nat:=4294967296
theorem zAn:1<B32:=zc
theorem zBI:0<B32:=zc
theorem zBZ:B32=4294967296:=rfl
def u32V:Nat->Value:=fun n=>Value.int .u32 (n:Int)
theorem zBt(n:Nat):u32V n=Value.int .u32 (n:Int):=rfl
abbrev Wds:=Rd1 u32V
structure Nt (w:World) (A:Option Addr) (c n:Nat):Prop where
 rd:Wds w A (zAc B32 n)
 cap:(zAc B32 n).length<=c
abbrev ntV(A:Option Addr)(c n:Nat):Value:=.slice A (zAc B32 n).length c
theorem Nt.below{w w':World}{A:Option Addr}{c n:Nat}(h:Nt w A c n)(hb:Below w.heap.size w w'):Nt w' A c n:=⟨h.rd.below hb,h.cap⟩
theorem Nt.drewN{w:World}{A:Option Addr}{c n:Nat}(h:Nt w A c n)(k:Nat):Nt (w.drewN k) A c n:=⟨h.rd.drewN k,h.cap⟩
def zCZ(n:Nat)(w:World)(e:Ending)(w':World):Prop:=∃A c,e=.returned (ntV A c n)/\Nt w' A c n/\Below w.heap.size w w'
def zBU(v:Value)(w:World)(e:Ending)(w':World):Prop:=e=.returned v/\∃n,w'=w.drewN n
theorem zBU.mk{v v':Value}{w w':World}(h:v=v')(hw:∃n,w'=w.drewN n):zBU v' w (.returned v) w':=⟨by rw[h],hw⟩
def zBD(w:World)(g:Nat)(L:List Nat):Prop:=w.heap[g]?=some (.cells (L.map u32V).toArray 254 (0,0))
section
variable {w w':World} {g:Nat} {L:List Nat}
theorem zBD.lt(h:zBD w g L):g<w.heap.size:=(Array.getElem?_eq_some_iff.1 h).1
theorem zBD.cell(h:zBD w g L)(i:Nat)(hi:i<L.length):w.cell? ⟨g,i,none⟩=some (.int .u32 ((L[i]:Nat):Int)):=by
 rw[aX w g i _ _ _ h];simp[hi,u32V]
theorem zBD.frozen(h:zBD w g L)(i:Nat):w.frozen? ⟨g,i,none⟩=false:=cU w g i _ _ h
theorem zBD.set(h:zBD w g L)(i x:Nat):zBD (w.setCell ⟨g,i,none⟩ (.int .u32 (x:Int))) g (L.set i x):=by
 have h1:(w.setCell ⟨g,i,none⟩ (.int .u32 (x:Int))).heap[g]?=some (.cells ((L.map u32V).toArray.setIfInBounds i (.int .u32 (x:Int))) 254 (0,0)):=by
  unfold zBD at h;simp[World.setCell,Array.getElem?_modify,h]
 unfold zBD;rw[h1,cV,List.map_set]
 rfl
theorem zBD.rd(h:zBD w g L)(k:Nat):Wds w (some ⟨g,0,none⟩) (L.take k):=fun _=>⟨g,0,rfl,fun i hi=>by
 have hi':i<L.length:=by rw[cC]at hi;omega
 rw[bJ,h.cell i hi',aP];rfl⟩
theorem zBD.below(h:zBD w g L)(hb:Below w.heap.size w w'):zBD w' g L:=(hb.block g h.lt).trans h
theorem zBD.far(h:zBD w g L){p:Addr}(hp:g≠p.block)(u:Value):zBD (w.setCell p u) g L:=(cW w p u g hp).trans h
theorem zBD.new(w:World)(n:Nat):zBD (w.alloc (.cells (Array.replicate n (.int .u32 0)) 254)) w.heap.size (List.replicate n 0):=by
 unfold zBD;rw[aK]
 congr 2
 apply Array.toList_inj.1
 simp[u32V]
end
theorem run_makeN1{P:Program}(t e:TypeId){z:Value}{bytes:Nat}(hT:ElemT P t e z 1 bytes)(n:Nat)(hb:bytes*n<=281474976710656)(h63:n<=9223372036854775807)(hz:z.cells=#[z])(w:World): (Instr.makeSlice t (.int .i64 (n:Int)) (.int .i64 (n:Int))).run P w=.ok (.slice (some ⟨w.heap.size,0,none⟩) n n) (w.alloc (.cells (Array.replicate n z) e)):=by
 obtain⟨i,hi,hz0,hz1,hz2⟩:=info_parts hT.info
 have hb':(i.bytes:Int)*(n:Int)<=281474976710656:=by
  exact tcg
 have hr:=run_make (P:=P) w t e i z hT.ty hi hz0 .i64 .i64 n n za za hb' za;simp only[Int.toNat_natCast]at hr;rw[hz1,hz,cR]at hr
 have e1:madeCells #[z] n=Array.replicate n z:=by
  apply Array.toList_inj.1
  rw[toList_madeCells_one,cX]
 rw[e1]at hr;exact hr
theorem elNat:ElemT Tryz.prog 82 254 (.int .u32 0) 1 4:=⟨Tryz.underlying82,zb,rfl,zc⟩
theorem mk_nat(n:Nat)(h:n<=1000000000)(w:World):(Instr.makeSlice 82 (.int .i64 (n:Int)) (.int .i64 (n:Int))).run Tryz.prog w=.ok (.slice (some ⟨w.heap.size,0,none⟩) n n) (w.alloc (.cells (Array.replicate n (.int .u32 0)) 254)):=
 run_makeN1 _ _ elNat n za za rfl w
def TrimRel(w:World)(A:Option Addr)(c:Nat)(L:List Nat)(m:Nat)(a:Value)(wr:World):Prop:=
 wr=w/\∃k:Nat,k=m/\k<=L.length/\a=.slice A k c/\zBm (L.take k)=zBm L
theorem trim_c(A:Option Addr)(c:Nat)(L:List Nat)(w:World)(hn:L.length<=1000000000)(hc:L.length<=c)(h:Wds w A L): Calls Tryz.prog 225 #[.slice A L.length c] w (zBk (.slice A (zBm L).length c) w):=by
 go_enter Tryz.func225,Tryz.ntmps225;go_wp2
 go_loopg[0] L.length (TrimRel w A c L)
 case atStart=>exact⟨rfl,L.length,rfl,aE _,rfl,by rw[aG]⟩
 case round =>
  obtain⟨hw,k,hm,hk,rfl,ht⟩:=hrel;subst hw;have HM:=zq hm;have HT:=zq ht;clear hm ht
  rcases cN k with h0|h0
  ·subst h0
   go_wp2;go_ret
   refine zBk.mk ?_ rfl;rw[<-HT.o];rfl
  ·obtain⟨j,rfl⟩:∃j,k=j+1:=⟨k-1,za⟩
   obtain⟨b,o,rfl,hb,hcl⟩:=h.at_ za;have hj:j<L.length:=za;have hc0:=hcl j hj;rw[zBt]at hc0;clear hcl
   by_cases hz:L[j]=0
   ·have HZ:=zq hz
    rw[hz]at hc0;clear hz;go_wp2
    go_roundg (gk-1)
    case measure=>have:=HM.o;omega
    case rel=>exact⟨rfl,j,by have:=HM.o;omega,za,zd,by rw[<-HT.o,wtrim_take_zero hj HZ.o]⟩
   ·have hzb:(((L[j]:Nat):Int) == 0)=false:=by simpa using hz
    have HZ:=zq hz;clear hz;go_wp2;go_ret
    refine zBk.mk ?_ rfl;have e:=HT.o;rw[wtrim_take_ne hj HZ.o]at e;have e2:=bX List.length e;rw[cC,cK hk]at e2;rw[<-e2]
    rfl
theorem trim_n(A:Option Addr)(c:Nat)(L:List Nat)(w w0:World)(hn:L.length<=1000000000)(hc:L.length<=c)(h:Wds w A L)(hl:WLt B32 L)(hb:Below w0.heap.size w0 w){n:Nat}(hv:zAk B32 L=n): Calls Tryz.prog 225 #[.slice A L.length c] w (zCZ n w0):=by
 have e:zBm L=zAc B32 n:=by rw[wtrim_words zAn hl,hv]
 refine(trim_c A c L w hn hc h).mono ?_;rintro _ _⟨rfl,rfl⟩;refine⟨A,c,by rw[e],⟨?_,?_⟩,hb⟩
 ·exact tas
 ·rw[<-e];have:=wtrim_len L;omega
theorem or_u64n(x y:Nat)(hx:x<4294967296):y*4294967296 ||| x=x+4294967296*y:=by
 have:=Nat.two_pow_add_eq_or_of_lt (i:=32) (b:=x) za y;rw[aR y,show(4294967296:Nat)=2^32 from rfl,<-this,Nat.add_comm]
theorem or_u64(x y:Nat)(hx:x<4294967296)(hy:y<4294967296):bits .or .u64 (x:Int) ((y:Int)*4294967296)=(x:Int)+4294967296*(y:Int):=by
 have e:(y:Int)*4294967296=((y*4294967296:Nat):Int):=by rw[aZ];rfl
 rw[e,u64_or_nat x (y*4294967296) za za,Nat.or_comm,or_u64n x y hx];omega
theorem or_u64'(x y:Nat)(hx:x<4294967296)(hy:y<4294967296):bits .or .u64 ((y:Int)*4294967296) (x:Int)=(x:Int)+4294967296*(y:Int):=by
 have e:(y:Int)*4294967296=((y*4294967296:Nat):Int):=by rw[aZ];rfl
 rw[e,u64_or_nat (y*4294967296) x za za,or_u64n x y hx];omega
theorem small_l(A:Option Addr)(c:Nat)(L:List Nat)(w:World)(h:Wds w A L)(hl:WLt B32 L)(hn:L.length<=1000000000): Calls Tryz.prog 195 #[.slice A L.length c] w (zBU (.tuple #[.int .u64 (if L.length<=2 then ((zAk B32 L:Nat):Int) else 0),.bool (decide (L.length<=2))]) w):=by
 match L,h,hl,hn with
 |[],_,_,_ =>
  go_enter Tryz.func195,Tryz.ntmps195;go_wp2;go_ret2
  exact zBU.mk rfl ⟨0,rfl⟩
 |[x],h,hl,_ =>
  obtain⟨b,o,rfl,hb,hcl⟩:=h.at_ zd;have hx:=hl.head;rw[zBZ]at hx;have hc0:=hcl 0 zd;rw[zBt]at hc0;simp only[cY,cZ]at hc0;clear hcl
  go_enter Tryz.func195,Tryz.ntmps195;go_wp2;go_ret2
  exact zBU.mk qh ⟨0,rfl⟩
 |[x,y],h,hl,_ =>
  obtain⟨b,o,rfl,hb,hcl⟩:=h.at_ zd;have hx:=hl.head;have hy:=hl.tail.head;rw[zBZ]at hx hy;have hc0:=hcl 0 zd;have hc1:=hcl 1 zd;rw[zBt]at hc0 hc1;simp only[cY,cT,cZ]at hc0 hc1;clear hcl
  go_enter Tryz.func195,Tryz.ntmps195;go_wp2;go_quiet(fail);go_wp2;go_ret2
  refine zBU.mk ?_ ⟨_,rfl⟩;simp only[zAk];simp[or_u64 x y hx hy,zBZ]
 |x::y::z::l,h,hl,hn =>
  have hk:(x::y::z::l).length=l.length+3:=rfl;have e0:¬l.length+3<=2:=za;rw[hk]at hn ⊢;clear hk
  go_enter Tryz.func195,Tryz.ntmps195;go_wp2;go_ret2
  exact zBU.mk rfl ⟨0,rfl⟩
def smV(n:Nat):Value:=.tuple #[.int .u64 (if (zAc B32 n).length<=2 then (n:Int) else 0),.bool (decide ((zAc B32 n).length<=2))]
theorem small_c(A:Option Addr)(c n:Nat)(w:World)(h:Nt w A c n)(hn:(zAc B32 n).length<=1000000000):Calls Tryz.prog 195 #[ntV A c n] w (zBU (smV n) w):=by
 have:=small_l A c (zAc B32 n) w h.rd (zAX zAn n) hn;rw[zAz zAn]at this;exact this
theorem wval2(n:Nat)(h:n<18446744073709551616):zAk B32 [n%4294967296,n/4294967296]=n/\WLt B32 [n%4294967296,n/4294967296]:=by
 refine⟨?_,WLt.cons ?_ (WLt.cons ?_ WLt.nil)⟩
 ·simp[zAk,zBZ];omega
 ·rw[zBZ];omega
 ·rw[zBZ];omega
theorem wds_new(w:World)(cs:Array Value)(L:List Nat)(h:cs.toList=L.map u32V):Wds (w.alloc (.cells cs 254)) (some ⟨w.heap.size,0,none⟩) L:=by
 intro _;refine⟨w.heap.size,0,rfl,fun i hi=>?_⟩;rw[aX _ _ _ _ _ _ (aK w _),<-Array.getElem?_toList,h];simp[hi]
theorem trim2(n:Nat)(w:World)(h:n<18446744073709551616):Calls Tryz.prog 225 #[.slice (some ⟨w.heap.size,0,none⟩) 2 2] (w.alloc (.cells #[.int .u32 ((n:Int)%4294967296),.int .u32 ((n:Int)/4294967296)] 254)) (zCZ n w):=
 trim_n _ 2 [n%4294967296,n/4294967296] _ w zd zd (wds_new w _ _ (by simp[u32V])) (wval2 n h).2 ((aJ _ _).alloc (aE _) _) (wval2 n h).1
theorem natOf_c(n:Nat)(w:World)(h:n<18446744073709551616):Calls Tryz.prog 167 #[.int .u64 (n:Int)] w (zCZ n w):=by
 go_enter Tryz.func167,Tryz.ntmps167;(go_wp2_with fail);(with_reducible refine(trim2 n w h).mono ?_);rintro e w' ⟨A,c,rfl,hn,hb⟩;go_wp2;go_ret
 exact⟨A,c,rfl,hn,hb⟩
theorem one_words:zAc B32 1=[1]:=by decide +kernel
theorem Nt.one(w:World):Nt (w.alloc (.cells #[.int .u32 1] 254)) (some ⟨w.heap.size,0,none⟩) 1 1:=
 ⟨by rw[one_words];exact wds_new w _ _ rfl,by rw[one_words];decide⟩
theorem One_c(w:World):Calls Tryz.prog 104 #[] w (zCZ 1 w):=by
 go_enter Tryz.func104,Tryz.ntmps104;go_wp2;go_ret
 exact⟨_,1,by unfold ntV;rw[one_words];rfl,Nt.one w,(aJ _ _).alloc (aE _) _⟩
def CmpRel(w:World)(l r:List Nat)(m:Nat)(i:Value)(wr:World):Prop:=
 (∃n,wr=w.drewN n)/\m<=l.length/\(∃z:Int,z=(m:Int)-1/\i=.int .i64 z)/\l.drop m=r.drop m
theorem Cmp_l(A A2:Option Addr)(c c2:Nat)(l r:List Nat)(w:World)(h:Wds w A l)(h2:Wds w A2 r)(hl:WLt B32 l)(hr:WLt B32 r)(hn:l.length<=1000000000)(he:l.length=r.length): Calls Tryz.prog 163 #[.slice A l.length c,.slice A2 l.length c2] w (zBU (.int .i64 (cmpN (zAk B32 l) (zAk B32 r))) w):=by
 have HE:=zq he;clear he
 go_enter Tryz.func163,Tryz.ntmps163;go_wp2
 go_loopg[5] l.length (CmpRel w l r)
 case atStart=>exact⟨⟨0,rfl⟩,aE _,⟨_,rfl,rfl⟩,by rw[aY (aE _),aY (by rw[HE.o];omega)]⟩
 case round =>
  obtain⟨⟨nd,hw⟩,hk,⟨z,hz,rfl⟩,hd⟩:=hrel;subst hw;have HD:=zq hd;clear hd
  rcases cN gk with h0|h0
  ·subst h0
   obtain rfl:z=-1:=hz;go_wp2;go_ret
   refine zBU.mk ?_ ⟨_,rfl⟩;have e:l=r:=by simpa using HD.o
   rw[e,zDq rfl]
   rfl
  ·obtain⟨j,rfl⟩:∃j,gk=j+1:=⟨gk-1,za⟩
   obtain rfl:z=(j:Int):=za;clear hz;have hjr:j<r.length:=by have:=HE.o;omega
   obtain⟨b,o,rfl,hb,hcl⟩:=h.at_ za;obtain⟨b2,o2,rfl,hb2,hcl2⟩:=h2.at_ za;have hc0:=hcl j za;have hc1:=hcl2 j hjr;rw[zBt]at hc0 hc1;clear hcl hcl2;have hx:l[j]<B32:=hl.get j za;have hy:r[j]<B32:=hr.get j hjr
   by_cases hq:l[j]=r[j]
   ·have hqb:(((l[j]:Nat):Int) != ((r[j]:Nat):Int))=false:=by simp[hq]
    have HQ:=zq hq;clear hq;go_wp2;go_quiet(fail);go_wp2
    go_roundg j
    case measure=>omega
    case rel =>
     refine⟨⟨_,rfl⟩,za,⟨_,rfl,rfl⟩,?_⟩
     rw[bF za,bF hjr,HQ.o,HD.o]
   ·have hqb:(((l[j]:Nat):Int) != ((r[j]:Nat):Int))=true:=by simp;omega
    by_cases hlt:l[j]<r[j]
    ·have hltb:decide (l[j]<r[j])=true:=aT hlt
     have HQ:=zq hlt;clear hq hlt;go_wp2;go_quiet(fail);go_wp2;go_quiet(fail);go_wp2;go_ret
     refine zBU.mk ?_ (by rw[World.drewN_drewN,World.drewN_drewN];exact⟨_,rfl⟩);rw[zCI (wval_lt_of hl HE.o za hjr HD.o HQ.o)]
     rfl
    ·have hltb:decide (l[j]<r[j])=false:=aU hlt
     have HQ:=zq (show r[j]<l[j] by omega);clear hq hlt;go_wp2;go_quiet(fail);go_wp2;go_quiet(fail);go_wp2;go_ret
     refine zBU.mk ?_ (by rw[World.drewN_drewN,World.drewN_drewN];exact⟨_,rfl⟩);rw[zCS (wval_lt_of hr HE.o.symm hjr za HD.o.symm HQ.o)]
     rfl
theorem Cmp_len(A A2:Option Addr)(c c2 n m:Nat)(w:World)(hne:n≠m): Calls Tryz.prog 163 #[.slice A n c,.slice A2 m c2] w (zBU (.int .i64 (cmpN n m)) w):=by
 have hnb:((n:Int) != (m:Int))=true:=ze
 rcases aQ n m with hlt|hge
 ·have hltb:decide (n<m)=true:=aT hlt
  have hv:cmpN n m=-1:=zCI hlt;exact tbv
 ·have hltb:decide (n<m)=false:=aU za
  have hv:cmpN n m=1:=zCS za;exact tbv
theorem Cmp_c(A A2:Option Addr)(c c2 a b:Nat)(w:World)(h:Nt w A c a)(h2:Nt w A2 c2 b)(hn:(zAc B32 a).length<=1000000000): Calls Tryz.prog 163 #[ntV A c a,ntV A2 c2 b] w (zBU (.int .i64 (cmpN a b)) w):=by
 by_cases he:(zAc B32 a).length=(zAc B32 b).length
 ·have:=Cmp_l A A2 c c2 (zAc B32 a) (zAc B32 b) w h.rd h2.rd (zAX zAn a) (zAX zAn b) hn he
  rw[zAz zAn,zAz zAn]at this;unfold ntV;rw[<-he];exact this
 ·have:=Cmp_len A A2 c c2 _ _ w he
  have e:cmpN (zAc B32 a).length (zAc B32 b).length=cmpN a b:=by
   rcases aQ (zAc B32 a).length (zAc B32 b).length with h1|h1
   ·rw[zCI h1,zCI (lt_of_len zAn h1)]
   ·rw[zCS za,zCS (lt_of_len zAn za)]
  rw[e]at this;exact this
def AddRel(w:World)(g:Nat)(l r:List Nat)(m:Nat)(cv iv:Value)(wr:World):Prop:=
 ∃(k cy:Nat)(L:List Nat),k+m=l.length/\iv=.int .i64 k/\cv=.int .u64 (cy:Int)/\cy<=1/\zBD wr g L/\L.length=l.length+1/\WLt B32 L /\
  zAk B32 (L.take k)+B32^k*cy=zAk B32 (l.take k)+zAk B32 (r.take k)/\(∀x (h:x<L.length),k<=x->L[x]=0)/\Below w.heap.size w wr/\w.heap.size<=g
theorem zDy{L:List Nat}{k x:Nat}(h:k<L.length):zAk B32 ((L.set k x).take (k+1))=zAk B32 (L.take k)+B32^k*x:=by
 rw[take_set_succ L k x h,zBT,wval_one,cC,cK za]
theorem zeros_set{L:List Nat}{k x:Nat}(h:∀i (h:i<L.length),k<=i->L[i]=0):∀i (h:i<(L.set k x).length),k+1<=i->(L.set k x)[i]=0:=fun i hi hk=>by
 rw[dA za];exact h i yf za
theorem modB(s:Nat):s%4294967296<B32:=bZ _ zc
theorem AddRel.step{w wr:World}{g:Nat}{l r L:List Nat}{k cy gk s y:Nat}(hkm:k+gk=l.length)(hlt:k<l.length)(hA:zBD wr g L)(hL:L.length=l.length+1)(hLt:WLt B32 L)(hV:zAk B32 (L.take k)+B32^k*cy=zAk B32 (l.take k)+zAk B32 (r.take k))(hZ:∀x (h:x<L.length),k<=x->L[x]=0)(hbw:Below w.heap.size w wr)(hwg:w.heap.size<=g)(hy:zAk B32 (r.take (k+1))=zAk B32 (r.take k)+B32^k*y)(hs:s=cy+l[k]+y)(hs2:s<=8589934591){cv iv mv:Value}(hc:cv=.int .u64 ((s/4294967296:Nat):Int))(hi:iv=.int .i64 ((k:Int)+1))(hm:mv=.int .u32 ((s%4294967296:Nat):Int)): AddRel w g l r (gk-1) cv iv (wr.setCell ⟨g,k,none⟩ mv):=by
 subst hc hi hm;refine⟨k+1,s/4294967296,L.set k (s%4294967296),za,zi,rfl,za,hA.set k _,by simpa using hL,hLt.set (modB s) k,?_,zeros_set hZ,hbw.setCell hwg _,hwg⟩
 rw[zDy za,hy,zAO hlt];exact add_col hV hs
theorem Add_l(A A2:Option Addr)(c c2:Nat)(l r:List Nat)(w:World)(h:Wds w A l)(h2:Wds w A2 r)(hl:WLt B32 l)(hr:WLt B32 r)(hn:l.length<=900000000)(he:r.length<=l.length): Calls Tryz.prog 222 #[.slice A l.length c,.slice A2 r.length c2] w (zCZ (zAk B32 l+zAk B32 r) w):=by
 have hltb:decide (l.length<r.length)=false:=aU za;have hmk:∀w:World,(Instr.makeSlice 82 (.int .i64 ((l.length:Int)+1)) (.int .i64 ((l.length:Int)+1))).run Tryz.prog w=.ok (.slice (some ⟨w.heap.size,0,none⟩) (l.length+1) (l.length+1)) (w.alloc (.cells (Array.replicate (l.length+1) (.int .u32 0)) 254)):=mk_nat (l.length+1) za
 go_enter Tryz.func222,Tryz.ntmps222;go_wp2;clear hmk;have hnew:=zBD.new w (l.length+1);have hbel:Below w.heap.size w (w.alloc (.cells (Array.replicate (l.length+1) (.int .u32 0)) 254)):=(aJ _ _).alloc (aE _) _;obtain⟨g,hg⟩:∃g,g=w.heap.size:=⟨_,rfl⟩;rw[<-hg]at hnew;obtain⟨w1,hw1⟩:∃w1,w1=w.alloc (.cells (Array.replicate (l.length+1) (.int .u32 0)) 254):=⟨_,rfl⟩;rw[<-hw1]at hnew hbel;rw[<-hg,<-hw1];have HG:=zq hg;have HB:=zq hbel;clear hg hbel hw1
 go_loopg[6,21] l.length (AddRel w g l r)
 case atStart=>exact⟨0,0,List.replicate (l.length+1) 0,za,rfl,rfl,za,hnew,zd,WLt.zeros zBI _,qh,fun x hx _=>zd,HB.o,yh⟩
 case round =>
  obtain⟨k,cy,L,hkm,rfl,rfl,hcy,hA,hL,hLt,hV,hZ,hbw,hwg⟩:=hrel;have HM:=zq hkm;have HV:=zq hV;have HZ:=zq hZ;have HL:=zq hL;clear hkm hV hZ hL
  by_cases hlt:k<l.length
  ·exact tad
  ·obtain rfl:k=l.length:=by have:=HM.o;omega
   have hkL:l.length<L.length:=by have:=HL.o;omega
   have hc1:=hA.cell l.length hkL;have hf1:=hA.frozen l.length;go_wp2_with fail
   have HT:Hid (zAk B32 (L.set l.length cy)=zAk B32 l+zAk B32 r):=by
    have e:L.set l.length cy=(L.set l.length cy).take (l.length+1):=by rw[bC (by rw[aF,HL.o];omega)]
    show zAk B32 (L.set l.length cy)=_
    rw[e,zDy hkL];have:=HV.o
    rwa [bC (aE _),bC he]at this
   exact tam
theorem Add_s(A A2:Option Addr)(c c2:Nat)(l r:List Nat)(w:World)(h:Wds w A l)(h2:Wds w A2 r)(hl:WLt B32 l)(hr:WLt B32 r)(hn:l.length<=900000000)(he:r.length<l.length): Calls Tryz.prog 222 #[.slice A2 r.length c2,.slice A l.length c] w (zCZ (zAk B32 l+zAk B32 r) w):=by
 have hltb:decide (r.length<l.length)=true:=aT he;have hmk:∀w:World,(Instr.makeSlice 82 (.int .i64 ((l.length:Int)+1)) (.int .i64 ((l.length:Int)+1))).run Tryz.prog w=.ok (.slice (some ⟨w.heap.size,0,none⟩) (l.length+1) (l.length+1)) (w.alloc (.cells (Array.replicate (l.length+1) (.int .u32 0)) 254)):=mk_nat (l.length+1) za
 go_enter Tryz.func222,Tryz.ntmps222;go_wp2;clear hmk;have hnew:=zBD.new w (l.length+1);have hbel:Below w.heap.size w (w.alloc (.cells (Array.replicate (l.length+1) (.int .u32 0)) 254)):=(aJ _ _).alloc (aE _) _;obtain⟨g,hg⟩:∃g,g=w.heap.size:=⟨_,rfl⟩;rw[<-hg]at hnew;obtain⟨w1,hw1⟩:∃w1,w1=w.alloc (.cells (Array.replicate (l.length+1) (.int .u32 0)) 254):=⟨_,rfl⟩;rw[<-hw1]at hnew hbel;rw[<-hg,<-hw1];have HG:=zq hg;have HB:=zq hbel;clear hg hbel hw1
 go_loopg[6,21] l.length (AddRel w g l r)
 case atStart=>exact⟨0,0,List.replicate (l.length+1) 0,za,rfl,rfl,za,hnew,zd,WLt.zeros zBI _,qh,fun x hx _=>zd,HB.o,yh⟩
 case round =>
  obtain⟨k,cy,L,hkm,rfl,rfl,hcy,hA,hL,hLt,hV,hZ,hbw,hwg⟩:=hrel;have HM:=zq hkm;have HV:=zq hV;have HZ:=zq hZ;have HL:=zq hL;clear hkm hV hZ hL
  by_cases hlt:k<l.length
  ·exact tad
  ·obtain rfl:k=l.length:=by have:=HM.o;omega
   have hkL:l.length<L.length:=by have:=HL.o;omega
   have hc1:=hA.cell l.length hkL;have hf1:=hA.frozen l.length;go_wp2_with fail
   have HT:Hid (zAk B32 (L.set l.length cy)=zAk B32 l+zAk B32 r):=by
    have e:L.set l.length cy=(L.set l.length cy).take (l.length+1):=by rw[bC (by rw[aF,HL.o];omega)]
    show zAk B32 (L.set l.length cy)=_
    rw[e,zDy hkL];have:=HV.o
    rwa [bC (aE _),bC (Nat.le_of_lt he)]at this
   exact tam
theorem Add_c(A A2:Option Addr)(c c2 a b:Nat)(w:World)(h:Nt w A c a)(h2:Nt w A2 c2 b)(hn:(zAc B32 a).length<=900000000)(hm:(zAc B32 b).length<=900000000): Calls Tryz.prog 222 #[ntV A c a,ntV A2 c2 b] w (zCZ (a+b) w):=by
 have e1:=zAz zAn a;have e2:=zAz zAn b
 rcases aQ (zAc B32 a).length (zAc B32 b).length with h1|h1
 ·have:=Add_s A2 A c2 c (zAc B32 b) (zAc B32 a) w h2.rd h.rd (zAX zAn b) (zAX zAn a) hm h1
  rw[e1,e2,Nat.add_comm]at this;exact this
 ·have:=Add_l A A2 c c2 (zAc B32 a) (zAc B32 b) w h.rd h2.rd (zAX zAn a) (zAX zAn b) hn h1
  rw[e1,e2]at this;exact this
def SubRel(w:World)(g:Nat)(l r:List Nat)(m:Nat)(cv iv:Value)(wr:World):Prop:=
 ∃(k:Nat)(cy:Int)(L:List Nat),k+m=l.length/\iv=.int .i64 k/\cv=.int .i64 cy/\-1<=cy/\cy<=0/\zBD wr g L/\L.length=l.length/\WLt B32 L /\
  (zAk B32 (L.take k):Int)+(B32:Int)^k*cy=(zAk B32 (l.take k):Int)-(zAk B32 (r.take k):Int)/\Below w.heap.size w wr/\w.heap.size<=g
theorem SubRel.step{w wr:World}{g:Nat}{l r L:List Nat}{k gk y:Nat}{cy s:Int}(hkm:k+gk=l.length)(hlt:k<l.length)(hA:zBD wr g L)(hL:L.length=l.length)(hLt:WLt B32 L)(hV:(zAk B32 (L.take k):Int)+(B32:Int)^k*cy=(zAk B32 (l.take k):Int)-(zAk B32 (r.take k):Int))(hbw:Below w.heap.size w wr)(hwg:w.heap.size<=g)(hy:zAk B32 (r.take (k+1))=zAk B32 (r.take k)+B32^k*y)(hs:s=cy+l[k]-y)(hs1 : -4294967296<=s)(hs2:s<=4294967295){cv iv mv:Value}(hc:cv=.int .i64 (s/4294967296))(hi:iv=.int .i64 ((k:Int)+1))(hm:mv=.int .u32 (s%4294967296)): SubRel w g l r (gk-1) cv iv (wr.setCell ⟨g,k,none⟩ mv):=by
 have hx:((s%4294967296).toNat:Int)=s%4294967296:=Int.toNat_of_nonneg za;rw[<-hx]at hm;subst hc hi hm;refine⟨k+1,s/4294967296,L.set k (s%4294967296).toNat,za,zi,rfl,za,za,hA.set k _,by simpa using hL,hLt.set yk k,?_,hbw.setCell hwg _,hwg⟩
 rw[zDy za,hy,zAO hlt];have:=sub_col hV hs;simp only[Int.natCast_add,aZ,Int.natCast_pow,hx];exact this
theorem sub_l(A A2:Option Addr)(c c2:Nat)(l r:List Nat)(w:World)(h:Wds w A l)(h2:Wds w A2 r)(hl:WLt B32 l)(hr:WLt B32 r)(hn:l.length<=900000000)(he:r.length<=l.length)(hv:zAk B32 r<=zAk B32 l): Calls Tryz.prog 223 #[.slice A l.length c,.slice A2 r.length c2] w (zCZ (zAk B32 l-zAk B32 r) w):=by
 have hmk:∀w:World,(Instr.makeSlice 82 (.int .i64 (l.length:Int)) (.int .i64 (l.length:Int))).run Tryz.prog w=.ok (.slice (some ⟨w.heap.size,0,none⟩) l.length l.length) (w.alloc (.cells (Array.replicate l.length (.int .u32 0)) 254)):=mk_nat l.length za;have HVL:=zq hv;clear hv
 go_enter Tryz.func223,Tryz.ntmps223;go_wp2;clear hmk;have hnew:=zBD.new w l.length;have hbel:Below w.heap.size w (w.alloc (.cells (Array.replicate l.length (.int .u32 0)) 254)):=(aJ _ _).alloc (aE _) _;obtain⟨g,hg⟩:∃g,g=w.heap.size:=⟨_,rfl⟩;rw[<-hg]at hnew;obtain⟨w1,hw1⟩:∃w1,w1=w.alloc (.cells (Array.replicate l.length (.int .u32 0)) 254):=⟨_,rfl⟩;rw[<-hw1]at hnew hbel;rw[<-hg,<-hw1];have HG:=zq hg;have HB:=zq hbel;clear hg hbel hw1
 go_loopg[6,13] l.length (SubRel w g l r)
 case atStart=>exact⟨0,0,List.replicate l.length 0,za,rfl,rfl,za,za,hnew,zd,WLt.zeros zBI _,qh,HB.o,yh⟩
 case round =>
  obtain⟨k,cy,L,hkm,rfl,rfl,hcy1,hcy2,hA,hL,hLt,hV,hbw,hwg⟩:=hrel;have HM:=zq hkm;have HV:=zq hV;have HL:=zq hL;clear hkm hV hL
  by_cases hlt:k<l.length
  ·have hkL:k<L.length:=by have:=HL.o;omega
   obtain⟨b,o,hA0,hb,hcl⟩:=(h.below hbw).at_ za;subst hA0;have hc0:=hcl k hlt;rw[zBt]at hc0;have hx:l[k]<4294967296:=hl.get k hlt;have hc1:=hA.cell k hkL;have hf1:=hA.frozen k;clear hcl
   by_cases hlr:k<r.length
   ·obtain⟨b2,o2,hA2,hb2,hcl2⟩:=(h2.below hbw).at_ za
    subst hA2;have hc2:=hcl2 k hlr;rw[zBt]at hc2;have hy:r[k]<4294967296:=hr.get k hlr;clear hcl2;go_wp2
    go_roundg (gk-1)
    case measure=>have:=HM.o;omega
    case rel=>exact SubRel.step HM.o hlt hA HL.o hLt HV.o hbw hwg (zAO hlr) rfl za za rfl rfl rfl
   ·have HR:Hid (zAk B32 (r.take (k+1))=zAk B32 (r.take k)+B32^k*0):=by
     exact tdk
    go_wp2
    go_roundg (gk-1)
    case measure=>have:=HM.o;omega
    case rel=>exact SubRel.step HM.o hlt hA HL.o hLt HV.o hbw hwg HR.o (s:=cy+l[k]) zd za za rfl rfl rfl
  ·obtain rfl:k=l.length:=by have:=HM.o;omega
   go_wp2_with fail
   have HT:Hid (zAk B32 L=zAk B32 l-zAk B32 r):=by
    show zAk B32 L=_
    have h1:=HV.o;rw[bC (by rw[HL.o];omega),bC (aE _),bC he]at h1;have h2:=HVL.o;have h3:=zCW hLt;rw[HL.o]at h3;have h4:(zAk B32 L:Int)<(B32:Int)^l.length:=by rw[<-Int.natCast_pow];omega
    have h5:cy=0\/cy=-1:=za
    rcases h5 with rfl|rfl
    ·omega
    ·omega
   exact taw
theorem sub_c(A A2:Option Addr)(c c2 a b:Nat)(w:World)(h:Nt w A c a)(h2:Nt w A2 c2 b)(hn:(zAc B32 a).length<=900000000)(hv:b<=a): Calls Tryz.prog 223 #[ntV A c a,ntV A2 c2 b] w (zCZ (a-b) w):=by
 have e1:=zAz zAn a;have e2:=zAz zAn b;have:=sub_l A A2 c c2 (zAc B32 a) (zAc B32 b) w h.rd h2.rd (zAX zAn a) (zAX zAn b) hn (zAI zAn hv) (by rw[e1,e2];exact hv);rw[e1,e2]at this;exact this
end Go.Proofs.YtbbchlpccgkikaaGreatDoor
namespace Go.Proofs
open Go.Shelf
def Tryz.lays133_ren:Go.Shelf.Ren:=⟨fun|133=>277|128=>217|n=>n,fun|51=>254|3=>3|4=>4|46=>248|5=>5|9=>9|n=>n,fun|n=>n⟩
theorem Tryz.lays133:Go.Proofs.Lays.n133 Tryz.prog Tryz.lays133_ren:={
 mixed:=zb
 f128:=Tryz.func217.trans (bX some zb)
 f133:=Tryz.func277.trans (bX some zb)
 t3:=Tryz.underlying3
 a3:=Tryz.isAgg3
 z3:=Tryz.sizeOf3
 v3:=Tryz.zeroValue3
 t4:=Tryz.underlying4
 a4:=Tryz.isAgg4
 z4:=Tryz.sizeOf4
 v4:=Tryz.zeroValue4
 t5:=Tryz.underlying5
 a5:=Tryz.isAgg5
 z5:=Tryz.sizeOf5
 v5:=Tryz.zeroValue5
 t9:=Tryz.underlying9
 a9:=Tryz.isAgg9
 z9:=Tryz.sizeOf9
 v9:=Tryz.zeroValue9
 t46:=Tryz.underlying248
 a46:=Tryz.isAgg248
 z46:=Tryz.sizeOf248
 v46:=Tryz.zeroValue248
 t51:=Tryz.underlying254
 a51:=Tryz.isAgg254
 z51:=Tryz.sizeOf254
 v51:=Tryz.zeroValue254 }
def Tryz.lays264_ren:Go.Shelf.Ren:=⟨fun|264=>224|n=>n,fun|53=>253|46=>248|n=>n,fun|n=>n⟩
theorem Tryz.lays264:Go.Proofs.Lays.n264 Tryz.prog Tryz.lays264_ren:={
 mixed:=zb
 f264:=Tryz.func224.trans (bX some zb)
 t46:=Tryz.underlying248
 a46:=Tryz.isAgg248
 z46:=Tryz.sizeOf248
 v46:=Tryz.zeroValue248
 t53:=Tryz.underlying253
 a53:=Tryz.isAgg253
 z53:=Tryz.sizeOf253
 v53:=Tryz.zeroValue253 }
end Go.Proofs
namespace Go.Proofs.YtbbchlpccgkikaaGreatDoor
open Go.RowKit Dw
theorem zCx(A:Option Addr)(c n:Nat)(w:World)(h:Nt w A c n)(hn:(zAc B32 n).length<=2):Calls Tryz.prog 195 #[ntV A c n] w (zBU (.tuple #[.int .u64 (n:Int),.bool true]) w):=by
 have:=small_c A c n w h za;unfold smV at this;rw[aD hn,aT hn]at this;exact this
theorem small_no(A:Option Addr)(c n:Nat)(w:World)(h:Nt w A c n)(hn:2<(zAc B32 n).length)(hm:(zAc B32 n).length<=1000000000):Calls Tryz.prog 195 #[ntV A c n] w (zBU (.tuple #[.int .u64 0,.bool false]) w):=by
 have:=small_c A c n w h hm;unfold smV at this;rw[aW za,aU za]at this;exact this
theorem small_lt{n:Nat}(hn:(zAc B32 n).length<=2):n<=18446744073709551615:=by
 have h1:=zCf zAn n;have h2:B32^(zAc B32 n).length<=B32^2:=aV zBI hn;have h3:B32^2=18446744073709551616:=zc;omega
def GivesM(x y:Nat)(w:World)(e:Ending)(w':World):Prop:=
 ∃hi lo:Nat,e=.returned (.tuple #[.int .u64 (hi:Int),.int .u64 (lo:Int)])/\hi<=18446744073709551615/\lo<=18446744073709551615/\Hid (x*y=lo+18446744073709551616*hi)/\w=w'
theorem mul64_c(x y:Nat)(w:World)(hx:x<=18446744073709551615)(hy:y<=18446744073709551615):Calls Tryz.prog 224 #[.int .u64 (x:Int),.int .u64 (y:Int)] w (GivesM x y w):=by
 have h:=Any.bits_Mul64 Tryz.lays264 x y za za w;change Calls Tryz.prog 224 _ _ _ at h;refine h.mono fun e w' ⟨he,hw⟩=>⟨_,_,he,?_,?_,?_,hw.symm⟩
 ·have h1:x*y<=18446744073709551615*18446744073709551615:=Nat.mul_le_mul hx hy
  generalize x*y=p at *;omega
 ·omega
 ·show x*y=_
  generalize x*y=p at *;omega
theorem trim4(hi lo nd:Nat)(w:World)(h1:hi<=18446744073709551615)(h2:lo<=18446744073709551615){n:Nat}(hv:n=lo+18446744073709551616*hi):Calls Tryz.prog 225 #[.slice (some ⟨w.heap.size,0,none⟩) 4 4] ((w.drewN nd).alloc (.cells #[.int .u32 ((lo:Int)%4294967296),.int .u32 ((lo:Int)/4294967296),.int .u32 ((hi:Int)%4294967296),.int .u32 ((hi:Int)/4294967296)] 254)) (zCZ n w):=
 trim_n _ 4 [lo%4294967296,lo/4294967296,hi%4294967296,hi/4294967296] _ w zd zd (wds_new (w.drewN nd) _ _ (by simp[u32V]))
  (WLt.cons yk (WLt.cons yk (WLt.cons yk (WLt.cons yk WLt.nil)))) ((zAd (aJ _ _) nd).alloc (aE _) _) (by
   rw[hv];simp[zAk,zBZ];omega)
def MulRel(w:World)(g:Nat)(l r:List Nat)(m:Nat)(iv:Value)(wr:World):Prop:=
 ∃(k:Nat)(L:List Nat),k+m=l.length/\iv=.int .i64 k/\zBD wr g L/\L.length=l.length+r.length/\WLt B32 L/\zAk B32 L=zAk B32 (l.take k)*zAk B32 r /\
  (∀x (h:x<L.length),k+r.length<=x->L[x]=0)/\Below w.heap.size w wr/\w.heap.size<=g
def MulRel2(w:World)(g:Nat)(l r:List Nat)(k x:Nat)(m:Nat)(cv jv:Value)(wr:World):Prop:=
 ∃(j cy:Nat)(L:List Nat),j+m=r.length/\jv=.int .i64 j/\cv=.int .u64 (cy:Int)/\cy<=4294967295/\zBD wr g L/\L.length=l.length+r.length/\WLt B32 L /\
  zAk B32 L+B32^(k+j)*cy=zAk B32 (l.take k)*zAk B32 r+B32^k*(x*zAk B32 (r.take j))/\(∀x (h:x<L.length),k+r.length<=x->L[x]=0)/\Below w.heap.size w wr/\w.heap.size<=g
theorem MulRel2.step{w wr:World}{g:Nat}{l r L:List Nat}{k x j cy gk t:Nat}(hkm:j+gk=r.length)(hlt:j<r.length)(hk:k<l.length)(hcy:cy<=4294967295)(hx:x<=4294967295)(hA:zBD wr g L)(hL:L.length=l.length+r.length)(hr:WLt B32 r)(hLt:WLt B32 L)(hV:zAk B32 L+B32^(k+j)*cy=zAk B32 (l.take k)*zAk B32 r+B32^k*(x*zAk B32 (r.take j)))(hZ:∀x (h:x<L.length),k+r.length<=x->L[x]=0)(hbw:Below w.heap.size w wr)(hwg:w.heap.size<=g)(ht:t=cy+(x*r[j]+L[k+j])){cv iv mv:Value}(hc:cv=.int .u64 ((t/4294967296:Nat):Int))(hi:iv=.int .i64 ((j:Int)+1))(hm:mv=.int .u32 ((t%4294967296:Nat):Int)): MulRel2 w g l r k x (gk-1) cv iv (wr.setCell ⟨g,k+j,none⟩ mv):=by
 subst hc hi hm;have hy:r[j]<=4294967295:=by have:=hr.get j hlt;rw[zBZ]at this;omega
 have hz:L[k+j]<=4294967295:=by have:=hLt.get (k+j) za;rw[zBZ]at this;omega
 have hxy:x*r[j]<=4294967295*4294967295:=Nat.mul_le_mul hx hy;refine⟨j+1,t/4294967296,L.set (k+j) (t%4294967296),za,zi,rfl,by rw[ht];generalize x*r[j]=p at *;omega,hA.set (k+j) _,by simpa using hL,hLt.set (modB t) _,?_,fun i hi hki=>?_,hbw.setCell hwg _,hwg⟩
 ·have e1:=wval_set B32 L (k+j) (t%4294967296) za
  rw[zAO hlt]
  have e2:B32^(k+j)*(t%4294967296)+B32^(k+(j+1))*(t/4294967296)=B32^(k+j)*t:=by
   rw[show k+(j+1)=(k+j)+1 by omega,bQ,bS,<-bR,zBZ,cA]
  have e3:B32^(k+j)*t=B32^(k+j)*cy+B32^(k+j)*(x*r[j])+B32^(k+j)*L[k+j]:=by
   rw[ht,bR,bR,Nat.add_assoc]
  have e4:B32^k*(x*(zAk B32 (r.take j)+B32^j*r[j]))=B32^k*(x*zAk B32 (r.take j))+B32^(k+j)*(x*r[j]):=by
   rw[bR,bR,Nat.pow_add,Nat.mul_left_comm x,bS]
  rw[e4];omega
 ·rw[dA za]
  exact hZ i yf za
theorem MulRel.next{w wr:World}{g:Nat}{l r L:List Nat}{k cy gk:Nat}(hkm:k+1+gk=l.length)(hlt:k<l.length)(hcy:cy<=4294967295)(hA:zBD wr g L)(hL:L.length=l.length+r.length)(hLt:WLt B32 L)(hV:zAk B32 L+B32^(k+r.length)*cy=zAk B32 (l.take k)*zAk B32 r+B32^k*(l[k]*zAk B32 (r.take r.length)))(hZ:∀x (h:x<L.length),k+r.length<=x->L[x]=0)(hbw:Below w.heap.size w wr)(hwg:w.heap.size<=g){iv mv:Value}(hi:iv=.int .i64 ((k:Int)+1))(hm:mv=.int .u32 (cy:Int)): MulRel w g l r gk iv (wr.setCell ⟨g,k+r.length,none⟩ mv):=by
 subst hi hm;refine⟨k+1,L.set (k+r.length) cy,za,zi,hA.set _ _,by simpa using hL,hLt.set yk _,?_,fun i hi hki=>?_,hbw.setCell hwg _,hwg⟩
 ·have e1:=wval_set B32 L (k+r.length) cy za
  rw[hZ (k+r.length) za (aE _)]at e1;rw[bC (aE _)]at hV;rw[zAO hlt,bT,bS (B32^k)];omega
 ·rw[dA za]
  exact hZ i yf za
theorem Mul_c(A A2:Option Addr)(c c2:Nat)(a b:Nat)(w:World)(h:Nt w A c a)(h2:Nt w A2 c2 b)(hn:(zAc B32 a).length<=400000000)(hm:(zAc B32 b).length<=400000000): Calls Tryz.prog 166 #[ntV A c a,ntV A2 c2 b] w (zCZ (a*b) w):=by
 by_cases h1:(zAc B32 a).length<=2/\(zAc B32 b).length<=2
 ·obtain⟨ha,hb⟩:=h1
  have la:=small_lt ha;have lb:=small_lt hb
  go_enter Tryz.func166,Tryz.ntmps166;(go_wp2_with fail);(with_reducible refine(zCx A c a _ h ha).mono ?_);rintro e w' ⟨rfl,nd,rfl⟩;(go_wp2_with fail);(with_reducible refine(zCx A2 c2 b _ (h2.drewN nd) hb).mono ?_);rintro e w' ⟨rfl,nd2,rfl⟩;(go_wp2_with fail);(with_reducible refine(mul64_c a b _ la lb).mono ?_);rintro e w' ⟨hi,lo,rfl,h3,h4,hv,rfl⟩;(go_wp2_with fail);(with_reducible refine(trim4 hi lo (nd+nd2) w h3 h4 hv.out).mono ?_);rintro e w' ⟨A,c,rfl,hn,hb⟩;go_wp2;go_ret
  exact⟨A,c,rfl,hn,hb⟩
 ·have hmk:∀w:World,(Instr.makeSlice 82 (.int .i64 (((zAc B32 a).length:Int)+((zAc B32 b).length:Int))) (.int .i64 (((zAc B32 a).length:Int)+((zAc B32 b).length:Int)))).run Tryz.prog w =
    .ok (.slice (some ⟨w.heap.size,0,none⟩) ((zAc B32 a).length+(zAc B32 b).length) ((zAc B32 a).length+(zAc B32 b).length)) (w.alloc (.cells (Array.replicate ((zAc B32 a).length+(zAc B32 b).length) (.int .u32 0)) 254)):=
   mk_nat ((zAc B32 a).length+(zAc B32 b).length) za
  by_cases ha:(zAc B32 a).length<=2
  case' pos =>
   have hb:2<(zAc B32 b).length:=za
   go_enter Tryz.func166,Tryz.ntmps166;(go_wp2_with fail);(with_reducible refine(zCx A c a _ h ha).mono ?_);rintro e w' ⟨rfl,nd,rfl⟩;(go_wp2_with fail);(with_reducible refine(small_no A2 c2 b _ (h2.drewN nd) hb za).mono ?_);rintro e w' ⟨rfl,nd2,rfl⟩;rw[World.drewN_drewN];clear hb;generalize nd+nd2=nd
  case' neg =>
   go_enter Tryz.func166,Tryz.ntmps166;(go_wp2_with fail);(with_reducible refine(small_no A c a _ h za za).mono ?_);rintro e w' ⟨rfl,nd,rfl⟩
  all_goals
   clear ha h1;unfold ntV;go_wp2;clear hmk;have hnew:=zBD.new (w.drewN nd) ((zAc B32 a).length+(zAc B32 b).length);have hbel:Below w.heap.size w ((w.drewN nd).alloc (.cells (Array.replicate ((zAc B32 a).length+(zAc B32 b).length) (.int .u32 0)) 254)):=(zAd (aJ _ _) nd).alloc (aE _) _;have hg0:(w.drewN nd).heap.size=w.heap.size:=rfl;rw[hg0]at hnew;clear hg0;obtain⟨g,hg⟩:∃g,g=w.heap.size:=⟨_,rfl⟩;rw[<-hg]at hnew;obtain⟨w1,hw1⟩:∃w1,w1=(w.drewN nd).alloc (.cells (Array.replicate ((zAc B32 a).length+(zAc B32 b).length) (.int .u32 0)) 254):=⟨_,rfl⟩;rw[<-hw1]at hnew hbel;rw[<-hg,<-hw1];have HG:=zq hg;have HB:=zq hbel;clear hg hbel hw1;have hl:=zAX zAn a;have hr:=zAX zAn b;have HVA:=zq (zAz zAn a);have HVB:=zq (zAz zAn b);obtain⟨h,hcap⟩:=h;obtain⟨h2,hcap2⟩:=h2;generalize zAc B32 a=l at *;generalize zAc B32 b=r at *
   go_loopg[55] l.length (MulRel w g l r)
   case atStart=>exact⟨0,List.replicate (l.length+r.length) 0,za,rfl,hnew,zd,WLt.zeros zBI _,by rw[wval_zeros];simp[zAk],fun x hx _=>zd,HB.o,yh⟩
   case round =>
    obtain⟨k,L,hkm,rfl,hA,hL,hLt,hV,hZ,hbw,hwg⟩:=hrel;have HM:=zq hkm;have HV:=zq hV;have HZ:=zq hZ;have HL:=zq hL;clear hkm hV hZ hL
    by_cases hlt:k<l.length
    ·obtain⟨b1,o1,hA0,hb1,hcl⟩:=(h.below hbw).at_ za
     subst hA0;have hc0:=hcl k hlt;rw[zBt]at hc0;have hx:l[k]<4294967296:=hl.get k hlt;clear hcl;go_wp2;clear hc0;obtain⟨wo,hwo⟩:∃wo:World,wo=wr:=⟨_,rfl⟩;subst hwo
     go_loopg[14,62] r.length (MulRel2 w g l r k l[k])
     case atStart=>exact⟨0,0,L,za,rfl,rfl,za,hA,HL.o,hLt,by rw[HV.o];simp[zAk],HZ.o,hbw,hwg⟩
     case round =>
      clear hA hbw;obtain⟨j,cy,L2,hjm,rfl,rfl,hcy,hA2,hL2,hLt2,hV2,hZ2,hbw2,hwg2⟩:=hrel;have HM2:=zq hjm;have HV2:=zq hV2;have HZ2:=zq hZ2;have HL2:=zq hL2;clear hjm hV2 hZ2 hL2
      by_cases hj:j<r.length
      ·obtain⟨b2,o2,hA02,hb2,hcl2⟩:=(h2.below hbw2).at_ za
       subst hA02;have hc2:=hcl2 j hj;rw[zBt]at hc2;have hy:r[j]<4294967296:=hr.get j hj;have hkj:k+j<L2.length:=by have:=HL2.o;omega
       have hz:L2[k+j]<4294967296:=hLt2.get (k+j) hkj;have hc1:=hA2.cell (k+j) hkj;have hf1:=hA2.frozen (k+j);have hxy0:l[k]*r[j]<=4294967295*4294967295:=Nat.mul_le_mul za za
       have hxy:(l[k]:Int)*(r[j]:Int)<=18446744065119617025:=by
        have:((l[k]*r[j]:Nat):Int)<=((4294967295*4294967295:Nat):Int):=za
        rwa [aZ]at this
       have hxy2:0<=(l[k]:Int)*(r[j]:Int):=Int.mul_nonneg za za;clear hcl2 hxy0;go_wp2
       go_roundg (gk-1)
       case measure=>have:=HM2.o;omega
       case rel=>exact MulRel2.step HM2.o hj hlt hcy za hA2 HL2.o hr hLt2 HV2.o HZ2.o hbw2 hwg2 rfl zd rfl zd
      ·obtain rfl:j=r.length:=by have:=HM2.o;omega
       have hkj:k+r.length<L2.length:=by have:=HL2.o;omega
       have hc1:=hA2.cell (k+r.length) hkj;have hf1:=hA2.frozen (k+r.length);go_wp2
       go_roundg (l.length-k-1)
       case measure=>have:=HM.o;omega
       case rel=>exact MulRel.next za hlt hcy hA2 HL2.o hLt2 HV2.o HZ2.o hbw2 hwg2 rfl rfl
    ·obtain rfl:k=l.length:=by have:=HM.o;omega
     go_wp2_with fail
     have HT:Hid (zAk B32 L=a*b):=by
      show zAk B32 L=_
      have:=HV.o
      rwa [bC (aE _),HVA.o,HVB.o]at this
     exact taw
def GivesNN(q r:Nat)(w:World)(e:Ending)(w':World):Prop:=
 ∃A c A2 c2,e=.returned (.tuple #[ntV A c q,ntV A2 c2 r])/\Nt w' A c q/\Nt w' A2 c2 r/\Below w.heap.size w w'
def DwRel(w:World)(g:Nat)(l:List Nat)(b:Nat)(m:Nat)(rv iv:Value)(wr:World):Prop:=
 ∃(rr:Nat)(Q:List Nat)(z:Int),m<=l.length/\z=(m:Int)-1/\iv=.int .i64 z/\rv=.int .u64 (rr:Int)/\rr<b/\zBD wr g Q/\Q.length=l.length/\WLt B32 Q /\
  zAk B32 (l.drop m)=zAk B32 (Q.drop m)*b+rr/\Below w.heap.size w wr/\w.heap.size<=g
theorem DwRel.step{w wr:World}{g:Nat}{l Q:List Nat}{j b rr X:Nat}(hj:j<l.length)(hrr:rr<b)(hA:zBD wr g Q)(hQ:Q.length=l.length)(hLt:WLt B32 Q)(hb:b<=4294967295)(hV:zAk B32 (l.drop (j+1))=zAk B32 (Q.drop (j+1))*b+rr)(hbw:Below w.heap.size w wr)(hwg:w.heap.size<=g)(hX:X=l[j]+4294967296*rr)(hl:l[j]<4294967296){rv iv mv:Value}(hi:iv=.int .i64 ((j:Int)-1))(hr:rv=.int .u64 ((X%b:Nat):Int))(hm:mv=.int .u32 ((X/b:Nat):Int)):DwRel w g l b j rv iv (wr.setCell ⟨g,j,none⟩ mv):=by
 subst hi hr hm;have hq:X/b<B32:=quot_lt (B:=B32) (by rw[hX];exact next_lt (B:=B32) hrr hl);refine⟨X%b,Q.set j (X/b),_,za,rfl,rfl,rfl,bZ _ za,hA.set j _,by simpa using hQ,hLt.set hq j,?_,hbw.setCell hwg _,hwg⟩
 rw[drop_set_pred Q j _ za,zAk,zDn hj,hV];have h1:=Nat.div_add_mod X b;have h2:B32*(zAk B32 (Q.drop (j+1))*b+rr)=B32*zAk B32 (Q.drop (j+1))*b+4294967296*rr:=by rw[bR,bS];rfl
 rw[h2,bT,aR (X/b)];omega
theorem divWord_c(A:Option Addr)(c a b:Nat)(w:World)(h:Nt w A c a)(hn:(zAc B32 a).length<=900000000)(hb1:1<=b)(hb2:b<=4294967295): Calls Tryz.prog 194 #[ntV A c a,.int .u64 (b:Int)] w (GivesNN (a/b) (a%b) w):=by
 have hmk:∀w:World,(Instr.makeSlice 82 (.int .i64 ((zAc B32 a).length:Int)) (.int .i64 ((zAc B32 a).length:Int))).run Tryz.prog w =
   .ok (.slice (some ⟨w.heap.size,0,none⟩) (zAc B32 a).length (zAc B32 a).length) (w.alloc (.cells (Array.replicate (zAc B32 a).length (.int .u32 0)) 254)):=mk_nat _ za
 unfold ntV;have hl:=zAX zAn a;have HVA:=zq (zAz zAn a);obtain⟨h,hcap⟩:=h;generalize zAc B32 a=l at *
 go_enter Tryz.func194,Tryz.ntmps194;go_wp2;clear hmk;have hnew:=zBD.new w l.length;have hbel:Below w.heap.size w (w.alloc (.cells (Array.replicate l.length (.int .u32 0)) 254)):=(aJ _ _).alloc (aE _) _;obtain⟨g,hg⟩:∃g,g=w.heap.size:=⟨_,rfl⟩;rw[<-hg]at hnew;obtain⟨w1,hw1⟩:∃w1,w1=w.alloc (.cells (Array.replicate l.length (.int .u32 0)) 254):=⟨_,rfl⟩;rw[<-hw1]at hnew hbel;rw[<-hg,<-hw1];have HG:=zq hg;have HB:=zq hbel;clear hg hbel hw1
 go_loopg[7,8] l.length (DwRel w g l b)
 case atStart=>exact⟨0,List.replicate l.length 0,_,aE _,rfl,rfl,rfl,za,hnew,zd,WLt.zeros zBI _,by rw[aY (aE _),aY zd];simp[zAk],HB.o,yh⟩
 case round =>
  obtain⟨rr,Q,z,hm,hz,rfl,rfl,hrr,hA,hQ,hLt,hV,hbw,hwg⟩:=hrel;have HV:=zq hV;have HQ:=zq hQ;clear hV hQ
  rcases cN gk with h0|h0
  ·subst h0
   obtain rfl:z=-1:=hz
   have HT:Hid (zAk B32 Q=a/b/\rr=a%b):=by
    exact tay
   (go_wp2_with fail);have hq2:=HQ.o;rw[<-hq2];(with_reducible refine(trim_n _ _ Q _ w za (aE _) (by have:=hA.rd Q.length;rwa [aG]at this) hLt hbw HT.o.1).mono ?_);rintro e w' ⟨A1,c1,rfl,hn1,hb1'⟩;clear hq2;(go_wp2_with fail);have hnat:=natOf_c rr w' za;rw[HT.o.2]at hnat;rw[HT.o.2];(with_reducible refine hnat.mono ?_);rintro e w'' ⟨A2,c2,rfl,hn2,hb2'⟩;clear hnat;go_wp2;go_ret2
   exact⟨A1,c1,A2,c2,rfl,hn1.below hb2',hn2,hb1'.trans (hb2'.mono hb1'.size)⟩
  ·exact tae
theorem left_nat{x s h:Nat}(hs:s<32)(hh:h<2^s):(h ||| x*2^s%4294967296)=h+x*2^s%4294967296/\h+x*2^s%4294967296<4294967296:=by
 have e1:(4294967296:Nat)=2^(32-s)*2^s:=by rw[<-Nat.pow_add,show 32-s+s=32 by omega]
 have e2:x*2^s%4294967296=(x%2^(32-s))*2^s:=by rw[e1,Nat.mul_mod_mul_right]
 have e3:=Nat.two_pow_add_eq_or_of_lt (i:=s) (b:=h) hh (x%2^(32-s));have e4:x%2^(32-s)+1<=2^(32-s):=bZ _ (dB _);have e5:(x%2^(32-s)+1)*2^s<=2^(32-s)*2^s:=bU _ e4;rw[<-e1,bT,Nat.one_mul]at e5;rw[e2];refine⟨?_,za⟩
 rw[Nat.or_comm,aR,<-e3,Nat.add_comm]
theorem left_or{x s h:Nat}(hs:s<32)(hh:h<2^s):bits .or .u32 (h:Int) (((x*2^s:Nat):Int)%4294967296)=((h+x*2^s%4294967296:Nat):Int):=by
 have e:(((x*2^s:Nat):Int)%4294967296)=((x*2^s%4294967296:Nat):Int):=rfl;obtain⟨h1,h2⟩:=left_nat (x:=x) hs hh;rw[e,u32_or_nat _ _ za za,h1]
def LfRel(w:World)(g:Nat)(l:List Nat)(D:Nat)(m:Nat)(iv:Value)(wr:World):Prop:=
 ∃(k:Nat)(L:List Nat),k+m=l.length/\iv=.int .i64 k/\zBD wr g L/\L.length=l.length+1/\WLt B32 L/\zAk B32 L=zAk B32 (l.take k)*D/\(∀x (h:x<L.length),k+1<=x->L[x]=0) /\
  (∀h:k<L.length,L[k]<D)/\Below w.heap.size w wr/\w.heap.size<=g
def GivesBlk(n v:Nat)(w:World)(e:Ending)(w':World):Prop:=
 ∃g L,e=.returned (.slice (some ⟨g,0,none⟩) n n)/\zBD w' g L/\L.length=n/\WLt B32 L/\zAk B32 L=v/\Below w.heap.size w w'/\w.heap.size<=g
theorem left_l(A:Option Addr)(c s:Nat)(l:List Nat)(w:World)(h:Wds w A l)(hl:WLt B32 l)(hn:l.length<=900000000)(hs:s<32): Calls Tryz.prog 278 #[.slice A l.length c,.int .u64 (s:Int)] w (GivesBlk (l.length+1) (zAk B32 l*2^s) w):=by
 have hmk:∀w:World,(Instr.makeSlice 82 (.int .i64 ((l.length:Int)+1)) (.int .i64 ((l.length:Int)+1))).run Tryz.prog w =
   .ok (.slice (some ⟨w.heap.size,0,none⟩) (l.length+1) (l.length+1)) (w.alloc (.cells (Array.replicate (l.length+1) (.int .u32 0)) 254)):=mk_nat (l.length+1) za
 go_enter Tryz.func278,Tryz.ntmps278;go_wp2;clear hmk;have hnew:=zBD.new w (l.length+1);have hbel:Below w.heap.size w (w.alloc (.cells (Array.replicate (l.length+1) (.int .u32 0)) 254)):=(aJ _ _).alloc (aE _) _;obtain⟨g,hg⟩:∃g,g=w.heap.size:=⟨_,rfl⟩;rw[<-hg]at hnew;obtain⟨w1,hw1⟩:∃w1,w1=w.alloc (.cells (Array.replicate (l.length+1) (.int .u32 0)) 254):=⟨_,rfl⟩;rw[<-hw1]at hnew hbel;rw[<-hg,<-hw1];have HG:=zq hg;have HB:=zq hbel;clear hg hbel hw1;obtain⟨D,hD⟩:∃D,D=2^s:=⟨_,rfl⟩;have hD1:1<=D:=by rw[hD];exact dB s
 have HD:=zq hD;clear hD
 go_loopg[15] l.length (LfRel w g l D)
 case atStart=>exact⟨0,List.replicate (l.length+1) 0,za,rfl,hnew,zd,WLt.zeros zBI _,by rw[wval_zeros];simp[zAk],fun x hx _=>zd,fun hx=>ze,HB.o,yh⟩
 case round =>
  obtain⟨k,L,hkm,rfl,hA,hL,hLt,hV,hZ,hT,hbw,hwg⟩:=hrel;have HM:=zq hkm;have HV:=zq hV;have HZ:=zq hZ;have HL:=zq hL;have HT:=zq hT;clear hkm hV hZ hL hT
  by_cases hlt:k<l.length
  ·have hkL:k<L.length:=by have:=HL.o;omega
   have hkL1:k+1<L.length:=by have:=HL.o;omega
   obtain⟨b,o,hA0,hb,hcl⟩:=(h.below hbw).at_ za;subst hA0;have hc0:=hcl k hlt;rw[zBt]at hc0;have hx:l[k]<4294967296:=hl.get k hlt;have hc1:=hA.cell k hkL;have hf1:=hA.frozen k;have hc2:=hA.cell (k+1) hkL1;have hf2:=hA.frozen (k+1);clear hcl;have hh:L[k]<2^s:=by have:=HT.o hkL;rwa [HD.o]at this
   have hDB:D<=2147483648:=by
    rw[HD.o];exact dC (aV za (show s<=31 by omega)) zc
   obtain⟨y,hy⟩:∃y,y=l[k]*2^s:=⟨_,rfl⟩;have hyB:y<4294967296*D:=by rw[hy,HD.o];exact Nat.mul_lt_mul_of_pos_right hx (dB s)
   have hy2:y<=9223372036854775807:=za
   have hwr:IntKind.u64.wrap ((l[k]:Int)*2^s)=(y:Int):=by
    have e:(l[k]:Int)*2^s=(y:Int):=by rw[hy,aZ,Int.natCast_pow];rfl
    rw[e];exact IntWalk.u64_in _ za
   obtain⟨z,hz⟩:∃z,z=L[k]+y%4294967296:=⟨_,rfl⟩;have hor:bits .or .u32 (L[k]:Int) ((y:Int)%4294967296)=(z:Int):=by rw[hz,hy];exact left_or hs hh
   have hzB:z<4294967296:=by rw[hz,hy];exact(left_nat hs hh).2
   have HY:=zq hy;have HZ2:=zq hz;have HH:=zq hh;have HYB:=zq hyB;clear hy hz hh hyB hDB;go_wp2
   go_roundg (gk-1)
   case measure=>have:=HM.o;omega
   case rel =>
    clear hor hwr;refine⟨k+1,(L.set k z).set (k+1) (y/4294967296),by have:=HM.o;omega,zi,(hA.set k z).set (k+1) _,by simpa using HL.o,(hLt.set yk k).set yk _,?_,fun i hi hki=>?_,fun hi=>?_,(hbw.setCell hwg _).setCell hwg _,hwg⟩
    ·have e1:=wval_set B32 L k z hkL
     have e2:=wval_set B32 (L.set k z) (k+1) (y/4294967296) (by simpa using hkL1);rw[dA za,HZ.o (k+1) hkL1 (aE _)]at e2;rw[zAO hlt,bT,<-HV.o]
     have e3:B32^k*(y%4294967296)+B32^(k+1)*(y/4294967296)=B32^k*y:=by
      rw[bQ,bS,<-bR,zBZ,cA]
     have e4:B32^k*l[k]*D=B32^k*y:=by rw[bS,HY.o,HD.o]
     have e5:B32^k*z=B32^k*L[k]+B32^k*(y%4294967296):=by rw[HZ2.o,bR]
     rw[e4];omega
    ·rw[dA za,dA za]
     exact HZ.o i yf za
    ·have h1:=HYB.o
     simp
     omega
  ·obtain rfl:k=l.length:=by have:=HM.o;omega
   have hVV:=HV.o;rw[bC (aE _),HD.o]at hVV;have HVV:=zq hVV;clear hVV;go_wp2;go_ret
   exact⟨g,L,rfl,hA,HL.o,hLt,HVV.o,hbw,hwg⟩
theorem infoU32:(Tryz.prog.info? 254).map (·.size)=some 1:=zb
theorem wpList_copyU{ops:Array Oper}{rest:List Oper}{o:Oper}{a:Act}{w:World}{Q:Exit->Act->World->Prop}(d s:Operand)(hgd:o.guard=none)(ho:o.op=.call { callee:=.builtin .copy,args:=#[d,s],argTypes:=#[82,82] })
  (g j n cd cs g2:Nat) (U W:List Nat) (hd:a.eval d=.slice (some ⟨g,j,none⟩) n cd) (hs:a.eval s=.slice (some ⟨g2,0,none⟩) n cs) (hA:zBD w g U) (hA2:zBD w g2 W) (hn:W.length=n) (hj:j+n<=U.length)
  (h:∀w',zBD w' g (U.take j++W++U.drop (j+n))->w.grownBy w' (some g)->wpList Tryz.prog ops Q rest (a.put o.dst (goInt n)) w'):wpList Tryz.prog ops Q (o::rest) a w:=by
 subst hn;refine wpList_copy_own hgd d s _ _ ho 254 Tryz.underlying82 infoU32 g j W.length cd ⟨g2,0,none⟩ W.length cs hd hs (U.map u32V).toArray 254 hA (W.map u32V) zd ?_ yg (by simp[u32V,Value.oneCell']) ?_
 ·intro i v hv
  have hi:i<W.length:=by
   have:=(List.getElem?_eq_some_iff.1 hv).1
   simpa using this
  have:=hA2.cell i hi;have e:(⟨g2,0,none⟩:Addr).add i=⟨g2,i,none⟩:=by simp[Addr.add];exact fun h=>h.symm
  rw[e,this,<-hv];simp[hi,u32V]
 ·have hl:(W.map u32V).length=W.length:=dE _
  rw[hl];refine h _ ?_ ⟨rfl,rfl,rfl,zd,fun k _ hk=>setRow_other w g k _ (fun e=>hk (by rw[e]))⟩;unfold zBD;rw[setRow_heap w g _ _ _ _ hA];simp
def GivesSt(g j n q r:Nat)(U:List Nat)(w:World)(e:Ending)(w':World):Prop:=
 e=.returned (.int .u32 (q:Int))/\∃W:List Nat,W.length=n/\WLt B32 W/\zAk B32 W=r/\zBD w' g (U.take j++W++U.drop (j+n))/\w.grownBy w' (some g)
def StRel(w:World)(x v:Nat)(m:Nat)(qv:Value)(wr:World):Prop:=
 qv=.int .u64 (m:Int)/\m<=4294967295/\x/v<=m/\Below w.heap.size w wr
def StRel2(w:World)(g2:Nat)(X V:List Nat)(n q:Nat)(m:Nat)(bv cv iv:Value)(wr:World):Prop:=
 ∃(i bo cy:Nat)(W:List Nat),i+m=n+1/\iv=.int .i64 i/\bv=.int .u64 (bo:Int)/\cv=.int .u64 (cy:Int)/\bo<=1/\cy<=4294967295/\(i=n+1->cy=0)/\zBD wr g2 W/\W.length=n+1/\WLt B32 W /\
  (zAk B32 (W.take i):Int)=(zAk B32 (X.take i):Int)-(q:Int)*(zAk B32 (V.take i):Int)+(B32:Int)^i*((cy:Int)+(bo:Int))/\Below w.heap.size w wr/\w.heap.size<=g2
theorem and_mask(C:Nat)(h:C<18446744073709551616):bits .and .u64 (C:Int) 4294967295=((C%4294967296:Nat):Int):=by
 have e:(4294967295:Int)=((4294967295:Nat):Int):=rfl;rw[e,u64_and_nat C 4294967295 h za,show(4294967295:Nat)=2^32-1 from rfl,Nat.and_two_pow_sub_one_eq_mod]
theorem wrap_nat(x:Int):∃t:Nat,IntKind.u64.wrap x=(t:Int)/\(t:Int)=x%18446744073709551616:=by
 refine⟨(x%18446744073709551616).toNat,?_,?_⟩
 ·rw[IntKind.wrap_u64,Int.toNat_of_nonneg za]
 ·rw[Int.toNat_of_nonneg za]
theorem StRel2.step{w wr:World}{g2:Nat}{X V W:List Nat}{n q i bo cy gk u v C t1 t:Nat}(him:i+gk=n+1)(hi:i<n+1)(hA:zBD wr g2 W)(hW:W.length=n+1)(hLt:WLt B32 W)(hbo:bo<=1)(hV:(zAk B32 (W.take i):Int)=(zAk B32 (X.take i):Int)-(q:Int)*(zAk B32 (V.take i):Int)+(B32:Int)^i*((cy:Int)+(bo:Int)))(hbw:Below w.heap.size w wr)(hwg:w.heap.size<=g2)(hX:zAk B32 (X.take (i+1))=zAk B32 (X.take i)+B32^i*u)(hVv:zAk B32 (V.take (i+1))=zAk B32 (V.take i)+B32^i*v)(hu:u<4294967296)(hC:C=cy+q*v)(hC2:C<=18446744069414584320)(hlast:i=n->C<=4294967295)(h1:(t1:Int)=((u:Int)-((C%4294967296:Nat):Int))%18446744073709551616)(h2:(t:Int)=((t1:Int)-(bo:Int))%18446744073709551616){bv cv iv mv:Value}(hb:bv=.int .u64 ((t/9223372036854775808:Nat):Int))(hc:cv=.int .u64 ((C/4294967296:Nat):Int))(hiv:iv=.int .i64 ((i:Int)+1))(hm:mv=.int .u32 ((t%4294967296:Nat):Int)): StRel2 w g2 X V n q (gk-1) bv cv iv (wr.setCell ⟨g2,i,none⟩ mv):=by
 subst hb hc hiv hm;have hlo:=bZ C (show 0<4294967296 by decide);have hhi:C/4294967296<=4294967295:=za;have key:((t%4294967296:Nat):Int)=(u:Int)-((C%4294967296:Nat):Int)-(bo:Int)+4294967296*((t/9223372036854775808:Nat):Int):=za;refine⟨i+1,t/9223372036854775808,C/4294967296,W.set i (t%4294967296),za,zi,rfl,rfl,za,hhi,fun e=>by have:=hlast za;omega,hA.set i _,by simpa using hW,hLt.set (modB t) i,?_,hbw.setCell hwg _,hwg⟩
 rw[zDy za,hX,hVv]
 have hCI:(cy:Int)+(q:Int)*(v:Int)=((C%4294967296:Nat):Int)+(B32:Int)*((C/4294967296:Nat):Int):=by
  have e:(B32:Int)=4294967296:=rfl;have e2:(q:Int)*(v:Int)=((q*v:Nat):Int):=(aZ q v).symm;rw[e,e2];generalize q*v=p at *;omega
 have:=step_col (B:=B32) hV hCI (w:=((t%4294967296:Nat):Int)) (u:=(u:Int)) (b':=((t/9223372036854775808:Nat):Int)) key;simp only[Int.natCast_add,aZ,Int.natCast_pow]at this ⊢;exact this
theorem step_c(g j cu cv m:Nat)(A2:Option Addr)(U V X:List Nat)(w:World)(hA:zBD w g U)(hj:j+(m+2)<=U.length)(hX:X=(U.drop j).take (m+2))(hU:WLt B32 U)(h2:Wds w A2 V)(hV:WLt B32 V)(hVn:V.length=m+1)(hm:m<=900000000)(hv1:∀h:m<V.length,0<V[m])(hlt:zAk B32 X<zAk B32 V*B32): Calls Tryz.prog 279 #[.slice (some ⟨g,j,none⟩) (m+2) cu,.slice A2 (m+1) cv] w (GivesSt g j (m+2) (zAk B32 X/zAk B32 V) (zAk B32 X%zAk B32 V) U w):=by
 have hXl:X.length=m+2:=by rw[hX,cC,List.length_drop];omega
 have hXW:WLt B32 X:=by rw[hX];exact(hU.drop j).take _
 have hXr:Wds w (some ⟨g,j,none⟩) X:=fun _=>⟨g,j,rfl,fun i hi=>by
  rw[hA.cell (j+i) za];rw[List.getElem_of_eq hX hi,aP,List.getElem_drop];rfl⟩
 obtain⟨b2,o2,hA2,hb2,hcl2⟩:=h2.at_ za;subst hA2;obtain⟨y1,ey1⟩:∃y1,V[m]'(by omega)=y1:=⟨_,rfl⟩;obtain⟨x1,ex1⟩:∃x1,X[m]'(by omega)=x1:=⟨_,rfl⟩;obtain⟨x0,ex0⟩:∃x0,X[m+1]'(by omega)=x0:=⟨_,rfl⟩;have cv1:=hcl2 m za;have cu1:=hA.cell (j+m) za;have cu0:=hA.cell (j+(m+1)) za;have eu1:U[j+m]=X[m]:=by rw[List.getElem_of_eq hX,aP,List.getElem_drop]
 have eu0:U[j+(m+1)]=X[m+1]:=by rw[List.getElem_of_eq hX,aP,List.getElem_drop]
 rw[eu1,ex1]at cu1;rw[eu0,ex0]at cu0;rw[zBt,ey1]at cv1;have hy1:y1<4294967296:=by rw[<-ey1];exact hV.get m za
 have hy0:0<y1:=by rw[<-ey1];exact hv1 za
 have hx1:x1<4294967296:=by rw[<-ex1];exact hXW.get m za
 have hx0:x0<4294967296:=by rw[<-ex0];exact hXW.get (m+1) za
 obtain⟨T,hT⟩:∃T,T=x1+4294967296*x0:=⟨_,rfl⟩;have hor:bits .or .u64 ((x0:Int)*4294967296) (x1:Int)=(T:Int):=by rw[or_u64' _ _ hx1 hx0,hT];simp
 have hT1:T<=18446744073709551615:=za
 -- the first guess is not below the digit
 have hval:zAk B32 X=zAk B32 (X.take m)+B32^m*T:=by
  have h1:=zAO (B:=B32) (l:=X) (i:=m) za;have h2:=zAO (B:=B32) (l:=X) (i:=m+1) za;rw[bC za,h1,ex1,ex0]at h2;rw[h2,hT,bR,bQ,bS,Nat.add_assoc];rfl
 have hvv:B32^m*y1<=zAk B32 V:=by
  have h1:=zAO (B:=B32) (l:=V) (i:=m) za;rw[bC za,ey1]at h1;omega
 have htk:zAk B32 (X.take m)<B32^m:=by
  have:=zCW (hXW.take m)
  rwa [cC,cK za]at this
 have hguess:zAk B32 X/zAk B32 V<=T/y1:=by
  refine digit_le (B:=B32) (n:=m) (v:=zAk B32 V) (u:=zAk B32 X) (Nat.div_mul_le_self _ _) (by rw[aR];exact hvv) ?_ hy0;rw[hval,aR (T+1),bR,cR];omega
 have hmax:zAk B32 X/zAk B32 V<=4294967295:=by
  have:zAk B32 X/zAk B32 V<B32:=quot_lt hlt;have e:=zBZ;omega
 have hTy:x0<y1->T/y1<=4294967295:=fun h=>by
  have:T/y1<B32:=quot_lt (by rw[hT];exact next_lt (B:=B32) h hx1);have e:=zBZ;omega
 have HX:=zq hX;have HXL:=zq hXl;have HVL:=zq hVn;have HG:=zq hguess;have HM:=zq hmax;have HTY:=zq hTy;clear hcl2 eu0 eu1 ex0 ex1 ey1 hX hXl hVn hT hval hvv htk hguess hmax hTy
 go_enter Tryz.func279,Tryz.ntmps279;go_wp2;go_quiet(fail);go_wp2;go_quiet(fail);go_upto_if 37 with fail
 go_cut[7] (fun qv wx=>∃q0:Nat,StRel w (zAk B32 X) (zAk B32 V) q0 qv wx)
 case first =>
  by_cases hc:x0<y1
  ·have hcb:decide (x0<y1)=true:=aT hc
   have ht1:(T:Int)/(y1:Int)<=4294967295:=by
    have:=HTY.o hc;rw[<-Int.natCast_ediv];omega
   have ht2:0<=(T:Int)/(y1:Int):=Int.ediv_nonneg (Int.natCast_nonneg _) (Int.natCast_nonneg _);have HQ1:Hid (T/y1<=4294967295):=HTY.o hc;rw[hcb];clear hc hcb;go_wp2;go_meet;exact⟨T/y1,rfl,HQ1.o,HG.o,yj⟩
  ·have hcb:decide (x0<y1)=false:=aU hc
   rw[hcb];clear hc hcb;go_wp2;go_meet;exact⟨4294967295,rfl,aE _,HM.o,yj⟩
 case rest =>
  obtain⟨q0,rfl,hq1,hq2,hbwc⟩:=hcut;have HQ:=zq hq2;clear hq2 hor hT1 cv1 cu1 cu0;go_wp2
  go_loopg[7] q0 (StRel w (zAk B32 X) (zAk B32 V))
  case atStart=>exact⟨rfl,hq1,HQ.o,hbwc⟩
  case round =>
   clear hq1 HQ hbwc;obtain⟨rfl,hgk,hge,hbw⟩:=hrel;have HGE:=zq hge;clear hge
   have hmk:∀w:World,(Instr.makeSlice 82 (.int .i64 ((m:Int)+1+1)) (.int .i64 ((m:Int)+1+1))).run Tryz.prog w =
     .ok (.slice (some ⟨w.heap.size,0,none⟩) (m+2) (m+2)) (w.alloc (.cells (Array.replicate (m+2) (.int .u32 0)) 254)):=mk_nat (m+2) za
   go_wp2;clear hmk;have hnew:=zBD.new wr (m+2);have hbel:Below wr.heap.size wr (wr.alloc (.cells (Array.replicate (m+2) (.int .u32 0)) 254)):=(aJ _ _).alloc (aE _) _;have hszw:w.heap.size<=wr.heap.size:=hbw.size;have hbw1:=zAa hbw hbel;obtain⟨g2,hg2⟩:∃g2,g2=wr.heap.size:=⟨_,rfl⟩;rw[<-hg2]at hnew;obtain⟨w1,hw1⟩:∃w1,w1=wr.alloc (.cells (Array.replicate (m+2) (.int .u32 0)) 254):=⟨_,rfl⟩;rw[<-hw1]at hnew hbw1;rw[<-hg2,<-hw1];have hwg:w.heap.size<=g2:=by rw[hg2];exact hszw
   have HBW:=zq hbw1;clear hg2 hbel hw1 hszw hbw hbw1;obtain⟨q,hqq⟩:∃q,q=gk:=⟨_,rfl⟩;subst hqq
   go_loopg[8,9,51] (m+2) (StRel2 w g2 X V (m+1) q)
   case atStart=>exact⟨0,0,0,List.replicate (m+2) 0,za,rfl,rfl,rfl,za,za,fun _=>rfl,hnew,zd,WLt.zeros zBI _,qh,HBW.o,hwg⟩
   case round =>
    obtain⟨i,bo,cy,W,him,rfl,rfl,rfl,hbo,hcy,hlast,hAW,hWl,hWW,hVal,hbw,hwg'⟩:=hrel;have HIM:=zq him;have HLA:=zq hlast;have HWL:=zq hWl;have HVAL:=zq hVal;clear him hlast hWl hVal hwg'
    by_cases hi:i<m+2
    ·have hiX:i<X.length:=by have:=HXL.o;omega
     have hiW:i<W.length:=by have:=HWL.o;omega
     obtain⟨b1,o1,hA1,hb1,hcl1⟩:=(hXr.below hbw).at_ za
     injection hA1 with hA1
     injection hA1 with hA1 hA1'
     subst hA1 hA1';have hc0:=hcl1 i hiX;rw[zBt]at hc0;have hu:X[i]<4294967296:=hXW.get i hiX;have hc1:=hAW.cell i hiW;have hf1:=hAW.frozen i;clear hcl1
     by_cases him:i<m+1
     ·have hiV:i<V.length:=by have:=HVL.o;omega
      obtain⟨b3,o3,hA3,hb3,hcl3⟩:=(h2.below hbw).at_ za
      injection hA3 with hA3
      injection hA3 with hA3 hA3'
      subst hA3 hA3';have hc3:=hcl3 i hiV;rw[zBt]at hc3;have hv:V[i]<4294967296:=hV.get i hiV;clear hcl3;obtain⟨p,hp⟩:∃p,p=q*V[i]:=⟨_,rfl⟩
      have hpB:p<=18446744065119617025:=by
       have h9:q*V[i]<=4294967295*4294967295:=Nat.mul_le_mul hgk za;rw[hp];omega
      have hpe:(q:Int)*(V[i]:Int)=(p:Int):=by rw[hp];exact(aZ _ _).symm
      obtain⟨C,hC⟩:∃C,C=cy+p:=⟨_,rfl⟩;have hCe:(cy:Int)+(p:Int)=(C:Int):=by rw[hC];exact(Int.natCast_add _ _).symm
      have hCB:C<=18446744069414584320:=za;obtain⟨lo,hlo⟩:∃lo,lo=C%4294967296:=⟨_,rfl⟩;have hand:bits .and .u64 (C:Int) 4294967295=(lo:Int):=by rw[hlo];exact and_mask C za
      have hloB:lo<4294967296:=za;obtain⟨t1,ht1,ht1'⟩:=wrap_nat ((X[i]:Int)-(lo:Int));obtain⟨t,ht,ht'⟩:=wrap_nat ((t1:Int)-(bo:Int));have htB:t<=18446744073709551615:=za;have ht1B:t1<=18446744073709551615:=za;have HP:=zq hp;have HC:=zq hC;have HLO:=zq hlo;have HT1:=zq ht1';have HT:=zq ht';clear hp hC hlo ht1' ht';go_wp2
      go_roundg (gk-1)
      case measure=>have:=HIM.o;omega
      case rel=>exact StRel2.step HIM.o hi hAW HWL.o hWW hbo HVAL.o hbw hwg (zAO hiX) (zAO hiV) hu (by rw[<-HP.o];exact HC.o) hCB (fun e=>za) (by rw[<-HLO.o];exact HT1.o) HT.o zd zd rfl zd
     ·obtain rfl:i=m+1:=by omega
      have HVT:Hid (zAk B32 (V.take (m+1+1))=zAk B32 (V.take (m+1))+B32^(m+1)*0):=by
       show zAk B32 (V.take (m+1+1))=zAk B32 (V.take (m+1))+B32^(m+1)*0
       rw[bC (by have:=HVL.o;omega),bC (by have:=HVL.o;omega),cP,cZ]
      have hand:bits .and .u64 (cy:Int) 4294967295=(cy:Int):=by
       rw[and_mask cy za,bY za]
      obtain⟨t1,ht1,ht1'⟩:=wrap_nat ((X[m+1]:Int)-(cy:Int));obtain⟨t,ht,ht'⟩:=wrap_nat ((t1:Int)-(bo:Int));have htB:t<=18446744073709551615:=za;have ht1B:t1<=18446744073709551615:=za;have HT1:=zq ht1';have HT:=zq ht';clear ht1' ht';go_wp2
      go_roundg (gk-1)
      case measure=>have:=HIM.o;omega
      case rel=>exact StRel2.step (C:=cy) HIM.o hi hAW HWL.o hWW hbo HVAL.o hbw hwg (zAO hiX) HVT.o hu zd za (fun e=>hcy) (by rw[bY za];exact HT1.o) HT.o zd zd rfl zd
    ·obtain rfl:i=m+2:=by have:=HIM.o;omega
     obtain rfl:cy=0:=HLA.o rfl
     have HW:Hid ((zAk B32 W:Int)=(zAk B32 X:Int)-(q:Int)*(zAk B32 V:Int)+(B32:Int)^(m+2)*(bo:Int)):=by
      have h1:=HVAL.o;rw[bC (by have:=HWL.o;omega),bC (by have:=HXL.o;omega),bC (by have:=HVL.o;omega)]at h1;show _=_
      simpa using h1
     have HWB:Hid (zAk B32 W<B32^(m+2)):=by
      have:=zCW hWW
      rwa [HWL.o]at this
     rcases cN bo with hb0|hb0
     ·subst hb0
      have hAU:=hA.below hbw;have hn9:=HWL.o
      go_wp2_with (with_reducible refine wpList_copyU (.tmp 88) (.tmp 89) rfl rfl g j (m+2) cu (m+2) g2 U W rfl rfl hAU hAW hn9 hj ?_;intro w9 hA9 hg9)
      clear hn9
      have HQE:Hid (q=zAk B32 X/zAk B32 V/\zAk B32 W=zAk B32 X%zAk B32 V):=by
       have h1:=HW.o
       have hvp:0<zAk B32 V:=by
        rcases cN (zAk B32 V)with h|h
        ·rw[h,Nat.zero_mul]at hlt
         exact absurd hlt (dF _)
        ·exact h
       have h2:q*zAk B32 V+zAk B32 W=zAk B32 X:=by
        have:((q*zAk B32 V+zAk B32 W:Nat):Int)=((zAk B32 X:Nat):Int):=by
         rw[Int.natCast_add,aZ,h1,show((0:Nat):Int)=0 from rfl,Int.mul_zero];generalize ((q:Int)*((zAk B32 V:Nat):Int))=R at *;omega
        exact Int.ofNat.inj this
       have h3:q<=zAk B32 X/zAk B32 V:=(Nat.le_div_iff_mul_le hvp).2 (by rw[<-h2];exact dG _ _);have h4:q=zAk B32 X/zAk B32 V:=Nat.le_antisymm h3 HGE.o;refine⟨h4,?_⟩
       have h5:=Nat.div_add_mod (zAk B32 X) (zAk B32 V);rw[<-h4,aR]at h5;exact Nat.add_left_cancel (h2.trans h5.symm)
      go_wp2;go_ret
      refine⟨by rw[<-HQE.o.1];rfl,W,HWL.o,hWW,HQE.o.2,hA9,?_⟩
      exact⟨hg9.os.trans hbw.os,hg9.tape.trans hbw.tape,hg9.output.trans hbw.output,dC hbw.size hg9.size,fun i hi hne=>(hg9.block i (aB hi hbw.size) hne).trans (hbw.block i hi)⟩
     ·obtain rfl:bo=1:=by omega
      have HQ1:Hid (zAk B32 X/zAk B32 V<q):=by
       show _<_
       have h1:=HW.o;have h2:=HWB.o
       rcases aQ (zAk B32 X/zAk B32 V) q with h|h
       ·exact h
       ·exfalso
        have h3:q*zAk B32 V<=zAk B32 X:=dC (bU _ h) (Nat.div_mul_le_self _ _);have h4:((zAk B32 W:Nat):Int)<((B32^(m+2):Nat):Int):=Int.ofNat_lt.2 h2;rw[Int.natCast_pow]at h4;have h5:((q*zAk B32 V:Nat):Int)<=((zAk B32 X:Nat):Int):=Int.ofNat_le.2 h3;rw[aZ]at h5;generalize ((B32:Int)^(m+2))=P at *;generalize ((q:Int)*((zAk B32 V:Nat):Int))=R at *;omega
      have hq1:1<=q:=bV (bW _) HQ1.o;go_wp2
      go_roundg (q-1)
      case measure=>omega
      case rel=>exact⟨by rw[show(((q-1:Nat)):Int)=(q:Int)-1 by omega],za,Nat.le_sub_one_of_lt HQ1.o,hbw⟩
theorem Nt.zero(w:World):Nt w none 0 0:=⟨Rd1.nil,aE _⟩
theorem Cmp_ge{A A2:Option Addr}{c c2 a b:Nat}{w:World}(h:Nt w A c a)(h2:Nt w A2 c2 b)(hn:(zAc B32 a).length<=1000000000)(hge:b<=a): ∃z:Int,0<=z/\Calls Tryz.prog 163 #[ntV A c a,ntV A2 c2 b] w (zBU (.int .i64 z) w):=by
 refine⟨cmpN a b,?_,Cmp_c A A2 c c2 a b w h h2 hn⟩
 unfold cmpN;rw[aW za]
 split<;>omega
theorem Div_lt(A A2:Option Addr)(c c2 a b:Nat)(w:World)(h:Nt w A c a)(h2:Nt w A2 c2 b)(hn:(zAc B32 a).length<=400000000)(hlt:a<b): Calls Tryz.prog 221 #[ntV A c a,ntV A2 c2 b] w (GivesNN (a/b) (a%b) w):=by
 rw[Nat.div_eq_of_lt hlt,bY hlt];have hc:=Cmp_c A A2 c c2 a b w h h2 za;rw[zCI hlt]at hc;have HC:=zq hc;clear hc hlt
 go_enter Tryz.func221,Tryz.ntmps221;(go_wp2_with fail);(with_reducible refine HC.o.mono ?_);rintro e w' ⟨rfl,nd,rfl⟩;clear HC;go_wp2;go_ret2
 exact⟨none,0,A,c,rfl,Nt.zero _,h.drewN nd,zAd (aJ _ _) nd⟩
theorem Div_small(A A2:Option Addr)(c c2 a b:Nat)(w:World)(h:Nt w A c a)(h2:Nt w A2 c2 b)(hn:(zAc B32 a).length<=2)(hge:b<=a)(hb:0<b): Calls Tryz.prog 221 #[ntV A c a,ntV A2 c2 b] w (GivesNN (a/b) (a%b) w):=by
 obtain⟨z,hz,hc⟩:=Cmp_ge h h2 za hge;have hm:=dC (zAI zAn hge) hn;have la:=small_lt hn;have lb:=small_lt hm;have HC:=zq hc;clear hc hge
 go_enter Tryz.func221,Tryz.ntmps221;(go_wp2_with fail);(with_reducible refine HC.o.mono ?_);rintro e w' ⟨rfl,nd,rfl⟩;clear HC;(go_wp2_with fail);(with_reducible refine(zCx A c a _ (h.drewN nd) hn).mono ?_);rintro e w' ⟨rfl,nd1,rfl⟩;(go_wp2_with fail);have h2d:=h2.drewN (nd+nd1);(with_reducible refine(zCx A2 c2 b _ h2d hm).mono ?_);rintro e w' ⟨rfl,nd2,rfl⟩;obtain⟨q,hq⟩:∃q,a/b=q:=⟨_,rfl⟩;obtain⟨r,hr⟩:∃r,a%b=r:=⟨_,rfl⟩;have hqa:q<=a:=by rw[<-hq];exact Nat.div_le_self a b
 have hra:r<=a:=by rw[<-hr];exact Nat.mod_le a b
 have e1:(a:Int)/(b:Int)=(q:Int):=by rw[<-hq];exact(Int.natCast_ediv a b).symm
 have e2:(a:Int).tmod (b:Int)=(r:Int):=by rw[IntWalk.rem_in _ _ za,<-hr];exact(Int.natCast_emod a b).symm
 have e3:IntKind.u64.wrap (q:Int)=(q:Int):=IntWalk.u64_in _ za;have e4:IntKind.u64.wrap (r:Int)=(r:Int):=IntWalk.u64_in _ za;have hbz:¬b=0:=za
 have hbq:∀W:World,(binOp .quo 253 (.int .u64 (a:Int)) (.int .u64 (b:Int))).run Tryz.prog W=.ok (.int .u64 (q:Int)) W:=fun W=>by
  simp[go_sem,hbz,e1,e3]
 have hbr:∀W:World,(binOp .rem 253 (.int .u64 (a:Int)) (.int .u64 (b:Int))).run Tryz.prog W=.ok (.int .u64 (r:Int)) W:=fun W=>by
  simp[go_sem,hbz,e2]
 have hqB:q<18446744073709551616:=za;have hrB:r<18446744073709551616:=za;have HQ1:=zq hq;have HR1:=zq hr;clear hq hr;have HQ:=zq (fun W:World=>natOf_c q W hqB);have HR:=zq (fun W:World=>natOf_c r W hrB);clear hqB hrB;go_wp2
 go_region_held3 (fun _=>True) (trivial)
  (first
   |((go_at_call 167;(with_reducible refine(HQ.o _).mono ?_);rintro e w6⟨A5,c5,rfl,hn5,hb5⟩))
   |((go_at_call 167;(with_reducible refine(HR.o _).mono ?_);rintro e w7⟨A6,c6,rfl,hn6,hb6⟩)))
 all_goals
  have hb7:Below w.heap.size w w6:=(zAd (aJ w.heap.size w) _).trans hb5;have hb8:Below w.heap.size w w7:=hb7.trans (hb6.mono hb7.size);have hn7:=hn5.below hb6;clear hb5 hb6 hb7 hn5;go_wp2;go_ret2
  rw[HQ1.o,HR1.o];exact⟨A5,c5,A6,c6,rfl,hn7,hn6,hb8⟩
theorem words_one{b:Nat}(h:(zAc B32 b).length=1):zAc B32 b=[b]:=by
 have hv:=zAz zAn b
 match hw:zAc B32 b,h with
 |[x],_ =>
  rw[hw,wval_one]at hv;rw[hv]
theorem Div_word(A A2:Option Addr)(c c2 a b:Nat)(w:World)(h:Nt w A c a)(h2:Nt w A2 c2 b)(hn:(zAc B32 a).length<=400000000)(hn2:2<(zAc B32 a).length)(hm:(zAc B32 b).length=1)(hge:b<=a): Calls Tryz.prog 221 #[ntV A c a,ntV A2 c2 b] w (GivesNN (a/b) (a%b) w):=by
 obtain⟨z,hz,hc⟩:=Cmp_ge h h2 za hge;have HC:=zq hc;have hw:=words_one hm;have hl:=zAX zAn b;rw[hw]at hl;have hb2:b<=4294967295:=by have:=hl.head;have e:=zBZ;omega
 have hb1:1<=b:=by
  rcases cN b with h0|h0
  ·rw[(zCA zAn).2 h0]at hm
   simp at hm
  ·exact h0
 obtain⟨r2,hcap2⟩:=h2;rw[hw]at r2;obtain⟨b2,o2,hA2,hlt2,hcl⟩:=r2.at_ zd;subst hA2;have hc0:=hcl 0 zd;rw[zBt]at hc0;simp only[cY,cZ]at hc0;have e2:ntV (some ⟨b2,o2,none⟩) c2 b=.slice (some ⟨b2,o2,none⟩) 1 c2:=by unfold ntV;rw[hw];rfl
 rw[e2]at HC ⊢;have hcap3:1<=c2:=by rw[hw]at hcap2;exact hcap2
 clear hc hge hw hl hcl hm e2 r2 hcap2
 go_enter Tryz.func221,Tryz.ntmps221;(go_wp2_with fail);(with_reducible refine HC.o.mono ?_);rintro e w' ⟨rfl,nd,rfl⟩;clear HC;(go_wp2_with fail);(with_reducible refine(small_no A c a _ (h.drewN nd) hn2 za).mono ?_);rintro e w' ⟨rfl,nd1,rfl⟩;(go_wp2_with fail);(with_reducible refine(divWord_c A c a b _ (h.drewN (nd+nd1)) za hb1 hb2).mono ?_);rintro e w' ⟨A5,c5,A6,c6,rfl,h5,h6,hb⟩;go_wp2;go_ret2
 exact⟨A5,c5,A6,c6,rfl,h5,h6,(zAd (aJ w.heap.size w) _).trans hb⟩
theorem step_n(g j cu cv n:Nat)(A2:Option Addr)(U V X:List Nat)(w:World)(hn1:1<=n)(hA:zBD w g U)(hj:j+(n+1)<=U.length)(hX:X=(U.drop j).take (n+1))(hU:WLt B32 U)(h2:Wds w A2 V)(hV:WLt B32 V)(hVn:V.length=n)(hm:n<=900000000)(hv1:∀h:n-1<V.length,0<V[n-1])(hlt:zAk B32 X<zAk B32 V*B32): Calls Tryz.prog 279 #[.slice (some ⟨g,j,none⟩) (n+1) cu,.slice A2 n cv] w (GivesSt g j (n+1) (zAk B32 X/zAk B32 V) (zAk B32 X%zAk B32 V) U w):=by
 obtain⟨m,rfl⟩:∃m,n=m+1:=⟨n-1,za⟩;exact step_c g j cu cv m A2 U V X w hA hj hX hU h2 hV hVn za hv1 hlt
theorem shift_ok{x:Nat}(h0:0<x)(h:x<4294967296):1<=Lib.bitLen x/\Lib.bitLen x<=32/\x*2^(32-Lib.bitLen x)<4294967296:=by
 have hlt:∀(f x:Nat),x<2^f->x<2^Lib.bitLenAux f x:=by
  intro f
  induction f with
  |zero=>intro x hx;simpa[Lib.bitLenAux]using hx
  |succ f ih =>
   intro x hx;unfold Lib.bitLenAux
   split
   ·next h=>rw[h];exact dB _
   ·have h1:x/2<2^f:=by rw[bQ]at hx;omega
    have h2:=ih (x/2) h1;rw[Nat.pow_add];omega
 have hle:∀(f x k:Nat),x<2^k->Lib.bitLenAux f x<=k:=by
  intro f
  induction f with
  |zero=>intro x k _;simp[Lib.bitLenAux]
  |succ f ih =>
   intro x k hx;unfold Lib.bitLenAux
   split
   ·omega
   ·next h0 =>
    cases k with
    |zero=>simp at hx;omega
    |succ k =>
     have:=ih (x/2) k (by rw[bQ]at hx;omega);omega
 have h1:Lib.bitLen x<=32:=hle 64 x 32 h;have h2:x<2^Lib.bitLen x:=hlt 64 x (Nat.lt_trans h zc);refine⟨?_,h1,?_⟩
 ·rcases cN (Lib.bitLen x)with e|e
  ·rw[e]at h2;simp at h2;omega
  ·exact e
 ·have h3:x*2^(32-Lib.bitLen x)<2^Lib.bitLen x*2^(32-Lib.bitLen x):=Nat.mul_lt_mul_of_pos_right h2 (dB _)
  rw[<-Nat.pow_add,show Lib.bitLen x+(32-Lib.bitLen x)=32 by omega]at h3;exact h3
def DvRel(w:World)(gu gv gq:Nat)(U0 V0:List Nat)(v na nb:Nat)(m:Nat)(jv:Value)(wr:World):Prop:=
 ∃(U Q:List Nat)(z:Int),z=(m:Int)-1/\jv=.int .i64 z/\m<=na-nb+1/\zBD wr gu U/\U.length=na+1/\WLt B32 U/\zBD wr gv V0/\zBD wr gq Q/\Q.length=na-nb+1/\WLt B32 Q/\U.take m=U0.take m /\
  zAk B32 (U.drop m)=zAk B32 (U0.drop m)%v/\zAk B32 (Q.drop m)=zAk B32 (U0.drop m)/v/\Below w.heap.size w wr
theorem window{U U0:List Nat}{j n v na:Nat}(hU:U.length=na+1)(h0:U0.length=na+1)(hj:j+n+1<=na+1)(ht:U.take (j+1)=U0.take (j+1))(hr:zAk B32 (U.drop (j+1))=zAk B32 (U0.drop (j+1))%v)(hv:v<B32^n)(hv0:0<v)(hW:WLt B32 U): zAk B32 ((U.drop j).take (n+1))=zAk B32 (U.drop j)/\zAk B32 (U.drop j)<v*B32/\zAk B32 (U.drop (j+(n+1)))=0/\zAk B32 (U.drop j)=U0[j]'(by omega)+B32*(zAk B32 (U0.drop (j+1))%v):=by
 have hjU:j<U.length:=za
 have e0:U[j]=U0[j]'(by omega):=by
  have h1:(U.take (j+1))[j]'(by rw[cC];omega)=U[j]:=aP;have h2:(U0.take (j+1))[j]'(by rw[cC];omega)=U0[j]'(by omega):=aP;rw[<-h1,<-h2];exact List.getElem_of_eq ht _
 have e1:=zDn (B:=B32) hjU;have hx:=hW.get j hjU
 have hlt:zAk B32 (U.drop j)<v*B32:=by
  rw[e1,hr];exact next_lt (bZ _ hv0) hx
 have hz:zAk B32 (U.drop (j+1+n))=0:=zCV (n:=n) (by rw[hr];exact Nat.lt_trans (bZ _ hv0) hv) za;have ej:j+(n+1)=j+1+n:=za;refine⟨?_,hlt,by rw[ej];exact hz,by rw[e1,hr,e0]⟩
 have e2:=zCq B32 (n+1) (U.drop j) (by rw[List.length_drop];omega);rw[List.drop_drop,ej,hz,cP,cZ]at e2;exact e2.symm
theorem lz_c(x:Nat)(w:World)(h:x<4294967296):Calls Tryz.prog 277 #[.int .u32 (x:Int)] w (zBk (.int .i64 (32-(Lib.bitLen x:Int))) w):=by
 have h:=Any.bits_LeadingZeros32 Tryz.lays133 (x:Int) w za za;change Calls Tryz.prog 277 _ _ _ at h;rw[Int.toNat_natCast]at h;exact h.mono fun _ _ ⟨he,hw⟩=>⟨he,hw.symm⟩
theorem cutW(g j n N:Nat)(h:j+n+1<=N)(W:World):(Instr.slice 82 (.slice (some ⟨g,0,none⟩) N N) (some (.int .i64 (j:Int))) (some (.int .i64 ((j:Int)+(n:Int)+1))) none).run Tryz.prog W=.ok (.slice (some ⟨g,j,none⟩) (n+1) (N-j)) W:=by
 have e1:¬N=j:=za;have h1:(0:Int)<=(j:Int):=za;have h2:(j:Int)<=(j:Int)+(n:Int)+1:=za;have h3:(j:Int)+(n:Int)+1<=(N:Int):=za;simp[go_sem,h1,h2,h3]
 exact⟨fun e=>absurd e e1,za⟩
theorem cutV(A:Option Addr)(n N:Nat)(h:n<=N)(W:World):(Instr.slice 82 (.slice A N N) none (some (.int .i64 (n:Int))) none).run Tryz.prog W=.ok (.slice A n N) W:=by
 have h3:(n:Int)<=(N:Int):=za;simp[go_sem,h3]
def RvRel(w:World)(gu gq gr:Nat)(U Q:List Nat)(s nb:Nat)(m:Nat)(iv:Value)(wr:World):Prop:=
 ∃(k:Nat)(R:List Nat),k+m=nb/\iv=.int .i64 k/\zBD wr gr R/\R.length=nb/\WLt B32 R/\2^s*zAk B32 (R.take k)+U.getD 0 0%2^s=zAk B32 (U.take k)+B32^k*(U.getD k 0%2^s) /\
  zBD wr gu U/\zBD wr gq Q/\Below w.heap.size w wr/\w.heap.size<=gr/\gu<gr/\gq<gr
theorem RvRel.step{w wr:World}{gu gq gr:Nat}{U Q R:List Nat}{s nb k gk T:Nat}(hkm:k+gk=nb)(hlt:k<nb)(hR:zBD wr gr R)(hRl:R.length=nb)(hRW:WLt B32 R)(hs:s<32)(hU1:k+1<U.length)(hUW:WLt B32 U)(hV:2^s*zAk B32 (R.take k)+U.getD 0 0%2^s=zAk B32 (U.take k)+B32^k*(U.getD k 0%2^s))(hU:zBD wr gu U)(hQ:zBD wr gq Q)(hb:Below w.heap.size w wr)(h1:w.heap.size<=gr)(h2:gu<gr)(h3:gq<gr)(hT:T=U[k]+4294967296*U[k+1]){iv mv:Value}(hi:iv=.int .i64 ((k:Int)+1))(hm:mv=.int .u32 ((T/2^s%4294967296:Nat):Int)){wd:World}(hd:∃n,wd=(wr.drewN n).setCell ⟨gr,k,none⟩ mv):RvRel w gu gq gr U Q s nb (gk-1) iv wd:=by
 obtain⟨n,rfl⟩:=hd;subst hi hm;have hR':zBD (wr.drewN n) gr R:=hR;have hU':zBD (wr.drewN n) gu U:=hU;have hQ':zBD (wr.drewN n) gq Q:=hQ;refine⟨k+1,R.set k (T/2^s%4294967296),za,zi,hR'.set k _,by simpa using hRl,hRW.set (modB _) k,?_,hU'.far (show gu≠gr by omega) _,hQ'.far (show gq≠gr by omega) _,(zAd hb n).setCell h1 _,h1,h2,h3⟩
 rw[zDy za,zAO (by omega:k<U.length)];have e0:U.getD k 0=U[k]:=by simp[List.getD,show k<U.length by omega]
 have e1:U.getD (k+1) 0=U[k+1]:=by simp[List.getD,hU1]
 rw[e1];rw[e0]at hV;have hx:=hUW.get k za
 have hdv:(2^s)∣B32:=by
  refine⟨2^(32-s),?_⟩
  rw[<-Nat.pow_add,show s+(32-s)=32 by omega]
  rfl
 exact shr_col zBI (dB s) hdv hx hV (by rw[hT];rfl)
theorem divisor{r V:List Nat}{top s:Nat}(hr:WLt B32 r)(hn:0<r.length)(htop:r.getLast?=some top)(h1:top*2^s<4294967296)(h0:0<top)(hs:s<32)(hVl:V.length=r.length+1)(hVW:WLt B32 V)(hVv:zAk B32 V=zAk B32 r*2^s): zAk B32 r*2^s<B32^r.length/\0<zAk B32 r*2^s/\zAk B32 (V.take r.length)=zAk B32 r*2^s/\(∀h:r.length-1<(V.take r.length).length,0<(V.take r.length)[r.length-1]):=by
 have ht:r[r.length-1]'(by omega)=top:=by
  exact tch
 have e1:=zAO (B:=B32) (l:=r) (i:=r.length-1) za;rw[show r.length-1+1=r.length by omega,aG,ht]at e1;have e2:=zCW (hr.take (r.length-1));rw[cC,cK za]at e2;have e3:B32^(r.length-1)*B32=B32^r.length:=by rw[<-bQ,show(r.length-1).succ=r.length by omega]
 have h2:(top+1)*2^s<=B32:=by
  have e4:(4294967296:Nat)=2^(32-s)*2^s:=by rw[<-Nat.pow_add,show 32-s+s=32 by omega]
  have h3:top<2^(32-s):=by
   rw[e4]at h1;exact Nat.lt_of_mul_lt_mul_right h1
  have h4:=bU (2^s) (show top+1<=2^(32-s) from h3);rw[<-e4]at h4;exact h4
 have hp:=dB s
 have hlt:zAk B32 r*2^s<B32^r.length:=by
  have h5:zAk B32 r+1<=B32^(r.length-1)*(top+1):=by rw[bR,cR];omega
  have h6:=bU (2^s) h5;have h7:=cB (B32^(r.length-1)) h2;rw[e3,<-bS]at h7;rw[bT,Nat.one_mul]at h6;omega
 have hge:B32^(r.length-1)<=zAk B32 r:=by
  have:=cB (B32^(r.length-1)) (show 1<=top from h0);rw[cR]at this;omega
 have hbp:0<B32^(r.length-1):=Nat.pow_pos zBI;have hpos:0<zAk B32 r*2^s:=dH za hp;have hz:zAk B32 (V.drop (0+r.length))=0:=zCV (n:=r.length) (by rw[aO,hVv];exact hlt) za;have hsp:=zCq B32 r.length V za;rw[bJ]at hz;rw[hz,cP,cZ,hVv]at hsp;refine⟨hlt,hpos,hsp.symm,fun h=>?_⟩
 rcases cN ((V.take r.length)[r.length-1])with h0|h0
 ·exfalso
  have e5:=zAO (B:=B32) (l:=V.take r.length) (i:=r.length-1) h;rw[h0,cP,cZ,List.take_take,List.take_take,cK za,cK za]at e5;rw[show r.length-1+1=r.length by omega,<-hsp]at e5;have e6:=zCW (hVW.take (r.length-1));rw[cC,cK za]at e6;have e7:=cB (zAk B32 r) hp;rw[cR]at e7;omega
 ·exact h0
theorem first_part{U:List Nat}{a b s na nb:Nat}(hU:U.length=na+1)(hUv:zAk B32 U=a*2^s)(ha:a<B32^na)(hb:B32^(nb-1)<=b)(h1:1<=nb)(h2:nb<=na):zAk B32 (U.drop (na-nb+1))<b*2^s:=by
 have e:=zCq B32 (na-nb+1) U za;have hp:=dB s
 have h3:B32^(na-nb+1)*zAk B32 (U.drop (na-nb+1))<B32^na*2^s:=by
  have:=Nat.mul_lt_mul_of_pos_right ha hp;omega
 have e2:B32^na=B32^(na-nb+1)*B32^(nb-1):=by rw[<-Nat.pow_add,show na-nb+1+(nb-1)=na by omega]
 rw[e2,bS]at h3;exact aB (Nat.lt_of_mul_lt_mul_left h3) (bU _ hb)
theorem Div_long(A A2:Option Addr)(c c2 a b:Nat)(w:World)(h:Nt w A c a)(h2:Nt w A2 c2 b)(hn:(zAc B32 a).length<=400000000)(hn2:2<(zAc B32 a).length)(hm:2<=(zAc B32 b).length)(hge:b<=a): Calls Tryz.prog 221 #[ntV A c a,ntV A2 c2 b] w (GivesNN (a/b) (a%b) w):=by
 obtain⟨z,hz,hc⟩:=Cmp_ge h h2 za hge;have hlen:=zAI zAn hge
 obtain⟨top,htop,ht0⟩:∃top,(zAc B32 b).getLast?=some top/\0<top:=by
  have hb0:=zCH (B:=B32) zAn (n:=b) za;exact⟨_,by rw[List.getLast?_eq_getElem?,List.getElem?_eq_getElem za],za⟩
 have hl1:=zAX zAn a;have hl2:=zAX zAn b;have HVA:=zq (zAz zAn a);have HVB:=zq (zAz zAn b);obtain⟨h,hcap⟩:=h;obtain⟨h2,hcap2⟩:=h2;have hsm:=small_no A c a w ⟨h,hcap⟩ hn2 za;have HS:=zq (fun nd:Nat=>small_no A c a (w.drewN nd) ⟨h.drewN nd,hcap⟩ hn2 za);have HC:=zq hc;clear hc hsm;unfold ntV at HC HS ⊢;generalize zAc B32 a=l at *;generalize zAc B32 b=r at *;obtain⟨na,hna⟩:∃na,na=l.length:=⟨_,rfl⟩;obtain⟨nb,hnb⟩:∃nb,nb=r.length:=⟨_,rfl⟩;obtain⟨b2,o2,hA2,hlt2,hcl⟩:=h2.at_ za;subst hA2;have hc0:=hcl (r.length-1) za
 have htop2:r[r.length-1]'(by omega)=top:=by
  exact tch
 have ht1:top<4294967296:=by rw[<-htop2];exact hl2.get _ za
 rw[zBt,htop2]at hc0;obtain⟨hs1,hs2,hs3⟩:=shift_ok ht0 ht1;have HLZ:=zq (fun W:World=>lz_c top W ht1);obtain⟨s,hs⟩:∃s,s=32-Lib.bitLen top:=⟨_,rfl⟩;have hsI:(32:Int)-(Lib.bitLen top:Int)=(s:Int):=za;rw[hsI]at HLZ;have hs4:s<32:=za;have HL1:=zq (fun W (hW:Wds W A l)=>left_l A c s l W hW hl1 za hs4);have HL2:=zq (fun W (hW:Wds W (some ⟨b2,o2,none⟩) r)=>left_l (some ⟨b2,o2,none⟩) c2 s r W hW hl2 za hs4);have HTOP:Hid (r.getLast?=some top/\top*2^s<4294967296/\0<top):=⟨htop,by rw[hs];exact hs3,ht0⟩;rw[<-hnb]at hc0;clear htop htop2 hs1 hs2 hs3 hs hsI hcl
 have hmk:∀w:World,(Instr.makeSlice 82 (.int .i64 ((na:Int)-(nb:Int)+1)) (.int .i64 ((na:Int)-(nb:Int)+1))).run Tryz.prog w =
   .ok (.slice (some ⟨w.heap.size,0,none⟩) (na-nb+1) (na-nb+1)) (w.alloc (.cells (Array.replicate (na-nb+1) (.int .u32 0)) 254)):=by
  have e:(na:Int)-(nb:Int)+1=((na-nb+1:Nat):Int):=za;rw[e];exact mk_nat (na-nb+1) za
 rw[<-hna]at hn hn2 hlen hcap;rw[<-hnb]at hm hlen hcap2;simp only[<-hna,<-hnb]at HS HL1 HL2 HC ⊢;have HNA:=zq hna;have HNB:=zq hnb;clear hna hnb
 go_enter Tryz.func221,Tryz.ntmps221;(go_wp2_with fail);(with_reducible refine HC.o.mono ?_);rintro e w' ⟨rfl,nd,rfl⟩;clear HC;(go_wp2_with fail);(with_reducible refine(HS.o nd).mono ?_);rintro e w' ⟨rfl,nd1,rfl⟩;clear HS;(go_wp2_with fail);(with_reducible refine(HLZ.o _).mono ?_);rintro e w' ⟨rfl,rfl⟩;clear HLZ;(go_wp2_with fail);(with_reducible refine(HL1.o _ (h.drewN (nd+nd1))).mono ?_);rintro e w3⟨gu,U,rfl,hU,hUl,hUW,hUv,hb3,hg3⟩;clear HL1;have hb3':Below w.heap.size w w3:=(zAd (aJ w.heap.size w) _).trans hb3;have HB3:=zq hb3';have hg3':w.heap.size<=gu:=hg3;clear hb3 hb3' hg3;(go_wp2_with fail);(with_reducible refine(HL2.o _ (h2.below HB3.o)).mono ?_);rintro e w4⟨gv,V,rfl,hV,hVl,hVW,hVv,hb4,hg4⟩;clear HL2;have hU4:=hU.below hb4;have hgu3:=hU.lt;have HB4:=zq (zAa HB3.o hb4);have hz3:=HB3.o.size;clear hb4 hU;(go_wp2_with fail);have hnew:=zBD.new w4 (na-nb+1);have hbel:Below w4.heap.size w4 (w4.alloc (.cells (Array.replicate (na-nb+1) (.int .u32 0)) 254)):=(aJ _ _).alloc (aE _) _;have hU5:=hU4.below hbel;have hV5:=hV.below hbel;have hgv4:=hV.lt;have hbw5:=zAa HB4.o hbel;obtain⟨gq,hgq⟩:∃gq,gq=w4.heap.size:=⟨_,rfl⟩;obtain⟨w5,hw5⟩:∃w5,w5=w4.alloc (.cells (Array.replicate (na-nb+1) (.int .u32 0)) 254):=⟨_,rfl⟩;rw[<-hgq]at hnew;rw[<-hw5]at hnew hU5 hV5 hbw5;rw[<-hgq,<-hw5];have hgv:gu<gv:=za;have hgqv:gv<gq:=za;have HB5:=zq hbw5;clear hbel hbw5 hw5 hgq hmk hU4 hV HB4 HB3 hgv4 hgu3 hz3 hg4 hc0 hlt2;obtain⟨htop,hts,htp⟩:=HTOP.o;have hrn:=HNB.o;have hln:=HNA.o;have HD:=divisor hl2 za htop hts htp hs4 za hVW hVv;rw[<-hrn,HVB.o]at HD
 have hbB:B32^(nb-1)<=b:=by
  have:=wval_ge (B:=B32) (l:=r) za (by rw[List.getLast?_eq_getElem?,List.getElem?_eq_getElem za]at htop;injection htop with e;omega)
  rwa [<-hrn,HVB.o]at this
 have haB:a<B32^na:=by
  have:=zCW hl1
  rwa [HVA.o,<-hln]at this
 rw[HVA.o]at hUv;rw[HVB.o]at hVv;obtain⟨v,hv⟩:∃v,v=b*2^s:=⟨_,rfl⟩;have hF:=first_part hUl hUv haB hbB za hlen;rw[<-hv]at HD hF;obtain⟨HD1,HD2,HD3,HD4⟩:=HD;obtain⟨Vn,hVn⟩:∃Vn,Vn=V.take nb:=⟨_,rfl⟩;rw[<-hVn]at HD3 HD4;have hVnl:Vn.length=nb:=by rw[hVn,cC];omega
 have HVN:=zq hVn;have HVNL:=zq hVnl;have hVnW:WLt B32 Vn:=by rw[hVn];exact hVW.take nb
 have HV:=zq hv;have HD1:=zq HD1;have HD3:=zq HD3;have HD4:=zq HD4;have HF:=zq hF;have HUV:=zq hUv;have HUL:=zq hUl;clear htop hts htp hrn hln hbB haB hv hF hVn hVnl hUv hVv hUl HTOP hl1 hl2 hcap hcap2 h h2 HVA HVB HNA HNB hge hVl
 go_loopg[15] (na-nb+1) (DvRel w gu gv gq U V v na nb)
 case atStart =>
  refine⟨U,List.replicate (na-nb+1) 0,_,rfl,?_,aE _,hU5,HUL.o,hUW,hV5,hnew,zd,WLt.zeros zBI _,rfl,(bY HF.o).symm,?_,HB5.o⟩
  ·congr 1;omega
  ·rw[aY zd,Nat.div_eq_of_lt HF.o];rfl
 case round =>
  clear hU5 hV5 hnew;obtain⟨U',Q,zz,hzz,rfl,hgk,hU',hUl',hUW',hV',hQ,hQl,hQW,hTk,hRm,hQt,hbw⟩:=hrel;have HTK:=zq hTk;have HRM:=zq hRm;have HQT:=zq hQt;have HQL:=zq hQl;have HUL':=zq hUl';clear hTk hRm hQt hQl hUl'
  rcases cN gk with h0|h0
  ·subst h0
   obtain rfl:zz=-1:=hzz
   have hrem:zAk B32 U'=(a%b)*2^s:=by
    have:=HRM.o
    rwa [aO,aO,HUV.o,HV.o,Nat.mul_mod_mul_right]at this
   have hquo:zAk B32 Q=a/b:=by
    have:=HQT.o
    rwa [aO,aO,HUV.o,HV.o,Nat.mul_div_mul_right _ _ (dB s)]at this
   have hrl:zAk B32 U'<B32^nb:=by
    have:=HRM.o;rw[aO]at this;rw[this];exact Nat.lt_trans (bZ _ HD2) HD1.o
   have HREM:=zq hrem;have HQUO:=zq hquo;have HRL:=zq hrl;clear hrem hquo hrl HTK HRM HQT HD3 HD4
   have hmk:∀w:World,(Instr.makeSlice 82 (.int .i64 (nb:Int)) (.int .i64 (nb:Int))).run Tryz.prog w =
     .ok (.slice (some ⟨w.heap.size,0,none⟩) nb nb) (w.alloc (.cells (Array.replicate nb (.int .u32 0)) 254)):=mk_nat nb za
   go_wp2;clear hmk;have hnew:=zBD.new wr nb;have hbel:Below wr.heap.size wr (wr.alloc (.cells (Array.replicate nb (.int .u32 0)) 254)):=(aJ _ _).alloc (aE _) _;have hU5:=hU'.below hbel;have hQ5:=hQ.below hbel;have hgu5:=hU'.lt;have hgq5:=hQ.lt;have hbw5:=zAa hbw hbel;have hsz5:=hbw.size;obtain⟨gr,hgr⟩:∃gr,gr=wr.heap.size:=⟨_,rfl⟩;obtain⟨w5,hw5⟩:∃w5,w5=wr.alloc (.cells (Array.replicate nb (.int .u32 0)) 254):=⟨_,rfl⟩;rw[<-hgr]at hnew hgu5 hgq5 hsz5;rw[<-hw5]at hnew hU5 hQ5 hbw5;rw[<-hgr,<-hw5];clear hgr hw5 hbel hbw hV' hU' hQ
   go_loopg[100] nb (RvRel w gu gq gr U' Q s nb)
   case atStart=>exact⟨0,List.replicate nb 0,za,rfl,hnew,zd,WLt.zeros zBI _,qh,hU5,hQ5,hbw5,hsz5,hgu5,hgq5⟩
   case round =>
    clear hnew hU5 hQ5 hbw5;obtain⟨k,R,hkm,rfl,hR,hRl,hRW,hVR,hU5,hQ5,hbw5,_,_,_⟩:=hrel;have HKM:=zq hkm;have HRL2:=zq hRl;have HVR:=zq hVR;clear hkm hRl hVR
    by_cases hlt:k<nb
    ·have hk1:k+1<U'.length:=by have:=HUL'.o;omega
     have hc0:=hU5.cell k za;have hc1:=hU5.cell (k+1) hk1;have hc2:=hR.cell k (by have:=HRL2.o;omega);have hf2:=hR.frozen k;have hx0:U'[k]<4294967296:=hUW'.get k za;have hx1:U'[k+1]<4294967296:=hUW'.get (k+1) hk1;obtain⟨T,hT⟩:∃T,T=U'[k]+4294967296*U'[k+1]:=⟨_,rfl⟩;have hor:bits .or .u64 (U'[k]:Int) ((U'[k+1]:Int)*4294967296)=(T:Int):=by rw[or_u64 _ _ hx0 hx1,hT];simp
     obtain⟨D,hD⟩:∃D,D=T/2^s:=⟨_,rfl⟩;have hDe:(T:Int)/2^s=(D:Int):=by rw[hD,Int.natCast_ediv,Int.natCast_pow];rfl
     have hDT:D<=T:=by rw[hD];exact Nat.div_le_self _ _
     have hTB:T<=18446744073709551615:=za;have HT:=zq hT;have HD:=zq hD;clear hT hD;have hsh:IntKind.u64.wrap ((U'[k+1]:Int)*4294967296)=(U'[k+1]:Int)*4294967296:=IntWalk.u64_in _ za;have hw1:IntKind.i64.wrap ((k:Int)+1)=(k:Int)+1:=IntWalk.i64_in _ za;go_wp2;have y1:(k:Int)<(na:Int)+1:=za;have y2:(k:Int)+1<(na:Int)+1:=za;have y3:(k:Int)<(nb:Int):=za;have y4:(0:Int)<=(k:Int)+1:=za;have y5:((k:Int)+1).toNat=k+1:=za;have y6:(0:Int)<=(k:Int):=za;refine wp_region_still_tail 19 zb zb ?_;simp only[aL,aM,aN,aO]
     repeat still_step
     refine wpStill_nil ?_;change wpList _ _ _ _ _ wr.drew;clear y1 y2 y3 y4 y5 y6 hsh hw1;go_wp2
     go_roundg (gk-1)
     case measure=>have:=HKM.o;omega
     case rel=>exact RvRel.step HKM.o hlt hR HRL2.o hRW hs4 hk1 hUW' HVR.o hU5 hQ5 hbw5 hsz5 hgu5 hgq5 HT.o rfl (by rw[<-HD.o];rfl) ⟨1,rfl⟩
    ·obtain rfl:k=nb:=by have:=HKM.o;omega
     have HR:Hid (zAk B32 R=a%b):=by
      show _=_
      have h1:=HVR.o;have hul:=HUL'.o;have h2:zAk B32 (U'.drop (0+k))=0:=zCV (n:=k) (by rw[aO];exact HRL.o) za;rw[bJ]at h2;have h3:=zCq B32 k U' za;rw[h2,cP,cZ,HREM.o]at h3
      have h4:U'.getD k 0=0:=by
       have h5:=zDn (B:=B32) (l:=U') (i:=k) za;rw[h2]at h5;have h6:U'.getD k 0=U'[k]'(by omega):=by simp[List.getD,show k<U'.length by omega]
       rw[h6];omega
      rw[bC (by rw[HRL2.o];omega),<-h3,h4,Nat.zero_mod,cP,cZ]at h1;have hp:=dB s;have h7:=bX (· / 2^s) h1;simp only[Nat.mul_div_cancel _ hp]at h7;rw[Nat.add_comm,Nat.add_mul_div_left _ _ hp,Nat.div_eq_of_lt (bZ _ hp),bJ]at h7;exact h7
     have hql:=HQL.o;have hrl:=HRL2.o;(go_wp2_with fail);rw[<-hql];(with_reducible refine(trim_n _ _ Q _ wr za (aE _) (by have:=hQ5.rd Q.length;rwa [aG]at this) hQW (aJ _ _) HQUO.o).mono ?_);rintro e w7⟨A7,c7,rfl,hn7,hb7⟩;clear hql;have hR7:=hR.below hb7;(go_wp2_with fail);rw[<-hrl];(with_reducible refine(trim_n _ _ R _ w7 za (aE _) (by have:=hR7.rd R.length;rwa [aG]at this) hRW (aJ _ _) HR.o).mono ?_);rintro e w8⟨A8,c8,rfl,hn8,hb8⟩;clear hrl;go_wp2;go_ret2
     exact⟨A7,c7,A8,c8,rfl,hn7.below hb8,hn8,zAa (zAa hbw5 hb7) hb8⟩
  ·obtain⟨j,rfl⟩:∃j,gk=j+1:=⟨gk-1,za⟩
   obtain rfl:zz=(j:Int):=za;clear hzz;have hj:j+nb<=na:=za;obtain⟨hw1,hw2,hw3,hw4⟩:=window (n:=nb) (v:=v) HUL'.o HUL.o za HTK.o HRM.o HD1.o HD2 hUW';obtain⟨X,hX⟩:∃X,X=(U'.drop j).take (nb+1):=⟨_,rfl⟩;rw[<-hX]at hw1;have hst:=step_n gu j (na+1-j) (nb+1) nb (some ⟨gv,0,none⟩) U' Vn X wr.drew za (show zBD wr.drew gu U' from hU') (by rw[HUL'.o];omega) hX hUW' (by rw[HVN.o];exact(show zBD wr.drew gv V from hV').rd nb) hVnW HVNL.o za HD4.o (by rw[HD3.o,hw1];exact hw2);rw[HD3.o,hw1]at hst;have HST:=zq hst;have HW2:=zq hw2;have HW3:=zq hw3;have HW4:=zq hw4;have hjq:j<Q.length:=by rw[HQL.o];omega
   have hc1:=hQ.cell j hjq;have hf1:=hQ.frozen j;clear hst hw1 hw2 hw3 hw4 hX;go_wp2;have hs1:IntKind.i64.wrap ((j:Int)+(nb:Int))=(j:Int)+(nb:Int):=IntWalk.i64_in _ za;have hs2:IntKind.i64.wrap ((j:Int)+(nb:Int)+1)=(j:Int)+(nb:Int)+1:=IntWalk.i64_in _ za;have hji:(j:Int)<((na-nb+1:Nat):Int):=za;have hji2:(j:Int)<((na-nb:Nat):Int)+1:=za;have hji3:(0:Int)<=(j:Int):=za;have hcw:=cutW gu j nb (na+1) za;have hcv:=cutV (some ⟨gv,0,none⟩) nb (nb+1) za
   go_region_held3 (fun _=>True) (trivial)
    (first
     |((go_at_call 279;(with_reducible refine HST.o.mono ?_);rintro e w6⟨rfl,W,hWl,hWW,hWv,hU6,hg6⟩;have hQ6:zBD w6 gq Q:=(hg6.block gq hQ.lt (fun e=>by injection e;omega)).trans hQ;have hc6:=hQ6.cell j hjq;have hf6:=hQ6.frozen j)))
   have hbw6:Below w.heap.size w w6:=⟨hg6.os.trans hbw.os,hg6.tape.trans hbw.tape,hg6.output.trans hbw.output,dC hbw.size hg6.size,fun i hi=>(hg6.block i (aB hi hbw.size) (fun e=>by injection e;omega)).trans (hbw.block i hi)⟩;have hV6:zBD w6 gv V:=(hg6.block gv hV'.lt (fun e=>by injection e;omega)).trans hV';clear hs1 hs2 hcw hcv hji hji2 hji3 hc1 hf1 hc6 hf6 hg6;go_wp2
   go_roundg j
   case measure=>omega
   case rel =>
    clear HST;have hy:=Nat.div_add_mod' (zAk B32 (U.drop (j+1))) v;have hn:=div_next (B:=B32) (v:=v) (x:=U[j]'(by have:=HUL.o;omega)) (r:=zAk B32 (U.drop (j+1))%v) HD2 (zAk B32 (U.drop (j+1))/v);rw[hy]at hn;have hUj:zAk B32 (U.drop j)=U[j]'(by have:=HUL.o;omega)+B32*zAk B32 (U.drop (j+1)):=zDn (by have:=HUL.o;omega);rw[<-hUj,<-HW4.o]at hn;have hul:=HUL'.o;have hql:=HQL.o;have htk:(U'.take j).length=j:=qe;refine⟨U'.take j++W++U'.drop (j+(nb+1)),Q.set j (zAk B32 (U'.drop j)/v),_,rfl,rfl,za,hU6.far (show gu≠gq by omega) _,?_,((hUW'.take j).append hWW).append (hUW'.drop _),hV6.far (show gv≠gq by omega) _,hQ6.set j _,by simpa using hql,hQW.set (quot_lt HW2.o) j,?_,?_,?_,hbw6.setCell (show w.heap.size<=gq by omega) _⟩
    ·rw[dI,dI,htk,hWl,List.length_drop];omega
    ·rw[List.append_assoc,List.take_append_of_le_length za,List.take_take,Nat.min_self]
     have h1:=bX (List.take j) HTK.o
     rwa [List.take_take,List.take_take,cK za]at h1
    ·rw[wval_window za hWl HW3.o,hWv,hn.2]
    ·rw[drop_set_pred Q j _ hjq,zAk,HQT.o,hn.1,Nat.add_comm]
theorem Div_c(A A2:Option Addr)(c c2 a b:Nat)(w:World)(h:Nt w A c a)(h2:Nt w A2 c2 b)(hn:(zAc B32 a).length<=400000000)(hb:0<b): Calls Tryz.prog 221 #[ntV A c a,ntV A2 c2 b] w (GivesNN (a/b) (a%b) w):=by
 rcases aQ a b with hlt|hge
 ·exact Div_lt A A2 c c2 a b w h h2 hn hlt
 ·by_cases h3:(zAc B32 a).length<=2
  ·exact Div_small A A2 c c2 a b w h h2 h3 hge hb
  ·have h4:(zAc B32 b).length≠0:=fun e=>by
    have:=(zCA zAn (n:=b)).1 (dJ e);omega
   by_cases h5:(zAc B32 b).length=1
   ·exact Div_word A A2 c c2 a b w h h2 hn za h5 hge
   ·exact Div_long A A2 c c2 a b w h h2 hn za za hge
def GcRel(w:World)(G N:Nat)(m:Nat)(av bv:Value)(wr:World):Prop:=
 ∃(A:Option Addr)(c:Nat)(A2:Option Addr)(c2 aa:Nat),av=ntV A c aa/\bv=ntV A2 c2 m/\Nt wr A c aa/\Nt wr A2 c2 m/\(zAc B32 aa).length<=N/\(zAc B32 m).length<=N/\Nat.gcd aa m=G/\Below w.heap.size w wr
def GcRel2(w:World)(G:Nat)(m:Nat)(xv yv:Value)(wr:World):Prop:=
 ∃xx:Nat,xv=.int .u64 (xx:Int)/\yv=.int .u64 (m:Int)/\xx<=18446744073709551615/\m<=18446744073709551615/\Nat.gcd xx m=G/\Below w.heap.size w wr
theorem gcd_c(A A2:Option Addr)(c c2 a b:Nat)(w:World)(h:Nt w A c a)(h2:Nt w A2 c2 b)(hn:(zAc B32 a).length<=400000000)(hn2:(zAc B32 b).length<=400000000): Calls Tryz.prog 220 #[ntV A c a,ntV A2 c2 b] w (zCZ (Nat.gcd a b) w):=by
 go_enter Tryz.func220,Tryz.ntmps220;go_wp2
 go_loopg[0,1] b (GcRel w (Nat.gcd a b) 400000000)
 case atStart=>exact⟨A,c,A2,c2,a,rfl,rfl,h,h2,hn,hn2,rfl,aJ _ _⟩
 case round =>
  clear h h2 hn hn2;obtain⟨A3,c3,A4,c4,aa,rfl,rfl,h,h2,hn,hn2,hG,hb⟩:=hrel;have HG:=zq hG;have HB:=zq hb;clear hG hb
  rcases cN gk with h0|h0
  ·subst h0
   go_wp2;go_ret
   have e:aa=Nat.gcd a b:=by rw[<-HG.o,Nat.gcd_zero_right]
   rw[<-e];exact⟨A3,c3,rfl,h,HB.o⟩
  ·have hl:0<(zAc B32 gk).length:=by
    rcases cN (zAc B32 gk).length with e|e
    ·have:=(zCA zAn (n:=gk)).1 (dJ e)
     omega
    ·exact e
   by_cases hs:(zAc B32 aa).length<=2/\(zAc B32 gk).length<=2
   ·obtain⟨hs1,hs2⟩:=hs
    have la:=small_lt hs1;have lb:=small_lt hs2;(go_wp2_with fail);(with_reducible refine(zCx A3 c3 aa _ h hs1).mono ?_);rintro e w' ⟨rfl,nd,rfl⟩;(go_wp2_with fail);(with_reducible refine(zCx A4 c4 gk _ (h2.drewN nd) hs2).mono ?_);rintro e w' ⟨rfl,nd2,rfl⟩;go_wp2;have HB2:Hid (Below w.heap.size w (wr.drewN (nd+nd2))):=zAd HB.o _;obtain⟨wo,hwo⟩:∃wo:World,wo=wr.drewN (nd+nd2):=⟨_,rfl⟩;rw[<-hwo]at HB2 ⊢;clear hwo HB h0 hl
    go_loopg[5,7] gk (GcRel2 w (Nat.gcd a b))
    case atStart=>exact⟨aa,rfl,rfl,la,lb,HG.o,HB2.o⟩
    case round =>
     clear HG la lb HB2;obtain⟨xx,rfl,rfl,hx,hy,hG2,hb2⟩:=hrel;have HG2:=zq hG2;clear hG2
     rcases cN gk with h0|h0
     ·subst h0
      (go_wp2_with fail);have e:xx=Nat.gcd a b:=by rw[<-HG2.o,Nat.gcd_zero_right]
      have HE:=zq e;clear e;(with_reducible refine(natOf_c xx _ za).mono ?_);rintro e w5⟨A5,c5,rfl,h5,hb5⟩;go_wp2;go_ret
      rw[<-HE.o];exact⟨A5,c5,rfl,h5,zAa hb2 hb5⟩
     ·have hbz:¬gk=0:=by omega
      obtain⟨r,hr⟩:∃r,xx%gk=r:=⟨_,rfl⟩;have hrl:r<gk:=by rw[<-hr];exact bZ _ h0
      have e2:(xx:Int).tmod (gk:Int)=(r:Int):=by rw[IntWalk.rem_in _ _ za,<-hr];exact(Int.natCast_emod xx gk).symm
      have e4:IntKind.u64.wrap (r:Int)=(r:Int):=IntWalk.u64_in _ za;have HR:=zq hr;clear hr;go_wp2;go_quiet(fail);clear e2 e4 hbz;go_wp2
      go_roundg r
      case measure=>exact hrl
      case rel=>exact⟨gk,rfl,rfl,hy,za,by rw[<-HG2.o,<-HR.o,<-gcd_step],zAd hb2 _⟩
   ·have hsa:=fun nd:Nat=>small_c A3 c3 aa (wr.drewN nd) (h.drewN nd) za
    have hsb:=fun nd:Nat=>small_c A4 c4 gk (wr.drewN nd) (h2.drewN nd) za
    have hd:=fun nd:Nat=>Div_c A3 A4 c3 c4 aa gk (wr.drewN nd) (h.drewN nd) (h2.drewN nd) hn h0
    have hsa0:=small_c A3 c3 aa wr h za;unfold smV at hsa hsb hsa0
    have HLB:Hid ((zAc B32 (aa%gk)).length<=400000000):=by
     show _<=_
     exact dC (zAI zAn (Nat.le_of_lt (bZ aa h0))) hn2
    have hq:(decide ((zAc B32 aa).length<=2)&&decide ((zAc B32 gk).length<=2))=false:=by
     rw[<-Bool.decide_and];exact aU hs
    generalize decide ((zAc B32 aa).length<=2)=p1 at *;generalize decide ((zAc B32 gk).length<=2)=p2 at *;generalize (if (zAc B32 aa).length<=2 then (aa:Int) else 0)=v1 at *;generalize (if (zAc B32 gk).length<=2 then (gk:Int) else 0)=v2 at *;have HSA:=zq hsa;have HSB:=zq hsb;have HSA0:=zq hsa0;have HD:=zq hd;clear hsa hsb hsa0 hd hs;have HQ:=zq hq;clear hq
    cases p1
    case' true =>
     obtain rfl:p2=false:=by have:=HQ.o;simpa using this
    all_goals
     (go_wp2_with fail);(with_reducible refine HSA0.o.mono ?_);rintro e w' ⟨rfl,nd,rfl⟩;(go_wp2_with fail);(with_reducible refine(HSB.o nd).mono ?_);rintro e w' ⟨rfl,nd2,rfl⟩;(go_wp2_with fail);(with_reducible refine(HD.o (nd+nd2)).mono ?_);rintro e w6⟨A5,c5,A6,c6,rfl,h5,h6,hb6⟩;have hb7:Below wr.heap.size wr w6:=(zAd (aJ wr.heap.size wr) _).trans hb6;have hn7:=h2.below hb7;have HB7:=zq (zAa HB.o hb7);clear hb6 hb7 h5;go_wp2
     go_roundg (aa%gk)
     case measure=>exact bZ _ h0
     case rel=>exact⟨A4,c4,A6,c6,gk,rfl,rfl,hn7,h6,hn2,HLB.o,by rw[<-HG.o,<-gcd_step],HB7.o⟩
end Go.Proofs.YtbbchlpccgkikaaGreatDoor
namespace Dw
open Go Go.RowKit
theorem zBC{P:Program}{α:Type}{enc:α->List Value}{k:Nat}{ops:Array Oper}{rest:List Oper}{o:Oper}{a:Act}{w:World}{Q:Exit->Act->World->Prop}{e:TypeId}{z:Value}{bytes:Nat}(s x:Operand)(t:TypeId)(hT:ElemT P t e z k bytes)(hgd:o.guard=none)(ho:o.op=.call { callee:=.builtin .append,args:=#[s,x],argTypes:=#[t,t] })
  (base:Nat) (v:Value) (l:List α) (hs:a.eval s=v) (hown:zAs enc k w base e v l)
  (g cp:Nat) (y:α) (hx:a.eval x=.slice (some ⟨g,0,none⟩) 1 cp) (hnew:w.heap[g]?=some (.cells (enc y).toArray e (0,0)))
  (hk:(enc y).length=k) (hone:∀u∈enc y,u.oneCell'=true) (hlen:l.length+1<=maxLen) (hbytes:(l.length+1)*bytes<=140737488355328) (hbase:base<=w.heap.size)
  (h:∀A' c' w',zAs enc k w' base e (.slice A' (l.length+1) c') (l++[y])->w.grownBy w' v.ownBlock->Below base w w'->((Value.slice A' (l.length+1) c').ownBlock=v.ownBlock\/(Value.slice A' (l.length+1) c').ownBlock=some w.heap.size) ->
   wpList P ops Q rest (a.put o.dst (.slice A' (l.length+1) c')) w'):wpList P ops Q (o::rest) a w:=by
 obtain⟨i,hi,hz0,hz1,hz2⟩:=info_parts hT.info;refine wpList_append_own_at _ hgd s x t ho base e i z k bytes hT.ty hi hz0 hz1 hz2 hT.zs hT.pos v l.length (l.flatMap enc) hs hown ⟨g,0,none⟩ 1 cp (enc y) hx (by rw[hk];omega) ?_ hone hlen hbytes hbase ?_
 ·intro j u hj
  exact World.news_of_block hnew j u yg
 ·intro v' w' h1 h2 _ h4
  have ho':zAs enc k w' base e v' (l++[y]):=by
   unfold zAs
   simpa using h1
  obtain⟨A',c',rfl⟩:∃A' c',v'=.slice A' (l.length+1) c':=by
   rcases h1.2 with ⟨rfl,hn⟩|⟨g,cap,cur,rfl,_⟩
   ·omega
   ·exact⟨_,_,rfl⟩
  exact h A' c' w' ho' h2 ((aJ _ _).grown h2 hbase fun j hj=>(bL hown j hj).1) h4
end Dw
namespace Go.Proofs.YtbbchlpccgkikaaGreatDoor
open Dw
def zCN(n d:Nat):Nat×Nat:=(n/Nat.gcd n d,d/Nat.gcd n d)
def addP(p q:Nat×Nat):Nat×Nat:=zCN (p.1*q.2+q.1*p.2) (p.2*q.2)
def dgB(c:UInt8):Bool:=decide (48<=c.toNat)&&decide (c.toNat<=57)
theorem dgB_iff(c:UInt8):dgB c=true↔48<=c.toNat/\c.toNat<=57:=by unfold dgB;simp
def numB(s:BA):Bool:=s.data.toList.all dgB&&(decide (s.size=1) || decide (1<s.size)&&decide ((s.data.toList.headD 0).toNat≠48))
def negB(s:BA):Bool:=decide (0<s.size)&&decide ((s.data.toList.headD 0).toNat=45)
def absL(s:BA):List UInt8:=if negB s=true then s.data.toList.tail else s.data.toList
def zBe(s:BA):BA:=⟨(absL s).toArray⟩
def zeroS:BA:=⟨#[48]⟩
def zAD(s:BA):Nat:=zBW s.data.toList
def ratF(nu de:BA):Int:=
 if numB (zBe nu)=false\/(negB nu=true/\zBe nu=zeroS)\/numB de=false\/de=zeroS then 3
 else if 2000<(zBe nu).size\/2000<de.size then 2
 else if Nat.gcd (zAD (zBe nu)) (zAD de)=1 then 0 else 3
def posB(nu:BA):Bool:=!negB nu&&decide (zAD (zBe nu)≠0)
structure Sh where
 pt:BA
 nu:BA
 de:BA
deriving Inhabited
structure De where
 id:BA
 day:Int
 kd:Int
 th:BA
 fr:BA
 to_:BA
 nu:BA
 de:BA
 ex:Bool
 sb:Bool
 arA:Option Go.Addr
 ar:List Ar
 arc:Nat
 usA:Option Go.Addr
 us:List BA
 usc:Nat
 bg:Int
 en:Int
 shA:Option Go.Addr
 sh:List Sh
 shc:Nat
 ot:BA
deriving Inhabited
def zCF(n:Int):Bool:=decide (0<=n)&&decide (n<=200000)
def ptAt(l:List Sh)(i:Nat):BA:=(l.getD i default).pt
def zBg(l:List Sh)(i:Nat):Option Int:=
 if zBi (ptAt l i)=false then some 5
 else if 0<i/\sle (ptAt l i) (ptAt l (i-1))=true then some 8
 else if ratF (l.getD i default).nu (l.getD i default).de≠0 then some (ratF (l.getD i default).nu (l.getD i default).de)
 else if posB (l.getD i default).nu=false then some 1 else none
def zDo(l:List Sh)(k:Nat):Nat×Nat:=(l.take k).foldl (fun p s=>addP p (zAD (zBe s.nu),zAD s.de)) (0,1)
def shF(kd:Int)(l:List Sh):Int:=
 if l=[] then 9 else if 20<l.length then 2 else
 match (List.range l.length).findSome? (zBg l)with
 |some f=>f
 |none=>if (zDo l l.length).2<(zDo l l.length).1\/(kd=5/\(zDo l l.length).1≠(zDo l l.length).2) then 1 else 0
def usAt(l:List BA)(i:Nat):BA:=l.getD i default
def zBd(us l:List BA)(i:Nat):Option Int:=
 if memS us (usAt l i)=false then some 5 else if 0<i/\sle (usAt l i) (usAt l (i-1))=true then some 8 else none
def useF(us l:List BA):Int:=match (List.range l.length).findSome? (zBd us l)with
 |some f=>f
 |none=>0
def zAl(k:Int):Bool:=decide (k=2) || decide (k=3)
def zAw(d:De):Bool:=
 (!(zAl d.kd || decide (d.kd=1))&&decide (d.th≠emp)) || (!(zAl d.kd || decide (d.kd=5))&&decide (d.fr≠emp)) || (!zAl d.kd&&decide (d.to_≠emp)) ||
 (!decide (d.kd=2)&&(decide (d.nu≠emp) || decide (d.de≠emp))) || (!decide (d.kd=3)&&(d.ex || d.sb)) || (!zAl d.kd&&(decide (d.ar≠[]) || decide (d.us≠[]))) ||
 (!zAl d.kd&&decide (d.en≠0)) || (!(decide (d.kd=1) || decide (d.kd=5))&&decide (d.sh≠[])) || (!decide (d.kd=4)&&decide (d.ot≠emp))
def parF(d:De):Int:=
 if d.kd≠2 then 0 else if ratF d.nu d.de≠0 then ratF d.nu d.de else if posB d.nu=false\/zAD d.de<zAD (zBe d.nu) then 1 else 0
def giftF(rs:List Rg)(us:List BA)(d:De):Int:=
 if zBi d.th=false\/zBi d.fr=false\/zBi d.to_=false then 5
 else if d.fr=d.to_ then 12
 else if parF d≠0 then parF d
 else if zCX rs d.ar≠0 then zCX rs d.ar
 else if zAW rs d.ar=[]\/d.us=[] then 9
 else if useF us d.us≠0 then useF us d.us
 else if zCF d.bg=false\/zCF d.en=false then 1
 else if d.en<=d.bg then 8 else 0
def divF(pre:List De)(d:De):Int:=
 if (d.kd=1/\zBi d.th=false)\/(d.kd=5/\zBi d.fr=false) then 5
 else if zCF d.bg=false then 1
 else if shF d.kd d.sh≠0 then shF d.kd d.sh
 else if d.kd=5/\(d.sh.any fun s=>decide (s.pt=d.fr))=true then 12
 else if (pre.any fun p=>decide (p.kd=d.kd)&&decide (p.th=d.th)&&decide (p.fr=d.fr))=true then 7 else 0
def endF(pre:List De)(d:De):Int:=
 if zCF d.bg=false then 1
 else if (pre.any fun p=>decide (p.id=d.ot)&&zAl p.kd)=false then 9
 else if (pre.any fun p=>decide (p.kd=4)&&decide (p.ot=d.ot))=true then 7 else 0
def deLt(a b:De):Bool:=decide (a.day<b.day) || decide (a.day=b.day)&&slt a.id b.id
def ordB(pre:List De)(d:De):Bool:=match pre.getLast? with
 |some p=>deLt p d
 |none=>true
def chkD(rs:List Rg)(us:List BA)(pre:List De)(d:De):Int:=
 if zBi d.id=false then 5
 else if zCF d.day=false then 1
 else if ordB pre d=false then 8
 else if (pre.any fun p=>decide (p.id=d.id))=true then 7
 else if d.kd<1\/5<d.kd then 4
 else if zAw d=true then 3
 else if zAl d.kd=true then giftF rs us d
 else if d.kd=4 then endF pre d else divF pre d
def deFault(rs:List Rg)(us:List BA)(ds:List De)(k:Nat):Option Int:=
 if chkD rs us (ds.take k) (ds.getD k default)≠0 then some (chkD rs us (ds.take k) (ds.getD k default)) else none
def zBB(l:List BA)(i:Nat):Option Int:=
 if zBi (usAt l i)=false then some 5 else if 0<i/\sle (usAt l i) (usAt l (i-1))=true then some 8 else none
def zBQ(rs:List Rg)(us:List BA)(ds:List De):Int:=
 if chkR rs≠0 then chkR rs else if us=[] then 9 else if 20<us.length then 2 else
 match (List.range us.length).findSome? (zBB us)with
 |some f=>f
 |none=>if 200<ds.length then 2 else match (List.range ds.length).findSome? (deFault rs us ds)with
  |some f=>f
  |none=>0
open Go.RowKit Dw
def encU:Nat->List Value:=fun n=>[u32V n]
abbrev OwnU(w:World)(B:Nat)(v:Value)(L:List Nat):Prop:=zAs encU 1 w B 254 v L
theorem ownU_map(L:List Nat):L.flatMap encU=L.map u32V:=flat1 L
theorem OwnU.get{w:World}{B g c n:Nat}{L:List Nat}(h:OwnU w B (.slice (some ⟨g,0,none⟩) n c) L)(hn:n=L.length)(i:Nat)(hi:i<L.length):w.cell? ⟨g,i,none⟩=some (.int .u32 ((L[i]:Nat):Int))/\w.frozen? ⟨g,i,none⟩=false:=by
 subst hn;unfold OwnU zAs at h;rw[ownU_map]at h;have h1:=dK h i za;exact⟨by rw[h1];simp[hi,u32V],dL h i⟩
theorem OwnU.put{w:World}{B g c n:Nat}{L:List Nat}(h:OwnU w B (.slice (some ⟨g,0,none⟩) n c) L)(hn:n=L.length)(i x:Nat): OwnU (w.setCell ⟨g,i,none⟩ (.int .u32 (x:Int))) B (.slice (some ⟨g,0,none⟩) n c) (L.set i x):=by
 subst hn;unfold OwnU zAs at h ⊢;rw[ownU_map]at h ⊢;have h1:=(dM h i (.int .u32 (x:Int))).1;rw[List.map_set,aF];exact h1
theorem words_of{L:List Nat}(h:WLt B32 L)(h2:L=[]\/B32^(L.length-1)<=zAk B32 L):L=zAc B32 (zAk B32 L):=by
 rw[<-wtrim_words zAn h]
 rcases h2 with rfl|h2
 ·rfl
 ·rcases cN L.length with h0|h0
  ·rw[dJ h0];rfl
  ·have e:L.length-1<L.length:=by omega
   have h3:=wtrim_take_ne (L:=L) (k:=L.length-1) e;rw[show L.length-1+1=L.length by omega,aG]at h3;refine(h3 fun h0=>?_).symm;have h4:=zAO (B:=B32) (l:=L) (i:=L.length-1) e;rw[h0,show L.length-1+1=L.length by omega,aG,cP,cZ]at h4;have h5:=zCW (h.take (L.length-1));rw[cC,cK za]at h5;omega
theorem dgB_of{c:UInt8}(h:dgB c=true):48<=c.toNat/\c.toNat<=57:=by
 unfold dgB at h
 simpa using h
theorem decV_snoc(l:List UInt8)(c:UInt8):zBW (l++[c])=10*zBW l+(c.toNat-48):=by
 rw[zCK];have:zBW [c]=c.toNat-48:=by simp[zBW]
 rw[this];simp;omega
theorem decV_dg{l:List UInt8}(h:l.all dgB=true):zBW l<10^l.length:=
 decV_lt fun c hc=>by have:=dgB_of (List.all_eq_true.1 h c hc);omega
theorem last_words{n:Nat}:zAc B32 n=[]\/B32^((zAc B32 n).length-1)<=n:=by
 rcases cN (zAc B32 n).length with h0|h0
 ·exact .inl (dJ h0)
 ·have:=wval_ge (B:=B32) h0 (zCH zAn h0)
  rw[zAz zAn]at this;exact .inr this
theorem scale_step{L L2:List Nat}{i cy sc c0 t:Nat}(hi:i<L.length)(hl:L2.length=L.length)(hd:L2.drop i=L.drop i)(ht:t=cy+sc*L[i])(hV:zAk B32 (L2.take i)+B32^i*cy=zAk B32 (L.take i)*sc+c0): zAk B32 ((L2.set i (t%4294967296)).take (i+1))+B32^(i+1)*(t/4294967296)=zAk B32 (L.take (i+1))*sc+c0/\(L2.set i (t%4294967296)).drop (i+1)=L.drop (i+1):=by
 refine⟨?_,?_⟩
 ·rw[zDy za,zAO hi]
  have e:=scale_col (B:=B32) (i:=i) (o:=zAk B32 (L2.take i)) ht;rw[zBZ]at e ⊢;rw[zBZ]at hV;rw[e,hV,bT,bS,aR L[i] sc];omega
 ·rw[List.drop_set_of_lt (Nat.lt_succ_self i)]
  have h1:=bX (List.drop 1) hd
  rwa [List.drop_drop,List.drop_drop]at h1
theorem scale_words{L2:List Nat}{n cy N:Nat}(hW:WLt B32 L2)(hl:L2.length=(zAc B32 n).length)(hV:zAk B32 L2+B32^(zAc B32 n).length*cy=N)(hn:n<=N)(hcy:cy<B32): (cy=0->L2=zAc B32 N)/\(0<cy->L2++[cy]=zAc B32 N):=by
 refine⟨fun h=>?_,fun h=>?_⟩
 ·rw[h,cP,cZ]at hV
  rw[<-hV];refine words_of hW ?_
  rcases last_words (n:=n)with e|e
  ·rw[e]at hl
   exact .inl (dJ hl)
  ·rw[hl,hV]
   exact .inr (dC e hn)
 ·have e:zAk B32 (L2++[cy])=N:=by rw[zBT,wval_one,hl,hV]
  rw[<-e];refine words_of (hW.append (WLt.cons hcy WLt.nil)) (.inr ?_);rw[zBT,wval_one];have h2:=cB (B32^L2.length) h;rw[cR]at h2;have e3:(L2++[cy]).length-1=L2.length:=zd;rw[e3];exact dC h2 (Nat.le_add_left _ _)
def NtRel(w:World)(s:BA)(m:Nat)(sv av:Value)(wr:World):Prop:=
 ∃(t:BA)(pre:List UInt8)(A:Option Addr)(c:Nat),sv=.string t/\m=t.size/\pre++t.data.toList=s.data.toList/\av=ntV A c (zBW pre)/\OwnU wr w.heap.size (ntV A c (zBW pre)) (zAc B32 (zBW pre))/\Below w.heap.size w wr
def NtRel2(w1:World)(t:BA)(k:Nat)(m:Nat)(cv scv iv:Value)(wr:World):Prop:=
 ∃i:Nat,i+m=k/\iv=.int .i64 i/\cv=.int .u64 ((zBW (t.data.toList.take i):Nat):Int)/\scv=.int .u64 ((10^i:Nat):Int)/\wr=w1
def NtRel3(w:World)(A:Option Addr)(c:Nat)(L:List Nat)(c0 sc:Nat)(m:Nat)(cv iv:Value)(wr:World):Prop:=
 ∃(i cy:Nat)(L2:List Nat),i+m=L.length/\iv=.int .i64 i/\cv=.int .u64 (cy:Int)/\cy<=1000000000/\L2.length=L.length/\WLt B32 L2/\L2.drop i=L.drop i /\
  zAk B32 (L2.take i)+B32^i*cy=zAk B32 (L.take i)*sc+c0/\OwnU wr w.heap.size (.slice A L.length c) L2/\Below w.heap.size w wr
theorem OwnU.nt{w:World}{B c n:Nat}{A:Option Addr}(h:OwnU w B (ntV A c n) (zAc B32 n)):Nt w A c n:=by
 have hcap:(zAc B32 n).length<=c:=by
  rcases h.2 with ⟨h',hn⟩|⟨g',cap',cur,h',_,_,hnc,_⟩
  ·rw[hn];exact bW _
  ·simp only[ntV,Value.slice.injEq]at h'
   omega
 obtain⟨A',c',hv,hr⟩:=zAs.rd1 (f:=u32V) h;simp only[ntV,Value.slice.injEq,true_and]at hv;obtain⟨rfl,rfl⟩:=hv;exact⟨hr,hcap⟩
theorem zCs(s:BA)(k:Nat)(h:k<s.size):s.data.toList[k]'(by simpa using h)=s[k]:=rfl
theorem decV_take{t:BA}{i:Nat}(h:i<t.size):zBW (t.data.toList.take (i+1))=10*zBW (t.data.toList.take i)+(t[i].toNat-48):=by
 rw[bA zr,decV_snoc,zCs t i h]
theorem natText_c(s:BA)(w:World)(hd:s.data.toList.all dgB=true)(hs:s.size<=2000): Calls Tryz.prog 147 #[.string s] w (zCZ (zAD s) w):=by
 go_enter Tryz.func147,Tryz.ntmps147;go_wp2
 go_loopg[0,3] s.size (NtRel w s)
 case atStart=>exact⟨s,[],none,0,rfl,rfl,rfl,rfl,zAs.nil encU 1 w w.heap.size 254,aJ _ _⟩
 case round =>
  obtain⟨t,pre,A,c,rfl,hm,hpre,rfl,hown,hbw⟩:=hrel;have HM:=zq hm;have HPRE:=zq hpre
  have htd:t.data.toList.all dgB=true:=by
   rw[<-hpre,List.all_append,dN]at hd;exact hd.2
  have hpd:pre.all dgB=true:=by
   rw[<-hpre,List.all_append,dN]at hd;exact hd.1
  have hlen:pre.length+t.size<=2000:=by
   have:=bX List.length hpre;rw[dI]at this;have e1:t.data.toList.length=t.size:=zd;have e2:s.data.toList.length=s.size:=zd;omega
  have HTD:=zq htd;have HPD:=zq hpd
  have hwl:(zAc B32 (zBW pre)).length<=2000:=by
   have h1:=decV_dg hpd;have h2:10^pre.length<=B32^pre.length:=Nat.pow_le_pow_left zc _;have:=zCt zAn (aB h1 h2);omega
  clear hm hpre htd hpd
  rcases cN t.size with h0|h0
  ·go_wp2
   go_ret
   have e:zAD s=zBW pre:=by
    unfold zAD;rw[<-HPRE.o,dJ (l:=t.data.toList) (by simpa using h0),bE]
   rw[e];exact⟨A,c,rfl,hown.nt,hbw⟩
  ·obtain⟨k,hk⟩:∃k,k=min 9 t.size:=⟨_,rfl⟩
   have hmin:min (9:Int) (t.size:Int)=(k:Int):=by rw[hk];omega
   have hk1:k<=9:=za;have hk2:k<=t.size:=za;have hk3:1<=k:=za;clear hk;go_wp2;obtain⟨wo,hwo⟩:∃wo:World,wo=wr:=⟨_,rfl⟩;subst hwo;clear hmin
   go_loopg[5,6,16] k (NtRel2 wo t k)
   case atStart=>exact⟨0,za,rfl,rfl,rfl,rfl⟩
   case round =>
    obtain⟨i,him,rfl,rfl,rfl,hw⟩:=hrel;subst hw;have HIM:=zq him;clear him;obtain⟨cc,hcc⟩:∃cc,zBW (t.data.toList.take i)=cc:=⟨_,rfl⟩;obtain⟨sc,hsc⟩:∃sc,10^i=sc:=⟨_,rfl⟩;rw[hcc,hsc]
    have hcsc:cc<sc:=by
     have h1:=decV_dg (l:=t.data.toList.take i) (by
      rw[List.all_eq_true];exact fun x hx=>List.all_eq_true.1 HTD.o x (cQ hx))
     rw[cC]at h1;have e2:t.data.toList.length=t.size:=zd;have e3:min i t.data.toList.length=i:=by have:=HIM.o;omega
     rw[e3,hcc,hsc]at h1;exact h1
    by_cases hlt:i<k
    ·have hsc9:sc<=100000000:=by
      rw[<-hsc];exact dC (aV za (show i<=8 by omega)) zc
     have hit:i<t.size:=za;have hdg:=dgB_of (List.all_eq_true.1 HTD.o t[i] (by rw[<-zCs t i hit];exact bI _));obtain⟨hd1,hd2⟩:=hdg;have HCC:=zq hcc;have HSC:=zq hsc;clear hcc hsc;go_wp2
     go_roundg (gk-1)
     case measure=>have:=HIM.o;omega
     case rel =>
      refine⟨i+1,by have:=HIM.o;omega,zi,?_,?_,rfl⟩
      ·rw[decV_take hit,HCC.o]
       congr 1
       omega
      ·rw[bQ,HSC.o]
       congr 1
       omega
    ·obtain rfl:i=k:=by have:=HIM.o;omega
     have hsc9:sc<=1000000000:=by
      rw[<-hsc];exact dC (aV za hk1) zc
     have hsc1:1<=sc:=by rw[<-hsc];exact Nat.pow_pos za
     have HNV:Hid (zBW (pre++t.data.toList.take i)=zBW pre*sc+cc):=by
      show _=_
      have e2:(t.data.toList.take i).length=i:=by rw[cC];simp;omega
      rw[zCK,e2,hcc,hsc]
     have HNX:Hid ((pre++t.data.toList.take i)++(t.extract i t.size).data.toList=s.data.toList):=by
      show _=_
      rw[List.append_assoc,Lib.extract_data,bC (l:=List.drop i t.data.toList) (by rw[List.length_drop];simp),cM];exact HPRE.o
     have hxs:(t.extract i t.size).size=t.size-i:=zd;have HXS:=zq hxs;have hL:=zAX zAn (zBW pre);have HWV:=zq (zAz zAn (zBW pre))
     have HLW:Hid (∀(L2:List Nat)(cy:Nat),WLt B32 L2->L2.length=(zAc B32 (zBW pre)).length->zAk B32 L2+B32^(zAc B32 (zBW pre)).length*cy=zBW pre*sc+cc->cy<B32->(cy=0->L2=zAc B32 (zBW pre*sc+cc))/\(0<cy->L2++[cy]=zAc B32 (zBW pre*sc+cc))):=
      fun L2 cy h1 h2 h3 h4=>scale_words h1 h2 h3 (dC (Nat.le_mul_of_pos_right _ hsc1) (dG _ _)) h4
     clear hcc hsc hxs;unfold ntV at hown ⊢;obtain⟨L,hLd⟩:∃L,zAc B32 (zBW pre)=L:=⟨_,rfl⟩;rw[hLd]at hown hL HWV HLW hwl;rw[hLd];have HLD:=zq hLd;clear hLd;go_wp2;have HBW:=zq hbw;clear hbw
     go_loopg[5,35] L.length (NtRel3 w A c L cc sc)
     case atStart=>exact⟨0,cc,L,za,rfl,rfl,za,rfl,hL,rfl,qh,hown,HBW.o⟩
     case round =>
      clear hown HBW;obtain⟨j,cy,L2,hjm,rfl,rfl,hcy,hl2,hW2,hdr,hV2,hown,hbw⟩:=hrel;have HJM:=zq hjm;have HL2:=zq hl2;have HDR:=zq hdr;have HV2:=zq hV2;clear hjm hl2 hdr hV2
      by_cases hj:j<L.length
      ·have hj2:j<L2.length:=by have:=HL2.o;omega
       have e2:L2[j]=L[j]:=by
        have h1:=HDR.o;rw[bF hj2,bF hj]at h1
        injection h1
       obtain⟨g,cap',hv,_,hglt⟩:=World.ownsRow.form hown za;simp only[Value.slice.injEq]at hv;obtain⟨rfl,_,_⟩:=hv;obtain⟨hc1,hf1⟩:=OwnU.get hown HL2.o.symm j hj2;rw[e2]at hc1;have hx:L[j]<4294967296:=hL.get j hj;obtain⟨p,hp⟩:∃p,p=sc*L[j]:=⟨_,rfl⟩;have hpB:p<=1000000000*4294967295:=by rw[hp];exact Nat.mul_le_mul hsc9 za
       have hpe:(sc:Int)*(L[j]:Int)=(p:Int):=by rw[hp];exact(aZ _ _).symm
       obtain⟨T,hT⟩:∃T,T=cy+p:=⟨_,rfl⟩;have hTe:(cy:Int)+(p:Int)=(T:Int):=by rw[hT];exact(Int.natCast_add _ _).symm
       have hTB:T<=4294967296000000000:=za;have hst:=scale_step (t:=T) hj HL2.o HDR.o (by rw[hT,hp]) HV2.o;have HST:=zq hst;clear hp hT hst e2 hpB;go_wp2
       go_roundg (gk-1)
       case measure=>have:=HJM.o;omega
       case rel =>
        refine⟨j+1,T/4294967296,L2.set j (T%4294967296),by have:=HJM.o;omega,zi,rfl,za,by rw[aF];exact HL2.o,hW2.set (modB T) j,HST.o.2,HST.o.1,OwnU.put hown HL2.o.symm j _,hbw.setCell (bL hown g (by simp[Value.ownBlock])).1 _⟩
      ·obtain rfl:j=L.length:=by have:=HJM.o;omega
       have hres:=HLW.o L2 cy hW2 HL2.o (by
        have h1:=HV2.o;rw[bC (by have:=HL2.o;omega),bC (aE _),HWV.o]at h1;exact h1) yk
       have HRES:=zq hres;clear hres
       rcases cN cy with h0|h0
       ·subst h0
        have hlw:=HRES.o.1 rfl;have HLW2:=zq hlw;clear hlw;go_wp2
        go_roundg (t.size-i)
        case measure=>have:=HM.o;omega
        case rel =>
         have e:=HLW2.o;have e2:=HL2.o;refine⟨t.extract i t.size,pre++t.data.toList.take i,A,c,rfl,HXS.o.symm,HNX.o,?_,?_,hbw⟩
         ·rw[HNV.o]
          show Value.slice A L.length c=.slice A (zAc B32 (zBW pre*sc+cc)).length c
          rw[<-e,e2]
         ·rw[HNV.o]
          show OwnU wr w.heap.size (.slice A (zAc B32 (zBW pre*sc+cc)).length c) (zAc B32 (zBW pre*sc+cc))
          rw[<-e,e2];exact hown
       ·have hlw:=HRES.o.2 h0
        have HLW2:=zq hlw;have hl2:=HL2.o;clear hlw;rw[<-hl2]at hown hwl ⊢
        go_wp2_with (at_builtin;refine zBC _ _ _ elNat rfl rfl w.heap.size _ L2 rfl (zAs.alloc hown _) wr.heap.size 1 cy rfl (aK _ _) rfl (by simp[encU,u32V,Value.oneCell']) zm za (by simp;exact Nat.le_succ_of_le hbw.size) ?_;intro A7 c7 w7 hown7 hg7 hb7 hat7)
        have hbw7:=(hbw.alloc hbw.size _).trans hb7;go_wp2
        go_roundg (t.size-i)
        case measure=>have:=HM.o;omega
        case rel =>
         have e:=HLW2.o;have e3:(zAc B32 (zBW pre*sc+cc)).length=L2.length+1:=by rw[<-e];simp
         refine⟨t.extract i t.size,pre++t.data.toList.take i,A7,c7,rfl,HXS.o.symm,HNX.o,?_,?_,hbw7⟩
         ·rw[HNV.o]
          show Value.slice A7 (L.length+1) c7=.slice A7 (zAc B32 (zBW pre*sc+cc)).length c7
          rw[e3,HL2.o]
         ·rw[HNV.o]
          show OwnU w7 w.heap.size (.slice A7 (zAc B32 (zBW pre*sc+cc)).length c7) (zAc B32 (zBW pre*sc+cc))
          rw[e3,<-e];exact hown7
theorem data_get(s:BA)(k:Nat)(h:k<s.size):s.data.toList[k]'(by simpa using h)=s[k]:=rfl
theorem headD_get(s:BA)(h:0<s.size):s.data.toList.headD 0=s[0]:=by
 rw[<-data_get s 0 h,List.headD_eq_head?_getD,List.head?_eq_getElem?];simp[h]
theorem isNm_all{s:BA}(h1:1<=s.size)(h2:s.size<=40)(h3:97<=(s[0]'h1).toNat)(h4:(s[0]'h1).toNat<=122):zBi s=s.data.toList.all okB:=by
 unfold zBi;rw[headD_get s h1];simp[h1,h2,h3,h4]
end Go.Proofs.YtbbchlpccgkikaaGreatDoor
