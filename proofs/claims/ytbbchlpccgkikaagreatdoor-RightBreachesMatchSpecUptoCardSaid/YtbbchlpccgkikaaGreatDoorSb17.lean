/- The reference's checkDeed, one of five by kind (printed). -/
import Derived.Test.YtbbchlpccgkikaaGreatDoorSb14
set_option maxRecDepth 100000
set_option maxHeartbeats 8000000
namespace Go.Proofs.YtbbchlpccgkikaaGreatDoor
open Go.RowKit Dw
theorem checkDeed_g(RA:OA)(rc:Nat)(V:List Rg)(UA:OA)(O:Nat)(us:List BA)(DA:OA)(dc:Nat)(U:List De)(k:Nat)(w:World)(g:GoodR V)(hr:Rgs w RA V)(hu:Strs w UA us)(hul:us.length<=1000000)(hd:Des w DA U)(hk:k<U.length)(hdl:U.length<=200)(hK:U[k].kd=2\/U[k].kd=3): Calls Tryz.prog 111 #[.agg (tiC RA rc V UA O us DA dc U),.int .i64 k] w (zAf (.int .i64 (zEe V us (U.take k) U[k])) w):=by
 generalize C:zEe V us (U.take k) U[k]=res;rw[chkD_eq]at C;have HR:=zq C;clear C;have HDS:=zq hd;obtain⟨b,o,rfl,hb0,hc0⟩:=hd za;have HC0:=zq hc0;have hok:=(hc0 k hk).2;have N:=(hc0 k hk).1;obtain⟨d,T⟩:∃d,U[k]=d:=⟨_,rfl⟩;rw[T]at HR hok N hK;have HK:=zq hK;clear hK;have HD:=zq hok;have HDD:=zq T;clear hd hc0 hok T;have HRG:=zq hr;have HU:=zq hu;clear hr hu;obtain⟨z1,z2,z3,z4,z5,z6⟩:=HD.o.strs;have G:Hid (Bx (w.alloc (.cells (tiC RA rc V UA O us (some ⟨b,o,none⟩) dc U) 26)) w.heap.size (tiC RA rc V UA O us (some ⟨b,o,none⟩) dc U) 26):=Bx.new _ _ _
 have c:Hid (GS w RA rc V UA O us (some ⟨b,o,none⟩) dc U d ((w.alloc (.cells (tiC RA rc V UA O us (some ⟨b,o,none⟩) dc U) 26)).alloc (.cells (deC d) 126))):=
  ⟨((aR w.heap.size w).alloc (aK _) _).alloc ze _,(Bx.new _ _ _).alloc _,Bx.new1 _ _ _ _⟩
 obtain⟨W2,hW2⟩:∃W,W=(w.alloc (.cells (tiC RA rc V UA O us (some ⟨b,o,none⟩) dc U) 26)).alloc (.cells (deC d) 126):=⟨_,rfl⟩;rw[<-hW2]at c;have f:(w.alloc (.cells (tiC RA rc V UA O us (some ⟨b,o,none⟩) dc U) 26)).rangeAt b (o+k*16) (deC d).toList:=fun j v hv=>(((aR w.heap.size w).alloc (aK _) _).cell hb0).trans (N j v hv)
 have HRA:=zq f;clear N f;have y2:(w.alloc (.cells (tiC RA rc V UA O us (some ⟨b,o,none⟩) dc U) 26)).cell? ⟨w.heap.size,2,none⟩=some (.slice (some ⟨b,o,none⟩) U.length dc):=G.o.c 2 rfl
 go_enter Tryz.func111,Tryz.ntmps111;(go_upto_region 1 with fail);(iterate 14 go_step);refine fG _ _ zk b (o+k*16) zk (deC d).toList _ HRA.o Tryz.underlying126 rfl zc ?_;(go_upto_region 2 with fail);rw[<-hW2];clear hW2 y2 HRA G;have y0:=c.o.de.c 0 rfl;have y1:=c.o.de.c 1 rfl;have ys:=c.o.de.lt;have hn1:=fun W=>zBr d.id W z1
 have hd1:=fun W=>zCP d.day W
 cases h1:zBw d.id with
 |false =>
  exact tbr
 |true =>
 rw[h1]at hn1;have Q:=zq hn1
 cases h2:zCm d.day with
 |false =>
  exact taz
 |true =>
 rw[h2]at hd1;have m:=zq hd1
 have HR1:Hid ((if ordB (U.take k) d=false then 8 else chk2 V us (U.take k) d)=res):=by
  exact tej
 clear h1 h2 hn1 hd1 HR;(go_wp2_with fail);(with_reducible refine(Q.o _).mono ?_);rintro e w1⟨rfl,rfl⟩;(go_wp2_with fail);(with_reducible refine(m.o _).mono ?_);rintro e w2⟨rfl,rfl⟩;clear Q m;have y2:_=some (Value.slice (some ⟨b,o,none⟩) U.length dc):=c.o.ti.c 2 rfl;have yt:=c.o.ti.lt;go_upto_region 6 with fail
 go_cut[63] (fun v wx=>v=.bool (!ordB (U.take k) d)/\GS w RA rc V UA O us (some ⟨b,o,none⟩) dc U d wx)
 case first =>
  exact tac
 case rest =>
  obtain⟨rfl,hst⟩:=hcut;clear y0 y1 y2 ys yt c;have M:=zq hst;clear hst
  cases hob:ordB (U.take k) d with
  |false =>
   exact tc7
  |true =>
  have HR2:Hid (chk2 V us (U.take k) d=res):=by
   exact te9
  clear hob HR1;go_wp2
  go_loopg[6] k (PreRel w RA rc V UA O us (some ⟨b,o,none⟩) dc U d k (fun p=>decide (p.id=d.id)))
  case atStart=>exact⟨M.o,0,za,rfl,fun q _ hq=>absurd hq za⟩
  case round =>
   clear M;obtain⟨hst,j,hjm,rfl,hpre⟩:=hrel;have M:=zq hst;have HJM:=zq hjm;have HP:=zq hpre;have hjk:j<=k:=za;clear hst hjm hpre
   by_cases Y:j<k
   ·exact tag
   ·have HR3:Hid (chk3 V us (U.take k) d=res):=by
     exact tb9
    clear HR2 HP HJM;have k2:_=some (Value.int .i64 d.kd):=M.o.de.c 2 rfl;have ys:=M.o.de.lt;have hkc:=HK.o;have hk1':1<=d.kd:=za;have hk5':d.kd<=5:=za;have hk0:¬(d.kd<1\/5<d.kd):=za;clear hkc
    have HR4:Hid ((if zAx d=true then 3 else chk4 V us (U.take k) d)=res):=by
     exact te7
    clear hk0 HR3;(go_upto_region 15 with fail);clear k2 ys;(iterate 2 go_step);refine fG _ _ zk (w.heap.size+1) 0 zk (deC d).toList _ (zBt M.o.de) Tryz.underlying126 rfl zc ?_;have hfo:=fun W=>formedR_c d W HD.o.lens
    cases hnb:zAx d with
    |true =>
     exact tbf
    |false =>
    rw[hnb,Bool.not_false]at hfo;have HFO:=zq hfo
    have HR5:Hid (chk4 V us (U.take k) d=res):=by
     exact tfa
    clear hfo hnb HR4;(go_wp2_with fail);(with_reducible refine(HFO.o _).mono ?_);rintro e w5⟨rfl,hb5⟩;have a:=zq (M.o.below hb5);clear hb5 M HFO;have ys:=a.o.de.lt;have hkc:=HK.o
    have HR6:Hid (giftF V us d=res):=by
     show _=_
     have hh:=HR5.o;unfold chk4 at hh
     rwa [aF (by unfold zAg;rcases hkc with h|h<;>simp[h])]at hh
    rcases hkc with hkc|hkc
    all_goals
     have k2:_=some (Value.int .i64 d.kd):=a.o.de.c 2 rfl;rw[hkc]at k2;clear hkc;(go_upto_region 20 with fail);clear k2 ys;(iterate 2 go_step);refine fG _ _ zk w.heap.size 0 zk (tiC RA rc V UA O us (some ⟨b,o,none⟩) dc U).toList _ (zBt a.o.ti) Tryz.underlying26 rfl zc ?_;(iterate 2 go_step);refine fG _ _ zk (w.heap.size+1) 0 zk (deC d).toList _ (zBt a.o.de) Tryz.underlying126 rfl zc ?_;(go_wp2_with fail);(with_reducible refine(checkGiftR_c RA rc V UA O us (some ⟨b,o,none⟩) dc U d _ g (HRG.o.below a.o.bel) (HU.o.below a.o.bel) hul (HD.o.below a.o.bel)).mono ?_);rintro e w6⟨rfl,hb6⟩;go_wp2;go_ret
     exact zAf.mk (zBF HR6.o) (zAa a.o.bel hb6)
end Go.Proofs.YtbbchlpccgkikaaGreatDoor
