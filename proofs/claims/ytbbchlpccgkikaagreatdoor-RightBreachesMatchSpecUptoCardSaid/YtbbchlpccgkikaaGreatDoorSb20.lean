/- The reference's checkDeed, one of five by kind (printed). -/
import Derived.Test.YtbbchlpccgkikaaGreatDoorSb14
set_option maxRecDepth 100000
set_option maxHeartbeats 8000000
namespace Go.Proofs.YtbbchlpccgkikaaGreatDoor
open Go.RowKit Dw
theorem checkDeed_z(RA:OA)(rc:Nat)(V:List Rg)(UA:OA)(O:Nat)(us:List BA)(DA:OA)(dc:Nat)(U:List De)(k:Nat)(w:World)(_g:GoodR V)(hr:Rgs w RA V)(hu:Strs w UA us)(_hul:us.length<=1000000)(hd:Des w DA U)(hk:k<U.length)(hdl:U.length<=200)(hK:U[k].kd=5): Calls Tryz.prog 111 #[.agg (tiC RA rc V UA O us DA dc U),.int .i64 k] w (zAf (.int .i64 (zEe V us (U.take k) U[k])) w):=by
 generalize C:zEe V us (U.take k) U[k]=res;rw[chkD_eq]at C;have HR:=zq C;clear C;have HDS:=zq hd;obtain⟨b,o,rfl,hb0,hc0⟩:=hd za;have HC0:=zq hc0;have hok:=(hc0 k hk).2;have N:=(hc0 k hk).1;obtain⟨d,T⟩:∃d,U[k]=d:=⟨_,rfl⟩;rw[T]at HR hok N hK;have HK:=zq hK;clear hK;have HD:=zq hok;have HDD:=zq T;clear hd hc0 hok T;have HRG:=zq hr;have HU:=zq hu;clear hr hu;obtain⟨z1,z2,z3,z4,z5,z6⟩:=HD.o.strs;have G:Hid (Bx (w.alloc (.cells (tiC RA rc V UA O us (some ⟨b,o,none⟩) dc U) 26)) w.heap.size (tiC RA rc V UA O us (some ⟨b,o,none⟩) dc U) 26):=Bx.new _ _ _
 have c:Hid (GS w RA rc V UA O us (some ⟨b,o,none⟩) dc U d ((w.alloc (.cells (tiC RA rc V UA O us (some ⟨b,o,none⟩) dc U) 26)).alloc (.cells (deC d) 126))):=
  ⟨((aR w.heap.size w).alloc (aK _) _).alloc ze _,(Bx.new _ _ _).alloc _,Bx.new1 _ _ _ _⟩
 obtain⟨W2,hW2⟩:∃W,W=(w.alloc (.cells (tiC RA rc V UA O us (some ⟨b,o,none⟩) dc U) 26)).alloc (.cells (deC d) 126):=⟨_,rfl⟩;rw[<-hW2]at c;have f:(w.alloc (.cells (tiC RA rc V UA O us (some ⟨b,o,none⟩) dc U) 26)).rangeAt b (o+k*16) (deC d).toList:=fun j v hv=>(((aR w.heap.size w).alloc (aK _) _).cell hb0).trans (N j v hv)
 have HRA:=zq f;clear N f;have y2:(w.alloc (.cells (tiC RA rc V UA O us (some ⟨b,o,none⟩) dc U) 26)).cell? ⟨w.heap.size,2,none⟩=some (.slice (some ⟨b,o,none⟩) U.length dc):=G.o.c 2 rfl
 go_enter Tryz.func111,Tryz.ntmps111;(go_upto_region 1 with fail);(iterate 14 go_step);refine fG _ _ zk b (o+k*16) zk (deC d).toList _ HRA.o Tryz.underlying126 rfl zc ?_;(go_upto_region 2 with fail);rw[<-hW2];clear hW2 y2 HRA G;have y0:=c.o.de.c 0 rfl;have y1:=c.o.de.c 1 rfl;have ys:=c.o.de.lt;have hn1:=fun W=>zBr d.id W z1
 have hd1:=fun W=>zCP d.day W
 cases h1:zBw d.id with
 |false =>
  exact tbr
 |true =>
 rw[h1]at hn1;have Q:=zq hn1
 cases h2:zCm d.day with
 |false =>
  exact taz
 |true =>
 rw[h2]at hd1;have m:=zq hd1
 have HR1:Hid ((if ordB (U.take k) d=false then 8 else chk2 V us (U.take k) d)=res):=by
  exact tej
 clear h1 h2 hn1 hd1 HR;(go_wp2_with fail);(with_reducible refine(Q.o _).mono ?_);rintro e w1⟨rfl,rfl⟩;(go_wp2_with fail);(with_reducible refine(m.o _).mono ?_);rintro e w2⟨rfl,rfl⟩;clear Q m;have y2:_=some (Value.slice (some ⟨b,o,none⟩) U.length dc):=c.o.ti.c 2 rfl;have yt:=c.o.ti.lt;go_upto_region 6 with fail
 go_cut[63] (fun v wx=>v=.bool (!ordB (U.take k) d)/\GS w RA rc V UA O us (some ⟨b,o,none⟩) dc U d wx)
 case first =>
  exact tac
 case rest =>
  obtain⟨rfl,hst⟩:=hcut;clear y0 y1 y2 ys yt c;have M:=zq hst;clear hst
  cases hob:ordB (U.take k) d with
  |false =>
   exact tc7
  |true =>
  have HR2:Hid (chk2 V us (U.take k) d=res):=by
   exact te9
  clear hob HR1;go_wp2
  go_loopg[6] k (PreRel w RA rc V UA O us (some ⟨b,o,none⟩) dc U d k (fun p=>decide (p.id=d.id)))
  case atStart=>exact⟨M.o,0,za,rfl,fun q _ hq=>absurd hq za⟩
  case round =>
   clear M;obtain⟨hst,j,hjm,rfl,hpre⟩:=hrel;have M:=zq hst;have HJM:=zq hjm;have HP:=zq hpre;have hjk:j<=k:=za;clear hst hjm hpre
   by_cases Y:j<k
   ·exact tag
   ·have HR3:Hid (chk3 V us (U.take k) d=res):=by
     exact tb9
    clear HR2 HP HJM;have k2:_=some (Value.int .i64 d.kd):=M.o.de.c 2 rfl;have ys:=M.o.de.lt;have hkc:=HK.o;have hk1':1<=d.kd:=za;have hk5':d.kd<=5:=za;have hk0:¬(d.kd<1\/5<d.kd):=za;clear hkc
    have HR4:Hid ((if zAx d=true then 3 else chk4 V us (U.take k) d)=res):=by
     exact te7
    clear hk0 HR3;(go_upto_region 15 with fail);clear k2 ys;(iterate 2 go_step);refine fG _ _ zk (w.heap.size+1) 0 zk (deC d).toList _ (zBt M.o.de) Tryz.underlying126 rfl zc ?_;have hfo:=fun W=>formedR_c d W HD.o.lens
    cases hnb:zAx d with
    |true =>
     exact tbf
    |false =>
    rw[hnb,Bool.not_false]at hfo;have HFO:=zq hfo
    have HR5:Hid (chk4 V us (U.take k) d=res):=by
     exact tfa
    clear hfo hnb HR4;(go_wp2_with fail);(with_reducible refine(HFO.o _).mono ?_);rintro e w5⟨rfl,hb5⟩;have a:=zq (M.o.below hb5);clear hb5 M HFO;have ys:=a.o.de.lt;have hkc:=HK.o
    have HR6:Hid (divF (U.take k) d=res):=by
     exact tdk
    have HKC:=zq hkc;rw[divF_eq]at HR6;have k2:_=some (Value.int .i64 d.kd):=a.o.de.c 2 rfl;rw[hkc]at k2;have y11:_=some (Value.int .i64 d.bg):=a.o.de.c 12 rfl;have yn:_=some (Value.string d.fr):=a.o.de.c 4 rfl;have hn1:=fun W=>zBr d.fr W z3
    have hd1:=fun W=>zCP d.bg W
    cases h1:zBw d.fr with
    |false =>
     rw[h1]at hn1;have Q:=zq hn1;have HS:Hid (res=5):=by show _=_;rw[<-HR6.o,aF (.inr ⟨hkc,h1⟩)]
     exact tcd
    |true =>
    rw[h1]at hn1;have Q:=zq hn1
    have HR7:Hid ((if zCm d.bg=false then 1 else if shF d.kd d.sh≠0 then shF d.kd d.sh else div2 (U.take k) d)=res):=by
     show _=_
     have hh:=HR6.o
     rwa [aO (fun h=>h.elim (fun q=>by have:=q.1;omega) (fun q=>by rw[h1]at q;cases q.2))]at hh
    clear h1 hn1 hkc HR6
    cases hb1:zCm d.bg with
    |false =>
     exact ta4
    |true =>
    rw[hb1]at hd1;have m:=zq hd1
    have HR8:Hid ((if shF d.kd d.sh≠0 then shF d.kd d.sh else div2 (U.take k) d)=res):=by
     show _=_
     have hh:=HR7.o
     rwa [aO (by rw[hb1];simp)]at hh
    clear hd1 hb1 HR7;(go_wp2_with fail);(with_reducible refine(Q.o _).mono ?_);rintro e w40⟨rfl,rfl⟩;(go_wp2_with fail);(with_reducible refine(m.o _).mono ?_);rintro e w41⟨rfl,rfl⟩;(go_upto_region 27 with fail);clear k2 y11 yn ys Q m HR5;(iterate 2 go_step);refine fG _ _ zk (w.heap.size+1) 0 zk (deC d).toList _ (zBt a.o.de) Tryz.underlying126 rfl zc ?_;(go_wp2_with fail);(with_reducible refine(checkSharesR_c d _ (HD.o.below a.o.bel)).mono ?_);rintro e w42⟨rfl,hb42⟩;have HST6:=zq (a.o.below hb42);clear hb42 a
    by_cases hsf:shF d.kd d.sh=0
    case' neg =>
     have HS:Hid (res=shF d.kd d.sh):=by show _=_;rw[<-HR8.o,aF hsf]
     have hrb2:(shF d.kd d.sh != 0)=true:=by simpa using hsf
     clear hsf;go_wp2;go_ret
     exact zAf.mk (zBF HS.o.symm) HST6.o.bel
    have HR9:Hid (div2 (U.take k) d=res):=by
     show _=_
     have hh:=HR8.o
     rwa [aO (fun h=>h hsf)]at hh
    rw[hsf];clear hsf HR8;have hl3:=HD.o.lens.2.2;go_wp2
    go_loopg[8] d.sh.length (SheRel w RA rc V UA O us (some ⟨b,o,none⟩) dc U d)
    case atStart=>exact⟨HST6.o,0,za,rfl,fun q _ hq=>absurd hq za⟩
    case round =>
     clear HST6;obtain⟨hst,j,hjm,rfl,hpre⟩:=hrel;have M:=zq hst;have HJM:=zq hjm;have HP:=zq hpre;have hjk:j<=d.sh.length:=za;clear hst hjm hpre;have k2:_=some (Value.int .i64 d.kd):=M.o.de.c 2 rfl;rw[HKC.o]at k2;have ys:=M.o.de.lt
     by_cases Y:j<d.sh.length
     ·obtain⟨b2,o2,hA2,D,hc2⟩:=HD.o.shs.at_ za
      have y14:wr.cell? ⟨w.heap.size+1,14,none⟩=some (.slice (some ⟨b2,o2,none⟩) d.sh.length d.shc):=by rw[<-hA2];exact M.o.de.c 14 rfl
      have c0:wr.cell? ⟨b2,o2+j*3,none⟩=some (.string d.sh[j].pt):=(M.o.bel.cell D).trans (hc2 j Y).1;have y4:_=some (Value.string d.fr):=M.o.de.c 4 rfl;clear hc2 hA2
      by_cases he:d.sh[j].pt=d.fr
      ·have HS:Hid (res=12):=by
        show _=_
        have e:(d.sh.any fun s=>decide (s.pt=d.fr))=true:=List.any_eq_true.2 ⟨d.sh[j],aH Y,aD he⟩;rw[<-HR9.o];unfold div2;rw[aF ⟨HKC.o,e⟩]
       have q1:=zAn he;clear he;exact td4
      ·have HE:=zq he
       have q1:=zAp he;clear he;go_wp2;go_quiet(fail);go_wp2
       go_roundg (gk-1)
       case measure=>have:=HJM.o;omega
       case rel =>
        refine⟨M.o.drewN _,j+1,yw,zi,fun q h q2 h5=>?_⟩
        rcases aI q j with h9|h9
        ·exact HP.o q h h9 h5
        ·obtain rfl:q=j:=by omega
         exact aE HE.o
     ·have HR10:Hid ((if ((U.take k).any fun p=>decide (p.kd=d.kd)&&decide (p.th=d.th)&&decide (p.fr=d.fr))=true then 7 else 0)=res):=by
       exact tbj
      have HSTL:=M;have y14:=M.o.de.c 14 rfl;clear HR9 HJM HP M;go_wp2;clear k2 ys y14
      go_loopg[9] k (PreRel w RA rc V UA O us (some ⟨b,o,none⟩) dc U d k (fun p=>decide (p.kd=d.kd)&&decide (p.th=d.th)&&decide (p.fr=d.fr)))
      case atStart=>exact⟨HSTL.o,0,za,rfl,fun q _ hq=>absurd hq za⟩
      case round =>
       clear HSTL;obtain⟨hst,j,hjm,rfl,hpre⟩:=hrel;have M:=zq hst;have HJM:=zq hjm;have HP:=zq hpre;have hjk:j<=k:=za;clear hst hjm hpre
       by_cases Y:j<k
       ·obtain⟨pj,hpj⟩:∃pj,U[j]'(by omega)=pj:=⟨_,rfl⟩
        have hp:=(HC0.o j za).1;rw[hpj]at hp;have p2:_=some (Value.int .i64 pj.kd):=(M.o.bel.cell (p:=⟨b,o+j*16+2,none⟩) hb0).trans (hp 2 _ rfl);have p3:_=some (Value.string pj.th):=(M.o.bel.cell (p:=⟨b,o+j*16+3,none⟩) hb0).trans (hp 3 _ rfl);have p4:_=some (Value.string pj.fr):=(M.o.bel.cell (p:=⟨b,o+j*16+4,none⟩) hb0).trans (hp 4 _ rfl);have k2:_=some (Value.int .i64 d.kd):=M.o.de.c 2 rfl;rw[HKC.o]at k2;have y3:_=some (Value.string d.th):=M.o.de.c 3 rfl;have y4:_=some (Value.string d.fr):=M.o.de.c 4 rfl;have y2:_=some (Value.slice (some ⟨b,o,none⟩) U.length dc):=M.o.ti.c 2 rfl;have ys:=M.o.de.lt;have yt:=M.o.ti.lt;have HPJ:=zq hpj;have hjl:j<U.length:=za;clear hp hpj
        by_cases hq:pj.kd=d.kd
        ·have e1:(pj.kd == 5)=true:=by rw[hq,HKC.o];rfl
         exact tad
        ·have e1:(pj.kd == 5)=false:=by
          have h9:pj.kd≠5:=fun h=>hq (h.trans HKC.o.symm)
          simpa using h9
         exact tav
       ·exact tbg
end Go.Proofs.YtbbchlpccgkikaaGreatDoor
