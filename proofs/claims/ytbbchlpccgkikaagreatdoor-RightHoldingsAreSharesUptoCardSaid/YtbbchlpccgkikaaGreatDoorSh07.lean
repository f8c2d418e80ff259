/- Package right: values of an assignment (its walk printed by gen_val.py). -/
import Derived.Test.YtbbchlpccgkikaaGreatDoorSh06
set_option maxRecDepth 100000
set_option maxHeartbeats 8000000
namespace Go.Proofs.YtbbchlpccgkikaaGreatDoor
open Go.RowKit Dw
theorem values_2(ci:Nat)(A:Option Addr)(c r1 r2 g1 g2:Nat)(AL:Option Addr)(cL:Nat)(l:List Rg)(uA:Option Addr)(uc:Nat)(us:List BA)(m2 m3 m4 m5:Nat)(p d:De)(f2 f3:BA->Option Value)(w:World)(hk:d.kd=2)(g:GoodR l)(hul:us.length<=1000000)(hc:Bx w ci (ckC A c r1 r2 g1 g2 AL cL l uA uc us m2 m3 m4 m5 p) 170)(hw:WR w A r1 r2 g1 g2 AL l)(hu:Strs w uA us)(hd:DeOk w d)(h2:zAu Value.string w m2 f2)(h3:zAu Value.string w m3 f3): Calls Tryz.prog 153 #[.pointer (some ⟨ci,0,none⟩),deV d,.agg #[.bool true,.bool true,.bool true,.bool true,.bool false,.bool true,.bool true,.bool false,.bool false]] w (zAg (.int .i64 (giftF2 l us d)) w):=by
 generalize hres:giftF2 l us d=res;have HR:=zq hres;clear hres;have HV:=zq (VS.start w ci #[.bool true,.bool true,.bool true,.bool true,.bool false,.bool true,.bool true,.bool false,.bool false] A c r1 r2 g1 g2 AL cL l uA uc us m2 m3 m4 m5 p d f2 f3 hc hw hu hd h2 h3);clear hc hw hu hd h2 h3;obtain⟨W,hW⟩:∃W,W=(w.alloc (.cells (deC d) 126)).alloc (.cells #[.bool true,.bool true,.bool true,.bool true,.bool false,.bool true,.bool true,.bool false,.bool false] 128):=⟨_,rfl⟩;rw[<-hW]at HV
 go_enter Tryz.func153,Tryz.ntmps153;(go_wp2_with fail);rw[<-hW];clear hW;have hsz:=HV.o.fx.lt;have x3:=HV.o.dx.c 3 rfl;have x4:=HV.o.dx.c 4 rfl;have x5:=HV.o.dx.c 5 rfl;have y0:=HV.o.fx.c 0 rfl;have y1:=HV.o.fx.c 1 rfl;have y2:=HV.o.fx.c 2 rfl;have y3:=HV.o.fx.c 3 rfl;have y4:=HV.o.fx.c 4 rfl;have y5:=HV.o.fx.c 5 rfl;have y6:=HV.o.fx.c 6 rfl;have y7:=HV.o.fx.c 7 rfl;have y8:=HV.o.fx.c 8 rfl;have hz:=HV.o.dok.strs.2.1;(go_wp2_with fail);(with_reducible refine(zBE d.th _ hz).mono ?_);rintro e w2⟨rfl,hb2⟩;have HV2:=zq (HV.o.below hb2);clear hsz x3 x4 x5 y0 y1 y2 y3 y4 y5 y6 y7 y8 hz;clear hb2 HV
 cases hnm0:zBi d.th with
 |false =>
  exact tai
 |true =>
  have hsz:=HV2.o.fx.lt;have x3:=HV2.o.dx.c 3 rfl;have x4:=HV2.o.dx.c 4 rfl;have x5:=HV2.o.dx.c 5 rfl;have y0:=HV2.o.fx.c 0 rfl;have y1:=HV2.o.fx.c 1 rfl;have y2:=HV2.o.fx.c 2 rfl;have y3:=HV2.o.fx.c 3 rfl;have y4:=HV2.o.fx.c 4 rfl;have y5:=HV2.o.fx.c 5 rfl;have y6:=HV2.o.fx.c 6 rfl;have y7:=HV2.o.fx.c 7 rfl;have y8:=HV2.o.fx.c 8 rfl;have hz:=HV2.o.dok.strs.2.2.1;(go_wp2_with fail);(with_reducible refine(zBE d.fr _ hz).mono ?_);rintro e w3⟨rfl,hb3⟩;have HV3:=zq (HV2.o.below hb3);clear hsz x3 x4 x5 y0 y1 y2 y3 y4 y5 y6 y7 y8 hz;clear hb3 HV2
  cases hnm1:zBi d.fr with
  |false =>
   exact tah
  |true =>
   have hsz:=HV3.o.fx.lt;have x3:=HV3.o.dx.c 3 rfl;have x4:=HV3.o.dx.c 4 rfl;have x5:=HV3.o.dx.c 5 rfl;have y0:=HV3.o.fx.c 0 rfl;have y1:=HV3.o.fx.c 1 rfl;have y2:=HV3.o.fx.c 2 rfl;have y3:=HV3.o.fx.c 3 rfl;have y4:=HV3.o.fx.c 4 rfl;have y5:=HV3.o.fx.c 5 rfl;have y6:=HV3.o.fx.c 6 rfl;have y7:=HV3.o.fx.c 7 rfl;have y8:=HV3.o.fx.c 8 rfl;have hz:=HV3.o.dok.strs.2.2.2.1;(go_wp2_with fail);(with_reducible refine(zBE d.to_ _ hz).mono ?_);rintro e w4⟨rfl,hb4⟩;have HV4:=zq (HV3.o.below hb4);clear hsz x3 x4 x5 y0 y1 y2 y3 y4 y5 y6 y7 y8 hz;clear hb4 HV3
   cases hnm2:zBi d.to_ with
   |false =>
    exact tag
   |true =>
    have HR1:Hid ((if d.fr=d.to_ then (12:Int) else if parF d≠0 then parF d else if zBo l us d≠0 then zBo l us d else restF d)=res):=by
     exact tbg
    clear hnm0 hnm1 hnm2 HR
    by_cases hft:d.fr=d.to_
    ·exact taj
    have hfb:(d.fr.toList == d.to_.toList)=false:=zBh hft
    have HR2:Hid ((if parF d≠0 then parF d else if zBo l us d≠0 then zBo l us d else restF d)=res):=by
     show _=_
     rw[<-HR1.o,aW hft]
    clear hft HR1
    have hpf:parF d=if ratF d.nu d.de≠0 then ratF d.nu d.de else if posB d.nu=false\/zAD d.de<zAD (zBe d.nu) then 1 else 0:=by
     unfold parF;rw[aW (fun h=>h hk)]
    rw[hpf]at HR2;clear hpf hk;have hz1:=dC (absN_size d.nu) HV4.o.dok.strs.2.2.2.2.1;have hz2:=HV4.o.dok.strs.2.2.2.2.2;have hsz:=HV4.o.fx.lt;have x4:=HV4.o.dx.c 4 rfl;have x5:=HV4.o.dx.c 5 rfl;have x6:=HV4.o.dx.c 6 rfl;have x7:=HV4.o.dx.c 7 rfl;have y0:=HV4.o.fx.c 0 rfl;have y1:=HV4.o.fx.c 1 rfl;have y2:=HV4.o.fx.c 2 rfl;have y3:=HV4.o.fx.c 3 rfl;have y4:=HV4.o.fx.c 4 rfl;have y5:=HV4.o.fx.c 5 rfl;have y6:=HV4.o.fx.c 6 rfl;have y7:=HV4.o.fx.c 7 rfl;have y8:=HV4.o.fx.c 8 rfl;(go_wp2_with fail);(with_reducible refine(CheckRatio_c d.nu d.de _ hz1 hz2).mono ?_);rintro e w5⟨rfl,hb5⟩;have HV5:=zq (HV4.o.below hb5);clear hsz x4 x5 x6 x7 y0 y1 y2 y3 y4 y5 y6 y7 y8 hz1 hz2 hfb;clear hb5 HV4
    by_cases hr:ratF d.nu d.de=0
    case neg =>
     have hrb:(ratF d.nu d.de != 0)=true:=by simpa using hr
     have HS:Hid (res=ratF d.nu d.de):=by
      show _=_
      rw[<-HR2.o];simp[hr]
     clear hr HR2;exact tc8
    obtain⟨q1,q2,q3,q4,q5⟩:=zCv hr;have HLN:Hid ((zAc B32 (zAD (zBe d.nu))).length<=2000):=len_val (zBc q1).1 q4;have HLD:Hid ((zAc B32 (zAD d.de)).length<=2000):=len_val (zBc q2).1 q5;have HL1:Hid ((zAc B32 (zAD (zBe d.nu))).length<=100000000):=dC HLN.o za;have HL2:Hid ((zAc B32 (zAD d.de)).length<=100000000):=dC HLD.o za;have HFR:=zq (From_c d.nu d.de w5 (zBc q1).1 q4 (zBc q2).1 q5);rw[hr];simp only[hr,ne_eq,not_true_eq_false,if_false]at HR2;clear q1 q2 q3 q4 q5 hr HLN HLD;have hsz:=HV5.o.fx.lt;have x6:=HV5.o.dx.c 6 rfl;have x7:=HV5.o.dx.c 7 rfl;have y0:=HV5.o.fx.c 0 rfl;have y1:=HV5.o.fx.c 1 rfl;have y2:=HV5.o.fx.c 2 rfl;have y3:=HV5.o.fx.c 3 rfl;have y4:=HV5.o.fx.c 4 rfl;have y5:=HV5.o.fx.c 5 rfl;have y6:=HV5.o.fx.c 6 rfl;have y7:=HV5.o.fx.c 7 rfl;have y8:=HV5.o.fx.c 8 rfl;(go_wp2_with fail);(with_reducible refine HFR.o.mono ?_);rintro e w6⟨A5,c5,A6,c6,rfl,h5,h6,hb6⟩;have HV6:=zq ((HV5.o.below hb6).alloc (.cells (rdC (sgB d.nu) A5 c5 (zAD (zBe d.nu)) A6 c6 (zAD d.de)) 86));have HXB:Hid (Bx (w6.alloc (.cells (rdC (sgB d.nu) A5 c5 (zAD (zBe d.nu)) A6 c6 (zAD d.de)) 86)) w6.heap.size (rdC (sgB d.nu) A5 c5 (zAD (zBe d.nu)) A6 c6 (zAD d.de)) 86):=Bx.new _ _ _;have H5:=zq (h5.alloc (.cells (rdC (sgB d.nu) A5 c5 (zAD (zBe d.nu)) A6 c6 (zAD d.de)) 86));have H6:=zq (h6.alloc (.cells (rdC (sgB d.nu) A5 c5 (zAD (zBe d.nu)) A6 c6 (zAD d.de)) 86));clear hsz x6 x7 y0 y1 y2 y3 y4 y5 y6 y7 y8;clear hb6 h5 h6 HV5 HFR;have hsg:=posB_sgn d.nu
    cases hp:posB d.nu with
    |false =>
     rw[hp]at hsg
     have HS:Hid (res=1):=by
      show _=_
      rw[<-HR2.o];simp[hp]
     clear hp HR2;(go_wp2_with fail);obtain⟨a0,a1,a2⟩:=HXB.o.t;refine eJ (S:=(fun w'=>w'.cell? ⟨w6.heap.size,0,none⟩=some (.bool (sgB d.nu))/\w'.cell? ⟨w6.heap.size,1,none⟩=some (.slice A5 (zAc B32 (zAD (zBe d.nu))).length c5)/\w'.cell? ⟨w6.heap.size,2,none⟩=some (.slice A6 (zAc B32 (zAD d.de)).length c6))) zb ?_ (fun hHeld=>?_)
     ·(refine⟨?_,?_,?_⟩<;>first|with_reducible assumption|go_simp)
     refine eK (i:=0) (v:=?_) rfl zb zb zb (fun _ _ _ h=>h) (Or.inl ⟨zk,?_⟩) zg ?_
     rotate_left 1
     ·(intro w hSw;(try dsimp only at hSw);go_simp;try with_reducible rfl)
     simp only[Act.put,cV];refine Dw.rd1 1 rfl (fun K hK=>?_);go_simp
     go_at_call 141
     (with_reducible refine(RSign_c (sgB d.nu) A5 A6 c5 c6 (zAD (zBe d.nu)) (zAD d.de) _).mono ?_);rintro e w7⟨rfl,hb7⟩;have HV7:=zq (HV6.o.drew.below hb7);have HXB7:=zq (HXB.o.drew.below hb7);have H57:=zq ((Nt.drew H5.o).below hb7);have H67:=zq ((Nt.drew H6.o).below hb7);obtain⟨z0,z1,z2⟩:=HXB7.o.t;refine hK.out _ _ ?_ (fun hHeld=>?_)
     ·(refine⟨?_,?_,?_⟩<;>first|with_reducible assumption|go_simp)
     clear hK K
     try simp only[Act.put,cV,eL,cS]
     refine eK (i:=2) (v:=?_) rfl zb zb zb (fun _ _ _ h=>h) (Or.inl ⟨zk,?_⟩) zg ?_
     rotate_left 1
     ·(intro w hSw;(try dsimp only at hSw);go_simp;try with_reducible rfl)
     simp only[Act.put,cV];refine eK (i:=3) (v:=?_) rfl zb zb zb (fun _ _ _ h=>h) (Or.inl ⟨zk,?_⟩) zg ?_
     rotate_left 1
     ·(intro w hSw;(try dsimp only at hSw);go_simp;try with_reducible rfl)
     simp only[Act.put];refine eK (i:=4) (v:=undef) rfl zb zb zb (fun _ _ _ h=>h) (Or.inr ⟨zk,rfl⟩) zg ?_;simp only[Act.put];refine eK (i:=5) (v:=undef) rfl zb zb zb (fun _ _ _ h=>h) (Or.inr ⟨zk,rfl⟩) zg ?_;simp only[Act.put];refine eK (i:=6) (v:=undef) rfl zb zb zb (fun _ _ _ h=>h) (Or.inr ⟨zk,rfl⟩) zg ?_;simp only[Act.put];refine eK (i:=7) (v:=undef) rfl zb zb zb (fun _ _ _ h=>h) (Or.inr ⟨zk,rfl⟩) zg ?_;simp only[Act.put];refine eK (i:=8) (v:=?_) rfl zb zb zb (fun _ _ _ h=>h) (Or.inl ⟨zk,?_⟩) zg ?_
     rotate_left 1
     ·(intro w hSw;(try dsimp only at hSw);go_simp;try with_reducible rfl)
     simp only[Act.put];refine wpAnyH_done zb ?_ _;go_wp2;go_ret
     exact zAg.mk (zCp HS.o.symm) HV7.o.bel
    |true =>
     have hsb:=posB_sg hp;rw[hp]at hsg;rw[hsb]at hsg HXB HV6 H5 H6;rw[hsb];clear hsb;simp only[hp,Bool.true_eq_false,false_or]at HR2;clear hp;(go_wp2_with fail);obtain⟨a0,a1,a2⟩:=HXB.o.t;refine eJ (S:=(fun w'=>w'.cell? ⟨w6.heap.size,0,none⟩=some (.bool (false))/\w'.cell? ⟨w6.heap.size,1,none⟩=some (.slice A5 (zAc B32 (zAD (zBe d.nu))).length c5)/\w'.cell? ⟨w6.heap.size,2,none⟩=some (.slice A6 (zAc B32 (zAD d.de)).length c6))) zb ?_ (fun hHeld=>?_)
     ·(refine⟨?_,?_,?_⟩<;>first|with_reducible assumption|go_simp)
     refine eK (i:=0) (v:=?_) rfl zb zb zb (fun _ _ _ h=>h) (Or.inl ⟨zk,?_⟩) zg ?_
     rotate_left 1
     ·(intro w hSw;(try dsimp only at hSw);go_simp;try with_reducible rfl)
     simp only[Act.put,cV];refine Dw.rd1 1 rfl (fun K hK=>?_);go_simp
     go_at_call 141
     (with_reducible refine(RSign_c (false) A5 A6 c5 c6 (zAD (zBe d.nu)) (zAD d.de) _).mono ?_);rintro e w7⟨rfl,hb7⟩;have HV7:=zq (HV6.o.drew.below hb7);have HXB7:=zq (HXB.o.drew.below hb7);have H57:=zq ((Nt.drew H5.o).below hb7);have H67:=zq ((Nt.drew H6.o).below hb7);obtain⟨z0,z1,z2⟩:=HXB7.o.t;refine hK.out _ _ ?_ (fun hHeld=>?_)
     ·(refine⟨?_,?_,?_⟩<;>first|with_reducible assumption|go_simp)
     clear hK K
     try simp only[Act.put,cV,eL,cS]
     refine eK (i:=2) (v:=?_) rfl zb zb zb (fun _ _ _ h=>h) (Or.inl ⟨zk,?_⟩) zg ?_
     rotate_left 1
     ·(intro w hSw;(try dsimp only at hSw);go_simp;try with_reducible rfl)
     simp only[Act.put,cV];refine eK (i:=3) (v:=?_) rfl zb zb zb (fun _ _ _ h=>h) (Or.inl ⟨zk,?_⟩) zg ?_
     rotate_left 1
     ·(intro w hSw;(try dsimp only at hSw);go_simp;try with_reducible rfl)
     simp only[Act.put];refine eK (i:=4) (v:=?_) rfl zb zb zb (fun _ _ _ h=>h) (Or.inl ⟨zk,?_⟩) zg ?_
     rotate_left 1
     ·(intro w hSw;(try dsimp only at hSw);go_simp;try with_reducible rfl)
     simp only[Act.put];refine Dw.rd1 5 rfl (fun K hK=>?_);go_simp
     go_at_call 49
     (with_reducible refine(whole1_c _).mono ?_);rintro e w8⟨A7,c7,A8,c8,rfl,h7,h8,hb8⟩;have HV8:=zq (HV7.o.below hb8);have HXB8:=zq (HXB7.o.below hb8);have H58:=zq (H57.o.below hb8);have H68:=zq (H67.o.below hb8);obtain⟨b0,b1,b2⟩:=HXB8.o.t;clear hb8;refine hK.out _ _ ?_ (fun hHeld=>?_)
     ·(refine⟨?_,?_,?_⟩<;>first|with_reducible assumption|go_simp)
     clear hK K
     try simp only[Act.put,cV,eL,cS]
     refine Dw.rd1 6 rfl (fun K hK=>?_);go_simp
     go_at_call 48
     (with_reducible refine(RCmp_c A5 A6 A7 A8 c5 c6 c7 c8 _ _ 1 1 w8 H58.o H68.o h7 h8 HL1.o HL2.o zc zc).mono ?_);rintro e w9⟨rfl,hb9⟩;have HV9:=zq (HV8.o.below hb9);have HXB9:=zq (HXB8.o.below hb9);obtain⟨d0,d1,d2⟩:=HXB9.o.t;clear hb9;refine hK.out _ _ ?_ (fun hHeld=>?_)
     ·(refine⟨?_,?_,?_⟩<;>first|with_reducible assumption|go_simp)
     clear hK K
     try simp only[Act.put,cV,eL,cS]
     refine eK (i:=7) (v:=?_) rfl zb zb zb (fun _ _ _ h=>h) (Or.inl ⟨zk,?_⟩) zg ?_
     rotate_left 1
     ·(intro w hSw;(try dsimp only at hSw);go_simp;try with_reducible rfl)
     simp only[Act.put,cV];refine eK (i:=8) (v:=?_) rfl zb zb zb (fun _ _ _ h=>h) (Or.inl ⟨zk,?_⟩) zg ?_
     rotate_left 1
     ·(intro w hSw;(try dsimp only at hSw);go_simp;try with_reducible rfl)
     simp only[Act.put];refine wpAnyH_done zb ?_ _;clear a0 a1 a2 b0 b1 b2 d0 d1 d2 z0 z1 z2 HV6 HV7 HV8 h7 h8 HL1 HL2 HXB HXB7 HXB8 HXB9 H5 H6 H57 H67 H58 H68 hsg hb7
     try simp only[cR,Nat.one_mul]
     by_cases hgt:zAD d.de<zAD (zBe d.nu)
     ·rw[zCS hgt]
      have HS:Hid (res=1):=by
       show _=_
       rw[<-HR2.o];simp[hgt]
      clear hgt HR2;go_wp2;go_ret
      exact zAg.mk (zCp HS.o.symm) HV9.o.bel
     have HR3:Hid ((if zBo l us d≠0 then zBo l us d else restF d)=res):=by
      show _=_
      rw[<-HR2.o];simp[hgt]
     have hcz:cmpN (zAD (zBe d.nu)) (zAD d.de)<=0:=by
      rcases aQ (zAD (zBe d.nu)) (zAD d.de)with h|h
      ·rw[zCI h];decide
      ·rw[zDq (show zAD (zBe d.nu)=zAD d.de by omega)];decide
     generalize cmpN (zAD (zBe d.nu)) (zAD d.de)=cz at *;clear hgt HR2;have HPL:=zq (place_c ci A c r1 r2 g1 g2 AL cL l uA uc us m2 m3 m4 m5 p d w9 HV9.o.ck g HV9.o.wrl HV9.o.st hul HV9.o.dok);have hsz:=HV9.o.fx.lt;have x0:=HV9.o.dx.c 0 rfl;have x1:=HV9.o.dx.c 1 rfl;have x2:=HV9.o.dx.c 2 rfl;have x3:=HV9.o.dx.c 3 rfl;have x4:=HV9.o.dx.c 4 rfl;have x5:=HV9.o.dx.c 5 rfl;have x6:=HV9.o.dx.c 6 rfl;have x7:=HV9.o.dx.c 7 rfl;have x8:=HV9.o.dx.c 8 rfl;have x9:=HV9.o.dx.c 9 rfl;have x10:=HV9.o.dx.c 10 rfl;have x11:=HV9.o.dx.c 11 rfl;have x12:=HV9.o.dx.c 12 rfl;have x13:=HV9.o.dx.c 13 rfl;have x14:=HV9.o.dx.c 14 rfl;have x15:=HV9.o.dx.c 15 rfl;have y0:=HV9.o.fx.c 0 rfl;have y1:=HV9.o.fx.c 1 rfl;have y2:=HV9.o.fx.c 2 rfl;have y3:=HV9.o.fx.c 3 rfl;have y4:=HV9.o.fx.c 4 rfl;have y5:=HV9.o.fx.c 5 rfl;have y6:=HV9.o.fx.c 6 rfl;have y7:=HV9.o.fx.c 7 rfl;have y8:=HV9.o.fx.c 8 rfl;(go_wp2_with fail);(with_reducible refine HPL.o.mono ?_);rintro e w9p⟨rfl,hbp⟩;have HV10:=zq (HV9.o.below hbp);clear hsz x0 x1 x2 x3 x4 x5 x6 x7 x8 x9 x10 x11 x12 x13 x14 x15 y0 y1 y2 y3 y4 y5 y6 y7 y8;clear hbp HV9 HPL
     by_cases hpz:zBo l us d=0
     case neg =>
      have hpb:(zBo l us d != 0)=true:=by simpa using hpz
      have HS:Hid (res=zBo l us d):=by
       show _=_
       rw[<-HR3.o,aD hpz]
      clear HR3 hpz;exact tc7
     have HRP:Hid (restF d=res):=by
      show _=_
      rw[<-HR3.o,aW (fun h=>h hpz)]
     rw[hpz];clear hpz HR3;have HDY:=zq (fun n W'=>isDay_c n W');have hsz:=HV10.o.fx.lt;have x11:=HV10.o.dx.c 11 rfl;have x12:=HV10.o.dx.c 12 rfl;have x13:=HV10.o.dx.c 13 rfl;have y0:=HV10.o.fx.c 0 rfl;have y1:=HV10.o.fx.c 1 rfl;have y2:=HV10.o.fx.c 2 rfl;have y3:=HV10.o.fx.c 3 rfl;have y4:=HV10.o.fx.c 4 rfl;have y5:=HV10.o.fx.c 5 rfl;have y6:=HV10.o.fx.c 6 rfl;have y7:=HV10.o.fx.c 7 rfl;have y8:=HV10.o.fx.c 8 rfl;(go_wp2_with fail);(with_reducible refine(HDY.o _ _).mono ?_);rintro e w9qa⟨rfl,rfl⟩
     cases hb1:zCF d.bg with
     |false =>
      have HS:Hid (res=1):=by
       show _=_
       rw[<-HRP.o];unfold restF;rw[aD (.inl hb1)]
      clear hb1 HRP HDY;exact tc7
     |true =>
      (go_wp2_with fail);(with_reducible refine(HDY.o _ _).mono ?_);rintro e w9qb⟨rfl,rfl⟩
      cases hb2:zCF d.en with
      |false =>
       have HS:Hid (res=1):=by
        show _=_
        rw[<-HRP.o];unfold restF;rw[aD (.inr hb2)]
       clear hb1 hb2 HRP HDY;exact tc7
      |true =>
       have HRZ:Hid ((if d.en<=d.bg then (8:Int) else 0)=res):=by
        exact tbu
       clear hb1 hb2 HDY HRP
       by_cases hle:d.en<=d.bg
       ·have hleb:decide (d.en<=d.bg)=true:=aT hle
        have HS:Hid (res=8):=by
         show _=_
         rw[<-HRZ.o,aD hle]
        clear HRZ;exact tc7
       ·have hleb:decide (d.en<=d.bg)=false:=aU hle
        have HS:Hid (res=0):=by
         show _=_
         rw[<-HRZ.o,aW hle]
        clear HRZ;exact tc7
end Go.Proofs.YtbbchlpccgkikaaGreatDoor
