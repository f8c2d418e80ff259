/- Parts of the proof, joined: The reference's checkGift. The reference's checkDeed. The reference's . -/
import Derived.Test.YtbbchlpccgkikaaGreatDoorSb13
import Derived.Lib.ItoaNum
import Derived.Shelf.Strings.Builder1
import Derived.Shelf.Strings.OnBuilder
import Derived.Shelf.Strings.BuilderF
import Derived.Shelf.Strings.BuilderK
import Derived.Shelf.LaysM
import Derived.Shelf.Strconv.Itoa3
import Derived.Lib.Join
import Derived.Laws.IdiomStrings
import Derived.Lib.QuietBelow
import Derived.BigRegion
import Derived.Maps.RangeRun
set_option maxRecDepth 100000
set_option maxHeartbeats 8000000
namespace Go.Proofs.YtbbchlpccgkikaaGreatDoor
open Go.RowKit Dw
structure GS (w:World) (RA:OA) (rc:Nat) (V:List Rg) (UA:OA) (O:Nat) (us:List BA) (DA:OA) (dc:Nat) (U:List De) (d:De) (W:World):Prop where
 bel:Below w.heap.size w W
 ti:Bx W w.heap.size (tiC RA rc V UA O us DA dc U) 26
 de:Bx W (w.heap.size+1) (deC d) 126
section
variable {w W W':World} {RA:OA} {rc:Nat} {V:List Rg} {UA:OA} {O:Nat} {us:List BA} {DA:OA} {dc:Nat} {U:List De} {d:De}
theorem GS.below(h:GS w RA rc V UA O us DA dc U d W)(I:Below W.heap.size W W'):GS w RA rc V UA O us DA dc U d W':=⟨zAa h.bel I,h.ti.below I,h.de.below I⟩
theorem GS.drewN(h:GS w RA rc V UA O us DA dc U d W)(n:Nat):GS w RA rc V UA O us DA dc U d (W.drewN n):=h.below (zAb (aR _ _) n)
theorem GS.drew(h:GS w RA rc V UA O us DA dc U d W):GS w RA rc V UA O us DA dc U d W.drew:=h.drewN 1
theorem GS.alloc(h:GS w RA rc V UA O us DA dc U d W)(o:Obj):GS w RA rc V UA O us DA dc U d (W.alloc o):=h.below ((aR _ _).alloc (aK _) o)
end
theorem chkA_lenC{l:List Rg}{a:List Ar}(h:zDl l a=0):a.length<=100:=by
 unfold zDl at h
 split at h
 ·cases h
 ·omega
def giftU(us:List BA)(d:De):Int:=if useF us d.us≠0 then useF us d.us else if zCm d.bg=false\/zCm d.en=false then 1 else if d.en<=d.bg then 8 else 0
def giftP(V:List Rg)(us:List BA)(d:De):Int:=if zDl V d.ar≠0 then zDl V d.ar else if zBv V d.ar=[]\/d.us=[] then 9 else giftU us d
theorem giftF_eq(V:List Rg)(us:List BA)(d:De):giftF V us d=if zBw d.th=false\/zBw d.fr=false\/zBw d.to_=false then 5 else if d.fr=d.to_ then 12 else if parF d≠0 then parF d else giftP V us d:=rfl
def GURel(w:World)(RA:OA)(rc:Nat)(V:List Rg)(UA:OA)(O:Nat)(us:List BA)(DA:OA)(dc:Nat)(U:List De)(d:De)(m:Nat)(i:Value)(wr:World):Prop:=
 GS w RA rc V UA O us DA dc U d wr/\∃k:Nat,k+m=d.us.length/\i=.int .i64 k/\∀j,j<k->zAX us d.us j=none
theorem checkGiftR_c(RA:OA)(rc:Nat)(V:List Rg)(UA:OA)(O:Nat)(us:List BA)(DA:OA)(dc:Nat)(U:List De)(d:De)(w:World)(g:GoodR V)(hr:Rgs w RA V)(hu:Strs w UA us)(hul:us.length<=1000000)(hd:DeOk w d): Calls Tryz.prog 171 #[.agg (tiC RA rc V UA O us DA dc U),deV d] w (zAf (.int .i64 (giftF V us d)) w):=by
 generalize C:giftF V us d=res;rw[giftF_eq]at C;have HR:=zq C;clear C;have HD:=zq hd;clear hd;have HRG:=zq hr;have HU:=zq hu;clear hr hu;obtain⟨z1,z2,z3,z4,z5,z6⟩:=HD.o.strs;have hn1:=fun W=>zBr d.th W z2
 have hn2:=fun W=>zBr d.fr W z3
 have hn3:=fun W=>zBr d.to_ W z4
 have c:Hid (GS w RA rc V UA O us DA dc U d ((w.alloc (.cells (tiC RA rc V UA O us DA dc U) 26)).alloc (.cells (deC d) 126))):=
  ⟨((aR w.heap.size w).alloc (aK _) _).alloc ze _,(Bx.new _ _ _).alloc _,Bx.new1 _ _ _ _⟩
 obtain⟨W,hW⟩:∃W,W=(w.alloc (.cells (tiC RA rc V UA O us DA dc U) 26)).alloc (.cells (deC d) 126):=⟨_,rfl⟩;rw[<-hW]at c
 go_enter Tryz.func171,Tryz.ntmps171;(go_upto_region 1 with fail);rw[<-hW];clear hW;have y3:=c.o.de.c 3 rfl;have y4:=c.o.de.c 4 rfl;have y5:=c.o.de.c 5 rfl;have ys:=c.o.de.lt
 cases h1:zBw d.th with
 |false =>
  rw[h1]at hn1;have Q:=zq hn1;have HS:Hid (res=5):=by show _=_;rw[<-HR.o,aF (.inl h1)]
  clear h1 hn1 hn2 hn3;(go_wp2_with fail);(with_reducible refine(Q.o _).mono ?_);rintro e w1⟨rfl,rfl⟩;exact tfg
 |true =>
 rw[h1]at hn1;have Q:=zq hn1
 cases h2:zBw d.fr with
 |false =>
  rw[h2]at hn2;have HN2:=zq hn2;have HS:Hid (res=5):=by show _=_;rw[<-HR.o,aF (.inr (.inl h2))]
  clear h1 h2 hn1 hn2 hn3;(go_wp2_with fail);(with_reducible refine(Q.o _).mono ?_);rintro e w1⟨rfl,rfl⟩;(go_wp2_with fail);(with_reducible refine(HN2.o _).mono ?_);rintro e w2⟨rfl,rfl⟩;exact tfg
 |true =>
 rw[h2]at hn2;have HN2:=zq hn2
 cases h3:zBw d.to_ with
 |false =>
  rw[h3]at hn3;have HN3:=zq hn3;have HS:Hid (res=5):=by show _=_;rw[<-HR.o,aF (.inr (.inr h3))]
  clear h1 h2 h3 hn1 hn2 hn3;(go_wp2_with fail);(with_reducible refine(Q.o _).mono ?_);rintro e w1⟨rfl,rfl⟩;(go_wp2_with fail);(with_reducible refine(HN2.o _).mono ?_);rintro e w2⟨rfl,rfl⟩;(go_wp2_with fail);(with_reducible refine(HN3.o _).mono ?_);rintro e w3⟨rfl,rfl⟩;exact tfg
 |true =>
 rw[h3]at hn3;have HN3:=zq hn3
 have HR1:Hid ((if d.fr=d.to_ then 12 else if parF d≠0 then parF d else giftP V us d)=res):=by
  show _=_
  have hh:=HR.o
  rwa [aO (by rw[h1,h2,h3];simp)]at hh
 clear h1 h2 h3 hn1 hn2 hn3 HR;(go_wp2_with fail);(with_reducible refine(Q.o _).mono ?_);rintro e w1⟨rfl,rfl⟩;(go_wp2_with fail);(with_reducible refine(HN2.o _).mono ?_);rintro e w2⟨rfl,rfl⟩;(go_wp2_with fail);(with_reducible refine(HN3.o _).mono ?_);rintro e w3⟨rfl,rfl⟩;clear Q HN2 HN3
 by_cases hft:d.fr=d.to_
 ·have HS:Hid (res=12):=by show _=_;rw[<-HR1.o,aF hft]
  have q1:=zAn hft;clear hft;exact tfg
 have q1:=zAp hft
 have HR2:Hid ((if parF d≠0 then parF d else giftP V us d)=res):=by
  show _=_
  have hh:=HR1.o
  rwa [aO hft]at hh
 clear hft HR1;have y2:_=some (Value.int .i64 d.kd):=c.o.de.c 2 rfl
 by_cases hk2:d.kd=2
 case' neg =>
  have k2:(d.kd == 2)=false:=by simpa using hk2
  have HR3:Hid (giftP V us d=res):=by
   show _=_
   have hh:=HR2.o
   rwa [aO (fun h=>h (by unfold parF;rw[aF hk2]))]at hh
  have HSTc:=c;clear c HR2 hk2;go_upto_region 12 with fail
 case' pos =>
  have k2:(d.kd == 2)=true:=by simpa using hk2
  have y6:=c.o.de.c 6 rfl;have y7:=c.o.de.c 7 rfl;(go_wp2_with fail);(with_reducible refine(chkRatioR_c d.nu d.de _ z5 z6).mono ?_);rintro e w4⟨rfl,hb4⟩;have HST1:=zq (c.o.below hb4);clear y2 y3 y4 y5 y6 y7 ys hb4 c
  by_cases hr:zDg d.nu d.de=0
  case' neg =>
   have HS:Hid (res=zDg d.nu d.de):=by
    show _=_
    have e:parF d=zDg d.nu d.de:=by unfold parF;rw[aO (fun h=>h hk2),aF hr]
    rw[<-HR2.o,e,aF hr]
   have hrb2:(zDg d.nu d.de != 0)=true:=by simpa using hr
   clear hr;go_wp2;go_ret
   exact zAf.mk (zBF HS.o.symm) HST1.o.bel
  have HP:Hid (parF d=if posB d.nu=false\/zAy d.de<zAy (zAU d.nu) then 1 else 0):=by
   show _=_
   unfold parF;rw[aO (fun h=>h hk2),aO (fun h=>h hr)]
  obtain⟨p1,p2,p3,p4,p5⟩:=zCn hr;have HLN:Hid ((zAc BT (zAy (zAU d.nu))).length<=500):=words_dec5 (zAQ p1).1 p4;have HLD:Hid ((zAc BT (zAy d.de)).length<=500):=words_dec5 (zAQ p2).1 p5;have HDP:Hid (0<zAy d.de):=den_pos p2 p3;have HFR:=zq (Of_cT d.nu d.de w4 (zAQ p1).1 p4 (zAQ p2).1 p5);have y6:=HST1.o.de.c 6 rfl;have y7:=HST1.o.de.c 7 rfl;rw[hr];clear p1 p2 p3 p4 p5 hr;(go_wp2_with fail);(with_reducible refine HFR.o.mono ?_);rintro e w5⟨A5,c5,A6,c6,rfl,h5,h6,hb5⟩;have HST2:=zq (HST1.o.below hb5);clear y6 y7 hb5 HST1 HFR;obtain⟨nv,hnv⟩:∃nv,zAy (zAU d.nu)=nv:=⟨_,rfl⟩;obtain⟨dv,hdv⟩:∃dv,zAy d.de=dv:=⟨_,rfl⟩;rw[hnv,hdv]at HP;rw[hnv]at HLN;rw[hdv]at HLD HDP;rw[hnv]at h5;rw[hdv]at h6;rw[hnv,hdv];have HNV:=zq hnv;clear hnv hdv;have HXB:Hid (Bx (w5.alloc (.cells (nuC (zDf d.nu) A5 c5 nv A6 c6 dv) 202)) w5.heap.size (nuC (zDf d.nu) A5 c5 nv A6 c6 dv) 202):=Bx.new _ _ _;have HST3:=zq (HST2.o.alloc (.cells (nuC (zDf d.nu) A5 c5 nv A6 c6 dv) 202));have H5:=zq (h5.alloc (.cells (nuC (zDf d.nu) A5 c5 nv A6 c6 dv) 202));have H6:=zq (h6.alloc (.cells (nuC (zDf d.nu) A5 c5 nv A6 c6 dv) 202));clear h5 h6 HST2;(go_upto_region 10 with fail);obtain⟨W5,hW5⟩:∃W5,W5=w5.alloc (.cells (nuC (zDf d.nu) A5 c5 nv A6 c6 dv) 202):=⟨_,rfl⟩;rw[<-hW5]at HXB HST3 H5 H6
  try rw[<-hW5]
  clear hW5
  cases hng:zDf d.nu
  case' true =>
   have HS:Hid (res=1):=by
    show _=_
    have e:parF d=1:=by rw[HP.o,aF (.inl (by unfold posB;rw[hng];rfl))]
    rw[<-HR2.o,e];rfl
   have n0:W5.cell? ⟨w5.heap.size,0,none⟩=some (.bool true):=by rw[<-hng];exact HXB.o.c 0 rfl
   have ns:=HXB.o.lt
   try rw[hng]
   clear hng;go_quiet(fail);go_wp2;go_ret
   exact zAf.mk (zBF HS.o.symm) (HST3.o.drewN _).bel
  rw[hng]at HXB;obtain⟨n0,n1,n2⟩:=HXB.o.t;have hiz:=fun W=>isZero_c false A5 A6 c5 c6 nv dv W
  by_cases hv0:nv=0
  case' pos =>
   have HS:Hid (res=1):=by
    show _=_
    have e:parF d=1:=by rw[HP.o,aF (.inl (by unfold posB;rw[HNV.o,hv0];simp))]
    rw[<-HR2.o,e];rfl
   rw[aD hv0]at hiz;have HIZ:=zq hiz;clear hiz hng hv0;have HS0:Hid (W5.cell? ⟨w5.heap.size,0,none⟩=some (.bool false)/\W5.cell? ⟨w5.heap.size,1,none⟩=some (.slice A5 (zAc BT nv).length c5)/\W5.cell? ⟨w5.heap.size,2,none⟩=some (.slice A6 (zAc BT dv).length c6)):=⟨n0,n1,n2⟩;refine eU (S:=(fun w'=>w'.cell? ⟨w5.heap.size,0,none⟩=some (.bool false)/\w'.cell? ⟨w5.heap.size,1,none⟩=some (.slice A5 (zAc BT nv).length c5)/\w'.cell? ⟨w5.heap.size,2,none⟩=some (.slice A6 (zAc BT dv).length c6))) zc ?_ (fun a=>?_)
   ·exact HS0.o
   refine Dw.rd1 0 rfl (fun K hK=>?_);clear a;go_simp;refine hK.out _ _ ?_ (fun a=>?_)
   ·exact HS0.o
   clear hK K
   try simp only[Dw.lay,Act.put]
   refine Dw.rd1 1 rfl (fun K hK=>?_);clear a;go_simp;refine hK.out _ _ ?_ (fun a=>?_)
   ·exact HS0.o
   clear hK K
   try simp only[Dw.lay,Act.put]
   refine Dw.rd1 2 rfl (fun K hK=>?_);clear a;go_simp;refine hK.out _ _ ?_ (fun a=>?_)
   ·exact HS0.o
   clear hK K
   try simp only[Dw.lay,Act.put]
   refine Dw.rd1 3 rfl (fun K hK=>?_);clear a;go_simp;refine hK.out _ _ ?_ (fun a=>?_)
   ·exact HS0.o
   clear hK K
   try simp only[Dw.lay,Act.put]
   refine Dw.rd1 4 rfl (fun K hK=>?_);clear a;go_simp
   go_at_call 115
   (with_reducible refine(HIZ.o _).mono ?_);rintro e w8⟨rfl,hb8⟩;have HST8:=zq (HST3.o.drew.below hb8);have HXB8:=zq (HXB.o.drew.below hb8);obtain⟨b0,b1,b2⟩:=HXB8.o.t;clear hb8 n0 n1 n2
   try go_wp2_with fail
   refine hK.out _ _ ?_ (fun a=>?_)
   ·exact⟨b0,b1,b2⟩
   clear hK K
   try simp only[Dw.lay,Act.put]
   refine Dw.rd1 5 rfl (fun K hK=>?_);clear a;go_simp;refine hK.out _ _ ?_ (fun a=>?_)
   ·exact⟨b0,b1,b2⟩
   clear hK K
   try simp only[Dw.lay,Act.put]
   refine Dw.rd1 6 rfl (fun K hK=>?_);clear a;go_simp;refine hK.out _ _ ?_ (fun a=>?_)
   ·exact⟨b0,b1,b2⟩
   clear hK K
   try simp only[Dw.lay,Act.put]
   refine wpAnyH_ready (rs:=[7,8]) zc ze ?_;refine fA rfl (fun K hK=>?_) (fA rfl (fun K hK=>?_) AllReadyH.nil)
   ·clear a
    go_simp;refine hK.out _ _ ?_ (fun a=>?_)
    ·exact⟨b0,b1,b2⟩
    clear hK K
    try simp only[Dw.lay,Act.put]
    refine Dw.rd1 8 rfl (fun K hK=>?_);exact tam
   ·clear a
    go_simp;refine hK.out _ _ ?_ (fun a=>?_)
    ·exact⟨b0,b1,b2⟩
    clear hK K
    try simp only[Dw.lay,Act.put]
    refine Dw.rd1 7 rfl (fun K hK=>?_);exact tam
  case' neg =>
   rw[aE hv0]at hiz;have HIZ:=zq hiz
   have HP2:Hid (parF d=if dv<nv then 1 else 0):=by
    show _=_
    rw[HP.o]
    by_cases h:dv<nv
    ·rw[aF (.inr h),aF h]
    ·rw[aO (fun hh=>hh.elim (fun q=>by unfold posB at q;rw[hng,HNV.o]at q;simp[hv0]at q) h),aO h]
   clear hiz hng hv0
   go_region_held3 (fun w'=>w'.cell? ⟨w5.heap.size,0,none⟩=some (.bool false)/\w'.cell? ⟨w5.heap.size,1,none⟩=some (.slice A5 (zAc BT nv).length c5)/\w'.cell? ⟨w5.heap.size,2,none⟩=some (.slice A6 (zAc BT dv).length c6)) ((refine⟨?_,?_,?_⟩<;>first|with_reducible assumption|go_simp))
    (first
     |((go_at_call 115;(with_reducible refine(HIZ.o _).mono ?_);rintro e w8⟨rfl,hb8⟩;have HST8:=zq (HST3.o.drew.below hb8);have HXB8:=zq (HXB.o.drew.below hb8);have H58:=zq (H5.o.drew.below hb8);have H68:=zq (H6.o.drew.below hb8);obtain⟨b0,b1,b2⟩:=HXB8.o.t;clear hb8))
     |((go_at_call 121;(with_reducible refine(Int_1 w8).mono ?_);rintro e w9⟨A7,c7,A8,c8,rfl,h7,h8,hb9⟩;have HST9:=zq (HST8.o.below hb9);have HXB9:=zq (HXB8.o.below hb9);have H59:=zq (H58.o.below hb9);have H69:=zq (H68.o.below hb9);obtain⟨e0,e1,e2⟩:=HXB9.o.t;clear hb9))
     |((go_at_call 131;(with_reducible refine(compare_cT A5 A6 A7 A8 c5 c6 c7 c8 _ _ 1 1 w9 H59.o H69.o h7 h8 (dX HLN.o zd) (dX HLD.o zd) zd zd HDP.o zd).mono ?_);rintro e w10⟨rfl,hb10⟩;have HST10:=zq (HST9.o.below hb10);have HXB10:=zq (HXB9.o.below hb10);obtain⟨f0,f1,f2⟩:=HXB10.o.t;clear hb10)))
   clear n0 n1 n2 b0 b1 b2 e0 e1 e2 f0 f1 f2 HST3 HST8 HST9 HXB HXB8 HXB9 HXB10 H5 H6 H58 H68 H59 H69 h7 h8 HLN HLD HDP
   try simp only[dK,Nat.one_mul]
   by_cases Y:dv<nv
   ·have HS:Hid (res=1):=by
     show _=_
     have e:parF d=1:=by rw[HP2.o,aF Y]
     rw[<-HR2.o,e];rfl
    rw[zBS Y];clear Y;go_wp2;go_ret
    exact zAf.mk (zBF HS.o.symm) HST10.o.bel
   have HR3:Hid (giftP V us d=res):=by
    show _=_
    have hh:=HR2.o
    rwa [aO (fun h=>h (by rw[HP2.o,aO Y]))]at hh
   obtain⟨cv,hcv,hc0⟩:∃cv,zDj nv dv=cv/\cv<=0:=by
    rcases aI nv dv with h|h
    ·exact⟨-1,zBJ h,zd⟩
    ·exact⟨0,zCL za,zd⟩
   rw[hcv];clear hcv;have HSTc:=HST10;clear Y;go_upto_region 12 with fail
 all_goals
  try clear y2 y3 y4 y5 ys q1 k2
  have y0:=HSTc.o.ti.c 0 rfl;have y1:=HSTc.o.ti.c 1 rfl;have y9:=HSTc.o.de.c 10 rfl;have y10:=HSTc.o.de.c 11 rfl;have yt:=HSTc.o.ti.lt;have ys:=HSTc.o.de.lt;(go_wp2_with fail);(with_reducible refine(checkAreaR_c RA d.arA rc d.arc V d.ar _ g.len (HRG.o.below HSTc.o.bel) (HD.o.ars.below HSTc.o.bel)).mono ?_);rintro e w20⟨rfl,nd,rfl⟩
  by_cases hch:zDl V d.ar=0
  case' neg =>
   have HS:Hid (res=zDl V d.ar):=by
    show _=_
    rw[<-HR3.o];unfold giftP;rw[aF hch]
   have hrb2:(zDl V d.ar != 0)=true:=by simpa using hch
   clear hch;go_wp2;go_ret
   exact zAf.mk (zBF HS.o.symm) (HSTc.o.drewN nd).bel
  have HAL:=zq (chkA_lenC hch)
  have HR4:Hid ((if zBv V d.ar=[]\/d.us=[] then 9 else giftU us d)=res):=by
   show _=_
   have hh:=HR3.o;unfold giftP at hh
   rwa [aO (fun h=>h hch)]at hh
  have HSTd:=zq (HSTc.o.drewN nd);rw[hch];clear hch HR3;(go_wp2_with fail);(with_reducible refine(leaves_c RA d.arA rc d.arc V d.ar _ g (HRG.o.below HSTd.o.bel) (HD.o.ars.below HSTd.o.bel) HAL.o).mono ?_);rintro e w21⟨A9,c9,rfl,_,hb21⟩;have HSTe:=zq (HSTd.o.below hb21);clear y0 y1 y9 y10 yt ys hb21 HSTd HSTc;have y10:=HSTe.o.de.c 11 rfl;have ys:=HSTe.o.de.lt
  by_cases hl0:(zBv V d.ar).length=0
  case' pos =>
   have HS:Hid (res=9):=by
    show _=_
    rw[<-HR4.o,aF (.inl (List.length_eq_zero_iff.1 hl0))]
   go_wp2;go_ret
   exact zAf.mk (zBF HS.o.symm) HSTe.o.bel
  have hlb:(((zBv V d.ar).length:Int) == 0)=false:=by simp;intro e;exact hl0 (by rw[e];rfl)
  by_cases hu0:d.us.length=0
  case' pos =>
   have HS:Hid (res=9):=by
    show _=_
    rw[<-HR4.o,aF (.inr (List.length_eq_zero_iff.1 hu0))]
   clear hl0;go_wp2;go_ret
   exact zAf.mk (zBF HS.o.symm) HSTe.o.bel
  have hub:((d.us.length:Int) == 0)=false:=by simp;intro e;exact hu0 (by rw[e];rfl)
  have HR5:Hid (giftU us d=res):=by
   show _=_
   have hh:=HR4.o
   rwa [aO (fun h=>h.elim (fun q=>hl0 (by rw[q];rfl)) (fun q=>hu0 (by rw[q];rfl)))]at hh
  clear hl0 HR4;have hl2:=HD.o.lens.2.1;obtain⟨b,o,hA,hb0,hc0⟩:=HD.o.uses.at_ za;have HC0:=zq hc0;clear hc0 hu0;clear y10;have y10:w21.cell? ⟨w.heap.size+1,11,none⟩=some (Value.slice (some ⟨b,o,none⟩) d.us.length d.usc):=by rw[<-hA];exact HSTe.o.de.c 11 rfl
  go_wp2
  go_loopg[8] d.us.length (GURel w RA rc V UA O us DA dc U d)
  case atStart=>exact⟨HSTe.o,0,za,rfl,fun j hj=>absurd hj za⟩
  case round =>
   clear HSTe y10 ys hlb hub;obtain⟨hst,k,hkm,rfl,hpre⟩:=hrel;have M:=zq hst;have HKM:=zq hkm;have HP:=zq hpre;have hkl:k<=d.us.length:=za;clear hst hkm hpre;have y10:wr.cell? ⟨w.heap.size+1,11,none⟩=some (Value.slice (some ⟨b,o,none⟩) d.us.length d.usc):=by rw[<-hA];exact M.o.de.c 11 rfl
   have ys:=M.o.de.lt
   by_cases Y:k<d.us.length
   ·have y1:=M.o.ti.c 1 rfl
    have yt:=M.o.ti.lt;have c0:wr.cell? ⟨b,o+k,none⟩=some (.string d.us[k]):=(M.o.bel.cell hb0).trans (HC0.o k Y);have e0:usAt d.us k=d.us[k]:=zDw Y;have HPO:=zq (fun W (x:Strs W UA us)=>positionR_c UA O us d.us[k] W hul x);go_wp2_with fail
    go_region_held3 (fun w'=>w'.cell? ⟨w.heap.size,1,none⟩=some (.slice UA us.length O)/\w'.cell? ⟨w.heap.size+1,11,none⟩=some (Value.slice (some ⟨b,o,none⟩) d.us.length d.usc)/\w'.cell? ⟨b,o+k,none⟩=some (.string d.us[k])) ((refine⟨?_,?_,?_⟩<;>first|with_reducible assumption|go_simp))
     ((go_at_call 237;(with_reducible refine(HPO.o _ (HU.o.below (M.o.drew).bel)).mono ?_);rintro e w30⟨z,rfl,hz,rfl⟩))
    have HST2:=zq M.o.drew;clear HPO y1 yt
    cases hm:zCU us d.us[k]with
    |false =>
     have HS:Hid (res=5):=by
      show _=_
      have e:useF us d.us=5:=useF_hit Y HP.o (by unfold zAX;rw[e0,aF hm]);rw[<-HR5.o];unfold giftU;rw[e];rfl
     have hz1:z<0:=by rw[hm]at hz;simpa using hz
     clear hz hm e0;go_wp2;go_ret
     exact zAf.mk (zBF HS.o.symm) HST2.o.bel
    |true =>
     have HM:=zq hm;have hz1:0<=z:=by rw[hm]at hz;simpa using hz
     clear hz hm;have HE0:=zq e0;clear e0
     by_cases hk0:0<k
     ·have zp:wr.cell? ⟨b,o+(k-1),none⟩=some (.string (d.us[k-1]'(by omega))):=(M.o.bel.cell hb0).trans (HC0.o (k-1) za)
      have hd:decide ((0:Int)<(k:Int))=true:=zg;have hd0:decide ((0:Int)<=(k:Int)-1)=true:=zg;have HE1:Hid (usAt d.us (k-1)=d.us[k-1]'(by omega)):=zDw za
      cases hle:sle d.us[k] (d.us[k-1]'(by omega))with
      |true =>
       have HS:Hid (res=8):=by
        show _=_
        have e:useF us d.us=8:=useF_hit Y HP.o (by unfold zAX;rw[HE0.o,HE1.o,aO (by rw[HM.o];simp),aF ⟨hk0,hle⟩]);rw[<-HR5.o];unfold giftU;rw[e];rfl
       unfold sle at hle;go_wp2;go_quiet(fail);go_wp2;go_ret
       exact zAf.mk (zBF HS.o.symm) (HST2.o.drewN _).bel
      |false =>
       have HF:Hid (zAX us d.us k=none):=by
        show _=_
        unfold zAX;rw[HE0.o,HE1.o,aO (by rw[HM.o];simp),aO (fun hh=>by rw[hle]at hh;cases hh.2)]
       unfold sle at hle;exact tbh
     ·have hd:decide ((0:Int)<(k:Int))=false:=by simp;omega
      have HF:Hid (zAX us d.us k=none):=by
       show _=_
       unfold zAX;rw[HE0.o,aO (by rw[HM.o];simp),aO (fun hh=>hk0 hh.1)]
      exact tbh
   ·have y11:wr.cell? ⟨w.heap.size+1,12,none⟩=some (.int .i64 d.bg):=M.o.de.c 12 rfl
    have y12:wr.cell? ⟨w.heap.size+1,13,none⟩=some (.int .i64 d.en):=M.o.de.c 13 rfl
    have HR6:Hid ((if zCm d.bg=false\/zCm d.en=false then 1 else if d.en<=d.bg then 8 else 0)=res):=by
     show _=_
     have e:useF us d.us=0:=useF_none fun j hj=>HP.o j za
     rw[<-HR5.o];unfold giftU;rw[aO (show ¬(useF us d.us≠0) from fun h=>h e)]
    have hd1:=fun W=>zCP d.bg W
    have hd2:=fun W=>zCP d.en W
    clear HR5
    cases hb1:zCm d.bg with
    |false =>
     rw[hb1]at hd1;have m:=zq hd1;have HS:Hid (res=1):=by show _=_;rw[<-HR6.o,aF (.inl hb1)]
     clear hd1 hd2 hb1;(go_wp2_with fail);(with_reducible refine(m.o _).mono ?_);rintro e w40⟨rfl,rfl⟩;exact tfj
    |true =>
     rw[hb1]at hd1;have m:=zq hd1
     cases D:zCm d.en with
     |false =>
      rw[D]at hd2;have HD2:=zq hd2;have HS:Hid (res=1):=by show _=_;rw[<-HR6.o,aF (.inr D)]
      clear hd1 hd2 hb1 D;(go_wp2_with fail);(with_reducible refine(m.o _).mono ?_);rintro e w40⟨rfl,rfl⟩;(go_wp2_with fail);(with_reducible refine(HD2.o _).mono ?_);rintro e w41⟨rfl,rfl⟩;exact tfj
     |true =>
      rw[D]at hd2;have HD2:=zq hd2
      have HR7:Hid ((if d.en<=d.bg then 8 else 0)=res):=by
       show _=_
       have hh:=HR6.o
       rwa [aO (by rw[hb1,D];simp)]at hh
      clear hd1 hd2 hb1 D HR6;(go_wp2_with fail);(with_reducible refine(m.o _).mono ?_);rintro e w40⟨rfl,rfl⟩;(go_wp2_with fail);(with_reducible refine(HD2.o _).mono ?_);rintro e w41⟨rfl,rfl⟩
      by_cases hen:d.en<=d.bg
      ·have HS:Hid (res=8):=by show _=_;rw[<-HR7.o,aF hen]
       exact tfj
      ·have HS:Hid (res=0):=by show _=_;rw[<-HR7.o,aO hen]
       have hen2:d.bg<d.en:=za;clear hen;exact tfj
theorem zBt{w:World}{b:Nat}{cs:Array Value}{T:TypeId}(h:Bx w b cs T):w.rangeAt b 0 cs.toList:=fun j v hv=>by
 rw[cO];exact h.cell (by rw[<-hv,Array.getElem?_toList])
theorem take_last{α:Type}{l:List α}{k:Nat}(h:k<l.length)(hk:0<k):(l.take k).getLast?=some (l[k-1]'(by omega)):=by
 rw[List.getLast?_eq_getElem?,bF,bH za,List.getElem?_take_of_lt za];exact List.getElem?_eq_getElem za
theorem ordB_take{U:List De}{k:Nat}(h:k<U.length)(hk:0<k)(d:De):ordB (U.take k) d=deLt (U[k-1]'(by omega)) d:=by
 unfold ordB;rw[take_last h hk]
theorem sle_of_sltR{a b:BA}(h:slt a b=true):sle b a=false:=by
 unfold slt at h;unfold sle;rw[zCt]at h ⊢;have h1:a.toList<b.toList:=zu;have h2:¬b.toList<a.toList:=fun h2=>List.lt_irrefl _ (List.lt_trans h1 h2)
 have h3:b.toList≠a.toList:=fun e=>by rw[e]at h1;exact List.lt_irrefl _ h1
 simp[h2,h3]
theorem slt_sle(a b:BA):slt a b=!sle b a:=by
 cases h:sle b a with
 |false=>rw[zBD h];rfl
 |true =>
  cases h2:slt a b with
  |false=>rfl
  |true=>rw[sle_of_sltR h2]at h;cases h
def chk4(V:List Rg)(us:List BA)(pre:List De)(d:De):Int:=if zAg d.kd=true then giftF V us d else if d.kd=4 then endF pre d else divF pre d
def chk3(V:List Rg)(us:List BA)(pre:List De)(d:De):Int:=if d.kd<1\/5<d.kd then 4 else if zAx d=true then 3 else chk4 V us pre d
def chk2(V:List Rg)(us:List BA)(pre:List De)(d:De):Int:=if (pre.any fun p=>decide (p.id=d.id))=true then 7 else chk3 V us pre d
theorem chkD_eq(V:List Rg)(us:List BA)(pre:List De)(d:De):zEe V us pre d=if zBw d.id=false then 5 else if zCm d.day=false then 1 else if ordB pre d=false then 8 else chk2 V us pre d:=rfl
def PreRel(w:World)(RA:OA)(rc:Nat)(V:List Rg)(UA:OA)(O:Nat)(us:List BA)(DA:OA)(dc:Nat)(U:List De)(d:De)(k:Nat)(f:De->Bool)(m:Nat)(i:Value)(wr:World):Prop:=
 GS w RA rc V UA O us DA dc U d wr/\∃j:Nat,j+m=k/\i=.int .i64 j/\∀q (h:q<U.length),q<j->f U[q]=false
theorem zEd{U:List De}{k j:Nat}{f:De->Bool}(hj:j<k)(hk:k<U.length)(h:f (U[j]'(by omega))=true):(U.take k).any f=true:=by
 refine List.any_eq_true.2 ⟨U[j]'(by omega),?_,h⟩
 rw[List.mem_take_iff_getElem];exact⟨j,za,rfl⟩
theorem zDI{U:List De}{k:Nat}{f:De->Bool}(h:∀q (h:q<U.length),q<k->f U[q]=false):(U.take k).any f=false:=by
 rw[bC];intro x hx;rw[List.mem_take_iff_getElem]at hx;obtain⟨q,hq,rfl⟩:=hx;rw[h q za za];simp
def FndRel(w:World)(RA:OA)(rc:Nat)(V:List Rg)(UA:OA)(O:Nat)(us:List BA)(DA:OA)(dc:Nat)(U:List De)(d:De)(k:Nat)(f:De->Bool)(m:Nat)(v i:Value)(wr:World):Prop:=
 GS w RA rc V UA O us DA dc U d wr/\∃j:Nat,j+m=k/\i=.int .i64 j/\v=.bool ((U.take j).any f)
def SheRel(w:World)(RA:OA)(rc:Nat)(V:List Rg)(UA:OA)(O:Nat)(us:List BA)(DA:OA)(dc:Nat)(U:List De)(d:De)(m:Nat)(i:Value)(wr:World):Prop:=
 GS w RA rc V UA O us DA dc U d wr/\∃j:Nat,j+m=d.sh.length/\i=.int .i64 j/\∀q (h:q<d.sh.length),q<j->d.kd=5->decide (d.sh[q].pt=d.fr)=false
theorem any_take_succ{U:List De}{j:Nat}(h:j<U.length)(f:De->Bool):(U.take (j+1)).any f=((U.take j).any f || f U[j]):=by
 rw[aG h,bS];simp
def div2(pre:List De)(d:De):Int:=if d.kd=5/\(d.sh.any fun s=>decide (s.pt=d.fr))=true then 12 else if (pre.any fun p=>decide (p.kd=d.kd)&&decide (p.th=d.th)&&decide (p.fr=d.fr))=true then 7 else 0
theorem divF_eq(pre:List De)(d:De):divF pre d=if (d.kd=1/\zBw d.th=false)\/(d.kd=5/\zBw d.fr=false) then 5 else if zCm d.bg=false then 1 else if shF d.kd d.sh≠0 then shF d.kd d.sh else div2 pre d:=rfl
end Go.Proofs.YtbbchlpccgkikaaGreatDoor
namespace Go.Proofs.YtbbchlpccgkikaaGreatDoor
open Dw
def endsB(id:BA)(x:De):Bool:=decide (x.kd=4)&&decide (x.ot=id)
def zDR(U:List De)(id:BA):Option Int:=(U.reverse.find? (endsB id)).map De.bg
theorem endAt_snoc(l:List De)(d:De)(id:BA):zDR (l++[d]) id=if endsB id d=true then some d.bg else zDR l id:=by
 unfold zDR;rw[List.reverse_append,List.reverse_singleton,List.singleton_append,List.find?_cons]
 cases endsB id d<;>simp
def toP(U:List De)(d:De):Int:=match zDR U d.id with
 |some t=>min d.en t
 |none=>d.en
def toR(U:List De)(d:De):Int:=U.foldl (fun e x=>if endsB d.id x=true then min e x.bg else e) d.en
def cutR(b e:Int):Int×Int:=if e<=b then (0,0) else (b,e)
def zBj(U:List De)(d:De):Int×Int:=if zAg d.kd=true then cutR d.bg (toP U d) else (0,0)
def OneEnd(U:List De):Prop:=U.Pairwise fun a b=>¬(a.kd=4/\b.kd=4/\a.ot=b.ot)
theorem endAt_none{l:List De}{id:BA}(h:∀x∈l,endsB id x=false):zDR l id=none:=by
 unfold zDR;rw[List.find?_eq_none.2 (fun x hx=>by rw[h x (List.mem_reverse.1 hx)];simp)]
 rfl
theorem foldl_none{l:List De}{id:BA}(h:∀x∈l,endsB id x=false)(e:Int):l.foldl (fun e x=>if endsB id x=true then min e x.bg else e) e=e:=by
 induction l with
 |nil=>rfl
 |cons a l ih =>
  rw[dF,h a cS];exact ih fun x hx=>h x (cR _ hx)
theorem zCu{id:BA}{x:De}:endsB id x=true↔x.kd=4/\x.ot=id:=by unfold endsB;simp
theorem toR_eq{U:List De}(h:OneEnd U)(d:De):toR U d=toP U d:=by
 unfold toR toP
 induction U with
 |nil=>rfl
 |cons a l ih =>
  obtain⟨h1,h2⟩:=List.pairwise_cons.1 h;rw[dF]
  have e1:zDR (a::l) d.id=match zDR l d.id with
    |some t=>some t
    |none=>if endsB d.id a=true then some a.bg else none:=by
   unfold zDR;rw[List.reverse_cons,List.find?_append]
   cases hf:l.reverse.find? (endsB d.id)with
   |some q=>simp
   |none=>cases I:endsB d.id a<;>simp[I]
  cases I:endsB d.id a with
  |false =>
   have:=ih h2;rw[e1,I];simp only[eR,aL]at this ⊢;rw[this]
   cases zDR l d.id<;>rfl
  |true =>
   have J:∀x∈l,endsB d.id x=false:=fun x hx=>by
    cases hh:endsB d.id x with
    |false=>rfl
    |true =>
     obtain⟨k1,k2⟩:=zCu.1 I;obtain⟨k3,k4⟩:=zCu.1 hh;exact absurd ⟨k1,k3,k2.trans k4.symm⟩ (h1 x hx)
   rw[e1,endAt_none J,I];simp only[if_true];rw[foldl_none J]
theorem chkD_end{V:List Rg}{us:List BA}{pre:List De}{d:De}(h:zEe V us pre d=0)(hk:d.kd=4):∀p∈pre,¬(p.kd=4/\p.ot=d.ot):=by
 have hg:zAg d.kd=false:=by rw[hk];decide
 have he:endF pre d=0:=by
  unfold zEe at h;rw[hg]at h;simp only[hk]at h
  repeat' split at h
  all_goals first|exact h|(cases h;done)|(exfalso;simp_all;done)|skip
 unfold endF at he
 split at he
 ·cases he
 split at he
 ·cases he
 split at he
 ·cases he
 next h3 =>
 intro p hp ⟨k1,k2⟩;exact h3 (List.any_eq_true.2 ⟨p,hp,by simp[k1,k2]⟩)
theorem zCS{V:List Rg}{us:List BA}{U:List De}(h:zBY V us U=0):OneEnd U:=by
 have hc:=(zAP h).2;refine List.pairwise_iff_getElem.2 fun i j hi hj hij=>?_
 rintro⟨k1,k2,k3⟩;refine chkD_end (hc j hj) k2 U[i] ?_ ⟨k1,k3⟩;rw[List.mem_take_iff_getElem];exact⟨i,za,rfl⟩
def vB(V:List Rg)(U:List De)(i:Nat)(S:BA)(day:Int)(d:De):Bool:=decide ((zBj U d).1<=day)&&decide (day<(zBj U d).2)&&(zCE V d.ar i&&zCU d.us S)
def zBN(V:List Rg)(U:List De)(i:Nat)(S:BA)(day:Int)(th p:BA)(x:Bool)(d:De):Bool:=decide (d.kd=3)&&(decide (d.th=th)&&(decide (d.fr=p)&&((d.ex == x)&&vB V U i S day d)))
def licL(U:List De)(P:De->Bool)(k:Nat):List Int:=((List.range k).filter fun j=>P (U.getD j default)).map (fun j:Nat=>(j:Int))
theorem licL_succ(U:List De)(P:De->Bool)(k:Nat):licL U P (k+1)=licL U P k++(if P (U.getD k default)=true then [(k:Int)] else []):=by
 unfold licL;rw[eF,eG,aA]
 congr 1
 by_cases h:P (U.getD k default)=true
 ·rw[aF h,fB (p:=fun j=>P (U.getD j default)) (a:=k) h];rfl
 ·rw[aO h,eT (p:=fun j=>P (U.getD j default)) (a:=k) h];rfl
theorem licL_len(U:List De)(P:De->Bool)(k:Nat):(licL U P k).length<=k:=by
 unfold licL;rw[bZ];have:=eH (fun j=>P (U.getD j default)) (List.range k)
 simpa using this
theorem filter_head{P:Nat->Bool}:∀{n:Nat},((List.range n).filter P=[]->∀j,j<n->P j=false)/\∀k t,(List.range n).filter P=k::t->k<n/\P k=true/\∀j,j<k->P j=false
 |0=>⟨fun _ j hj=>za,fun k t h=>by simp at h⟩
 |n+1=>by
  obtain⟨h1,h2⟩:=filter_head (P:=P) (n:=n)
  constructor
  ·intro h j hj
   rw[eF,eG,List.append_eq_nil_iff]at h
   rcases aI j n with hh|hh
   ·exact h1 h.1 j hh
   ·obtain rfl:j=n:=by omega
    cases hp:P j with
    |false=>rfl
    |true=>have:=h.2;simp[hp]at this
  ·intro k t h
   rw[eF,eG]at h
   cases hf:(List.range n).filter P with
   |nil =>
    rw[hf,List.nil_append]at h
    cases hp:P n with
    |false=>simp[hp]at h
    |true =>
     simp[hp]at h
     obtain⟨rfl,rfl⟩:=h;exact⟨za,hp,h1 hf⟩
   |cons a r =>
    rw[hf,List.cons_append]at h
    injection h with ha hr
    subst ha;obtain⟨h3,h4,h5⟩:=h2 a r hf;exact⟨za,h4,h5⟩
theorem licL_none{U:List De}{P:De->Bool}(h:licL U P U.length=[]):U.find? P=none:=by
 unfold licL at h;rw[List.map_eq_nil_iff]at h;have:=filter_head.1 h;rw[List.find?_eq_none];intro x hx;obtain⟨j,hj,rfl⟩:=bD hx;have h1:=this j hj;rw[List.getD_eq_getElem?_getD,List.getElem?_eq_getElem hj,cB]at h1;rw[h1];simp
theorem licL_some{U:List De}{P:De->Bool}{z:Int}{t:List Int}(h:licL U P U.length=z::t):∃(k:Nat)(hk:k<U.length),z=(k:Int)/\U.find? P=some U[k]:=by
 unfold licL at h
 cases hf:(List.range U.length).filter fun j=>P (U.getD j default)with
 |nil=>rw[hf]at h;cases h
 |cons k r =>
  rw[hf,aZ]at h
  injection h with h1 _
  obtain⟨h3,h4,h5⟩:=filter_head.2 k r hf;refine⟨k,h3,h1.symm,?_⟩
  rw[List.find?_eq_some_iff_getElem];rw[List.getD_eq_getElem?_getD,List.getElem?_eq_getElem h3,cB]at h4;refine⟨h4,k,h3,rfl,fun j hj=>?_⟩;have h6:=h5 j hj;rw[List.getD_eq_getElem?_getD,List.getElem?_eq_getElem za,cB]at h6;rw[h6];rfl
def nextP(V:List Rg)(U:List De)(i:Nat)(S:BA)(day:Int)(th p:BA):Option BA:=(U.find? (zBN V U i S day th p true)).map De.to_
def ctlN(nx:BA->Option BA):Nat->List BA->BA->BA
 |0,_,p=>p
 |f+1,seen,p=>if zCU seen p=true then p else match nx p with
  |none=>p
  |some q=>ctlN nx f (p::seen) q
def ctlF(V:List Rg)(U:List De)(i:Nat)(S:BA)(day:Int)(th ho:BA):BA:=ctlN (nextP V U i S day th) (U.length+2) [] ho
structure CtlI (nx:BA->Option BA) (ps:List BA) (f:Nat) (seen:List BA) (p r:BA):Prop where
 eq:ctlN nx f seen p=r
 nd:seen.Nodup
 sub:∀s∈seen,s∈ps
 inp:p∈ps
 fu:f+seen.length=ps.length+1
theorem nodup_len{α:Type}[DecidableEq α]:∀{l r:List α},l.Nodup->(∀x∈l,x∈r)->l.length<=r.length
 |[],_,_,_=>ze
 |a::l,r,J,hs=>by
  obtain⟨h1,h2⟩:=List.nodup_cons.1 J;have ih:=nodup_len (l:=l) (r:=r.erase a) h2 fun x hx=>(List.mem_erase_of_ne fun(e:x=a)=>h1 (by rw[<-e];exact hx)).2 (hs x (cR _ hx))
  have ha:=hs a cS;have:=List.length_erase_of_mem ha;have:=List.length_pos_of_mem ha;simp only[bM];omega
theorem CtlI.pos{nx:BA->Option BA}{ps:List BA}{f:Nat}{seen:List BA}{p r:BA}(h:CtlI nx ps f seen p r):∃g,f=g+1:=by
 have:=nodup_len h.nd h.sub;have:=h.fu;exact⟨f-1,za⟩
theorem CtlI.stop{nx:BA->Option BA}{ps:List BA}{f:Nat}{seen:List BA}{p r:BA}(h:CtlI nx ps f seen p r)(hp:zCU seen p=true):r=p:=by
 obtain⟨g,rfl⟩:=h.pos;rw[<-h.eq,ctlN,aF hp]
theorem CtlI.none{nx:BA->Option BA}{ps:List BA}{f:Nat}{seen:List BA}{p r:BA}(h:CtlI nx ps f seen p r)(hp:zCU seen p=false)(J:nx p=.none):r=p:=by
 obtain⟨g,rfl⟩:=h.pos;rw[<-h.eq,ctlN,aO (by rw[hp];simp),J]
theorem CtlI.next{nx:BA->Option BA}{ps:List BA}{f:Nat}{seen:List BA}{p q r:BA}(h:CtlI nx ps f seen p r)(hp:zCU seen p=false)(J:nx p=some q)(hq:q∈ps):0<f/\CtlI nx ps (f-1) (p::seen) q r:=by
 obtain⟨g,rfl⟩:=h.pos;refine⟨za,⟨?_,List.nodup_cons.2 ⟨memS_false.1 hp,h.nd⟩,fun s hs=>?_,hq,?_⟩⟩
 ·rw[Nat.add_sub_cancel,<-h.eq,ctlN,aO (by rw[hp];simp),J]
 ·rcases List.mem_cons.1 hs with rfl|hs
  ·exact h.inp
  ·exact h.sub s hs
 ·have:=h.fu
  simp only[bM];omega
theorem ctlI_start(V:List Rg)(U:List De)(i:Nat)(S:BA)(day:Int)(th ho:BA):CtlI (nextP V U i S day th) (ho::U.map De.to_) (U.length+2) [] ho (ctlF V U i S day th ho):=
 ⟨rfl,List.nodup_nil,fun s hs=>absurd hs ze,cS,ze⟩
theorem nextP_mem{V:List Rg}{U:List De}{i:Nat}{S:BA}{day:Int}{th p q ho:BA}(h:nextP V U i S day th p=some q):q∈ho::U.map De.to_:=by
 unfold nextP at h;obtain⟨d,hd,rfl⟩:=Option.map_eq_some_iff.1 h;exact cR _ (bJ (List.mem_of_find?_eq_some hd))
open Go.RowKit Dw
theorem wl_zero{n:Nat}(h:n=0):(zAc H n).length=0:=by rw[(zCC zAC).2 h];rfl
theorem wl_pos{n:Nat}(h:n≠0):(0:Int)<((zAc H n).length:Int):=by
 have:(zAc H n).length≠0:=fun e=>h ((zCC zAC).1 (List.length_eq_zero_iff.1 e))
 omega
theorem IMulN_c(A Z:OA)(c c2 a b:Nat)(w:World)(h:Nt w A c a)(h2:Nt w Z c2 b)(J:(zAc H a).length<=400000000)(hm:(zAc H b).length<=400000000): Calls Tryz.prog 101 #[inV true A c a,inV false Z c2 b] w (GivesI (decide (a*b≠0)) (a*b) w):=by
 have HM:=zq (Mul_c A Z c c2 a b (((w.alloc (.cells #[.bool true,.slice A (zAc H a).length c] 84)).alloc (.cells #[.bool false,.slice Z (zAc H b).length c2] 84)).alloc (.cells #[.bool false,.slice none 0 0] 84)) (((h.alloc _).alloc _).alloc _) (((h2.alloc _).alloc _).alloc _) J hm);obtain⟨p,hp⟩:∃p,p=a*b:=⟨_,rfl⟩;rw[<-hp]at HM ⊢;clear hp
 cases hz:decide (p≠0)
 all_goals
  have hz':(p=0\/p≠0):=Classical.em _
  go_enter Tryz.func101,Tryz.ntmps101;(go_wp2_with fail);(with_reducible refine HM.o.mono ?_);rintro e w1⟨A5,c5,rfl,h5,I⟩;obtain⟨hc,hf⟩:=bcellK I;have hs3:w.heap.size+2<w1.heap.size:=qx;have c0:w1.cell? ⟨w.heap.size+1+1,0,none⟩=some (.bool false):=zt;have c1:w1.cell? ⟨w.heap.size+1+1,1,none⟩=some (.slice none 0 0):=zt;have HB:Hid (Below w.heap.size w w1):=((((aR w.heap.size w).alloc (aK _) _).alloc ze _).alloc zg _).trans (I.mono zg)
 ·have h0:p=0:=by simpa using hz
  have hl:=wl_zero h0;have hl2:¬(0:Int)<((zAc H p).length:Int):=za;clear hz hz' h0;go_wp2;refine aC (v:=inV false A5 c5 p) (by simp[results,Tryz.results101,go_sem,hc,hl]) rfl ⟨A5,c5,rfl,?_,?_⟩
  ·exact h5.set2 c0 c1 (nb_ _) (ns_ _ _ _) _ _
  ·exact te6
 ·have h0:p≠0:=by simpa using hz
  have hl2:=wl_pos h0;have hl3:0<(zAc H p).length:=za;clear hz hz' h0;go_wp2;refine aC (v:=inV true A5 c5 p) (by simp[results,Tryz.results101,go_sem,hc]) rfl ⟨A5,c5,rfl,?_,?_⟩
  ·exact h5.set2 c0 c1 (nb_ _) (ns_ _ _ _) _ _
  ·exact te6
theorem IAddN_c(A Z:OA)(c c2 a b:Nat)(w:World)(h:Nt w A c a)(h2:Nt w Z c2 b)(J:(zAc H a).length<=400000000)(hba:b<=a): Calls Tryz.prog 165 #[inV false A c a,inV true Z c2 b] w (GivesI false (a-b) w):=by
 have HCM:=zq (fun W (q:Nt W A c a) (q2:Nt W Z c2 b)=>Cmp_c A Z c c2 a b W q q2 za);have HA:=zq (fun W (q:Nt W A c a) (q2:Nt W Z c2 b)=>sub_c A Z c c2 a b W q q2 za hba)
 rcases Nat.eq_or_lt_of_le hba with he|hl
 ·have hd:a-b=0:=by omega
  have hk:zDj a b=0:=zCL he.symm;rw[hk]at HCM;rw[hd];clear hd hk he hba HA
  go_enter Tryz.func165,Tryz.ntmps165;(go_wp2_with fail);(with_reducible refine(HCM.o _ (((h.alloc _).alloc _).alloc _) (((h2.alloc _).alloc _).alloc _)).mono ?_);rintro e w1⟨rfl,nd,rfl⟩;go_wp2;refine aC (v:=inV false none 0 0) (by simp[results,Tryz.results165,go_sem];rfl) rfl ⟨none,0,rfl,Nt.zero _,?_⟩
  exact((zAb ((((aR w.heap.size w).alloc (aK _) _).alloc ze _).alloc zg _) nd).setCell (by first|(simp;omega)|omega) _).setCell (by first|(simp;omega)|omega) _
 ·have hk:zDj a b=1:=zBS hl
  rw[hk]at HCM;clear hk hl hba;generalize a-b=p at *
  go_enter Tryz.func165,Tryz.ntmps165;(go_wp2_with fail);(with_reducible refine(HCM.o _ (((h.alloc _).alloc _).alloc _) (((h2.alloc _).alloc _).alloc _)).mono ?_);rintro e w1⟨rfl,nd,rfl⟩;have g1:Nt ((((w.alloc (.cells #[.bool false,.slice A (zAc H a).length c] 84)).alloc (.cells #[.bool true,.slice Z (zAc H b).length c2] 84)).alloc (.cells #[.bool false,.slice none 0 0] 84)).drewN (nd+1)) A c a:=(((h.alloc _).alloc _).alloc _).drewN _;have g2:Nt ((((w.alloc (.cells #[.bool false,.slice A (zAc H a).length c] 84)).alloc (.cells #[.bool true,.slice Z (zAc H b).length c2] 84)).alloc (.cells #[.bool false,.slice none 0 0] 84)).drewN (nd+1)) Z c2 b:=(((h2.alloc _).alloc _).alloc _).drewN _;have HB0:Hid (Below w.heap.size w ((((w.alloc (.cells #[.bool false,.slice A (zAc H a).length c] 84)).alloc (.cells #[.bool true,.slice Z (zAc H b).length c2] 84)).alloc (.cells #[.bool false,.slice none 0 0] 84)).drewN (nd+1))):=zAb ((((aR w.heap.size w).alloc (aK _) _).alloc ze _).alloc zg _) (nd+1);have HBz:Hid (Bx ((((w.alloc (.cells #[.bool false,.slice A (zAc H a).length c] 84)).alloc (.cells #[.bool true,.slice Z (zAc H b).length c2] 84)).alloc (.cells #[.bool false,.slice none 0 0] 84)).drewN (nd+1)) (w.heap.size+1+1) #[.bool false,.slice none 0 0] 84):=(Bx.new2 _ _ _ _ _).drewN _;have HBx:Hid (Bx ((((w.alloc (.cells #[.bool false,.slice A (zAc H a).length c] 84)).alloc (.cells #[.bool true,.slice Z (zAc H b).length c2] 84)).alloc (.cells #[.bool false,.slice none 0 0] 84)).drewN (nd+1)) w.heap.size #[.bool false,.slice A (zAc H a).length c] 84):=(((Bx.new _ _ _).alloc _).alloc _).drewN _;have HBy:Hid (Bx ((((w.alloc (.cells #[.bool false,.slice A (zAc H a).length c] 84)).alloc (.cells #[.bool true,.slice Z (zAc H b).length c2] 84)).alloc (.cells #[.bool false,.slice none 0 0] 84)).drewN (nd+1)) (w.heap.size+1) #[.bool true,.slice Z (zAc H b).length c2] 84):=((Bx.new1 _ _ _ _).alloc _).drewN _;go_wp2
  go_region_held3 (fun w'=>w'.cell? ⟨w.heap.size,0,none⟩=some (.bool false)/\w'.cell? ⟨w.heap.size,1,none⟩=some (.slice A (zAc H a).length c)/\w'.cell? ⟨w.heap.size+1,1,none⟩=some (.slice Z (zAc H b).length c2)) ((refine⟨?_,?_,?_⟩<;>first|with_reducible assumption|go_simp))
   (first
    |((go_at_call 223;(with_reducible refine(HA.o _ g1 g2).mono ?_);rintro e w1⟨A5,c5,rfl,h5,I⟩;have HZ:=zq (HBz.o.below I);have HB:=zq (zAa HB0.o I);have HX:=zq (HBx.o.below I);have HY:=zq (HBy.o.below I);have x0:=HX.o.c 0 rfl;have x1:=HX.o.c 1 rfl;have y1:=HY.o.c 1 rfl;have r0:=HZ.o.c 0 rfl;have r1:=HZ.o.c 1 rfl;have fr:=HZ.o.frozen;have rl:=HZ.o.lt;clear I)))
  go_wp2;refine aC (v:=inV false A5 c5 p) (by simp[results,Tryz.results165,go_sem,r0,r1]) rfl ⟨A5,c5,rfl,?_,?_⟩
  ·exact h5.set2 r0 r1 (nb_ _) (ns_ _ _ _) _ _
  ·exact(HB.o.setCell (by first|(simp;omega)|omega) _).setCell (by first|(simp;omega)|omega) _
abbrev raN(A:OA)(c n:Nat)(Z:OA)(c2 d:Nat):Array Value:=#[.bool true,.slice A (zAc H n).length c,.slice Z (zAc H d).length c2]
def subP(p q:Nat×Nat):Nat×Nat:=zBX (p.1*q.2-q.1*p.2) (p.2*q.2)
theorem subP_same(n m d:Nat)(h:0<d):subP (n,d) (m,d)=zBX (n-m) d:=by
 unfold subP;show zBX (n*d-m*d) (d*d)=_
 rw[<-Nat.sub_mul,cV,lowP_scale h]
theorem RAddN_same(A Z A3 A4:OA)(c c2 c3 c4 n d m e:Nat)(w:World)(h:Nt w A c n)(h2:Nt w Z c2 d)(h3:Nt w A3 c3 m)(h4:Nt w A4 c4 e)(J:(zAc H n).length<=100000000)(hd:(zAc H d).length<=100000000)(_hm:(zAc H m).length<=100000000)(he:(zAc H e).length<=100000000)(hd0:0<d)(he0:0<e)(_hm0:m≠0)(hle:m*d<=n*e)(hde:d=e): Calls Tryz.prog 100 #[raV false A c n Z c2 d,raV true A3 c3 m A4 c4 e] w (zCz false (subP (n,d) (m,e)).1 (subP (n,d) (m,e)).2 w):=by
 subst hde;rw[subP_same n m d hd0];have hle2:m<=n:=Nat.le_of_mul_le_mul_right hle hd0;have HC:=zq (fun W (x:Nt W Z c2 d) (y:Nt W A4 c4 d)=>Cmp_c Z A4 c2 c4 d d W x y za);have HA:=zq (fun W (x:Nt W A c n) (y:Nt W A3 c3 m)=>IAddN_c A A3 c c3 n m W x y za hle2);have HO:=zq (fun A5 c5 W (x:Nt W A5 c5 (n-m)) (y:Nt W Z c2 d)=>Over_c A5 Z c5 c2 (n-m) d false W x y hd0 (by have:=zAw zAC (Nat.sub_le n m);omega) za);rw[zCL rfl]at HC;simp only[eK]at HO;generalize (zBX (n-m) d).1=pp at *;generalize (zBX (n-m) d).2=pq at *;clear hle hle2;generalize n-m=nm at *;have G:Hid (Bx (((w.alloc (.cells (raC A c n Z c2 d) 86)).alloc (.cells (raN A3 c3 m A4 c4 d) 86)).alloc (.cells zCc 86)) w.heap.size (raC A c n Z c2 d) 86):=((Bx.new _ _ _).alloc _).alloc _;have Q:Hid (Bx (((w.alloc (.cells (raC A c n Z c2 d) 86)).alloc (.cells (raN A3 c3 m A4 c4 d) 86)).alloc (.cells zCc 86)) (w.heap.size+1) (raN A3 c3 m A4 c4 d) 86):=(Bx.new1 _ _ _ _).alloc _;have HZ0:Hid (Bx (((w.alloc (.cells (raC A c n Z c2 d) 86)).alloc (.cells (raN A3 c3 m A4 c4 d) 86)).alloc (.cells zCc 86)) (w.heap.size+1+1) zCc 86):=Bx.new2 _ _ _ _ _;have HB0:Hid (Below w.heap.size w (((w.alloc (.cells (raC A c n Z c2 d) 86)).alloc (.cells (raN A3 c3 m A4 c4 d) 86)).alloc (.cells zCc 86))):=(((aR w.heap.size w).alloc (aK _) _).alloc ze _).alloc zg _;obtain⟨W,hW⟩:∃W,W=(((w.alloc (.cells (raC A c n Z c2 d) 86)).alloc (.cells (raN A3 c3 m A4 c4 d) 86)).alloc (.cells zCc 86)):=⟨_,rfl⟩;have g1:Nt W A c n:=ym;have g2:Nt W Z c2 d:=yi;have g3:Nt W A3 c3 m:=yj;have g4:Nt W A4 c4 d:=yk;rw[<-hW]at G Q HZ0 HB0;clear J hd _hm he hd0 he0 _hm0
 go_enter Tryz.func100,Tryz.ntmps100;(go_wp2_with fail);rw[<-hW];clear hW;obtain⟨x0,x1,x2⟩:=G.o.t;obtain⟨y0,y1,y2⟩:=Q.o.t;have z0:=HZ0.o.frozen;have z1:=HZ0.o.lt;(go_wp2_with fail);(with_reducible refine(HC.o _ g2 g4).mono ?_);rintro e0 w0⟨rfl,nd,rfl⟩;clear x0 x1 x2 y0 y1 y2 z0 z1;have HX:=zq (G.o.drewN (nd+1));have HY:=zq (Q.o.drewN (nd+1));have HZ:=zq (HZ0.o.drewN (nd+1));have HB:=zq (zAb HB0.o (nd+1));obtain⟨x0,x1,x2⟩:=HX.o.t;obtain⟨y0,y1,y2⟩:=HY.o.t;clear G Q HZ0 HB0;go_wp2
 go_region_held3 (fun w'=>(w'.cell? ⟨w.heap.size,0,none⟩=some (.bool false)/\w'.cell? ⟨w.heap.size,1,none⟩=some (.slice A (zAc H n).length c)/\w'.cell? ⟨w.heap.size,2,none⟩=some (.slice Z (zAc H d).length c2))/\(w'.cell? ⟨w.heap.size+1,0,none⟩=some (.bool true)/\w'.cell? ⟨w.heap.size+1,1,none⟩=some (.slice A3 (zAc H m).length c3)/\w'.cell? ⟨w.heap.size+1,2,none⟩=some (.slice A4 (zAc H d).length c4)))
  ((refine⟨⟨?_,?_,?_⟩,?_,?_,?_⟩<;>first|with_reducible assumption|go_simp))
  (first
   |((go_at_call 165;(with_reducible refine(HA.o _ (g1.drewN (nd+1)) (g3.drewN (nd+1))).mono ?_);rintro e1 w1⟨A5,c5,rfl,h5,hb1⟩;have X:=zq (HX.o.below hb1);have HY1:=zq (HY.o.below hb1);have HZ1:=zq (HZ.o.below hb1);have HB1:=zq (HB.o.trans (hb1.mono HB.o.size));have g21:=(g2.drewN (nd+1)).below hb1;obtain⟨a0,a1,a2⟩:=X.o.t;obtain⟨b0,b1,b2⟩:=HY1.o.t;clear hb1))
   |((go_at_call 164;(with_reducible refine(HO.o _ _ _ h5 g21).mono ?_);rintro e2 w2⟨A6,c6,A7,c7,rfl,h6,h7,D⟩;have HX2:=zq (X.o.below D);have HY2:=zq (HY1.o.below D);have HZ2:=zq (HZ1.o.below D);have HB2:=zq (zAa HB1.o D);clear a0 a1 a2 b0 b1 b2;obtain⟨a0,a1,a2⟩:=HX2.o.t;obtain⟨b0,b1,b2⟩:=HY2.o.t;obtain⟨r0,r1,r2⟩:=HZ2.o.t;have fr:=HZ2.o.frozen;have rl:=HZ2.o.lt;clear D)))
 clear HX HY HZ HB;go_wp2;refine aC (v:=raV false A6 c6 pp A7 c7 pq) qg rfl ⟨A6,c6,A7,c7,rfl,h6.setR HZ2.o _ _ _,h7.setR HZ2.o _ _ _,?_⟩
 exact((HB2.o.setCell zg _).setCell zg _).setCell zg _
theorem RAddN_diff(A Z A3 A4:OA)(c c2 c3 c4 n d m e:Nat)(w:World)(h:Nt w A c n)(h2:Nt w Z c2 d)(h3:Nt w A3 c3 m)(h4:Nt w A4 c4 e)(J:(zAc H n).length<=100000000)(hd:(zAc H d).length<=100000000)(hm:(zAc H m).length<=100000000)(he:(zAc H e).length<=100000000)(hd0:0<d)(he0:0<e)(hm0:m≠0)(hle:m*d<=n*e)(hde:d≠e): Calls Tryz.prog 100 #[raV false A c n Z c2 d,raV true A3 c3 m A4 c4 e] w (zCz false (subP (n,d) (m,e)).1 (subP (n,d) (m,e)).2 w):=by
 have HC:=zq (fun W (x:Nt W Z c2 d) (y:Nt W A4 c4 e)=>Cmp_c Z A4 c2 c4 d e W x y za)
 have hk:(zDj d e == 0)=false:=by
  exact tei
 have l1:=zDb n e;have l2:=zDb m d;have l3:=zDb d e;have l4:=zAw zAC (Nat.sub_le (n*e) (m*d));have HM1:=zq (fun W (x:Nt W A c n) (y:Nt W A4 c4 e)=>IMul_c A A4 c c4 n e W x y za za);have HM2:=zq (fun W (x:Nt W A3 c3 m) (y:Nt W Z c2 d)=>IMulN_c A3 Z c3 c2 m d W x y za za);rw[show decide (m*d≠0)=true from aD (aT hm0 za)]at HM2;have HM3:=zq (fun W (x:Nt W Z c2 d) (y:Nt W A4 c4 e)=>Mul_c Z A4 c2 c4 d e W x y za za);have HA:=zq (fun A5 c5 A6 c6 W (x:Nt W A5 c5 (n*e)) (y:Nt W A6 c6 (m*d))=>IAddN_c A5 A6 c5 c6 (n*e) (m*d) W x y za hle);have HO:=zq (fun A5 c5 A6 c6 W (x:Nt W A5 c5 (n*e-m*d)) (y:Nt W A6 c6 (d*e))=>Over_c A5 A6 c5 c6 (n*e-m*d) (d*e) false W x y (dZ hd0 he0) za za);simp only[eK]at HO;have hap:subP (n,d) (m,e)=zBX (n*e-m*d) (d*e):=rfl;rw[hap];clear hap l1 l2 l3 l4 hle hm0;generalize (zBX (n*e-m*d) (d*e)).1=pp at *;generalize (zBX (n*e-m*d) (d*e)).2=pq at *;generalize n*e=p1 at *;generalize m*d=p2 at *;generalize d*e=p3 at *;generalize p1-p2=p4 at *;generalize zDj d e=cz at *;have G:Hid (Bx (((w.alloc (.cells (raC A c n Z c2 d) 86)).alloc (.cells (raN A3 c3 m A4 c4 e) 86)).alloc (.cells zCc 86)) w.heap.size (raC A c n Z c2 d) 86):=((Bx.new _ _ _).alloc _).alloc _;have Q:Hid (Bx (((w.alloc (.cells (raC A c n Z c2 d) 86)).alloc (.cells (raN A3 c3 m A4 c4 e) 86)).alloc (.cells zCc 86)) (w.heap.size+1) (raN A3 c3 m A4 c4 e) 86):=(Bx.new1 _ _ _ _).alloc _;have HZ0:Hid (Bx (((w.alloc (.cells (raC A c n Z c2 d) 86)).alloc (.cells (raN A3 c3 m A4 c4 e) 86)).alloc (.cells zCc 86)) (w.heap.size+1+1) zCc 86):=Bx.new2 _ _ _ _ _;have HB0:Hid (Below w.heap.size w (((w.alloc (.cells (raC A c n Z c2 d) 86)).alloc (.cells (raN A3 c3 m A4 c4 e) 86)).alloc (.cells zCc 86))):=(((aR w.heap.size w).alloc (aK _) _).alloc ze _).alloc zg _;obtain⟨W,hW⟩:∃W,W=(((w.alloc (.cells (raC A c n Z c2 d) 86)).alloc (.cells (raN A3 c3 m A4 c4 e) 86)).alloc (.cells zCc 86)):=⟨_,rfl⟩;have g1:Nt W A c n:=ym;have g2:Nt W Z c2 d:=yi;have g3:Nt W A3 c3 m:=yj;have g4:Nt W A4 c4 e:=yk;rw[<-hW]at G Q HZ0 HB0;clear J hd hm he hd0 he0 hde
 go_enter Tryz.func100,Tryz.ntmps100;(go_wp2_with fail);rw[<-hW];clear hW;obtain⟨x0,x1,x2⟩:=G.o.t;obtain⟨y0,y1,y2⟩:=Q.o.t;have z0:=HZ0.o.frozen;have z1:=HZ0.o.lt;(go_wp2_with fail);(with_reducible refine(HC.o _ g2 g4).mono ?_);rintro e0 w0⟨rfl,nd,rfl⟩;clear x0 x1 x2 y0 y1 y2 z0 z1;have HX:=zq (G.o.drewN (nd+1));have HY:=zq (Q.o.drewN (nd+1));have HZ:=zq (HZ0.o.drewN (nd+1));have HB:=zq (zAb HB0.o (nd+1));obtain⟨x0,x1,x2⟩:=HX.o.t;obtain⟨y0,y1,y2⟩:=HY.o.t;clear G Q HZ0 HB0;go_wp2
 go_region_held3 (fun w'=>(w'.cell? ⟨w.heap.size,0,none⟩=some (.bool false)/\w'.cell? ⟨w.heap.size,1,none⟩=some (.slice A (zAc H n).length c)/\w'.cell? ⟨w.heap.size,2,none⟩=some (.slice Z (zAc H d).length c2))/\(w'.cell? ⟨w.heap.size+1,0,none⟩=some (.bool true)/\w'.cell? ⟨w.heap.size+1,1,none⟩=some (.slice A3 (zAc H m).length c3)/\w'.cell? ⟨w.heap.size+1,2,none⟩=some (.slice A4 (zAc H e).length c4)))
  ((refine⟨⟨?_,?_,?_⟩,?_,?_,?_⟩<;>first|with_reducible assumption|go_simp))
  (first
   |((go_at_call 101;(with_reducible refine(HM1.o _ (g1.drewN (nd+1)) (g4.drewN (nd+1))).mono ?_);rintro e1 w1⟨A5,c5,rfl,h5,hb1⟩;have X:=zq (HX.o.below hb1);have HY1:=zq (HY.o.below hb1);have HZ1:=zq (HZ.o.below hb1);have HB1:=zq (HB.o.trans (hb1.mono HB.o.size));have g21:=(g2.drewN (nd+1)).below hb1;have g31:=(g3.drewN (nd+1)).below hb1;have g41:=(g4.drewN (nd+1)).below hb1;obtain⟨a0,a1,a2⟩:=X.o.t;obtain⟨b0,b1,b2⟩:=HY1.o.t;clear hb1))
   |((go_at_call 101;(with_reducible refine(HM2.o _ g31 g21).mono ?_);rintro e2 w2⟨A6,c6,rfl,h6,D⟩;have HX2:=zq (X.o.below D);have HY2:=zq (HY1.o.below D);have HZ2:=zq (HZ1.o.below D);have HB2:=zq (zAa HB1.o D);have h52:=h5.below D;have g22:=g21.below D;have g42:=g41.below D;clear a0 a1 a2 b0 b1 b2;obtain⟨a0,a1,a2⟩:=HX2.o.t;obtain⟨b0,b1,b2⟩:=HY2.o.t;clear D))
   |((go_at_call 165;(with_reducible refine(HA.o _ _ _ _ _ h52 h6).mono ?_);rintro e3 w3⟨A7,c7,rfl,h7,hb3⟩;have HX3:=zq (HX2.o.below hb3);have HY3:=zq (HY2.o.below hb3);have HZ3:=zq (HZ2.o.below hb3);have HB3:=zq (zAa HB2.o hb3);have g23:=g22.below hb3;have g43:=g42.below hb3;clear a0 a1 a2 b0 b1 b2;obtain⟨a0,a1,a2⟩:=HX3.o.t;obtain⟨b0,b1,b2⟩:=HY3.o.t;clear hb3))
   |((go_at_call 166;(with_reducible refine(HM3.o _ g23 g43).mono ?_);rintro e4 w4⟨A8,c8,rfl,h8,hb4⟩;have HX4:=zq (HX3.o.below hb4);have HY4:=zq (HY3.o.below hb4);have HZ4:=zq (HZ3.o.below hb4);have HB4:=zq (zAa HB3.o hb4);have h74:=h7.below hb4;clear a0 a1 a2 b0 b1 b2;obtain⟨a0,a1,a2⟩:=HX4.o.t;obtain⟨b0,b1,b2⟩:=HY4.o.t;clear hb4))
   |((go_at_call 164;(with_reducible refine(HO.o _ _ _ _ _ h74 h8).mono ?_);rintro e5 w5⟨A9,c9,AD,cE,rfl,h9,hF,hb5⟩;have HX5:=zq (HX4.o.below hb5);have HY5:=zq (HY4.o.below hb5);have HZ5:=zq (HZ4.o.below hb5);have HB5:=zq (zAa HB4.o hb5);clear a0 a1 a2 b0 b1 b2;obtain⟨a0,a1,a2⟩:=HX5.o.t;obtain⟨b0,b1,b2⟩:=HY5.o.t;obtain⟨r0,r1,r2⟩:=HZ5.o.t;have fr:=HZ5.o.frozen;have rl:=HZ5.o.lt;clear hb5)))
 clear HX HY HZ HB;go_wp2;refine aC (v:=raV false A9 c9 pp AD cE pq) qg rfl ⟨A9,c9,AD,cE,rfl,h9.setR HZ5.o _ _ _,hF.setR HZ5.o _ _ _,?_⟩
 exact((HB5.o.setCell zg _).setCell zg _).setCell zg _
theorem RAddN_c(A Z A3 A4:OA)(c c2 c3 c4 n d m e:Nat)(w:World)(h:Nt w A c n)(h2:Nt w Z c2 d)(h3:Nt w A3 c3 m)(h4:Nt w A4 c4 e)(J:(zAc H n).length<=100000000)(hd:(zAc H d).length<=100000000)(hm:(zAc H m).length<=100000000)(he:(zAc H e).length<=100000000)(hd0:0<d)(he0:0<e)(hm0:m≠0)(hle:m*d<=n*e): Calls Tryz.prog 100 #[raV false A c n Z c2 d,raV true A3 c3 m A4 c4 e] w (zCz false (subP (n,d) (m,e)).1 (subP (n,d) (m,e)).2 w):=by
 by_cases hde:d=e
 ·exact RAddN_same A Z A3 A4 c c2 c3 c4 n d m e w h h2 h3 h4 J hd hm he hd0 he0 hm0 hle hde
 ·exact RAddN_diff A Z A3 A4 c c2 c3 c4 n d m e w h h2 h3 h4 J hd hm he hd0 he0 hm0 hle hde
end Go.Proofs.YtbbchlpccgkikaaGreatDoor
namespace Go.Proofs.YtbbchlpccgkikaaGreatDoor
open Dw
abbrev zBq:=BA->Rat
def upH(f:zBq)(p:BA)(x:Rat):zBq:=fun q=>if q=p then x else f q
theorem zBH(f:zBq)(p:BA)(x:Rat):upH f p x p=x:=aF rfl
theorem zAM(f:zBq){p q:BA}(x:Rat)(h:q≠p):upH f p x q=f q:=aO h
def zDk(nu de:BA):Rat:=mkRat (zAy (zAU nu):Int) (zAy de)
def shQ(s:Sh):Rat:=zDk s.nu s.de
def zAl(l:List Sh)(f:zBq):zBq:=l.foldl (fun g s=>upH g s.pt (shQ s)) f
def orgB(th:BA)(day:Int)(d:De):Bool:=decide (d.kd=1)&&(decide (d.th=th)&&decide (d.bg<=day))
def orgF(th:BA)(day:Int)(f:zBq)(d:De):zBq:=if orgB th day d=true then zAl d.sh f else f
def zBx(has:Rat)(l:List Sh)(f:zBq):zBq:=l.foldl (fun g s=>upH g s.pt (g s.pt+has*shQ s)) f
def giveF(d:De)(f:zBq):zBq:=upH (upH f d.fr (f d.fr-f d.fr*zDk d.nu d.de)) d.to_ (upH f d.fr (f d.fr-f d.fr*zDk d.nu d.de) d.to_+f d.fr*zDk d.nu d.de)
def zCO(d:De)(f:zBq):zBq:=if d.kd=5 then zBx (f d.fr) d.sh (upH f d.fr 0) else giveF d f
def zCZ(V:List Rg)(U:List De)(i:Nat)(th S:BA)(day:Int)(d:De):Bool:=
 if d.kd=2 then decide (d.th=th)&&vB V U i S day d else if d.kd=5 then decide (d.bg<=day) else false
def zDz(mv:De->Bool)(f:zBq)(d:De):zBq:=if mv d=true then zCO d f else f
def zDh(th:BA)(day:Int)(U:List De):zBq:=U.foldl (orgF th day) (fun _=>0)
def zAs(V:List Rg)(U:List De)(i:Nat)(th S:BA)(day:Int)(n:Nat):zBq:=(U.take n).foldl (zDz (zCZ V U i th S day)) (zDh th day U)
def longQ(q:Rat):Bool:=decide (10^2000<=q.num.natAbs) || decide (10^2000<=q.den)
def sumF(N:List BA)(f:zBq):Rat:=N.foldr (fun p s=>f p+s) 0
theorem sumF_nil(f:zBq):sumF [] f=0:=rfl
theorem zCY(p:BA)(N:List BA)(f:zBq):sumF (p::N) f=f p+sumF N f:=rfl
theorem sumF_congr{N:List BA}{f g:zBq}(h:∀p∈N,f p=g p):sumF N f=sumF N g:=by
 induction N with
 |nil=>rfl
 |cons p N ih=>rw[zCY,zCY,h p cS,ih fun q hq=>h q (cR _ hq)]
theorem sumF_up{N:List BA}(J:N.Nodup){p:BA}(hp:p∈N)(f:zBq)(x:Rat):sumF N (upH f p x)=sumF N f-f p+x:=by
 induction N with
 |nil=>cases hp
 |cons a N ih =>
  obtain⟨h1,h2⟩:=List.nodup_cons.1 J;rw[zCY,zCY]
  by_cases ha:a=p
  ·subst ha
   rw[zBH,sumF_congr (f:=upH f a x) (g:=f) fun q hq=>zAM f x (fun e=>h1 (by rw[<-e];exact hq))]
   grind
  ·rw[zAM f x ha,ih h2 ((List.mem_cons.1 hp).resolve_left fun e=>ha e.symm)]
   grind
theorem sumF_zero(N:List BA):sumF N (fun _=>0)=0:=by
 induction N with
 |nil=>rfl
 |cons p N ih=>rw[zCY,ih];grind
def zBT(l:List Sh):Rat:=l.foldr (fun s t=>shQ s+t) 0
theorem sumF_pass{N:List BA}(J:N.Nodup)(has:Rat):∀(l:List Sh)(f:zBq),(∀s∈l,s.pt∈N)->sumF N (zBx has l f)=sumF N f+has*zBT l
 |[],f,_=>by show sumF N f=sumF N f+has*0;grind
 |s::l,f,h=>by
  have ih:=sumF_pass J has l (upH f s.pt (f s.pt+has*shQ s)) fun t ht=>h t (cR _ ht)
  show sumF N (zBx has l (upH f s.pt (f s.pt+has*shQ s)))=_
  rw[ih,sumF_up J (h s cS)];show _=sumF N f+has*(shQ s+zBT l)
  grind
theorem sumF_give{N:List BA}(J:N.Nodup)(d:De)(f:zBq)(h1:d.fr∈N)(h2:d.to_∈N):sumF N (giveF d f)=sumF N f:=by
 unfold giveF;rw[sumF_up J h2,sumF_up J h1]
 grind
theorem sumF_take{N:List BA}(J:N.Nodup)(d:De)(f:zBq)(h1:d.fr∈N)(h2:d.kd≠5->d.to_∈N)(h3:d.kd=5->∀s∈d.sh,s.pt∈N)(h4:d.kd=5->zBT d.sh=1):sumF N (zCO d f)=sumF N f:=by
 unfold zCO
 by_cases hk:d.kd=5
 ·rw[aF hk,sumF_pass J _ _ _ (h3 hk),sumF_up J h1,h4 hk]
  grind
 ·rw[aO hk,sumF_give J d f h1 (h2 hk)]
theorem sumF_put{N:List BA}(J:N.Nodup):∀(l:List Sh)(f:zBq),(∀s∈l,s.pt∈N)->(l.map Sh.pt).Nodup->(∀s∈l,f s.pt=0)->sumF N (zAl l f)=sumF N f+zBT l
 |[],f,_,_,_=>by show sumF N f=sumF N f+0;grind
 |s::l,f,h,hd,h0=>by
  rw[aZ]at hd;obtain⟨h1,h2⟩:=List.nodup_cons.1 hd
  have ih:=sumF_put J l (upH f s.pt (shQ s)) (fun t ht=>h t (cR _ ht)) h2 (fun t ht=>by
   rw[zAM _ _ (fun e=>h1 (by rw[<-e];exact bJ ht))];exact h0 t (cR _ ht))
  show sumF N (zAl l (upH f s.pt (shQ s)))=_
  rw[ih,sumF_up J (h s cS),h0 s cS];show _=sumF N f+(shQ s+zBT l)
  grind
structure HoldOk (N:List BA) (f:zBq):Prop where
 pos:∀p,0<=f p
 out:∀p,p∉N->f p=0
theorem zEn(nu de:BA):0<=zDk nu de:=by
 unfold zDk;exact tcv
theorem shQ_pos(s:Sh):0<=shQ s:=zEn _ _
section
variable {N:List BA} {f:zBq}
theorem HoldOk.up(h:HoldOk N f){p:BA}{x:Rat}(hp:p∈N)(hx:0<=x):HoldOk N (upH f p x):=
 ⟨fun q=>by
  by_cases hq:q=p
  ·subst hq;rw[zBH];exact hx
  ·rw[zAM _ _ hq];exact h.pos q,
  fun q hq=>by rw[zAM _ _ (fun e=>hq (by rw[e];exact hp))];exact h.out q hq⟩
theorem HoldOk.put:∀(l:List Sh)(f:zBq),HoldOk N f->(∀s∈l,s.pt∈N)->HoldOk N (zAl l f)
 |[],_,h,_=>h
 |s::l,f,h,hs=>HoldOk.put l (upH f s.pt (shQ s)) (h.up (hs s cS) (shQ_pos s)) fun t ht=>hs t (cR _ ht)
theorem HoldOk.pass{has:Rat}(hh:0<=has):∀(l:List Sh)(f:zBq),HoldOk N f->(∀s∈l,s.pt∈N)->HoldOk N (zBx has l f)
 |[],_,h,_=>h
 |s::l,f,h,hs=>HoldOk.pass hh l (upH f s.pt (f s.pt+has*shQ s)) (h.up (hs s cS) (by
   have:=h.pos s.pt;have:=Rat.mul_nonneg hh (shQ_pos s)
   grind)) fun t ht=>hs t (cR _ ht)
theorem part_le{a q:Rat}(ha:0<=a)(hq:q<=1):0<=a-a*q:=by
 have:=fC hq ha
 grind
theorem HoldOk.give(h:HoldOk N f)(d:De)(h1:d.fr∈N)(h2:d.to_∈N)(hq:zDk d.nu d.de<=1):HoldOk N (giveF d f):=by
 unfold giveF;have k1:HoldOk N (upH f d.fr (f d.fr-f d.fr*zDk d.nu d.de)):=h.up h1 (part_le (h.pos _) hq);refine k1.up h2 ?_;have a:=k1.pos d.to_;have b:=Rat.mul_nonneg (h.pos d.fr) (zEn d.nu d.de)
 grind
theorem HoldOk.take(h:HoldOk N f)(d:De)(h1:d.fr∈N)(h2:d.kd≠5->d.to_∈N)(h3:d.kd=5->∀s∈d.sh,s.pt∈N)(hq:d.kd≠5->zDk d.nu d.de<=1):HoldOk N (zCO d f):=by
 unfold zCO
 by_cases hk:d.kd=5
 ·rw[aF hk];exact HoldOk.pass (h.pos _) _ _ (h.up h1 (by grind)) (h3 hk)
 ·rw[aO hk];exact h.give d h1 (h2 hk) (hq hk)
end
def zDT(p:BA):List BA->List BA
 |[]=>[p]
 |a::l=>if a=p then a::l else if slt p a=true then p::a::l else a::zDT p l
def IncN(l:List BA):Prop:=l.Pairwise fun a b=>slt a b=true
theorem zBG{p q:BA}:∀{l:List BA},q∈zDT p l↔q=p\/q∈l
 |[]=>by simp[zDT]
 |a::l=>by
  unfold zDT
  split
  ·next h=>subst h;simp
  ·split
   ·simp
   ·rw[fD,zBG (l:=l),fD]
    constructor
    ·rintro(h|h|h)<;>simp[h]
    ·rintro(h|h|h)<;>simp[h]
theorem slt_of_ne{a b:BA}(h:a≠b)(h2:slt b a=false):slt a b=true:=by
 cases hs:sle b a with
 |false=>exact zBD hs
 |true =>
  exfalso;have h3:(slt b a || b.toList == a.toList)=true:=hs;rw[h2,Bool.false_or]at h3;exact h (str_eq h3).symm
theorem IncN.ins{p:BA}:∀{l:List BA},IncN l->IncN (zDT p l)
 |[],_=>by simp[zDT,IncN]
 |a::l,h=>by
  obtain⟨h1,h2⟩:=List.pairwise_cons.1 h;unfold zDT
  split
  ·exact h
  ·next hne =>
   split
   ·next Y =>
    refine List.pairwise_cons.2 ⟨fun b I=>?_,h⟩
    rcases List.mem_cons.1 I with rfl|I
    ·exact Y
    ·exact zDZ Y (h1 b I)
   ·next Y =>
    refine List.pairwise_cons.2 ⟨fun b I=>?_,IncN.ins h2⟩
    rcases zBG.1 I with rfl|I
    ·exact slt_of_ne hne (by simpa using Y)
    ·exact h1 b I
theorem IncN.nodup{l:List BA}(h:IncN l):l.Nodup:=h.imp fun h=>zCV h
theorem slt_irr(a:BA):slt a a=false:=by
 cases h:slt a a with
 |false=>rfl
 |true=>exact absurd rfl (zCV h)
theorem incN_ext:∀{l m:List BA},IncN l->IncN m->(∀x,x∈l↔x∈m)->l=m
 |[],[],_,_,_=>rfl
 |[],b::m,_,_,h=>absurd ((h b).2 cS) ze
 |a::l,[],_,_,h=>absurd ((h a).1 cS) ze
 |a::l,b::m,h1,h2,h=>by
  obtain⟨k1,k2⟩:=List.pairwise_cons.1 h1;obtain⟨k3,k4⟩:=List.pairwise_cons.1 h2
  have hab:a=b:=by
   rcases List.mem_cons.1 ((h a).1 cS)with e|e
   ·exact e
   ·rcases List.mem_cons.1 ((h b).2 cS)with e2|e2
    ·exact e2.symm
    ·have:=zDZ (k1 b e2) (k3 a e)
     rw[slt_irr]at this
     cases this
  subst hab
  congr 1
  refine incN_ext k2 k4 fun x=>?_
  have hx:=h x;rw[fD,fD]at hx
  constructor
  ·intro hm
   rcases hx.1 (.inr hm)with e|e
   ·subst e;exact absurd rfl (zCV (k1 x hm))
   ·exact e
  ·intro hm
   rcases hx.2 (.inr hm)with e|e
   ·subst e;exact absurd rfl (zCV (k3 x hm))
   ·exact e
def zBb(l:List Sh)(K:List BA):List BA:=l.foldl (fun K s=>zDT s.pt K) K
def zAK(th:BA)(day:Int)(K:List BA)(d:De):List BA:=if orgB th day d=true then zBb d.sh K else K
def zAz(d:De)(K:List BA):List BA:=if d.kd=5 then zBb d.sh (zDT d.fr K) else zDT d.to_ (zDT d.fr K)
def zAW(mv:De->Bool)(K:List BA)(d:De):List BA:=if mv d=true then zAz d K else K
def zDV(th:BA)(day:Int)(U:List De):List BA:=U.foldl (zAK th day) []
def zBk(V:List Rg)(U:List De)(i:Nat)(th S:BA)(day:Int)(n:Nat):List BA:=(U.take n).foldl (zAW (zCZ V U i th S day)) (zDV th day U)
theorem zDq:∀(l:List Sh){K:List BA},IncN K->IncN (zBb l K)
 |[],_,h=>h
 |_::l,_,h=>zDq l h.ins
theorem zBC:∀(l:List Sh){K:List BA}{q:BA},q∈zBb l K↔(∃s∈l,s.pt=q)\/q∈K
 |[],K,q=>by simp[zBb]
 |s::l,K,q=>by
  show q∈zBb l (zDT s.pt K)↔_
  rw[zBC l,zBG]
  constructor
  ·rintro(⟨t,ht,e⟩|e|h)
   ·exact .inl ⟨t,cR _ ht,e⟩
   ·exact .inl ⟨s,cS,e.symm⟩
   ·exact .inr h
  ·rintro(⟨t,ht,e⟩|h)
   ·rcases List.mem_cons.1 ht with rfl|ht
    ·exact .inr (.inl e.symm)
    ·exact .inl ⟨t,ht,e⟩
   ·exact .inr (.inr h)
theorem zCT(d:De){K:List BA}(h:IncN K):IncN (zAz d K):=by
 unfold zAz
 split
 ·exact zDq _ h.ins
 ·exact h.ins.ins
theorem HoldOk.mono{N M:List BA}{f:zBq}(h:HoldOk N f)(hs:∀p∈N,p∈M):HoldOk M f:=⟨h.pos,fun p hp=>h.out p fun hm=>hp (hs p hm)⟩
theorem HoldOk.takeK{K:List BA}{f:zBq}(h:HoldOk K f)(d:De)(hq:d.kd≠5->zDk d.nu d.de<=1):HoldOk (zAz d K) (zCO d f):=by
 have hs:∀p∈K,p∈zAz d K:=fun p hp=>by
  exact tc6
 have h1:d.fr∈zAz d K:=by
  exact tc4
 refine(h.mono hs).take d h1 (fun hk=>?_) (fun hk s hs=>?_) hq
 ·unfold zAz
  rw[aO hk];exact zBG.2 (.inl rfl)
 ·unfold zAz
  exact tfk
theorem HoldOk.orgK{K:List BA}{f:zBq}(h:HoldOk K f)(th:BA)(day:Int)(d:De):HoldOk (zAK th day K d) (orgF th day f d):=by
 unfold zAK orgF
 split
 ·exact HoldOk.put _ _ (h.mono fun p hp=>(zBC _).2 (.inr hp)) fun s hs=>(zBC _).2 (.inl ⟨s,hs,rfl⟩)
 ·exact h
theorem keysOrg_inc(th:BA)(day:Int)(d:De){K:List BA}(h:IncN K):IncN (zAK th day K d):=by
 unfold zAK
 split
 ·exact zDq _ h
 ·exact h
theorem start_ok(th:BA)(day:Int):∀(U:List De)(K:List BA)(f:zBq),IncN K->HoldOk K f->IncN (U.foldl (zAK th day) K)/\HoldOk (U.foldl (zAK th day) K) (U.foldl (orgF th day) f)
 |[],_,_,h1,h2=>⟨h1,h2⟩
 |d::U,K,f,h1,h2=>start_ok th day U (zAK th day K d) (orgF th day f d) (keysOrg_inc th day d h1) (h2.orgK th day d)
theorem steps_ok(mv:De->Bool):∀(U:List De)(K:List BA)(f:zBq),(∀d∈U,mv d=true->d.kd≠5->zDk d.nu d.de<=1)->IncN K->HoldOk K f -> IncN (U.foldl (zAW mv) K)/\HoldOk (U.foldl (zAW mv) K) (U.foldl (zDz mv) f)
 |[],_,_,_,h1,h2=>⟨h1,h2⟩
 |d::U,K,f,hq,h1,h2=>by
  refine steps_ok mv U (zAW mv K d) (zDz mv f d) (fun e he=>hq e (cR _ he)) ?_ ?_
  ·unfold zAW
   split
   ·exact zCT d h1
   ·exact h1
  ·unfold zAW zDz
   split
   ·next hm=>exact h2.takeK d (hq d cS hm)
   ·exact h2
theorem hold_none:HoldOk [] (fun _=>0):=⟨fun _=>zd,fun _ _=>rfl⟩
def holL(K:List BA)(f:zBq):List BA:=K.filter fun p=>decide (f p≠0)
theorem holL_inc{K:List BA}{f:zBq}(h:IncN K):IncN (holL K f):=List.Pairwise.filter _ h
theorem holL_mem{K:List BA}{f:zBq}(h:HoldOk K f){p:BA}:p∈holL K f↔f p≠0:=by
 unfold holL;rw[List.mem_filter]
 constructor
 ·exact fun hp=>by simpa using hp.2
 ·intro hp
  refine⟨?_,by simpa using hp⟩
  refine bY fun J=>hp (h.out p J)
theorem holL_uniq{K M:List BA}{f:zBq}(hk:IncN K)(hm:IncN M)(h1:HoldOk K f)(h2:HoldOk M f):holL K f=holL M f:=
 incN_ext (holL_inc hk) (holL_inc hm) fun _=>by rw[holL_mem h1,holL_mem h2]
def toQ(p:Nat×Nat):Rat:=mkRat (p.1:Int) p.2
theorem toQ_low{n d:Nat}(hd:0<d):toQ (zBX n d)=mkRat (n:Int) d:=by
 have hg:0<Nat.gcd n d:=eI _ hd;have h1:=Nat.div_mul_cancel (Nat.gcd_dvd_left n d);have h2:=Nat.div_mul_cancel (Nat.gcd_dvd_right n d)
 have h3:d/Nat.gcd n d≠0:=by
  intro h;rw[h]at h2;omega
 unfold toQ zBX;rw[Rat.mkRat_eq_iff h3 za]
 have:n/Nat.gcd n d*d=n*(d/Nat.gcd n d):=by
  clear h3;generalize Nat.gcd n d=g at *
  calc n/g*d=n/g*(d/g*g):=by rw[h2]
   _=(n/g*g)*(d/g):=by rw[cW,cV g]
   _=n*(d/g):=by rw[h1]
 exact_mod_cast this
theorem toQ_add{p q:Nat×Nat}(hp:0<p.2)(hq:0<q.2):toQ (addP p q)=toQ p+toQ q:=by
 unfold addP;rw[toQ_low (dZ hp hq)];unfold toQ;rw[Rat.mkRat_add_mkRat _ _ za za];simp
theorem addP_pos{p q:Nat×Nat}(hp:0<p.2)(hq:0<q.2):0<(addP p q).2:=by
 have hd:=dZ hp hq;exact Nat.div_pos (Nat.le_of_dvd hd (Nat.gcd_dvd_right _ _)) (eI _ hd)
theorem sumP_toQ{l:List Sh}(h:∀s∈l,0<zAy s.de):∀k,k<=l.length->0<(zCF l k).2/\toQ (zCF l k)=zBT (l.take k)
 |0,_=>⟨ja,by rw[sumP_zero];rfl⟩
 |k+1,hk=>by
  obtain⟨h1,h2⟩:=sumP_toQ h k za;have hs:=h _ (aH (show k<l.length by omega));rw[sumP_succ (show k<l.length by omega)];refine⟨addP_pos h1 hs,?_⟩
  rw[toQ_add h1 hs,h2,aG (show k<l.length by omega)]
  have e:∀(m:List Sh)(s:Sh),zBT (m++[s])=zBT m+shQ s:=fun m s=>by
   induction m with
   |nil=>show shQ s+0=0+shQ s;grind
   |cons a m ih=>show shQ a+zBT (m++[s])=shQ a+zBT m+shQ s;rw[ih];grind
  rw[e]
  rfl
structure ShsOk (l:List Sh):Prop where
 nd:(l.map Sh.pt).Nodup
 nm:∀s∈l,zBw s.pt=true
 rat:∀s∈l,zDg s.nu s.de=0
 pos:∀s∈l,posB s.nu=true
theorem pts_inc{l:List Sh}(h:∀i (hi:i+1<l.length),slt l[i].pt l[i+1].pt=true):(l.map Sh.pt).Nodup:=by
 have:=inc_pair (l:=l.map Sh.pt) (fun i hi=>by
  have h9:=h i qz
  simpa using h9)
 exact this.imp fun h=>zCV h
theorem shF_ok{k:Int}{l:List Sh}(h:shF k l=0):ShsOk l/\(zCF l l.length).1<=(zCF l l.length).2/\(k=5->(zCF l l.length).1=(zCF l l.length).2):=by
 unfold shF at h
 split at h
 ·cases h
 split at h
 ·cases h
 have key:∀i f,zAS l i=some f->f≠0:=fun i f hf=>by
  unfold zAS at hf
  split at hf
  ·cases hf;simp
  ·split at hf
   ·cases hf;simp
   ·split at hf
    ·next h1=>cases hf;exact h1
    ·split at hf
     ·cases hf;simp
     ·cases hf
 split at h
 ·next f hf =>
  exfalso;obtain⟨i,_,hi⟩:=List.exists_of_findSome?_eq_some hf;exact key i f hi h
 next J =>
 rw[List.findSome?_eq_none_iff]at J
 have F:∀i (hi:i<l.length),zBw l[i].pt=true/\(0<i->sle l[i].pt (l[i-1]'(by omega)).pt=false)/\zDg l[i].nu l[i].de=0/\posB l[i].nu=true:=fun i hi=>by
  have:=J i qz;unfold zAS at this;rw[zEl hi,zEl (show i-1<l.length by omega),shD_of hi]at this
  split at this
  ·cases this
  next h1 =>
  split at this
  ·cases this
  next h2 =>
  split at this
  ·cases this
  next h3 =>
  split at this
  ·cases this
  next h4 =>
  refine⟨by simpa using h1,fun h0=>?_,jk,by simpa using h4⟩
  cases hs:sle l[i].pt (l[i-1]'(by omega)).pt with
  |false=>rfl
  |true=>exact absurd ⟨h0,hs⟩ h2
 refine⟨⟨pts_inc fun i hi=>zBD ?_,fun s hs=>?_,fun s hs=>?_,fun s hs=>?_⟩,?_,?_⟩
 ·have:=(F (i+1) hi).2.1 za
  simpa using this
 ·obtain⟨i,hi,rfl⟩:=bD hs;exact(F i hi).1
 ·obtain⟨i,hi,rfl⟩:=bD hs;exact(F i hi).2.2.1
 ·obtain⟨i,hi,rfl⟩:=bD hs;exact(F i hi).2.2.2
 ·split at h
  ·cases h
  ·omega
 ·split at h
  ·cases h
  ·next h9=>intro hk;omega
theorem zBV{nu de:BA}(h:zDg nu de=0):0<zAy de:=by
 obtain⟨_,h2,h3,_,_⟩:=zCn h;exact den_pos h2 h3
theorem toQ_one{p:Nat×Nat}(hp:0<p.2)(h:p.1=p.2):toQ p=1:=by
 unfold toQ;rw[h,show(1:Rat)=mkRat 1 1 from by decide,Rat.mkRat_eq_iff za za];simp
theorem toQ_le{p:Nat×Nat}(hp:0<p.2)(h:p.1<=p.2):toQ p<=1:=by
 have h1:toQ p+toQ (p.2-p.1,p.2)=1:=by
  unfold toQ;rw[Rat.mkRat_add_mkRat _ _ za za,show(1:Rat)=mkRat 1 1 from by decide,Rat.mkRat_eq_iff (Nat.ne_of_gt (dZ hp hp)) za];have:((p.2-p.1:Nat):Int)=(p.2:Int)-p.1:=za;simp only[this]
  push_cast
  grind
 have h2:0<=toQ (p.2-p.1,p.2):=by
  unfold toQ;exact tcv
 grind
theorem shs_sum{k:Int}{l:List Sh}(h:shF k l=0)(hk:k=5):zBT l=1:=by
 obtain⟨h1,_,h3⟩:=shF_ok h;obtain⟨p1,p2⟩:=sumP_toQ (fun s hs=>zBV (h1.rat s hs)) l.length (aK _);rw[aN]at p2;rw[<-p2,toQ_one p1 (h3 hk)]
theorem parF_ok{d:De}(h:parF d=0)(hk:d.kd=2):zDg d.nu d.de=0/\posB d.nu=true/\zDk d.nu d.de<=1:=by
 unfold parF at h;rw[aO (by rw[hk];simp)]at h
 split at h
 ·next h1=>exact absurd h h1
 next h1 =>
 have h1':zDg d.nu d.de=0:=by simpa using h1
 split at h
 ·cases h
 next h2 =>
 refine⟨h1',?_,?_⟩
 ·cases hp:posB d.nu with
  |true=>rfl
  |false=>exact absurd (.inl hp) h2
 ·exact toQ_le (p:=(zAy (zAU d.nu),zAy d.de)) (zBV h1') (Nat.not_lt.1 fun hl=>h2 (.inr hl))
structure ParOk (d:De):Prop where
 kd:1<=d.kd/\d.kd<=5
 org:d.kd=1->ShsOk d.sh/\d.fr=emp
 asg:d.kd=2->zDg d.nu d.de=0/\posB d.nu=true/\zDk d.nu d.de<=1/\d.fr≠d.to_
 pas:d.kd=5->ShsOk d.sh/\zBT d.sh=1/\∀s∈d.sh,s.pt≠d.fr
theorem chkD_par{V:List Rg}{us:List BA}{pre:List De}{d:De}(h:zEe V us pre d=0):ParOk d:=by
 unfold zEe at h
 split at h
 ·cases h
 split at h
 ·cases h
 split at h
 ·cases h
 split at h
 ·cases h
 split at h
 ·cases h
 next h5 =>
 split at h
 ·cases h
 next hnd =>
 simp only[zAx,Bool.not_eq_true,Bool.or_eq_false_iff,Bool.and_eq_false_iff]at hnd;obtain⟨⟨⟨⟨⟨⟨⟨⟨_,n2⟩,_⟩,_⟩,_⟩,_⟩,_⟩,_⟩,_⟩:=hnd;have hkd:1<=d.kd/\d.kd<=5:=za
 split at h
 ·next hg =>
  have hk:d.kd=2\/d.kd=3:=by unfold zAg at hg;simpa using hg
  unfold giftF at h
  split at h
  ·cases h
  split at h
  ·cases h
  next hc =>
  split at h
  ·next h1=>exact absurd h h1
  next g3 =>
  refine⟨hkd,fun hh=>za,fun hh=>?_,fun hh=>za⟩
  obtain⟨a,b,c⟩:=parF_ok (by simpa using g3) hh;exact⟨a,b,c,hc⟩
 ·next hg =>
  split at h
  ·next h4=>exact⟨hkd,fun hh=>za,fun hh=>za,fun hh=>za⟩
  ·next h4 =>
   have hk:¬(d.kd=2\/d.kd=3):=fun hh=>by apply hg;unfold zAg;simpa using hh
   unfold divF at h
   split at h
   ·cases h
   split at h
   ·cases h
   split at h
   ·next h1=>exact absurd h h1
   next g3 =>
   have g3':shF d.kd d.sh=0:=by simpa using g3
   split at h
   ·cases h
   next g4 =>
   refine⟨hkd,fun hh=>⟨(shF_ok g3').1,?_⟩,fun hh=>za,fun hh=>⟨(shF_ok g3').1,shs_sum g3' hh,fun s hs he=>?_⟩⟩
   ·have hg0:zAg d.kd=false:=by simpa using hg
    rcases n2 with n|n
    ·rw[hg0,hh]at n;simp at n
    ·simpa using n
   ·exact g4 ⟨hh,List.any_eq_true.2 ⟨s,hs,by simpa using he⟩⟩
theorem chkD_org{V:List Rg}{us:List BA}{pre:List De}{d:De}(h:zEe V us pre d=0)(hk:d.kd=1\/d.kd=5):∀p∈pre,¬(p.kd=d.kd/\p.th=d.th/\p.fr=d.fr):=by
 unfold zEe at h
 have hg:zAg d.kd=false:=by
  unfold zAg
  rcases hk with e|e<;>rw[e]<;>rfl
 rw[hg]at h
 split at h
 ·cases h
 split at h
 ·cases h
 split at h
 ·cases h
 split at h
 ·cases h
 split at h
 ·cases h
 split at h
 ·cases h
 split at h
 ·next h1=>cases h1
 split at h
 ·omega
 unfold divF at h
 split at h
 ·cases h
 split at h
 ·cases h
 split at h
 ·next h1=>exact absurd h h1
 split at h
 ·cases h
 split at h
 ·cases h
 next h9 =>
 intro p hp hc;exact h9 (List.any_eq_true.2 ⟨p,hp,by simp[hc]⟩)
theorem zBQ{V:List Rg}{us:List BA}{U:List De}(h:zBY V us U=0):∀d∈U,ParOk d:=fun d hd=>by
 obtain⟨k,hk,rfl⟩:=bD hd;exact chkD_par ((zAP h).2 k hk)
theorem title_org{V:List Rg}{us:List BA}{U:List De}(h:zBY V us U=0):U.Pairwise fun a b=>¬(a.kd=1/\b.kd=1/\a.th=b.th):=by
 have hc:=(zAP h).2;refine List.pairwise_iff_getElem.2 fun i j hi hj hij=>?_
 rintro⟨k1,k2,k3⟩;refine chkD_org (hc j hj) (.inl k2) U[i] ?_ ⟨k1.trans k2.symm,k3,?_⟩
 ·rw[List.mem_take_iff_getElem]
  exact⟨i,za,rfl⟩
 ·rw[(zBQ h _ (aH hi)).org k1 |>.2,(zBQ h _ (aH hj)).org k2 |>.2]
def orgSum(th:BA)(day:Int)(U:List De):Rat:=U.foldr (fun d s=>(if orgB th day d=true then zBT d.sh else 0)+s) 0
theorem zDt{th:BA}{day:Int}{d:De}:orgB th day d=true↔d.kd=1/\d.th=th/\d.bg<=day:=by unfold orgB;simp
theorem org_none{th:BA}{day:Int}:∀(U:List De)(f:zBq),(∀d∈U,orgB th day d=false)->U.foldl (orgF th day) f=f/\orgSum th day U=0
 |[],_,_=>⟨rfl,rfl⟩
 |d::U,f,h=>by
  have hd:=h d cS;obtain⟨h1,h2⟩:=org_none (th:=th) (day:=day) U f fun e he=>h e (cR _ he)
  constructor
  ·rw[dF]
   have:orgF th day f d=f:=by unfold orgF;rw[hd];rfl
   rw[this,h1]
  ·show(if orgB th day d=true then zBT d.sh else 0)+orgSum th day U=0
   rw[hd,h2];simp
   grind
theorem start_one{th:BA}{day:Int}:∀(U:List De),U.Pairwise (fun a b=>¬(a.kd=1/\b.kd=1/\a.th=b.th)) ->
  (zDh th day U=(fun _=>0)/\orgSum th day U=0)\/∃d∈U,orgB th day d=true/\zDh th day U=zAl d.sh (fun _=>0)/\orgSum th day U=zBT d.sh
 |[],_=>.inl ⟨rfl,rfl⟩
 |d::U,h=>by
  obtain⟨h1,h2⟩:=List.pairwise_cons.1 h
  cases hd:orgB th day d with
  |true =>
   obtain⟨k1,k2,_⟩:=zDt.1 hd
   have J:∀e∈U,orgB th day e=false:=fun e he=>by
    cases hh:orgB th day e with
    |false=>rfl
    |true =>
     obtain⟨k3,k4,_⟩:=zDt.1 hh;exact absurd ⟨k1,k3,k2.trans k4.symm⟩ (h1 e he)
   obtain⟨e1,e2⟩:=org_none (th:=th) (day:=day) U (zAl d.sh (fun _=>0)) J;refine .inr ⟨d,cS,hd,?_,?_⟩
   ·unfold zDh
    rw[dF];have:orgF th day (fun _=>0) d=zAl d.sh (fun _=>0):=by unfold orgF;rw[hd];rfl
    rw[this,e1]
   ·show(if orgB th day d=true then zBT d.sh else 0)+orgSum th day U=_
    rw[hd,e2,aF rfl]
    grind
  |false =>
   have e:zDh th day (d::U)=zDh th day U:=by
    unfold zDh;rw[dF];have:orgF th day (fun _=>0) d=(fun _=>0):=by unfold orgF;rw[hd];rfl
    rw[this]
   have e2:orgSum th day (d::U)=orgSum th day U:=by
    show(if orgB th day d=true then zBT d.sh else 0)+orgSum th day U=_
    rw[hd];simp
    grind
   rcases start_one (th:=th) (day:=day) U h2 with ⟨a,b⟩|⟨x,hx,a,b,c⟩
   ·exact .inl ⟨by rw[e,a],by rw[e2,b]⟩
   ·exact .inr ⟨x,cR _ hx,a,by rw[e,b],by rw[e2,c]⟩
theorem keys_start{th:BA}{day:Int}:∀(U:List De)(K:List BA),(∀q∈K,q∈U.foldl (zAK th day) K)/\∀d∈U,orgB th day d=true->∀s∈d.sh,s.pt∈U.foldl (zAK th day) K
 |[],_=>⟨fun _ h=>h,fun _ h=>jn⟩
 |d::U,K=>by
  obtain⟨h1,h2⟩:=keys_start (th:=th) (day:=day) U (zAK th day K d)
  have hm:∀q∈K,q∈zAK th day K d:=fun q hq=>by
   unfold zAK
   split
   ·exact(zBC _).2 (.inr hq)
   ·exact hq
  refine⟨fun q hq=>h1 q (hm q hq),fun e he ho s hs=>?_⟩
  rcases List.mem_cons.1 he with rfl|he
  ·refine h1 _ ?_
   unfold zAK;rw[aF ho];exact(zBC _).2 (.inl ⟨s,hs,rfl⟩)
  ·exact h2 e he ho s hs
theorem sum_mono{N M:List BA}{f:zBq}(J:N.Nodup)(hm:M.Nodup)(h1:HoldOk N f)(h2:HoldOk M f):sumF N f=sumF M f:=by
 induction N generalizing M f with
 |nil =>
  have:∀p,f p=0:=fun p=>h1.out p ze
  rw[sumF_congr (N:=M) (g:=fun _=>0) (fun p _=>this p),sumF_zero,sumF_nil]
 |cons a N ih =>
  obtain⟨k1,k2⟩:=List.nodup_cons.1 J
  have g1:HoldOk N (upH f a 0):=⟨fun p=>by
   by_cases hp:p=a
   ·subst hp;rw[zBH];exact Rat.le_refl
   ·rw[zAM _ _ hp];exact h1.pos p,fun p hp=>by
   by_cases hpa:p=a
   ·subst hpa;rw[zBH]
   ·rw[zAM _ _ hpa]
    exact h1.out p (by simp[hpa,hp])⟩
  have g2:HoldOk M (upH f a 0):=⟨g1.pos,fun p hp=>by
   by_cases hpa:p=a
   ·subst hpa;rw[zBH]
   ·rw[zAM _ _ hpa];exact h2.out p hp⟩
  have e1:sumF N (upH f a 0)=sumF N f:=sumF_congr fun p hp=>zAM _ _ (fun e=>k1 (by rw[<-e];exact hp))
  have e2:=ih k2 hm g1 g2;rw[zCY,<-e1,e2]
  by_cases ha:a∈M
  ·rw[sumF_up hm ha];grind
  ·have h0:=h2.out a ha
   rw[sumF_congr (N:=M) (g:=f) (fun p hp=>zAM _ _ (fun e=>ha (by rw[<-e];exact hp))),h0]
   grind
theorem steps_sum(mv:De->Bool):∀(U:List De)(K:List BA)(f:zBq),(∀d∈U,mv d=true->d.kd≠5->zDk d.nu d.de<=1)->(∀d∈U,mv d=true->d.kd=5->zBT d.sh=1)->IncN K->HoldOk K f -> sumF (U.foldl (zAW mv) K) (U.foldl (zDz mv) f)=sumF K f
 |[],_,_,_,_,_,_=>rfl
 |d::U,K,f,hq,h5,h1,h2=>by
  rw[dF,dF]
  cases hm:mv d with
  |false =>
   have e1:zAW mv K d=K:=by unfold zAW;rw[hm];rfl
   have e2:zDz mv f d=f:=by unfold zDz;rw[hm];rfl
   rw[e1,e2];exact steps_sum mv U K f (fun e he=>hq e (cR _ he)) (fun e he=>h5 e (cR _ he)) h1 h2
  |true =>
   have e1:zAW mv K d=zAz d K:=by unfold zAW;rw[hm];rfl
   have e2:zDz mv f d=zCO d f:=by unfold zDz;rw[hm];rfl
   have g1:=zCT d h1;have g2:=h2.takeK d (hq d cS hm);rw[e1,e2,steps_sum mv U _ _ (fun e he=>hq e (cR _ he)) (fun e he=>h5 e (cR _ he)) g1 g2]
   have hs:∀p∈K,p∈zAz d K:=fun p hp=>by
    exact tc6
   rw[sumF_take g1.nodup d f ?_ ?_ ?_ (fun h=>h5 d cS hm h)]
   ·exact sum_mono g1.nodup h1.nodup (h2.mono hs) h2
   ·exact tc4
   ·intro hk
    unfold zAz;rw[aO hk];exact zBG.2 (.inl rfl)
   ·intro hk s hs
    unfold zAz;exact tfk
theorem zCa{V:List Rg}{us:List BA}{U:List De}(h:zBY V us U=0)(i:Nat)(th S:BA)(day:Int)(n:Nat): IncN (zBk V U i th S day n)/\HoldOk (zBk V U i th S day n) (zAs V U i th S day n)/\sumF (zBk V U i th S day n) (zAs V U i th S day n)=orgSum th day U:=by
 have hpar:=zBQ h;obtain⟨s1,s2⟩:=start_ok th day U [] (fun _=>0) List.Pairwise.nil hold_none
 have hmv:∀d∈U.take n,zCZ V U i th S day d=true->d.kd≠5->zDk d.nu d.de<=1:=fun d hd hm h5=>by
  have hd':=dJ hd;unfold zCZ at hm
  by_cases h2:d.kd=2
  ·exact((hpar d hd').asg h2).2.2.1
  ·rw[aO h2,aO h5]at hm;cases hm
 have h5s:∀d∈U.take n,zCZ V U i th S day d=true->d.kd=5->zBT d.sh=1:=fun d hd _ h5=>((hpar d (dJ hd)).pas h5).2.1
 obtain⟨t1,t2⟩:=steps_ok (zCZ V U i th S day) (U.take n) (zDV th day U) (zDh th day U) hmv s1 s2;refine⟨t1,t2,?_⟩
 have e:=steps_sum (zCZ V U i th S day) (U.take n) (zDV th day U) (zDh th day U) hmv h5s s1 s2;show sumF (zBk V U i th S day n) (zAs V U i th S day n)=_
 unfold zBk zAs;rw[e]
 rcases start_one (th:=th) (day:=day) U (title_org h)with ⟨a,b⟩|⟨d,hd,a,b,c⟩
 ·rw[a,b,sumF_zero]
 ·obtain⟨k1,_,_⟩:=zDt.1 a
  have ho:=((hpar d hd).org k1).1;show sumF (U.foldl (zAK th day) []) (zDh th day U)=orgSum th day U
  rw[b,c,sumF_put s1.nodup d.sh (fun _=>0) (fun s hs=>(keys_start U []).2 d hd a s hs) ho.nd (fun _ _=>rfl),sumF_zero]
  grind
end Go.Proofs.YtbbchlpccgkikaaGreatDoor
namespace Go.Proofs
open Go.Shelf
def Tryz.laysM171_ren:Go.Shelf.Ren:=⟨fun|171=>284|243=>307|246=>330|283=>289|284=>290|285=>291|286=>292|129=>218|317=>319|318=>320|319=>321|320=>322|337=>337|338=>338|n=>n,fun|3=>3|9=>9|2=>2|4=>4|171=>347|0=>0|53=>253|37=>217|5=>5|173=>349|212=>375|51=>254|20=>20|213=>376|46=>248|232=>403|233=>404|n=>n,fun|17=>1|18=>6|19=>7|n=>n⟩
theorem Tryz.laysM171:Go.Proofs.LaysM.n171 Tryz.prog Tryz.laysM171_ren:={
 mixed:=zc
 f129:=Tryz.func218.trans (bE some zc)
 f171:=Tryz.func284.trans (bE some zc)
 f243:=Tryz.func307.trans (bE some zc)
 f246:=Tryz.func330.trans (bE some zc)
 f283:=Tryz.func289.trans (bE some zc)
 f284:=Tryz.func290.trans (bE some zc)
 f285:=Tryz.func291.trans (bE some zc)
 f286:=Tryz.func292.trans (bE some zc)
 f317:=Tryz.func319.trans (bE some zc)
 f318:=Tryz.func320.trans (bE some zc)
 f319:=Tryz.func321.trans (bE some zc)
 f320:=Tryz.func322.trans (bE some zc)
 f337:=Tryz.func337.trans (bE some zc)
 f338:=Tryz.func338.trans (bE some zc)
 t0:=Tryz.underlying0
 a0:=Tryz.isAgg0
 z0:=Tryz.sizeOf0
 v0:=Tryz.zeroValue0
 t2:=Tryz.underlying2
 a2:=Tryz.isAgg2
 z2:=Tryz.sizeOf2
 v2:=Tryz.zeroValue2
 t3:=Tryz.underlying3
 a3:=Tryz.isAgg3
 z3:=Tryz.sizeOf3
 v3:=Tryz.zeroValue3
 t4:=Tryz.underlying4
 a4:=Tryz.isAgg4
 z4:=Tryz.sizeOf4
 v4:=Tryz.zeroValue4
 t5:=Tryz.underlying5
 a5:=Tryz.isAgg5
 z5:=Tryz.sizeOf5
 v5:=Tryz.zeroValue5
 t9:=Tryz.underlying9
 a9:=Tryz.isAgg9
 z9:=Tryz.sizeOf9
 v9:=Tryz.zeroValue9
 t20:=Tryz.underlying20
 a20:=Tryz.isAgg20
 z20:=Tryz.sizeOf20
 v20:=Tryz.zeroValue20
 t37:=Tryz.underlying217
 a37:=Tryz.isAgg217
 z37:=Tryz.sizeOf217
 v37:=Tryz.zeroValue217
 t46:=Tryz.underlying248
 a46:=Tryz.isAgg248
 z46:=Tryz.sizeOf248
 v46:=Tryz.zeroValue248
 t51:=Tryz.underlying254
 a51:=Tryz.isAgg254
 z51:=Tryz.sizeOf254
 v51:=Tryz.zeroValue254
 t53:=Tryz.underlying253
 a53:=Tryz.isAgg253
 z53:=Tryz.sizeOf253
 v53:=Tryz.zeroValue253
 t171:=Tryz.underlying347
 a171:=Tryz.isAgg347
 z171:=Tryz.sizeOf347
 v171:=Tryz.zeroValue347
 t173:=Tryz.underlying349
 a173:=Tryz.isAgg349
 z173:=Tryz.sizeOf349
 v173:=Tryz.zeroValue349
 t212:=Tryz.underlying375
 a212:=Tryz.isAgg375
 z212:=Tryz.sizeOf375
 v212:=Tryz.zeroValue375
 t213:=Tryz.underlying376
 a213:=Tryz.isAgg376
 z213:=Tryz.sizeOf376
 t232:=Tryz.underlying403
 a232:=Tryz.isAgg403
 z232:=Tryz.sizeOf403
 v232:=Tryz.zeroValue403
 t233:=Tryz.underlying404
 a233:=Tryz.isAgg404
 z233:=Tryz.sizeOf404
 v233:=Tryz.zeroValue404
 g17:=zc
 g18:=zc
 g19:=zc
 i0:=zc
 i2:=zc
 i3:=zc
 i4:=zc
 i5:=zc
 i9:=zc
 i20:=zc
 i37:=zc
 i46:=zc
 i51:=zc
 i53:=zc
 i171:=zc
 i173:=zc
 i212:=zc
 i232:=zc
 i233:=zc
 m17:=zc
 m18:=zc
 m19:=by kernel_rfl }
end Go.Proofs
namespace Go.Proofs.YtbbchlpccgkikaaGreatDoor
open Go.RowKit Dw
def itoaB(n:Int):BA:=⟨(Lib.itoa n).toArray⟩
theorem dec_size(u:Nat)(k:Nat)(h:u<10^k)(h1:1<=k):(Lib.decDigits u).length<=k:=by
 induction u using Nat.strongRecOn generalizing k with
 |_ u ih =>
  rw[Lib.decDigits]
  by_cases hu:u<10
  ·rw[dif_pos hu];simpa using h1
  ·rw[dif_neg hu,eA]
   have hk:2<=k:=by
    rcases aI k 2 with h2|h2
    ·have:k=1:=by omega
     subst this;omega
    ·exact h2
   have:=ih (u/10) za (k-1) (by
    have e:10^k=10^(k-1)*10:=by rw[<-cT];congr 1;omega
    rw[e]at h;exact Nat.div_lt_of_lt_mul (by rwa [cV])) za
   simp only[bM,aY];omega
theorem data_app(a b:BA):(a++b).data.toList=a.data.toList++b.data.toList:=by simp[ByteArray.data_append]
def POK (w:World):Prop:=Lib.TabIs Tryz.prog w "internal/strconv.uint64pow10" .u64 Lib.pow10Tab
theorem POK.below{w w':World}(h:POK w)(I:Below w.heap.size w w'):POK w':=by
 unfold POK Lib.TabIs World.var? at *;have hg:Tryz.prog.globalNamed "internal/strconv.uint64pow10" = some 1:=zc;rw [hg] at h ⊢;simp only [Option.bind_some] at h ⊢
 have Y:1<w.heap.size:=by
  rcases aI 1 w.heap.size with h1|h1
  ·exact h1
  ·rw[Array.getElem?_eq_none h1]at h;cases h
 rw[I.block _ Y];exact h
theorem itoa_c(n:Int)(w:World)(h0 : -9223372036854775808<=n)(h1:n<=9223372036854775807)(hP:POK w):Calls Tryz.prog 284 #[.int .i64 n] w (zAf (.string (itoaB n)) w):=
 (Any.strconv_Itoa Tryz.laysM171 n h0 h1 w hP).mono fun _ _ ⟨he,k,os,hw⟩=>⟨he,by rw[hw];exact below_regrown w (w.drawn+k) os⟩
theorem cat_big(a b:BA)(h:a.size+b.size<=1000000000):∀W,(Op.stringOp .add a b).run Tryz.prog W=.ok (.string (a++b)) W:=fun W=>run_string_add_sum W _ _ za
end Go.Proofs.YtbbchlpccgkikaaGreatDoor
namespace Go.Proofs.YtbbchlpccgkikaaGreatDoor
open Dw
def digB(n:Nat):BA:=⟨(Lib.decDigits n).toArray⟩
theorem digB_list(n:Nat):(digB n).data.toList=Lib.decDigits n:=by simp[digB]
theorem dig_one(u:Nat)(h:u<10):(UInt8.ofNat (48+u)).toNat=48+u:=by
 rw[UInt8.toNat_ofNat'];omega
theorem dig_all(n:Nat):(Lib.decDigits n).all dgB=true:=by
 induction n using Nat.strongRecOn with
 |_ n ih =>
  rw[Lib.decDigits]
  split
  ·next h=>simp[dgB];omega
  ·next h =>
   rw[eD,ih (n/10) za];simp[dgB]
   omega
theorem dig_val(n:Nat):zBL (Lib.decDigits n)=n:=by
 induction n using Nat.strongRecOn with
 |_ n ih =>
  rw[Lib.decDigits]
  split
  ·next h =>
   show 10*0+((UInt8.ofNat (48+n)).toNat-48)=n
   rw[dig_one n h];omega
  ·next h =>
   rw[decV_snoc,ih (n/10) za,dig_one (n%10) za];omega
theorem dig_pos(n:Nat):1<=(Lib.decDigits n).length:=by
 rw[Lib.decDigits]
 split<;>simp
theorem dig_head(n:Nat)(h:n≠0):((Lib.decDigits n).headD 0).toNat≠48:=by
 induction n using Nat.strongRecOn with
 |_ n ih =>
  rw[Lib.decDigits]
  split
  ·next h1=>simp only[List.headD_cons,dig_one n h1];omega
  ·next h1 =>
   have h2:=dig_pos (n/10);have h3:=ih (n/10) za za
   cases he:Lib.decDigits (n/10)with
   |nil=>rw[he]at h2;simp at h2
   |cons a l=>rw[he]at h3;simpa using h3
theorem dig_len(n k:Nat)(hk:1<=k):(Lib.decDigits n).length<=k↔n<10^k:=by
 constructor
 ·intro h
  have h1:=decV_lt (l:=Lib.decDigits n) fun c hc=>by
   have:=(zDJ c).1 (List.all_eq_true.1 (dig_all n) c hc);omega
  rw[dig_val]at h1;exact aB h1 (dI za h)
 ·exact fun h=>dec_size n k h hk
theorem digB_size(n:Nat):(digB n).size=(Lib.decDigits n).length:=by
 show(Lib.decDigits n).toArray.size=_
 simp
theorem digB_zero:digB 0=zCH:=by
 unfold digB;rw[Lib.decDigits]
 rfl
theorem dg_back{c:UInt8}(h:dgB c=true):UInt8.ofNat (48+(c.toNat-48))=c:=by
 have:=(zDJ c).1 h
 apply UInt8.toNat_inj.1
 rw[UInt8.toNat_ofNat'];have:=c.toNat_lt;omega
theorem decV_pos{l:List UInt8}(h:l.all dgB=true)(hne:l≠[])(hh:(l.headD 0).toNat≠48):0<zBL l:=by
 cases l with
 |nil=>exact absurd rfl hne
 |cons a t =>
  rw[List.all_cons,eE]at h;have h1:=(zDJ a).1 h.1;have e:=zCr [a] t;rw[List.singleton_append]at e;have e2:zBL [a]=a.toNat-48:=by show 10*0+(a.toNat-48)=_;omega
  rw[e,e2];simp only[List.headD_cons]at hh;have:0<(a.toNat-48)*10^t.length:=dZ za (Nat.pow_pos zd);omega
theorem dig_uniq:∀(n:Nat)(l:List UInt8),l.length=n->l.all dgB=true->l≠[]->(l.length=1\/(l.headD 0).toNat≠48)->l=Lib.decDigits (zBL l)
 |0,l,J,_,hne,_=>absurd (List.length_eq_zero_iff.1 J) hne
 |n+1,l,J,F,hne,hh=>by
  obtain⟨m,c,rfl⟩:∃m c,l=m++[c]:=⟨l.dropLast,l.getLast hne,(List.dropLast_concat_getLast hne).symm⟩;rw[eD,eE]at F;have hc:dgB c=true:=by simpa using F.2
  have hc2:=(zDJ c).1 hc;rw[decV_snoc]
  cases m with
  |nil =>
   have e:zBL []=0:=rfl;rw[e,Lib.decDigits,dif_pos za];have:10*0+(c.toNat-48)=c.toNat-48:=za;rw[this,dg_back hc]
   rfl
  |cons a t =>
   have hhd:((a::t).headD 0).toNat≠48:=by
    rcases hh with h|h
    ·simp at h
    ·simpa using h
   have ih:=dig_uniq n (a::t) (by simpa using J) F.1 ze (.inr hhd);have hp:=decV_pos F.1 ze hhd;rw[Lib.decDigits,dif_neg za];have e1:(10*zBL (a::t)+(c.toNat-48))/10=zBL (a::t):=za;have e2:(10*zBL (a::t)+(c.toNat-48))%10=c.toNat-48:=za;rw[e1,e2,dg_back hc,<-ih]
theorem den_mk{n:Int}{d:Nat}(hd:d≠0):(mkRat n d).den∣d:=by
 rw[Rat.den_mkRat,aO hd];exact Nat.div_dvd_of_dvd (Nat.gcd_dvd_left _ _)
theorem as_mk{a:Rat}{M:Nat}(hM:M≠0)(h:a.den∣M):∃x:Int,a=mkRat x M:=by
 obtain⟨k,rfl⟩:=h;have hk:k≠0:=fun e=>hM (by rw[e,dG])
 refine⟨a.num*k,?_⟩
 conv=>lhs;rw[<-Rat.mkRat_self a]
 rw[Rat.mkRat_eq_iff a.den_nz hM]
 push_cast
 grind
theorem den_add{a b:Rat}{M:Nat}(hM:M≠0)(ha:a.den∣M)(I:b.den∣M):(a+b).den∣M:=by
 obtain⟨x,rfl⟩:=as_mk hM ha;obtain⟨y,rfl⟩:=as_mk hM I
 have:mkRat x M+mkRat y M=mkRat (x+y) M:=by
  rw[Rat.mkRat_add_mkRat _ _ hM hM,Rat.mkRat_eq_iff (aT hM hM) hM]
  push_cast
  grind
 rw[this];exact den_mk hM
theorem den_neg(a:Rat):(-a).den=a.den:=rfl
theorem den_sub{a b:Rat}{M:Nat}(hM:M≠0)(ha:a.den∣M)(I:b.den∣M):(a-b).den∣M:=by
 have:a-b=a + -b:=by grind
 rw[this];exact den_add hM ha (by rw[den_neg];exact I)
theorem den_mul{a b:Rat}:(a*b).den∣a.den*b.den:=by
 have h:a*b=mkRat (a.num*b.num) (a.den*b.den):=by
  conv=>lhs;rw[<-Rat.mkRat_self a,<-Rat.mkRat_self b]
  rw[Rat.mkRat_mul_mkRat]
 rw[h];exact den_mk (aT a.den_nz b.den_nz)
structure HoldB (N:List BA) (M:Nat) (f:zBq):Prop where
 ok:HoldOk N f
 nd:N.Nodup
 sum:sumF N f<=1
 den:∀p,(f p).den∣M
 nz:M≠0
theorem sum_ge{N:List BA}{f:zBq}(h:∀p,0<=f p):0<=sumF N f:=by
 induction N with
 |nil=>exact Rat.le_refl
 |cons a N ih=>rw[zCY];have:=h a;grind
theorem le_sum{N:List BA}{f:zBq}(h:∀p,0<=f p){p:BA}(hp:p∈N):f p<=sumF N f:=by
 induction N with
 |nil=>cases hp
 |cons a N ih =>
  rw[zCY]
  rcases List.mem_cons.1 hp with rfl|hp
  ·have:=sum_ge (N:=N) h;grind
  ·have:=ih hp;have:=h a;grind
theorem HoldB.le{N:List BA}{M:Nat}{f:zBq}(h:HoldB N M f)(p:BA):f p<=1:=by
 by_cases hp:p∈N
 ·have:=le_sum h.ok.pos hp;have:=h.sum;grind
 ·rw[h.ok.out p hp];decide
def denP(l:List Sh):Nat:=l.foldr (fun s n=>zAy s.de*n) 1
theorem denP_dvd{l:List Sh}{s:Sh}(h:s∈l):zAy s.de∣denP l:=by
 induction l with
 |nil=>cases h
 |cons a l ih =>
  show _∣zAy a.de*denP l
  rcases List.mem_cons.1 h with rfl|h
  ·exact Nat.dvd_mul_right _ _
  ·exact aS (ih h) (Nat.dvd_mul_left _ _)
theorem denP_nz{l:List Sh}(h:∀s∈l,0<zAy s.de):denP l≠0:=by
 induction l with
 |nil=>decide
 |cons a l ih =>
  show zAy a.de*denP l≠0
  have:=h a cS;exact aT za (ih fun s hs=>h s (cR _ hs))
theorem denP_lt{l:List Sh}(h:∀s∈l,zAy s.de<10^2000):denP l<10^(2000*l.length+1):=by
 induction l with
 |nil=>decide
 |cons a l ih =>
  show zAy a.de*denP l<_
  have h1:=h a cS;have h2:=ih fun s hs=>h s (cR _ hs)
  have e:2000*(a::l).length+1=2000+(2000*l.length+1):=by rw[bM];omega
  obtain⟨u,hu⟩:∃u,u=2000:=⟨_,rfl⟩;rw[e,dV];rw[<-hu]at h1 h2 ⊢
  rcases bI (denP l)with h0|h0
  ·rw[h0,dG]
   exact dZ (Nat.pow_pos zd) (Nat.pow_pos zd)
  ·exact Nat.mul_lt_mul'' h1 h2
theorem shSum_app(l m:List Sh):zBT (l++m)=zBT l+zBT m:=by
 induction l with
 |nil=>show zBT m=0+zBT m;grind
 |cons a l ih=>show shQ a+zBT (l++m)=shQ a+zBT l+zBT m;rw[ih];grind
theorem shSum_pos(l:List Sh):0<=zBT l:=by
 induction l with
 |nil=>exact Rat.le_refl
 |cons a l ih=>show 0<=shQ a+zBT l;have:=shQ_pos a;grind
theorem shSum_take(l:List Sh)(j:Nat):zBT (l.take j)<=zBT l:=by
 have h:=shSum_app (l.take j) (l.drop j);rw[dE]at h;have:=shSum_pos (l.drop j)
 grind
theorem shQ_den{s:Sh}(h:0<zAy s.de):(shQ s).den∣zAy s.de:=den_mk za
theorem HoldB.more{N K:List BA}{M:Nat}{f:zBq}(h:HoldB N M f)(hk:K.Nodup)(hs:∀p∈N,p∈K):HoldB K M f:=
 ⟨h.ok.mono hs,hk,by rw[sum_mono hk h.nd (h.ok.mono hs) h.ok];exact h.sum,h.den,h.nz⟩
theorem mul_le{a q:Rat}(ha:0<=a)(h1:a<=1)(hq0:0<=q)(hq:q<=1):0<=a*q/\a*q<=1:=by
 have h2:=fC hq ha;have h3:=Rat.mul_nonneg ha hq0
 grind
theorem HoldB.passMid{N:List BA}{M:Nat}{f:zBq}{fr:BA}{l:List Sh}(h:HoldB N M f)(hf:fr∈N)(hl:∀s∈l,s.pt∈N)(hd:∀s∈l,0<zAy s.de)(h1:zBT l=1):∀j,j<=l.length -> HoldB N (M*denP l) (zBx (f fr) (l.take j) (upH f fr 0)):=fun j hj=>by
 have hz:=denP_nz hd;have hM:=aT h.nz hz;have hl':∀s∈l.take j,s.pt∈N:=fun s hs=>hl s (dJ hs)
 have k0:HoldOk N (upH f fr 0):=h.ok.up hf Rat.le_refl;refine⟨HoldOk.pass (h.ok.pos fr) _ _ k0 hl',h.nd,?_,?_,hM⟩
 ·rw[sumF_pass h.nd _ _ _ hl',sumF_up h.nd hf]
  have a:=shSum_take l j;have b:=h.sum;have c:=fC (show zBT (l.take j)<=1 by grind) (h.ok.pos fr)
  grind
 ·have key:∀(m:List Sh)(g:zBq),(∀s∈m,s∈l)->(∀p,(g p).den∣M*denP l)->∀p,(zBx (f fr) m g p).den∣M*denP l:=fun m=>by
   induction m with
   |nil=>exact fun g _ hg=>hg
   |cons s m ih =>
    intro g hs hg;refine ih (upH g s.pt (g s.pt+f fr*shQ s)) (fun t ht=>hs t (cR _ ht)) fun p=>?_
    by_cases hp:p=s.pt
    ·subst hp
     rw[zBH];refine den_add hM (hg _) (aS den_mul (Nat.mul_dvd_mul (h.den fr) ?_));have hsl:=hs s cS;exact aS (shQ_den (hd s hsl)) (denP_dvd hsl)
    ·rw[zAM _ _ hp];exact hg p
  refine key _ _ (fun s hs=>dJ hs) fun p=>?_
  by_cases hp:p=fr
  ·subst hp;rw[zBH];exact Nat.one_dvd _
  ·rw[zAM _ _ hp];exact aS (h.den p) (Nat.dvd_mul_right _ _)
theorem HoldB.giveMid{N:List BA}{M:Nat}{f:zBq}{d:De}(h:HoldB N M f)(hf:d.fr∈N)(hq:zDk d.nu d.de<=1)(hd:0<zAy d.de): HoldB N (M*zAy d.de) (upH f d.fr (f d.fr-f d.fr*zDk d.nu d.de))/\(f d.fr*zDk d.nu d.de).den∣M*zAy d.de:=by
 have hM:=aT h.nz (show zAy d.de≠0 by omega);have hx:(f d.fr*zDk d.nu d.de).den∣M*zAy d.de:=aS den_mul (Nat.mul_dvd_mul (h.den _) (den_mk za));have hp:=mul_le (h.ok.pos d.fr) (h.le d.fr) (zEn d.nu d.de) hq;refine⟨⟨h.ok.up hf (part_le (h.ok.pos _) hq),h.nd,?_,fun p=>?_,hM⟩,hx⟩
 ·rw[sumF_up h.nd hf]
  have:=h.sum
  grind
 ·by_cases hpp:p=d.fr
  ·subst hpp
   rw[zBH];exact den_sub hM (aS (h.den _) (Nat.dvd_mul_right _ _)) hx
  ·rw[zAM _ _ hpp];exact aS (h.den p) (Nat.dvd_mul_right _ _)
theorem HoldB.give{N:List BA}{M:Nat}{f:zBq}{d:De}(h:HoldB N M f)(hf:d.fr∈N)(ht:d.to_∈N)(hq:zDk d.nu d.de<=1)(hd:0<zAy d.de):HoldB N (M*zAy d.de) (giveF d f):=by
 obtain⟨h1,hx⟩:=h.giveMid hf hq hd;refine⟨h.ok.give d hf ht hq,h.nd,by rw[sumF_give h.nd d f hf ht];exact h.sum,fun p=>?_,h1.nz⟩
 unfold giveF
 by_cases hp:p=d.to_
 ·subst hp
  rw[zBH];exact den_add h1.nz (h1.den _) hx
 ·rw[zAM _ _ hp];exact h1.den p
def growD(d:De):Nat:=if d.kd=5 then denP d.sh else zAy d.de
theorem HoldB.take{N:List BA}{M:Nat}{f:zBq}{d:De}(h:HoldB N M f)(hp:ParOk d)(hk:d.kd=2\/d.kd=5)(hf:d.fr∈N)(ht:d.kd≠5->d.to_∈N)(hl:d.kd=5->∀s∈d.sh,s.pt∈N):HoldB N (M*growD d) (zCO d f):=by
 unfold growD zCO
 rcases hk with hk|hk
 ·obtain⟨a,b,c,_⟩:=hp.asg hk
  rw[aO za,aO za];exact h.give hf (ht za) c (zBV a)
 ·obtain⟨a,b,_⟩:=hp.pas hk
  rw[aF hk,aF hk];have:=h.passMid hf (hl hk) (fun s hs=>zBV (a.rat s hs)) b d.sh.length (aK _)
  rwa [aN]at this
theorem valS_lt{s:BA}(h:zCG s=true)(hs:s.size<=2000):zAy s<10^2000:=by
 have h1:=decV_lt (l:=s.data.toList) fun c hc=>by
  have:=(zDJ c).1 (List.all_eq_true.1 (zAQ h).1 c hc);omega
 obtain⟨q,hq⟩:∃q,q=2000:=⟨_,rfl⟩;rw[<-hq]at hs ⊢;refine aB h1 (dI za ?_);rw[<-Lib.size_eq];exact hs
theorem ratF_lt{nu de:BA}(h:zDg nu de=0):zAy de<10^2000:=by
 obtain⟨_,h2,_,_,h5⟩:=zCn h;exact valS_lt h2 h5
theorem shs_le{k:Int}{l:List Sh}(h:shF k l=0):zBT l<=1:=by
 obtain⟨h1,h2,_⟩:=shF_ok h;obtain⟨p1,p2⟩:=sumP_toQ (fun s hs=>zBV (h1.rat s hs)) l.length (aK _);rw[aN]at p2;rw[<-p2];exact toQ_le p1 h2
theorem chkD_sh{V:List Rg}{us:List BA}{pre:List De}{d:De}(h:zEe V us pre d=0)(hk:d.kd=1\/d.kd=5):shF d.kd d.sh=0:=by
 unfold zEe at h
 have hg:zAg d.kd=false:=by
  unfold zAg
  rcases hk with e|e<;>rw[e]<;>rfl
 rw[hg]at h
 split at h
 ·cases h
 split at h
 ·cases h
 split at h
 ·cases h
 split at h
 ·cases h
 split at h
 ·cases h
 split at h
 ·cases h
 split at h
 ·next h1=>cases h1
 split at h
 ·omega
 unfold divF at h
 split at h
 ·cases h
 split at h
 ·cases h
 split at h
 ·next h1=>exact absurd h h1
 next h1=>simpa using h1
theorem title_sh{V:List Rg}{us:List BA}{U:List De}(h:zBY V us U=0):∀d∈U,(d.kd=1\/d.kd=5)->shF d.kd d.sh=0:=fun d hd hk=>by
 obtain⟨k,hk',rfl⟩:=bD hd;exact chkD_sh ((zAP h).2 k hk') hk
theorem growD_lt{d:De}(hp:ParOk d)(hl:d.sh.length<=20)(hk:d.kd=2\/d.kd=5):growD d<10^40001:=by
 unfold growD
 rcases hk with hk|hk
 ·rw[aO za]
  have h9:=ratF_lt (hp.asg hk).1;obtain⟨a,ha⟩:∃a,a=2000:=⟨_,rfl⟩;obtain⟨b,I⟩:∃b,b=40001:=⟨_,rfl⟩;rw[<-ha]at h9;rw[<-I];exact aB h9 (dI za za)
 ·rw[aF hk]
  obtain⟨b,I⟩:∃b,b=40001:=⟨_,rfl⟩;rw[<-I];exact aB (denP_lt fun s hs=>ratF_lt ((hp.pas hk).1.rat s hs)) (dI za za)
theorem put_den:∀(l:List Sh)(f:zBq)(M:Nat),M≠0->(∀p,(f p).den∣M)->(∀s∈l,(shQ s).den∣M)->∀p,(zAl l f p).den∣M
 |[],_,_,_,hf,_=>hf
 |s::l,f,M,hM,hf,hs=>put_den l (upH f s.pt (shQ s)) M hM (fun p=>by
   by_cases hp:p=s.pt
   ·subst hp;rw[zBH];exact hs s cS
   ·rw[zAM _ _ hp];exact hf p) fun t ht=>hs t (cR _ ht)
theorem start_bound{V:List Rg}{us:List BA}{U:List De}(h:zBY V us U=0)(th:BA)(day:Int):∃M,HoldB (zDV th day U) M (zDh th day U)/\M<10^40001:=by
 obtain⟨s1,s2⟩:=start_ok th day U [] (fun _=>0) List.Pairwise.nil hold_none
 rcases start_one (th:=th) (day:=day) U (title_org h)with ⟨a,_⟩|⟨d,hd,a,b,_⟩
 ·refine⟨1,⟨s2,s1.nodup,?_,?_,zd⟩,by obtain⟨b,I⟩:∃b,b=40001:=⟨_,rfl⟩;rw[<-I];exact Nat.one_lt_pow za zd⟩
  ·show sumF _ (zDh th day U)<=1
   rw[a,sumF_zero];decide
  ·intro p
   show((zDh th day U) p).den∣1
   rw[a];exact Nat.dvd_refl _
 ·obtain⟨k1,_,_⟩:=zDt.1 a
  have ho:=((zBQ h d hd).org k1).1;have hsh:=title_sh h d hd (.inl k1);have hz:=denP_nz fun s hs=>zBV (ho.rat s hs)
  refine⟨denP d.sh,⟨s2,s1.nodup,?_,?_,hz⟩,?_⟩
  ·show sumF (U.foldl (zAK th day) []) (zDh th day U)<=1
   rw[b,sumF_put s1.nodup d.sh (fun _=>0) (fun s hs=>(keys_start U []).2 d hd a s hs) ho.nd (fun _ _=>rfl),sumF_zero];have:=shs_le hsh
   grind
  ·intro p
   show((zDh th day U) p).den∣_
   rw[b];exact put_den d.sh _ _ hz (fun p=>Nat.one_dvd _) (fun s hs=>aS (shQ_den (zBV (ho.rat s hs))) (denP_dvd hs)) p
  ·obtain⟨b,I⟩:∃b,b=40001:=⟨_,rfl⟩
   rw[<-I];exact aB (denP_lt fun s hs=>ratF_lt (ho.rat s hs)) (dI za (by have:=shF_len hsh;omega))
theorem zCv(d:De){K:List BA}:(∀p∈K,p∈zAz d K)/\d.fr∈zAz d K/\(d.kd≠5->d.to_∈zAz d K)/\(d.kd=5->∀s∈d.sh,s.pt∈zAz d K):=by
 unfold zAz;refine⟨fun p hp=>?_,?_,fun hk=>?_,fun hk s hs=>?_⟩
 ·exact tf9
 ·exact tf8
 ·rw[aO hk]
  exact zBG.2 (.inl rfl)
 ·exact tfk
theorem movB_kd{V:List Rg}{U:List De}{i:Nat}{th S:BA}{day:Int}{d:De}(h:zCZ V U i th S day d=true):d.kd=2\/d.kd=5:=by
 unfold zCZ at h
 split at h
 ·next h1=>exact .inl h1
 ·split at h
  ·next h2=>exact .inr h2
  ·cases h
theorem take_snoc{l:List De}{k:Nat}(hk:k<l.length):l.take (k+1)=l.take k++[l[k]]:=aG hk
theorem zEj(V:List Rg){U:List De}(i:Nat)(th S:BA)(day:Int){n:Nat}(J:n<U.length): zAs V U i th S day (n+1)=zDz (zCZ V U i th S day) (zAs V U i th S day n) U[n]/\zBk V U i th S day (n+1)=zAW (zCZ V U i th S day) (zBk V U i th S day n) U[n]:=by
 unfold zAs zBk;rw[take_snoc J,bQ,bQ];exact⟨rfl,rfl⟩
theorem zEk{V:List Rg}{us:List BA}{U:List De}(h:zBY V us U=0)(i:Nat)(th S:BA)(day:Int):∀n,n<=U.length->∃M,HoldB (zBk V U i th S day n) M (zAs V U i th S day n)/\M<10^(40001*(n+1))
 |0,_=>by
  obtain⟨M,h1,h2⟩:=start_bound h th day;exact⟨M,by simpa[zBk,zAs]using h1,by rw[cO,dK];exact h2⟩
 |n+1,J=>by
  obtain⟨M,h1,h2⟩:=zEk h i th S day n za;obtain⟨e1,e2⟩:=zEj V i th S day (show n<U.length by omega);have hd:=aH (show n<U.length by omega);rw[e1,e2];generalize U[n]=d at hd;obtain⟨k1,_,_⟩:=zCa h i th S day n
  cases hm:zCZ V U i th S day d with
  |false =>
   have g1:zAW (zCZ V U i th S day) (zBk V U i th S day n) d=zBk V U i th S day n:=by unfold zAW;rw[hm];rfl
   have g2:zDz (zCZ V U i th S day) (zAs V U i th S day n) d=zAs V U i th S day n:=by unfold zDz;rw[hm];rfl
   rw[g1,g2];exact⟨M,h1,aB h2 (dI za za)⟩
  |true =>
   have g1:zAW (zCZ V U i th S day) (zBk V U i th S day n) d=zAz d (zBk V U i th S day n):=by unfold zAW;rw[hm];rfl
   have g2:zDz (zCZ V U i th S day) (zAs V U i th S day n) d=zCO d (zAs V U i th S day n):=by unfold zDz;rw[hm];rfl
   rw[g1,g2];obtain⟨m1,m2,m3,m4⟩:=zCv d (K:=zBk V U i th S day n);have hpar:=zBQ h d hd
   have hl:d.sh.length<=20:=by
    obtain⟨k,hk,e⟩:=bD hd;have:=(zDQ ((zAP h).2 k hk) (zAP h).1).2.2
    rwa [e]at this
   refine⟨M*growD d,(h1.more (zCT d k1).nodup m1).take hpar (movB_kd hm) m2 m3 m4,?_⟩
   have:=growD_lt hpar hl (movB_kd hm);have e3:40001*(n+1+1)=40001*(n+1)+40001:=za;rw[e3,dV];exact Nat.mul_lt_mul'' h2 this
def zCN(K:List BA)(f:zBq):List (BA×Rat):=K.map fun q=>(q,f q)
def withR(p:BA)(x:Rat):Bool->List (BA×Rat)->List (BA×Rat)
 |done,[]=>if done=true then [] else [(p,x)]
 |done,a::l=>((if (!done&&sle p a.1)=true then [(p,x)] else [])++(if a.1=p then [] else [a]))++withR p x (done || sle p a.1) l
theorem sle_of_slt{a b:BA}(h:slt a b=true):sle a b=true:=by unfold sle slt at *;rw[h];rfl
theorem sle_self(a:BA):sle a a=true:=by unfold sle;simp
theorem sle_false{a b:BA}(h:slt b a=true):sle a b=false:=by
 cases hs:sle a b with
 |false=>rfl
 |true =>
  exfalso;have h3:(slt a b || a.toList == b.toList)=true:=hs;rw[Bool.or_eq_true]at h3
  rcases h3 with h3|h3
  ·have:=zDZ h h3
   rw[slt_irr]at this
   cases this
  ·rw[str_eq h3,slt_irr]at h
   cases h
theorem withR_done(p:BA)(x:Rat)(f:zBq):∀(K:List BA),(∀q∈K,slt p q=true)->withR p x true (zCN K f)=zCN K (upH f p x)
 |[],_=>rfl
 |a::K,h=>by
  have ha:=h a cS;have hne:a≠p:=fun e=>by rw[e,slt_irr]at ha;cases ha
  have ih:=withR_done p x f K fun q hq=>h q (cR _ hq)
  show((if (!true&&sle p a)=true then [(p,x)] else [])++(if a=p then [] else [(a,f a)]))++withR p x (true || sle p a) (zCN K f)=(a,upH f p x a)::zCN K (upH f p x)
  rw[Bool.true_or,ih,aO hne,zAM f x hne]
  rfl
theorem withR_eq(p:BA)(x:Rat)(f:zBq):∀{K:List BA},IncN K->withR p x false (zCN K f)=zCN (zDT p K) (upH f p x)
 |[],_=>by
  show[(p,x)]=[(p,upH f p x p)]
  rw[zBH]
 |a::K,h=>by
  obtain⟨h1,h2⟩:=List.pairwise_cons.1 h;show((if (!false&&sle p a)=true then [(p,x)] else [])++(if a=p then [] else [(a,f a)]))++withR p x (false || sle p a) (zCN K f)=_
  unfold zDT
  by_cases ha:a=p
  ·subst ha
   rw[sle_self,aF rfl,aF rfl,Bool.false_or,withR_done a x f K h1];show(a,x)::zCN K (upH f a x)=(a,upH f a x a)::zCN K (upH f a x)
   rw[zBH]
  ·rw[aO ha,aO ha]
   cases hp:slt p a with
   |true =>
    have hk:∀q∈K,slt p q=true:=fun q hq=>zDZ hp (h1 q hq)
    rw[sle_of_slt hp,aF rfl,Bool.false_or,withR_done p x f K hk];show(p,x)::(a,f a)::zCN K (upH f p x)=(p,upH f p x p)::(a,upH f p x a)::zCN K (upH f p x)
    rw[zBH,zAM f x ha]
   |false =>
    have hap:slt a p=true:=slt_of_ne ha hp;rw[sle_false hap,aO ze,Bool.false_or,withR_eq p x f h2,aO ze];show(a,f a)::zCN (zDT p K) (upH f p x)=(a,upH f p x a)::zCN (zDT p K) (upH f p x)
    rw[zAM f x ha]
def findQ(l:List (BA×Rat))(p:BA):Rat:=match l.find? fun a=>decide (a.1=p)with
 |some a=>a.2
 |none=>0
theorem findQ_pairs{K:List BA}{f:zBq}(h:HoldOk K f)(p:BA):findQ (zCN K f) p=f p:=by
 unfold findQ zCN;rw[List.find?_map]
 cases hf:K.find? ((fun a:BA×Rat=>decide (a.1=p)) ∘ fun q=>(q,f q))with
 |some q =>
  have:=List.find?_some hf;have e:q=p:=by simpa using this
  rw[e];rfl
 |none =>
  have:p∉K:=fun hp=>by
   have:=List.find?_eq_none.1 hf p hp;simp at this
  rw[h.out p this];rfl
def anyLong(K:List BA)(f:zBq):Bool:=K.any fun p=>longQ (f p)
def longF(V:List Rg)(U:List De)(i:Nat)(th S:BA)(day:Int)(n:Nat):Bool:=(List.range n).any fun k=>anyLong (zBk V U i th S day (k+1)) (zAs V U i th S day (k+1))
theorem toQ_num{p:Nat×Nat}(h:Nat.gcd p.1 p.2=1)(h0:0<p.2):p=((toQ p).num.natAbs,(toQ p).den):=by
 have e:toQ p=(⟨(p.1:Int),p.2,za,by simpa[Nat.Coprime]using h⟩:Rat):=Rat.mkRat_self ⟨(p.1:Int),p.2,za,by simpa[Nat.Coprime]using h⟩;rw[e]
 rfl
theorem lowP_gcd{n d:Nat}(hd:0<d):Nat.gcd (zBX n d).1 (zBX n d).2=1/\0<(zBX n d).2:=by
 have hg:0<Nat.gcd n d:=eI _ hd;exact⟨Nat.coprime_div_gcd_div_gcd hg,Nat.div_pos (Nat.le_of_dvd hd (Nat.gcd_dvd_right _ _)) hg⟩
theorem low_q{n d:Nat}{q:Rat}(hd:0<d)(h:mkRat (n:Int) d=q):zBX n d=(q.num.natAbs,q.den):=by
 obtain⟨h1,h2⟩:=lowP_gcd (n:=n) hd;have:=toQ_num h1 h2;rw[toQ_low hd,h]at this;exact this
theorem abs_num{q:Rat}(h:0<=q):((q.num.natAbs:Nat):Int)=q.num:=by
 have:=Rat.num_nonneg.2 h;omega
theorem as_q{q:Rat}(h:0<=q):q=mkRat ((q.num.natAbs:Nat):Int) q.den:=by
 rw[abs_num h];exact(Rat.mkRat_self q).symm
abbrev prQ(q:Rat):Nat×Nat:=(q.num.natAbs,q.den)
theorem den_q(q:Rat):0<q.den:=Nat.pos_of_ne_zero q.den_nz
theorem addP_q{a b:Rat}(ha:0<=a)(I:0<=b):addP (prQ a) (prQ b)=prQ (a+b):=by
 unfold addP;refine low_q (dZ (den_q a) (den_q b)) ?_
 conv=>rhs;rw[as_q ha,as_q I]
 rw[Rat.mkRat_add_mkRat _ _ a.den_nz b.den_nz];simp
theorem le_q{a b:Rat}(I:0<=b)(h:b<=a):b.num.natAbs*a.den<=a.num.natAbs*b.den:=by
 have h1:=(Rat.le_iff b a).1 h;have ha:0<=a:=Rat.le_trans I h;rw[<-abs_num ha,<-abs_num I]at h1
 exact_mod_cast h1
theorem subP_q{a b:Rat}(I:0<=b)(h:b<=a):subP (prQ a) (prQ b)=prQ (a-b):=by
 unfold subP;refine low_q (dZ (den_q a) (den_q b)) ?_;have hle:=le_q I h;have ha:0<=a:=Rat.le_trans I h
 have key:mkRat (((a.num.natAbs*b.den-b.num.natAbs*a.den:Nat)):Int) (a.den*b.den)+b=a:=by
  conv=>lhs;arg 2;rw[as_q I]
  conv=>rhs;rw[as_q ha]
  rw[Rat.mkRat_add_mkRat _ _ (aT a.den_nz b.den_nz) b.den_nz,Rat.mkRat_eq_iff (aT (aT a.den_nz b.den_nz) b.den_nz) a.den_nz,Int.ofNat_sub hle]
  push_cast
  grind
 show mkRat (((a.num.natAbs*b.den-b.num.natAbs*a.den:Nat)):Int) (a.den*b.den)=a-b
 grind
def mulP(p q:Nat×Nat):Nat×Nat:=zBX (p.1*q.1) (p.2*q.2)
theorem mulP_q{a b:Rat}(ha:0<=a)(I:0<=b):mulP (prQ a) (prQ b)=prQ (a*b):=by
 unfold mulP;refine low_q (dZ (den_q a) (den_q b)) ?_
 conv=>rhs;rw[as_q ha,as_q I]
 rw[Rat.mkRat_mul_mkRat];simp
def SzN(k n:Nat):Prop:=(zAc H n).length<=k/\(zAc BT n).length<=k
theorem len_pow{B:Nat}(hB:10<=B){n k:Nat}(h:n<10^k):(zAc B n).length<=k:=by
 have hB1:1<B:=za
 rcases bI (zAc B n).length with h0|h0
 ·omega
 ·have:=wval_ge (B:=B) h0 (zCw hB1 h0)
  rw[zAm hB1]at this;refine Nat.le_of_not_lt fun hk=>?_
  have h2:10^k<=B^((zAc B n).length-1):=dX (Nat.pow_le_pow_left hB k) (dI za za);omega
theorem szN_of{n k:Nat}(h:n<10^k):SzN k n:=⟨len_pow zd h,len_pow zd h⟩
theorem SzN.le{n k m:Nat}(h:SzN k n)(hk:k<=m):SzN m n:=⟨dX h.1 hk,dX h.2 hk⟩
def SzQ(k:Nat)(q:Rat):Prop:=SzN k q.num.natAbs/\SzN k q.den
theorem SzQ.le{q:Rat}{k m:Nat}(h:SzQ k q)(hk:k<=m):SzQ m q:=⟨h.1.le hk,h.2.le hk⟩
theorem ratF_gcd{nu de:BA}(h:zDg nu de=0):Nat.gcd (zAy (zAU nu)) (zAy de)=1:=by
 unfold zDg at h
 split at h
 ·cases h
 split at h
 ·cases h
 split at h
 ·next h1=>exact h1
 ·cases h
theorem ratF_prQ{nu de:BA}(h:zDg nu de=0):(zAy (zAU nu),zAy de)=prQ (zDk nu de):=by
 obtain⟨_,h2,h3,_,_⟩:=zCn h;exact toQ_num (ratF_gcd h) (den_pos h2 h3)
open Go.RowKit Dw
def GivesMiI(A:OA)(c n:Nat)(w:World)(e:Ending)(w':World):Prop:=e=.returned (inV (decide (n≠0)) A c n)/\Below w.heap.size w w'
theorem IMinus_c(A:OA)(c n:Nat)(w:World):Calls Tryz.prog 126 #[inV false A c n] w (GivesMiI A c n w):=by
 by_cases h0:n=0
 ·have hl:=wl_zero h0
  have hl2:¬(0:Int)<((zAc H n).length:Int):=za;have hd:decide (n≠0)=false:=by simp[h0]
  unfold GivesMiI;rw[hd];clear h0 hd
  go_enter Tryz.func126,Tryz.ntmps126;go_wp2;refine aC (v:=inV false A c n) (by simp[results,Tryz.results126,go_sem,hl]) rfl ⟨rfl,?_⟩
  exact te3
 ·have hl2:=wl_pos h0
  have hl3:0<(zAc H n).length:=za;have hd:decide (n≠0)=true:=by simp[h0]
  unfold GivesMiI;rw[hd];clear h0 hd
  go_enter Tryz.func126,Tryz.ntmps126;go_wp2;refine aC (v:=inV true A c n) (by simp[results,Tryz.results126,go_sem]) rfl ⟨rfl,?_⟩
  exact te3
theorem RMul_c(A Z A3 A4:OA)(c c2 c3 c4 n d m e:Nat)(w:World)(h:Nt w A c n)(h2:Nt w Z c2 d)(h3:Nt w A3 c3 m)(h4:Nt w A4 c4 e)(J:(zAc H n).length<=100000000)(hd:(zAc H d).length<=100000000)(hm:(zAc H m).length<=100000000)(he:(zAc H e).length<=100000000)(hd0:0<d)(he0:0<e): Calls Tryz.prog 148 #[raV false A c n Z c2 d,raV false A3 c3 m A4 c4 e] w (zCz false (mulP (n,d) (m,e)).1 (mulP (n,d) (m,e)).2 w):=by
 have l1:=zDb n m;have l3:=zDb d e;have HM1:=zq (fun W (x:Nt W A c n) (y:Nt W A3 c3 m)=>IMul_c A A3 c c3 n m W x y za za);have HM3:=zq (fun W (x:Nt W Z c2 d) (y:Nt W A4 c4 e)=>Mul_c Z A4 c2 c4 d e W x y za za);have HO:=zq (fun A5 c5 A6 c6 W (x:Nt W A5 c5 (n*m)) (y:Nt W A6 c6 (d*e))=>Over_c A5 A6 c5 c6 (n*m) (d*e) false W x y (dZ hd0 he0) za za);simp only[eK]at HO;have hap:mulP (n,d) (m,e)=zBX (n*m) (d*e):=rfl;rw[hap];clear hap l1 l3;generalize (zBX (n*m) (d*e)).1=pp at *;generalize (zBX (n*m) (d*e)).2=pq at *;generalize n*m=p1 at *;generalize d*e=p3 at *;have G:Hid (Bx (((w.alloc (.cells (raC A c n Z c2 d) 86)).alloc (.cells (raC A3 c3 m A4 c4 e) 86)).alloc (.cells zCc 86)) w.heap.size (raC A c n Z c2 d) 86):=((Bx.new _ _ _).alloc _).alloc _;have Q:Hid (Bx (((w.alloc (.cells (raC A c n Z c2 d) 86)).alloc (.cells (raC A3 c3 m A4 c4 e) 86)).alloc (.cells zCc 86)) (w.heap.size+1) (raC A3 c3 m A4 c4 e) 86):=(Bx.new1 _ _ _ _).alloc _;have HZ0:Hid (Bx (((w.alloc (.cells (raC A c n Z c2 d) 86)).alloc (.cells (raC A3 c3 m A4 c4 e) 86)).alloc (.cells zCc 86)) (w.heap.size+1+1) zCc 86):=Bx.new2 _ _ _ _ _;have HB0:Hid (Below w.heap.size w (((w.alloc (.cells (raC A c n Z c2 d) 86)).alloc (.cells (raC A3 c3 m A4 c4 e) 86)).alloc (.cells zCc 86))):=(((aR w.heap.size w).alloc (aK _) _).alloc ze _).alloc zg _;obtain⟨W,hW⟩:∃W,W=(((w.alloc (.cells (raC A c n Z c2 d) 86)).alloc (.cells (raC A3 c3 m A4 c4 e) 86)).alloc (.cells zCc 86)):=⟨_,rfl⟩;have g1:Nt W A c n:=ym;have g2:Nt W Z c2 d:=yi;have g3:Nt W A3 c3 m:=yj;have g4:Nt W A4 c4 e:=yk;rw[<-hW]at G Q HZ0 HB0;clear J hd hm he hd0 he0
 go_enter Tryz.func148,Tryz.ntmps148;(go_wp2_with fail);rw[<-hW];clear hW;have HX:=zq (G.o.drew);have HY:=zq (Q.o.drew);have HZ:=zq (HZ0.o.drew);have HB:Hid (Below w.heap.size w W.drew):=zAb HB0.o 1;obtain⟨x0,x1,x2⟩:=G.o.t;obtain⟨y0,y1,y2⟩:=Q.o.t;clear G Q HZ0 HB0
 go_region_held3 (fun w'=>(w'.cell? ⟨w.heap.size,0,none⟩=some (.bool false)/\w'.cell? ⟨w.heap.size,1,none⟩=some (.slice A (zAc H n).length c)/\w'.cell? ⟨w.heap.size,2,none⟩=some (.slice Z (zAc H d).length c2))/\(w'.cell? ⟨w.heap.size+1,0,none⟩=some (.bool false)/\w'.cell? ⟨w.heap.size+1,1,none⟩=some (.slice A3 (zAc H m).length c3)/\w'.cell? ⟨w.heap.size+1,2,none⟩=some (.slice A4 (zAc H e).length c4)))
  ((refine⟨⟨?_,?_,?_⟩,?_,?_,?_⟩<;>first|with_reducible assumption|go_simp))
  (first
   |((go_at_call 101;(with_reducible refine(HM1.o _ g1.drew g3.drew).mono ?_);rintro e1 w1⟨A5,c5,rfl,h5,hb1⟩;have X:=zq (HX.o.below hb1);have HY1:=zq (HY.o.below hb1);have HZ1:=zq (HZ.o.below hb1);have HB1:=zq (HB.o.trans (hb1.mono HB.o.size));have g21:=g2.drew.below hb1;have g41:=g4.drew.below hb1;obtain⟨a0,a1,a2⟩:=X.o.t;obtain⟨b0,b1,b2⟩:=HY1.o.t;clear hb1))
   |((go_at_call 166;(with_reducible refine(HM3.o _ g21 g41).mono ?_);rintro e4 w4⟨A8,c8,rfl,h8,hb4⟩;have HX4:=zq (X.o.below hb4);have HY4:=zq (HY1.o.below hb4);have HZ4:=zq (HZ1.o.below hb4);have HB4:=zq (zAa HB1.o hb4);have h54:=h5.below hb4;clear a0 a1 a2 b0 b1 b2;obtain⟨a0,a1,a2⟩:=HX4.o.t;obtain⟨b0,b1,b2⟩:=HY4.o.t;clear hb4))
   |((go_at_call 164;(with_reducible refine(HO.o _ _ _ _ _ h54 h8).mono ?_);rintro e5 w5⟨A9,c9,AD,cE,rfl,h9,hF,hb5⟩;have HX5:=zq (HX4.o.below hb5);have HY5:=zq (HY4.o.below hb5);have HZ5:=zq (HZ4.o.below hb5);have HB5:=zq (zAa HB4.o hb5);clear a0 a1 a2 b0 b1 b2;obtain⟨a0,a1,a2⟩:=HX5.o.t;obtain⟨b0,b1,b2⟩:=HY5.o.t;obtain⟨r0,r1,r2⟩:=HZ5.o.t;have fr:=HZ5.o.frozen;have rl:=HZ5.o.lt;clear hb5)))
 clear HX HY HZ HB;go_wp2;refine aC (v:=raV false A9 c9 pp AD cE pq) (by simp[results,Tryz.results148,go_sem,r0,r1,r2]) rfl ⟨A9,c9,AD,cE,rfl,h9.setR HZ5.o _ _ _,hF.setR HZ5.o _ _ _,?_⟩
 exact((HB5.o.setCell zg _).setCell zg _).setCell zg _
theorem RSub_c(A Z A3 A4:OA)(c c2 c3 c4 n d m e:Nat)(w:World)(h:Nt w A c n)(h2:Nt w Z c2 d)(h3:Nt w A3 c3 m)(h4:Nt w A4 c4 e)(J:(zAc H n).length<=100000000)(hd:(zAc H d).length<=100000000)(hm:(zAc H m).length<=100000000)(he:(zAc H e).length<=100000000)(hd0:0<d)(he0:0<e)(hle:m*d<=n*e): Calls Tryz.prog 65 #[raV false A c n Z c2 d,raV false A3 c3 m A4 c4 e] w (zCz false (subP (n,d) (m,e)).1 (subP (n,d) (m,e)).2 w):=by
 have HA:Hid (∀W,Nt W A c n->Nt W Z c2 d->Nt W A3 c3 m->Nt W A4 c4 e->Calls Tryz.prog 100 #[raV false A c n Z c2 d,raV (decide (m≠0)) A3 c3 m A4 c4 e] W (zCz false (subP (n,d) (m,e)).1 (subP (n,d) (m,e)).2 W)):=by
  intro W x1 x2 x3 x4
  by_cases h0:m=0
  ·have e1:decide (m≠0)=false:=by simp[h0]
   have e2:subP (n,d) (m,e)=addP (n,d) (m,e):=by
    unfold subP addP;rw[h0];show zBX (n*e-0*d) (d*e)=zBX (n*e+0*d) (d*e)
    rw[Nat.zero_mul,Nat.sub_zero,dT]
   rw[e1,e2];exact RAdd_c A Z A3 A4 c c2 c3 c4 n d m e W x1 x2 x3 x4 J hd hm he hd0 he0
  ·have e1:decide (m≠0)=true:=by simp[h0]
   rw[e1];exact RAddN_c A Z A3 A4 c c2 c3 c4 n d m e W x1 x2 x3 x4 J hd hm he hd0 he0 h0 hle
 have HMI:Hid (∀W,Calls Tryz.prog 126 #[inV false A3 c3 m] W fun e w'=>e=.returned (inV (decide (m≠0)) A3 c3 m)/\Below W.heap.size W w'):=fun W=>IMinus_c A3 c3 m W
 generalize decide (m≠0)=ng at *;generalize (subP (n,d) (m,e)).1=pp at *;generalize (subP (n,d) (m,e)).2=pq at *;have G:Hid (Bx (((w.alloc (.cells (raC A c n Z c2 d) 86)).alloc (.cells (raC A3 c3 m A4 c4 e) 86)).alloc (.cells zCc 86)) w.heap.size (raC A c n Z c2 d) 86):=((Bx.new _ _ _).alloc _).alloc _;have Q:Hid (Bx (((w.alloc (.cells (raC A c n Z c2 d) 86)).alloc (.cells (raC A3 c3 m A4 c4 e) 86)).alloc (.cells zCc 86)) (w.heap.size+1) (raC A3 c3 m A4 c4 e) 86):=(Bx.new1 _ _ _ _).alloc _;have HZ0:Hid (Bx (((w.alloc (.cells (raC A c n Z c2 d) 86)).alloc (.cells (raC A3 c3 m A4 c4 e) 86)).alloc (.cells zCc 86)) (w.heap.size+1+1) zCc 86):=Bx.new2 _ _ _ _ _;have HB0:Hid (Below w.heap.size w (((w.alloc (.cells (raC A c n Z c2 d) 86)).alloc (.cells (raC A3 c3 m A4 c4 e) 86)).alloc (.cells zCc 86))):=(((aR w.heap.size w).alloc (aK _) _).alloc ze _).alloc zg _;obtain⟨W,hW⟩:∃W,W=(((w.alloc (.cells (raC A c n Z c2 d) 86)).alloc (.cells (raC A3 c3 m A4 c4 e) 86)).alloc (.cells zCc 86)):=⟨_,rfl⟩;have g1:Nt W A c n:=ym;have g2:Nt W Z c2 d:=yi;have g3:Nt W A3 c3 m:=yj;have g4:Nt W A4 c4 e:=yk;rw[<-hW]at G Q HZ0 HB0;clear J hd hm he hd0 he0 hle
 go_enter Tryz.func65,Tryz.ntmps65;(go_wp2_with fail);rw[<-hW];clear hW;have HX:=zq (G.o.drew);have HY:=zq (Q.o.drew);have HZ:=zq (HZ0.o.drew);have HB:Hid (Below w.heap.size w W.drew):=zAb HB0.o 1;obtain⟨x0,x1,x2⟩:=G.o.t;obtain⟨y0,y1,y2⟩:=Q.o.t;clear G Q HZ0 HB0
 go_region_held3 (fun w'=>(w'.cell? ⟨w.heap.size,0,none⟩=some (.bool false)/\w'.cell? ⟨w.heap.size,1,none⟩=some (.slice A (zAc H n).length c)/\w'.cell? ⟨w.heap.size,2,none⟩=some (.slice Z (zAc H d).length c2))/\(w'.cell? ⟨w.heap.size+1,0,none⟩=some (.bool false)/\w'.cell? ⟨w.heap.size+1,1,none⟩=some (.slice A3 (zAc H m).length c3)/\w'.cell? ⟨w.heap.size+1,2,none⟩=some (.slice A4 (zAc H e).length c4)))
  ((refine⟨⟨?_,?_,?_⟩,?_,?_,?_⟩<;>first|with_reducible assumption|go_simp))
  (first
   |((go_at_call 126;(with_reducible refine(HMI.o _).mono ?_);rintro e1 w1⟨rfl,hb1⟩;have X:=zq (HX.o.below hb1);have HY1:=zq (HY.o.below hb1);have HZ1:=zq (HZ.o.below hb1);have HB1:=zq (HB.o.trans (hb1.mono HB.o.size));have g11:=g1.drew.below hb1;have g21:=g2.drew.below hb1;have g31:=g3.drew.below hb1;have g41:=g4.drew.below hb1;obtain⟨a0,a1,a2⟩:=X.o.t;obtain⟨b0,b1,b2⟩:=HY1.o.t;clear hb1))
   |((go_at_call 100;(with_reducible refine(HA.o _ g11 g21 g31 g41).mono ?_);rintro e5 w5⟨A9,c9,AD,cE,rfl,h9,hF,hb5⟩;have HX5:=zq (X.o.below hb5);have HY5:=zq (HY1.o.below hb5);have HZ5:=zq (HZ1.o.below hb5);have HB5:=zq (zAa HB1.o hb5);clear a0 a1 a2 b0 b1 b2;obtain⟨a0,a1,a2⟩:=HX5.o.t;obtain⟨b0,b1,b2⟩:=HY5.o.t;obtain⟨r0,r1,r2⟩:=HZ5.o.t;have fr:=HZ5.o.frozen;have rl:=HZ5.o.lt;clear hb5)))
 clear HX HY HZ HB;go_wp2;refine aC (v:=raV false A9 c9 pp AD cE pq) (by simp[results,Tryz.results65,go_sem,r0,r1,r2]) rfl ⟨A9,c9,AD,cE,rfl,h9.setR HZ5.o _ _ _,hF.setR HZ5.o _ _ _,?_⟩
 exact((HB5.o.setCell zg _).setCell zg _).setCell zg _
end Go.Proofs.YtbbchlpccgkikaaGreatDoor
namespace Go.Proofs.YtbbchlpccgkikaaGreatDoor
open Dw
open Go.RowKit Dw
abbrev encB:UInt8->List Value:=fun c=>[.int .u8 (c.toNat:Int)]
theorem elB:ElemT Tryz.prog 217 5 (.int .u8 0) 1 1:=⟨Tryz.underlying217,zc,rfl,zd⟩
abbrev OwnB(w:World)(base:Nat)(v:Value)(l:List UInt8):Prop:=zAv encB 1 w base 5 v l
theorem encB_flat(L:List UInt8):L.flatMap encB=L.map fun c=>Value.int .u8 (c.toNat:Int):=flat1 L
theorem OwnB.get{w:World}{B g c n:Nat}{L:List UInt8}(h:OwnB w B (.slice (some ⟨g,0,none⟩) n c) L)(J:n=L.length)(i:Nat)(hi:i<L.length):w.cell? ⟨g,i,none⟩=some (.int .u8 (L[i].toNat:Int))/\w.frozen? ⟨g,i,none⟩=false:=by
 subst J;unfold OwnB zAv at h;rw[encB_flat]at h;have h1:=eC h i za;exact⟨by rw[h1];simp[hi],World.ownsRow.frozenAt h i⟩
end Go.Proofs.YtbbchlpccgkikaaGreatDoor
namespace Dw
open Go Go.RowKit
open Go.ChangeMaps (setBlock)
def PMap{κ:Type}[DecidableEq κ](mk:κ->Value)(w:World)(r:Nat)(L:List (κ×Value)):Prop:=
 ∃(es:Array MapEntry)(clk:Nat),w.heap[r]?=some (.map es clk)/\es.toList.map (fun e=>(e.key,e.val))=L.map (fun p=>(mk p.1,p.2))/\(L.map (·.1)).Nodup/\(es.toList.map (·.born)).Nodup/\∀e∈es.toList,e.born<clk
section
variable {κ:Type} [DecidableEq κ] {mk:κ→Value} {w w':World} {r:Nat} {L:List (κ×Value)}
theorem PMap.is(h:PMap mk w r L):zAt mk w r (zAZ L):=by
 obtain⟨es,clk,h1,h2,_⟩:=h;exact⟨es,clk,L,h1,h2,fun _=>rfl⟩
theorem PMap.lt(h:PMap mk w r L):r<w.heap.size:=h.is.lt
theorem PMap.keep(h:PMap mk w r L)(hk:w'.heap[r]?=w.heap[r]?):PMap mk w' r L:=by
 obtain⟨es,clk,hr,rest⟩:=h;exact⟨es,clk,hk.trans hr,rest⟩
theorem PMap.below(h:PMap mk w r L)(I:Below w.heap.size w w'):PMap mk w' r L:=h.keep (I.block r h.lt)
theorem PMap.new(mk:κ->Value)(w:World):PMap mk (w.alloc (.map #[] 0)) w.heap.size []:=
 ⟨#[],0,aJ w _,rfl,List.nodup_nil,List.nodup_nil,fun _ h=>jn⟩
theorem PMap.nodup(h:PMap mk w r L):(L.map (·.1)).Nodup:=by
 obtain⟨_,_,_,_,h,_⟩:=h;exact h
def putE(L:List (κ×Value))(k:κ)(v:Value):List (κ×Value):=if (zAZ L k).isSome then L.map (fun p=>if p.1=k then (k,v) else p) else L++[(k,v)]
def delE(L:List (κ×Value))(k:κ):List (κ×Value):=L.filter fun p=>decide (p.1≠k)
theorem lookE_none{L:List (κ×Value)}{k:κ}:zAZ L k=none↔∀p∈L,p.1≠k:=by
 unfold zAZ;rw[Option.map_eq_none_iff,List.find?_eq_none]
 constructor
 ·exact fun h p hp e=>h p hp (by simp[e])
 ·exact fun h p hp e=>h p hp (by simpa using(fE e).symm)
theorem lookE_mem{L:List (κ×Value)}(J:(L.map (·.1)).Nodup){k:κ}{v:Value}:zAZ L k=some v↔(k,v)∈L:=by
 induction L with
 |nil=>simp[zAZ]
 |cons a t ih =>
  rw[aZ]at J;obtain⟨h1,h2⟩:=List.nodup_cons.1 J
  by_cases he:k=a.1
  ·subst he
   have e:zAZ (a::t) a.1=some a.2:=by simp[zAZ]
   rw[e]
   constructor
   ·intro h
    injection h with h
    subst h;exact cS
   ·intro h
    rcases List.mem_cons.1 h with h|h
    ·rw[<-h]
    ·exact absurd (bJ (f:=(·.1)) h) h1
  ·have e:zAZ (a::t) k=zAZ t k:=by simp[zAZ,he]
   rw[e,ih h2,fD]
   constructor
   ·exact .inr
   ·rintro(h|h)
    ·exact absurd (by rw[<-h]) he
    ·exact h
theorem putE_keys{L:List (κ×Value)}(J:(L.map (·.1)).Nodup)(k:κ)(v:Value):((putE L k v).map (·.1)).Nodup:=by
 unfold putE
 split
 ·have:(L.map fun p=>if p.1=k then (k,v) else p).map (·.1)=L.map (·.1):=by
   rw[List.map_map];refine List.map_congr_left fun p _=>?_
   by_cases hp:p.1=k
   ·simp[hp]
   ·simp[hp]
  rw[this];exact J
 ·next h =>
  rw[aA,List.nodup_append];refine⟨J,ze,fun a ha b I=>?_⟩;simp at I
  subst I;obtain⟨p,hp,rfl⟩:=List.mem_map.1 ha;exact lookE_none.1 zu p hp
theorem lookE_put(L:List (κ×Value))(k:κ)(v:Value)(k':κ):zAZ (putE L k v) k'=if k'=k then some v else zAZ L k':=by
 unfold putE
 split
 ·next h =>
  induction L with
  |nil=>simp[zAZ]at h
  |cons a t ih =>
   by_cases ha:a.1=k
   ·by_cases hk:k'=k
    ·subst hk;simp[zAZ,ha]
    ·have e:zAZ ((a::t).map fun p=>if p.1=k then (k,v) else p) k'=zAZ (t.map fun p=>if p.1=k then (k,v) else p) k':=by simp[zAZ,ha,hk]
     have e2:zAZ (a::t) k'=zAZ t k':=by
      have:k'≠a.1:=fun e=>hk (e.trans ha)
      simp[zAZ,this]
     rw[e,e2,aO hk]
     have key:∀(t:List (κ×Value)),zAZ (t.map fun p=>if p.1=k then (k,v) else p) k'=zAZ t k':=fun t=>by
      induction t with
      |nil=>rfl
      |cons b t ih =>
       by_cases I:b.1=k
       ·have h9:k'≠b.1:=fun e=>hk (e.trans I)
        simp only[aZ,I,if_true];simp[zAZ,hk,h9]
        simpa[zAZ]using ih
       ·by_cases D:k'=b.1
        ·simp[zAZ,I,D]
        ·simp[zAZ,I,D]
         simpa[zAZ]using ih
     exact key t
   ·have e1:zAZ (a::t) k=zAZ t k:=by
     have:k≠a.1:=fun e=>ha e.symm
     simp[zAZ,this]
    rw[e1]at h;have ih:=ih h
    by_cases hka:k'=a.1
    ·have:k'≠k:=fun e=>ha (hka▸e)
     simp[zAZ,ha,hka]
    ·have e3:zAZ ((a::t).map fun p=>if p.1=k then (k,v) else p) k'=zAZ (t.map fun p=>if p.1=k then (k,v) else p) k':=by simp[zAZ,ha,hka]
     have e4:zAZ (a::t) k'=zAZ t k':=by simp[zAZ,hka]
     rw[e3,e4,ih]
 ·next h=>exact lookE_push zu k'
end
section
variable {κ:Type} [DecidableEq κ]
theorem modify_map{v:Value}{k:κ}:∀{L:List (κ×Value)}{i:Nat},(L.map (·.1)).Nodup->(L[i]?).map (·.1)=some k->L.modify i (fun _=>(k,v))=L.map (fun p=>if p.1=k then (k,v) else p)
 |[],_,_,h=>by simp at h
 |a::t,0,J,h=>by
  rw[aZ]at J;obtain⟨h1,h2⟩:=List.nodup_cons.1 J;have ha:a.1=k:=zu
  have:t.map (fun p=>if p.1=k then (k,v) else p)=t:=by
   conv=>rhs;rw[<-List.map_id t]
   refine List.map_congr_left fun p hp=>?_
   have:p.1≠k:=fun e=>h1 (by rw[ha,<-e];exact bJ (f:=(·.1)) hp)
   simp[this]
  simp[ha,this]
 |a::t,i+1,J,h=>by
  rw[aZ]at J;obtain⟨h1,h2⟩:=List.nodup_cons.1 J;have ih:=modify_map (v:=v) (k:=k) (L:=t) (i:=i) h2 zu
  have ha:a.1≠k:=fun e=>by
   exact tb0
  simp[ha,ih]
theorem erase_map{k:κ}:∀{L:List (κ×Value)}{i:Nat},(L.map (·.1)).Nodup->(L[i]?).map (·.1)=some k->L.eraseIdx i=delE L k
 |[],_,_,h=>by simp at h
 |a::t,0,J,h=>by
  rw[aZ]at J;obtain⟨h1,h2⟩:=List.nodup_cons.1 J;have ha:a.1=k:=zu
  have:delE t k=t:=List.filter_eq_self.2 fun p hp=>by
   have:p.1≠k:=fun e=>h1 (by rw[ha,<-e];exact bJ (f:=(·.1)) hp)
   simpa using this
  have e:delE (a::t) k=delE t k:=by simp[delE,ha]
  rw[e,this];rfl
 |a::t,i+1,J,h=>by
  rw[aZ]at J;obtain⟨h1,h2⟩:=List.nodup_cons.1 J;have ih:=erase_map (k:=k) (L:=t) (i:=i) h2 zu
  have ha:a.1≠k:=fun e=>by
   exact tb0
  have e:delE (a::t) k=a::delE t k:=by simp[delE,ha]
  rw[e,List.eraseIdx_cons_succ,ih]
theorem delE_none{L:List (κ×Value)}{k:κ}(h:zAZ L k=none):delE L k=L:=List.filter_eq_self.2 fun p hp=>by simpa using lookE_none.1 h p hp
end
section
variable {P:Program} {κ:Type} [DecidableEq κ] {mk:κ→Value} {T K E:TypeId} {w:World} {r:Nat} {L:List (κ×Value)}
theorem run_update_pm(hT:P.underlying T=some (.map K E))(hK:KeyT P K mk)(h:PMap mk w r L)(k:κ)(v:Value): ∃w',(Instr.mapUpdate T (.map (some r)) (mk k) v).run P w=.ok () w'/\PMap mk w' r (putE L k v)/\w.grownBy w' (some r)/\w'.heap.size=w.heap.size:=by
 obtain⟨es,clk,hr,hL,J,I,hc⟩:=h;have hrl:r<w.heap.size:=(Array.getElem?_eq_some_iff.1 hr).1;obtain⟨d,hd,hs⟩:=hK.same;obtain⟨o,h1,h2,h3⟩:=zDS hs k es.toList L 0 hL;have hg:(getObj r).run P w=.ok (.map es clk) w:=jd;have H:∀(es':Array MapEntry)(c':Nat),(setObj r (.map es' c')).run P w=.ok () { w with heap:=w.heap.setIfInBounds r (.map es' c') }:=fun es' c'=>by simp[setObj,Sem.run,hr]
 have hfk:(Instr.findKey K (mk k) es.toList).run P w=.ok o w:=by
  simp[Instr.findKey,run_underlying hd,h1]
 have S:∀(es':Array MapEntry)(c':Nat),w.grownBy { w with heap:=w.heap.setIfInBounds r (.map es' c') } (some r):=fun es' c' =>
  ⟨rfl,rfl,rfl,ze,fun i hi hne=>by simp only[Array.getElem?_setIfInBounds];rw[aO (fun e=>hne (by rw[e]))]⟩
 have C:∀(es':Array MapEntry)(c':Nat),({ w with heap:=w.heap.setIfInBounds r (.map es' c') }:World).heap[r]?=some (.map es' c'):=fun es' c'=>by
  simp[hrl]
 have hlen:es.size=L.length:=qh
 cases o with
 |none =>
  have hnone:zAZ L k=none:=jm;have hp:putE L k v=L++[(k,v)]:=by unfold putE;rw[hnone];rfl
  refine⟨_,?_,⟨_,_,C (es.push { key:=mk k,val:=v,born:=clk }) (clk+1),?_,?_,?_,?_⟩,S _ _,ze⟩
  ·simp[Instr.mapUpdate,run_underlying hT,hg,hK.chk,hfk,H]
  ·rw[hp];simp[hL]
  ·exact putE_keys J k v
  ·simp only[Array.toList_push,aA,aZ,List.map_nil]
   rw[List.nodup_append];refine⟨I,ze,fun a ha b hb'=>?_⟩;simp at hb'
   subst hb';obtain⟨e,he,rfl⟩:=List.mem_map.1 ha;exact Nat.ne_of_lt (hc e he)
  ·intro e he
   simp only[Array.toList_push,eY,List.mem_singleton]at he
   rcases he with he|rfl
   ·exact Nat.lt_succ_of_lt (hc e he)
   ·exact Nat.lt_succ_self _
 |some p =>
  obtain⟨i,v0⟩:=p;obtain⟨_,h5,h6,h7⟩:=h3 i v0 rfl;simp only[Nat.sub_zero]at h5 h6 h7;have hi:i<es.size:=za;have hsome:(zAZ L k).isSome=true:=by rw[<-h2];rfl
  have hp:putE L k v=L.modify i fun _=>(k,v):=by unfold putE;rw[aF hsome,modify_map J h6]
  have hkey:es[i].key=mk k:=by
   exact ta1
  have hstay:∀x,(Instr.keyThatStays (mk k) (mk k)).run P x=.ok (mk k) x:=fun x=>by
   simp[Instr.keyThatStays,hK.bits]
  have hborn:((es.modify i fun e=>{ e with key:=mk k,val:=v }).toList.map (·.born))=es.toList.map (·.born):=by
   apply List.ext_getElem?
   intro n;rw[List.getElem?_map,List.getElem?_map,Array.toList_modify,List.getElem?_modify]
   by_cases J:i=n
   ·subst J
    rw[List.getElem?_eq_getElem qz];simp
   ·simp only[J,aL]
    cases es.toList[n]?<;>rfl
  refine⟨_,?_,⟨_,_,C (es.modify i fun e=>{ e with key:=mk k,val:=v }) clk,?_,?_,?_,?_⟩,S _ _,ze⟩
  ·simp[Instr.mapUpdate,run_underlying hT,hg,hK.chk,hfk,hi,hkey,hstay,H]
  ·rw[hp]
   exact tas
  ·exact putE_keys J k v
  ·rw[hborn];exact I
  ·intro e he
   have:e.born∈(es.modify i fun e=>{ e with key:=mk k,val:=v }).toList.map (·.born):=bJ (f:=(·.born)) he;rw[hborn]at this;obtain⟨e',he',e2⟩:=List.mem_map.1 this;rw[<-e2];exact hc e' he'
theorem run_delete_pm{ty:TypeId}(hT:P.underlying T=some (.map K E))(hK:KeyT P K mk)(h:PMap mk w r L)(k:κ): ∃w',(Builtin.delete_ #[T,K] ty #[.map (some r),mk k]).run P w=.ok (.tuple #[]) w'/\PMap mk w' r (delE L k)/\w.grownBy w' (some r)/\w'.heap.size=w.heap.size:=by
 obtain⟨es,clk,hr,hL,J,I,hc⟩:=h;have hrl:r<w.heap.size:=(Array.getElem?_eq_some_iff.1 hr).1;obtain⟨d,hd,hs⟩:=hK.same;obtain⟨o,h1,h2,h3⟩:=zDS hs k es.toList L 0 hL;have hg:(getObj r).run P w=.ok (.map es clk) w:=jd;have H:∀(es':Array MapEntry)(c':Nat),(setObj r (.map es' c')).run P w=.ok () { w with heap:=w.heap.setIfInBounds r (.map es' c') }:=fun es' c'=>by simp[setObj,Sem.run,hr]
 have hfk:(Instr.findKey K (mk k) es.toList).run P w=.ok o w:=by
  simp[Instr.findKey,run_underlying hd,h1]
 have S:∀(es':Array MapEntry)(c':Nat),w.grownBy { w with heap:=w.heap.setIfInBounds r (.map es' c') } (some r):=fun es' c' =>
  ⟨rfl,rfl,rfl,ze,fun i hi hne=>by simp only[Array.getElem?_setIfInBounds];rw[aO (fun e=>hne (by rw[e]))]⟩
 have C:∀(es':Array MapEntry)(c':Nat),({ w with heap:=w.heap.setIfInBounds r (.map es' c') }:World).heap[r]?=some (.map es' c'):=fun es' c'=>by
  simp[hrl]
 have hlen:es.size=L.length:=qh
 cases o with
 |none =>
  have hnone:zAZ L k=none:=jm;refine⟨_,?_,⟨es,clk,C _ _,by rw[delE_none hnone];exact hL,by rw[delE_none hnone];exact J,I,hc⟩,S _ _,ze⟩
  simp[Builtin.delete_,run_underlying hT,hg,hK.chk,hfk,H]
 |some p =>
  obtain⟨i,v0⟩:=p;obtain⟨_,h5,h6,h7⟩:=h3 i v0 rfl;simp only[Nat.sub_zero]at h5 h6 h7;have hi:i<es.size:=za
  have he:(es.eraseIdxIfInBounds i).toList=es.toList.eraseIdx i:=by
   rw[Array.eraseIdxIfInBounds,dif_pos hi];simp
  have hdl:=erase_map J h6;refine⟨_,?_,⟨es.eraseIdxIfInBounds i,clk,C _ _,?_,?_,?_,?_⟩,S _ _,ze⟩
  ·simp[Builtin.delete_,run_underlying hT,hg,hK.chk,hfk,H]
  ·rw[he,<-hdl,Go.ChangeMaps.map_eraseIdx,Go.ChangeMaps.map_eraseIdx,hL]
  ·exact J.sublist (List.Sublist.map _ List.filter_sublist)
  ·rw[he,Go.ChangeMaps.map_eraseIdx]
   exact I.sublist (List.eraseIdx_sublist _ _)
  ·intro e hm
   rw[he]at hm;exact hc e (List.mem_of_mem_eraseIdx hm)
def zCl(mk:κ->Value)(w:World)(it r:Nat)(L R:List (κ×Value)):Prop:=
 ∃(es:Array MapEntry)(clk since c0:Nat)(seen:Array Nat),w.heap[r]?=some (.map es clk)/\es.toList.map (fun e=>(e.key,e.val))=L.map (fun p=>(mk p.1,p.2))/\(L.map (·.1)).Nodup/\(es.toList.map (·.born)).Nodup/\(∀e∈es.toList,e.born<clk) /\
  w.heap[it]?=some (.mapIter (some r) since seen c0)/\(∀e∈es.toList,e.born<since)/\since<=c0/\since<=clk/\(leftOf es seen).toList.map (fun e=>(e.key,e.val))=R.map (fun p=>(mk p.1,p.2))
end
theorem left_push{es:Array MapEntry}{seen:Array Nat}(I:(es.toList.map (·.born)).Nodup){e:MapEntry}(he:e∈(leftOf es seen).toList): ∃A B,(leftOf es seen).toList=A++e::B/\(leftOf es (seen.push e.born)).toList=A++B:=by
 obtain⟨A,B,hAB⟩:=List.append_of_mem he;refine⟨A,B,hAB,?_⟩
 have e1:(leftOf es (seen.push e.born)).toList=(leftOf es seen).toList.filter fun x=>decide (x.born≠e.born):=by
  unfold leftOf;rw[Array.toList_filter,Array.toList_filter,List.filter_filter];refine List.filter_congr fun x _=>?_
  rw[Array.contains_push]
  by_cases hx:x.born=e.born
  ·simp[hx]
  ·simp[hx]
 have J:((leftOf es seen).toList.map (·.born)).Nodup:=by
  unfold leftOf;rw[Array.toList_filter];exact I.sublist (List.Sublist.map _ List.filter_sublist)
 rw[e1,hAB,eG,eT ze];rw[hAB,aA,aZ,List.nodup_append]at J;obtain⟨_,h2,h3⟩:=J;obtain⟨h4,_⟩:=List.nodup_cons.1 h2
 congr 1
 ·exact List.filter_eq_self.2 fun x hx=>by
   have:=h3 x.born (bJ (f:=(·.born)) hx) e.born cS
   simpa using this
 ·exact List.filter_eq_self.2 fun x hx=>by
   have:x.born≠e.born:=fun h=>h4 (by rw[<-h];exact bJ (f:=(·.born)) hx)
   simpa using this
section
variable {P:Program} {κ:Type} {mk:κ→Value} {T K E:TypeId} {w w':World} {r it:Nat} {L R:List (κ×Value)}
theorem zCl.map[DecidableEq κ](h:zCl mk w it r L R):PMap mk w r L:=by
 obtain⟨es,clk,since,c0,seen,h1,h2,h3,h4,h5,_⟩:=h;exact⟨es,clk,h1,h2,h3,h4,h5⟩
theorem zCl.lt(h:zCl mk w it r L R):it<w.heap.size:=by
 obtain⟨es,clk,since,c0,seen,_,_,_,_,_,h6,_⟩:=h;exact(Array.getElem?_eq_some_iff.1 h6).1
theorem zCl.keep(h:zCl mk w it r L R)(h1:w'.heap[r]?=w.heap[r]?)(h2:w'.heap[it]?=w.heap[it]?):zCl mk w' it r L R:=by
 obtain⟨es,clk,since,c0,seen,k1,a,b,c,d,k6,rest⟩:=h;exact⟨es,clk,since,c0,seen,h1.trans k1,a,b,c,d,h2.trans k6,rest⟩
theorem zCl.below[DecidableEq κ](h:zCl mk w it r L R)(I:Below w.heap.size w w'):zCl mk w' it r L R:=h.keep (I.block r h.map.lt) (I.block it h.lt)
theorem zCl.start[DecidableEq κ](hT:P.underlying T=some (.map K E))(h:PMap mk w r L): ∃o,(Instr.range T (.map (some r))).run P w=.ok (.pointer (some ⟨w.heap.size,0,none⟩)) (w.alloc o)/\zCl mk (w.alloc o) w.heap.size r L L:=by
 obtain⟨es,clk,h1,h2,h3,h4,h5⟩:=h;have hrl:r<w.heap.size:=(Array.getElem?_eq_some_iff.1 h1).1;refine⟨_,run_range_map w T K E r es clk hT h1,es,clk,clk,clk,#[],(eJ w _ r hrl).trans h1,h2,h3,h4,h5,aJ w _,h5,aK _,aK _,?_⟩
 have:(leftOf es #[]).toList=es.toList:=by
  unfold leftOf;rw[Array.toList_filter];exact List.filter_eq_self.2 fun _ _=>ze
 rw[this];exact h2
theorem zCl.next(h:zCl mk w it r L R)(hinj:∀a b,mk a=mk b->a=b)(hne:it≠r)(ty:TypeId): (R=[]/\(Instr.next (.pointer (some ⟨it,0,none⟩)) false ty).run P w=.ok (.tuple #[.bool false]) w) \/ ∃p R' w',R.Perm (p::R')/\p∈L/\(Instr.next (.pointer (some ⟨it,0,none⟩)) false ty).run P w=.ok (.tuple #[.bool true,mk p.1,p.2]) w'/\(Instr.entry (.pointer (some ⟨it,0,none⟩))).run P w'=.ok (.tuple #[mk p.1,p.2]) w' /\ zCl mk w' it r L R'/\w.grownBy w' (some it)/\w'.heap.size=w.heap.size:=by
 obtain⟨es,clk,since,c0,seen,h1,h2,h3,h4,h5,h6,h7,h8,h9,h10⟩:=h;have hit:it<w.heap.size:=(Array.getElem?_eq_some_iff.1 h6).1;have hrl:r<w.heap.size:=(Array.getElem?_eq_some_iff.1 h1).1
 rcases run_next_at (P:=P) w ty it r since c0 seen es clk h6 h1 h7 h8 with ⟨h0,hrun⟩|⟨e,he,w1,hw1,hrun⟩
 ·left
  refine⟨?_,hrun⟩
  have:(leftOf es seen).toList=[]:=by
   have:(leftOf es seen).toList.length=0:=by simpa using h0
   exact List.length_eq_zero_iff.1 this
  rw[this]at h10;exact(List.map_eq_nil_iff.1 h10.symm)
 ·right
  obtain⟨A,B,hA,hB⟩:=left_push h4 he;rw[hA,aA,aZ]at h10;obtain⟨R1,R2,hR,hR1,hR2⟩:=List.map_eq_append_iff.1 h10.symm;obtain⟨p,R3,hR3,hp,hR4⟩:=List.map_eq_cons_iff.1 hR2
  injection hp with hk hv
  have hmem:e∈es.toList:=by
   unfold leftOf at he;rw[Array.toList_filter]at he;exact(List.mem_filter.1 he).1
  have hsz:w1.heap.size=w.heap.size:=by rcases hw1 with rfl|rfl<;>rfl
  have hsame:∀j:Nat,w1.heap[j]?=w.heap[j]?:=by
   rcases hw1 with e|e
   ·intro j;rw[e]
   ·intro j;rw[e];rfl
  have H:∀k:Nat,(setBlock w1 it (.mapIter (some r) since (seen.push e.born) clk)).heap[k]?=if it=k then some (.mapIter (some r) since (seen.push e.born) clk) else w.heap[k]?:=fun k=>by
   show(w1.heap.setIfInBounds it _)[k]?=_
   rw[Array.getElem?_setIfInBounds]
   by_cases hk:it=k
   ·subst hk;simp[hsz,hit]
   ·rw[aO hk,aO hk];exact hsame k
  have hit2:=H it;rw[aF rfl]at hit2;have hr2:=H r;rw[aO hne]at hr2;refine⟨p,R1++R3,_,?_,?_,hk▸hv▸hrun,?_,⟨es,clk,since,clk,seen.push e.born,hr2.trans h1,h2,h3,h4,h5,hit2,h7,h9,h9,?_⟩,⟨?_,?_,?_,?_,?_⟩,?_⟩
  ·rw[hR,hR3];exact List.perm_middle
  ·have hin:(mk p.1,p.2)∈L.map (fun p=>(mk p.1,p.2)):=by
    rw[<-h2];exact List.mem_map.2 ⟨e,hmem,by rw[hk,hv]⟩
   obtain⟨q,hq,hqe⟩:=List.mem_map.1 hin
   injection hqe with e1 e2
   have:q=p:=Prod.ext (hinj _ _ e1) e2;exact this▸hq
  ·exact hk▸hv▸run_entry_at _ it r since seen es clk e hit2 (hr2.trans h1) hmem h4
  ·rw[hB,aA,aA,hR1,hR4]
  ·rcases hw1 with rfl|rfl<;>rfl
  ·rcases hw1 with rfl|rfl<;>rfl
  ·rcases hw1 with rfl|rfl<;>rfl
  ·show w.heap.size<=(w1.heap.setIfInBounds it _).size
   simp[hsz]
  ·intro k hk hne'
   rw[H k,aO (fun e=>hne' (by rw[e]))]
  ·show(w1.heap.setIfInBounds it _).size=_
   simp[hsz]
end
end Dw
namespace Go.Proofs.YtbbchlpccgkikaaGreatDoor
open Go.Shelf Go.RowKit Go.Lib Dw
end Go.Proofs.YtbbchlpccgkikaaGreatDoor
namespace Dw
open Go Go.RowKit
end Dw
namespace Go.Proofs.YtbbchlpccgkikaaGreatDoor
open Go.RowKit Dw
theorem elemDs:Tryz.prog.underlying 24=some (.slice (Tryz.prog.elem 24)):=zc
theorem run_cutToD(A:OA)(n c k:Nat)(hk:k<=c)(W:World):(Instr.slice 24 (.slice A n c) none (some (.int .i64 (k:Int))) none).run Tryz.prog W=.ok (.slice A k c) W:=by
 have h0:(0:Int)<=(k:Int)/\(k:Int)<=(c:Int):=za;rw[run_slice_h (ht:=elemDs) (kh:=.i64) (h:=(k:Int)) (h0:=h0.1) (h2:=h0.2)];have hs:(sizeOf (Tryz.prog.elem 24)).run Tryz.prog W=.ok 16 W:=zc;exact tds
end Go.Proofs.YtbbchlpccgkikaaGreatDoor
