/- Parts of the proof, joined: The reference's checkGift. The reference's checkDeed. The reference's . -/
import Derived.Test.YtieoifkdobcpiaaGreatDoorSm21
set_option maxRecDepth 100000
set_option maxHeartbeats 8000000
namespace Go.Proofs.YtieoifkdobcpiaaGreatDoor
open Go.RowKit Dw
structure GS (w:World) (RA:Option Addr) (rc:Nat) (rs:List Rg) (UA:Option Addr) (uc:Nat) (us:List BA) (DA:Option Addr) (dc:Nat) (ds:List De) (d:De) (W:World):Prop where
 bel:Below w.heap.size w W
 ti:Bx W w.heap.size (tiC RA rc rs UA uc us DA dc ds) 26
 de:Bx W (w.heap.size+1) (deC d) 52
section
variable {w W W':World} {RA:Option Addr} {rc:Nat} {rs:List Rg} {UA:Option Addr} {uc:Nat} {us:List BA} {DA:Option Addr} {dc:Nat} {ds:List De} {d:De}
theorem GS.below (h:GS w RA rc rs UA uc us DA dc ds d W) (hb:Below W.heap.size W W'):GS w RA rc rs UA uc us DA dc ds d W':=⟨zAa h.bel hb,h.ti.below hb,h.de.below hb⟩
theorem GS.drewN (h:GS w RA rc rs UA uc us DA dc ds d W) (n:Nat):GS w RA rc rs UA uc us DA dc ds d (W.drewN n):=h.below (zAd (aS _ _) n)
theorem GS.drew (h:GS w RA rc rs UA uc us DA dc ds d W):GS w RA rc rs UA uc us DA dc ds d W.drew:=h.drewN 1
theorem GS.alloc (h:GS w RA rc rs UA uc us DA dc ds d W) (o:Obj):GS w RA rc rs UA uc us DA dc ds d (W.alloc o):=h.below ((aS _ _).alloc (aB _) o)
end
theorem chkA_lenC {l:List Rg} {a:List Ar} (h:zDw l a=0):a.length≤100:=by
 unfold zDw at h
 split at h
 ·cases h
 ·omega
def giftU (us:List BA) (d:De):Int:=if useF us d.us≠0 then useF us d.us else if zCr d.bg=false∨zCr d.en=false then 1 else if d.en≤d.bg then 8 else 0
def giftP (rs:List Rg) (us:List BA) (d:De):Int:=if zDw rs d.ar≠0 then zDw rs d.ar else if zBC rs d.ar=[]∨d.us=[] then 9 else giftU us d
theorem giftF_eq (rs:List Rg) (us:List BA) (d:De):giftF rs us d=if zBe d.th=false∨zBe d.fr=false∨zBe d.to_=false then 5 else if d.fr=d.to_ then 12 else if parF d≠0 then parF d else giftP rs us d:=rfl
def GURel (w:World) (RA:Option Addr) (rc:Nat) (rs:List Rg) (UA:Option Addr) (uc:Nat) (us:List BA) (DA:Option Addr) (dc:Nat) (ds:List De) (d:De) (m:Nat) (i:Value) (wr:World):Prop :=
 GS w RA rc rs UA uc us DA dc ds d wr∧∃ k:Nat,k+m=d.us.length∧i = .int .i64 k∧∀ j,j<k→zBr us d.us j=none
theorem checkGiftR_c (RA:Option Addr) (rc:Nat) (rs:List Rg) (UA:Option Addr) (uc:Nat) (us:List BA) (DA:Option Addr) (dc:Nat) (ds:List De) (d:De) (w:World) (g:GoodR rs) (hr:Rgs w RA rs) (hu:Strs w UA us) (hul:us.length≤1000000) (hd:DeOk w d) :
  Calls Tryz.prog 139 #[.agg (tiC RA rc rs UA uc us DA dc ds),deV d] w (zAe (.int .i64 (giftF rs us d)) w):=by
 generalize hres:giftF rs us d=res;rw [giftF_eq] at hres;have HR:=zq hres;clear hres;have HD:=zq hd;clear hd;have HRG:=zq hr;have HU:=zq hu;clear hr hu;obtain ⟨z1,z2,z3,z4,z5,z6⟩:=HD.o.strs;have hn1:=fun W=>zBn d.th W z2
 have hn2:=fun W=>zBn d.fr W z3
 have hn3:=fun W=>zBn d.to_ W z4
 have HST0:Hid (GS w RA rc rs UA uc us DA dc ds d ((w.alloc (.cells (tiC RA rc rs UA uc us DA dc ds) 26)).alloc (.cells (deC d) 52))) :=
  ⟨((aS w.heap.size w).alloc (aB _) _).alloc ze _,(Bx.new _ _ _).alloc _,Bx.new1 _ _ _ _⟩
 obtain ⟨W,hW⟩:∃ W,W=(w.alloc (.cells (tiC RA rc rs UA uc us DA dc ds) 26)).alloc (.cells (deC d) 52):=⟨_,rfl⟩;rw [←hW] at HST0
 go_enter Tryz.func139,Tryz.ntmps139
 go_upto_region 1 with fail
 rw [←hW];clear hW;have y3:=HST0.o.de.c 3 rfl;have y4:=HST0.o.de.c 4 rfl;have y5:=HST0.o.de.c 5 rfl;have ys:=HST0.o.de.lt
 cases h1:zBe d.th with
 | false =>
  rw [h1] at hn1;have HN1:=zq hn1;have HS:Hid (res=5):=by show _=_;rw [←HR.o,aE (.inl h1)]
  clear h1 hn1 hn2 hn3
  go_wp2_with fail
  with_reducible refine (HN1.o _).mono ?_
  rintro e w1 ⟨rfl,rfl⟩;go_wp2;go_ret
  exact zAe.mk (zAx HS.o.symm) HST0.o.bel
 | true =>
 rw [h1] at hn1;have HN1:=zq hn1
 cases h2:zBe d.fr with
 | false =>
  rw [h2] at hn2;have HN2:=zq hn2;have HS:Hid (res=5):=by show _=_;rw [←HR.o,aE (.inr (.inl h2))]
  clear h1 h2 hn1 hn2 hn3
  go_wp2_with fail
  with_reducible refine (HN1.o _).mono ?_
  rintro e w1 ⟨rfl,rfl⟩
  go_wp2_with fail
  with_reducible refine (HN2.o _).mono ?_
  rintro e w2 ⟨rfl,rfl⟩;go_wp2;go_ret
  exact zAe.mk (zAx HS.o.symm) HST0.o.bel
 | true =>
 rw [h2] at hn2;have HN2:=zq hn2
 cases h3:zBe d.to_ with
 | false =>
  rw [h3] at hn3;have HN3:=zq hn3;have HS:Hid (res=5):=by show _=_;rw [←HR.o,aE (.inr (.inr h3))]
  clear h1 h2 h3 hn1 hn2 hn3
  go_wp2_with fail
  with_reducible refine (HN1.o _).mono ?_
  rintro e w1 ⟨rfl,rfl⟩
  go_wp2_with fail
  with_reducible refine (HN2.o _).mono ?_
  rintro e w2 ⟨rfl,rfl⟩
  go_wp2_with fail
  with_reducible refine (HN3.o _).mono ?_
  rintro e w3 ⟨rfl,rfl⟩;go_wp2;go_ret
  exact zAe.mk (zAx HS.o.symm) HST0.o.bel
 | true =>
 rw [h3] at hn3;have HN3:=zq hn3
 have HR1:Hid ((if d.fr=d.to_ then 12 else if parF d≠0 then parF d else giftP rs us d)=res):=by
  show _=_
  have hh:=HR.o
  rwa [aC (by rw [h1,h2,h3];simp)] at hh
 clear h1 h2 h3 hn1 hn2 hn3 HR
 go_wp2_with fail
 with_reducible refine (HN1.o _).mono ?_
 rintro e w1 ⟨rfl,rfl⟩
 go_wp2_with fail
 with_reducible refine (HN2.o _).mono ?_
 rintro e w2 ⟨rfl,rfl⟩
 go_wp2_with fail
 with_reducible refine (HN3.o _).mono ?_
 rintro e w3 ⟨rfl,rfl⟩;clear HN1 HN2 HN3
 by_cases hft:d.fr=d.to_
 ·have HS:Hid (res=12):=by show _=_;rw [←HR1.o,aE hft]
  have q1:=zAn hft;clear hft;go_wp2;go_ret
  exact zAe.mk (zAx HS.o.symm) HST0.o.bel
 have q1:=zAm hft
 have HR2:Hid ((if parF d≠0 then parF d else giftP rs us d)=res):=by
  show _=_
  have hh:=HR1.o
  rwa [aC hft] at hh
 clear hft HR1;have y2:_=some (Value.int .i64 d.kd):=HST0.o.de.c 2 rfl
 by_cases hk2:d.kd=2
 case' neg =>
  have k2:(d.kd == 2)=false:=by simpa using hk2
  have HR3:Hid (giftP rs us d=res):=by
   show _=_
   have hh:=HR2.o
   rwa [aC (fun h=>h (by unfold parF;rw [aE hk2]))] at hh
  have HSTc:=HST0;clear HST0 HR2 hk2;go_upto_region 12 with fail
 case' pos =>
  have k2:(d.kd == 2)=true:=by simpa using hk2
  have y6:=HST0.o.de.c 6 rfl;have y7:=HST0.o.de.c 7 rfl
  go_wp2_with fail
  with_reducible refine (chkRatioR_c d.nu d.de _ z5 z6).mono ?_
  rintro e w4 ⟨rfl,hb4⟩;have HST1:=zq (HST0.o.below hb4);clear y2 y3 y4 y5 y6 y7 ys hb4 HST0
  by_cases hr:zDq d.nu d.de=0
  case' neg =>
   have HS:Hid (res=zDq d.nu d.de):=by
    show _=_
    have e:parF d=zDq d.nu d.de:=by unfold parF;rw [aC (fun h=>h hk2),aE hr]
    rw [←HR2.o,e,aE hr]
   have hrb2:(zDq d.nu d.de != 0)=true:=jz;clear hr;go_wp2;go_ret
   exact zAe.mk (zAx HS.o.symm) HST1.o.bel
  have HP:Hid (parF d=if posB d.nu=false∨zAz d.de<zAz (zAY d.nu) then 1 else 0):=by
   show _=_
   unfold parF;rw [aC (fun h=>h hk2),aC (fun h=>h hr)]
  obtain ⟨p1,p2,p3,p4,p5⟩:=zCe hr;have HLN:Hid ((zAc BT (zAz (zAY d.nu))).length≤500):=words_dec5 (zAQ p1).1 p4;have HLD:Hid ((zAc BT (zAz d.de)).length≤500):=words_dec5 (zAQ p2).1 p5;have HDP:Hid (0<zAz d.de):=den_pos p2 p3;have HFR:=zq (Of_cT d.nu d.de w4 (zAQ p1).1 p4 (zAQ p2).1 p5);have y6:=HST1.o.de.c 6 rfl;have y7:=HST1.o.de.c 7 rfl;rw [hr];clear p1 p2 p3 p4 p5 hr
  go_wp2_with fail
  with_reducible refine HFR.o.mono ?_
  rintro e w5 ⟨A5,c5,A6,c6,rfl,h5,h6,hb5⟩;have HST2:=zq (HST1.o.below hb5);clear y6 y7 hb5 HST1 HFR;obtain ⟨nv,hnv⟩:∃ nv,zAz (zAY d.nu)=nv:=⟨_,rfl⟩;obtain ⟨dv,hdv⟩:∃ dv,zAz d.de=dv:=⟨_,rfl⟩;rw [hnv,hdv] at HP;rw [hnv] at HLN;rw [hdv] at HLD HDP;rw [hnv] at h5;rw [hdv] at h6;rw [hnv,hdv];have HNV:=zq hnv;clear hnv hdv;have HXB:Hid (Bx (w5.alloc (.cells (nuC (zDu d.nu) A5 c5 nv A6 c6 dv) 45)) w5.heap.size (nuC (zDu d.nu) A5 c5 nv A6 c6 dv) 45):=Bx.new _ _ _;have HST3:=zq (HST2.o.alloc (.cells (nuC (zDu d.nu) A5 c5 nv A6 c6 dv) 45));have H5:=zq (h5.alloc (.cells (nuC (zDu d.nu) A5 c5 nv A6 c6 dv) 45));have H6:=zq (h6.alloc (.cells (nuC (zDu d.nu) A5 c5 nv A6 c6 dv) 45));clear h5 h6 HST2;go_upto_region 10 with fail
  obtain ⟨W5,hW5⟩:∃ W5,W5=w5.alloc (.cells (nuC (zDu d.nu) A5 c5 nv A6 c6 dv) 45):=⟨_,rfl⟩;rw [←hW5] at HXB HST3 H5 H6
  try rw [←hW5]
  clear hW5
  cases hng:zDu d.nu
  case' true =>
   have HS:Hid (res=1):=by
    show _=_
    have e:parF d=1:=by rw [HP.o,aE (.inl (by unfold posB;rw [hng];rfl))]
    rw [←HR2.o,e];rfl
   have n0:W5.cell? ⟨w5.heap.size,0,none⟩=some (.bool true):=by rw [←hng];exact HXB.o.c 0 rfl
   have ns:=HXB.o.lt
   try rw [hng]
   clear hng
   go_quiet (fail)
   go_wp2;go_ret
   exact zAe.mk (zAx HS.o.symm) (HST3.o.drewN _).bel
  rw [hng] at HXB;obtain ⟨n0,n1,n2⟩:=HXB.o.t;have hiz:=fun W=>isZero_c false A5 A6 c5 c6 nv dv W
  by_cases hv0:nv=0
  case' pos =>
   have HS:Hid (res=1):=by
    show _=_
    have e:parF d=1:=by rw [HP.o,aE (.inl (by unfold posB;rw [HNV.o,hv0];simp))]
    rw [←HR2.o,e];rfl
   rw [cW hv0] at hiz;have HIZ:=zq hiz;clear hiz hng hv0;have HS0:Hid (W5.cell? ⟨w5.heap.size,0,none⟩=some (.bool false)∧W5.cell? ⟨w5.heap.size,1,none⟩=some (.slice A5 (zAc BT nv).length c5)∧W5.cell? ⟨w5.heap.size,2,none⟩=some (.slice A6 (zAc BT dv).length c6)):=⟨n0,n1,n2⟩;refine eT (S:=(fun w'=>w'.cell? ⟨w5.heap.size,0,none⟩=some (.bool false)∧w'.cell? ⟨w5.heap.size,1,none⟩=some (.slice A5 (zAc BT nv).length c5)∧w'.cell? ⟨w5.heap.size,2,none⟩=some (.slice A6 (zAc BT dv).length c6))) zc ?_ (fun hHeld=>?_)
   ·exact HS0.o
   refine Dw.rd1 0 rfl (fun K hK=>?_)
   clear hHeld
   go_simp
   refine hK.out _ _ ?_ (fun hHeld=>?_)
   ·exact HS0.o
   clear hK K
   try simp only [Dw.lay,Act.put]
   refine Dw.rd1 1 rfl (fun K hK=>?_)
   clear hHeld
   go_simp
   refine hK.out _ _ ?_ (fun hHeld=>?_)
   ·exact HS0.o
   clear hK K
   try simp only [Dw.lay,Act.put]
   refine Dw.rd1 2 rfl (fun K hK=>?_)
   clear hHeld
   go_simp
   refine hK.out _ _ ?_ (fun hHeld=>?_)
   ·exact HS0.o
   clear hK K
   try simp only [Dw.lay,Act.put]
   refine Dw.rd1 3 rfl (fun K hK=>?_)
   clear hHeld
   go_simp
   refine hK.out _ _ ?_ (fun hHeld=>?_)
   ·exact HS0.o
   clear hK K
   try simp only [Dw.lay,Act.put]
   refine Dw.rd1 4 rfl (fun K hK=>?_)
   clear hHeld
   go_simp
   go_at_call 103
   with_reducible refine (HIZ.o _).mono ?_
   rintro e w8 ⟨rfl,hb8⟩;have HST8:=zq (HST3.o.drew.below hb8);have HXB8:=zq (HXB.o.drew.below hb8);obtain ⟨b0,b1,b2⟩:=HXB8.o.t;clear hb8 n0 n1 n2
   try go_wp2_with fail
   refine hK.out _ _ ?_ (fun hHeld=>?_)
   ·exact ⟨b0,b1,b2⟩
   clear hK K
   try simp only [Dw.lay,Act.put]
   refine Dw.rd1 5 rfl (fun K hK=>?_)
   clear hHeld
   go_simp
   refine hK.out _ _ ?_ (fun hHeld=>?_)
   ·exact ⟨b0,b1,b2⟩
   clear hK K
   try simp only [Dw.lay,Act.put]
   refine Dw.rd1 6 rfl (fun K hK=>?_)
   clear hHeld
   go_simp
   refine hK.out _ _ ?_ (fun hHeld=>?_)
   ·exact ⟨b0,b1,b2⟩
   clear hK K
   try simp only [Dw.lay,Act.put]
   refine wpAnyH_ready (rs:=[7,8]) zc ze ?_
   refine AllReadyH.cons rfl (fun K hK=>?_) (AllReadyH.cons rfl (fun K hK=>?_) AllReadyH.nil)
   ·clear hHeld
    go_simp
    refine hK.out _ _ ?_ (fun hHeld=>?_)
    ·exact ⟨b0,b1,b2⟩
    clear hK K
    try simp only [Dw.lay,Act.put]
    refine Dw.rd1 8 rfl (fun K hK=>?_)
    clear hHeld
    go_simp
    refine hK.out _ _ ?_ (fun hHeld=>?_)
    ·exact ⟨b0,b1,b2⟩
    clear hK K
    try simp only [Dw.lay,Act.put]
    refine Dw.rd1 9 rfl (fun K hK=>?_)
    clear hHeld
    go_simp
    refine hK.out _ _ ?_ (fun hHeld=>?_)
    ·exact ⟨b0,b1,b2⟩
    clear hK K
    try simp only [Dw.lay,Act.put]
    refine Dw.rd1 10 rfl (fun K hK=>?_)
    clear hHeld
    go_simp
    refine hK.out _ _ ?_ (fun hHeld=>?_)
    ·exact ⟨b0,b1,b2⟩
    clear hK K
    try simp only [Dw.lay,Act.put]
    refine Dw.rd1 11 rfl (fun K hK=>?_)
    clear hHeld
    go_simp
    refine hK.out _ _ ?_ (fun hHeld=>?_)
    ·exact ⟨b0,b1,b2⟩
    clear hK K
    try simp only [Dw.lay,Act.put]
    refine wpAnyH_done zc ?_ _
    clear hHeld;go_wp2;go_ret
    exact zAe.mk (zAx HS.o.symm) HST8.o.bel
   ·clear hHeld
    go_simp
    refine hK.out _ _ ?_ (fun hHeld=>?_)
    ·exact ⟨b0,b1,b2⟩
    clear hK K
    try simp only [Dw.lay,Act.put]
    refine Dw.rd1 7 rfl (fun K hK=>?_)
    clear hHeld
    go_simp
    refine hK.out _ _ ?_ (fun hHeld=>?_)
    ·exact ⟨b0,b1,b2⟩
    clear hK K
    try simp only [Dw.lay,Act.put]
    refine Dw.rd1 9 rfl (fun K hK=>?_)
    clear hHeld
    go_simp
    refine hK.out _ _ ?_ (fun hHeld=>?_)
    ·exact ⟨b0,b1,b2⟩
    clear hK K
    try simp only [Dw.lay,Act.put]
    refine Dw.rd1 10 rfl (fun K hK=>?_)
    clear hHeld
    go_simp
    refine hK.out _ _ ?_ (fun hHeld=>?_)
    ·exact ⟨b0,b1,b2⟩
    clear hK K
    try simp only [Dw.lay,Act.put]
    refine Dw.rd1 11 rfl (fun K hK=>?_)
    clear hHeld
    go_simp
    refine hK.out _ _ ?_ (fun hHeld=>?_)
    ·exact ⟨b0,b1,b2⟩
    clear hK K
    try simp only [Dw.lay,Act.put]
    refine wpAnyH_done zc ?_ _
    clear hHeld;go_wp2;go_ret
    exact zAe.mk (zAx HS.o.symm) HST8.o.bel
  case' neg =>
   rw [cX hv0] at hiz;have HIZ:=zq hiz
   have HP2:Hid (parF d=if dv<nv then 1 else 0):=by
    show _=_
    rw [HP.o]
    by_cases h:dv<nv
    ·rw [aE (.inr h),aE h]
    ·rw [aC (fun hh=>hh.elim (fun q=>by unfold posB at q;rw [hng,HNV.o] at q;simp [hv0] at q) h),aC h]
   clear hiz hng hv0
   go_region_held3 (fun w'=>w'.cell? ⟨w5.heap.size,0,none⟩=some (.bool false)∧w'.cell? ⟨w5.heap.size,1,none⟩=some (.slice A5 (zAc BT nv).length c5)∧w'.cell? ⟨w5.heap.size,2,none⟩=some (.slice A6 (zAc BT dv).length c6)) ((refine ⟨?_,?_,?_⟩<;>first | with_reducible assumption | go_simp))
    (first
     | ((go_at_call 103;(with_reducible refine (HIZ.o _).mono ?_);rintro e w8 ⟨rfl,hb8⟩;have HST8:=zq (HST3.o.drew.below hb8);have HXB8:=zq (HXB.o.drew.below hb8);have H58:=zq (H5.o.drew.below hb8);have H68:=zq (H6.o.drew.below hb8);obtain ⟨b0,b1,b2⟩:=HXB8.o.t;clear hb8))
     | ((go_at_call 14;(with_reducible refine (Int_1 w8).mono ?_);rintro e w9 ⟨A7,c7,A8,c8,rfl,h7,h8,hb9⟩;have HST9:=zq (HST8.o.below hb9);have HXB9:=zq (HXB8.o.below hb9);have H59:=zq (H58.o.below hb9);have H69:=zq (H68.o.below hb9);obtain ⟨e0,e1,e2⟩:=HXB9.o.t;clear hb9))
     | ((go_at_call 18;(with_reducible refine (compare_cT A5 A6 A7 A8 c5 c6 c7 c8 _ _ 1 1 w9 H59.o H69.o h7 h8 (dI HLN.o zd) (dI HLD.o zd) zd zd HDP.o zd).mono ?_);rintro e w10 ⟨rfl,hb10⟩;have HST10:=zq (HST9.o.below hb10);have HXB10:=zq (HXB9.o.below hb10);obtain ⟨f0,f1,f2⟩:=HXB10.o.t;clear hb10)))
   clear n0 n1 n2 b0 b1 b2 e0 e1 e2 f0 f1 f2 HST3 HST8 HST9 HXB HXB8 HXB9 HXB10 H5 H6 H58 H68 H59 H69 h7 h8 HLN HLD HDP
   try simp only [cA,Nat.one_mul]
   by_cases hlt:dv<nv
   ·have HS:Hid (res=1):=by
     show _=_
     have e:parF d=1:=by rw [HP2.o,aE hlt]
     rw [←HR2.o,e];rfl
    rw [zBy hlt];clear hlt;go_wp2;go_ret
    exact zAe.mk (zAx HS.o.symm) HST10.o.bel
   have HR3:Hid (giftP rs us d=res):=by
    show _=_
    have hh:=HR2.o
    rwa [aC (fun h=>h (by rw [HP2.o,aC hlt]))] at hh
   obtain ⟨cv,hcv,hc0⟩:∃ cv,zCZ nv dv=cv∧cv≤0:=by
    rcases aU nv dv with h | h
    ·exact ⟨-1,zBF h,zd⟩
    ·exact ⟨0,zCx za,zd⟩
   rw [hcv];clear hcv;have HSTc:=HST10;clear hlt;go_upto_region 12 with fail
 all_goals
  try clear y2 y3 y4 y5 ys q1 k2
  have y0:=HSTc.o.ti.c 0 rfl;have y1:=HSTc.o.ti.c 1 rfl;have y9:=HSTc.o.de.c 10 rfl;have y10:=HSTc.o.de.c 11 rfl;have yt:=HSTc.o.ti.lt;have ys:=HSTc.o.de.lt
  go_wp2_with fail
  with_reducible refine (checkAreaR_c RA d.arA rc d.arc rs d.ar _ g.len (HRG.o.below HSTc.o.bel) (HD.o.ars.below HSTc.o.bel)).mono ?_
  rintro e w20 ⟨rfl,nd,rfl⟩
  by_cases hch:zDw rs d.ar=0
  case' neg =>
   have HS:Hid (res=zDw rs d.ar):=by
    show _=_
    rw [←HR3.o];unfold giftP;rw [aE hch]
   have hrb2:(zDw rs d.ar != 0)=true:=by simpa using hch
   clear hch;go_wp2;go_ret
   exact zAe.mk (zAx HS.o.symm) (HSTc.o.drewN nd).bel
  have HAL:=zq (chkA_lenC hch)
  have HR4:Hid ((if zBC rs d.ar=[]∨d.us=[] then 9 else giftU us d)=res):=by
   show _=_
   have hh:=HR3.o;unfold giftP at hh
   rwa [aC (fun h=>h hch)] at hh
  have HSTd:=zq (HSTc.o.drewN nd);rw [hch];clear hch HR3
  go_wp2_with fail
  with_reducible refine (leaves_c RA d.arA rc d.arc rs d.ar _ g (HRG.o.below HSTd.o.bel) (HD.o.ars.below HSTd.o.bel) HAL.o).mono ?_
  rintro e w21 ⟨A9,c9,rfl,_,hb21⟩;have HSTe:=zq (HSTd.o.below hb21);clear y0 y1 y9 y10 yt ys hb21 HSTd HSTc;have y10:=HSTe.o.de.c 11 rfl;have ys:=HSTe.o.de.lt
  by_cases hl0:(zBC rs d.ar).length=0
  case' pos =>
   have HS:Hid (res=9):=by
    show _=_
    rw [←HR4.o,aE (.inl (List.length_eq_zero_iff.1 hl0))]
   go_wp2;go_ret
   exact zAe.mk (zAx HS.o.symm) HSTe.o.bel
  have hlb:(((zBC rs d.ar).length:Int) == 0)=false:=by simp;intro e;exact hl0 (by rw [e];rfl)
  by_cases hu0:d.us.length=0
  case' pos =>
   have HS:Hid (res=9):=by
    show _=_
    rw [←HR4.o,aE (.inr (List.length_eq_zero_iff.1 hu0))]
   clear hl0;go_wp2;go_ret
   exact zAe.mk (zAx HS.o.symm) HSTe.o.bel
  have hub:((d.us.length:Int) == 0)=false:=by simp;intro e;exact hu0 (by rw [e];rfl)
  have HR5:Hid (giftU us d=res):=by
   show _=_
   have hh:=HR4.o
   rwa [aC (fun h=>h.elim (fun q=>hl0 (by rw [q];rfl)) (fun q=>hu0 (by rw [q];rfl)))] at hh
  clear hl0 HR4;have hl2:=HD.o.lens.2.1;obtain ⟨b,o,hA,hb0,hc0⟩:=HD.o.uses.at_ za;have HC0:=zq hc0;clear hc0 hu0;clear y10;have y10:w21.cell? ⟨w.heap.size+1,11,none⟩=some (Value.slice (some ⟨b,o,none⟩) d.us.length d.usc):=by rw [←hA];exact HSTe.o.de.c 11 rfl
  go_wp2
  go_loopg [8] d.us.length (GURel w RA rc rs UA uc us DA dc ds d)
  case atStart=>exact ⟨HSTe.o,0,za,rfl,fun j hj=>absurd hj za⟩
  case round =>
   clear HSTe y10 ys hlb hub;obtain ⟨hst,k,hkm,rfl,hpre⟩:=hrel;have HST:=zq hst;have HKM:=zq hkm;have HP:=zq hpre;have hkl:k≤d.us.length:=za;clear hst hkm hpre;have y10:wr.cell? ⟨w.heap.size+1,11,none⟩=some (Value.slice (some ⟨b,o,none⟩) d.us.length d.usc):=by rw [←hA];exact HST.o.de.c 11 rfl
   have ys:=HST.o.de.lt
   by_cases hlt:k<d.us.length
   ·have y1:=HST.o.ti.c 1 rfl
    have yt:=HST.o.ti.lt;have c0:wr.cell? ⟨b,o+k,none⟩=some (.string d.us[k]):=(HST.o.bel.cell hb0).trans (HC0.o k hlt);have e0:usAt d.us k=d.us[k]:=zCP hlt;have HPO:=zq (fun W (x:Strs W UA us)=>positionR_c UA uc us d.us[k] W hul x)
    go_wp2_with fail
    go_region_held3 (fun w'=>w'.cell? ⟨w.heap.size,1,none⟩=some (.slice UA us.length uc)∧w'.cell? ⟨w.heap.size+1,11,none⟩=some (Value.slice (some ⟨b,o,none⟩) d.us.length d.usc)∧w'.cell? ⟨b,o+k,none⟩=some (.string d.us[k])) ((refine ⟨?_,?_,?_⟩<;>first | with_reducible assumption | go_simp))
     ((go_at_call 197;(with_reducible refine (HPO.o _ (HU.o.below (HST.o.drew).bel)).mono ?_);rintro e w30 ⟨z,rfl,hz,rfl⟩))
    have HST2:=zq HST.o.drew;clear HPO y1 yt
    cases hm:zDt us d.us[k] with
    | false =>
     have HS:Hid (res=5):=by
      show _=_
      have e:useF us d.us=5:=useF_hit hlt HP.o (by unfold zBr;rw [e0,aE hm])
      rw [←HR5.o];unfold giftU;rw [e];rfl
     have hz1:z<0:=by rw [hm] at hz;simpa using hz
     clear hz hm e0;go_wp2;go_ret
     exact zAe.mk (zAx HS.o.symm) HST2.o.bel
    | true =>
     have HM:=zq hm;have hz1:0≤z:=by rw [hm] at hz;simpa using hz
     clear hz hm;have HE0:=zq e0;clear e0
     by_cases hk0:0<k
     ·have zp:wr.cell? ⟨b,o+(k - 1),none⟩=some (.string (d.us[k - 1]'(by omega))):=(HST.o.bel.cell hb0).trans (HC0.o (k - 1) za)
      have hd:decide ((0:Int)<(k:Int))=true:=zg;have hd0:decide ((0:Int)≤(k:Int) - 1)=true:=zg;have HE1:Hid (usAt d.us (k - 1)=d.us[k - 1]'(by omega)):=zCP za
      cases hle:sle d.us[k] (d.us[k - 1]'(by omega)) with
      | true =>
       have HS:Hid (res=8):=by
        show _=_
        have e:useF us d.us=8:=useF_hit hlt HP.o (by unfold zBr;rw [HE0.o,HE1.o,aC (by rw [HM.o];simp),aE ⟨hk0,hle⟩])
        rw [←HR5.o];unfold giftU;rw [e];rfl
       unfold sle at hle;go_wp2
       go_quiet (fail)
       go_wp2;go_ret
       exact zAe.mk (zAx HS.o.symm) (HST2.o.drewN _).bel
      | false =>
       have HF:Hid (zBr us d.us k=none):=by
        show _=_
        unfold zBr;rw [HE0.o,HE1.o,aC (by rw [HM.o];simp),aC (fun hh=>jy)]
       unfold sle at hle;go_wp2
       go_quiet (fail)
       go_wp2
       go_roundg (gk - 1)
       case measure=>have:=HKM.o;omega
       case rel =>
        refine ⟨HST.o.drewN _,k+1,j1,zi,fun j hj=>?_⟩
        rcases aU j k with h9 | h9
        ·exact HP.o j h9
        ·obtain rfl:j=k:=by omega
         exact HF.o
     ·have hd:decide ((0:Int)<(k:Int))=false:=by simp;omega
      have HF:Hid (zBr us d.us k=none):=by
       show _=_
       unfold zBr;rw [HE0.o,aC (by rw [HM.o];simp),aC (fun hh=>hk0 hh.1)]
      go_wp2
      go_quiet (fail)
      go_wp2
      go_roundg (gk - 1)
      case measure=>have:=HKM.o;omega
      case rel =>
       refine ⟨HST.o.drewN _,k+1,j1,zi,fun j hj=>?_⟩
       rcases aU j k with h9 | h9
       ·exact HP.o j h9
       ·obtain rfl:j=k:=by omega
        exact HF.o
   ·have y11:wr.cell? ⟨w.heap.size+1,12,none⟩=some (.int .i64 d.bg):=HST.o.de.c 12 rfl
    have y12:wr.cell? ⟨w.heap.size+1,13,none⟩=some (.int .i64 d.en):=HST.o.de.c 13 rfl
    have HR6:Hid ((if zCr d.bg=false∨zCr d.en=false then 1 else if d.en≤d.bg then 8 else 0)=res):=by
     show _=_
     have e:useF us d.us=0:=useF_none fun j hj=>HP.o j za
     rw [←HR5.o];unfold giftU;rw [aC (show ¬ (useF us d.us≠0) from fun h=>h e)]
    have hd1:=fun W=>zCJ d.bg W
    have hd2:=fun W=>zCJ d.en W
    clear HR5
    cases hb1:zCr d.bg with
    | false =>
     rw [hb1] at hd1;have HD1:=zq hd1;have HS:Hid (res=1):=by show _=_;rw [←HR6.o,aE (.inl hb1)]
     clear hd1 hd2 hb1
     go_wp2_with fail
     with_reducible refine (HD1.o _).mono ?_
     rintro e w40 ⟨rfl,rfl⟩;go_wp2;go_ret
     exact zAe.mk (zAx HS.o.symm) HST.o.bel
    | true =>
     rw [hb1] at hd1;have HD1:=zq hd1
     cases hb2:zCr d.en with
     | false =>
      rw [hb2] at hd2;have HD2:=zq hd2;have HS:Hid (res=1):=by show _=_;rw [←HR6.o,aE (.inr hb2)]
      clear hd1 hd2 hb1 hb2
      go_wp2_with fail
      with_reducible refine (HD1.o _).mono ?_
      rintro e w40 ⟨rfl,rfl⟩
      go_wp2_with fail
      with_reducible refine (HD2.o _).mono ?_
      rintro e w41 ⟨rfl,rfl⟩;go_wp2;go_ret
      exact zAe.mk (zAx HS.o.symm) HST.o.bel
     | true =>
      rw [hb2] at hd2;have HD2:=zq hd2
      have HR7:Hid ((if d.en≤d.bg then 8 else 0)=res):=by
       show _=_
       have hh:=HR6.o
       rwa [aC (by rw [hb1,hb2];simp)] at hh
      clear hd1 hd2 hb1 hb2 HR6
      go_wp2_with fail
      with_reducible refine (HD1.o _).mono ?_
      rintro e w40 ⟨rfl,rfl⟩
      go_wp2_with fail
      with_reducible refine (HD2.o _).mono ?_
      rintro e w41 ⟨rfl,rfl⟩
      by_cases hen:d.en≤d.bg
      ·have HS:Hid (res=8):=by show _=_;rw [←HR7.o,aE hen]
       go_wp2;go_ret
       exact zAe.mk (zAx HS.o.symm) HST.o.bel
      ·have HS:Hid (res=0):=by show _=_;rw [←HR7.o,aC hen]
       have hen2:d.bg<d.en:=za;clear hen;go_wp2;go_ret
       exact zAe.mk (zAx HS.o.symm) HST.o.bel
theorem zBZ {w:World} {b:Nat} {cs:Array Value} {T:TypeId} (h:Bx w b cs T):w.rangeAt b 0 cs.toList:=fun j v hv=>by
 rw [aQ];exact h.cell (by rw [←hv,Array.getElem?_toList])
theorem take_last {α:Type} {l:List α} {k:Nat} (h:k<l.length) (hk:0<k):(l.take k).getLast?=some (l[k - 1]'(by omega)):=by
 rw [List.getLast?_eq_getElem?,bN,bO za,List.getElem?_take_of_lt za];exact List.getElem?_eq_getElem za
theorem ordB_take {ds:List De} {k:Nat} (h:k<ds.length) (hk:0<k) (d:De):zEf (ds.take k) d=deLt (ds[k - 1]'(by omega)) d:=by
 unfold zEf;rw [take_last h hk]
theorem sle_of_sltR {a b:BA} (h:slt a b=true):sle b a=false:=by
 unfold slt at h;unfold sle;rw [zCC] at h ⊢;have h1:a.toList<b.toList:=zn;have h2:¬ b.toList<a.toList:=fun h2=>List.lt_irrefl _ (List.lt_trans h1 h2)
 have h3:b.toList≠a.toList:=fun e=>by rw [e] at h1;exact List.lt_irrefl _ h1
 simp [h2,h3]
theorem slt_sle (a b:BA):slt a b = !sle b a:=by
 cases h:sle b a with
 | false=>rw [zBJ h];rfl
 | true =>
  cases h2:slt a b with
  | false=>rfl
  | true=>rw [sle_of_sltR h2] at h;cases h
def chk4 (rs:List Rg) (us:List BA) (pre:List De) (d:De):Int:=if zAh d.kd=true then giftF rs us d else if d.kd=4 then endF pre d else divF pre d
def chk3 (rs:List Rg) (us:List BA) (pre:List De) (d:De):Int:=if d.kd<1∨5<d.kd then 4 else if zAy d=true then 3 else chk4 rs us pre d
def chk2 (rs:List Rg) (us:List BA) (pre:List De) (d:De):Int:=if (pre.any fun p=>decide (p.id=d.id))=true then 7 else chk3 rs us pre d
theorem chkD_eq (rs:List Rg) (us:List BA) (pre:List De) (d:De):chkD rs us pre d=if zBe d.id=false then 5 else if zCr d.day=false then 1 else if zEf pre d=false then 8 else chk2 rs us pre d:=rfl
def PreRel (w:World) (RA:Option Addr) (rc:Nat) (rs:List Rg) (UA:Option Addr) (uc:Nat) (us:List BA) (DA:Option Addr) (dc:Nat) (ds:List De) (d:De) (k:Nat) (f:De→Bool) (m:Nat) (i:Value) (wr:World):Prop :=
 GS w RA rc rs UA uc us DA dc ds d wr∧∃ j:Nat,j+m=k∧i = .int .i64 j∧∀ q (h:q<ds.length),q<j→f ds[q]=false
theorem zBH {ds:List De} {k j:Nat} {f:De→Bool} (hj:j<k) (hk:k<ds.length) (h:f (ds[j]'(by omega))=true):(ds.take k).any f=true:=by
 refine List.any_eq_true.2 ⟨ds[j]'(by omega),?_,h⟩
 rw [List.mem_take_iff_getElem];exact ⟨j,za,rfl⟩
theorem zBv {ds:List De} {k:Nat} {f:De→Bool} (h:∀ q (h:q<ds.length),q<k→f ds[q]=false):(ds.take k).any f=false:=by
 rw [aV];intro x hx;rw [List.mem_take_iff_getElem] at hx;obtain ⟨q,hq,rfl⟩:=hx;rw [h q za za];simp
def FndRel (w:World) (RA:Option Addr) (rc:Nat) (rs:List Rg) (UA:Option Addr) (uc:Nat) (us:List BA) (DA:Option Addr) (dc:Nat) (ds:List De) (d:De) (k:Nat) (f:De→Bool) (m:Nat) (v i:Value) (wr:World):Prop :=
 GS w RA rc rs UA uc us DA dc ds d wr∧∃ j:Nat,j+m=k∧i = .int .i64 j∧v = .bool ((ds.take j).any f)
def SheRel (w:World) (RA:Option Addr) (rc:Nat) (rs:List Rg) (UA:Option Addr) (uc:Nat) (us:List BA) (DA:Option Addr) (dc:Nat) (ds:List De) (d:De) (m:Nat) (i:Value) (wr:World):Prop :=
 GS w RA rc rs UA uc us DA dc ds d wr∧∃ j:Nat,j+m=d.sh.length∧i = .int .i64 j∧∀ q (h:q<d.sh.length),q<j→d.kd=5→decide (d.sh[q].pt=d.fr)=false
theorem any_take_succ {ds:List De} {j:Nat} (h:j<ds.length) (f:De→Bool):(ds.take (j+1)).any f=((ds.take j).any f || f ds[j]):=by
 rw [bM h,eK];simp
def div2 (pre:List De) (d:De):Int:=if d.kd=5∧(d.sh.any fun s=>decide (s.pt=d.fr))=true then 12 else if (pre.any fun p=>decide (p.kd=d.kd)&&decide (p.th=d.th)&&decide (p.fr=d.fr))=true then 7 else 0
theorem divF_eq (pre:List De) (d:De):divF pre d=if (d.kd=1∧zBe d.th=false)∨(d.kd=5∧zBe d.fr=false) then 5 else if zCr d.bg=false then 1 else if shF d.kd d.sh≠0 then shF d.kd d.sh else div2 pre d:=rfl
end Go.Proofs.YtieoifkdobcpiaaGreatDoor
namespace Go.Proofs.YtieoifkdobcpiaaGreatDoor
open Dw
def endsB (id:BA) (x:De):Bool:=decide (x.kd=4)&&decide (x.ot=id)
def endAt (ds:List De) (id:BA):Option Int:=(ds.reverse.find? (endsB id)).map De.bg
theorem endAt_snoc (l:List De) (d:De) (id:BA):endAt (l++[d]) id=if endsB id d=true then some d.bg else endAt l id:=by
 unfold endAt;rw [List.reverse_append,List.reverse_singleton,List.singleton_append,List.find?_cons]
 cases endsB id d<;>simp
def toP (ds:List De) (d:De):Int:=match endAt ds d.id with
 | some t=>min d.en t
 | none=>d.en
def toR (ds:List De) (d:De):Int:=ds.foldl (fun e x=>if endsB d.id x=true then min e x.bg else e) d.en
def cutR (b e:Int):Int×Int:=if e≤b then (0,0) else (b,e)
def zCG (ds:List De) (d:De):Int×Int:=if zAh d.kd=true then cutR d.bg (toP ds d) else (0,0)
def OneEnd (ds:List De):Prop:=ds.Pairwise fun a b=>¬ (a.kd=4∧b.kd=4∧a.ot=b.ot)
theorem endAt_none {l:List De} {id:BA} (h:∀ x∈l,endsB id x=false):endAt l id=none:=by
 unfold endAt;rw [List.find?_eq_none.2 (fun x hx=>by rw [h x (List.mem_reverse.1 hx)];simp)]
 rfl
theorem foldl_none {l:List De} {id:BA} (h:∀ x∈l,endsB id x=false) (e:Int):l.foldl (fun e x=>if endsB id x=true then min e x.bg else e) e=e:=by
 induction l with
 | nil=>rfl
 | cons a l ih =>
  rw [bS,h a aX];exact ih fun x hx=>h x (aW _ hx)
theorem zCD {id:BA} {x:De}:endsB id x=true↔x.kd=4∧x.ot=id:=by unfold endsB;simp
theorem toR_eq {ds:List De} (h:OneEnd ds) (d:De):toR ds d=toP ds d:=by
 unfold toR toP
 induction ds with
 | nil=>rfl
 | cons a l ih =>
  obtain ⟨h1,h2⟩:=List.pairwise_cons.1 h;rw [bS]
  have e1:endAt (a::l) d.id=match endAt l d.id with
    | some t=>some t
    | none=>if endsB d.id a=true then some a.bg else none:=by
   unfold endAt;rw [List.reverse_cons,List.find?_append]
   cases hf:l.reverse.find? (endsB d.id) with
   | some q=>simp
   | none=>cases hb:endsB d.id a<;>simp [hb]
  cases hb:endsB d.id a with
  | false =>
   have:=ih h2;rw [e1,hb];simp only [eJ,eD] at this ⊢;rw [this]
   cases endAt l d.id<;>rfl
  | true =>
   have hn:∀ x∈l,endsB d.id x=false:=fun x hx=>by
    cases hh:endsB d.id x with
    | false=>rfl
    | true =>
     obtain ⟨k1,k2⟩:=zCD.1 hb;obtain ⟨k3,k4⟩:=zCD.1 hh;exact absurd ⟨k1,k3,k2.trans k4.symm⟩ (h1 x hx)
   rw [e1,endAt_none hn,hb];simp only [if_true];rw [foldl_none hn]
theorem chkD_end {rs:List Rg} {us:List BA} {pre:List De} {d:De} (h:chkD rs us pre d=0) (hk:d.kd=4):∀ p∈pre,¬ (p.kd=4∧p.ot=d.ot):=by
 have hg:zAh d.kd=false:=by rw [hk];decide
 have he:endF pre d=0:=by
  unfold chkD at h;rw [hg] at h;simp only [hk] at h
  repeat' split at h
  all_goals first | exact h | (cases h;done) | (exfalso;simp_all;done) | skip
 unfold endF at he
 split at he
 ·cases he
 split at he
 ·cases he
 split at he
 ·cases he
 next h3 =>
 intro p hp ⟨k1,k2⟩;exact h3 (List.any_eq_true.2 ⟨p,hp,by simp [k1,k2]⟩)
theorem deeds_oneEnd {rs:List Rg} {us:List BA} {ds:List De} (h:zCI rs us ds=0):OneEnd ds:=by
 have hc:=(zAZ h).2;refine List.pairwise_iff_getElem.2 fun i j hi hj hij=>?_
 rintro ⟨k1,k2,k3⟩;refine chkD_end (hc j hj) k2 ds[i] ?_ ⟨k1,k3⟩
 rw [List.mem_take_iff_getElem];exact ⟨i,za,rfl⟩
theorem nmAt_inj {l:List Rg} (g:GoodR l) {i k:Nat} (hi:i<l.length) (hk:k<l.length) (h:nmAt l i=nmAt l k):i=k:=by
 rw [zBl hi,zBl hk] at h;have h1:=g.inc.idx hi;rw [h,g.inc.idx hk] at h1
 injection h1 with h1
 exact h1.symm
theorem lmF_some {l:List Rg} (g:GoodR l):∀ {k i:Nat},k≤l.length→i<k→zAL l i=false→lmF l k (nmAt l i)=some (.int .i64 ((zCu l i).length:Int))
 | k+1,i,hk,hi,hp=>by
  unfold lmF
  by_cases he:i=k
  ·subst he
   rw [hp];simp
  ·have hlt:i<k:=by omega
   have ih:=lmF_some g (k:=k) za hlt hp
   split
   ·exact ih
   ·rw [aC fun h=>he (nmAt_inj g za za h)]
    exact ih
theorem lmF_none {l:List Rg} {s:BA}:∀ {k:Nat},(∀ i,i<k→zAL l i=false→s≠nmAt l i)→lmF l k s=none
 | 0,_=>rfl
 | k+1,h=>by
  unfold lmF;have ih:=lmF_none (k:=k) fun i hi=>h i za
  split
  ·exact ih
  ·next hp=>rw [aC (h k za (by simpa using hp))];exact ih
theorem leafTo_at {l:List Rg} {i:Nat} (hp:zAL l i=false):∀ {k:Nat},i<k→(zCu l k)[(zCu l i).length]?=some i
 | k+1,hi=>by
  have e:zCu l (k+1)=zCu l k++(if zAL l k=true then [] else [k]):=by
   unfold zCu;rw [dV,dW]
   cases hh:zAL l k<;>simp [hh]
  rw [e]
  by_cases he:i=k
  ·subst he
   rw [hp];simp
  ·have ih:=leafTo_at hp (k:=k) za
   rw [List.getElem?_append_left (List.getElem?_eq_some_iff.1 ih).1];exact ih
theorem leaf_at {l:List Rg} (g:GoodR l) {s:BA} (h:leafB l s=true):∃ (i n:Nat) (hi:i<l.length),(l[i]).nm=s∧lmF l l.length s=some (.int .i64 (n:Int))∧(zAG l)[n]?=some i:=by
 unfold leafB at h;rw [dT] at h;obtain ⟨h1,h2⟩:=h
 cases hx:idx l s with
 | none=>rw [hx] at h1;cases h1
 | some i =>
  obtain ⟨hi,hs⟩:=zEj hx
  have hp:zAL l i=false:=by
   unfold zAL;rw [zBl hi,hs]
   simpa using h2
  refine ⟨i,(zCu l i).length,hi,hs,?_,leafTo_at hp hi⟩
  have:=lmF_some g (aB _) hi hp
  rwa [zBl hi,hs] at this
theorem leaf_no {l:List Rg} (g:GoodR l) {s:BA} (h:leafB l s=false):lmF l l.length s=none:=by
 refine lmF_none fun i hi hp he=>?_
 rw [zBl hi] at he;have:=leafB_at g hi;rw [←he,h,hp] at this
 cases this
def vB (rs:List Rg) (ds:List De) (i:Nat) (use:BA) (day:Int) (d:De):Bool:=decide ((zCG ds d).1≤day)&&decide (day<(zCG ds d).2)&&(lies rs d.ar i&&zDt d.us use)
def zCF (rs:List Rg) (ds:List De) (i:Nat) (use:BA) (day:Int) (th p:BA) (x:Bool) (d:De):Bool:=decide (d.kd=3)&&(decide (d.th=th)&&(decide (d.fr=p)&&((d.ex == x)&&vB rs ds i use day d)))
def licL (ds:List De) (P:De→Bool) (k:Nat):List Int:=((List.range k).filter fun j=>P (ds.getD j default)).map (fun j:Nat=>(j:Int))
theorem licL_succ (ds:List De) (P:De→Bool) (k:Nat):licL ds P (k+1)=licL ds P k++(if P (ds.getD k default)=true then [(k:Int)] else []):=by
 unfold licL;rw [dV,dW,eQ]
 congr 1
 by_cases h:P (ds.getD k default)=true
 ·rw [aE h,eX (p:=fun j=>P (ds.getD j default)) (a:=k) h];rfl
 ·rw [aC h,eS (p:=fun j=>P (ds.getD j default)) (a:=k) h];rfl
theorem licL_len (ds:List De) (P:De→Bool) (k:Nat):(licL ds P k).length≤k:=by
 unfold licL;rw [aM];have:=dX (fun j=>P (ds.getD j default)) (List.range k)
 simpa using this
theorem filter_head {P:Nat→Bool}:∀ {n:Nat},((List.range n).filter P=[]→∀ j,j<n→P j=false)∧∀ k t,(List.range n).filter P=k::t→k<n∧P k=true∧∀ j,j<k→P j=false
 | 0=>⟨fun _ j hj=>za,fun k t h=>by simp at h⟩
 | n+1=>by
  obtain ⟨h1,h2⟩:=filter_head (P:=P) (n:=n)
  constructor
  ·intro h j hj
   rw [dV,dW,List.append_eq_nil_iff] at h
   rcases aU j n with hh | hh
   ·exact h1 h.1 j hh
   ·obtain rfl:j=n:=by omega
    cases hp:P j with
    | false=>rfl
    | true=>have:=h.2;simp [hp] at this
  ·intro k t h
   rw [dV,dW] at h
   cases hf:(List.range n).filter P with
   | nil =>
    rw [hf,List.nil_append] at h
    cases hp:P n with
    | false=>simp [hp] at h
    | true =>
     simp [hp] at h
     obtain ⟨rfl,rfl⟩:=h;exact ⟨za,hp,h1 hf⟩
   | cons a r =>
    rw [hf,List.cons_append] at h
    injection h with ha hr
    subst ha;obtain ⟨h3,h4,h5⟩:=h2 a r hf;exact ⟨za,h4,h5⟩
theorem licL_none {ds:List De} {P:De→Bool} (h:licL ds P ds.length=[]):ds.find? P=none:=by
 unfold licL at h;rw [List.map_eq_nil_iff] at h;have:=filter_head.1 h;rw [List.find?_eq_none];intro x hx;obtain ⟨j,hj,rfl⟩:=aK hx;have h1:=this j hj;rw [List.getD_eq_getElem?_getD,List.getElem?_eq_getElem hj,aO] at h1;rw [h1];simp
theorem licL_some {ds:List De} {P:De→Bool} {z:Int} {t:List Int} (h:licL ds P ds.length=z::t):∃ (k:Nat) (hk:k<ds.length),z=(k:Int)∧ds.find? P=some ds[k]:=by
 unfold licL at h
 cases hf:(List.range ds.length).filter fun j=>P (ds.getD j default) with
 | nil=>rw [hf] at h;cases h
 | cons k r =>
  rw [hf,eG] at h
  injection h with h1 _
  obtain ⟨h3,h4,h5⟩:=filter_head.2 k r hf;refine ⟨k,h3,h1.symm,?_⟩
  rw [List.find?_eq_some_iff_getElem];rw [List.getD_eq_getElem?_getD,List.getElem?_eq_getElem h3,aO] at h4;refine ⟨h4,k,h3,rfl,fun j hj=>?_⟩
  have h6:=h5 j hj;rw [List.getD_eq_getElem?_getD,List.getElem?_eq_getElem za,aO] at h6;rw [h6];rfl
def nextP (rs:List Rg) (ds:List De) (i:Nat) (use:BA) (day:Int) (th p:BA):Option BA:=(ds.find? (zCF rs ds i use day th p true)).map De.to_
def ctlN (nx:BA→Option BA):Nat→List BA→BA→BA
 | 0,_,p=>p
 | f+1,seen,p=>if zDt seen p=true then p else match nx p with
  | none=>p
  | some q=>ctlN nx f (p::seen) q
def ctlF (rs:List Rg) (ds:List De) (i:Nat) (use:BA) (day:Int) (th ho:BA):BA:=ctlN (nextP rs ds i use day th) (ds.length+2) [] ho
structure CtlI (nx:BA→Option BA) (ps:List BA) (f:Nat) (seen:List BA) (p r:BA):Prop where
 eq:ctlN nx f seen p=r
 nd:seen.Nodup
 sub:∀ s∈seen,s∈ps
 inp:p∈ps
 fu:f+seen.length=ps.length+1
theorem nodup_len {α:Type} [DecidableEq α]:∀ {l r:List α},l.Nodup→(∀ x∈l,x∈r)→l.length≤r.length
 | [],_,_,_=>ze
 | a::l,r,hn,hs=>by
  obtain ⟨h1,h2⟩:=List.nodup_cons.1 hn;have ih:=nodup_len (l:=l) (r:=r.erase a) h2 fun x hx=>(List.mem_erase_of_ne fun (e:x=a)=>h1 (by rw [←e];exact hx)).2 (hs x (aW _ hx))
  have ha:=hs a aX;have:=List.length_erase_of_mem ha;have:=List.length_pos_of_mem ha;simp only [aY];omega
theorem CtlI.pos {nx:BA→Option BA} {ps:List BA} {f:Nat} {seen:List BA} {p r:BA} (h:CtlI nx ps f seen p r):∃ g,f=g+1:=by
 have:=nodup_len h.nd h.sub;have:=h.fu;exact ⟨f - 1,za⟩
theorem CtlI.stop {nx:BA→Option BA} {ps:List BA} {f:Nat} {seen:List BA} {p r:BA} (h:CtlI nx ps f seen p r) (hp:zDt seen p=true):r=p:=by
 obtain ⟨g,rfl⟩:=h.pos;rw [←h.eq,ctlN,aE hp]
theorem CtlI.none {nx:BA→Option BA} {ps:List BA} {f:Nat} {seen:List BA} {p r:BA} (h:CtlI nx ps f seen p r) (hp:zDt seen p=false) (hn:nx p = .none):r=p:=by
 obtain ⟨g,rfl⟩:=h.pos;rw [←h.eq,ctlN,aC (by rw [hp];simp),hn]
theorem CtlI.next {nx:BA→Option BA} {ps:List BA} {f:Nat} {seen:List BA} {p q r:BA} (h:CtlI nx ps f seen p r) (hp:zDt seen p=false) (hn:nx p=some q) (hq:q∈ps):0<f∧CtlI nx ps (f - 1) (p::seen) q r:=by
 obtain ⟨g,rfl⟩:=h.pos;refine ⟨za,⟨?_,List.nodup_cons.2 ⟨memS_false.1 hp,h.nd⟩,fun s hs=>?_,hq,?_⟩⟩
 ·rw [Nat.add_sub_cancel,←h.eq,ctlN,aC (by rw [hp];simp),hn]
 ·rcases List.mem_cons.1 hs with rfl | hs
  ·exact h.inp
  ·exact h.sub s hs
 ·have:=h.fu
  simp only [aY];omega
theorem ctlI_start (rs:List Rg) (ds:List De) (i:Nat) (use:BA) (day:Int) (th ho:BA):CtlI (nextP rs ds i use day th) (ho::ds.map De.to_) (ds.length+2) [] ho (ctlF rs ds i use day th ho) :=
 ⟨rfl,List.nodup_nil,fun s hs=>absurd hs ze,aX,ze⟩
theorem nextP_mem {rs:List Rg} {ds:List De} {i:Nat} {use:BA} {day:Int} {th p q ho:BA} (h:nextP rs ds i use day th p=some q):q∈ho::ds.map De.to_:=by
 unfold nextP at h;obtain ⟨d,hd,rfl⟩:=Option.map_eq_some_iff.1 h;exact aW _ (eY (List.mem_of_find?_eq_some hd))
abbrev zBm:=BA→Rat
def upH (f:zBm) (p:BA) (x:Rat):zBm:=fun q=>if q=p then x else f q
theorem zBI (f:zBm) (p:BA) (x:Rat):upH f p x p=x:=aE rfl
theorem zAN (f:zBm) {p q:BA} (x:Rat) (h:q≠p):upH f p x q=f q:=aC h
def zCX (nu de:BA):Rat:=mkRat (zAz (zAY nu):Int) (zAz de)
def shQ (s:Sh):Rat:=zCX s.nu s.de
def zAk (l:List Sh) (f:zBm):zBm:=l.foldl (fun g s=>upH g s.pt (shQ s)) f
def orgB (th:BA) (day:Int) (d:De):Bool:=decide (d.kd=1)&&(decide (d.th=th)&&decide (d.bg≤day))
def orgF (th:BA) (day:Int) (f:zBm) (d:De):zBm:=if orgB th day d=true then zAk d.sh f else f
def zBG (has:Rat) (l:List Sh) (f:zBm):zBm:=l.foldl (fun g s=>upH g s.pt (g s.pt+has*shQ s)) f
def giveF (d:De) (f:zBm):zBm:=upH (upH f d.fr (f d.fr - f d.fr*zCX d.nu d.de)) d.to_ (upH f d.fr (f d.fr - f d.fr*zCX d.nu d.de) d.to_+f d.fr*zCX d.nu d.de)
def zCY (d:De) (f:zBm):zBm:=if d.kd=5 then zBG (f d.fr) d.sh (upH f d.fr 0) else giveF d f
def zDO (rs:List Rg) (ds:List De) (i:Nat) (th use:BA) (day:Int) (d:De):Bool :=
 if d.kd=2 then decide (d.th=th)&&vB rs ds i use day d else if d.kd=5 then decide (d.bg≤day) else false
def stepF (mv:De→Bool) (f:zBm) (d:De):zBm:=if mv d=true then zCY d f else f
def zDv (th:BA) (day:Int) (ds:List De):zBm:=ds.foldl (orgF th day) (fun _=>0)
def zAH (rs:List Rg) (ds:List De) (i:Nat) (th use:BA) (day:Int) (n:Nat):zBm:=(ds.take n).foldl (stepF (zDO rs ds i th use day)) (zDv th day ds)
def zCK (q:Rat):Bool:=decide (10 ^ 2000≤q.num.natAbs) || decide (10 ^ 2000≤q.den)
def zBQ (N:List BA) (f:zBm):Rat:=N.foldr (fun p s=>f p+s) 0
theorem sumF_nil (f:zBm):zBQ [] f=0:=rfl
theorem zBb (p:BA) (N:List BA) (f:zBm):zBQ (p::N) f=f p+zBQ N f:=rfl
theorem sumF_congr {N:List BA} {f g:zBm} (h:∀ p∈N,f p=g p):zBQ N f=zBQ N g:=by
 induction N with
 | nil=>rfl
 | cons p N ih=>rw [zBb,zBb,h p aX,ih fun q hq=>h q (aW _ hq)]
theorem sumF_up {N:List BA} (hn:N.Nodup) {p:BA} (hp:p∈N) (f:zBm) (x:Rat):zBQ N (upH f p x)=zBQ N f - f p+x:=by
 induction N with
 | nil=>cases hp
 | cons a N ih =>
  obtain ⟨h1,h2⟩:=List.nodup_cons.1 hn;rw [zBb,zBb]
  by_cases ha:a=p
  ·subst ha
   rw [zBI,sumF_congr (f:=upH f a x) (g:=f) fun q hq=>zAN f x (fun e=>h1 (by rw [←e];exact hq))]
   grind
  ·rw [zAN f x ha,ih h2 ((List.mem_cons.1 hp).resolve_left fun e=>ha e.symm)]
   grind
theorem sumF_zero (N:List BA):zBQ N (fun _=>0)=0:=by
 induction N with
 | nil=>rfl
 | cons p N ih=>rw [zBb,ih];grind
def zBW (l:List Sh):Rat:=l.foldr (fun s t=>shQ s+t) 0
theorem sumF_pass {N:List BA} (hn:N.Nodup) (has:Rat):∀ (l:List Sh) (f:zBm),(∀ s∈l,s.pt∈N)→zBQ N (zBG has l f)=zBQ N f+has*zBW l
 | [],f,_=>by show zBQ N f=zBQ N f+has*0;grind
 | s::l,f,h=>by
  have ih:=sumF_pass hn has l (upH f s.pt (f s.pt+has*shQ s)) fun t ht=>h t (aW _ ht)
  show zBQ N (zBG has l (upH f s.pt (f s.pt+has*shQ s)))=_
  rw [ih,sumF_up hn (h s aX)]
  show _=zBQ N f+has*(shQ s+zBW l)
  grind
theorem sumF_give {N:List BA} (hn:N.Nodup) (d:De) (f:zBm) (h1:d.fr∈N) (h2:d.to_∈N):zBQ N (giveF d f)=zBQ N f:=by
 unfold giveF;rw [sumF_up hn h2,sumF_up hn h1]
 grind
theorem sumF_take {N:List BA} (hn:N.Nodup) (d:De) (f:zBm) (h1:d.fr∈N) (h2:d.kd≠5→d.to_∈N) (h3:d.kd=5→∀ s∈d.sh,s.pt∈N) (h4:d.kd=5→zBW d.sh=1):zBQ N (zCY d f)=zBQ N f:=by
 unfold zCY
 by_cases hk:d.kd=5
 ·rw [aE hk,sumF_pass hn _ _ _ (h3 hk),sumF_up hn h1,h4 hk]
  grind
 ·rw [aC hk,sumF_give hn d f h1 (h2 hk)]
theorem sumF_put {N:List BA} (hn:N.Nodup):∀ (l:List Sh) (f:zBm),(∀ s∈l,s.pt∈N)→(l.map Sh.pt).Nodup→(∀ s∈l,f s.pt=0)→zBQ N (zAk l f)=zBQ N f+zBW l
 | [],f,_,_,_=>by show zBQ N f=zBQ N f+0;grind
 | s::l,f,h,hd,h0=>by
  rw [eG] at hd;obtain ⟨h1,h2⟩:=List.nodup_cons.1 hd
  have ih:=sumF_put hn l (upH f s.pt (shQ s)) (fun t ht=>h t (aW _ ht)) h2 (fun t ht=>by
   rw [zAN _ _ (fun e=>h1 (by rw [←e];exact eY ht))]
   exact h0 t (aW _ ht))
  show zBQ N (zAk l (upH f s.pt (shQ s)))=_
  rw [ih,sumF_up hn (h s aX),h0 s aX]
  show _=zBQ N f+(shQ s+zBW l)
  grind
structure HoldOk (N:List BA) (f:zBm):Prop where
 pos:∀ p,0≤f p
 out:∀ p,p∉N→f p=0
theorem zEl (nu de:BA):0≤zCX nu de:=by
 unfold zCX;rw [←Rat.num_nonneg,Rat.num_mkRat]
 split
 ·exact Int.le_refl _
 ·exact Int.ediv_nonneg (dG _) (dG _)
theorem shQ_pos (s:Sh):0≤shQ s:=zEl _ _
section
variable {N:List BA} {f:zBm}
theorem HoldOk.up (h:HoldOk N f) {p:BA} {x:Rat} (hp:p∈N) (hx:0≤x):HoldOk N (upH f p x) :=
 ⟨fun q=>by
  by_cases hq:q=p
  ·subst hq;rw [zBI];exact hx
  ·rw [zAN _ _ hq];exact h.pos q,
  fun q hq=>by rw [zAN _ _ (fun e=>hq (by rw [e];exact hp))];exact h.out q hq⟩
theorem HoldOk.put:∀ (l:List Sh) (f:zBm),HoldOk N f→(∀ s∈l,s.pt∈N)→HoldOk N (zAk l f)
 | [],_,h,_=>h
 | s::l,f,h,hs=>HoldOk.put l (upH f s.pt (shQ s)) (h.up (hs s aX) (shQ_pos s)) fun t ht=>hs t (aW _ ht)
theorem HoldOk.pass {has:Rat} (hh:0≤has):∀ (l:List Sh) (f:zBm),HoldOk N f→(∀ s∈l,s.pt∈N)→HoldOk N (zBG has l f)
 | [],_,h,_=>h
 | s::l,f,h,hs=>HoldOk.pass hh l (upH f s.pt (f s.pt+has*shQ s)) (h.up (hs s aX) (by
   have:=h.pos s.pt;have:=Rat.mul_nonneg hh (shQ_pos s)
   grind)) fun t ht=>hs t (aW _ ht)
theorem part_le {a q:Rat} (ha:0≤a) (hq:q≤1):0≤a - a*q:=by
 have:=eZ hq ha
 grind
theorem HoldOk.give (h:HoldOk N f) (d:De) (h1:d.fr∈N) (h2:d.to_∈N) (hq:zCX d.nu d.de≤1):HoldOk N (giveF d f):=by
 unfold giveF;have k1:HoldOk N (upH f d.fr (f d.fr - f d.fr*zCX d.nu d.de)):=h.up h1 (part_le (h.pos _) hq);refine k1.up h2 ?_
 have a:=k1.pos d.to_;have b:=Rat.mul_nonneg (h.pos d.fr) (zEl d.nu d.de)
 grind
theorem HoldOk.take (h:HoldOk N f) (d:De) (h1:d.fr∈N) (h2:d.kd≠5→d.to_∈N) (h3:d.kd=5→∀ s∈d.sh,s.pt∈N) (hq:d.kd≠5→zCX d.nu d.de≤1):HoldOk N (zCY d f):=by
 unfold zCY
 by_cases hk:d.kd=5
 ·rw [aE hk];exact HoldOk.pass (h.pos _) _ _ (h.up h1 (by grind)) (h3 hk)
 ·rw [aC hk];exact h.give d h1 (h2 hk) (hq hk)
end
def zDW (p:BA):List BA→List BA
 | []=>[p]
 | a::l=>if a=p then a::l else if slt p a=true then p::a::l else a::zDW p l
def IncN (l:List BA):Prop:=l.Pairwise fun a b=>slt a b=true
theorem zAP {p q:BA}:∀ {l:List BA},q∈zDW p l↔q=p∨q∈l
 | []=>by simp [zDW]
 | a::l=>by
  unfold zDW
  split
  ·next h=>subst h;simp
  ·split
   ·simp
   ·rw [List.mem_cons,zAP (l:=l),List.mem_cons]
    constructor
    ·rintro (h | h | h)<;>simp [h]
    ·rintro (h | h | h)<;>simp [h]
theorem slt_of_ne {a b:BA} (h:a≠b) (h2:slt b a=false):slt a b=true:=by
 cases hs:sle b a with
 | false=>exact zBJ hs
 | true =>
  exfalso
  have h3:(slt b a || b.toList == a.toList)=true:=hs
  rw [h2,eR] at h3;exact h (str_eq h3).symm
theorem IncN.ins {p:BA}:∀ {l:List BA},IncN l→IncN (zDW p l)
 | [],_=>by simp [zDW,IncN]
 | a::l,h=>by
  obtain ⟨h1,h2⟩:=List.pairwise_cons.1 h;unfold zDW
  split
  ·exact h
  ·next hne =>
   split
   ·next hlt =>
    refine List.pairwise_cons.2 ⟨fun b hb=>?_,h⟩
    rcases List.mem_cons.1 hb with rfl | hb
    ·exact hlt
    ·exact zEb hlt (h1 b hb)
   ·next hlt =>
    refine List.pairwise_cons.2 ⟨fun b hb=>?_,IncN.ins h2⟩
    rcases zAP.1 hb with rfl | hb
    ·exact slt_of_ne hne (by simpa using hlt)
    ·exact h1 b hb
theorem IncN.nodup {l:List BA} (h:IncN l):l.Nodup:=h.imp fun h=>zDd h
theorem slt_irr (a:BA):slt a a=false:=by
 cases h:slt a a with
 | false=>rfl
 | true=>exact absurd rfl (zDd h)
theorem incN_ext:∀ {l m:List BA},IncN l→IncN m→(∀ x,x∈l↔x∈m)→l=m
 | [],[],_,_,_=>rfl
 | [],b::m,_,_,h=>absurd ((h b).2 aX) ze
 | a::l,[],_,_,h=>absurd ((h a).1 aX) ze
 | a::l,b::m,h1,h2,h=>by
  obtain ⟨k1,k2⟩:=List.pairwise_cons.1 h1;obtain ⟨k3,k4⟩:=List.pairwise_cons.1 h2
  have hab:a=b:=by
   rcases List.mem_cons.1 ((h a).1 aX) with e | e
   ·exact e
   ·rcases List.mem_cons.1 ((h b).2 aX) with e2 | e2
    ·exact e2.symm
    ·have:=zEb (k1 b e2) (k3 a e)
     rw [slt_irr] at this
     cases this
  subst hab
  congr 1
  refine incN_ext k2 k4 fun x=>?_
  have hx:=h x;rw [List.mem_cons,List.mem_cons] at hx
  constructor
  ·intro hm
   rcases hx.1 (.inr hm) with e | e
   ·subst e;exact absurd rfl (zDd (k1 x hm))
   ·exact e
  ·intro hm
   rcases hx.2 (.inr hm) with e | e
   ·subst e;exact absurd rfl (zDd (k3 x hm))
   ·exact e
def zBk (l:List Sh) (K:List BA):List BA:=l.foldl (fun K s=>zDW s.pt K) K
def zAJ (th:BA) (day:Int) (K:List BA) (d:De):List BA:=if orgB th day d=true then zBk d.sh K else K
def zAw (d:De) (K:List BA):List BA:=if d.kd=5 then zBk d.sh (zDW d.fr K) else zDW d.to_ (zDW d.fr K)
def zBd (mv:De→Bool) (K:List BA) (d:De):List BA:=if mv d=true then zAw d K else K
def zDY (th:BA) (day:Int) (ds:List De):List BA:=ds.foldl (zAJ th day) []
def zBD (rs:List Rg) (ds:List De) (i:Nat) (th use:BA) (day:Int) (n:Nat):List BA:=(ds.take n).foldl (zBd (zDO rs ds i th use day)) (zDY th day ds)
theorem zDD:∀ (l:List Sh) {K:List BA},IncN K→IncN (zBk l K)
 | [],_,h=>h
 | _::l,_,h=>zDD l h.ins
theorem zAX:∀ (l:List Sh) {K:List BA} {q:BA},q∈zBk l K↔(∃ s∈l,s.pt=q)∨q∈K
 | [],K,q=>by simp [zBk]
 | s::l,K,q=>by
  show q∈zBk l (zDW s.pt K)↔_
  rw [zAX l,zAP]
  constructor
  ·rintro (⟨t,ht,e⟩ | e | h)
   ·exact .inl ⟨t,aW _ ht,e⟩
   ·exact .inl ⟨s,aX,e.symm⟩
   ·exact .inr h
  ·rintro (⟨t,ht,e⟩ | h)
   ·rcases List.mem_cons.1 ht with rfl | ht
    ·exact .inr (.inl e.symm)
    ·exact .inl ⟨t,ht,e⟩
   ·exact .inr (.inr h)
theorem zDc (d:De) {K:List BA} (h:IncN K):IncN (zAw d K):=by
 unfold zAw
 split
 ·exact zDD _ h.ins
 ·exact h.ins.ins
theorem HoldOk.mono {N M:List BA} {f:zBm} (h:HoldOk N f) (hs:∀ p∈N,p∈M):HoldOk M f:=⟨h.pos,fun p hp=>h.out p fun hm=>hp (hs p hm)⟩
theorem HoldOk.takeK {K:List BA} {f:zBm} (h:HoldOk K f) (d:De) (hq:d.kd≠5→zCX d.nu d.de≤1):HoldOk (zAw d K) (zCY d f):=by
 have hs:∀ p∈K,p∈zAw d K:=fun p hp=>by
  unfold zAw
  split
  ·exact (zAX _).2 (.inr (zAP.2 (.inr hp)))
  ·exact zAP.2 (.inr (zAP.2 (.inr hp)))
 have h1:d.fr∈zAw d K:=by
  unfold zAw
  split
  ·exact (zAX _).2 (.inr (zAP.2 (.inl rfl)))
  ·exact zAP.2 (.inr (zAP.2 (.inl rfl)))
 refine (h.mono hs).take d h1 (fun hk=>?_) (fun hk s hs=>?_) hq
 ·unfold zAw
  rw [aC hk];exact zAP.2 (.inl rfl)
 ·unfold zAw
  rw [aE hk];exact (zAX _).2 (.inl ⟨s,hs,rfl⟩)
theorem HoldOk.orgK {K:List BA} {f:zBm} (h:HoldOk K f) (th:BA) (day:Int) (d:De):HoldOk (zAJ th day K d) (orgF th day f d):=by
 unfold zAJ orgF
 split
 ·exact HoldOk.put _ _ (h.mono fun p hp=>(zAX _).2 (.inr hp)) fun s hs=>(zAX _).2 (.inl ⟨s,hs,rfl⟩)
 ·exact h
theorem keysOrg_inc (th:BA) (day:Int) (d:De) {K:List BA} (h:IncN K):IncN (zAJ th day K d):=by
 unfold zAJ
 split
 ·exact zDD _ h
 ·exact h
theorem start_ok (th:BA) (day:Int):∀ (ds:List De) (K:List BA) (f:zBm),IncN K→HoldOk K f→IncN (ds.foldl (zAJ th day) K)∧HoldOk (ds.foldl (zAJ th day) K) (ds.foldl (orgF th day) f)
 | [],_,_,h1,h2=>⟨h1,h2⟩
 | d::ds,K,f,h1,h2=>start_ok th day ds (zAJ th day K d) (orgF th day f d) (keysOrg_inc th day d h1) (h2.orgK th day d)
theorem steps_ok (mv:De→Bool):∀ (ds:List De) (K:List BA) (f:zBm),(∀ d∈ds,mv d=true→d.kd≠5→zCX d.nu d.de≤1)→IncN K→HoldOk K f →
  IncN (ds.foldl (zBd mv) K)∧HoldOk (ds.foldl (zBd mv) K) (ds.foldl (stepF mv) f)
 | [],_,_,_,h1,h2=>⟨h1,h2⟩
 | d::ds,K,f,hq,h1,h2=>by
  refine steps_ok mv ds (zBd mv K d) (stepF mv f d) (fun e he=>hq e (aW _ he)) ?_ ?_
  ·unfold zBd
   split
   ·exact zDc d h1
   ·exact h1
  ·unfold zBd stepF
   split
   ·next hm=>exact h2.takeK d (hq d aX hm)
   ·exact h2
theorem hold_none:HoldOk [] (fun _=>0):=⟨fun _=>zd,fun _ _=>rfl⟩
def holL (K:List BA) (f:zBm):List BA:=K.filter fun p=>decide (f p≠0)
theorem holL_inc {K:List BA} {f:zBm} (h:IncN K):IncN (holL K f):=List.Pairwise.filter _ h
theorem holL_mem {K:List BA} {f:zBm} (h:HoldOk K f) {p:BA}:p∈holL K f↔f p≠0:=by
 unfold holL;rw [List.mem_filter]
 constructor
 ·exact fun hp=>by simpa using hp.2
 ·intro hp
  refine ⟨?_,by simpa using hp⟩
  refine aL fun hn=>hp (h.out p hn)
theorem sumF_holL {K:List BA} {f:zBm}:zBQ (holL K f) f=zBQ K f:=by
 unfold holL
 induction K with
 | nil=>rfl
 | cons p K ih =>
  by_cases h:f p=0
  ·rw [eS zn,ih,zBb,h];grind
  ·rw [eX zn,zBb,zBb,ih]
end Go.Proofs.YtieoifkdobcpiaaGreatDoor
