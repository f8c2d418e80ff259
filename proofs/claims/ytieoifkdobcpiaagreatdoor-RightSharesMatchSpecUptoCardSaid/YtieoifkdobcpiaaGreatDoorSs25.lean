/- Parts of the proof, joined: The reference's checkGift. The reference's checkDeed. The reference's . -/
import Derived.Test.YtieoifkdobcpiaaGreatDoorSs24
set_option maxRecDepth 100000
set_option maxHeartbeats 8000000
namespace Go.Proofs.YtieoifkdobcpiaaGreatDoor
open Go.RowKit Dw
structure GS (w:World) (RA:Option Addr) (rc:Nat) (rs:List Rg) (UA:Option Addr) (uc:Nat) (us:List ByteArray) (DA:Option Addr) (dc:Nat) (ds:List De) (d:De) (W:World):Prop where
 bel:Below w.heap.size w W
 ti:Bx W w.heap.size (tiC RA rc rs UA uc us DA dc ds) 26
 de:Bx W (w.heap.size+1) (deC d) 52
section
variable {w W W':World} {RA:Option Addr} {rc:Nat} {rs:List Rg} {UA:Option Addr} {uc:Nat} {us:List ByteArray} {DA:Option Addr} {dc:Nat} {ds:List De} {d:De}
theorem GS.below (h:GS w RA rc rs UA uc us DA dc ds d W) (hb:Below W.heap.size W W'):GS w RA rc rs UA uc us DA dc ds d W':=⟨zAa h.bel hb,h.ti.below hb,h.de.below hb⟩
theorem GS.drewN (h:GS w RA rc rs UA uc us DA dc ds d W) (n:Nat):GS w RA rc rs UA uc us DA dc ds d (W.drewN n):=h.below (zAd (Below.refl _ _) n)
theorem GS.drew (h:GS w RA rc rs UA uc us DA dc ds d W):GS w RA rc rs UA uc us DA dc ds d W.drew:=h.drewN 1
theorem GS.alloc (h:GS w RA rc rs UA uc us DA dc ds d W) (o:Obj):GS w RA rc rs UA uc us DA dc ds d (W.alloc o):=h.below ((Below.refl _ _).alloc (Nat.le_refl _) o)
end
theorem chkA_lenC {l:List Rg} {a:List Ar} (h:zDr l a=0):a.length≤100:=by
 unfold zDr at h
 split at h
 ·cases h
 ·omega
def giftU (us:List ByteArray) (d:De):Int:=if useF us d.us≠0 then useF us d.us else if zCo d.bg=false∨zCo d.en=false then 1 else if d.en≤d.bg then 8 else 0
def giftP (rs:List Rg) (us:List ByteArray) (d:De):Int:=if zDr rs d.ar≠0 then zDr rs d.ar else if zBy rs d.ar=[]∨d.us=[] then 9 else giftU us d
theorem giftF_eq (rs:List Rg) (us:List ByteArray) (d:De):giftF rs us d=if zBj d.th=false∨zBj d.fr=false∨zBj d.to_=false then 5 else if d.fr=d.to_ then 12 else if parF d≠0 then parF d else giftP rs us d:=rfl
def GURel (w:World) (RA:Option Addr) (rc:Nat) (rs:List Rg) (UA:Option Addr) (uc:Nat) (us:List ByteArray) (DA:Option Addr) (dc:Nat) (ds:List De) (d:De) (m:Nat) (i:Value) (wr:World):Prop :=
 GS w RA rc rs UA uc us DA dc ds d wr∧∃ k:Nat,k+m=d.us.length∧i = .int .i64 k∧∀ j,j<k→zBo us d.us j=none
theorem checkGiftR_c (RA:Option Addr) (rc:Nat) (rs:List Rg) (UA:Option Addr) (uc:Nat) (us:List ByteArray) (DA:Option Addr) (dc:Nat) (ds:List De) (d:De) (w:World) (g:GoodR rs) (hr:Rgs w RA rs) (hu:Strs w UA us) (hul:us.length≤1000000) (hd:DeOk w d) :
  Calls Tryz.prog 139 #[.agg (tiC RA rc rs UA uc us DA dc ds),deV d] w (zAe (.int .i64 (giftF rs us d)) w):=by
 generalize hres:giftF rs us d=res;rw [giftF_eq] at hres;have HR:=zq hres;clear hres;have HD:=zq hd;clear hd;have HRG:=zq hr;have HU:=zq hu;clear hr hu;obtain ⟨z1,z2,z3,z4,z5,z6⟩:=HD.o.strs;have hn1:=fun W=>zBm d.th W z2
 have hn2:=fun W=>zBm d.fr W z3
 have hn3:=fun W=>zBm d.to_ W z4
 have HST0:Hid (GS w RA rc rs UA uc us DA dc ds d ((w.alloc (.cells (tiC RA rc rs UA uc us DA dc ds) 26)).alloc (.cells (deC d) 52))) :=
  ⟨((Below.refl w.heap.size w).alloc (Nat.le_refl _) _).alloc ze _,(Bx.new _ _ _).alloc _,Bx.new1 _ _ _ _⟩
 obtain ⟨W,hW⟩:∃ W,W=(w.alloc (.cells (tiC RA rc rs UA uc us DA dc ds) 26)).alloc (.cells (deC d) 52):=⟨_,rfl⟩;rw [←hW] at HST0
 go_enter Tryz.func139,Tryz.ntmps139
 go_upto_region 1 with fail
 rw [←hW];clear hW;have y3:=HST0.o.de.cell (i:=3) rfl;have y4:=HST0.o.de.cell (i:=4) rfl;have y5:=HST0.o.de.cell (i:=5) rfl;have ys:=HST0.o.de.lt
 cases h1:zBj d.th with
 | false =>
  rw [h1] at hn1;have HN1:=zq hn1;have HS:Hid (res=5):=by show _=_;rw [←HR.o,if_pos (.inl h1)]
  clear h1 hn1 hn2 hn3
  go_wp2_with fail
  with_reducible refine (HN1.o _).mono ?_
  rintro e w1 ⟨rfl,rfl⟩;go_wp2;go_ret
  exact zAe.mk (zAw HS.o.symm) HST0.o.bel
 | true =>
 rw [h1] at hn1;have HN1:=zq hn1
 cases h2:zBj d.fr with
 | false =>
  rw [h2] at hn2;have HN2:=zq hn2;have HS:Hid (res=5):=by show _=_;rw [←HR.o,if_pos (.inr (.inl h2))]
  clear h1 h2 hn1 hn2 hn3
  go_wp2_with fail
  with_reducible refine (HN1.o _).mono ?_
  rintro e w1 ⟨rfl,rfl⟩
  go_wp2_with fail
  with_reducible refine (HN2.o _).mono ?_
  rintro e w2 ⟨rfl,rfl⟩;go_wp2;go_ret
  exact zAe.mk (zAw HS.o.symm) HST0.o.bel
 | true =>
 rw [h2] at hn2;have HN2:=zq hn2
 cases h3:zBj d.to_ with
 | false =>
  rw [h3] at hn3;have HN3:=zq hn3;have HS:Hid (res=5):=by show _=_;rw [←HR.o,if_pos (.inr (.inr h3))]
  clear h1 h2 h3 hn1 hn2 hn3
  go_wp2_with fail
  with_reducible refine (HN1.o _).mono ?_
  rintro e w1 ⟨rfl,rfl⟩
  go_wp2_with fail
  with_reducible refine (HN2.o _).mono ?_
  rintro e w2 ⟨rfl,rfl⟩
  go_wp2_with fail
  with_reducible refine (HN3.o _).mono ?_
  rintro e w3 ⟨rfl,rfl⟩;go_wp2;go_ret
  exact zAe.mk (zAw HS.o.symm) HST0.o.bel
 | true =>
 rw [h3] at hn3;have HN3:=zq hn3
 have HR1:Hid ((if d.fr=d.to_ then 12 else if parF d≠0 then parF d else giftP rs us d)=res):=by
  show _=_
  have hh:=HR.o
  rwa [if_neg (by rw [h1,h2,h3];simp)] at hh
 clear h1 h2 h3 hn1 hn2 hn3 HR
 go_wp2_with fail
 with_reducible refine (HN1.o _).mono ?_
 rintro e w1 ⟨rfl,rfl⟩
 go_wp2_with fail
 with_reducible refine (HN2.o _).mono ?_
 rintro e w2 ⟨rfl,rfl⟩
 go_wp2_with fail
 with_reducible refine (HN3.o _).mono ?_
 rintro e w3 ⟨rfl,rfl⟩;clear HN1 HN2 HN3
 by_cases hft:d.fr=d.to_
 ·have HS:Hid (res=12):=by show _=_;rw [←HR1.o,if_pos hft]
  have q1:=zAB hft;clear hft;go_wp2;go_ret
  exact zAe.mk (zAw HS.o.symm) HST0.o.bel
 have q1:=zAr hft
 have HR2:Hid ((if parF d≠0 then parF d else giftP rs us d)=res):=by
  show _=_
  have hh:=HR1.o
  rwa [if_neg hft] at hh
 clear hft HR1;have y2:_=some (Value.int .i64 d.kd):=HST0.o.de.cell (i:=2) rfl
 by_cases hk2:d.kd=2
 case' neg =>
  have k2:(d.kd == 2)=false:=by simpa using hk2
  have HR3:Hid (giftP rs us d=res):=by
   show _=_
   have hh:=HR2.o
   rwa [if_neg (fun h=>h (by unfold parF;rw [if_pos hk2]))] at hh
  have HSTc:=HST0;clear HST0 HR2 hk2;go_upto_region 12 with fail
 case' pos =>
  have k2:(d.kd == 2)=true:=by simpa using hk2
  have y6:=HST0.o.de.cell (i:=6) rfl;have y7:=HST0.o.de.cell (i:=7) rfl
  go_wp2_with fail
  with_reducible refine (chkRatioR_c d.nu d.de _ z5 z6).mono ?_
  rintro e w4 ⟨rfl,hb4⟩;have HST1:=zq (HST0.o.below hb4);clear y2 y3 y4 y5 y6 y7 ys hb4 HST0
  by_cases hr:zDm d.nu d.de=0
  case' neg =>
   have HS:Hid (res=zDm d.nu d.de):=by
    show _=_
    have e:parF d=zDm d.nu d.de:=by unfold parF;rw [if_neg (fun h=>h hk2),if_pos hr]
    rw [←HR2.o,e,if_pos hr]
   have hrb2:(zDm d.nu d.de != 0)=true:=ju;clear hr;go_wp2;go_ret
   exact zAe.mk (zAw HS.o.symm) HST1.o.bel
  have HP:Hid (parF d=if posB d.nu=false∨zAy d.de<zAy (zAX d.nu) then 1 else 0):=by
   show _=_
   unfold parF;rw [if_neg (fun h=>h hk2),if_neg (fun h=>h hr)]
  obtain ⟨p1,p2,p3,p4,p5⟩:=zBY hr;have HLN:Hid ((zAc BT (zAy (zAX d.nu))).length≤500):=words_dec5 (zAQ p1).1 p4;have HLD:Hid ((zAc BT (zAy d.de)).length≤500):=words_dec5 (zAQ p2).1 p5;have HDP:Hid (0<zAy d.de):=den_pos p2 p3;have HFR:=zq (Of_cT d.nu d.de w4 (zAQ p1).1 p4 (zAQ p2).1 p5);have y6:=HST1.o.de.cell (i:=6) rfl;have y7:=HST1.o.de.cell (i:=7) rfl;rw [hr];clear p1 p2 p3 p4 p5 hr
  go_wp2_with fail
  with_reducible refine HFR.o.mono ?_
  rintro e w5 ⟨A5,c5,A6,c6,rfl,h5,h6,hb5⟩;have HST2:=zq (HST1.o.below hb5);clear y6 y7 hb5 HST1 HFR;obtain ⟨nv,hnv⟩:∃ nv,zAy (zAX d.nu)=nv:=⟨_,rfl⟩;obtain ⟨dv,hdv⟩:∃ dv,zAy d.de=dv:=⟨_,rfl⟩;rw [hnv,hdv] at HP;rw [hnv] at HLN;rw [hdv] at HLD HDP;rw [hnv] at h5;rw [hdv] at h6;rw [hnv,hdv];have HNV:=zq hnv;clear hnv hdv;have HXB:Hid (Bx (w5.alloc (.cells (nuC (zDp d.nu) A5 c5 nv A6 c6 dv) 45)) w5.heap.size (nuC (zDp d.nu) A5 c5 nv A6 c6 dv) 45):=Bx.new _ _ _;have HST3:=zq (HST2.o.alloc (.cells (nuC (zDp d.nu) A5 c5 nv A6 c6 dv) 45));have H5:=zq (h5.alloc (.cells (nuC (zDp d.nu) A5 c5 nv A6 c6 dv) 45));have H6:=zq (h6.alloc (.cells (nuC (zDp d.nu) A5 c5 nv A6 c6 dv) 45));clear h5 h6 HST2;go_upto_region 10 with fail
  obtain ⟨W5,hW5⟩:∃ W5,W5=w5.alloc (.cells (nuC (zDp d.nu) A5 c5 nv A6 c6 dv) 45):=⟨_,rfl⟩;rw [←hW5] at HXB HST3 H5 H6
  try rw [←hW5]
  clear hW5
  cases hng:zDp d.nu
  case' true =>
   have HS:Hid (res=1):=by
    show _=_
    have e:parF d=1:=by rw [HP.o,if_pos (.inl (by unfold posB;rw [hng];rfl))]
    rw [←HR2.o,e];rfl
   have n0:W5.cell? ⟨w5.heap.size,0,none⟩=some (.bool true):=by rw [←hng];exact HXB.o.cell (i:=0) rfl
   have ns:=HXB.o.lt
   try rw [hng]
   clear hng
   go_quiet (fail)
   go_wp2;go_ret
   exact zAe.mk (zAw HS.o.symm) (HST3.o.drewN _).bel
  rw [hng] at HXB;have n0:=HXB.o.cell (i:=0) rfl;have n1:=HXB.o.cell (i:=1) rfl;have n2:=HXB.o.cell (i:=2) rfl;have hiz:=fun W=>isZero_c false A5 A6 c5 c6 nv dv W
  by_cases hv0:nv=0
  case' pos =>
   have HS:Hid (res=1):=by
    show _=_
    have e:parF d=1:=by rw [HP.o,if_pos (.inl (by unfold posB;rw [HNV.o,hv0];simp))]
    rw [←HR2.o,e];rfl
   rw [decide_eq_true hv0] at hiz;have HIZ:=zq hiz;clear hiz hng hv0;have HS0:Hid (W5.cell? ⟨w5.heap.size,0,none⟩=some (.bool false)∧W5.cell? ⟨w5.heap.size,1,none⟩=some (.slice A5 (zAc BT nv).length c5)∧W5.cell? ⟨w5.heap.size,2,none⟩=some (.slice A6 (zAc BT dv).length c6)):=⟨n0,n1,n2⟩;refine wp_region_held_drew (S:=(fun w'=>w'.cell? ⟨w5.heap.size,0,none⟩=some (.bool false)∧w'.cell? ⟨w5.heap.size,1,none⟩=some (.slice A5 (zAc BT nv).length c5)∧w'.cell? ⟨w5.heap.size,2,none⟩=some (.slice A6 (zAc BT dv).length c6))) zc ?_ (fun hHeld=>?_)
   ·exact HS0.o
   refine Dw.rd1 0 rfl (fun K hK=>?_)
   clear hHeld
   go_simp
   refine hK.out _ _ ?_ (fun hHeld=>?_)
   ·exact HS0.o
   clear hK K
   try simp only [Dw.lay,Act.put]
   refine Dw.rd1 1 rfl (fun K hK=>?_)
   clear hHeld
   go_simp
   refine hK.out _ _ ?_ (fun hHeld=>?_)
   ·exact HS0.o
   clear hK K
   try simp only [Dw.lay,Act.put]
   refine Dw.rd1 2 rfl (fun K hK=>?_)
   clear hHeld
   go_simp
   refine hK.out _ _ ?_ (fun hHeld=>?_)
   ·exact HS0.o
   clear hK K
   try simp only [Dw.lay,Act.put]
   refine Dw.rd1 3 rfl (fun K hK=>?_)
   clear hHeld
   go_simp
   refine hK.out _ _ ?_ (fun hHeld=>?_)
   ·exact HS0.o
   clear hK K
   try simp only [Dw.lay,Act.put]
   refine Dw.rd1 4 rfl (fun K hK=>?_)
   clear hHeld
   go_simp
   go_at_call 103
   with_reducible refine (HIZ.o _).mono ?_
   rintro e w8 ⟨rfl,hb8⟩;have HST8:=zq (HST3.o.drew.below hb8);have HXB8:=zq (HXB.o.drew.below hb8);have b0:=HXB8.o.cell (i:=0) rfl;have b1:=HXB8.o.cell (i:=1) rfl;have b2:=HXB8.o.cell (i:=2) rfl;clear hb8 n0 n1 n2
   try go_wp2_with fail
   refine hK.out _ _ ?_ (fun hHeld=>?_)
   ·exact ⟨b0,b1,b2⟩
   clear hK K
   try simp only [Dw.lay,Act.put]
   refine Dw.rd1 5 rfl (fun K hK=>?_)
   clear hHeld
   go_simp
   refine hK.out _ _ ?_ (fun hHeld=>?_)
   ·exact ⟨b0,b1,b2⟩
   clear hK K
   try simp only [Dw.lay,Act.put]
   refine Dw.rd1 6 rfl (fun K hK=>?_)
   clear hHeld
   go_simp
   refine hK.out _ _ ?_ (fun hHeld=>?_)
   ·exact ⟨b0,b1,b2⟩
   clear hK K
   try simp only [Dw.lay,Act.put]
   refine wpAnyH_ready (rs:=[7,8]) zc ze ?_
   refine AllReadyH.cons rfl (fun K hK=>?_) (AllReadyH.cons rfl (fun K hK=>?_) AllReadyH.nil)
   ·clear hHeld
    go_simp
    refine hK.out _ _ ?_ (fun hHeld=>?_)
    ·exact ⟨b0,b1,b2⟩
    clear hK K
    try simp only [Dw.lay,Act.put]
    refine Dw.rd1 8 rfl (fun K hK=>?_)
    clear hHeld
    go_simp
    refine hK.out _ _ ?_ (fun hHeld=>?_)
    ·exact ⟨b0,b1,b2⟩
    clear hK K
    try simp only [Dw.lay,Act.put]
    refine Dw.rd1 9 rfl (fun K hK=>?_)
    clear hHeld
    go_simp
    refine hK.out _ _ ?_ (fun hHeld=>?_)
    ·exact ⟨b0,b1,b2⟩
    clear hK K
    try simp only [Dw.lay,Act.put]
    refine Dw.rd1 10 rfl (fun K hK=>?_)
    clear hHeld
    go_simp
    refine hK.out _ _ ?_ (fun hHeld=>?_)
    ·exact ⟨b0,b1,b2⟩
    clear hK K
    try simp only [Dw.lay,Act.put]
    refine Dw.rd1 11 rfl (fun K hK=>?_)
    clear hHeld
    go_simp
    refine hK.out _ _ ?_ (fun hHeld=>?_)
    ·exact ⟨b0,b1,b2⟩
    clear hK K
    try simp only [Dw.lay,Act.put]
    refine wpAnyH_done zc ?_ _
    clear hHeld;go_wp2;go_ret
    exact zAe.mk (zAw HS.o.symm) HST8.o.bel
   ·clear hHeld
    go_simp
    refine hK.out _ _ ?_ (fun hHeld=>?_)
    ·exact ⟨b0,b1,b2⟩
    clear hK K
    try simp only [Dw.lay,Act.put]
    refine Dw.rd1 7 rfl (fun K hK=>?_)
    clear hHeld
    go_simp
    refine hK.out _ _ ?_ (fun hHeld=>?_)
    ·exact ⟨b0,b1,b2⟩
    clear hK K
    try simp only [Dw.lay,Act.put]
    refine Dw.rd1 9 rfl (fun K hK=>?_)
    clear hHeld
    go_simp
    refine hK.out _ _ ?_ (fun hHeld=>?_)
    ·exact ⟨b0,b1,b2⟩
    clear hK K
    try simp only [Dw.lay,Act.put]
    refine Dw.rd1 10 rfl (fun K hK=>?_)
    clear hHeld
    go_simp
    refine hK.out _ _ ?_ (fun hHeld=>?_)
    ·exact ⟨b0,b1,b2⟩
    clear hK K
    try simp only [Dw.lay,Act.put]
    refine Dw.rd1 11 rfl (fun K hK=>?_)
    clear hHeld
    go_simp
    refine hK.out _ _ ?_ (fun hHeld=>?_)
    ·exact ⟨b0,b1,b2⟩
    clear hK K
    try simp only [Dw.lay,Act.put]
    refine wpAnyH_done zc ?_ _
    clear hHeld;go_wp2;go_ret
    exact zAe.mk (zAw HS.o.symm) HST8.o.bel
  case' neg =>
   rw [decide_eq_false hv0] at hiz;have HIZ:=zq hiz
   have HP2:Hid (parF d=if dv<nv then 1 else 0):=by
    show _=_
    rw [HP.o]
    by_cases h:dv<nv
    ·rw [if_pos (.inr h),if_pos h]
    ·rw [if_neg (fun hh=>hh.elim (fun q=>by unfold posB at q;rw [hng,HNV.o] at q;simp [hv0] at q) h),if_neg h]
   clear hiz hng hv0
   go_region_held3 (fun w'=>w'.cell? ⟨w5.heap.size,0,none⟩=some (.bool false)∧w'.cell? ⟨w5.heap.size,1,none⟩=some (.slice A5 (zAc BT nv).length c5)∧w'.cell? ⟨w5.heap.size,2,none⟩=some (.slice A6 (zAc BT dv).length c6)) ((refine ⟨?_,?_,?_⟩<;>first | with_reducible assumption | go_simp))
    (first
     | ((go_at_call 103;(with_reducible refine (HIZ.o _).mono ?_);rintro e w8 ⟨rfl,hb8⟩;have HST8:=zq (HST3.o.drew.below hb8);have HXB8:=zq (HXB.o.drew.below hb8);have H58:=zq (H5.o.drew.below hb8);have H68:=zq (H6.o.drew.below hb8);have b0:=HXB8.o.cell (i:=0) rfl;have b1:=HXB8.o.cell (i:=1) rfl;have b2:=HXB8.o.cell (i:=2) rfl;clear hb8))
     | ((go_at_call 14;(with_reducible refine (Int_1 w8).mono ?_);rintro e w9 ⟨A7,c7,A8,c8,rfl,h7,h8,hb9⟩;have HST9:=zq (HST8.o.below hb9);have HXB9:=zq (HXB8.o.below hb9);have H59:=zq (H58.o.below hb9);have H69:=zq (H68.o.below hb9);have e0:=HXB9.o.cell (i:=0) rfl;have e1:=HXB9.o.cell (i:=1) rfl;have e2:=HXB9.o.cell (i:=2) rfl;clear hb9))
     | ((go_at_call 18;(with_reducible refine (compare_cT A5 A6 A7 A8 c5 c6 c7 c8 _ _ 1 1 w9 H59.o H69.o h7 h8 (Nat.le_trans HLN.o zd) (Nat.le_trans HLD.o zd) zd zd HDP.o zd).mono ?_);rintro e w10 ⟨rfl,hb10⟩;have HST10:=zq (HST9.o.below hb10);have HXB10:=zq (HXB9.o.below hb10);have f0:=HXB10.o.cell (i:=0) rfl;have f1:=HXB10.o.cell (i:=1) rfl;have f2:=HXB10.o.cell (i:=2) rfl;clear hb10)))
   clear n0 n1 n2 b0 b1 b2 e0 e1 e2 f0 f1 f2 HST3 HST8 HST9 HXB HXB8 HXB9 HXB10 H5 H6 H58 H68 H59 H69 h7 h8 HLN HLD HDP
   try simp only [Nat.mul_one,Nat.one_mul]
   by_cases hlt:dv<nv
   ·have HS:Hid (res=1):=by
     show _=_
     have e:parF d=1:=by rw [HP2.o,if_pos hlt]
     rw [←HR2.o,e];rfl
    rw [zBB hlt];clear hlt;go_wp2;go_ret
    exact zAe.mk (zAw HS.o.symm) HST10.o.bel
   have HR3:Hid (giftP rs us d=res):=by
    show _=_
    have hh:=HR2.o
    rwa [if_neg (fun h=>h (by rw [HP2.o,if_neg hlt]))] at hh
   obtain ⟨cv,hcv,hc0⟩:∃ cv,zDq nv dv=cv∧cv≤0:=by
    rcases Nat.lt_or_ge nv dv with h | h
    ·exact ⟨-1,zBF h,zd⟩
    ·exact ⟨0,zCM za,zd⟩
   rw [hcv];clear hcv;have HSTc:=HST10;clear hlt;go_upto_region 12 with fail
 all_goals
  try clear y2 y3 y4 y5 ys q1 k2
  have y0:=HSTc.o.ti.cell (i:=0) rfl;have y1:=HSTc.o.ti.cell (i:=1) rfl;have y9:=HSTc.o.de.cell (i:=10) rfl;have y10:=HSTc.o.de.cell (i:=11) rfl;have yt:=HSTc.o.ti.lt;have ys:=HSTc.o.de.lt
  go_wp2_with fail
  with_reducible refine (checkAreaR_c RA d.arA rc d.arc rs d.ar _ g.len (HRG.o.below HSTc.o.bel) (HD.o.ars.below HSTc.o.bel)).mono ?_
  rintro e w20 ⟨rfl,nd,rfl⟩
  by_cases hch:zDr rs d.ar=0
  case' neg =>
   have HS:Hid (res=zDr rs d.ar):=by
    show _=_
    rw [←HR3.o];unfold giftP;rw [if_pos hch]
   have hrb2:(zDr rs d.ar != 0)=true:=by simpa using hch
   clear hch;go_wp2;go_ret
   exact zAe.mk (zAw HS.o.symm) (HSTc.o.drewN nd).bel
  have HAL:=zq (chkA_lenC hch)
  have HR4:Hid ((if zBy rs d.ar=[]∨d.us=[] then 9 else giftU us d)=res):=by
   show _=_
   have hh:=HR3.o;unfold giftP at hh
   rwa [if_neg (fun h=>h hch)] at hh
  have HSTd:=zq (HSTc.o.drewN nd);rw [hch];clear hch HR3
  go_wp2_with fail
  with_reducible refine (leaves_c RA d.arA rc d.arc rs d.ar _ g (HRG.o.below HSTd.o.bel) (HD.o.ars.below HSTd.o.bel) HAL.o).mono ?_
  rintro e w21 ⟨A9,c9,rfl,_,hb21⟩;have HSTe:=zq (HSTd.o.below hb21);clear y0 y1 y9 y10 yt ys hb21 HSTd HSTc;have y10:=HSTe.o.de.cell (i:=11) rfl;have ys:=HSTe.o.de.lt
  by_cases hl0:(zBy rs d.ar).length=0
  case' pos =>
   have HS:Hid (res=9):=by
    show _=_
    rw [←HR4.o,if_pos (.inl (List.length_eq_zero_iff.1 hl0))]
   go_wp2;go_ret
   exact zAe.mk (zAw HS.o.symm) HSTe.o.bel
  have hlb:(((zBy rs d.ar).length:Int) == 0)=false:=by simp;intro e;exact hl0 (by rw [e];rfl)
  by_cases hu0:d.us.length=0
  case' pos =>
   have HS:Hid (res=9):=by
    show _=_
    rw [←HR4.o,if_pos (.inr (List.length_eq_zero_iff.1 hu0))]
   clear hl0;go_wp2;go_ret
   exact zAe.mk (zAw HS.o.symm) HSTe.o.bel
  have hub:((d.us.length:Int) == 0)=false:=by simp;intro e;exact hu0 (by rw [e];rfl)
  have HR5:Hid (giftU us d=res):=by
   show _=_
   have hh:=HR4.o
   rwa [if_neg (fun h=>h.elim (fun q=>hl0 (by rw [q];rfl)) (fun q=>hu0 (by rw [q];rfl)))] at hh
  clear hl0 HR4;have hl2:=HD.o.lens.2.1;obtain ⟨b,o,hA,hb0,hc0⟩:=HD.o.uses.at_ za;have HC0:=zq hc0;clear hc0 hu0;clear y10;have y10:w21.cell? ⟨w.heap.size+1,11,none⟩=some (Value.slice (some ⟨b,o,none⟩) d.us.length d.usc):=by rw [←hA];exact HSTe.o.de.cell (i:=11) rfl
  go_wp2
  go_loopg [8] d.us.length (GURel w RA rc rs UA uc us DA dc ds d)
  case atStart=>exact ⟨HSTe.o,0,za,rfl,fun j hj=>absurd hj za⟩
  case round =>
   clear HSTe y10 ys hlb hub;obtain ⟨hst,k,hkm,rfl,hpre⟩:=hrel;have HST:=zq hst;have HKM:=zq hkm;have HP:=zq hpre;have hkl:k≤d.us.length:=za;clear hst hkm hpre;have y10:wr.cell? ⟨w.heap.size+1,11,none⟩=some (Value.slice (some ⟨b,o,none⟩) d.us.length d.usc):=by rw [←hA];exact HST.o.de.cell (i:=11) rfl
   have ys:=HST.o.de.lt
   by_cases hlt:k<d.us.length
   ·have y1:=HST.o.ti.cell (i:=1) rfl
    have yt:=HST.o.ti.lt;have c0:wr.cell? ⟨b,o+k,none⟩=some (.string d.us[k]):=(HST.o.bel.cell hb0).trans (HC0.o k hlt);have e0:usAt d.us k=d.us[k]:=zCL hlt;have HPO:=zq (fun W (x:Strs W UA us)=>positionR_c UA uc us d.us[k] W hul x)
    go_wp2_with fail
    go_region_held3 (fun w'=>w'.cell? ⟨w.heap.size,1,none⟩=some (.slice UA us.length uc)∧w'.cell? ⟨w.heap.size+1,11,none⟩=some (Value.slice (some ⟨b,o,none⟩) d.us.length d.usc)∧w'.cell? ⟨b,o+k,none⟩=some (.string d.us[k])) ((refine ⟨?_,?_,?_⟩<;>first | with_reducible assumption | go_simp))
     ((go_at_call 197;(with_reducible refine (HPO.o _ (HU.o.below (HST.o.drew).bel)).mono ?_);rintro e w30 ⟨z,rfl,hz,rfl⟩))
    have HST2:=zq HST.o.drew;clear HPO y1 yt
    cases hm:memS us d.us[k] with
    | false =>
     have HS:Hid (res=5):=by
      show _=_
      have e:useF us d.us=5:=useF_hit hlt HP.o (by unfold zBo;rw [e0,if_pos hm])
      rw [←HR5.o];unfold giftU;rw [e];rfl
     have hz1:z<0:=by rw [hm] at hz;simpa using hz
     clear hz hm e0;go_wp2;go_ret
     exact zAe.mk (zAw HS.o.symm) HST2.o.bel
    | true =>
     have HM:=zq hm;have hz1:0≤z:=by rw [hm] at hz;simpa using hz
     clear hz hm;have HE0:=zq e0;clear e0
     by_cases hk0:0<k
     ·have zp:wr.cell? ⟨b,o+(k - 1),none⟩=some (.string (d.us[k - 1]'(by omega))):=(HST.o.bel.cell hb0).trans (HC0.o (k - 1) za)
      have hd:decide ((0:Int)<(k:Int))=true:=zg;have hd0:decide ((0:Int)≤(k:Int) - 1)=true:=zg;have HE1:Hid (usAt d.us (k - 1)=d.us[k - 1]'(by omega)):=zCL za
      cases hle:sle d.us[k] (d.us[k - 1]'(by omega)) with
      | true =>
       have HS:Hid (res=8):=by
        show _=_
        have e:useF us d.us=8:=useF_hit hlt HP.o (by unfold zBo;rw [HE0.o,HE1.o,if_neg (by rw [HM.o];simp),if_pos ⟨hk0,hle⟩])
        rw [←HR5.o];unfold giftU;rw [e];rfl
       unfold sle at hle;go_wp2
       go_quiet (fail)
       go_wp2;go_ret
       exact zAe.mk (zAw HS.o.symm) (HST2.o.drewN _).bel
      | false =>
       have HF:Hid (zBo us d.us k=none):=by
        show _=_
        unfold zBo;rw [HE0.o,HE1.o,if_neg (by rw [HM.o];simp),if_neg (fun hh=>jt)]
       unfold sle at hle;go_wp2
       go_quiet (fail)
       go_wp2
       go_roundg (gk - 1)
       case measure=>have:=HKM.o;omega
       case rel =>
        refine ⟨HST.o.drewN _,k+1,jw,zi,fun j hj=>?_⟩
        rcases Nat.lt_or_ge j k with h9 | h9
        ·exact HP.o j h9
        ·obtain rfl:j=k:=by omega
         exact HF.o
     ·have hd:decide ((0:Int)<(k:Int))=false:=by simp;omega
      have HF:Hid (zBo us d.us k=none):=by
       show _=_
       unfold zBo;rw [HE0.o,if_neg (by rw [HM.o];simp),if_neg (fun hh=>hk0 hh.1)]
      go_wp2
      go_quiet (fail)
      go_wp2
      go_roundg (gk - 1)
      case measure=>have:=HKM.o;omega
      case rel =>
       refine ⟨HST.o.drewN _,k+1,jw,zi,fun j hj=>?_⟩
       rcases Nat.lt_or_ge j k with h9 | h9
       ·exact HP.o j h9
       ·obtain rfl:j=k:=by omega
        exact HF.o
   ·have y11:wr.cell? ⟨w.heap.size+1,12,none⟩=some (.int .i64 d.bg):=HST.o.de.cell (i:=12) rfl
    have y12:wr.cell? ⟨w.heap.size+1,13,none⟩=some (.int .i64 d.en):=HST.o.de.cell (i:=13) rfl
    have HR6:Hid ((if zCo d.bg=false∨zCo d.en=false then 1 else if d.en≤d.bg then 8 else 0)=res):=by
     show _=_
     have e:useF us d.us=0:=useF_none fun j hj=>HP.o j za
     rw [←HR5.o];unfold giftU;rw [if_neg (show ¬ (useF us d.us≠0) from fun h=>h e)]
    have hd1:=fun W=>zCG d.bg W
    have hd2:=fun W=>zCG d.en W
    clear HR5
    cases hb1:zCo d.bg with
    | false =>
     rw [hb1] at hd1;have HD1:=zq hd1;have HS:Hid (res=1):=by show _=_;rw [←HR6.o,if_pos (.inl hb1)]
     clear hd1 hd2 hb1
     go_wp2_with fail
     with_reducible refine (HD1.o _).mono ?_
     rintro e w40 ⟨rfl,rfl⟩;go_wp2;go_ret
     exact zAe.mk (zAw HS.o.symm) HST.o.bel
    | true =>
     rw [hb1] at hd1;have HD1:=zq hd1
     cases hb2:zCo d.en with
     | false =>
      rw [hb2] at hd2;have HD2:=zq hd2;have HS:Hid (res=1):=by show _=_;rw [←HR6.o,if_pos (.inr hb2)]
      clear hd1 hd2 hb1 hb2
      go_wp2_with fail
      with_reducible refine (HD1.o _).mono ?_
      rintro e w40 ⟨rfl,rfl⟩
      go_wp2_with fail
      with_reducible refine (HD2.o _).mono ?_
      rintro e w41 ⟨rfl,rfl⟩;go_wp2;go_ret
      exact zAe.mk (zAw HS.o.symm) HST.o.bel
     | true =>
      rw [hb2] at hd2;have HD2:=zq hd2
      have HR7:Hid ((if d.en≤d.bg then 8 else 0)=res):=by
       show _=_
       have hh:=HR6.o
       rwa [if_neg (by rw [hb1,hb2];simp)] at hh
      clear hd1 hd2 hb1 hb2 HR6
      go_wp2_with fail
      with_reducible refine (HD1.o _).mono ?_
      rintro e w40 ⟨rfl,rfl⟩
      go_wp2_with fail
      with_reducible refine (HD2.o _).mono ?_
      rintro e w41 ⟨rfl,rfl⟩
      by_cases hen:d.en≤d.bg
      ·have HS:Hid (res=8):=by show _=_;rw [←HR7.o,if_pos hen]
       go_wp2;go_ret
       exact zAe.mk (zAw HS.o.symm) HST.o.bel
      ·have HS:Hid (res=0):=by show _=_;rw [←HR7.o,if_neg hen]
       have hen2:d.bg<d.en:=za;clear hen;go_wp2;go_ret
       exact zAe.mk (zAw HS.o.symm) HST.o.bel
theorem zCq {w:World} {b:Nat} {cs:Array Value} {T:TypeId} (h:Bx w b cs T):w.rangeAt b 0 cs.toList:=fun j v hv=>by
 rw [Nat.zero_add];exact h.cell (by rw [←hv,Array.getElem?_toList])
theorem take_last {α:Type} {l:List α} {k:Nat} (h:k<l.length) (hk:0<k):(l.take k).getLast?=some (l[k - 1]'(by omega)):=by
 rw [List.getLast?_eq_getElem?,List.length_take,Nat.min_eq_left za,List.getElem?_take_of_lt za];exact List.getElem?_eq_getElem za
theorem ordB_take {ds:List De} {k:Nat} (h:k<ds.length) (hk:0<k) (d:De):zDZ (ds.take k) d=deLt (ds[k - 1]'(by omega)) d:=by
 unfold zDZ;rw [take_last h hk]
theorem sle_of_sltR {a b:ByteArray} (h:slt a b=true):sle b a=false:=by
 unfold slt at h;unfold sle;rw [zCv] at h ⊢;have h1:a.toList<b.toList:=zo;have h2:¬ b.toList<a.toList:=fun h2=>List.lt_irrefl _ (List.lt_trans h1 h2)
 have h3:b.toList≠a.toList:=fun e=>by rw [e] at h1;exact List.lt_irrefl _ h1
 simp [h2,h3]
theorem slt_sle (a b:ByteArray):slt a b = !sle b a:=by
 cases h:sle b a with
 | false=>rw [zBG h];rfl
 | true =>
  cases h2:slt a b with
  | false=>rfl
  | true=>rw [sle_of_sltR h2] at h;cases h
def chk4 (rs:List Rg) (us:List ByteArray) (pre:List De) (d:De):Int:=if zAh d.kd=true then giftF rs us d else if d.kd=4 then endF pre d else divF pre d
def chk3 (rs:List Rg) (us:List ByteArray) (pre:List De) (d:De):Int:=if d.kd<1∨5<d.kd then 4 else if zAx d=true then 3 else chk4 rs us pre d
def chk2 (rs:List Rg) (us:List ByteArray) (pre:List De) (d:De):Int:=if (pre.any fun p=>decide (p.id=d.id))=true then 7 else chk3 rs us pre d
theorem chkD_eq (rs:List Rg) (us:List ByteArray) (pre:List De) (d:De):chkD rs us pre d=if zBj d.id=false then 5 else if zCo d.day=false then 1 else if zDZ pre d=false then 8 else chk2 rs us pre d:=rfl
def PreRel (w:World) (RA:Option Addr) (rc:Nat) (rs:List Rg) (UA:Option Addr) (uc:Nat) (us:List ByteArray) (DA:Option Addr) (dc:Nat) (ds:List De) (d:De) (k:Nat) (f:De→Bool) (m:Nat) (i:Value) (wr:World):Prop :=
 GS w RA rc rs UA uc us DA dc ds d wr∧∃ j:Nat,j+m=k∧i = .int .i64 j∧∀ q (h:q<ds.length),q<j→f ds[q]=false
theorem zBC {ds:List De} {k j:Nat} {f:De→Bool} (hj:j<k) (hk:k<ds.length) (h:f (ds[j]'(by omega))=true):(ds.take k).any f=true:=by
 refine List.any_eq_true.2 ⟨ds[j]'(by omega),?_,h⟩
 rw [List.mem_take_iff_getElem];exact ⟨j,za,rfl⟩
theorem zBu {ds:List De} {k:Nat} {f:De→Bool} (h:∀ q (h:q<ds.length),q<k→f ds[q]=false):(ds.take k).any f=false:=by
 rw [List.any_eq_false];intro x hx;rw [List.mem_take_iff_getElem] at hx;obtain ⟨q,hq,rfl⟩:=hx;rw [h q za za];simp
def FndRel (w:World) (RA:Option Addr) (rc:Nat) (rs:List Rg) (UA:Option Addr) (uc:Nat) (us:List ByteArray) (DA:Option Addr) (dc:Nat) (ds:List De) (d:De) (k:Nat) (f:De→Bool) (m:Nat) (v i:Value) (wr:World):Prop :=
 GS w RA rc rs UA uc us DA dc ds d wr∧∃ j:Nat,j+m=k∧i = .int .i64 j∧v = .bool ((ds.take j).any f)
def SheRel (w:World) (RA:Option Addr) (rc:Nat) (rs:List Rg) (UA:Option Addr) (uc:Nat) (us:List ByteArray) (DA:Option Addr) (dc:Nat) (ds:List De) (d:De) (m:Nat) (i:Value) (wr:World):Prop :=
 GS w RA rc rs UA uc us DA dc ds d wr∧∃ j:Nat,j+m=d.sh.length∧i = .int .i64 j∧∀ q (h:q<d.sh.length),q<j→d.kd=5→decide (d.sh[q].pt=d.fr)=false
theorem any_take_succ {ds:List De} {j:Nat} (h:j<ds.length) (f:De→Bool):(ds.take (j+1)).any f=((ds.take j).any f || f ds[j]):=by
 rw [List.take_succ_eq_append_getElem h,List.any_append];simp
def div2 (pre:List De) (d:De):Int:=if d.kd=5∧(d.sh.any fun s=>decide (s.pt=d.fr))=true then 12 else if (pre.any fun p=>decide (p.kd=d.kd)&&decide (p.th=d.th)&&decide (p.fr=d.fr))=true then 7 else 0
theorem divF_eq (pre:List De) (d:De):divF pre d=if (d.kd=1∧zBj d.th=false)∨(d.kd=5∧zBj d.fr=false) then 5 else if zCo d.bg=false then 1 else if shF d.kd d.sh≠0 then shF d.kd d.sh else div2 pre d:=rfl
end Go.Proofs.YtieoifkdobcpiaaGreatDoor
namespace Go.Proofs.YtieoifkdobcpiaaGreatDoor
open Dw
def endsB (id:ByteArray) (x:De):Bool:=decide (x.kd=4)&&decide (x.ot=id)
def endAt (ds:List De) (id:ByteArray):Option Int:=(ds.reverse.find? (endsB id)).map De.bg
theorem endAt_snoc (l:List De) (d:De) (id:ByteArray):endAt (l++[d]) id=if endsB id d=true then some d.bg else endAt l id:=by
 unfold endAt;rw [List.reverse_append,List.reverse_singleton,List.singleton_append,List.find?_cons]
 cases endsB id d<;>simp
def toP (ds:List De) (d:De):Int:=match endAt ds d.id with
 | some t=>min d.en t
 | none=>d.en
def toR (ds:List De) (d:De):Int:=ds.foldl (fun e x=>if endsB d.id x=true then min e x.bg else e) d.en
def cutR (b e:Int):Int×Int:=if e≤b then (0,0) else (b,e)
def zCB (ds:List De) (d:De):Int×Int:=if zAh d.kd=true then cutR d.bg (toP ds d) else (0,0)
def OneEnd (ds:List De):Prop:=ds.Pairwise fun a b=>¬ (a.kd=4∧b.kd=4∧a.ot=b.ot)
theorem endAt_none {l:List De} {id:ByteArray} (h:∀ x∈l,endsB id x=false):endAt l id=none:=by
 unfold endAt;rw [List.find?_eq_none.2 (fun x hx=>by rw [h x (List.mem_reverse.1 hx)];simp)]
 rfl
theorem foldl_none {l:List De} {id:ByteArray} (h:∀ x∈l,endsB id x=false) (e:Int):l.foldl (fun e x=>if endsB id x=true then min e x.bg else e) e=e:=by
 induction l with
 | nil=>rfl
 | cons a l ih =>
  rw [List.foldl_cons,h a List.mem_cons_self];exact ih fun x hx=>h x (List.mem_cons_of_mem _ hx)
theorem zCy {id:ByteArray} {x:De}:endsB id x=true↔x.kd=4∧x.ot=id:=by unfold endsB;simp
theorem toR_eq {ds:List De} (h:OneEnd ds) (d:De):toR ds d=toP ds d:=by
 unfold toR toP
 induction ds with
 | nil=>rfl
 | cons a l ih =>
  obtain ⟨h1,h2⟩:=List.pairwise_cons.1 h;rw [List.foldl_cons]
  have e1:endAt (a::l) d.id=match endAt l d.id with
    | some t=>some t
    | none=>if endsB d.id a=true then some a.bg else none:=by
   unfold endAt;rw [List.reverse_cons,List.find?_append]
   cases hf:l.reverse.find? (endsB d.id) with
   | some q=>simp
   | none=>cases hb:endsB d.id a<;>simp [hb]
  cases hb:endsB d.id a with
  | false =>
   have:=ih h2;rw [e1,hb];simp only [Bool.false_eq_true,if_false] at this ⊢;rw [this]
   cases endAt l d.id<;>rfl
  | true =>
   have hn:∀ x∈l,endsB d.id x=false:=fun x hx=>by
    cases hh:endsB d.id x with
    | false=>rfl
    | true =>
     obtain ⟨k1,k2⟩:=zCy.1 hb;obtain ⟨k3,k4⟩:=zCy.1 hh;exact absurd ⟨k1,k3,k2.trans k4.symm⟩ (h1 x hx)
   rw [e1,endAt_none hn,hb];simp only [if_true];rw [foldl_none hn]
theorem chkD_end {rs:List Rg} {us:List ByteArray} {pre:List De} {d:De} (h:chkD rs us pre d=0) (hk:d.kd=4):∀ p∈pre,¬ (p.kd=4∧p.ot=d.ot):=by
 have hg:zAh d.kd=false:=by rw [hk];decide
 have he:endF pre d=0:=by
  unfold chkD at h;rw [hg] at h;simp only [hk] at h
  repeat' split at h
  all_goals first | exact h | (cases h;done) | (exfalso;simp_all;done) | skip
 unfold endF at he
 split at he
 ·cases he
 split at he
 ·cases he
 split at he
 ·cases he
 next h3 =>
 intro p hp ⟨k1,k2⟩;exact h3 (List.any_eq_true.2 ⟨p,hp,by simp [k1,k2]⟩)
theorem deeds_oneEnd {rs:List Rg} {us:List ByteArray} {ds:List De} (h:zCD rs us ds=0):OneEnd ds:=by
 have hc:=(zBa h).2;refine List.pairwise_iff_getElem.2 fun i j hi hj hij=>?_
 rintro ⟨k1,k2,k3⟩;refine chkD_end (hc j hj) k2 ds[i] ?_ ⟨k1,k3⟩
 rw [List.mem_take_iff_getElem];exact ⟨i,za,rfl⟩
theorem nmAt_inj {l:List Rg} (g:GoodR l) {i k:Nat} (hi:i<l.length) (hk:k<l.length) (h:nmAt l i=nmAt l k):i=k:=by
 rw [zBh hi,zBh hk] at h;have h1:=g.inc.idx hi;rw [h,g.inc.idx hk] at h1
 injection h1 with h1
 exact h1.symm
theorem lmF_some {l:List Rg} (g:GoodR l):∀ {k i:Nat},k≤l.length→i<k→zAL l i=false→lmF l k (nmAt l i)=some (.int .i64 ((zCs l i).length:Int))
 | k+1,i,hk,hi,hp=>by
  unfold lmF
  by_cases he:i=k
  ·subst he
   rw [hp];simp
  ·have hlt:i<k:=by omega
   have ih:=lmF_some g (k:=k) za hlt hp
   split
   ·exact ih
   ·rw [if_neg fun h=>he (nmAt_inj g za za h)]
    exact ih
theorem lmF_none {l:List Rg} {s:ByteArray}:∀ {k:Nat},(∀ i,i<k→zAL l i=false→s≠nmAt l i)→lmF l k s=none
 | 0,_=>rfl
 | k+1,h=>by
  unfold lmF;have ih:=lmF_none (k:=k) fun i hi=>h i za
  split
  ·exact ih
  ·next hp=>rw [if_neg (h k za (by simpa using hp))];exact ih
theorem leafTo_at {l:List Rg} {i:Nat} (hp:zAL l i=false):∀ {k:Nat},i<k→(zCs l k)[(zCs l i).length]?=some i
 | k+1,hi=>by
  have e:zCs l (k+1)=zCs l k++(if zAL l k=true then [] else [k]):=by
   unfold zCs;rw [List.range_succ,List.filter_append]
   cases hh:zAL l k<;>simp [hh]
  rw [e]
  by_cases he:i=k
  ·subst he
   rw [hp];simp
  ·have ih:=leafTo_at hp (k:=k) za
   rw [List.getElem?_append_left (List.getElem?_eq_some_iff.1 ih).1];exact ih
theorem leaf_at {l:List Rg} (g:GoodR l) {s:ByteArray} (h:leafB l s=true):∃ (i n:Nat) (hi:i<l.length),(l[i]).nm=s∧lmF l l.length s=some (.int .i64 (n:Int))∧(zAH l)[n]?=some i:=by
 unfold leafB at h;rw [Bool.and_eq_true] at h;obtain ⟨h1,h2⟩:=h
 cases hx:idx l s with
 | none=>rw [hx] at h1;cases h1
 | some i =>
  obtain ⟨hi,hs⟩:=zEm hx
  have hp:zAL l i=false:=by
   unfold zAL;rw [zBh hi,hs]
   simpa using h2
  refine ⟨i,(zCs l i).length,hi,hs,?_,leafTo_at hp hi⟩
  have:=lmF_some g (Nat.le_refl _) hi hp
  rwa [zBh hi,hs] at this
theorem leaf_no {l:List Rg} (g:GoodR l) {s:ByteArray} (h:leafB l s=false):lmF l l.length s=none:=by
 refine lmF_none fun i hi hp he=>?_
 rw [zBh hi] at he;have:=leafB_at g hi;rw [←he,h,hp] at this
 cases this
def vB (rs:List Rg) (ds:List De) (i:Nat) (use:ByteArray) (day:Int) (d:De):Bool:=decide ((zCB ds d).1≤day)&&decide (day<(zCB ds d).2)&&(lies rs d.ar i&&memS d.us use)
end Go.Proofs.YtieoifkdobcpiaaGreatDoor
