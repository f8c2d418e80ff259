/- The reference's CheckRatio: what it answers (printed by gen_rnm.py). -/
import Derived.Test.YtoaelidmmcbkfaaGreatDoorSr17
set_option maxRecDepth 100000
set_option maxHeartbeats 8000000
namespace Go.Proofs.YtoaelidmmcbkfaaGreatDoor
open Go.RowKit Dw
theorem cmp1R (A A2:Option Addr) (c c2 a:Nat) (w:World) (h:Lms w A (zAe BT a)) (h2:Lms w A2 (zAe BT 1)) (hn:(zAe BT a).length≤1000000000) :
  Calls Tryz.prog 157 #[lmV A c a,.slice A2 1 c2] w (zBx (.int .i64 (zDD a 1)) w):=cmpL_c A A2 c c2 a 1 w h h2 hn
theorem numB_dg {s:BA} (h:zCN s=true):s.data.toList.all dgB=true:=by
 unfold zCN at h;simp only [dA] at h;exact h.1
def m0:BA:=⟨#[45,48]⟩
def ratR (s de:BA):Int :=
 if zCN s=false∨zCN de=false∨de=zCJ then 3 else if 2000<s.size∨2000<de.size then 2 else if Nat.gcd (zAK s) (zAK de)=1 then 0 else 3
theorem eqS {a b:BA}:(a.toList == b.toList)=decide (a=b):=by
 by_cases h:a=b
 ·subst h;simp
 ·have:¬ a.toList=b.toList:=fun e=>h (toList_inj e)
  simp [h,this]
theorem words_dec (s:BA) (h:s.data.toList.all dgB=true) (hs:s.size≤2000):(zAe BT (zAK s)).length≤100000000:=by
 have h1:zAK s<10 ^ s.data.toList.length:=decV_lt fun c hc=>by
  have:=(dgB_iff c).1 (List.all_eq_true.1 h c hc);omega
 have h2:s.data.toList.length≤2000:=by rw [←Lib.size_eq];exact hs
 have:=zBn zBm (cX h1 (Nat.pow_le_pow_left (show 10≤BT by decide) _))
 omega
theorem chkRatR_s (nu de sx:BA) (w:World) (hz:nu.size≤9223372036854775807) (hz2:de.size≤9223372036854775807) (hzs:sx.size≤9223372036854775807)
  (hcase:((¬ 1<nu.size∧sx=nu)∨(∃ h0:0<nu.size,1<nu.size∧(((nu[0]'h0).toNat:Int) == 45)=false∧sx=nu)∨(∃ h0:0<nu.size,1<nu.size∧(((nu[0]'h0).toNat:Int) == 45)=true∧nu=m0∧sx=nu)) ∨
   (∃ h0:0<nu.size,1<nu.size∧(((nu[0]'h0).toNat:Int) == 45)=true∧nu≠m0∧nu.extract 1 nu.size=sx)) :
  Calls Tryz.prog 117 #[.agg (rtC nu de)] w (zAd (.int .i64 (ratR sx de)) w):=by
 have HB0:Hid (Below w.heap.size w (w.alloc (.cells (rtC nu de) 43))):=(bS w.heap.size w).alloc (aB _) _;have HX0:Hid (Bx (w.alloc (.cells (rtC nu de) 43)) w.heap.size (rtC nu de) 43):=Bx.new _ _ _;have HN1:=zq (fun W=>number_c sx W hzs)
 have HN2:=zq (fun W=>number_c de W hz2)
 have HR:Hid (ratR sx de=if zCN sx=false∨zCN de=false∨de=zCJ then 3 else if 2000<sx.size∨2000<de.size then 2 else if Nat.gcd (zAK sx) (zAK de)=1 then 0 else 3):=rfl
 obtain ⟨res,hres⟩:∃ res,res=ratR sx de:=⟨_,rfl⟩;rw [←hres] at HR ⊢;clear hres;obtain ⟨w0,hw0⟩:∃ w0,w0=w.alloc (.cells (rtC nu de) 43):=⟨_,rfl⟩;rw [←hw0] at HB0 HX0;have a0:=HX0.o.c 0 rfl;have a1:=HX0.o.c 1 rfl;have sa9:=HX0.o.lt;have HCS:=zq hcase;clear hcase;have hgo:Hid (∃ t:Nat,t=0):=⟨0,rfl⟩
 rcases HCS.o with hq | ⟨h0,h1,hb,hm,hx⟩
 ·rcases hq with ⟨h1,rfl⟩ | ⟨h0,h1,hb,rfl⟩ | ⟨h0,h1,hb,hm,rfl⟩
  case' inr.inr =>
   have hmb:(sx.toList == m0.toList)=true:=by rw [eqS];simpa using hm
   clear hm;rw [show m0.toList=[45,48] from by decide +kernel] at hmb
  all_goals
   clear HCS hgo
   go_enter Tryz.func117,Tryz.ntmps117
   go_upto_region 4 with fail
   rw [←hw0];clear hw0 h1
   cases hn1:zCN sx with
   | false =>
    have HS:Hid (res=3):=by show _=_;rw [HR.o,aE (.inl hn1)]
    rw [hn1] at HN1;clear HR hn1
    go_wp2_with fail
    with_reducible refine (HN1.o _).mono ?_
    rintro e w' ⟨rfl,rfl⟩;go_wp2;go_ret
    exact zAd.mk (zAC HS.o.symm) HB0.o
   | true =>
    have HD1:=zq (numB_dg hn1);have HT1:=zq hn1;rw [hn1] at HN1;clear hn1
    cases hn2:zCN de with
    | false =>
     have HS:Hid (res=3):=by show _=_;rw [HR.o,aE (.inr (.inl hn2))]
     rw [hn2] at HN2;clear HR hn2
     go_wp2_with fail
     with_reducible refine (HN1.o _).mono ?_
     rintro e w' ⟨rfl,rfl⟩
     go_wp2_with fail
     with_reducible refine (HN2.o _).mono ?_
     rintro e w' ⟨rfl,rfl⟩;go_wp2;go_ret
     exact zAd.mk (zAC HS.o.symm) HB0.o
    | true =>
     have HD2:=zq (numB_dg hn2);have HT2:=zq hn2;rw [hn2] at HN2;clear hn2
     by_cases hz0:de=zCJ
     ·have HS:Hid (res=3):=by show _=_;rw [HR.o,aE (.inr (.inr hz0))]
      have hzb:(de.toList == zCJ.toList)=true:=by rw [eqS];simpa using hz0
      rw [show zCJ.toList=[48] from by decide +kernel] at hzb
      clear HR hz0
      go_wp2_with fail
      with_reducible refine (HN1.o _).mono ?_
      rintro e w' ⟨rfl,rfl⟩
      go_wp2_with fail
      with_reducible refine (HN2.o _).mono ?_
      rintro e w' ⟨rfl,rfl⟩;go_wp2;go_ret
      exact zAd.mk (zAC HS.o.symm) HB0.o
     have hzb:(de.toList == zCJ.toList)=false:=by rw [eqS];simpa using hz0
     rw [show zCJ.toList=[48] from by decide +kernel] at hzb
     have HR2:Hid (res=if 2000<sx.size∨2000<de.size then 2 else if Nat.gcd (zAK sx) (zAK de)=1 then 0 else 3):=by
      show _=_
      rw [HR.o,aC];rintro (h | h | h)
      ·rw [HT1.o] at h;cases h
      ·rw [HT2.o] at h;cases h
      ·exact hz0 h
     clear HR hz0 HT1 HT2
     by_cases hl1:2000<sx.size
     ·have HS:Hid (res=2):=by show _=_;rw [HR2.o,aE (.inl hl1)]
      clear HR2
      first
       | (exfalso;omega)
       |go_wp2_with fail
        with_reducible refine (HN1.o _).mono ?_
        rintro e w' ⟨rfl,rfl⟩
        go_wp2_with fail
        with_reducible refine (HN2.o _).mono ?_
        rintro e w' ⟨rfl,rfl⟩;go_wp2;go_ret
        exact zAd.mk (zAC HS.o.symm) HB0.o
     by_cases hl2:2000<de.size
     ·have HS:Hid (res=2):=by show _=_;rw [HR2.o,aE (.inr hl2)]
      clear HR2
      go_wp2_with fail
      with_reducible refine (HN1.o _).mono ?_
      rintro e w' ⟨rfl,rfl⟩
      go_wp2_with fail
      with_reducible refine (HN2.o _).mono ?_
      rintro e w' ⟨rfl,rfl⟩;go_wp2;go_ret
      exact zAd.mk (zAC HS.o.symm) HB0.o
     have HR3:Hid (res=if Nat.gcd (zAK sx) (zAK de)=1 then 0 else 3):=by
      show _=_
      rw [HR2.o,aC (fun h=>h.elim hl1 hl2)]
     have HL1:Hid (∀ W,Calls Tryz.prog 159 #[.string sx] W (zCZ (zAK sx) W)):=fun W=>zCT sx W HD1.o za
     have HL2:Hid (∀ W,Calls Tryz.prog 159 #[.string de] W (zCZ (zAK de) W)):=fun W=>zCT de W HD2.o za
     have hn1:=words_dec sx HD1.o za;have hd1:=words_dec de HD2.o za;generalize zAK sx=n at *;generalize zAK de=d at *;have hn1:(zAe BT n).length≤200000000:=za;have hd1:(zAe BT d).length≤200000000:=za
     have hg1:(zAe BT (Nat.gcd n d)).length≤1000000000:=by
      have h1:Nat.gcd n d≤n+d:=by
       rcases bH n with h | h
       ·subst h;rw [Nat.gcd_zero_left];omega
       ·have:=Nat.gcd_le_left d h;omega
      have h2:=zAL zBm h1;have h3:=len_addT n d;omega
     clear HR2
     have HCG:Hid (((zDD (Nat.gcd n d) 1 != 0)=false∧res=0)∨((zDD (Nat.gcd n d) 1 != 0)=true∧res=3)):=by
      by_cases hG:Nat.gcd n d=1
      ·exact .inl ⟨by rw [hG];rfl,by rw [HR3.o,aE hG]⟩
      ·refine .inr ⟨?_,by rw [HR3.o,aC hG]⟩
       rcases bO (Nat.gcd n d) 1 with h | h
       ·rw [zBU h];rfl
       ·rw [zBT za];rfl
     clear HR3 HD1 HD2
     go_wp2_with fail
     with_reducible refine (HN1.o _).mono ?_
     rintro e w' ⟨rfl,rfl⟩
     go_wp2_with fail
     with_reducible refine (HN2.o _).mono ?_
     rintro e w' ⟨rfl,rfl⟩;clear HN1 HN2
     rcases HCG.o with ⟨hcb,hre⟩ | ⟨hcb,hre⟩
     all_goals
      have HS:=zq hre;clear hre HCG;go_upto_region 8 with fail
      go_region_held3 (fun w'=>w'.cell? ⟨w.heap.size,0,none⟩=some (.string sx)∧w'.cell? ⟨w.heap.size,1,none⟩=some (.string de)) (first | (refine ⟨?_,?_⟩<;>with_reducible assumption) | go_keep)
       (first
        | ((go_at_call 159;(with_reducible refine (HL1.o (w0.alloc (.cells #[.int .i64 1] 3)).drew).mono ?_);rintro x w1 ⟨A1,c1,rfl,h1,hb⟩;have HX1:=zq (((HX0.o.alloc (.cells #[.int .i64 1] 3)).drew).below hb);have HB1:=zq ((zAc (HB0.o.alloc HB0.o.size (.cells #[.int .i64 1] 3)) 1).trans (hb.mono (zAc (HB0.o.alloc HB0.o.size (.cells #[.int .i64 1] 3)) 1).size));have HP1:=zq h1;have HO1:=zq ((zDb w0).drew.below hb);clear hb h1;clear a0 a1 sa9;have a0:=HX1.o.c 0 rfl;have a1:=HX1.o.c 1 rfl;have sa9:=HX1.o.lt))
        | ((go_at_call 159;(with_reducible refine (HL1.o w0.drew).mono ?_);rintro x w1 ⟨A1,c1,rfl,h1,hb⟩;have HX1:=zq ((HX0.o.drew).below hb);have HB1:=zq ((zAc HB0.o 1).trans (hb.mono (zAc HB0.o 1).size));have HP1:=zq h1;clear hb h1;clear a0 a1 sa9;have a0:=HX1.o.c 0 rfl;have a1:=HX1.o.c 1 rfl;have sa9:=HX1.o.lt))
        | ((go_at_call 159;(with_reducible refine (HL2.o (w1.alloc (.cells #[.int .i64 1] 3))).mono ?_);rintro x w2 ⟨A2,c2,rfl,h2,hb⟩;have HX2:=zq ((HX1.o.alloc (.cells #[.int .i64 1] 3)).below hb);have HB2:=zq ((HB1.o.alloc HB1.o.size (.cells #[.int .i64 1] 3)).trans (hb.mono (HB1.o.alloc HB1.o.size (.cells #[.int .i64 1] 3)).size));have HP2:=zq ((HP1.o.below ((bS _ _).alloc (aB _) (.cells #[.int .i64 1] 3))).below hb);have HO2:=zq ((zDb w1).below hb);have HQ2:=zq h2;clear hb h2;clear a0 a1 sa9;have a0:=HX2.o.c 0 rfl;have a1:=HX2.o.c 1 rfl;have sa9:=HX2.o.lt))
        | ((go_at_call 159;(with_reducible refine (HL2.o w1).mono ?_);rintro x w2 ⟨A2,c2,rfl,h2,hb⟩;have HX2:=zq (HX1.o.below hb);have HB2:=zq (HB1.o.trans (hb.mono HB1.o.size));have HP2:=zq (HP1.o.below hb);(first | (have HO2:=zq (HO1.o.below hb)) | skip);have HQ2:=zq h2;clear hb h2;clear a0 a1 sa9;have a0:=HX2.o.c 0 rfl;have a1:=HX2.o.c 1 rfl;have sa9:=HX2.o.lt))
        | ((go_at_call 158;(with_reducible refine (commonL_c A1 A2 c1 c2 n d (w2.alloc (.cells #[.int .i64 1] 3)) (HP2.o.below ((bS _ _).alloc (aB _) (.cells #[.int .i64 1] 3))) (HQ2.o.below ((bS _ _).alloc (aB _) (.cells #[.int .i64 1] 3))) hn1 hd1).mono ?_);rintro x w3 ⟨A3,c3,rfl,h3,hb⟩;have HX3:=zq ((HX2.o.alloc (.cells #[.int .i64 1] 3)).below hb);have HB3:=zq ((HB2.o.alloc HB2.o.size (.cells #[.int .i64 1] 3)).trans (hb.mono (HB2.o.alloc HB2.o.size (.cells #[.int .i64 1] 3)).size));have HO3:=zq ((zDb w2).below hb);have HG3:=zq h3;clear hb h3;clear a0 a1 sa9;have a0:=HX3.o.c 0 rfl;have a1:=HX3.o.c 1 rfl;have sa9:=HX3.o.lt))
        | ((go_at_call 158;(with_reducible refine (commonL_c A1 A2 c1 c2 n d w2 HP2.o HQ2.o hn1 hd1).mono ?_);rintro x w3 ⟨A3,c3,rfl,h3,hb⟩;have HX3:=zq (HX2.o.below hb);have HB3:=zq (HB2.o.trans (hb.mono HB2.o.size));(first | (have HO3:=zq (HO2.o.below hb)) | skip);have HG3:=zq h3;clear hb h3;clear a0 a1 sa9;have a0:=HX3.o.c 0 rfl;have a1:=HX3.o.c 1 rfl;have sa9:=HX3.o.lt))
        | ((go_at_call 157;(with_reducible refine (cmp1R A3 _ c3 1 (Nat.gcd n d) (w3.alloc (.cells #[.int .i64 1] 3)) (HG3.o.below ((bS _ _).alloc (aB _) (.cells #[.int .i64 1] 3))).rd (zDb w3).rd hg1).mono ?_);rintro x w4 ⟨rfl,nd,rfl⟩;have HB4:=zq (zAc (HB3.o.alloc HB3.o.size (.cells #[.int .i64 1] 3)) nd);have HX4:=zq ((HX3.o.alloc (.cells #[.int .i64 1] 3)).drewN nd);clear a0 a1 sa9;have a0:=HX4.o.c 0 rfl;have a1:=HX4.o.c 1 rfl;have sa9:=HX4.o.lt))
        | ((go_at_call 157;(with_reducible refine (cmp1R A3 _ c3 1 (Nat.gcd n d) w3 HG3.o.rd HO3.o.rd hg1).mono ?_);rintro x w4 ⟨rfl,nd,rfl⟩;have HB4:=zq (zAc HB3.o nd);have HX4:=zq (HX3.o.drewN nd);clear a0 a1 sa9;have a0:=HX4.o.c 0 rfl;have a1:=HX4.o.c 1 rfl;have sa9:=HX4.o.lt)))
      all_goals
       go_wp2;go_ret
       exact zAd.mk ((zAC HS.o.symm)) HB4.o
 ·have hmb:(nu.toList == m0.toList)=false:=by rw [eqS];simpa using hm
  clear hm;rw [show m0.toList=[45,48] from by decide +kernel] at hmb
  clear HCS hgo
  go_enter Tryz.func117,Tryz.ntmps117
  go_upto_region 4 with fail
  rw [←hw0];clear hw0 h1
  cases hn1:zCN sx with
  | false =>
   have HS:Hid (res=3):=by show _=_;rw [HR.o,aE (.inl hn1)]
   rw [hn1] at HN1;clear HR hn1
   go_wp2_with fail
   with_reducible refine (HN1.o _).mono ?_
   rintro e w' ⟨rfl,rfl⟩;go_wp2;go_ret
   exact zAd.mk (zAC HS.o.symm) HB0.o
  | true =>
   have HD1:=zq (numB_dg hn1);have HT1:=zq hn1;rw [hn1] at HN1;clear hn1
   cases hn2:zCN de with
   | false =>
    have HS:Hid (res=3):=by show _=_;rw [HR.o,aE (.inr (.inl hn2))]
    rw [hn2] at HN2;clear HR hn2
    go_wp2_with fail
    with_reducible refine (HN1.o _).mono ?_
    rintro e w' ⟨rfl,rfl⟩
    go_wp2_with fail
    with_reducible refine (HN2.o _).mono ?_
    rintro e w' ⟨rfl,rfl⟩;go_wp2;go_ret
    exact zAd.mk (zAC HS.o.symm) HB0.o
   | true =>
    have HD2:=zq (numB_dg hn2);have HT2:=zq hn2;rw [hn2] at HN2;clear hn2
    by_cases hz0:de=zCJ
    ·have HS:Hid (res=3):=by show _=_;rw [HR.o,aE (.inr (.inr hz0))]
     have hzb:(de.toList == zCJ.toList)=true:=by rw [eqS];simpa using hz0
     rw [show zCJ.toList=[48] from by decide +kernel] at hzb
     clear HR hz0
     go_wp2_with fail
     with_reducible refine (HN1.o _).mono ?_
     rintro e w' ⟨rfl,rfl⟩
     go_wp2_with fail
     with_reducible refine (HN2.o _).mono ?_
     rintro e w' ⟨rfl,rfl⟩;go_wp2;go_ret
     exact zAd.mk (zAC HS.o.symm) HB0.o
    have hzb:(de.toList == zCJ.toList)=false:=by rw [eqS];simpa using hz0
    rw [show zCJ.toList=[48] from by decide +kernel] at hzb
    have HR2:Hid (res=if 2000<sx.size∨2000<de.size then 2 else if Nat.gcd (zAK sx) (zAK de)=1 then 0 else 3):=by
     show _=_
     rw [HR.o,aC];rintro (h | h | h)
     ·rw [HT1.o] at h;cases h
     ·rw [HT2.o] at h;cases h
     ·exact hz0 h
    clear HR hz0 HT1 HT2
    by_cases hl1:2000<sx.size
    ·have HS:Hid (res=2):=by show _=_;rw [HR2.o,aE (.inl hl1)]
     clear HR2
     first
      | (exfalso;omega)
      |go_wp2_with fail
       with_reducible refine (HN1.o _).mono ?_
       rintro e w' ⟨rfl,rfl⟩
       go_wp2_with fail
       with_reducible refine (HN2.o _).mono ?_
       rintro e w' ⟨rfl,rfl⟩;go_wp2;go_ret
       exact zAd.mk (zAC HS.o.symm) HB0.o
    by_cases hl2:2000<de.size
    ·have HS:Hid (res=2):=by show _=_;rw [HR2.o,aE (.inr hl2)]
     clear HR2
     go_wp2_with fail
     with_reducible refine (HN1.o _).mono ?_
     rintro e w' ⟨rfl,rfl⟩
     go_wp2_with fail
     with_reducible refine (HN2.o _).mono ?_
     rintro e w' ⟨rfl,rfl⟩;go_wp2;go_ret
     exact zAd.mk (zAC HS.o.symm) HB0.o
    have HR3:Hid (res=if Nat.gcd (zAK sx) (zAK de)=1 then 0 else 3):=by
     show _=_
     rw [HR2.o,aC (fun h=>h.elim hl1 hl2)]
    have HL1:Hid (∀ W,Calls Tryz.prog 159 #[.string sx] W (zCZ (zAK sx) W)):=fun W=>zCT sx W HD1.o za
    have HL2:Hid (∀ W,Calls Tryz.prog 159 #[.string de] W (zCZ (zAK de) W)):=fun W=>zCT de W HD2.o za
    have hn1:=words_dec sx HD1.o za;have hd1:=words_dec de HD2.o za;generalize zAK sx=n at *;generalize zAK de=d at *;have hn1:(zAe BT n).length≤200000000:=za;have hd1:(zAe BT d).length≤200000000:=za
    have hg1:(zAe BT (Nat.gcd n d)).length≤1000000000:=by
     have h1:Nat.gcd n d≤n+d:=by
      rcases bH n with h | h
      ·subst h;rw [Nat.gcd_zero_left];omega
      ·have:=Nat.gcd_le_left d h;omega
     have h2:=zAL zBm h1;have h3:=len_addT n d;omega
    clear HR2
    have HCG:Hid (((zDD (Nat.gcd n d) 1 != 0)=false∧res=0)∨((zDD (Nat.gcd n d) 1 != 0)=true∧res=3)):=by
     by_cases hG:Nat.gcd n d=1
     ·exact .inl ⟨by rw [hG];rfl,by rw [HR3.o,aE hG]⟩
     ·refine .inr ⟨?_,by rw [HR3.o,aC hG]⟩
      rcases bO (Nat.gcd n d) 1 with h | h
      ·rw [zBU h];rfl
      ·rw [zBT za];rfl
    clear HR3 HD1 HD2
    go_wp2_with fail
    with_reducible refine (HN1.o _).mono ?_
    rintro e w' ⟨rfl,rfl⟩
    go_wp2_with fail
    with_reducible refine (HN2.o _).mono ?_
    rintro e w' ⟨rfl,rfl⟩;clear HN1 HN2
    rcases HCG.o with ⟨hcb,hre⟩ | ⟨hcb,hre⟩
    all_goals
     have HS:=zq hre;clear hre HCG;go_upto_region 8 with fail
     go_region_held3 (fun w'=>w'.cell? ⟨w.heap.size,0,none⟩=some (.string nu)∧w'.cell? ⟨w.heap.size,1,none⟩=some (.string de)) (first | (refine ⟨?_,?_⟩<;>with_reducible assumption) | go_keep)
      (first
       | ((go_at_call 159;(with_reducible refine (HL1.o (w0.alloc (.cells #[.int .i64 1] 3)).drew).mono ?_);rintro x w1 ⟨A1,c1,rfl,h1,hb⟩;have HX1:=zq (((HX0.o.alloc (.cells #[.int .i64 1] 3)).drew).below hb);have HB1:=zq ((zAc (HB0.o.alloc HB0.o.size (.cells #[.int .i64 1] 3)) 1).trans (hb.mono (zAc (HB0.o.alloc HB0.o.size (.cells #[.int .i64 1] 3)) 1).size));have HP1:=zq h1;have HO1:=zq ((zDb w0).drew.below hb);clear hb h1;clear a0 a1 sa9;have a0:=HX1.o.c 0 rfl;have a1:=HX1.o.c 1 rfl;have sa9:=HX1.o.lt))
       | ((go_at_call 159;(with_reducible refine (HL1.o w0.drew).mono ?_);rintro x w1 ⟨A1,c1,rfl,h1,hb⟩;have HX1:=zq ((HX0.o.drew).below hb);have HB1:=zq ((zAc HB0.o 1).trans (hb.mono (zAc HB0.o 1).size));have HP1:=zq h1;clear hb h1;clear a0 a1 sa9;have a0:=HX1.o.c 0 rfl;have a1:=HX1.o.c 1 rfl;have sa9:=HX1.o.lt))
       | ((go_at_call 159;(with_reducible refine (HL2.o (w1.alloc (.cells #[.int .i64 1] 3))).mono ?_);rintro x w2 ⟨A2,c2,rfl,h2,hb⟩;have HX2:=zq ((HX1.o.alloc (.cells #[.int .i64 1] 3)).below hb);have HB2:=zq ((HB1.o.alloc HB1.o.size (.cells #[.int .i64 1] 3)).trans (hb.mono (HB1.o.alloc HB1.o.size (.cells #[.int .i64 1] 3)).size));have HP2:=zq ((HP1.o.below ((bS _ _).alloc (aB _) (.cells #[.int .i64 1] 3))).below hb);have HO2:=zq ((zDb w1).below hb);have HQ2:=zq h2;clear hb h2;clear a0 a1 sa9;have a0:=HX2.o.c 0 rfl;have a1:=HX2.o.c 1 rfl;have sa9:=HX2.o.lt))
       | ((go_at_call 159;(with_reducible refine (HL2.o w1).mono ?_);rintro x w2 ⟨A2,c2,rfl,h2,hb⟩;have HX2:=zq (HX1.o.below hb);have HB2:=zq (HB1.o.trans (hb.mono HB1.o.size));have HP2:=zq (HP1.o.below hb);(first | (have HO2:=zq (HO1.o.below hb)) | skip);have HQ2:=zq h2;clear hb h2;clear a0 a1 sa9;have a0:=HX2.o.c 0 rfl;have a1:=HX2.o.c 1 rfl;have sa9:=HX2.o.lt))
       | ((go_at_call 158;(with_reducible refine (commonL_c A1 A2 c1 c2 n d (w2.alloc (.cells #[.int .i64 1] 3)) (HP2.o.below ((bS _ _).alloc (aB _) (.cells #[.int .i64 1] 3))) (HQ2.o.below ((bS _ _).alloc (aB _) (.cells #[.int .i64 1] 3))) hn1 hd1).mono ?_);rintro x w3 ⟨A3,c3,rfl,h3,hb⟩;have HX3:=zq ((HX2.o.alloc (.cells #[.int .i64 1] 3)).below hb);have HB3:=zq ((HB2.o.alloc HB2.o.size (.cells #[.int .i64 1] 3)).trans (hb.mono (HB2.o.alloc HB2.o.size (.cells #[.int .i64 1] 3)).size));have HO3:=zq ((zDb w2).below hb);have HG3:=zq h3;clear hb h3;clear a0 a1 sa9;have a0:=HX3.o.c 0 rfl;have a1:=HX3.o.c 1 rfl;have sa9:=HX3.o.lt))
       | ((go_at_call 158;(with_reducible refine (commonL_c A1 A2 c1 c2 n d w2 HP2.o HQ2.o hn1 hd1).mono ?_);rintro x w3 ⟨A3,c3,rfl,h3,hb⟩;have HX3:=zq (HX2.o.below hb);have HB3:=zq (HB2.o.trans (hb.mono HB2.o.size));(first | (have HO3:=zq (HO2.o.below hb)) | skip);have HG3:=zq h3;clear hb h3;clear a0 a1 sa9;have a0:=HX3.o.c 0 rfl;have a1:=HX3.o.c 1 rfl;have sa9:=HX3.o.lt))
       | ((go_at_call 157;(with_reducible refine (cmp1R A3 _ c3 1 (Nat.gcd n d) (w3.alloc (.cells #[.int .i64 1] 3)) (HG3.o.below ((bS _ _).alloc (aB _) (.cells #[.int .i64 1] 3))).rd (zDb w3).rd hg1).mono ?_);rintro x w4 ⟨rfl,nd,rfl⟩;have HB4:=zq (zAc (HB3.o.alloc HB3.o.size (.cells #[.int .i64 1] 3)) nd);have HX4:=zq ((HX3.o.alloc (.cells #[.int .i64 1] 3)).drewN nd);clear a0 a1 sa9;have a0:=HX4.o.c 0 rfl;have a1:=HX4.o.c 1 rfl;have sa9:=HX4.o.lt))
       | ((go_at_call 157;(with_reducible refine (cmp1R A3 _ c3 1 (Nat.gcd n d) w3 HG3.o.rd HO3.o.rd hg1).mono ?_);rintro x w4 ⟨rfl,nd,rfl⟩;have HB4:=zq (zAc HB3.o nd);have HX4:=zq (HX3.o.drewN nd);clear a0 a1 sa9;have a0:=HX4.o.c 0 rfl;have a1:=HX4.o.c 1 rfl;have sa9:=HX4.o.lt)))
     all_goals
      go_wp2;go_ret
      exact zAd.mk ((zAC HS.o.symm)) HB4.o
end Go.Proofs.YtoaelidmmcbkfaaGreatDoor
