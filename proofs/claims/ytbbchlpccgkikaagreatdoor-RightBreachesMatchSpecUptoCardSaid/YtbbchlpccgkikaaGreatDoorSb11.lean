/- The reference's CheckRatio: what it answers (printed by gen_rnm.py). -/
import Derived.Test.YtbbchlpccgkikaaGreatDoorSb10
set_option maxRecDepth 100000
set_option maxHeartbeats 8000000
namespace Go.Proofs.YtbbchlpccgkikaaGreatDoor
open Go.RowKit Dw
theorem cmp1R(A Z:OA)(c c2 a:Nat)(w:World)(h:Lms w A (zAc BT a))(h2:Lms w Z (zAc BT 1))(J:(zAc BT a).length<=1000000000): Calls Tryz.prog 184 #[lmV A c a,.slice Z 1 c2] w (zBI (.int .i64 (zDj a 1)) w):=cmpL_c A Z c c2 a 1 w h h2 J
theorem numB_dg{s:BA}(h:zCG s=true):s.data.toList.all dgB=true:=by
 unfold zCG at h;simp only[eE]at h;exact h.1
def m0:BA:=⟨#[45,48]⟩
def ratR(s de:BA):Int:=
 if zCG s=false\/zCG de=false\/de=zCH then 3 else if 2000<s.size\/2000<de.size then 2 else if Nat.gcd (zAy s) (zAy de)=1 then 0 else 3
theorem eqS{a b:BA}:(a.toList == b.toList)=decide (a=b):=by
 by_cases h:a=b
 ·subst h;simp
 ·have:¬a.toList=b.toList:=fun e=>h (toList_inj e)
  simp[h,this]
theorem words_dec(s:BA)(h:s.data.toList.all dgB=true)(hs:s.size<=2000):(zAc BT (zAy s)).length<=100000000:=by
 have h1:zAy s<10^s.data.toList.length:=decV_lt fun c hc=>by
  have:=(zDJ c).1 (List.all_eq_true.1 h c hc);omega
 have h2:s.data.toList.length<=2000:=by rw[<-Lib.size_eq];exact hs
 have:=zBa zAR (aB h1 (Nat.pow_le_pow_left (show 10<=BT by decide) _));omega
theorem chkRatR_s(nu de sx:BA)(w:World)(hz:nu.size<=9223372036854775807)(hz2:de.size<=9223372036854775807)(hzs:sx.size<=9223372036854775807)(hcase:((¬1<nu.size/\sx=nu)\/(∃h0:0<nu.size,1<nu.size/\(((nu[0]'h0).toNat:Int) == 45)=false/\sx=nu)\/(∃h0:0<nu.size,1<nu.size/\(((nu[0]'h0).toNat:Int) == 45)=true/\nu=m0/\sx=nu)) \/ (∃h0:0<nu.size,1<nu.size/\(((nu[0]'h0).toNat:Int) == 45)=true/\nu≠m0/\nu.extract 1 nu.size=sx)): Calls Tryz.prog 236 #[.agg (rtC nu de)] w (zAf (.int .i64 (ratR sx de)) w):=by
 have HB0:Hid (Below w.heap.size w (w.alloc (.cells (rtC nu de) 36))):=(aR w.heap.size w).alloc (aK _) _;have G:Hid (Bx (w.alloc (.cells (rtC nu de) 36)) w.heap.size (rtC nu de) 36):=Bx.new _ _ _;have Q:=zq (fun W=>number_c sx W hzs);have HN2:=zq (fun W=>number_c de W hz2);have HR:Hid (ratR sx de=if zCG sx=false\/zCG de=false\/de=zCH then 3 else if 2000<sx.size\/2000<de.size then 2 else if Nat.gcd (zAy sx) (zAy de)=1 then 0 else 3):=rfl;obtain⟨res,C⟩:∃res,res=ratR sx de:=⟨_,rfl⟩;rw[<-C]at HR ⊢;clear C;obtain⟨w0,hw0⟩:∃w0,w0=w.alloc (.cells (rtC nu de) 36):=⟨_,rfl⟩;rw[<-hw0]at HB0 G;have a0:=G.o.c 0 rfl;have a1:=G.o.c 1 rfl;have sa9:=G.o.lt;have HCS:=zq hcase;clear hcase;have hgo:Hid (∃t:Nat,t=0):=⟨0,rfl⟩
 rcases HCS.o with hq|⟨h0,h1,I,hm,hx⟩
 ·rcases hq with ⟨h1,rfl⟩|⟨h0,h1,I,rfl⟩|⟨h0,h1,I,hm,rfl⟩
  case' inr.inr =>
   have hmb:(sx.toList == m0.toList)=true:=by rw[eqS];simpa using hm
   clear hm;rw[show m0.toList=[45,48] from by decide +kernel]at hmb
  all_goals
   clear HCS hgo
   go_enter Tryz.func236,Tryz.ntmps236;(go_upto_region 4 with fail);rw[<-hw0];clear hw0 h1
   cases hn1:zCG sx with
   |false =>
    exact tbu
   |true =>
    have m:=zq (numB_dg hn1);have HT1:=zq hn1;rw[hn1]at Q;clear hn1
    cases hn2:zCG de with
    |false =>
     exact ta6
    |true =>
     have HD2:=zq (numB_dg hn2);have HT2:=zq hn2;rw[hn2]at HN2;clear hn2
     by_cases hz0:de=zCH
     ·exact tat
     have hzb:(de.toList == zCH.toList)=false:=by rw[eqS];simpa using hz0
     rw[show zCH.toList=[48] from by decide +kernel]at hzb
     have HR2:Hid (res=if 2000<sx.size\/2000<de.size then 2 else if Nat.gcd (zAy sx) (zAy de)=1 then 0 else 3):=by
      exact tdd
     clear HR hz0 HT1 HT2
     by_cases hl1:2000<sx.size
     ·exact ta2
     by_cases hl2:2000<de.size
     ·exact tbc
     have HR3:Hid (res=if Nat.gcd (zAy sx) (zAy de)=1 then 0 else 3):=by
      show _=_
      rw[HR2.o,aO (fun h=>h.elim hl1 hl2)]
     have HL1:Hid (∀W,Calls Tryz.prog 186 #[.string sx] W (zDa (zAy sx) W)):=fun W=>zCQ sx W m.o za
     have HL2:Hid (∀W,Calls Tryz.prog 186 #[.string de] W (zDa (zAy de) W)):=fun W=>zCQ de W HD2.o za
     have hn1:=words_dec sx m.o za;have hd1:=words_dec de HD2.o za;generalize zAy sx=n at *;generalize zAy de=d at *;have hn1:(zAc BT n).length<=200000000:=za;have hd1:(zAc BT d).length<=200000000:=za
     have hg1:(zAc BT (Nat.gcd n d)).length<=1000000000:=by
      exact tby
     clear HR2
     have HCG:Hid (((zDj (Nat.gcd n d) 1 != 0)=false/\res=0)\/((zDj (Nat.gcd n d) 1 != 0)=true/\res=3)):=by
      exact tbt
     clear HR3 m HD2;(go_wp2_with fail);(with_reducible refine(Q.o _).mono ?_);rintro e w' ⟨rfl,rfl⟩;(go_wp2_with fail);(with_reducible refine(HN2.o _).mono ?_);rintro e w' ⟨rfl,rfl⟩;clear Q HN2
     rcases HCG.o with ⟨hcb,hre⟩|⟨hcb,hre⟩
     all_goals
      have HS:=zq hre;clear hre HCG;go_upto_region 8 with fail
      go_region_held3 (fun w'=>w'.cell? ⟨w.heap.size,0,none⟩=some (.string sx)/\w'.cell? ⟨w.heap.size,1,none⟩=some (.string de)) (first|(refine⟨?_,?_⟩<;>with_reducible assumption)|go_keep)
       (first
        |((go_at_call 186;(with_reducible refine(HL1.o (w0.alloc (.cells #[.int .i64 1] 3)).drew).mono ?_);rintro x w1⟨A1,c1,rfl,h1,I⟩;have X:=zq (((G.o.alloc (.cells #[.int .i64 1] 3)).drew).below I);have HB1:=zq ((zAb (HB0.o.alloc HB0.o.size (.cells #[.int .i64 1] 3)) 1).trans (I.mono (zAb (HB0.o.alloc HB0.o.size (.cells #[.int .i64 1] 3)) 1).size));have HP1:=zq h1;have HO1:=zq ((zDc w0).drew.below I);clear I h1;clear a0 a1 sa9;have a0:=X.o.c 0 rfl;have a1:=X.o.c 1 rfl;have sa9:=X.o.lt))
        |((go_at_call 186;(with_reducible refine(HL1.o w0.drew).mono ?_);rintro x w1⟨A1,c1,rfl,h1,I⟩;have X:=zq ((G.o.drew).below I);have HB1:=zq ((zAb HB0.o 1).trans (I.mono (zAb HB0.o 1).size));have HP1:=zq h1;clear I h1;clear a0 a1 sa9;have a0:=X.o.c 0 rfl;have a1:=X.o.c 1 rfl;have sa9:=X.o.lt))
        |((go_at_call 186;(with_reducible refine(HL2.o (w1.alloc (.cells #[.int .i64 1] 3))).mono ?_);rintro x w2⟨Z,c2,rfl,h2,I⟩;have HX2:=zq ((X.o.alloc (.cells #[.int .i64 1] 3)).below I);have HB2:=zq ((HB1.o.alloc HB1.o.size (.cells #[.int .i64 1] 3)).trans (I.mono (HB1.o.alloc HB1.o.size (.cells #[.int .i64 1] 3)).size));have HP2:=zq ((HP1.o.below ((aR _ _).alloc (aK _) (.cells #[.int .i64 1] 3))).below I);have HO2:=zq ((zDc w1).below I);have HQ2:=zq h2;clear I h2;clear a0 a1 sa9;have a0:=HX2.o.c 0 rfl;have a1:=HX2.o.c 1 rfl;have sa9:=HX2.o.lt))
        |((go_at_call 186;(with_reducible refine(HL2.o w1).mono ?_);rintro x w2⟨Z,c2,rfl,h2,I⟩;have HX2:=zq (X.o.below I);have HB2:=zq (HB1.o.trans (I.mono HB1.o.size));have HP2:=zq (HP1.o.below I);(first|(have HO2:=zq (HO1.o.below I))|skip);have HQ2:=zq h2;clear I h2;clear a0 a1 sa9;have a0:=HX2.o.c 0 rfl;have a1:=HX2.o.c 1 rfl;have sa9:=HX2.o.lt))
        |((go_at_call 240;(with_reducible refine(commonL_c A1 Z c1 c2 n d (w2.alloc (.cells #[.int .i64 1] 3)) (HP2.o.below ((aR _ _).alloc (aK _) (.cells #[.int .i64 1] 3))) (HQ2.o.below ((aR _ _).alloc (aK _) (.cells #[.int .i64 1] 3))) hn1 hd1).mono ?_);rintro x w3⟨A3,c3,rfl,h3,I⟩;have HX3:=zq ((HX2.o.alloc (.cells #[.int .i64 1] 3)).below I);have HB3:=zq ((HB2.o.alloc HB2.o.size (.cells #[.int .i64 1] 3)).trans (I.mono (HB2.o.alloc HB2.o.size (.cells #[.int .i64 1] 3)).size));have HO3:=zq ((zDc w2).below I);have HG3:=zq h3;clear I h3;clear a0 a1 sa9;have a0:=HX3.o.c 0 rfl;have a1:=HX3.o.c 1 rfl;have sa9:=HX3.o.lt))
        |((go_at_call 240;(with_reducible refine(commonL_c A1 Z c1 c2 n d w2 HP2.o HQ2.o hn1 hd1).mono ?_);rintro x w3⟨A3,c3,rfl,h3,I⟩;have HX3:=zq (HX2.o.below I);have HB3:=zq (HB2.o.trans (I.mono HB2.o.size));(first|(have HO3:=zq (HO2.o.below I))|skip);have HG3:=zq h3;clear I h3;clear a0 a1 sa9;have a0:=HX3.o.c 0 rfl;have a1:=HX3.o.c 1 rfl;have sa9:=HX3.o.lt))
        |((go_at_call 184;(with_reducible refine(cmp1R A3 _ c3 1 (Nat.gcd n d) (w3.alloc (.cells #[.int .i64 1] 3)) (HG3.o.below ((aR _ _).alloc (aK _) (.cells #[.int .i64 1] 3))).rd (zDc w3).rd hg1).mono ?_);rintro x w4⟨rfl,nd,rfl⟩;have HB4:=zq (zAb (HB3.o.alloc HB3.o.size (.cells #[.int .i64 1] 3)) nd);have HX4:=zq ((HX3.o.alloc (.cells #[.int .i64 1] 3)).drewN nd);clear a0 a1 sa9;have a0:=HX4.o.c 0 rfl;have a1:=HX4.o.c 1 rfl;have sa9:=HX4.o.lt))
        |((go_at_call 184;(with_reducible refine(cmp1R A3 _ c3 1 (Nat.gcd n d) w3 HG3.o.rd HO3.o.rd hg1).mono ?_);rintro x w4⟨rfl,nd,rfl⟩;have HB4:=zq (zAb HB3.o nd);have HX4:=zq (HX3.o.drewN nd);clear a0 a1 sa9;have a0:=HX4.o.c 0 rfl;have a1:=HX4.o.c 1 rfl;have sa9:=HX4.o.lt)))
      all_goals
       go_wp2;go_ret
       exact zAf.mk ((zBF HS.o.symm)) HB4.o
 ·have hmb:(nu.toList == m0.toList)=false:=by rw[eqS];simpa using hm
  clear hm;rw[show m0.toList=[45,48] from by decide +kernel]at hmb;clear HCS hgo
  go_enter Tryz.func236,Tryz.ntmps236;(go_upto_region 4 with fail);rw[<-hw0];clear hw0 h1
  cases hn1:zCG sx with
  |false =>
   exact tbu
  |true =>
   have m:=zq (numB_dg hn1);have HT1:=zq hn1;rw[hn1]at Q;clear hn1
   cases hn2:zCG de with
   |false =>
    exact ta6
   |true =>
    have HD2:=zq (numB_dg hn2);have HT2:=zq hn2;rw[hn2]at HN2;clear hn2
    by_cases hz0:de=zCH
    ·exact tat
    have hzb:(de.toList == zCH.toList)=false:=by rw[eqS];simpa using hz0
    rw[show zCH.toList=[48] from by decide +kernel]at hzb
    have HR2:Hid (res=if 2000<sx.size\/2000<de.size then 2 else if Nat.gcd (zAy sx) (zAy de)=1 then 0 else 3):=by
     exact tdd
    clear HR hz0 HT1 HT2
    by_cases hl1:2000<sx.size
    ·exact ta2
    by_cases hl2:2000<de.size
    ·exact tbc
    have HR3:Hid (res=if Nat.gcd (zAy sx) (zAy de)=1 then 0 else 3):=by
     show _=_
     rw[HR2.o,aO (fun h=>h.elim hl1 hl2)]
    have HL1:Hid (∀W,Calls Tryz.prog 186 #[.string sx] W (zDa (zAy sx) W)):=fun W=>zCQ sx W m.o za
    have HL2:Hid (∀W,Calls Tryz.prog 186 #[.string de] W (zDa (zAy de) W)):=fun W=>zCQ de W HD2.o za
    have hn1:=words_dec sx m.o za;have hd1:=words_dec de HD2.o za;generalize zAy sx=n at *;generalize zAy de=d at *;have hn1:(zAc BT n).length<=200000000:=za;have hd1:(zAc BT d).length<=200000000:=za
    have hg1:(zAc BT (Nat.gcd n d)).length<=1000000000:=by
     exact tby
    clear HR2
    have HCG:Hid (((zDj (Nat.gcd n d) 1 != 0)=false/\res=0)\/((zDj (Nat.gcd n d) 1 != 0)=true/\res=3)):=by
     exact tbt
    clear HR3 m HD2;(go_wp2_with fail);(with_reducible refine(Q.o _).mono ?_);rintro e w' ⟨rfl,rfl⟩;(go_wp2_with fail);(with_reducible refine(HN2.o _).mono ?_);rintro e w' ⟨rfl,rfl⟩;clear Q HN2
    rcases HCG.o with ⟨hcb,hre⟩|⟨hcb,hre⟩
    all_goals
     have HS:=zq hre;clear hre HCG;go_upto_region 8 with fail
     go_region_held3 (fun w'=>w'.cell? ⟨w.heap.size,0,none⟩=some (.string nu)/\w'.cell? ⟨w.heap.size,1,none⟩=some (.string de)) (first|(refine⟨?_,?_⟩<;>with_reducible assumption)|go_keep)
      (first
       |((go_at_call 186;(with_reducible refine(HL1.o (w0.alloc (.cells #[.int .i64 1] 3)).drew).mono ?_);rintro x w1⟨A1,c1,rfl,h1,I⟩;have X:=zq (((G.o.alloc (.cells #[.int .i64 1] 3)).drew).below I);have HB1:=zq ((zAb (HB0.o.alloc HB0.o.size (.cells #[.int .i64 1] 3)) 1).trans (I.mono (zAb (HB0.o.alloc HB0.o.size (.cells #[.int .i64 1] 3)) 1).size));have HP1:=zq h1;have HO1:=zq ((zDc w0).drew.below I);clear I h1;clear a0 a1 sa9;have a0:=X.o.c 0 rfl;have a1:=X.o.c 1 rfl;have sa9:=X.o.lt))
       |((go_at_call 186;(with_reducible refine(HL1.o w0.drew).mono ?_);rintro x w1⟨A1,c1,rfl,h1,I⟩;have X:=zq ((G.o.drew).below I);have HB1:=zq ((zAb HB0.o 1).trans (I.mono (zAb HB0.o 1).size));have HP1:=zq h1;clear I h1;clear a0 a1 sa9;have a0:=X.o.c 0 rfl;have a1:=X.o.c 1 rfl;have sa9:=X.o.lt))
       |((go_at_call 186;(with_reducible refine(HL2.o (w1.alloc (.cells #[.int .i64 1] 3))).mono ?_);rintro x w2⟨Z,c2,rfl,h2,I⟩;have HX2:=zq ((X.o.alloc (.cells #[.int .i64 1] 3)).below I);have HB2:=zq ((HB1.o.alloc HB1.o.size (.cells #[.int .i64 1] 3)).trans (I.mono (HB1.o.alloc HB1.o.size (.cells #[.int .i64 1] 3)).size));have HP2:=zq ((HP1.o.below ((aR _ _).alloc (aK _) (.cells #[.int .i64 1] 3))).below I);have HO2:=zq ((zDc w1).below I);have HQ2:=zq h2;clear I h2;clear a0 a1 sa9;have a0:=HX2.o.c 0 rfl;have a1:=HX2.o.c 1 rfl;have sa9:=HX2.o.lt))
       |((go_at_call 186;(with_reducible refine(HL2.o w1).mono ?_);rintro x w2⟨Z,c2,rfl,h2,I⟩;have HX2:=zq (X.o.below I);have HB2:=zq (HB1.o.trans (I.mono HB1.o.size));have HP2:=zq (HP1.o.below I);(first|(have HO2:=zq (HO1.o.below I))|skip);have HQ2:=zq h2;clear I h2;clear a0 a1 sa9;have a0:=HX2.o.c 0 rfl;have a1:=HX2.o.c 1 rfl;have sa9:=HX2.o.lt))
       |((go_at_call 240;(with_reducible refine(commonL_c A1 Z c1 c2 n d (w2.alloc (.cells #[.int .i64 1] 3)) (HP2.o.below ((aR _ _).alloc (aK _) (.cells #[.int .i64 1] 3))) (HQ2.o.below ((aR _ _).alloc (aK _) (.cells #[.int .i64 1] 3))) hn1 hd1).mono ?_);rintro x w3⟨A3,c3,rfl,h3,I⟩;have HX3:=zq ((HX2.o.alloc (.cells #[.int .i64 1] 3)).below I);have HB3:=zq ((HB2.o.alloc HB2.o.size (.cells #[.int .i64 1] 3)).trans (I.mono (HB2.o.alloc HB2.o.size (.cells #[.int .i64 1] 3)).size));have HO3:=zq ((zDc w2).below I);have HG3:=zq h3;clear I h3;clear a0 a1 sa9;have a0:=HX3.o.c 0 rfl;have a1:=HX3.o.c 1 rfl;have sa9:=HX3.o.lt))
       |((go_at_call 240;(with_reducible refine(commonL_c A1 Z c1 c2 n d w2 HP2.o HQ2.o hn1 hd1).mono ?_);rintro x w3⟨A3,c3,rfl,h3,I⟩;have HX3:=zq (HX2.o.below I);have HB3:=zq (HB2.o.trans (I.mono HB2.o.size));(first|(have HO3:=zq (HO2.o.below I))|skip);have HG3:=zq h3;clear I h3;clear a0 a1 sa9;have a0:=HX3.o.c 0 rfl;have a1:=HX3.o.c 1 rfl;have sa9:=HX3.o.lt))
       |((go_at_call 184;(with_reducible refine(cmp1R A3 _ c3 1 (Nat.gcd n d) (w3.alloc (.cells #[.int .i64 1] 3)) (HG3.o.below ((aR _ _).alloc (aK _) (.cells #[.int .i64 1] 3))).rd (zDc w3).rd hg1).mono ?_);rintro x w4⟨rfl,nd,rfl⟩;have HB4:=zq (zAb (HB3.o.alloc HB3.o.size (.cells #[.int .i64 1] 3)) nd);have HX4:=zq ((HX3.o.alloc (.cells #[.int .i64 1] 3)).drewN nd);clear a0 a1 sa9;have a0:=HX4.o.c 0 rfl;have a1:=HX4.o.c 1 rfl;have sa9:=HX4.o.lt))
       |((go_at_call 184;(with_reducible refine(cmp1R A3 _ c3 1 (Nat.gcd n d) w3 HG3.o.rd HO3.o.rd hg1).mono ?_);rintro x w4⟨rfl,nd,rfl⟩;have HB4:=zq (zAb HB3.o nd);have HX4:=zq (HX3.o.drewN nd);clear a0 a1 sa9;have a0:=HX4.o.c 0 rfl;have a1:=HX4.o.c 1 rfl;have sa9:=HX4.o.lt)))
     all_goals
      go_wp2;go_ret
      exact zAf.mk ((zBF HS.o.symm)) HB4.o
end Go.Proofs.YtbbchlpccgkikaaGreatDoor
