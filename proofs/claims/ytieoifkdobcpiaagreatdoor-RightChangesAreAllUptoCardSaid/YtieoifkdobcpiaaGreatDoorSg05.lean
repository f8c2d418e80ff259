/- Parts of the proof, joined: Package clock: digits and CheckRatio. slices.Index and slices.Contains. -/
import Derived.Test.YtieoifkdobcpiaaGreatDoorSg04
set_option maxRecDepth 100000
set_option maxHeartbeats 8000000
namespace Go.Proofs.YtieoifkdobcpiaaGreatDoor
open Go.RowKit Dw
theorem zCL:(⟨#[48]⟩:BA).toList=[48]:=by rw [Dw.toList_eq]
theorem zBf {s:BA} (h:numB s=true):s.data.toList.all dgB=true∧1≤s.size:=by
 unfold numB at h;simp only [dG,Bool.or_eq_true,aH] at h;refine ⟨h.1,?_⟩
 rcases h.2 with h2 | h2<;>omega
def DigRel (w:World) (s:BA) (m:Nat) (iv:Value) (wr:World):Prop :=
 wr=w∧∃ k:Nat,k+m=s.size∧iv = .int .i64 k∧(s.data.toList.take k).all dgB=true
theorem all_take_succ {s:BA} {k:Nat} (hk:k<s.size) (h:(s.data.toList.take k).all dgB=true) (h2:dgB s[k]=true):(s.data.toList.take (k+1)).all dgB=true:=by
 rw [bF (by simpa using hk),List.all_append,h,zCp s k hk]
 simp [h2]
theorem not_all {s:BA} {k:Nat} (hk:k<s.size) (h2:dgB s[k]=false):s.data.toList.all dgB=false:=by
 rw [List.all_eq_false];exact ⟨s[k],by rw [←zCp s k hk];exact aJ _,by simp [h2]⟩
theorem digits_c (s:BA) (w:World) (hs:s.size≤9223372036854775807):Calls Tryz.prog 252 #[.string s] w (zAZ (.bool (numB s)) w):=by
 go_enter Tryz.func252,Tryz.ntmps252
 go_wp2
 go_loopg [6] s.size (DigRel w s)
 case atStart=>exact ⟨rfl,0,za,rfl,rfl⟩
 case round =>
  obtain ⟨hw,k,hkm,rfl,hall⟩:=hrel;subst hw;have HM:=zq hkm;have HA:=zq hall;clear hkm hall
  by_cases hlt:k<s.size
  ·by_cases h1:s[k].toNat<48
   ·have HD:=zq (not_all hlt (show dgB s[k]=false by unfold dgB;simp;omega))
    go_wp2;go_ret
    refine zAZ.mk (zAQ ?_) rfl
    unfold numB;rw [HD.o];rfl
   ·by_cases h2:57<s[k].toNat
    ·have HD:=zq (not_all hlt (show dgB s[k]=false by unfold dgB;simp;omega))
     have h1b:(48:Int)≤(s[k].toNat:Int):=za;go_wp2;go_ret
     refine zAZ.mk (zAQ ?_) rfl
     unfold numB;rw [HD.o];rfl
    ·have HD:=zq (all_take_succ hlt HA.o (show dgB s[k]=true by unfold dgB;simp;omega))
     have h1b:(48:Int)≤(s[k].toNat:Int):=za;have h2b:(s[k].toNat:Int)≤57:=za;go_wp2
     go_roundg (gk - 1)
     case measure=>have:=HM.o;omega
     case rel=>exact ⟨rfl,k+1,by have:=HM.o;omega,zi,HD.o⟩
  ·obtain rfl:k=s.size:=by have:=HM.o;omega
   have HALL:Hid (s.data.toList.all dgB=true):=by
    show _=_
    have:=HA.o
    rwa [cP zd] at this
   have hr:numB s=(decide (s.size=1) || decide (1<s.size)&&decide ((s.data.toList.headD 0).toNat≠48)):=by
    unfold numB;rw [HALL.o];rfl
   rcases bI s.size with h0 | h0
   ·have he:s=emp:=by
     apply Dw.toList_inj
     rw [Dw.toList_eq,Dw.toList_eq,dD (l:=s.data.toList) (by simpa using h0)]
     rfl
    have hv:numB s=false:=by rw [hr,h0];rfl
    rw [hv];have q1:=zAx he;have q2:(s.toList == [48])=false:=by rw [←zCL];exact zAM (by rw [he];decide)
    have HV:=zq hv;clear hr hv he;go_wp2;go_ret
    exact zAZ.mk (zAQ HV.o.symm) rfl
   ·have hne:s≠emp:=fun e=>by rw [e] at h0;exact absurd h0 zc
    have q1:=zAy hne
    by_cases hz:s=zeroS
    ·have hv:numB s=true:=by rw [hz];decide +kernel
     rw [hv];have q2:(s.toList == [48])=true:=by rw [←zCL];exact zBb hz
     have HV:=zq hv;clear hr hv hz hne;go_wp2;go_ret
     exact zAZ.mk (zAQ HV.o.symm) rfl
    ·have q2:(s.toList == [48])=false:=by rw [←zCL];exact zAM hz
     have hd0:s.data.toList.headD 0=s[0]:=headD_get s h0
     by_cases hh:s[0].toNat=48
     ·have h1:s.size≠1:=fun e=>hz (by
       apply Dw.toList_inj
       rw [Dw.toList_eq,Dw.toList_eq]
       apply List.ext_getElem
       ·simp [zeroS,e]
       ·intro i hi1 hi2
        obtain rfl:i=0:=by simp [e] at hi1;omega
        rw [zCp s 0 h0];have:s[0]=48:=UInt8.toNat_inj.1 (by simpa using hh)
        rw [this];rfl)
      have hv:numB s=false:=by rw [hr,hd0,hh];simp [h1]
      have q3:((s[0].toNat:Int) != 48)=false:=by simp [hh]
      rw [hv];have HV:=zq hv;clear hr hv hz hne hh hd0 h1;go_wp2;go_ret
      exact zAZ.mk (zAQ HV.o.symm) rfl
     ·have hv:numB s=true:=by
       rw [hr,hd0]
       rcases bQ 1 s.size with h | h
       ·simp [h,hh]
       ·have:s.size=1:=by omega
        simp [this]
      have q3:((s[0].toNat:Int) != 48)=true:=ze;rw [hv];have HV:=zq hv;clear hr hv hz hne hh hd0;go_wp2;go_ret
      exact zAZ.mk (zAQ HV.o.symm) rfl
theorem len_val {s:BA} (h:s.data.toList.all dgB=true) (hs:s.size≤2000):(zAd B32 (zAF s)).length≤2000:=by
 have h1:=decV_dg h;have h2:10 ^ s.data.toList.length≤B32 ^ s.data.toList.length:=Nat.pow_le_pow_left zc _;have h3:=zCq zAo (cY h1 h2);have h4:s.data.toList.length=s.size:=zd;unfold zAF;omega
theorem den_pos {s:BA} (h:numB s=true) (hz:s≠zeroS):0<zAF s:=by
 obtain ⟨h1,h2⟩:=zBf h;unfold numB at h;rw [h1] at h;simp only [Bool.true_and,Bool.or_eq_true,aH,dG] at h;have hd0:s.data.toList.headD 0=s[0]:=headD_get s za
 have hne:s[0].toNat≠48:=by
  rcases h with h | ⟨_,h⟩
  ·intro e
   apply hz
   apply Dw.toList_inj
   rw [Dw.toList_eq,Dw.toList_eq]
   apply List.ext_getElem
   ·simp [zeroS,h]
   ·intro i hi1 hi2
    obtain rfl:i=0:=by simp [h] at hi1;omega
    rw [zCp s 0 za];have:s[0]=48:=UInt8.toNat_inj.1 (by simpa using e)
    rw [this];rfl
  ·rwa [hd0] at h
 have hdg:=dgB_of (List.all_eq_true.1 h1 s[0] (by rw [←zCp s 0 za];exact aJ _))
 unfold zAF;rw [decV_cut s.data.toList 1]
 have e1:s.data.toList.take 1=[s[0]]:=by
  rw [bF ze,zCp s 0 za];rfl
 have e2:zCc [s[0]]=s[0].toNat - 48:=by simp [zCc]
 rw [e1,e2];have h3:1*10 ^ (s.data.toList.length - 1)≤(s[0].toNat - 48)*10 ^ (s.data.toList.length - 1):=aX _ za;have h4:0<10 ^ (s.data.toList.length - 1):=Nat.pow_pos za;omega
theorem CheckRatio_c (nu de:BA) (w:World) (hs:(zBj nu).size≤9223372036854775807) (hs2:de.size≤9223372036854775807) :
  Calls Tryz.prog 208 #[.agg #[.string nu,.string de]] w (zAe (.int .i64 (ratF nu de)) w):=by
 generalize hres:ratF nu de=res;have HR:=zq hres;clear hres;unfold ratF at HR;have HB0:Hid (Below w.heap.size w (w.alloc (.cells #[.string nu,.string de] 40))):=(aN w.heap.size w).alloc (aC _) _;have HC:=zq (fun W=>cut_c nu W)
 have HD1:=zq (fun W=>digits_c (zBj nu) W hs)
 have HD2:=zq (fun W=>digits_c de W hs2)
 have HF:=zq (fun (h1:numB (zBj nu)=true) (h2:numB de=true) (h3:(zBj nu).size≤2000) (h4:de.size≤2000) W=>From_c nu de W (zBf h1).1 h3 (zBf h2).1 h4)
 have HL:=zq (fun (h1:numB (zBj nu)=true) (h2:numB de=true) (hz:de≠zeroS) (h3:(zBj nu).size≤2000) (h4:de.size≤2000) A c A2 c2 W (x:Nt W A c (zAF (zBj nu))) (y:Nt W A2 c2 (zAF de)) =>
  Lowest_c (sgB nu) A A2 c c2 (zAF (zBj nu)) (zAF de) W x y (den_pos h2 hz) (cU (len_val (zBf h1).1 h3) za) (cU (len_val (zBf h2).1 h4) za))
 go_enter Tryz.func208,Tryz.ntmps208
 go_wp2_with fail
 with_reducible refine (HC.o _).mono ?_
 rintro e w1 ⟨rfl,rfl⟩
 go_wp2_with fail
 with_reducible refine (HD1.o _).mono ?_
 rintro e w1 ⟨rfl,rfl⟩
 cases h1:numB (zBj nu) with
 | false =>
  have HS:Hid (res=3):=by show _=_;rw [←HR.o,aF (.inl h1)]
  clear h1;go_wp2;go_ret
  exact zAe.mk (zAX HS.o.symm) HB0.o
 | true =>
  by_cases h2:negB nu=true∧zBj nu=zeroS
  ·have HS:Hid (res=3):=by show _=_;rw [←HR.o,aF (.inr (.inl h2))]
   have q1:=h2.1;have q2:((zBj nu).toList == [48])=true:=by rw [←zCL];exact zBb h2.2
   rw [q1];clear h1 h2 q1;go_wp2;go_ret
   exact zAe.mk (zAX HS.o.symm) HB0.o
  ·have HQ:Hid (negB nu=false∨((zBj nu).toList == [48])=false):=by
    show _∨_
    by_cases h3:negB nu=true
    ·exact .inr (by rw [←zCL];exact zAM fun e=>h2 ⟨h3,e⟩)
    ·exact .inl (by simpa using h3)
   have hr1:=HR.o
   have HR1:Hid ((if numB de=false∨de=zeroS then 3 else if 2000<(zBj nu).size∨2000<de.size then 2 else if Nat.gcd (zAF (zBj nu)) (zAF de)=1 then 0 else 3)=res):=by
    show _=_
    rw [←hr1]
    by_cases h4:numB de=false∨de=zeroS
    ·rw [aF h4,aF (.inr (.inr h4))]
    ·have hno:¬(numB (zBj nu)=false∨(negB nu=true∧zBj nu=zeroS)∨numB de=false∨de=zeroS):=by
      rintro (h | h | h)
      ·rw [h1] at h;cases h
      ·exact h2 h
      ·exact h4 h
     rw [aD h4,aD hno]
   have H1:=zq h1;clear hr1 HR h2 h1 HD1 HC
   rcases HQ.o with q | q
   case' inr=>cases hng:negB nu
   case' inl=>rw [q]
   all_goals
    clear HQ
    go_wp2_with fail
    with_reducible refine (HD2.o _).mono ?_
    rintro e w1 ⟨rfl,rfl⟩
    cases h3:numB de with
    | false =>
     have HS:Hid (res=3):=by show _=_;rw [←HR1.o,aF (.inl h3)]
     clear h3;go_wp2;go_ret
     exact zAe.mk (zAX HS.o.symm) HB0.o
    | true =>
     by_cases h4:de=zeroS
     ·have HS:Hid (res=3):=by show _=_;rw [←HR1.o,aF (.inr h4)]
      have q2:(de.toList == [48])=true:=by rw [←zCL];exact zBb h4
      clear h3 h4;go_wp2;go_ret
      exact zAe.mk (zAX HS.o.symm) HB0.o
     ·have q2:(de.toList == [48])=false:=by rw [←zCL];exact zAM h4
      have HR2:Hid ((if 2000<(zBj nu).size∨2000<de.size then 2 else if Nat.gcd (zAF (zBj nu)) (zAF de)=1 then 0 else 3)=res):=by
       show _=_
       have hno:¬(numB de=false∨de=zeroS):=by
        rintro (h | h)
        ·rw [h3] at h;cases h
        ·exact h4 h
       rw [←HR1.o,aD hno]
      by_cases h5:2000<(zBj nu).size
      ·have HS:Hid (res=2):=by show _=_;rw [←HR2.o,aF (.inl h5)]
       clear h3 h4;go_wp2;go_ret
       exact zAe.mk (zAX HS.o.symm) HB0.o
      ·by_cases h6:2000<de.size
       ·have HS:Hid (res=2):=by show _=_;rw [←HR2.o,aF (.inr h6)]
        clear h3 h4;go_wp2;go_ret
        exact zAe.mk (zAX HS.o.symm) HB0.o
       ·have HR3:Hid ((if Nat.gcd (zAF (zBj nu)) (zAF de)=1 then (0:Int) else 3)=res):=by
         show _=_
         rw [←HR2.o,aD (show ¬(2000<(zBj nu).size∨2000<de.size) by omega)]
        have HF2:=zq (HF.o H1.o h3 za za);have HL2:=zq (HL.o H1.o h3 h4 za za);clear h3 h4
        go_wp2_with fail
        with_reducible refine (HF2.o _).mono ?_
        rintro e w2 ⟨A5,c5,A6,c6,rfl,h7,h8,hb2⟩;have HB2:=zq (HB0.o.trans (hb2.mono HB0.o.size));clear hb2
        go_wp2_with fail
        with_reducible refine (HL2.o A5 c5 A6 c6 _ h7 h8).mono ?_
        rintro e w3 ⟨rfl,hb3⟩;have HB3:=zq (zAa HB2.o hb3);clear hb3 HF HL HF2 HL2 HB2
        by_cases h9:Nat.gcd (zAF (zBj nu)) (zAF de)=1
        ·have HS:Hid (res=0):=by show _=_;rw [←HR3.o,aF h9]
         have hlb:lowB (zAF (zBj nu)) (zAF de)=true:=by unfold lowB;exact cM h9
         rw [hlb];clear h9 hlb;go_wp2;go_ret
         exact zAe.mk (zAX HS.o.symm) HB3.o
        ·have HS:Hid (res=3):=by show _=_;rw [←HR3.o,aD h9]
         have hlb:lowB (zAF (zBj nu)) (zAF de)=false:=by unfold lowB;exact cN h9
         rw [hlb];clear h9 hlb;go_wp2;go_ret
         exact zAe.mk (zAX HS.o.symm) HB3.o
def posS (l:List BA) (s:BA):Int:=match l.findIdx? fun x=>decide (x=s) with
 | some i=>i
 | none=>-1
theorem posS_mem (l:List BA) (s:BA):decide ((0:Int)≤posS l s)=memS l s:=by
 unfold posS memS
 cases h:l.findIdx? fun x=>decide (x=s) with
 | none =>
  have:(l.any fun x=>decide (x=s))=false:=by
   rw [List.any_eq_false];intro x hx;have:=List.findIdx?_eq_none_iff.1 h x hx
   simpa using this
  rw [this];rfl
 | some i =>
  obtain ⟨hi,hp,_⟩:=List.findIdx?_eq_some_iff_getElem.1 h;have:(l.any fun x=>decide (x=s))=true:=List.any_eq_true.2 ⟨l[i],aJ hi,hp⟩
  rw [this];simp
def PosIRel (w:World) (l:List BA) (s:BA) (m:Nat) (i:Value) (wr:World):Prop :=
 w=wr∧∃ k:Nat,k+m=l.length∧i = .int .i64 k∧∀ j (h:j<l.length),j<k→l[j]≠s
theorem indexS_c (A:Option Addr) (c:Nat) (l:List BA) (s:BA) (w:World) (hn:l.length≤1000000) (h:Strs w A l) :
  Calls Tryz.prog 51 #[.slice A l.length c,.string s] w (zAZ (.int .i64 (posS l s)) w):=by
 generalize hres:posS l s=res;have HR:=zq hres;clear hres
 go_enter Tryz.func51,Tryz.ntmps51
 go_wp2
 go_loopg [8] l.length (PosIRel w l s)
 case atStart=>exact ⟨rfl,0,za,rfl,fun j _ hj=>absurd hj za⟩
 case round =>
  obtain ⟨hw,k,hk,rfl,hpre⟩:=hrel;subst hw;have HK:=zq hk;have HP:=zq hpre;have hk1:k≤l.length:=za;clear hk hpre
  by_cases hlt:k<l.length
  ·obtain ⟨b,o,rfl,hb,hc⟩:=h.at_ za
   have hc0:=hc k hlt;clear hc
   by_cases hq:s=l[k]
   ·have hqb:=zBb hq
    have HQ:=zq hq;clear hq;go_wp2;go_ret
    refine zAZ.mk (zAX ?_) rfl
    rw [←HR.o];unfold posS;rw [List.findIdx?_eq_some_iff_getElem.2 ⟨hlt,by simp [HQ.o],fun j hj=>by simpa using HP.o j za hj⟩]
   ·have hqb:=zAM hq
    have HQ:=zq hq;clear hq;go_wp2
    go_roundg (gk - 1)
    case measure=>have:=HK.o;omega
    case rel =>
     refine ⟨rfl,k+1,zh,zi,fun j hj hjk=>?_⟩
     rcases bQ j k with h1 | h1
     ·exact HP.o j hj h1
     ·obtain rfl:j=k:=by omega
      exact fun e=>HQ.o e.symm
  ·go_wp2
   go_ret
   refine zAZ.mk (zAX ?_) rfl
   rw [←HR.o];unfold posS
   rw [List.findIdx?_eq_none_iff.2 fun x hx=>by
    obtain ⟨j,hj,rfl⟩:=dH hx
    simpa using HP.o j hj za]
theorem containsS_c (A:Option Addr) (c:Nat) (l:List BA) (s:BA) (w:World) (hn:l.length≤1000000) (h:Strs w A l) :
  Calls Tryz.prog 21 #[.slice A l.length c,.string s] w (zAZ (.bool (memS l s)) w):=by
 have hm:=posS_mem l s;generalize memS l s=res at *;have HM:=zq hm;clear hm
 go_enter Tryz.func21,Tryz.ntmps21
 go_wp2_with (go_at_call 51;refine (indexS_c _ _ _ _ _ hn h).mono ?_;rintro e w' ⟨rfl,rfl⟩)
 go_ret
 exact zAZ.mk (zAQ HM.o) rfl
abbrev Ints:=Rd1 (fun n:Int=>Value.int .i64 n)
def cmpI (a b:Int):Int:=if a<b then -1 else if b<a then 1 else 0
theorem isNaN_c (a:Int) (w:World):Calls Tryz.prog 223 #[.int .i64 a] w (zAZ (.bool false) w):=by
 have hb:(a != a)=false:=zd
 go_enter Tryz.func223,Tryz.ntmps223
 go_wp2;go_ret
 exact zAZ.mk rfl rfl
theorem cmpI_c (a b:Int) (w:World):Calls Tryz.prog 206 #[.int .i64 a,.int .i64 b] w (zAZ (.int .i64 (cmpI a b)) w):=by
 generalize hres:cmpI a b=res;have HR:=zq hres;clear hres
 by_cases h1:a<b
 ·have HS:Hid (res = -1):=by
   show res = -1
   rw [←HR.o];unfold cmpI;rw [aF h1]
  go_enter Tryz.func206,Tryz.ntmps206
  go_wp2_with (go_at_call 223;refine (isNaN_c _ _).mono ?_;rintro e w' ⟨rfl,rfl⟩)
  go_ret
  exact zAZ.mk (zAX HS.o.symm) rfl
 ·by_cases h2:b<a
  ·have HS:Hid (res=1):=by
    show res=1
    rw [←HR.o];unfold cmpI;rw [aD h1,aF h2]
   go_enter Tryz.func206,Tryz.ntmps206
   go_wp2_with (go_at_call 223;refine (isNaN_c _ _).mono ?_;rintro e w' ⟨rfl,rfl⟩)
   go_ret
   exact zAZ.mk (zAX HS.o.symm) rfl
  ·have HS:Hid (res=0):=by
    show res=0
    rw [←HR.o];unfold cmpI;rw [aD h1,aD h2]
   go_enter Tryz.func206,Tryz.ntmps206
   go_wp2_with (go_at_call 223;refine (isNaN_c _ _).mono ?_;rintro e w' ⟨rfl,rfl⟩)
   go_ret
   exact zAZ.mk (zAX HS.o.symm) rfl
def orI:List Int→Int
 | []=>0
 | a::l=>if a=0 then orI l else a
theorem orI_at {l:List Int} {k:Nat} (hk:k<l.length) (hp:∀ j (h:j<l.length),j<k→l[j]=0) (h:l[k]≠0):orI l=l[k]:=by
 induction l generalizing k with
 | nil=>simp at hk
 | cons a t ih =>
  cases k with
  | zero=>simp at h;simp [orI,h]
  | succ k =>
   have h0:a=0:=hp 0 zd za;rw [orI,aF h0];exact ih (by simpa using hk) (fun j hj hjk=>hp (j+1) yf za) zv
theorem orI_none {l:List Int} (hp:∀ j (h:j<l.length),l[j]=0):orI l=0:=by
 induction l with
 | nil=>rfl
 | cons a t ih =>
  have h0:a=0:=hp 0 zd;rw [orI,aF h0];exact ih fun j hj=>hp (j+1) yf
def OrRel (w:World) (l:List Int) (m:Nat) (i:Value) (wr:World):Prop :=
 w=wr∧∃ k:Nat,k+m=l.length∧i = .int .i64 k∧∀ j (h:j<l.length),j<k→l[j]=0
theorem cmpOr_c (A:Option Addr) (c:Nat) (l:List Int) (w:World) (hn:l.length≤1000000) (h:Ints w A l) :
  Calls Tryz.prog 205 #[.slice A l.length c] w (zAZ (.int .i64 (orI l)) w):=by
 generalize hres:orI l=res;have HR:=zq hres;clear hres
 go_enter Tryz.func205,Tryz.ntmps205
 go_wp2
 go_loopg [8] l.length (OrRel w l)
 case atStart=>exact ⟨rfl,0,za,rfl,fun j _ hj=>absurd hj za⟩
 case round =>
  obtain ⟨hw,k,hk,rfl,hpre⟩:=hrel;subst hw;have HK:=zq hk;have HP:=zq hpre;have hk1:k≤l.length:=za;clear hk hpre
  by_cases hlt:k<l.length
  ·obtain ⟨b,o,rfl,hb,hc⟩:=h.at_ za
   have hc0:=hc k hlt;clear hc
   by_cases hq:l[k]=0
   ·have hqb:(l[k] != 0)=false:=by simpa using hq
    have HQ:=zq hq;clear hq;go_wp2
    go_roundg (gk - 1)
    case measure=>have:=HK.o;omega
    case rel =>
     refine ⟨rfl,k+1,zh,zi,fun j hj hjk=>?_⟩
     rcases bQ j k with h1 | h1
     ·exact HP.o j hj h1
     ·obtain rfl:j=k:=by omega
      exact HQ.o
   ·have hqb:(l[k] != 0)=true:=by simpa using hq
    have HQ:=zq hq;clear hq;go_wp2;go_ret
    exact zAZ.mk (zAX (by rw [←HR.o,orI_at hlt HP.o HQ.o])) rfl
  ·go_wp2
   go_ret
   exact zAZ.mk (zAX (by rw [←HR.o,orI_none fun j hj=>HP.o j hj za])) rfl
def cfS (x y:BA):Int:=Lib.compareBytes x.data.toList y.data.toList
theorem compare_less:∀ (a b:List UInt8),decide (Lib.compareBytes a b<0)=Op.bytesLess a b
 | [],[]=>by simp [Lib.compareBytes,Op.bytesLess]
 | [],_::_=>by simp [Lib.compareBytes,Op.bytesLess]
 | _::_,[]=>by simp [Lib.compareBytes,Op.bytesLess]
 | a::x,b::y=>by
  have ih:=compare_less x y;rw [Lib.compareBytes,Op.bytesLess]
  by_cases h1:a<b
  ·simp [h1]
  ·by_cases h2:b<a
   ·have h3:¬ a=b:=fun e=>by subst e;exact h1 h2
    simp [h1,h2,h3]
   ·have h3:a=b:=UInt8.le_antisymm (UInt8.not_lt.1 h2) (UInt8.not_lt.1 h1)
    subst h3;simp only [h1,dO];rw [ih];simp
theorem cfS_lt (x y:BA):decide (cfS x y<0)=slt x y:=by
 unfold cfS slt;rw [compare_less,Dw.toList_eq,Dw.toList_eq]
theorem compareS_c (x y:BA) (w:World):Calls Tryz.prog 207 #[.string x,.string y] w (zAZ (.int .i64 (cfS x y)) w):=by
 have h:=Any.strings_Compare Tryz.lays106 x y w
 change Calls Tryz.prog 207 _ _ _ at h
 exact h.mono fun _ _ ⟨he,hw⟩=>⟨he,hw.symm⟩
def Shs (w:World) (A:Option Addr) (l:List Sh):Prop :=
 0<l.length→∃ b o:Nat,A=some ⟨b,o,none⟩∧∀ i (h:i<l.length),w.cell? ⟨b,o+i*3,none⟩=some (.string (l[i]).pt)∧w.cell? ⟨b,o+i*3+1,none⟩=some (.string (l[i]).nu)∧w.cell? ⟨b,o+i*3+2,none⟩=some (.string (l[i]).de)
theorem Shs.at_ {w:World} {A:Option Addr} {l:List Sh} (h:Shs w A l) (hl:0<l.length):∃ b o:Nat,A=some ⟨b,o,none⟩∧b<w.heap.size∧∀ i (h:i<l.length),w.cell? ⟨b,o+i*3,none⟩=some (.string (l[i]).pt)∧w.cell? ⟨b,o+i*3+1,none⟩=some (.string (l[i]).nu)∧w.cell? ⟨b,o+i*3+2,none⟩=some (.string (l[i]).de):=by
 obtain ⟨b,o,rfl,hc⟩:=h hl;exact ⟨b,o,rfl,World.block_lt_of_cell? w _ (hc 0 hl).1,hc⟩
theorem Shs.below {w w':World} {A:Option Addr} {l:List Sh} (h:Shs w A l) (hb:Below w.heap.size w w'):Shs w' A l:=fun hl=>by
 obtain ⟨b,o,rfl,hlt,hc⟩:=h.at_ hl;refine ⟨b,o,rfl,fun i hi=>?_⟩
 rw [hb.cell hlt,hb.cell hlt,hb.cell hlt];exact hc i hi
abbrev deC (d:De):Array Value:=#[.string d.id,.int .i64 d.day,.int .i64 d.kd,.string d.th,.string d.fr,.string d.to_,.string d.nu,.string d.de,.bool d.ex,.bool d.sb,.slice d.arA d.ar.length d.arc,.slice d.usA d.us.length d.usc,.int .i64 d.bg,.int .i64 d.en,.slice d.shA d.sh.length d.shc,.string d.ot]
abbrev deV (d:De):Value:=.agg (deC d)
structure DeOk (w:World) (d:De):Prop where
 ars:Ars w d.arA d.ar
 uses:Strs w d.usA d.us
 shs:Shs w d.shA d.sh
 lens:d.ar.length≤140737488355328∧d.us.length≤140737488355328∧d.sh.length≤140737488355328
 strs:d.id.size≤9223372036854775807∧d.th.size≤9223372036854775807∧d.fr.size≤9223372036854775807∧d.to_.size≤9223372036854775807∧d.nu.size≤9223372036854775807∧d.de.size≤9223372036854775807
 shz:∀ s∈d.sh,s.pt.size≤9223372036854775807∧s.nu.size≤9223372036854775807∧s.de.size≤9223372036854775807
theorem DeOk.below {w w':World} {d:De} (h:DeOk w d) (hb:Below w.heap.size w w'):DeOk w' d:=⟨h.ars.below hb,h.uses.below hb,h.shs.below hb,h.lens,h.strs,h.shz⟩
theorem isDay_c (n:Int) (w:World):Calls Tryz.prog 68 #[.int .i64 n] w (zAZ (.bool (zCM n)) w):=by
 by_cases h1:0≤n
 ·by_cases h2:n≤200000
  ·have hv:zCM n=true:=by simp [zCM,h1,h2]
   rw [hv];have HV:=zq hv;clear hv
   go_enter Tryz.func68,Tryz.ntmps68
   go_wp2;go_ret
   exact zAZ.mk rfl rfl
  ·have hv:zCM n=false:=by simp [zCM,h2]
   rw [hv];have HV:=zq hv;have h2':200000<n:=za;clear hv h2
   go_enter Tryz.func68,Tryz.ntmps68
   go_wp2;go_ret
   exact zAZ.mk (zAQ (cN za)) rfl
 ·have hv:zCM n=false:=by simp [zCM,h1]
  rw [hv];have HV:=zq hv;have h1':n<0:=za;clear hv h1
  go_enter Tryz.func68,Tryz.ntmps68
  go_wp2;go_ret
  exact zAZ.mk rfl rfl
def kindB (n:Int):Bool:=decide (1≤n)&&decide (n≤5)
theorem isKindD_c (n:Int) (w:World):Calls Tryz.prog 147 #[.int .i64 n] w (zAZ (.bool (kindB n)) w):=by
 by_cases h1:1≤n
 ·by_cases h2:n≤5
  ·have hv:kindB n=true:=by simp [kindB,h1,h2]
   rw [hv];have HV:=zq hv;clear hv
   go_enter Tryz.func147,Tryz.ntmps147
   go_wp2;go_ret
   exact zAZ.mk rfl rfl
  ·have hv:kindB n=false:=by simp [kindB,h2]
   rw [hv];have HV:=zq hv;have h2':5<n:=za;clear hv h2
   go_enter Tryz.func147,Tryz.ntmps147
   go_wp2;go_ret
   exact zAZ.mk (zAQ (cN za)) rfl
 ·have hv:kindB n=false:=by simp [kindB,h1]
  rw [hv];have HV:=zq hv;have h1':n<1:=za;clear hv h1
  go_enter Tryz.func147,Tryz.ntmps147
  go_wp2;go_ret
  exact zAZ.mk rfl rfl
def deCmp (a b:De):Int:=orI [cmpI a.day b.day,cfS a.id b.id]
theorem deCmp_lt (a b:De):decide (deCmp a b<0)=deLt a b:=by
 unfold deCmp deLt cmpI
 rcases Int.lt_trichotomy a.day b.day with h | h | h
 ·simp [h,orI]
 ·rw [h]
  have e1:=cfS_lt a.id b.id;rw [←e1]
  by_cases hz:cfS a.id b.id=0
  ·simp [orI,hz]
  ·simp [orI,hz]
 ·have h1:¬ a.day<b.day:=by omega
  have h2:¬ a.day=b.day:=za;simp [orI,h,h1,h2]
theorem ints_twoR (w:World) (a b:Int) (t:TypeId):Ints (w.alloc (.cells #[.int .i64 a,.int .i64 b] t)) (some ⟨w.heap.size,0,none⟩) [a,b]:=fun _=>by
 refine ⟨w.heap.size,0,rfl,fun i hi=>?_⟩
 have h2:i=0∨i=1:=by simp at hi;omega
 rcases h2 with rfl | rfl
 ·exact (Bx.new w _ t).cell rfl
 ·exact (Bx.new w _ t).cell rfl
theorem compareDeeds_c (a b:De) (w:World):Calls Tryz.prog 146 #[deV a,deV b] w (zAe (.int .i64 (deCmp a b)) w):=by
 have HX:Hid (Bx ((w.alloc (.cells (deC a) 52)).alloc (.cells (deC b) 52)) w.heap.size (deC a) 52):=(Bx.new _ _ _).alloc _;have HY:Hid (Bx ((w.alloc (.cells (deC a) 52)).alloc (.cells (deC b) 52)) (w.heap.size+1) (deC b) 52):=Bx.new1 _ _ _ _;have HB:Hid (Below w.heap.size w ((w.alloc (.cells (deC a) 52)).alloc (.cells (deC b) 52))):=((aN w.heap.size w).alloc (aC _) _).alloc zd _;obtain ⟨W,hW⟩:∃ W,W=(w.alloc (.cells (deC a) 52)).alloc (.cells (deC b) 52):=⟨_,rfl⟩;rw [←hW] at HX HY HB;unfold deCmp;have HC:=zq (fun W'=>cmpI_c a.day b.day W')
 have HS:=zq (fun W'=>compareS_c a.id b.id W')
 go_enter Tryz.func146,Tryz.ntmps146
 go_wp2_with fail
 rw [←hW];clear hW;have x0:=HX.o.c 0 rfl;have x1:=HX.o.c 1 rfl;have y0:=HY.o.c 0 rfl;have y1:=HY.o.c 1 rfl;generalize cmpI a.day b.day=z1 at *;generalize cfS a.id b.id=z2 at *
 have ho:∀ W':World,Calls Tryz.prog 205 #[.slice (some ⟨W'.heap.size,0,none⟩) 2 2] (W'.alloc (.cells #[.int .i64 z1,.int .i64 z2] 3)).drew (zAZ (.int .i64 (orI [z1,z2])) (W'.alloc (.cells #[.int .i64 z1,.int .i64 z2] 3)).drew) :=
  fun W'=>cmpOr_c (some ⟨W'.heap.size,0,none⟩) 2 [z1,z2] _ zd (Rd1.drew (ints_twoR W' z1 z2 _))
 have HO:=zq ho;clear ho;refine wp_region_still_tail 10 zb zb ?_
 simp only [bN,dA,dB,cR]
 iterate 4 still_step
 still_call ((HC.o _).mono (fun _ _ h=>⟨h.1,h.2.symm⟩))
 iterate 4 still_step
 still_call ((HS.o _).mono (fun _ _ h=>⟨h.1,h.2.symm⟩))
 refine wpStill_nil ?_
 change wpList _ _ _ _ _ W.drew
 clear x0 x1 y0 y1 HC HS
 go_wp2_with fail
 with_reducible refine (HO.o W).mono ?_
 rintro e w3 ⟨rfl,rfl⟩;have HB3:Hid (Below w.heap.size w (W.alloc (.cells #[.int .i64 z1,.int .i64 z2] 3)).drew):=zAc (HB.o.alloc HB.o.size _) 1;go_wp2;go_ret
 exact zAe.mk rfl HB3.o
def fldC (k:Int):Array Value :=
 if k=1 then #[.bool true,.bool false,.bool false,.bool false,.bool false,.bool false,.bool false,.bool true,.bool false]
 else if k=2 then #[.bool true,.bool true,.bool true,.bool true,.bool false,.bool true,.bool true,.bool false,.bool false]
 else if k=3 then #[.bool true,.bool true,.bool true,.bool false,.bool true,.bool true,.bool true,.bool false,.bool false]
 else if k=4 then #[.bool false,.bool false,.bool false,.bool false,.bool false,.bool false,.bool false,.bool false,.bool true]
 else #[.bool false,.bool true,.bool false,.bool false,.bool false,.bool false,.bool false,.bool true,.bool false]
theorem zCd (k:Int) (w:World) (hk:1≤k∧k≤5):Calls Tryz.prog 63 #[.int .i64 k] w (zAe (.agg (fldC k)) w):=by
 have h5:k=1∨k=2∨k=3∨k=4∨k=5:=za
 rcases h5 with rfl | rfl | rfl | rfl | rfl
 all_goals
  clear hk
  go_enter Tryz.func63,Tryz.ntmps63
  go_wp2;refine dL (v:=.agg (fldC _)) (by simp [results,Tryz.results63,go_sem];rfl) rfl ⟨rfl,?_⟩
  exact (aN w.heap.size w).alloc (aC _) _
def zCT (same:Prop) (w:World) (e:Ending) (w':World):Prop:=∃ r:Bool,e = .returned (.bool r)∧(r=true↔same)∧∃ n,w'=w.drewN n
theorem zCT.no {same:Prop} {w w':World} (h:¬ same) (hw:∃ n,w'=w.drewN n):zCT same w (.returned (.bool false)) w':=⟨false,rfl,⟨(fun e=>by cases e),fun e=>absurd e h⟩,hw⟩
theorem zCT.yes {same:Prop} {w w':World} (h:same) (hw:∃ n,w'=w.drewN n):zCT same w (.returned (.bool true)) w':=⟨true,rfl,⟨fun _=>h,fun _=>rfl⟩,hw⟩
def EqRel2 {α:Type} (w:World) (L M:List α) (m:Nat) (i:Value) (wr:World):Prop :=
 ∃ q,wr=w.drewN q∧∃ k:Nat,k+m=L.length∧i = .int .i64 k∧∀ j,j<k→L[j]?=M[j]?
theorem same_of {α:Type} {L M:List α} (hl:L.length=M.length) {k:Nat} (hk:L.length≤k) (h:∀ j,j<k→L[j]?=M[j]?):L=M:=by
 apply List.ext_getElem?
 intro i
 by_cases hi:i<k
 ·exact h i hi
 ·rw [List.getElem?_eq_none za,List.getElem?_eq_none za]
theorem equalH_c (A A2:Option Addr) (c c2:Nat) (L M:List Sh) (w:World) (hn:L.length≤140737488355328) (hn2:M.length≤140737488355328) (h:Shs w A L) (h2:Shs w A2 M) :
  Calls Tryz.prog 13 #[.slice A L.length c,.slice A2 M.length c2] w (zCT (L=M) w):=by
 by_cases hl:L.length=M.length
 ·rw [←hl]
  have HL:=zq hl;clear hl
  go_enter Tryz.func13,Tryz.ntmps13
  go_wp2
  go_loopg [13] L.length (EqRel2 w L M)
  case atStart=>exact ⟨0,rfl,0,za,rfl,fun j hj=>absurd hj za⟩
  case round =>
   obtain ⟨q,hw,k,hk,rfl,hpre⟩:=hrel;subst hw;have HK:=zq hk;have HP:=zq hpre;have hk1:k≤L.length:=za;clear hk hpre
   by_cases hlt:k<L.length
   ·have hlt2:k<M.length:=by have:=HL.o;omega
    obtain ⟨b,o,rfl,hb,hc⟩:=h.at_ za;obtain ⟨b2,o2,rfl,hb2,hcm⟩:=h2.at_ za;have hc0:=(hc k hlt).1;have hd0:=(hcm k hlt2).1;have hc1:=(hc k hlt).2.1;have hd1:=(hcm k hlt2).2.1;have hc2:=(hc k hlt).2.2;have hd2:=(hcm k hlt2).2.2;clear hc hcm
    by_cases he:L[k]=M[k]
    ·have HE:=zq he
     rw [←he] at hd0 hd1 hd2;clear he;go_wp2
     go_quiet (fail)
     go_wp2
     go_roundg (gk - 1)
     case measure=>have:=HK.o;omega
     case rel =>
      refine ⟨_,rfl,k+1,zh,zi,fun j hj=>?_⟩
      rcases bQ j k with h1 | h1
      ·exact HP.o j h1
      ·obtain rfl:j=k:=by omega
       rw [List.getElem?_eq_getElem hlt,List.getElem?_eq_getElem qe,HE.o]
    ·have HE:Hid (¬ L=M):=by
      show ¬ L=M
      intro e;subst e;exact he rfl
     by_cases h0:(L[k]).pt=(M[k]).pt
     case neg =>
      have hb:=zAM h0;clear he h0;go_wp2
      go_quiet (fail)
      go_wp2;go_ret
      exact zCT.no HE.o ⟨_,World.drewN_drewN _ _ _⟩
     rw [←h0] at hd0
     by_cases h1:(L[k]).nu=(M[k]).nu
     case neg =>
      have hb:=zAM h1;clear he h0 h1;go_wp2
      go_quiet (fail)
      go_wp2;go_ret
      exact zCT.no HE.o ⟨_,World.drewN_drewN _ _ _⟩
     rw [←h1] at hd1
     have h2:¬ (L[k]).de=(M[k]).de:=fun e=>he (by
      cases hx:L[k]
      cases hy:M[k]
      simp_all)
     have hb:=zAM h2;clear he h0 h1 h2;go_wp2
     go_quiet (fail)
     go_wp2;go_ret
     exact zCT.no HE.o ⟨_,World.drewN_drewN _ _ _⟩
   ·go_wp2
    go_ret
    exact zCT.yes (same_of HL.o za HP.o) ⟨_,rfl⟩
 ·have HE:Hid (¬ L=M):=by
   show ¬ L=M
   intro e;subst e;exact hl rfl
  have hlb:((L.length:Int) != (M.length:Int))=true:=ze
  go_enter Tryz.func13,Tryz.ntmps13
  go_wp2;go_ret
  exact zCT.no HE.o ⟨0,rfl⟩
end Go.Proofs.YtieoifkdobcpiaaGreatDoor
