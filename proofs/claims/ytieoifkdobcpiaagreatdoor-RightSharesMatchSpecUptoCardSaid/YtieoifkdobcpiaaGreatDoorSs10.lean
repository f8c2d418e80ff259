/- Parts of the proof, joined: The reference's CheckRatio answers zDm. slices.Equal of any two slice. -/
import Derived.Test.YtieoifkdobcpiaaGreatDoorSs09
set_option maxRecDepth 100000
set_option maxHeartbeats 8000000
namespace Go.Proofs.YtieoifkdobcpiaaGreatDoor
open Go.RowKit Dw
theorem negB_list {s:ByteArray} (h:zDp s=true):∃ c t,s.data.toList=c::t∧c.toNat=45∧(zAX s).data.toList=t:=by
 have h':=h;unfold zDp at h';simp only [Bool.and_eq_true,decide_eq_true_eq] at h'
 cases hs:s.data.toList with
 | nil =>
  have:=Lib.size_eq s;rw [hs] at this;simp only [List.length_nil] at this;omega
 | cons c t =>
  refine ⟨c,t,rfl,by rw [hs] at h';exact h'.2,?_⟩
  unfold zAX absL;rw [if_pos h,hs]
  rfl
theorem numB_neg {s:ByteArray} (h:zDp s=true):zCP s=false:=by
 obtain ⟨c,t,h1,h2,_⟩:=negB_list h;unfold zCP;rw [h1];have:dgB c=false:=by unfold dgB;rw [h2];rfl
 simp [this]
theorem ba_ext {a b:ByteArray} (h:a.data.toList=b.data.toList):a=b:=by
 have h2:=congrArg List.toArray h;simp only [Array.toArray_toList] at h2;exact congrArg ByteArray.mk h2
theorem abs_zero {s:ByteArray} (h:zDp s=true):zAX s=zCC↔s=m0:=by
 obtain ⟨c,t,h1,h2,h3⟩:=negB_list h;have hc:c=45:=UInt8.toNat_inj.1 h2;subst hc
 constructor
 ·intro e
  refine ba_ext ?_
  rw [e] at h3;rw [h1,←h3]
  rfl
 ·intro e
  refine ba_ext ?_
  rw [e] at h1
  have h4:t=[48]:=by
   have:m0.data.toList=[45,48]:=rfl;rw [this] at h1
   injection h1 with _ h1
   exact h1.symm
  rw [h3,h4]
  rfl
theorem abs_size {s:ByteArray} (h:zDp s=true):(zAX s).size+1=s.size:=by
 obtain ⟨c,t,h1,_,h3⟩:=negB_list h;rw [Lib.size_eq,Lib.size_eq,h1,h3]
 rfl
theorem chkRatioR_c (nu de:ByteArray) (w:World) (hz:nu.size≤9223372036854775807) (hz2:de.size≤9223372036854775807) :
  Calls Tryz.prog 15 #[.agg (rtC nu de)] w (zAe (.int .i64 (zDm nu de)) w):=by
 cases hn:zDp nu with
 | false =>
  obtain ⟨hc,he⟩:=negB_no hn;have e:zDm nu de=ratR nu de:=by unfold zDm ratR;rw [he,hn];simp
  rw [e];refine chkRatR_s nu de nu w hz hz2 hz (.inl ?_)
  by_cases h1:1<nu.size
  ·rcases hc with h | ⟨h,hb⟩
   ·omega
   ·exact .inr (.inl ⟨h,h1,hb h,rfl⟩)
  ·exact .inl ⟨h1,rfl⟩
 | true =>
  obtain ⟨h0,hb,he⟩:=negB_yes hn;have hs:=abs_size hn;have h3:zCP nu=false:=numB_neg hn
  by_cases h1:1<nu.size
  ·by_cases hm:nu=m0
   ·have e:zDm nu de=ratR nu de:=by
     unfold zDm ratR;rw [if_pos (.inr (.inl ⟨hn,(abs_zero hn).2 hm⟩)),if_pos (.inl h3)]
    rw [e];exact chkRatR_s nu de nu w hz hz2 hz (.inl (.inr (.inr ⟨h0,h1,hb h0,hm,rfl⟩)))
   ·have h4:zAX nu≠zCC:=fun h=>hm ((abs_zero hn).1 h)
    have e:zDm nu de=ratR (zAX nu) de:=by
     unfold zDm ratR;simp [h4]
    rw [e];exact chkRatR_s nu de (zAX nu) w hz hz2 za (.inr ⟨h0,h1,hb h0,hm,he⟩)
  ·have h4:zCP (zAX nu)=false:=numB_small za
   have e:zDm nu de=ratR nu de:=by
    unfold zDm ratR;rw [if_pos (.inl h4),if_pos (.inl h3)]
   rw [e];exact chkRatR_s nu de nu w hz hz2 hz (.inl (.inl ⟨h1,rfl⟩))
def zDJ (same:Prop) (w:World) (e:Ending) (w':World):Prop:=∃ r:Bool,e = .returned (.bool r)∧(r=true↔same)∧∃ n,w'=w.drewN n
theorem zDJ.no {same:Prop} {w w':World} (h:¬ same) (hw:∃ n,w'=w.drewN n):zDJ same w (.returned (.bool false)) w':=⟨false,rfl,⟨(fun e=>by cases e),fun e=>absurd e h⟩,hw⟩
theorem zDJ.yes {same:Prop} {w w':World} (h:same) (hw:∃ n,w'=w.drewN n):zDJ same w (.returned (.bool true)) w':=⟨true,rfl,⟨fun _=>h,fun _=>rfl⟩,hw⟩
def EqRel2 {α:Type} (w:World) (L M:List α) (m:Nat) (i:Value) (wr:World):Prop :=
 ∃ q,wr=w.drewN q∧∃ k:Nat,k+m=L.length∧i = .int .i64 k∧∀ j,j<k→L[j]?=M[j]?
theorem same_of {α:Type} {L M:List α} (hl:L.length=M.length) {k:Nat} (hk:L.length≤k) (h:∀ j,j<k→L[j]?=M[j]?):L=M:=by
 apply List.ext_getElem?
 intro i
 by_cases hi:i<k
 ·exact h i hi
 ·rw [List.getElem?_eq_none za,List.getElem?_eq_none za]
theorem equalH_c (A A2:Option Addr) (c c2:Nat) (L M:List Sh) (w:World) (hn:L.length≤140737488355328) (hn2:M.length≤140737488355328) (h:Shs w A L) (h2:Shs w A2 M) :
  Calls Tryz.prog 13 #[.slice A L.length c,.slice A2 M.length c2] w (zDJ (L=M) w):=by
 by_cases hl:L.length=M.length
 ·rw [←hl]
  have HL:=zq hl;clear hl
  go_enter Tryz.func13,Tryz.ntmps13
  go_wp2
  go_loopg [13] L.length (EqRel2 w L M)
  case atStart=>exact ⟨0,rfl,0,za,rfl,fun j hj=>absurd hj za⟩
  case round =>
   obtain ⟨q,hw,k,hk,rfl,hpre⟩:=hrel;subst hw;have HK:=zq hk;have HP:=zq hpre;have hk1:k≤L.length:=za;clear hk hpre
   by_cases hlt:k<L.length
   ·have hlt2:k<M.length:=by have:=HL.o;omega
    obtain ⟨b,o,rfl,hb,hc⟩:=h.at_ za;obtain ⟨b2,o2,rfl,hb2,hcm⟩:=h2.at_ za;have hc0:=(hc k hlt).1;have hd0:=(hcm k hlt2).1;have hc1:=(hc k hlt).2.1;have hd1:=(hcm k hlt2).2.1;have hc2:=(hc k hlt).2.2;have hd2:=(hcm k hlt2).2.2;clear hc hcm
    by_cases he:L[k]=M[k]
    ·have HE:=zq he
     rw [←he] at hd0 hd1 hd2;clear he;go_wp2
     go_quiet (fail)
     go_wp2
     go_roundg (gk - 1)
     case measure=>have:=HK.o;omega
     case rel =>
      refine ⟨_,rfl,k+1,zh,zi,fun j hj=>?_⟩
      rcases Nat.lt_or_ge j k with h1 | h1
      ·exact HP.o j h1
      ·obtain rfl:j=k:=by omega
       rw [List.getElem?_eq_getElem hlt,List.getElem?_eq_getElem (by have:=HL.o;omega),HE.o]
    ·have HE:Hid (¬ L=M):=by
      show ¬ L=M
      intro e;subst e;exact he rfl
     by_cases h0:(L[k]).pt=(M[k]).pt
     case neg =>
      have hb:=zAr h0;clear he h0;go_wp2
      go_quiet (fail)
      go_wp2;go_ret
      exact zDJ.no HE.o ⟨_,World.drewN_drewN _ _ _⟩
     rw [←h0] at hd0
     by_cases h1:(L[k]).nu=(M[k]).nu
     case neg =>
      have hb:=zAr h1;clear he h0 h1;go_wp2
      go_quiet (fail)
      go_wp2;go_ret
      exact zDJ.no HE.o ⟨_,World.drewN_drewN _ _ _⟩
     rw [←h1] at hd1
     have h2:¬ (L[k]).de=(M[k]).de:=fun e=>he (by
      cases hx:L[k]
      cases hy:M[k]
      simp_all)
     have hb:=zAr h2;clear he h0 h1 h2;go_wp2
     go_quiet (fail)
     go_wp2;go_ret
     exact zDJ.no HE.o ⟨_,World.drewN_drewN _ _ _⟩
   ·go_wp2
    go_ret
    exact zDJ.yes (same_of HL.o za HP.o) ⟨_,rfl⟩
 ·have HE:Hid (¬ L=M):=by
   show ¬ L=M
   intro e;subst e;exact hl rfl
  have hlb:((L.length:Int) != (M.length:Int))=true:=zg
  go_enter Tryz.func13,Tryz.ntmps13
  go_wp2;go_ret
  exact zDJ.no HE.o ⟨0,rfl⟩
end Go.Proofs.YtieoifkdobcpiaaGreatDoor
