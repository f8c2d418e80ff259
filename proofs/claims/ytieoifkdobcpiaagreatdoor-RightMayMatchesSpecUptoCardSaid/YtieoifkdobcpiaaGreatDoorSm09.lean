/- Parts of the proof, joined: The reference's CheckRatio answers zDq. slices.Equal of any two slice. -/
import Derived.Test.YtieoifkdobcpiaaGreatDoorSm08
set_option maxRecDepth 100000
set_option maxHeartbeats 8000000
namespace Go.Proofs.YtieoifkdobcpiaaGreatDoor
open Go.RowKit Dw
theorem negB_list {s:BA} (h:zDu s=true):∃ c t,s.data.toList=c::t∧c.toNat=45∧(zAY s).data.toList=t:=by
 have h':=h;unfold zDu at h';simp only [dT,aH] at h'
 cases hs:s.data.toList with
 | nil =>
  have:=Lib.size_eq s;rw [hs] at this;simp only [eF] at this;omega
 | cons c t =>
  refine ⟨c,t,rfl,by rw [hs] at h';exact h'.2,?_⟩
  unfold zAY absL;rw [aE h,hs]
  rfl
theorem numB_neg {s:BA} (h:zDu s=true):zCR s=false:=by
 obtain ⟨c,t,h1,h2,_⟩:=negB_list h;unfold zCR;rw [h1];have:dgB c=false:=by unfold dgB;rw [h2];rfl
 simp [this]
theorem ba_ext {a b:BA} (h:a.data.toList=b.data.toList):a=b:=by
 have h2:=bH List.toArray h;simp only [Array.toArray_toList] at h2;exact bH ByteArray.mk h2
theorem abs_zero {s:BA} (h:zDu s=true):zAY s=zCH↔s=m0:=by
 obtain ⟨c,t,h1,h2,h3⟩:=negB_list h;have hc:c=45:=UInt8.toNat_inj.1 h2;subst hc
 constructor
 ·intro e
  refine ba_ext ?_
  rw [e] at h3;rw [h1,←h3]
  rfl
 ·intro e
  refine ba_ext ?_
  rw [e] at h1
  have h4:t=[48]:=by
   have:m0.data.toList=[45,48]:=rfl;rw [this] at h1
   injection h1 with _ h1
   exact h1.symm
  rw [h3,h4]
  rfl
theorem abs_size {s:BA} (h:zDu s=true):(zAY s).size+1=s.size:=by
 obtain ⟨c,t,h1,_,h3⟩:=negB_list h;rw [Lib.size_eq,Lib.size_eq,h1,h3]
 rfl
theorem chkRatioR_c (nu de:BA) (w:World) (hz:nu.size≤9223372036854775807) (hz2:de.size≤9223372036854775807) :
  Calls Tryz.prog 15 #[.agg (rtC nu de)] w (zAe (.int .i64 (zDq nu de)) w):=by
 cases hn:zDu nu with
 | false =>
  obtain ⟨hc,he⟩:=negB_no hn;have e:zDq nu de=ratR nu de:=by unfold zDq ratR;rw [he,hn];simp
  rw [e];refine chkRatR_s nu de nu w hz hz2 hz (.inl ?_)
  by_cases h1:1<nu.size
  ·rcases hc with h | ⟨h,hb⟩
   ·omega
   ·exact .inr (.inl ⟨h,h1,hb h,rfl⟩)
  ·exact .inl ⟨h1,rfl⟩
 | true =>
  obtain ⟨h0,hb,he⟩:=negB_yes hn;have hs:=abs_size hn;have h3:zCR nu=false:=numB_neg hn
  by_cases h1:1<nu.size
  ·by_cases hm:nu=m0
   ·have e:zDq nu de=ratR nu de:=by
     unfold zDq ratR;rw [aE (.inr (.inl ⟨hn,(abs_zero hn).2 hm⟩)),aE (.inl h3)]
    rw [e];exact chkRatR_s nu de nu w hz hz2 hz (.inl (.inr (.inr ⟨h0,h1,hb h0,hm,rfl⟩)))
   ·have h4:zAY nu≠zCH:=fun h=>hm ((abs_zero hn).1 h)
    have e:zDq nu de=ratR (zAY nu) de:=by
     unfold zDq ratR;simp [h4]
    rw [e];exact chkRatR_s nu de (zAY nu) w hz hz2 za (.inr ⟨h0,h1,hb h0,hm,he⟩)
  ·have h4:zCR (zAY nu)=false:=numB_small za
   have e:zDq nu de=ratR nu de:=by
    unfold zDq ratR;rw [aE (.inl h4),aE (.inl h3)]
   rw [e];exact chkRatR_s nu de nu w hz hz2 hz (.inl (.inl ⟨h1,rfl⟩))
end Go.Proofs.YtieoifkdobcpiaaGreatDoor
