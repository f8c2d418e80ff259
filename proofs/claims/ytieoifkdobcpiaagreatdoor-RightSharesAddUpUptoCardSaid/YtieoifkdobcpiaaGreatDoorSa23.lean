/- The reference's CheckRatio answers zCN. The reference's checkShares. -/
import Derived.Test.YtieoifkdobcpiaaGreatDoorSa22
set_option maxRecDepth 100000
set_option maxHeartbeats 8000000
namespace Go.Proofs.YtieoifkdobcpiaaGreatDoor
open Go.RowKit Dw
theorem negB_list {s:ByteArray} (h:negB s=true):∃ c t,s.data.toList=c::t∧c.toNat=45∧(zAS s).data.toList=t:=by
 have h':=h;unfold negB at h';simp only [Bool.and_eq_true,decide_eq_true_eq] at h'
 cases hs:s.data.toList with
 | nil =>
  have:=Lib.size_eq s;rw [hs] at this;simp only [List.length_nil] at this;omega
 | cons c t =>
  refine ⟨c,t,rfl,by rw [hs] at h';exact h'.2,?_⟩
  unfold zAS absL;rw [if_pos h,hs]
  rfl
theorem numB_neg {s:ByteArray} (h:negB s=true):zCj s=false:=by
 obtain ⟨c,t,h1,h2,_⟩:=negB_list h;unfold zCj;rw [h1];have:dgB c=false:=by unfold dgB;rw [h2];rfl
 simp [this]
theorem ba_ext {a b:ByteArray} (h:a.data.toList=b.data.toList):a=b:=by
 have h2:=congrArg List.toArray h;simp only [Array.toArray_toList] at h2;exact congrArg ByteArray.mk h2
theorem abs_zero {s:ByteArray} (h:negB s=true):zAS s=zCf↔s=m0:=by
 obtain ⟨c,t,h1,h2,h3⟩:=negB_list h;have hc:c=45:=UInt8.toNat_inj.1 h2;subst hc
 constructor
 ·intro e
  refine ba_ext ?_
  rw [e] at h3;rw [h1,←h3]
  rfl
 ·intro e
  refine ba_ext ?_
  rw [e] at h1
  have h4:t=[48]:=by
   have:m0.data.toList=[45,48]:=rfl;rw [this] at h1
   injection h1 with _ h1
   exact h1.symm
  rw [h3,h4]
  rfl
theorem abs_size {s:ByteArray} (h:negB s=true):(zAS s).size+1=s.size:=by
 obtain ⟨c,t,h1,_,h3⟩:=negB_list h;rw [Lib.size_eq,Lib.size_eq,h1,h3]
 rfl
theorem chkRatioR_c (nu de:ByteArray) (w:World) (hz:nu.size≤9223372036854775807) (hz2:de.size≤9223372036854775807) :
  Calls Tryz.prog 15 #[.agg (rtC nu de)] w (zAe (.int .i64 (zCN nu de)) w):=by
 cases hn:negB nu with
 | false =>
  obtain ⟨hc,he⟩:=negB_no hn;have e:zCN nu de=ratR nu de:=by unfold zCN ratR;rw [he,hn];simp
  rw [e];refine chkRatR_s nu de nu w hz hz2 hz (.inl ?_)
  by_cases h1:1<nu.size
  ·rcases hc with h | ⟨h,hb⟩
   ·omega
   ·exact .inr (.inl ⟨h,h1,hb h,rfl⟩)
  ·exact .inl ⟨h1,rfl⟩
 | true =>
  obtain ⟨h0,hb,he⟩:=negB_yes hn;have hs:=abs_size hn;have h3:zCj nu=false:=numB_neg hn
  by_cases h1:1<nu.size
  ·by_cases hm:nu=m0
   ·have e:zCN nu de=ratR nu de:=by
     unfold zCN ratR;rw [if_pos (.inr (.inl ⟨hn,(abs_zero hn).2 hm⟩)),if_pos (.inl h3)]
    rw [e];exact chkRatR_s nu de nu w hz hz2 hz (.inl (.inr (.inr ⟨h0,h1,hb h0,hm,rfl⟩)))
   ·have h4:zAS nu≠zCf:=fun h=>hm ((abs_zero hn).1 h)
    have e:zCN nu de=ratR (zAS nu) de:=by
     unfold zCN ratR;simp [h4]
    rw [e];exact chkRatR_s nu de (zAS nu) w hz hz2 za (.inr ⟨h0,h1,hb h0,hm,he⟩)
  ·have h4:zCj (zAS nu)=false:=numB_small za
   have e:zCN nu de=ratR nu de:=by
    unfold zCN ratR;rw [if_pos (.inl h4),if_pos (.inl h3)]
   rw [e];exact chkRatR_s nu de nu w hz hz2 hz (.inl (.inl ⟨h1,rfl⟩))
theorem Lt.setN {w:World} {A:Option Addr} {c n R:Nat} {T:TypeId} {a b d:Value} (h:Lt w A c n) (hb:Bx w R #[a,b,d] T) (h0:∀ n,a≠.int .i64 n) (h1:∀ n,b≠.int .i64 n) (h2:∀ n,d≠.int .i64 n)
  (ng:Bool) (A1:Option Addr) (n1 c1:Nat) (A2:Option Addr) (n2 c2:Nat):Lt (((w.setCell ⟨R,0,none⟩ (.bool ng)).setCell ⟨R,1,none⟩ (.slice A1 n1 c1)).setCell ⟨R,2,none⟩ (.slice A2 n2 c2)) A c n:=by
 refine ⟨?_,h.cap⟩
 have k0:=h.rd.setR hb (no3 h0 h1 h2) 0 (.bool ng);have b1:=Bx.set0 hb (.bool ng);have k1:=k0.setR b1 (no3 zd h1 h2) 1 (.slice A1 n1 c1);have b2:=Bx.set1 b1 (.slice A1 n1 c1);exact k1.setR b2 (no3 zd zd h2) 2 _
theorem Lt.alloc {w:World} {A:Option Addr} {c n:Nat} (h:Lt w A c n) (o:Obj):Lt (w.alloc o) A c n:=h.below ((Below.refl _ _).alloc (Nat.le_refl _) o)
section
variable {w W W':World} {d:De} {g:Nat} {A A2:Option Addr} {c c2:Nat} {pr:Nat×Nat}
end
end Go.Proofs.YtieoifkdobcpiaaGreatDoor
