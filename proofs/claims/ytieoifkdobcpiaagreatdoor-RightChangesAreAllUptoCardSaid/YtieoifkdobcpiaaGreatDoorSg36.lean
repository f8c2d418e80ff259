/- slices.Sort and slices.Compact at an own row of ints. -/
import Derived.Test.YtieoifkdobcpiaaGreatDoorSg35
set_option maxRecDepth 100000
set_option maxHeartbeats 8000000
namespace Go.Proofs.YtieoifkdobcpiaaGreatDoor
open Go.Shelf Go.RowKit Go.Lib Go.Sort Dw
theorem mem_compactI (zs:List Int):∀ x,x∈Lib.compact zs↔x∈zs:=by
 have key:∀ (d:Array Int) (m:Nat),m≤d.size→∀ x,x∈compactUpTo d m↔∃ j,j<m∧d[j]! = x:=by
  intro d m
  induction m with
  | zero=>intro _ x;simp [compactUpTo]
  | succ m ih =>
   intro hm x;rw [compactUpTo_succ,List.mem_append,ih za]
   constructor
   ·rintro (⟨j,hj,e⟩ | h)
    ·exact ⟨j,za,e⟩
    ·split at h
     ·exact ⟨m,za,(List.mem_singleton.1 h).symm⟩
     ·cases h
   ·rintro ⟨j,hj,e⟩
    by_cases hjm:j<m
    ·exact .inl ⟨j,hjm,e⟩
    ·obtain rfl:j=m:=by omega
     cases hk:keeps d j with
     | true=>exact .inr (by rw [aF rfl,e];exact List.mem_singleton.2 rfl)
     | false =>
      unfold keeps at hk;have hk2:=of_decide_eq_false hk;have h0:j≠0:=fun h=>hk2 (.inl h)
      have h1:d[j]! = d[j - 1]!:=eQ fun h=>hk2 (.inr h)
      exact .inl ⟨j - 1,za,by rw [←h1];exact e⟩
 intro x;unfold Lib.compact;rw [key zs.toArray zs.length zd]
 constructor
 ·rintro ⟨j,hj,e⟩
  rw [←e,getElem!_pos _ _ yf];simp
 ·intro h
  obtain ⟨j,hj,e⟩:=dH h;exact ⟨j,hj,by rw [getElem!_pos _ _ yf];simpa using e⟩
theorem compact_sorted {zs:List Int} (h:zs.Pairwise (·≤·)):(Lib.compact zs).Pairwise (· < ·):=by
 have hle:∀ a b:Nat,a≤b→b<zs.toArray.size→zs.toArray[a]!≤zs.toArray[b]!:=fun a b hab hb=>by
  rw [getElem!_pos _ a za,getElem!_pos _ b hb]
  rcases bQ a b with hlt | hge
  ·simpa using List.pairwise_iff_getElem.1 h a b (by simp at hb;omega) (by simpa using hb) hlt
  ·obtain rfl:a=b:=by omega
   exact Int.le_refl _
 have key:∀ m,m≤zs.toArray.size→(compactUpTo zs.toArray m).Pairwise (· < ·)∧∀ x∈compactUpTo zs.toArray m,∃ j,j<m∧zs.toArray[j]! = x:=fun m=>by
  induction m with
  | zero=>intro _;simp [compactUpTo]
  | succ m ih =>
   intro hm;obtain ⟨i1,i2⟩:=ih za;rw [compactUpTo_succ]
   cases hk:keeps zs.toArray m with
   | false =>
    rw [aD zd,aE];exact ⟨i1,fun x hx=>by obtain ⟨j,hj,e⟩:=i2 x hx;exact ⟨j,za,e⟩⟩
   | true =>
    rw [aF rfl];refine ⟨List.pairwise_append.2 ⟨i1,zd,fun x hx y hy=>?_⟩,fun x hx=>?_⟩
    ·obtain ⟨j,hj,e⟩:=i2 x hx
     rw [List.mem_singleton.1 hy,←e];unfold keeps at hk;have hk2:=eT hk
     rcases hk2 with h0 | hne
     ·omega
     ·have a1:=hle j (m - 1) za za
      have a2:=hle (m - 1) m za za;omega
    ·rcases List.mem_append.1 hx with hx | hx
     ·obtain ⟨j,hj,e⟩:=i2 x hx;exact ⟨j,za,e⟩
     ·exact ⟨m,za,(List.mem_singleton.1 hx).symm⟩
 exact (key zs.length zd).1
def IntsAt (w:World) (g:Nat) (l:List Int):Prop:=Holds (Value.int .i64) w g 0 l.toArray
theorem own_holds {w:World} {base g cap:Nat} {l:List Int} (h:zAE encI 1 w base 3 (.slice (some ⟨g,0,none⟩) l.length cap) l) (h0:0<l.length):base≤g∧g<w.heap.size∧IntsAt w g l∧l.length≤cap:=by
 obtain ⟨hbase,cs,hcs⟩:=zAR h (g:=g) rfl;refine ⟨hbase,(Array.getElem?_eq_some_iff.1 hcs).1,fun j hj=>⟨?_,bV w g _ cs _ hcs⟩,?_⟩
 ·obtain ⟨bl,hbl⟩:=own_ints h
  obtain ⟨e,_,_,hc⟩:=hbl h0
  injection e with e
  injection e with e _ _
  subst e;have hj':j<l.length:=yf;rw [aK,hc j _ (List.getElem?_eq_getElem hj')];rw [getElem!_pos l.toArray j hj];simp
 ·rcases h.2 with ⟨_,hn⟩ | ⟨g',cap',cur,hv,_,_,hnc,_⟩
  ·omega
  ·injection hv with _ _ hv
   rw [hv];exact hnc
theorem sortI_c (g cap:Nat) (L:List Int) (base:Nat) (w:World) (hb:base≤g) (hg:g<w.heap.size) (hH:IntsAt w g L) (hl:L.length≤1000000) :
  Calls Tryz.prog 64 #[.slice (some ⟨g,0,none⟩) L.length cap] w fun e w'=>e = .returned (.tuple #[])∧∃ L':List Int,L'.length=L.length∧L'.Pairwise (·≤·)∧(∀ x,x∈L'↔x∈L)∧IntsAt w' g L'∧g<w'.heap.size∧Below base w w':=by
 have hS:=AnyM.slices_Sort_int Tryz.sortI64 g 0 cap L w hH hg za
 change Calls Tryz.prog 64 _ _ _ at hS
 refine hS.mono fun e w' ⟨he,n,os,hw⟩=>⟨he,L.mergeSort fun x y=>decide (x≤y),zd,?_,fun x=>zd,?_,?_,?_⟩
 ·have h1:=List.pairwise_mergeSort (le:=fun x y:Int=>decide (x≤y)) (fun a b c h k=>by simp only [aH] at *;exact Int.le_trans h k) (fun a b=>by simp only [Bool.or_eq_true,aH];exact Int.le_total a b) L
  exact h1.imp fun h=>eT h
 ·have hh:=holds_sortWorld (Value.int .i64) w g 0 n L.toArray (L.mergeSort fun x y=>decide (x≤y)).toArray os hg hH zd
  rw [show w'=sortWorld (Value.int .i64) w g 0 n (L.mergeSort fun x y=>decide (x≤y)).toArray os from hw]
  exact hh
 ·rw [show w'=sortWorld (Value.int .i64) w g 0 n (L.mergeSort fun x y=>decide (x≤y)).toArray os from hw]
  exact lt_sortWorld _ _ _ _ _ _ _ hg
 ·rw [hw];exact below_putRow _ _ _ _ hb hg
theorem compI_c (g cap:Nat) (L:List Int) (base:Nat) (w:World) (hb:base≤g) (hg:g<w.heap.size) (hH:IntsAt w g L) (hl:L.length≤1000000) (hc:L.length≤cap) :
  Calls Tryz.prog 65 #[.slice (some ⟨g,0,none⟩) L.length cap] w fun e w'=>∃ L':List Int,e = .returned (.slice (some ⟨g,0,none⟩) L'.length cap)∧L'.length≤L.length∧(L.Pairwise (·≤·)→L'.Pairwise (· < ·))∧(∀ x,x∈L'↔x∈L)∧(∀ j (h:j<L'.length),w'.cell? ⟨g,j,none⟩=some (.int .i64 L'[j]))∧Below base w w':=by
 have hS:=AnyG.slices_Compact_int Tryz.compI65 g 0 cap L w hH za hc
 change Calls Tryz.prog 65 _ _ _ at hS
 have hle:(Lib.compact L).length≤L.length:=by unfold Lib.compact compactUpTo;rw [cW];exact cU (dK _ _) zd
 refine hS.mono fun e w' ⟨he,q,hw⟩=>⟨Lib.compact L,he,hle,compact_sorted,mem_compactI L,?_,?_⟩
 ·have hh:=holds_putRow (Value.int .i64) _ g 0 L.toArray (Lib.compact L++List.replicate (L.length - (Lib.compact L).length) 0).toArray (holds_ahead (Value.int .i64) w q g 0 L.toArray hH) ze
  rw [←hw] at hh;intro j hj;have hj2:j<(Lib.compact L++List.replicate (L.length - (Lib.compact L).length) 0).toArray.size:=ze;have:=(hh j hj2).1;rw [aK] at this;rw [this];rw [getElem!_pos _ j hj2];simp only [eL];rw [List.getElem_append_left hj]
 ·have:=below_putRow (Value.int .i64) q (Lib.compact L++List.replicate (L.length - (Lib.compact L).length) 0).toArray #[] hb hg
  rw [grow_empty,←hw] at this;exact this
end Go.Proofs.YtieoifkdobcpiaaGreatDoor
