/- Parts of the proof, joined: The reference's checkGift. The reference's checkDeed. The reference's . -/
import Derived.Test.YtieoifkdobcpiaaGreatDoorSa24
set_option maxRecDepth 100000
set_option maxHeartbeats 8000000
namespace Go.Proofs.YtieoifkdobcpiaaGreatDoor
open Go.RowKit Dw
section
variable {w W W':World} {RA:Option Addr} {rc:Nat} {rs:List Rg} {UA:Option Addr} {uc:Nat} {us:List ByteArray} {DA:Option Addr} {dc:Nat} {ds:List De} {d:De}
end
theorem rangeB {w:World} {b:Nat} {cs:Array Value} {T:TypeId} (h:Bx w b cs T):w.rangeAt b 0 cs.toList:=fun j v hv=>by
 rw [Nat.zero_add];exact h.cell (by rw [←hv,Array.getElem?_toList])
end Go.Proofs.YtieoifkdobcpiaaGreatDoor
namespace Go.Proofs.YtieoifkdobcpiaaGreatDoor
open Dw
def endsB (id:ByteArray) (x:De):Bool:=decide (x.kd=4)&&decide (x.ot=id)
def endAt (ds:List De) (id:ByteArray):Option Int:=(ds.reverse.find? (endsB id)).map De.bg
theorem endAt_snoc (l:List De) (d:De) (id:ByteArray):endAt (l++[d]) id=if endsB id d=true then some d.bg else endAt l id:=by
 unfold endAt;rw [List.reverse_append,List.reverse_singleton,List.singleton_append,List.find?_cons]
 cases endsB id d<;>simp
def toP (ds:List De) (d:De):Int:=match endAt ds d.id with
 | some t=>min d.en t
 | none=>d.en
def cutR (b e:Int):Int×Int:=if e≤b then (0,0) else (b,e)
def zCB (ds:List De) (d:De):Int×Int:=if zAk d.kd=true then cutR d.bg (toP ds d) else (0,0)
theorem endsB_true {id:ByteArray} {x:De}:endsB id x=true↔x.kd=4∧x.ot=id:=by unfold endsB;simp
theorem nmAt_inj {l:List Rg} (g:GoodR l) {i k:Nat} (hi:i<l.length) (hk:k<l.length) (h:nmAt l i=nmAt l k):i=k:=by
 rw [zBh hi,zBh hk] at h;have h1:=g.inc.idx hi;rw [h,g.inc.idx hk] at h1
 injection h1 with h1
 exact h1.symm
theorem lmF_some {l:List Rg} (g:GoodR l):∀ {k i:Nat},k≤l.length→i<k→zAF l i=false→lmF l k (nmAt l i)=some (.int .i64 ((zBX l i).length:Int))
 | k+1,i,hk,hi,hp=>by
  unfold lmF
  by_cases he:i=k
  ·subst he
   rw [hp];simp
  ·have hlt:i<k:=by omega
   have ih:=lmF_some g (k:=k) za hlt hp
   split
   ·exact ih
   ·rw [if_neg fun h=>he (nmAt_inj g za za h)]
    exact ih
theorem lmF_none {l:List Rg} {s:ByteArray}:∀ {k:Nat},(∀ i,i<k→zAF l i=false→s≠nmAt l i)→lmF l k s=none
 | 0,_=>rfl
 | k+1,h=>by
  unfold lmF;have ih:=lmF_none (k:=k) fun i hi=>h i za
  split
  ·exact ih
  ·next hp=>rw [if_neg (h k za (by simpa using hp))];exact ih
theorem leafTo_at {l:List Rg} {i:Nat} (hp:zAF l i=false):∀ {k:Nat},i<k→(zBX l k)[(zBX l i).length]?=some i
 | k+1,hi=>by
  have e:zBX l (k+1)=zBX l k++(if zAF l k=true then [] else [k]):=by
   unfold zBX;rw [List.range_succ,List.filter_append]
   cases hh:zAF l k<;>simp [hh]
  rw [e]
  by_cases he:i=k
  ·subst he
   rw [hp];simp
  ·have ih:=leafTo_at hp (k:=k) za
   rw [List.getElem?_append_left (List.getElem?_eq_some_iff.1 ih).1];exact ih
theorem leaf_at {l:List Rg} (g:GoodR l) {s:ByteArray} (h:leafB l s=true):∃ (i n:Nat) (hi:i<l.length),(l[i]).nm=s∧lmF l l.length s=some (.int .i64 (n:Int))∧(zAz l)[n]?=some i:=by
 unfold leafB at h;rw [Bool.and_eq_true] at h;obtain ⟨h1,h2⟩:=h
 cases hx:idx l s with
 | none=>rw [hx] at h1;cases h1
 | some i =>
  obtain ⟨hi,hs⟩:=idx_some hx
  have hp:zAF l i=false:=by
   unfold zAF;rw [zBh hi,hs]
   simpa using h2
  refine ⟨i,(zBX l i).length,hi,hs,?_,leafTo_at hp hi⟩
  have:=lmF_some g (Nat.le_refl _) hi hp
  rwa [zBh hi,hs] at this
theorem leaf_no {l:List Rg} (g:GoodR l) {s:ByteArray} (h:leafB l s=false):lmF l l.length s=none:=by
 refine lmF_none fun i hi hp he=>?_
 rw [zBh hi] at he;have:=leafB_at g hi;rw [←he,h,hp] at this
 cases this
def vB (rs:List Rg) (ds:List De) (i:Nat) (use:ByteArray) (day:Int) (d:De):Bool:=decide ((zCB ds d).1≤day)&&decide (day<(zCB ds d).2)&&(lies rs d.ar i&&memS d.us use)
end Go.Proofs.YtieoifkdobcpiaaGreatDoor
