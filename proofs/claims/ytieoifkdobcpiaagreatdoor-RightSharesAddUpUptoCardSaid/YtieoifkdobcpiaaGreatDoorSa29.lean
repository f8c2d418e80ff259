/- Parts of the proof, joined: Maps that are ranged over: a map as the list of its entries; a new val. -/
import Derived.Maps.RangeRun
import Derived.Deep.CutRange
import Derived.Test.YtieoifkdobcpiaaGreatDoorSa28
set_option maxRecDepth 100000
set_option maxHeartbeats 8000000
namespace Dw
open Go Go.RowKit
open Go.ChangeMaps (setBlock)
def PMap {κ:Type} [DecidableEq κ] (mk:κ→Value) (w:World) (r:Nat) (L:List (κ×Value)):Prop :=
 ∃ (es:Array MapEntry) (clk:Nat),w.heap[r]?=some (.map es clk)∧es.toList.map (fun e=>(e.key,e.val))=L.map (fun p=>(mk p.1,p.2))∧(L.map (·.1)).Nodup∧(es.toList.map (·.born)).Nodup∧∀ e∈es.toList,e.born<clk
section
variable {κ:Type} [DecidableEq κ] {mk:κ→Value} {w w':World} {r:Nat} {L:List (κ×Value)}
theorem PMap.is (h:PMap mk w r L):zAx mk w r (zAR L):=by
 obtain ⟨es,clk,h1,h2,_⟩:=h;exact ⟨es,clk,L,h1,h2,fun _=>rfl⟩
theorem PMap.lt (h:PMap mk w r L):r<w.heap.size:=h.is.lt
theorem PMap.keep (h:PMap mk w r L) (hk:w'.heap[r]?=w.heap[r]?):PMap mk w' r L:=by
 obtain ⟨es,clk,hr,rest⟩:=h;exact ⟨es,clk,hk.trans hr,rest⟩
theorem PMap.below (h:PMap mk w r L) (hb:Below w.heap.size w w'):PMap mk w' r L:=h.keep (hb.block r h.lt)
theorem PMap.new (mk:κ→Value) (w:World):PMap mk (w.alloc (.map #[] 0)) w.heap.size [] :=
 ⟨#[],0,heap_alloc_new w _,rfl,List.nodup_nil,List.nodup_nil,fun _ h=>by cases h⟩
theorem PMap.nodup (h:PMap mk w r L):(L.map (·.1)).Nodup:=by
 obtain ⟨_,_,_,_,h,_⟩:=h;exact h
def putE (L:List (κ×Value)) (k:κ) (v:Value):List (κ×Value):=if (zAR L k).isSome then L.map (fun p=>if p.1=k then (k,v) else p) else L++[(k,v)]
def delE (L:List (κ×Value)) (k:κ):List (κ×Value):=L.filter fun p=>decide (p.1≠k)
theorem lookE_none {L:List (κ×Value)} {k:κ}:zAR L k=none↔∀ p∈L,p.1≠k:=by
 unfold zAR;rw [Option.map_eq_none_iff,List.find?_eq_none]
 constructor
 ·exact fun h p hp e=>h p hp (by simp [e])
 ·exact fun h p hp e=>h p hp (by simpa using (of_decide_eq_true e).symm)
theorem lookE_mem {L:List (κ×Value)} (hn:(L.map (·.1)).Nodup) {k:κ} {v:Value}:zAR L k=some v↔(k,v)∈L:=by
 induction L with
 | nil=>simp [zAR]
 | cons a t ih =>
  rw [List.map_cons] at hn;obtain ⟨h1,h2⟩:=List.nodup_cons.1 hn
  by_cases he:k=a.1
  ·subst he
   have e:zAR (a::t) a.1=some a.2:=by simp [zAR]
   rw [e]
   constructor
   ·intro h
    injection h with h
    subst h;exact List.mem_cons_self
   ·intro h
    rcases List.mem_cons.1 h with h | h
    ·rw [←h]
    ·exact absurd (List.mem_map_of_mem (f:=(·.1)) h) h1
  ·have e:zAR (a::t) k=zAR t k:=by simp [zAR,he]
   rw [e,ih h2,List.mem_cons]
   constructor
   ·exact .inr
   ·rintro (h | h)
    ·exact absurd (by rw [←h]) he
    ·exact h
theorem putE_keys {L:List (κ×Value)} (hn:(L.map (·.1)).Nodup) (k:κ) (v:Value):((putE L k v).map (·.1)).Nodup:=by
 unfold putE
 split
 ·have:(L.map fun p=>if p.1=k then (k,v) else p).map (·.1)=L.map (·.1):=by
   rw [List.map_map];refine List.map_congr_left fun p _=>?_
   by_cases hp:p.1=k
   ·simp [hp]
   ·simp [hp]
  rw [this];exact hn
 ·next h =>
  rw [List.map_append,List.nodup_append];refine ⟨hn,zd,fun a ha b hb=>?_⟩
  simp at hb
  subst hb;obtain ⟨p,hp,rfl⟩:=List.mem_map.1 ha;exact lookE_none.1 zv p hp
theorem lookE_put (L:List (κ×Value)) (k:κ) (v:Value) (k':κ):zAR (putE L k v) k'=if k'=k then some v else zAR L k':=by
 unfold putE
 split
 ·next h =>
  induction L with
  | nil=>simp [zAR] at h
  | cons a t ih =>
   by_cases ha:a.1=k
   ·by_cases hk:k'=k
    ·subst hk;simp [zAR,ha]
    ·have e:zAR ((a::t).map fun p=>if p.1=k then (k,v) else p) k'=zAR (t.map fun p=>if p.1=k then (k,v) else p) k':=by simp [zAR,ha,hk]
     have e2:zAR (a::t) k'=zAR t k':=by
      have:k'≠a.1:=fun e=>hk (e.trans ha)
      simp [zAR,this]
     rw [e,e2,if_neg hk]
     have key:∀ (t:List (κ×Value)),zAR (t.map fun p=>if p.1=k then (k,v) else p) k'=zAR t k':=fun t=>by
      induction t with
      | nil=>rfl
      | cons b t ih =>
       by_cases hb:b.1=k
       ·have h9:k'≠b.1:=fun e=>hk (e.trans hb)
        simp only [List.map_cons,hb,if_true];simp [zAR,hk,h9]
        simpa [zAR] using ih
       ·by_cases hb2:k'=b.1
        ·simp [zAR,hb,hb2]
        ·simp [zAR,hb,hb2]
         simpa [zAR] using ih
     exact key t
   ·have e1:zAR (a::t) k=zAR t k:=by
     have:k≠a.1:=fun e=>ha e.symm
     simp [zAR,this]
    rw [e1] at h;have ih:=ih h
    by_cases hka:k'=a.1
    ·have:k'≠k:=fun e=>ha (hka▸e)
     simp [zAR,ha,hka]
    ·have e3:zAR ((a::t).map fun p=>if p.1=k then (k,v) else p) k'=zAR (t.map fun p=>if p.1=k then (k,v) else p) k':=by simp [zAR,ha,hka]
     have e4:zAR (a::t) k'=zAR t k':=by simp [zAR,hka]
     rw [e3,e4,ih]
 ·next h=>exact lookE_push zv k'
end
section
variable {κ:Type} [DecidableEq κ]
theorem modify_map {v:Value} {k:κ}:∀ {L:List (κ×Value)} {i:Nat},(L.map (·.1)).Nodup→(L[i]?).map (·.1)=some k→L.modify i (fun _=>(k,v))=L.map (fun p=>if p.1=k then (k,v) else p)
 | [],_,_,h=>by simp at h
 | a::t,0,hn,h=>by
  rw [List.map_cons] at hn;obtain ⟨h1,h2⟩:=List.nodup_cons.1 hn;have ha:a.1=k:=zv
  have:t.map (fun p=>if p.1=k then (k,v) else p)=t:=by
   conv=>rhs;rw [←List.map_id t]
   refine List.map_congr_left fun p hp=>?_
   have:p.1≠k:=fun e=>h1 (by rw [ha,←e];exact List.mem_map_of_mem (f:=(·.1)) hp)
   simp [this]
  simp [ha,this]
 | a::t,i+1,hn,h=>by
  rw [List.map_cons] at hn;obtain ⟨h1,h2⟩:=List.nodup_cons.1 hn;have ih:=modify_map (v:=v) (k:=k) (L:=t) (i:=i) h2 zv
  have ha:a.1≠k:=fun e=>by
   have h9:(t[i]?).map (·.1)=some k:=zv;obtain ⟨p,hp,hpk⟩:=Option.map_eq_some_iff.1 h9;exact h1 (by rw [e,←hpk];exact List.mem_map_of_mem (f:=(·.1)) (List.mem_of_getElem? hp))
  simp [ha,ih]
theorem erase_map {k:κ}:∀ {L:List (κ×Value)} {i:Nat},(L.map (·.1)).Nodup→(L[i]?).map (·.1)=some k→L.eraseIdx i=delE L k
 | [],_,_,h=>by simp at h
 | a::t,0,hn,h=>by
  rw [List.map_cons] at hn;obtain ⟨h1,h2⟩:=List.nodup_cons.1 hn;have ha:a.1=k:=zv
  have:delE t k=t:=List.filter_eq_self.2 fun p hp=>by
   have:p.1≠k:=fun e=>h1 (by rw [ha,←e];exact List.mem_map_of_mem (f:=(·.1)) hp)
   simpa using this
  have e:delE (a::t) k=delE t k:=by simp [delE,ha]
  rw [e,this];rfl
 | a::t,i+1,hn,h=>by
  rw [List.map_cons] at hn;obtain ⟨h1,h2⟩:=List.nodup_cons.1 hn;have ih:=erase_map (k:=k) (L:=t) (i:=i) h2 zv
  have ha:a.1≠k:=fun e=>by
   have h9:(t[i]?).map (·.1)=some k:=zv;obtain ⟨p,hp,hpk⟩:=Option.map_eq_some_iff.1 h9;exact h1 (by rw [e,←hpk];exact List.mem_map_of_mem (f:=(·.1)) (List.mem_of_getElem? hp))
  have e:delE (a::t) k=a::delE t k:=by simp [delE,ha]
  rw [e,List.eraseIdx_cons_succ,ih]
theorem delE_none {L:List (κ×Value)} {k:κ} (h:zAR L k=none):delE L k=L:=List.filter_eq_self.2 fun p hp=>by simpa using lookE_none.1 h p hp
end
section
variable {P:Program} {κ:Type} [DecidableEq κ] {mk:κ→Value} {T K E:TypeId} {w:World} {r:Nat} {L:List (κ×Value)}
theorem run_update_pm (hT:P.underlying T=some (.map K E)) (hK:KeyT P K mk) (h:PMap mk w r L) (k:κ) (v:Value) :
  ∃ w',(Instr.mapUpdate T (.map (some r)) (mk k) v).run P w = .ok () w'∧PMap mk w' r (putE L k v)∧w.grownBy w' (some r)∧w'.heap.size=w.heap.size:=by
 obtain ⟨es,clk,hr,hL,hn,hb,hc⟩:=h;have hrl:r<w.heap.size:=(Array.getElem?_eq_some_iff.1 hr).1;obtain ⟨d,hd,hs⟩:=hK.same;obtain ⟨o,h1,h2,h3⟩:=zDj hs k es.toList L 0 hL;have hg:(getObj r).run P w = .ok (.map es clk) w:=qk;have hset:∀ (es':Array MapEntry) (c':Nat),(setObj r (.map es' c')).run P w = .ok () { w with heap:=w.heap.setIfInBounds r (.map es' c') }:=fun es' c'=>by simp [setObj,Sem.run,hr]
 have hfk:(Instr.findKey K (mk k) es.toList).run P w = .ok o w:=by
  simp [Instr.findKey,run_underlying hd,h1]
 have hgrow:∀ (es':Array MapEntry) (c':Nat),w.grownBy { w with heap:=w.heap.setIfInBounds r (.map es' c') } (some r):=fun es' c' =>
  ⟨rfl,rfl,rfl,zd,fun i hi hne=>by simp only [Array.getElem?_setIfInBounds];rw [if_neg (fun e=>hne (by rw [e]))]⟩
 have hget:∀ (es':Array MapEntry) (c':Nat),({ w with heap:=w.heap.setIfInBounds r (.map es' c') }:World).heap[r]?=some (.map es' c'):=fun es' c'=>by
  simp [hrl]
 have hlen:es.size=L.length:=yp
 cases o with
 | none =>
  have hnone:zAR L k=none:=by simpa using h2.symm
  have hp:putE L k v=L++[(k,v)]:=by unfold putE;rw [hnone];rfl
  refine ⟨_,?_,⟨_,_,hget (es.push { key:=mk k,val:=v,born:=clk }) (clk+1),?_,?_,?_,?_⟩,hgrow _ _,zd⟩
  ·simp [Instr.mapUpdate,run_underlying hT,hg,hK.chk,hfk,hset]
  ·rw [hp];simp [hL]
  ·exact putE_keys hn k v
  ·simp only [Array.toList_push,List.map_append,List.map_cons,List.map_nil]
   rw [List.nodup_append];refine ⟨hb,zd,fun a ha b hb'=>?_⟩
   simp at hb'
   subst hb';obtain ⟨e,he,rfl⟩:=List.mem_map.1 ha;exact Nat.ne_of_lt (hc e he)
  ·intro e he
   simp only [Array.toList_push,List.mem_append,List.mem_singleton] at he
   rcases he with he | rfl
   ·exact Nat.lt_succ_of_lt (hc e he)
   ·exact Nat.lt_succ_self _
 | some p =>
  obtain ⟨i,v0⟩:=p;obtain ⟨_,h5,h6,h7⟩:=h3 i v0 rfl;simp only [Nat.sub_zero] at h5 h6 h7;have hi:i<es.size:=za;have hsome:(zAR L k).isSome=true:=by rw [←h2];rfl
  have hp:putE L k v=L.modify i fun _=>(k,v):=by unfold putE;rw [if_pos hsome,modify_map hn h6]
  have hkey:es[i].key=mk k:=by
   have e1:(es.toList.map fun e=>(e.key,e.val))[i]?=(L.map fun p=>(mk p.1,p.2))[i]?:=by rw [hL]
   rw [List.getElem?_map,List.getElem?_map,List.getElem?_eq_getElem h5,List.getElem?_eq_getElem yh] at e1;rw [List.getElem?_eq_getElem h5] at h6;simp only [Option.map_some,Option.some.injEq,Prod.mk.injEq] at e1 h6;rw [←h6];simpa using e1.1
  have hstay:∀ x,(Instr.keyThatStays (mk k) (mk k)).run P x = .ok (mk k) x:=fun x=>by
   simp [Instr.keyThatStays,hK.bits]
  have hborn:((es.modify i fun e=>{ e with key:=mk k,val:=v }).toList.map (·.born))=es.toList.map (·.born):=by
   apply List.ext_getElem?
   intro n;rw [List.getElem?_map,List.getElem?_map,Array.toList_modify,List.getElem?_modify]
   by_cases hn:i=n
   ·subst hn
    rw [List.getElem?_eq_getElem yh];simp
   ·simp only [hn,if_false]
    cases es.toList[n]?<;>rfl
  refine ⟨_,?_,⟨_,_,hget (es.modify i fun e=>{ e with key:=mk k,val:=v }) clk,?_,?_,?_,?_⟩,hgrow _ _,zd⟩
  ·simp [Instr.mapUpdate,run_underlying hT,hg,hK.chk,hfk,hi,hkey,hstay,hset]
  ·rw [hp]
   apply List.ext_getElem?
   intro n;have e1:(es.toList.map fun e=>(e.key,e.val))[n]?=(L.map fun p=>(mk p.1,p.2))[n]?:=by rw [hL]
   rw [List.getElem?_map,List.getElem?_map] at e1;rw [List.getElem?_map,List.getElem?_map,List.getElem?_modify,Array.toList_modify,List.getElem?_modify]
   by_cases hn:i=n
   ·subst hn
    rw [List.getElem?_eq_getElem h5,List.getElem?_eq_getElem yh];simp
   ·simp only [hn,if_false]
    cases hx:es.toList[n]?<;>cases hy:L[n]?<;>simp_all
  ·exact putE_keys hn k v
  ·rw [hborn];exact hb
  ·intro e he
   have:e.born∈(es.modify i fun e=>{ e with key:=mk k,val:=v }).toList.map (·.born):=List.mem_map_of_mem (f:=(·.born)) he
   rw [hborn] at this;obtain ⟨e',he',e2⟩:=List.mem_map.1 this;rw [←e2];exact hc e' he'
theorem run_delete_pm {ty:TypeId} (hT:P.underlying T=some (.map K E)) (hK:KeyT P K mk) (h:PMap mk w r L) (k:κ) :
  ∃ w',(Builtin.delete_ #[T,K] ty #[.map (some r),mk k]).run P w = .ok (.tuple #[]) w'∧PMap mk w' r (delE L k)∧w.grownBy w' (some r)∧w'.heap.size=w.heap.size:=by
 obtain ⟨es,clk,hr,hL,hn,hb,hc⟩:=h;have hrl:r<w.heap.size:=(Array.getElem?_eq_some_iff.1 hr).1;obtain ⟨d,hd,hs⟩:=hK.same;obtain ⟨o,h1,h2,h3⟩:=zDj hs k es.toList L 0 hL;have hg:(getObj r).run P w = .ok (.map es clk) w:=qk;have hset:∀ (es':Array MapEntry) (c':Nat),(setObj r (.map es' c')).run P w = .ok () { w with heap:=w.heap.setIfInBounds r (.map es' c') }:=fun es' c'=>by simp [setObj,Sem.run,hr]
 have hfk:(Instr.findKey K (mk k) es.toList).run P w = .ok o w:=by
  simp [Instr.findKey,run_underlying hd,h1]
 have hgrow:∀ (es':Array MapEntry) (c':Nat),w.grownBy { w with heap:=w.heap.setIfInBounds r (.map es' c') } (some r):=fun es' c' =>
  ⟨rfl,rfl,rfl,zd,fun i hi hne=>by simp only [Array.getElem?_setIfInBounds];rw [if_neg (fun e=>hne (by rw [e]))]⟩
 have hget:∀ (es':Array MapEntry) (c':Nat),({ w with heap:=w.heap.setIfInBounds r (.map es' c') }:World).heap[r]?=some (.map es' c'):=fun es' c'=>by
  simp [hrl]
 have hlen:es.size=L.length:=yp
 cases o with
 | none =>
  have hnone:zAR L k=none:=by simpa using h2.symm
  refine ⟨_,?_,⟨es,clk,hget _ _,by rw [delE_none hnone];exact hL,by rw [delE_none hnone];exact hn,hb,hc⟩,hgrow _ _,zd⟩
  simp [Builtin.delete_,run_underlying hT,hg,hK.chk,hfk,hset]
 | some p =>
  obtain ⟨i,v0⟩:=p;obtain ⟨_,h5,h6,h7⟩:=h3 i v0 rfl;simp only [Nat.sub_zero] at h5 h6 h7;have hi:i<es.size:=za
  have he:(es.eraseIdxIfInBounds i).toList=es.toList.eraseIdx i:=by
   rw [Array.eraseIdxIfInBounds,dif_pos hi];simp
  have hdl:=erase_map hn h6;refine ⟨_,?_,⟨es.eraseIdxIfInBounds i,clk,hget _ _,?_,?_,?_,?_⟩,hgrow _ _,zd⟩
  ·simp [Builtin.delete_,run_underlying hT,hg,hK.chk,hfk,hset]
  ·rw [he,←hdl,Go.ChangeMaps.map_eraseIdx,Go.ChangeMaps.map_eraseIdx,hL]
  ·exact hn.sublist (List.Sublist.map _ List.filter_sublist)
  ·rw [he,Go.ChangeMaps.map_eraseIdx]
   exact hb.sublist (List.eraseIdx_sublist _ _)
  ·intro e hm
   rw [he] at hm;exact hc e (List.mem_of_mem_eraseIdx hm)
def zBB (mk:κ→Value) (w:World) (it r:Nat) (L R:List (κ×Value)):Prop :=
 ∃ (es:Array MapEntry) (clk since c0:Nat) (seen:Array Nat),w.heap[r]?=some (.map es clk)∧es.toList.map (fun e=>(e.key,e.val))=L.map (fun p=>(mk p.1,p.2))∧(L.map (·.1)).Nodup∧(es.toList.map (·.born)).Nodup∧(∀ e∈es.toList,e.born<clk) ∧
  w.heap[it]?=some (.mapIter (some r) since seen c0)∧(∀ e∈es.toList,e.born<since)∧since≤c0∧since≤clk∧(leftOf es seen).toList.map (fun e=>(e.key,e.val))=R.map (fun p=>(mk p.1,p.2))
end
theorem left_push {es:Array MapEntry} {seen:Array Nat} (hb:(es.toList.map (·.born)).Nodup) {e:MapEntry} (he:e∈(leftOf es seen).toList) :
  ∃ A B,(leftOf es seen).toList=A++e::B∧(leftOf es (seen.push e.born)).toList=A++B:=by
 obtain ⟨A,B,hAB⟩:=List.append_of_mem he;refine ⟨A,B,hAB,?_⟩
 have e1:(leftOf es (seen.push e.born)).toList=(leftOf es seen).toList.filter fun x=>decide (x.born≠e.born):=by
  unfold leftOf;rw [Array.toList_filter,Array.toList_filter,List.filter_filter];refine List.filter_congr fun x _=>?_
  rw [Array.contains_push]
  by_cases hx:x.born=e.born
  ·simp [hx]
  ·simp [hx]
 have hn:((leftOf es seen).toList.map (·.born)).Nodup:=by
  unfold leftOf;rw [Array.toList_filter];exact hb.sublist (List.Sublist.map _ List.filter_sublist)
 rw [e1,hAB,List.filter_append,List.filter_cons_of_neg zd];rw [hAB,List.map_append,List.map_cons,List.nodup_append] at hn;obtain ⟨_,h2,h3⟩:=hn;obtain ⟨h4,_⟩:=List.nodup_cons.1 h2
 congr 1
 ·exact List.filter_eq_self.2 fun x hx=>by
   have:=h3 x.born (List.mem_map_of_mem (f:=(·.born)) hx) e.born List.mem_cons_self
   simpa using this
 ·exact List.filter_eq_self.2 fun x hx=>by
   have:x.born≠e.born:=fun h=>h4 (by rw [←h];exact List.mem_map_of_mem (f:=(·.born)) hx)
   simpa using this
section
variable {P:Program} {κ:Type} {mk:κ→Value} {T K E:TypeId} {w w':World} {r it:Nat} {L R:List (κ×Value)}
theorem zBB.map [DecidableEq κ] (h:zBB mk w it r L R):PMap mk w r L:=by
 obtain ⟨es,clk,since,c0,seen,h1,h2,h3,h4,h5,_⟩:=h;exact ⟨es,clk,h1,h2,h3,h4,h5⟩
theorem zBB.lt (h:zBB mk w it r L R):it<w.heap.size:=by
 obtain ⟨es,clk,since,c0,seen,_,_,_,_,_,h6,_⟩:=h;exact (Array.getElem?_eq_some_iff.1 h6).1
theorem zBB.keep (h:zBB mk w it r L R) (h1:w'.heap[r]?=w.heap[r]?) (h2:w'.heap[it]?=w.heap[it]?):zBB mk w' it r L R:=by
 obtain ⟨es,clk,since,c0,seen,k1,a,b,c,d,k6,rest⟩:=h;exact ⟨es,clk,since,c0,seen,h1.trans k1,a,b,c,d,h2.trans k6,rest⟩
theorem zBB.below [DecidableEq κ] (h:zBB mk w it r L R) (hb:Below w.heap.size w w'):zBB mk w' it r L R:=h.keep (hb.block r h.map.lt) (hb.block it h.lt)
theorem zBB.start [DecidableEq κ] (hT:P.underlying T=some (.map K E)) (h:PMap mk w r L) :
  ∃ o,(Instr.range T (.map (some r))).run P w = .ok (.pointer (some ⟨w.heap.size,0,none⟩)) (w.alloc o)∧zBB mk (w.alloc o) w.heap.size r L L:=by
 obtain ⟨es,clk,h1,h2,h3,h4,h5⟩:=h;have hrl:r<w.heap.size:=(Array.getElem?_eq_some_iff.1 h1).1;refine ⟨_,run_range_map w T K E r es clk hT h1,es,clk,clk,clk,#[],(Below.heap_alloc w _ r hrl).trans h1,h2,h3,h4,h5,heap_alloc_new w _,h5,Nat.le_refl _,Nat.le_refl _,?_⟩
 have:(leftOf es #[]).toList=es.toList:=by
  unfold leftOf;rw [Array.toList_filter];exact List.filter_eq_self.2 fun _ _=>zd
 rw [this];exact h2
theorem zBB.next (h:zBB mk w it r L R) (hinj:∀ a b,mk a=mk b→a=b) (hne:it≠r) (ty:TypeId) :
  (R=[]∧(Instr.next (.pointer (some ⟨it,0,none⟩)) false ty).run P w = .ok (.tuple #[.bool false]) w) ∨
  ∃ p R' w',R.Perm (p::R')∧p∈L∧(Instr.next (.pointer (some ⟨it,0,none⟩)) false ty).run P w = .ok (.tuple #[.bool true,mk p.1,p.2]) w'∧(Instr.entry (.pointer (some ⟨it,0,none⟩))).run P w' = .ok (.tuple #[mk p.1,p.2]) w' ∧
   zBB mk w' it r L R'∧w.grownBy w' (some it)∧w'.heap.size=w.heap.size:=by
 obtain ⟨es,clk,since,c0,seen,h1,h2,h3,h4,h5,h6,h7,h8,h9,h10⟩:=h;have hit:it<w.heap.size:=(Array.getElem?_eq_some_iff.1 h6).1;have hrl:r<w.heap.size:=(Array.getElem?_eq_some_iff.1 h1).1
 rcases run_next_at (P:=P) w ty it r since c0 seen es clk h6 h1 h7 h8 with ⟨h0,hrun⟩ | ⟨e,he,w1,hw1,hrun⟩
 ·left
  refine ⟨?_,hrun⟩
  have:(leftOf es seen).toList=[]:=by
   have:(leftOf es seen).toList.length=0:=by simpa using h0
   exact List.length_eq_zero_iff.1 this
  rw [this] at h10;exact (List.map_eq_nil_iff.1 h10.symm)
 ·right
  obtain ⟨A,B,hA,hB⟩:=left_push h4 he;rw [hA,List.map_append,List.map_cons] at h10;obtain ⟨R1,R2,hR,hR1,hR2⟩:=List.map_eq_append_iff.1 h10.symm;obtain ⟨p,R3,hR3,hp,hR4⟩:=List.map_eq_cons_iff.1 hR2
  injection hp with hk hv
  have hmem:e∈es.toList:=by
   unfold leftOf at he;rw [Array.toList_filter] at he;exact (List.mem_filter.1 he).1
  have hsz:w1.heap.size=w.heap.size:=by rcases hw1 with rfl | rfl<;>rfl
  have hsame:∀ j:Nat,w1.heap[j]?=w.heap[j]?:=by
   rcases hw1 with e | e
   ·intro j;rw [e]
   ·intro j;rw [e];rfl
  have hset:∀ k:Nat,(setBlock w1 it (.mapIter (some r) since (seen.push e.born) clk)).heap[k]?=if it=k then some (.mapIter (some r) since (seen.push e.born) clk) else w.heap[k]?:=fun k=>by
   show (w1.heap.setIfInBounds it _)[k]?=_
   rw [Array.getElem?_setIfInBounds]
   by_cases hk:it=k
   ·subst hk;simp [hsz,hit]
   ·rw [if_neg hk,if_neg hk];exact hsame k
  have hit2:=hset it;rw [if_pos rfl] at hit2;have hr2:=hset r;rw [if_neg hne] at hr2;refine ⟨p,R1++R3,_,?_,?_,hk▸hv▸hrun,?_,⟨es,clk,since,clk,seen.push e.born,hr2.trans h1,h2,h3,h4,h5,hit2,h7,h9,h9,?_⟩,⟨?_,?_,?_,?_,?_⟩,?_⟩
  ·rw [hR,hR3];exact List.perm_middle
  ·have hin:(mk p.1,p.2)∈L.map (fun p=>(mk p.1,p.2)):=by
    rw [←h2];exact List.mem_map.2 ⟨e,hmem,by rw [hk,hv]⟩
   obtain ⟨q,hq,hqe⟩:=List.mem_map.1 hin
   injection hqe with e1 e2
   have:q=p:=Prod.ext (hinj _ _ e1) e2;exact this▸hq
  ·exact hk▸hv▸run_entry_at _ it r since seen es clk e hit2 (hr2.trans h1) hmem h4
  ·rw [hB,List.map_append,List.map_append,hR1,hR4]
  ·rcases hw1 with rfl | rfl<;>rfl
  ·rcases hw1 with rfl | rfl<;>rfl
  ·rcases hw1 with rfl | rfl<;>rfl
  ·show w.heap.size≤(w1.heap.setIfInBounds it _).size
   simp [hsz]
  ·intro k hk hne'
   rw [hset k,if_neg (fun e=>hne' (by rw [e]))]
  ·show (w1.heap.setIfInBounds it _).size=_
   simp [hsz]
end
end Dw
namespace Go.Proofs.YtieoifkdobcpiaaGreatDoor
open Go.Shelf Go.RowKit Go.Lib Dw
end Go.Proofs.YtieoifkdobcpiaaGreatDoor
namespace Dw
open Go Go.RowKit
end Dw
namespace Go.Proofs.YtieoifkdobcpiaaGreatDoor
open Go.RowKit Dw
theorem elemDs:Tryz.prog.underlying 24=some (.slice (Tryz.prog.elem 24)):=zb
theorem run_cutToD (A:Option Addr) (n c k:Nat) (hk:k≤c) (W:World):(Instr.slice 24 (.slice A n c) none (some (.int .i64 (k:Int))) none).run Tryz.prog W = .ok (.slice A k c) W:=by
 have h0:(0:Int)≤(k:Int)∧(k:Int)≤(c:Int):=za;rw [run_slice_h (ht:=elemDs) (kh:=.i64) (h:=(k:Int)) (h0:=h0.1) (h2:=h0.2)];have hs:(sizeOf (Tryz.prog.elem 24)).run Tryz.prog W = .ok 16 W:=zb;rw [hs];have:(A.map fun x=>x.add 0)=A:=by cases A<;>simp [Addr.add]
 simp [sliced,Result.andThen,this]
theorem zCO {P:Program} {w:World} {α:Type} {enc:α→List Value} {k:Nat} {e:TypeId} {z:Value} {bytes:Nat} {ops:Array Oper} {o:Oper} {a:Act} {K:Act→World→Prop} {Q:Exit→Act→World→Prop} {E:Prop} (hgd:o.guard=none) (s x:Operand) (t:TypeId)
  (ho:o.op = .call { callee:=.builtin .append,args:=#[s,x],argTypes:=#[t,t] }) (hT:ElemT P t e z k bytes) (base:Nat) (v:Value) (l:List α) (hs:a.eval s=v) (hown:zAQ enc k w base e v l)
  (bk c:Nat) (y:α) (hx:a.eval x = .slice (some ⟨bk,0,none⟩) 1 c) {cs:Array Value} {T:TypeId} {fr:Nat×Nat} (hblk:w.heap[bk]?=some (.cells cs T fr)) (hcs:cs.toList=enc y) (hk:(enc y).length=k) (hone:∀ u∈enc y,u.oneCell'=true)
  (hlen:l.length+1≤maxLen) (hbytes:(l.length+1)*bytes≤140737488355328) (hbase:base≤w.heap.size)
  (h:∀ g cap w',zAQ enc k w' base e (.slice (some ⟨g,0,none⟩) (l.length+1) cap) (l++[y])→w.grownBy w' v.ownBlock→K (a.put o.dst (.slice (some ⟨g,0,none⟩) (l.length+1) cap)) w') :
  if Region.wanted o (yielded ops a.tmps)=true then Oper.wp P o a w K Q else E:=by
 obtain ⟨i,hi,hz0,hz1,hz2⟩:=info_parts hT.info;refine step_append_lies w hgd s x t ho base e i z k bytes hT.ty hi hz0 hz1 hz2 hT.zs hT.pos v l.length (l.flatMap enc) hs hown ⟨bk,0,none⟩ 1 c (enc y) hx (by rw [hk,Nat.one_mul]) ?_ hone za hlen hbytes hbase w.heap.size rfl ?_
 ·rw [←hcs];exact World.news_of_block hblk
 ·intro g cap w' h1 h2 _ _
  refine h g cap w' ?_ h2
  unfold zAQ;rw [List.length_append,List.flatMap_append]
  simpa using h1
theorem own_ne_type {α β:Type} {enc:α→List Value} {enc2:β→List Value} {k k2 b b2:Nat} {e e2:TypeId} {w:World} {v v2:Value} {l:List α} {l2:List β} (h:zAQ enc k w b e v l) (h2:zAQ enc2 k2 w b2 e2 v2 l2) (hne:e≠e2):v.ownBlock=none∨v.ownBlock≠v2.ownBlock:=by
 cases hv:v.ownBlock with
 | none=>exact .inl rfl
 | some q =>
  refine .inr fun he=>?_
  obtain ⟨_,cs,hc⟩:=zBi h hv;obtain ⟨_,cs2,hc2⟩:=zBi h2 he.symm;exact zAD hc hc2 hne rfl
theorem own_ne_mapJ {α:Type} {enc:α→List Value} {k b:Nat} {e:TypeId} {w:World} {v:Value} {l:List α} (h:zAQ enc k w b e v l) {r:Nat} {f:ByteArray→Option Value} (hm:zAx Value.string w r f):v.ownBlock=none∨v.ownBlock≠some r:=by
 cases hv:v.ownBlock with
 | none=>exact .inl rfl
 | some q =>
  refine .inr fun he=>?_
  obtain ⟨_,cs,hc⟩:=zBi h hv
  injection he with he
  exact zAh hm hc he
theorem own_far {α:Type} {enc:α→List Value} {k b:Nat} {e:TypeId} {w:World} {v:Value} {l:List α} (h:zAQ enc k w b e v l) {g:Nat} {cs:Array Value} {t:TypeId} (hg:Bx w g cs t) (ht:e≠t) (i:Nat) (u:Value):zAQ enc k (w.setCell ⟨g,i,none⟩ u) b e v l :=
 ownsRow_setCell_other h (fun e2=>by
  obtain ⟨_,cs2,hcs⟩:=zBi h e2;exact zAD hcs hg ht rfl) u
end Go.Proofs.YtieoifkdobcpiaaGreatDoor
namespace Dw
open Go Go.Proofs.YtieoifkdobcpiaaGreatDoor
section
variable {P:Program} {ops:Array Oper} {Q:Exit→Act→World→Prop} {md:Region.Mode} {S:Array Bool→World→Prop}
def anyL (P:Program) (md:Region.Mode) (ops:Array Oper) (Q:Exit→Act→World→Prop) (S:Array Bool→World→Prop):Nat→Array Bool→Act→World→Prop
 | 0,l,a,w=>Region.ready md ops l=[]∧Q .normal a w
 | n+1,l,a,w=>(Region.ready md ops l=[]→Q .normal a w) ∧
  ∀ i∈Region.ready md ops l,wpOp P ops Q i (fun a' w'=>S (l.setIfInBounds i true) w'∧anyL P md ops Q S n (l.setIfInBounds i true) a' w') a w
theorem anyL_any:∀ (n:Nat) (l:Array Bool) (a:Act) (w:World),anyL P md ops Q S n l a w→wpAny P md ops Q n l a w
 | 0,_,_,_,h=>h
 | n+1,_,_,_,h=>⟨h.1,fun i hi=>wpOp_mono (fun a' w' h'=>anyL_any n _ a' w' h'.2) (h.2 i hi)⟩
def ShutL (md:Region.Mode) (ops:Array Oper) (l:Array Bool):Prop:=∀ (j:Nat) (o:Oper),ops[j]?=some o→l.getD j false=true→∀ e∈o.after,Region.binds md e=true→l.getD e.on false=true
theorem ShutL.set {l:Array Bool} (h:ShutL md ops l) {j:Nat} (hj:j∈Region.ready md ops l):ShutL md ops (l.setIfInBounds j true):=fun k o ho hk e he hb=>by
 refine getD_set_true ?_
 by_cases hkj:j=k
 ·subst hkj
  obtain ⟨_,o',ho',hall⟩:=mem_ready.1 hj;rw [ho] at ho'
  injection ho' with ho'
  subst ho';exact hall e he hb
 ·rw [getD_set_ne false hkj] at hk
  exact h k o ho hk e he hb
theorem ShutL.start (n:Nat):ShutL md ops (Array.replicate n false):=fun j o _ hj=>by
 exfalso
 rw [Array.getD_eq_getD_getElem?,Array.getElem?_replicate] at hj
 split at hj<;>simp at hj
abbrev Ahead (md:Region.Mode) (ops:Array Oper) (S:Array Bool→World→Prop) (i:Nat):World→Prop:=fun w=>∃ l,ShutL md ops l∧l.getD i true=false∧S l w
theorem anyL_first {i:Nat} {oi:Oper} {v:Value} (hi:ops[i]?=some oi) (hsel:∀ (j:Nat) (o:Oper) cs b,ops[j]?=some o→o.op≠.select cs b)
  (hQ:∀ c a w,Q (.panic c) (a.put oi.dst v) w→Q (.panic c) a w) (hSi:∀ l w,S (l.setIfInBounds i true) w↔S l w) :
  ∀ (fuel:Nat) (l:Array Bool) (a:Act) (w:World),ShutL md ops l →
   (∀ j oj,ops[j]?=some oj→j≠i→l.getD j true=false→(∀ e∈oj.after,Region.binds md e=true→e.on≠i)→oi.apart ops oj=true) →
   i∈Region.ready md ops l→YieldsIf P ops (Ahead md ops S i) oi v a→S l w →
   anyL P md ops Q S fuel (l.setIfInBounds i true) (a.put oi.dst v) w→anyL P md ops Q S (fuel+1) l a w:=by
 intro fuel
 induction fuel with
 | zero =>
  intro l a w hsh _ hr hy hS H;refine ⟨fun h=>(by rw [h] at hr;cases hr),fun j hj=>?_⟩
  by_cases hji:j=i
  ·subst hji
   exact hy.wpOp hi ⟨l,hsh,(mem_ready.1 hr).1,hS⟩ ⟨(hSi _ _).2 hS,H⟩
  ·have:=ready_mono hj hji
   rw [H.1] at this
   cases this
 | succ fuel ih =>
  intro l a w hsh hfree hr hy hS H;refine ⟨fun h=>(by rw [h] at hr;cases hr),fun j hj=>?_⟩
  by_cases hji:j=i
  ·subst hji
   exact hy.wpOp hi ⟨l,hsh,(mem_ready.1 hr).1,hS⟩ ⟨(hSi _ _).2 hS,H⟩
  ·have h1:=H.2 j (ready_mono hj hji)
   obtain ⟨hjun,oj,hoj,hall⟩:=mem_ready.1 hj
   have hnot:∀ e∈oj.after,Region.binds md e=true→e.on≠i:=fun e he hb heq=>by
    have h1:=hall e he hb;have h0:=(mem_ready.1 hr).1;rw [heq] at h1
    rcases Nat.lt_or_ge i l.size with h' | h'
    ·simp [h'] at h0 h1;rw [h0] at h1;cases h1
    ·simp [Array.getElem?_eq_none h'] at h1
   have h2:=wpOp_putIf hoj (hfree j oj hoj hji hjun hnot) (fun cs b=>hsel i oi cs b hi) (fun cs b=>hsel j oj cs b hoj) hQ hy h1
   have hfree':∀ k ok,ops[k]?=some ok→k≠i→(l.setIfInBounds j true).getD k true=false →
     (∀ e∈ok.after,Region.binds md e=true→e.on≠i)→oi.apart ops ok=true:=fun k ok hk hki hun hno=>by
    refine hfree k ok hk hki ?_ hno
    by_cases hjk:j=k
    ·subst hjk;exact hjun
    ·rw [getD_set_ne true hjk] at hun;exact hun
   refine wpOp_mono (fun a' w' h3=>?_) h2
   have hs3:S (l.setIfInBounds j true) w':=by
    have:=h3.2.1;rw [Array.setIfInBounds_comm _ _ (fun e=>hji e.symm)] at this
    exact (hSi _ _).1 this
   refine ⟨hs3,ih (l.setIfInBounds j true) a' w' (hsh.set hj) hfree' (ready_mono hr (Ne.symm hji)) h3.1 hs3 ?_⟩
   rw [Array.setIfInBounds_comm _ _ hji];exact h3.2.2
theorem zAC {i:Nat} {oi:Oper} {v:Value} {fuel:Nat} {l:Array Bool} {a:Act} {w:World} (hi:ops[i]?=some oi)
  (hs:Region.noSelect ops=true) (hf:Region.free md ops l i=true) (hr:(Region.ready md ops l).contains i=true)
  (hQ:∀ c a w,Q (.panic c) (a.put oi.dst v) w→Q (.panic c) a w) (hSi:∀ l w,S (l.setIfInBounds i true) w↔S l w) (hsh:ShutL md ops l) (hy:YieldsIf P ops (Ahead md ops S i) oi v a) (hS:S l w)
  (h:ShutL md ops (l.setIfInBounds i true)→S (l.setIfInBounds i true) w→anyL P md ops Q S fuel (l.setIfInBounds i true) (a.put oi.dst v) w):anyL P md ops Q S (fuel+1) l a w :=
 anyL_first hi (Region.noSelect_spec hs) hQ hSi fuel l a w hsh (Region.free_spec hi hf) (by simpa using hr) hy hS (h (hsh.set (by simpa using hr)) ((hSi _ _).2 hS))
def zBA (P:Program) (md:Region.Mode) (ops:Array Oper) (Q:Exit→Act→World→Prop) (S:Array Bool→World→Prop) (fuel:Nat) (l:Array Bool) (a:Act) (w:World) (rs:List Nat):Prop :=
 ∀ i∈rs,wpOp P ops Q i (fun a' w'=>S (l.setIfInBounds i true) w'∧anyL P md ops Q S fuel (l.setIfInBounds i true) a' w') a w
theorem zBA.nil {fuel:Nat} {l:Array Bool} {a:Act} {w:World}:zBA P md ops Q S fuel l a w []:=fun _ h=>by cases h
theorem zBA.cons {fuel:Nat} {l:Array Bool} {a:Act} {w:World} {i:Nat} {o:Oper} {rs:List Nat} (ho:ops[i]?=some o)
  (h:∀ K':Act→World→Prop,Shut (∀ a w,S (l.setIfInBounds i true) w→(S (l.setIfInBounds i true) w→anyL P md ops Q S fuel (l.setIfInBounds i true) a w)→K' a w)→if Region.wanted o (yielded ops a.tmps)=true then Oper.wp P o a w K' Q else K' (a.put o.dst undef) w)
  (hs:zBA P md ops Q S fuel l a w rs):zBA P md ops Q S fuel l a w (i::rs):=fun j hj=>by
 rcases List.mem_cons.1 hj with rfl | hj
 ·exact wpOp_step ho (fun K' hK=>h K' (fun a w hS hW=>hK a w ⟨hS,hW hS⟩))
 ·exact hs j hj
theorem zAl {rs:List Nat} {fuel:Nat} {l:Array Bool} {a:Act} {w:World} (hr:Region.ready md ops l=rs) (hne:rs≠[]) (h:zBA P md ops Q S fuel l a w rs):anyL P md ops Q S (fuel+1) l a w :=
 ⟨fun h0=>absurd (hr▸h0) hne,hr▸h⟩
theorem anyL_done {l:Array Bool} {a:Act} {w:World} (hr:Region.ready md ops l=[]) (h:Q .normal a w):∀ fuel,anyL P md ops Q S fuel l a w
 | 0=>⟨hr,h⟩
 | _+1=>⟨fun _=>h,by rw [hr];simp⟩
theorem zDd {id:Nat} {a:Act} {w:World} (hm:P.follows .mixedOrders=true) (hS:S (Array.replicate ops.size false) w.drew)
  (h:ShutL .any ops (Array.replicate ops.size false)→S (Array.replicate ops.size false) w.drew→anyL P .any ops Q S ops.size (Array.replicate ops.size false) a w.drew):(Code.region id ops true).wp P Q a w :=
 wp_region_any hm (anyL_any _ _ _ _ (h (ShutL.start _) hS))
theorem ShutL.back {l:Array Bool} (h:ShutL .any ops l) {i j:Nat} (hd:depB ops i j=true) (hj:l.getD j false=false):l.getD i false=false:=by
 cases hli:l.getD i false with
 | false=>rfl
 | true =>
  have h2:l.getD j false=true:=zAZ (done:=fun k=>l.getD k false) hd (fun o ho e he hb=>h i o ho hli e he hb)
  rw [hj] at h2
  cases h2
theorem getD_ft {l:Array Bool} {j:Nat} (h:l.getD j true=false):l.getD j false=false:=by
 rw [Array.getD_eq_getD_getElem?] at h ⊢
 cases he:l[j]? with
 | none=>rfl
 | some b=>rw [he] at h;simpa using h
end
end Dw
namespace Go.Proofs.YtieoifkdobcpiaaGreatDoor
open Go.RowKit Dw
abbrev wvC (RA:Option Addr) (rc r1 r2 g1 g2:Nat) (AL:Option Addr) (cL:Nat) (rs:List Rg):Array Value :=
 #[.slice RA rs.length rc,.map (some r1),.slice AL (zCi rs (fun i=>!zAF rs i) rs.length).length cL,.map (some r2),.slice (some ⟨g1,0,none⟩) rs.length rs.length,.slice (some ⟨g2,0,none⟩) rs.length rs.length]
theorem wv_eq (RA:Option Addr) (rc r1 r2 g1 g2:Nat) (AL:Option Addr) (cL:Nat) (rs:List Rg):wv RA rc r1 r2 g1 g2 AL cL rs = .agg (wvC RA rc r1 r2 g1 g2 AL cL rs):=rfl
abbrev lgC (RA:Option Addr) (rc:Nat) (rs:List Rg) (UA:Option Addr) (uc:Nat) (us:List ByteArray) (DA:Option Addr) (dc many r1 r2 g1 g2:Nat) (AL:Option Addr) (cL:Nat) (vr vi:Value):Array Value :=
 #[.slice RA rs.length rc,.slice UA us.length uc,.slice DA many dc,.slice RA rs.length rc,.map (some r1),.slice AL (zCi rs (fun i=>!zAF rs i) rs.length).length cL,.map (some r2),.slice (some ⟨g1,0,none⟩) rs.length rs.length,.slice (some ⟨g2,0,none⟩) rs.length rs.length,vr,vi]
abbrev spC (p:Int×Int):Array Value:=#[.int .i64 p.1,.int .i64 p.2]
abbrev eRun:Int×Int→List Value:=fun p=>[.int .i64 p.1,.int .i64 p.2]
abbrev eIn:Value×List Bool→List Value:=fun x=>[x.1]
theorem elRun:ElemT Tryz.prog 128 138 (.agg #[.int .i64 0,.int .i64 0]) 2 16:=⟨Tryz.underlying128,zb,rfl,zc⟩
theorem elIn:ElemT Tryz.prog 109 113 (.slice none 0 0) 1 24:=⟨Tryz.underlying109,zb,rfl,zc⟩
theorem oneRun (p:Int×Int):∀ u∈eRun p,u.oneCell'=true:=zt
def InS (w:World) (x:Value) (M:List Bool):Prop:=(x = .slice none 0 0∧M=[])∨∃ go c,x = .slice (some ⟨go,0,none⟩) M.length c∧w.heap[go]?=some (.cells (bArr M M.length) 4 (0,0))
theorem InS.one {w:World} {x:Value} {M:List Bool} (h:InS w x M):x.oneCell'=true:=by
 rcases h with ⟨rfl,_⟩ | ⟨_,_,rfl,_⟩<;>rfl
theorem InS.keep {w w':World} {x:Value} {M:List Bool} (h:InS w x M) (hk:∀ (g:Nat) (cs:Array Value),w.heap[g]?=some (Obj.cells cs 4 (0,0))→w'.heap[g]?=w.heap[g]?):InS w' x M :=
 h.imp id fun ⟨go,c,e,hg⟩=>⟨go,c,e,(hk go _ hg).trans hg⟩
theorem InS.below {w w':World} {x:Value} {M:List Bool} (h:InS w x M) (hb:Below w.heap.size w w'):InS w' x M:=h.keep fun g _ hg=>hb.block g (zAg hg)
def insM (rs:List Rg) (d:De):List Bool:=if zAk d.kd=true then inL rs d.ar else []
structure LS (W1:World) (C:Value→Value→Array Value) (L r:Nat) (f:ByteArray→Option Value) (cr ci vr vi:Value) (runs:List (Int×Int)) (ins:List (Value×List Bool)) (w:World):Prop where
 bel:Below W1.heap.size W1 w
 lo:W1.heap.size≤L
 lg:Bx w L (C cr ci) 130
 rlo:W1.heap.size≤r
 mp:zAx Value.string w r f
 rn:zAQ eRun 2 w W1.heap.size 138 vr runs
 ns:zAQ eIn 1 w W1.heap.size 113 vi ins
 el:∀ x∈ins,InS w x.1 x.2
section
variable {W1 w w':World} {C:Value→Value→Array Value} {L r:Nat} {f:ByteArray→Option Value} {cr ci vr vi v':Value} {runs:List (Int×Int)} {ins:List (Value×List Bool)}
theorem LS.below (h:LS W1 C L r f cr ci vr vi runs ins w) (hb:Below w.heap.size w w'):LS W1 C L r f cr ci vr vi runs ins w' :=
 ⟨zAb h.bel hb,h.lo,h.lg.below hb,h.rlo,h.mp.below hb,h.rn.below hb,h.ns.below hb,fun x hx=>(h.el x hx).below hb⟩
theorem LS.drewN (h:LS W1 C L r f cr ci vr vi runs ins w) (n:Nat):LS W1 C L r f cr ci vr vi runs ins (w.drewN n):=h.below (zAd (Below.refl _ _) n)
theorem LS.drew (h:LS W1 C L r f cr ci vr vi runs ins w):LS W1 C L r f cr ci vr vi runs ins w.drew:=h.drewN 1
theorem zBO {g:Nat} {cs:Array Value} {T e:TypeId} {α:Type} {enc:α→List Value} {k b:Nat} {v:Value} {l:List α} (h:Bx w g cs T) (ho:zAQ enc k w b e v l) (hne:T≠e) (hg:w.grownBy w' v.ownBlock):Bx w' g cs T:=by
 show w'.heap[g]?=_
 rw [hg.block g h.lt fun e2=>by
  obtain ⟨_,cs2,hc⟩:=zBi ho e2.symm;exact zAD h hc hne rfl]
 exact h
theorem map_grown {f:ByteArray→Option Value} {α:Type} {enc:α→List Value} {k b:Nat} {e:TypeId} {v:Value} {l:List α} (h:zAx Value.string w r f) (ho:zAQ enc k w b e v l) (hg:w.grownBy w' v.ownBlock):zAx Value.string w' r f :=
 h.keep (hg.block r h.lt fun e2=>by
  obtain ⟨_,cs2,hc⟩:=zBi ho e2.symm;exact zAh h hc rfl)
theorem zDk {α:Type} {enc:α→List Value} {k b:Nat} {e:TypeId} {v x:Value} {l:List α} {M:List Bool} (h:InS w x M) (ho:zAQ enc k w b e v l) (hne:4≠e) (hg:w.grownBy w' v.ownBlock):InS w' x M :=
 h.keep fun g cs hc=>hg.block g (zAg hc) fun e2=>by
  obtain ⟨_,cs2,hc2⟩:=zBi ho e2.symm;exact zAD hc hc2 hne rfl
theorem own_base {α:Type} {enc:α→List Value} {k b:Nat} {e:TypeId} {v:Value} {l:List α} (ho:zAQ enc k w b e v l):∀ q,v.ownBlock=some q→b≤q:=fun _q hq=>(zBi ho hq).1
theorem LS.pushR (h:LS W1 C L r f cr ci vr vi runs ins w) {p:Int×Int} (hn:zAQ eRun 2 w' W1.heap.size 138 v' (runs++[p])) (hg:w.grownBy w' vr.ownBlock):LS W1 C L r f cr ci v' vi (runs++[p]) ins w' :=
 ⟨h.bel.grown hg h.bel.size (own_base h.rn),h.lo,zBO h.lg h.rn zc hg,h.rlo,map_grown h.mp h.rn hg,hn,h.ns.grown hg (own_ne_type h.ns h.rn zc),fun x hx=>zDk (h.el x hx) h.rn zc hg⟩
theorem LS.pushI (h:LS W1 C L r f cr ci vr vi runs ins w) {x:Value×List Bool} (hx:InS w x.1 x.2) (hn:zAQ eIn 1 w' W1.heap.size 113 v' (ins++[x])) (hg:w.grownBy w' vi.ownBlock):LS W1 C L r f cr ci vr v' runs (ins++[x]) w' :=
 ⟨h.bel.grown hg h.bel.size (own_base h.ns),h.lo,zBO h.lg h.ns zc hg,h.rlo,map_grown h.mp h.ns hg,h.rn.grown hg (own_ne_type h.rn h.ns zc),hn,fun y hy=>by
  rcases List.mem_append.1 hy with hy | hy
  ·exact zDk (h.el y hy) h.ns zc hg
  ·rw [List.mem_singleton.1 hy];exact zDk hx h.ns zc hg⟩
theorem LS.set (h:LS W1 C L r f cr ci vr vi runs ins w) {i:Nat} {u cr' ci':Value} (hC:(C cr ci).setIfInBounds i u=C cr' ci'):LS W1 C L r f cr' ci' vr vi runs ins (w.setCell ⟨L,i,none⟩ u) :=
 ⟨h.bel.setCell h.lo _,h.lo,by rw [←hC];exact h.lg.set i u,h.rlo,h.mp.setCell (zAh h.mp h.lg).symm _,own_far h.rn h.lg zc i u,own_far h.ns h.lg zc i u,fun x hx=>(h.el x hx).keep fun g cs hc=>Below.heap_setCell _ _ _ _ (zAD hc h.lg zc)⟩
theorem LS.far (h:LS W1 C L r f cr ci vr vi runs ins w) {g i:Nat} {cs:Array Value} {T:TypeId} {u:Value} (hg:Bx w g cs T) (hlo:W1.heap.size≤g) (h1:T≠130) (h3:T≠113) (h4:T≠4) (hr:vr.ownBlock≠some g):LS W1 C L r f cr ci vr vi runs ins (w.setCell ⟨g,i,none⟩ u) :=
 ⟨h.bel.setCell hlo _,h.lo,h.lg.far (show L≠g from zAD h.lg hg (fun e=>h1 e.symm)) _,h.rlo,h.mp.setCell (zAh h.mp hg).symm _,ownsRow_setCell_other h.rn hr _,own_far h.ns hg (fun e=>h3 e.symm) i u,fun x hx=>(h.el x hx).keep fun _g2 _cs2 hc=>Below.heap_setCell _ _ _ _ (zAD hc hg (fun e=>h4 e.symm))⟩
theorem LS.upd {f':ByteArray→Option Value} (h:LS W1 C L r f cr ci vr vi runs ins w) (hm:zAx Value.string w' r f') (hg:w.grownBy w' (some r)):LS W1 C L r f' cr ci vr vi runs ins w' :=
 ⟨h.bel.grown hg h.bel.size (fun k hk=>by injection hk with hk;rw [←hk];exact h.rlo),h.lo,by
  show w'.heap[L]?=_
  rw [hg.block L h.lg.lt (by simp;exact zAh h.mp h.lg)]
  exact h.lg,h.rlo,hm,h.rn.grown hg (own_ne_mapJ h.rn h.mp),h.ns.grown hg (own_ne_mapJ h.ns h.mp),fun x hx=>(h.el x hx).keep fun g cs hc=>hg.block g (zAg hc) (by simp;exact zAh h.mp hc)⟩
end
theorem chkD_kind {rs:List Rg} {us:List ByteArray} {pre:List De} {d:De} (h:chkD rs us pre d=0):(1≤d.kd∧d.kd≤5)∧(zAk d.kd=true→chkA rs d.ar=0):=by
 unfold chkD at h
 split at h
 ·cases h
 split at h
 ·cases h
 split at h
 ·cases h
 split at h
 ·cases h
 split at h
 ·cases h
 next hk =>
 split at h
 ·cases h
 refine ⟨za,fun hg=>?_⟩
 rw [if_pos hg] at h;unfold giftF at h
 split at h
 ·cases h
 split at h
 ·cases h
 split at h
 ·next h1=>exact absurd h h1
 split at h
 ·next h1=>exact absurd h h1
 next ha=>simpa using ha
theorem chkT_kind {rs:List Rg} {us:List ByteArray} {ds:List De} (h:zCH rs us ds=0):∀ d∈ds,(1≤d.kd∧d.kd≤5)∧(zAk d.kd=true→chkA rs d.ar=0):=fun d hd=>by
 obtain ⟨i,hi,rfl⟩:=List.getElem_of_mem hd;exact chkD_kind ((zBl h).2 i hi)
theorem fldC_p1 (W:World):(Instr.field 135 (.agg (fldC 1)) 5).run Tryz.prog W = .ok (.bool (zAk 1)) W:=zb
theorem fldC_p2 (W:World):(Instr.field 135 (.agg (fldC 2)) 5).run Tryz.prog W = .ok (.bool (zAk 2)) W:=zb
theorem fldC_p3 (W:World):(Instr.field 135 (.agg (fldC 3)) 5).run Tryz.prog W = .ok (.bool (zAk 3)) W:=zb
theorem fldC_p4 (W:World):(Instr.field 135 (.agg (fldC 4)) 5).run Tryz.prog W = .ok (.bool (zAk 4)) W:=zb
theorem fldC_p5 (W:World):(Instr.field 135 (.agg (fldC 5)) 5).run Tryz.prog W = .ok (.bool (zAk 5)) W:=zb
theorem fldC_place (k:Int) (h:1≤k∧k≤5) (W:World):(Instr.field 135 (.agg (fldC k)) 5).run Tryz.prog W = .ok (.bool (zAk k)) W:=by
 have h5:k=1∨k=2∨k=3∨k=4∨k=5:=za
 rcases h5 with rfl | rfl | rfl | rfl | rfl
 ·exact fldC_p1 W
 ·exact fldC_p2 W
 ·exact fldC_p3 W
 ·exact fldC_p4 W
 ·exact fldC_p5 W
theorem tMapE:Tryz.prog.underlying 106=some (.map 9 3):=Tryz.underlying106
abbrev endM (l:List De):ByteArray→Option Value:=fun x=>(endAt l x).map (Value.int .i64)
theorem endM_nil:endM []=fun _=>none:=rfl
theorem endM_skip {l:List De} {d:De} (h:d.kd≠4):endM (l++[d])=endM l:=by
 funext x
 show (endAt (l++[d]) x).map _=(endAt l x).map _
 rw [endAt_snoc,if_neg (fun hh=>h (endsB_true.1 hh).1)]
theorem endM_push {l:List De} {d:De} (h:d.kd=4):endM (l++[d])=fun x=>if x=d.ot then some (.int .i64 d.bg) else endM l x:=by
 funext x
 show (endAt (l++[d]) x).map _=_
 rw [endAt_snoc]
 by_cases hx:x=d.ot
 ·rw [if_pos hx,if_pos (endsB_true.2 ⟨h,hx.symm⟩)];rfl
 ·rw [if_neg hx,if_neg (fun hh=>hx (endsB_true.1 hh).2.symm)]
def NumV (w:World) (v:Value) (q:Rat):Prop:=∃ A c A2 c2,v=raV false A c q.num.natAbs A2 c2 q.den∧Nt w A c q.num.natAbs∧Nt w A2 c2 q.den
theorem NumV.below {w w':World} {v:Value} {q:Rat} (h:NumV w v q) (hb:Below w.heap.size w w'):NumV w' v q:=by
 obtain ⟨A,c,A2,c2,e,h1,h2⟩:=h;exact ⟨A,c,A2,c2,e,h1.below hb,h2.below hb⟩
theorem no_map_cell {w:World} {g:Nat} {es:Array MapEntry} {clk:Nat} (h:w.heap[g]?=some (.map es clk)) (o:Nat):w.cell? ⟨g,o,none⟩=none:=by
 simp [World.cell?,h]
theorem no_iter_cell {w:World} {g:Nat} {r:Option Nat} {s c:Nat} {a:Array Nat} (h:w.heap[g]?=some (.mapIter r s a c)) (o:Nat):w.cell? ⟨g,o,none⟩=none:=by
 simp [World.cell?,h]
theorem NumV.grown {w w':World} {v:Value} {q:Rat} {g:Nat} (h:NumV w v q) (hg:w.grownBy w' (some g)) (hn:∀ o,w.cell? ⟨g,o,none⟩=none):NumV w' v q:=by
 obtain ⟨A,c,A2,c2,e,h1,h2⟩:=h
 have key:∀ b o x,w.cell? ⟨b,o,none⟩=some x→some b≠some g:=fun b o x hx e=>by
  injection e with e
  subst e;rw [hn o] at hx
  cases hx
 refine ⟨A,c,A2,c2,e,⟨fun hl=>?_,h1.cap⟩,⟨fun hl=>?_,h2.cap⟩⟩
 ·obtain ⟨b,o,rfl,hc⟩:=h1.rd hl
  exact ⟨b,o,rfl,fun i hi=>hg.cell (hc i hi) (key b _ _ (hc i hi))⟩
 ·obtain ⟨b,o,rfl,hc⟩:=h2.rd hl
  exact ⟨b,o,rfl,fun i hi=>hg.cell (hc i hi) (key b _ _ (hc i hi))⟩
def zAA (w:World) (g:Nat) (f:zBm):Prop :=
 ∃ L:List (ByteArray×Value),PMap Value.string w g L∧(∀ p,f p≠0↔∃ v,(p,v)∈L)∧∀ p v,(p,v)∈L→NumV w v (f p)
theorem pm_nocell {w:World} {g:Nat} {L:List (ByteArray×Value)} (h:PMap Value.string w g L) (o:Nat):w.cell? ⟨g,o,none⟩=none:=by
 obtain ⟨es,clk,h1,_⟩:=h;exact no_map_cell h1 o
section
variable {w w':World} {g:Nat} {f:zBm} {p:ByteArray} {v:Value} {q:Rat}
theorem zAA.nocell (h:zAA w g f) (o:Nat):w.cell? ⟨g,o,none⟩=none:=by
 obtain ⟨L,h1,_⟩:=h;exact pm_nocell h1 o
theorem zAA.below (h:zAA w g f) (hb:Below w.heap.size w w'):zAA w' g f:=by
 obtain ⟨L,h1,h2,h3⟩:=h;exact ⟨L,h1.below hb,h2,fun p v hp=>(h3 p v hp).below hb⟩
theorem zAA.new (w:World):zAA (w.alloc (.map #[] 0)) w.heap.size (fun _=>0) :=
 ⟨[],PMap.new _ _,fun p=>⟨fun h=>absurd rfl h,fun ⟨_,h⟩=>by cases h⟩,fun _ _ h=>by cases h⟩
theorem zAA.is (h:zAA w g f):∃ F,zAx Value.string w g F∧∀ p,(f p=0∧F p=none)∨(f p≠0∧∃ v,F p=some v∧NumV w v (f p)):=by
 obtain ⟨L,h1,h2,h3⟩:=h;refine ⟨_,h1.is,fun p=>?_⟩
 cases hl:zAR L p with
 | none =>
  refine .inl ⟨Classical.byContradiction fun hn=>?_,rfl⟩
  obtain ⟨v,hv⟩:=(h2 p).1 hn;rw [lookE_none] at hl;exact hl _ hv rfl
 | some v =>
  have hm:=(lookE_mem h1.nodup).1 hl;exact .inr ⟨(h2 p).2 ⟨v,hm⟩,v,rfl,h3 p v hm⟩
end
theorem tMapP:Tryz.prog.underlying 80=some (.map 9 89):=Tryz.underlying80
section
variable {w:World} {g:Nat} {f:zBm}
theorem run_put (h:zAA w g f) (p:ByteArray) (v:Value) (q:Rat) (hv:NumV w v q) (hq:q≠0) :
  ∃ w',(Instr.mapUpdate 80 (.map (some g)) (.string p) v).run Tryz.prog w = .ok () w'∧zAA w' g (upH f p q)∧w.grownBy w' (some g)∧w'.heap.size=w.heap.size:=by
 obtain ⟨L,h1,h2,h3⟩:=h;obtain ⟨w',hr,hp,hg,hs⟩:=run_update_pm tMapP kStr h1 p v
 have hm:∀ p' v',(p',v')∈putE L p v↔if p'=p then v'=v else (p',v')∈L:=fun p' v'=>by
  rw [←lookE_mem hp.nodup,lookE_put]
  split
  ·constructor
   ·intro e;injection e with e;exact e.symm
   ·intro e;rw [e]
  ·exact lookE_mem h1.nodup
 refine ⟨w',hr,⟨_,hp,fun p'=>?_,fun p' v' hp'=>?_⟩,hg,hs⟩
 ·by_cases he:p'=p
  ·subst he
   rw [zBD];exact ⟨fun _=>⟨v,(hm _ _).2 (by rw [if_pos rfl])⟩,fun _=>hq⟩
  ·rw [zAL _ _ he,h2]
   constructor
   ·rintro ⟨v',hv'⟩;exact ⟨v',(hm _ _).2 (by rw [if_neg he];exact hv')⟩
   ·rintro ⟨v',hv'⟩
    have:=(hm _ _).1 hv';rw [if_neg he] at this;exact ⟨v',this⟩
 ·have:=(hm _ _).1 hp'
  by_cases he:p'=p
  ·subst he
   rw [if_pos rfl] at this;rw [zBD,this];exact hv.grown hg fun o=>pm_nocell h1 o
  ·rw [if_neg he] at this
   rw [zAL _ _ he];exact (h3 _ _ this).grown hg fun o=>pm_nocell h1 o
theorem run_del (h:zAA w g f) (p:ByteArray) (ty:TypeId) :
  ∃ w',(Builtin.delete_ #[80,9] ty #[.map (some g),.string p]).run Tryz.prog w = .ok (.tuple #[]) w'∧zAA w' g (upH f p 0)∧w.grownBy w' (some g)∧w'.heap.size=w.heap.size:=by
 obtain ⟨L,h1,h2,h3⟩:=h;obtain ⟨w',hr,hp,hg,hs⟩:=run_delete_pm (ty:=ty) tMapP kStr h1 p
 have hm:∀ p' v',(p',v')∈delE L p↔p'≠p∧(p',v')∈L:=fun p' v'=>by
  unfold delE;rw [List.mem_filter,decide_eq_true_iff,and_comm]
 refine ⟨w',hr,⟨_,hp,fun p'=>?_,fun p' v' hp'=>?_⟩,hg,hs⟩
 ·by_cases he:p'=p
  ·subst he
   rw [zBD];exact ⟨fun h=>absurd rfl h,fun ⟨v,hv⟩=>absurd rfl ((hm _ _).1 hv).1⟩
  ·rw [zAL _ _ he,h2]
   constructor
   ·rintro ⟨v',hv'⟩;exact ⟨v',(hm _ _).2 ⟨he,hv'⟩⟩
   ·rintro ⟨v',hv'⟩;exact ⟨v',((hm _ _).1 hv').2⟩
 ·obtain ⟨he,hin⟩:=(hm _ _).1 hp'
  rw [zAL _ _ he];exact (h3 _ _ hin).grown hg fun o=>pm_nocell h1 o
end
theorem zDu {B:Nat} {w0 w w':World} {g:Nat} (h:Below B w0 w) (hB:B≤w.heap.size) (hg:w.grownBy w' (some g)) (hlo:B≤g):Below B w0 w' :=
 h.grown hg hB fun k hk=>by injection hk with hk;rw [←hk];exact hlo
def tooB (n d most:Nat):Bool:=decide (most<(zCI n).size) || decide (most<(zCI d).size)
def raOut (n d most:Nat):Value:=if tooB n d most=true then .tuple #[.agg #[.string ⟨#[]⟩,.string ⟨#[]⟩],.bool false] else .tuple #[.agg #[.string (zCI n),.string (zCI d)],.bool true]
abbrev zRt:Array Value:=#[.string ⟨#[]⟩,.string ⟨#[]⟩]
theorem Ratio_c (A A2:Option Addr) (c c2 n d most:Nat) (w:World) (h:Nt w A c n) (h2:Nt w A2 c2 d) (hn:(zAc B32 n).length≤100000000) (hd:(zAc B32 d).length≤100000000) :
  Calls Tryz.prog 74 #[raV false A c n A2 c2 d,.int .i64 (most:Int)] w (zAe (raOut n d most) w):=by
 have HT1:=zq (fun W (x:Nt W A c n)=>text_c A c n W x hn)
 have HT2:=zq (fun W (x:Nt W A2 c2 d)=>text_c A2 c2 d W x hd)
 have HRO:Hid (raOut n d most=if (decide (most<(zCI n).size) || decide (most<(zCI d).size))=true then .tuple #[.agg #[.string ⟨#[]⟩,.string ⟨#[]⟩],.bool false] else .tuple #[.agg #[.string (zCI n),.string (zCI d)],.bool true]):=rfl
 generalize raOut n d most=ro at *;generalize zCI n=sn at *;generalize zCI d=sd at *;have HX0:Hid (Bx ((w.alloc (.cells (raC A c n A2 c2 d) 89)).alloc (.cells zRt 40)) w.heap.size (raC A c n A2 c2 d) 89):=(Bx.new _ _ _).alloc _;have HZ0:Hid (Bx ((w.alloc (.cells (raC A c n A2 c2 d) 89)).alloc (.cells zRt 40)) (w.heap.size+1) zRt 40):=Bx.new1 _ _ _ _;have HB0:Hid (Below w.heap.size w ((w.alloc (.cells (raC A c n A2 c2 d) 89)).alloc (.cells zRt 40))):=((Below.refl w.heap.size w).alloc (Nat.le_refl _) _).alloc zd _;obtain ⟨W,hW⟩:∃ W,W=((w.alloc (.cells (raC A c n A2 c2 d) 89)).alloc (.cells zRt 40)):=⟨_,rfl⟩;rw [←hW] at HX0 HZ0 HB0;have g1:=zq (h.below HB0.o);have g2:=zq (h2.below HB0.o);clear hn hd h h2
 go_enter Tryz.func74,Tryz.ntmps74
 go_upto_region 1 with fail
 rw [←hW];clear hW;have a0:=HX0.o.cell (i:=0) rfl;have a1:=HX0.o.cell (i:=1) rfl;have a2:=HX0.o.cell (i:=2) rfl
 go_region_held3 (fun w'=>(w'.cell? ⟨w.heap.size,0,none⟩=some (.bool false)∧w'.cell? ⟨w.heap.size,1,none⟩=some (.slice A (zAc B32 n).length c)∧w'.cell? ⟨w.heap.size,2,none⟩=some (.slice A2 (zAc B32 d).length c2)))
  ((refine ⟨?_,?_,?_⟩<;>first | with_reducible assumption | go_simp))
  (first
   | ((go_at_call 115;(with_reducible refine (HT1.o W.drew g1.out.drew).mono ?_);rintro x w1 ⟨rfl,hb⟩;have HB1:=zq ((zAd HB0.o 1).trans (hb.mono HB0.o.size));have HX1:=zq ((HX0.o.drew).below hb);have HZ1:=zq ((HZ0.o.drew).below hb);have g21:=zq ((g2.out.drew).below hb);clear hb;clear a0 a1 a2;have a0:=HX1.o.cell (i:=0) rfl;have a1:=HX1.o.cell (i:=1) rfl;have a2:=HX1.o.cell (i:=2) rfl))
   | ((go_at_call 115;(with_reducible refine (HT2.o w1 g21.out).mono ?_);rintro x w2 ⟨rfl,hb⟩;have HB2:=zq (zAb HB1.o hb);have HX2:=zq (HX1.o.below hb);have HZ2:=zq (HZ1.o.below hb);clear hb;clear a0 a1 a2;have a0:=HX2.o.cell (i:=0) rfl;have a1:=HX2.o.cell (i:=1) rfl;have a2:=HX2.o.cell (i:=2) rfl)))
 have z0:=HZ2.o.cell (i:=0) rfl;have z1:=HZ2.o.cell (i:=1) rfl;have zf:=HZ2.o.frozen;have zl:=HZ2.o.lt;have hsx:=HX2.o.lt;clear HX0 HZ0 HB0 HX1 HZ1 HB1 g1 g2 g21 HT1 HT2
 cases hl:decide (most<sn.size) || decide (most<sd.size) with
 | true =>
  have HR:Hid (ro = .tuple #[.agg #[.string ⟨#[]⟩,.string ⟨#[]⟩],.bool false]):=by show _=_;rw [HRO.o,if_pos hl]
  by_cases h1:most<sn.size
  ·have e1:decide (most<sn.size)=true:=decide_eq_true h1
   clear hl h1;go_wp2;refine bodyPost_ret (v:=.tuple #[.agg zRt,.bool false]) (by simp [results,Tryz.results74,go_sem,z0,z1]) rfl ⟨by rw [HR.o],(HB2.o.setCell zd _).setCell zd _⟩
  ·have e1:decide (most<sn.size)=false:=decide_eq_false h1
   rw [e1,Bool.false_or] at hl;clear h1;go_wp2;refine bodyPost_ret (v:=.tuple #[.agg zRt,.bool false]) (by simp [results,Tryz.results74,go_sem,z0,z1]) rfl ⟨by rw [HR.o],(HB2.o.setCell zd _).setCell zd _⟩
 | false =>
  have HR:Hid (ro = .tuple #[.agg #[.string sn,.string sd],.bool true]):=by show _=_;rw [HRO.o,if_neg (by rw [hl];simp)]
  rw [Bool.or_eq_false_iff] at hl;obtain ⟨e1,e2⟩:=hl;go_wp2;refine bodyPost_ret (v:=.tuple #[.agg #[.string sn,.string sd],.bool true]) (by simp [results,Tryz.results74,go_sem,z0,z1]) rfl ⟨by rw [HR.o],(HB2.o.setCell zd _).setCell zd _⟩
end Go.Proofs.YtieoifkdobcpiaaGreatDoor
