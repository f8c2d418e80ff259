/- Parts of the proof, joined: Maps that are ranged over: a map as the list of its entries; a new val. -/
import Derived.Maps.RangeRun
import Derived.Test.YtieoifkdobcpiaaGreatDoorSm32
set_option maxRecDepth 100000
set_option maxHeartbeats 8000000
namespace Dw
open Go Go.RowKit
open Go.ChangeMaps (setBlock)
def PMap {κ:Type} [DecidableEq κ] (mk:κ→Value) (w:World) (r:Nat) (L:List (κ×Value)):Prop :=
 ∃ (es:Array MapEntry) (clk:Nat),w.heap[r]?=some (.map es clk)∧es.toList.map (fun e=>(e.key,e.val))=L.map (fun p=>(mk p.1,p.2))∧(L.map (·.1)).Nodup∧(es.toList.map (·.born)).Nodup∧∀ e∈es.toList,e.born<clk
section
variable {κ:Type} [DecidableEq κ] {mk:κ→Value} {w w':World} {r:Nat} {L:List (κ×Value)}
theorem PMap.is (h:PMap mk w r L):zAA mk w r (zBh L):=by
 obtain ⟨es,clk,h1,h2,_⟩:=h;exact ⟨es,clk,L,h1,h2,fun _=>rfl⟩
theorem PMap.lt (h:PMap mk w r L):r<w.heap.size:=h.is.lt
theorem PMap.keep (h:PMap mk w r L) (hk:w'.heap[r]?=w.heap[r]?):PMap mk w' r L:=by
 obtain ⟨es,clk,hr,rest⟩:=h;exact ⟨es,clk,hk.trans hr,rest⟩
theorem PMap.below (h:PMap mk w r L) (hb:Below w.heap.size w w'):PMap mk w' r L:=h.keep (hb.block r h.lt)
theorem PMap.new (mk:κ→Value) (w:World):PMap mk (w.alloc (.map #[] 0)) w.heap.size [] :=
 ⟨#[],0,cS w _,rfl,List.nodup_nil,List.nodup_nil,fun _ h=>j2⟩
theorem PMap.nodup (h:PMap mk w r L):(L.map (·.1)).Nodup:=by
 obtain ⟨_,_,_,_,h,_⟩:=h;exact h
def putE (L:List (κ×Value)) (k:κ) (v:Value):List (κ×Value):=if (zBh L k).isSome then L.map (fun p=>if p.1=k then (k,v) else p) else L++[(k,v)]
def delE (L:List (κ×Value)) (k:κ):List (κ×Value):=L.filter fun p=>decide (p.1≠k)
theorem lookE_none {L:List (κ×Value)} {k:κ}:zBh L k=none↔∀ p∈L,p.1≠k:=by
 unfold zBh;rw [Option.map_eq_none_iff,List.find?_eq_none]
 constructor
 ·exact fun h p hp e=>h p hp (by simp [e])
 ·exact fun h p hp e=>h p hp (by simpa using (of_decide_eq_true e).symm)
theorem lookE_mem {L:List (κ×Value)} (hn:(L.map (·.1)).Nodup) {k:κ} {v:Value}:zBh L k=some v↔(k,v)∈L:=by
 induction L with
 | nil=>simp [zBh]
 | cons a t ih =>
  rw [eG] at hn;obtain ⟨h1,h2⟩:=List.nodup_cons.1 hn
  by_cases he:k=a.1
  ·subst he
   have e:zBh (a::t) a.1=some a.2:=by simp [zBh]
   rw [e]
   constructor
   ·intro h
    injection h with h
    subst h;exact aX
   ·intro h
    rcases List.mem_cons.1 h with h | h
    ·rw [←h]
    ·exact absurd (eY (f:=(·.1)) h) h1
  ·have e:zBh (a::t) k=zBh t k:=by simp [zBh,he]
   rw [e,ih h2,List.mem_cons]
   constructor
   ·exact .inr
   ·rintro (h | h)
    ·exact absurd (by rw [←h]) he
    ·exact h
theorem putE_keys {L:List (κ×Value)} (hn:(L.map (·.1)).Nodup) (k:κ) (v:Value):((putE L k v).map (·.1)).Nodup:=by
 unfold putE
 split
 ·have:(L.map fun p=>if p.1=k then (k,v) else p).map (·.1)=L.map (·.1):=by
   rw [List.map_map];refine List.map_congr_left fun p _=>?_
   by_cases hp:p.1=k
   ·simp [hp]
   ·simp [hp]
  rw [this];exact hn
 ·next h =>
  rw [eQ,List.nodup_append];refine ⟨hn,ze,fun a ha b hb=>?_⟩
  simp at hb
  subst hb;obtain ⟨p,hp,rfl⟩:=List.mem_map.1 ha;exact lookE_none.1 zn p hp
theorem lookE_put (L:List (κ×Value)) (k:κ) (v:Value) (k':κ):zBh (putE L k v) k'=if k'=k then some v else zBh L k':=by
 unfold putE
 split
 ·next h =>
  induction L with
  | nil=>simp [zBh] at h
  | cons a t ih =>
   by_cases ha:a.1=k
   ·by_cases hk:k'=k
    ·subst hk;simp [zBh,ha]
    ·have e:zBh ((a::t).map fun p=>if p.1=k then (k,v) else p) k'=zBh (t.map fun p=>if p.1=k then (k,v) else p) k':=by simp [zBh,ha,hk]
     have e2:zBh (a::t) k'=zBh t k':=by
      have:k'≠a.1:=fun e=>hk (e.trans ha)
      simp [zBh,this]
     rw [e,e2,aC hk]
     have key:∀ (t:List (κ×Value)),zBh (t.map fun p=>if p.1=k then (k,v) else p) k'=zBh t k':=fun t=>by
      induction t with
      | nil=>rfl
      | cons b t ih =>
       by_cases hb:b.1=k
       ·have h9:k'≠b.1:=fun e=>hk (e.trans hb)
        simp only [eG,hb,if_true];simp [zBh,hk,h9]
        simpa [zBh] using ih
       ·by_cases hb2:k'=b.1
        ·simp [zBh,hb,hb2]
        ·simp [zBh,hb,hb2]
         simpa [zBh] using ih
     exact key t
   ·have e1:zBh (a::t) k=zBh t k:=by
     have:k≠a.1:=fun e=>ha e.symm
     simp [zBh,this]
    rw [e1] at h;have ih:=ih h
    by_cases hka:k'=a.1
    ·have:k'≠k:=fun e=>ha (hka▸e)
     simp [zBh,ha,hka]
    ·have e3:zBh ((a::t).map fun p=>if p.1=k then (k,v) else p) k'=zBh (t.map fun p=>if p.1=k then (k,v) else p) k':=by simp [zBh,ha,hka]
     have e4:zBh (a::t) k'=zBh t k':=by simp [zBh,hka]
     rw [e3,e4,ih]
 ·next h=>exact lookE_push zn k'
end
section
variable {κ:Type} [DecidableEq κ]
theorem modify_map {v:Value} {k:κ}:∀ {L:List (κ×Value)} {i:Nat},(L.map (·.1)).Nodup→(L[i]?).map (·.1)=some k→L.modify i (fun _=>(k,v))=L.map (fun p=>if p.1=k then (k,v) else p)
 | [],_,_,h=>by simp at h
 | a::t,0,hn,h=>by
  rw [eG] at hn;obtain ⟨h1,h2⟩:=List.nodup_cons.1 hn;have ha:a.1=k:=zn
  have:t.map (fun p=>if p.1=k then (k,v) else p)=t:=by
   conv=>rhs;rw [←List.map_id t]
   refine List.map_congr_left fun p hp=>?_
   have:p.1≠k:=fun e=>h1 (by rw [ha,←e];exact eY (f:=(·.1)) hp)
   simp [this]
  simp [ha,this]
 | a::t,i+1,hn,h=>by
  rw [eG] at hn;obtain ⟨h1,h2⟩:=List.nodup_cons.1 hn;have ih:=modify_map (v:=v) (k:=k) (L:=t) (i:=i) h2 zn
  have ha:a.1≠k:=fun e=>by
   have h9:(t[i]?).map (·.1)=some k:=zn;obtain ⟨p,hp,hpk⟩:=Option.map_eq_some_iff.1 h9;exact h1 (by rw [e,←hpk];exact eY (f:=(·.1)) (List.mem_of_getElem? hp))
  simp [ha,ih]
theorem erase_map {k:κ}:∀ {L:List (κ×Value)} {i:Nat},(L.map (·.1)).Nodup→(L[i]?).map (·.1)=some k→L.eraseIdx i=delE L k
 | [],_,_,h=>by simp at h
 | a::t,0,hn,h=>by
  rw [eG] at hn;obtain ⟨h1,h2⟩:=List.nodup_cons.1 hn;have ha:a.1=k:=zn
  have:delE t k=t:=List.filter_eq_self.2 fun p hp=>by
   have:p.1≠k:=fun e=>h1 (by rw [ha,←e];exact eY (f:=(·.1)) hp)
   simpa using this
  have e:delE (a::t) k=delE t k:=by simp [delE,ha]
  rw [e,this];rfl
 | a::t,i+1,hn,h=>by
  rw [eG] at hn;obtain ⟨h1,h2⟩:=List.nodup_cons.1 hn;have ih:=erase_map (k:=k) (L:=t) (i:=i) h2 zn
  have ha:a.1≠k:=fun e=>by
   have h9:(t[i]?).map (·.1)=some k:=zn;obtain ⟨p,hp,hpk⟩:=Option.map_eq_some_iff.1 h9;exact h1 (by rw [e,←hpk];exact eY (f:=(·.1)) (List.mem_of_getElem? hp))
  have e:delE (a::t) k=a::delE t k:=by simp [delE,ha]
  rw [e,List.eraseIdx_cons_succ,ih]
theorem delE_none {L:List (κ×Value)} {k:κ} (h:zBh L k=none):delE L k=L:=List.filter_eq_self.2 fun p hp=>by simpa using lookE_none.1 h p hp
end
section
variable {P:Program} {κ:Type} [DecidableEq κ] {mk:κ→Value} {T K E:TypeId} {w:World} {r:Nat} {L:List (κ×Value)}
theorem run_update_pm (hT:P.underlying T=some (.map K E)) (hK:KeyT P K mk) (h:PMap mk w r L) (k:κ) (v:Value) :
  ∃ w',(Instr.mapUpdate T (.map (some r)) (mk k) v).run P w = .ok () w'∧PMap mk w' r (putE L k v)∧w.grownBy w' (some r)∧w'.heap.size=w.heap.size:=by
 obtain ⟨es,clk,hr,hL,hn,hb,hc⟩:=h;have hrl:r<w.heap.size:=(Array.getElem?_eq_some_iff.1 hr).1;obtain ⟨d,hd,hs⟩:=hK.same;obtain ⟨o,h1,h2,h3⟩:=zDV hs k es.toList L 0 hL;have hg:(getObj r).run P w = .ok (.map es clk) w:=jp;have hset:∀ (es':Array MapEntry) (c':Nat),(setObj r (.map es' c')).run P w = .ok () { w with heap:=w.heap.setIfInBounds r (.map es' c') }:=fun es' c'=>by simp [setObj,Sem.run,hr]
 have hfk:(Instr.findKey K (mk k) es.toList).run P w = .ok o w:=by
  simp [Instr.findKey,eE hd,h1]
 have hgrow:∀ (es':Array MapEntry) (c':Nat),w.grownBy { w with heap:=w.heap.setIfInBounds r (.map es' c') } (some r):=fun es' c' =>
  ⟨rfl,rfl,rfl,ze,fun i hi hne=>by simp only [Array.getElem?_setIfInBounds];rw [aC (fun e=>hne (by rw [e]))]⟩
 have hget:∀ (es':Array MapEntry) (c':Nat),({ w with heap:=w.heap.setIfInBounds r (.map es' c') }:World).heap[r]?=some (.map es' c'):=fun es' c'=>by
  simp [hrl]
 have hlen:es.size=L.length:=qn
 cases o with
 | none =>
  have hnone:zBh L k=none:=by simpa using h2.symm
  have hp:putE L k v=L++[(k,v)]:=by unfold putE;rw [hnone];rfl
  refine ⟨_,?_,⟨_,_,hget (es.push { key:=mk k,val:=v,born:=clk }) (clk+1),?_,?_,?_,?_⟩,hgrow _ _,ze⟩
  ·simp [Instr.mapUpdate,eE hT,hg,hK.chk,hfk,hset]
  ·rw [hp];simp [hL]
  ·exact putE_keys hn k v
  ·simp only [Array.toList_push,eQ,eG,List.map_nil]
   rw [List.nodup_append];refine ⟨hb,ze,fun a ha b hb'=>?_⟩
   simp at hb'
   subst hb';obtain ⟨e,he,rfl⟩:=List.mem_map.1 ha;exact Nat.ne_of_lt (hc e he)
  ·intro e he
   simp only [Array.toList_push,List.mem_append,List.mem_singleton] at he
   rcases he with he | rfl
   ·exact Nat.lt_succ_of_lt (hc e he)
   ·exact Nat.lt_succ_self _
 | some p =>
  obtain ⟨i,v0⟩:=p;obtain ⟨_,h5,h6,h7⟩:=h3 i v0 rfl;simp only [Nat.sub_zero] at h5 h6 h7;have hi:i<es.size:=za;have hsome:(zBh L k).isSome=true:=by rw [←h2];rfl
  have hp:putE L k v=L.modify i fun _=>(k,v):=by unfold putE;rw [aE hsome,modify_map hn h6]
  have hkey:es[i].key=mk k:=by
   have e1:(es.toList.map fun e=>(e.key,e.val))[i]?=(L.map fun p=>(mk p.1,p.2))[i]?:=by rw [hL]
   rw [List.getElem?_map,List.getElem?_map,List.getElem?_eq_getElem h5,List.getElem?_eq_getElem yz] at e1;rw [List.getElem?_eq_getElem h5] at h6;simp only [eO,eN,Prod.mk.injEq] at e1 h6;rw [←h6];simpa using e1.1
  have hstay:∀ x,(Instr.keyThatStays (mk k) (mk k)).run P x = .ok (mk k) x:=fun x=>by
   simp [Instr.keyThatStays,hK.bits]
  have hborn:((es.modify i fun e=>{ e with key:=mk k,val:=v }).toList.map (·.born))=es.toList.map (·.born):=by
   apply List.ext_getElem?
   intro n;rw [List.getElem?_map,List.getElem?_map,Array.toList_modify,List.getElem?_modify]
   by_cases hn:i=n
   ·subst hn
    rw [List.getElem?_eq_getElem yz];simp
   ·simp only [hn,eD]
    cases es.toList[n]?<;>rfl
  refine ⟨_,?_,⟨_,_,hget (es.modify i fun e=>{ e with key:=mk k,val:=v }) clk,?_,?_,?_,?_⟩,hgrow _ _,ze⟩
  ·simp [Instr.mapUpdate,eE hT,hg,hK.chk,hfk,hi,hkey,hstay,hset]
  ·rw [hp]
   apply List.ext_getElem?
   intro n;have e1:(es.toList.map fun e=>(e.key,e.val))[n]?=(L.map fun p=>(mk p.1,p.2))[n]?:=by rw [hL]
   rw [List.getElem?_map,List.getElem?_map] at e1;rw [List.getElem?_map,List.getElem?_map,List.getElem?_modify,Array.toList_modify,List.getElem?_modify]
   by_cases hn:i=n
   ·subst hn
    rw [List.getElem?_eq_getElem h5,List.getElem?_eq_getElem yz];simp
   ·simp only [hn,eD]
    cases hx:es.toList[n]?<;>cases hy:L[n]?<;>simp_all
  ·exact putE_keys hn k v
  ·rw [hborn];exact hb
  ·intro e he
   have:e.born∈(es.modify i fun e=>{ e with key:=mk k,val:=v }).toList.map (·.born):=eY (f:=(·.born)) he
   rw [hborn] at this;obtain ⟨e',he',e2⟩:=List.mem_map.1 this;rw [←e2];exact hc e' he'
theorem run_delete_pm {ty:TypeId} (hT:P.underlying T=some (.map K E)) (hK:KeyT P K mk) (h:PMap mk w r L) (k:κ) :
  ∃ w',(Builtin.delete_ #[T,K] ty #[.map (some r),mk k]).run P w = .ok (.tuple #[]) w'∧PMap mk w' r (delE L k)∧w.grownBy w' (some r)∧w'.heap.size=w.heap.size:=by
 obtain ⟨es,clk,hr,hL,hn,hb,hc⟩:=h;have hrl:r<w.heap.size:=(Array.getElem?_eq_some_iff.1 hr).1;obtain ⟨d,hd,hs⟩:=hK.same;obtain ⟨o,h1,h2,h3⟩:=zDV hs k es.toList L 0 hL;have hg:(getObj r).run P w = .ok (.map es clk) w:=jp;have hset:∀ (es':Array MapEntry) (c':Nat),(setObj r (.map es' c')).run P w = .ok () { w with heap:=w.heap.setIfInBounds r (.map es' c') }:=fun es' c'=>by simp [setObj,Sem.run,hr]
 have hfk:(Instr.findKey K (mk k) es.toList).run P w = .ok o w:=by
  simp [Instr.findKey,eE hd,h1]
 have hgrow:∀ (es':Array MapEntry) (c':Nat),w.grownBy { w with heap:=w.heap.setIfInBounds r (.map es' c') } (some r):=fun es' c' =>
  ⟨rfl,rfl,rfl,ze,fun i hi hne=>by simp only [Array.getElem?_setIfInBounds];rw [aC (fun e=>hne (by rw [e]))]⟩
 have hget:∀ (es':Array MapEntry) (c':Nat),({ w with heap:=w.heap.setIfInBounds r (.map es' c') }:World).heap[r]?=some (.map es' c'):=fun es' c'=>by
  simp [hrl]
 have hlen:es.size=L.length:=qn
 cases o with
 | none =>
  have hnone:zBh L k=none:=by simpa using h2.symm
  refine ⟨_,?_,⟨es,clk,hget _ _,by rw [delE_none hnone];exact hL,by rw [delE_none hnone];exact hn,hb,hc⟩,hgrow _ _,ze⟩
  simp [Builtin.delete_,eE hT,hg,hK.chk,hfk,hset]
 | some p =>
  obtain ⟨i,v0⟩:=p;obtain ⟨_,h5,h6,h7⟩:=h3 i v0 rfl;simp only [Nat.sub_zero] at h5 h6 h7;have hi:i<es.size:=za
  have he:(es.eraseIdxIfInBounds i).toList=es.toList.eraseIdx i:=by
   rw [Array.eraseIdxIfInBounds,dif_pos hi];simp
  have hdl:=erase_map hn h6;refine ⟨_,?_,⟨es.eraseIdxIfInBounds i,clk,hget _ _,?_,?_,?_,?_⟩,hgrow _ _,ze⟩
  ·simp [Builtin.delete_,eE hT,hg,hK.chk,hfk,hset]
  ·rw [he,←hdl,Go.ChangeMaps.map_eraseIdx,Go.ChangeMaps.map_eraseIdx,hL]
  ·exact hn.sublist (List.Sublist.map _ List.filter_sublist)
  ·rw [he,Go.ChangeMaps.map_eraseIdx]
   exact hb.sublist (List.eraseIdx_sublist _ _)
  ·intro e hm
   rw [he] at hm;exact hc e (List.mem_of_mem_eraseIdx hm)
def zBx (mk:κ→Value) (w:World) (it r:Nat) (L R:List (κ×Value)):Prop :=
 ∃ (es:Array MapEntry) (clk since c0:Nat) (seen:Array Nat),w.heap[r]?=some (.map es clk)∧es.toList.map (fun e=>(e.key,e.val))=L.map (fun p=>(mk p.1,p.2))∧(L.map (·.1)).Nodup∧(es.toList.map (·.born)).Nodup∧(∀ e∈es.toList,e.born<clk) ∧
  w.heap[it]?=some (.mapIter (some r) since seen c0)∧(∀ e∈es.toList,e.born<since)∧since≤c0∧since≤clk∧(leftOf es seen).toList.map (fun e=>(e.key,e.val))=R.map (fun p=>(mk p.1,p.2))
end
theorem left_push {es:Array MapEntry} {seen:Array Nat} (hb:(es.toList.map (·.born)).Nodup) {e:MapEntry} (he:e∈(leftOf es seen).toList) :
  ∃ A B,(leftOf es seen).toList=A++e::B∧(leftOf es (seen.push e.born)).toList=A++B:=by
 obtain ⟨A,B,hAB⟩:=List.append_of_mem he;refine ⟨A,B,hAB,?_⟩
 have e1:(leftOf es (seen.push e.born)).toList=(leftOf es seen).toList.filter fun x=>decide (x.born≠e.born):=by
  unfold leftOf;rw [Array.toList_filter,Array.toList_filter,List.filter_filter];refine List.filter_congr fun x _=>?_
  rw [Array.contains_push]
  by_cases hx:x.born=e.born
  ·simp [hx]
  ·simp [hx]
 have hn:((leftOf es seen).toList.map (·.born)).Nodup:=by
  unfold leftOf;rw [Array.toList_filter];exact hb.sublist (List.Sublist.map _ List.filter_sublist)
 rw [e1,hAB,dW,eS ze];rw [hAB,eQ,eG,List.nodup_append] at hn;obtain ⟨_,h2,h3⟩:=hn;obtain ⟨h4,_⟩:=List.nodup_cons.1 h2
 congr 1
 ·exact List.filter_eq_self.2 fun x hx=>by
   have:=h3 x.born (eY (f:=(·.born)) hx) e.born aX
   simpa using this
 ·exact List.filter_eq_self.2 fun x hx=>by
   have:x.born≠e.born:=fun h=>h4 (by rw [←h];exact eY (f:=(·.born)) hx)
   simpa using this
section
variable {P:Program} {κ:Type} {mk:κ→Value} {T K E:TypeId} {w w':World} {r it:Nat} {L R:List (κ×Value)}
theorem zBx.map [DecidableEq κ] (h:zBx mk w it r L R):PMap mk w r L:=by
 obtain ⟨es,clk,since,c0,seen,h1,h2,h3,h4,h5,_⟩:=h;exact ⟨es,clk,h1,h2,h3,h4,h5⟩
theorem zBx.lt (h:zBx mk w it r L R):it<w.heap.size:=by
 obtain ⟨es,clk,since,c0,seen,_,_,_,_,_,h6,_⟩:=h;exact (Array.getElem?_eq_some_iff.1 h6).1
theorem zBx.keep (h:zBx mk w it r L R) (h1:w'.heap[r]?=w.heap[r]?) (h2:w'.heap[it]?=w.heap[it]?):zBx mk w' it r L R:=by
 obtain ⟨es,clk,since,c0,seen,k1,a,b,c,d,k6,rest⟩:=h;exact ⟨es,clk,since,c0,seen,h1.trans k1,a,b,c,d,h2.trans k6,rest⟩
theorem zBx.below [DecidableEq κ] (h:zBx mk w it r L R) (hb:Below w.heap.size w w'):zBx mk w' it r L R:=h.keep (hb.block r h.map.lt) (hb.block it h.lt)
theorem zBx.start [DecidableEq κ] (hT:P.underlying T=some (.map K E)) (h:PMap mk w r L) :
  ∃ o,(Instr.range T (.map (some r))).run P w = .ok (.pointer (some ⟨w.heap.size,0,none⟩)) (w.alloc o)∧zBx mk (w.alloc o) w.heap.size r L L:=by
 obtain ⟨es,clk,h1,h2,h3,h4,h5⟩:=h;have hrl:r<w.heap.size:=(Array.getElem?_eq_some_iff.1 h1).1;refine ⟨_,run_range_map w T K E r es clk hT h1,es,clk,clk,clk,#[],(eA w _ r hrl).trans h1,h2,h3,h4,h5,cS w _,h5,aB _,aB _,?_⟩
 have:(leftOf es #[]).toList=es.toList:=by
  unfold leftOf;rw [Array.toList_filter];exact List.filter_eq_self.2 fun _ _=>ze
 rw [this];exact h2
theorem zBx.next (h:zBx mk w it r L R) (hinj:∀ a b,mk a=mk b→a=b) (hne:it≠r) (ty:TypeId) :
  (R=[]∧(Instr.next (.pointer (some ⟨it,0,none⟩)) false ty).run P w = .ok (.tuple #[.bool false]) w) ∨
  ∃ p R' w',R.Perm (p::R')∧p∈L∧(Instr.next (.pointer (some ⟨it,0,none⟩)) false ty).run P w = .ok (.tuple #[.bool true,mk p.1,p.2]) w'∧(Instr.entry (.pointer (some ⟨it,0,none⟩))).run P w' = .ok (.tuple #[mk p.1,p.2]) w' ∧
   zBx mk w' it r L R'∧w.grownBy w' (some it)∧w'.heap.size=w.heap.size:=by
 obtain ⟨es,clk,since,c0,seen,h1,h2,h3,h4,h5,h6,h7,h8,h9,h10⟩:=h;have hit:it<w.heap.size:=(Array.getElem?_eq_some_iff.1 h6).1;have hrl:r<w.heap.size:=(Array.getElem?_eq_some_iff.1 h1).1
 rcases run_next_at (P:=P) w ty it r since c0 seen es clk h6 h1 h7 h8 with ⟨h0,hrun⟩ | ⟨e,he,w1,hw1,hrun⟩
 ·left
  refine ⟨?_,hrun⟩
  have:(leftOf es seen).toList=[]:=by
   have:(leftOf es seen).toList.length=0:=by simpa using h0
   exact List.length_eq_zero_iff.1 this
  rw [this] at h10;exact (List.map_eq_nil_iff.1 h10.symm)
 ·right
  obtain ⟨A,B,hA,hB⟩:=left_push h4 he;rw [hA,eQ,eG] at h10;obtain ⟨R1,R2,hR,hR1,hR2⟩:=List.map_eq_append_iff.1 h10.symm;obtain ⟨p,R3,hR3,hp,hR4⟩:=List.map_eq_cons_iff.1 hR2
  injection hp with hk hv
  have hmem:e∈es.toList:=by
   unfold leftOf at he;rw [Array.toList_filter] at he;exact (List.mem_filter.1 he).1
  have hsz:w1.heap.size=w.heap.size:=by rcases hw1 with rfl | rfl<;>rfl
  have hsame:∀ j:Nat,w1.heap[j]?=w.heap[j]?:=by
   rcases hw1 with e | e
   ·intro j;rw [e]
   ·intro j;rw [e];rfl
  have hset:∀ k:Nat,(setBlock w1 it (.mapIter (some r) since (seen.push e.born) clk)).heap[k]?=if it=k then some (.mapIter (some r) since (seen.push e.born) clk) else w.heap[k]?:=fun k=>by
   show (w1.heap.setIfInBounds it _)[k]?=_
   rw [Array.getElem?_setIfInBounds]
   by_cases hk:it=k
   ·subst hk;simp [hsz,hit]
   ·rw [aC hk,aC hk];exact hsame k
  have hit2:=hset it;rw [aE rfl] at hit2;have hr2:=hset r;rw [aC hne] at hr2;refine ⟨p,R1++R3,_,?_,?_,hk▸hv▸hrun,?_,⟨es,clk,since,clk,seen.push e.born,hr2.trans h1,h2,h3,h4,h5,hit2,h7,h9,h9,?_⟩,⟨?_,?_,?_,?_,?_⟩,?_⟩
  ·rw [hR,hR3];exact List.perm_middle
  ·have hin:(mk p.1,p.2)∈L.map (fun p=>(mk p.1,p.2)):=by
    rw [←h2];exact List.mem_map.2 ⟨e,hmem,by rw [hk,hv]⟩
   obtain ⟨q,hq,hqe⟩:=List.mem_map.1 hin
   injection hqe with e1 e2
   have:q=p:=Prod.ext (hinj _ _ e1) e2;exact this▸hq
  ·exact hk▸hv▸run_entry_at _ it r since seen es clk e hit2 (hr2.trans h1) hmem h4
  ·rw [hB,eQ,eQ,hR1,hR4]
  ·rcases hw1 with rfl | rfl<;>rfl
  ·rcases hw1 with rfl | rfl<;>rfl
  ·rcases hw1 with rfl | rfl<;>rfl
  ·show w.heap.size≤(w1.heap.setIfInBounds it _).size
   simp [hsz]
  ·intro k hk hne'
   rw [hset k,aC (fun e=>hne' (by rw [e]))]
  ·show (w1.heap.setIfInBounds it _).size=_
   simp [hsz]
end
end Dw
namespace Go.Proofs.YtieoifkdobcpiaaGreatDoor
open Go.RowKit Dw
def NumV (w:World) (v:Value) (q:Rat):Prop:=∃ A c A2 c2,v=raV false A c q.num.natAbs A2 c2 q.den∧Nt w A c q.num.natAbs∧Nt w A2 c2 q.den
theorem Nt.grown {w w':World} {A:Option Addr} {c n:Nat} {row:Option Nat} (h:Nt w A c n) (hg:w.grownBy w' row) (hne:∀ g cs e,w.heap[g]?=some (.cells cs e (0,0))∨(∃ o x,w.cell? ⟨g,o,none⟩=some (u32V x))→some g≠row):Nt w' A c n:=by
 refine ⟨fun hl=>?_,h.cap⟩
 obtain ⟨b,o,rfl,hc⟩:=h.rd hl;refine ⟨b,o,rfl,fun i hi=>hg.cell (hc i hi) (hne b #[] 0 (.inr ⟨_,_,hc i hi⟩))⟩
theorem NumV.below {w w':World} {v:Value} {q:Rat} (h:NumV w v q) (hb:Below w.heap.size w w'):NumV w' v q:=by
 obtain ⟨A,c,A2,c2,e,h1,h2⟩:=h;exact ⟨A,c,A2,c2,e,h1.below hb,h2.below hb⟩
theorem no_map_cell {w:World} {g:Nat} {es:Array MapEntry} {clk:Nat} (h:w.heap[g]?=some (.map es clk)) (o:Nat):w.cell? ⟨g,o,none⟩=none:=by
 simp [World.cell?,h]
theorem no_iter_cell {w:World} {g:Nat} {r:Option Nat} {s c:Nat} {a:Array Nat} (h:w.heap[g]?=some (.mapIter r s a c)) (o:Nat):w.cell? ⟨g,o,none⟩=none:=by
 simp [World.cell?,h]
theorem NumV.grown {w w':World} {v:Value} {q:Rat} {g:Nat} (h:NumV w v q) (hg:w.grownBy w' (some g)) (hn:∀ o,w.cell? ⟨g,o,none⟩=none):NumV w' v q:=by
 obtain ⟨A,c,A2,c2,e,h1,h2⟩:=h
 have key:∀ b o x,w.cell? ⟨b,o,none⟩=some x→some b≠some g:=fun b o x hx e=>by
  injection e with e
  subst e;rw [hn o] at hx
  cases hx
 refine ⟨A,c,A2,c2,e,⟨fun hl=>?_,h1.cap⟩,⟨fun hl=>?_,h2.cap⟩⟩
 ·obtain ⟨b,o,rfl,hc⟩:=h1.rd hl
  exact ⟨b,o,rfl,fun i hi=>hg.cell (hc i hi) (key b _ _ (hc i hi))⟩
 ·obtain ⟨b,o,rfl,hc⟩:=h2.rd hl
  exact ⟨b,o,rfl,fun i hi=>hg.cell (hc i hi) (key b _ _ (hc i hi))⟩
def zAI (w:World) (g:Nat) (f:zBm):Prop :=
 ∃ L:List (BA×Value),PMap Value.string w g L∧(∀ p,f p≠0↔∃ v,(p,v)∈L)∧∀ p v,(p,v)∈L→NumV w v (f p)
theorem pm_nocell {w:World} {g:Nat} {L:List (BA×Value)} (h:PMap Value.string w g L) (o:Nat):w.cell? ⟨g,o,none⟩=none:=by
 obtain ⟨es,clk,h1,_⟩:=h;exact no_map_cell h1 o
section
variable {w w':World} {g:Nat} {f:zBm} {p:BA} {v:Value} {q:Rat}
theorem zAI.nocell (h:zAI w g f) (o:Nat):w.cell? ⟨g,o,none⟩=none:=by
 obtain ⟨L,h1,_⟩:=h;exact pm_nocell h1 o
theorem zAI.below (h:zAI w g f) (hb:Below w.heap.size w w'):zAI w' g f:=by
 obtain ⟨L,h1,h2,h3⟩:=h;exact ⟨L,h1.below hb,h2,fun p v hp=>(h3 p v hp).below hb⟩
theorem zAI.new (w:World):zAI (w.alloc (.map #[] 0)) w.heap.size (fun _=>0) :=
 ⟨[],PMap.new _ _,fun p=>⟨fun h=>absurd rfl h,fun ⟨_,h⟩=>j2⟩,fun _ _ h=>j2⟩
theorem zAI.is (h:zAI w g f):∃ F,zAA Value.string w g F∧∀ p,(f p=0∧F p=none)∨(f p≠0∧∃ v,F p=some v∧NumV w v (f p)):=by
 obtain ⟨L,h1,h2,h3⟩:=h;refine ⟨_,h1.is,fun p=>?_⟩
 cases hl:zBh L p with
 | none =>
  refine .inl ⟨aL fun hn=>?_,rfl⟩
  obtain ⟨v,hv⟩:=(h2 p).1 hn;rw [lookE_none] at hl;exact hl _ hv rfl
 | some v =>
  have hm:=(lookE_mem h1.nodup).1 hl;exact .inr ⟨(h2 p).2 ⟨v,hm⟩,v,rfl,h3 p v hm⟩
end
theorem tMapP:Tryz.prog.underlying 80=some (.map 9 89):=Tryz.underlying80
section
variable {w:World} {g:Nat} {f:zBm}
theorem run_put (h:zAI w g f) (p:BA) (v:Value) (q:Rat) (hv:NumV w v q) (hq:q≠0) :
  ∃ w',(Instr.mapUpdate 80 (.map (some g)) (.string p) v).run Tryz.prog w = .ok () w'∧zAI w' g (upH f p q)∧w.grownBy w' (some g)∧w'.heap.size=w.heap.size:=by
 obtain ⟨L,h1,h2,h3⟩:=h;obtain ⟨w',hr,hp,hg,hs⟩:=run_update_pm tMapP kStr h1 p v
 have hm:∀ p' v',(p',v')∈putE L p v↔if p'=p then v'=v else (p',v')∈L:=fun p' v'=>by
  rw [←lookE_mem hp.nodup,lookE_put]
  split
  ·constructor
   ·intro e;injection e with e;exact e.symm
   ·intro e;rw [e]
  ·exact lookE_mem h1.nodup
 refine ⟨w',hr,⟨_,hp,fun p'=>?_,fun p' v' hp'=>?_⟩,hg,hs⟩
 ·by_cases he:p'=p
  ·subst he
   rw [zBI];exact ⟨fun _=>⟨v,(hm _ _).2 (by rw [aE rfl])⟩,fun _=>hq⟩
  ·rw [zAN _ _ he,h2]
   constructor
   ·rintro ⟨v',hv'⟩;exact ⟨v',(hm _ _).2 (by rw [aC he];exact hv')⟩
   ·rintro ⟨v',hv'⟩
    have:=(hm _ _).1 hv';rw [aC he] at this;exact ⟨v',this⟩
 ·have:=(hm _ _).1 hp'
  by_cases he:p'=p
  ·subst he
   rw [aE rfl] at this;rw [zBI,this];exact hv.grown hg fun o=>pm_nocell h1 o
  ·rw [aC he] at this
   rw [zAN _ _ he];exact (h3 _ _ this).grown hg fun o=>pm_nocell h1 o
theorem run_del (h:zAI w g f) (p:BA) (ty:TypeId) :
  ∃ w',(Builtin.delete_ #[80,9] ty #[.map (some g),.string p]).run Tryz.prog w = .ok (.tuple #[]) w'∧zAI w' g (upH f p 0)∧w.grownBy w' (some g)∧w'.heap.size=w.heap.size:=by
 obtain ⟨L,h1,h2,h3⟩:=h;obtain ⟨w',hr,hp,hg,hs⟩:=run_delete_pm (ty:=ty) tMapP kStr h1 p
 have hm:∀ p' v',(p',v')∈delE L p↔p'≠p∧(p',v')∈L:=fun p' v'=>by
  unfold delE;rw [List.mem_filter,fD,and_comm]
 refine ⟨w',hr,⟨_,hp,fun p'=>?_,fun p' v' hp'=>?_⟩,hg,hs⟩
 ·by_cases he:p'=p
  ·subst he
   rw [zBI];exact ⟨fun h=>absurd rfl h,fun ⟨v,hv⟩=>absurd rfl ((hm _ _).1 hv).1⟩
  ·rw [zAN _ _ he,h2]
   constructor
   ·rintro ⟨v',hv'⟩;exact ⟨v',(hm _ _).2 ⟨he,hv'⟩⟩
   ·rintro ⟨v',hv'⟩;exact ⟨v',((hm _ _).1 hv').2⟩
 ·obtain ⟨he,hin⟩:=(hm _ _).1 hp'
  rw [zAN _ _ he];exact (h3 _ _ hin).grown hg fun o=>pm_nocell h1 o
end
theorem zCb {B:Nat} {w0 w w':World} {g:Nat} (h:Below B w0 w) (hB:B≤w.heap.size) (hg:w.grownBy w' (some g)) (hlo:B≤g):Below B w0 w' :=
 h.grown hg hB fun k hk=>by injection hk with hk;rw [←hk];exact hlo
def tooB (n d most:Nat):Bool:=decide (most<(zDx n).size) || decide (most<(zDx d).size)
def raOut (n d most:Nat):Value:=if tooB n d most=true then .tuple #[.agg #[.string ⟨#[]⟩,.string ⟨#[]⟩],.bool false] else .tuple #[.agg #[.string (zDx n),.string (zDx d)],.bool true]
abbrev zRt:Array Value:=#[.string ⟨#[]⟩,.string ⟨#[]⟩]
theorem Ratio_c (A A2:Option Addr) (c c2 n d most:Nat) (w:World) (h:Nt w A c n) (h2:Nt w A2 c2 d) (hn:(zAc B32 n).length≤100000000) (hd:(zAc B32 d).length≤100000000) :
  Calls Tryz.prog 74 #[raV false A c n A2 c2 d,.int .i64 (most:Int)] w (zAe (raOut n d most) w):=by
 have HT1:=zq (fun W (x:Nt W A c n)=>text_c A c n W x hn)
 have HT2:=zq (fun W (x:Nt W A2 c2 d)=>text_c A2 c2 d W x hd)
 have HRO:Hid (raOut n d most=if (decide (most<(zDx n).size) || decide (most<(zDx d).size))=true then .tuple #[.agg #[.string ⟨#[]⟩,.string ⟨#[]⟩],.bool false] else .tuple #[.agg #[.string (zDx n),.string (zDx d)],.bool true]):=rfl
 generalize raOut n d most=ro at *;generalize zDx n=sn at *;generalize zDx d=sd at *;have HX0:Hid (Bx ((w.alloc (.cells (raC A c n A2 c2 d) 89)).alloc (.cells zRt 40)) w.heap.size (raC A c n A2 c2 d) 89):=(Bx.new _ _ _).alloc _;have HZ0:Hid (Bx ((w.alloc (.cells (raC A c n A2 c2 d) 89)).alloc (.cells zRt 40)) (w.heap.size+1) zRt 40):=Bx.new1 _ _ _ _;have HB0:Hid (Below w.heap.size w ((w.alloc (.cells (raC A c n A2 c2 d) 89)).alloc (.cells zRt 40))):=((aS w.heap.size w).alloc (aB _) _).alloc ze _;obtain ⟨W,hW⟩:∃ W,W=((w.alloc (.cells (raC A c n A2 c2 d) 89)).alloc (.cells zRt 40)):=⟨_,rfl⟩;rw [←hW] at HX0 HZ0 HB0;have g1:=zq (h.below HB0.o);have g2:=zq (h2.below HB0.o);clear hn hd h h2
 go_enter Tryz.func74,Tryz.ntmps74
 go_upto_region 1 with fail
 rw [←hW];clear hW;obtain ⟨a0,a1,a2⟩:=HX0.o.t
 go_region_held3 (fun w'=>(w'.cell? ⟨w.heap.size,0,none⟩=some (.bool false)∧w'.cell? ⟨w.heap.size,1,none⟩=some (.slice A (zAc B32 n).length c)∧w'.cell? ⟨w.heap.size,2,none⟩=some (.slice A2 (zAc B32 d).length c2)))
  ((refine ⟨?_,?_,?_⟩<;>first | with_reducible assumption | go_simp))
  (first
   | ((go_at_call 115;(with_reducible refine (HT1.o W.drew g1.out.drew).mono ?_);rintro x w1 ⟨rfl,hb⟩;have HB1:=zq ((zAd HB0.o 1).trans (hb.mono HB0.o.size));have HX1:=zq ((HX0.o.drew).below hb);have HZ1:=zq ((HZ0.o.drew).below hb);have g21:=zq ((g2.out.drew).below hb);clear hb;clear a0 a1 a2;obtain ⟨a0,a1,a2⟩:=HX1.o.t))
   | ((go_at_call 115;(with_reducible refine (HT2.o w1 g21.out).mono ?_);rintro x w2 ⟨rfl,hb⟩;have HB2:=zq (zAa HB1.o hb);have HX2:=zq (HX1.o.below hb);have HZ2:=zq (HZ1.o.below hb);clear hb;clear a0 a1 a2;obtain ⟨a0,a1,a2⟩:=HX2.o.t)))
 have z0:=HZ2.o.c 0 rfl;have z1:=HZ2.o.c 1 rfl;have zf:=HZ2.o.frozen;have zl:=HZ2.o.lt;have hsx:=HX2.o.lt;clear HX0 HZ0 HB0 HX1 HZ1 HB1 g1 g2 g21 HT1 HT2
 cases hl:decide (most<sn.size) || decide (most<sd.size) with
 | true =>
  have HR:Hid (ro = .tuple #[.agg #[.string ⟨#[]⟩,.string ⟨#[]⟩],.bool false]):=by show _=_;rw [HRO.o,aE hl]
  by_cases h1:most<sn.size
  ·have e1:decide (most<sn.size)=true:=cW h1
   clear hl h1;go_wp2;refine dY (v:=.tuple #[.agg zRt,.bool false]) (by simp [results,Tryz.results74,go_sem,z0,z1]) rfl ⟨by rw [HR.o],(HB2.o.setCell ze _).setCell ze _⟩
  ·have e1:decide (most<sn.size)=false:=cX h1
   rw [e1,eR] at hl;clear h1;go_wp2;refine dY (v:=.tuple #[.agg zRt,.bool false]) (by simp [results,Tryz.results74,go_sem,z0,z1]) rfl ⟨by rw [HR.o],(HB2.o.setCell ze _).setCell ze _⟩
 | false =>
  have HR:Hid (ro = .tuple #[.agg #[.string sn,.string sd],.bool true]):=by show _=_;rw [HRO.o,aC (by rw [hl];simp)]
  rw [aI] at hl;obtain ⟨e1,e2⟩:=hl;go_wp2;refine dY (v:=.tuple #[.agg #[.string sn,.string sd],.bool true]) (by simp [results,Tryz.results74,go_sem,z0,z1]) rfl ⟨by rw [HR.o],(HB2.o.setCell ze _).setCell ze _⟩
def GivesP (g:Nat) (f:zBm) (w:World) (e:Ending) (w':World):Prop:=e = .returned (.tuple #[])∧zAI w' g f∧w.grownBy w' (some g)
def zDl (q:Rat) (w:World) (e:Ending) (w':World):Prop:=zCB false q.num.natAbs q.den w e w'
theorem sgn_zero (q:Rat) (h:q=0):sgnI false q.num.natAbs=0:=by subst h;rfl
theorem sgn_pos (q:Rat) (h:q≠0):sgnI false q.num.natAbs=1:=by
 unfold sgnI;have:q.num.natAbs≠0:=fun e=>h (Rat.num_eq_zero.1 za)
 simp [this]
theorem put_c (g:Nat) (f:zBm) (p:BA) (A A2:Option Addr) (c c2:Nat) (q:Rat) (w:World) (hp:zAI w g f) (h:Nt w A c q.num.natAbs) (h2:Nt w A2 c2 q.den) :
  Calls Tryz.prog 69 #[.map (some g),.string p,raV false A c q.num.natAbs A2 c2 q.den] w (GivesP g (upH f p q) w):=by
 have HX:Hid (Bx (w.alloc (.cells (raC A c q.num.natAbs A2 c2 q.den) 89)) w.heap.size (raC A c q.num.natAbs A2 c2 q.den) 89):=Bx.new _ _ _;have HB:Hid (Below w.heap.size w (w.alloc (.cells (raC A c q.num.natAbs A2 c2 q.den) 89))):=(aS _ _).alloc (aB _) _;obtain ⟨W,hW⟩:∃ W,W=w.alloc (.cells (raC A c q.num.natAbs A2 c2 q.den) 89):=⟨_,rfl⟩;rw [←hW] at HX HB;have HPM:=zq (hp.below HB.o);have HNV:Hid (NumV W (raV false A c q.num.natAbs A2 c2 q.den) q):=⟨A,c,A2,c2,rfl,h.below HB.o,h2.below HB.o⟩;have HS:=zq (RSign_c false A A2 c c2 q.num.natAbs q.den W);clear hp h h2
 go_enter Tryz.func69,Tryz.ntmps69
 go_upto_region 1 with fail
 rw [←hW];clear hW;obtain ⟨a0,a1,a2⟩:=HX.o.t;have hsx:=HX.o.lt
 go_wp2_with fail
 with_reducible refine HS.o.mono ?_
 rintro e w1 ⟨rfl,hb1⟩;have HX1:=zq (HX.o.below hb1);have HB1:=zq (zAa HB.o hb1);have HPM1:=zq (HPM.o.below hb1);have HNV1:=zq (HNV.o.below hb1);clear a0 a1 a2 hsx hb1 HX HB HPM HNV HS
 by_cases hq:q=0
 ·have hs:=sgn_zero q hq
  obtain ⟨w2,hr,hp2,hg2,hs2⟩:=run_del HPM1.o p 0;have HG:Hid (w.grownBy w2 (some g)):=(zBc HB1.o _).trans hg2;have HP2:Hid (zAI w2 g (upH f p q)):=by rw [hq];exact hp2
  clear hp2 hg2 hs2 hq;go_wp2;exact dY (v:=.tuple #[]) (by simp [results,Tryz.results69,go_sem]) rfl ⟨rfl,HP2.o,HG.o⟩
 ·have hs:=sgn_pos q hq
  obtain ⟨w2,hr,hp2,hg2,hs2⟩:=run_put HPM1.o p _ q HNV1.o hq;have HG:Hid (w.grownBy w2 (some g)):=(zBc HB1.o _).trans hg2;have HP2:=zq hp2;obtain ⟨a0,a1,a2⟩:=HX1.o.t;have hsx:=HX1.o.lt;clear hp2 hg2 hs2 hq;go_wp2;exact dY (v:=.tuple #[]) (by simp [results,Tryz.results69,go_sem]) rfl ⟨rfl,HP2.o,HG.o⟩
theorem zRatV (w:World):(zeroValue 89).run Tryz.prog w = .ok (.agg zBX) w:=zc
theorem of_c (g:Nat) (f:zBm) (p:BA) (w:World) (hp:zAI w g f):Calls Tryz.prog 49 #[.map (some g),.string p] w (zDl (f p) w):=by
 have HZ:Hid (Bx (w.alloc (.cells zBX 89)) w.heap.size zBX 89):=Bx.new _ _ _;have HB:Hid (Below w.heap.size w (w.alloc (.cells zBX 89))):=(aS _ _).alloc (aB _) _;obtain ⟨W,hW⟩:∃ W,W=w.alloc (.cells zBX 89):=⟨_,rfl⟩;rw [←hW] at HZ HB;obtain ⟨F,hF,hFp⟩:=(hp.below HB.o).is;have hlk:=zAC tMapP kStr zRatV hF p true;have HWH:Hid (∀ W,Calls Tryz.prog 34 #[.int .i64 0] W (zCB false 0 1 W)):=fun W=>Whole_c 0 W za
 clear hp hF
 rcases hFp p with ⟨h0,hN⟩ | ⟨h0,v,hN,A,c,A2,c2,rfl,h1,h2⟩
 ·rw [hN] at hlk
  simp only [if_true,eP,Option.isSome_none] at hlk;have HE:=zq h0;clear hN hFp h0
  go_enter Tryz.func49,Tryz.ntmps49
  go_upto_region 1 with fail
  rw [←hW];clear hW
  go_wp2_with fail
  with_reducible refine (HWH.o _).mono ?_
  rintro e w2 ⟨A,c,A2,c2,rfl,h1,h2,hb2⟩;have hba:Below W.heap.size W (W.alloc (.cells zBX 89)):=(aS _ _).alloc (aB _) _;have HZ2:=zq (HZ.o.below (zAa hba hb2));have HB2:=zq (zAa HB.o (zAa hba hb2));have H1:=zq h1;have H2:=zq h2;have zf:=HZ2.o.frozen;have zl:=HZ2.o.lt;obtain ⟨z0,z1,z2⟩:=HZ2.o.t;clear hba hb2 h1 h2;go_wp2;refine dY (v:=raV false A c 0 A2 c2 1) (by simp [results,Tryz.results49,go_sem,z0,z1,z2]) rfl ?_
  unfold zDl;rw [HE.o];exact ⟨A,c,A2,c2,rfl,H1.o.setR HZ2.o _ _ _,H2.o.setR HZ2.o _ _ _,((HB2.o.setCell ze _).setCell ze _).setCell ze _⟩
 ·rw [hN] at hlk
  simp only [if_true,aO,Option.isSome_some] at hlk;clear hN hFp h0;have H1:=zq h1;have H2:=zq h2;have zf:=HZ.o.frozen;have zl:=HZ.o.lt;obtain ⟨z0,z1,z2⟩:=HZ.o.t;clear h1 h2
  go_enter Tryz.func49,Tryz.ntmps49
  go_upto_region 1 with fail
  rw [←hW];clear hW;go_wp2;refine dY (v:=raV false A c (f p).num.natAbs A2 c2 (f p).den) (by simp [results,Tryz.results49,go_sem,z0,z1,z2,zl]) rfl ?_
  have hW:=HB.o.size;exact ⟨A,c,A2,c2,rfl,(H1.o.setR HZ.o _ _ _).alloc _,(H2.o.setR HZ.o _ _ _).alloc _,(((HB.o.setCell ze _).setCell ze _).setCell ze _).alloc zg _⟩
theorem tooB_long (q:Rat):tooB q.num.natAbs q.den 2000=zCK q:=by
 unfold tooB zCK;rw [zDA,zDA]
 have key:∀ n:Nat,decide (2000<(Lib.decDigits n).length)=decide (10 ^ 2000≤n):=fun n=>by
  have:=dig_len n 2000 za;rw [Bool.eq_iff_iff,fD,fD];omega
 rw [key,key]
theorem longQ_zero:zCK 0=false:=by
 unfold zCK;have e1:(0:Rat).num=0:=rfl;have e2:(0:Rat).den=1:=rfl;rw [e1,e2];have:1<10 ^ 2000:=by obtain ⟨b,hb⟩:∃ b,b=2000:=⟨_,rfl⟩;rw [←hb];exact Nat.one_lt_pow za zd
 simp only [Int.natAbs_zero,aI,decide_eq_false_iff_not];omega
theorem anyLong_iff {K:List BA} {f:zBm} (hk:HoldOk K f):zDm K f=true↔∃ p,zCK (f p)=true:=by
 unfold zDm;rw [List.any_eq_true]
 constructor
 ·rintro ⟨p,_,h⟩;exact ⟨p,h⟩
 ·rintro ⟨p,h⟩
  refine ⟨p,?_,h⟩
  refine aL fun hn=>?_
  rw [hk.out p hn,longQ_zero] at h
  cases h
theorem pr_nocell {w:World} {it r:Nat} {L R:List (BA×Value)} (h:zBx Value.string w it r L R) (o:Nat):w.cell? ⟨it,o,none⟩=none:=by
 obtain ⟨es,clk,since,c0,seen,_,_,_,_,_,h6,_⟩:=h;exact no_iter_cell h6 o
def LgR (w:World) (g:Nat) (f:zBm) (L:List (BA×Value)) (m:Nat) (wr:World):Prop :=
 ∃ R:List (BA×Value),R.length=m∧zBx Value.string wr w.heap.size g L R∧(∀ x∈L,x∈R∨zCK (f x.1)=false)∧(∀ p v,(p,v)∈L→NumV wr v (f p))∧Below w.heap.size w wr
theorem str_inj:∀ a b:BA,Value.string a=Value.string b→a=b:=fun _ _ h=>by injection h
theorem large_c (g:Nat) (K:List BA) (f:zBm) (w:World) (hp:zAI w g f) (hk:HoldOk K f) (hsz:∀ p,SzQ 100000000 (f p)):Calls Tryz.prog 73 #[.map (some g)] w (zAe (.bool (zDm K f)) w):=by
 obtain ⟨L,h1,h2,h3⟩:=hp;obtain ⟨o,hrun,hpr⟩:=zBx.start tMapP h1;have hgl:=h1.lt;have HPR:=zq hpr;have HB0:Hid (Below w.heap.size w (w.alloc o)):=(aS _ _).alloc (aB _) _;have HN0:Hid (∀ p v,(p,v)∈L→NumV (w.alloc o) v (f p)):=fun p v hpv=>(h3 p v hpv).below HB0.o
 have HSZ:=zq hsz;have HK:=zq hk;have H2:=zq h2;obtain ⟨res,hres⟩:∃ res,res=zDm K f:=⟨_,rfl⟩;rw [←hres];have HRE:=zq hres;clear h1 h2 h3 hpr hsz hk hres
 go_enter Tryz.func73,Tryz.ntmps73
 go_wp2;clear hrun
 go_loopg [] L.length (LgR w g f L)
 case atStart=>exact ⟨L,rfl,HPR.o,fun x hx=>.inl hx,HN0.o,HB0.o⟩
 clear HPR HN0 HB0
 case round =>
  obtain ⟨R,hm,hpr,hall,hnv,hb⟩:=hrel;have HM:=zq hm;have HALL:=zq hall;have HNV:=zq hnv;have HB:=zq hb;have HPR:=zq hpr;clear hm hall hnv hb hpr
  rcases zBx.next (P:=Tryz.prog) HPR.o str_inj za 0 with ⟨hR,hnx⟩ | ⟨x,R',w',hperm,hxL,hnx,hen,hpr',hg',hs'⟩
  ·have HF:Hid (false=res):=by
    show _=_
    rw [HRE.o]
    cases ha:zDm K f with
    | false=>rfl
    | true =>
     exfalso
     obtain ⟨p,hp⟩:=(anyLong_iff HK.o).1 ha;have hne:f p≠0:=fun e=>by rw [e,longQ_zero] at hp;cases hp
     obtain ⟨v,hv⟩:=(H2.o p).1 hne
     rcases HALL.o _ hv with h | h
     ·rw [hR] at h;cases h
     ·rw [hp] at h;cases h
   clear hR;go_wp2;go_ret
   exact zAe.mk (by rw [HF.o];rfl) HB.o
  ·obtain ⟨p,v⟩:=x
   obtain ⟨A,c,A2,c2,e,n1,n2⟩:=HNV.o p v hxL;subst e;have HNV1:Hid (∀ p v,(p,v)∈L→NumV w' v (f p)):=fun p v hpv=>(HNV.o p v hpv).grown hg' (pr_nocell HPR.o)
   have HB1:=zq (zCb HB.o HB.o.size hg' (aB _));have HPR1:=zq hpr';have HPM:=zq hperm;have HXL:=zq hxL;have hba:Below w'.heap.size w' (w'.alloc (.cells (raC A c (f p).num.natAbs A2 c2 (f p).den) 89)):=(aS _ _).alloc (aB _) _;have HBA:=zq hba;obtain ⟨A',c',A2',c2',e',m1,m2⟩:=HNV1.o p _ hxL
   injection e' with e'
   injection e' with e'
   have e0:=bH (fun l:List Value=>l[1]?) e'
   have e1:=bH (fun l:List Value=>l[2]?) e'
   simp only [List.getElem?_cons_succ,List.getElem?_cons_zero,eN,dR,true_and] at e0 e1;obtain ⟨rfl,rfl⟩:=e0;obtain ⟨rfl,rfl⟩:=e1
   have HRT:Hid (Calls Tryz.prog 74 #[raV false A c (f p).num.natAbs A2 c2 (f p).den,.int .i64 2000] (w'.alloc (.cells (raC A c (f p).num.natAbs A2 c2 (f p).den) 89)) (zAe (raOut (f p).num.natAbs (f p).den 2000) (w'.alloc (.cells (raC A c (f p).num.natAbs A2 c2 (f p).den) 89)))) :=
    Ratio_c A A2 c c2 (f p).num.natAbs (f p).den 2000 _ (m1.below hba) (m2.below hba) (HSZ.o p).1.1 (HSZ.o p).2.1
   have HTL:=zq (tooB_long (f p));have HRO:Hid (raOut (f p).num.natAbs (f p).den 2000=if tooB (f p).num.natAbs (f p).den 2000=true then .tuple #[.agg #[.string ⟨#[]⟩,.string ⟨#[]⟩],.bool false] else .tuple #[.agg #[.string (zDx (f p).num.natAbs),.string (zDx (f p).den)],.bool true]):=rfl
   generalize raOut (f p).num.natAbs (f p).den 2000=ro at *;clear hperm hxL hpr' hg' hs' n1 n2 m1 m2 hba e'
   go_wp2_with fail
   with_reducible refine HRT.o.mono ?_
   rintro e w2 ⟨rfl,hb2⟩;have HB2:=zq (zAa HBA.o hb2);clear hb2 HRT
   cases hq:zCK (f p) with
   | true =>
    have hro:ro = .tuple #[.agg #[.string ⟨#[]⟩,.string ⟨#[]⟩],.bool false]:=by rw [HRO.o,aE (HTL.o.trans hq)]
    have HF:Hid (true=res):=by
     show _=_
     rw [HRE.o];exact ((anyLong_iff HK.o).2 ⟨p,hq⟩).symm
    have HB3:=zq (HB1.o.trans (HB2.o.mono HB1.o.size));subst hro;clear hq;go_wp2;go_ret
    exact zAe.mk (by rw [HF.o];rfl) (HB3.o.alloc HB3.o.size _)
   | false =>
    have hro:ro = .tuple #[.agg #[.string (zDx (f p).num.natAbs),.string (zDx (f p).den)],.bool true]:=by rw [HRO.o,aC (by rw [HTL.o,hq];simp)]
    have HLQ:=zq hq;subst hro;clear hq;have HB3:=zq (HB2.o.alloc HB2.o.size (.cells #[.string (zDx (f p).num.natAbs),.string (zDx (f p).den)] 40));go_wp2
    go_roundg R'.length
    case measure=>have h1:=HPM.o.length_eq;have h2:=HM.o;rw [aY] at h1;omega
    case rel =>
     refine ⟨R',rfl,HPR1.o.below HB3.o,fun y hy=>?_,fun p v hpv=>(HNV1.o p v hpv).below HB3.o,HB1.o.trans (HB3.o.mono HB1.o.size)⟩
     rcases HALL.o y hy with h | h
     ·rcases List.mem_cons.1 (HPM.o.mem_iff.1 h) with h | h
      ·exact .inr (by rw [h];exact HLQ.o)
      ·exact .inl h
     ·exact .inr h
theorem szN_le {k n m:Nat} (h:SzN k m) (hn:n≤m):SzN k n:=⟨dI (zAt zAu hn) h.1,dI (zAt zAW hn) h.2⟩
theorem szQ_le {q:Rat} {M k:Nat} (h0:0≤q) (h1:q≤1) (hd:q.den∣M) (hz:M≠0) (hM:SzN k M):SzQ k q:=by
 have h2:=(Rat.le_iff q 1).1 h1;have h3:=Rat.num_nonneg.2 h0;have h4:=Nat.le_of_dvd (eH hz) hd;have h5:q.num≤q.den:=by simpa using h2
 exact ⟨szN_le hM za,szN_le hM h4⟩
theorem HoldB.sz {N:List BA} {M k:Nat} {f:zBm} (h:HoldB N M f) (hM:SzN k M) (p:BA):SzQ k (f p):=szQ_le (h.ok.pos p) (h.le p) (h.den p) h.nz hM
theorem posB_neg {nu:BA} (h:posB nu=true):zDu nu=false:=by
 unfold posB at h
 cases hn:zDu nu with
 | false=>rfl
 | true=>rw [hn] at h;simp at h
theorem sgB_pos {nu:BA} (h:posB nu=true):sgB nu=false:=by unfold sgB;rw [posB_neg h];rfl
theorem ratQ_sz {nu de:BA} (h:zDq nu de=0):SzQ 2000 (zCX nu de):=by
 have e:=ratF_prQ h;obtain ⟨h1,h2,h3,h4,h5⟩:=zCe h;have e1:zAz (zAY nu)=(zCX nu de).num.natAbs:=bH Prod.fst e;have e2:zAz de=(zCX nu de).den:=bH Prod.snd e
 have key:∀ s:BA,zCR s=true→s.size≤2000→zAz s<10 ^ 2000:=fun s hs hl=>by
  obtain ⟨q,hq⟩:∃ q,q=2000:=⟨_,rfl⟩;rw [←hq] at hl ⊢;refine dL (decV_dg (zAQ hs).1) (bY zd ?_)
  simpa using hl
 exact ⟨by rw [←e1];exact szN_of (key _ h1 h4),by rw [←e2];exact szN_of (key _ h2 h5)⟩
theorem FromQ_c (nu de:BA) (w:World) (h:zDq nu de=0) (hp:posB nu=true):Calls Tryz.prog 70 #[.agg #[.string nu,.string de]] w (zDl (zCX nu de) w):=by
 obtain ⟨h1,h2,h3,h4,h5⟩:=zCe h;have:=From_c nu de w (zAQ h1).1 h4 (zAQ h2).1 h5;rw [sgB_pos hp] at this;have e:=ratF_prQ h;have e1:zAz (zAY nu)=(zCX nu de).num.natAbs:=bH Prod.fst e;have e2:zAz de=(zCX nu de).den:=bH Prod.snd e;rw [e1,e2] at this;exact this
section
variable (A A2 A3 A4:Option Addr) (c c2 c3 c4:Nat) (a b:Rat) (w:World)
theorem MulQ_c (h:Nt w A c a.num.natAbs) (h2:Nt w A2 c2 a.den) (h3:Nt w A3 c3 b.num.natAbs) (h4:Nt w A4 c4 b.den) (ha:0≤a) (hb:0≤b) (sa:SzQ 100000000 a) (sb:SzQ 100000000 b) :
  Calls Tryz.prog 113 #[raV false A c a.num.natAbs A2 c2 a.den,raV false A3 c3 b.num.natAbs A4 c4 b.den] w (zDl (a*b) w):=by
 have:=RMul_c A A2 A3 A4 c c2 c3 c4 a.num.natAbs a.den b.num.natAbs b.den w h h2 h3 h4 sa.1.1 sa.2.1 sb.1.1 sb.2.1 (zEg a) (zEg b);rw [show (a.num.natAbs,a.den)=prQ a from rfl,show (b.num.natAbs,b.den)=prQ b from rfl,mulP_q ha hb] at this
 exact this
theorem AddQ_c (h:Nt w A c a.num.natAbs) (h2:Nt w A2 c2 a.den) (h3:Nt w A3 c3 b.num.natAbs) (h4:Nt w A4 c4 b.den) (ha:0≤a) (hb:0≤b) (sa:SzQ 100000000 a) (sb:SzQ 100000000 b) :
  Calls Tryz.prog 75 #[raV false A c a.num.natAbs A2 c2 a.den,raV false A3 c3 b.num.natAbs A4 c4 b.den] w (zDl (a+b) w):=by
 have:=RAdd_c A A2 A3 A4 c c2 c3 c4 a.num.natAbs a.den b.num.natAbs b.den w h h2 h3 h4 sa.1.1 sa.2.1 sb.1.1 sb.2.1 (zEg a) (zEg b);rw [show (a.num.natAbs,a.den)=prQ a from rfl,show (b.num.natAbs,b.den)=prQ b from rfl,addP_q ha hb] at this
 exact this
theorem SubQ_c (h:Nt w A c a.num.natAbs) (h2:Nt w A2 c2 a.den) (h3:Nt w A3 c3 b.num.natAbs) (h4:Nt w A4 c4 b.den) (hb:0≤b) (hle:b≤a) (sa:SzQ 100000000 a) (sb:SzQ 100000000 b) :
  Calls Tryz.prog 114 #[raV false A c a.num.natAbs A2 c2 a.den,raV false A3 c3 b.num.natAbs A4 c4 b.den] w (zDl (a - b) w):=by
 have:=RSub_c A A2 A3 A4 c c2 c3 c4 a.num.natAbs a.den b.num.natAbs b.den w h h2 h3 h4 sa.1.1 sa.2.1 sb.1.1 sb.2.1 (zEg a) (zEg b) (le_q hb hle);rw [show (a.num.natAbs,a.den)=prQ a from rfl,show (b.num.natAbs,b.den)=prQ b from rfl,subP_q hb hle] at this
 exact this
end
section
variable {w w':World} {g b:Nat} {f:zBm} {cs:Array Value} {T:TypeId} {A:Option Addr} {l:List Sh}
theorem zAI.ne (h:zAI w g f) (hb:Bx w b cs T):b≠g:=fun e=>by
 obtain ⟨L,⟨es,clk,h1,_⟩,_⟩:=h;subst e;unfold Bx at hb;rw [h1] at hb
 cases hb
theorem Bx.parts (hb:Bx w b cs T) (h:zAI w g f) (hg:w.grownBy w' (some g)):Bx w' b cs T:=by
 show w'.heap[b]?=_
 rw [hg.block b hb.lt (by simp;exact h.ne hb)]
 exact hb
theorem cell_parts {k o:Nat} {v:Value} (h:zAI w g f) (hg:w.grownBy w' (some g)) (hc:w.cell? ⟨k,o,none⟩=some v):w'.cell? ⟨k,o,none⟩=some v :=
 hg.cell hc fun e=>by
  injection e with e
  have:=h.nocell o;rw [←e] at this;rw [this] at hc
  cases hc
theorem Shs.parts (hs:Shs w A l) (h:zAI w g f) (hg:w.grownBy w' (some g)):Shs w' A l:=fun hl=>by
 obtain ⟨b,o,e,hc⟩:=hs hl;exact ⟨b,o,e,fun i hi=>⟨cell_parts h hg (hc i hi).1,cell_parts h hg (hc i hi).2.1,cell_parts h hg (hc i hi).2.2⟩⟩
theorem Nt.parts {c n:Nat} (hn:Nt w A c n) (h:zAI w g f) (hg:w.grownBy w' (some g)):Nt w' A c n:=by
 refine ⟨fun hl=>?_,hn.cap⟩
 obtain ⟨b,o,e,hc⟩:=hn.rd hl;exact ⟨b,o,e,fun i hi=>cell_parts h hg (hc i hi)⟩
end
end Go.Proofs.YtieoifkdobcpiaaGreatDoor
