/- Parts of the proof, joined: Package right: what the loop of Check keeps; a new entry of a map, mad. -/
import Derived.Test.YtieoifkdobcpiaaGreatDoorSa13
import Derived.Deep.MidRow
import Derived.Laws.CopyRow
set_option maxRecDepth 100000
set_option maxHeartbeats 8000000
namespace Dw
open Go Go.RowKit
def zDh {κ:Type} [DecidableEq κ] (mk:κ→Value) (w:World) (r:Nat) (f:κ→Option Value) (n:Nat):Prop :=
 ∃ (es:Array MapEntry) (clk:Nat) (L:List (κ×Value)),w.heap[r]?=some (.map es clk)∧es.toList.map (fun e=>(e.key,e.val))=L.map (fun p=>(mk p.1,p.2))∧(∀ k,zAR L k=f k)∧es.size=n∧∀ e∈es.toList,e.born<clk
section
variable {κ:Type} [DecidableEq κ] {mk:κ→Value} {w w':World} {r n:Nat} {f:κ→Option Value}
theorem zDh.is (h:zDh mk w r f n):zAx mk w r f:=by
 obtain ⟨es,clk,L,h1,h2,h3,_⟩:=h;exact ⟨es,clk,L,h1,h2,h3⟩
theorem zDh.lt (h:zDh mk w r f n):r<w.heap.size:=h.is.lt
theorem zDh.keep (h:zDh mk w r f n) (hk:w'.heap[r]?=w.heap[r]?):zDh mk w' r f n:=by
 obtain ⟨es,clk,L,hr,rest⟩:=h;exact ⟨es,clk,L,hk.trans hr,rest⟩
theorem zDh.below (h:zDh mk w r f n) (hb:Below w.heap.size w w'):zDh mk w' r f n:=h.keep (hb.block r h.lt)
theorem zDh.run_len {P:Program} {T K E:TypeId} (hT:P.underlying T=some (.map K E)) (ty:TypeId) (h:zDh mk w r f n):(Builtin.len_ #[T] ty #[Value.map (some r)]).run P w = .ok (.int .i64 (n:Int)) w:=by
 obtain ⟨es,clk,L,hr,_,_,rfl,_⟩:=h;have hg:(getObj r).run P w = .ok (.map es clk) w:=qk;simp [Builtin.len_,run_underlying hT,hg,goInt]
end
theorem findIdx_last {es:Array MapEntry} {e:MapEntry} (h:∀ x∈es.toList,x.born<e.born):(es.push e).findIdx? (fun x=>((x.born:Nat):Int) == ((e.born:Nat):Int))=some es.size:=by
 rw [Array.findIdx?_push]
 have hn:es.findIdx? (fun x=>((x.born:Nat):Int) == ((e.born:Nat):Int))=none:=by
  rw [Array.findIdx?_eq_none_iff];intro x hx;have:=h x (by simpa using hx)
  simp
  omega
 rw [hn];simp
section
variable {P:Program} {κ:Type} [DecidableEq κ] {mk:κ→Value} {T K E:TypeId}
theorem run_entry_new (hT:P.underlying T=some (.map K E)) (hK:KeyT P K mk) {z:Value} (hz:∀ w,(zeroValue E).run P w = .ok z w) {w:World} {r n:Nat} {f:κ→Option Value} (h:zDh mk w r f n) (k:κ) (hk:f k=none) (v:Value) :
  ∃ (st:Nat) (w1 w2:World),(Instr.mapEntry T (.map (some r)) (mk k)).run P w = .ok (.tuple #[z,.int .i64 (st:Int)]) w1∧(Instr.entryStore T (.map (some r)) (.int .i64 (st:Int)) v).run P w1 = .ok () w2 ∧
   zDh mk w2 r (fun k'=>if k'=k then some v else f k') (n+1)∧w.grownBy w1 (some r)∧w1.heap.size=w.heap.size∧w.grownBy w2 (some r)∧w2.heap.size=w.heap.size:=by
 obtain ⟨es,clk,L,hr,hL,hf,hn,hborn⟩:=h;have hrl:r<w.heap.size:=(Array.getElem?_eq_some_iff.1 hr).1;obtain ⟨d,hd,hs⟩:=hK.same;obtain ⟨o,h1,h2,_⟩:=zDj hs k es.toList L 0 hL;rw [hf,hk] at h2;have ho:o=none:=by cases o<;>simp_all
 subst ho;have hg:(getObj r).run P w = .ok (.map es clk) w:=qk;have hset:∀ (es':Array MapEntry) (c':Nat),(setObj r (.map es' c')).run P w = .ok () { w with heap:=w.heap.setIfInBounds r (.map es' c') }:=fun es' c'=>by simp [setObj,Sem.run,hr]
 have hfk:(Instr.findKey K (mk k) es.toList).run P w = .ok none w:=by
  simp [Instr.findKey,run_underlying hd,h1]
 have hgrow:∀ (es':Array MapEntry) (c':Nat),w.grownBy { w with heap:=w.heap.setIfInBounds r (.map es' c') } (some r):=fun es' c' =>
  ⟨rfl,rfl,rfl,zd,fun i hi hne=>by simp only [Array.getElem?_setIfInBounds];rw [if_neg (fun e=>hne (by rw [e]))]⟩
 have hget:∀ (es':Array MapEntry) (c':Nat),({ w with heap:=w.heap.setIfInBounds r (.map es' c') }:World).heap[r]?=some (.map es' c'):=fun es' c'=>by
  simp [hrl]
 have hsz:es.size=L.length:=yp;refine ⟨clk,{ w with heap:=w.heap.setIfInBounds r (.map (es.push { key:=mk k,val:=z,born:=clk }) (clk+1)) },{ w with heap:=w.heap.setIfInBounds r (.map (es.push { key:=mk k,val:=v,born:=clk }) (clk+1)) },?_,?_,⟨_,_,L++[(k,v)],hget _ _,by simp [hL],?_,by simp [hn],?_⟩,hgrow _ _,zd,hgrow _ _,zd⟩
 ·simp [Instr.mapEntry,run_underlying hT,hg,hK.chk,hfk,hz,hset,goInt]
 ·have hg2:(getObj r).run P { w with heap:=w.heap.setIfInBounds r (.map (es.push { key:=mk k,val:=z,born:=clk }) (clk+1)) } = .ok (.map (es.push { key:=mk k,val:=z,born:=clk }) (clk+1)) { w with heap:=w.heap.setIfInBounds r (.map (es.push { key:=mk k,val:=z,born:=clk }) (clk+1)) }:=by
   simp [getObj,Sem.run,hrl]
  have hidx:=findIdx_last (es:=es) (e:={ key:=mk k,val:=z,born:=clk }) hborn
  have hmod:(es.push { key:=mk k,val:=z,born:=clk }).modify es.size (fun e=>{ e with val:=v })=es.push { key:=mk k,val:=v,born:=clk }:=by
   apply Array.ext
   ·simp
   ·intro i hi1 hi2
    simp only [Array.getElem_modify,Array.getElem_push]
    by_cases hi:i<es.size
    ·simp [hi,show es.size≠i by omega]
    ·simp [show es.size=i by simp at hi2;omega]
  have hset2:∀ (es':Array MapEntry) (c':Nat),(setObj r (.map es' c')).run P { w with heap:=w.heap.setIfInBounds r (.map (es.push { key:=mk k,val:=z,born:=clk }) (clk+1)) } = .ok () { w with heap:=w.heap.setIfInBounds r (.map es' c') }:=fun es' c'=>by
   simp [setObj,Sem.run,hrl]
  simp only at hidx;simp [Instr.entryStore,hg2,asInt,asIntOf,hidx,hmod,hset2]
 ·intro k'
  rw [lookE_push (by rw [hf];exact hk),hf]
 ·intro e he
  simp only [Array.toList_push,List.mem_append,List.mem_singleton] at he
  rcases he with he | rfl
  ·have:=hborn e he;omega
  ·simp
end
end Dw
namespace Go.Proofs.YtieoifkdobcpiaaGreatDoor
open Go.RowKit Dw
def zBH (x:ByteArray) (q:De):Bool:=decide (q.id=x)
def kF (pre:List De) (x:ByteArray):Option Value:=(pre.find? (zBH x)).map fun q=>Value.int .i64 q.kd
def kN (pre:List De) (x:ByteArray):Int:=match pre.find? (zBH x) with
 | some q=>q.kd
 | none=>0
def endB (pre:List De) (x:ByteArray):Bool:=pre.any fun q=>decide (q.kd=4)&&decide (q.ot=x)
def bornB (pre:List De) (x:ByteArray):Bool:=pre.any fun q=>decide (q.kd=1)&&decide (q.th=x)
def goneB (pre:List De) (x:ByteArray):Bool:=pre.any fun q=>decide (q.kd=5)&&decide (q.fr=x)
def fl (b:Bool):Option Value:=if b=true then some (.bool true) else none
theorem fl_get (b:Bool):(fl b).getD (.bool false) = .bool b:=by cases b<;>rfl
theorem kF_get (pre:List De) (x:ByteArray):(kF pre x).getD (.int .i64 0) = .int .i64 (kN pre x):=by
 unfold kF kN
 cases pre.find? (zBH x)<;>rfl
theorem kF_none {pre:List De} {x:ByteArray} (h:pre.any (zBH x)=false):kF pre x=none:=by
 unfold kF
 have:pre.find? (zBH x)=none:=by
  rw [List.find?_eq_none];intro q hq hs;have:=List.any_eq_true.2 ⟨q,hq,hs⟩;rw [h] at this;cases this
 rw [this];rfl
theorem kN_none {pre:List De} {x:ByteArray} (h:pre.any (zBH x)=false):kN pre x=0:=by
 have:=kF_get pre x;rw [kF_none h] at this;simp at this
 omega
theorem kN_some {pre:List De} {x:ByteArray} (h:pre.any (zBH x)=true) (hg:∀ q∈pre,1≤q.kd):0<kN pre x:=by
 unfold kN
 cases hf:pre.find? (zBH x) with
 | none =>
  rw [List.find?_eq_none] at hf;obtain ⟨q,hq,hs⟩:=List.any_eq_true.1 h;exact absurd hs (hf q hq)
 | some q =>
  have:=hg q (List.mem_of_find?_eq_some hf)
  show 0<q.kd
  omega
theorem kF_push {pre:List De} {d:De} (h:pre.any (zBH d.id)=false):(fun k=>if k=d.id then some (Value.int .i64 d.kd) else kF pre k)=kF (pre++[d]):=by
 funext k
 unfold kF;rw [List.find?_append]
 by_cases hk:k=d.id
 ·subst hk
  have:pre.find? (zBH d.id)=none:=by
   rw [List.find?_eq_none];intro q hq hs;have:=List.any_eq_true.2 ⟨q,hq,hs⟩;rw [h] at this;cases this
  simp [this,zBH]
 ·rw [if_neg hk]
  have:zBH k d=false:=by simp [zBH];exact fun e=>hk e.symm
  simp [this]
theorem fl_push {b c:Bool} {P:Prop} [Decidable P] (h:c=(b || decide P)):(if P then some (Value.bool true) else fl b)=fl c:=by
 subst h
 by_cases hp:P<;>simp [hp,fl]
theorem end_push {pre:List De} {d:De} (hk:d.kd=4):(fun k=>if k=d.ot then some (Value.bool true) else fl (endB pre k))=fun k=>fl (endB (pre++[d]) k):=by
 funext k
 exact fl_push (by unfold endB;rw [List.any_append];simp [hk,eq_comm])
theorem born_push {pre:List De} {d:De} (hk:d.kd=1):(fun k=>if k=d.th then some (Value.bool true) else fl (bornB pre k))=fun k=>fl (bornB (pre++[d]) k):=by
 funext k
 exact fl_push (by unfold bornB;rw [List.any_append];simp [hk,eq_comm])
theorem gone_push {pre:List De} {d:De} (hk:d.kd=5):(fun k=>if k=d.fr then some (Value.bool true) else fl (goneB pre k))=fun k=>fl (goneB (pre++[d]) k):=by
 funext k
 exact fl_push (by unfold goneB;rw [List.any_append];simp [hk,eq_comm])
theorem end_same {pre:List De} {d:De} (hk:d.kd≠4):(fun k=>fl (endB (pre++[d]) k))=fun k=>fl (endB pre k):=by
 funext k;unfold endB;rw [List.any_append];simp [hk]
theorem born_same {pre:List De} {d:De} (hk:d.kd≠1):(fun k=>fl (bornB (pre++[d]) k))=fun k=>fl (bornB pre k):=by
 funext k;unfold bornB;rw [List.any_append];simp [hk]
theorem gone_same {pre:List De} {d:De} (hk:d.kd≠5):(fun k=>fl (goneB (pre++[d]) k))=fun k=>fl (goneB pre k):=by
 funext k;unfold goneB;rw [List.any_append];simp [hk]
structure CS (w0 w:World) (ci:Nat) (A:Option Addr) (c r1 r2 g1 g2:Nat) (AL:Option Addr) (cL:Nat) (l:List Rg) (uA:Option Addr) (uc:Nat) (us:List ByteArray) (m2 m3 m4 m5 lo hi:Nat) (p:De) (pre:List De):Prop where
 bel:Below w0.heap.size w0 w
 ck:Bx w ci (ckC A c r1 r2 g1 g2 AL cL l uA uc us m2 m3 m4 m5 p) 184
 rg:Rgs w0 A l
 st:Strs w0 uA us
 far:∀ w'':World,(∀ x,lo≤x→x<hi→w''.heap[x]?=w.heap[x]?)→Rgs w'' A l→WR w'' A r1 r2 g1 g2 AL l
 hh:hi≤w.heap.size
 k2:zDh Value.string w m2 (kF pre) pre.length
 k3:zAx Value.string w m3 (fun k=>fl (endB pre k))
 k4:zAx Value.string w m4 (fun k=>fl (bornB pre k))
 k5:zAx Value.string w m5 (fun k=>fl (goneB pre k))
 ou:∀ x,x=ci∨x=m2∨x=m3∨x=m4∨x=m5→w0.heap.size≤x∧(x<lo∨hi≤x)
 ne:m2≠m3∧m2≠m4∧m2≠m5∧m3≠m4∧m3≠m5∧m4≠m5
 la:pre=[]∨pre.getLast?=some p
section
variable {w0 w w':World} {ci:Nat} {A:Option Addr} {c r1 r2 g1 g2:Nat} {AL:Option Addr} {cL:Nat} {l:List Rg} {uA:Option Addr} {uc:Nat} {us:List ByteArray} {m2 m3 m4 m5 lo hi:Nat} {p:De} {pre:List De}
theorem CS.below (h:CS w0 w ci A c r1 r2 g1 g2 AL cL l uA uc us m2 m3 m4 m5 lo hi p pre) (hb:Below w.heap.size w w'):CS w0 w' ci A c r1 r2 g1 g2 AL cL l uA uc us m2 m3 m4 m5 lo hi p pre :=
 ⟨zAb h.bel hb,h.ck.below hb,h.rg,h.st,fun w'' hf=>h.far w'' fun x h1 h2=>(hf x h1 h2).trans (hb.block x (Nat.lt_of_lt_of_le h2 h.hh)),Nat.le_trans h.hh hb.size,h.k2.below hb,h.k3.below hb,h.k4.below hb,h.k5.below hb,h.ou,h.ne,h.la⟩
theorem CS.wr (h:CS w0 w ci A c r1 r2 g1 g2 AL cL l uA uc us m2 m3 m4 m5 lo hi p pre):WR w A r1 r2 g1 g2 AL l:=h.far w (fun _ _ _=>rfl) (h.rg.below h.bel)
theorem CS.str (h:CS w0 w ci A c r1 r2 g1 g2 AL cL l uA uc us m2 m3 m4 m5 lo hi p pre):Strs w uA us:=h.st.below h.bel
theorem CS.cne (h:CS w0 w ci A c r1 r2 g1 g2 AL cL l uA uc us m2 m3 m4 m5 lo hi p pre):ci≠m2∧ci≠m3∧ci≠m4∧ci≠m5 :=
 ⟨zAh h.k2.is h.ck,zAh h.k3 h.ck,zAh h.k4 h.ck,zAh h.k5 h.ck⟩
end
def offB (ci m2 m3 m4 m5 x:Nat):Prop:=x≠ci∧x≠m2∧x≠m3∧x≠m4∧x≠m5
theorem CS.next {w0 w w':World} {ci:Nat} {A:Option Addr} {c r1 r2 g1 g2:Nat} {AL:Option Addr} {cL:Nat} {l:List Rg} {uA:Option Addr} {uc:Nat} {us:List ByteArray} {m2 m3 m4 m5 lo hi:Nat} {p d:De} {pre:List De}
  (h:CS w0 w ci A c r1 r2 g1 g2 AL cL l uA uc us m2 m3 m4 m5 lo hi p pre) (ho:w'.os=w.os∧w'.tape=w.tape∧w'.output=w.output∧w.heap.size≤w'.heap.size)
  (hx:∀ x,x<w.heap.size→offB ci m2 m3 m4 m5 x→w'.heap[x]?=w.heap[x]?)
  (hc:Bx w' ci (ckC A c r1 r2 g1 g2 AL cL l uA uc us m2 m3 m4 m5 d) 184) (h2:zDh Value.string w' m2 (kF (pre++[d])) (pre++[d]).length)
  (h3:zAx Value.string w' m3 (fun k=>fl (endB (pre++[d]) k))) (h4:zAx Value.string w' m4 (fun k=>fl (bornB (pre++[d]) k))) (h5:zAx Value.string w' m5 (fun k=>fl (goneB (pre++[d]) k))) :
  CS w0 w' ci A c r1 r2 g1 g2 AL cL l uA uc us m2 m3 m4 m5 lo hi d (pre++[d]):=by
 have hoff:∀ x,(x<w0.heap.size∨(lo≤x∧x<hi))→offB ci m2 m3 m4 m5 x:=fun x hx=>by
  refine ⟨?_,?_,?_,?_,?_⟩<;>(rintro rfl;have:=h.ou x zd;omega)
 have hb:Below w0.heap.size w w':=⟨ho.1,ho.2.1,ho.2.2.1,ho.2.2.2,fun k hk=>hx k (Nat.lt_of_lt_of_le hk h.bel.size) (hoff k (.inl hk))⟩
 exact ⟨h.bel.trans hb,hc,h.rg,h.st,fun w'' hf=>h.far w'' fun x h1 h2=>(hf x h1 h2).trans (hx x (Nat.lt_of_lt_of_le h2 h.hh) (hoff x (.inr ⟨h1,h2⟩))),Nat.le_trans h.hh ho.2.2.2,h2,h3,h4,h5,h.ou,h.ne,.inr zd⟩
theorem grown_refl (w:World) (row:Option Nat):w.grownBy w row:=⟨rfl,rfl,rfl,Nat.le_refl _,fun _ _ _=>rfl⟩
theorem CS.done {w0 w w12 w13 w14:World} {ci:Nat} {A:Option Addr} {c r1 r2 g1 g2:Nat} {AL:Option Addr} {cL:Nat} {l:List Rg} {uA:Option Addr} {uc:Nat} {us:List ByteArray} {m2 m3 m4 m5 lo hi m:Nat} {p d:De} {pre:List De}
  (h:CS w0 w ci A c r1 r2 g1 g2 AL cL l uA uc us m2 m3 m4 m5 lo hi p pre) (hid:pre.any (zBH d.id)=false)
  (hm:zDh Value.string w12 m2 (fun k=>if k=d.id then some (Value.int .i64 d.kd) else kF pre k) (pre.length+1)) (hg:w.grownBy w12 (some m2)) (hs:w12.heap.size=w.heap.size)
  (hw13:w13=w12.setRow ci (ckC A c r1 r2 g1 g2 AL cL l uA uc us m2 m3 m4 m5 d)) (hg14:w13.grownBy w14 (some m)) (hmm:m=m3∨m=m4∨m=m5)
  (h3:zAx Value.string w14 m3 (fun k=>fl (endB (pre++[d]) k))) (h4:zAx Value.string w14 m4 (fun k=>fl (bornB (pre++[d]) k))) (h5:zAx Value.string w14 m5 (fun k=>fl (goneB (pre++[d]) k))) :
  CS w0 w14 ci A c r1 r2 g1 g2 AL cL l uA uc us m2 m3 m4 m5 lo hi d (pre++[d]):=by
 subst hw13;have hc12:Bx w12 ci (ckC A c r1 r2 g1 g2 AL cL l uA uc us m2 m3 m4 m5 p) 184:=(hg.block _ h.ck.lt (by simp;exact h.cne.1)).trans h.ck
 have hsz:(w12.setRow ci (ckC A c r1 r2 g1 g2 AL cL l uA uc us m2 m3 m4 m5 d)).heap.size=w.heap.size:=by rw [setRow_size,hs]
 have hb:∀ x,x<w.heap.size→x≠m→w14.heap[x]?=(w12.setRow ci (ckC A c r1 r2 g1 g2 AL cL l uA uc us m2 m3 m4 m5 d)).heap[x]?:=fun x hx hn=>hg14.block x (by rw [hsz];exact hx) (by simp;exact hn)
 have hcm:ci≠m:=by
  have:=h.cne
  rcases hmm with rfl | rfl | rfl
  ·exact this.2.1
  ·exact this.2.2.1
  ·exact this.2.2.2
 have h2m:m2≠m:=by
  have:=h.ne
  rcases hmm with rfl | rfl | rfl
  ·exact this.1
  ·exact this.2.1
  ·exact this.2.2.1
 refine h.next ⟨?_,?_,?_,?_⟩ (fun x hx ho=>?_) ?_ ?_ h3 h4 h5
 ·rw [hg14.os,setRow_os,hg.os]
 ·rw [hg14.tape,setRow_tape,hg.tape]
 ·rw [hg14.output,setRow_output,hg.output]
 ·have:=hg14.size
  rw [hsz] at this;exact this
 ·obtain ⟨o1,o2,o3,o4,o5⟩:=ho
  have hxm:x≠m:=by rcases hmm with rfl | rfl | rfl<;>assumption
  rw [hb x hx hxm,setRow_other _ _ _ _ o1,hg.block x hx (by simp;exact o2)]
 ·exact (hb ci h.ck.lt hcm).trans (setRow_heap _ _ _ _ _ _ hc12)
 ·have hk:zDh Value.string w14 m2 (fun k=>if k=d.id then some (Value.int .i64 d.kd) else kF pre k) (pre.length+1) :=
   hm.keep ((hb m2 h.k2.lt h2m).trans (setRow_other _ _ _ _ h.cne.1.symm))
  rw [kF_push hid] at hk
  simpa using hk
theorem CS.mid {w0 w w12:World} {ci:Nat} {A:Option Addr} {c r1 r2 g1 g2:Nat} {AL:Option Addr} {cL:Nat} {l:List Rg} {uA:Option Addr} {uc:Nat} {us:List ByteArray} {m2 m3 m4 m5 lo hi:Nat} {p:De} {pre:List De}
  (h:CS w0 w ci A c r1 r2 g1 g2 AL cL l uA uc us m2 m3 m4 m5 lo hi p pre) (hg:w.grownBy w12 (some m2)) (X:Array Value) :
  zAx Value.string (w12.setRow ci X) m3 (fun k=>fl (endB pre k))∧zAx Value.string (w12.setRow ci X) m4 (fun k=>fl (bornB pre k))∧zAx Value.string (w12.setRow ci X) m5 (fun k=>fl (goneB pre k)):=by
 have k:∀ {x:Nat},x<w.heap.size→x≠ci→x≠m2→(w12.setRow ci X).heap[x]?=w.heap[x]?:=fun hx h1 h2=>by
  rw [setRow_other _ _ _ _ h1,hg.block _ hx (by simp;exact h2)]
 have hn:=h.ne;have hc:=h.cne;exact ⟨h.k3.keep (k h.k3.lt hc.2.1.symm hn.1.symm),h.k4.keep (k h.k4.lt hc.2.2.1.symm hn.2.1.symm),h.k5.keep (k h.k5.lt hc.2.2.2.symm hn.2.2.1.symm)⟩
theorem run_storeVar_ck (ci:Nat) (A:Option Addr) (c r1 r2 g1 g2:Nat) (AL:Option Addr) (cL:Nat) (l:List Rg) (uA:Option Addr) (uc:Nat) (us:List ByteArray) (m2 m3 m4 m5:Nat) (p d:De) (w:World)
  (hg:Bx w ci (ckC A c r1 r2 g1 g2 AL cL l uA uc us m2 m3 m4 m5 p) 184) :
  (storeVar 52 ⟨ci,11,none⟩ (deV d)).run Tryz.prog w = .ok () (w.setRow ci (ckC A c r1 r2 g1 g2 AL cL l uA uc us m2 m3 m4 m5 d)):=by
 have h:=run_storeCells_at Tryz.prog ci 11 184 (deC d).toList 0 _ w hg zd (fun v hv=>by simp at hv;rcases hv with h | h | h | h | h | h | h | h | h | h | h | h | h | h | h | h<;>(subst h;rfl))
 have hi:(Tryz.prog.info? 52).map (·.size)=some (deC d).size:=zb
 cases hq:Tryz.prog.info? 52 with
 | none=>rw [hq] at hi;cases hi
 | some i =>
  have hs:(deC d).size=i.size:=by rw [hq] at hi;simpa using hi.symm
  have h3:(storeCells ⟨ci,11,none⟩ (deC d).toList 0).run Tryz.prog w = .ok () (w.setRow ci (ckC A c r1 r2 g1 g2 AL cL l uA uc us m2 m3 m4 m5 d)):=h
  show (storeVar 52 ⟨ci,11,none⟩ (.agg (deC d))).run Tryz.prog w=_
  generalize deC d=dc at *;generalize w.setRow ci (ckC A c r1 r2 g1 g2 AL cL l uA uc us m2 m3 m4 m5 d)=w2 at *;simp [storeVar,sizeOf,typeInfo,hq,Value.cells,hs,h3]
theorem wp_store_var {P:Program} {o:Oper} {a:Act} {w w2:World} {K:Act→World→Prop} {Q:Exit→Act→World→Prop} (ty:TypeId) (x y:Operand) (ho:o.op = .store ty x y)
  (ad:Addr) (v:Value) (hx:a.eval x = .pointer (some ad)) (hy:a.eval y=v) (hr:(storeVar ty ad v).run P w = .ok () w2) (h:K (a.put o.dst undef) w2):o.wp P a w K Q:=by
 unfold Oper.wp execOp;simp only [ho,hx,hy,Instr.storeAt,Instr.sureAddr,Sem.run_bind,Sem.run_pure,Result.andThen_ok,hr];exact h
theorem rangeD {w:World} {b:Nat} {d:De} (h:Bx w b (deC d) 52):w.rangeAt b 0 (deC d).toList:=fun j v hv=>by
 rw [Nat.zero_add];exact h.cell (by rw [←hv,Array.getElem?_toList])
theorem rangeP {w:World} {ci:Nat} {A:Option Addr} {c r1 r2 g1 g2:Nat} {AL:Option Addr} {cL:Nat} {l:List Rg} {uA:Option Addr} {uc:Nat} {us:List ByteArray} {m2 m3 m4 m5:Nat} {p:De}
  (h:Bx w ci (ckC A c r1 r2 g1 g2 AL cL l uA uc us m2 m3 m4 m5 p) 184):w.rangeAt ci 11 (deC p).toList:=fun j v hv=>by
 refine h.cell ?_
 have e:(ckC A c r1 r2 g1 g2 AL cL l uA uc us m2 m3 m4 m5 p).toList=(ckC A c r1 r2 g1 g2 AL cL l uA uc us m2 m3 m4 m5 p).toList.take 11++(deC p).toList:=rfl;rw [←Array.getElem?_toList,e,List.getElem?_append_right zd];rw [←hv]
 congr 1
 simp
theorem zDG {ops:Array Oper} {S:World→Prop} {op:Oper} {a:Act} (hw:Region.wanted op (yielded ops a.tmps)=true) (x:Operand) (ho:op.op = .load 52 x) (b o:Nat) (hx:a.eval x = .pointer (some ⟨b,o,none⟩)) (d:De)
  (hS:∀ w,S w→w.rangeAt b o (deC d).toList):YieldsIf Tryz.prog ops S op (deV d) a:=by
 exact yieldsIf_load_mid hw _ x ho b o hx (deC d).toList _ hS Tryz.underlying52 rfl zb
def divV (d:De):Int :=
 if (d.kd=1∧zBp d.th=false)∨(d.kd=5∧zBp d.fr=false) then 5 else if zDr d.bg=false then 1 else zCn d
theorem values_1 (ci:Nat) (A:Option Addr) (c r1 r2 g1 g2:Nat) (AL:Option Addr) (cL:Nat) (l:List Rg) (uA:Option Addr) (uc:Nat) (us:List ByteArray) (m2 m3 m4 m5:Nat) (p d:De) (f2 f3:ByteArray→Option Value) (w:World)
  (hk:d.kd=1) (hc:Bx w ci (ckC A c r1 r2 g1 g2 AL cL l uA uc us m2 m3 m4 m5 p) 184) (hw:WR w A r1 r2 g1 g2 AL l) (hu:Strs w uA us) (hd:DeOk w d) (h2:zAx Value.string w m2 f2) (h3:zAx Value.string w m3 f3) :
  Calls Tryz.prog 149 #[.pointer (some ⟨ci,0,none⟩),deV d,.agg #[.bool true,.bool false,.bool false,.bool false,.bool false,.bool false,.bool false,.bool true,.bool false]] w (zAe (.int .i64 (divV d)) w):=by
 generalize hres:divV d=res;have HR:=zq hres;clear hres;have HV:=zq (VS.start w ci #[.bool true,.bool false,.bool false,.bool false,.bool false,.bool false,.bool false,.bool true,.bool false] A c r1 r2 g1 g2 AL cL l uA uc us m2 m3 m4 m5 p d f2 f3 hc hw hu hd h2 h3);clear hc hw hu hd h2 h3;obtain ⟨W,hW⟩:∃ W,W=(w.alloc (.cells (deC d) 52)).alloc (.cells #[.bool true,.bool false,.bool false,.bool false,.bool false,.bool false,.bool false,.bool true,.bool false] 135):=⟨_,rfl⟩;rw [←hW] at HV
 go_enter Tryz.func149,Tryz.ntmps149
 go_wp2_with fail
 rw [←hW];clear hW;have hsz:=HV.o.fx.lt;have x3:=HV.o.dx.cell (i:=3) rfl;have x12:=HV.o.dx.cell (i:=12) rfl;have y0:=HV.o.fx.cell (i:=0) rfl;have y1:=HV.o.fx.cell (i:=1) rfl;have y2:=HV.o.fx.cell (i:=2) rfl;have y3:=HV.o.fx.cell (i:=3) rfl;have y4:=HV.o.fx.cell (i:=4) rfl;have y5:=HV.o.fx.cell (i:=5) rfl;have y6:=HV.o.fx.cell (i:=6) rfl;have y7:=HV.o.fx.cell (i:=7) rfl;have y8:=HV.o.fx.cell (i:=8) rfl;have hz:=HV.o.dok.strs.2.1
 go_wp2_with fail
 with_reducible refine (zBP d.th _ hz).mono ?_
 rintro e w2 ⟨rfl,hb2⟩;have HV2:=zq (HV.o.below hb2);clear hsz x3 x12 y0 y1 y2 y3 y4 y5 y6 y7 y8;clear hb2 HV
 cases hnm:zBp d.th with
 | false =>
  have HS:Hid (res=5):=by
   show _=_
   rw [←HR.o];unfold divV;rw [hk];simp [hnm]
  clear hnm HR hk;have hsz:=HV2.o.fx.lt;have x3:=HV2.o.dx.cell (i:=3) rfl;have x12:=HV2.o.dx.cell (i:=12) rfl;have y0:=HV2.o.fx.cell (i:=0) rfl;have y1:=HV2.o.fx.cell (i:=1) rfl;have y2:=HV2.o.fx.cell (i:=2) rfl;have y3:=HV2.o.fx.cell (i:=3) rfl;have y4:=HV2.o.fx.cell (i:=4) rfl;have y5:=HV2.o.fx.cell (i:=5) rfl;have y6:=HV2.o.fx.cell (i:=6) rfl;have y7:=HV2.o.fx.cell (i:=7) rfl;have y8:=HV2.o.fx.cell (i:=8) rfl;go_wp2;go_ret
  exact zAe.mk (zAW HS.o.symm) HV2.o.bel
 | true =>
  have HR1:Hid ((if zDr d.bg=false then (1:Int) else zCn d)=res):=by
   show _=_
   rw [←HR.o];unfold divV;rw [hk];simp [hnm]
  clear hnm HR hk;have HDY:=zq (fun W'=>isDay_c d.bg W')
  have hsz:=HV2.o.fx.lt;have x3:=HV2.o.dx.cell (i:=3) rfl;have x12:=HV2.o.dx.cell (i:=12) rfl;have y0:=HV2.o.fx.cell (i:=0) rfl;have y1:=HV2.o.fx.cell (i:=1) rfl;have y2:=HV2.o.fx.cell (i:=2) rfl;have y3:=HV2.o.fx.cell (i:=3) rfl;have y4:=HV2.o.fx.cell (i:=4) rfl;have y5:=HV2.o.fx.cell (i:=5) rfl;have y6:=HV2.o.fx.cell (i:=6) rfl;have y7:=HV2.o.fx.cell (i:=7) rfl;have y8:=HV2.o.fx.cell (i:=8) rfl
  go_wp2_with fail
  with_reducible refine (HDY.o _).mono ?_
  rintro e w3 ⟨rfl,rfl⟩
  cases hb:zDr d.bg with
  | false =>
   have HS:Hid (res=1):=by
    show _=_
    rw [←HR1.o,if_pos hb]
   clear hb HR1;go_wp2;go_ret
   exact zAe.mk (zAW HS.o.symm) HV2.o.bel
  | true =>
   have HS:Hid (res=zCn d):=by
    show _=_
    rw [←HR1.o,if_neg (by rw [hb];simp)]
   have HSH:=zq (checkShares_c d w2 HV2.o.dok);clear hb HR1 HDY;have x0:=HV2.o.dx.cell (i:=0) rfl;have x1:=HV2.o.dx.cell (i:=1) rfl;have x2:=HV2.o.dx.cell (i:=2) rfl;have x4:=HV2.o.dx.cell (i:=4) rfl;have x5:=HV2.o.dx.cell (i:=5) rfl;have x6:=HV2.o.dx.cell (i:=6) rfl;have x7:=HV2.o.dx.cell (i:=7) rfl;have x8:=HV2.o.dx.cell (i:=8) rfl;have x9:=HV2.o.dx.cell (i:=9) rfl;have x10:=HV2.o.dx.cell (i:=10) rfl;have x11:=HV2.o.dx.cell (i:=11) rfl;have x13:=HV2.o.dx.cell (i:=13) rfl;have x14:=HV2.o.dx.cell (i:=14) rfl;have x15:=HV2.o.dx.cell (i:=15) rfl
   go_wp2_with fail
   with_reducible refine HSH.o.mono ?_
   rintro e w4 ⟨rfl,hb4⟩;have HV4:=zq (HV2.o.below hb4);clear hsz x0 x1 x2 x3 x4 x5 x6 x7 x8 x9 x10 x11 x12 x13 x14 x15 y0 y1 y2 y3 y4 y5 y6 y7 y8;clear hb4 HV2 HSH;have hsz:=HV4.o.fx.lt;have y0:=HV4.o.fx.cell (i:=0) rfl;have y1:=HV4.o.fx.cell (i:=1) rfl;have y2:=HV4.o.fx.cell (i:=2) rfl;have y3:=HV4.o.fx.cell (i:=3) rfl;have y4:=HV4.o.fx.cell (i:=4) rfl;have y5:=HV4.o.fx.cell (i:=5) rfl;have y6:=HV4.o.fx.cell (i:=6) rfl;have y7:=HV4.o.fx.cell (i:=7) rfl;have y8:=HV4.o.fx.cell (i:=8) rfl
   by_cases hz:zCn d=0
   ·rw [hz] at HS ⊢
    clear hz;go_wp2;go_ret
    exact zAe.mk (zAW HS.o.symm) HV4.o.bel
   ·have hzb:(zCn d != 0)=true:=by simpa using hz
    clear hz;go_wp2;go_ret
    exact zAe.mk (zAW HS.o.symm) HV4.o.bel
theorem values_5 (ci:Nat) (A:Option Addr) (c r1 r2 g1 g2:Nat) (AL:Option Addr) (cL:Nat) (l:List Rg) (uA:Option Addr) (uc:Nat) (us:List ByteArray) (m2 m3 m4 m5:Nat) (p d:De) (f2 f3:ByteArray→Option Value) (w:World)
  (hk:d.kd=5) (hc:Bx w ci (ckC A c r1 r2 g1 g2 AL cL l uA uc us m2 m3 m4 m5 p) 184) (hw:WR w A r1 r2 g1 g2 AL l) (hu:Strs w uA us) (hd:DeOk w d) (h2:zAx Value.string w m2 f2) (h3:zAx Value.string w m3 f3) :
  Calls Tryz.prog 149 #[.pointer (some ⟨ci,0,none⟩),deV d,.agg #[.bool false,.bool true,.bool false,.bool false,.bool false,.bool false,.bool false,.bool true,.bool false]] w (zAe (.int .i64 (divV d)) w):=by
 generalize hres:divV d=res;have HR:=zq hres;clear hres;have HV:=zq (VS.start w ci #[.bool false,.bool true,.bool false,.bool false,.bool false,.bool false,.bool false,.bool true,.bool false] A c r1 r2 g1 g2 AL cL l uA uc us m2 m3 m4 m5 p d f2 f3 hc hw hu hd h2 h3);clear hc hw hu hd h2 h3;obtain ⟨W,hW⟩:∃ W,W=(w.alloc (.cells (deC d) 52)).alloc (.cells #[.bool false,.bool true,.bool false,.bool false,.bool false,.bool false,.bool false,.bool true,.bool false] 135):=⟨_,rfl⟩;rw [←hW] at HV
 go_enter Tryz.func149,Tryz.ntmps149
 go_wp2_with fail
 rw [←hW];clear hW;have hsz:=HV.o.fx.lt;have x4:=HV.o.dx.cell (i:=4) rfl;have x12:=HV.o.dx.cell (i:=12) rfl;have y0:=HV.o.fx.cell (i:=0) rfl;have y1:=HV.o.fx.cell (i:=1) rfl;have y2:=HV.o.fx.cell (i:=2) rfl;have y3:=HV.o.fx.cell (i:=3) rfl;have y4:=HV.o.fx.cell (i:=4) rfl;have y5:=HV.o.fx.cell (i:=5) rfl;have y6:=HV.o.fx.cell (i:=6) rfl;have y7:=HV.o.fx.cell (i:=7) rfl;have y8:=HV.o.fx.cell (i:=8) rfl;have hz:=HV.o.dok.strs.2.2.1
 go_wp2_with fail
 with_reducible refine (zBP d.fr _ hz).mono ?_
 rintro e w2 ⟨rfl,hb2⟩;have HV2:=zq (HV.o.below hb2);clear hsz x4 x12 y0 y1 y2 y3 y4 y5 y6 y7 y8;clear hb2 HV
 cases hnm:zBp d.fr with
 | false =>
  have HS:Hid (res=5):=by
   show _=_
   rw [←HR.o];unfold divV;rw [hk];simp [hnm]
  clear hnm HR hk;have hsz:=HV2.o.fx.lt;have x4:=HV2.o.dx.cell (i:=4) rfl;have x12:=HV2.o.dx.cell (i:=12) rfl;have y0:=HV2.o.fx.cell (i:=0) rfl;have y1:=HV2.o.fx.cell (i:=1) rfl;have y2:=HV2.o.fx.cell (i:=2) rfl;have y3:=HV2.o.fx.cell (i:=3) rfl;have y4:=HV2.o.fx.cell (i:=4) rfl;have y5:=HV2.o.fx.cell (i:=5) rfl;have y6:=HV2.o.fx.cell (i:=6) rfl;have y7:=HV2.o.fx.cell (i:=7) rfl;have y8:=HV2.o.fx.cell (i:=8) rfl;go_wp2;go_ret
  exact zAe.mk (zAW HS.o.symm) HV2.o.bel
 | true =>
  have HR1:Hid ((if zDr d.bg=false then (1:Int) else zCn d)=res):=by
   show _=_
   rw [←HR.o];unfold divV;rw [hk];simp [hnm]
  clear hnm HR hk;have HDY:=zq (fun W'=>isDay_c d.bg W')
  have hsz:=HV2.o.fx.lt;have x4:=HV2.o.dx.cell (i:=4) rfl;have x12:=HV2.o.dx.cell (i:=12) rfl;have y0:=HV2.o.fx.cell (i:=0) rfl;have y1:=HV2.o.fx.cell (i:=1) rfl;have y2:=HV2.o.fx.cell (i:=2) rfl;have y3:=HV2.o.fx.cell (i:=3) rfl;have y4:=HV2.o.fx.cell (i:=4) rfl;have y5:=HV2.o.fx.cell (i:=5) rfl;have y6:=HV2.o.fx.cell (i:=6) rfl;have y7:=HV2.o.fx.cell (i:=7) rfl;have y8:=HV2.o.fx.cell (i:=8) rfl
  go_wp2_with fail
  with_reducible refine (HDY.o _).mono ?_
  rintro e w3 ⟨rfl,rfl⟩
  cases hb:zDr d.bg with
  | false =>
   have HS:Hid (res=1):=by
    show _=_
    rw [←HR1.o,if_pos hb]
   clear hb HR1;go_wp2;go_ret
   exact zAe.mk (zAW HS.o.symm) HV2.o.bel
  | true =>
   have HS:Hid (res=zCn d):=by
    show _=_
    rw [←HR1.o,if_neg (by rw [hb];simp)]
   have HSH:=zq (checkShares_c d w2 HV2.o.dok);clear hb HR1 HDY;have x0:=HV2.o.dx.cell (i:=0) rfl;have x1:=HV2.o.dx.cell (i:=1) rfl;have x2:=HV2.o.dx.cell (i:=2) rfl;have x3:=HV2.o.dx.cell (i:=3) rfl;have x5:=HV2.o.dx.cell (i:=5) rfl;have x6:=HV2.o.dx.cell (i:=6) rfl;have x7:=HV2.o.dx.cell (i:=7) rfl;have x8:=HV2.o.dx.cell (i:=8) rfl;have x9:=HV2.o.dx.cell (i:=9) rfl;have x10:=HV2.o.dx.cell (i:=10) rfl;have x11:=HV2.o.dx.cell (i:=11) rfl;have x13:=HV2.o.dx.cell (i:=13) rfl;have x14:=HV2.o.dx.cell (i:=14) rfl;have x15:=HV2.o.dx.cell (i:=15) rfl
   go_wp2_with fail
   with_reducible refine HSH.o.mono ?_
   rintro e w4 ⟨rfl,hb4⟩;have HV4:=zq (HV2.o.below hb4);clear hsz x0 x1 x2 x3 x4 x5 x6 x7 x8 x9 x10 x11 x12 x13 x14 x15 y0 y1 y2 y3 y4 y5 y6 y7 y8;clear hb4 HV2 HSH;have hsz:=HV4.o.fx.lt;have y0:=HV4.o.fx.cell (i:=0) rfl;have y1:=HV4.o.fx.cell (i:=1) rfl;have y2:=HV4.o.fx.cell (i:=2) rfl;have y3:=HV4.o.fx.cell (i:=3) rfl;have y4:=HV4.o.fx.cell (i:=4) rfl;have y5:=HV4.o.fx.cell (i:=5) rfl;have y6:=HV4.o.fx.cell (i:=6) rfl;have y7:=HV4.o.fx.cell (i:=7) rfl;have y8:=HV4.o.fx.cell (i:=8) rfl
   by_cases hz:zCn d=0
   ·rw [hz] at HS ⊢
    clear hz;go_wp2;go_ret
    exact zAe.mk (zAW HS.o.symm) HV4.o.bel
   ·have hzb:(zCn d != 0)=true:=by simpa using hz
    clear hz;go_wp2;go_ret
    exact zAe.mk (zAW HS.o.symm) HV4.o.bel
def restF (d:De):Int:=if zDr d.bg=false∨zDr d.en=false then 1 else if d.en≤d.bg then 8 else 0
def zCQ (l:List Rg) (us:List ByteArray) (d:De):Int :=
 if zBp d.th=false∨zBp d.fr=false∨zBp d.to_=false then 5
 else if d.fr=d.to_ then 12
 else if parF d≠0 then parF d
 else if zBy l us d≠0 then zBy l us d else restF d
theorem giftF_two (l:List Rg) (us:List ByteArray) (d:De):giftF l us d=zCQ l us d:=by
 unfold giftF zCQ zBy restF
 by_cases h1:chkA l d.ar=0
 ·by_cases h2:zCv l d.ar=[]∨d.us=[]
  ·simp [h1,h2]
  ·simp [h1,h2]
 ·simp [h1]
theorem values_3 (ci:Nat) (A:Option Addr) (c r1 r2 g1 g2:Nat) (AL:Option Addr) (cL:Nat) (l:List Rg) (uA:Option Addr) (uc:Nat) (us:List ByteArray) (m2 m3 m4 m5:Nat) (p d:De) (f2 f3:ByteArray→Option Value) (w:World)
  (hk:d.kd=3) (g:GoodR l) (hul:us.length≤1000000) (hc:Bx w ci (ckC A c r1 r2 g1 g2 AL cL l uA uc us m2 m3 m4 m5 p) 184) (hw:WR w A r1 r2 g1 g2 AL l) (hu:Strs w uA us) (hd:DeOk w d) (h2:zAx Value.string w m2 f2) (h3:zAx Value.string w m3 f3) :
  Calls Tryz.prog 149 #[.pointer (some ⟨ci,0,none⟩),deV d,.agg #[.bool true,.bool true,.bool true,.bool false,.bool true,.bool true,.bool true,.bool false,.bool false]] w (zAe (.int .i64 (zCQ l us d)) w):=by
 generalize hres:zCQ l us d=res;have HR:=zq hres;clear hres;have HV:=zq (VS.start w ci #[.bool true,.bool true,.bool true,.bool false,.bool true,.bool true,.bool true,.bool false,.bool false] A c r1 r2 g1 g2 AL cL l uA uc us m2 m3 m4 m5 p d f2 f3 hc hw hu hd h2 h3);clear hc hw hu hd h2 h3;obtain ⟨W,hW⟩:∃ W,W=(w.alloc (.cells (deC d) 52)).alloc (.cells #[.bool true,.bool true,.bool true,.bool false,.bool true,.bool true,.bool true,.bool false,.bool false] 135):=⟨_,rfl⟩;rw [←hW] at HV
 go_enter Tryz.func149,Tryz.ntmps149
 go_wp2_with fail
 rw [←hW];clear hW;have hsz:=HV.o.fx.lt;have x3:=HV.o.dx.cell (i:=3) rfl;have x4:=HV.o.dx.cell (i:=4) rfl;have x5:=HV.o.dx.cell (i:=5) rfl;have y0:=HV.o.fx.cell (i:=0) rfl;have y1:=HV.o.fx.cell (i:=1) rfl;have y2:=HV.o.fx.cell (i:=2) rfl;have y3:=HV.o.fx.cell (i:=3) rfl;have y4:=HV.o.fx.cell (i:=4) rfl;have y5:=HV.o.fx.cell (i:=5) rfl;have y6:=HV.o.fx.cell (i:=6) rfl;have y7:=HV.o.fx.cell (i:=7) rfl;have y8:=HV.o.fx.cell (i:=8) rfl;have hz:=HV.o.dok.strs.2.1
 go_wp2_with fail
 with_reducible refine (zBP d.th _ hz).mono ?_
 rintro e w2 ⟨rfl,hb2⟩;have HV2:=zq (HV.o.below hb2);clear hsz x3 x4 x5 y0 y1 y2 y3 y4 y5 y6 y7 y8 hz;clear hb2 HV
 cases hnm0:zBp d.th with
 | false =>
  have hor:zBp d.th=false∨zBp d.fr=false∨zBp d.to_=false:=.inl hnm0;have hsz:=HV2.o.fx.lt;have x3:=HV2.o.dx.cell (i:=3) rfl;have x4:=HV2.o.dx.cell (i:=4) rfl;have x5:=HV2.o.dx.cell (i:=5) rfl;have y0:=HV2.o.fx.cell (i:=0) rfl;have y1:=HV2.o.fx.cell (i:=1) rfl;have y2:=HV2.o.fx.cell (i:=2) rfl;have y3:=HV2.o.fx.cell (i:=3) rfl;have y4:=HV2.o.fx.cell (i:=4) rfl;have y5:=HV2.o.fx.cell (i:=5) rfl;have y6:=HV2.o.fx.cell (i:=6) rfl;have y7:=HV2.o.fx.cell (i:=7) rfl;have y8:=HV2.o.fx.cell (i:=8) rfl
  have HS:Hid (res=5):=by
   show _=_
   rw [←HR.o];unfold zCQ;rw [if_pos hor]
  clear hor HR hnm0;go_wp2;go_ret
  exact zAe.mk (zAW HS.o.symm) HV2.o.bel
 | true =>
  have hsz:=HV2.o.fx.lt;have x3:=HV2.o.dx.cell (i:=3) rfl;have x4:=HV2.o.dx.cell (i:=4) rfl;have x5:=HV2.o.dx.cell (i:=5) rfl;have y0:=HV2.o.fx.cell (i:=0) rfl;have y1:=HV2.o.fx.cell (i:=1) rfl;have y2:=HV2.o.fx.cell (i:=2) rfl;have y3:=HV2.o.fx.cell (i:=3) rfl;have y4:=HV2.o.fx.cell (i:=4) rfl;have y5:=HV2.o.fx.cell (i:=5) rfl;have y6:=HV2.o.fx.cell (i:=6) rfl;have y7:=HV2.o.fx.cell (i:=7) rfl;have y8:=HV2.o.fx.cell (i:=8) rfl;have hz:=HV2.o.dok.strs.2.2.1
  go_wp2_with fail
  with_reducible refine (zBP d.fr _ hz).mono ?_
  rintro e w3 ⟨rfl,hb3⟩;have HV3:=zq (HV2.o.below hb3);clear hsz x3 x4 x5 y0 y1 y2 y3 y4 y5 y6 y7 y8 hz;clear hb3 HV2
  cases hnm1:zBp d.fr with
  | false =>
   have hor:zBp d.th=false∨zBp d.fr=false∨zBp d.to_=false:=.inr (.inl hnm1);have hsz:=HV3.o.fx.lt;have x3:=HV3.o.dx.cell (i:=3) rfl;have x4:=HV3.o.dx.cell (i:=4) rfl;have x5:=HV3.o.dx.cell (i:=5) rfl;have y0:=HV3.o.fx.cell (i:=0) rfl;have y1:=HV3.o.fx.cell (i:=1) rfl;have y2:=HV3.o.fx.cell (i:=2) rfl;have y3:=HV3.o.fx.cell (i:=3) rfl;have y4:=HV3.o.fx.cell (i:=4) rfl;have y5:=HV3.o.fx.cell (i:=5) rfl;have y6:=HV3.o.fx.cell (i:=6) rfl;have y7:=HV3.o.fx.cell (i:=7) rfl;have y8:=HV3.o.fx.cell (i:=8) rfl
   have HS:Hid (res=5):=by
    show _=_
    rw [←HR.o];unfold zCQ;rw [if_pos hor]
   clear hor HR hnm0 hnm1;go_wp2;go_ret
   exact zAe.mk (zAW HS.o.symm) HV3.o.bel
  | true =>
   have hsz:=HV3.o.fx.lt;have x3:=HV3.o.dx.cell (i:=3) rfl;have x4:=HV3.o.dx.cell (i:=4) rfl;have x5:=HV3.o.dx.cell (i:=5) rfl;have y0:=HV3.o.fx.cell (i:=0) rfl;have y1:=HV3.o.fx.cell (i:=1) rfl;have y2:=HV3.o.fx.cell (i:=2) rfl;have y3:=HV3.o.fx.cell (i:=3) rfl;have y4:=HV3.o.fx.cell (i:=4) rfl;have y5:=HV3.o.fx.cell (i:=5) rfl;have y6:=HV3.o.fx.cell (i:=6) rfl;have y7:=HV3.o.fx.cell (i:=7) rfl;have y8:=HV3.o.fx.cell (i:=8) rfl;have hz:=HV3.o.dok.strs.2.2.2.1
   go_wp2_with fail
   with_reducible refine (zBP d.to_ _ hz).mono ?_
   rintro e w4 ⟨rfl,hb4⟩;have HV4:=zq (HV3.o.below hb4);clear hsz x3 x4 x5 y0 y1 y2 y3 y4 y5 y6 y7 y8 hz;clear hb4 HV3
   cases hnm2:zBp d.to_ with
   | false =>
    have hor:zBp d.th=false∨zBp d.fr=false∨zBp d.to_=false:=.inr (.inr hnm2);have hsz:=HV4.o.fx.lt;have x3:=HV4.o.dx.cell (i:=3) rfl;have x4:=HV4.o.dx.cell (i:=4) rfl;have x5:=HV4.o.dx.cell (i:=5) rfl;have y0:=HV4.o.fx.cell (i:=0) rfl;have y1:=HV4.o.fx.cell (i:=1) rfl;have y2:=HV4.o.fx.cell (i:=2) rfl;have y3:=HV4.o.fx.cell (i:=3) rfl;have y4:=HV4.o.fx.cell (i:=4) rfl;have y5:=HV4.o.fx.cell (i:=5) rfl;have y6:=HV4.o.fx.cell (i:=6) rfl;have y7:=HV4.o.fx.cell (i:=7) rfl;have y8:=HV4.o.fx.cell (i:=8) rfl
    have HS:Hid (res=5):=by
     show _=_
     rw [←HR.o];unfold zCQ;rw [if_pos hor]
    clear hor HR hnm0 hnm1 hnm2;go_wp2;go_ret
    exact zAe.mk (zAW HS.o.symm) HV4.o.bel
   | true =>
    have HR1:Hid ((if d.fr=d.to_ then (12:Int) else if parF d≠0 then parF d else if zBy l us d≠0 then zBy l us d else restF d)=res):=by
     show _=_
     have hn:¬ (zBp d.th=false∨zBp d.fr=false∨zBp d.to_=false):=by rw [hnm0,hnm1,hnm2];simp
     rw [←HR.o];unfold zCQ;rw [if_neg hn]
    clear hnm0 hnm1 hnm2 HR
    by_cases hft:d.fr=d.to_
    ·have hfb:(d.fr.toList == d.to_.toList)=true:=zBW hft
     have hsz:=HV4.o.fx.lt;have x3:=HV4.o.dx.cell (i:=3) rfl;have x4:=HV4.o.dx.cell (i:=4) rfl;have x5:=HV4.o.dx.cell (i:=5) rfl;have y0:=HV4.o.fx.cell (i:=0) rfl;have y1:=HV4.o.fx.cell (i:=1) rfl;have y2:=HV4.o.fx.cell (i:=2) rfl;have y3:=HV4.o.fx.cell (i:=3) rfl;have y4:=HV4.o.fx.cell (i:=4) rfl;have y5:=HV4.o.fx.cell (i:=5) rfl;have y6:=HV4.o.fx.cell (i:=6) rfl;have y7:=HV4.o.fx.cell (i:=7) rfl;have y8:=HV4.o.fx.cell (i:=8) rfl
     have HS:Hid (res=12):=by
      show _=_
      rw [←HR1.o,if_pos hft]
     clear hft HR1;go_wp2;go_ret
     exact zAe.mk (zAW HS.o.symm) HV4.o.bel
    have hfb:(d.fr.toList == d.to_.toList)=false:=zBG hft
    have HR2:Hid ((if parF d≠0 then parF d else if zBy l us d≠0 then zBy l us d else restF d)=res):=by
     show _=_
     rw [←HR1.o,if_neg hft]
    clear hft HR1
    have hpf:parF d=0:=by
     unfold parF;rw [if_pos za]
    have HR3:Hid ((if zBy l us d≠0 then zBy l us d else restF d)=res):=by
     show _=_
     have hn:¬ parF d≠0:=fun h=>h hpf
     rw [←HR2.o,if_neg hn]
    clear hpf HR2 hk;have x4:=HV4.o.dx.cell (i:=4) rfl;have x5:=HV4.o.dx.cell (i:=5) rfl;have HPL:=zq (place_c ci A c r1 r2 g1 g2 AL cL l uA uc us m2 m3 m4 m5 p d w4 HV4.o.ck g HV4.o.wrl HV4.o.st hul HV4.o.dok);have hsz:=HV4.o.fx.lt;have x0:=HV4.o.dx.cell (i:=0) rfl;have x1:=HV4.o.dx.cell (i:=1) rfl;have x2:=HV4.o.dx.cell (i:=2) rfl;have x3:=HV4.o.dx.cell (i:=3) rfl;have x4:=HV4.o.dx.cell (i:=4) rfl;have x5:=HV4.o.dx.cell (i:=5) rfl;have x6:=HV4.o.dx.cell (i:=6) rfl;have x7:=HV4.o.dx.cell (i:=7) rfl;have x8:=HV4.o.dx.cell (i:=8) rfl;have x9:=HV4.o.dx.cell (i:=9) rfl;have x10:=HV4.o.dx.cell (i:=10) rfl;have x11:=HV4.o.dx.cell (i:=11) rfl;have x12:=HV4.o.dx.cell (i:=12) rfl;have x13:=HV4.o.dx.cell (i:=13) rfl;have x14:=HV4.o.dx.cell (i:=14) rfl;have x15:=HV4.o.dx.cell (i:=15) rfl;have y0:=HV4.o.fx.cell (i:=0) rfl;have y1:=HV4.o.fx.cell (i:=1) rfl;have y2:=HV4.o.fx.cell (i:=2) rfl;have y3:=HV4.o.fx.cell (i:=3) rfl;have y4:=HV4.o.fx.cell (i:=4) rfl;have y5:=HV4.o.fx.cell (i:=5) rfl;have y6:=HV4.o.fx.cell (i:=6) rfl;have y7:=HV4.o.fx.cell (i:=7) rfl;have y8:=HV4.o.fx.cell (i:=8) rfl
    go_wp2_with fail
    with_reducible refine HPL.o.mono ?_
    rintro e w4p ⟨rfl,hbp⟩;have HV5:=zq (HV4.o.below hbp);clear hsz x0 x1 x2 x3 x4 x5 x6 x7 x8 x9 x10 x11 x12 x13 x14 x15 y0 y1 y2 y3 y4 y5 y6 y7 y8;clear hbp HV4 HPL
    by_cases hpz:zBy l us d=0
    case neg =>
     have hpb:(zBy l us d != 0)=true:=by simpa using hpz
     have HS:Hid (res=zBy l us d):=by
      show _=_
      rw [←HR3.o,if_pos hpz]
     clear HR3 hpz;go_wp2;go_ret
     exact zAe.mk (zAW HS.o.symm) HV5.o.bel
    have HRP:Hid (restF d=res):=by
     show _=_
     rw [←HR3.o,if_neg (fun h=>h hpz)]
    rw [hpz];clear hpz HR3;have HDY:=zq (fun n W'=>isDay_c n W')
    have hsz:=HV5.o.fx.lt;have x11:=HV5.o.dx.cell (i:=11) rfl;have x12:=HV5.o.dx.cell (i:=12) rfl;have x13:=HV5.o.dx.cell (i:=13) rfl;have y0:=HV5.o.fx.cell (i:=0) rfl;have y1:=HV5.o.fx.cell (i:=1) rfl;have y2:=HV5.o.fx.cell (i:=2) rfl;have y3:=HV5.o.fx.cell (i:=3) rfl;have y4:=HV5.o.fx.cell (i:=4) rfl;have y5:=HV5.o.fx.cell (i:=5) rfl;have y6:=HV5.o.fx.cell (i:=6) rfl;have y7:=HV5.o.fx.cell (i:=7) rfl;have y8:=HV5.o.fx.cell (i:=8) rfl
    go_wp2_with fail
    with_reducible refine (HDY.o _ _).mono ?_
    rintro e w4qa ⟨rfl,rfl⟩
    cases hb1:zDr d.bg with
    | false =>
     have HS:Hid (res=1):=by
      show _=_
      rw [←HRP.o];unfold restF;rw [if_pos (.inl hb1)]
     clear hb1 HRP HDY;go_wp2;go_ret
     exact zAe.mk (zAW HS.o.symm) HV5.o.bel
    | true =>
     go_wp2_with fail
     with_reducible refine (HDY.o _ _).mono ?_
     rintro e w4qb ⟨rfl,rfl⟩
     cases hb2:zDr d.en with
     | false =>
      have HS:Hid (res=1):=by
       show _=_
       rw [←HRP.o];unfold restF;rw [if_pos (.inr hb2)]
      clear hb1 hb2 HRP HDY;go_wp2;go_ret
      exact zAe.mk (zAW HS.o.symm) HV5.o.bel
     | true =>
      have HRZ:Hid ((if d.en≤d.bg then (8:Int) else 0)=res):=by
       show _=_
       have hn:¬ (zDr d.bg=false∨zDr d.en=false):=by rw [hb1,hb2];simp
       rw [←HRP.o];unfold restF;rw [if_neg hn]
      clear hb1 hb2 HDY HRP
      by_cases hle:d.en≤d.bg
      ·have hleb:decide (d.en≤d.bg)=true:=decide_eq_true hle
       have HS:Hid (res=8):=by
        show _=_
        rw [←HRZ.o,if_pos hle]
       clear HRZ;go_wp2;go_ret
       exact zAe.mk (zAW HS.o.symm) HV5.o.bel
      ·have hleb:decide (d.en≤d.bg)=false:=decide_eq_false hle
       have HS:Hid (res=0):=by
        show _=_
        rw [←HRZ.o,if_neg hle]
       clear HRZ;go_wp2;go_ret
       exact zAe.mk (zAW HS.o.symm) HV5.o.bel
end Go.Proofs.YtieoifkdobcpiaaGreatDoor
