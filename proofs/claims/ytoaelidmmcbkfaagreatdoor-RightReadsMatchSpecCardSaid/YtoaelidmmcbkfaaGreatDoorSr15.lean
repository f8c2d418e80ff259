/- Parts of the proof, joined: Package right: what the loop of Check keeps; a new entry of a map, mad. -/
import Derived.Test.YtoaelidmmcbkfaaGreatDoorSr14
import Derived.Deep.MidRow
import Derived.Laws.CopyRow
set_option maxRecDepth 100000
set_option maxHeartbeats 8000000
namespace Dw
open Go Go.RowKit
def zDT {κ:Type} [DecidableEq κ] (mk:κ→Value) (w:World) (r:Nat) (f:κ→Option Value) (n:Nat):Prop :=
 ∃ (es:Array MapEntry) (clk:Nat) (L:List (κ×Value)),w.heap[r]?=some (.map es clk)∧es.toList.map (fun e=>(e.key,e.val))=L.map (fun p=>(mk p.1,p.2))∧(∀ k,lookE L k=f k)∧es.size=n∧∀ e∈es.toList,e.born<clk
section
variable {κ:Type} [DecidableEq κ] {mk:κ→Value} {w w':World} {r n:Nat} {f:κ→Option Value}
theorem zDT.is (h:zDT mk w r f n):zAO mk w r f:=by
 obtain ⟨es,clk,L,h1,h2,h3,_⟩:=h;exact ⟨es,clk,L,h1,h2,h3⟩
theorem zDT.lt (h:zDT mk w r f n):r<w.heap.size:=h.is.lt
theorem zDT.keep (h:zDT mk w r f n) (hk:w'.heap[r]?=w.heap[r]?):zDT mk w' r f n:=by
 obtain ⟨es,clk,L,hr,rest⟩:=h;exact ⟨es,clk,L,hk.trans hr,rest⟩
theorem zDT.below (h:zDT mk w r f n) (hb:Below w.heap.size w w'):zDT mk w' r f n:=h.keep (hb.block r h.lt)
theorem zDT.run_len {P:Program} {T K E:TypeId} (hT:P.underlying T=some (.map K E)) (ty:TypeId) (h:zDT mk w r f n):(Builtin.len_ #[T] ty #[Value.map (some r)]).run P w = .ok (.int .i64 (n:Int)) w:=by
 obtain ⟨es,clk,L,hr,_,_,rfl,_⟩:=h;have hg:(getObj r).run P w = .ok (.map es clk) w:=by simp [getObj,Sem.run,hr]
 simp [Builtin.len_,run_underlying hT,hg,goInt]
end
theorem findIdx_last {es:Array MapEntry} {e:MapEntry} (h:∀ x∈es.toList,x.born<e.born):(es.push e).findIdx? (fun x=>((x.born:Nat):Int) == ((e.born:Nat):Int))=some es.size:=by
 rw [Array.findIdx?_push]
 have hn:es.findIdx? (fun x=>((x.born:Nat):Int) == ((e.born:Nat):Int))=none:=by
  rw [Array.findIdx?_eq_none_iff];intro x hx;have:=h x (by simpa using hx)
  simp
  omega
 rw [hn];simp
section
variable {P:Program} {κ:Type} [DecidableEq κ] {mk:κ→Value} {T K E:TypeId}
theorem run_entry_new (hT:P.underlying T=some (.map K E)) (hK:KeyT P K mk) {z:Value} (hz:∀ w,(zeroValue E).run P w = .ok z w) {w:World} {r n:Nat} {f:κ→Option Value} (h:zDT mk w r f n) (k:κ) (hk:f k=none) (v:Value) :
  ∃ (st:Nat) (w1 w2:World),(Instr.mapEntry T (.map (some r)) (mk k)).run P w = .ok (.tuple #[z,.int .i64 (st:Int)]) w1∧(Instr.entryStore T (.map (some r)) (.int .i64 (st:Int)) v).run P w1 = .ok () w2 ∧
   zDT mk w2 r (fun k'=>if k'=k then some v else f k') (n+1)∧w.grownBy w1 (some r)∧w1.heap.size=w.heap.size∧w.grownBy w2 (some r)∧w2.heap.size=w.heap.size:=by
 obtain ⟨es,clk,L,hr,hL,hf,hn,hborn⟩:=h;have hrl:r<w.heap.size:=(Array.getElem?_eq_some_iff.1 hr).1;obtain ⟨d,hd,hs⟩:=hK.same;obtain ⟨o,h1,h2,_⟩:=findNow_go hs k es.toList L 0 hL;rw [hf,hk] at h2;have ho:o=none:=by cases o<;>simp_all
 subst ho;have hg:(getObj r).run P w = .ok (.map es clk) w:=by simp [getObj,Sem.run,hr]
 have hset:∀ (es':Array MapEntry) (c':Nat),(setObj r (.map es' c')).run P w = .ok () { w with heap:=w.heap.setIfInBounds r (.map es' c') }:=fun es' c'=>by simp [setObj,Sem.run,hr]
 have hfk:(Instr.findKey K (mk k) es.toList).run P w = .ok none w:=by
  simp [Instr.findKey,run_underlying hd,h1]
 have hgrow:∀ (es':Array MapEntry) (c':Nat),w.grownBy { w with heap:=w.heap.setIfInBounds r (.map es' c') } (some r):=fun es' c' =>
  ⟨rfl,rfl,rfl,zd,fun i hi hne=>by simp only [Array.getElem?_setIfInBounds];rw [aC (fun e=>hne (by rw [e]))]⟩
 have hget:∀ (es':Array MapEntry) (c':Nat),({ w with heap:=w.heap.setIfInBounds r (.map es' c') }:World).heap[r]?=some (.map es' c'):=fun es' c'=>by
  simp [hrl]
 have hsz:es.size=L.length:=by have:=aY List.length hL;simpa using this
 refine ⟨clk,{ w with heap:=w.heap.setIfInBounds r (.map (es.push { key:=mk k,val:=z,born:=clk }) (clk+1)) },{ w with heap:=w.heap.setIfInBounds r (.map (es.push { key:=mk k,val:=v,born:=clk }) (clk+1)) },?_,?_,⟨_,_,L++[(k,v)],hget _ _,by simp [hL],?_,by simp [hn],?_⟩,hgrow _ _,zd,hgrow _ _,zd⟩
 ·simp [Instr.mapEntry,run_underlying hT,hg,hK.chk,hfk,hz,hset,goInt]
 ·have hg2:(getObj r).run P { w with heap:=w.heap.setIfInBounds r (.map (es.push { key:=mk k,val:=z,born:=clk }) (clk+1)) } = .ok (.map (es.push { key:=mk k,val:=z,born:=clk }) (clk+1)) { w with heap:=w.heap.setIfInBounds r (.map (es.push { key:=mk k,val:=z,born:=clk }) (clk+1)) }:=by
   simp [getObj,Sem.run,hrl]
  have hidx:=findIdx_last (es:=es) (e:={ key:=mk k,val:=z,born:=clk }) hborn
  have hmod:(es.push { key:=mk k,val:=z,born:=clk }).modify es.size (fun e=>{ e with val:=v })=es.push { key:=mk k,val:=v,born:=clk }:=by
   apply Array.ext
   ·simp
   ·intro i hi1 hi2
    simp only [Array.getElem_modify,Array.getElem_push]
    by_cases hi:i<es.size
    ·simp [hi,show es.size≠i by omega]
    ·simp [show es.size=i by simp at hi2;omega]
  have hset2:∀ (es':Array MapEntry) (c':Nat),(setObj r (.map es' c')).run P { w with heap:=w.heap.setIfInBounds r (.map (es.push { key:=mk k,val:=z,born:=clk }) (clk+1)) } = .ok () { w with heap:=w.heap.setIfInBounds r (.map es' c') }:=fun es' c'=>by
   simp [setObj,Sem.run,hrl]
  simp only at hidx;simp [Instr.entryStore,hg2,asInt,asIntOf,hidx,hmod,hset2]
 ·intro k'
  rw [lookE_push (by rw [hf];exact hk),hf]
 ·intro e he
  simp only [Array.toList_push,List.mem_append,List.mem_singleton] at he
  rcases he with he | rfl
  ·have:=hborn e he;omega
  ·simp
end
end Dw
namespace Go.Proofs.YtoaelidmmcbkfaaGreatDoor
open Go.RowKit Dw
def zCe (x:BA) (q:De):Bool:=decide (q.id=x)
def kF (pre:List De) (x:BA):Option Value:=(pre.find? (zCe x)).map fun q=>Value.int .i64 q.kd
def kN (pre:List De) (x:BA):Int:=match pre.find? (zCe x) with
 | some q=>q.kd
 | none=>0
def endB (pre:List De) (x:BA):Bool:=pre.any fun q=>decide (q.kd=4)&&decide (q.ot=x)
def bornB (pre:List De) (x:BA):Bool:=pre.any fun q=>decide (q.kd=1)&&decide (q.th=x)
def goneB (pre:List De) (x:BA):Bool:=pre.any fun q=>decide (q.kd=5)&&decide (q.fr=x)
def fl (b:Bool):Option Value:=if b=true then some (.bool true) else none
theorem fl_get (b:Bool):(fl b).getD (.bool false) = .bool b:=by cases b<;>rfl
theorem kF_get (pre:List De) (x:BA):(kF pre x).getD (.int .i64 0) = .int .i64 (kN pre x):=by
 unfold kF kN
 cases pre.find? (zCe x)<;>rfl
theorem kF_none {pre:List De} {x:BA} (h:pre.any (zCe x)=false):kF pre x=none:=by
 unfold kF
 have:pre.find? (zCe x)=none:=by
  rw [List.find?_eq_none];intro q hq hs;have:=List.any_eq_true.2 ⟨q,hq,hs⟩;rw [h] at this;cases this
 rw [this];rfl
theorem kN_none {pre:List De} {x:BA} (h:pre.any (zCe x)=false):kN pre x=0:=by
 have:=kF_get pre x;rw [kF_none h] at this;simp at this
 omega
theorem kN_some {pre:List De} {x:BA} (h:pre.any (zCe x)=true) (hg:∀ q∈pre,1≤q.kd):0<kN pre x:=by
 unfold kN
 cases hf:pre.find? (zCe x) with
 | none =>
  rw [List.find?_eq_none] at hf;obtain ⟨q,hq,hs⟩:=List.any_eq_true.1 h;exact absurd hs (hf q hq)
 | some q =>
  have:=hg q (List.mem_of_find?_eq_some hf)
  show 0<q.kd
  omega
theorem kF_push {pre:List De} {d:De} (h:pre.any (zCe d.id)=false):(fun k=>if k=d.id then some (Value.int .i64 d.kd) else kF pre k)=kF (pre++[d]):=by
 funext k
 unfold kF;rw [List.find?_append]
 by_cases hk:k=d.id
 ·subst hk
  have:pre.find? (zCe d.id)=none:=by
   rw [List.find?_eq_none];intro q hq hs;have:=List.any_eq_true.2 ⟨q,hq,hs⟩;rw [h] at this;cases this
  simp [this,zCe]
 ·rw [aC hk]
  have:zCe k d=false:=by simp [zCe];exact fun e=>hk e.symm
  simp [this]
theorem fl_push {b c:Bool} {P:Prop} [Decidable P] (h:c=(b || decide P)):(if P then some (Value.bool true) else fl b)=fl c:=by
 subst h
 by_cases hp:P<;>simp [hp,fl]
theorem end_push {pre:List De} {d:De} (hk:d.kd=4):(fun k=>if k=d.ot then some (Value.bool true) else fl (endB pre k))=fun k=>fl (endB (pre++[d]) k):=by
 funext k
 exact fl_push (by unfold endB;rw [dH];simp [hk,eq_comm])
theorem born_push {pre:List De} {d:De} (hk:d.kd=1):(fun k=>if k=d.th then some (Value.bool true) else fl (bornB pre k))=fun k=>fl (bornB (pre++[d]) k):=by
 funext k
 exact fl_push (by unfold bornB;rw [dH];simp [hk,eq_comm])
theorem gone_push {pre:List De} {d:De} (hk:d.kd=5):(fun k=>if k=d.fr then some (Value.bool true) else fl (goneB pre k))=fun k=>fl (goneB (pre++[d]) k):=by
 funext k
 exact fl_push (by unfold goneB;rw [dH];simp [hk,eq_comm])
theorem end_same {pre:List De} {d:De} (hk:d.kd≠4):(fun k=>fl (endB (pre++[d]) k))=fun k=>fl (endB pre k):=by
 funext k;unfold endB;rw [dH];simp [hk]
theorem born_same {pre:List De} {d:De} (hk:d.kd≠1):(fun k=>fl (bornB (pre++[d]) k))=fun k=>fl (bornB pre k):=by
 funext k;unfold bornB;rw [dH];simp [hk]
theorem gone_same {pre:List De} {d:De} (hk:d.kd≠5):(fun k=>fl (goneB (pre++[d]) k))=fun k=>fl (goneB pre k):=by
 funext k;unfold goneB;rw [dH];simp [hk]
structure CS (w0 w:World) (ci:Nat) (A:Option Addr) (c r1 r2 g1 g2:Nat) (AL:Option Addr) (cL:Nat) (l:List Rg) (uA:Option Addr) (uc:Nat) (us:List BA) (m2 m3 m4 m5 lo hi:Nat) (p:De) (pre:List De):Prop where
 bel:Below w0.heap.size w0 w
 ck:Bx w ci (ckC A c r1 r2 g1 g2 AL cL l uA uc us m2 m3 m4 m5 p) 101
 rg:Rgs w0 A l
 st:Strs w0 uA us
 far:∀ w'':World,(∀ x,lo≤x→x<hi→w''.heap[x]?=w.heap[x]?)→Rgs w'' A l→WR w'' A r1 r2 g1 g2 AL l
 hh:hi≤w.heap.size
 k2:zDT Value.string w m2 (kF pre) pre.length
 k3:zAO Value.string w m3 (fun k=>fl (endB pre k))
 k4:zAO Value.string w m4 (fun k=>fl (bornB pre k))
 k5:zAO Value.string w m5 (fun k=>fl (goneB pre k))
 ou:∀ x,x=ci∨x=m2∨x=m3∨x=m4∨x=m5→w0.heap.size≤x∧(x<lo∨hi≤x)
 ne:m2≠m3∧m2≠m4∧m2≠m5∧m3≠m4∧m3≠m5∧m4≠m5
 la:pre=[]∨pre.getLast?=some p
section
variable {w0 w w':World} {ci:Nat} {A:Option Addr} {c r1 r2 g1 g2:Nat} {AL:Option Addr} {cL:Nat} {l:List Rg} {uA:Option Addr} {uc:Nat} {us:List BA} {m2 m3 m4 m5 lo hi:Nat} {p:De} {pre:List De}
theorem CS.below (h:CS w0 w ci A c r1 r2 g1 g2 AL cL l uA uc us m2 m3 m4 m5 lo hi p pre) (hb:Below w.heap.size w w'):CS w0 w' ci A c r1 r2 g1 g2 AL cL l uA uc us m2 m3 m4 m5 lo hi p pre :=
 ⟨zAb h.bel hb,h.ck.below hb,h.rg,h.st,fun w'' hf=>h.far w'' fun x h1 h2=>(hf x h1 h2).trans (hb.block x (cX h2 h.hh)),cV h.hh hb.size,h.k2.below hb,h.k3.below hb,h.k4.below hb,h.k5.below hb,h.ou,h.ne,h.la⟩
theorem CS.wr (h:CS w0 w ci A c r1 r2 g1 g2 AL cL l uA uc us m2 m3 m4 m5 lo hi p pre):WR w A r1 r2 g1 g2 AL l:=h.far w (fun _ _ _=>rfl) (h.rg.below h.bel)
theorem CS.str (h:CS w0 w ci A c r1 r2 g1 g2 AL cL l uA uc us m2 m3 m4 m5 lo hi p pre):Strs w uA us:=h.st.below h.bel
theorem CS.cne (h:CS w0 w ci A c r1 r2 g1 g2 AL cL l uA uc us m2 m3 m4 m5 lo hi p pre):ci≠m2∧ci≠m3∧ci≠m4∧ci≠m5 :=
 ⟨zAq h.k2.is h.ck,zAq h.k3 h.ck,zAq h.k4 h.ck,zAq h.k5 h.ck⟩
end
def offB (ci m2 m3 m4 m5 x:Nat):Prop:=x≠ci∧x≠m2∧x≠m3∧x≠m4∧x≠m5
theorem CS.next {w0 w w':World} {ci:Nat} {A:Option Addr} {c r1 r2 g1 g2:Nat} {AL:Option Addr} {cL:Nat} {l:List Rg} {uA:Option Addr} {uc:Nat} {us:List BA} {m2 m3 m4 m5 lo hi:Nat} {p d:De} {pre:List De}
  (h:CS w0 w ci A c r1 r2 g1 g2 AL cL l uA uc us m2 m3 m4 m5 lo hi p pre) (ho:w'.os=w.os∧w'.tape=w.tape∧w'.output=w.output∧w.heap.size≤w'.heap.size)
  (hx:∀ x,x<w.heap.size→offB ci m2 m3 m4 m5 x→w'.heap[x]?=w.heap[x]?)
  (hc:Bx w' ci (ckC A c r1 r2 g1 g2 AL cL l uA uc us m2 m3 m4 m5 d) 101) (h2:zDT Value.string w' m2 (kF (pre++[d])) (pre++[d]).length)
  (h3:zAO Value.string w' m3 (fun k=>fl (endB (pre++[d]) k))) (h4:zAO Value.string w' m4 (fun k=>fl (bornB (pre++[d]) k))) (h5:zAO Value.string w' m5 (fun k=>fl (goneB (pre++[d]) k))) :
  CS w0 w' ci A c r1 r2 g1 g2 AL cL l uA uc us m2 m3 m4 m5 lo hi d (pre++[d]):=by
 have hoff:∀ x,(x<w0.heap.size∨(lo≤x∧x<hi))→offB ci m2 m3 m4 m5 x:=fun x hx=>by
  refine ⟨?_,?_,?_,?_,?_⟩<;>(rintro rfl;have:=h.ou x zd;omega)
 have hb:Below w0.heap.size w w':=⟨ho.1,ho.2.1,ho.2.2.1,ho.2.2.2,fun k hk=>hx k (cX hk h.bel.size) (hoff k (.inl hk))⟩
 exact ⟨h.bel.trans hb,hc,h.rg,h.st,fun w'' hf=>h.far w'' fun x h1 h2=>(hf x h1 h2).trans (hx x (cX h2 h.hh) (hoff x (.inr ⟨h1,h2⟩))),cV h.hh ho.2.2.2,h2,h3,h4,h5,h.ou,h.ne,.inr zd⟩
theorem grown_refl (w:World) (row:Option Nat):w.grownBy w row:=⟨rfl,rfl,rfl,aB _,fun _ _ _=>rfl⟩
theorem CS.done {w0 w w12 w13 w14:World} {ci:Nat} {A:Option Addr} {c r1 r2 g1 g2:Nat} {AL:Option Addr} {cL:Nat} {l:List Rg} {uA:Option Addr} {uc:Nat} {us:List BA} {m2 m3 m4 m5 lo hi m:Nat} {p d:De} {pre:List De}
  (h:CS w0 w ci A c r1 r2 g1 g2 AL cL l uA uc us m2 m3 m4 m5 lo hi p pre) (hid:pre.any (zCe d.id)=false)
  (hm:zDT Value.string w12 m2 (fun k=>if k=d.id then some (Value.int .i64 d.kd) else kF pre k) (pre.length+1)) (hg:w.grownBy w12 (some m2)) (hs:w12.heap.size=w.heap.size)
  (hw13:w13=w12.setRow ci (ckC A c r1 r2 g1 g2 AL cL l uA uc us m2 m3 m4 m5 d)) (hg14:w13.grownBy w14 (some m)) (hmm:m=m3∨m=m4∨m=m5)
  (h3:zAO Value.string w14 m3 (fun k=>fl (endB (pre++[d]) k))) (h4:zAO Value.string w14 m4 (fun k=>fl (bornB (pre++[d]) k))) (h5:zAO Value.string w14 m5 (fun k=>fl (goneB (pre++[d]) k))) :
  CS w0 w14 ci A c r1 r2 g1 g2 AL cL l uA uc us m2 m3 m4 m5 lo hi d (pre++[d]):=by
 subst hw13;have hc12:Bx w12 ci (ckC A c r1 r2 g1 g2 AL cL l uA uc us m2 m3 m4 m5 p) 101:=(hg.block _ h.ck.lt (by simp;exact h.cne.1)).trans h.ck
 have hsz:(w12.setRow ci (ckC A c r1 r2 g1 g2 AL cL l uA uc us m2 m3 m4 m5 d)).heap.size=w.heap.size:=by rw [setRow_size,hs]
 have hb:∀ x,x<w.heap.size→x≠m→w14.heap[x]?=(w12.setRow ci (ckC A c r1 r2 g1 g2 AL cL l uA uc us m2 m3 m4 m5 d)).heap[x]?:=fun x hx hn=>hg14.block x (by rw [hsz];exact hx) (by simp;exact hn)
 have hcm:ci≠m:=by
  have:=h.cne
  rcases hmm with rfl | rfl | rfl
  ·exact this.2.1
  ·exact this.2.2.1
  ·exact this.2.2.2
 have h2m:m2≠m:=by
  have:=h.ne
  rcases hmm with rfl | rfl | rfl
  ·exact this.1
  ·exact this.2.1
  ·exact this.2.2.1
 refine h.next ⟨?_,?_,?_,?_⟩ (fun x hx ho=>?_) ?_ ?_ h3 h4 h5
 ·rw [hg14.os,setRow_os,hg.os]
 ·rw [hg14.tape,setRow_tape,hg.tape]
 ·rw [hg14.output,setRow_output,hg.output]
 ·have:=hg14.size
  rw [hsz] at this;exact this
 ·obtain ⟨o1,o2,o3,o4,o5⟩:=ho
  have hxm:x≠m:=by rcases hmm with rfl | rfl | rfl<;>assumption
  rw [hb x hx hxm,setRow_other _ _ _ _ o1,hg.block x hx (by simp;exact o2)]
 ·exact (hb ci h.ck.lt hcm).trans (setRow_heap _ _ _ _ _ _ hc12)
 ·have hk:zDT Value.string w14 m2 (fun k=>if k=d.id then some (Value.int .i64 d.kd) else kF pre k) (pre.length+1) :=
   hm.keep ((hb m2 h.k2.lt h2m).trans (setRow_other _ _ _ _ h.cne.1.symm))
  rw [kF_push hid] at hk
  simpa using hk
theorem CS.mid {w0 w w12:World} {ci:Nat} {A:Option Addr} {c r1 r2 g1 g2:Nat} {AL:Option Addr} {cL:Nat} {l:List Rg} {uA:Option Addr} {uc:Nat} {us:List BA} {m2 m3 m4 m5 lo hi:Nat} {p:De} {pre:List De}
  (h:CS w0 w ci A c r1 r2 g1 g2 AL cL l uA uc us m2 m3 m4 m5 lo hi p pre) (hg:w.grownBy w12 (some m2)) (X:Array Value) :
  zAO Value.string (w12.setRow ci X) m3 (fun k=>fl (endB pre k))∧zAO Value.string (w12.setRow ci X) m4 (fun k=>fl (bornB pre k))∧zAO Value.string (w12.setRow ci X) m5 (fun k=>fl (goneB pre k)):=by
 have k:∀ {x:Nat},x<w.heap.size→x≠ci→x≠m2→(w12.setRow ci X).heap[x]?=w.heap[x]?:=fun hx h1 h2=>by
  rw [setRow_other _ _ _ _ h1,hg.block _ hx (by simp;exact h2)]
 have hn:=h.ne;have hc:=h.cne;exact ⟨h.k3.keep (k h.k3.lt hc.2.1.symm hn.1.symm),h.k4.keep (k h.k4.lt hc.2.2.1.symm hn.2.1.symm),h.k5.keep (k h.k5.lt hc.2.2.2.symm hn.2.2.1.symm)⟩
theorem run_storeVar_ck (ci:Nat) (A:Option Addr) (c r1 r2 g1 g2:Nat) (AL:Option Addr) (cL:Nat) (l:List Rg) (uA:Option Addr) (uc:Nat) (us:List BA) (m2 m3 m4 m5:Nat) (p d:De) (w:World)
  (hg:Bx w ci (ckC A c r1 r2 g1 g2 AL cL l uA uc us m2 m3 m4 m5 p) 101) :
  (storeVar 47 ⟨ci,11,none⟩ (deV d)).run Tryz.prog w = .ok () (w.setRow ci (ckC A c r1 r2 g1 g2 AL cL l uA uc us m2 m3 m4 m5 d)):=by
 have h:=run_storeCells_at Tryz.prog ci 11 101 (deC d).toList 0 _ w hg zd (fun v hv=>by simp at hv;rcases hv with h | h | h | h | h | h | h | h | h | h | h | h | h | h | h | h<;>(subst h;rfl))
 have hi:(Tryz.prog.info? 47).map (·.size)=some (deC d).size:=zb
 cases hq:Tryz.prog.info? 47 with
 | none=>rw [hq] at hi;cases hi
 | some i =>
  have hs:(deC d).size=i.size:=by rw [hq] at hi;simpa using hi.symm
  have h3:(storeCells ⟨ci,11,none⟩ (deC d).toList 0).run Tryz.prog w = .ok () (w.setRow ci (ckC A c r1 r2 g1 g2 AL cL l uA uc us m2 m3 m4 m5 d)):=h
  show (storeVar 47 ⟨ci,11,none⟩ (.agg (deC d))).run Tryz.prog w=_
  generalize deC d=dc at *;generalize w.setRow ci (ckC A c r1 r2 g1 g2 AL cL l uA uc us m2 m3 m4 m5 d)=w2 at *;simp [storeVar,sizeOf,typeInfo,hq,Value.cells,hs,h3]
theorem zAg {P:Program} {ops:Array Oper} {rest:List Oper} {o:Oper} {a:Act} {w w2:World} {Q:Exit→Act→World→Prop} (hgd:o.guard=none) (ty:TypeId) (x y:Operand) (ho:o.op = .store ty x y)
  (ad:Addr) (v:Value) (hx:a.eval x = .pointer (some ad)) (hy:a.eval y=v) (hr:(storeVar ty ad v).run P w = .ok () w2)
  (h:wpList P ops Q rest (a.put o.dst undef) w2):wpList P ops Q (o::rest) a w :=
 wpList_plain hgd fun _ hK=>by
  unfold Oper.wp execOp;simp only [ho,hx,hy,Instr.storeAt,Instr.sureAddr,Sem.run_bind,Sem.run_pure,Result.andThen_ok,hr];exact hK _ _ h
theorem wp_store_var {P:Program} {o:Oper} {a:Act} {w w2:World} {K:Act→World→Prop} {Q:Exit→Act→World→Prop} (ty:TypeId) (x y:Operand) (ho:o.op = .store ty x y)
  (ad:Addr) (v:Value) (hx:a.eval x = .pointer (some ad)) (hy:a.eval y=v) (hr:(storeVar ty ad v).run P w = .ok () w2) (h:K (a.put o.dst undef) w2):o.wp P a w K Q:=by
 unfold Oper.wp execOp;simp only [ho,hx,hy,Instr.storeAt,Instr.sureAddr,Sem.run_bind,Sem.run_pure,Result.andThen_ok,hr];exact h
theorem rangeD {w:World} {b:Nat} {d:De} (h:Bx w b (deC d) 47):w.rangeAt b 0 (deC d).toList:=fun j v hv=>by
 rw [bJ];exact h.cell (by rw [←hv,Array.getElem?_toList])
theorem rangeP {w:World} {ci:Nat} {A:Option Addr} {c r1 r2 g1 g2:Nat} {AL:Option Addr} {cL:Nat} {l:List Rg} {uA:Option Addr} {uc:Nat} {us:List BA} {m2 m3 m4 m5:Nat} {p:De}
  (h:Bx w ci (ckC A c r1 r2 g1 g2 AL cL l uA uc us m2 m3 m4 m5 p) 101):w.rangeAt ci 11 (deC p).toList:=fun j v hv=>by
 refine h.cell ?_
 have e:(ckC A c r1 r2 g1 g2 AL cL l uA uc us m2 m3 m4 m5 p).toList=(ckC A c r1 r2 g1 g2 AL cL l uA uc us m2 m3 m4 m5 p).toList.take 11++(deC p).toList:=rfl;rw [←Array.getElem?_toList,e,List.getElem?_append_right zd];rw [←hv]
 congr 1
 simp
theorem zCQ {ops:Array Oper} {S:World→Prop} {op:Oper} {a:Act} (hw:Region.wanted op (yielded ops a.tmps)=true) (x:Operand) (ho:op.op = .load 47 x) (b o:Nat) (hx:a.eval x = .pointer (some ⟨b,o,none⟩)) (d:De)
  (hS:∀ w,S w→w.rangeAt b o (deC d).toList):YieldsIf Tryz.prog ops S op (deV d) a:=by
 exact yieldsIf_load_mid hw _ x ho b o hx (deC d).toList _ hS Tryz.underlying47 rfl zb
def plD (d:De):De:={ d with arA:=none,arc:=0,usA:=none,usc:=0,shA:=none,shc:=0 }
def Stp (st:De→List Ln→Except (List Ln) (De×List Ln)) (P0:Except (List Ln) (De×List Ln)) (L:List Ln) (d:De) (k:Nat) (bad:Bool):Prop :=
 (bad=true→P0 = .error (L.drop k))∧(bad=false→st (plD d) (L.drop k)=P0)
abbrev zBV:De:=⟨⟨#[]⟩,0,0,⟨#[]⟩,⟨#[]⟩,⟨#[]⟩,⟨#[]⟩,⟨#[]⟩,false,false,none,[],0,none,[],0,0,0,none,[],0,⟨#[]⟩⟩
theorem DeI.zero (w:World):DeI (w.alloc (.cells (deC zBV) 47)) w.heap.size zBV :=
 ⟨Bx.new _ _ _,zAF.nil _ _ _ _ _,zAF.nil _ _ _ _ _,.inl rfl,(fun h=>absurd h zd),fun _ _ e=>vz⟩
def GivesRde (r:Nat) (LA:Option Addr) (c:Nat) (L:List Ln) (k:Nat) (w:World) (e:Ending) (w':World):Prop :=
 ∃ d k' bad,e = .returned (deV d)∧DeI w' (w.heap.size+1) d∧RdI w' r LA c L k' bad∧w.grownBy w' (some r)∧Stp (fun d M=>.ok (d,M)) (zAG (L.drop k)) L d k' bad
theorem kdX_le (s:Ln):0≤kdX s∧kdX s≤5:=by
 unfold kdX
 repeat' split
 all_goals decide
theorem kdX_at (s:Ln) {j:Int} (h1:1≤j) (h2:j≤5):(kdS j).data.toList=s↔kdX s=j:=by
 have h5:j=1∨j=2∨j=3∨j=4∨j=5:=za
 constructor
 ·intro h
  subst h
  rcases h5 with rfl | rfl | rfl | rfl | rfl<;>rfl
 ·intro h
  rw [←h];exact kdX_ok za
theorem zBu {w:World} {b:Nat} {cs:Array Value} {T:TypeId} (h:Bx w b cs T):w.rangeAt b 0 cs.toList:=fun j v hv=>by
 rw [bJ];exact h.cell (by simpa using hv)
theorem res_deed {a:Array Value} {w:World} {b:Nat} {d:De} (ha:a[2]?.getD undef = .pointer (some ⟨b,0,none⟩)) (hz:Bx w b (deC d) 47) :
  (results Tryz.f12 a).run Tryz.prog w = .ok (deV d) w:=by
 have y0:=hz.c 0 rfl;have y1:=hz.c 1 rfl;have y2:=hz.c 2 rfl;have y3:=hz.c 3 rfl;have y4:=hz.c 4 rfl;have y5:=hz.c 5 rfl;have y6:=hz.c 6 rfl;have y7:=hz.c 7 rfl;have y8:=hz.c 8 rfl;have y9:=hz.c 9 rfl;have y10:=hz.c 10 rfl;have y11:=hz.c 11 rfl;have y12:=hz.c 12 rfl;have y13:=hz.c 13 rfl;have y14:=hz.c 14 rfl;have y15:=hz.c 15 rfl;clear hz;simp [results,Tryz.results12,go_sem,ha,y0,y1,y2,y3,y4,y5,y6,y7,y8,y9,y10,y11,y12,y13,y14,y15]
theorem grown_row (w:World) (g:Nat) (cs:Array Value):w.grownBy (w.setRow g cs) (some g) :=
 ⟨rfl,rfl,rfl,zd,fun i _ hne=>setRow_other _ _ _ _ fun e=>hne (by rw [e])⟩
theorem rd_end {r:Nat} {LA:Option Addr} {c:Nat} {L:List Ln} {k k':Nat} {bad:Bool} {w w2:World} {d:De} {cs:Array Value} (hrw:r<w.heap.size) (hLA:∀ b o,LA=some ⟨b,o,none⟩→b<w.heap.size) (h1:DeI w2 (w.heap.size+1) d) (h2:RdI w2 r LA c L k' bad) (h3:KeptB w.heap.size r w w2) (h4:Bx w2 w.heap.size cs 47) (hc:cs.size=16)
  (h5:Stp (fun d M=>.ok (d,M)) (zAG (L.drop k)) L d k' bad) :
  (storeVar 47 ⟨w.heap.size,0,none⟩ (deV d)).run Tryz.prog w2 = .ok () (w2.setRow w.heap.size (deC d))∧Bx (w2.setRow w.heap.size (deC d)) w.heap.size (deC d) 47∧GivesRde r LA c L k w (.returned (deV d)) (w2.setRow w.heap.size (deC d)):=by
 have hg:=grown_row w2 w.heap.size (deC d);refine ⟨run_storeVar_row w2 w.heap.size 47 47 cs (deC d) h4 zb hc zu,setRow_heap _ _ _ _ _ _ h4,d,k',bad,rfl,h1.grown hg za,h2.grown hg za (fun b o e=>by have:=hLA b o e;omega),?_,h5⟩
 exact (h3.trans (⟨hg.os,hg.tape,hg.output,hg.size,fun i hi _=>hg.block i (cX hi h3.size) fun e=>yk⟩:KeptB w.heap.size r w2 (w2.setRow w.heap.size (deC d)))).to
structure BdM (w:World) (r:Nat) (LA:Option Addr) (c:Nat) (L:List Ln) (u:Nat) (cs:Array Value) (T:TypeId) (wx:World) (d:De) (k:Nat) (bad:Bool):Prop where
 de:DeI wx (w.heap.size+1) d
 rd:RdI wx r LA c L k bad
 kp:KeptB w.heap.size r w wx
 rs:Bx wx w.heap.size (deC zBV) 47
 fl:Bx wx u cs T
 uq:w.heap.size+1<u
section
variable {w wx w':World} {r c u k k':Nat} {LA:Option Addr} {L:List Ln} {cs:Array Value} {T:TypeId} {d d':De} {bad bad':Bool}
theorem BdM.next (h:BdM w r LA c L u cs T wx d k bad) (hr:r<w.heap.size) (hi:RdI w' r LA c L k' bad') (hg:wx.grownBy w' (some r)):BdM w r LA c L u cs T w' d k' bad' :=
 ⟨h.de.grown hg za,hi,h.kp.trans (KeptB.grown hg h.kp.size),(hg.block _ h.rs.lt fun e=>yk).trans h.rs,(hg.block _ h.fl.lt fun e=>by have:=dR e;have:=h.uq;omega).trans h.fl,h.uq⟩
theorem BdM.put (h:BdM w r LA c L u cs T wx d k bad) (hr:r<w.heap.size) (hLA:∀ b o,LA=some ⟨b,o,none⟩→b<w.heap.size) (i:Nat) (v:Value) (hc:(deC d).setIfInBounds i v=deC d') (e1:arSl d'=arSl d∧d'.ar=d.ar) (e2:usSl d'=usSl d∧d'.us=d.us) (hs:Shs wx d'.shA d'.sh) (hq:∀ b o,d'.shA=some ⟨b,o,none⟩→w.heap.size+1<b) :
  BdM w r LA c L u cs T (wx.setCell ⟨w.heap.size+1,i,none⟩ v) d' k bad:=by
 have hg:=zAn wx ⟨w.heap.size+1,i,none⟩ v;have hn:∀ {j:Nat},j≠w.heap.size+1→some j≠some (w.heap.size+1):=fun hj e=>hj (dR e)
 have hu:=h.uq;refine ⟨h.de.set i v hc e1 e2 hs hq,h.rd.grown hg (by show r≠w.heap.size+1;omega) (fun b o e=>by have:=hLA b o e;show b≠w.heap.size+1;omega),h.kp.trans ⟨hg.os,hg.tape,hg.output,hg.size,fun i hi _=>hg.block i (cX hi h.kp.size) (hn za)⟩,(hg.block _ h.rs.lt (hn za)).trans h.rs,(hg.block _ h.fl.lt (hn za)).trans h.fl,hu⟩
end
/-! ### The plain side of each step -/
section
variable {st st':De→List Ln→Except (List Ln) (De×List Ln)} {P0:Except (List Ln) (De×List Ln)} {L:List Ln} {d d':De} {k:Nat} {bad:Bool}
def bindR {α:Type} (x:Except (List Ln) (α×List Ln)) (g:α→List Ln→Except (List Ln) (De×List Ln)):Except (List Ln) (De×List Ln):=x >>= fun p=>g p.1 p.2
theorem Stp.rdr {α β:Type} {X:List Ln→Except (List Ln) (α×List Ln)} {ans:Option β} {tv:β→α} {f:α→De} (h:Stp st P0 L d k bad) (hX:bad=false→(∀ n,ans=some n→X (L.drop k) = .ok (tv n,(L.drop k).tail))∧(ans=none→X (L.drop k) = .error (L.drop k))) (hN:bad=true→ans=none)
  (he:st (plD d) (L.drop k)=bindR (X (L.drop k)) fun v R=>st' (f v) R) (hd:∀ n,ans=some n→plD d'=f (tv n)):Stp st' P0 L d' (nxk k ans.isSome) (bad || !ans.isSome):=by
 cases bad with
 | true =>
  have hn:=hN rfl;subst hn;exact ⟨fun _=>h.1 rfl,(fun h=>zy)⟩
 | false =>
  have h2:=h.2 rfl;obtain ⟨hy,hn⟩:=hX rfl;rw [he] at h2
  cases ans with
  | none =>
   rw [hn rfl] at h2;exact ⟨fun _=>h2.symm,(fun h=>zy)⟩
  | some n =>
   rw [hy n rfl] at h2;refine ⟨(fun h=>zy),fun _=>?_⟩
   rw [hd n rfl]
   show st' (f (tv n)) (L.drop (k+1))=P0
   rw [←zAX];exact h2
theorem Stp.skip (h:Stp st P0 L d k bad) (he:bad=false→st (plD d) (L.drop k)=st' (plD d) (L.drop k)):Stp st' P0 L d k bad:=⟨h.1,fun hb=>by rw [←he hb];exact h.2 hb⟩
theorem Stp.free {n:Nat} (h:Stp st P0 L d k bad) (hn:bad=true→n=0) (he:bad=false→st (plD d) (L.drop k)=st' (plD d') ((L.drop k).drop n)):Stp st' P0 L d' (k+n) bad:=by
 refine ⟨fun hb=>?_,fun hb=>?_⟩
 ·rw [hn hb];exact h.1 hb
 ·rw [←bY,←he hb];exact h.2 hb
end
section
variable {P0:Except (List Ln) (De×List Ln)} {L:List Ln} {d:De} {k:Nat} {bad:Bool}
theorem Stp.th (h:Stp st1 P0 L d k bad) (hb:(zAf d.kd || decide (d.kd=1))=true):Stp st2 P0 L { d with th:=ofL ((nmO bad zBq (L.drop k)).getD []) } (nxk k (nmO bad zBq (L.drop k)).isSome) (bad || !(nmO bad zBq (L.drop k)).isSome) :=
 h.rdr (X:=zDc zBq) (tv:=ofL) (f:=fun v=>plD { d with th:=v }) (fun e=>by subst e;rw [nameX_nm];exact ⟨(fun n h=>jf),fun h=>jf⟩) (fun e=>by subst e;rfl) (by
  refine (show _=bindR (optX (zAf d.kd || decide (d.kd=1)) emp (zDc zBq) (L.drop k)) (fun v R=>st2 { plD d with th:=v } R) from rfl).trans ?_
  rw [hb];rfl) (fun n hn=>j6)
theorem Stp.fr (h:Stp st2 P0 L d k bad) (hb:(zAf d.kd || decide (d.kd=5))=true):Stp st3 P0 L { d with fr:=ofL ((nmO bad zCa (L.drop k)).getD []) } (nxk k (nmO bad zCa (L.drop k)).isSome) (bad || !(nmO bad zCa (L.drop k)).isSome) :=
 h.rdr (X:=zDc zCa) (tv:=ofL) (f:=fun v=>plD { d with fr:=v }) (fun e=>by subst e;rw [nameX_nm];exact ⟨(fun n h=>jf),fun h=>jf⟩) (fun e=>by subst e;rfl) (by
  refine (show _=bindR (optX (zAf d.kd || decide (d.kd=5)) emp (zDc zCa) (L.drop k)) (fun v R=>st3 { plD d with fr:=v } R) from rfl).trans ?_
  rw [hb];rfl) (fun n hn=>j6)
theorem Stp.to_ (h:Stp st3 P0 L d k bad) (hb:zAf d.kd=true):Stp st4 P0 L { d with to_:=ofL ((nmO bad kTo (L.drop k)).getD []) } (nxk k (nmO bad kTo (L.drop k)).isSome) (bad || !(nmO bad kTo (L.drop k)).isSome) :=
 h.rdr (X:=zDc kTo) (tv:=ofL) (f:=fun v=>plD { d with to_:=v }) (fun e=>by subst e;rw [nameX_nm];exact ⟨(fun n h=>jf),fun h=>jf⟩) (fun e=>by subst e;rfl) (by
  refine (show _=bindR (optX (zAf d.kd) emp (zDc kTo) (L.drop k)) (fun v R=>st4 { plD d with to_:=v } R) from rfl).trans ?_
  rw [hb];rfl) (fun n hn=>j6)
theorem Stp.ot (h:Stp st12 P0 L d k bad) (hb:decide (d.kd=4)=true):Stp (fun d M=>.ok (d,M)) P0 L { d with ot:=ofL ((nmO bad zEm (L.drop k)).getD []) } (nxk k (nmO bad zEm (L.drop k)).isSome) (bad || !(nmO bad zEm (L.drop k)).isSome) :=
 h.rdr (X:=zDc zEm) (tv:=ofL) (f:=fun v=>plD { d with ot:=v }) (fun e=>by subst e;rw [nameX_nm];exact ⟨(fun n h=>jf),fun h=>jf⟩) (fun e=>by subst e;rfl) (by
  refine (show _=bindR (optX (decide (d.kd=4)) emp (zDc zEm) (L.drop k)) (fun v R=>.ok ({ plD d with ot:=v },R)) from rfl).trans ?_
  rw [hb];rfl) (fun n hn=>j6)
theorem Stp.bg (h:Stp st9 P0 L d k bad):Stp st10 P0 L { d with bg:=((nuO bad zAM (L.drop k)).getD 0:Nat) } (nxk k (nuO bad zAM (L.drop k)).isSome) (bad || !(nuO bad zAM (L.drop k)).isSome) :=
 h.rdr (X:=numX zAM) (tv:=fun n:Nat=>(n:Int)) (f:=fun v=>plD { d with bg:=v }) (fun e=>by subst e;rw [numX_nu];exact ⟨(fun n h=>jf),fun h=>jf⟩) (fun e=>by subst e;rfl) rfl (fun n hn=>j6)
theorem Stp.en (h:Stp st10 P0 L d k bad) (hb:zAf d.kd=true):Stp st11 P0 L { d with en:=((nuO bad kEnd (L.drop k)).getD 0:Nat) } (nxk k (nuO bad kEnd (L.drop k)).isSome) (bad || !(nuO bad kEnd (L.drop k)).isSome) :=
 h.rdr (X:=numX kEnd) (tv:=fun n:Nat=>(n:Int)) (f:=fun v=>plD { d with en:=v }) (fun e=>by subst e;rw [numX_nu];exact ⟨(fun n h=>jf),fun h=>jf⟩) (fun e=>by subst e;rfl) (by
  refine (show _=bindR (optX (zAf d.kd) 0 (numX kEnd) (L.drop k)) (fun v R=>st11 { plD d with en:=v } R) from rfl).trans ?_
  rw [hb];rfl) (fun n hn=>j6)
theorem Stp.pt (h:Stp st4 P0 L d k bad) (hb:decide (d.kd=2)=true) {s1 s2:BA} (hs:∀ p,paO bad (L.drop k)=some p→s1=ofL p.1∧s2=ofL p.2):Stp st5 P0 L { d with nu:=s1,de:=s2 } (nxk k (paO bad (L.drop k)).isSome) (bad || !(paO bad (L.drop k)).isSome) :=
 h.rdr (X:=partX) (tv:=fun p:Ln×Ln=>(ofL p.1,ofL p.2)) (f:=fun v=>plD { d with nu:=v.1,de:=v.2 }) (fun e=>by subst e;rw [partX_pa];exact ⟨(fun n h=>jf),fun h=>jf⟩) (fun e=>by subst e;rfl) (by
  refine (show _=bindR (optX (decide (d.kd=2)) (emp,emp) partX (L.drop k)) (fun v R=>st5 { plD d with nu:=v.1,de:=v.2 } R) from rfl).trans ?_
  rw [hb];rfl) (fun n hn=>by rw [(hs n hn).1,(hs n hn).2])
theorem Stp.ex (h:Stp st5 P0 L d k bad) (hb:decide (d.kd=3)=true):Stp st6 P0 L { d with ex:=flB bad zDu (L.drop k) } (nxk k (flB bad zDu (L.drop k))) bad:=by
 have e:nxk k (flB bad zDu (L.drop k))=k+(if flB bad zDu (L.drop k)=true then 1 else 0):=by unfold nxk;split<;>rfl
 rw [e];refine h.free (fun hb=>by subst hb;rfl) fun hb2=>?_
 subst hb2
 show st6 { plD d with ex:=(zBo (decide (d.kd=3)) false (zCA zDu) (L.drop k)).1 } (zBo (decide (d.kd=3)) false (zCA zDu) (L.drop k)).2=_
 rw [hb]
 show st6 { plD d with ex:=(zCA zDu (L.drop k)).1 } (zCA zDu (L.drop k)).2=_
 rw [flagX_fl]
 cases flB false zDu (L.drop k) with
 | true=>show st6 _ (L.drop k).tail=_;rw [zAX];simp only [if_true,bY];rfl
 | false=>rfl
theorem Stp.sb (h:Stp st6 P0 L d k bad) (hb:decide (d.kd=3)=true):Stp st7 P0 L { d with sb:=flB bad kSub (L.drop k) } (nxk k (flB bad kSub (L.drop k))) bad:=by
 have e:nxk k (flB bad kSub (L.drop k))=k+(if flB bad kSub (L.drop k)=true then 1 else 0):=by unfold nxk;split<;>rfl
 rw [e];refine h.free (fun hb=>by subst hb;rfl) fun hb2=>?_
 subst hb2
 show st7 { plD d with sb:=(zBo (decide (d.kd=3)) false (zCA kSub) (L.drop k)).1 } (zBo (decide (d.kd=3)) false (zCA kSub) (L.drop k)).2=_
 rw [hb]
 show st7 { plD d with sb:=(zCA kSub (L.drop k)).1 } (zCA kSub (L.drop k)).2=_
 rw [flagX_fl]
 cases flB false kSub (L.drop k) with
 | true=>show st7 _ (L.drop k).tail=_;rw [zAX];simp only [if_true,bY];rfl
 | false=>rfl
end
section
variable {P0:Except (List Ln) (De×List Ln)} {L:List Ln} {d:De} {k:Nat} {bad:Bool}
theorem Stp.ar (h:Stp st7 P0 L d k bad) (hb:zAf d.kd=true) (A:Option Addr) (c:Nat):Stp st8 P0 L { d with arA:=A,ar:=arsO bad (L.drop k),arc:=c } (k+(arsO bad (L.drop k)).length) bad:=by
 refine h.free (fun hb=>by subst hb;rfl) fun hb2=>?_
 subst hb2
 show st8 { plD d with ar:=(zBo (zAf d.kd) [] zBf (L.drop k)).1 } (zBo (zAf d.kd) [] zBf (L.drop k)).2=_
 rw [hb]
 show st8 { plD d with ar:=(zBf (L.drop k)).1 } (zBf (L.drop k)).2=_
 rw [areasX_rest]
 rfl
theorem Stp.us (h:Stp st8 P0 L d k bad) (hb:zAf d.kd=true) (A:Option Addr) (c:Nat):Stp st9 P0 L { d with usA:=A,us:=ussO bad (L.drop k),usc:=c } (k+(ussO bad (L.drop k)).length) bad:=by
 refine h.free (fun hb=>by subst hb;rfl) fun hb2=>?_
 subst hb2
 show st9 { plD d with us:=(zBo (zAf d.kd) [] (zAQ sp2 zDn) (L.drop k)).1 } (zBo (zAf d.kd) [] (zAQ sp2 zDn) (L.drop k)).2=_
 rw [hb]
 show st9 { plD d with us:=(zAQ sp2 zDn (L.drop k)).1 } (zAQ sp2 zDn (L.drop k)).2=_
 rw [usesX_rest]
 rfl
theorem Stp.sh (h:Stp st11 P0 L d k bad) (hb:divB d.kd=true) (A:Option Addr) (c:Nat):Stp st12 P0 L { d with shA:=A,sh:=shsO bad (L.drop k),shc:=c } (k+(shsO bad (L.drop k)).length) bad:=by
 refine h.free (fun hb=>by subst hb;rfl) fun hb2=>?_
 subst hb2
 show st12 { plD d with sh:=(zBo (divB d.kd) [] zAW (L.drop k)).1 } (zBo (divB d.kd) [] zAW (L.drop k)).2=_
 rw [hb]
 show st12 { plD d with sh:=(zAW (L.drop k)).1 } (zAW (L.drop k)).2=_
 rw [sharesX_rest]
 rfl
theorem Stp.th0 (h:Stp st1 P0 L d k bad) (hb:(zAf d.kd || decide (d.kd=1))=false) (z:d.th=emp):Stp st2 P0 L d k bad:=h.skip fun _=>by
 refine (show _=bindR (optX (zAf d.kd || decide (d.kd=1)) emp (zDc zBq) (L.drop k)) (fun v R=>st2 { plD d with th:=v } R) from rfl).trans ?_
 rw [hb]
 show st2 { plD d with th:=emp } _=_
 rw [←z];rfl
theorem Stp.fr0 (h:Stp st2 P0 L d k bad) (hb:(zAf d.kd || decide (d.kd=5))=false) (z:d.fr=emp):Stp st3 P0 L d k bad:=h.skip fun _=>by
 refine (show _=bindR (optX (zAf d.kd || decide (d.kd=5)) emp (zDc zCa) (L.drop k)) (fun v R=>st3 { plD d with fr:=v } R) from rfl).trans ?_
 rw [hb]
 show st3 { plD d with fr:=emp } _=_
 rw [←z];rfl
theorem Stp.to0 (h:Stp st3 P0 L d k bad) (hb:zAf d.kd=false) (z:d.to_=emp):Stp st4 P0 L d k bad:=h.skip fun _=>by
 refine (show _=bindR (optX (zAf d.kd) emp (zDc kTo) (L.drop k)) (fun v R=>st4 { plD d with to_:=v } R) from rfl).trans ?_
 rw [hb]
 show st4 { plD d with to_:=emp } _=_
 rw [←z];rfl
theorem Stp.pt0 (h:Stp st4 P0 L d k bad) (hb:decide (d.kd=2)=false) (z:d.nu=emp∧d.de=emp):Stp st5 P0 L d k bad:=h.skip fun _=>by
 refine (show _=bindR (optX (decide (d.kd=2)) (emp,emp) partX (L.drop k)) (fun v R=>st5 { plD d with nu:=v.1,de:=v.2 } R) from rfl).trans ?_
 rw [hb]
 show st5 { plD d with nu:=emp,de:=emp } _=_
 rw [show { plD d with nu:=emp,de:=emp } = plD d from by unfold plD;rw [z.1,z.2]]
theorem Stp.ex0 (h:Stp st5 P0 L d k bad) (hb:decide (d.kd=3)=false) (z:d.ex=false):Stp st6 P0 L d k bad:=h.skip fun _=>by
 show st6 { plD d with ex:=(zBo (decide (d.kd=3)) false (zCA zDu) (L.drop k)).1 } (zBo (decide (d.kd=3)) false (zCA zDu) (L.drop k)).2=_
 rw [hb]
 show st6 { plD d with ex:=false } (L.drop k)=_
 rw [show { plD d with ex:=false } = plD d from by unfold plD;rw [z]]
theorem Stp.sb0 (h:Stp st6 P0 L d k bad) (hb:decide (d.kd=3)=false) (z:d.sb=false):Stp st7 P0 L d k bad:=h.skip fun _=>by
 show st7 { plD d with sb:=(zBo (decide (d.kd=3)) false (zCA kSub) (L.drop k)).1 } (zBo (decide (d.kd=3)) false (zCA kSub) (L.drop k)).2=_
 rw [hb]
 show st7 { plD d with sb:=false } (L.drop k)=_
 rw [show { plD d with sb:=false } = plD d from by unfold plD;rw [z]]
theorem Stp.ar0 (h:Stp st7 P0 L d k bad) (hb:zAf d.kd=false) (z:d.ar=[]):Stp st8 P0 L d k bad:=h.skip fun _=>by
 show st8 { plD d with ar:=(zBo (zAf d.kd) [] zBf (L.drop k)).1 } (zBo (zAf d.kd) [] zBf (L.drop k)).2=_
 rw [hb]
 show st8 { plD d with ar:=[] } _=_
 rw [←z];rfl
theorem Stp.us0 (h:Stp st8 P0 L d k bad) (hb:zAf d.kd=false) (z:d.us=[]):Stp st9 P0 L d k bad:=h.skip fun _=>by
 show st9 { plD d with us:=(zBo (zAf d.kd) [] (zAQ sp2 zDn) (L.drop k)).1 } (zBo (zAf d.kd) [] (zAQ sp2 zDn) (L.drop k)).2=_
 rw [hb]
 show st9 { plD d with us:=[] } _=_
 rw [←z];rfl
theorem Stp.en0 (h:Stp st10 P0 L d k bad) (hb:zAf d.kd=false) (z:d.en=0):Stp st11 P0 L d k bad:=h.skip fun _=>by
 refine (show _=bindR (optX (zAf d.kd) 0 (numX kEnd) (L.drop k)) (fun v R=>st11 { plD d with en:=v } R) from rfl).trans ?_
 rw [hb]
 show st11 { plD d with en:=0 } _=_
 rw [←z];rfl
theorem Stp.sh0 (h:Stp st11 P0 L d k bad) (hb:divB d.kd=false) (z:d.sh=[]):Stp st12 P0 L d k bad:=h.skip fun _=>by
 show st12 { plD d with sh:=(zBo (divB d.kd) [] zAW (L.drop k)).1 } (zBo (divB d.kd) [] zAW (L.drop k)).2=_
 rw [hb]
 show st12 { plD d with sh:=[] } _=_
 rw [←z];rfl
theorem Stp.ot0 (h:Stp st12 P0 L d k bad) (hb:decide (d.kd=4)=false) (z:d.ot=emp):Stp (fun d M=>.ok (d,M)) P0 L d k bad:=h.skip fun _=>by
 refine (show _=bindR (optX (decide (d.kd=4)) emp (zDc zEm) (L.drop k)) (fun v R=>.ok ({ plD d with ot:=v },R)) from rfl).trans ?_
 rw [hb]
 show Except.ok ({ plD d with ot:=emp },_)=_
 rw [←z];rfl
end
section
variable {w wx w':World} {r c u k k' q:Nat} {LA:Option Addr} {L:List Ln} {cs:Array Value} {T:TypeId} {d d':De} {bad bad':Bool}
theorem BdM.names (h:BdM w r LA c L u cs T wx d k bad) (hd:DeI w' (w.heap.size+1) d') (hi:RdI w' r LA c L k' bad') (hk:KeptB (w.heap.size+1) r wx w') (hr:r<w.heap.size) (hu:Bx w' u cs T):BdM w r LA c L u cs T w' d' k' bad' :=
 ⟨hd,hi,h.kp.trans ⟨hk.os,hk.tape,hk.output,hk.size,fun i hi hn=>hk.block i za hn⟩,(hk.block _ za za).trans h.rs,hu,h.uq⟩
end
def BT:Nat:=10000
theorem zBm:1<BT:=zc
theorem BT_pos:0<BT:=zc
theorem BT_eq:BT=10000:=rfl
abbrev i64N:Nat→Value:=fun n=>Value.int .i64 (n:Int)
abbrev Lms:=Rd1 i64N
structure Lt (w:World) (A:Option Addr) (c n:Nat):Prop where
 rd:Lms w A (zAe BT n)
 cap:(zAe BT n).length≤c
abbrev lmV (A:Option Addr) (c n:Nat):Value:=.slice A (zAe BT n).length c
theorem Lt.below {w w':World} {A:Option Addr} {c n:Nat} (h:Lt w A c n) (hb:Below w.heap.size w w'):Lt w' A c n:=⟨h.rd.below hb,h.cap⟩
theorem Lt.drew {w:World} {A:Option Addr} {c n:Nat} (h:Lt w A c n):Lt w.drew A c n:=⟨h.rd.drew,h.cap⟩
theorem Lt.drewN {w:World} {A:Option Addr} {c n:Nat} (h:Lt w A c n) (k:Nat):Lt (w.drewN k) A c n:=⟨h.rd.drewN k,h.cap⟩
def zCZ (n:Nat) (w:World) (e:Ending) (w':World):Prop:=∃ A c,e = .returned (lmV A c n)∧Lt w' A c n∧Below w.heap.size w w'
abbrev encLm:Nat→List Value:=fun n=>[i64N n]
abbrev OwnI (w:World) (base:Nat) (v:Value) (l:List Nat):Prop:=zAF encLm 1 w base 3 v l
theorem elI:ElemT Tryz.prog 94 3 (.int .i64 0) 1 8:=⟨Tryz.underlying94,zb,rfl,zc⟩
def ArrI (w:World) (g:Nat) (L:List Nat):Prop:=w.heap[g]?=some (.cells (L.map i64N).toArray 3 (0,0))
section
variable {w w':World} {g:Nat} {L:List Nat}
theorem ArrI.lt (h:ArrI w g L):g<w.heap.size:=(Array.getElem?_eq_some_iff.1 h).1
theorem ArrI.cell (h:ArrI w g L) (i:Nat) (hi:i<L.length):w.cell? ⟨g,i,none⟩=some (.int .i64 ((L[i]:Nat):Int)):=by
 rw [bQ w g i _ _ _ h];simp [hi]
theorem ArrI.frozen (h:ArrI w g L) (i:Nat):w.frozen? ⟨g,i,none⟩=false:=cD w g i _ _ h
theorem ArrI.set (h:ArrI w g L) (i x:Nat):ArrI (w.setCell ⟨g,i,none⟩ (.int .i64 (x:Int))) g (L.set i x):=by
 have h1:(w.setCell ⟨g,i,none⟩ (.int .i64 (x:Int))).heap[g]?=some (.cells ((L.map i64N).toArray.setIfInBounds i (.int .i64 (x:Int))) 3 (0,0)):=by
  unfold ArrI at h;simp [World.setCell,Array.getElem?_modify,h]
 unfold ArrI;rw [h1,cF,List.map_set]
theorem ArrI.rd (h:ArrI w g L):Lms w (some ⟨g,0,none⟩) L:=fun _=>⟨g,0,rfl,fun i hi=>by
 rw [bJ,h.cell i hi]⟩
theorem ArrI.below (h:ArrI w g L) (hb:Below w.heap.size w w'):ArrI w' g L:=(hb.block g h.lt).trans h
theorem ArrI.drewN (h:ArrI w g L) (n:Nat):ArrI (w.drewN n) g L:=h
theorem ArrI.new (w:World) (n:Nat):ArrI (w.alloc (.cells (Array.replicate n (.int .i64 0)) 3)) w.heap.size (List.replicate n 0):=by
 unfold ArrI;rw [cI]
 congr 2
 apply Array.toList_inj.1
 simp
end
theorem mk_ints (n:Nat) (h:n≤1000000000) (w:World):(Instr.makeSlice 94 (.int .i64 (n:Int)) (.int .i64 (n:Int))).run Tryz.prog w = .ok (.slice (some ⟨w.heap.size,0,none⟩) n n) (w.alloc (.cells (Array.replicate n (.int .i64 0)) 3)) :=
 run_makeN1 _ _ elI n za za rfl w
def TrimLRel (w:World) (L:List Nat) (m:Nat) (i:Value) (wr:World):Prop :=
 wr=w∧∃ k:Nat,k=m∧k≤L.length∧i = .int .i64 k∧zBI (L.take k)=zBI L
theorem trimL_c (A:Option Addr) (c:Nat) (L:List Nat) (w:World) (hn:L.length≤1000000000) (hc:L.length≤c) (h:Lms w A L) :
  Calls Tryz.prog 190 #[.slice A L.length c] w (zAr (.slice A (zBI L).length c) w):=by
 go_enter Tryz.func190,Tryz.ntmps190
 go_wp2
 go_loopg [3] L.length (TrimLRel w L)
 case atStart=>exact ⟨rfl,L.length,rfl,aB _,rfl,by rw [bM]⟩
 case round =>
  obtain ⟨hw,k,hm,hk,rfl,ht⟩:=hrel;subst hw;have HM:=zq hm;have HT:=zq ht;clear hm ht
  rcases bH k with h0 | h0
  ·subst h0
   go_wp2;go_ret
   refine zAr.mk ?_ rfl
   rw [←HT.o];rfl
  ·obtain ⟨j,rfl⟩:∃ j,k=j+1:=⟨k - 1,za⟩
   obtain ⟨b,o,rfl,hb,hcl⟩:=h.at_ za;have hj:j<L.length:=za;have hc0:=hcl j hj;clear hcl
   by_cases hz:L[j]=0
   ·have HZ:=zq hz
    rw [hz] at hc0;clear hz;go_wp2
    go_roundg (gk - 1)
    case measure=>have:=HM.o;omega
    case rel=>exact ⟨rfl,j,yp,za,zn,by rw [←HT.o,wtrim_take_zero hj HZ.o]⟩
   ·have hzb:(((L[j]:Nat):Int) == 0)=false:=by simpa using hz
    have HZ:=zq hz;clear hz;go_wp2;go_ret
    refine zAr.mk ?_ rfl
    have e:=HT.o;rw [zEv hj HZ.o] at e;have e2:=aY List.length e;rw [bE,bF hk] at e2;rw [←e2]
    rfl
theorem Lms.trim {w:World} {A:Option Addr} {L:List Nat} (h:Lms w A L):Lms w A (zBI L):=by
 intro hp;obtain ⟨b,o,rfl,hlt,hcl⟩:=h.at_ (by have:=zDA L;omega)
 refine ⟨b,o,rfl,fun i hi=>?_⟩
 have hi':i<L.length:=by have:=zDA L;omega
 rw [hcl i hi']
 have:(zBI L)[i]=L[i]:=by
  have h1:=zDM L;rw [cM h1 hi,cG]
 rw [this]
theorem trimL_n (A:Option Addr) (c:Nat) (L:List Nat) (w w0:World) (hn:L.length≤1000000000) (hc:L.length≤c) (h:Lms w A L) (hl:WLt BT L) (hb:Below w0.heap.size w0 w) {n:Nat} (hv:zAi BT L=n) :
  Calls Tryz.prog 190 #[.slice A L.length c] w (zCZ n w0):=by
 have e:zBI L=zAe BT n:=by rw [zCt zBm hl,hv]
 refine (trimL_c A c L w hn hc h).mono ?_
 rintro _ _ ⟨rfl,rfl⟩;refine ⟨A,c,by rw [e],⟨?_,?_⟩,hb⟩
 ·rw [←e];exact h.trim
 ·rw [←e];have:=zDA L;omega
theorem trimL_x (A:Option Addr) (c:Nat) (L:List Nat) (w:World) (hn:L.length≤1000000000) (hc:L.length≤c) (h:Lms w A L) (hl:WLt BT L) {n:Nat} (hv:zAi BT L=n) :
  Calls Tryz.prog 190 #[.slice A L.length c] w (zAr (lmV A c n) w)∧Lt w A c n:=by
 have e:zBI L=zAe BT n:=by rw [zCt zBm hl,hv]
 refine ⟨?_,?_,?_⟩
 ·have:=trimL_c A c L w hn hc h
  rw [e] at this;exact this
 ·rw [←e];exact h.trim
 ·rw [←e];have:=zDA L;omega
theorem lms_set {w:World} {A:Option Addr} {l:List Nat} (h:Lms w A l) {g i:Nat} (hg:∀ b o,A=some ⟨b,o,none⟩→b≠g) (u:Value):Lms (w.setCell ⟨g,i,none⟩ u) A l:=fun hl=>by
 obtain ⟨b,o,rfl,hc⟩:=h hl;refine ⟨b,o,rfl,fun j hj=>?_⟩
 rw [World.cell?_of_block (w:=w) (cH w ⟨g,i,none⟩ u b (hg b o rfl))];exact hc j hj
theorem own_capI {w:World} {base:Nat} {A:Option Addr} {n c:Nat} {l:List Nat} (h:OwnI w base (.slice A n c) l):l.length≤c∧n=l.length:=by
 rcases h.2 with ⟨e,hn⟩ | ⟨g,cap,cur,e,hb,hgg,hnc,_,hsz,htake⟩
 ·injection e with _ e2 e3
  omega
 ·injection e with _ e2 e3
  subst e3;exact ⟨za,e2⟩
def CmpLRel (w:World) (l r:List Nat) (m:Nat) (i:Value) (wr:World):Prop :=
 (∃ n,wr=w.drewN n)∧m≤l.length∧(∃ z:Int,z=(m:Int) - 1∧i = .int .i64 z)∧l.drop m=r.drop m
theorem cmpL_l (A A2:Option Addr) (c c2:Nat) (l r:List Nat) (w:World) (h:Lms w A l) (h2:Lms w A2 r) (hl:WLt BT l) (hr:WLt BT r) (hn:l.length≤1000000000) (he:l.length=r.length) :
  Calls Tryz.prog 157 #[.slice A l.length c,.slice A2 l.length c2] w (zBx (.int .i64 (zDD (zAi BT l) (zAi BT r))) w):=by
 have HE:=zq he;clear he
 go_enter Tryz.func157,Tryz.ntmps157
 go_wp2
 go_loopg [5] l.length (CmpLRel w l r)
 case atStart=>exact ⟨⟨0,rfl⟩,aB _,⟨_,rfl,zn⟩,by rw [aA (aB _),aA (by rw [HE.o];omega)]⟩
 case round =>
  obtain ⟨⟨nd,hw⟩,hk,⟨z,hz,rfl⟩,hd⟩:=hrel;subst hw;have HD:=zq hd;clear hd
  rcases bH gk with h0 | h0
  ·subst h0
   obtain rfl:z = -1:=hz;go_wp2;go_ret
   refine zBx.mk ?_ ⟨_,rfl⟩
   have e:l=r:=by simpa using HD.o
   rw [e,zDa rfl]
   rfl
  ·obtain ⟨j,rfl⟩:∃ j,gk=j+1:=⟨gk - 1,za⟩
   obtain rfl:z=(j:Int):=za;clear hz;have hjr:j<r.length:=by have:=HE.o;omega
   obtain ⟨b,o,rfl,hb,hcl⟩:=h.at_ za;obtain ⟨b2,o2,rfl,hb2,hcl2⟩:=h2.at_ za;have hc0:=hcl j za;have hc1:=hcl2 j hjr;clear hcl hcl2
   by_cases hlt:l[j]<r[j]
   ·have hltb:decide (l[j]<r[j])=true:=cP hlt
    have HQ:=zq hlt;clear hlt;go_wp2
    go_quiet (fail)
    go_wp2;go_ret
    refine zBx.mk ?_ (by rw [World.drewN_drewN];exact ⟨_,rfl⟩)
    rw [zBU (wval_lt_of hl HE.o za hjr HD.o HQ.o)]
    rfl
   have hltb:decide (l[j]<r[j])=false:=cQ hlt
   by_cases hgt:r[j]<l[j]
   ·have hgtb:decide (r[j]<l[j])=true:=cP hgt
    have HQ:=zq hgt;clear hlt hgt;go_wp2
    go_quiet (fail)
    go_wp2
    go_quiet (fail)
    go_wp2;go_ret
    refine zBx.mk ?_ ve
    rw [zBT (wval_lt_of hr HE.o.symm hjr za HD.o.symm HQ.o)]
    rfl
   have hgtb:decide (r[j]<l[j])=false:=cQ hgt;have HQ:Hid (l[j]=r[j]):=by show _=_;omega
   clear hlt hgt;go_wp2
   go_quiet (fail)
   go_wp2
   go_quiet (fail)
   go_wp2
   go_roundg j
   case measure=>omega
   case rel =>
    refine ⟨⟨_,rfl⟩,za,⟨_,rfl,zn⟩,?_⟩
    rw [aF za,aF hjr,HQ.o,HD.o]
theorem cmpL_len (A A2:Option Addr) (c c2 n m:Nat) (w:World) (hne:n≠m) :
  Calls Tryz.prog 157 #[.slice A n c,.slice A2 m c2] w (zBx (.int .i64 (zDD n m)) w):=by
 have hnb:((n:Int) != (m:Int))=true:=zg
 rcases bO n m with hlt | hge
 ·have hltb:decide (n<m)=true:=cP hlt
  have hv:zDD n m = -1:=zBU hlt;rw [hv];have HV:=zq hv;clear hv
  go_enter Tryz.func157,Tryz.ntmps157
  go_wp2;go_ret
  exact zBx.mk rfl ⟨0,rfl⟩
 ·have hltb:decide (n<m)=false:=cQ za
  have hv:zDD n m=1:=zBT za;rw [hv];have HV:=zq hv;clear hv
  go_enter Tryz.func157,Tryz.ntmps157
  go_wp2;go_ret
  exact zBx.mk rfl ⟨0,rfl⟩
theorem cmpL_c (A A2:Option Addr) (c c2 a b:Nat) (w:World) (h:Lms w A (zAe BT a)) (h2:Lms w A2 (zAe BT b)) (hn:(zAe BT a).length≤1000000000) :
  Calls Tryz.prog 157 #[lmV A c a,lmV A2 c2 b] w (zBx (.int .i64 (zDD a b)) w):=by
 by_cases he:(zAe BT a).length=(zAe BT b).length
 ·have:=cmpL_l A A2 c c2 (zAe BT a) (zAe BT b) w h h2 (zBb zBm a) (zBb zBm b) hn he
  rw [zAw zBm,zAw zBm] at this;unfold lmV;rw [←he];exact this
 ·have:=cmpL_len A A2 c c2 _ _ w he
  have e:zDD (zAe BT a).length (zAe BT b).length=zDD a b:=by
   rcases bO (zAe BT a).length (zAe BT b).length with h1 | h1
   ·rw [zBU h1,zBU (lt_of_len zBm h1)]
   ·rw [zBT za,zBT (lt_of_len zBm za)]
  rw [e] at this;exact this
theorem words_full {L:List Nat} (hl:WLt BT L) (h:L=[]∨BT ^ (L.length - 1)≤zAi BT L):zAe BT (zAi BT L)=L:=by
 rw [←zCt zBm hl]
 rcases h with rfl | h
 ·rfl
 ·rcases bH L.length with h0 | h0
  ·rw [List.length_eq_zero_iff.1 h0];rfl
  have h1:=zBM zBm (zAi BT L);rw [←zCt zBm hl] at h1;have h2:L.length - 1<(zBI L).length:=(Nat.pow_lt_pow_iff_right zBm).1 (aW h h1);rw [zDM L,cS za]
theorem own_slice' {w:World} {base:Nat} {v:Value} {l:List Nat} (h:OwnI w base v l):∃ A c,v = .slice A l.length c:=by
 obtain ⟨A,c,he,_⟩:=zAF.rd1 h;exact ⟨A,c,he⟩
theorem own_lms {w:World} {base n c:Nat} {A:Option Addr} {l:List Nat} (h:OwnI w base (.slice A n c) l):Lms w A l:=by
 obtain ⟨A',c',he,hr⟩:=zAF.rd1 h
 injection he with h1 _ _
 subst h1;exact hr
def AddLRel (w:World) (l r:List Nat) (m:Nat) (v cy i:Value) (wr:World):Prop :=
 ∃ (k c:Nat) (out:List Nat),k+m=max l.length r.length∧i = .int .i64 k∧cy = .int .i64 (c:Int)∧c≤1∧out.length=k∧WLt BT out∧zAi BT out+BT ^ k*c=zAi BT (l.take k)+zAi BT (r.take k)∧OwnI wr w.heap.size v out∧Below w.heap.size w wr
theorem addL_c (A A2:Option Addr) (c c2 a b:Nat) (w:World) (h:Lms w A (zAe BT a)) (h2:Lms w A2 (zAe BT b)) (hn:(zAe BT a).length≤400000000) (hn2:(zAe BT b).length≤400000000) :
  Calls Tryz.prog 166 #[lmV A c a,lmV A2 c2 b] w (zCZ (a+b) w):=by
 obtain ⟨l,hl⟩:∃ l,l=zAe BT a:=⟨_,rfl⟩;obtain ⟨r,hr⟩:∃ r,r=zAe BT b:=⟨_,rfl⟩;unfold lmV;rw [←hl] at h hn ⊢;rw [←hr] at h2 hn2 ⊢;have hlw:WLt BT l:=by rw [hl];exact zBb zBm a
 have hrw:WLt BT r:=by rw [hr];exact zBb zBm b
 have HL:=zq hl;have HR:=zq hr;clear hl hr
 go_enter Tryz.func166,Tryz.ntmps166
 go_wp2
 go_loopg [5,6,7] (max l.length r.length) (AddLRel w l r)
 case atStart=>exact ⟨0,0,[],za,rfl,rfl,za,rfl,WLt.nil,vh,zAF.nil _ _ _ _ _,bS _ _⟩
 case round =>
  obtain ⟨k,cy,out,hm,rfl,rfl,hcy,hol,how,hv,hown,hbw⟩:=hrel;have HM:=zq hm;have HO:=zq hol;have HV:=zq hv;have HB:=zq hbw;have HW:=zq how;clear hm hv hbw how;have hok:out.length≤400000000:=yp
  by_cases h1:k<l.length
  ·obtain ⟨q,o,rfl,hb,hcl⟩:=h.at_ za
   have hc0:=(HB.o.cell hb).trans (hcl k h1);clear hcl;have hx:l[k]<10000:=hlw.get k h1
   by_cases h3:k<r.length
   ·obtain ⟨q2,o2,rfl,hb2,hcl2⟩:=h2.at_ za
    have hc1:=(HB.o.cell hb2).trans (hcl2 k h3);clear hcl2;have hy:r[k]<10000:=hrw.get k h3;obtain ⟨T,hT⟩:∃ T,T=cy+l[k]+r[k]:=⟨_,rfl⟩;have hTe:(cy:Int)+(l[k]:Int)+(r[k]:Int)=(T:Int):=by rw [hT];omega
    have hTB:T<20000:=za;have HT:Hid (T=cy+l[k]+r[k]):=by show _=_;omega
    have HA:Hid (zAi BT (l.take (k+1))=zAi BT (l.take k)+BT ^ k*l[k]):=zAH h1;have HC:Hid (zAi BT (r.take (k+1))=zAi BT (r.take k)+BT ^ k*r[k]):=zAH h3;clear hT
    go_wp2_with (at_builtin;refine zAp _ _ _ elI rfl rfl w.heap.size _ out rfl (zAF.alloc hown _) wr.heap.size 1 (T % 10000) rfl (cI _ _) rfl zu zt za qg ?_;intro A7 c7 w7 hown7 hg7 hb7 hat7)
    have HB7:=zq ((HB.o.alloc HB.o.size _).trans hb7);have HN7:=zq hown7;clear hown7 hg7 hb7 hat7 hown HB;go_wp2
    go_roundg (gk - 1)
    case measure=>have:=HM.o;omega
    case rel =>
     refine ⟨k+1,T / 10000,out++[T % 10000],yp,zn,zn,za,yz,HW.o.append (WLt.cons (bA _ zc) WLt.nil),?_,ji,HB7.o⟩
     rw [zAY,HO.o,zBR,HA.o,HC.o];exact add_col HV.o HT.o
   ·have h3i:¬ ((k:Int)<(r.length:Int)):=by omega
    obtain ⟨T,hT⟩:∃ T,T=cy+l[k]:=⟨_,rfl⟩;have hTe:(cy:Int)+(l[k]:Int)=(T:Int):=by rw [hT];omega
    have hTB:T<20000:=za;have HT:Hid (T=cy+l[k]+0):=by show _=_;omega
    have HA:Hid (zAi BT (l.take (k+1))=zAi BT (l.take k)+BT ^ k*l[k]):=zAH h1;have HC:Hid (zAi BT (r.take (k+1))=zAi BT (r.take k)+BT ^ k*0):=yr;clear hT
    go_wp2_with (at_builtin;refine zAp _ _ _ elI rfl rfl w.heap.size _ out rfl (zAF.alloc hown _) wr.heap.size 1 (T % 10000) rfl (cI _ _) rfl zu zt za qg ?_;intro A7 c7 w7 hown7 hg7 hb7 hat7)
    have HB7:=zq ((HB.o.alloc HB.o.size _).trans hb7);have HN7:=zq hown7;clear hown7 hg7 hb7 hat7 hown HB;go_wp2
    go_roundg (gk - 1)
    case measure=>have:=HM.o;omega
    case rel =>
     refine ⟨k+1,T / 10000,out++[T % 10000],yp,zn,zn,za,yz,HW.o.append (WLt.cons (bA _ zc) WLt.nil),?_,ji,HB7.o⟩
     rw [zAY,HO.o,zBR,HA.o,HC.o];exact add_col HV.o HT.o
  ·have h1i:¬ ((k:Int)<(l.length:Int)):=by omega
   by_cases h3:k<r.length
   ·obtain ⟨q2,o2,rfl,hb2,hcl2⟩:=h2.at_ za
    have hc1:=(HB.o.cell hb2).trans (hcl2 k h3);clear hcl2;have hy:r[k]<10000:=hrw.get k h3;obtain ⟨T,hT⟩:∃ T,T=cy+r[k]:=⟨_,rfl⟩;have hTe:(cy:Int)+(r[k]:Int)=(T:Int):=by rw [hT];omega
    have hTB:T<20000:=za;have HT:Hid (T=cy+0+r[k]):=by show _=_;omega
    have HA:Hid (zAi BT (l.take (k+1))=zAi BT (l.take k)+BT ^ k*0):=yr;have HC:Hid (zAi BT (r.take (k+1))=zAi BT (r.take k)+BT ^ k*r[k]):=zAH h3;clear hT
    go_wp2_with (at_builtin;refine zAp _ _ _ elI rfl rfl w.heap.size _ out rfl (zAF.alloc hown _) wr.heap.size 1 (T % 10000) rfl (cI _ _) rfl zu zt za qg ?_;intro A7 c7 w7 hown7 hg7 hb7 hat7)
    have HB7:=zq ((HB.o.alloc HB.o.size _).trans hb7);have HN7:=zq hown7;clear hown7 hg7 hb7 hat7 hown HB;go_wp2
    go_roundg (gk - 1)
    case measure=>have:=HM.o;omega
    case rel =>
     refine ⟨k+1,T / 10000,out++[T % 10000],yp,zn,zn,za,yz,HW.o.append (WLt.cons (bA _ zc) WLt.nil),?_,ji,HB7.o⟩
     rw [zAY,HO.o,zBR,HA.o,HC.o];exact add_col HV.o HT.o
   ·have h3i:¬ ((k:Int)<(r.length:Int)):=by omega
    have HV2:Hid (zAi BT out+BT ^ out.length*cy=a+b):=by
     show _=_
     have e:=HV.o;rw [cS za,cS za,HL.o,HR.o,zAw zBm,zAw zBm] at e;rw [hol];exact e
    have HMX:Hid (out=[]∨BT ^ (out.length - 1)≤a+b):=by
     rcases bH k with h0 | h0
     ·exact .inl (List.length_eq_zero_iff.1 za)
     ·refine .inr ?_
      have hk:k=max l.length r.length:=yp;rw [hol]
      rcases Nat.le_total l.length r.length with h4 | h4
      ·have e:=wval_ge (B:=BT) (l:=r) za (by rw [cM HR.o];simpa [HR.o] using zDr zBm (n:=b) (by rw [←HR.o];omega))
       rw [HR.o,zAw zBm,←HR.o,show r.length=k by omega] at e
       omega
      ·have e:=wval_ge (B:=BT) (l:=l) za (by rw [cM HL.o];simpa [HL.o] using zDr zBm (n:=a) (by rw [←HL.o];omega))
       rw [HL.o,zAw zBm,←HL.o,show l.length=k by omega] at e
       omega
    rcases bH cy with h0 | h0
    ·subst h0
     have HE:Hid (zAe BT (a+b)=out):=by
      show _=_
      have e:=HV2.o;rw [bI,cO] at e;rw [←e] ;refine words_full HW.o ?_
      rw [e];exact HMX.o
     obtain ⟨A9,c9,rfl⟩:=own_slice' hown;go_wp2;go_ret
     exact ⟨A9,c9,by unfold lmV;rw [HE.o,hol];rfl,⟨by rw [HE.o];exact own_lms hown,by rw [HE.o];exact (own_capI hown).1⟩,HB.o⟩
    ·obtain rfl:cy=1:=by omega
     go_wp2_with (at_builtin;refine zAp _ _ _ elI rfl rfl w.heap.size _ out rfl (zAF.alloc hown _) wr.heap.size 1 1 rfl (cI _ _) rfl zu zt za qg ?_;intro A7 c7 w7 hown7 hg7 hb7 hat7)
     have hb8:=(HB.o.alloc HB.o.size _).trans hb7
     have HE:Hid (zAe BT (a+b)=out++[1]):=by
      show _=_
      have e:=HV2.o;have hw2:WLt BT (out++[1]):=HW.o.append (WLt.cons zc WLt.nil);have e2:zAi BT (out++[1])=a+b:=by rw [zAY,zBR];exact e
      rw [←e2,←zCt zBm hw2];exact wtrim_ne zc out
     go_wp2;go_ret
     have hcap:=own_capI hown7;exact ⟨A7,c7,by unfold lmV;rw [HE.o,cY,hol];rfl,⟨by rw [HE.o];exact own_lms hown7,by rw [HE.o];exact hcap.1⟩,hb8⟩
theorem sub_colN {k o R L c t y x d:Nat} (h:o+R=L+BT ^ k*c) (hs:t+c+y=x+BT*d):(o+BT ^ k*t)+(R+BT ^ k*y)=(L+BT ^ k*x)+BT ^ (k+1)*d:=by
 have e:=aY (BT ^ k * ·) hs;simp only [aS] at e;rw [aR,aU];omega
def LessLRel (w:World) (l r:List Nat) (m:Nat) (v cy i:Value) (wr:World):Prop :=
 ∃ (k c:Nat) (out:List Nat),k+m=l.length∧i = .int .i64 k∧cy = .int .i64 (c:Int)∧c≤1∧out.length=k∧WLt BT out∧zAi BT out+zAi BT (r.take k)=zAi BT (l.take k)+BT ^ k*c∧OwnI wr w.heap.size v out∧Below w.heap.size w wr
theorem lessL_c (A A2:Option Addr) (c c2 a b:Nat) (w:World) (h:Lms w A (zAe BT a)) (h2:Lms w A2 (zAe BT b)) (hn:(zAe BT a).length≤400000000) (hle:b≤a) :
  Calls Tryz.prog 167 #[lmV A c a,lmV A2 c2 b] w (zCZ (a - b) w):=by
 obtain ⟨l,hl⟩:∃ l,l=zAe BT a:=⟨_,rfl⟩;obtain ⟨r,hr⟩:∃ r,r=zAe BT b:=⟨_,rfl⟩;have hrl:r.length≤l.length:=by rw [hl,hr];exact zAL zBm hle
 unfold lmV;rw [←hl] at h hn ⊢;rw [←hr] at h2 ⊢;have hlw:WLt BT l:=by rw [hl];exact zBb zBm a
 have hrw:WLt BT r:=by rw [hr];exact zBb zBm b
 have HL:=zq hl;have HR:=zq hr;have HLE:=zq hle;clear hl hr hle
 go_enter Tryz.func167,Tryz.ntmps167
 go_wp2
 go_loopg [5,6,7] l.length (LessLRel w l r)
 case atStart=>exact ⟨0,0,[],za,rfl,rfl,za,rfl,WLt.nil,vh,zAF.nil _ _ _ _ _,bS _ _⟩
 case round =>
  obtain ⟨k,cy,out,hm,rfl,rfl,hcy,hol,how,hv,hown,hbw⟩:=hrel;have HM:=zq hm;have HO:=zq hol;have HV:=zq hv;have HB:=zq hbw;have HW:=zq how;clear hm hv hbw how;have hok:out.length≤400000000:=yp
  by_cases h1:k<l.length
  ·obtain ⟨q,o,rfl,hb,hcl⟩:=h.at_ za
   have hc0:=(HB.o.cell hb).trans (hcl k h1);clear hcl;have hx:l[k]<10000:=hlw.get k h1
   by_cases h3:k<r.length
   ·obtain ⟨q2,o2,rfl,hb2,hcl2⟩:=h2.at_ za
    have hc1:=(HB.o.cell hb2).trans (hcl2 k h3);clear hcl2;have hy:r[k]<10000:=hrw.get k h3;obtain ⟨z,hz⟩:∃ z:Int,z=(l[k]:Int) - (cy:Int) - (r[k]:Int):=⟨_,rfl⟩;have hTe:(l[k]:Int) - (cy:Int) - (r[k]:Int)=z:=hz.symm;have hz1 : -10002≤z∧z≤10000:=za
    by_cases hneg:z<0
    ·obtain ⟨T,hT⟩:∃ T:Nat,z+10000=(T:Int):=⟨(z+10000).toNat,za⟩
     have HT:Hid (T+cy+r[k]=l[k]+BT*1):=by show _=_;rw [BT_eq];omega
     have hTB:T<10000:=za;have HA:Hid (zAi BT (l.take (k+1))=zAi BT (l.take k)+BT ^ k*l[k]):=zAH h1;have HC:Hid (zAi BT (r.take (k+1))=zAi BT (r.take k)+BT ^ k*r[k]):=zAH h3;clear hz
     go_wp2_with (at_builtin;refine zAp _ _ _ elI rfl rfl w.heap.size _ out rfl (zAF.alloc hown _) wr.heap.size 1 T rfl (cI _ _) rfl zu zt za qg ?_;intro A7 c7 w7 hown7 hg7 hb7 hat7)
     have HB7:=zq ((HB.o.alloc HB.o.size _).trans hb7);have HN7:=zq hown7;clear hown7 hg7 hb7 hat7 hown HB;go_wp2
     go_roundg (gk - 1)
     case measure=>have:=HM.o;omega
     case rel =>
      refine ⟨k+1,1,out++[T],yp,zn,rfl,za,yz,HW.o.append (WLt.cons js WLt.nil),?_,ji,HB7.o⟩
      rw [zAY,HO.o,zBR,HA.o,HC.o];exact sub_colN HV.o HT.o
    ·obtain ⟨T,hT⟩:∃ T:Nat,z=(T:Int):=⟨z.toNat,za⟩
     have HT:Hid (T+cy+r[k]=l[k]+BT*0):=by show _=_;rw [BT_eq];omega
     have hTB:T<10000:=za;have HA:Hid (zAi BT (l.take (k+1))=zAi BT (l.take k)+BT ^ k*l[k]):=zAH h1;have HC:Hid (zAi BT (r.take (k+1))=zAi BT (r.take k)+BT ^ k*r[k]):=zAH h3;subst hT;clear hz
     go_wp2_with (at_builtin;refine zAp _ _ _ elI rfl rfl w.heap.size _ out rfl (zAF.alloc hown _) wr.heap.size 1 T rfl (cI _ _) rfl zu zt za qg ?_;intro A7 c7 w7 hown7 hg7 hb7 hat7)
     have HB7:=zq ((HB.o.alloc HB.o.size _).trans hb7);have HN7:=zq hown7;clear hown7 hg7 hb7 hat7 hown HB;go_wp2
     go_roundg (gk - 1)
     case measure=>have:=HM.o;omega
     case rel =>
      refine ⟨k+1,0,out++[T],yp,zn,rfl,za,yz,HW.o.append (WLt.cons js WLt.nil),?_,ji,HB7.o⟩
      rw [zAY,HO.o,zBR,HA.o,HC.o];exact sub_colN HV.o HT.o
   ·have h3i:¬ ((k:Int)<(r.length:Int)):=by omega
    obtain ⟨z,hz⟩:∃ z:Int,z=(l[k]:Int) - (cy:Int):=⟨_,rfl⟩;have hTe:(l[k]:Int) - (cy:Int)=z:=hz.symm;have hz1 : -10002≤z∧z≤10000:=za
    by_cases hneg:z<0
    ·obtain ⟨T,hT⟩:∃ T:Nat,z+10000=(T:Int):=⟨(z+10000).toNat,za⟩
     have HT:Hid (T+cy+0=l[k]+BT*1):=by show _=_;rw [BT_eq];omega
     have hTB:T<10000:=za;have HA:Hid (zAi BT (l.take (k+1))=zAi BT (l.take k)+BT ^ k*l[k]):=zAH h1;have HC:Hid (zAi BT (r.take (k+1))=zAi BT (r.take k)+BT ^ k*0):=yr;clear hz
     go_wp2_with (at_builtin;refine zAp _ _ _ elI rfl rfl w.heap.size _ out rfl (zAF.alloc hown _) wr.heap.size 1 T rfl (cI _ _) rfl zu zt za qg ?_;intro A7 c7 w7 hown7 hg7 hb7 hat7)
     have HB7:=zq ((HB.o.alloc HB.o.size _).trans hb7);have HN7:=zq hown7;clear hown7 hg7 hb7 hat7 hown HB;go_wp2
     go_roundg (gk - 1)
     case measure=>have:=HM.o;omega
     case rel =>
      refine ⟨k+1,1,out++[T],yp,zn,rfl,za,yz,HW.o.append (WLt.cons js WLt.nil),?_,ji,HB7.o⟩
      rw [zAY,HO.o,zBR,HA.o,HC.o];exact sub_colN HV.o HT.o
    ·obtain ⟨T,hT⟩:∃ T:Nat,z=(T:Int):=⟨z.toNat,za⟩
     have HT:Hid (T+cy+0=l[k]+BT*0):=by show _=_;rw [BT_eq];omega
     have hTB:T<10000:=za;have HA:Hid (zAi BT (l.take (k+1))=zAi BT (l.take k)+BT ^ k*l[k]):=zAH h1;have HC:Hid (zAi BT (r.take (k+1))=zAi BT (r.take k)+BT ^ k*0):=yr;subst hT;clear hz
     go_wp2_with (at_builtin;refine zAp _ _ _ elI rfl rfl w.heap.size _ out rfl (zAF.alloc hown _) wr.heap.size 1 T rfl (cI _ _) rfl zu zt za qg ?_;intro A7 c7 w7 hown7 hg7 hb7 hat7)
     have HB7:=zq ((HB.o.alloc HB.o.size _).trans hb7);have HN7:=zq hown7;clear hown7 hg7 hb7 hat7 hown HB;go_wp2
     go_roundg (gk - 1)
     case measure=>have:=HM.o;omega
     case rel =>
      refine ⟨k+1,0,out++[T],yp,zn,rfl,za,yz,HW.o.append (WLt.cons js WLt.nil),?_,ji,HB7.o⟩
      rw [zAY,HO.o,zBR,HA.o,HC.o];exact sub_colN HV.o HT.o
  ·have h1i:¬ ((k:Int)<(l.length:Int)):=by omega
   have HV2:Hid (zAi BT out=a - b):=by
    show _=_
    have e:=HV.o;rw [cS za,cS za,HL.o,HR.o,zAw zBm,zAw zBm] at e;have h4:=zDS HW.o;rw [hol] at h4;have h5:=HLE.o
    rcases bH cy with h0 | h0
    ·subst h0
     rw [bI] at e;omega
    ·obtain rfl:cy=1:=by omega
     rw [bP] at e;omega
   obtain ⟨A9,c9,rfl⟩:=own_slice' hown;have HT:=zq (trimL_n A9 c9 out wr w za (own_capI hown).1 (own_lms hown) HW.o HB.o HV2.o);rw [hol] at HT
   go_wp2_with fail
   with_reducible refine HT.o.mono ?_
   rintro e w7 ⟨A7,c7,rfl,hl7,hb7⟩;have HL7:=zq hl7;have HB7:=zq hb7;clear hl7 hb7 HT;go_wp2;go_ret
   exact ⟨A7,c7,rfl,HL7.o,HB7.o⟩
end Go.Proofs.YtoaelidmmcbkfaaGreatDoor
