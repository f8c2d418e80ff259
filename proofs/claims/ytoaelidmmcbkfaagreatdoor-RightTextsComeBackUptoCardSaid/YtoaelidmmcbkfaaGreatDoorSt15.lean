/- Parts of the proof, joined: Package right: what the loop of Check keeps; a new entry of a map, mad. -/
import Derived.Test.YtoaelidmmcbkfaaGreatDoorSt14
import Derived.Deep.MidRow
import Derived.Laws.CopyRow
set_option maxRecDepth 100000
set_option maxHeartbeats 8000000
namespace Dw
open Go Go.RowKit
def zCW {κ:Type} [DecidableEq κ] (mk:κ→Value) (w:World) (r:Nat) (f:κ→Option Value) (n:Nat):Prop :=
 ∃ (es:Array MapEntry) (clk:Nat) (L:List (κ×Value)),w.heap[r]?=some (.map es clk)∧es.toList.map (fun e=>(e.key,e.val))=L.map (fun p=>(mk p.1,p.2))∧(∀ k,lookE L k=f k)∧es.size=n∧∀ e∈es.toList,e.born<clk
section
variable {κ:Type} [DecidableEq κ] {mk:κ→Value} {w w':World} {r n:Nat} {f:κ→Option Value}
theorem zCW.is (h:zCW mk w r f n):zAt mk w r f:=by
 obtain ⟨es,clk,L,h1,h2,h3,_⟩:=h;exact ⟨es,clk,L,h1,h2,h3⟩
theorem zCW.lt (h:zCW mk w r f n):r<w.heap.size:=h.is.lt
theorem zCW.keep (h:zCW mk w r f n) (hk:w'.heap[r]?=w.heap[r]?):zCW mk w' r f n:=by
 obtain ⟨es,clk,L,hr,rest⟩:=h;exact ⟨es,clk,L,hk.trans hr,rest⟩
theorem zCW.below (h:zCW mk w r f n) (hb:Below w.heap.size w w'):zCW mk w' r f n:=h.keep (hb.block r h.lt)
theorem zCW.run_len {P:Program} {T K E:TypeId} (hT:P.underlying T=some (.map K E)) (ty:TypeId) (h:zCW mk w r f n):(Builtin.len_ #[T] ty #[Value.map (some r)]).run P w = .ok (.int .i64 (n:Int)) w:=by
 obtain ⟨es,clk,L,hr,_,_,rfl,_⟩:=h;have hg:(getObj r).run P w = .ok (.map es clk) w:=by simp [getObj,Sem.run,hr]
 simp [Builtin.len_,run_underlying hT,hg,goInt]
end
theorem findIdx_last {es:Array MapEntry} {e:MapEntry} (h:∀ x∈es.toList,x.born<e.born):(es.push e).findIdx? (fun x=>((x.born:Nat):Int) == ((e.born:Nat):Int))=some es.size:=by
 rw [Array.findIdx?_push]
 have hn:es.findIdx? (fun x=>((x.born:Nat):Int) == ((e.born:Nat):Int))=none:=by
  rw [Array.findIdx?_eq_none_iff];intro x hx;have:=h x (by simpa using hx)
  simp
  omega
 rw [hn];simp
section
variable {P:Program} {κ:Type} [DecidableEq κ] {mk:κ→Value} {T K E:TypeId}
theorem run_entry_new (hT:P.underlying T=some (.map K E)) (hK:KeyT P K mk) {z:Value} (hz:∀ w,(zeroValue E).run P w = .ok z w) {w:World} {r n:Nat} {f:κ→Option Value} (h:zCW mk w r f n) (k:κ) (hk:f k=none) (v:Value) :
  ∃ (st:Nat) (w1 w2:World),(Instr.mapEntry T (.map (some r)) (mk k)).run P w = .ok (.tuple #[z,.int .i64 (st:Int)]) w1∧(Instr.entryStore T (.map (some r)) (.int .i64 (st:Int)) v).run P w1 = .ok () w2 ∧
   zCW mk w2 r (fun k'=>if k'=k then some v else f k') (n+1)∧w.grownBy w1 (some r)∧w1.heap.size=w.heap.size∧w.grownBy w2 (some r)∧w2.heap.size=w.heap.size:=by
 obtain ⟨es,clk,L,hr,hL,hf,hn,hborn⟩:=h;have hrl:r<w.heap.size:=(Array.getElem?_eq_some_iff.1 hr).1;obtain ⟨d,hd,hs⟩:=hK.same;obtain ⟨o,h1,h2,_⟩:=findNow_go hs k es.toList L 0 hL;rw [hf,hk] at h2;have ho:o=none:=by cases o<;>simp_all
 subst ho;have hg:(getObj r).run P w = .ok (.map es clk) w:=by simp [getObj,Sem.run,hr]
 have hset:∀ (es':Array MapEntry) (c':Nat),(setObj r (.map es' c')).run P w = .ok () { w with heap:=w.heap.setIfInBounds r (.map es' c') }:=fun es' c'=>by simp [setObj,Sem.run,hr]
 have hfk:(Instr.findKey K (mk k) es.toList).run P w = .ok none w:=by
  simp [Instr.findKey,run_underlying hd,h1]
 have hgrow:∀ (es':Array MapEntry) (c':Nat),w.grownBy { w with heap:=w.heap.setIfInBounds r (.map es' c') } (some r):=fun es' c' =>
  ⟨rfl,rfl,rfl,zg,fun i hi hne=>by simp only [Array.getElem?_setIfInBounds];rw [aC (fun e=>hne (by rw [e]))]⟩
 have hget:∀ (es':Array MapEntry) (c':Nat),({ w with heap:=w.heap.setIfInBounds r (.map es' c') }:World).heap[r]?=some (.map es' c'):=fun es' c'=>by
  simp [hrl]
 have hsz:es.size=L.length:=by have:=aV List.length hL;simpa using this
 refine ⟨clk,{ w with heap:=w.heap.setIfInBounds r (.map (es.push { key:=mk k,val:=z,born:=clk }) (clk+1)) },{ w with heap:=w.heap.setIfInBounds r (.map (es.push { key:=mk k,val:=v,born:=clk }) (clk+1)) },?_,?_,⟨_,_,L++[(k,v)],hget _ _,by simp [hL],?_,by simp [hn],?_⟩,hgrow _ _,zg,hgrow _ _,zg⟩
 ·simp [Instr.mapEntry,run_underlying hT,hg,hK.chk,hfk,hz,hset,goInt]
 ·have hg2:(getObj r).run P { w with heap:=w.heap.setIfInBounds r (.map (es.push { key:=mk k,val:=z,born:=clk }) (clk+1)) } = .ok (.map (es.push { key:=mk k,val:=z,born:=clk }) (clk+1)) { w with heap:=w.heap.setIfInBounds r (.map (es.push { key:=mk k,val:=z,born:=clk }) (clk+1)) }:=by
   simp [getObj,Sem.run,hrl]
  have hidx:=findIdx_last (es:=es) (e:={ key:=mk k,val:=z,born:=clk }) hborn
  have hmod:(es.push { key:=mk k,val:=z,born:=clk }).modify es.size (fun e=>{ e with val:=v })=es.push { key:=mk k,val:=v,born:=clk }:=by
   apply Array.ext
   ·simp
   ·intro i hi1 hi2
    simp only [Array.getElem_modify,Array.getElem_push]
    by_cases hi:i<es.size
    ·simp [hi,show es.size≠i by omega]
    ·simp [show es.size=i by simp at hi2;omega]
  have hset2:∀ (es':Array MapEntry) (c':Nat),(setObj r (.map es' c')).run P { w with heap:=w.heap.setIfInBounds r (.map (es.push { key:=mk k,val:=z,born:=clk }) (clk+1)) } = .ok () { w with heap:=w.heap.setIfInBounds r (.map es' c') }:=fun es' c'=>by
   simp [setObj,Sem.run,hrl]
  simp only at hidx;simp [Instr.entryStore,hg2,asInt,asIntOf,hidx,hmod,hset2]
 ·intro k'
  rw [lookE_push (by rw [hf];exact hk),hf]
 ·intro e he
  simp only [Array.toList_push,List.mem_append,List.mem_singleton] at he
  rcases he with he | rfl
  ·have:=hborn e he;omega
  ·simp
end
end Dw
namespace Go.Proofs.YtoaelidmmcbkfaaGreatDoor
open Go.RowKit Dw
def zBG (x:BA) (q:De):Bool:=decide (q.id=x)
def kF (pre:List De) (x:BA):Option Value:=(pre.find? (zBG x)).map fun q=>Value.int .i64 q.kd
def kN (pre:List De) (x:BA):Int:=match pre.find? (zBG x) with
 | some q=>q.kd
 | none=>0
def endB (pre:List De) (x:BA):Bool:=pre.any fun q=>decide (q.kd=4)&&decide (q.ot=x)
def bornB (pre:List De) (x:BA):Bool:=pre.any fun q=>decide (q.kd=1)&&decide (q.th=x)
def goneB (pre:List De) (x:BA):Bool:=pre.any fun q=>decide (q.kd=5)&&decide (q.fr=x)
def fl (b:Bool):Option Value:=if b=true then some (.bool true) else none
theorem fl_get (b:Bool):(fl b).getD (.bool false) = .bool b:=by cases b<;>rfl
theorem kF_get (pre:List De) (x:BA):(kF pre x).getD (.int .i64 0) = .int .i64 (kN pre x):=by
 unfold kF kN
 cases pre.find? (zBG x)<;>rfl
theorem kF_none {pre:List De} {x:BA} (h:pre.any (zBG x)=false):kF pre x=none:=by
 unfold kF
 have:pre.find? (zBG x)=none:=by
  rw [List.find?_eq_none];intro q hq hs;have:=List.any_eq_true.2 ⟨q,hq,hs⟩;rw [h] at this;cases this
 rw [this];rfl
theorem kN_none {pre:List De} {x:BA} (h:pre.any (zBG x)=false):kN pre x=0:=by
 have:=kF_get pre x;rw [kF_none h] at this;simp at this
 omega
theorem kN_some {pre:List De} {x:BA} (h:pre.any (zBG x)=true) (hg:∀ q∈pre,1≤q.kd):0<kN pre x:=by
 unfold kN
 cases hf:pre.find? (zBG x) with
 | none =>
  rw [List.find?_eq_none] at hf;obtain ⟨q,hq,hs⟩:=List.any_eq_true.1 h;exact absurd hs (hf q hq)
 | some q =>
  have:=hg q (List.mem_of_find?_eq_some hf)
  show 0<q.kd
  omega
theorem kF_push {pre:List De} {d:De} (h:pre.any (zBG d.id)=false):(fun k=>if k=d.id then some (Value.int .i64 d.kd) else kF pre k)=kF (pre++[d]):=by
 funext k
 unfold kF;rw [List.find?_append]
 by_cases hk:k=d.id
 ·subst hk
  have:pre.find? (zBG d.id)=none:=by
   rw [List.find?_eq_none];intro q hq hs;have:=List.any_eq_true.2 ⟨q,hq,hs⟩;rw [h] at this;cases this
  simp [this,zBG]
 ·rw [aC hk]
  have:zBG k d=false:=by simp [zBG];exact fun e=>hk e.symm
  simp [this]
theorem fl_push {b c:Bool} {P:Prop} [Decidable P] (h:c=(b || decide P)):(if P then some (Value.bool true) else fl b)=fl c:=by
 subst h
 by_cases hp:P<;>simp [hp,fl]
theorem end_push {pre:List De} {d:De} (hk:d.kd=4):(fun k=>if k=d.ot then some (Value.bool true) else fl (endB pre k))=fun k=>fl (endB (pre++[d]) k):=by
 funext k
 exact fl_push (by unfold endB;rw [cY];simp [hk,eq_comm])
theorem born_push {pre:List De} {d:De} (hk:d.kd=1):(fun k=>if k=d.th then some (Value.bool true) else fl (bornB pre k))=fun k=>fl (bornB (pre++[d]) k):=by
 funext k
 exact fl_push (by unfold bornB;rw [cY];simp [hk,eq_comm])
theorem gone_push {pre:List De} {d:De} (hk:d.kd=5):(fun k=>if k=d.fr then some (Value.bool true) else fl (goneB pre k))=fun k=>fl (goneB (pre++[d]) k):=by
 funext k
 exact fl_push (by unfold goneB;rw [cY];simp [hk,eq_comm])
theorem end_same {pre:List De} {d:De} (hk:d.kd≠4):(fun k=>fl (endB (pre++[d]) k))=fun k=>fl (endB pre k):=by
 funext k;unfold endB;rw [cY];simp [hk]
theorem born_same {pre:List De} {d:De} (hk:d.kd≠1):(fun k=>fl (bornB (pre++[d]) k))=fun k=>fl (bornB pre k):=by
 funext k;unfold bornB;rw [cY];simp [hk]
theorem gone_same {pre:List De} {d:De} (hk:d.kd≠5):(fun k=>fl (goneB (pre++[d]) k))=fun k=>fl (goneB pre k):=by
 funext k;unfold goneB;rw [cY];simp [hk]
structure CS (w0 w:World) (ci:Nat) (A:Option Addr) (c r1 r2 g1 g2:Nat) (AL:Option Addr) (cL:Nat) (l:List Rg) (uA:Option Addr) (uc:Nat) (us:List BA) (m2 m3 m4 m5 lo hi:Nat) (p:De) (pre:List De):Prop where
 bel:Below w0.heap.size w0 w
 ck:Bx w ci (ckC A c r1 r2 g1 g2 AL cL l uA uc us m2 m3 m4 m5 p) 101
 rg:Rgs w0 A l
 st:Strs w0 uA us
 far:∀ w'':World,(∀ x,lo≤x→x<hi→w''.heap[x]?=w.heap[x]?)→Rgs w'' A l→WR w'' A r1 r2 g1 g2 AL l
 hh:hi≤w.heap.size
 k2:zCW Value.string w m2 (kF pre) pre.length
 k3:zAt Value.string w m3 (fun k=>fl (endB pre k))
 k4:zAt Value.string w m4 (fun k=>fl (bornB pre k))
 k5:zAt Value.string w m5 (fun k=>fl (goneB pre k))
 ou:∀ x,x=ci∨x=m2∨x=m3∨x=m4∨x=m5→w0.heap.size≤x∧(x<lo∨hi≤x)
 ne:m2≠m3∧m2≠m4∧m2≠m5∧m3≠m4∧m3≠m5∧m4≠m5
 la:pre=[]∨pre.getLast?=some p
section
variable {w0 w w':World} {ci:Nat} {A:Option Addr} {c r1 r2 g1 g2:Nat} {AL:Option Addr} {cL:Nat} {l:List Rg} {uA:Option Addr} {uc:Nat} {us:List BA} {m2 m3 m4 m5 lo hi:Nat} {p:De} {pre:List De}
theorem CS.below (h:CS w0 w ci A c r1 r2 g1 g2 AL cL l uA uc us m2 m3 m4 m5 lo hi p pre) (hb:Below w.heap.size w w'):CS w0 w' ci A c r1 r2 g1 g2 AL cL l uA uc us m2 m3 m4 m5 lo hi p pre :=
 ⟨zAb h.bel hb,h.ck.below hb,h.rg,h.st,fun w'' hf=>h.far w'' fun x h1 h2=>(hf x h1 h2).trans (hb.block x (cP h2 h.hh)),cM h.hh hb.size,h.k2.below hb,h.k3.below hb,h.k4.below hb,h.k5.below hb,h.ou,h.ne,h.la⟩
theorem CS.wr (h:CS w0 w ci A c r1 r2 g1 g2 AL cL l uA uc us m2 m3 m4 m5 lo hi p pre):WR w A r1 r2 g1 g2 AL l:=h.far w (fun _ _ _=>rfl) (h.rg.below h.bel)
theorem CS.str (h:CS w0 w ci A c r1 r2 g1 g2 AL cL l uA uc us m2 m3 m4 m5 lo hi p pre):Strs w uA us:=h.st.below h.bel
theorem CS.cne (h:CS w0 w ci A c r1 r2 g1 g2 AL cL l uA uc us m2 m3 m4 m5 lo hi p pre):ci≠m2∧ci≠m3∧ci≠m4∧ci≠m5 :=
 ⟨zAi h.k2.is h.ck,zAi h.k3 h.ck,zAi h.k4 h.ck,zAi h.k5 h.ck⟩
end
def offB (ci m2 m3 m4 m5 x:Nat):Prop:=x≠ci∧x≠m2∧x≠m3∧x≠m4∧x≠m5
theorem CS.next {w0 w w':World} {ci:Nat} {A:Option Addr} {c r1 r2 g1 g2:Nat} {AL:Option Addr} {cL:Nat} {l:List Rg} {uA:Option Addr} {uc:Nat} {us:List BA} {m2 m3 m4 m5 lo hi:Nat} {p d:De} {pre:List De}
  (h:CS w0 w ci A c r1 r2 g1 g2 AL cL l uA uc us m2 m3 m4 m5 lo hi p pre) (ho:w'.os=w.os∧w'.tape=w.tape∧w'.output=w.output∧w.heap.size≤w'.heap.size)
  (hx:∀ x,x<w.heap.size→offB ci m2 m3 m4 m5 x→w'.heap[x]?=w.heap[x]?)
  (hc:Bx w' ci (ckC A c r1 r2 g1 g2 AL cL l uA uc us m2 m3 m4 m5 d) 101) (h2:zCW Value.string w' m2 (kF (pre++[d])) (pre++[d]).length)
  (h3:zAt Value.string w' m3 (fun k=>fl (endB (pre++[d]) k))) (h4:zAt Value.string w' m4 (fun k=>fl (bornB (pre++[d]) k))) (h5:zAt Value.string w' m5 (fun k=>fl (goneB (pre++[d]) k))) :
  CS w0 w' ci A c r1 r2 g1 g2 AL cL l uA uc us m2 m3 m4 m5 lo hi d (pre++[d]):=by
 have hoff:∀ x,(x<w0.heap.size∨(lo≤x∧x<hi))→offB ci m2 m3 m4 m5 x:=fun x hx=>by
  refine ⟨?_,?_,?_,?_,?_⟩<;>(rintro rfl;have:=h.ou x zg;omega)
 have hb:Below w0.heap.size w w':=⟨ho.1,ho.2.1,ho.2.2.1,ho.2.2.2,fun k hk=>hx k (cP hk h.bel.size) (hoff k (.inl hk))⟩
 exact ⟨h.bel.trans hb,hc,h.rg,h.st,fun w'' hf=>h.far w'' fun x h1 h2=>(hf x h1 h2).trans (hx x (cP h2 h.hh) (hoff x (.inr ⟨h1,h2⟩))),cM h.hh ho.2.2.2,h2,h3,h4,h5,h.ou,h.ne,.inr zg⟩
theorem grown_refl (w:World) (row:Option Nat):w.grownBy w row:=⟨rfl,rfl,rfl,aB _,fun _ _ _=>rfl⟩
theorem CS.done {w0 w w12 w13 w14:World} {ci:Nat} {A:Option Addr} {c r1 r2 g1 g2:Nat} {AL:Option Addr} {cL:Nat} {l:List Rg} {uA:Option Addr} {uc:Nat} {us:List BA} {m2 m3 m4 m5 lo hi m:Nat} {p d:De} {pre:List De}
  (h:CS w0 w ci A c r1 r2 g1 g2 AL cL l uA uc us m2 m3 m4 m5 lo hi p pre) (hid:pre.any (zBG d.id)=false)
  (hm:zCW Value.string w12 m2 (fun k=>if k=d.id then some (Value.int .i64 d.kd) else kF pre k) (pre.length+1)) (hg:w.grownBy w12 (some m2)) (hs:w12.heap.size=w.heap.size)
  (hw13:w13=w12.setRow ci (ckC A c r1 r2 g1 g2 AL cL l uA uc us m2 m3 m4 m5 d)) (hg14:w13.grownBy w14 (some m)) (hmm:m=m3∨m=m4∨m=m5)
  (h3:zAt Value.string w14 m3 (fun k=>fl (endB (pre++[d]) k))) (h4:zAt Value.string w14 m4 (fun k=>fl (bornB (pre++[d]) k))) (h5:zAt Value.string w14 m5 (fun k=>fl (goneB (pre++[d]) k))) :
  CS w0 w14 ci A c r1 r2 g1 g2 AL cL l uA uc us m2 m3 m4 m5 lo hi d (pre++[d]):=by
 subst hw13;have hc12:Bx w12 ci (ckC A c r1 r2 g1 g2 AL cL l uA uc us m2 m3 m4 m5 p) 101:=(hg.block _ h.ck.lt (by simp;exact h.cne.1)).trans h.ck
 have hsz:(w12.setRow ci (ckC A c r1 r2 g1 g2 AL cL l uA uc us m2 m3 m4 m5 d)).heap.size=w.heap.size:=by rw [setRow_size,hs]
 have hb:∀ x,x<w.heap.size→x≠m→w14.heap[x]?=(w12.setRow ci (ckC A c r1 r2 g1 g2 AL cL l uA uc us m2 m3 m4 m5 d)).heap[x]?:=fun x hx hn=>hg14.block x (by rw [hsz];exact hx) (by simp;exact hn)
 have hcm:ci≠m:=by
  have:=h.cne
  rcases hmm with rfl | rfl | rfl
  ·exact this.2.1
  ·exact this.2.2.1
  ·exact this.2.2.2
 have h2m:m2≠m:=by
  have:=h.ne
  rcases hmm with rfl | rfl | rfl
  ·exact this.1
  ·exact this.2.1
  ·exact this.2.2.1
 refine h.next ⟨?_,?_,?_,?_⟩ (fun x hx ho=>?_) ?_ ?_ h3 h4 h5
 ·rw [hg14.os,setRow_os,hg.os]
 ·rw [hg14.tape,setRow_tape,hg.tape]
 ·rw [hg14.output,setRow_output,hg.output]
 ·have:=hg14.size
  rw [hsz] at this;exact this
 ·obtain ⟨o1,o2,o3,o4,o5⟩:=ho
  have hxm:x≠m:=by rcases hmm with rfl | rfl | rfl<;>assumption
  rw [hb x hx hxm,setRow_other _ _ _ _ o1,hg.block x hx (by simp;exact o2)]
 ·exact (hb ci h.ck.lt hcm).trans (setRow_heap _ _ _ _ _ _ hc12)
 ·have hk:zCW Value.string w14 m2 (fun k=>if k=d.id then some (Value.int .i64 d.kd) else kF pre k) (pre.length+1) :=
   hm.keep ((hb m2 h.k2.lt h2m).trans (setRow_other _ _ _ _ h.cne.1.symm))
  rw [kF_push hid] at hk
  simpa using hk
theorem CS.mid {w0 w w12:World} {ci:Nat} {A:Option Addr} {c r1 r2 g1 g2:Nat} {AL:Option Addr} {cL:Nat} {l:List Rg} {uA:Option Addr} {uc:Nat} {us:List BA} {m2 m3 m4 m5 lo hi:Nat} {p:De} {pre:List De}
  (h:CS w0 w ci A c r1 r2 g1 g2 AL cL l uA uc us m2 m3 m4 m5 lo hi p pre) (hg:w.grownBy w12 (some m2)) (X:Array Value) :
  zAt Value.string (w12.setRow ci X) m3 (fun k=>fl (endB pre k))∧zAt Value.string (w12.setRow ci X) m4 (fun k=>fl (bornB pre k))∧zAt Value.string (w12.setRow ci X) m5 (fun k=>fl (goneB pre k)):=by
 have k:∀ {x:Nat},x<w.heap.size→x≠ci→x≠m2→(w12.setRow ci X).heap[x]?=w.heap[x]?:=fun hx h1 h2=>by
  rw [setRow_other _ _ _ _ h1,hg.block _ hx (by simp;exact h2)]
 have hn:=h.ne;have hc:=h.cne;exact ⟨h.k3.keep (k h.k3.lt hc.2.1.symm hn.1.symm),h.k4.keep (k h.k4.lt hc.2.2.1.symm hn.2.1.symm),h.k5.keep (k h.k5.lt hc.2.2.2.symm hn.2.2.1.symm)⟩
theorem run_storeVar_ck (ci:Nat) (A:Option Addr) (c r1 r2 g1 g2:Nat) (AL:Option Addr) (cL:Nat) (l:List Rg) (uA:Option Addr) (uc:Nat) (us:List BA) (m2 m3 m4 m5:Nat) (p d:De) (w:World)
  (hg:Bx w ci (ckC A c r1 r2 g1 g2 AL cL l uA uc us m2 m3 m4 m5 p) 101) :
  (storeVar 47 ⟨ci,11,none⟩ (deV d)).run Tryz.prog w = .ok () (w.setRow ci (ckC A c r1 r2 g1 g2 AL cL l uA uc us m2 m3 m4 m5 d)):=by
 have h:=run_storeCells_at Tryz.prog ci 11 101 (deC d).toList 0 _ w hg zg (fun v hv=>by simp at hv;rcases hv with h | h | h | h | h | h | h | h | h | h | h | h | h | h | h | h<;>(subst h;rfl))
 have hi:(Tryz.prog.info? 47).map (·.size)=some (deC d).size:=zb
 cases hq:Tryz.prog.info? 47 with
 | none=>rw [hq] at hi;cases hi
 | some i =>
  have hs:(deC d).size=i.size:=by rw [hq] at hi;simpa using hi.symm
  have h3:(storeCells ⟨ci,11,none⟩ (deC d).toList 0).run Tryz.prog w = .ok () (w.setRow ci (ckC A c r1 r2 g1 g2 AL cL l uA uc us m2 m3 m4 m5 d)):=h
  show (storeVar 47 ⟨ci,11,none⟩ (.agg (deC d))).run Tryz.prog w=_
  generalize deC d=dc at *;generalize w.setRow ci (ckC A c r1 r2 g1 g2 AL cL l uA uc us m2 m3 m4 m5 d)=w2 at *;simp [storeVar,sizeOf,typeInfo,hq,Value.cells,hs,h3]
theorem zBf {P:Program} {ops:Array Oper} {rest:List Oper} {o:Oper} {a:Act} {w w2:World} {Q:Exit→Act→World→Prop} (hgd:o.guard=none) (ty:TypeId) (x y:Operand) (ho:o.op = .store ty x y)
  (ad:Addr) (v:Value) (hx:a.eval x = .pointer (some ad)) (hy:a.eval y=v) (hr:(storeVar ty ad v).run P w = .ok () w2)
  (h:wpList P ops Q rest (a.put o.dst undef) w2):wpList P ops Q (o::rest) a w :=
 wpList_plain hgd fun _ hK=>by
  unfold Oper.wp execOp;simp only [ho,hx,hy,Instr.storeAt,Instr.sureAddr,Sem.run_bind,Sem.run_pure,Result.andThen_ok,hr];exact hK _ _ h
theorem wp_store_var {P:Program} {o:Oper} {a:Act} {w w2:World} {K:Act→World→Prop} {Q:Exit→Act→World→Prop} (ty:TypeId) (x y:Operand) (ho:o.op = .store ty x y)
  (ad:Addr) (v:Value) (hx:a.eval x = .pointer (some ad)) (hy:a.eval y=v) (hr:(storeVar ty ad v).run P w = .ok () w2) (h:K (a.put o.dst undef) w2):o.wp P a w K Q:=by
 unfold Oper.wp execOp;simp only [ho,hx,hy,Instr.storeAt,Instr.sureAddr,Sem.run_bind,Sem.run_pure,Result.andThen_ok,hr];exact h
theorem rangeD {w:World} {b:Nat} {d:De} (h:Bx w b (deC d) 47):w.rangeAt b 0 (deC d).toList:=fun j v hv=>by
 rw [bF];exact h.cell (by rw [←hv,Array.getElem?_toList])
theorem rangeP {w:World} {ci:Nat} {A:Option Addr} {c r1 r2 g1 g2:Nat} {AL:Option Addr} {cL:Nat} {l:List Rg} {uA:Option Addr} {uc:Nat} {us:List BA} {m2 m3 m4 m5:Nat} {p:De}
  (h:Bx w ci (ckC A c r1 r2 g1 g2 AL cL l uA uc us m2 m3 m4 m5 p) 101):w.rangeAt ci 11 (deC p).toList:=fun j v hv=>by
 refine h.cell ?_
 have e:(ckC A c r1 r2 g1 g2 AL cL l uA uc us m2 m3 m4 m5 p).toList=(ckC A c r1 r2 g1 g2 AL cL l uA uc us m2 m3 m4 m5 p).toList.take 11++(deC p).toList:=rfl;rw [←Array.getElem?_toList,e,List.getElem?_append_right zg];rw [←hv]
 congr 1
 simp
theorem zCf {ops:Array Oper} {S:World→Prop} {op:Oper} {a:Act} (hw:Region.wanted op (yielded ops a.tmps)=true) (x:Operand) (ho:op.op = .load 47 x) (b o:Nat) (hx:a.eval x = .pointer (some ⟨b,o,none⟩)) (d:De)
  (hS:∀ w,S w→w.rangeAt b o (deC d).toList):YieldsIf Tryz.prog ops S op (deV d) a:=by
 exact yieldsIf_load_mid hw _ x ho b o hx (deC d).toList _ hS Tryz.underlying47 rfl zb
def plD (d:De):De:={ d with arA:=none,arc:=0,usA:=none,usc:=0,shA:=none,shc:=0 }
def Stp (st:De→List Ln→Except (List Ln) (De×List Ln)) (P0:Except (List Ln) (De×List Ln)) (L:List Ln) (d:De) (k:Nat) (bad:Bool):Prop :=
 (bad=true→P0 = .error (L.drop k))∧(bad=false→st (plD d) (L.drop k)=P0)
abbrev zRde:De:=⟨⟨#[]⟩,0,0,⟨#[]⟩,⟨#[]⟩,⟨#[]⟩,⟨#[]⟩,⟨#[]⟩,false,false,none,[],0,none,[],0,0,0,none,[],0,⟨#[]⟩⟩
theorem DeI.zero (w:World):DeI (w.alloc (.cells (deC zRde) 47)) w.heap.size zRde :=
 ⟨Bx.new _ _ _,zAN.nil _ _ _ _ _,zAN.nil _ _ _ _ _,.inl rfl,(fun h=>absurd h zg),fun _ _ e=>by cases e⟩
def GivesRde (r:Nat) (LA:Option Addr) (c:Nat) (L:List Ln) (k:Nat) (w:World) (e:Ending) (w':World):Prop :=
 ∃ d k' bad,e = .returned (deV d)∧DeI w' (w.heap.size+1) d∧RdI w' r LA c L k' bad∧w.grownBy w' (some r)∧Stp (fun d M=>.ok (d,M)) (zCt (L.drop k)) L d k' bad
theorem kdX_le (s:Ln):0≤kdX s∧kdX s≤5:=by
 unfold kdX
 repeat' split
 all_goals decide
theorem kdX_at (s:Ln) {j:Int} (h1:1≤j) (h2:j≤5):(kdS j).data.toList=s↔kdX s=j:=by
 have h5:j=1∨j=2∨j=3∨j=4∨j=5:=za
 constructor
 ·intro h
  subst h
  rcases h5 with rfl | rfl | rfl | rfl | rfl<;>rfl
 ·intro h
  rw [←h];exact kdX_ok za
theorem rangeR {w:World} {b:Nat} {cs:Array Value} {T:TypeId} (h:Bx w b cs T):w.rangeAt b 0 cs.toList:=fun j v hv=>by
 rw [bF];exact h.cell (by simpa using hv)
theorem res_deed {a:Array Value} {w:World} {b:Nat} {d:De} (ha:a[2]?.getD undef = .pointer (some ⟨b,0,none⟩)) (hz:Bx w b (deC d) 47) :
  (results Tryz.f12 a).run Tryz.prog w = .ok (deV d) w:=by
 have y0:=hz.c 0 rfl;have y1:=hz.c 1 rfl;have y2:=hz.c 2 rfl;have y3:=hz.c 3 rfl;have y4:=hz.c 4 rfl;have y5:=hz.c 5 rfl;have y6:=hz.c 6 rfl;have y7:=hz.c 7 rfl;have y8:=hz.c 8 rfl;have y9:=hz.c 9 rfl;have y10:=hz.c 10 rfl;have y11:=hz.c 11 rfl;have y12:=hz.c 12 rfl;have y13:=hz.c 13 rfl;have y14:=hz.c 14 rfl;have y15:=hz.c 15 rfl;clear hz;simp [results,Tryz.results12,go_sem,ha,y0,y1,y2,y3,y4,y5,y6,y7,y8,y9,y10,y11,y12,y13,y14,y15]
theorem grown_row (w:World) (g:Nat) (cs:Array Value):w.grownBy (w.setRow g cs) (some g) :=
 ⟨rfl,rfl,rfl,zg,fun i _ hne=>setRow_other _ _ _ _ fun e=>hne (by rw [e])⟩
theorem rd_end {r:Nat} {LA:Option Addr} {c:Nat} {L:List Ln} {k k':Nat} {bad:Bool} {w w2:World} {d:De} {cs:Array Value} (hrw:r<w.heap.size) (hLA:∀ b o,LA=some ⟨b,o,none⟩→b<w.heap.size) (h1:DeI w2 (w.heap.size+1) d) (h2:RdI w2 r LA c L k' bad) (h3:KeptB w.heap.size r w w2) (h4:Bx w2 w.heap.size cs 47) (hc:cs.size=16)
  (h5:Stp (fun d M=>.ok (d,M)) (zCt (L.drop k)) L d k' bad) :
  (storeVar 47 ⟨w.heap.size,0,none⟩ (deV d)).run Tryz.prog w2 = .ok () (w2.setRow w.heap.size (deC d))∧Bx (w2.setRow w.heap.size (deC d)) w.heap.size (deC d) 47∧GivesRde r LA c L k w (.returned (deV d)) (w2.setRow w.heap.size (deC d)):=by
 have hg:=grown_row w2 w.heap.size (deC d);refine ⟨run_storeVar_row w2 w.heap.size 47 47 cs (deC d) h4 zb hc yi,setRow_heap _ _ _ _ _ _ h4,d,k',bad,rfl,h1.grown hg za,h2.grown hg za (fun b o e=>by have:=hLA b o e;omega),?_,h5⟩
 exact (h3.trans (⟨hg.os,hg.tape,hg.output,hg.size,fun i hi _=>hg.block i (cP hi h3.size) fun e=>yc⟩:KeptB w.heap.size r w2 (w2.setRow w.heap.size (deC d)))).to
structure BdM (w:World) (r:Nat) (LA:Option Addr) (c:Nat) (L:List Ln) (u:Nat) (cs:Array Value) (T:TypeId) (wx:World) (d:De) (k:Nat) (bad:Bool):Prop where
 de:DeI wx (w.heap.size+1) d
 rd:RdI wx r LA c L k bad
 kp:KeptB w.heap.size r w wx
 rs:Bx wx w.heap.size (deC zRde) 47
 fl:Bx wx u cs T
 uq:w.heap.size+1<u
section
variable {w wx w':World} {r c u k k':Nat} {LA:Option Addr} {L:List Ln} {cs:Array Value} {T:TypeId} {d d':De} {bad bad':Bool}
theorem BdM.next (h:BdM w r LA c L u cs T wx d k bad) (hr:r<w.heap.size) (hi:RdI w' r LA c L k' bad') (hg:wx.grownBy w' (some r)):BdM w r LA c L u cs T w' d k' bad' :=
 ⟨h.de.grown hg za,hi,h.kp.trans (KeptB.grown hg h.kp.size),(hg.block _ h.rs.lt fun e=>yc).trans h.rs,(hg.block _ h.fl.lt fun e=>by have:=dM e;have:=h.uq;omega).trans h.fl,h.uq⟩
theorem BdM.put (h:BdM w r LA c L u cs T wx d k bad) (hr:r<w.heap.size) (hLA:∀ b o,LA=some ⟨b,o,none⟩→b<w.heap.size) (i:Nat) (v:Value) (hc:(deC d).setIfInBounds i v=deC d') (e1:arSl d'=arSl d∧d'.ar=d.ar) (e2:usSl d'=usSl d∧d'.us=d.us) (hs:Shs wx d'.shA d'.sh) (hq:∀ b o,d'.shA=some ⟨b,o,none⟩→w.heap.size+1<b) :
  BdM w r LA c L u cs T (wx.setCell ⟨w.heap.size+1,i,none⟩ v) d' k bad:=by
 have hg:=zAx wx ⟨w.heap.size+1,i,none⟩ v;have hn:∀ {j:Nat},j≠w.heap.size+1→some j≠some (w.heap.size+1):=fun hj e=>hj (dM e)
 have hu:=h.uq;refine ⟨h.de.set i v hc e1 e2 hs hq,h.rd.grown hg (by show r≠w.heap.size+1;omega) (fun b o e=>by have:=hLA b o e;show b≠w.heap.size+1;omega),h.kp.trans ⟨hg.os,hg.tape,hg.output,hg.size,fun i hi _=>hg.block i (cP hi h.kp.size) (hn za)⟩,(hg.block _ h.rs.lt (hn za)).trans h.rs,(hg.block _ h.fl.lt (hn za)).trans h.fl,hu⟩
end
/-! ### The plain side of each step -/
section
variable {st st':De→List Ln→Except (List Ln) (De×List Ln)} {P0:Except (List Ln) (De×List Ln)} {L:List Ln} {d d':De} {k:Nat} {bad:Bool}
def bindR {α:Type} (x:Except (List Ln) (α×List Ln)) (g:α→List Ln→Except (List Ln) (De×List Ln)):Except (List Ln) (De×List Ln):=x >>= fun p=>g p.1 p.2
theorem Stp.rdr {α β:Type} {X:List Ln→Except (List Ln) (α×List Ln)} {ans:Option β} {tv:β→α} {f:α→De} (h:Stp st P0 L d k bad) (hX:bad=false→(∀ n,ans=some n→X (L.drop k) = .ok (tv n,(L.drop k).tail))∧(ans=none→X (L.drop k) = .error (L.drop k))) (hN:bad=true→ans=none)
  (he:st (plD d) (L.drop k)=bindR (X (L.drop k)) fun v R=>st' (f v) R) (hd:∀ n,ans=some n→plD d'=f (tv n)):Stp st' P0 L d' (nxk k ans.isSome) (bad || !ans.isSome):=by
 cases bad with
 | true =>
  have hn:=hN rfl;subst hn;exact ⟨fun _=>h.1 rfl,(fun h=>yg)⟩
 | false =>
  have h2:=h.2 rfl;obtain ⟨hy,hn⟩:=hX rfl;rw [he] at h2
  cases ans with
  | none =>
   rw [hn rfl] at h2;exact ⟨fun _=>h2.symm,(fun h=>yg)⟩
  | some n =>
   rw [hy n rfl] at h2;refine ⟨(fun h=>yg),fun _=>?_⟩
   rw [hd n rfl]
   show st' (f (tv n)) (L.drop (k+1))=P0
   rw [←zCm];exact h2
theorem Stp.skip (h:Stp st P0 L d k bad) (he:bad=false→st (plD d) (L.drop k)=st' (plD d) (L.drop k)):Stp st' P0 L d k bad:=⟨h.1,fun hb=>by rw [←he hb];exact h.2 hb⟩
theorem Stp.free {n:Nat} (h:Stp st P0 L d k bad) (hn:bad=true→n=0) (he:bad=false→st (plD d) (L.drop k)=st' (plD d') ((L.drop k).drop n)):Stp st' P0 L d' (k+n) bad:=by
 refine ⟨fun hb=>?_,fun hb=>?_⟩
 ·rw [hn hb];exact h.1 hb
 ·rw [←bR,←he hb];exact h.2 hb
end
section
variable {P0:Except (List Ln) (De×List Ln)} {L:List Ln} {d:De} {k:Nat} {bad:Bool}
theorem Stp.th (h:Stp st1 P0 L d k bad) (hb:(zAd d.kd || decide (d.kd=1))=true):Stp st2 P0 L { d with th:=ofL ((nmO bad zBq (L.drop k)).getD []) } (nxk k (nmO bad zBq (L.drop k)).isSome) (bad || !(nmO bad zBq (L.drop k)).isSome) :=
 h.rdr (X:=zBO zBq) (tv:=ofL) (f:=fun v=>plD { d with th:=v }) (fun e=>by subst e;rw [nameX_nm];exact ⟨(fun n h=>yx),fun h=>yx⟩) (fun e=>by subst e;rfl) (by
  refine (show _=bindR (optX (zAd d.kd || decide (d.kd=1)) emp (zBO zBq) (L.drop k)) (fun v R=>st2 { plD d with th:=v } R) from rfl).trans ?_
  rw [hb];rfl) (fun n hn=>by rw [hn];rfl)
theorem Stp.fr (h:Stp st2 P0 L d k bad) (hb:(zAd d.kd || decide (d.kd=5))=true):Stp st3 P0 L { d with fr:=ofL ((nmO bad zCo (L.drop k)).getD []) } (nxk k (nmO bad zCo (L.drop k)).isSome) (bad || !(nmO bad zCo (L.drop k)).isSome) :=
 h.rdr (X:=zBO zCo) (tv:=ofL) (f:=fun v=>plD { d with fr:=v }) (fun e=>by subst e;rw [nameX_nm];exact ⟨(fun n h=>yx),fun h=>yx⟩) (fun e=>by subst e;rfl) (by
  refine (show _=bindR (optX (zAd d.kd || decide (d.kd=5)) emp (zBO zCo) (L.drop k)) (fun v R=>st3 { plD d with fr:=v } R) from rfl).trans ?_
  rw [hb];rfl) (fun n hn=>by rw [hn];rfl)
theorem Stp.to_ (h:Stp st3 P0 L d k bad) (hb:zAd d.kd=true):Stp st4 P0 L { d with to_:=ofL ((nmO bad kTo (L.drop k)).getD []) } (nxk k (nmO bad kTo (L.drop k)).isSome) (bad || !(nmO bad kTo (L.drop k)).isSome) :=
 h.rdr (X:=zBO kTo) (tv:=ofL) (f:=fun v=>plD { d with to_:=v }) (fun e=>by subst e;rw [nameX_nm];exact ⟨(fun n h=>yx),fun h=>yx⟩) (fun e=>by subst e;rfl) (by
  refine (show _=bindR (optX (zAd d.kd) emp (zBO kTo) (L.drop k)) (fun v R=>st4 { plD d with to_:=v } R) from rfl).trans ?_
  rw [hb];rfl) (fun n hn=>by rw [hn];rfl)
theorem Stp.ot (h:Stp st12 P0 L d k bad) (hb:decide (d.kd=4)=true):Stp (fun d M=>.ok (d,M)) P0 L { d with ot:=ofL ((nmO bad kEnds (L.drop k)).getD []) } (nxk k (nmO bad kEnds (L.drop k)).isSome) (bad || !(nmO bad kEnds (L.drop k)).isSome) :=
 h.rdr (X:=zBO kEnds) (tv:=ofL) (f:=fun v=>plD { d with ot:=v }) (fun e=>by subst e;rw [nameX_nm];exact ⟨(fun n h=>yx),fun h=>yx⟩) (fun e=>by subst e;rfl) (by
  refine (show _=bindR (optX (decide (d.kd=4)) emp (zBO kEnds) (L.drop k)) (fun v R=>.ok ({ plD d with ot:=v },R)) from rfl).trans ?_
  rw [hb];rfl) (fun n hn=>by rw [hn];rfl)
theorem Stp.bg (h:Stp st9 P0 L d k bad):Stp st10 P0 L { d with bg:=((nuO bad zAU (L.drop k)).getD 0:Nat) } (nxk k (nuO bad zAU (L.drop k)).isSome) (bad || !(nuO bad zAU (L.drop k)).isSome) :=
 h.rdr (X:=numX zAU) (tv:=fun n:Nat=>(n:Int)) (f:=fun v=>plD { d with bg:=v }) (fun e=>by subst e;rw [numX_nu];exact ⟨(fun n h=>yx),fun h=>yx⟩) (fun e=>by subst e;rfl) rfl (fun n hn=>by rw [hn];rfl)
theorem Stp.en (h:Stp st10 P0 L d k bad) (hb:zAd d.kd=true):Stp st11 P0 L { d with en:=((nuO bad kEnd (L.drop k)).getD 0:Nat) } (nxk k (nuO bad kEnd (L.drop k)).isSome) (bad || !(nuO bad kEnd (L.drop k)).isSome) :=
 h.rdr (X:=numX kEnd) (tv:=fun n:Nat=>(n:Int)) (f:=fun v=>plD { d with en:=v }) (fun e=>by subst e;rw [numX_nu];exact ⟨(fun n h=>yx),fun h=>yx⟩) (fun e=>by subst e;rfl) (by
  refine (show _=bindR (optX (zAd d.kd) 0 (numX kEnd) (L.drop k)) (fun v R=>st11 { plD d with en:=v } R) from rfl).trans ?_
  rw [hb];rfl) (fun n hn=>by rw [hn];rfl)
theorem Stp.pt (h:Stp st4 P0 L d k bad) (hb:decide (d.kd=2)=true) {s1 s2:BA} (hs:∀ p,paO bad (L.drop k)=some p→s1=ofL p.1∧s2=ofL p.2):Stp st5 P0 L { d with nu:=s1,de:=s2 } (nxk k (paO bad (L.drop k)).isSome) (bad || !(paO bad (L.drop k)).isSome) :=
 h.rdr (X:=partX) (tv:=fun p:Ln×Ln=>(ofL p.1,ofL p.2)) (f:=fun v=>plD { d with nu:=v.1,de:=v.2 }) (fun e=>by subst e;rw [partX_pa];exact ⟨(fun n h=>yx),fun h=>yx⟩) (fun e=>by subst e;rfl) (by
  refine (show _=bindR (optX (decide (d.kd=2)) (emp,emp) partX (L.drop k)) (fun v R=>st5 { plD d with nu:=v.1,de:=v.2 } R) from rfl).trans ?_
  rw [hb];rfl) (fun n hn=>by rw [(hs n hn).1,(hs n hn).2])
theorem Stp.ex (h:Stp st5 P0 L d k bad) (hb:decide (d.kd=3)=true):Stp st6 P0 L { d with ex:=flB bad zCw (L.drop k) } (nxk k (flB bad zCw (L.drop k))) bad:=by
 have e:nxk k (flB bad zCw (L.drop k))=k+(if flB bad zCw (L.drop k)=true then 1 else 0):=by unfold nxk;split<;>rfl
 rw [e];refine h.free (fun hb=>by subst hb;rfl) fun hb2=>?_
 subst hb2
 show st6 { plD d with ex:=(zAG (decide (d.kd=3)) false (zBD zCw) (L.drop k)).1 } (zAG (decide (d.kd=3)) false (zBD zCw) (L.drop k)).2=_
 rw [hb]
 show st6 { plD d with ex:=(zBD zCw (L.drop k)).1 } (zBD zCw (L.drop k)).2=_
 rw [flagX_fl]
 cases flB false zCw (L.drop k) with
 | true=>show st6 _ (L.drop k).tail=_;rw [zCm];simp only [if_true,bR];rfl
 | false=>rfl
theorem Stp.sb (h:Stp st6 P0 L d k bad) (hb:decide (d.kd=3)=true):Stp st7 P0 L { d with sb:=flB bad kSub (L.drop k) } (nxk k (flB bad kSub (L.drop k))) bad:=by
 have e:nxk k (flB bad kSub (L.drop k))=k+(if flB bad kSub (L.drop k)=true then 1 else 0):=by unfold nxk;split<;>rfl
 rw [e];refine h.free (fun hb=>by subst hb;rfl) fun hb2=>?_
 subst hb2
 show st7 { plD d with sb:=(zAG (decide (d.kd=3)) false (zBD kSub) (L.drop k)).1 } (zAG (decide (d.kd=3)) false (zBD kSub) (L.drop k)).2=_
 rw [hb]
 show st7 { plD d with sb:=(zBD kSub (L.drop k)).1 } (zBD kSub (L.drop k)).2=_
 rw [flagX_fl]
 cases flB false kSub (L.drop k) with
 | true=>show st7 _ (L.drop k).tail=_;rw [zCm];simp only [if_true,bR];rfl
 | false=>rfl
end
section
variable {P0:Except (List Ln) (De×List Ln)} {L:List Ln} {d:De} {k:Nat} {bad:Bool}
theorem Stp.ar (h:Stp st7 P0 L d k bad) (hb:zAd d.kd=true) (A:Option Addr) (c:Nat):Stp st8 P0 L { d with arA:=A,ar:=arsO bad (L.drop k),arc:=c } (k+(arsO bad (L.drop k)).length) bad:=by
 refine h.free (fun hb=>by subst hb;rfl) fun hb2=>?_
 subst hb2
 show st8 { plD d with ar:=(zAG (zAd d.kd) [] zAM (L.drop k)).1 } (zAG (zAd d.kd) [] zAM (L.drop k)).2=_
 rw [hb]
 show st8 { plD d with ar:=(zAM (L.drop k)).1 } (zAM (L.drop k)).2=_
 rw [areasX_rest]
 rfl
theorem Stp.us (h:Stp st8 P0 L d k bad) (hb:zAd d.kd=true) (A:Option Addr) (c:Nat):Stp st9 P0 L { d with usA:=A,us:=ussO bad (L.drop k),usc:=c } (k+(ussO bad (L.drop k)).length) bad:=by
 refine h.free (fun hb=>by subst hb;rfl) fun hb2=>?_
 subst hb2
 show st9 { plD d with us:=(zAG (zAd d.kd) [] (zAJ sp2 kFor) (L.drop k)).1 } (zAG (zAd d.kd) [] (zAJ sp2 kFor) (L.drop k)).2=_
 rw [hb]
 show st9 { plD d with us:=(zAJ sp2 kFor (L.drop k)).1 } (zAJ sp2 kFor (L.drop k)).2=_
 rw [usesX_rest]
 rfl
theorem Stp.sh (h:Stp st11 P0 L d k bad) (hb:divB d.kd=true) (A:Option Addr) (c:Nat):Stp st12 P0 L { d with shA:=A,sh:=shsO bad (L.drop k),shc:=c } (k+(shsO bad (L.drop k)).length) bad:=by
 refine h.free (fun hb=>by subst hb;rfl) fun hb2=>?_
 subst hb2
 show st12 { plD d with sh:=(zAG (divB d.kd) [] zAy (L.drop k)).1 } (zAG (divB d.kd) [] zAy (L.drop k)).2=_
 rw [hb]
 show st12 { plD d with sh:=(zAy (L.drop k)).1 } (zAy (L.drop k)).2=_
 rw [sharesX_rest]
 rfl
theorem Stp.th0 (h:Stp st1 P0 L d k bad) (hb:(zAd d.kd || decide (d.kd=1))=false) (z:d.th=emp):Stp st2 P0 L d k bad:=h.skip fun _=>by
 refine (show _=bindR (optX (zAd d.kd || decide (d.kd=1)) emp (zBO zBq) (L.drop k)) (fun v R=>st2 { plD d with th:=v } R) from rfl).trans ?_
 rw [hb]
 show st2 { plD d with th:=emp } _=_
 rw [←z];rfl
theorem Stp.fr0 (h:Stp st2 P0 L d k bad) (hb:(zAd d.kd || decide (d.kd=5))=false) (z:d.fr=emp):Stp st3 P0 L d k bad:=h.skip fun _=>by
 refine (show _=bindR (optX (zAd d.kd || decide (d.kd=5)) emp (zBO zCo) (L.drop k)) (fun v R=>st3 { plD d with fr:=v } R) from rfl).trans ?_
 rw [hb]
 show st3 { plD d with fr:=emp } _=_
 rw [←z];rfl
theorem Stp.to0 (h:Stp st3 P0 L d k bad) (hb:zAd d.kd=false) (z:d.to_=emp):Stp st4 P0 L d k bad:=h.skip fun _=>by
 refine (show _=bindR (optX (zAd d.kd) emp (zBO kTo) (L.drop k)) (fun v R=>st4 { plD d with to_:=v } R) from rfl).trans ?_
 rw [hb]
 show st4 { plD d with to_:=emp } _=_
 rw [←z];rfl
theorem Stp.pt0 (h:Stp st4 P0 L d k bad) (hb:decide (d.kd=2)=false) (z:d.nu=emp∧d.de=emp):Stp st5 P0 L d k bad:=h.skip fun _=>by
 refine (show _=bindR (optX (decide (d.kd=2)) (emp,emp) partX (L.drop k)) (fun v R=>st5 { plD d with nu:=v.1,de:=v.2 } R) from rfl).trans ?_
 rw [hb]
 show st5 { plD d with nu:=emp,de:=emp } _=_
 rw [show { plD d with nu:=emp,de:=emp } = plD d from by unfold plD;rw [z.1,z.2]]
theorem Stp.ex0 (h:Stp st5 P0 L d k bad) (hb:decide (d.kd=3)=false) (z:d.ex=false):Stp st6 P0 L d k bad:=h.skip fun _=>by
 show st6 { plD d with ex:=(zAG (decide (d.kd=3)) false (zBD zCw) (L.drop k)).1 } (zAG (decide (d.kd=3)) false (zBD zCw) (L.drop k)).2=_
 rw [hb]
 show st6 { plD d with ex:=false } (L.drop k)=_
 rw [show { plD d with ex:=false } = plD d from by unfold plD;rw [z]]
theorem Stp.sb0 (h:Stp st6 P0 L d k bad) (hb:decide (d.kd=3)=false) (z:d.sb=false):Stp st7 P0 L d k bad:=h.skip fun _=>by
 show st7 { plD d with sb:=(zAG (decide (d.kd=3)) false (zBD kSub) (L.drop k)).1 } (zAG (decide (d.kd=3)) false (zBD kSub) (L.drop k)).2=_
 rw [hb]
 show st7 { plD d with sb:=false } (L.drop k)=_
 rw [show { plD d with sb:=false } = plD d from by unfold plD;rw [z]]
theorem Stp.ar0 (h:Stp st7 P0 L d k bad) (hb:zAd d.kd=false) (z:d.ar=[]):Stp st8 P0 L d k bad:=h.skip fun _=>by
 show st8 { plD d with ar:=(zAG (zAd d.kd) [] zAM (L.drop k)).1 } (zAG (zAd d.kd) [] zAM (L.drop k)).2=_
 rw [hb]
 show st8 { plD d with ar:=[] } _=_
 rw [←z];rfl
theorem Stp.us0 (h:Stp st8 P0 L d k bad) (hb:zAd d.kd=false) (z:d.us=[]):Stp st9 P0 L d k bad:=h.skip fun _=>by
 show st9 { plD d with us:=(zAG (zAd d.kd) [] (zAJ sp2 kFor) (L.drop k)).1 } (zAG (zAd d.kd) [] (zAJ sp2 kFor) (L.drop k)).2=_
 rw [hb]
 show st9 { plD d with us:=[] } _=_
 rw [←z];rfl
theorem Stp.en0 (h:Stp st10 P0 L d k bad) (hb:zAd d.kd=false) (z:d.en=0):Stp st11 P0 L d k bad:=h.skip fun _=>by
 refine (show _=bindR (optX (zAd d.kd) 0 (numX kEnd) (L.drop k)) (fun v R=>st11 { plD d with en:=v } R) from rfl).trans ?_
 rw [hb]
 show st11 { plD d with en:=0 } _=_
 rw [←z];rfl
theorem Stp.sh0 (h:Stp st11 P0 L d k bad) (hb:divB d.kd=false) (z:d.sh=[]):Stp st12 P0 L d k bad:=h.skip fun _=>by
 show st12 { plD d with sh:=(zAG (divB d.kd) [] zAy (L.drop k)).1 } (zAG (divB d.kd) [] zAy (L.drop k)).2=_
 rw [hb]
 show st12 { plD d with sh:=[] } _=_
 rw [←z];rfl
theorem Stp.ot0 (h:Stp st12 P0 L d k bad) (hb:decide (d.kd=4)=false) (z:d.ot=emp):Stp (fun d M=>.ok (d,M)) P0 L d k bad:=h.skip fun _=>by
 refine (show _=bindR (optX (decide (d.kd=4)) emp (zBO kEnds) (L.drop k)) (fun v R=>.ok ({ plD d with ot:=v },R)) from rfl).trans ?_
 rw [hb]
 show Except.ok ({ plD d with ot:=emp },_)=_
 rw [←z];rfl
end
section
variable {w wx w':World} {r c u k k' q:Nat} {LA:Option Addr} {L:List Ln} {cs:Array Value} {T:TypeId} {d d':De} {bad bad':Bool}
theorem BdM.names (h:BdM w r LA c L u cs T wx d k bad) (hd:DeI w' (w.heap.size+1) d') (hi:RdI w' r LA c L k' bad') (hk:KeptB (w.heap.size+1) r wx w') (hr:r<w.heap.size) (hu:Bx w' u cs T):BdM w r LA c L u cs T w' d' k' bad' :=
 ⟨hd,hi,h.kp.trans ⟨hk.os,hk.tape,hk.output,hk.size,fun i hi hn=>hk.block i za hn⟩,(hk.block _ za za).trans h.rs,hu,h.uq⟩
end
abbrev fldB (k:Int):Array Value:=#[.bool (zAd k || decide (k=1)),.bool (zAd k || decide (k=5)),.bool (zAd k),.bool (decide (k=2)),.bool (decide (k=3)),.bool (zAd k),.bool (zAd k),.bool (decide (k=1) || decide (k=5)),.bool (decide (k=4))]
theorem fldC_eq {k:Int} (hk:1≤k∧k≤5):fldC k=fldB k:=by
 have h5:k=1∨k=2∨k=3∨k=4∨k=5:=za
 rcases h5 with rfl | rfl | rfl | rfl | rfl<;>rfl
theorem strs1 (W:World) (a:BA):Strs (W.alloc (.cells #[.string a] 9)) (some ⟨W.heap.size,0,none⟩) [a]:=fun _=>⟨W.heap.size,0,rfl,fun i hi=>by
 rw [bF,bM _ W.heap.size i _ _ _ (bY _ _)]
 match i,hi with
 | 0,_=>rfl⟩
theorem strs2w (W:World) (a b:BA):Strs (W.alloc (.cells #[.string a,.string b] 9)) (some ⟨W.heap.size,0,none⟩) [a,b]:=fun _=>⟨W.heap.size,0,rfl,fun i hi=>by
 rw [bF,bM _ W.heap.size i _ _ _ (bY _ _)]
 match i,hi with
 | 0,_=>rfl
 | 1,_=>rfl⟩
theorem strs3 (W:World) (a b c:BA):Strs (W.alloc (.cells #[.string a,.string b,.string c] 9)) (some ⟨W.heap.size,0,none⟩) [a,b,c]:=fun _=>⟨W.heap.size,0,rfl,fun i hi=>by
 rw [bF,bM _ W.heap.size i _ _ _ (bY _ _)]
 match i,hi with
 | 0,_=>rfl
 | 1,_=>rfl
 | 2,_=>rfl⟩
structure WdS (w:World) (B b p4:Nat) (d:De) (l:List UInt8) (W:World):Prop where
 s:NmS B b l w W
 x2:Bx W w.heap.size #[.pointer (some ⟨b,0,none⟩)] 66
 x3:Bx W (w.heap.size+1) (deC d) 47
 x4:Bx W p4 (fldB d.kd) 84
 hB:B≤w.heap.size
 hb:b<w.heap.size
 h4:w.heap.size<p4
section
variable {w W W':World} {B b p4:Nat} {d:De} {l l':List UInt8}
theorem WdS.below (h:WdS w B b p4 d l W) (hb:Below W.heap.size W W'):WdS w B b p4 d l W' :=
 ⟨h.s.below h.hB hb,h.x2.below hb,h.x3.below hb,h.x4.below hb,h.hB,h.hb,h.h4⟩
theorem WdS.line (h:WdS w B b p4 d l W) (hs:NmS B b l' W W'):WdS w B b p4 d l' W' :=
 ⟨h.s.trans hs,hs.box h.x2 (by have:=h.hb;omega) zc,hs.box h.x3 (by have:=h.hb;omega) zc,hs.box h.x4 (by have:=h.hb;have:=h.h4;omega) zc,h.hB,h.hb,h.h4⟩
def zCI (w:World) (B b p4:Nat) (d:De) (l:List UInt8) (W:World) (e:Ending) (W':World):Prop:=e = .returned (.tuple #[])∧WdS w B b p4 d l W'∧Lib.OthersKept 5 (some b) W W'
theorem kept_box (hk:Lib.OthersKept 5 (some b) W W') {g:Nat} {cs:Array Value} {T:TypeId} (hb:Bx W g cs T) (hg:g≠b) (hT:T≠5):Bx W' g cs T :=
 hk g _ hb (fun e=>hg jd) (fun _ _ e=>by injection e with _ e;exact hT e)
theorem zCI.alloc {o:Obj} {e:Ending} (h:zCI w B b p4 d l (W.alloc o) e W'):zCI w B b p4 d l W e W':=⟨h.1,h.2.1,(kept_bel (Lib.OthersKept.refl _ _ _) ((bN _ _).alloc (aB _) o)).trans h.2.2⟩
theorem WdS.call (h:WdS w B b p4 d l W) (yes:Bool) (A:Option Addr) (c:Nat) (ws:List BA) (hws:Strs W A ws) (hc:ws.length≤c) (hl:ws.length≤3) (hz:∀ s∈ws,s.size≤4100) (hll:l.length≤1000000000) :
  Calls Tryz.prog 60 #[.bool yes,.slice A ws.length c,.pointer (some ⟨w.heap.size,0,none⟩)] W (zCI w B b p4 d (l++ifL yes (lnL ws)) W) :=
 (ln_c B b w.heap.size l yes A c ws W h.s.bld (cM h.hB (bD h.x2.lt)) h.x2 hws hc hl hz hll (by have:=h.hb;omega)).mono fun _ _ ⟨he,hs⟩=>⟨he,h.line hs,hs.kept⟩
theorem WdS.call1 (h:WdS w B b p4 d l W) (yes:Bool) (s1:BA) (z1:s1.size≤4100) (hll:l.length≤1000000000) :
  Calls Tryz.prog 60 #[.bool yes,.slice (some ⟨W.heap.size,0,none⟩) 1 1,.pointer (some ⟨w.heap.size,0,none⟩)] (W.alloc (.cells #[.string s1] 9)) (zCI w B b p4 d (l++ifL yes (lnL [s1])) W) :=
 ((h.below ((bN _ _).alloc (aB _) _)).call yes (some ⟨W.heap.size,0,none⟩) 1 [s1] (strs1 W s1) zg zg (by simpa using z1) hll).mono fun _ _ h=>h.alloc
theorem WdS.call2 (h:WdS w B b p4 d l W) (yes:Bool) (s1 s2:BA) (z1:s1.size≤4100) (z2:s2.size≤4100) (hll:l.length≤1000000000) :
  Calls Tryz.prog 60 #[.bool yes,.slice (some ⟨W.heap.size,0,none⟩) 2 2,.pointer (some ⟨w.heap.size,0,none⟩)] (W.alloc (.cells #[.string s1,.string s2] 9)) (zCI w B b p4 d (l++ifL yes (lnL [s1,s2])) W) :=
 ((h.below ((bN _ _).alloc (aB _) _)).call yes (some ⟨W.heap.size,0,none⟩) 2 [s1,s2] (strs2w W s1 s2) zg zg (by
  intro s hs;simp only [List.mem_cons,dR,or_false] at hs
  rcases hs with rfl | rfl<;>assumption) hll).mono fun _ _ h=>h.alloc
theorem WdS.call3 (h:WdS w B b p4 d l W) (yes:Bool) (s1 s2 s3:BA) (z1:s1.size≤4100) (z2:s2.size≤4100) (z3:s3.size≤4100) (hll:l.length≤1000000000) :
  Calls Tryz.prog 60 #[.bool yes,.slice (some ⟨W.heap.size,0,none⟩) 3 3,.pointer (some ⟨w.heap.size,0,none⟩)] (W.alloc (.cells #[.string s1,.string s2,.string s3] 9)) (zCI w B b p4 d (l++ifL yes (lnL [s1,s2,s3])) W) :=
 ((h.below ((bN _ _).alloc (aB _) _)).call yes (some ⟨W.heap.size,0,none⟩) 3 [s1,s2,s3] (strs3 W s1 s2 s3) zg zg (by
  intro s hs;simp only [List.mem_cons,dR,or_false] at hs
  rcases hs with rfl | rfl | rfl<;>assumption) hll).mono fun _ _ h=>h.alloc
end
theorem lnL_len {ws:List BA} (hl:ws.length≤3) (hz:∀ s∈ws,s.size≤4100):(lnL ws).length≤14000:=by
 have h1:=joinB_size (xs:=ws) (sep:=spB) (m:=4100) hz;have h2:spB.size=1:=rfl;rw [h2] at h1;have h4:ws.length*(1+4100)≤3*4101:=cI hl (aB _)
 have h5:(Lib.join (ws.map (·.data.toList)) [32]).length=(joinB ws spB).size:=by
  show _=(Lib.join (ws.map (·.data.toList)) spB.data.toList).toArray.size
  simp
 unfold lnL;simp only [aM,cS,dA,h5];omega
theorem ln1_len (b:Bool) {s1:BA} (z1:s1.size≤4100):(ifL b (lnL [s1])).length≤14000:=cM (ifL_len _ _) (lnL_len zg (by simpa using z1))
theorem zBt (b:Bool) {s1 s2:BA} (z1:s1.size≤4100) (z2:s2.size≤4100):(ifL b (lnL [s1,s2])).length≤14000:=cM (ifL_len _ _) (lnL_len zg (by
  intro s hs;simp only [List.mem_cons,dR,or_false] at hs
  rcases hs with rfl | rfl<;>assumption))
theorem ln3_len (b:Bool) {s1 s2 s3:BA} (z1:s1.size≤4100) (z2:s2.size≤4100) (z3:s3.size≤4100):(ifL b (lnL [s1,s2,s3])).length≤14000:=cM (ifL_len _ _) (lnL_len zg (by
  intro s hs;simp only [List.mem_cons,dR,or_false] at hs
  rcases hs with rfl | rfl | rfl<;>assumption))
theorem rat_size {nu de:BA} (h1:nu.size≤2001) (h2:de.size≤2001):(ratB nu de).size≤4100:=by
 unfold ratB;have e1:(⟨#[47]⟩:BA).size=1:=rfl;rw [dN,dN,e1];omega
theorem itoa_sz {n:Int} (h0:0≤n) (h:n≤200000):(zBc n).size≤4100:=cM (itoaB_size h0 za) zc
theorem take_len {α:Type} (f:α→List UInt8) (m n:Nat) (l:List α) (k:Nat) (h:∀ x∈l,(f x).length≤m) (hn:l.length≤n):(zAr f (l.take k)).length≤n*m:=by
 have h1:=flatL_mono f l k;have h2:=flatL_len f m l h;have h3:l.length*m≤n*m:=cI hn (aB _);omega
def WaRel (w:World) (B b p4:Nat) (d:De) (l:List UInt8) (m:Nat) (i:Value) (wr:World):Prop :=
 ∃ k:Nat,k+m=d.ar.length∧i = .int .i64 (k:Nat)∧WdS w B b p4 d (l++zAr arL (d.ar.take k)) wr
def WuRel (w:World) (B b p4:Nat) (d:De) (l:List UInt8) (m:Nat) (i:Value) (wr:World):Prop :=
 ∃ k:Nat,k+m=d.us.length∧i = .int .i64 (k:Nat)∧WdS w B b p4 d (l++zAr usL (d.us.take k)) wr
def WsRel (w:World) (B b p4:Nat) (d:De) (l:List UInt8) (m:Nat) (i:Value) (wr:World):Prop :=
 ∃ k:Nat,k+m=d.sh.length∧i = .int .i64 (k:Nat)∧WdS w B b p4 d (l++zAr shL (d.sh.take k)) wr
theorem head_cats (id iy kd:BA) (h1:id.size≤40) (h2:iy.size≤16) (h3:kd.size≤10) :
  (∀ W,(Op.stringOp .add ⟨#[100,101,101,100,32]⟩ id).run Tryz.prog W = .ok (.string (⟨#[100,101,101,100,32]⟩++id)) W) ∧
  (∀ W,(Op.stringOp .add (⟨#[100,101,101,100,32]⟩++id) ⟨#[32]⟩).run Tryz.prog W = .ok (.string ((⟨#[100,101,101,100,32]⟩++id)++⟨#[32]⟩)) W) ∧
  (∀ W,(Op.stringOp .add ((⟨#[100,101,101,100,32]⟩++id)++⟨#[32]⟩) iy).run Tryz.prog W = .ok (.string (((⟨#[100,101,101,100,32]⟩++id)++⟨#[32]⟩)++iy)) W) ∧
  (∀ W,(Op.stringOp .add (((⟨#[100,101,101,100,32]⟩++id)++⟨#[32]⟩)++iy) ⟨#[32]⟩).run Tryz.prog W = .ok (.string ((((⟨#[100,101,101,100,32]⟩++id)++⟨#[32]⟩)++iy)++⟨#[32]⟩)) W) ∧
  (∀ W,(Op.stringOp .add ((((⟨#[100,101,101,100,32]⟩++id)++⟨#[32]⟩)++iy)++⟨#[32]⟩) kd).run Tryz.prog W = .ok (.string (((((⟨#[100,101,101,100,32]⟩++id)++⟨#[32]⟩)++iy)++⟨#[32]⟩)++kd)) W) ∧
  (∀ W,(Op.stringOp .add (((((⟨#[100,101,101,100,32]⟩++id)++⟨#[32]⟩)++iy)++⟨#[32]⟩)++kd) ⟨#[10]⟩).run Tryz.prog W = .ok (.string ((((((⟨#[100,101,101,100,32]⟩++id)++⟨#[32]⟩)++iy)++⟨#[32]⟩)++kd)++⟨#[10]⟩)) W) ∧
  ((((((⟨#[100,101,101,100,32]⟩++id)++⟨#[32]⟩)++iy)++⟨#[32]⟩)++kd)++⟨#[10]⟩:BA).size≤100:=by
 have e1:(⟨#[100,101,101,100,32]⟩:BA).size=5:=rfl;have e2:(⟨#[32]⟩:BA).size=1:=rfl;have e3:(⟨#[10]⟩:BA).size=1:=rfl;refine ⟨zBy _ _ ?_,zBy _ _ ?_,zBy _ _ ?_,zBy _ _ ?_,zBy _ _ ?_,zBy _ _ ?_,?_⟩<;>(simp only [dN,e1,e2,e3];omega)
theorem kdS_size (k:Int):(kdS k).size≤10:=by
 unfold kdS
 split
 ·decide
 split
 ·decide
 split
 ·decide
 split
 ·decide
 ·decide
def GivesWr2 (w:World) (B b p4:Nat) (d:De) (l:List UInt8) (n:Nat) (e:Ending) (W':World):Prop:=e = .returned (.tuple #[.int .i64 (n:Int),.nilIface])∧WdS w B b p4 d l W'
theorem WdS.write {w W:World} {B b p4:Nat} {d:De} {l:List UInt8} (h:WdS w B b p4 d l W) (s:BA) (hs:s.size≤1000000) (hl:l.length≤1000000000) :
  Calls Tryz.prog 22 #[.pointer (some ⟨b,0,none⟩),.string s] W (GivesWr2 w B b p4 d (l++s.data.toList) s.size) :=
 (writeS_c B b l s W W ⟨h.s.bld,bN _ _,Lib.OthersKept.refl _ _ _⟩ za (cM h.hB (bD h.x2.lt))).mono fun _ _ ⟨he,hk⟩=>⟨he,h.line hk⟩
theorem headL_len {d:De} (hz:DSz d):(headL d).length≤100:=by
 have h1:=itoaB_size hz.day.1 (by have:=hz.day.2;omega)
 have h2:=kdS_size d.kd;have h3:=hz.id
 have e:(headL d).length=5+d.id.size+1+(zBc d.day).size+1+(kdS d.kd).size+1:=by
  unfold headL;simp only [cS,aM,dA,←Lib.size_eq]
 omega
theorem head_eq (d:De) {iy kd:BA} (h1:iy=zBc d.day) (h2:kd=kdS d.kd):((((((⟨#[100,101,101,100,32]⟩++d.id)++⟨#[32]⟩)++iy)++⟨#[32]⟩)++kd)++⟨#[10]⟩:BA).data.toList=headL d:=by
 unfold headL;rw [h1,h2];simp only [zDj]
theorem writeDeed_c (w0:World) (B b:Nat) (l:List UInt8) (d:De) (w:World) (hd:DeOk w0 d) (hz:DSz d) (hP:POK w0) (h0:Below w0.heap.size w0 w) (hB0:w0.heap.size≤B) (hb:Bld B b l w) (hBw:B≤w.heap.size) (hbw:b<w.heap.size) (hl:l.length≤600000) :
  Calls Tryz.prog 23 #[.pointer (some ⟨b,0,none⟩),deV d] w (GivesLn B b (l++zBN d) w):=by
 have HD:=zq hd;have HZ:=zq hz;have HPK:=zq hP;have H0:=zq h0;obtain ⟨W2,hW2⟩:∃ W,W=(w.alloc (.cells #[.pointer (some ⟨b,0,none⟩)] 66)).alloc (.cells (deC d) 47):=⟨_,rfl⟩
 have HB2:Hid (Below w.heap.size w W2):=by
  show Below _ _ _
  rw [hW2];exact ((bN _ _).alloc (aB _) _).alloc zg _
 have HX2:Hid (Bx W2 w.heap.size #[.pointer (some ⟨b,0,none⟩)] 66):=by
  show Bx _ _ _ _
  rw [hW2];exact (Bx.new _ _ _).alloc _
 have HX3:Hid (Bx W2 (w.heap.size+1) (deC d) 47):=by
  show Bx _ _ _ _
  rw [hW2];exact Bx.new1 _ _ _ _
 have HBL:=zq (hb.below HB2.o);have HFL:=zq (fun W=>zBQ d.kd W hz.kd)
 rw [fldC_eq hz.kd] at HFL;have x2:=HX3.o.c 2 rfl;have xl:=HX3.o.lt;clear hd hP h0 hb
 go_enter Tryz.func23,Tryz.ntmps23
 go_upto_region 1 with fail
 rw [←hW2];clear hW2
 go_wp2_with fail
 with_reducible refine (HFL.o _).mono ?_
 rintro e w3 ⟨rfl,hb3⟩;have hws:w.heap.size<w3.heap.size:=cP HX2.o.lt hb3.size;have hba:Below w3.heap.size w3 (w3.alloc (.cells (fldB d.kd) 84)):=(bN _ _).alloc (aB _) _
 have HS0:Hid (WdS w B b w3.heap.size d l (w3.alloc (.cells (fldB d.kd) 84))) :=
  have hbb:=zAb (zAb HB2.o hb3) hba
  ⟨⟨((HBL.o.below hb3).below hba),hbb.mono hBw,kept_bel (Lib.OthersKept.refl _ _ _) hbb⟩,(HX2.o.below hb3).below hba,(HX3.o.below hb3).below hba,Bx.new _ _ _,hBw,hbw,hws⟩
 obtain ⟨p4,hp4⟩:∃ p,p=w3.heap.size:=⟨_,rfl⟩;obtain ⟨W4,hW4⟩:∃ W,W=w3.alloc (.cells (fldB d.kd) 84):=⟨_,rfl⟩;rw [←hW4,←hp4] at HS0;clear hb3 hba x2 xl HB2 HX2 HX3 HBL HFL;go_upto_region 3 with fail
 rw [←hW4,←hp4];clear hW4 hp4 hws
 go_cut [] (fun wx=>WdS w B b p4 d (l++headL d) wx)
 case first =>
  obtain ⟨iy,hiy⟩:∃ iy,iy=zBc d.day:=⟨_,rfl⟩;obtain ⟨kd,hkd⟩:∃ kd,kd=kdS d.kd:=⟨_,rfl⟩;have hiz:iy.size≤16:=by rw [hiy];exact itoaB_size hz.day.1 (by have:=hz.day.2;omega)
  have hkz:kd.size≤10:=by rw [hkd];exact kdS_size _
  obtain ⟨c1,c2,c3,c4,c5,c6,cz⟩:=head_cats d.id iy kd hz.id hiz hkz;have HE:=zq (head_eq d hiy hkd);have HBW:Hid (Below w0.heap.size w0 W4):=H0.o.trans (HS0.o.s.bel.mono hB0)
  have HI:Hid (∀ W',BelH W4 W'→Calls Tryz.prog 62 #[.int .i64 d.day] W' (GivesH W4 (.string iy))):=fun W' hW =>
   (itoa_c d.day W' (by have:=hz.day.1;omega) (by have:=hz.day.2;omega) (HPK.o.below (zAb HBW.o hW.out))).mono fun _ _ h=>by rw [hiy];exact zAe.toH hW h
  have HWD:Hid (∀ W',Calls Tryz.prog 30 #[.int .i64 d.kd] W' (zBb (.string kd) W')):=fun W'=>by rw [hkd];exact word_c d.kd W' HZ.o.kd
  generalize hln:((((((⟨#[100,101,101,100,32]⟩++d.id)++⟨#[32]⟩)++iy)++⟨#[32]⟩)++kd)++⟨#[10]⟩:BA)=ln at *
  have HWR:Hid (∀ W',BelH W4 W'→Calls Tryz.prog 22 #[.pointer (some ⟨b,0,none⟩),.string ln] W' (GivesWr2 w B b p4 d (l++headL d) ln.size)):=fun W' hW=>by
   have h:=(HS0.o.below hW.out).write ln za za;rw [HE.o] at h;exact h
  have HBC:Hid (∀ W',BelH W4 W'→W'.cell? ⟨w.heap.size,0,none⟩=some (.pointer (some ⟨b,0,none⟩))∧W'.cell? ⟨w.heap.size+1,0,none⟩=some (.string d.id)∧W'.cell? ⟨w.heap.size+1,1,none⟩=some (.int .i64 d.day)∧W'.cell? ⟨w.heap.size+1,2,none⟩=some (.int .i64 d.kd)):=fun W' hW =>
   ⟨(HS0.o.below hW.out).x2.c 0 rfl,(HS0.o.below hW.out).x3.c 0 rfl,(HS0.o.below hW.out).x3.c 1 rfl,(HS0.o.below hW.out).x3.c 2 rfl⟩
  have HBX:Hid (∀ l W',WdS w B b p4 d l W'→W'.cell? ⟨w.heap.size,0,none⟩=some (.pointer (some ⟨b,0,none⟩))∧W'.cell? ⟨w.heap.size+1,0,none⟩=some (.string d.id)∧W'.cell? ⟨w.heap.size+1,1,none⟩=some (.int .i64 d.day)∧W'.cell? ⟨w.heap.size+1,2,none⟩=some (.int .i64 d.kd)):=fun l W' h =>
   ⟨h.x2.c 0 rfl,h.x3.c 0 rfl,h.x3.c 1 rfl,h.x3.c 2 rfl⟩
  have H1:BelH W4 W4.drew:=zAc (bN _ _) 1;obtain ⟨y0,y1,y2,y3⟩:=HBC.o _ H1;clear hln hiy hkd hiz hkz cz HS0
  go_region_held3 (fun w'=>(w'.cell? ⟨w.heap.size,0,none⟩=some (.pointer (some ⟨b,0,none⟩))∧w'.cell? ⟨w.heap.size+1,0,none⟩=some (.string d.id))∧w'.cell? ⟨w.heap.size+1,1,none⟩=some (.int .i64 d.day)∧w'.cell? ⟨w.heap.size+1,2,none⟩=some (.int .i64 d.kd)) (go_keep)
   (first
    | ((go_at_call 30;(with_reducible refine (HWD.o _).mono ?_);rintro e w5 ⟨rfl,rfl⟩))
    | ((go_at_call 22;(with_reducible refine (HWR.o _ zi).mono ?_);rintro e w6 ⟨rfl,hs6⟩;have HS6:=zq hs6;obtain ⟨z0,z1,z2,z3⟩:=HBX.o _ _ hs6;clear hs6))
    | ((go_at_call 62;(with_reducible refine (HI.o _ zi).mono ?_);rintro e w5 ⟨rfl,H5⟩;obtain ⟨z0,z1,z2,z3⟩:=HBC.o _ H5)))
  all_goals
   go_wp2_with fail
   go_meet;exact HS6.o
 case rest =>
  have HS1:=zq hcut;clear hcut HS0
  have HL1:Hid ((l++headL d).length≤600000+1*2000000):=by
   show _≤_
   rw [cS];have:=headL_len hz;omega
  obtain ⟨l1,hl1⟩:∃ q,q=l++headL d:=⟨_,rfl⟩;rw [←hl1] at HS1 HL1;have HQ1:=zq hl1;clear hl1;have zt:=hz.th;have zf:=hz.fr;have zo:=hz.to_;have zn:=hz.nu;have zd:=hz.de;have zot:=hz.ot;have zal:=hz.arl;have zul:=hz.usl;have zsl:=hz.shl;go_upto_region 4 with fail
  have xa:=HS1.o.x4.c 0 rfl;have xb:=HS1.o.x3.c 3 rfl;have x3l:=HS1.o.x3.lt;have x4l:=HS1.o.x4.lt
  go_wp2_with fail
  with_reducible refine (HS1.o.call2 (zAd d.kd || decide (d.kd=1)) wThing d.th zc za (by have:=HL1.o;omega)).mono ?_
  rintro e w2 ⟨rfl,hs,hk⟩;have HS2:=zq hs
  have HL2:Hid ((l1++ifL (zAd d.kd || decide (d.kd=1)) (lnL [wThing,d.th])).length≤600000+2*2000000):=by
   show _≤_
   rw [cS];have:=HL1.o;have:=zBt (zAd d.kd || decide (d.kd=1)) (show (wThing).size≤4100 from by decide) (show (d.th).size≤4100 from by omega)
   omega
  clear hs hk HS1 xa xb x3l x4l;obtain ⟨l2,hl2⟩:∃ q,q=l1++ifL (zAd d.kd || decide (d.kd=1)) (lnL [wThing,d.th]):=⟨_,rfl⟩
  rw [←hl2] at HS2 HL2;have HQ2:=zq hl2;clear hl2;go_upto_region 5 with fail
  have xa:=HS2.o.x4.c 1 rfl;have xb:=HS2.o.x3.c 4 rfl;have x3l:=HS2.o.x3.lt;have x4l:=HS2.o.x4.lt
  go_wp2_with fail
  with_reducible refine (HS2.o.call2 (zAd d.kd || decide (d.kd=5)) wFrom d.fr zc za (by have:=HL2.o;omega)).mono ?_
  rintro e w3 ⟨rfl,hs,hk⟩;have HS3:=zq hs
  have HL3:Hid ((l2++ifL (zAd d.kd || decide (d.kd=5)) (lnL [wFrom,d.fr])).length≤600000+3*2000000):=by
   show _≤_
   rw [cS];have:=HL2.o;have:=zBt (zAd d.kd || decide (d.kd=5)) (show (wFrom).size≤4100 from by decide) (show (d.fr).size≤4100 from by omega)
   omega
  clear hs hk HS2 xa xb x3l x4l;obtain ⟨l3,hl3⟩:∃ q,q=l2++ifL (zAd d.kd || decide (d.kd=5)) (lnL [wFrom,d.fr]):=⟨_,rfl⟩
  rw [←hl3] at HS3 HL3;have HQ3:=zq hl3;clear hl3;go_upto_region 6 with fail
  have xa:_=some (Value.bool (zAd d.kd)):=HS3.o.x4.c 2 rfl;have xb:=HS3.o.x3.c 5 rfl;have x3l:=HS3.o.x3.lt;have x4l:=HS3.o.x4.lt
  go_wp2_with fail
  with_reducible refine (HS3.o.call2 (zAd d.kd) wTo d.to_ zc za (by have:=HL3.o;omega)).mono ?_
  rintro e w4 ⟨rfl,hs,hk⟩;have HS4:=zq hs
  have HL4:Hid ((l3++ifL (zAd d.kd) (lnL [wTo,d.to_])).length≤600000+4*2000000):=by
   show _≤_
   rw [cS];have:=HL3.o;have:=zBt (zAd d.kd) (show (wTo).size≤4100 from by decide) (show (d.to_).size≤4100 from by omega)
   omega
  clear hs hk HS3 xa xb x3l x4l;obtain ⟨l4,hl4⟩:∃ q,q=l3++ifL (zAd d.kd) (lnL [wTo,d.to_]):=⟨_,rfl⟩;rw [←hl4] at HS4 HL4;have HQ4:=zq hl4;clear hl4;have ce1:(⟨#[47]⟩:BA).size=1:=rfl;have ca1:=zBy d.nu ⟨#[47]⟩ (by rw [ce1];omega)
  have ca2:=zBy (d.nu++⟨#[47]⟩) d.de (by rw [dN,ce1];omega)
  have zr:=rat_size hz.nu hz.de;go_upto_region 7 with fail
  have xa:=HS4.o.x4.c 3 rfl;have xb:=HS4.o.x3.c 6 rfl;have xc:=HS4.o.x3.c 7 rfl;have x3l:=HS4.o.x3.lt;have x4l:=HS4.o.x4.lt
  go_wp2_with fail
  with_reducible refine (HS4.o.call2 (decide (d.kd=2)) wPart (ratB d.nu d.de) zc (zr) (by have:=HL4.o;omega)).mono ?_
  rintro e w5 ⟨rfl,hs,hk⟩;have HS5:=zq hs
  have HL5:Hid ((l4++ifL (decide (d.kd=2)) (lnL [wPart,ratB d.nu d.de])).length≤600000+5*2000000):=by
   show _≤_
   rw [cS];have:=HL4.o;have:=zBt (decide (d.kd=2)) (show (wPart).size≤4100 from by decide) (show (ratB d.nu d.de).size≤4100 from zr)
   omega
  clear hs hk HS4 xa xb xc x3l x4l;obtain ⟨l5,hl5⟩:∃ q,q=l4++ifL (decide (d.kd=2)) (lnL [wPart,ratB d.nu d.de]):=⟨_,rfl⟩;rw [←hl5] at HS5 HL5;have HQ5:=zq hl5;clear hl5;clear ca1 ca2 ce1;go_upto_region 8 with fail
  have xb:_=some (Value.bool d.ex):=HS5.o.x3.c 8 rfl;have x3l:=HS5.o.x3.lt
  go_wp2_with fail
  with_reducible refine (HS5.o.call1 d.ex wExcl zc (by have:=HL5.o;omega)).mono ?_
  rintro e w6 ⟨rfl,hs,hk⟩;have HS6:=zq hs
  have HL6:Hid ((l5++ifL d.ex (lnL [wExcl])).length≤600000+6*2000000):=by
   show _≤_
   rw [cS];have:=HL5.o;have:=ln1_len d.ex (show (wExcl).size≤4100 from by decide)
   omega
  clear hs hk HS5 xb x3l;obtain ⟨l6,hl6⟩:∃ q,q=l5++ifL d.ex (lnL [wExcl]):=⟨_,rfl⟩;rw [←hl6] at HS6 HL6;have HQ6:=zq hl6;clear hl6;go_upto_region 9 with fail
  have xb:_=some (Value.bool d.sb):=HS6.o.x3.c 9 rfl;have x3l:=HS6.o.x3.lt
  go_wp2_with fail
  with_reducible refine (HS6.o.call1 d.sb wSub zc (by have:=HL6.o;omega)).mono ?_
  rintro e w7 ⟨rfl,hs,hk⟩;have HS7:=zq hs
  have HL7:Hid ((l6++ifL d.sb (lnL [wSub])).length≤600000+7*2000000):=by
   show _≤_
   rw [cS];have:=HL6.o;have:=ln1_len d.sb (show (wSub).size≤4100 from by decide)
   omega
  clear hs hk HS6 xb x3l;obtain ⟨l7,hl7⟩:∃ q,q=l6++ifL d.sb (lnL [wSub]):=⟨_,rfl⟩;rw [←hl7] at HS7 HL7;have HQ7:=zq hl7;clear hl7;go_upto_region 10 with fail
  have xb:=HS7.o.x3.c 10 rfl;have xbl:=HS7.o.x3.lt;go_wp2;clear xb xbl
  go_loopg [79] d.ar.length (WaRel w B b p4 d l7)
  case atStart=>exact ⟨0,za,rfl,by simpa [zAr] using HS7.o⟩
  clear HS7
  case round =>
   obtain ⟨k,hkm,rfl,hs⟩:=hrel;have HKM:=zq hkm;have HS:=zq hs;have hkl:k≤d.ar.length:=za;have HBW:Hid (Below w0.heap.size w0 wr):=H0.o.trans (HS.o.s.bel.mono hB0)
   have HLK:Hid ((l7++zAr arL (d.ar.take k)).length≤600000+7*2000000+100*14000):=by
    show _≤_
    rw [cS];have h1:=HL7.o;have h2:=take_len arL 14000 100 d.ar k (fun a ha=>zBt true (s1:=if a.out=true then wOut else wIn) (s2:=a.rg) (by split<;>decide) (by have:=hz.ar a ha;omega)) hz.arl
    omega
   clear hkm hs
   by_cases hlt:k<d.ar.length
   ·obtain ⟨b1,o1,hA,hb0,hcc⟩:=(HD.o.ars.below HBW.o).at_ za
    have hq:=hcc k hlt;have HT:Hid (zAr arL (d.ar.take (k+1))=zAr arL (d.ar.take k)++arL d.ar[k]):=zCx arL d.ar hlt;have hm:=hz.ar _ (aI hlt);rw [hA];have HA:=zq hA;generalize d.ar[k]=a at *;obtain ⟨lk,hlk⟩:∃ q,q=l7++zAr arL (d.ar.take k):=⟨_,rfl⟩;rw [←hlk] at HS HLK;have HLE:Hid (l7++zAr arL (d.ar.take (k+1))=lk++arL a):=qy;clear hcc hA HT hlk;obtain ⟨q0,q1⟩:=hq;obtain ⟨W1,hW1⟩:∃ W,W=wr.alloc (.cells #[.string a.rg,.bool a.out] 65):=⟨_,rfl⟩;have hb1:Below wr.heap.size wr W1:=yp;have HXR:Hid (Bx W1 wr.heap.size #[.string a.rg,.bool a.out] 65):=qk;have HS1:=zq (HS.o.below hb1);have hgb:wr.heap.size≠b:=by have:=HS.o.hb;have:=HS.o.s.bel.size;have:=HS.o.x2.lt;omega
    clear hb1;go_upto_region 13 with fail
    rw [←hW1];clear hW1 q0 q1 hb0;have p0:=HXR.o.c 0 rfl;have p1:_=some (Value.bool a.out):=HXR.o.c 1 rfl;have ps:=HXR.o.lt
    go_wp2_with fail
    with_reducible refine (HS1.o.call2 (!a.out) wIn a.rg zc za (by have:=HLK.o;omega)).mono ?_
    rintro e w5 ⟨rfl,hs5,hk5⟩;have HS5:=zq hs5;have HX5:=zq (kept_box hk5 HXR.o hgb zc);clear hs5 hk5 p0 p1 ps HXR HS1;have p0:=HX5.o.c 0 rfl;have p1:_=some (Value.bool a.out):=HX5.o.c 1 rfl;have ps:=HX5.o.lt
    have hll:(lk++ifL (!a.out) (lnL [wIn,a.rg])).length≤1000000000:=by
     rw [cS];have:=HLK.o;have:=zBt (!a.out) (s1:=wIn) (s2:=a.rg) zc za;omega
    go_wp2_with fail
    with_reducible refine (HS5.o.call2 a.out wOut a.rg zc za hll).mono ?_
    rintro e w6 ⟨rfl,hs6,hk6⟩;rw [bT,arL_two] at hs6;have HSE:=zq hs6;clear hs6 hk6 p0 p1 ps HX5 HS5 hll;go_wp2;rw [←HA.o]
    go_roundg (gk - 1)
    case measure=>have:=HKM.o;omega
    case rel=>exact ⟨k+1,qm,zx,by rw [HLE.o];exact HSE.o⟩
   ·have hke:d.ar.length≤k:=by omega
    rw [zCi arL d.ar hke] at HS HLK;obtain ⟨l8,hl8⟩:∃ q,q=l7++zAr arL d.ar:=⟨_,rfl⟩;rw [←hl8] at HS HLK;have HS8:=zq HS.o;have HL8:Hid (l8.length≤600000+8*2000000):=by show _≤_;have:=HLK.o;omega
    have HQ8:=zq hl8;clear hl8 HS HLK HKM HBW;go_upto_region 16 with fail
    have xb:=HS8.o.x3.c 11 rfl;have xbl:=HS8.o.x3.lt;go_wp2;clear xb xbl
    go_loopg [102] d.us.length (WuRel w B b p4 d l8)
    case atStart=>exact ⟨0,za,rfl,by simpa [zAr] using HS8.o⟩
    clear HS8
    case round =>
     obtain ⟨k,hkm,rfl,hs⟩:=hrel;have HKM:=zq hkm;have HS:=zq hs;have hkl:k≤d.us.length:=za;have HBW:Hid (Below w0.heap.size w0 wr):=H0.o.trans (HS.o.s.bel.mono hB0)
     have HLK:Hid ((l8++zAr usL (d.us.take k)).length≤600000+8*2000000+20*14000):=by
      show _≤_
      rw [cS];have h1:=HL8.o;have h2:=take_len usL 14000 20 d.us k (fun a ha=>zBt true (s1:=wFor) (s2:=a) zc (by have:=hz.us a ha;omega)) hz.usl
      omega
     clear hkm hs
     by_cases hlt:k<d.us.length
     ·obtain ⟨b1,o1,hA,hb0,hcc⟩:=(HD.o.uses.below HBW.o).at_ za
      have hq:=hcc k hlt;have HT:Hid (zAr usL (d.us.take (k+1))=zAr usL (d.us.take k)++usL d.us[k]):=zCx usL d.us hlt;have hm:=hz.us _ (aI hlt);rw [hA];have HA:=zq hA;generalize d.us[k]=a at *;obtain ⟨lk,hlk⟩:∃ q,q=l8++zAr usL (d.us.take k):=⟨_,rfl⟩;rw [←hlk] at HS HLK;have HLE:Hid (l8++zAr usL (d.us.take (k+1))=lk++usL a):=qy;clear hcc hA HT hlk
      go_wp2_with fail
      with_reducible refine (HS.o.call2 true wFor a zc za (by have:=HLK.o;omega)).mono ?_
      rintro e w6 ⟨rfl,hs6,hk6⟩;have HSE:=zq hs6;clear hs6 hk6 hq hb0;go_wp2;rw [←HA.o]
      go_roundg (gk - 1)
      case measure=>have:=HKM.o;omega
      case rel=>exact ⟨k+1,qm,zx,by rw [HLE.o];exact HSE.o⟩
     ·have hke:d.us.length≤k:=by omega
      rw [zCi usL d.us hke] at HS HLK;obtain ⟨l9,hl9⟩:∃ q,q=l8++zAr usL d.us:=⟨_,rfl⟩;rw [←hl9] at HS HLK;have HS9:=zq HS.o;have HL9:Hid (l9.length≤600000+9*2000000):=by show _≤_;have:=HLK.o;omega
      have HQ9:=zq hl9;clear hl9 HS HLK HKM HBW;go_upto_region 21 with fail
      have xb:=HS9.o.x3.c 12 rfl;have x3l:=HS9.o.x3.lt
      go_wp2_with fail
      with_reducible refine (itoa_c d.bg _ (by have:=hz.bg.1;omega) (by have:=hz.bg.2;omega) (HPK.o.below (H0.o.trans (HS9.o.s.bel.mono hB0)))).mono ?_
      rintro e wi ⟨rfl,hbi⟩;have HS9b:=zq (HS9.o.below hbi);clear hbi
      go_wp2_with fail
      with_reducible refine (HS9b.o.call2 true wBegin (zBc d.bg) zc (itoa_sz hz.bg.1 hz.bg.2) (by have:=HL9.o;omega)).mono ?_
      rintro e w10 ⟨rfl,hs,hk⟩;have HS10:=zq hs
      have HL10:Hid ((l9++ifL true (lnL [wBegin,zBc d.bg])).length≤600000+10*2000000):=by
       show _≤_
       rw [cS];have:=HL9.o;have:=zBt true (show (wBegin).size≤4100 from by decide) (show (zBc d.bg).size≤4100 from itoa_sz hz.bg.1 hz.bg.2)
       omega
      clear hs hk HS9 xb x3l HS9b;obtain ⟨l10,hl10⟩:∃ q,q=l9++ifL true (lnL [wBegin,zBc d.bg]):=⟨_,rfl⟩;rw [←hl10] at HS10 HL10;have HQ10:=zq hl10;clear hl10;go_upto_region 22 with fail
      go_cut [] (fun wx=>WdS w B b p4 d (l10++ifL (zAd d.kd) (lnL [wEnd,zBc d.en])) wx)
      case first =>
       obtain ⟨it,hit⟩:∃ it,it=zBc d.en:=⟨_,rfl⟩;have hiz:it.size≤4100:=by rw [hit];exact itoa_sz hz.en.1 hz.en.2
       have HBW:Hid (Below w0.heap.size w0 w10):=H0.o.trans (HS10.o.s.bel.mono hB0)
       have HI:Hid (∀ W',BelH w10 W'→Calls Tryz.prog 62 #[.int .i64 d.en] W' (GivesH w10 (.string it))):=fun W' hW =>
        (itoa_c d.en W' (by have:=hz.en.1;omega) (by have:=hz.en.2;omega) (HPK.o.below (zAb HBW.o hW.out))).mono fun _ _ h=>by rw [hit];exact zAe.toH hW h
       have HLN:Hid (∀ W',BelH w10 W'→Calls Tryz.prog 60 #[.bool (zAd d.kd),.slice (some ⟨W'.heap.size,0,none⟩) 2 2,.pointer (some ⟨w.heap.size,0,none⟩)] (W'.alloc (.cells #[.string wEnd,.string it] 9)) (zCI w B b p4 d (l10++ifL (zAd d.kd) (lnL [wEnd,it])) W')):=fun W' hW =>
        (HS10.o.below hW.out).call2 (zAd d.kd) wEnd it zc hiz (by have:=HL10.o;omega)
       have HBX:Hid (∀ l W',WdS w B b p4 d l W'→W'.cell? ⟨p4,6,none⟩=some (.bool (zAd d.kd))∧W'.cell? ⟨w.heap.size+1,13,none⟩=some (.int .i64 d.en)):=fun l W' h =>
        ⟨h.x4.c 6 rfl,h.x3.c 13 rfl⟩
       have HBC:Hid (∀ W',BelH w10 W'→W'.cell? ⟨p4,6,none⟩=some (.bool (zAd d.kd))∧W'.cell? ⟨w.heap.size+1,13,none⟩=some (.int .i64 d.en)):=fun W' hW=>HBX.o _ _ (HS10.o.below hW.out)
       have H1:BelH w10 w10.drew:=zAc (bN _ _) 1;obtain ⟨y0,y1⟩:=HBC.o _ H1;have yl:=HS10.o.x4.lt;have ym:=HS10.o.x3.lt;have HIT:=zq hit;clear hit hiz HS10
       go_region_held3 (fun w'=>w'.cell? ⟨p4,6,none⟩=some (.bool (zAd d.kd))∧w'.cell? ⟨w.heap.size+1,13,none⟩=some (.int .i64 d.en)) (go_keep)
        (first
         | ((go_at_call 62;(with_reducible refine (HI.o _ zi).mono ?_);rintro e w5 ⟨rfl,H5⟩;obtain ⟨z0,z1⟩:=HBC.o _ H5;have zl5:=cP yl H5.o.size;have zm5:=cP ym H5.o.size))
         | ((go_at_call 60;(with_reducible refine (HLN.o _ zi).mono ?_);rintro e w6 ⟨rfl,hs6,hk6⟩;have HS6:=zq hs6;obtain ⟨z0,z1⟩:=HBX.o _ _ hs6;clear hs6 hk6)))
       all_goals
        go_wp2_with fail
        go_meet;rw [←HIT.o];exact HS6.o
      case rest =>
       have HS11:=zq hcut;clear hcut HS10
       have HL11:Hid ((l10++ifL (zAd d.kd) (lnL [wEnd,zBc d.en])).length≤600000+11*2000000):=by
        show _≤_
        rw [cS];have:=HL10.o;have:=zBt (zAd d.kd) (s1:=wEnd) (s2:=zBc d.en) zc (itoa_sz hz.en.1 hz.en.2);omega
       obtain ⟨l11,hl11⟩:∃ q,q=l10++ifL (zAd d.kd) (lnL [wEnd,zBc d.en]):=⟨_,rfl⟩;rw [←hl11] at HS11 HL11;have HQ11:=zq hl11;clear hl11;go_upto_region 23 with fail
       have xb:=HS11.o.x3.c 14 rfl;have xbl:=HS11.o.x3.lt;go_wp2;clear xb xbl
       go_loopg [128] d.sh.length (WsRel w B b p4 d l11)
       case atStart=>exact ⟨0,za,rfl,by simpa [zAr] using HS11.o⟩
       clear HS11
       case round =>
        obtain ⟨k,hkm,rfl,hs⟩:=hrel;have HKM:=zq hkm;have HS:=zq hs;have hkl:k≤d.sh.length:=za;have HBW:Hid (Below w0.heap.size w0 wr):=H0.o.trans (HS.o.s.bel.mono hB0)
        have HLK:Hid ((l11++zAr shL (d.sh.take k)).length≤600000+11*2000000+20*14000):=by
         show _≤_
         rw [cS];have h1:=HL11.o;have h2:=take_len shL 14000 20 d.sh k (fun a ha=>ln3_len true (s1:=wShare) (s2:=a.pt) (s3:=ratB a.nu a.de) zc (by have:=(hz.sh a ha).1;omega) (rat_size (hz.sh a ha).2.1 (hz.sh a ha).2.2)) hz.shl
         omega
        clear hkm hs
        by_cases hlt:k<d.sh.length
        ·obtain ⟨b1,o1,hA,hb0,hcc⟩:=(HD.o.shs.below HBW.o).at_ za
         have hq:=hcc k hlt;have HT:Hid (zAr shL (d.sh.take (k+1))=zAr shL (d.sh.take k)++shL d.sh[k]):=zCx shL d.sh hlt;have hm:=hz.sh _ (aI hlt);rw [hA];have HA:=zq hA;generalize d.sh[k]=a at *;obtain ⟨lk,hlk⟩:∃ q,q=l11++zAr shL (d.sh.take k):=⟨_,rfl⟩;rw [←hlk] at HS HLK;have HLE:Hid (l11++zAr shL (d.sh.take (k+1))=lk++shL a):=qy;clear hcc hA HT hlk;obtain ⟨q0,q1,q2⟩:=hq;obtain ⟨m0,m1,m2⟩:=hm;obtain ⟨W1,hW1⟩:∃ W,W=wr.alloc (.cells #[.string a.pt,.string a.nu,.string a.de] 110):=⟨_,rfl⟩;have hb1:Below wr.heap.size wr W1:=yp;have HXR:Hid (Bx W1 wr.heap.size #[.string a.pt,.string a.nu,.string a.de] 110):=qk;have HS1:=zq (HS.o.below hb1);clear hb1;go_upto_region 26 with fail
         rw [←hW1];clear hW1 q0 q1 q2 hb0;obtain ⟨p0,p1,p2⟩:=HXR.o.t;have ps:=HXR.o.lt;have ce1:(⟨#[47]⟩:BA).size=1:=rfl;have ca1:=zBy a.nu ⟨#[47]⟩ (by rw [ce1];omega)
         have ca2:=zBy (a.nu++⟨#[47]⟩) a.de (by rw [dN,ce1];omega)
         go_wp2_with fail
         with_reducible refine (HS1.o.call3 true wShare a.pt (ratB a.nu a.de) zc za (rat_size m1 m2) (by have:=HLK.o;omega)).mono ?_
         rintro e w6 ⟨rfl,hs6,hk6⟩;have HSE:=zq hs6;clear hs6 hk6 p0 p1 p2 ps HXR HS1 ca1 ca2 ce1;go_wp2;rw [←HA.o]
         go_roundg (gk - 1)
         case measure=>have:=HKM.o;omega
         case rel=>exact ⟨k+1,qm,zx,by rw [HLE.o];exact HSE.o⟩
        ·have hke:d.sh.length≤k:=by omega
         rw [zCi shL d.sh hke] at HS HLK;obtain ⟨l12,hl12⟩:∃ q,q=l11++zAr shL d.sh:=⟨_,rfl⟩;rw [←hl12] at HS HLK;have HS12:=zq HS.o;have HL12:Hid (l12.length≤600000+12*2000000):=by show _≤_;have:=HLK.o;omega
         have HQ12:=zq hl12;clear hl12 HS HLK HKM HBW;go_upto_region 28 with fail
         have xa:=HS12.o.x4.c 8 rfl;have xb:=HS12.o.x3.c 15 rfl;have x3l:=HS12.o.x3.lt;have x4l:=HS12.o.x4.lt
         go_wp2_with fail
         with_reducible refine (HS12.o.call2 (decide (d.kd=4)) wEnds d.ot zc za (by have:=HL12.o;omega)).mono ?_
         rintro e w13 ⟨rfl,hs,hk⟩;have HS13:=zq hs
         have HL13:Hid ((l12++ifL (decide (d.kd=4)) (lnL [wEnds,d.ot])).length≤600000+13*2000000):=by
          show _≤_
          rw [cS];have:=HL12.o;have:=zBt (decide (d.kd=4)) (show (wEnds).size≤4100 from by decide) (show (d.ot).size≤4100 from by omega)
          omega
         clear hs hk HS12 xa xb x3l x4l;obtain ⟨l13,hl13⟩:∃ q,q=l12++ifL (decide (d.kd=4)) (lnL [wEnds,d.ot]):=⟨_,rfl⟩;rw [←hl13] at HS13 HL13;have HQ13:=zq hl13;clear hl13;go_wp2
         go_end0
         have he:l13=l++zBN d:=by
          rw [HQ13.o,HQ12.o,HQ11.o,HQ10.o,HQ9.o,HQ8.o,HQ7.o,HQ6.o,HQ5.o,HQ4.o,HQ3.o,HQ2.o,HQ1.o];unfold zBN preA midA endA;simp only [bT,ifL_true]
         refine ⟨rfl,?_⟩
         rw [←he];exact HS13.o.s
end Go.Proofs.YtoaelidmmcbkfaaGreatDoor
