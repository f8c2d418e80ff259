/- Parts of the proof, joined: A region that draws its order: what holds behind each operation may ha. -/
import Derived.Test.YtoaelidmmcbkfaaGreatDoorSt16
set_option maxRecDepth 100000
set_option maxHeartbeats 8000000
namespace Dw
open Go Go.Proofs.YtoaelidmmcbkfaaGreatDoor
section
variable {P:Program} {ops:Array Oper} {Q:Exit→Act→World→Prop} {md:Region.Mode} {S:Array Bool→World→Prop}
def anyL (P:Program) (md:Region.Mode) (ops:Array Oper) (Q:Exit→Act→World→Prop) (S:Array Bool→World→Prop):Nat→Array Bool→Act→World→Prop
 | 0,l,a,w=>Region.ready md ops l=[]∧Q .normal a w
 | n+1,l,a,w=>(Region.ready md ops l=[]→Q .normal a w) ∧
  ∀ i∈Region.ready md ops l,wpOp P ops Q i (fun a' w'=>S (l.setIfInBounds i true) w'∧anyL P md ops Q S n (l.setIfInBounds i true) a' w') a w
theorem anyL_any:∀ (n:Nat) (l:Array Bool) (a:Act) (w:World),anyL P md ops Q S n l a w→wpAny P md ops Q n l a w
 | 0,_,_,_,h=>h
 | n+1,_,_,_,h=>⟨h.1,fun i hi=>wpOp_mono (fun a' w' h'=>anyL_any n _ a' w' h'.2) (h.2 i hi)⟩
def ShutL (md:Region.Mode) (ops:Array Oper) (l:Array Bool):Prop:=∀ (j:Nat) (o:Oper),ops[j]?=some o→l.getD j false=true→∀ e∈o.after,Region.binds md e=true→l.getD e.on false=true
theorem ShutL.set {l:Array Bool} (h:ShutL md ops l) {j:Nat} (hj:j∈Region.ready md ops l):ShutL md ops (l.setIfInBounds j true):=fun k o ho hk e he hb=>by
 refine getD_set_true ?_
 by_cases hkj:j=k
 ·subst hkj
  obtain ⟨_,o',ho',hall⟩:=mem_ready.1 hj;rw [ho] at ho'
  injection ho' with ho'
  subst ho';exact hall e he hb
 ·rw [getD_set_ne false hkj] at hk
  exact h k o ho hk e he hb
theorem ShutL.start (n:Nat):ShutL md ops (Array.replicate n false):=fun j o _ hj=>by
 exfalso
 rw [Array.getD_eq_getD_getElem?,Array.getElem?_replicate] at hj
 split at hj<;>simp at hj
abbrev Ahead (md:Region.Mode) (ops:Array Oper) (S:Array Bool→World→Prop) (i:Nat):World→Prop:=fun w=>∃ l,ShutL md ops l∧l.getD i true=false∧S l w
theorem anyL_first {i:Nat} {oi:Oper} {v:Value} (hi:ops[i]?=some oi) (hsel:∀ (j:Nat) (o:Oper) cs b,ops[j]?=some o→o.op≠.select cs b)
  (hQ:∀ c a w,Q (.panic c) (a.put oi.dst v) w→Q (.panic c) a w) (hSi:∀ l w,S (l.setIfInBounds i true) w↔S l w) :
  ∀ (fuel:Nat) (l:Array Bool) (a:Act) (w:World),ShutL md ops l →
   (∀ j oj,ops[j]?=some oj→j≠i→l.getD j true=false→(∀ e∈oj.after,Region.binds md e=true→e.on≠i)→oi.apart ops oj=true) →
   i∈Region.ready md ops l→YieldsIf P ops (Ahead md ops S i) oi v a→S l w →
   anyL P md ops Q S fuel (l.setIfInBounds i true) (a.put oi.dst v) w→anyL P md ops Q S (fuel+1) l a w:=by
 intro fuel
 induction fuel with
 | zero =>
  intro l a w hsh _ hr hy hS H;refine ⟨fun h=>(by rw [h] at hr;cases hr),fun j hj=>?_⟩
  by_cases hji:j=i
  ·subst hji
   exact hy.wpOp hi ⟨l,hsh,(mem_ready.1 hr).1,hS⟩ ⟨(hSi _ _).2 hS,H⟩
  ·have:=ready_mono hj hji
   rw [H.1] at this
   cases this
 | succ fuel ih =>
  intro l a w hsh hfree hr hy hS H;refine ⟨fun h=>(by rw [h] at hr;cases hr),fun j hj=>?_⟩
  by_cases hji:j=i
  ·subst hji
   exact hy.wpOp hi ⟨l,hsh,(mem_ready.1 hr).1,hS⟩ ⟨(hSi _ _).2 hS,H⟩
  ·have h1:=H.2 j (ready_mono hj hji)
   obtain ⟨hjun,oj,hoj,hall⟩:=mem_ready.1 hj
   have hnot:∀ e∈oj.after,Region.binds md e=true→e.on≠i:=fun e he hb heq=>by
    have h1:=hall e he hb;have h0:=(mem_ready.1 hr).1;rw [heq] at h1
    rcases bK i l.size with h' | h'
    ·simp [h'] at h0 h1;rw [h0] at h1;cases h1
    ·simp [Array.getElem?_eq_none h'] at h1
   have h2:=wpOp_putIf hoj (hfree j oj hoj hji hjun hnot) (fun cs b=>hsel i oi cs b hi) (fun cs b=>hsel j oj cs b hoj) hQ hy h1
   have hfree':∀ k ok,ops[k]?=some ok→k≠i→(l.setIfInBounds j true).getD k true=false →
     (∀ e∈ok.after,Region.binds md e=true→e.on≠i)→oi.apart ops ok=true:=fun k ok hk hki hun hno=>by
    refine hfree k ok hk hki ?_ hno
    by_cases hjk:j=k
    ·subst hjk;exact hjun
    ·rw [getD_set_ne true hjk] at hun;exact hun
   refine wpOp_mono (fun a' w' h3=>?_) h2
   have hs3:S (l.setIfInBounds j true) w':=by
    have:=h3.2.1;rw [Array.setIfInBounds_comm _ _ (fun e=>hji e.symm)] at this
    exact (hSi _ _).1 this
   refine ⟨hs3,ih (l.setIfInBounds j true) a' w' (hsh.set hj) hfree' (ready_mono hr (Ne.symm hji)) h3.1 hs3 ?_⟩
   rw [Array.setIfInBounds_comm _ _ hji];exact h3.2.2
theorem zAF {i:Nat} {oi:Oper} {v:Value} {fuel:Nat} {l:Array Bool} {a:Act} {w:World} (hi:ops[i]?=some oi)
  (hs:Region.noSelect ops=true) (hf:Region.free md ops l i=true) (hr:(Region.ready md ops l).contains i=true)
  (hQ:∀ c a w,Q (.panic c) (a.put oi.dst v) w→Q (.panic c) a w) (hSi:∀ l w,S (l.setIfInBounds i true) w↔S l w) (hsh:ShutL md ops l) (hy:YieldsIf P ops (Ahead md ops S i) oi v a) (hS:S l w)
  (h:ShutL md ops (l.setIfInBounds i true)→S (l.setIfInBounds i true) w→anyL P md ops Q S fuel (l.setIfInBounds i true) (a.put oi.dst v) w):anyL P md ops Q S (fuel+1) l a w :=
 anyL_first hi (Region.noSelect_spec hs) hQ hSi fuel l a w hsh (Region.free_spec hi hf) (by simpa using hr) hy hS (h (hsh.set (by simpa using hr)) ((hSi _ _).2 hS))
def AllL (P:Program) (md:Region.Mode) (ops:Array Oper) (Q:Exit→Act→World→Prop) (S:Array Bool→World→Prop) (fuel:Nat) (l:Array Bool) (a:Act) (w:World) (rs:List Nat):Prop :=
 ∀ i∈rs,wpOp P ops Q i (fun a' w'=>S (l.setIfInBounds i true) w'∧anyL P md ops Q S fuel (l.setIfInBounds i true) a' w') a w
theorem AllL.nil {fuel:Nat} {l:Array Bool} {a:Act} {w:World}:AllL P md ops Q S fuel l a w []:=fun _ h=>yg
theorem AllL.cons {fuel:Nat} {l:Array Bool} {a:Act} {w:World} {i:Nat} {o:Oper} {rs:List Nat} (ho:ops[i]?=some o)
  (h:∀ K':Act→World→Prop,Shut (∀ a w,S (l.setIfInBounds i true) w→(S (l.setIfInBounds i true) w→anyL P md ops Q S fuel (l.setIfInBounds i true) a w)→K' a w)→if Region.wanted o (yielded ops a.tmps)=true then Oper.wp P o a w K' Q else K' (a.put o.dst undef) w)
  (hs:AllL P md ops Q S fuel l a w rs):AllL P md ops Q S fuel l a w (i::rs):=fun j hj=>by
 rcases List.mem_cons.1 hj with rfl | hj
 ·exact wpOp_step ho (fun K' hK=>h K' (fun a w hS hW=>hK a w ⟨hS,hW hS⟩))
 ·exact hs j hj
theorem zAS {rs:List Nat} {fuel:Nat} {l:Array Bool} {a:Act} {w:World} (hr:Region.ready md ops l=rs) (hne:rs≠[]) (h:AllL P md ops Q S fuel l a w rs):anyL P md ops Q S (fuel+1) l a w :=
 ⟨fun h0=>absurd (hr▸h0) hne,hr▸h⟩
theorem anyL_done {l:Array Bool} {a:Act} {w:World} (hr:Region.ready md ops l=[]) (h:Q .normal a w):∀ fuel,anyL P md ops Q S fuel l a w
 | 0=>⟨hr,h⟩
 | _+1=>⟨fun _=>h,by rw [hr];simp⟩
theorem zCT {id:Nat} {a:Act} {w:World} (hm:P.follows .mixedOrders=true) (hS:S (Array.replicate ops.size false) w.drew)
  (h:ShutL .any ops (Array.replicate ops.size false)→S (Array.replicate ops.size false) w.drew→anyL P .any ops Q S ops.size (Array.replicate ops.size false) a w.drew):(Code.region id ops true).wp P Q a w :=
 wp_region_any hm (anyL_any _ _ _ _ (h (ShutL.start _) hS))
theorem ShutL.back {l:Array Bool} (h:ShutL .any ops l) {i j:Nat} (hd:depB ops i j=true) (hj:l.getD j false=false):l.getD i false=false:=by
 cases hli:l.getD i false with
 | false=>rfl
 | true =>
  have h2:l.getD j false=true:=zAT (done:=fun k=>l.getD k false) hd (fun o ho e he hb=>h i o ho hli e he hb)
  rw [hj] at h2
  cases h2
theorem getD_ft {l:Array Bool} {j:Nat} (h:l.getD j true=false):l.getD j false=false:=by
 rw [Array.getD_eq_getD_getElem?] at h ⊢
 cases he:l[j]? with
 | none=>rfl
 | some b=>rw [he] at h;simpa using h
end
end Dw
namespace Go.Proofs.YtoaelidmmcbkfaaGreatDoor
open Go.RowKit Dw
abbrev eRg:Rg→List Value:=fun x=>[.string x.nm,.string x.par]
theorem elRg:ElemT Tryz.prog 22 56 (.agg #[.string ⟨#[]⟩,.string ⟨#[]⟩]) 2 32:=⟨Tryz.underlying22,zb,rfl,zc⟩
theorem oneRg (x:Rg):∀ u∈eRg x,u.oneCell'=true:=yi
theorem oneStr (x:BA):∀ u∈eSt x,u.oneCell'=true:=yi
theorem GOK.belB {B:Nat} {w w1:World} (hG:GOK w) (h:Below B w w1) (hB:gkB<B):GOK w1:=by
 obtain ⟨m,hm⟩:=hG;refine ⟨m,?_⟩
 unfold World.cell? at hm ⊢;rw [h.block _ hB];exact hm
def SLq (n:Nat) (A:World→Prop) (l:Array Bool) (w:World):Prop:=l.getD n false=false→A w
theorem SLq.iff {n i:Nat} {A:World→Prop} (h:i≠n) (l:Array Bool) (w:World):SLq n A (l.setIfInBounds i true) w↔SLq n A l w:=by
 unfold SLq;rw [getD_set_ne false h]
theorem SLq.ahead {n i:Nat} {A:World→Prop} {ops:Array Oper} {w:World} (hd:depB ops n i=true) (h:Ahead .any ops (SLq n A) i w):A w:=by
 obtain ⟨l,hs,h1,h2⟩:=h;exact h2 (hs.back hd (getD_ft h1))
abbrev hdC (v1 v2:Value):Array Value:=#[v1,v2,.slice none 0 0]
structure HdS (w:World) (B0 r q:Nat) (LA:Option Addr):Prop where
 br:B0≤r
 bq:B0≤q
 ne:r≠q
 rl:r<w.heap.size
 ql:q<w.heap.size
 la:∀ b o,LA=some ⟨b,o,none⟩→b<w.heap.size∧b≠q
structure HdM (w:World) (B0 r q:Nat) (LA:Option Addr) (c:Nat) (L:List Ln) (T1:List Rg) (v1:Value) (T2:List BA) (v2:Value) (k:Nat) (wr:World):Prop where
 st:HdS w B0 r q LA
 bx:Bx wr q (hdC v1 v2) 26
 o1:zAN eRg 2 wr w.heap.size 56 v1 T1
 o2:zAN eSt 1 wr w.heap.size 9 v2 T2
 rd:RdI wr r LA c L k false
 bel:Below B0 w wr
section
variable {w wr w4 w9 w':World} {B0 r q c k g cap:Nat} {LA:Option Addr} {L:List Ln} {T1:List Rg} {v1:Value} {T2:List BA} {v2:Value}
theorem HdM.below (h:HdM w B0 r q LA c L T1 v1 T2 v2 k wr) (hb:Below wr.heap.size wr w'):HdM w B0 r q LA c L T1 v1 T2 v2 k w' :=
 ⟨h.st,h.bx.below hb,h.o1.below hb,h.o2.below hb,h.rd.below hb,h.bel.trans (hb.mono (by have:=h.bx.lt;have:=h.st.bq;omega))⟩
theorem HdM.size (h:HdM w B0 r q LA c L T1 v1 T2 v2 k wr):w.heap.size≤wr.heap.size:=h.bel.size
theorem HdM.push1 {x:Rg} (h:HdM w B0 r q LA c L T1 v1 T2 v2 k w4) (ho:zAN eRg 2 w9 w.heap.size 56 (.slice (some ⟨g,0,none⟩) (T1.length+1) cap) (T1++[x])) (hg:w4.grownBy w9 v1.ownBlock) :
  w9.cell? ⟨q,0,none⟩=some v1∧q<w9.heap.size∧(∀ i,w9.frozen? ⟨q,i,none⟩=false)∧HdM w B0 r q LA c L (T1++[x]) (.slice (some ⟨g,0,none⟩) (T1.length+1) cap) T2 v2 k (w9.setCell ⟨q,0,none⟩ (.slice (some ⟨g,0,none⟩) (T1.length+1) cap)):=by
 have hs:=h.st;have hb:Below w.heap.size w4 w9:=(bN _ _).grown hg h.size (fun j hj=>(bO h.o1 j hj).1)
 have hx:Bx w9 q (hdC v1 v2) 26:=(hb.block q hs.ql).trans h.bx;have g2:=zAx w9 ⟨q,0,none⟩ (.slice (some ⟨g,0,none⟩) (T1.length+1) cap);have h2:zAN eSt 1 w9 w.heap.size 9 v2 T2:=h.o2.grown hg (zCd h.o2 h.o1 zc);refine ⟨hx.c 0 rfl,hx.lt,hx.frozen,hs,hx.set 0 _,ho.grown g2 (zAY ho hs.ql),h2.grown g2 (zAY h2 hs.ql),?_,?_⟩
 ·exact (h.rd.taken hb hs.rl fun b o e=>(hs.la b o e).1).grown g2 hs.ne fun b o e=>(hs.la b o e).2
 ·exact Below.setCell (h.bel.trans (hb.mono (by have:=hs.bq;have:=hs.ql;omega))) hs.bq _
theorem HdM.push2 {x:BA} (h:HdM w B0 r q LA c L T1 v1 T2 v2 k w4) (ho:zAN eSt 1 w9 w.heap.size 9 (.slice (some ⟨g,0,none⟩) (T2.length+1) cap) (T2++[x])) (hg:w4.grownBy w9 v2.ownBlock) :
  w9.cell? ⟨q,1,none⟩=some v2∧q<w9.heap.size∧(∀ i,w9.frozen? ⟨q,i,none⟩=false)∧HdM w B0 r q LA c L T1 v1 (T2++[x]) (.slice (some ⟨g,0,none⟩) (T2.length+1) cap) k (w9.setCell ⟨q,1,none⟩ (.slice (some ⟨g,0,none⟩) (T2.length+1) cap)):=by
 have hs:=h.st;have hb:Below w.heap.size w4 w9:=(bN _ _).grown hg h.size (fun j hj=>(bO h.o2 j hj).1)
 have hx:Bx w9 q (hdC v1 v2) 26:=(hb.block q hs.ql).trans h.bx;have g2:=zAx w9 ⟨q,1,none⟩ (.slice (some ⟨g,0,none⟩) (T2.length+1) cap);have h2:zAN eRg 2 w9 w.heap.size 56 v1 T1:=h.o1.grown hg (zCd h.o1 h.o2 zc);refine ⟨hx.c 1 rfl,hx.lt,hx.frozen,hs,hx.set 1 _,h2.grown g2 (zAY h2 hs.ql),ho.grown g2 (zAY ho hs.ql),?_,?_⟩
 ·exact (h.rd.taken hb hs.rl fun b o e=>(hs.la b o e).1).grown g2 hs.ne fun b o e=>(hs.la b o e).2
 ·exact Below.setCell (h.bel.trans (hb.mono (by have:=hs.bq;have:=hs.ql;omega))) hs.bq _
theorem HdM.at (h:HdM w B0 r q LA c L T1 v1 T2 v2 k wr) (hk:k<L.length):HdM w B0 r q LA c L T1 v1 T2 v2 (k+1) (wr.setCell ⟨r,1,none⟩ (.int .i64 ((k+1:Nat):Int))):=by
 have hs:=h.st;have g2:=zAx wr ⟨r,1,none⟩ (.int .i64 ((k+1:Nat):Int));exact ⟨hs,(g2.block q h.bx.lt fun e=>hs.ne (dM e).symm).trans h.bx,h.o1.grown g2 (zAY h.o1 hs.rl),h.o2.grown g2 (zAY h.o2 hs.rl),h.rd.setk hk,Below.setCell h.bel hs.br _⟩
end
def rg1 (M:List Ln):Option Rg:=match wdF [] zBj 3 M with
 | some [_,n,p]=>if rowL n=true∧(rowL p=true∨p=[45]) then some ⟨ofL n,if p=[45] then emp else ofL p⟩ else none
 | _=>none
theorem regsX_step (M:List Ln):(zAO M).1=match rg1 M with
  | some x=>x::(zAO M.tail).1
  | none=>[]:=by
 cases M with
 | nil=>rfl
 | cons l r =>
  rw [zAO];unfold rg1
  cases h:wdF [] zBj 3 (l::r) with
  | none=>rfl
  | some W =>
   match W with
   | []=>rfl
   | [_]=>rfl
   | [_,_]=>rfl
   | _::_::_::_::_=>rfl
   | [a,n,p] =>
    simp only
    split<;>rfl
theorem usesX_step (M:List Ln):(zAJ [] zCH M).1=match tryX [] zCH M with
  | some x=>ofL x::(zAJ [] zCH M.tail).1
  | none=>[]:=by
 cases M with
 | nil=>rfl
 | cons l r =>
  rw [usesX_try]
  cases tryX [] zCH (l::r)<;>rfl
def Hd1 (w:World) (B0 r q:Nat) (LA:Option Addr) (c:Nat) (L:List Ln) (k:Nat) (all:List Rg) (m:Nat) (wr:World):Prop :=
 ∃ (T:List Rg) (v:Value),HdM w B0 r q LA c L T v [] (.slice none 0 0) (k+T.length) wr∧T++(zAO (L.drop (k+T.length))).1=all∧k+T.length+m=L.length+1
def Hd2 (w:World) (B0 r q:Nat) (LA:Option Addr) (c:Nat) (L:List Ln) (T1:List Rg) (v1:Value) (k:Nat) (all:List BA) (m:Nat) (wr:World):Prop :=
 ∃ (T:List BA) (v:Value),HdM w B0 r q LA c L T1 v1 T v (k+T.length) wr∧T++(zAJ [] zCH (L.drop (k+T.length))).1=all∧k+T.length+m=L.length+1
def GivesHd (w:World) (B0 r q:Nat) (LA:Option Addr) (c:Nat) (L:List Ln) (rs:List Rg) (us:List BA) (k:Nat) (e:Ending) (w':World):Prop :=
 e = .returned (.tuple #[])∧∃ v1 v2,HdM w B0 r q LA c L rs v1 us v2 k w'
theorem head_c (B0 r q:Nat) (LA:Option Addr) (c:Nat) (L:List Ln) (w:World) (h:RdI w r LA c L 0 false) (hq:Bx w q (hdC (.slice none 0 0) (.slice none 0 0)) 26) (hG:GOK w) (hg:gkB<B0) (hs:HdS w B0 r q LA) :
  Calls Tryz.prog 11 #[.pointer (some ⟨r,0,none⟩),.pointer (some ⟨q,0,none⟩)] w
   (GivesHd w B0 r q LA c L (zAO L).1 (zAJ [] zCH (zAO L).2).1 ((zAO L).1.length+(zAJ [] zCH (zAO L).2).1.length)):=by
 have HG0:=zq hG;have HS0:=zq hs;have hmany:=h.many;have HM0:Hid (HdM w B0 r q LA c L [] (.slice none 0 0) [] (.slice none 0 0) 0 w):=⟨hs,hq,zAN.nil _ _ _ _ _,zAN.nil _ _ _ _ _,h,bN _ _⟩;obtain ⟨all,hall⟩:∃ all,all=(zAO L).1:=⟨_,rfl⟩;obtain ⟨all2,hall2⟩:∃ all2,all2=(zAJ [] zCH (zAO L).2).1:=⟨_,rfl⟩;have HALL:=zq hall
 have HALL2:Hid (all2=(zAJ [] zCH (L.drop all.length)).1):=by
  show _=_
  rw [hall2,hall,←regsX_rest]
 rw [←hall,←hall2];clear h hq hG hs hall hall2
 go_enter Tryz.func11,Tryz.ntmps11
 go_wp2_with fail
 go_loopg [] (L.length+1) (Hd1 w B0 r q LA c L 0 all)
 case atStart=>exact ⟨[],_,HM0.o,HALL.o.symm,zg⟩
 case round =>
  obtain ⟨T,v,hm,hal,hms⟩:=hrel;rw [bF] at hm hal hms;have HM:=zq hm;have HA1:=zq hal;have HMS:=zq hms;have hTl:T.length≤600000:=by have:=hm.rd.le;omega
  obtain ⟨k,hk⟩:∃ k,k=T.length:=⟨_,rfl⟩;have HKE:=zq hk;rw [←hk] at HM HA1;clear hm hal hms hk
  have HW:Hid (Calls Tryz.prog 27 #[.pointer (some ⟨r,0,none⟩),.string ⟨#[]⟩,.string ⟨#[114,101,103,105,111,110]⟩,.int .i64 3] wr (zBg (wdO false [] zBj 3 (L.drop k)) wr)) :=
   zDp r LA c L k false ⟨#[]⟩ ⟨#[114,101,103,105,111,110]⟩ 3 wr HM.o.rd (HG0.o.belB HM.o.bel hg) zc
  have HF1:Hid (rg1 (L.drop k)=match wdO false [] zBj 3 (L.drop k) with
   | some [_,n,p]=>if rowL n=true∧(rowL p=true∨p=[45]) then some ⟨ofL n,if p=[45] then emp else ofL p⟩ else none
   | _=>none):=rfl
  have HNO:Hid (rg1 (L.drop k)=none→T=all):=fun h=>by
   rw [←HA1.o,regsX_step,h,aD]
  have HYES:Hid (∀ x,rg1 (L.drop k)=some x→(T++[x])++(zAO (L.drop (k+1))).1=all):=fun x h=>by
   rw [←HA1.o,regsX_step (L.drop k),h];simp only [bT,List.singleton_append,zCm]
  have HWT:Hid (∀ W,wdO false [] zBj 3 (L.drop k)=some W→k<L.length∧∃ n p,W=[zBj,n,p]∧n.length≤600000∧p.length≤600000):=fun W hW=>by
   obtain ⟨_,n,p,hn⟩:=wdO_three hW;refine ⟨zCu (zDo (by rw [hW];rfl)),n,p,hn,?_,?_⟩
   ·exact zBX (m:=3) HM.o.rd.drops (show wdF [] zBj 3 (L.drop k)=some W from hW) qq
   ·exact zBX (m:=3) HM.o.rd.drops (show wdF [] zBj 3 (L.drop k)=some W from hW) qq
  generalize rg1 (L.drop k)=ans at *;generalize wdO false [] zBj 3 (L.drop k)=res at *;clear HA1 HALL
  go_wp2_with fail
  with_reducible refine HW.o.mono ?_
  rintro e w1 ⟨A,c1,rfl,hst,hb1⟩;have HM1:=zq (HM.o.below hb1);have HB1:=zq hb1.size;have HST:=zq hst;have HOV:Hid (∀ j,v.ownBlock=some j→j<wr.heap.size):=fun j hj=>(bO HM.o.o1 j hj).2
  obtain ⟨nW,hnW⟩:∃ nW,nW=(res.getD []).length:=⟨_,rfl⟩;rw [←hnW];have HNW:=zq hnW;clear hst hb1 HW HM hnW;go_upto_region 1 with fail
  go_cut [35] (fun sv wx=>∃ b,sv = .bool b∧HdM w B0 r q LA c L T v [] (.slice none 0 0) k wx∧(b=true→ans=none) ∧
   (b=false→k<L.length∧∃ bw ow n p,A=some ⟨bw,ow,none⟩∧ans=some ⟨ofL n,if p=[45] then emp else ofL p⟩∧wx.cell? ⟨bw,ow+1,none⟩=some (.string (ofL n))∧wx.cell? ⟨bw,ow+2,none⟩=some (.string (ofL p))∧wr.heap.size≤bw∧nW=3))
  case first =>
   cases res with
   | none =>
    have HA:Hid (ans=none):=HF1.o;clear HNO HYES HWT HST HF1
    go_wp2_with fail
    go_meet;exact ⟨true,ya,HM1.o,(fun _=>HA.o),(fun h=>yg)⟩
   | some W =>
    obtain ⟨hkl,n,p,rfl,hnl,hpl⟩:=HWT.o W rfl;obtain rfl:nW=3:=HNW.o;obtain ⟨hlo,hst⟩:=HST.o _ rfl;obtain ⟨bw,ow,hA2,hc2⟩:=hst zg;subst hA2;have HBW:Hid (wr.heap.size≤bw):=hlo bw ow rfl;have c1':w1.cell? ⟨bw,ow+1,none⟩=some (.string (ofL n)):=hc2 1 zg;have c2':w1.cell? ⟨bw,ow+2,none⟩=some (.string (ofL p)):=hc2 2 zg;have HR:=zq (isRow_c (ofL n) w1 yb);rw [zAu] at HR;have HF2:Hid (ans=if rowL n=true∧(rowL p=true∨p=[45]) then some ⟨ofL n,if p=[45] then emp else ofL p⟩ else none):=HF1.o
    generalize rowL n=b1 at *;clear hc2 hst hlo HST HWT HF1
    go_wp2_with fail
    with_reducible refine HR.o.mono ?_
    rintro e w2 ⟨rfl,hb2⟩;have HM2:=zq (HM1.o.below hb2);have d1:=zAK hb2 c1';have d2:=zAK hb2 c2';clear hb2 HR HM1 c1' c2'
    cases b1 with
    | false =>
     have HA:Hid (ans=none):=by show _=_;rw [HF2.o,aC zg]
     clear HF2 HNO HYES
     go_wp2_with fail
     go_meet;exact ⟨true,ya,HM2.o,(fun _=>HA.o),(fun h=>yg)⟩
    | true =>
     have HR2:=zq (isRow_c (ofL p) w2 yb);rw [zAu] at HR2;generalize rowL p=b2 at *
     go_wp2_with fail
     with_reducible refine HR2.o.mono ?_
     rintro e w3 ⟨rfl,hb3⟩;have HM3:=zq (HM2.o.below hb3);have e1:=zAK hb3 d1;have e2:=zAK hb3 d2;clear hb3 HR2 HM2 d1 d2
     cases b2 with
     | true =>
      have HA:Hid (ans=some ⟨ofL n,if p=[45] then emp else ofL p⟩):=by show _=_;rw [HF2.o,aE zg]
      have E1:=zq e1;have E2:=zq e2;clear HF2 HNO HYES
      go_wp2_with fail
      go_meet;exact ⟨false,ya,HM3.o,(fun h=>yg),fun _=>⟨hkl,bw,ow,n,p,ya,HA.o,E1.out,E2.out,HBW.o,ya⟩⟩
     | false =>
      by_cases hp:p=[45]
      ·have HA:Hid (ans=some ⟨ofL n,if p=[45] then emp else ofL p⟩):=by show _=_;rw [HF2.o,aE (by simp [hp])]
       have q1:((ofL p).toList == [45])=true:=lit_eq (by rw [zAu,hp])
       have E1:=zq e1;have E2:=zq e2;clear HF2 HNO HYES hp
       go_wp2_with fail
       go_meet;exact ⟨false,ya,HM3.o,(fun h=>yg),fun _=>⟨hkl,bw,ow,n,p,ya,HA.o,E1.out,E2.out,HBW.o,ya⟩⟩
      ·have HA:Hid (ans=none):=by
        show _=_
        rw [HF2.o,aC];rintro ⟨_,h | h⟩
        ·cases h
        ·exact hp h
       have q1:((ofL p).toList == [45])=false:=lit_ne (by rw [zAu];exact hp)
       clear HF2 HNO HYES hp
       go_wp2_with fail
       go_meet;exact ⟨true,ya,HM3.o,(fun _=>HA.o),(fun h=>yg)⟩
  case rest =>
   obtain ⟨b,rfl,hm,hbt,hbf⟩:=hcut;have HM:=zq hm
   cases b with
   | false =>
    obtain ⟨hkl,bw,ow,n,p,rfl,hans,e1,e2,hbw,rfl⟩:=hbf rfl;obtain ⟨par,hpar⟩:∃ par,par=if p=[45] then emp else ofL p:=⟨_,rfl⟩
    rw [←hpar] at hans;have HN:=zq (HYES.o _ hans);obtain ⟨tb,htb⟩:∃ tb,tb=decide (p=[45]):=⟨_,rfl⟩;have HP:Hid (par=if tb=true then emp else ofL p):=by show _=_;rw [hpar,htb];by_cases h:p=[45]<;>simp [h]
    have q1:((ofL p).toList == [45])=tb:=by
     rw [htb]
     by_cases h:p=[45]
     ·rw [cD h];exact lit_eq (by rw [zAu,h])
     ·rw [cF h];exact lit_ne (by rw [zAu];exact h)
    have E1:=zq e1;clear hm hbt hbf HNO HYES HWT HST HF1 HM1 hans htb hpar;go_upto_if 40 with fail
    go_cut [6] (fun pv wx=>pv = .string par∧wx=wc)
    case first =>
     cases tb with
     | true =>
      go_wp2_with fail
      go_meet;exact ⟨by rw [HP.o];rfl,rfl⟩
     | false =>
      go_wp2_with fail
      go_meet;exact ⟨by rw [HP.o];rfl,rfl⟩
    case rest =>
     obtain ⟨rfl,rfl⟩:=hcut;clear e1 e2 q1;obtain ⟨wk,hwk⟩:∃ wk,wk=wc.drew:=⟨_,rfl⟩;have HMk:Hid (HdM w B0 r q LA c L T v [] (.slice none 0 0) k wk):=by show HdM _ _ _ _ _ _ _ _ _ _ _ _ _;rw [hwk];exact HM.o.below (zAc (bN _ _) 1)
     have HAd:Hid (wk.cell? ⟨q,0,none⟩=some v∧wk.cell? ⟨bw,ow+1,none⟩=some (.string (ofL n))):=⟨HMk.o.bx.c 0 rfl,by rw [hwk];exact zAK (zAc (bN _ _) 1) E1.out⟩
     have hba:Below wk.heap.size wk (wk.alloc (.cells #[.string (ofL n),.string par] 56)):=(bN _ _).alloc (aB _) _;have HAa:Hid ((wk.alloc (.cells #[.string (ofL n),.string par] 56)).cell? ⟨q,0,none⟩=some v∧(wk.alloc (.cells #[.string (ofL n),.string par] 56)).cell? ⟨bw,ow+1,none⟩=some (.string (ofL n))):=⟨zAK hba HAd.o.1,zAK hba HAd.o.2⟩;have HMa:=zq (HMk.o.below hba);have t1:Hid (zAN eRg 2 (wk.alloc (.cells #[.string (ofL n),.string par] 56)) w.heap.size 56 v T):=HMa.o.o1;have t2:Hid ((wk.alloc (.cells #[.string (ofL n),.string par] 56)).heap[wk.heap.size]?=some (.cells #[.string (ofL n),.string par] 56 (0,0))):=bY wk _;have t4:Hid (w.heap.size≤(wk.alloc (.cells #[.string (ofL n),.string par] 56)).heap.size):=HMa.o.size;clear hba E1 HM;go_upto_region 5 with fail
     refine zCT (S:=SLq 14 (fun w'=>w'.cell? ⟨q,0,none⟩=some v∧w'.cell? ⟨bw,ow+1,none⟩=some (.string (ofL n)))) zb (fun _=>by rw [←hwk];exact HAd.o) ?_
     intro hsh _;rw [←hwk];clear hwk;refine zAF (i:=0) (v:=?_) rfl zb zb zb (fun _ _ _ h=>h) (SLq.iff zc) hsh (Or.inl ⟨zb,?_⟩) (fun _=>HAd.o) ?_
     rotate_left 1
     ·(intro w9 _;go_simp;try with_reducible rfl)
     intro hsh _;simp only [dS,cB,Act.put,bV,dQ,bP] at hsh ⊢;refine zAF (i:=1) (v:=?_) rfl zb zb zb (fun _ _ _ h=>h) (SLq.iff zc) hsh (Or.inl ⟨zb,?_⟩) (fun _=>HAd.o) ?_
     rotate_left 1
     ·(intro w9 _;go_simp;try with_reducible rfl)
     intro hsh _;simp only [Dw.lay,Act.put] at hsh ⊢;refine zAF (i:=2) (v:=?_) rfl zb zb zb (fun _ _ _ h=>h) (SLq.iff zc) hsh (Or.inl ⟨zb,?_⟩) (fun _=>HAd.o) ?_
     rotate_left 1
     ·(intro w9 _;go_simp;try with_reducible rfl)
     intro hsh _;simp only [Dw.lay,Act.put] at hsh ⊢;refine zAF (i:=3) (v:=?_) rfl zb zb zb (fun _ _ _ h=>h) (SLq.iff zc) hsh (Or.inl ⟨zb,?_⟩) (fun _=>HAd.o) ?_
     rotate_left 1
     ·(intro w9 _;go_simp;try with_reducible rfl)
     intro hsh _;simp only [Dw.lay,Act.put] at hsh ⊢;refine zAF (i:=4) (v:=?_) rfl zb zb zb (fun _ _ _ h=>h) (SLq.iff zc) hsh (Or.inl ⟨zb,?_⟩) (fun _=>HAd.o) ?_
     rotate_left 1
     ·(intro w9 hw9;have hA:=SLq.ahead (n:=14) zb hw9;obtain ⟨a1,a2⟩:=hA;go_simp;try with_reducible rfl)
     intro hsh _;simp only [Dw.lay,Act.put] at hsh ⊢;refine zAF (i:=5) (v:=?_) rfl zb zb zb (fun _ _ _ h=>h) (SLq.iff zc) hsh (Or.inl ⟨zb,?_⟩) (fun _=>HAd.o) ?_
     rotate_left 1
     ·(intro w9 _;go_simp;try with_reducible rfl)
     intro hsh _;simp only [Dw.lay,Act.put] at hsh ⊢;refine zAF (i:=6) (v:=?_) rfl zb zb zb (fun _ _ _ h=>h) (SLq.iff zc) hsh (Or.inl ⟨zb,?_⟩) (fun _=>HAd.o) ?_
     rotate_left 1
     ·(intro w9 _;go_simp;try with_reducible rfl)
     intro hsh _;simp only [Dw.lay,Act.put] at hsh ⊢;refine zAF (i:=7) (v:=?_) rfl zb zb zb (fun _ _ _ h=>h) (SLq.iff zc) hsh (Or.inl ⟨zb,?_⟩) (fun _=>HAd.o) ?_
     rotate_left 1
     ·(intro w9 hw9;have hA:=SLq.ahead (n:=14) zb hw9;obtain ⟨a1,a2⟩:=hA;go_simp;try with_reducible rfl)
     intro hsh _;simp only [Dw.lay,Act.put] at hsh ⊢;refine zAF (i:=8) (v:=?_) rfl zb zb zb (fun _ _ _ h=>h) (SLq.iff zc) hsh (Or.inl ⟨zb,?_⟩) (fun _=>HAd.o) ?_
     rotate_left 1
     ·(intro w9 _;go_simp;try with_reducible rfl)
     intro hsh _;simp only [Dw.lay,Act.put] at hsh ⊢;refine zAF (i:=9) (v:=?_) rfl zb zb zb (fun _ _ _ h=>h) (SLq.iff zc) hsh (Or.inl ⟨zb,?_⟩) (fun _=>HAd.o) ?_
     rotate_left 1
     ·(intro w9 _;go_simp;try with_reducible rfl)
     intro hsh _;simp only [Dw.lay,Act.put] at hsh ⊢;clear hsh;refine zAS (rs:=[10]) zb zg ?_
     refine AllL.cons rfl (fun K hK=>?_) AllL.nil
     go_simp
     refine hK.out _ _ (fun _=>HAa.o) (fun _=>?_)
     clear hK K
     try simp only [Dw.lay,Act.put]
     refine zAS (rs:=[11]) zb zg ?_
     refine AllL.cons rfl (fun K hK=>?_) AllL.nil
     refine step_pushB (k:=2) (enc:=eRg) zy _ _ _ zy elRg w.heap.size v T zy t1.out wk.heap.size 1 (⟨ofL n,par⟩:Rg) zy t2.out rfl rfl (oneRg _) yk za t4.out ?_
     intro g9 cap9 w9 ho9 hg9;obtain ⟨z0,zs,zf,hm9⟩:=HMa.o.push1 ho9 hg9;have HM9:=zq hm9;have HA9:Hid (w9.cell? ⟨q,0,none⟩=some v∧w9.cell? ⟨bw,ow+1,none⟩=some (.string (ofL n))):=⟨z0,hg9.cell HAa.o.2 (fun e=>by have h2:bw<wr.heap.size:=HOV.o _ e.symm;omega)⟩
     have zf0:=zf 0;clear hm9 zf ho9 hg9;refine hK.out _ _ (fun _=>HA9.o) (fun _=>?_)
     clear hK K
     try simp only [Dw.lay,Act.put]
     refine zAS (rs:=[12]) zb zg ?_
     refine AllL.cons rfl (fun K hK=>?_) AllL.nil
     go_simp
     refine hK.out _ _ (fun _=>HA9.o) (fun _=>?_)
     clear hK K
     try simp only [Dw.lay,Act.put]
     refine zAS (rs:=[13]) zb zg ?_
     refine AllL.cons rfl (fun K hK=>?_) AllL.nil
     go_simp
     refine hK.out _ _ (fun _=>HA9.o) (fun _=>?_)
     clear hK K
     try simp only [Dw.lay,Act.put]
     refine zAS (rs:=[14]) zb zg ?_
     refine AllL.cons rfl (fun K hK=>?_) AllL.nil
     go_simp
     refine hK.out _ _ (fun h=>absurd h zc) (fun _=>?_)
     clear hK K
     try simp only [Dw.lay,Act.put]
     refine anyL_done zb ?_ _
     obtain ⟨w10,hw10⟩:∃ w10,w10=w9.setCell ⟨q,0,none⟩ (.slice (some ⟨g9,0,none⟩) (T.length+1) cap9):=⟨_,rfl⟩;rw [←hw10] at HM9 ⊢;clear hw10 t1 t2 t4 HAd HAa HMa HMk HA9 z0 zs zf0;have y1:w10.cell? ⟨r,1,none⟩=some (.int .i64 (k:Int)):=HM9.o.rd.bx.c 1 rfl;have ys:=HM9.o.rd.bx.lt;have yf:=HM9.o.rd.bx.frozen;have HM10:=zq (HM9.o.at hkl);clear HM9
     go_wp2_with fail
     have ek:((k:Int)+1)=((k+1:Nat):Int):=za;rw [ek]
     go_roundg (gk - 1)
     case measure=>have:=HMS.o;have:=HKE.o;omega
     case rel=>exact ⟨T++[⟨ofL n,par⟩],_,by rw [cS,bF,←HKE.o];exact HM10.o,by rw [cS,bF,←HKE.o];exact HN.o,by have:=HMS.o;have:=HKE.o;simp;omega⟩
   | true =>
    have hT:=HNO.o (hbt rfl);subst hT;clear hm hbt hbf HNO HYES HWT HST HF1 HM1 HNW HOV HB1 HMS
    go_wp2_with fail
    go_loopg [] (L.length+1 - k) (Hd2 w B0 r q LA c L T v k all2)
    case atStart=>exact ⟨[],_,HM.o,by rw [HALL2.o,HKE.o];rfl,by have:=HM.o.rd.le;simp;omega⟩
    case round =>
     obtain ⟨U,vu,hm,hal,hms⟩:=hrel;have HM:=zq hm;have HA1:=zq hal;have HMS:=zq hms;have hTl:k+U.length≤600000:=by have:=hm.rd.le;omega
     have hUl:U.length≤600000:=za;obtain ⟨kk,hkk⟩:∃ kk,kk=k+U.length:=⟨_,rfl⟩;have HKK:=zq hkk;rw [←hkk] at HM HA1 hTl;clear hm hal hms hkk
     have HW:Hid (Calls Tryz.prog 27 #[.pointer (some ⟨r,0,none⟩),.string ⟨#[]⟩,.string ⟨#[117,115,101]⟩,.int .i64 2] wr (zBg (wdO false [] zCH 2 (L.drop kk)) wr)) :=
      zDp r LA c L kk false ⟨#[]⟩ ⟨#[117,115,101]⟩ 2 wr HM.o.rd (HG0.o.belB HM.o.bel hg) zc
     have HF1:Hid (tryX [] zCH (L.drop kk)=match wdO false [] zCH 2 (L.drop kk) with
      | some [_,n]=>if rowL n=true then some n else none
      | _=>none):=rfl
     have HNO:Hid (tryX [] zCH (L.drop kk)=none→U=all2):=fun h=>by
      rw [←HA1.o,usesX_step,h,aD]
     have HYES:Hid (∀ x,tryX [] zCH (L.drop kk)=some x→(U++[ofL x])++(zAJ [] zCH (L.drop (kk+1))).1=all2):=fun x h=>by
      rw [←HA1.o,usesX_step (L.drop kk),h];simp only [bT,List.singleton_append,zCm]
     have HWT:Hid (∀ W,wdO false [] zCH 2 (L.drop kk)=some W→kk<L.length∧∃ n,W=[zCH,n]∧n.length≤600000):=fun W hW=>by
      obtain ⟨_,n,hn⟩:=wdO_two hW;refine ⟨zCu (zDo (by rw [hW];rfl)),n,hn,?_⟩
      exact zBX (m:=2) HM.o.rd.drops (show wdF [] zCH 2 (L.drop kk)=some W from hW) qq
     generalize tryX [] zCH (L.drop kk)=ans at *;generalize wdO false [] zCH 2 (L.drop kk)=res at *
     have HEND:Hid (∀ w',ans=none→HdM w B0 r q LA c L T v U vu kk w'→GivesHd w B0 r q LA c L T all2 (T.length+all2.length) (.returned (.tuple #[])) w'):=fun w' ha hm=>by
      have hT:=HNO.o ha;rw [←hT,←HKE.o,←HKK.o];exact ⟨rfl,v,vu,hm⟩
     clear HA1 HNO
     go_wp2_with fail
     with_reducible refine HW.o.mono ?_
     rintro e w1 ⟨A,c1,rfl,hst,hb1⟩;have HM1:=zq (HM.o.below hb1);have HOV:Hid (∀ j,vu.ownBlock=some j→j<wr.heap.size):=fun j hj=>(bO HM.o.o2 j hj).2
     have HST:=zq hst;clear hst hb1 HW HM
     cases res with
     | none =>
      have HA:Hid (ans=none):=HF1.o;have HE:=zq (HEND.o _ HA.o HM1.o);clear HYES HWT HST HF1 HEND
      go_wp2_with fail
      exact cW (v:=.tuple #[]) (by simp [results,Tryz.results11,go_sem]) rfl HE.o
     | some W =>
      obtain ⟨hkl,n,rfl,hnl⟩:=HWT.o W rfl;obtain ⟨hlo,hst⟩:=HST.o _ rfl;obtain ⟨bw,ow,hA2,hc2⟩:=hst zg;subst hA2;have HBW:Hid (wr.heap.size≤bw):=hlo bw ow rfl;have c1':w1.cell? ⟨bw,ow+1,none⟩=some (.string (ofL n)):=hc2 1 zg;have HR:=zq (isRow_c (ofL n) w1 yb);rw [zAu] at HR;have HF2:Hid (ans=if rowL n=true then some n else none):=HF1.o
      generalize rowL n=b1 at *;clear hc2 hst hlo HST HWT HF1
      go_wp2_with fail
      with_reducible refine HR.o.mono ?_
      rintro e w2 ⟨rfl,hb2⟩;have HM2:=zq (HM1.o.below hb2);have d1:=zAK hb2 c1';clear hb2 HR HM1 c1'
      cases b1 with
      | false =>
       have HA:Hid (ans=none):=by show _=_;rw [HF2.o,aC zg]
       have HE:=zq (HEND.o _ HA.o HM2.o);clear HYES HF2 HEND
       go_wp2_with fail
       exact cW (v:=.tuple #[]) (by simp [results,Tryz.results11,go_sem]) rfl HE.o
      | true =>
       have HA:Hid (ans=some n):=by show _=_;rw [HF2.o,aE rfl]
       have HN:=zq (HYES.o _ HA.o);have E1:=zq d1;clear HYES HF2 HEND d1;obtain ⟨wk,hwk⟩:∃ wk,wk=w2.drew:=⟨_,rfl⟩;have HMk:Hid (HdM w B0 r q LA c L T v U vu kk wk):=by show HdM _ _ _ _ _ _ _ _ _ _ _ _ _;rw [hwk];exact HM2.o.below (zAc (bN _ _) 1)
       have HAd:Hid (wk.cell? ⟨q,1,none⟩=some vu∧wk.cell? ⟨bw,ow+1,none⟩=some (.string (ofL n))):=⟨HMk.o.bx.c 1 rfl,by rw [hwk];exact zAK (zAc (bN _ _) 1) E1.out⟩
       have hba:Below wk.heap.size wk (wk.alloc (.cells #[.string (ofL n)] 9)):=(bN _ _).alloc (aB _) _;have HAa:Hid ((wk.alloc (.cells #[.string (ofL n)] 9)).cell? ⟨q,1,none⟩=some vu∧(wk.alloc (.cells #[.string (ofL n)] 9)).cell? ⟨bw,ow+1,none⟩=some (.string (ofL n))):=⟨zAK hba HAd.o.1,zAK hba HAd.o.2⟩;have HMa:=zq (HMk.o.below hba);have t1:Hid (zAN eSt 1 (wk.alloc (.cells #[.string (ofL n)] 9)) w.heap.size 9 vu U):=HMa.o.o2;have t2:Hid ((wk.alloc (.cells #[.string (ofL n)] 9)).heap[wk.heap.size]?=some (.cells #[.string (ofL n)] 9 (0,0))):=bY wk _;have t4:Hid (w.heap.size≤(wk.alloc (.cells #[.string (ofL n)] 9)).heap.size):=HMa.o.size;clear hba E1 HM2;go_upto_region 9 with fail
       refine zCT (S:=SLq 12 (fun w'=>w'.cell? ⟨q,1,none⟩=some vu∧w'.cell? ⟨bw,ow+1,none⟩=some (.string (ofL n)))) zb (fun _=>by rw [←hwk];exact HAd.o) ?_
       intro hsh _;rw [←hwk];clear hwk;refine zAF (i:=0) (v:=?_) rfl zb zb zb (fun _ _ _ h=>h) (SLq.iff zc) hsh (Or.inl ⟨zb,?_⟩) (fun _=>HAd.o) ?_
       rotate_left 1
       ·(intro w9 _;go_simp;try with_reducible rfl)
       intro hsh _;simp only [dS,cB,Act.put,bV,dQ,bP] at hsh ⊢;refine zAF (i:=1) (v:=?_) rfl zb zb zb (fun _ _ _ h=>h) (SLq.iff zc) hsh (Or.inl ⟨zb,?_⟩) (fun _=>HAd.o) ?_
       rotate_left 1
       ·(intro w9 _;go_simp;try with_reducible rfl)
       intro hsh _;simp only [Dw.lay,Act.put] at hsh ⊢;refine zAF (i:=2) (v:=?_) rfl zb zb zb (fun _ _ _ h=>h) (SLq.iff zc) hsh (Or.inl ⟨zb,?_⟩) (fun _=>HAd.o) ?_
       rotate_left 1
       ·(intro w9 _;go_simp;try with_reducible rfl)
       intro hsh _;simp only [Dw.lay,Act.put] at hsh ⊢;refine zAF (i:=3) (v:=?_) rfl zb zb zb (fun _ _ _ h=>h) (SLq.iff zc) hsh (Or.inl ⟨zb,?_⟩) (fun _=>HAd.o) ?_
       rotate_left 1
       ·(intro w9 _;go_simp;try with_reducible rfl)
       intro hsh _;simp only [Dw.lay,Act.put] at hsh ⊢;refine zAF (i:=4) (v:=?_) rfl zb zb zb (fun _ _ _ h=>h) (SLq.iff zc) hsh (Or.inl ⟨zb,?_⟩) (fun _=>HAd.o) ?_
       rotate_left 1
       ·(intro w9 hw9;have hA:=SLq.ahead (n:=12) zb hw9;obtain ⟨a1,a2⟩:=hA;go_simp;try with_reducible rfl)
       intro hsh _;simp only [Dw.lay,Act.put] at hsh ⊢;refine zAF (i:=5) (v:=?_) rfl zb zb zb (fun _ _ _ h=>h) (SLq.iff zc) hsh (Or.inl ⟨zb,?_⟩) (fun _=>HAd.o) ?_
       rotate_left 1
       ·(intro w9 _;go_simp;try with_reducible rfl)
       intro hsh _;simp only [Dw.lay,Act.put] at hsh ⊢;refine zAF (i:=6) (v:=?_) rfl zb zb zb (fun _ _ _ h=>h) (SLq.iff zc) hsh (Or.inl ⟨zb,?_⟩) (fun _=>HAd.o) ?_
       rotate_left 1
       ·(intro w9 _;go_simp;try with_reducible rfl)
       intro hsh _;simp only [Dw.lay,Act.put] at hsh ⊢;refine zAF (i:=7) (v:=?_) rfl zb zb zb (fun _ _ _ h=>h) (SLq.iff zc) hsh (Or.inl ⟨zb,?_⟩) (fun _=>HAd.o) ?_
       rotate_left 1
       ·(intro w9 hw9;have hA:=SLq.ahead (n:=12) zb hw9;obtain ⟨a1,a2⟩:=hA;go_simp;try with_reducible rfl)
       intro hsh _;simp only [Dw.lay,Act.put] at hsh ⊢;clear hsh;refine zAS (rs:=[8]) zb zg ?_
       refine AllL.cons rfl (fun K hK=>?_) AllL.nil
       go_simp
       refine hK.out _ _ (fun _=>HAa.o) (fun _=>?_)
       clear hK K
       try simp only [Dw.lay,Act.put]
       refine zAS (rs:=[9]) zb zg ?_
       refine AllL.cons rfl (fun K hK=>?_) AllL.nil
       refine step_pushB (k:=1) (enc:=eSt) zy _ _ _ zy elStr w.heap.size vu U zy t1.out wk.heap.size 1 (ofL n:BA) zy t2.out rfl rfl (oneStr _) yk za t4.out ?_
       intro g9 cap9 w9 ho9 hg9;obtain ⟨z0,zs,zf,hm9⟩:=HMa.o.push2 ho9 hg9;have HM9:=zq hm9;have HA9:Hid (w9.cell? ⟨q,1,none⟩=some vu∧w9.cell? ⟨bw,ow+1,none⟩=some (.string (ofL n))):=⟨z0,hg9.cell HAa.o.2 (fun e=>by have h2:bw<wr.heap.size:=HOV.o _ e.symm;have:=HBW.o;omega)⟩
       have zf0:=zf 1;clear hm9 zf ho9 hg9;refine hK.out _ _ (fun _=>HA9.o) (fun _=>?_)
       clear hK K
       try simp only [Dw.lay,Act.put]
       refine zAS (rs:=[10]) zb zg ?_
       refine AllL.cons rfl (fun K hK=>?_) AllL.nil
       go_simp
       refine hK.out _ _ (fun _=>HA9.o) (fun _=>?_)
       clear hK K
       try simp only [Dw.lay,Act.put]
       refine zAS (rs:=[11]) zb zg ?_
       refine AllL.cons rfl (fun K hK=>?_) AllL.nil
       go_simp
       refine hK.out _ _ (fun _=>HA9.o) (fun _=>?_)
       clear hK K
       try simp only [Dw.lay,Act.put]
       refine zAS (rs:=[12]) zb zg ?_
       refine AllL.cons rfl (fun K hK=>?_) AllL.nil
       go_simp
       refine hK.out _ _ (fun h=>absurd h zc) (fun _=>?_)
       clear hK K
       try simp only [Dw.lay,Act.put]
       refine anyL_done zb ?_ _
       obtain ⟨w10,hw10⟩:∃ w10,w10=w9.setCell ⟨q,1,none⟩ (.slice (some ⟨g9,0,none⟩) (U.length+1) cap9):=⟨_,rfl⟩;rw [←hw10] at HM9 ⊢;clear hw10 t1 t2 t4 HAd HAa HMa HMk HA9 z0 zs zf0;have y1:w10.cell? ⟨r,1,none⟩=some (.int .i64 (kk:Int)):=HM9.o.rd.bx.c 1 rfl;have ys:=HM9.o.rd.bx.lt;have yf:=HM9.o.rd.bx.frozen;have HM10:=zq (HM9.o.at hkl);clear HM9
       go_wp2_with fail
       have ek:((kk:Int)+1)=((kk+1:Nat):Int):=za;rw [ek]
       go_roundg (gk - 1)
       case measure=>have:=HMS.o;have:=HKK.o;omega
       case rel=>exact ⟨U++[ofL n],_,by rw [cS,←bS,←HKK.o];exact HM10.o,by rw [cS,←bS,←HKK.o];exact HN.o,by have:=HMS.o;have:=HKK.o;simp;omega⟩
def GivesEq (same:Prop) (w:World) (e:Ending) (w':World):Prop:=∃ r:Bool,e = .returned (.bool r)∧(r=true↔same)∧∃ n,w'=w.drewN n
theorem GivesEq.no {same:Prop} {w w':World} (h:¬ same) (hw:∃ n,w'=w.drewN n):GivesEq same w (.returned (.bool false)) w':=⟨false,rfl,⟨(fun e=>by cases e),fun e=>absurd e h⟩,hw⟩
theorem GivesEq.yes {same:Prop} {w w':World} (h:same) (hw:∃ n,w'=w.drewN n):GivesEq same w (.returned (.bool true)) w':=⟨true,rfl,⟨fun _=>h,fun _=>rfl⟩,hw⟩
def EqRel2 {α:Type} (w:World) (L M:List α) (m:Nat) (i:Value) (wr:World):Prop :=
 ∃ q,wr=w.drewN q∧∃ k:Nat,k+m=L.length∧i = .int .i64 k∧∀ j,j<k→L[j]?=M[j]?
theorem same_of {α:Type} {L M:List α} (hl:L.length=M.length) {k:Nat} (hk:L.length≤k) (h:∀ j,j<k→L[j]?=M[j]?):L=M:=by
 apply List.ext_getElem?
 intro i
 by_cases hi:i<k
 ·exact h i hi
 ·rw [List.getElem?_eq_none za,List.getElem?_eq_none za]
theorem bool_ne {a b:Bool} (h:¬ a=b):(a == b)=false:=by cases a<;>cases b<;>simp_all
end Go.Proofs.YtoaelidmmcbkfaaGreatDoor
