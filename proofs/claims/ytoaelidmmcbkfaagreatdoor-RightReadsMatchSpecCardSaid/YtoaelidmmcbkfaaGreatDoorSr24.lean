/- Parts of the proof, joined: A region that draws its order: what holds behind each operation may ha. -/
import Derived.Test.YtoaelidmmcbkfaaGreatDoorSr23
import Derived.Test.YtoaelidmmcbkfaaGreatDoorSr21
set_option maxRecDepth 100000
set_option maxHeartbeats 8000000
namespace Dw
open Go Go.Proofs.YtoaelidmmcbkfaaGreatDoor
section
variable {P:Program} {ops:Array Oper} {Q:Exit→Act→World→Prop} {md:Region.Mode} {S:Array Bool→World→Prop}
def anyL (P:Program) (md:Region.Mode) (ops:Array Oper) (Q:Exit→Act→World→Prop) (S:Array Bool→World→Prop):Nat→Array Bool→Act→World→Prop
 | 0,l,a,w=>Region.ready md ops l=[]∧Q .normal a w
 | n+1,l,a,w=>(Region.ready md ops l=[]→Q .normal a w) ∧
  ∀ i∈Region.ready md ops l,wpOp P ops Q i (fun a' w'=>S (l.setIfInBounds i true) w'∧anyL P md ops Q S n (l.setIfInBounds i true) a' w') a w
theorem anyL_any:∀ (n:Nat) (l:Array Bool) (a:Act) (w:World),anyL P md ops Q S n l a w→wpAny P md ops Q n l a w
 | 0,_,_,_,h=>h
 | n+1,_,_,_,h=>⟨h.1,fun i hi=>wpOp_mono (fun a' w' h'=>anyL_any n _ a' w' h'.2) (h.2 i hi)⟩
def ShutL (md:Region.Mode) (ops:Array Oper) (l:Array Bool):Prop:=∀ (j:Nat) (o:Oper),ops[j]?=some o→l.getD j false=true→∀ e∈o.after,Region.binds md e=true→l.getD e.on false=true
theorem ShutL.set {l:Array Bool} (h:ShutL md ops l) {j:Nat} (hj:j∈Region.ready md ops l):ShutL md ops (l.setIfInBounds j true):=fun k o ho hk e he hb=>by
 refine getD_set_true ?_
 by_cases hkj:j=k
 ·subst hkj
  obtain ⟨_,o',ho',hall⟩:=mem_ready.1 hj;rw [ho] at ho'
  injection ho' with ho'
  subst ho';exact hall e he hb
 ·rw [getD_set_ne false hkj] at hk
  exact h k o ho hk e he hb
theorem ShutL.start (n:Nat):ShutL md ops (Array.replicate n false):=fun j o _ hj=>by
 exfalso
 rw [Array.getD_eq_getD_getElem?,Array.getElem?_replicate] at hj
 split at hj<;>simp at hj
abbrev Ahead (md:Region.Mode) (ops:Array Oper) (S:Array Bool→World→Prop) (i:Nat):World→Prop:=fun w=>∃ l,ShutL md ops l∧l.getD i true=false∧S l w
theorem anyL_first {i:Nat} {oi:Oper} {v:Value} (hi:ops[i]?=some oi) (hsel:∀ (j:Nat) (o:Oper) cs b,ops[j]?=some o→o.op≠.select cs b)
  (hQ:∀ c a w,Q (.panic c) (a.put oi.dst v) w→Q (.panic c) a w) (hSi:∀ l w,S (l.setIfInBounds i true) w↔S l w) :
  ∀ (fuel:Nat) (l:Array Bool) (a:Act) (w:World),ShutL md ops l →
   (∀ j oj,ops[j]?=some oj→j≠i→l.getD j true=false→(∀ e∈oj.after,Region.binds md e=true→e.on≠i)→oi.apart ops oj=true) →
   i∈Region.ready md ops l→YieldsIf P ops (Ahead md ops S i) oi v a→S l w →
   anyL P md ops Q S fuel (l.setIfInBounds i true) (a.put oi.dst v) w→anyL P md ops Q S (fuel+1) l a w:=by
 intro fuel
 induction fuel with
 | zero =>
  intro l a w hsh _ hr hy hS H;refine ⟨fun h=>(by rw [h] at hr;cases hr),fun j hj=>?_⟩
  by_cases hji:j=i
  ·subst hji
   exact hy.wpOp hi ⟨l,hsh,(mem_ready.1 hr).1,hS⟩ ⟨(hSi _ _).2 hS,H⟩
  ·have:=ready_mono hj hji
   rw [H.1] at this
   cases this
 | succ fuel ih =>
  intro l a w hsh hfree hr hy hS H;refine ⟨fun h=>(by rw [h] at hr;cases hr),fun j hj=>?_⟩
  by_cases hji:j=i
  ·subst hji
   exact hy.wpOp hi ⟨l,hsh,(mem_ready.1 hr).1,hS⟩ ⟨(hSi _ _).2 hS,H⟩
  ·have h1:=H.2 j (ready_mono hj hji)
   obtain ⟨hjun,oj,hoj,hall⟩:=mem_ready.1 hj
   have hnot:∀ e∈oj.after,Region.binds md e=true→e.on≠i:=fun e he hb heq=>by
    have h1:=hall e he hb;have h0:=(mem_ready.1 hr).1;rw [heq] at h1
    rcases bO i l.size with h' | h'
    ·simp [h'] at h0 h1;rw [h0] at h1;cases h1
    ·simp [Array.getElem?_eq_none h'] at h1
   have h2:=wpOp_putIf hoj (hfree j oj hoj hji hjun hnot) (fun cs b=>hsel i oi cs b hi) (fun cs b=>hsel j oj cs b hoj) hQ hy h1
   have hfree':∀ k ok,ops[k]?=some ok→k≠i→(l.setIfInBounds j true).getD k true=false →
     (∀ e∈ok.after,Region.binds md e=true→e.on≠i)→oi.apart ops ok=true:=fun k ok hk hki hun hno=>by
    refine hfree k ok hk hki ?_ hno
    by_cases hjk:j=k
    ·subst hjk;exact hjun
    ·rw [getD_set_ne true hjk] at hun;exact hun
   refine wpOp_mono (fun a' w' h3=>?_) h2
   have hs3:S (l.setIfInBounds j true) w':=by
    have:=h3.2.1;rw [Array.setIfInBounds_comm _ _ (fun e=>hji e.symm)] at this
    exact (hSi _ _).1 this
   refine ⟨hs3,ih (l.setIfInBounds j true) a' w' (hsh.set hj) hfree' (ready_mono hr (Ne.symm hji)) h3.1 hs3 ?_⟩
   rw [Array.setIfInBounds_comm _ _ hji];exact h3.2.2
theorem zAx {i:Nat} {oi:Oper} {v:Value} {fuel:Nat} {l:Array Bool} {a:Act} {w:World} (hi:ops[i]?=some oi)
  (hs:Region.noSelect ops=true) (hf:Region.free md ops l i=true) (hr:(Region.ready md ops l).contains i=true)
  (hQ:∀ c a w,Q (.panic c) (a.put oi.dst v) w→Q (.panic c) a w) (hSi:∀ l w,S (l.setIfInBounds i true) w↔S l w) (hsh:ShutL md ops l) (hy:YieldsIf P ops (Ahead md ops S i) oi v a) (hS:S l w)
  (h:ShutL md ops (l.setIfInBounds i true)→S (l.setIfInBounds i true) w→anyL P md ops Q S fuel (l.setIfInBounds i true) (a.put oi.dst v) w):anyL P md ops Q S (fuel+1) l a w :=
 anyL_first hi (Region.noSelect_spec hs) hQ hSi fuel l a w hsh (Region.free_spec hi hf) (by simpa using hr) hy hS (h (hsh.set (by simpa using hr)) ((hSi _ _).2 hS))
def zCX (P:Program) (md:Region.Mode) (ops:Array Oper) (Q:Exit→Act→World→Prop) (S:Array Bool→World→Prop) (fuel:Nat) (l:Array Bool) (a:Act) (w:World) (rs:List Nat):Prop :=
 ∀ i∈rs,wpOp P ops Q i (fun a' w'=>S (l.setIfInBounds i true) w'∧anyL P md ops Q S fuel (l.setIfInBounds i true) a' w') a w
theorem zCX.nil {fuel:Nat} {l:Array Bool} {a:Act} {w:World}:zCX P md ops Q S fuel l a w []:=fun _ h=>zy
theorem zCX.cons {fuel:Nat} {l:Array Bool} {a:Act} {w:World} {i:Nat} {o:Oper} {rs:List Nat} (ho:ops[i]?=some o)
  (h:∀ K':Act→World→Prop,Shut (∀ a w,S (l.setIfInBounds i true) w→(S (l.setIfInBounds i true) w→anyL P md ops Q S fuel (l.setIfInBounds i true) a w)→K' a w)→if Region.wanted o (yielded ops a.tmps)=true then Oper.wp P o a w K' Q else K' (a.put o.dst undef) w)
  (hs:zCX P md ops Q S fuel l a w rs):zCX P md ops Q S fuel l a w (i::rs):=fun j hj=>by
 rcases List.mem_cons.1 hj with rfl | hj
 ·exact wpOp_step ho (fun K' hK=>h K' (fun a w hS hW=>hK a w ⟨hS,hW hS⟩))
 ·exact hs j hj
theorem zAI {rs:List Nat} {fuel:Nat} {l:Array Bool} {a:Act} {w:World} (hr:Region.ready md ops l=rs) (hne:rs≠[]) (h:zCX P md ops Q S fuel l a w rs):anyL P md ops Q S (fuel+1) l a w :=
 ⟨fun h0=>absurd (hr▸h0) hne,hr▸h⟩
theorem anyL_done {l:Array Bool} {a:Act} {w:World} (hr:Region.ready md ops l=[]) (h:Q .normal a w):∀ fuel,anyL P md ops Q S fuel l a w
 | 0=>⟨hr,h⟩
 | _+1=>⟨fun _=>h,by rw [hr];simp⟩
theorem zCn {id:Nat} {a:Act} {w:World} (hm:P.follows .mixedOrders=true) (hS:S (Array.replicate ops.size false) w.drew)
  (h:ShutL .any ops (Array.replicate ops.size false)→S (Array.replicate ops.size false) w.drew→anyL P .any ops Q S ops.size (Array.replicate ops.size false) a w.drew):(Code.region id ops true).wp P Q a w :=
 wp_region_any hm (anyL_any _ _ _ _ (h (ShutL.start _) hS))
theorem ShutL.back {l:Array Bool} (h:ShutL .any ops l) {i j:Nat} (hd:depB ops i j=true) (hj:l.getD j false=false):l.getD i false=false:=by
 cases hli:l.getD i false with
 | false=>rfl
 | true =>
  have h2:l.getD j false=true:=zBv (done:=fun k=>l.getD k false) hd (fun o ho e he hb=>h i o ho hli e he hb)
  rw [hj] at h2
  cases h2
theorem getD_ft {l:Array Bool} {j:Nat} (h:l.getD j true=false):l.getD j false=false:=by
 rw [Array.getD_eq_getD_getElem?] at h ⊢
 cases he:l[j]? with
 | none=>rfl
 | some b=>rw [he] at h;simpa using h
end
end Dw
namespace Go.Proofs.YtoaelidmmcbkfaaGreatDoor
open Go.RowKit Dw
abbrev eRg:Rg→List Value:=fun x=>[.string x.nm,.string x.par]
theorem elRg:ElemT Tryz.prog 22 56 (.agg #[.string ⟨#[]⟩,.string ⟨#[]⟩]) 2 32:=⟨Tryz.underlying22,zb,rfl,zc⟩
theorem oneRg (x:Rg):∀ u∈eRg x,u.oneCell'=true:=zu
theorem oneStr (x:BA):∀ u∈eSt x,u.oneCell'=true:=zu
theorem GOK.belB {B:Nat} {w w1:World} (hG:GOK w) (h:Below B w w1) (hB:gkB<B):GOK w1:=by
 obtain ⟨m,hm⟩:=hG;refine ⟨m,?_⟩
 unfold World.cell? at hm ⊢;rw [h.block _ hB];exact hm
def SLq (n:Nat) (A:World→Prop) (l:Array Bool) (w:World):Prop:=l.getD n false=false→A w
theorem SLq.iff {n i:Nat} {A:World→Prop} (h:i≠n) (l:Array Bool) (w:World):SLq n A (l.setIfInBounds i true) w↔SLq n A l w:=by
 unfold SLq;rw [getD_set_ne false h]
theorem SLq.ahead {n i:Nat} {A:World→Prop} {ops:Array Oper} {w:World} (hd:depB ops n i=true) (h:Ahead .any ops (SLq n A) i w):A w:=by
 obtain ⟨l,hs,h1,h2⟩:=h;exact h2 (hs.back hd (getD_ft h1))
abbrev hdC (v1 v2:Value):Array Value:=#[v1,v2,.slice none 0 0]
structure HdS (w:World) (B0 r q:Nat) (LA:Option Addr):Prop where
 br:B0≤r
 bq:B0≤q
 ne:r≠q
 rl:r<w.heap.size
 ql:q<w.heap.size
 la:∀ b o,LA=some ⟨b,o,none⟩→b<w.heap.size∧b≠q
structure HdM (w:World) (B0 r q:Nat) (LA:Option Addr) (c:Nat) (L:List Ln) (T1:List Rg) (v1:Value) (T2:List BA) (v2:Value) (k:Nat) (wr:World):Prop where
 st:HdS w B0 r q LA
 bx:Bx wr q (hdC v1 v2) 26
 o1:zAF eRg 2 wr w.heap.size 56 v1 T1
 o2:zAF eSt 1 wr w.heap.size 9 v2 T2
 rd:RdI wr r LA c L k false
 bel:Below B0 w wr
section
variable {w wr w4 w9 w':World} {B0 r q c k g cap:Nat} {LA:Option Addr} {L:List Ln} {T1:List Rg} {v1:Value} {T2:List BA} {v2:Value}
theorem HdM.below (h:HdM w B0 r q LA c L T1 v1 T2 v2 k wr) (hb:Below wr.heap.size wr w'):HdM w B0 r q LA c L T1 v1 T2 v2 k w' :=
 ⟨h.st,h.bx.below hb,h.o1.below hb,h.o2.below hb,h.rd.below hb,h.bel.trans (hb.mono (by have:=h.bx.lt;have:=h.st.bq;omega))⟩
theorem HdM.size (h:HdM w B0 r q LA c L T1 v1 T2 v2 k wr):w.heap.size≤wr.heap.size:=h.bel.size
theorem HdM.push1 {x:Rg} (h:HdM w B0 r q LA c L T1 v1 T2 v2 k w4) (ho:zAF eRg 2 w9 w.heap.size 56 (.slice (some ⟨g,0,none⟩) (T1.length+1) cap) (T1++[x])) (hg:w4.grownBy w9 v1.ownBlock) :
  w9.cell? ⟨q,0,none⟩=some v1∧q<w9.heap.size∧(∀ i,w9.frozen? ⟨q,i,none⟩=false)∧HdM w B0 r q LA c L (T1++[x]) (.slice (some ⟨g,0,none⟩) (T1.length+1) cap) T2 v2 k (w9.setCell ⟨q,0,none⟩ (.slice (some ⟨g,0,none⟩) (T1.length+1) cap)):=by
 have hs:=h.st;have hb:Below w.heap.size w4 w9:=(bS _ _).grown hg h.size (fun j hj=>(bT h.o1 j hj).1)
 have hx:Bx w9 q (hdC v1 v2) 26:=(hb.block q hs.ql).trans h.bx;have g2:=zAn w9 ⟨q,0,none⟩ (.slice (some ⟨g,0,none⟩) (T1.length+1) cap);have h2:zAF eSt 1 w9 w.heap.size 9 v2 T2:=h.o2.grown hg (zBl h.o2 h.o1 zc);refine ⟨hx.c 0 rfl,hx.lt,hx.frozen,hs,hx.set 0 _,ho.grown g2 (zAR ho hs.ql),h2.grown g2 (zAR h2 hs.ql),?_,?_⟩
 ·exact (h.rd.taken hb hs.rl fun b o e=>(hs.la b o e).1).grown g2 hs.ne fun b o e=>(hs.la b o e).2
 ·exact dP (h.bel.trans (hb.mono (by have:=hs.bq;have:=hs.ql;omega))) hs.bq _
theorem HdM.push2 {x:BA} (h:HdM w B0 r q LA c L T1 v1 T2 v2 k w4) (ho:zAF eSt 1 w9 w.heap.size 9 (.slice (some ⟨g,0,none⟩) (T2.length+1) cap) (T2++[x])) (hg:w4.grownBy w9 v2.ownBlock) :
  w9.cell? ⟨q,1,none⟩=some v2∧q<w9.heap.size∧(∀ i,w9.frozen? ⟨q,i,none⟩=false)∧HdM w B0 r q LA c L T1 v1 (T2++[x]) (.slice (some ⟨g,0,none⟩) (T2.length+1) cap) k (w9.setCell ⟨q,1,none⟩ (.slice (some ⟨g,0,none⟩) (T2.length+1) cap)):=by
 have hs:=h.st;have hb:Below w.heap.size w4 w9:=(bS _ _).grown hg h.size (fun j hj=>(bT h.o2 j hj).1)
 have hx:Bx w9 q (hdC v1 v2) 26:=(hb.block q hs.ql).trans h.bx;have g2:=zAn w9 ⟨q,1,none⟩ (.slice (some ⟨g,0,none⟩) (T2.length+1) cap);have h2:zAF eRg 2 w9 w.heap.size 56 v1 T1:=h.o1.grown hg (zBl h.o1 h.o2 zc);refine ⟨hx.c 1 rfl,hx.lt,hx.frozen,hs,hx.set 1 _,h2.grown g2 (zAR h2 hs.ql),ho.grown g2 (zAR ho hs.ql),?_,?_⟩
 ·exact (h.rd.taken hb hs.rl fun b o e=>(hs.la b o e).1).grown g2 hs.ne fun b o e=>(hs.la b o e).2
 ·exact dP (h.bel.trans (hb.mono (by have:=hs.bq;have:=hs.ql;omega))) hs.bq _
theorem HdM.at (h:HdM w B0 r q LA c L T1 v1 T2 v2 k wr) (hk:k<L.length):HdM w B0 r q LA c L T1 v1 T2 v2 (k+1) (wr.setCell ⟨r,1,none⟩ (.int .i64 ((k+1:Nat):Int))):=by
 have hs:=h.st;have g2:=zAn wr ⟨r,1,none⟩ (.int .i64 ((k+1:Nat):Int));exact ⟨hs,(g2.block q h.bx.lt fun e=>hs.ne (dR e).symm).trans h.bx,h.o1.grown g2 (zAR h.o1 hs.rl),h.o2.grown g2 (zAR h.o2 hs.rl),h.rd.setk hk,dP h.bel hs.br _⟩
end
def rg1 (M:List Ln):Option Rg:=match wdF [] zBw 3 M with
 | some [_,n,p]=>if rowL n=true∧(rowL p=true∨p=[45]) then some ⟨ofL n,if p=[45] then emp else ofL p⟩ else none
 | _=>none
theorem zDq (M:List Ln):(zAT M).1=match rg1 M with
  | some x=>x::(zAT M.tail).1
  | none=>[]:=by
 cases M with
 | nil=>rfl
 | cons l r =>
  rw [zAT];unfold rg1
  cases h:wdF [] zBw 3 (l::r) with
  | none=>rfl
  | some W =>
   match W with
   | []=>rfl
   | [_]=>rfl
   | [_,_]=>rfl
   | _::_::_::_::_=>rfl
   | [a,n,p] =>
    simp only
    split<;>rfl
theorem usesX_step (M:List Ln):(zAQ [] zCr M).1=match zDk [] zCr M with
  | some x=>ofL x::(zAQ [] zCr M.tail).1
  | none=>[]:=by
 cases M with
 | nil=>rfl
 | cons l r =>
  rw [usesX_try]
  cases zDk [] zCr (l::r)<;>rfl
def Hd1 (w:World) (B0 r q:Nat) (LA:Option Addr) (c:Nat) (L:List Ln) (k:Nat) (all:List Rg) (m:Nat) (wr:World):Prop :=
 ∃ (T:List Rg) (v:Value),HdM w B0 r q LA c L T v [] (.slice none 0 0) (k+T.length) wr∧T++(zAT (L.drop (k+T.length))).1=all∧k+T.length+m=L.length+1
def Hd2 (w:World) (B0 r q:Nat) (LA:Option Addr) (c:Nat) (L:List Ln) (T1:List Rg) (v1:Value) (k:Nat) (all:List BA) (m:Nat) (wr:World):Prop :=
 ∃ (T:List BA) (v:Value),HdM w B0 r q LA c L T1 v1 T v (k+T.length) wr∧T++(zAQ [] zCr (L.drop (k+T.length))).1=all∧k+T.length+m=L.length+1
def GivesHd (w:World) (B0 r q:Nat) (LA:Option Addr) (c:Nat) (L:List Ln) (rs:List Rg) (us:List BA) (k:Nat) (e:Ending) (w':World):Prop :=
 e = .returned (.tuple #[])∧∃ v1 v2,HdM w B0 r q LA c L rs v1 us v2 k w'
theorem head_c (B0 r q:Nat) (LA:Option Addr) (c:Nat) (L:List Ln) (w:World) (h:RdI w r LA c L 0 false) (hq:Bx w q (hdC (.slice none 0 0) (.slice none 0 0)) 26) (hG:GOK w) (hg:gkB<B0) (hs:HdS w B0 r q LA) :
  Calls Tryz.prog 11 #[.pointer (some ⟨r,0,none⟩),.pointer (some ⟨q,0,none⟩)] w
   (GivesHd w B0 r q LA c L (zAT L).1 (zAQ [] zCr (zAT L).2).1 ((zAT L).1.length+(zAQ [] zCr (zAT L).2).1.length)):=by
 have HG0:=zq hG;have HS0:=zq hs;have hmany:=h.many;have HM0:Hid (HdM w B0 r q LA c L [] (.slice none 0 0) [] (.slice none 0 0) 0 w):=⟨hs,hq,zAF.nil _ _ _ _ _,zAF.nil _ _ _ _ _,h,bS _ _⟩;obtain ⟨all,hall⟩:∃ all,all=(zAT L).1:=⟨_,rfl⟩;obtain ⟨all2,hall2⟩:∃ all2,all2=(zAQ [] zCr (zAT L).2).1:=⟨_,rfl⟩;have HALL:=zq hall
 have HALL2:Hid (all2=(zAQ [] zCr (L.drop all.length)).1):=by
  show _=_
  rw [hall2,hall,←zDp]
 rw [←hall,←hall2];clear h hq hG hs hall hall2
 go_enter Tryz.func11,Tryz.ntmps11
 go_wp2_with fail
 go_loopg [] (L.length+1) (Hd1 w B0 r q LA c L 0 all)
 case atStart=>exact ⟨[],_,HM0.o,HALL.o.symm,zd⟩
 case round =>
  obtain ⟨T,v,hm,hal,hms⟩:=hrel;rw [bJ] at hm hal hms;have HM:=zq hm;have HA1:=zq hal;have HMS:=zq hms;have hTl:T.length≤600000:=j5;obtain ⟨k,hk⟩:∃ k,k=T.length:=⟨_,rfl⟩;have HKE:=zq hk;rw [←hk] at HM HA1;clear hm hal hms hk
  have HW:Hid (Calls Tryz.prog 27 #[.pointer (some ⟨r,0,none⟩),.string ⟨#[]⟩,.string ⟨#[114,101,103,105,111,110]⟩,.int .i64 3] wr (zBK (wdO false [] zBw 3 (L.drop k)) wr)) :=
   zEt r LA c L k false ⟨#[]⟩ ⟨#[114,101,103,105,111,110]⟩ 3 wr HM.o.rd (HG0.o.belB HM.o.bel hg) zc
  have HF1:Hid (rg1 (L.drop k)=match wdO false [] zBw 3 (L.drop k) with
   | some [_,n,p]=>if rowL n=true∧(rowL p=true∨p=[45]) then some ⟨ofL n,if p=[45] then emp else ofL p⟩ else none
   | _=>none):=rfl
  have HNO:Hid (rg1 (L.drop k)=none→T=all):=fun h=>by
   rw [←HA1.o,zDq,h,aD]
  have HYES:Hid (∀ x,rg1 (L.drop k)=some x→(T++[x])++(zAT (L.drop (k+1))).1=all):=fun x h=>by
   rw [←HA1.o,zDq (L.drop k),h];simp only [cC,dI,zAX]
  have HWT:Hid (∀ W,wdO false [] zBw 3 (L.drop k)=some W→k<L.length∧∃ n p,W=[zBw,n,p]∧n.length≤600000∧p.length≤600000):=fun W hW=>by
   obtain ⟨_,n,p,hn⟩:=wdO_three hW;refine ⟨zBi (zEs vo),n,p,hn,?_,?_⟩
   ·exact zCI (m:=3) HM.o.rd.drops (show wdF [] zBw 3 (L.drop k)=some W from hW) vj
   ·exact zCI (m:=3) HM.o.rd.drops (show wdF [] zBw 3 (L.drop k)=some W from hW) vj
  generalize rg1 (L.drop k)=ans at *;generalize wdO false [] zBw 3 (L.drop k)=res at *;clear HA1 HALL
  go_wp2_with fail
  with_reducible refine HW.o.mono ?_
  rintro e w1 ⟨A,c1,rfl,hst,hb1⟩;have HM1:=zq (HM.o.below hb1);have HB1:=zq hb1.size;have HST:=zq hst;have HOV:Hid (∀ j,v.ownBlock=some j→j<wr.heap.size):=fun j hj=>(bT HM.o.o1 j hj).2
  obtain ⟨nW,hnW⟩:∃ nW,nW=(res.getD []).length:=⟨_,rfl⟩;rw [←hnW];have HNW:=zq hnW;clear hst hb1 HW HM hnW;go_upto_region 1 with fail
  go_cut [35] (fun sv wx=>∃ b,sv = .bool b∧HdM w B0 r q LA c L T v [] (.slice none 0 0) k wx∧(b=true→ans=none) ∧
   (b=false→k<L.length∧∃ bw ow n p,A=some ⟨bw,ow,none⟩∧ans=some ⟨ofL n,if p=[45] then emp else ofL p⟩∧wx.cell? ⟨bw,ow+1,none⟩=some (.string (ofL n))∧wx.cell? ⟨bw,ow+2,none⟩=some (.string (ofL p))∧wr.heap.size≤bw∧nW=3))
  case first =>
   cases res with
   | none =>
    have HA:Hid (ans=none):=HF1.o;clear HNO HYES HWT HST HF1
    go_wp2_with fail
    go_meet;exact ⟨true,zk,HM1.o,(fun _=>HA.o),(fun h=>zy)⟩
   | some W =>
    obtain ⟨hkl,n,p,rfl,hnl,hpl⟩:=HWT.o W rfl;obtain rfl:nW=3:=HNW.o;obtain ⟨hlo,hst⟩:=HST.o _ rfl;obtain ⟨bw,ow,hA2,hc2⟩:=hst zd;subst hA2;have HBW:Hid (wr.heap.size≤bw):=hlo bw ow rfl;have c1':w1.cell? ⟨bw,ow+1,none⟩=some (.string (ofL n)):=hc2 1 zd;have c2':w1.cell? ⟨bw,ow+2,none⟩=some (.string (ofL p)):=hc2 2 zd;have HR:=zq (isRow_c (ofL n) w1 zr);rw [zAj] at HR;have HF2:Hid (ans=if rowL n=true∧(rowL p=true∨p=[45]) then some ⟨ofL n,if p=[45] then emp else ofL p⟩ else none):=HF1.o
    generalize rowL n=b1 at *;clear hc2 hst hlo HST HWT HF1
    go_wp2_with fail
    with_reducible refine HR.o.mono ?_
    rintro e w2 ⟨rfl,hb2⟩;have HM2:=zq (HM1.o.below hb2);have d1:=zAh hb2 c1';have d2:=zAh hb2 c2';clear hb2 HR HM1 c1' c2'
    cases b1 with
    | false =>
     have HA:Hid (ans=none):=vl;clear HF2 HNO HYES
     go_wp2_with fail
     go_meet;exact ⟨true,zk,HM2.o,(fun _=>HA.o),(fun h=>zy)⟩
    | true =>
     have HR2:=zq (isRow_c (ofL p) w2 zr);rw [zAj] at HR2;generalize rowL p=b2 at *
     go_wp2_with fail
     with_reducible refine HR2.o.mono ?_
     rintro e w3 ⟨rfl,hb3⟩;have HM3:=zq (HM2.o.below hb3);have e1:=zAh hb3 d1;have e2:=zAh hb3 d2;clear hb3 HR2 HM2 d1 d2
     cases b2 with
     | true =>
      have HA:Hid (ans=some ⟨ofL n,if p=[45] then emp else ofL p⟩):=by show _=_;rw [HF2.o,aE zd]
      have E1:=zq e1;have E2:=zq e2;clear HF2 HNO HYES
      go_wp2_with fail
      go_meet;exact ⟨false,zk,HM3.o,(fun h=>zy),fun _=>⟨hkl,bw,ow,n,p,zk,HA.o,E1.out,E2.out,HBW.o,zk⟩⟩
     | false =>
      by_cases hp:p=[45]
      ·have HA:Hid (ans=some ⟨ofL n,if p=[45] then emp else ofL p⟩):=by show _=_;rw [HF2.o,aE (by simp [hp])]
       have q1:((ofL p).toList == [45])=true:=lit_eq (by rw [zAj,hp])
       have E1:=zq e1;have E2:=zq e2;clear HF2 HNO HYES hp
       go_wp2_with fail
       go_meet;exact ⟨false,zk,HM3.o,(fun h=>zy),fun _=>⟨hkl,bw,ow,n,p,zk,HA.o,E1.out,E2.out,HBW.o,zk⟩⟩
      ·have HA:Hid (ans=none):=by
        show _=_
        rw [HF2.o,aC];rintro ⟨_,h | h⟩
        ·cases h
        ·exact hp h
       have q1:((ofL p).toList == [45])=false:=lit_ne (by rw [zAj];exact hp)
       clear HF2 HNO HYES hp
       go_wp2_with fail
       go_meet;exact ⟨true,zk,HM3.o,(fun _=>HA.o),(fun h=>zy)⟩
  case rest =>
   obtain ⟨b,rfl,hm,hbt,hbf⟩:=hcut;have HM:=zq hm
   cases b with
   | false =>
    obtain ⟨hkl,bw,ow,n,p,rfl,hans,e1,e2,hbw,rfl⟩:=hbf rfl;obtain ⟨par,hpar⟩:∃ par,par=if p=[45] then emp else ofL p:=⟨_,rfl⟩
    rw [←hpar] at hans;have HN:=zq (HYES.o _ hans);obtain ⟨tb,htb⟩:∃ tb,tb=decide (p=[45]):=⟨_,rfl⟩;have HP:Hid (par=if tb=true then emp else ofL p):=by show _=_;rw [hpar,htb];by_cases h:p=[45]<;>simp [h]
    have q1:((ofL p).toList == [45])=tb:=by
     rw [htb]
     by_cases h:p=[45]
     ·rw [cP h];exact lit_eq (by rw [zAj,h])
     ·rw [cQ h];exact lit_ne (by rw [zAj];exact h)
    have E1:=zq e1;clear hm hbt hbf HNO HYES HWT HST HF1 HM1 hans htb hpar;go_upto_if 40 with fail
    go_cut [6] (fun pv wx=>pv = .string par∧wx=wc)
    case first =>
     cases tb with
     | true =>
      go_wp2_with fail
      go_meet;exact ⟨by rw [HP.o];rfl,rfl⟩
     | false =>
      go_wp2_with fail
      go_meet;exact ⟨by rw [HP.o];rfl,rfl⟩
    case rest =>
     obtain ⟨rfl,rfl⟩:=hcut;clear e1 e2 q1;obtain ⟨wk,hwk⟩:∃ wk,wk=wc.drew:=⟨_,rfl⟩;have HMk:Hid (HdM w B0 r q LA c L T v [] (.slice none 0 0) k wk):=by show HdM _ _ _ _ _ _ _ _ _ _ _ _ _;rw [hwk];exact HM.o.below (zAc (bS _ _) 1)
     have HAd:Hid (wk.cell? ⟨q,0,none⟩=some v∧wk.cell? ⟨bw,ow+1,none⟩=some (.string (ofL n))):=⟨HMk.o.bx.c 0 rfl,by rw [hwk];exact zAh (zAc (bS _ _) 1) E1.out⟩
     have hba:Below wk.heap.size wk (wk.alloc (.cells #[.string (ofL n),.string par] 56)):=(bS _ _).alloc (aB _) _;have HAa:Hid ((wk.alloc (.cells #[.string (ofL n),.string par] 56)).cell? ⟨q,0,none⟩=some v∧(wk.alloc (.cells #[.string (ofL n),.string par] 56)).cell? ⟨bw,ow+1,none⟩=some (.string (ofL n))):=⟨zAh hba HAd.o.1,zAh hba HAd.o.2⟩;have HMa:=zq (HMk.o.below hba);have t1:Hid (zAF eRg 2 (wk.alloc (.cells #[.string (ofL n),.string par] 56)) w.heap.size 56 v T):=HMa.o.o1;have t2:Hid ((wk.alloc (.cells #[.string (ofL n),.string par] 56)).heap[wk.heap.size]?=some (.cells #[.string (ofL n),.string par] 56 (0,0))):=cI wk _;have t4:Hid (w.heap.size≤(wk.alloc (.cells #[.string (ofL n),.string par] 56)).heap.size):=HMa.o.size;clear hba E1 HM;go_upto_region 5 with fail
     refine zCn (S:=SLq 14 (fun w'=>w'.cell? ⟨q,0,none⟩=some v∧w'.cell? ⟨bw,ow+1,none⟩=some (.string (ofL n)))) zb (fun _=>xh) ?_
     intro hsh _;rw [←hwk];clear hwk;refine zAx (i:=0) (v:=?_) rfl zb zb zb (fun _ _ _ h=>h) (SLq.iff zc) hsh (Or.inl ⟨zb,?_⟩) (fun _=>HAd.o) ?_
     rotate_left 1
     ·(intro w9 _;go_simp;try with_reducible rfl)
     intro hsh _;simp only [eB,cN,Act.put,cF,dY,bV] at hsh ⊢;refine zAx (i:=1) (v:=?_) rfl zb zb zb (fun _ _ _ h=>h) (SLq.iff zc) hsh (Or.inl ⟨zb,?_⟩) (fun _=>HAd.o) ?_
     rotate_left 1
     ·(intro w9 _;go_simp;try with_reducible rfl)
     intro hsh _;simp only [Dw.lay,Act.put] at hsh ⊢;refine zAx (i:=2) (v:=?_) rfl zb zb zb (fun _ _ _ h=>h) (SLq.iff zc) hsh (Or.inl ⟨zb,?_⟩) (fun _=>HAd.o) ?_
     rotate_left 1
     ·(intro w9 _;go_simp;try with_reducible rfl)
     intro hsh _;simp only [Dw.lay,Act.put] at hsh ⊢;refine zAx (i:=3) (v:=?_) rfl zb zb zb (fun _ _ _ h=>h) (SLq.iff zc) hsh (Or.inl ⟨zb,?_⟩) (fun _=>HAd.o) ?_
     rotate_left 1
     ·(intro w9 _;go_simp;try with_reducible rfl)
     intro hsh _;simp only [Dw.lay,Act.put] at hsh ⊢;refine zAx (i:=4) (v:=?_) rfl zb zb zb (fun _ _ _ h=>h) (SLq.iff zc) hsh (Or.inl ⟨zb,?_⟩) (fun _=>HAd.o) ?_
     rotate_left 1
     ·(intro w9 hw9;have hA:=SLq.ahead (n:=14) zb hw9;obtain ⟨a1,a2⟩:=hA;go_simp;try with_reducible rfl)
     intro hsh _;simp only [Dw.lay,Act.put] at hsh ⊢;refine zAx (i:=5) (v:=?_) rfl zb zb zb (fun _ _ _ h=>h) (SLq.iff zc) hsh (Or.inl ⟨zb,?_⟩) (fun _=>HAd.o) ?_
     rotate_left 1
     ·(intro w9 _;go_simp;try with_reducible rfl)
     intro hsh _;simp only [Dw.lay,Act.put] at hsh ⊢;refine zAx (i:=6) (v:=?_) rfl zb zb zb (fun _ _ _ h=>h) (SLq.iff zc) hsh (Or.inl ⟨zb,?_⟩) (fun _=>HAd.o) ?_
     rotate_left 1
     ·(intro w9 _;go_simp;try with_reducible rfl)
     intro hsh _;simp only [Dw.lay,Act.put] at hsh ⊢;refine zAx (i:=7) (v:=?_) rfl zb zb zb (fun _ _ _ h=>h) (SLq.iff zc) hsh (Or.inl ⟨zb,?_⟩) (fun _=>HAd.o) ?_
     rotate_left 1
     ·(intro w9 hw9;have hA:=SLq.ahead (n:=14) zb hw9;obtain ⟨a1,a2⟩:=hA;go_simp;try with_reducible rfl)
     intro hsh _;simp only [Dw.lay,Act.put] at hsh ⊢;refine zAx (i:=8) (v:=?_) rfl zb zb zb (fun _ _ _ h=>h) (SLq.iff zc) hsh (Or.inl ⟨zb,?_⟩) (fun _=>HAd.o) ?_
     rotate_left 1
     ·(intro w9 _;go_simp;try with_reducible rfl)
     intro hsh _;simp only [Dw.lay,Act.put] at hsh ⊢;refine zAx (i:=9) (v:=?_) rfl zb zb zb (fun _ _ _ h=>h) (SLq.iff zc) hsh (Or.inl ⟨zb,?_⟩) (fun _=>HAd.o) ?_
     rotate_left 1
     ·(intro w9 _;go_simp;try with_reducible rfl)
     intro hsh _;simp only [Dw.lay,Act.put] at hsh ⊢;clear hsh;refine zAI (rs:=[10]) zb zd ?_
     refine zCX.cons rfl (fun K hK=>?_) zCX.nil
     go_simp
     refine hK.out _ _ (fun _=>HAa.o) (fun _=>?_)
     clear hK K
     try simp only [Dw.lay,Act.put]
     refine zAI (rs:=[11]) zb zd ?_
     refine zCX.cons rfl (fun K hK=>?_) zCX.nil
     refine zEa (k:=2) (enc:=eRg) zo _ _ _ zo elRg w.heap.size v T zo t1.out wk.heap.size 1 (⟨ofL n,par⟩:Rg) zo t2.out rfl rfl (oneRg _) zt za t4.out ?_
     intro g9 cap9 w9 ho9 hg9;obtain ⟨z0,zs,zf,hm9⟩:=HMa.o.push1 ho9 hg9;have HM9:=zq hm9;have HA9:Hid (w9.cell? ⟨q,0,none⟩=some v∧w9.cell? ⟨bw,ow+1,none⟩=some (.string (ofL n))):=⟨z0,hg9.cell HAa.o.2 (fun e=>by have h2:bw<wr.heap.size:=HOV.o _ e.symm;omega)⟩
     have zf0:=zf 0;clear hm9 zf ho9 hg9;refine hK.out _ _ (fun _=>HA9.o) (fun _=>?_)
     clear hK K
     try simp only [Dw.lay,Act.put]
     refine zAI (rs:=[12]) zb zd ?_
     refine zCX.cons rfl (fun K hK=>?_) zCX.nil
     go_simp
     refine hK.out _ _ (fun _=>HA9.o) (fun _=>?_)
     clear hK K
     try simp only [Dw.lay,Act.put]
     refine zAI (rs:=[13]) zb zd ?_
     refine zCX.cons rfl (fun K hK=>?_) zCX.nil
     go_simp
     refine hK.out _ _ (fun _=>HA9.o) (fun _=>?_)
     clear hK K
     try simp only [Dw.lay,Act.put]
     refine zAI (rs:=[14]) zb zd ?_
     refine zCX.cons rfl (fun K hK=>?_) zCX.nil
     go_simp
     refine hK.out _ _ (fun h=>absurd h zc) (fun _=>?_)
     clear hK K
     try simp only [Dw.lay,Act.put]
     refine anyL_done zb ?_ _
     obtain ⟨w10,hw10⟩:∃ w10,w10=w9.setCell ⟨q,0,none⟩ (.slice (some ⟨g9,0,none⟩) (T.length+1) cap9):=⟨_,rfl⟩;rw [←hw10] at HM9 ⊢;clear hw10 t1 t2 t4 HAd HAa HMa HMk HA9 z0 zs zf0;have y1:w10.cell? ⟨r,1,none⟩=some (.int .i64 (k:Int)):=HM9.o.rd.bx.c 1 rfl;have ys:=HM9.o.rd.bx.lt;have yf:=HM9.o.rd.bx.frozen;have HM10:=zq (HM9.o.at hkl);clear HM9
     go_wp2_with fail
     have ek:((k:Int)+1)=((k+1:Nat):Int):=za;rw [ek]
     go_roundg (gk - 1)
     case measure=>have:=HMS.o;have:=HKE.o;omega
     case rel=>exact ⟨T++[⟨ofL n,par⟩],_,by rw [cY,bJ,←HKE.o];exact HM10.o,by rw [cY,bJ,←HKE.o];exact HN.o,jg⟩
   | true =>
    have hT:=HNO.o (hbt rfl);subst hT;clear hm hbt hbf HNO HYES HWT HST HF1 HM1 HNW HOV HB1 HMS
    go_wp2_with fail
    go_loopg [] (L.length+1 - k) (Hd2 w B0 r q LA c L T v k all2)
    case atStart=>exact ⟨[],_,HM.o,by rw [HALL2.o,HKE.o];rfl,by have:=HM.o.rd.le;simp;omega⟩
    case round =>
     obtain ⟨U,vu,hm,hal,hms⟩:=hrel;have HM:=zq hm;have HA1:=zq hal;have HMS:=zq hms;have hTl:k+U.length≤600000:=j5;have hUl:U.length≤600000:=za;obtain ⟨kk,hkk⟩:∃ kk,kk=k+U.length:=⟨_,rfl⟩;have HKK:=zq hkk;rw [←hkk] at HM HA1 hTl;clear hm hal hms hkk
     have HW:Hid (Calls Tryz.prog 27 #[.pointer (some ⟨r,0,none⟩),.string ⟨#[]⟩,.string ⟨#[117,115,101]⟩,.int .i64 2] wr (zBK (wdO false [] zCr 2 (L.drop kk)) wr)) :=
      zEt r LA c L kk false ⟨#[]⟩ ⟨#[117,115,101]⟩ 2 wr HM.o.rd (HG0.o.belB HM.o.bel hg) zc
     have HF1:Hid (zDk [] zCr (L.drop kk)=match wdO false [] zCr 2 (L.drop kk) with
      | some [_,n]=>if rowL n=true then some n else none
      | _=>none):=rfl
     have HNO:Hid (zDk [] zCr (L.drop kk)=none→U=all2):=fun h=>by
      rw [←HA1.o,usesX_step,h,aD]
     have HYES:Hid (∀ x,zDk [] zCr (L.drop kk)=some x→(U++[ofL x])++(zAQ [] zCr (L.drop (kk+1))).1=all2):=fun x h=>by
      rw [←HA1.o,usesX_step (L.drop kk),h];simp only [cC,dI,zAX]
     have HWT:Hid (∀ W,wdO false [] zCr 2 (L.drop kk)=some W→kk<L.length∧∃ n,W=[zCr,n]∧n.length≤600000):=fun W hW=>by
      obtain ⟨_,n,hn⟩:=wdO_two hW;refine ⟨zBi (zEs vo),n,hn,?_⟩
      exact zCI (m:=2) HM.o.rd.drops (show wdF [] zCr 2 (L.drop kk)=some W from hW) vj
     generalize zDk [] zCr (L.drop kk)=ans at *;generalize wdO false [] zCr 2 (L.drop kk)=res at *
     have HEND:Hid (∀ w',ans=none→HdM w B0 r q LA c L T v U vu kk w'→GivesHd w B0 r q LA c L T all2 (T.length+all2.length) (.returned (.tuple #[])) w'):=fun w' ha hm=>by
      have hT:=HNO.o ha;rw [←hT,←HKE.o,←HKK.o];exact ⟨rfl,v,vu,hm⟩
     clear HA1 HNO
     go_wp2_with fail
     with_reducible refine HW.o.mono ?_
     rintro e w1 ⟨A,c1,rfl,hst,hb1⟩;have HM1:=zq (HM.o.below hb1);have HOV:Hid (∀ j,vu.ownBlock=some j→j<wr.heap.size):=fun j hj=>(bT HM.o.o2 j hj).2
     have HST:=zq hst;clear hst hb1 HW HM
     cases res with
     | none =>
      have HA:Hid (ans=none):=HF1.o;have HE:=zq (HEND.o _ HA.o HM1.o);clear HYES HWT HST HF1 HEND
      go_wp2_with fail
      exact dD (v:=.tuple #[]) (by simp [results,Tryz.results11,go_sem]) rfl HE.o
     | some W =>
      obtain ⟨hkl,n,rfl,hnl⟩:=HWT.o W rfl;obtain ⟨hlo,hst⟩:=HST.o _ rfl;obtain ⟨bw,ow,hA2,hc2⟩:=hst zd;subst hA2;have HBW:Hid (wr.heap.size≤bw):=hlo bw ow rfl;have c1':w1.cell? ⟨bw,ow+1,none⟩=some (.string (ofL n)):=hc2 1 zd;have HR:=zq (isRow_c (ofL n) w1 zr);rw [zAj] at HR;have HF2:Hid (ans=if rowL n=true then some n else none):=HF1.o
      generalize rowL n=b1 at *;clear hc2 hst hlo HST HWT HF1
      go_wp2_with fail
      with_reducible refine HR.o.mono ?_
      rintro e w2 ⟨rfl,hb2⟩;have HM2:=zq (HM1.o.below hb2);have d1:=zAh hb2 c1';clear hb2 HR HM1 c1'
      cases b1 with
      | false =>
       have HA:Hid (ans=none):=vl;have HE:=zq (HEND.o _ HA.o HM2.o);clear HYES HF2 HEND
       go_wp2_with fail
       exact dD (v:=.tuple #[]) (by simp [results,Tryz.results11,go_sem]) rfl HE.o
      | true =>
       have HA:Hid (ans=some n):=by show _=_;rw [HF2.o,aE rfl]
       have HN:=zq (HYES.o _ HA.o);have E1:=zq d1;clear HYES HF2 HEND d1;obtain ⟨wk,hwk⟩:∃ wk,wk=w2.drew:=⟨_,rfl⟩;have HMk:Hid (HdM w B0 r q LA c L T v U vu kk wk):=by show HdM _ _ _ _ _ _ _ _ _ _ _ _ _;rw [hwk];exact HM2.o.below (zAc (bS _ _) 1)
       have HAd:Hid (wk.cell? ⟨q,1,none⟩=some vu∧wk.cell? ⟨bw,ow+1,none⟩=some (.string (ofL n))):=⟨HMk.o.bx.c 1 rfl,by rw [hwk];exact zAh (zAc (bS _ _) 1) E1.out⟩
       have hba:Below wk.heap.size wk (wk.alloc (.cells #[.string (ofL n)] 9)):=(bS _ _).alloc (aB _) _;have HAa:Hid ((wk.alloc (.cells #[.string (ofL n)] 9)).cell? ⟨q,1,none⟩=some vu∧(wk.alloc (.cells #[.string (ofL n)] 9)).cell? ⟨bw,ow+1,none⟩=some (.string (ofL n))):=⟨zAh hba HAd.o.1,zAh hba HAd.o.2⟩;have HMa:=zq (HMk.o.below hba);have t1:Hid (zAF eSt 1 (wk.alloc (.cells #[.string (ofL n)] 9)) w.heap.size 9 vu U):=HMa.o.o2;have t2:Hid ((wk.alloc (.cells #[.string (ofL n)] 9)).heap[wk.heap.size]?=some (.cells #[.string (ofL n)] 9 (0,0))):=cI wk _;have t4:Hid (w.heap.size≤(wk.alloc (.cells #[.string (ofL n)] 9)).heap.size):=HMa.o.size;clear hba E1 HM2;go_upto_region 9 with fail
       refine zCn (S:=SLq 12 (fun w'=>w'.cell? ⟨q,1,none⟩=some vu∧w'.cell? ⟨bw,ow+1,none⟩=some (.string (ofL n)))) zb (fun _=>xh) ?_
       intro hsh _;rw [←hwk];clear hwk;refine zAx (i:=0) (v:=?_) rfl zb zb zb (fun _ _ _ h=>h) (SLq.iff zc) hsh (Or.inl ⟨zb,?_⟩) (fun _=>HAd.o) ?_
       rotate_left 1
       ·(intro w9 _;go_simp;try with_reducible rfl)
       intro hsh _;simp only [eB,cN,Act.put,cF,dY,bV] at hsh ⊢;refine zAx (i:=1) (v:=?_) rfl zb zb zb (fun _ _ _ h=>h) (SLq.iff zc) hsh (Or.inl ⟨zb,?_⟩) (fun _=>HAd.o) ?_
       rotate_left 1
       ·(intro w9 _;go_simp;try with_reducible rfl)
       intro hsh _;simp only [Dw.lay,Act.put] at hsh ⊢;refine zAx (i:=2) (v:=?_) rfl zb zb zb (fun _ _ _ h=>h) (SLq.iff zc) hsh (Or.inl ⟨zb,?_⟩) (fun _=>HAd.o) ?_
       rotate_left 1
       ·(intro w9 _;go_simp;try with_reducible rfl)
       intro hsh _;simp only [Dw.lay,Act.put] at hsh ⊢;refine zAx (i:=3) (v:=?_) rfl zb zb zb (fun _ _ _ h=>h) (SLq.iff zc) hsh (Or.inl ⟨zb,?_⟩) (fun _=>HAd.o) ?_
       rotate_left 1
       ·(intro w9 _;go_simp;try with_reducible rfl)
       intro hsh _;simp only [Dw.lay,Act.put] at hsh ⊢;refine zAx (i:=4) (v:=?_) rfl zb zb zb (fun _ _ _ h=>h) (SLq.iff zc) hsh (Or.inl ⟨zb,?_⟩) (fun _=>HAd.o) ?_
       rotate_left 1
       ·(intro w9 hw9;have hA:=SLq.ahead (n:=12) zb hw9;obtain ⟨a1,a2⟩:=hA;go_simp;try with_reducible rfl)
       intro hsh _;simp only [Dw.lay,Act.put] at hsh ⊢;refine zAx (i:=5) (v:=?_) rfl zb zb zb (fun _ _ _ h=>h) (SLq.iff zc) hsh (Or.inl ⟨zb,?_⟩) (fun _=>HAd.o) ?_
       rotate_left 1
       ·(intro w9 _;go_simp;try with_reducible rfl)
       intro hsh _;simp only [Dw.lay,Act.put] at hsh ⊢;refine zAx (i:=6) (v:=?_) rfl zb zb zb (fun _ _ _ h=>h) (SLq.iff zc) hsh (Or.inl ⟨zb,?_⟩) (fun _=>HAd.o) ?_
       rotate_left 1
       ·(intro w9 _;go_simp;try with_reducible rfl)
       intro hsh _;simp only [Dw.lay,Act.put] at hsh ⊢;refine zAx (i:=7) (v:=?_) rfl zb zb zb (fun _ _ _ h=>h) (SLq.iff zc) hsh (Or.inl ⟨zb,?_⟩) (fun _=>HAd.o) ?_
       rotate_left 1
       ·(intro w9 hw9;have hA:=SLq.ahead (n:=12) zb hw9;obtain ⟨a1,a2⟩:=hA;go_simp;try with_reducible rfl)
       intro hsh _;simp only [Dw.lay,Act.put] at hsh ⊢;clear hsh;refine zAI (rs:=[8]) zb zd ?_
       refine zCX.cons rfl (fun K hK=>?_) zCX.nil
       go_simp
       refine hK.out _ _ (fun _=>HAa.o) (fun _=>?_)
       clear hK K
       try simp only [Dw.lay,Act.put]
       refine zAI (rs:=[9]) zb zd ?_
       refine zCX.cons rfl (fun K hK=>?_) zCX.nil
       refine zEa (k:=1) (enc:=eSt) zo _ _ _ zo elStr w.heap.size vu U zo t1.out wk.heap.size 1 (ofL n:BA) zo t2.out rfl rfl (oneStr _) zt za t4.out ?_
       intro g9 cap9 w9 ho9 hg9;obtain ⟨z0,zs,zf,hm9⟩:=HMa.o.push2 ho9 hg9;have HM9:=zq hm9;have HA9:Hid (w9.cell? ⟨q,1,none⟩=some vu∧w9.cell? ⟨bw,ow+1,none⟩=some (.string (ofL n))):=⟨z0,hg9.cell HAa.o.2 (fun e=>by have h2:bw<wr.heap.size:=HOV.o _ e.symm;have:=HBW.o;omega)⟩
       have zf0:=zf 1;clear hm9 zf ho9 hg9;refine hK.out _ _ (fun _=>HA9.o) (fun _=>?_)
       clear hK K
       try simp only [Dw.lay,Act.put]
       refine zAI (rs:=[10]) zb zd ?_
       refine zCX.cons rfl (fun K hK=>?_) zCX.nil
       go_simp
       refine hK.out _ _ (fun _=>HA9.o) (fun _=>?_)
       clear hK K
       try simp only [Dw.lay,Act.put]
       refine zAI (rs:=[11]) zb zd ?_
       refine zCX.cons rfl (fun K hK=>?_) zCX.nil
       go_simp
       refine hK.out _ _ (fun _=>HA9.o) (fun _=>?_)
       clear hK K
       try simp only [Dw.lay,Act.put]
       refine zAI (rs:=[12]) zb zd ?_
       refine zCX.cons rfl (fun K hK=>?_) zCX.nil
       go_simp
       refine hK.out _ _ (fun h=>absurd h zc) (fun _=>?_)
       clear hK K
       try simp only [Dw.lay,Act.put]
       refine anyL_done zb ?_ _
       obtain ⟨w10,hw10⟩:∃ w10,w10=w9.setCell ⟨q,1,none⟩ (.slice (some ⟨g9,0,none⟩) (U.length+1) cap9):=⟨_,rfl⟩;rw [←hw10] at HM9 ⊢;clear hw10 t1 t2 t4 HAd HAa HMa HMk HA9 z0 zs zf0;have y1:w10.cell? ⟨r,1,none⟩=some (.int .i64 (kk:Int)):=HM9.o.rd.bx.c 1 rfl;have ys:=HM9.o.rd.bx.lt;have yf:=HM9.o.rd.bx.frozen;have HM10:=zq (HM9.o.at hkl);clear HM9
       go_wp2_with fail
       have ek:((kk:Int)+1)=((kk+1:Nat):Int):=za;rw [ek]
       go_roundg (gk - 1)
       case measure=>have:=HMS.o;have:=HKK.o;omega
       case rel=>exact ⟨U++[ofL n],_,jn,j3,yu⟩
def zDF (r:Nat) (LA:Option Addr) (c:Nat) (L:List Ln) (k:Nat) (w:World) (e:Ending) (w':World):Prop :=
 ∃ d k' ok,e = .returned (.tuple #[deV d,.bool ok])∧RdJ w' r LA c L k'∧w.grownBy w' (some r)∧(ok=true→∃ q,w.heap.size<q∧DeI w' q d∧zAG (L.drop k) = .ok (plD d,L.drop k'))∧(ok=false→zAG (L.drop k) = .error (L.drop k'))
theorem zAD {a:Array Value} {w:World} {b:Nat} {d:De} {ok:Bool} (ha:a[2]?.getD undef = .pointer (some ⟨b,0,none⟩)) (h3:a[3]?.getD undef = .bool ok) (hz:Bx w b (deC d) 47) :
  (results Tryz.f17 a).run Tryz.prog w = .ok (.tuple #[deV d,.bool ok]) w:=by
 have y0:=hz.c 0 rfl;have y1:=hz.c 1 rfl;have y2:=hz.c 2 rfl;have y3:=hz.c 3 rfl;have y4:=hz.c 4 rfl;have y5:=hz.c 5 rfl;have y6:=hz.c 6 rfl;have y7:=hz.c 7 rfl;have y8:=hz.c 8 rfl;have y9:=hz.c 9 rfl;have y10:=hz.c 10 rfl;have y11:=hz.c 11 rfl;have y12:=hz.c 12 rfl;have y13:=hz.c 13 rfl;have y14:=hz.c 14 rfl;have y15:=hz.c 15 rfl;clear hz;simp [results,Tryz.results17,go_sem,ha,h3,y0,y1,y2,y3,y4,y5,y6,y7,y8,y9,y10,y11,y12,y13,y14,y15]
theorem zBg {r:Nat} {LA:Option Addr} {c:Nat} {L:List Ln} {k k':Nat} {ok:Bool} {w w2:World} {d:De} {cs:Array Value} (hrw:r<w.heap.size) (hLA:∀ b o,LA=some ⟨b,o,none⟩→b<w.heap.size) (h2:RdJ w2 r LA c L k') (h3:KeptB w.heap.size r w w2) (h4:Bx w2 w.heap.size cs 47) (hc:cs.size=16)
  (hy:ok=true→∃ q,w.heap.size<q∧DeI w2 q d∧zAG (L.drop k) = .ok (plD d,L.drop k')) (hn:ok=false→zAG (L.drop k) = .error (L.drop k')) :
  (storeVar 47 ⟨w.heap.size,0,none⟩ (deV d)).run Tryz.prog w2 = .ok () (w2.setRow w.heap.size (deC d))∧Bx (w2.setRow w.heap.size (deC d)) w.heap.size (deC d) 47∧zDF r LA c L k w (.returned (.tuple #[deV d,.bool ok])) (w2.setRow w.heap.size (deC d)):=by
 have hg:=grown_row w2 w.heap.size (deC d);refine ⟨run_storeVar_row w2 w.heap.size 47 47 cs (deC d) h4 zb hc zu,setRow_heap _ _ _ _ _ _ h4,d,k',ok,rfl,h2.grown hg za (fun b o e=>by have:=hLA b o e;omega),?_,fun h=>?_,hn⟩
 ·exact (h3.trans (⟨hg.os,hg.tape,hg.output,hg.size,fun i hi _=>hg.block i (cX hi h3.size) fun e=>yk⟩:KeptB w.heap.size r w2 (w2.setRow w.heap.size (deC d)))).to
 ·obtain ⟨q,hq,hd,he⟩:=hy h
  exact ⟨q,hq,hd.grown hg hq,he⟩
structure DjM (w:World) (r:Nat) (LA:Option Addr) (c:Nat) (L:List Ln) (q:Nat) (wx:World) (d:De) (k:Nat):Prop where
 de:DeI wx q d
 rd:RdJ wx r LA c L k
 kp:KeptB w.heap.size r w wx
 rs:Bx wx w.heap.size (deC zBV) 47
 uq:w.heap.size<q
section
variable {w wx w':World} {r c q k k':Nat} {LA:Option Addr} {L:List Ln} {d d':De}
theorem DjM.next (h:DjM w r LA c L q wx d k) (hr:r<w.heap.size) (hi:RdJ w' r LA c L k') (hg:wx.grownBy w' (some r)):DjM w r LA c L q w' d k' :=
 have hu:=h.uq
 ⟨h.de.grown hg za,hi,h.kp.trans (KeptB.grown hg h.kp.size),(hg.block _ h.rs.lt fun e=>yk).trans h.rs,hu⟩
theorem DjM.below (h:DjM w r LA c L q wx d k) (hr:r<w.heap.size) (hb:Below wx.heap.size wx w'):DjM w r LA c L q w' d k:=h.next hr (h.rd.below hb) (zAA hb r)
theorem DjM.put (h:DjM w r LA c L q wx d k) (hr:r<w.heap.size) (hLA:∀ b o,LA=some ⟨b,o,none⟩→b<w.heap.size) (i:Nat) (v:Value) (hc:(deC d).setIfInBounds i v=deC d') (e1:arSl d'=arSl d∧d'.ar=d.ar) (e2:usSl d'=usSl d∧d'.us=d.us) (hs:Shs wx d'.shA d'.sh) (hq:∀ b o,d'.shA=some ⟨b,o,none⟩→q<b) :
  DjM w r LA c L q (wx.setCell ⟨q,i,none⟩ v) d' k:=by
 have hg:=zAn wx ⟨q,i,none⟩ v;have hu:=h.uq;have hn:∀ {j:Nat},j≠q→some j≠some q:=fun hj e=>hj (dR e)
 refine ⟨h.de.set i v hc e1 e2 hs hq,h.rd.grown hg (by show r≠q;omega) (fun b o e=>by have:=hLA b o e;show b≠q;omega),h.kp.trans ⟨hg.os,hg.tape,hg.output,hg.size,fun i hi _=>hg.block i (cX hi h.kp.size) (hn za)⟩,(hg.block _ h.rs.lt (hn za)).trans h.rs,hu⟩
theorem DjM.takes {ob ob':Option Nat} (h:DjM w r LA c L q wx d k) (hr:r<w.heap.size) (hLA:∀ b o,LA=some ⟨b,o,none⟩→b<w.heap.size) (hd:DeI w' q d') (ht:Takes wx w' q ob ob') (ho:∀ j,ob=some j→q+1≤j):DjM w r LA c L q w' d' k:=by
 have hu:=h.uq;have hb:=ht.below h.de.bx.lt ho;exact ⟨hd,h.rd.taken hb za (fun b o e=>by have:=hLA b o e;omega),h.kp.trans ⟨hb.os,hb.tape,hb.output,hb.size,fun i hi _=>hb.block i za⟩,(hb.block _ hu).trans h.rs,hu⟩
end
theorem deedX_nx (M:List Ln):zAG M=match nxF zCC 3 M with
  | some [i,dy,kw]=>match zDv dy with
   | some n=>if rowL i=true∧0<kdX kw then bodyX (ofL i) n (kdX kw) M.tail else .error M
   | none=>.error M
  | _=>.error M:=by
 have h:wdF [] zCC 4 M=(nxF zCC 3 M).map (zCC::·):=wd_nx (pre:=[]) (first:=zCC) zc 3 M
 unfold zAG;rw [h]
 cases hn:nxF zCC 3 M with
 | none=>rfl
 | some W =>
  have hl:=zDw hn
  match W,hl with
  | [a,b,c],_=>rfl
def zEe (us:List BA) (s:BA) (w:World) (e:Ending) (w':World):Prop :=
 ∃ z:Int,e = .returned (.int .i64 z)∧((∃ k:Nat,∃ h:k<us.length,z=(k:Int)∧us[k]=s)∨(z = -1∧s∉us))∧w'=w
theorem zCO (A:Option Addr) (c:Nat) (us:List BA) (s:BA) (w:World) (hu:us.length≤1000000) (h:Strs w A us) :
  Calls Tryz.prog 47 #[.slice A us.length c,.string s] w (zEe us s w):=by
 go_enter Tryz.func47,Tryz.ntmps47
 go_wp2
 go_loopg [5] us.length (PlRel w us s)
 case atStart=>exact ⟨rfl,0,za,rfl,fun j _ hj=>absurd hj za⟩
 case round =>
  obtain ⟨rfl,k,hkm,rfl,hpre⟩:=hrel;have HM:=zq hkm;have HP:=zq hpre;have hk1:k≤us.length:=za;clear hkm hpre
  by_cases hlt:k<us.length
  ·obtain ⟨b,o,hA,hb,hc⟩:=h.at_ za
   subst hA;have hc0:=hc k hlt;clear hc
   by_cases he:us[k]=s
   ·have q1:=zAy he
    have HE:=zq he;clear he;go_wp2;go_ret
    exact ⟨_,rfl,.inl ⟨k,hlt,rfl,HE.o⟩,rfl⟩
   ·have HE:=zq he
    have q1:=zAo he;clear he;go_wp2
    go_roundg (gk - 1)
    case measure=>have:=HM.o;omega
    case rel =>
     refine ⟨rfl,k+1,yp,zn,fun j hj h9=>?_⟩
     rcases bO j k with h8 | h8
     ·exact HP.o j hj h8
     ·obtain rfl:j=k:=by omega
      exact HE.o
  ·have HF:Hid (s∉us):=fun hm=>by
    obtain ⟨j,hj,e⟩:=aJ hm;exact HP.o j hj za e
   go_wp2;go_ret
   exact ⟨_,rfl,.inr ⟨rfl,HF.o⟩,rfl⟩
theorem zDV {z:Int} {kw:Ln} (h:(∃ k:Nat,∃ h:k<kdWs.length,z=(k:Int)∧kdWs[k]=ofL kw)∨(z = -1∧ofL kw∉kdWs)):z+1=kdX kw∧-1≤z∧z≤4:=by
 rcases h with ⟨k,hk,rfl,e⟩ | ⟨rfl,hn⟩
 ·have hk5:k<5:=hk
  have e2:kdWs[k]=kdS ((k:Int)+1):=by
   have h5:k=0∨k=1∨k=2∨k=3∨k=4:=za
   rcases h5 with rfl | rfl | rfl | rfl | rfl<;>rfl
  rw [e2] at e;have:=(kdX_at kw (j:=(k:Int)+1) za za).1 (by rw [e,zAj])
  exact ⟨this.symm,za,za⟩
 ·have h1:=kdX_le kw
  refine ⟨?_,za,za⟩
  rcases (show kdX kw=0∨kdX kw=1∨kdX kw=2∨kdX kw=3∨kdX kw=4∨kdX kw=5 by omega) with h | h
  ·rw [h];rfl
  ·exfalso
   apply hn
   have key:∀ j:Int,1≤j→j≤5→kdX kw=j→kdS j=ofL kw:=fun j h1 h2 e=>by
    rw [←(kdX_at kw h1 h2).2 e,zDJ]
   rcases h with h | h | h | h | h
   ·rw [←key _ zc zc h];simp
   ·rw [←key _ zc zc h];simp
   ·rw [←key _ zc zc h];simp
   ·rw [←key _ zc zc h];simp
   ·rw [←key _ zc zc h];simp
theorem kd_cells {w:World} {g:Nat} (h:Bx w g #[.string (kdS 1),.string (kdS 2),.string (kdS 3),.string (kdS 4),.string (kdS 5)] 9):Strs w (some ⟨g,0,none⟩) kdWs:=fun _=>by
 refine ⟨g,0,rfl,fun i hi=>?_⟩
 rw [bJ];have h5:i=0∨i=1∨i=2∨i=3∨i=4:=by have:i<5:=hi;omega
 rcases h5 with rfl | rfl | rfl | rfl | rfl<;>exact h.cell rfl
theorem nmO_nmJ {first:Ln} (h:(32:UInt8)∉first) (M:List Ln):nmJ (sp2++first) M=nmO false first M:=(nmJ_try h M).trans rfl
theorem zCs (r:Nat) (LA:Option Addr) (c:Nat) (L:List Ln) (k:Nat) (beg:BA) (first:Ln) (hb:beg.data.toList=sp2++first) (hf:(32:UInt8)∉first) (w:World) (h:RdJ w r LA c L k) (hG:GOK w) :
  Calls Tryz.prog 16 #[.pointer (some ⟨r,0,none⟩),.string beg] w
   (zBj (.tuple #[.string (ofL ((nmO false first (L.drop k)).getD [])),.bool (nmO false first (L.drop k)).isSome]) r LA c L (nxk k (nmO false first (L.drop k)).isSome) w):=by
 have h:=wordJ_c r LA c L k beg w h hG
 rwa [hb,nmO_nmJ hf] at h
theorem zEh (r:Nat) (LA:Option Addr) (c:Nat) (L:List Ln) (k:Nat) (beg:BA) (first:Ln) (hb:beg.data.toList=sp2++first) (hf:(32:UInt8)∉first) (w:World) (h:RdJ w r LA c L k) (hG:GOK w) :
  Calls Tryz.prog 52 #[.pointer (some ⟨r,0,none⟩),.string beg] w
   (zBj (.tuple #[.int .i64 (((nuO false first (L.drop k)).getD 0:Nat):Int),.bool (nuO false first (L.drop k)).isSome]) r LA c L (nxk k (nuO false first (L.drop k)).isSome) w):=by
 have h:=countJ_c r LA c L k beg w h hG
 rwa [hb,nuJ_nu hf] at h
theorem flagJ_n (r:Nat) (LA:Option Addr) (c:Nat) (L:List Ln) (k:Nat) (beg:BA) (first:Ln) (hb:beg.data.toList=sp2++first) (hf:(32:UInt8)∉first) (w:World) (h:RdJ w r LA c L k) (hG:GOK w) :
  Calls Tryz.prog 51 #[.pointer (some ⟨r,0,none⟩),.string beg] w (zBj (.bool (flB false first (L.drop k))) r LA c L (nxk k (flB false first (L.drop k))) w):=by
 have h:=flagJ_c r LA c L k beg w h hG
 rwa [hb,flJ_fl hf] at h
theorem paO_nx (M:List Ln):paO false M=match nxF (sp2++zDU) 1 M with
  | some [s]=>zDP s
  | _=>none:=by
 unfold paO wdO;simp only [dL,dG];rw [wd_nx zc 1 M]
 cases hn:nxF (sp2++zDU) 1 M with
 | none=>rfl
 | some W =>
  have hl:=zDw hn
  match W,hl with
  | [n],_=>rfl
theorem shr1_nx (M:List Ln):shr1 M=match nxF (sp2++zCh) 2 M with
  | some [p,s]=>if rowL p=true then match zDP s with
   | some (n,d)=>some ⟨ofL p,ofL n,ofL d⟩
   | none=>none else none
  | _=>none:=by
 unfold shr1;rw [wd_nx zc 2 M]
 cases hn:nxF (sp2++zCh) 2 M with
 | none=>rfl
 | some W =>
  have hl:=zDw hn
  match W,hl with
  | [n,m],_=>rfl
theorem areasX_step (M:List Ln):(zBf M).1=match nmO false kIn M with
  | some n=>⟨ofL n,false⟩::(zBf M.tail).1
  | none=>match nmO false zDE M with
   | some n=>⟨ofL n,true⟩::(zBf M.tail).1
   | none=>[]:=by
 cases M with
 | nil=>rfl
 | cons l r =>
  rw [areasX_try]
  show _=match zDk sp2 kIn (l::r) with
   | some n=>_
   | none=>match zDk sp2 zDE (l::r) with
    | some n=>_
    | none=>[]
  cases zDk sp2 kIn (l::r) with
  | some n=>rfl
  | none=>cases zDk sp2 zDE (l::r)<;>rfl
theorem usesX_stepN (M:List Ln):(zAQ sp2 zDn M).1=match nmO false zDn M with
  | some n=>ofL n::(zAQ sp2 zDn M.tail).1
  | none=>[]:=by
 cases M with
 | nil=>rfl
 | cons l r =>
  rw [usesX_try]
  show _=match zDk sp2 zDn (l::r) with
   | some n=>_
   | none=>[]
  cases zDk sp2 zDn (l::r)<;>rfl
theorem nmO_pos {first:Ln} {L:List Ln} {k:Nat} {n:Ln} (h:nmO false first (L.drop k)=some n):k<L.length:=by
 refine zBi fun e=>?_
 rw [e] at h
 cases h
def ArJ (w:World) (r:Nat) (LA:Option Addr) (c:Nat) (L:List Ln) (q:Nat) (d0:De) (k0:Nat) (all:List Ar) (m:Nat) (wr:World):Prop :=
 ∃ (T:List Ar) (A:Option Addr) (cA:Nat),DjM w r LA c L q wr { d0 with arA:=A,ar:=T,arc:=cA } (k0+T.length)∧T++(zBf (L.drop (k0+T.length))).1=all∧k0+T.length+m=L.length+1
def UsJ (w:World) (r:Nat) (LA:Option Addr) (c:Nat) (L:List Ln) (q:Nat) (d0:De) (k0:Nat) (all:List BA) (m:Nat) (wr:World):Prop :=
 ∃ (T:List BA) (A:Option Addr) (cA:Nat),DjM w r LA c L q wr { d0 with usA:=A,us:=T,usc:=cA } (k0+T.length)∧T++(zAQ sp2 zDn (L.drop (k0+T.length))).1=all∧k0+T.length+m=L.length+1
def ShJ (w:World) (r:Nat) (LA:Option Addr) (c:Nat) (L:List Ln) (q:Nat) (d0:De) (k0:Nat) (all:List Sh) (m:Nat) (wr:World):Prop :=
 ∃ (T:List Sh) (A:Option Addr) (cA:Nat),DjM w r LA c L q wr { d0 with shA:=A,sh:=T,shc:=cA } (k0+T.length)∧zAF eShr 3 wr (q+1) 110 (.slice A T.length cA) T∧T++(zAW (L.drop (k0+T.length))).1=all∧k0+T.length+m=L.length+1
theorem DjM.pushS {w w4 w9:World} {r c q k g cap:Nat} {LA:Option Addr} {L:List Ln} {d:De} {v:Value} {T:List Sh} {x:Sh} (h:DjM w r LA c L q w4 d k) (hr:r<w.heap.size) (hLA:∀ b o,LA=some ⟨b,o,none⟩→b<w.heap.size) (hown:zAF eShr 3 w4 (q+1) 110 v T)
  (ho:zAF eShr 3 w9 (q+1) 110 (.slice (some ⟨g,0,none⟩) (T.length+1) cap) (T++[x])) (hg:w4.grownBy w9 v.ownBlock) :
  w9.cell? ⟨q,14,none⟩=some (.slice d.shA d.sh.length d.shc)∧q<w9.heap.size∧(∀ i,w9.frozen? ⟨q,i,none⟩=false)∧DjM w r LA c L q (w9.setCell ⟨q,14,none⟩ (.slice (some ⟨g,0,none⟩) (T.length+1) cap)) { d with shA:=some ⟨g,0,none⟩,sh:=T++[x],shc:=cap } k ∧
   zAF eShr 3 (w9.setCell ⟨q,14,none⟩ (.slice (some ⟨g,0,none⟩) (T.length+1) cap)) (q+1) 110 (.slice (some ⟨g,0,none⟩) (T.length+1) cap) (T++[x]):=by
 have hu:=h.uq;have hb:Below (q+1) w4 w9:=(bS _ _).grown hg h.de.bx.lt (fun j hj=>(bT hown j hj).1)
 have hx:Bx w9 q (deC d) 47:=(hb.block q (bW _)).trans h.de.bx;have ha:zAF eAr 2 w9 (q+1) 65 (arSl d) d.ar:=h.de.ars.grown hg (zBl h.de.ars hown zc);have hs:zAF eSt 1 w9 (q+1) 9 (usSl d) d.us:=h.de.uss.grown hg (zBl h.de.uss hown zc);have g2:=zAn w9 ⟨q,14,none⟩ (.slice (some ⟨g,0,none⟩) (T.length+1) cap);have ho2:=ho.grown g2 (zAR ho (bW q));have hL:T.length+1=(T++[x]).length:=zd;have hbz:Below w.heap.size w4 (w9.setCell ⟨q,14,none⟩ (.slice (some ⟨g,0,none⟩) (T.length+1) cap)):=dP (hb.mono za) (bG hu) _;refine ⟨hx.c 14 rfl,hx.lt,hx.frozen,⟨⟨?_,ha.grown g2 (zAR ha (bW q)),hs.grown g2 (zAR hs (bW q)),h.de.far,?_,?_⟩,?_,?_,?_,hu⟩,ho2⟩
 ·have:=hx.set 14 (.slice (some ⟨g,0,none⟩) (T.length+1) cap)
  rw [hL] at this ⊢;exact this
 ·rw [hL] at ho2
  obtain ⟨A,c2,e,hsh,_⟩:=own_shr ho2;have e1:some (⟨g,0,none⟩:Addr)=A:=xd
  show Shs _ (some ⟨g,0,none⟩) (T++[x])
  rw [←e1,←hL] at hsh;exact hsh
 ·intro b o e
  rw [hL] at ho2;obtain ⟨A,c2,e2,_,hq⟩:=own_shr ho2;have e1:some (⟨g,0,none⟩:Addr)=A:=by injection e2
  have:=hq b o (by rw [←e1];exact e)
  omega
 ·exact (h.rd.taken (hb.mono (Nat.le_succ _)) za (fun b o e=>by have:=hLA b o e;omega)).grown g2 (by show r≠q;omega) (fun b o e=>by have:=hLA b o e;show b≠q;omega)
 ·exact h.kp.trans (KeptB.below hbz)
 ·exact ((zAn w9 ⟨q,14,none⟩ _).block _ (cX h.rs.lt hb.size) (fun e=>by have e2:w.heap.size=q:=dR e;omega)).trans ((hb.block _ za).trans h.rs)
theorem deN {w wx:World} {r c q k:Nat} {LA:Option Addr} {L:List Ln} {d:De} (h:DjM w r LA c L q wx d k) (h1:d.shA=none) (h2:d.sh=[]) (h3:d.shc=0):DjM w r LA c L q wx { d with shA:=none,sh:=[],shc:=0 } k:=by
 have e:d = { d with shA:=none,sh:=[],shc:=0 }:=by
  cases d
  simp only at h1 h2 h3;rw [h1,h2,h3]
 rw [e] at h;exact h
theorem deA {w wx:World} {r c q k:Nat} {LA:Option Addr} {L:List Ln} {d:De} (h:DjM w r LA c L q wx d k) (h1:d.arA=none) (h2:d.ar=[]) (h3:d.arc=0):DjM w r LA c L q wx { d with arA:=none,ar:=[],arc:=0 } k:=by
 have e:d = { d with arA:=none,ar:=[],arc:=0 }:=by
  cases d
  simp only at h1 h2 h3;rw [h1,h2,h3]
 rw [e] at h;exact h
theorem deU {w wx:World} {r c q k:Nat} {LA:Option Addr} {L:List Ln} {d:De} (h:DjM w r LA c L q wx d k) (h1:d.usA=none) (h2:d.us=[]) (h3:d.usc=0):DjM w r LA c L q wx { d with usA:=none,us:=[],usc:=0 } k:=by
 have e:d = { d with usA:=none,us:=[],usc:=0 }:=by
  cases d
  simp only at h1 h2 h3;rw [h1,h2,h3]
 rw [e] at h;exact h
theorem DjM.pushAr {w w4 w9:World} {r c q k c':Nat} {LA A':Option Addr} {L:List Ln} {d:De} {x:Ar} {o:Obj} (h:DjM w r LA c L q w4 d k) (hr:r<w.heap.size) (hLA:∀ b o,LA=some ⟨b,o,none⟩→b<w.heap.size) (h1:d.shA=none) (h2:d.sh=[])
  (hown:zAF eAr 2 w9 (q+1) 65 (.slice A' (d.ar.length+1) c') (d.ar++[x])) (hg:(w4.alloc o).grownBy w9 (arSl d).ownBlock) (hor:(Value.slice A' (d.ar.length+1) c').ownBlock=(arSl d).ownBlock∨(Value.slice A' (d.ar.length+1) c').ownBlock=some (w4.alloc o).heap.size) :
  DjM w r LA c L q (w9.setCell ⟨q,10,none⟩ (.slice A' (d.ar.length+1) c')) { d with arA:=A',ar:=d.ar++[x],arc:=c' } k∧q<w9.heap.size∧(∀ i,w9.frozen? ⟨q,i,none⟩=false)∧w9.cell? ⟨q,10,none⟩=some (arSl d):=by
 have hL:d.ar.length+1=(d.ar++[x]).length:=zd;rw [hL] at hown hor ⊢;obtain ⟨k1,k2,k3,k4,k5⟩:=takeAr_ok h.de h1 h2 hown hg hor;exact ⟨h.takes hr hLA k1 k2 (fun j hj=>(bT h.de.ars j hj).1),k3,k4,k5⟩
theorem DjM.pushUs {w w4 w9:World} {r c q k c':Nat} {LA A':Option Addr} {L:List Ln} {d:De} {x:BA} {o:Obj} (h:DjM w r LA c L q w4 d k) (hr:r<w.heap.size) (hLA:∀ b o,LA=some ⟨b,o,none⟩→b<w.heap.size) (h1:d.shA=none) (h2:d.sh=[])
  (hown:zAF eSt 1 w9 (q+1) 9 (.slice A' (d.us.length+1) c') (d.us++[x])) (hg:(w4.alloc o).grownBy w9 (usSl d).ownBlock) (hor:(Value.slice A' (d.us.length+1) c').ownBlock=(usSl d).ownBlock∨(Value.slice A' (d.us.length+1) c').ownBlock=some (w4.alloc o).heap.size) :
  DjM w r LA c L q (w9.setCell ⟨q,11,none⟩ (.slice A' (d.us.length+1) c')) { d with usA:=A',us:=d.us++[x],usc:=c' } k∧q<w9.heap.size∧(∀ i,w9.frozen? ⟨q,i,none⟩=false)∧w9.cell? ⟨q,11,none⟩=some (usSl d):=by
 have hL:d.us.length+1=(d.us++[x]).length:=zd;rw [hL] at hown hor ⊢;obtain ⟨k1,k2,k3,k4,k5⟩:=takeUs_ok h.de h1 h2 hown hg hor;exact ⟨h.takes hr hLA k1 k2 (fun j hj=>(bT h.de.uss j hj).1),k3,k4,k5⟩
end Go.Proofs.YtoaelidmmcbkfaaGreatDoor
