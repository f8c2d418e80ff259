/- Parts of the proof, joined: Words for maps: a map that reads as a function from keys to values. Wa. -/
import Derived.Test.YtoaelidmmcbkfaaGreatDoorSt05
import Derived.Orders
import Derived.RegionTactic
set_option maxRecDepth 100000
set_option maxHeartbeats 8000000
namespace Dw
open Go Go.RowKit
structure KeyT (P:Program) (K:TypeId) {κ:Type} [DecidableEq κ] (mk:κ→Value):Prop where
 same:∃ d,P.underlying K=some d∧∀ a b,Instr.sameNow d (mk a) (mk b)=some (decide (a=b))
 bits:∀ a,Instr.sameBits 10000 (mk a) (mk a)=true
 chk:∀ (b:Bool) (a:κ) (w:World),(Instr.checkKey b 10000 K (mk a)).run P w = .ok () w
def lookE {κ:Type} [DecidableEq κ] (es:List (κ×Value)) (k:κ):Option Value:=(es.find? fun e=>decide (k=e.1)).map (·.2)
def zAt {κ:Type} [DecidableEq κ] (mk:κ→Value) (w:World) (r:Nat) (f:κ→Option Value):Prop :=
 ∃ (es:Array MapEntry) (clk:Nat) (L:List (κ×Value)),w.heap[r]?=some (.map es clk)∧es.toList.map (fun e=>(e.key,e.val))=L.map (fun p=>(mk p.1,p.2))∧∀ k,lookE L k=f k
section
variable {κ:Type} [DecidableEq κ] {mk:κ→Value} {w w':World} {r:Nat} {f:κ→Option Value}
theorem zAt.lt (h:zAt mk w r f):r<w.heap.size:=by
 obtain ⟨es,clk,L,hr,_⟩:=h;exact (Array.getElem?_eq_some_iff.1 hr).1
theorem zAt.keep (h:zAt mk w r f) (hk:w'.heap[r]?=w.heap[r]?):zAt mk w' r f:=by
 obtain ⟨es,clk,L,hr,rest⟩:=h;exact ⟨es,clk,L,hk.trans hr,rest⟩
theorem zAt.below (h:zAt mk w r f) (hb:Below w.heap.size w w'):zAt mk w' r f:=h.keep (hb.block r h.lt)
theorem zAt.alloc (h:zAt mk w r f) (o:Obj):zAt mk (w.alloc o) r f:=h.keep (cX w o r h.lt)
theorem zAt.drewN (h:zAt mk w r f) (n:Nat):zAt mk (w.drewN n) r f:=h
theorem zAt.new (mk:κ→Value) (w:World):zAt mk (w.alloc (.map #[] 0)) w.heap.size (fun _=>none) :=
 ⟨#[],0,[],bY w _,rfl,fun _=>rfl⟩
theorem zAt.setCell (h:zAt mk w r f) {a:Addr} (ha:r≠a.block) (u:Value):zAt mk (w.setCell a u) r f:=h.keep (dG w a r u ha)
end
theorem findNow_go {κ:Type} [DecidableEq κ] {mk:κ→Value} {d:TypeDesc} (hs:∀ a b,Instr.sameNow d (mk a) (mk b)=some (decide (a=b))) (k:κ) :
  ∀ (es:List MapEntry) (L:List (κ×Value)) (i:Nat),es.map (fun e=>(e.key,e.val))=L.map (fun p=>(mk p.1,p.2)) →
   ∃ o,Instr.findNow d (mk k) es i=some o∧o.map (·.2)=lookE L k ∧
    (∀ j v,o=some (j,v)→i≤j∧j - i<L.length∧(L[j - i]?).map (·.1)=some k∧∀ t,t<j - i→(L[t]?).map (·.1)≠some k):=by
 intro es
 induction es with
 | nil =>
  intro L i h
  cases L with
  | nil=>exact ⟨none,rfl,rfl,fun j v h=>yg⟩
  | cons a t=>simp at h
 | cons e es ih =>
  intro L i h
  cases L with
  | nil=>simp at h
  | cons a t =>
   simp only [dD,dH,Prod.mk.injEq] at h;obtain ⟨⟨hk,hv⟩,ht⟩:=h;unfold Instr.findNow;rw [hk,hs]
   by_cases he:k=a.1
   ·refine ⟨some (i,e.val),by simp [he],?_,?_⟩
    ·simp [lookE,he,hv]
    ·intro j v hj
     simp only [dF,Prod.mk.injEq] at hj;obtain ⟨rfl,rfl⟩:=hj;simp [he]
   ·obtain ⟨o,h1,h2,h3⟩:=ih t (i+1) ht
    refine ⟨o,by simpa [he] using h1,?_,?_⟩
    ·rw [h2];simp [lookE,he]
    ·intro j v hj
     obtain ⟨h4,h5,h6,h7⟩:=h3 j v hj;have e1:j - i=(j - (i+1))+1:=za;refine ⟨za,zj,by rw [e1];simpa using h6,fun s hs=>?_⟩
     cases s with
     | zero=>simp;exact fun hh=>he hh.symm
     | succ s=>simpa using h7 s za
section
variable {P:Program} {κ:Type} [DecidableEq κ] {mk:κ→Value} {T K E:TypeId}
theorem zAA (hT:P.underlying T=some (.map K E)) (hK:KeyT P K mk) {z:Value} (hz:∀ w,(zeroValue E).run P w = .ok z w) {w:World} {r:Nat} {f:κ→Option Value} (h:zAt mk w r f) (k:κ) (ok:Bool) :
  (Instr.lookup T (.map (some r)) (mk k) ok).run P w = .ok (if ok then .tuple #[(f k).getD z,.bool (f k).isSome] else (f k).getD z) w:=by
 obtain ⟨es,clk,L,hr,hL,hf⟩:=h;obtain ⟨d,hd,hs⟩:=hK.same;obtain ⟨o,h1,h2,_⟩:=findNow_go hs k es.toList L 0 hL;have hg:(getObj r).run P w = .ok (.map es clk) w:=by simp [getObj,Sem.run,hr]
 have hfk:(Instr.findKey K (mk k) es.toList).run P w = .ok o w:=by
  simp [Instr.findKey,run_underlying hd,h1]
 rw [hf] at h2
 cases o with
 | none =>
  have:f k=none:=by simpa using h2.symm
  simp [Instr.lookup,run_underlying hT,hg,hK.chk,hfk,hz,this]
 | some p =>
  obtain ⟨i,v⟩:=p;have:f k=some v:=by simpa using h2.symm
  simp [Instr.lookup,run_underlying hT,hg,hK.chk,hfk,this]
theorem chk_string (hK:P.underlying K=some .string) (b:Bool) (a:BA) (w:World) (n:Nat):(Instr.checkKey b (n+1) K (.string a)).run P w = .ok () w:=by
 simp [Instr.checkKey,run_underlying hK]
theorem chk_int (hK:P.underlying K=some (.int .i64)) (b:Bool) (a:Int) (w:World) (n:Nat):(Instr.checkKey b (n+1) K (.int .i64 a)).run P w = .ok () w:=by
 simp [Instr.checkKey,run_underlying hK]
theorem zBk (hK:P.underlying K=some .string):KeyT P K Value.string where
 same:=⟨_,hK,fun a b=>by
  simp only [Instr.sameNow,dF];rw [beq_toListBytes,Bool.eq_iff_iff]
  constructor
  ·intro h
   have h':a.toList=b.toList:=yn;rw [ByteArray.toList_eq,ByteArray.toList_eq] at h'
   simpa using ByteArray.ext (Array.toList_inj.1 h')
  ·intro h
   have:a=b:=yn;subst this;simp⟩
 bits a:=by
  simp only [Instr.sameBits];rw [beq_toListBytes];simp
 chk b a w:=chk_string hK b a w 9999
theorem keyT_int (hK:P.underlying K=some (.int .i64)):KeyT P K (fun n:Int=>Value.int .i64 n) where
 same:=⟨_,hK,fun a b=>by simp only [Instr.sameNow,if_true,dF];rfl⟩
 bits a:=by simp [Instr.sameBits]
 chk b a w:=chk_int hK b a w 9999
theorem lookE_set {L:List (κ×Value)} {j:Nat} {k:κ} {v:Value} (hj:j<L.length) (hk:(L[j]?).map (·.1)=some k) (hmin:∀ t,t<j→(L[t]?).map (·.1)≠some k) :
  ∀ k',lookE (L.modify j fun _=>(k,v)) k'=if k'=k then some v else lookE L k':=by
 induction L generalizing j with
 | nil=>simp at hj
 | cons a t ih =>
  intro k'
  cases j with
  | zero =>
   have ha:a.1=k:=qj
   by_cases h:k'=k
   ·subst h;simp [lookE]
   ·simp [lookE,h,ha]
  | succ j =>
   have ha:a.1≠k:=by
    have:=hmin 0 za
    simpa using this
   have:=ih (j:=j) (by simpa using hj) qj (fun s hs=>by simpa using hmin (s+1) za) k'
   by_cases h:k'=a.1
   ·subst h;simp [lookE,ha]
   ·simp only [List.modify_succ_cons]
    unfold lookE at this ⊢;rw [List.find?_cons_of_neg yn,List.find?_cons_of_neg yn];exact this
theorem lookE_push {L:List (κ×Value)} {k:κ} {v:Value} (h:lookE L k=none):∀ k',lookE (L++[(k,v)]) k'=if k'=k then some v else lookE L k':=by
 intro k';unfold lookE at *;rw [List.find?_append]
 by_cases hk:k'=k
 ·subst hk
  have:L.find? (fun e=>decide (k'=e.1))=none:=yn
  simp [this]
 ·simp only [List.find?_cons,hk,decide_false,List.find?_nil,if_false]
  cases L.find? (fun e=>decide (k'=e.1))<;>rfl
theorem zAZ (hT:P.underlying T=some (.map K E)) (hK:KeyT P K mk) {w:World} {r:Nat} {f:κ→Option Value} (h:zAt mk w r f) (k:κ) (v:Value) :
  ∃ w',(Instr.mapUpdate T (.map (some r)) (mk k) v).run P w = .ok () w'∧zAt mk w' r (fun k'=>if k'=k then some v else f k')∧w.grownBy w' (some r)∧w'.heap.size=w.heap.size:=by
 obtain ⟨es,clk,L,hr,hL,hf⟩:=h;have hrl:r<w.heap.size:=(Array.getElem?_eq_some_iff.1 hr).1;obtain ⟨d,hd,hs⟩:=hK.same;obtain ⟨o,h1,h2,h3⟩:=findNow_go hs k es.toList L 0 hL;have hg:(getObj r).run P w = .ok (.map es clk) w:=by simp [getObj,Sem.run,hr]
 have hset:∀ (es':Array MapEntry) (c':Nat),(setObj r (.map es' c')).run P w = .ok () { w with heap:=w.heap.setIfInBounds r (.map es' c') }:=fun es' c'=>by simp [setObj,Sem.run,hr]
 have hfk:(Instr.findKey K (mk k) es.toList).run P w = .ok o w:=by
  simp [Instr.findKey,run_underlying hd,h1]
 have hgrow:∀ (es':Array MapEntry) (c':Nat),w.grownBy { w with heap:=w.heap.setIfInBounds r (.map es' c') } (some r):=fun es' c' =>
  ⟨rfl,rfl,rfl,zg,fun i hi hne=>by simp only [Array.getElem?_setIfInBounds];rw [aC (fun e=>hne (by rw [e]))]⟩
 have hget:∀ (es':Array MapEntry) (c':Nat),({ w with heap:=w.heap.setIfInBounds r (.map es' c') }:World).heap[r]?=some (.map es' c'):=fun es' c'=>by
  simp [hrl]
 rw [hf] at h2;have hlen:es.size=L.length:=by have:=aV List.length hL;simpa using this
 cases o with
 | none =>
  have hn:f k=none:=by simpa using h2.symm
  refine ⟨_,?_,⟨_,_,L++[(k,v)],hget (es.push { key:=mk k,val:=v,born:=clk }) (clk+1),?_,?_⟩,hgrow _ _,zg⟩
  ·simp [Instr.mapUpdate,run_underlying hT,hg,hK.chk,hfk,hset]
  ·simp [hL]
  ·intro k'
   rw [lookE_push (by rw [hf];exact hn),hf]
 | some p =>
  obtain ⟨i,v0⟩:=p;obtain ⟨_,h5,h6,h7⟩:=h3 i v0 rfl;simp only [Nat.sub_zero] at h5 h6 h7;have hi:i<es.size:=za
  have hkey:es[i].key=mk k:=by
   have e1:(es.toList.map fun e=>(e.key,e.val))[i]?=(L.map fun p=>(mk p.1,p.2))[i]?:=by rw [hL]
   rw [List.getElem?_map,List.getElem?_map,List.getElem?_eq_getElem h5,List.getElem?_eq_getElem yt] at e1;rw [List.getElem?_eq_getElem h5] at h6;simp only [dJ,dF,Prod.mk.injEq] at e1 h6;rw [←h6];simpa using e1.1
  have hstay:∀ x,(Instr.keyThatStays (mk k) (mk k)).run P x = .ok (mk k) x:=fun x=>by
   simp [Instr.keyThatStays,hK.bits]
  refine ⟨_,?_,⟨_,_,L.modify i fun _=>(k,v),hget (es.modify i fun e=>{ e with key:=mk k,val:=v }) clk,?_,?_⟩,hgrow _ _,zg⟩
  ·simp [Instr.mapUpdate,run_underlying hT,hg,hK.chk,hfk,hi,hkey,hstay,hset]
  ·apply List.ext_getElem?
   intro n;have e1:(es.toList.map fun e=>(e.key,e.val))[n]?=(L.map fun p=>(mk p.1,p.2))[n]?:=by rw [hL]
   rw [List.getElem?_map,List.getElem?_map] at e1;rw [List.getElem?_map,List.getElem?_map,List.getElem?_modify,Array.toList_modify,List.getElem?_modify]
   by_cases hn:i=n
   ·subst hn
    rw [List.getElem?_eq_getElem h5,List.getElem?_eq_getElem yt];simp
   ·simp only [hn,if_false]
    cases hx:es.toList[n]?<;>cases hy:L[n]?<;>simp_all
  ·intro k'
   rw [lookE_set h5 h6 h7,hf]
end
end Dw
namespace Go.Proofs.YtoaelidmmcbkfaaGreatDoor
open Go.RowKit Dw
def mp (l:List Rg):Nat→BA→Option Value
 | 0,_=>none
 | k+1,s=>if s=nmAt l k then some (.int .i64 (k:Int)) else mp l k s
theorem mp_none {l:List Rg} {s:BA}:∀ {k:Nat},k≤l.length→(∀ j (h:j<l.length),j<k→(l[j]).nm≠s)→mp l k s=none
 | 0,_,_=>rfl
 | k+1,hk,h=>by
  rw [mp,aC,mp_none za (fun j hj hjk=>h j hj za)]
  rw [zBF za];exact fun e=>h k za za e.symm
theorem mp_some {l:List Rg} (hi:Inc l) {x:Nat} (hx:x<l.length):∀ {k:Nat},x<k→k≤l.length→mp l k (l[x]).nm=some (.int .i64 (x:Int))
 | 0,h,_=>za
 | k+1,h,hk=>by
  rw [mp]
  by_cases e:x=k
  ·subst e;rw [aE (zBF hx).symm]
  ·rw [aC,mp_some hi hx za za]
   rw [zBF za];exact fun e'=>e (hi.inj hx za e')
theorem mp_idx {l:List Rg} (hi:Inc l) (s:BA):mp l l.length s=(idx l s).map fun x=>.int .i64 (x:Int):=by
 cases h:idx l s with
 | none=>exact mp_none (aB _) fun j hj _=>idx_none h hj
 | some x =>
  obtain ⟨hx,rfl⟩:=zCv h;exact mp_some hi hx hx (aB _)
theorem kStr:KeyT Tryz.prog 9 Value.string:=zBk Tryz.underlying9
theorem tMap:Tryz.prog.underlying 93=some (.map 9 3):=Tryz.underlying93
theorem zInt (w:World):(zeroValue 3).run Tryz.prog w = .ok (.int .i64 0) w:=zb
def ChkP1 (w:World) (l:List Rg) (m:Nat) (i:Value) (wr:World):Prop :=
 ∃ k:Nat,k+m=l.length∧i = .int .i64 k∧(∀ j,j<k→zBe l j=none)∧zAt Value.string wr w.heap.size (mp l k)∧Below w.heap.size w wr
def ChkP2 (w:World) (l:List Rg) (m:Nat) (i:Value) (wr:World):Prop :=
 ∃ k:Nat,k+m=l.length∧i = .int .i64 k∧(∀ j (h:j<l.length),j<k→zCr l l[j]=false)∧zAt Value.string wr w.heap.size (mp l l.length)∧Below w.heap.size w wr
def ChkP3 (w:World) (l:List Rg) (m:Nat) (i:Value) (wr:World):Prop :=
 ∃ k:Nat,k+m=l.length∧i = .int .i64 k∧(∀ j,j<k→upN l (l.length+2) j=none)∧zAt Value.string wr w.heap.size (mp l l.length)∧Below w.heap.size w wr
def ChkP4 (w:World) (l:List Rg) (i R:Nat) (m:Nat) (n:Value) (wr:World):Prop :=
 ∃ k:Nat,k+m=l.length+1∧n = .int .i64 k∧∃ j,∃ hj:j<l.length,upN l k i=some j∧wr.heap[R]?=some (.cells #[.string (l[j]).nm,.string (l[j]).par] 56 (0,0)) ∧
  zAt Value.string wr w.heap.size (mp l l.length)∧Below w.heap.size w wr
theorem box2 {wr w2:World} {v0 v1:Value} {t:TypeId} (hb:Below (wr.alloc (.cells #[v0,v1] t)).heap.size (wr.alloc (.cells #[v0,v1] t)) w2) :
  w2.heap[wr.heap.size]?=some (.cells #[v0,v1] t (0,0)):=by
 rw [hb.block _ zg];exact bY _ _
theorem box2_0 {w:World} {g:Nat} {v0 v1:Value} {t:TypeId} (h:w.heap[g]?=some (.cells #[v0,v1] t (0,0))):w.cell? ⟨g,0,none⟩=some v0:=by
 rw [bM w g 0 _ t (0,0) h];rfl
theorem box2_1 {w:World} {g:Nat} {v0 v1:Value} {t:TypeId} (h:w.heap[g]?=some (.cells #[v0,v1] t (0,0))):w.cell? ⟨g,1,none⟩=some v1:=by
 rw [bM w g 1 _ t (0,0) h];rfl
theorem box2_f {w:World} {g:Nat} {v0 v1:Value} {t:TypeId} (h:w.heap[g]?=some (.cells #[v0,v1] t (0,0))) (i:Nat):w.frozen? ⟨g,i,none⟩=false :=
 bU w g i _ t h
theorem box2_set {w:World} {g:Nat} {v0 v1 u0 u1:Value} {t:TypeId} (h:w.heap[g]?=some (.cells #[v0,v1] t (0,0))) :
  ((w.setCell ⟨g,0,none⟩ u0).setCell ⟨g,1,none⟩ u1).heap[g]?=some (.cells #[u0,u1] t (0,0)):=by
 have h1:=dK w g 0 _ t u0 h;exact dK _ g 1 _ t u1 h1
theorem below_map {B r:Nat} {a w w':World} (h:Below B a w) (hg:w.grownBy w' (some r)) (hr:B≤r) (hB:B≤w.heap.size):Below B a w' :=
 h.grown hg hB fun k hk=>by injection hk with hk;omega
theorem CheckRegions_c (A:Option Addr) (c:Nat) (l:List Rg) (w:World) (h:Rgs w A l) (hz:∀ i (h:i<l.length),(l[i]).nm.size≤9223372036854775807) :
  Calls Tryz.prog 41 #[.slice A l.length c] w (zAe (.int .i64 (chkR l)) w):=by
 generalize hres:chkR l=res;have HR:=zq hres;clear hres
 by_cases h1:l=[]
 ·subst h1
  go_enter Tryz.func41,Tryz.ntmps41
  go_wp2;go_ret
  refine zAe.mk (zBa ?_) (bN _ _)
  rw [←HR.o];rfl
 have h1':0<l.length:=List.length_pos_iff.2 h1;have hl0:((l.length:Int) == 0)=false:=by rw [aG];omega
 by_cases hlen:200<l.length
 ·go_enter Tryz.func41,Tryz.ntmps41
  go_wp2;go_ret
  refine zAe.mk (zBa ?_) (bN _ _)
  rw [←HR.o];unfold chkR;rw [aC h1,aE hlen]
 have hn:l.length≤200:=za;obtain ⟨b,o,rfl,hb,hc⟩:=h.at_ h1';have HC:=zq hc;have HZ:=zq hz;have H1:=zq h1;clear hc hz h1;have hmm:=@run_makeMap Tryz.prog
 go_enter Tryz.func41,Tryz.ntmps41
 go_wp2;clear hmm
 go_loopg [22] l.length (ChkP1 w l)
 case atStart=>exact ⟨0,za,rfl,fun j hj=>absurd hj za,zAt.new _ _,(bN _ _).alloc (aB _) _⟩
 case round =>
  obtain ⟨k,hk,rfl,hpre,hmap,hbel⟩:=hrel;have HK:=zq hk;have HP:=zq hpre;have HM:=zq hmap;have HB:=zq hbel;have hk1:k≤l.length:=za;have hwr:w.heap.size<wr.heap.size:=hmap.lt;have hbr:b<wr.heap.size:=za;clear hk hpre hmap hbel
  by_cases hlt:k<l.length
  ·have hc0:wr.cell? ⟨b,o+k*2,none⟩=some (.string (l[k]).nm):=(HB.o.cell hb).trans (HC.o k hlt).1
   have hc1:wr.cell? ⟨b,o+k*2+1,none⟩=some (.string (l[k]).par):=(HB.o.cell hb).trans (HC.o k hlt).2;have hr0:=zBF hlt;have hzk:=HZ.o k hlt
   have hcp:0<k→wr.cell? ⟨b,o+(k - 1)*2,none⟩=some (.string (nmAt l (k - 1))):=fun hk0=>by
    rw [zBF za];exact (HB.o.cell hb).trans (HC.o (k - 1) za).1
   go_wp2_with fail
   refine (zBM _ _ hzk).mono ?_
   rintro e w2 ⟨rfl,hb2⟩;have hR:=box2 hb2;have hR0:=box2_0 hR;have hmap2:=(HM.o.alloc _).below hb2;have hbel2:Below w.heap.size w w2:=(HB.o.alloc za _).trans (hb2.mono zj)
   have hcp2:0<k→w2.cell? ⟨b,o+(k - 1)*2,none⟩=some (.string (nmAt l (k - 1))):=fun hk0=>by
    rw [←hcp hk0];exact (hb2.cell zj).trans (World.cell?_alloc_lt _ _ _ hbr)
   clear hcp hc0 hc1 HM HB hR hb2
   cases hq:zAC (l[k]).nm with
   | false =>
    have hres:res=5:=by
     rw [←HR.o,chkR_first H1.o hlen hlt HP.o (x:=5) (by unfold zBe;rw [hr0,aE hq])]
    have HS:=zq hres;have HB2:=zq hbel2;clear hres hq hr0 hbel2 hmap2 hcp2;go_wp2;go_ret
    exact zAe.mk (zBa HS.o.symm) HB2.o
   | true =>
    by_cases hk0:0<k
    ·have hd:decide ((0:Int)<(k:Int))=true:=by simp;omega
     have hcpk:=hcp2 hk0;clear hcp2
     cases hle:sle (l[k]).nm (nmAt l (k - 1)) with
     | true =>
      have hleb:=hle;unfold sle at hleb
      have hres:res=8:=by
       rw [←HR.o,chkR_first H1.o hlen hlt HP.o (x:=8) (by unfold zBe;rw [hr0,aC (by rw [hq];simp),aE ⟨hk0,hle⟩])]
      have HS:=zq hres;have HB2:=zq hbel2;clear hres hq hr0 hle hbel2 hmap2;go_wp2
      go_quiet (fail)
      go_wp2;go_ret
      exact zAe.mk (zBa HS.o.symm) (zAc HB2.o _)
     | false =>
      have hleb:=hle;unfold sle at hleb
      have HF:Hid (zBe l k=none):=by
       show zBe l k=none
       unfold zBe;rw [hr0,aC (by rw [hq];simp),aC (by rw [hle];simp)]
      have HM2:=zq hmap2;have HB2:=zq hbel2;clear hq hle hmap2 hbel2;go_wp2
      go_quiet (fail)
      obtain ⟨w3,hrun,hm3,hg3,hs3⟩:=zAZ tMap kStr (HM2.o.drewN nq) (l[k]).nm (.int .i64 (k:Int));have HM3:=zq hm3;have HB3:=zq (below_map (zAc HB2.o nq) hg3 (aB _) (by have:=HB2.o.size;simpa using this))
      have HR0:=zq hr0;clear hm3 hg3 hs3 HM2 HB2 hr0;go_wp2
      go_roundg (gk - 1)
      case measure=>have:=HK.o;omega
      case rel =>
       refine ⟨k+1,zk,zx,fun j hj=>?_,?_,HB3.o⟩
       ·rcases bK j k with h1 | h1
        ·exact HP.o j h1
        ·obtain rfl:j=k:=by omega
         exact HF.o
       ·have:=HM3.o
        rw [←HR0.o] at this;exact this
    ·have hd:decide ((0:Int)<(k:Int))=false:=by simp;omega
     have HF:Hid (zBe l k=none):=by
      show zBe l k=none
      unfold zBe;rw [hr0,aC (by rw [hq];simp),aC za]
     have HM2:=zq hmap2;have HB2:=zq hbel2;clear hq hmap2 hbel2 hcp2;go_wp2
     go_quiet (fail)
     obtain ⟨w3,hrun,hm3,hg3,hs3⟩:=zAZ tMap kStr (HM2.o.drewN nq) (l[k]).nm (.int .i64 (k:Int));have HM3:=zq hm3;have HB3:=zq (below_map (zAc HB2.o nq) hg3 (aB _) (by have:=HB2.o.size;simpa using this))
     have HR0:=zq hr0;clear hm3 hg3 hs3 HM2 HB2 hr0;go_wp2
     go_roundg (gk - 1)
     case measure=>have:=HK.o;omega
     case rel =>
      refine ⟨k+1,zk,zx,fun j hj=>?_,?_,HB3.o⟩
      ·rcases bK j k with h1 | h1
       ·exact HP.o j h1
       ·obtain rfl:j=k:=by omega
        exact HF.o
      ·have:=HM3.o
       rw [←HR0.o] at this;exact this
  ·have hF0:∀ j,j<l.length→zBe l j=none:=fun j hj=>HP.o j za
   have HF0:=zq hF0;have HI:=zq (inc_of_fault hF0).2;obtain rfl:k=l.length:=za;clear hF0 HP HK hk1 hlt;go_wp2
   go_loopg [51] l.length (ChkP2 w l)
   case atStart=>exact ⟨0,za,rfl,fun j _ hj=>absurd hj za,HM.o,HB.o⟩
   clear HM HB hwr hbr
   case round =>
    obtain ⟨k,hk,rfl,hpre,hmap,hbel⟩:=hrel;have HK:=zq hk;have HP:=zq hpre;have HM:=zq hmap;have HB:=zq hbel;have hk1:k≤l.length:=za;have hwr:w.heap.size<wr.heap.size:=hmap.lt;have hbr:b<wr.heap.size:=za;clear hk hpre hmap hbel
    by_cases hlt:k<l.length
    ·have hc0:wr.cell? ⟨b,o+k*2,none⟩=some (.string (l[k]).nm):=(HB.o.cell hb).trans (HC.o k hlt).1
     have hc1:wr.cell? ⟨b,o+k*2+1,none⟩=some (.string (l[k]).par):=(HB.o.cell hb).trans (HC.o k hlt).2;have hlk:=zAA tMap kStr zInt (HM.o.alloc (.cells #[.string (l[k]).nm,.string (l[k]).par] 56)) (l[k]).par true;have HM2:=zq (HM.o.alloc (.cells #[.string (l[k]).nm,.string (l[k]).par] 56));have HB2:=zq (HB.o.alloc (bD hwr) (.cells #[.string (l[k]).nm,.string (l[k]).par] 56));clear HM HB
     by_cases hp:(l[k]).par=emp
     ·have he:=zAm hp
      have HF:Hid (zCr l l[k]=false):=by
       show zCr l l[k]=false
       simp [zCr,hp]
      generalize (mp l l.length (l[k]).par).getD (.int .i64 0)=v at hlk;generalize (mp l l.length (l[k]).par).isSome=bl at hlk;simp only [if_true] at hlk;clear hp;go_wp2
      go_roundg (gk - 1)
      case measure=>have:=HK.o;omega
      case rel =>
       refine ⟨k+1,zk,zx,fun j hj hjk=>?_,HM2.o,HB2.o⟩
       rcases bK j k with h1 | h1
       ·exact HP.o j hj h1
       ·obtain rfl:j=k:=by omega
        exact HF.o
     ·have he:=zAn hp
      cases hix:idx l (l[k]).par with
      | none =>
       rw [mp_idx HI.o,hix] at hlk;simp only [if_true,Option.map_none,Option.getD_none,Option.isSome_none] at hlk
       have hres:res=5:=by
        rw [←HR.o];exact chkR_par H1.o hlen HF0.o hlt (by simp [zCr,hp,hix])
       have HS:=zq hres;clear hres hix hp;go_wp2;go_ret
       exact zAe.mk (zBa HS.o.symm) HB2.o
      | some x =>
       rw [mp_idx HI.o,hix] at hlk;simp only [if_true,dJ,dL,Option.isSome_some] at hlk
       have HF:Hid (zCr l l[k]=false):=by
        show zCr l l[k]=false
        simp [zCr,hix]
       clear hix hp;go_wp2
       go_roundg (gk - 1)
       case measure=>have:=HK.o;omega
       case rel =>
        refine ⟨k+1,zk,zx,fun j hj hjk=>?_,HM2.o,HB2.o⟩
        rcases bK j k with h1 | h1
        ·exact HP.o j hj h1
        ·obtain rfl:j=k:=by omega
         exact HF.o
    ·have hP0:∀ j (h:j<l.length),zCr l l[j]=false:=fun j hj=>HP.o j hj za
     have HP0:=zq hP0;clear hP0;go_wp2;clear HK HP hk1 hlt
     go_loopg [72] l.length (ChkP3 w l)
     case atStart=>exact ⟨0,za,rfl,fun j hj=>absurd hj za,HM.o,HB.o⟩
     clear HM HB hwr hbr
     case round =>
      obtain ⟨i,hk,rfl,hpre,hmap,hbel⟩:=hrel;have HK:=zq hk;have HP:=zq hpre;have HM:=zq hmap;have HB:=zq hbel;have hk1:i≤l.length:=za;have hwr:w.heap.size<wr.heap.size:=hmap.lt;have hbr:b<wr.heap.size:=za;clear hk hpre hmap hbel;obtain ⟨g1,hg1⟩:∃ g1,g1=gk:=⟨_,rfl⟩;subst hg1;obtain ⟨w0,hw0⟩:∃ w0:World,w0=wr:=⟨_,rfl⟩;subst hw0
      by_cases hlt:i<l.length
      ·have hc0:w0.cell? ⟨b,o+i*2,none⟩=some (.string (l[i]).nm):=(HB.o.cell hb).trans (HC.o i hlt).1
       have hc1:w0.cell? ⟨b,o+i*2+1,none⟩=some (.string (l[i]).par):=(HB.o.cell hb).trans (HC.o i hlt).2;have HM2:=zq (HM.o.alloc (.cells #[.string (l[i]).nm,.string (l[i]).par] 56));have HB2:=zq (HB.o.alloc (bD hwr) (.cells #[.string (l[i]).nm,.string (l[i]).par] 56));go_wp2;clear hc0 hc1
       go_loopg [12] (l.length+1) (ChkP4 w l i w0.heap.size)
       case atStart=>exact ⟨0,za,rfl,i,hlt,rfl,bY _ _,HM2.o,HB2.o⟩
       clear HM2 HB2
       case round =>
        obtain ⟨k,hk,rfl,j,hj,hup,hRj,hmap,hbel⟩:=hrel;have HK4:=zq hk;have HU:=zq hup;have hk2:k≤l.length+1:=za;have hR0:=box2_0 hRj;have hR1:=box2_1 hRj;have hf0:=box2_f hRj 0;have hf1:=box2_f hRj 1;have HRJ:=zq hRj;have HM4:=zq hmap;have HB4:=zq hbel;have hwi:w.heap.size<wr.heap.size:=hmap.lt;clear hk hup hRj hmap hbel
        by_cases hp:(l[j]).par=emp
        ·have he:=zAm hp
         have hend:upN l (l.length+2) i=none:=by
          have:upN l (k+1) i=none:=by rw [upN_add,HU.o];simp [upN,up_none hj hp]
          exact upN_none_mono this za
         have HE:=zq hend;clear hend hp;go_wp2
         go_roundg (g1 - 1)
         case measure=>have:=HK.o;omega
         case rel =>
          refine ⟨i+1,zk,zx,fun t ht=>?_,HM4.o,HB4.o⟩
          rcases bK t i with h3 | h3
          ·exact HP.o t h3
          ·obtain rfl:t=i:=by omega
           exact HE.o
        ·have he:=zAn hp
         obtain ⟨j',hx⟩:=parBad_false HP0.o hj hp;obtain ⟨hj',hnm⟩:=zCv hx
         have hup':upN l (k+1) i=some j':=by
          rw [upN_add,HU.o];simp [upN,up_of hj,hp,hx]
         have HU':=zq hup'
         by_cases hbig:l.length<k
         ·have hres:res=14:=by
           rw [←HR.o,chkR_last H1.o hlen HF0.o HP0.o,aC];intro hE;have h2:=hE i hlt;rw [show l.length+2=k+1 from by omega,HU'.o] at h2
           cases h2
          have HS:=zq hres;clear hres hup' hx hnm hp;go_wp2;go_ret
          exact zAe.mk (zBa HS.o.symm) HB4.o
         ·have hlk:=zAA tMap kStr zInt HM4.o (l[j]).par false
          rw [mp_idx HI.o,hx] at hlk;simp only [dE,if_false,dJ,dL] at hlk;have hc0:wr.cell? ⟨b,o+j'*2,none⟩=some (.string (l[j']).nm):=(HB4.o.cell hb).trans (HC.o j' hj').1;have hc1:wr.cell? ⟨b,o+j'*2+1,none⟩=some (.string (l[j']).par):=(HB4.o.cell hb).trans (HC.o j' hj').2;clear hup' hx hnm hp;go_wp2
          go_roundg (gk - 1)
          case measure=>have:=HK4.o;omega
          case rel =>
           refine ⟨k+1,by have:=HK4.o;omega,zx,j',hj',HU'.o,box2_set HRJ.o,?_,?_⟩
           ·exact (HM4.o.setCell (a:=⟨w0.heap.size,0,none⟩) (by show w.heap.size≠w0.heap.size;omega) _).setCell (a:=⟨w0.heap.size,1,none⟩) (by show w.heap.size≠w0.heap.size;omega) _
           ·exact (HB4.o.setCell (p:=⟨w0.heap.size,0,none⟩) (by show w.heap.size≤w0.heap.size;omega) _).setCell (p:=⟨w0.heap.size,1,none⟩) (by show w.heap.size≤w0.heap.size;omega) _
      ·have hres:res=0:=by
        rw [←HR.o,chkR_last H1.o hlen HF0.o HP0.o,aE];exact fun t ht=>HP.o t za
       have HS:=zq hres;clear hres;go_wp2;go_ret
       exact zAe.mk (zBa HS.o.symm) HB.o
end Go.Proofs.YtoaelidmmcbkfaaGreatDoor
namespace Dw
open Go
def zAl (ops:Array Oper) (vals:Nat→Value):List Nat→Act→Act
 | [],a=>a
 | i::L,a=>zAl ops vals L (a.put ((ops[i]?).bind (·.dst)) (vals i))
def zAz (n:Nat) (done:Nat→Bool):List Nat:=(List.range n).filter done
def zBx {α:Type} (f:Nat→α) (i:Nat) (v:α):Nat→α:=fun j=>if j=i then v else f j
def Apart (ops:Array Oper):Prop:=∀ i j:Nat,i<ops.size→j<ops.size→i≠j→∀ d,(ops[i]?).bind (·.dst)=some d→(ops[j]?).bind (·.dst)≠some d
def apartB (ops:Array Oper):Bool:=(List.range ops.size).all fun i=>(List.range ops.size).all fun j=>i == j || ((ops[i]?).bind (·.dst)).isNone || (ops[i]?).bind (·.dst) != (ops[j]?).bind (·.dst)
theorem apart_of {ops:Array Oper} (h:apartB ops=true):Apart ops:=fun i j hi hj hne d hd he=>by
 unfold apartB at h;have h1:=List.all_eq_true.1 h i (List.mem_range.2 hi);have h2:=List.all_eq_true.1 h1 j (List.mem_range.2 hj);rw [hd,he] at h2;simp [hne] at h2
def backB (ops:Array Oper):Bool:=(List.range ops.size).all fun i=>((ops[i]?).map fun o=>o.after.all fun e=>!Region.binds .any e || decide (e.on<i)).getD true
theorem zDm (ops:Array Oper) (vals:Nat→Value):∀ (L M:List Nat) (a:Act),zAl ops vals (L++M) a=zAl ops vals M (zAl ops vals L a)
 | [],_,_=>rfl
 | i::L,M,a=>by rw [aL,zAl,zAl,zDm ops vals L M]
theorem putAll_congr {ops:Array Oper} {vals vals':Nat→Value}:∀ {L:List Nat} {a:Act},(∀ i∈L,vals i=vals' i)→zAl ops vals L a=zAl ops vals' L a
 | [],_,_=>rfl
 | i::L,a,h=>by
  rw [zAl,zAl,h i zg];exact putAll_congr fun j hj=>h j (by simp [hj])
theorem doneL_succ (n:Nat) (done:Nat→Bool):zAz (n+1) done=zAz n done++(if done n then [n] else []):=by
 unfold zAz;rw [List.range_succ,List.filter_append]
 cases h:done n<;>simp [h]
theorem doneL_congr {n:Nat} {d d':Nat→Bool} (h:∀ j,j<n→d j=d' j):zAz n d=zAz n d':=List.filter_congr fun x hx=>h x (List.mem_range.1 hx)
theorem mem_doneL {n i:Nat} {done:Nat→Bool}:i∈zAz n done↔i<n∧done i=true:=by
 unfold zAz;rw [List.mem_filter,List.mem_range]
theorem putAll_ins {ops:Array Oper} (hap:Apart ops) {vals:Nat→Value} {done:Nat→Bool} {i:Nat} {v:Value} {a:Act} (hi:done i=false) :
  ∀ n,i<n→n≤ops.size→zAl ops (zBx vals i v) (zAz n (zBx done i true)) a=(zAl ops vals (zAz n done) a).put ((ops[i]?).bind (·.dst)) v
 | 0,h,_=>za
 | n+1,h,hn=>by
  rw [doneL_succ,doneL_succ,zDm,zDm]
  by_cases e:i=n
  ·subst e
   have e1:zAz i (zBx done i true)=zAz i done:=doneL_congr fun j hj=>by simp [zBx];omega
   rw [e1,hi]
   have e2:zAl ops (zBx vals i v) (zAz i done) a=zAl ops vals (zAz i done) a:=putAll_congr fun j hj=>by
    have:=(mem_doneL.1 hj).1;simp [zBx];omega
   simp [zBx,zAl,e2]
  ·have ih:=putAll_ins hap (vals:=vals) (v:=v) (a:=a) hi n za za
   have e1:zBx done i true n=done n:=by simp [zBx];omega
   rw [e1,ih]
   cases hd:done n with
   | false=>simp [zAl]
   | true =>
    have e2:zBx vals i v n=vals n:=by simp [zBx];omega
    simp only [if_true,zAl,e2];exact Act.put_comm _ _ _ fun d hd'=>hap i n za za e d hd'
theorem eval_put_same {a:Act} {d:Tmp} {v:Value} (h:d<a.tmps.size):(a.put (some d) v).eval (.tmp d)=v:=by
 simp [Act.put,Act.eval,h]
theorem size_put (a:Act) (d:Option Tmp) (v:Value):(a.put d v).tmps.size=a.tmps.size:=by
 cases d<;>simp [Act.put]
theorem zCb {ops:Array Oper} {vals:Nat→Value} {x:Operand}:∀ {L:List Nat} {a:Act},(∀ i∈L,∀ d,(ops[i]?).bind (·.dst)=some d→x≠.tmp d)→(zAl ops vals L a).eval x=a.eval x
 | [],_,_=>rfl
 | i::L,a,h=>by
  rw [zAl,zCb fun j hj=>h j (by simp [hj])]
  exact Act.eval_put fun d hd=>h i zg d hd
theorem eval_putAll_done {ops:Array Oper} (hap:Apart ops) {vals:Nat→Value} {d:Tmp} {j:Nat} (hj:j<ops.size) (hd:(ops[j]?).bind (·.dst)=some d) :
  ∀ {L:List Nat} {a:Act},j∈L→L.Nodup→(∀ i∈L,i<ops.size)→d<a.tmps.size→(zAl ops vals L a).eval (.tmp d)=vals j
 | [],_,h,_,_,_=>by simp at h
 | i::L,a,h,hnd,hlt,hs=>by
  rw [zAl];rw [List.nodup_cons] at hnd
  rcases List.mem_cons.1 h with e | h'
  ·subst e
   rw [zCb,hd,eval_put_same hs];intro k hk d' hd' e
   injection e with e
   subst e;have hne:j≠k:=fun e=>hnd.1 (e▸hk)
   exact hap j k hj (hlt k (by simp [hk])) hne d hd hd'
  ·exact eval_putAll_done hap hj hd h' hnd.2 (fun k hk=>hlt k (by simp [hk])) (by rw [size_put];exact hs)
section
variable {P:Program} {ops:Array Oper} {Q:Exit→Act→World→Prop}
theorem ready_none {listed:Array Bool} {done:Nat→Bool} (hb:backB ops=true) (hls:listed.size=ops.size) (hl:∀ j,j<ops.size→listed.getD j false=done j) (hr:Region.ready .any ops listed=[]):∀ j,j<ops.size→done j=true:=by
 intro j
 induction j using Nat.strongRecOn with
 | _ j ih =>
  intro hj
  cases hd:done j with
  | true=>rfl
  | false =>
   exfalso
   have hmem:j∈Region.ready .any ops listed:=by
    unfold Region.ready;rw [List.mem_filter,List.mem_range];refine ⟨hj,?_⟩
    have h1:=hl j hj;have hjs:j<listed.size:=za
    have h2:listed.getD j true=false:=by
     rw [hd] at h1;simp [Array.getD,hjs] at h1 ⊢
     exact h1
    rw [h2];have h3:=List.all_eq_true.1 hb j (List.mem_range.2 hj);rw [Array.getElem?_eq_getElem hj] at h3 ⊢;simp only [dJ,dL,Bool.not_false,Bool.true_and] at h3 ⊢;rw [Array.all_eq_true'] at h3 ⊢;intro e he;have h4:=h3 e he
    cases hb2:Region.binds .any e with
    | false=>simp
    | true =>
     rw [hb2] at h4;have h5:e.on<j:=by simpa using h4
     rw [hl e.on za,ih e.on h5 za];simp
   rw [hr] at hmem;simp at hmem
theorem count_set {n i:Nat} {done:Nat→Bool} (hi:i<n) (hd:done i=false):(zAz n fun j=>!zBx done i true j).length+1=(zAz n fun j=>!done j).length:=by
 induction n with
 | zero=>omega
 | succ n ih =>
  rw [doneL_succ,doneL_succ,cS,cS]
  by_cases e:i=n
  ·subst e
   have e1:zAz i (fun j=>!zBx done i true j)=zAz i fun j=>!done j:=doneL_congr fun j hj=>by simp [zBx];omega
   rw [e1];simp [zBx,hd]
  ·have e1:zBx done i true n=done n:=by simp [zBx];omega
   rw [e1,←ih za];omega
theorem wpAny_inv (hap:Apart ops) (hb:backB ops=true) (a0:Act) (J:(Nat→Bool)→(Nat→Value)→World→Prop)
  (hstep:∀ (i:Nat) (done:Nat→Bool) (vals:Nat→Value) (w:World),i<ops.size→J done vals w→done i=false→(∀ o,ops[i]?=some o→∀ e∈o.after,Region.binds .any e=true→done e.on=true) →
   wpOp P ops Q i (fun a' w'=>∃ v,a'=(zAl ops vals (zAz ops.size done) a0).put ((ops[i]?).bind (·.dst)) v∧J (zBx done i true) (zBx vals i v) w') (zAl ops vals (zAz ops.size done) a0) w)
  (hend:∀ (done:Nat→Bool) (vals:Nat→Value) (w:World),(∀ j,j<ops.size→done j=true)→J done vals w→Q .normal (zAl ops vals (List.range ops.size) a0) w) :
  ∀ (fuel:Nat) (listed:Array Bool) (done:Nat→Bool) (vals:Nat→Value) (w:World),listed.size=ops.size→(∀ j,j<ops.size→listed.getD j false=done j)→(zAz ops.size fun j=>!done j).length≤fuel→J done vals w →
   wpAny P .any ops Q fuel listed (zAl ops vals (zAz ops.size done) a0) w:=by
 intro fuel
 have hfin:∀ (done:Nat→Bool) (vals:Nat→Value) (w:World),(∀ j,j<ops.size→done j=true)→J done vals w→Q .normal (zAl ops vals (zAz ops.size done) a0) w:=fun done vals w hd hJ=>by
  have:=hend done vals w hd hJ
  have e:zAz ops.size done=List.range ops.size:=by
   unfold zAz;rw [List.filter_eq_self];exact fun x hx=>hd x (List.mem_range.1 hx)
  rw [e];exact this
 induction fuel with
 | zero =>
  intro listed done vals w hls hl hc hJ
  have hall:∀ j,j<ops.size→done j=true:=fun j hj=>by
   cases hd:done j with
   | true=>rfl
   | false =>
    have:j∈zAz ops.size fun j=>!done j:=mem_doneL.2 ⟨hj,by simp [hd]⟩
    rw [cT (l:=zAz ops.size fun j=>!done j) za] at this
    simp at this
  refine ⟨?_,hfin done vals w hall hJ⟩
  unfold Region.ready;rw [List.filter_eq_nil_iff];intro j hj;have hj':=List.mem_range.1 hj;have h1:=hl j hj';rw [hall j hj'] at h1;have hjs:j<listed.size:=za;have h2:listed.getD j true=true:=by simp [Array.getD,hjs] at h1 ⊢;exact h1
  simp [h2]
 | succ fuel ih =>
  intro listed done vals w hls hl hc hJ;refine ⟨fun hr=>hfin done vals w (ready_none hb hls hl hr) hJ,fun i hi=>?_⟩
  unfold Region.ready at hi;rw [List.mem_filter,List.mem_range] at hi;obtain ⟨hin,hrd⟩:=hi;rw [cU] at hrd;have hjs:i<listed.size:=za
  have hdi:done i=false:=by
   rw [←hl i hin];have:=hrd.1;simp [Array.getD,hjs] at this ⊢
   exact this
  have hdeps:∀ o,ops[i]?=some o→∀ e∈o.after,Region.binds .any e=true→done e.on=true:=fun o ho e he hbd=>by
   have h3:=hrd.2;rw [ho] at h3;simp only [dJ,dL] at h3;rw [Array.all_eq_true'] at h3;have h4:=h3 e he;rw [hbd] at h4;have h5:listed.getD e.on false=true:=by simpa using h4
   have hlt:e.on<ops.size:=by
    refine Nat.lt_of_not_ge fun hge=>?_
    have:¬ e.on<listed.size:=za;simp [Array.getD,this] at h5
   rw [←hl _ hlt];exact h5
  refine wpOp_mono ?_ (hstep i done vals w hin hJ hdi hdeps)
  rintro a' w' ⟨v,rfl,hJ'⟩;rw [←putAll_ins hap hdi ops.size hin (aB _)];refine ih (listed.setIfInBounds i true) (zBx done i true) (zBx vals i v) w' (by simp [hls]) (fun j hj=>?_) ?_ hJ'
  ·have hjs':j<listed.size:=by omega
   by_cases e:j=i
   ·subst e;simp [zBx,Array.getD,hjs']
   ·have:=hl j hj
    simp [zBx,e,Array.getD,hjs'] at this ⊢
    rw [Array.getElem_setIfInBounds_ne za za];exact this
  ·have:=count_set hin hdi
   omega
theorem zDq {id:Nat} {a0:Act} {w:World} (hm:P.follows .mixedOrders=true) (hap:Apart ops) (hb:backB ops=true) (vals0:Nat→Value) (J:(Nat→Bool)→(Nat→Value)→World→Prop)
  (h0:J (fun _=>false) vals0 w.drew)
  (hstep:∀ (i:Nat) (done:Nat→Bool) (vals:Nat→Value) (w:World),i<ops.size→J done vals w→done i=false→(∀ o,ops[i]?=some o→∀ e∈o.after,Region.binds .any e=true→done e.on=true) →
   wpOp P ops Q i (fun a' w'=>∃ v,a'=(zAl ops vals (zAz ops.size done) a0).put ((ops[i]?).bind (·.dst)) v∧J (zBx done i true) (zBx vals i v) w') (zAl ops vals (zAz ops.size done) a0) w)
  (hend:∀ (done:Nat→Bool) (vals:Nat→Value) (w:World),(∀ j,j<ops.size→done j=true)→J done vals w→Q .normal (zAl ops vals (List.range ops.size) a0) w) :
  (Code.region id ops true).wp P Q a0 w:=by
 refine wp_region_any hm ?_
 have e:zAz ops.size (fun _=>false)=[]:=by
  unfold zAz;rw [List.filter_eq_nil_iff];simp
 have:=wpAny_inv (P:=P) (Q:=Q) hap hb a0 J hstep hend ops.size (Array.replicate ops.size false) (fun _=>false) vals0 w.drew zg (fun j hj=>by simp [Array.getD,hj]) (by
  refine cM (cV _ _) ?_
  simp) h0
 rw [e] at this;exact this
end
end Dw
namespace Go.Proofs.YtoaelidmmcbkfaaGreatDoor
open Go.RowKit Dw
theorem zAk {P:Program} {ops:Array Oper} {Q:Exit→Act→World→Prop} {i:Nat} {o:Oper} {K:Act→World→Prop} {a:Act} {w w':World} {v:Value} (ho:ops[i]?=some o) (hg:o.guard=none)
  (hr:(execOp a.eval o).run P w = .ok (.value v) w') (h:K (a.put o.dst v) w'):wpOp P ops Q i K a w:=by
 unfold wpOp;simp only [ho];rw [aE (by simp [Region.wanted,hg])]
 left
 unfold Oper.wp;rw [hr];exact h
theorem wpOp_skip {P:Program} {ops:Array Oper} {Q:Exit→Act→World→Prop} {i:Nat} {o:Oper} {K:Act→World→Prop} {a:Act} {w w':World} (ho:ops[i]?=some o) (hg:o.guard=none)
  (hr:(execOp a.eval o).run P w = .ok .skip w') (h:K (a.put o.dst undef) w'):wpOp P ops Q i K a w:=by
 unfold wpOp;simp only [ho];rw [aE (by simp [Region.wanted,hg])]
 left
 unfold Oper.wp;rw [hr];exact h
def notDst (ops:Array Oper) (t:Tmp):Bool:=(List.range ops.size).all fun i=>(ops[i]?).bind (·.dst) != some t
theorem eval_kept {ops:Array Oper} {vals:Nat→Value} {t:Tmp} {done:Nat→Bool} {a:Act} (h:notDst ops t=true):(zAl ops vals (zAz ops.size done) a).eval (.tmp t)=a.eval (.tmp t):=by
 refine zCb fun i hi d hd e=>?_
 injection e with e
 subst e;have:=List.all_eq_true.1 h i (List.mem_range.2 (mem_doneL.1 hi).1);rw [hd] at this;simp at this
theorem zAo {ops:Array Oper} (hap:Apart ops) {vals:Nat→Value} {done:Nat→Bool} {a:Act} {j:Nat} {d:Tmp} (hj:j<ops.size) (hd:(ops[j]?).bind (·.dst)=some d) (hdone:done j=true) (hs:d<a.tmps.size) :
  (zAl ops vals (zAz ops.size done) a).eval (.tmp d)=vals j :=
 eval_putAll_done hap hj hd (mem_doneL.2 ⟨hj,hdone⟩) (List.nodup_range.filter _) (fun _ hi=>(mem_doneL.1 hi).1) hs
theorem run_make_n {P:Program} (t e:TypeId) {z:Value} {bytes:Nat} (hT:ElemT P t e z 1 bytes) (n:Nat) (hb:bytes*n≤281474976710656) (h63:n≤9223372036854775807) (hz:z.cells=#[z]) (w:World) :
  (Instr.makeSlice t (.int .i64 (n:Int)) (.int .i64 (n:Int))).run P w = .ok (.slice (some ⟨w.heap.size,0,none⟩) n n) (w.alloc (.cells (Array.replicate n z) e)):=by
 obtain ⟨i,hi,hz0,hz1,hz2⟩:=info_parts hT.info
 have hb':(i.bytes:Int)*(n:Int)≤281474976710656:=by
  rw [hz2];have h:((bytes*n:Nat):Int)≤281474976710656:=za
  rwa [bZ] at h
 have hr:=run_make (P:=P) w t e i z hT.ty hi hz0 .i64 .i64 n n za za hb' za;simp only [Int.toNat_natCast] at hr;rw [hz1,hz,Nat.mul_one] at hr
 have e1:madeCells #[z] n=Array.replicate n z:=by
  apply Array.toList_inj.1
  rw [toList_madeCells_one,Array.toList_replicate]
 rw [e1] at hr;exact hr
theorem elInt:ElemT Tryz.prog 94 3 (.int .i64 0) 1 8:=⟨Tryz.underlying94,zb,rfl,zc⟩
theorem elInts:ElemT Tryz.prog 95 94 (.slice none 0 0) 1 24:=⟨Tryz.underlying95,zb,rfl,zc⟩
theorem elBool:ElemT Tryz.prog 116 4 (.bool false) 1 1:=⟨Tryz.underlying116,zb,rfl,zc⟩
theorem elSet:ElemT Tryz.prog 117 4 (.bool false) 1 1:=⟨Tryz.underlying117,zb,rfl,zc⟩
structure NW (w0 w:World) (B:Nat) (SL lv:Value) (r1 r2 g1 g2 s n:Nat) (f1 f2:BA→Option Value) (up bl:Array Value):Prop where
 box:w.heap[s]?=some (.cells #[SL,.map (some r1),lv,.map (some r2),.slice (some ⟨g1,0,none⟩) n n,.slice (some ⟨g2,0,none⟩) n n] 97 (0,0))
 m1:zAt Value.string w r1 f1
 m2:zAt Value.string w r2 f2
 up:w.heap[g1]?=some (.cells up 3 (0,0))
 bl:w.heap[g2]?=some (.cells bl 94 (0,0))
 ne:r1≠r2
 b1:B≤r1
 b2:B≤r2
 b3:B≤g1
 b4:B≤g2
 b5:B≤s
 below:Below B w0 w
def depB (ops:Array Oper) (i j:Nat):Bool:=((ops[i]?).map fun o=>o.after.any fun e=>Region.binds .any e&&e.on == j).getD false
theorem zAT {ops:Array Oper} {i j:Nat} {done:Nat→Bool} (h:depB ops i j=true) (hd:∀ o,ops[i]?=some o→∀ e∈o.after,Region.binds .any e=true→done e.on=true):done j=true:=by
 unfold depB at h
 cases ho:ops[i]? with
 | none=>rw [ho] at h;simp at h
 | some o =>
  rw [ho] at h;simp only [dJ,dL] at h;obtain ⟨e,he,hb⟩:=Array.any_eq_true'.1 h;rw [cU] at hb;have:=hd o ho e he hb.1;rw [show e.on=j from by simpa using hb.2] at this
  exact this
abbrev zAj:Value:=.slice none 0 0
abbrev slAt (g n:Nat):Value:=.slice (some ⟨g,0,none⟩) n n
def boxOf (SL:Value) (lv:Value) (r1 r2 g1 g2 n:Nat):Array Value:=#[SL,.map (some r1),lv,.map (some r2),slAt g1 n,slAt g2 n]
structure J1 (w0:World) (B:Nat) (SL:Value) (n:Nat) (r1 r2 g1 g2 s:Nat) (done:Nat→Bool) (vals:Nat→Value) (w:World):Prop where
 d0:done 0=true→vals 0=SL
 d1:done 1=true→vals 1 = .map (some r1)∧zAt Value.string w r1 (fun _=>none)∧B≤r1
 d2:done 2=true→vals 2 = .map (some r2)∧zAt Value.string w r2 (fun _=>none)∧B≤r2
 d12:done 1=true→done 2=true→r1≠r2
 d3:done 3=true→vals 3=SL
 d4:done 4=true→vals 4 = .int .i64 (n:Int)
 d5:done 5=true→vals 5=slAt g1 n∧w.heap[g1]?=some (.cells (Array.replicate n (.int .i64 0)) 3 (0,0))∧B≤g1
 d6:done 6=true→vals 6=SL
 d7:done 7=true→vals 7 = .int .i64 (n:Int)
 d8:done 8=true→vals 8=slAt g2 n∧w.heap[g2]?=some (.cells (Array.replicate n zAj) 94 (0,0))∧B≤g2
 d9:done 9=true→vals 9 = .agg (boxOf SL zAj r1 r2 g1 g2 n)
 d9':done 9=true→done 1=true∧done 2=true∧done 5=true∧done 8=true
 d10:done 10=true→vals 10 = .pointer (some ⟨s,0,none⟩)∧(∃ cs:Array Value,cs.size=6∧w.heap[s]?=some (.cells cs 97 (0,0)))∧B≤s
 d11:done 11=true→w.heap[s]?=some (.cells (boxOf SL zAj r1 r2 g1 g2 n) 97 (0,0))
 d11':done 11=true→done 9=true∧done 10=true
 below:Below B w0 w
 size:B≤w.heap.size
section
variable {w0 w:World} {B n r1 r2 g1 g2 s:Nat} {SL:Value} {done:Nat→Bool} {vals:Nat→Value}
theorem zAV {w:World} {o:Obj} {g:Nat} {x:Obj} (h:w.heap[g]?=some x):(w.alloc o).heap[g]?=some x:=by
 rw [cX w o g (Array.getElem?_eq_some_iff.1 h).1];exact h
theorem J1.alloc (h:J1 w0 B SL n r1 r2 g1 g2 s done vals w) (o:Obj):J1 w0 B SL n r1 r2 g1 g2 s done vals (w.alloc o) where
 d0:=h.d0
 d1 hd:=⟨(h.d1 hd).1,(h.d1 hd).2.1.alloc o,(h.d1 hd).2.2⟩
 d2 hd:=⟨(h.d2 hd).1,(h.d2 hd).2.1.alloc o,(h.d2 hd).2.2⟩
 d12:=h.d12
 d3:=h.d3
 d4:=h.d4
 d5 hd:=⟨(h.d5 hd).1,zAV (h.d5 hd).2.1,(h.d5 hd).2.2⟩
 d6:=h.d6
 d7:=h.d7
 d8 hd:=⟨(h.d8 hd).1,zAV (h.d8 hd).2.1,(h.d8 hd).2.2⟩
 d9:=h.d9
 d9':=h.d9'
 d10 hd:=⟨(h.d10 hd).1,by obtain ⟨cs,h1,h2⟩:=(h.d10 hd).2.1;exact ⟨cs,h1,zAV h2⟩,(h.d10 hd).2.2⟩
 d11 hd:=zAV (h.d11 hd)
 d11':=h.d11'
 below:=h.below.alloc h.size o
 size:=by have:=h.size;simp;omega
end
theorem zAp {α:Type} (f:Nat→α) (i:Nat) (v:α):zBx f i v i=v:=by simp [zBx]
theorem zAa {α:Type} (f:Nat→α) {i j:Nat} (v:α) (h:j≠i):zBx f i v j=f j:=by simp [zBx,h]
section
variable {w0 w:World} {B n r1 r2 g1 g2 s:Nat} {SL:Value} {done:Nat→Bool} {vals:Nat→Value}
theorem J1.s0 (h:J1 w0 B SL n r1 r2 g1 g2 s done vals w):J1 w0 B SL n r1 r2 g1 g2 s (zBx done 0 true) (zBx vals 0 (SL)) w where
 d0 _:=zAp _ _ _
 d1 hd:=by
  rw [zAa _ _ zc] at hd;rw [zAa _ _ zc];exact h.d1 hd
 d2 hd:=by
  rw [zAa _ _ zc] at hd;rw [zAa _ _ zc];exact h.d2 hd
 d3 hd:=by
  rw [zAa _ _ zc] at hd;rw [zAa _ _ zc];exact h.d3 hd
 d4 hd:=by
  rw [zAa _ _ zc] at hd;rw [zAa _ _ zc];exact h.d4 hd
 d5 hd:=by
  rw [zAa _ _ zc] at hd;rw [zAa _ _ zc];exact h.d5 hd
 d6 hd:=by
  rw [zAa _ _ zc] at hd;rw [zAa _ _ zc];exact h.d6 hd
 d7 hd:=by
  rw [zAa _ _ zc] at hd;rw [zAa _ _ zc];exact h.d7 hd
 d8 hd:=by
  rw [zAa _ _ zc] at hd;rw [zAa _ _ zc];exact h.d8 hd
 d9 hd:=by
  rw [zAa _ _ zc] at hd;rw [zAa _ _ zc];exact h.d9 hd
 d10 hd:=by
  rw [zAa _ _ zc] at hd;rw [zAa _ _ zc];exact h.d10 hd
 d12 hd hd':=by
  rw [zAa _ _ zc] at hd hd';exact h.d12 hd hd'
 d9' hd:=by
  rw [zAa _ _ zc] at hd;rw [zAa _ _ zc,zAa _ _ zc,zAa _ _ zc,zAa _ _ zc];exact h.d9' hd
 d11 hd:=by
  rw [zAa _ _ zc] at hd;exact h.d11 hd
 d11' hd:=by
  rw [zAa _ _ zc] at hd;rw [zAa _ _ zc,zAa _ _ zc];exact h.d11' hd
 below:=h.below
 size:=h.size
theorem J1.s1 (h:J1 w0 B SL n r1 r2 g1 g2 s done vals w) (hi:done 1=false):J1 w0 B SL n w.heap.size r2 g1 g2 s (zBx done 1 true) (zBx vals 1 (.map (some w.heap.size))) (w.alloc (.map #[] 0)) where
 d0 hd:=by
  rw [zAa _ _ zc] at hd;rw [zAa _ _ zc];exact (h.alloc (.map #[] 0)).d0 hd
 d1 _:=⟨zAp _ _ _,zAt.new _ _,h.size⟩
 d2 hd:=by
  rw [zAa _ _ zc] at hd;rw [zAa _ _ zc];exact (h.alloc (.map #[] 0)).d2 hd
 d3 hd:=by
  rw [zAa _ _ zc] at hd;rw [zAa _ _ zc];exact (h.alloc (.map #[] 0)).d3 hd
 d4 hd:=by
  rw [zAa _ _ zc] at hd;rw [zAa _ _ zc];exact (h.alloc (.map #[] 0)).d4 hd
 d5 hd:=by
  rw [zAa _ _ zc] at hd;rw [zAa _ _ zc];exact (h.alloc (.map #[] 0)).d5 hd
 d6 hd:=by
  rw [zAa _ _ zc] at hd;rw [zAa _ _ zc];exact (h.alloc (.map #[] 0)).d6 hd
 d7 hd:=by
  rw [zAa _ _ zc] at hd;rw [zAa _ _ zc];exact (h.alloc (.map #[] 0)).d7 hd
 d8 hd:=by
  rw [zAa _ _ zc] at hd;rw [zAa _ _ zc];exact (h.alloc (.map #[] 0)).d8 hd
 d9 hd:=by
  rw [zAa _ _ zc] at hd;have:=(h.d9' hd).1;rw [hi] at this;cases this
 d10 hd:=by
  rw [zAa _ _ zc] at hd;rw [zAa _ _ zc];exact (h.alloc (.map #[] 0)).d10 hd
 d12 _ hd:=by
  rw [zAa _ _ zc] at hd;have:=(h.d2 hd).2.1.lt;omega
 d9' hd:=by
  rw [zAa _ _ zc] at hd;have:=(h.d9' hd).1;rw [hi] at this;cases this
 d11 hd:=by
  rw [zAa _ _ zc] at hd;have:=(h.d9' (h.d11' hd).1).1;rw [hi] at this;cases this
 d11' hd:=by
  rw [zAa _ _ zc] at hd;rw [zAa _ _ zc,zAa _ _ zc];exact h.d11' hd
 below:=(h.alloc (.map #[] 0)).below
 size:=(h.alloc (.map #[] 0)).size
theorem J1.s2 (h:J1 w0 B SL n r1 r2 g1 g2 s done vals w) (hi:done 2=false):J1 w0 B SL n r1 w.heap.size g1 g2 s (zBx done 2 true) (zBx vals 2 (.map (some w.heap.size))) (w.alloc (.map #[] 0)) where
 d0 hd:=by
  rw [zAa _ _ zc] at hd;rw [zAa _ _ zc];exact (h.alloc (.map #[] 0)).d0 hd
 d1 hd:=by
  rw [zAa _ _ zc] at hd;rw [zAa _ _ zc];exact (h.alloc (.map #[] 0)).d1 hd
 d2 _:=⟨zAp _ _ _,zAt.new _ _,h.size⟩
 d3 hd:=by
  rw [zAa _ _ zc] at hd;rw [zAa _ _ zc];exact (h.alloc (.map #[] 0)).d3 hd
 d4 hd:=by
  rw [zAa _ _ zc] at hd;rw [zAa _ _ zc];exact (h.alloc (.map #[] 0)).d4 hd
 d5 hd:=by
  rw [zAa _ _ zc] at hd;rw [zAa _ _ zc];exact (h.alloc (.map #[] 0)).d5 hd
 d6 hd:=by
  rw [zAa _ _ zc] at hd;rw [zAa _ _ zc];exact (h.alloc (.map #[] 0)).d6 hd
 d7 hd:=by
  rw [zAa _ _ zc] at hd;rw [zAa _ _ zc];exact (h.alloc (.map #[] 0)).d7 hd
 d8 hd:=by
  rw [zAa _ _ zc] at hd;rw [zAa _ _ zc];exact (h.alloc (.map #[] 0)).d8 hd
 d9 hd:=by
  rw [zAa _ _ zc] at hd;have:=(h.d9' hd).2.1;rw [hi] at this;cases this
 d10 hd:=by
  rw [zAa _ _ zc] at hd;rw [zAa _ _ zc];exact (h.alloc (.map #[] 0)).d10 hd
 d12 hd _:=by
  rw [zAa _ _ zc] at hd;have:=(h.d1 hd).2.1.lt;omega
 d9' hd:=by
  rw [zAa _ _ zc] at hd;have:=(h.d9' hd).2.1;rw [hi] at this;cases this
 d11 hd:=by
  rw [zAa _ _ zc] at hd;have:=(h.d9' (h.d11' hd).1).2.1;rw [hi] at this;cases this
 d11' hd:=by
  rw [zAa _ _ zc] at hd;rw [zAa _ _ zc,zAa _ _ zc];exact h.d11' hd
 below:=(h.alloc (.map #[] 0)).below
 size:=(h.alloc (.map #[] 0)).size
theorem J1.s3 (h:J1 w0 B SL n r1 r2 g1 g2 s done vals w):J1 w0 B SL n r1 r2 g1 g2 s (zBx done 3 true) (zBx vals 3 (SL)) w where
 d0 hd:=by
  rw [zAa _ _ zc] at hd;rw [zAa _ _ zc];exact h.d0 hd
 d1 hd:=by
  rw [zAa _ _ zc] at hd;rw [zAa _ _ zc];exact h.d1 hd
 d2 hd:=by
  rw [zAa _ _ zc] at hd;rw [zAa _ _ zc];exact h.d2 hd
 d3 _:=zAp _ _ _
 d4 hd:=by
  rw [zAa _ _ zc] at hd;rw [zAa _ _ zc];exact h.d4 hd
 d5 hd:=by
  rw [zAa _ _ zc] at hd;rw [zAa _ _ zc];exact h.d5 hd
 d6 hd:=by
  rw [zAa _ _ zc] at hd;rw [zAa _ _ zc];exact h.d6 hd
 d7 hd:=by
  rw [zAa _ _ zc] at hd;rw [zAa _ _ zc];exact h.d7 hd
 d8 hd:=by
  rw [zAa _ _ zc] at hd;rw [zAa _ _ zc];exact h.d8 hd
 d9 hd:=by
  rw [zAa _ _ zc] at hd;rw [zAa _ _ zc];exact h.d9 hd
 d10 hd:=by
  rw [zAa _ _ zc] at hd;rw [zAa _ _ zc];exact h.d10 hd
 d12 hd hd':=by
  rw [zAa _ _ zc] at hd hd';exact h.d12 hd hd'
 d9' hd:=by
  rw [zAa _ _ zc] at hd;rw [zAa _ _ zc,zAa _ _ zc,zAa _ _ zc,zAa _ _ zc];exact h.d9' hd
 d11 hd:=by
  rw [zAa _ _ zc] at hd;exact h.d11 hd
 d11' hd:=by
  rw [zAa _ _ zc] at hd;rw [zAa _ _ zc,zAa _ _ zc];exact h.d11' hd
 below:=h.below
 size:=h.size
theorem J1.s4 (h:J1 w0 B SL n r1 r2 g1 g2 s done vals w):J1 w0 B SL n r1 r2 g1 g2 s (zBx done 4 true) (zBx vals 4 (.int .i64 (n:Int))) w where
 d0 hd:=by
  rw [zAa _ _ zc] at hd;rw [zAa _ _ zc];exact h.d0 hd
 d1 hd:=by
  rw [zAa _ _ zc] at hd;rw [zAa _ _ zc];exact h.d1 hd
 d2 hd:=by
  rw [zAa _ _ zc] at hd;rw [zAa _ _ zc];exact h.d2 hd
 d3 hd:=by
  rw [zAa _ _ zc] at hd;rw [zAa _ _ zc];exact h.d3 hd
 d4 _:=zAp _ _ _
 d5 hd:=by
  rw [zAa _ _ zc] at hd;rw [zAa _ _ zc];exact h.d5 hd
 d6 hd:=by
  rw [zAa _ _ zc] at hd;rw [zAa _ _ zc];exact h.d6 hd
 d7 hd:=by
  rw [zAa _ _ zc] at hd;rw [zAa _ _ zc];exact h.d7 hd
 d8 hd:=by
  rw [zAa _ _ zc] at hd;rw [zAa _ _ zc];exact h.d8 hd
 d9 hd:=by
  rw [zAa _ _ zc] at hd;rw [zAa _ _ zc];exact h.d9 hd
 d10 hd:=by
  rw [zAa _ _ zc] at hd;rw [zAa _ _ zc];exact h.d10 hd
 d12 hd hd':=by
  rw [zAa _ _ zc] at hd hd';exact h.d12 hd hd'
 d9' hd:=by
  rw [zAa _ _ zc] at hd;rw [zAa _ _ zc,zAa _ _ zc,zAa _ _ zc,zAa _ _ zc];exact h.d9' hd
 d11 hd:=by
  rw [zAa _ _ zc] at hd;exact h.d11 hd
 d11' hd:=by
  rw [zAa _ _ zc] at hd;rw [zAa _ _ zc,zAa _ _ zc];exact h.d11' hd
 below:=h.below
 size:=h.size
theorem J1.s5 (h:J1 w0 B SL n r1 r2 g1 g2 s done vals w) (hi:done 5=false):J1 w0 B SL n r1 r2 w.heap.size g2 s (zBx done 5 true) (zBx vals 5 (slAt w.heap.size n)) (w.alloc (.cells (Array.replicate n (.int .i64 0)) 3)) where
 d0 hd:=by
  rw [zAa _ _ zc] at hd;rw [zAa _ _ zc];exact (h.alloc (.cells (Array.replicate n (.int .i64 0)) 3)).d0 hd
 d1 hd:=by
  rw [zAa _ _ zc] at hd;rw [zAa _ _ zc];exact (h.alloc (.cells (Array.replicate n (.int .i64 0)) 3)).d1 hd
 d2 hd:=by
  rw [zAa _ _ zc] at hd;rw [zAa _ _ zc];exact (h.alloc (.cells (Array.replicate n (.int .i64 0)) 3)).d2 hd
 d3 hd:=by
  rw [zAa _ _ zc] at hd;rw [zAa _ _ zc];exact (h.alloc (.cells (Array.replicate n (.int .i64 0)) 3)).d3 hd
 d4 hd:=by
  rw [zAa _ _ zc] at hd;rw [zAa _ _ zc];exact (h.alloc (.cells (Array.replicate n (.int .i64 0)) 3)).d4 hd
 d5 _:=⟨zAp _ _ _,bY _ _,h.size⟩
 d6 hd:=by
  rw [zAa _ _ zc] at hd;rw [zAa _ _ zc];exact (h.alloc (.cells (Array.replicate n (.int .i64 0)) 3)).d6 hd
 d7 hd:=by
  rw [zAa _ _ zc] at hd;rw [zAa _ _ zc];exact (h.alloc (.cells (Array.replicate n (.int .i64 0)) 3)).d7 hd
 d8 hd:=by
  rw [zAa _ _ zc] at hd;rw [zAa _ _ zc];exact (h.alloc (.cells (Array.replicate n (.int .i64 0)) 3)).d8 hd
 d9 hd:=by
  rw [zAa _ _ zc] at hd;have:=(h.d9' hd).2.2.1;rw [hi] at this;cases this
 d10 hd:=by
  rw [zAa _ _ zc] at hd;rw [zAa _ _ zc];exact (h.alloc (.cells (Array.replicate n (.int .i64 0)) 3)).d10 hd
 d12 hd hd':=by
  rw [zAa _ _ zc] at hd hd';exact h.d12 hd hd'
 d9' hd:=by
  rw [zAa _ _ zc] at hd;have:=(h.d9' hd).2.2.1;rw [hi] at this;cases this
 d11 hd:=by
  rw [zAa _ _ zc] at hd;have:=(h.d9' (h.d11' hd).1).2.2.1;rw [hi] at this;cases this
 d11' hd:=by
  rw [zAa _ _ zc] at hd;rw [zAa _ _ zc,zAa _ _ zc];exact h.d11' hd
 below:=(h.alloc (.cells (Array.replicate n (.int .i64 0)) 3)).below
 size:=(h.alloc (.cells (Array.replicate n (.int .i64 0)) 3)).size
theorem J1.s6 (h:J1 w0 B SL n r1 r2 g1 g2 s done vals w):J1 w0 B SL n r1 r2 g1 g2 s (zBx done 6 true) (zBx vals 6 (SL)) w where
 d0 hd:=by
  rw [zAa _ _ zc] at hd;rw [zAa _ _ zc];exact h.d0 hd
 d1 hd:=by
  rw [zAa _ _ zc] at hd;rw [zAa _ _ zc];exact h.d1 hd
 d2 hd:=by
  rw [zAa _ _ zc] at hd;rw [zAa _ _ zc];exact h.d2 hd
 d3 hd:=by
  rw [zAa _ _ zc] at hd;rw [zAa _ _ zc];exact h.d3 hd
 d4 hd:=by
  rw [zAa _ _ zc] at hd;rw [zAa _ _ zc];exact h.d4 hd
 d5 hd:=by
  rw [zAa _ _ zc] at hd;rw [zAa _ _ zc];exact h.d5 hd
 d6 _:=zAp _ _ _
 d7 hd:=by
  rw [zAa _ _ zc] at hd;rw [zAa _ _ zc];exact h.d7 hd
 d8 hd:=by
  rw [zAa _ _ zc] at hd;rw [zAa _ _ zc];exact h.d8 hd
 d9 hd:=by
  rw [zAa _ _ zc] at hd;rw [zAa _ _ zc];exact h.d9 hd
 d10 hd:=by
  rw [zAa _ _ zc] at hd;rw [zAa _ _ zc];exact h.d10 hd
 d12 hd hd':=by
  rw [zAa _ _ zc] at hd hd';exact h.d12 hd hd'
 d9' hd:=by
  rw [zAa _ _ zc] at hd;rw [zAa _ _ zc,zAa _ _ zc,zAa _ _ zc,zAa _ _ zc];exact h.d9' hd
 d11 hd:=by
  rw [zAa _ _ zc] at hd;exact h.d11 hd
 d11' hd:=by
  rw [zAa _ _ zc] at hd;rw [zAa _ _ zc,zAa _ _ zc];exact h.d11' hd
 below:=h.below
 size:=h.size
theorem J1.s7 (h:J1 w0 B SL n r1 r2 g1 g2 s done vals w):J1 w0 B SL n r1 r2 g1 g2 s (zBx done 7 true) (zBx vals 7 (.int .i64 (n:Int))) w where
 d0 hd:=by
  rw [zAa _ _ zc] at hd;rw [zAa _ _ zc];exact h.d0 hd
 d1 hd:=by
  rw [zAa _ _ zc] at hd;rw [zAa _ _ zc];exact h.d1 hd
 d2 hd:=by
  rw [zAa _ _ zc] at hd;rw [zAa _ _ zc];exact h.d2 hd
 d3 hd:=by
  rw [zAa _ _ zc] at hd;rw [zAa _ _ zc];exact h.d3 hd
 d4 hd:=by
  rw [zAa _ _ zc] at hd;rw [zAa _ _ zc];exact h.d4 hd
 d5 hd:=by
  rw [zAa _ _ zc] at hd;rw [zAa _ _ zc];exact h.d5 hd
 d6 hd:=by
  rw [zAa _ _ zc] at hd;rw [zAa _ _ zc];exact h.d6 hd
 d7 _:=zAp _ _ _
 d8 hd:=by
  rw [zAa _ _ zc] at hd;rw [zAa _ _ zc];exact h.d8 hd
 d9 hd:=by
  rw [zAa _ _ zc] at hd;rw [zAa _ _ zc];exact h.d9 hd
 d10 hd:=by
  rw [zAa _ _ zc] at hd;rw [zAa _ _ zc];exact h.d10 hd
 d12 hd hd':=by
  rw [zAa _ _ zc] at hd hd';exact h.d12 hd hd'
 d9' hd:=by
  rw [zAa _ _ zc] at hd;rw [zAa _ _ zc,zAa _ _ zc,zAa _ _ zc,zAa _ _ zc];exact h.d9' hd
 d11 hd:=by
  rw [zAa _ _ zc] at hd;exact h.d11 hd
 d11' hd:=by
  rw [zAa _ _ zc] at hd;rw [zAa _ _ zc,zAa _ _ zc];exact h.d11' hd
 below:=h.below
 size:=h.size
theorem J1.s8 (h:J1 w0 B SL n r1 r2 g1 g2 s done vals w) (hi:done 8=false):J1 w0 B SL n r1 r2 g1 w.heap.size s (zBx done 8 true) (zBx vals 8 (slAt w.heap.size n)) (w.alloc (.cells (Array.replicate n zAj) 94)) where
 d0 hd:=by
  rw [zAa _ _ zc] at hd;rw [zAa _ _ zc];exact (h.alloc (.cells (Array.replicate n zAj) 94)).d0 hd
 d1 hd:=by
  rw [zAa _ _ zc] at hd;rw [zAa _ _ zc];exact (h.alloc (.cells (Array.replicate n zAj) 94)).d1 hd
 d2 hd:=by
  rw [zAa _ _ zc] at hd;rw [zAa _ _ zc];exact (h.alloc (.cells (Array.replicate n zAj) 94)).d2 hd
 d3 hd:=by
  rw [zAa _ _ zc] at hd;rw [zAa _ _ zc];exact (h.alloc (.cells (Array.replicate n zAj) 94)).d3 hd
 d4 hd:=by
  rw [zAa _ _ zc] at hd;rw [zAa _ _ zc];exact (h.alloc (.cells (Array.replicate n zAj) 94)).d4 hd
 d5 hd:=by
  rw [zAa _ _ zc] at hd;rw [zAa _ _ zc];exact (h.alloc (.cells (Array.replicate n zAj) 94)).d5 hd
 d6 hd:=by
  rw [zAa _ _ zc] at hd;rw [zAa _ _ zc];exact (h.alloc (.cells (Array.replicate n zAj) 94)).d6 hd
 d7 hd:=by
  rw [zAa _ _ zc] at hd;rw [zAa _ _ zc];exact (h.alloc (.cells (Array.replicate n zAj) 94)).d7 hd
 d8 _:=⟨zAp _ _ _,bY _ _,h.size⟩
 d9 hd:=by
  rw [zAa _ _ zc] at hd;have:=(h.d9' hd).2.2.2;rw [hi] at this;cases this
 d10 hd:=by
  rw [zAa _ _ zc] at hd;rw [zAa _ _ zc];exact (h.alloc (.cells (Array.replicate n zAj) 94)).d10 hd
 d12 hd hd':=by
  rw [zAa _ _ zc] at hd hd';exact h.d12 hd hd'
 d9' hd:=by
  rw [zAa _ _ zc] at hd;have:=(h.d9' hd).2.2.2;rw [hi] at this;cases this
 d11 hd:=by
  rw [zAa _ _ zc] at hd;have:=(h.d9' (h.d11' hd).1).2.2.2;rw [hi] at this;cases this
 d11' hd:=by
  rw [zAa _ _ zc] at hd;rw [zAa _ _ zc,zAa _ _ zc];exact h.d11' hd
 below:=(h.alloc (.cells (Array.replicate n zAj) 94)).below
 size:=(h.alloc (.cells (Array.replicate n zAj) 94)).size
theorem J1.s9 (h:J1 w0 B SL n r1 r2 g1 g2 s done vals w) (h1:done 1=true) (h2:done 2=true) (h5:done 5=true) (h8:done 8=true):J1 w0 B SL n r1 r2 g1 g2 s (zBx done 9 true) (zBx vals 9 (.agg (boxOf SL zAj r1 r2 g1 g2 n))) w where
 d0 hd:=by
  rw [zAa _ _ zc] at hd;rw [zAa _ _ zc];exact h.d0 hd
 d1 hd:=by
  rw [zAa _ _ zc] at hd;rw [zAa _ _ zc];exact h.d1 hd
 d2 hd:=by
  rw [zAa _ _ zc] at hd;rw [zAa _ _ zc];exact h.d2 hd
 d3 hd:=by
  rw [zAa _ _ zc] at hd;rw [zAa _ _ zc];exact h.d3 hd
 d4 hd:=by
  rw [zAa _ _ zc] at hd;rw [zAa _ _ zc];exact h.d4 hd
 d5 hd:=by
  rw [zAa _ _ zc] at hd;rw [zAa _ _ zc];exact h.d5 hd
 d6 hd:=by
  rw [zAa _ _ zc] at hd;rw [zAa _ _ zc];exact h.d6 hd
 d7 hd:=by
  rw [zAa _ _ zc] at hd;rw [zAa _ _ zc];exact h.d7 hd
 d8 hd:=by
  rw [zAa _ _ zc] at hd;rw [zAa _ _ zc];exact h.d8 hd
 d9 _:=zAp _ _ _
 d10 hd:=by
  rw [zAa _ _ zc] at hd;rw [zAa _ _ zc];exact h.d10 hd
 d12 hd hd':=by
  rw [zAa _ _ zc] at hd hd';exact h.d12 hd hd'
 d9' _:=by
  rw [zAa _ _ zc,zAa _ _ zc,zAa _ _ zc,zAa _ _ zc];exact ⟨h1,h2,h5,h8⟩
 d11 hd:=by
  rw [zAa _ _ zc] at hd;exact h.d11 hd
 d11' hd:=by
  rw [zAa _ _ zc] at hd;rw [zAa _ _ (show (10:Nat)≠9 by decide)]
  exact ⟨zAp _ _ _,(h.d11' hd).2⟩
 below:=h.below
 size:=h.size
theorem J1.s10 (h:J1 w0 B SL n r1 r2 g1 g2 s done vals w) (hi:done 10=false) (cs:Array Value) (hcs:cs.size=6):J1 w0 B SL n r1 r2 g1 g2 w.heap.size (zBx done 10 true) (zBx vals 10 (.pointer (some ⟨w.heap.size,0,none⟩))) (w.alloc (.cells cs 97)) where
 d0 hd:=by
  rw [zAa _ _ zc] at hd;rw [zAa _ _ zc];exact (h.alloc (.cells cs 97)).d0 hd
 d1 hd:=by
  rw [zAa _ _ zc] at hd;rw [zAa _ _ zc];exact (h.alloc (.cells cs 97)).d1 hd
 d2 hd:=by
  rw [zAa _ _ zc] at hd;rw [zAa _ _ zc];exact (h.alloc (.cells cs 97)).d2 hd
 d3 hd:=by
  rw [zAa _ _ zc] at hd;rw [zAa _ _ zc];exact (h.alloc (.cells cs 97)).d3 hd
 d4 hd:=by
  rw [zAa _ _ zc] at hd;rw [zAa _ _ zc];exact (h.alloc (.cells cs 97)).d4 hd
 d5 hd:=by
  rw [zAa _ _ zc] at hd;rw [zAa _ _ zc];exact (h.alloc (.cells cs 97)).d5 hd
 d6 hd:=by
  rw [zAa _ _ zc] at hd;rw [zAa _ _ zc];exact (h.alloc (.cells cs 97)).d6 hd
 d7 hd:=by
  rw [zAa _ _ zc] at hd;rw [zAa _ _ zc];exact (h.alloc (.cells cs 97)).d7 hd
 d8 hd:=by
  rw [zAa _ _ zc] at hd;rw [zAa _ _ zc];exact (h.alloc (.cells cs 97)).d8 hd
 d9 hd:=by
  rw [zAa _ _ zc] at hd;rw [zAa _ _ zc];exact (h.alloc (.cells cs 97)).d9 hd
 d10 _:=⟨zAp _ _ _,⟨cs,hcs,bY _ _⟩,h.size⟩
 d12 hd hd':=by
  rw [zAa _ _ zc] at hd hd';exact h.d12 hd hd'
 d9' hd:=by
  rw [zAa _ _ zc] at hd;rw [zAa _ _ zc,zAa _ _ zc,zAa _ _ zc,zAa _ _ zc];exact h.d9' hd
 d11 hd:=by
  rw [zAa _ _ zc] at hd;have:=(h.d11' hd).2;rw [hi] at this;cases this
 d11' hd:=by
  rw [zAa _ _ zc] at hd;rw [zAa _ _ (show (9:Nat)≠10 by decide)]
  exact ⟨(h.d11' hd).1,zAp _ _ _⟩
 below:=(h.alloc (.cells cs 97)).below
 size:=(h.alloc (.cells cs 97)).size
end
end Go.Proofs.YtoaelidmmcbkfaaGreatDoor
