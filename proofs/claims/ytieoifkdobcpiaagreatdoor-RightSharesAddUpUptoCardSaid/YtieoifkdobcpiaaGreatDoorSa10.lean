/- Parts of the proof, joined: A region that draws its order: an invariant that each operation hands . -/
import Derived.Orders
import Derived.RegionTactic
import Derived.Test.YtieoifkdobcpiaaGreatDoorSa09
set_option maxRecDepth 100000
set_option maxHeartbeats 8000000
namespace Dw
open Go
def zAi (ops:Array Oper) (vals:Nat→Value):List Nat→Act→Act
 | [],a=>a
 | i::L,a=>zAi ops vals L (a.put ((ops[i]?).bind (·.dst)) (vals i))
def zAG (n:Nat) (done:Nat→Bool):List Nat:=(List.range n).filter done
def zBz {α:Type} (f:Nat→α) (i:Nat) (v:α):Nat→α:=fun j=>if j=i then v else f j
def Apart (ops:Array Oper):Prop:=∀ i j:Nat,i<ops.size→j<ops.size→i≠j→∀ d,(ops[i]?).bind (·.dst)=some d→(ops[j]?).bind (·.dst)≠some d
def apartB (ops:Array Oper):Bool:=(List.range ops.size).all fun i=>(List.range ops.size).all fun j=>i == j || ((ops[i]?).bind (·.dst)).isNone || (ops[i]?).bind (·.dst) != (ops[j]?).bind (·.dst)
theorem apart_of {ops:Array Oper} (h:apartB ops=true):Apart ops:=fun i j hi hj hne d hd he=>by
 unfold apartB at h;have h1:=List.all_eq_true.1 h i (List.mem_range.2 hi);have h2:=List.all_eq_true.1 h1 j (List.mem_range.2 hj);rw [hd,he] at h2;simp [hne] at h2
def backB (ops:Array Oper):Bool:=(List.range ops.size).all fun i=>((ops[i]?).map fun o=>o.after.all fun e=>!Region.binds .any e || decide (e.on<i)).getD true
theorem zDz (ops:Array Oper) (vals:Nat→Value):∀ (L M:List Nat) (a:Act),zAi ops vals (L++M) a=zAi ops vals M (zAi ops vals L a)
 | [],_,_=>rfl
 | i::L,M,a=>by rw [List.cons_append,zAi,zAi,zDz ops vals L M]
theorem putAll_congr {ops:Array Oper} {vals vals':Nat→Value}:∀ {L:List Nat} {a:Act},(∀ i∈L,vals i=vals' i)→zAi ops vals L a=zAi ops vals' L a
 | [],_,_=>rfl
 | i::L,a,h=>by
  rw [zAi,zAi,h i zd];exact putAll_congr fun j hj=>h j (by simp [hj])
theorem doneL_succ (n:Nat) (done:Nat→Bool):zAG (n+1) done=zAG n done++(if done n then [n] else []):=by
 unfold zAG;rw [List.range_succ,List.filter_append]
 cases h:done n<;>simp [h]
theorem doneL_congr {n:Nat} {d d':Nat→Bool} (h:∀ j,j<n→d j=d' j):zAG n d=zAG n d':=List.filter_congr fun x hx=>h x (List.mem_range.1 hx)
theorem mem_doneL {n i:Nat} {done:Nat→Bool}:i∈zAG n done↔i<n∧done i=true:=by
 unfold zAG;rw [List.mem_filter,List.mem_range]
theorem putAll_ins {ops:Array Oper} (hap:Apart ops) {vals:Nat→Value} {done:Nat→Bool} {i:Nat} {v:Value} {a:Act} (hi:done i=false) :
  ∀ n,i<n→n≤ops.size→zAi ops (zBz vals i v) (zAG n (zBz done i true)) a=(zAi ops vals (zAG n done) a).put ((ops[i]?).bind (·.dst)) v
 | 0,h,_=>za
 | n+1,h,hn=>by
  rw [doneL_succ,doneL_succ,zDz,zDz]
  by_cases e:i=n
  ·subst e
   have e1:zAG i (zBz done i true)=zAG i done:=doneL_congr fun j hj=>by simp [zBz];omega
   rw [e1,hi]
   have e2:zAi ops (zBz vals i v) (zAG i done) a=zAi ops vals (zAG i done) a:=putAll_congr fun j hj=>by
    have:=(mem_doneL.1 hj).1;simp [zBz];omega
   simp [zBz,zAi,e2]
  ·have ih:=putAll_ins hap (vals:=vals) (v:=v) (a:=a) hi n za za
   have e1:zBz done i true n=done n:=by simp [zBz];omega
   rw [e1,ih]
   cases hd:done n with
   | false=>simp [zAi]
   | true =>
    have e2:zBz vals i v n=vals n:=by simp [zBz];omega
    simp only [if_true,zAi,e2];exact Act.put_comm _ _ _ fun d hd'=>hap i n za za e d hd'
theorem eval_put_same {a:Act} {d:Tmp} {v:Value} (h:d<a.tmps.size):(a.put (some d) v).eval (.tmp d)=v:=by
 simp [Act.put,Act.eval,h]
theorem size_put (a:Act) (d:Option Tmp) (v:Value):(a.put d v).tmps.size=a.tmps.size:=by
 cases d<;>simp [Act.put]
theorem zCr {ops:Array Oper} {vals:Nat→Value} {x:Operand}:∀ {L:List Nat} {a:Act},(∀ i∈L,∀ d,(ops[i]?).bind (·.dst)=some d→x≠.tmp d)→(zAi ops vals L a).eval x=a.eval x
 | [],_,_=>rfl
 | i::L,a,h=>by
  rw [zAi,zCr fun j hj=>h j (by simp [hj])]
  exact Act.eval_put fun d hd=>h i zd d hd
theorem eval_putAll_done {ops:Array Oper} (hap:Apart ops) {vals:Nat→Value} {d:Tmp} {j:Nat} (hj:j<ops.size) (hd:(ops[j]?).bind (·.dst)=some d) :
  ∀ {L:List Nat} {a:Act},j∈L→L.Nodup→(∀ i∈L,i<ops.size)→d<a.tmps.size→(zAi ops vals L a).eval (.tmp d)=vals j
 | [],_,h,_,_,_=>by simp at h
 | i::L,a,h,hnd,hlt,hs=>by
  rw [zAi];rw [List.nodup_cons] at hnd
  rcases List.mem_cons.1 h with e | h'
  ·subst e
   rw [zCr,hd,eval_put_same hs];intro k hk d' hd' e
   injection e with e
   subst e;have hne:j≠k:=fun e=>hnd.1 (e▸hk)
   exact hap j k hj (hlt k (by simp [hk])) hne d hd hd'
  ·exact eval_putAll_done hap hj hd h' hnd.2 (fun k hk=>hlt k (by simp [hk])) (by rw [size_put];exact hs)
section
variable {P:Program} {ops:Array Oper} {Q:Exit→Act→World→Prop}
theorem ready_none {listed:Array Bool} {done:Nat→Bool} (hb:backB ops=true) (hls:listed.size=ops.size) (hl:∀ j,j<ops.size→listed.getD j false=done j) (hr:Region.ready .any ops listed=[]):∀ j,j<ops.size→done j=true:=by
 intro j
 induction j using Nat.strongRecOn with
 | _ j ih =>
  intro hj
  cases hd:done j with
  | true=>rfl
  | false =>
   exfalso
   have hmem:j∈Region.ready .any ops listed:=by
    unfold Region.ready;rw [List.mem_filter,List.mem_range];refine ⟨hj,?_⟩
    have h1:=hl j hj;have hjs:j<listed.size:=za
    have h2:listed.getD j true=false:=by
     rw [hd] at h1;simp [Array.getD,hjs] at h1 ⊢
     exact h1
    rw [h2];have h3:=List.all_eq_true.1 hb j (List.mem_range.2 hj);rw [Array.getElem?_eq_getElem hj] at h3 ⊢;simp only [Option.map_some,Option.getD_some,Bool.not_false,Bool.true_and] at h3 ⊢;rw [Array.all_eq_true'] at h3 ⊢;intro e he;have h4:=h3 e he
    cases hb2:Region.binds .any e with
    | false=>simp
    | true =>
     rw [hb2] at h4;have h5:e.on<j:=by simpa using h4
     rw [hl e.on za,ih e.on h5 za];simp
   rw [hr] at hmem;simp at hmem
theorem count_set {n i:Nat} {done:Nat→Bool} (hi:i<n) (hd:done i=false):(zAG n fun j=>!zBz done i true j).length+1=(zAG n fun j=>!done j).length:=by
 induction n with
 | zero=>omega
 | succ n ih =>
  rw [doneL_succ,doneL_succ,List.length_append,List.length_append]
  by_cases e:i=n
  ·subst e
   have e1:zAG i (fun j=>!zBz done i true j)=zAG i fun j=>!done j:=doneL_congr fun j hj=>by simp [zBz];omega
   rw [e1];simp [zBz,hd]
  ·have e1:zBz done i true n=done n:=by simp [zBz];omega
   rw [e1,←ih za];omega
theorem wpAny_inv (hap:Apart ops) (hb:backB ops=true) (a0:Act) (J:(Nat→Bool)→(Nat→Value)→World→Prop)
  (hstep:∀ (i:Nat) (done:Nat→Bool) (vals:Nat→Value) (w:World),i<ops.size→J done vals w→done i=false→(∀ o,ops[i]?=some o→∀ e∈o.after,Region.binds .any e=true→done e.on=true) →
   wpOp P ops Q i (fun a' w'=>∃ v,a'=(zAi ops vals (zAG ops.size done) a0).put ((ops[i]?).bind (·.dst)) v∧J (zBz done i true) (zBz vals i v) w') (zAi ops vals (zAG ops.size done) a0) w)
  (hend:∀ (done:Nat→Bool) (vals:Nat→Value) (w:World),(∀ j,j<ops.size→done j=true)→J done vals w→Q .normal (zAi ops vals (List.range ops.size) a0) w) :
  ∀ (fuel:Nat) (listed:Array Bool) (done:Nat→Bool) (vals:Nat→Value) (w:World),listed.size=ops.size→(∀ j,j<ops.size→listed.getD j false=done j)→(zAG ops.size fun j=>!done j).length≤fuel→J done vals w →
   wpAny P .any ops Q fuel listed (zAi ops vals (zAG ops.size done) a0) w:=by
 intro fuel
 have hfin:∀ (done:Nat→Bool) (vals:Nat→Value) (w:World),(∀ j,j<ops.size→done j=true)→J done vals w→Q .normal (zAi ops vals (zAG ops.size done) a0) w:=fun done vals w hd hJ=>by
  have:=hend done vals w hd hJ
  have e:zAG ops.size done=List.range ops.size:=by
   unfold zAG;rw [List.filter_eq_self];exact fun x hx=>hd x (List.mem_range.1 hx)
  rw [e];exact this
 induction fuel with
 | zero =>
  intro listed done vals w hls hl hc hJ
  have hall:∀ j,j<ops.size→done j=true:=fun j hj=>by
   cases hd:done j with
   | true=>rfl
   | false =>
    have:j∈zAG ops.size fun j=>!done j:=mem_doneL.2 ⟨hj,by simp [hd]⟩
    rw [List.eq_nil_of_length_eq_zero (l:=zAG ops.size fun j=>!done j) za] at this
    simp at this
  refine ⟨?_,hfin done vals w hall hJ⟩
  unfold Region.ready;rw [List.filter_eq_nil_iff];intro j hj;have hj':=List.mem_range.1 hj;have h1:=hl j hj';rw [hall j hj'] at h1;have hjs:j<listed.size:=za;have h2:listed.getD j true=true:=by simp [Array.getD,hjs] at h1 ⊢;exact h1
  simp [h2]
 | succ fuel ih =>
  intro listed done vals w hls hl hc hJ;refine ⟨fun hr=>hfin done vals w (ready_none hb hls hl hr) hJ,fun i hi=>?_⟩
  unfold Region.ready at hi;rw [List.mem_filter,List.mem_range] at hi;obtain ⟨hin,hrd⟩:=hi;rw [Bool.and_eq_true] at hrd;have hjs:i<listed.size:=za
  have hdi:done i=false:=by
   rw [←hl i hin];have:=hrd.1;simp [Array.getD,hjs] at this ⊢
   exact this
  have hdeps:∀ o,ops[i]?=some o→∀ e∈o.after,Region.binds .any e=true→done e.on=true:=fun o ho e he hbd=>by
   have h3:=hrd.2;rw [ho] at h3;simp only [Option.map_some,Option.getD_some] at h3;rw [Array.all_eq_true'] at h3;have h4:=h3 e he;rw [hbd] at h4;have h5:listed.getD e.on false=true:=by simpa using h4
   have hlt:e.on<ops.size:=by
    refine Nat.lt_of_not_ge fun hge=>?_
    have:¬ e.on<listed.size:=za;simp [Array.getD,this] at h5
   rw [←hl _ hlt];exact h5
  refine wpOp_mono ?_ (hstep i done vals w hin hJ hdi hdeps)
  rintro a' w' ⟨v,rfl,hJ'⟩;rw [←putAll_ins hap hdi ops.size hin (Nat.le_refl _)];refine ih (listed.setIfInBounds i true) (zBz done i true) (zBz vals i v) w' (by simp [hls]) (fun j hj=>?_) ?_ hJ'
  ·have hjs':j<listed.size:=by omega
   by_cases e:j=i
   ·subst e;simp [zBz,Array.getD,hjs']
   ·have:=hl j hj
    simp [zBz,e,Array.getD,hjs'] at this ⊢
    rw [Array.getElem_setIfInBounds_ne za za];exact this
  ·have:=count_set hin hdi
   omega
theorem zDC {id:Nat} {a0:Act} {w:World} (hm:P.follows .mixedOrders=true) (hap:Apart ops) (hb:backB ops=true) (vals0:Nat→Value) (J:(Nat→Bool)→(Nat→Value)→World→Prop)
  (h0:J (fun _=>false) vals0 w.drew)
  (hstep:∀ (i:Nat) (done:Nat→Bool) (vals:Nat→Value) (w:World),i<ops.size→J done vals w→done i=false→(∀ o,ops[i]?=some o→∀ e∈o.after,Region.binds .any e=true→done e.on=true) →
   wpOp P ops Q i (fun a' w'=>∃ v,a'=(zAi ops vals (zAG ops.size done) a0).put ((ops[i]?).bind (·.dst)) v∧J (zBz done i true) (zBz vals i v) w') (zAi ops vals (zAG ops.size done) a0) w)
  (hend:∀ (done:Nat→Bool) (vals:Nat→Value) (w:World),(∀ j,j<ops.size→done j=true)→J done vals w→Q .normal (zAi ops vals (List.range ops.size) a0) w) :
  (Code.region id ops true).wp P Q a0 w:=by
 refine wp_region_any hm ?_
 have e:zAG ops.size (fun _=>false)=[]:=by
  unfold zAG;rw [List.filter_eq_nil_iff];simp
 have:=wpAny_inv (P:=P) (Q:=Q) hap hb a0 J hstep hend ops.size (Array.replicate ops.size false) (fun _=>false) vals0 w.drew zd (fun j hj=>by simp [Array.getD,hj]) (by
  refine Nat.le_trans (List.length_filter_le _ _) ?_
  simp) h0
 rw [e] at this;exact this
end
end Dw
namespace Go.Proofs.YtieoifkdobcpiaaGreatDoor
open Go.RowKit Dw
theorem zAn {P:Program} {ops:Array Oper} {Q:Exit→Act→World→Prop} {i:Nat} {o:Oper} {K:Act→World→Prop} {a:Act} {w w':World} {v:Value} (ho:ops[i]?=some o) (hg:o.guard=none)
  (hr:(execOp a.eval o).run P w = .ok (.value v) w') (h:K (a.put o.dst v) w'):wpOp P ops Q i K a w:=by
 unfold wpOp;simp only [ho];rw [if_pos (by simp [Region.wanted,hg])]
 left
 unfold Oper.wp;rw [hr];exact h
theorem wpOp_skip {P:Program} {ops:Array Oper} {Q:Exit→Act→World→Prop} {i:Nat} {o:Oper} {K:Act→World→Prop} {a:Act} {w w':World} (ho:ops[i]?=some o) (hg:o.guard=none)
  (hr:(execOp a.eval o).run P w = .ok .skip w') (h:K (a.put o.dst undef) w'):wpOp P ops Q i K a w:=by
 unfold wpOp;simp only [ho];rw [if_pos (by simp [Region.wanted,hg])]
 left
 unfold Oper.wp;rw [hr];exact h
def notDst (ops:Array Oper) (t:Tmp):Bool:=(List.range ops.size).all fun i=>(ops[i]?).bind (·.dst) != some t
theorem eval_kept {ops:Array Oper} {vals:Nat→Value} {t:Tmp} {done:Nat→Bool} {a:Act} (h:notDst ops t=true):(zAi ops vals (zAG ops.size done) a).eval (.tmp t)=a.eval (.tmp t):=by
 refine zCr fun i hi d hd e=>?_
 injection e with e
 subst e;have:=List.all_eq_true.1 h i (List.mem_range.2 (mem_doneL.1 hi).1);rw [hd] at this;simp at this
theorem zAp {ops:Array Oper} (hap:Apart ops) {vals:Nat→Value} {done:Nat→Bool} {a:Act} {j:Nat} {d:Tmp} (hj:j<ops.size) (hd:(ops[j]?).bind (·.dst)=some d) (hdone:done j=true) (hs:d<a.tmps.size) :
  (zAi ops vals (zAG ops.size done) a).eval (.tmp d)=vals j :=
 eval_putAll_done hap hj hd (mem_doneL.2 ⟨hj,hdone⟩) (List.nodup_range.filter _) (fun _ hi=>(mem_doneL.1 hi).1) hs
theorem run_make_n {P:Program} (t e:TypeId) {z:Value} {bytes:Nat} (hT:ElemT P t e z 1 bytes) (n:Nat) (hb:bytes*n≤281474976710656) (h63:n≤9223372036854775807) (hz:z.cells=#[z]) (w:World) :
  (Instr.makeSlice t (.int .i64 (n:Int)) (.int .i64 (n:Int))).run P w = .ok (.slice (some ⟨w.heap.size,0,none⟩) n n) (w.alloc (.cells (Array.replicate n z) e)):=by
 obtain ⟨i,hi,hz0,hz1,hz2⟩:=info_parts hT.info
 have hb':(i.bytes:Int)*(n:Int)≤281474976710656:=by
  rw [hz2];have h:((bytes*n:Nat):Int)≤281474976710656:=za
  rwa [Int.natCast_mul] at h
 have hr:=run_make (P:=P) w t e i z hT.ty hi hz0 .i64 .i64 n n za za hb' za;simp only [Int.toNat_natCast] at hr;rw [hz1,hz,Nat.mul_one] at hr
 have e1:madeCells #[z] n=Array.replicate n z:=by
  apply Array.toList_inj.1
  rw [toList_madeCells_one,Array.toList_replicate]
 rw [e1] at hr;exact hr
theorem elInt:ElemT Tryz.prog 27 3 (.int .i64 0) 1 8:=⟨Tryz.underlying27,zb,rfl,zc⟩
theorem elInts:ElemT Tryz.prog 66 27 (.slice none 0 0) 1 24:=⟨Tryz.underlying66,zb,rfl,zc⟩
theorem elBool:ElemT Tryz.prog 112 4 (.bool false) 1 1:=⟨Tryz.underlying112,zb,rfl,zc⟩
theorem elSet:ElemT Tryz.prog 113 4 (.bool false) 1 1:=⟨Tryz.underlying113,zb,rfl,zc⟩
structure NW (w0 w:World) (B:Nat) (SL lv:Value) (r1 r2 g1 g2 s n:Nat) (f1 f2:ByteArray→Option Value) (up bl:Array Value):Prop where
 box:w.heap[s]?=some (.cells #[SL,.map (some r1),lv,.map (some r2),.slice (some ⟨g1,0,none⟩) n n,.slice (some ⟨g2,0,none⟩) n n] 108 (0,0))
 m1:zAx Value.string w r1 f1
 m2:zAx Value.string w r2 f2
 up:w.heap[g1]?=some (.cells up 3 (0,0))
 bl:w.heap[g2]?=some (.cells bl 27 (0,0))
 ne:r1≠r2
 b1:B≤r1
 b2:B≤r2
 b3:B≤g1
 b4:B≤g2
 b5:B≤s
 below:Below B w0 w
def depB (ops:Array Oper) (i j:Nat):Bool:=((ops[i]?).map fun o=>o.after.any fun e=>Region.binds .any e&&e.on == j).getD false
theorem zAZ {ops:Array Oper} {i j:Nat} {done:Nat→Bool} (h:depB ops i j=true) (hd:∀ o,ops[i]?=some o→∀ e∈o.after,Region.binds .any e=true→done e.on=true):done j=true:=by
 unfold depB at h
 cases ho:ops[i]? with
 | none=>rw [ho] at h;simp at h
 | some o =>
  rw [ho] at h;simp only [Option.map_some,Option.getD_some] at h;obtain ⟨e,he,hb⟩:=Array.any_eq_true'.1 h;rw [Bool.and_eq_true] at hb;have:=hd o ho e he hb.1;rw [show e.on=j from by simpa using hb.2] at this
  exact this
abbrev zAm:Value:=.slice none 0 0
abbrev slAt (g n:Nat):Value:=.slice (some ⟨g,0,none⟩) n n
def boxOf (SL:Value) (lv:Value) (r1 r2 g1 g2 n:Nat):Array Value:=#[SL,.map (some r1),lv,.map (some r2),slAt g1 n,slAt g2 n]
structure J1 (w0:World) (B:Nat) (SL:Value) (n:Nat) (r1 r2 g1 g2 s:Nat) (done:Nat→Bool) (vals:Nat→Value) (w:World):Prop where
 d0:done 0=true→vals 0=SL
 d1:done 1=true→vals 1 = .map (some r1)∧zAx Value.string w r1 (fun _=>none)∧B≤r1
 d2:done 2=true→vals 2 = .map (some r2)∧zAx Value.string w r2 (fun _=>none)∧B≤r2
 d12:done 1=true→done 2=true→r1≠r2
 d3:done 3=true→vals 3=SL
 d4:done 4=true→vals 4 = .int .i64 (n:Int)
 d5:done 5=true→vals 5=slAt g1 n∧w.heap[g1]?=some (.cells (Array.replicate n (.int .i64 0)) 3 (0,0))∧B≤g1
 d6:done 6=true→vals 6=SL
 d7:done 7=true→vals 7 = .int .i64 (n:Int)
 d8:done 8=true→vals 8=slAt g2 n∧w.heap[g2]?=some (.cells (Array.replicate n zAm) 27 (0,0))∧B≤g2
 d9:done 9=true→vals 9 = .agg (boxOf SL zAm r1 r2 g1 g2 n)
 d9':done 9=true→done 1=true∧done 2=true∧done 5=true∧done 8=true
 d10:done 10=true→vals 10 = .pointer (some ⟨s,0,none⟩)∧(∃ cs:Array Value,cs.size=6∧w.heap[s]?=some (.cells cs 108 (0,0)))∧B≤s
 d11:done 11=true→w.heap[s]?=some (.cells (boxOf SL zAm r1 r2 g1 g2 n) 108 (0,0))
 d11':done 11=true→done 9=true∧done 10=true
 below:Below B w0 w
 size:B≤w.heap.size
section
variable {w0 w:World} {B n r1 r2 g1 g2 s:Nat} {SL:Value} {done:Nat→Bool} {vals:Nat→Value}
theorem zBd {w:World} {o:Obj} {g:Nat} {x:Obj} (h:w.heap[g]?=some x):(w.alloc o).heap[g]?=some x:=by
 rw [Below.heap_alloc w o g (Array.getElem?_eq_some_iff.1 h).1];exact h
theorem J1.alloc (h:J1 w0 B SL n r1 r2 g1 g2 s done vals w) (o:Obj):J1 w0 B SL n r1 r2 g1 g2 s done vals (w.alloc o) where
 d0:=h.d0
 d1 hd:=⟨(h.d1 hd).1,(h.d1 hd).2.1.alloc o,(h.d1 hd).2.2⟩
 d2 hd:=⟨(h.d2 hd).1,(h.d2 hd).2.1.alloc o,(h.d2 hd).2.2⟩
 d12:=h.d12
 d3:=h.d3
 d4:=h.d4
 d5 hd:=⟨(h.d5 hd).1,zBd (h.d5 hd).2.1,(h.d5 hd).2.2⟩
 d6:=h.d6
 d7:=h.d7
 d8 hd:=⟨(h.d8 hd).1,zBd (h.d8 hd).2.1,(h.d8 hd).2.2⟩
 d9:=h.d9
 d9':=h.d9'
 d10 hd:=⟨(h.d10 hd).1,by obtain ⟨cs,h1,h2⟩:=(h.d10 hd).2.1;exact ⟨cs,h1,zBd h2⟩,(h.d10 hd).2.2⟩
 d11 hd:=zBd (h.d11 hd)
 d11':=h.d11'
 below:=h.below.alloc h.size o
 size:=by have:=h.size;simp;omega
end
theorem zAs {α:Type} (f:Nat→α) (i:Nat) (v:α):zBz f i v i=v:=by simp [zBz]
theorem zAa {α:Type} (f:Nat→α) {i j:Nat} (v:α) (h:j≠i):zBz f i v j=f j:=by simp [zBz,h]
section
variable {w0 w:World} {B n r1 r2 g1 g2 s:Nat} {SL:Value} {done:Nat→Bool} {vals:Nat→Value}
theorem J1.s0 (h:J1 w0 B SL n r1 r2 g1 g2 s done vals w):J1 w0 B SL n r1 r2 g1 g2 s (zBz done 0 true) (zBz vals 0 (SL)) w where
 d0 _:=zAs _ _ _
 d1 hd:=by
  rw [zAa _ _ zc] at hd;rw [zAa _ _ zc];exact h.d1 hd
 d2 hd:=by
  rw [zAa _ _ zc] at hd;rw [zAa _ _ zc];exact h.d2 hd
 d3 hd:=by
  rw [zAa _ _ zc] at hd;rw [zAa _ _ zc];exact h.d3 hd
 d4 hd:=by
  rw [zAa _ _ zc] at hd;rw [zAa _ _ zc];exact h.d4 hd
 d5 hd:=by
  rw [zAa _ _ zc] at hd;rw [zAa _ _ zc];exact h.d5 hd
 d6 hd:=by
  rw [zAa _ _ zc] at hd;rw [zAa _ _ zc];exact h.d6 hd
 d7 hd:=by
  rw [zAa _ _ zc] at hd;rw [zAa _ _ zc];exact h.d7 hd
 d8 hd:=by
  rw [zAa _ _ zc] at hd;rw [zAa _ _ zc];exact h.d8 hd
 d9 hd:=by
  rw [zAa _ _ zc] at hd;rw [zAa _ _ zc];exact h.d9 hd
 d10 hd:=by
  rw [zAa _ _ zc] at hd;rw [zAa _ _ zc];exact h.d10 hd
 d12 hd hd':=by
  rw [zAa _ _ zc] at hd hd';exact h.d12 hd hd'
 d9' hd:=by
  rw [zAa _ _ zc] at hd;rw [zAa _ _ zc,zAa _ _ zc,zAa _ _ zc,zAa _ _ zc];exact h.d9' hd
 d11 hd:=by
  rw [zAa _ _ zc] at hd;exact h.d11 hd
 d11' hd:=by
  rw [zAa _ _ zc] at hd;rw [zAa _ _ zc,zAa _ _ zc];exact h.d11' hd
 below:=h.below
 size:=h.size
theorem J1.s1 (h:J1 w0 B SL n r1 r2 g1 g2 s done vals w) (hi:done 1=false):J1 w0 B SL n w.heap.size r2 g1 g2 s (zBz done 1 true) (zBz vals 1 (.map (some w.heap.size))) (w.alloc (.map #[] 0)) where
 d0 hd:=by
  rw [zAa _ _ zc] at hd;rw [zAa _ _ zc];exact (h.alloc (.map #[] 0)).d0 hd
 d1 _:=⟨zAs _ _ _,zAx.new _ _,h.size⟩
 d2 hd:=by
  rw [zAa _ _ zc] at hd;rw [zAa _ _ zc];exact (h.alloc (.map #[] 0)).d2 hd
 d3 hd:=by
  rw [zAa _ _ zc] at hd;rw [zAa _ _ zc];exact (h.alloc (.map #[] 0)).d3 hd
 d4 hd:=by
  rw [zAa _ _ zc] at hd;rw [zAa _ _ zc];exact (h.alloc (.map #[] 0)).d4 hd
 d5 hd:=by
  rw [zAa _ _ zc] at hd;rw [zAa _ _ zc];exact (h.alloc (.map #[] 0)).d5 hd
 d6 hd:=by
  rw [zAa _ _ zc] at hd;rw [zAa _ _ zc];exact (h.alloc (.map #[] 0)).d6 hd
 d7 hd:=by
  rw [zAa _ _ zc] at hd;rw [zAa _ _ zc];exact (h.alloc (.map #[] 0)).d7 hd
 d8 hd:=by
  rw [zAa _ _ zc] at hd;rw [zAa _ _ zc];exact (h.alloc (.map #[] 0)).d8 hd
 d9 hd:=by
  rw [zAa _ _ zc] at hd;have:=(h.d9' hd).1;rw [hi] at this;cases this
 d10 hd:=by
  rw [zAa _ _ zc] at hd;rw [zAa _ _ zc];exact (h.alloc (.map #[] 0)).d10 hd
 d12 _ hd:=by
  rw [zAa _ _ zc] at hd;have:=(h.d2 hd).2.1.lt;omega
 d9' hd:=by
  rw [zAa _ _ zc] at hd;have:=(h.d9' hd).1;rw [hi] at this;cases this
 d11 hd:=by
  rw [zAa _ _ zc] at hd;have:=(h.d9' (h.d11' hd).1).1;rw [hi] at this;cases this
 d11' hd:=by
  rw [zAa _ _ zc] at hd;rw [zAa _ _ zc,zAa _ _ zc];exact h.d11' hd
 below:=(h.alloc (.map #[] 0)).below
 size:=(h.alloc (.map #[] 0)).size
theorem J1.s2 (h:J1 w0 B SL n r1 r2 g1 g2 s done vals w) (hi:done 2=false):J1 w0 B SL n r1 w.heap.size g1 g2 s (zBz done 2 true) (zBz vals 2 (.map (some w.heap.size))) (w.alloc (.map #[] 0)) where
 d0 hd:=by
  rw [zAa _ _ zc] at hd;rw [zAa _ _ zc];exact (h.alloc (.map #[] 0)).d0 hd
 d1 hd:=by
  rw [zAa _ _ zc] at hd;rw [zAa _ _ zc];exact (h.alloc (.map #[] 0)).d1 hd
 d2 _:=⟨zAs _ _ _,zAx.new _ _,h.size⟩
 d3 hd:=by
  rw [zAa _ _ zc] at hd;rw [zAa _ _ zc];exact (h.alloc (.map #[] 0)).d3 hd
 d4 hd:=by
  rw [zAa _ _ zc] at hd;rw [zAa _ _ zc];exact (h.alloc (.map #[] 0)).d4 hd
 d5 hd:=by
  rw [zAa _ _ zc] at hd;rw [zAa _ _ zc];exact (h.alloc (.map #[] 0)).d5 hd
 d6 hd:=by
  rw [zAa _ _ zc] at hd;rw [zAa _ _ zc];exact (h.alloc (.map #[] 0)).d6 hd
 d7 hd:=by
  rw [zAa _ _ zc] at hd;rw [zAa _ _ zc];exact (h.alloc (.map #[] 0)).d7 hd
 d8 hd:=by
  rw [zAa _ _ zc] at hd;rw [zAa _ _ zc];exact (h.alloc (.map #[] 0)).d8 hd
 d9 hd:=by
  rw [zAa _ _ zc] at hd;have:=(h.d9' hd).2.1;rw [hi] at this;cases this
 d10 hd:=by
  rw [zAa _ _ zc] at hd;rw [zAa _ _ zc];exact (h.alloc (.map #[] 0)).d10 hd
 d12 hd _:=by
  rw [zAa _ _ zc] at hd;have:=(h.d1 hd).2.1.lt;omega
 d9' hd:=by
  rw [zAa _ _ zc] at hd;have:=(h.d9' hd).2.1;rw [hi] at this;cases this
 d11 hd:=by
  rw [zAa _ _ zc] at hd;have:=(h.d9' (h.d11' hd).1).2.1;rw [hi] at this;cases this
 d11' hd:=by
  rw [zAa _ _ zc] at hd;rw [zAa _ _ zc,zAa _ _ zc];exact h.d11' hd
 below:=(h.alloc (.map #[] 0)).below
 size:=(h.alloc (.map #[] 0)).size
theorem J1.s3 (h:J1 w0 B SL n r1 r2 g1 g2 s done vals w):J1 w0 B SL n r1 r2 g1 g2 s (zBz done 3 true) (zBz vals 3 (SL)) w where
 d0 hd:=by
  rw [zAa _ _ zc] at hd;rw [zAa _ _ zc];exact h.d0 hd
 d1 hd:=by
  rw [zAa _ _ zc] at hd;rw [zAa _ _ zc];exact h.d1 hd
 d2 hd:=by
  rw [zAa _ _ zc] at hd;rw [zAa _ _ zc];exact h.d2 hd
 d3 _:=zAs _ _ _
 d4 hd:=by
  rw [zAa _ _ zc] at hd;rw [zAa _ _ zc];exact h.d4 hd
 d5 hd:=by
  rw [zAa _ _ zc] at hd;rw [zAa _ _ zc];exact h.d5 hd
 d6 hd:=by
  rw [zAa _ _ zc] at hd;rw [zAa _ _ zc];exact h.d6 hd
 d7 hd:=by
  rw [zAa _ _ zc] at hd;rw [zAa _ _ zc];exact h.d7 hd
 d8 hd:=by
  rw [zAa _ _ zc] at hd;rw [zAa _ _ zc];exact h.d8 hd
 d9 hd:=by
  rw [zAa _ _ zc] at hd;rw [zAa _ _ zc];exact h.d9 hd
 d10 hd:=by
  rw [zAa _ _ zc] at hd;rw [zAa _ _ zc];exact h.d10 hd
 d12 hd hd':=by
  rw [zAa _ _ zc] at hd hd';exact h.d12 hd hd'
 d9' hd:=by
  rw [zAa _ _ zc] at hd;rw [zAa _ _ zc,zAa _ _ zc,zAa _ _ zc,zAa _ _ zc];exact h.d9' hd
 d11 hd:=by
  rw [zAa _ _ zc] at hd;exact h.d11 hd
 d11' hd:=by
  rw [zAa _ _ zc] at hd;rw [zAa _ _ zc,zAa _ _ zc];exact h.d11' hd
 below:=h.below
 size:=h.size
theorem J1.s4 (h:J1 w0 B SL n r1 r2 g1 g2 s done vals w):J1 w0 B SL n r1 r2 g1 g2 s (zBz done 4 true) (zBz vals 4 (.int .i64 (n:Int))) w where
 d0 hd:=by
  rw [zAa _ _ zc] at hd;rw [zAa _ _ zc];exact h.d0 hd
 d1 hd:=by
  rw [zAa _ _ zc] at hd;rw [zAa _ _ zc];exact h.d1 hd
 d2 hd:=by
  rw [zAa _ _ zc] at hd;rw [zAa _ _ zc];exact h.d2 hd
 d3 hd:=by
  rw [zAa _ _ zc] at hd;rw [zAa _ _ zc];exact h.d3 hd
 d4 _:=zAs _ _ _
 d5 hd:=by
  rw [zAa _ _ zc] at hd;rw [zAa _ _ zc];exact h.d5 hd
 d6 hd:=by
  rw [zAa _ _ zc] at hd;rw [zAa _ _ zc];exact h.d6 hd
 d7 hd:=by
  rw [zAa _ _ zc] at hd;rw [zAa _ _ zc];exact h.d7 hd
 d8 hd:=by
  rw [zAa _ _ zc] at hd;rw [zAa _ _ zc];exact h.d8 hd
 d9 hd:=by
  rw [zAa _ _ zc] at hd;rw [zAa _ _ zc];exact h.d9 hd
 d10 hd:=by
  rw [zAa _ _ zc] at hd;rw [zAa _ _ zc];exact h.d10 hd
 d12 hd hd':=by
  rw [zAa _ _ zc] at hd hd';exact h.d12 hd hd'
 d9' hd:=by
  rw [zAa _ _ zc] at hd;rw [zAa _ _ zc,zAa _ _ zc,zAa _ _ zc,zAa _ _ zc];exact h.d9' hd
 d11 hd:=by
  rw [zAa _ _ zc] at hd;exact h.d11 hd
 d11' hd:=by
  rw [zAa _ _ zc] at hd;rw [zAa _ _ zc,zAa _ _ zc];exact h.d11' hd
 below:=h.below
 size:=h.size
theorem J1.s5 (h:J1 w0 B SL n r1 r2 g1 g2 s done vals w) (hi:done 5=false):J1 w0 B SL n r1 r2 w.heap.size g2 s (zBz done 5 true) (zBz vals 5 (slAt w.heap.size n)) (w.alloc (.cells (Array.replicate n (.int .i64 0)) 3)) where
 d0 hd:=by
  rw [zAa _ _ zc] at hd;rw [zAa _ _ zc];exact (h.alloc (.cells (Array.replicate n (.int .i64 0)) 3)).d0 hd
 d1 hd:=by
  rw [zAa _ _ zc] at hd;rw [zAa _ _ zc];exact (h.alloc (.cells (Array.replicate n (.int .i64 0)) 3)).d1 hd
 d2 hd:=by
  rw [zAa _ _ zc] at hd;rw [zAa _ _ zc];exact (h.alloc (.cells (Array.replicate n (.int .i64 0)) 3)).d2 hd
 d3 hd:=by
  rw [zAa _ _ zc] at hd;rw [zAa _ _ zc];exact (h.alloc (.cells (Array.replicate n (.int .i64 0)) 3)).d3 hd
 d4 hd:=by
  rw [zAa _ _ zc] at hd;rw [zAa _ _ zc];exact (h.alloc (.cells (Array.replicate n (.int .i64 0)) 3)).d4 hd
 d5 _:=⟨zAs _ _ _,heap_alloc_new _ _,h.size⟩
 d6 hd:=by
  rw [zAa _ _ zc] at hd;rw [zAa _ _ zc];exact (h.alloc (.cells (Array.replicate n (.int .i64 0)) 3)).d6 hd
 d7 hd:=by
  rw [zAa _ _ zc] at hd;rw [zAa _ _ zc];exact (h.alloc (.cells (Array.replicate n (.int .i64 0)) 3)).d7 hd
 d8 hd:=by
  rw [zAa _ _ zc] at hd;rw [zAa _ _ zc];exact (h.alloc (.cells (Array.replicate n (.int .i64 0)) 3)).d8 hd
 d9 hd:=by
  rw [zAa _ _ zc] at hd;have:=(h.d9' hd).2.2.1;rw [hi] at this;cases this
 d10 hd:=by
  rw [zAa _ _ zc] at hd;rw [zAa _ _ zc];exact (h.alloc (.cells (Array.replicate n (.int .i64 0)) 3)).d10 hd
 d12 hd hd':=by
  rw [zAa _ _ zc] at hd hd';exact h.d12 hd hd'
 d9' hd:=by
  rw [zAa _ _ zc] at hd;have:=(h.d9' hd).2.2.1;rw [hi] at this;cases this
 d11 hd:=by
  rw [zAa _ _ zc] at hd;have:=(h.d9' (h.d11' hd).1).2.2.1;rw [hi] at this;cases this
 d11' hd:=by
  rw [zAa _ _ zc] at hd;rw [zAa _ _ zc,zAa _ _ zc];exact h.d11' hd
 below:=(h.alloc (.cells (Array.replicate n (.int .i64 0)) 3)).below
 size:=(h.alloc (.cells (Array.replicate n (.int .i64 0)) 3)).size
theorem J1.s6 (h:J1 w0 B SL n r1 r2 g1 g2 s done vals w):J1 w0 B SL n r1 r2 g1 g2 s (zBz done 6 true) (zBz vals 6 (SL)) w where
 d0 hd:=by
  rw [zAa _ _ zc] at hd;rw [zAa _ _ zc];exact h.d0 hd
 d1 hd:=by
  rw [zAa _ _ zc] at hd;rw [zAa _ _ zc];exact h.d1 hd
 d2 hd:=by
  rw [zAa _ _ zc] at hd;rw [zAa _ _ zc];exact h.d2 hd
 d3 hd:=by
  rw [zAa _ _ zc] at hd;rw [zAa _ _ zc];exact h.d3 hd
 d4 hd:=by
  rw [zAa _ _ zc] at hd;rw [zAa _ _ zc];exact h.d4 hd
 d5 hd:=by
  rw [zAa _ _ zc] at hd;rw [zAa _ _ zc];exact h.d5 hd
 d6 _:=zAs _ _ _
 d7 hd:=by
  rw [zAa _ _ zc] at hd;rw [zAa _ _ zc];exact h.d7 hd
 d8 hd:=by
  rw [zAa _ _ zc] at hd;rw [zAa _ _ zc];exact h.d8 hd
 d9 hd:=by
  rw [zAa _ _ zc] at hd;rw [zAa _ _ zc];exact h.d9 hd
 d10 hd:=by
  rw [zAa _ _ zc] at hd;rw [zAa _ _ zc];exact h.d10 hd
 d12 hd hd':=by
  rw [zAa _ _ zc] at hd hd';exact h.d12 hd hd'
 d9' hd:=by
  rw [zAa _ _ zc] at hd;rw [zAa _ _ zc,zAa _ _ zc,zAa _ _ zc,zAa _ _ zc];exact h.d9' hd
 d11 hd:=by
  rw [zAa _ _ zc] at hd;exact h.d11 hd
 d11' hd:=by
  rw [zAa _ _ zc] at hd;rw [zAa _ _ zc,zAa _ _ zc];exact h.d11' hd
 below:=h.below
 size:=h.size
theorem J1.s7 (h:J1 w0 B SL n r1 r2 g1 g2 s done vals w):J1 w0 B SL n r1 r2 g1 g2 s (zBz done 7 true) (zBz vals 7 (.int .i64 (n:Int))) w where
 d0 hd:=by
  rw [zAa _ _ zc] at hd;rw [zAa _ _ zc];exact h.d0 hd
 d1 hd:=by
  rw [zAa _ _ zc] at hd;rw [zAa _ _ zc];exact h.d1 hd
 d2 hd:=by
  rw [zAa _ _ zc] at hd;rw [zAa _ _ zc];exact h.d2 hd
 d3 hd:=by
  rw [zAa _ _ zc] at hd;rw [zAa _ _ zc];exact h.d3 hd
 d4 hd:=by
  rw [zAa _ _ zc] at hd;rw [zAa _ _ zc];exact h.d4 hd
 d5 hd:=by
  rw [zAa _ _ zc] at hd;rw [zAa _ _ zc];exact h.d5 hd
 d6 hd:=by
  rw [zAa _ _ zc] at hd;rw [zAa _ _ zc];exact h.d6 hd
 d7 _:=zAs _ _ _
 d8 hd:=by
  rw [zAa _ _ zc] at hd;rw [zAa _ _ zc];exact h.d8 hd
 d9 hd:=by
  rw [zAa _ _ zc] at hd;rw [zAa _ _ zc];exact h.d9 hd
 d10 hd:=by
  rw [zAa _ _ zc] at hd;rw [zAa _ _ zc];exact h.d10 hd
 d12 hd hd':=by
  rw [zAa _ _ zc] at hd hd';exact h.d12 hd hd'
 d9' hd:=by
  rw [zAa _ _ zc] at hd;rw [zAa _ _ zc,zAa _ _ zc,zAa _ _ zc,zAa _ _ zc];exact h.d9' hd
 d11 hd:=by
  rw [zAa _ _ zc] at hd;exact h.d11 hd
 d11' hd:=by
  rw [zAa _ _ zc] at hd;rw [zAa _ _ zc,zAa _ _ zc];exact h.d11' hd
 below:=h.below
 size:=h.size
theorem J1.s8 (h:J1 w0 B SL n r1 r2 g1 g2 s done vals w) (hi:done 8=false):J1 w0 B SL n r1 r2 g1 w.heap.size s (zBz done 8 true) (zBz vals 8 (slAt w.heap.size n)) (w.alloc (.cells (Array.replicate n zAm) 27)) where
 d0 hd:=by
  rw [zAa _ _ zc] at hd;rw [zAa _ _ zc];exact (h.alloc (.cells (Array.replicate n zAm) 27)).d0 hd
 d1 hd:=by
  rw [zAa _ _ zc] at hd;rw [zAa _ _ zc];exact (h.alloc (.cells (Array.replicate n zAm) 27)).d1 hd
 d2 hd:=by
  rw [zAa _ _ zc] at hd;rw [zAa _ _ zc];exact (h.alloc (.cells (Array.replicate n zAm) 27)).d2 hd
 d3 hd:=by
  rw [zAa _ _ zc] at hd;rw [zAa _ _ zc];exact (h.alloc (.cells (Array.replicate n zAm) 27)).d3 hd
 d4 hd:=by
  rw [zAa _ _ zc] at hd;rw [zAa _ _ zc];exact (h.alloc (.cells (Array.replicate n zAm) 27)).d4 hd
 d5 hd:=by
  rw [zAa _ _ zc] at hd;rw [zAa _ _ zc];exact (h.alloc (.cells (Array.replicate n zAm) 27)).d5 hd
 d6 hd:=by
  rw [zAa _ _ zc] at hd;rw [zAa _ _ zc];exact (h.alloc (.cells (Array.replicate n zAm) 27)).d6 hd
 d7 hd:=by
  rw [zAa _ _ zc] at hd;rw [zAa _ _ zc];exact (h.alloc (.cells (Array.replicate n zAm) 27)).d7 hd
 d8 _:=⟨zAs _ _ _,heap_alloc_new _ _,h.size⟩
 d9 hd:=by
  rw [zAa _ _ zc] at hd;have:=(h.d9' hd).2.2.2;rw [hi] at this;cases this
 d10 hd:=by
  rw [zAa _ _ zc] at hd;rw [zAa _ _ zc];exact (h.alloc (.cells (Array.replicate n zAm) 27)).d10 hd
 d12 hd hd':=by
  rw [zAa _ _ zc] at hd hd';exact h.d12 hd hd'
 d9' hd:=by
  rw [zAa _ _ zc] at hd;have:=(h.d9' hd).2.2.2;rw [hi] at this;cases this
 d11 hd:=by
  rw [zAa _ _ zc] at hd;have:=(h.d9' (h.d11' hd).1).2.2.2;rw [hi] at this;cases this
 d11' hd:=by
  rw [zAa _ _ zc] at hd;rw [zAa _ _ zc,zAa _ _ zc];exact h.d11' hd
 below:=(h.alloc (.cells (Array.replicate n zAm) 27)).below
 size:=(h.alloc (.cells (Array.replicate n zAm) 27)).size
theorem J1.s9 (h:J1 w0 B SL n r1 r2 g1 g2 s done vals w) (h1:done 1=true) (h2:done 2=true) (h5:done 5=true) (h8:done 8=true):J1 w0 B SL n r1 r2 g1 g2 s (zBz done 9 true) (zBz vals 9 (.agg (boxOf SL zAm r1 r2 g1 g2 n))) w where
 d0 hd:=by
  rw [zAa _ _ zc] at hd;rw [zAa _ _ zc];exact h.d0 hd
 d1 hd:=by
  rw [zAa _ _ zc] at hd;rw [zAa _ _ zc];exact h.d1 hd
 d2 hd:=by
  rw [zAa _ _ zc] at hd;rw [zAa _ _ zc];exact h.d2 hd
 d3 hd:=by
  rw [zAa _ _ zc] at hd;rw [zAa _ _ zc];exact h.d3 hd
 d4 hd:=by
  rw [zAa _ _ zc] at hd;rw [zAa _ _ zc];exact h.d4 hd
 d5 hd:=by
  rw [zAa _ _ zc] at hd;rw [zAa _ _ zc];exact h.d5 hd
 d6 hd:=by
  rw [zAa _ _ zc] at hd;rw [zAa _ _ zc];exact h.d6 hd
 d7 hd:=by
  rw [zAa _ _ zc] at hd;rw [zAa _ _ zc];exact h.d7 hd
 d8 hd:=by
  rw [zAa _ _ zc] at hd;rw [zAa _ _ zc];exact h.d8 hd
 d9 _:=zAs _ _ _
 d10 hd:=by
  rw [zAa _ _ zc] at hd;rw [zAa _ _ zc];exact h.d10 hd
 d12 hd hd':=by
  rw [zAa _ _ zc] at hd hd';exact h.d12 hd hd'
 d9' _:=by
  rw [zAa _ _ zc,zAa _ _ zc,zAa _ _ zc,zAa _ _ zc];exact ⟨h1,h2,h5,h8⟩
 d11 hd:=by
  rw [zAa _ _ zc] at hd;exact h.d11 hd
 d11' hd:=by
  rw [zAa _ _ zc] at hd;rw [zAa _ _ (show (10:Nat)≠9 by decide)]
  exact ⟨zAs _ _ _,(h.d11' hd).2⟩
 below:=h.below
 size:=h.size
theorem J1.s10 (h:J1 w0 B SL n r1 r2 g1 g2 s done vals w) (hi:done 10=false) (cs:Array Value) (hcs:cs.size=6):J1 w0 B SL n r1 r2 g1 g2 w.heap.size (zBz done 10 true) (zBz vals 10 (.pointer (some ⟨w.heap.size,0,none⟩))) (w.alloc (.cells cs 108)) where
 d0 hd:=by
  rw [zAa _ _ zc] at hd;rw [zAa _ _ zc];exact (h.alloc (.cells cs 108)).d0 hd
 d1 hd:=by
  rw [zAa _ _ zc] at hd;rw [zAa _ _ zc];exact (h.alloc (.cells cs 108)).d1 hd
 d2 hd:=by
  rw [zAa _ _ zc] at hd;rw [zAa _ _ zc];exact (h.alloc (.cells cs 108)).d2 hd
 d3 hd:=by
  rw [zAa _ _ zc] at hd;rw [zAa _ _ zc];exact (h.alloc (.cells cs 108)).d3 hd
 d4 hd:=by
  rw [zAa _ _ zc] at hd;rw [zAa _ _ zc];exact (h.alloc (.cells cs 108)).d4 hd
 d5 hd:=by
  rw [zAa _ _ zc] at hd;rw [zAa _ _ zc];exact (h.alloc (.cells cs 108)).d5 hd
 d6 hd:=by
  rw [zAa _ _ zc] at hd;rw [zAa _ _ zc];exact (h.alloc (.cells cs 108)).d6 hd
 d7 hd:=by
  rw [zAa _ _ zc] at hd;rw [zAa _ _ zc];exact (h.alloc (.cells cs 108)).d7 hd
 d8 hd:=by
  rw [zAa _ _ zc] at hd;rw [zAa _ _ zc];exact (h.alloc (.cells cs 108)).d8 hd
 d9 hd:=by
  rw [zAa _ _ zc] at hd;rw [zAa _ _ zc];exact (h.alloc (.cells cs 108)).d9 hd
 d10 _:=⟨zAs _ _ _,⟨cs,hcs,heap_alloc_new _ _⟩,h.size⟩
 d12 hd hd':=by
  rw [zAa _ _ zc] at hd hd';exact h.d12 hd hd'
 d9' hd:=by
  rw [zAa _ _ zc] at hd;rw [zAa _ _ zc,zAa _ _ zc,zAa _ _ zc,zAa _ _ zc];exact h.d9' hd
 d11 hd:=by
  rw [zAa _ _ zc] at hd;have:=(h.d11' hd).2;rw [hi] at this;cases this
 d11' hd:=by
  rw [zAa _ _ zc] at hd;rw [zAa _ _ (show (9:Nat)≠10 by decide)]
  exact ⟨(h.d11' hd).1,zAs _ _ _⟩
 below:=(h.alloc (.cells cs 108)).below
 size:=(h.alloc (.cells cs 108)).size
end
theorem boxOf_size (SL lv:Value) (r1 r2 g1 g2 n:Nat):(boxOf SL lv r1 r2 g1 g2 n).size=6:=rfl
theorem run_store6 {w:World} {s:Nat} {cs:Array Value} (hcs:cs.size=6) (hs:w.heap[s]?=some (.cells cs 108 (0,0))) (new:Array Value) (hn:new.size=6) (h1:∀ v∈new.toList,v.oneCell'=true) :
  (Instr.storeAt 108 (.pointer (some ⟨s,0,none⟩)) (.agg new)).run Tryz.prog w = .ok () (w.setRow s new):=by
 have hst:=run_storeCells_at Tryz.prog s 0 108 new.toList 0 cs w hs (by simp [hn,hcs]) h1
 have e:(cs.toList.take (0+0)++new.toList++cs.toList.drop (0+0+new.toList.length)).toArray=new:=by
  have:cs.toList.drop (0+0+new.toList.length)=[]:=List.drop_of_length_le (by simp [hn,hcs])
  rw [this];simp
 rw [e] at hst;have hsz:(sizeOf 108).run Tryz.prog w = .ok 6 w:=zb;simp [Instr.storeAt,Instr.sureAddr,storeVar,hsz,Value.cells,hn,hst]
theorem J1.s11 {w0 w:World} {B n r1 r2 g1 g2 s:Nat} {SL:Value} {done:Nat→Bool} {vals:Nat→Value} (h:J1 w0 B SL n r1 r2 g1 g2 s done vals w) (h9:done 9=true) (h10:done 10=true) (v:Value) :
  J1 w0 B SL n r1 r2 g1 g2 s (zBz done 11 true) (zBz vals 11 v) (w.setRow s (boxOf SL zAm r1 r2 g1 g2 n)):=by
 obtain ⟨hv,⟨cs,hcs,hs⟩,hB⟩:=h.d10 h10;have hne:∀ {k:Nat},k≠s→(w.setRow s (boxOf SL zAm r1 r2 g1 g2 n)).heap[k]?=w.heap[k]?:=fun hk=>setRow_other w s _ _ hk
 have hmap:∀ {r:Nat} {f:ByteArray→Option Value},zAx Value.string w r f→r≠s:=fun hm e=>by
  obtain ⟨es,clk,L,hr,_⟩:=hm;rw [e,hs] at hr;cases hr
 have hcell:∀ {g:Nat} {c:Array Value} {t:TypeId},t≠108→w.heap[g]?=some (.cells c t (0,0))→g≠s:=fun ht hg e=>by
  rw [e,hs] at hg
  injection hg with hg
  injection hg with _ hg
  exact ht hg.symm
 exact {
  d0:=fun hd=>by rw [zAa _ _ zc] at hd ⊢;exact h.d0 hd
  d1:=fun hd=>by
   rw [zAa _ _ zc] at hd ⊢;obtain ⟨h1,h2,h3⟩:=h.d1 hd;exact ⟨h1,h2.keep (hne (hmap h2)),h3⟩
  d2:=fun hd=>by
   rw [zAa _ _ zc] at hd ⊢;obtain ⟨h1,h2,h3⟩:=h.d2 hd;exact ⟨h1,h2.keep (hne (hmap h2)),h3⟩
  d12:=fun hd hd'=>by rw [zAa _ _ zc] at hd hd';exact h.d12 hd hd'
  d3:=fun hd=>by rw [zAa _ _ zc] at hd ⊢;exact h.d3 hd
  d4:=fun hd=>by rw [zAa _ _ zc] at hd ⊢;exact h.d4 hd
  d5:=fun hd=>by
   rw [zAa _ _ zc] at hd ⊢;obtain ⟨h1,h2,h3⟩:=h.d5 hd;exact ⟨h1,(hne (hcell zc h2)).trans h2,h3⟩
  d6:=fun hd=>by rw [zAa _ _ zc] at hd ⊢;exact h.d6 hd
  d7:=fun hd=>by rw [zAa _ _ zc] at hd ⊢;exact h.d7 hd
  d8:=fun hd=>by
   rw [zAa _ _ zc] at hd ⊢;obtain ⟨h1,h2,h3⟩:=h.d8 hd;exact ⟨h1,(hne (hcell zc h2)).trans h2,h3⟩
  d9:=fun hd=>by rw [zAa _ _ zc] at hd ⊢;exact h.d9 hd
  d9':=fun hd=>by
   rw [zAa _ _ zc] at hd;rw [zAa _ _ zc,zAa _ _ zc,zAa _ _ zc,zAa _ _ zc];exact h.d9' hd
  d10:=fun hd=>by
   rw [zAa _ _ zc] at hd ⊢;exact ⟨(h.d10 hd).1,⟨_,boxOf_size _ _ _ _ _ _ _,setRow_heap w s cs _ _ _ hs⟩,hB⟩
  d11:=fun _=>setRow_heap w s cs _ _ _ hs
  d11':=fun _=>by
   rw [zAa _ _ zc,zAa _ _ zc];exact ⟨h9,h10⟩
  below:=⟨h.below.os,h.below.tape,h.below.output,by simpa using h.below.size,fun k hk=>(hne za).trans (h.below.block k hk)⟩
  size:=by simpa using h.size }
theorem region1 {ops:Array Oper} {Q:Exit→Act→World→Prop} {a0:Act} {w:World} {id:Nat} {A:Option Addr} {n c:Nat} (hn:n≤200) (hsz:ops.size=12) (hap:apartB ops=true) (hb:backB ops=true) (hk0:notDst ops 0=true)
  (ha0:a0.eval (.tmp 0) = .slice A n c) (has:22<a0.tmps.size)
  (o0:∃ ty ps af,ops[0]?=some ⟨some 13,.move (.tmp 0),ty,ps,af,none⟩)
  (o1:∃ ty ps af,ops[1]?=some ⟨some 14,.makeMap 106 none,ty,ps,af,none⟩)
  (o2:∃ ty ps af,ops[2]?=some ⟨some 15,.makeMap 106 none,ty,ps,af,none⟩)
  (o3:∃ ty ps af,ops[3]?=some ⟨some 16,.move (.tmp 0),ty,ps,af,none⟩)
  (o4:∃ ty ps af,ops[4]?=some ⟨some 17,.call { callee:=.builtin .len,args:=#[.tmp 16],argTypes:=#[22] },ty,ps,af,none⟩)
  (o5:∃ ty ps af,ops[5]?=some ⟨some 18,.makeSlice 27 (.tmp 17) (.tmp 17),ty,ps,af,none⟩)
  (o6:∃ ty ps af,ops[6]?=some ⟨some 19,.move (.tmp 0),ty,ps,af,none⟩)
  (o7:∃ ty ps af,ops[7]?=some ⟨some 20,.call { callee:=.builtin .len,args:=#[.tmp 19],argTypes:=#[22] },ty,ps,af,none⟩)
  (o8:∃ ty ps af,ops[8]?=some ⟨some 21,.makeSlice 66 (.tmp 20) (.tmp 20),ty,ps,af,none⟩)
  (o9:∃ ty ps af,ops[9]?=some ⟨some 22,.build 108 #[(0,.tmp 13),(1,.tmp 14),(3,.tmp 15),(4,.tmp 18),(5,.tmp 21)],ty,ps,af,none⟩)
  (o10:∃ ty ps af,ops[10]?=some ⟨some 3,.alloc 108,ty,ps,af,none⟩)
  (o11:∃ ty ps af,ops[11]?=some ⟨none,.store 108 (.tmp 3) (.tmp 22),ty,ps,af,none⟩)
  (e43:depB ops 4 3=true) (e54:depB ops 5 4=true) (e76:depB ops 7 6=true) (e87:depB ops 8 7=true)
  (e90:depB ops 9 0=true) (e91:depB ops 9 1=true) (e92:depB ops 9 2=true) (e95:depB ops 9 5=true) (e98:depB ops 9 8=true) (e119:depB ops 11 9=true) (e1110:depB ops 11 10=true)
  (hK:∀ (r1 r2 g1 g2 s:Nat) (vals:Nat→Value) (w':World),NW w w' w.heap.size (.slice A n c) zAm r1 r2 g1 g2 s n (fun _=>none) (fun _=>none) (Array.replicate n (.int .i64 0)) (Array.replicate n zAm) →
   vals 0 = .slice A n c→vals 1 = .map (some r1)→vals 2 = .map (some r2)→vals 3 = .slice A n c→vals 4 = .int .i64 (n:Int)→vals 5=slAt g1 n→vals 6 = .slice A n c→vals 7 = .int .i64 (n:Int)→vals 8=slAt g2 n →
   vals 9 = .agg (boxOf (.slice A n c) zAm r1 r2 g1 g2 n)→vals 10 = .pointer (some ⟨s,0,none⟩)→Q .normal (zAi ops vals (List.range 12) a0) w') :
  (Code.region id ops true).wp Tryz.prog Q a0 w:=by
 have hAp:=apart_of hap;refine zDC zb hAp hb (fun _=>undef) (fun done vals w'=>∃ r1 r2 g1 g2 s,J1 w w.heap.size (.slice A n c) n r1 r2 g1 g2 s done vals w') ?_ ?_ ?_
 ·exact ⟨0,0,0,0,0,zd,zd,zd,zd,zd,zd,zd,zd,zd,zd,zd,zd,zd,zd,zd,(Below.refl _ _).drew,Nat.le_refl _⟩
 ·intro i done vals w1 hi ⟨r1,r2,g1,g2,s,hJ⟩ hd hdep
  rw [hsz] at hi;have hlen:∀ ty:TypeId,(Builtin.len_ #[22] ty #[.slice A n c]).run Tryz.prog w1 = .ok (.int .i64 (n:Int)) w1:=fun _=>zb
  have hev0:(zAi ops vals (zAG ops.size done) a0).eval (.tmp 0) = .slice A n c:=(eval_kept hk0).trans ha0
  match i,hi with
  | 0,_ =>
   obtain ⟨ty,ps,af,ho⟩:=o0;refine zAn ho rfl (v:=.slice A n c) (w':=w1) (by simp [execOp,hev0]) ⟨_,zm,_,_,_,_,_,hJ.s0⟩
  | 1,_ =>
   obtain ⟨ty,ps,af,ho⟩:=o1;refine zAn ho rfl (v:=.map (some w1.heap.size)) (w':=w1.alloc (.map #[] 0)) qj ⟨_,zm,_,_,_,_,_,hJ.s1 hd⟩
  | 2,_ =>
   obtain ⟨ty,ps,af,ho⟩:=o2;refine zAn ho rfl (v:=.map (some w1.heap.size)) (w':=w1.alloc (.map #[] 0)) qj ⟨_,zm,_,_,_,_,_,hJ.s2 hd⟩
  | 3,_ =>
   obtain ⟨ty,ps,af,ho⟩:=o3;refine zAn ho rfl (v:=.slice A n c) (w':=w1) (by simp [execOp,hev0]) ⟨_,zm,_,_,_,_,_,hJ.s3⟩
  | 4,_ =>
   obtain ⟨ty,ps,af,ho⟩:=o4;have h3:=zAZ e43 hdep
   have hev:(zAi ops vals (zAG ops.size done) a0).eval (.tmp 16) = .slice A n c:=by
    obtain ⟨ty',ps',af',ho'⟩:=o3;rw [zAp hAp (a:=a0) (j:=3) (d:=16) za zo h3 (Nat.lt_of_le_of_lt (m:=22) zc has),hJ.d3 h3]
   refine zAn ho rfl (v:=.int .i64 (n:Int)) (w':=w1) (by simp [execOp,resolve,invoke,builtin,hev,hlen]) ⟨_,zm,_,_,_,_,_,hJ.s4⟩
  | 5,_ =>
   obtain ⟨ty,ps,af,ho⟩:=o5;have h4:=zAZ e54 hdep
   have hev:(zAi ops vals (zAG ops.size done) a0).eval (.tmp 17) = .int .i64 (n:Int):=by
    obtain ⟨ty',ps',af',ho'⟩:=o4;rw [zAp hAp (a:=a0) (j:=4) (d:=17) za zo h4 (Nat.lt_of_le_of_lt (m:=22) zc has),hJ.d4 h4]
   refine zAn ho rfl (v:=slAt w1.heap.size n) (w':=w1.alloc (.cells (Array.replicate n (.int .i64 0)) 3)) (by simp [execOp,hev,run_make_n _ _ elInt n za za rfl]) ⟨_,zm,_,_,_,_,_,hJ.s5 hd⟩
  | 6,_ =>
   obtain ⟨ty,ps,af,ho⟩:=o6;refine zAn ho rfl (v:=.slice A n c) (w':=w1) (by simp [execOp,hev0]) ⟨_,zm,_,_,_,_,_,hJ.s6⟩
  | 7,_ =>
   obtain ⟨ty,ps,af,ho⟩:=o7;have h3:=zAZ e76 hdep
   have hev:(zAi ops vals (zAG ops.size done) a0).eval (.tmp 19) = .slice A n c:=by
    obtain ⟨ty',ps',af',ho'⟩:=o6;rw [zAp hAp (a:=a0) (j:=6) (d:=19) za zo h3 (Nat.lt_of_le_of_lt (m:=22) zc has),hJ.d6 h3]
   refine zAn ho rfl (v:=.int .i64 (n:Int)) (w':=w1) (by simp [execOp,resolve,invoke,builtin,hev,hlen]) ⟨_,zm,_,_,_,_,_,hJ.s7⟩
  | 8,_ =>
   obtain ⟨ty,ps,af,ho⟩:=o8;have h4:=zAZ e87 hdep
   have hev:(zAi ops vals (zAG ops.size done) a0).eval (.tmp 20) = .int .i64 (n:Int):=by
    obtain ⟨ty',ps',af',ho'⟩:=o7;rw [zAp hAp (a:=a0) (j:=7) (d:=20) za zo h4 (Nat.lt_of_le_of_lt (m:=22) zc has),hJ.d7 h4]
   refine zAn ho rfl (v:=slAt w1.heap.size n) (w':=w1.alloc (.cells (Array.replicate n zAm) 27)) (by simp [execOp,hev,run_make_n _ _ elInts n za za rfl]) ⟨_,zm,_,_,_,_,_,hJ.s8 hd⟩
  | 9,_ =>
   obtain ⟨ty,ps,af,ho⟩:=o9;have q0:=zAZ e90 hdep;have q1:=zAZ e91 hdep;have q2:=zAZ e92 hdep;have q5:=zAZ e95 hdep;have q8:=zAZ e98 hdep
   have ev0:(zAi ops vals (zAG ops.size done) a0).eval (.tmp 13) = .slice A n c:=by
    obtain ⟨ty',ps',af',ho'⟩:=o0;rw [zAp hAp (a:=a0) (j:=0) (d:=13) za zo q0 (Nat.lt_of_le_of_lt (m:=22) zc has),hJ.d0 q0]
   have ev1:(zAi ops vals (zAG ops.size done) a0).eval (.tmp 14) = .map (some r1):=by
    obtain ⟨ty',ps',af',ho'⟩:=o1;rw [zAp hAp (a:=a0) (j:=1) (d:=14) za zo q1 (Nat.lt_of_le_of_lt (m:=22) zc has),(hJ.d1 q1).1]
   have ev2:(zAi ops vals (zAG ops.size done) a0).eval (.tmp 15) = .map (some r2):=by
    obtain ⟨ty',ps',af',ho'⟩:=o2;rw [zAp hAp (a:=a0) (j:=2) (d:=15) za zo q2 (Nat.lt_of_le_of_lt (m:=22) zc has),(hJ.d2 q2).1]
   have ev5:(zAi ops vals (zAG ops.size done) a0).eval (.tmp 18)=slAt g1 n:=by
    obtain ⟨ty',ps',af',ho'⟩:=o5;rw [zAp hAp (a:=a0) (j:=5) (d:=18) za zo q5 (Nat.lt_of_le_of_lt (m:=22) zc has),(hJ.d5 q5).1]
   have ev8:(zAi ops vals (zAG ops.size done) a0).eval (.tmp 21)=slAt g2 n:=by
    obtain ⟨ty',ps',af',ho'⟩:=o8;rw [zAp hAp (a:=a0) (j:=8) (d:=21) za zo q8 (Nat.lt_of_le_of_lt (m:=22) zc has),(hJ.d8 q8).1]
   have hbuild:(Instr.build 108 #[(0,.slice A n c),(1,.map (some r1)),(3,.map (some r2)),(4,slAt g1 n),(5,slAt g2 n)]).run Tryz.prog w1 = .ok (.agg (boxOf (.slice A n c) zAm r1 r2 g1 g2 n)) w1:=zb;refine zAn ho rfl (v:=.agg (boxOf (.slice A n c) zAm r1 r2 g1 g2 n)) (w':=w1) (by simp [execOp,ev0,ev1,ev2,ev5,ev8,hbuild]) ⟨_,zm,_,_,_,_,_,hJ.s9 q1 q2 q5 q8⟩
  | 10,_ =>
   obtain ⟨ty,ps,af,ho⟩:=o10;have halloc:(Instr.alloc 108 true (.tuple #[])).run Tryz.prog w1 = .ok (.pointer (some ⟨w1.heap.size,0,none⟩)) (w1.alloc (.cells #[zAm,.map none,zAm,.map none,zAm,zAm] 108)):=zb;refine zAn ho rfl (v:=.pointer (some ⟨w1.heap.size,0,none⟩)) (w':=w1.alloc (.cells #[zAm,.map none,zAm,.map none,zAm,zAm] 108)) (by simp [execOp,halloc]) ⟨_,zm,_,_,_,_,_,hJ.s10 hd _ rfl⟩
  | 11,_ =>
   obtain ⟨ty,ps,af,ho⟩:=o11;have q9:=zAZ e119 hdep;have q10:=zAZ e1110 hdep
   have ev9:(zAi ops vals (zAG ops.size done) a0).eval (.tmp 22) = .agg (boxOf (.slice A n c) zAm r1 r2 g1 g2 n):=by
    obtain ⟨ty',ps',af',ho'⟩:=o9;rw [zAp hAp (a:=a0) (j:=9) (d:=22) za zo q9 (Nat.lt_of_le_of_lt (m:=22) zc has),hJ.d9 q9]
   have ev10:(zAi ops vals (zAG ops.size done) a0).eval (.tmp 3) = .pointer (some ⟨s,0,none⟩):=by
    obtain ⟨ty',ps',af',ho'⟩:=o10;rw [zAp hAp (a:=a0) (j:=10) (d:=3) za zo q10 (Nat.lt_of_le_of_lt (m:=22) zc has),(hJ.d10 q10).1]
   obtain ⟨_,⟨cs,hcs,hs⟩,_⟩:=hJ.d10 q10;have hst:=run_store6 hcs hs (boxOf (.slice A n c) zAm r1 r2 g1 g2 n) rfl (by simp [boxOf,Value.oneCell'])
   refine wpOp_skip ho rfl (w':=w1.setRow s (boxOf (.slice A n c) zAm r1 r2 g1 g2 n)) (by simp [execOp,ev9,ev10,hst]) ⟨undef,zm,_,_,_,_,_,hJ.s11 q9 q10 undef⟩
 ·intro done vals w' hall ⟨r1,r2,g1,g2,s,hJ⟩
  rw [hsz] at hall ⊢;have d1:=hJ.d1 (hall 1 za);have d2:=hJ.d2 (hall 2 za);have d5:=hJ.d5 (hall 5 za);have d8:=hJ.d8 (hall 8 za);have d10:=hJ.d10 (hall 10 za)
  exact hK r1 r2 g1 g2 s vals w' ⟨hJ.d11 (hall 11 za),d1.2.1,d2.2.1,d5.2.1,d8.2.1,hJ.d12 (hall 1 za) (hall 2 za),d1.2.2,d2.2.2,d5.2.2,d8.2.2,d10.2.2,hJ.below⟩
   (hJ.d0 (hall 0 za)) d1.1 d2.1 (hJ.d3 (hall 3 za)) (hJ.d4 (hall 4 za)) d5.1 (hJ.d6 (hall 6 za)) (hJ.d7 (hall 7 za)) d8.1 (hJ.d9 (hall 9 za)) d10.1
end Go.Proofs.YtieoifkdobcpiaaGreatDoor
