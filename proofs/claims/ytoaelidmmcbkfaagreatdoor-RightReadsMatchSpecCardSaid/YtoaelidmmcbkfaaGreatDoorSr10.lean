/- Parts of the proof, joined: Package right (places): the memory of newWorld, and its first statemen. -/
import Derived.Test.YtoaelidmmcbkfaaGreatDoorSr09
set_option maxRecDepth 100000
set_option maxHeartbeats 8000000
namespace Go.Proofs.YtoaelidmmcbkfaaGreatDoor
open Go.RowKit Dw
theorem zAs {P:Program} {ops:Array Oper} {Q:Exit→Act→World→Prop} {i:Nat} {o:Oper} {K:Act→World→Prop} {a:Act} {w w':World} {v:Value} (ho:ops[i]?=some o) (hg:o.guard=none)
  (hr:(execOp a.eval o).run P w = .ok (.value v) w') (h:K (a.put o.dst v) w'):wpOp P ops Q i K a w:=by
 unfold wpOp;simp only [ho];rw [aE (by simp [Region.wanted,hg])]
 left
 unfold Oper.wp;rw [hr];exact h
theorem wpOp_skip {P:Program} {ops:Array Oper} {Q:Exit→Act→World→Prop} {i:Nat} {o:Oper} {K:Act→World→Prop} {a:Act} {w w':World} (ho:ops[i]?=some o) (hg:o.guard=none)
  (hr:(execOp a.eval o).run P w = .ok .skip w') (h:K (a.put o.dst undef) w'):wpOp P ops Q i K a w:=by
 unfold wpOp;simp only [ho];rw [aE (by simp [Region.wanted,hg])]
 left
 unfold Oper.wp;rw [hr];exact h
def notDst (ops:Array Oper) (t:Tmp):Bool:=(List.range ops.size).all fun i=>(ops[i]?).bind (·.dst) != some t
theorem eval_kept {ops:Array Oper} {vals:Nat→Value} {t:Tmp} {done:Nat→Bool} {a:Act} (h:notDst ops t=true):(zAt ops vals (zAS ops.size done) a).eval (.tmp t)=a.eval (.tmp t):=by
 refine zCL fun i hi d hd e=>?_
 injection e with e
 subst e;have:=List.all_eq_true.1 h i (List.mem_range.2 (mem_doneL.1 hi).1);rw [hd] at this;simp at this
theorem zAz {ops:Array Oper} (hap:Apart ops) {vals:Nat→Value} {done:Nat→Bool} {a:Act} {j:Nat} {d:Tmp} (hj:j<ops.size) (hd:(ops[j]?).bind (·.dst)=some d) (hdone:done j=true) (hs:d<a.tmps.size) :
  (zAt ops vals (zAS ops.size done) a).eval (.tmp d)=vals j :=
 eval_putAll_done hap hj hd (mem_doneL.2 ⟨hj,hdone⟩) (List.nodup_range.filter _) (fun _ hi=>(mem_doneL.1 hi).1) hs
theorem run_make_n {P:Program} (t e:TypeId) {z:Value} {bytes:Nat} (hT:ElemT P t e z 1 bytes) (n:Nat) (hb:bytes*n≤281474976710656) (h63:n≤9223372036854775807) (hz:z.cells=#[z]) (w:World) :
  (Instr.makeSlice t (.int .i64 (n:Int)) (.int .i64 (n:Int))).run P w = .ok (.slice (some ⟨w.heap.size,0,none⟩) n n) (w.alloc (.cells (Array.replicate n z) e)):=by
 obtain ⟨i,hi,hz0,hz1,hz2⟩:=info_parts hT.info
 have hb':(i.bytes:Int)*(n:Int)≤281474976710656:=by
  rw [hz2];have h:((bytes*n:Nat):Int)≤281474976710656:=za
  rwa [cJ] at h
 have hr:=run_make (P:=P) w t e i z hT.ty hi hz0 .i64 .i64 n n za za hb' za;simp only [Int.toNat_natCast] at hr;rw [hz1,hz,bP] at hr
 have e1:madeCells #[z] n=Array.replicate n z:=by
  apply Array.toList_inj.1
  rw [toList_madeCells_one,Array.toList_replicate]
 rw [e1] at hr;exact hr
theorem elInt:ElemT Tryz.prog 94 3 (.int .i64 0) 1 8:=⟨Tryz.underlying94,zb,rfl,zc⟩
theorem elInts:ElemT Tryz.prog 95 94 (.slice none 0 0) 1 24:=⟨Tryz.underlying95,zb,rfl,zc⟩
theorem elBool:ElemT Tryz.prog 116 4 (.bool false) 1 1:=⟨Tryz.underlying116,zb,rfl,zc⟩
theorem elSet:ElemT Tryz.prog 117 4 (.bool false) 1 1:=⟨Tryz.underlying117,zb,rfl,zc⟩
structure NW (w0 w:World) (B:Nat) (SL lv:Value) (r1 r2 g1 g2 s n:Nat) (f1 f2:BA→Option Value) (up bl:Array Value):Prop where
 box:w.heap[s]?=some (.cells #[SL,.map (some r1),lv,.map (some r2),.slice (some ⟨g1,0,none⟩) n n,.slice (some ⟨g2,0,none⟩) n n] 97 (0,0))
 m1:zAO Value.string w r1 f1
 m2:zAO Value.string w r2 f2
 up:w.heap[g1]?=some (.cells up 3 (0,0))
 bl:w.heap[g2]?=some (.cells bl 94 (0,0))
 ne:r1≠r2
 b1:B≤r1
 b2:B≤r2
 b3:B≤g1
 b4:B≤g2
 b5:B≤s
 below:Below B w0 w
def depB (ops:Array Oper) (i j:Nat):Bool:=((ops[i]?).map fun o=>o.after.any fun e=>Region.binds .any e&&e.on == j).getD false
theorem zBv {ops:Array Oper} {i j:Nat} {done:Nat→Bool} (h:depB ops i j=true) (hd:∀ o,ops[i]?=some o→∀ e∈o.after,Region.binds .any e=true→done e.on=true):done j=true:=by
 unfold depB at h
 cases ho:ops[i]? with
 | none=>rw [ho] at h;simp at h
 | some o =>
  rw [ho] at h;simp only [dT,aM] at h;obtain ⟨e,he,hb⟩:=Array.any_eq_true'.1 h;rw [dA] at hb;have:=hd o ho e he hb.1;rw [show e.on=j from by simpa using hb.2] at this
  exact this
abbrev zAv:Value:=.slice none 0 0
abbrev slAt (g n:Nat):Value:=.slice (some ⟨g,0,none⟩) n n
def boxOf (SL:Value) (lv:Value) (r1 r2 g1 g2 n:Nat):Array Value:=#[SL,.map (some r1),lv,.map (some r2),slAt g1 n,slAt g2 n]
structure J1 (w0:World) (B:Nat) (SL:Value) (n:Nat) (r1 r2 g1 g2 s:Nat) (done:Nat→Bool) (vals:Nat→Value) (w:World):Prop where
 d0:done 0=true→vals 0=SL
 d1:done 1=true→vals 1 = .map (some r1)∧zAO Value.string w r1 (fun _=>none)∧B≤r1
 d2:done 2=true→vals 2 = .map (some r2)∧zAO Value.string w r2 (fun _=>none)∧B≤r2
 d12:done 1=true→done 2=true→r1≠r2
 d3:done 3=true→vals 3=SL
 d4:done 4=true→vals 4 = .int .i64 (n:Int)
 d5:done 5=true→vals 5=slAt g1 n∧w.heap[g1]?=some (.cells (Array.replicate n (.int .i64 0)) 3 (0,0))∧B≤g1
 d6:done 6=true→vals 6=SL
 d7:done 7=true→vals 7 = .int .i64 (n:Int)
 d8:done 8=true→vals 8=slAt g2 n∧w.heap[g2]?=some (.cells (Array.replicate n zAv) 94 (0,0))∧B≤g2
 d9:done 9=true→vals 9 = .agg (boxOf SL zAv r1 r2 g1 g2 n)
 d9':done 9=true→done 1=true∧done 2=true∧done 5=true∧done 8=true
 d10:done 10=true→vals 10 = .pointer (some ⟨s,0,none⟩)∧(∃ cs:Array Value,cs.size=6∧w.heap[s]?=some (.cells cs 97 (0,0)))∧B≤s
 d11:done 11=true→w.heap[s]?=some (.cells (boxOf SL zAv r1 r2 g1 g2 n) 97 (0,0))
 d11':done 11=true→done 9=true∧done 10=true
 below:Below B w0 w
 size:B≤w.heap.size
section
variable {w0 w:World} {B n r1 r2 g1 g2 s:Nat} {SL:Value} {done:Nat→Bool} {vals:Nat→Value}
theorem zBz {w:World} {o:Obj} {g:Nat} {x:Obj} (h:w.heap[g]?=some x):(w.alloc o).heap[g]?=some x:=by
 rw [dF w o g (Array.getElem?_eq_some_iff.1 h).1];exact h
theorem J1.alloc (h:J1 w0 B SL n r1 r2 g1 g2 s done vals w) (o:Obj):J1 w0 B SL n r1 r2 g1 g2 s done vals (w.alloc o) where
 d0:=h.d0
 d1 hd:=⟨(h.d1 hd).1,(h.d1 hd).2.1.alloc o,(h.d1 hd).2.2⟩
 d2 hd:=⟨(h.d2 hd).1,(h.d2 hd).2.1.alloc o,(h.d2 hd).2.2⟩
 d12:=h.d12
 d3:=h.d3
 d4:=h.d4
 d5 hd:=⟨(h.d5 hd).1,zBz (h.d5 hd).2.1,(h.d5 hd).2.2⟩
 d6:=h.d6
 d7:=h.d7
 d8 hd:=⟨(h.d8 hd).1,zBz (h.d8 hd).2.1,(h.d8 hd).2.2⟩
 d9:=h.d9
 d9':=h.d9'
 d10 hd:=⟨(h.d10 hd).1,by obtain ⟨cs,h1,h2⟩:=(h.d10 hd).2.1;exact ⟨cs,h1,zBz h2⟩,(h.d10 hd).2.2⟩
 d11 hd:=zBz (h.d11 hd)
 d11':=h.d11'
 below:=h.below.alloc h.size o
 size:=by have:=h.size;simp;omega
end
theorem zAE {α:Type} (f:Nat→α) (i:Nat) (v:α):zBZ f i v i=v:=by simp [zBZ]
theorem zAa {α:Type} (f:Nat→α) {i j:Nat} (v:α) (h:j≠i):zBZ f i v j=f j:=by simp [zBZ,h]
section
variable {w0 w:World} {B n r1 r2 g1 g2 s:Nat} {SL:Value} {done:Nat→Bool} {vals:Nat→Value}
theorem J1.s0 (h:J1 w0 B SL n r1 r2 g1 g2 s done vals w):J1 w0 B SL n r1 r2 g1 g2 s (zBZ done 0 true) (zBZ vals 0 (SL)) w where
 d0 _:=zAE _ _ _
 d1 hd:=by
  rw [zAa _ _ zc] at hd;rw [zAa _ _ zc];exact h.d1 hd
 d2 hd:=by
  rw [zAa _ _ zc] at hd;rw [zAa _ _ zc];exact h.d2 hd
 d3 hd:=by
  rw [zAa _ _ zc] at hd;rw [zAa _ _ zc];exact h.d3 hd
 d4 hd:=by
  rw [zAa _ _ zc] at hd;rw [zAa _ _ zc];exact h.d4 hd
 d5 hd:=by
  rw [zAa _ _ zc] at hd;rw [zAa _ _ zc];exact h.d5 hd
 d6 hd:=by
  rw [zAa _ _ zc] at hd;rw [zAa _ _ zc];exact h.d6 hd
 d7 hd:=by
  rw [zAa _ _ zc] at hd;rw [zAa _ _ zc];exact h.d7 hd
 d8 hd:=by
  rw [zAa _ _ zc] at hd;rw [zAa _ _ zc];exact h.d8 hd
 d9 hd:=by
  rw [zAa _ _ zc] at hd;rw [zAa _ _ zc];exact h.d9 hd
 d10 hd:=by
  rw [zAa _ _ zc] at hd;rw [zAa _ _ zc];exact h.d10 hd
 d12 hd hd':=by
  rw [zAa _ _ zc] at hd hd';exact h.d12 hd hd'
 d9' hd:=by
  rw [zAa _ _ zc] at hd;rw [zAa _ _ zc,zAa _ _ zc,zAa _ _ zc,zAa _ _ zc];exact h.d9' hd
 d11 hd:=by
  rw [zAa _ _ zc] at hd;exact h.d11 hd
 d11' hd:=by
  rw [zAa _ _ zc] at hd;rw [zAa _ _ zc,zAa _ _ zc];exact h.d11' hd
 below:=h.below
 size:=h.size
theorem J1.s1 (h:J1 w0 B SL n r1 r2 g1 g2 s done vals w) (hi:done 1=false):J1 w0 B SL n w.heap.size r2 g1 g2 s (zBZ done 1 true) (zBZ vals 1 (.map (some w.heap.size))) (w.alloc (.map #[] 0)) where
 d0 hd:=by
  rw [zAa _ _ zc] at hd;rw [zAa _ _ zc];exact (h.alloc (.map #[] 0)).d0 hd
 d1 _:=⟨zAE _ _ _,zAO.new _ _,h.size⟩
 d2 hd:=by
  rw [zAa _ _ zc] at hd;rw [zAa _ _ zc];exact (h.alloc (.map #[] 0)).d2 hd
 d3 hd:=by
  rw [zAa _ _ zc] at hd;rw [zAa _ _ zc];exact (h.alloc (.map #[] 0)).d3 hd
 d4 hd:=by
  rw [zAa _ _ zc] at hd;rw [zAa _ _ zc];exact (h.alloc (.map #[] 0)).d4 hd
 d5 hd:=by
  rw [zAa _ _ zc] at hd;rw [zAa _ _ zc];exact (h.alloc (.map #[] 0)).d5 hd
 d6 hd:=by
  rw [zAa _ _ zc] at hd;rw [zAa _ _ zc];exact (h.alloc (.map #[] 0)).d6 hd
 d7 hd:=by
  rw [zAa _ _ zc] at hd;rw [zAa _ _ zc];exact (h.alloc (.map #[] 0)).d7 hd
 d8 hd:=by
  rw [zAa _ _ zc] at hd;rw [zAa _ _ zc];exact (h.alloc (.map #[] 0)).d8 hd
 d9 hd:=by
  rw [zAa _ _ zc] at hd;have:=(h.d9' hd).1;rw [hi] at this;cases this
 d10 hd:=by
  rw [zAa _ _ zc] at hd;rw [zAa _ _ zc];exact (h.alloc (.map #[] 0)).d10 hd
 d12 _ hd:=by
  rw [zAa _ _ zc] at hd;have:=(h.d2 hd).2.1.lt;omega
 d9' hd:=by
  rw [zAa _ _ zc] at hd;have:=(h.d9' hd).1;rw [hi] at this;cases this
 d11 hd:=by
  rw [zAa _ _ zc] at hd;have:=(h.d9' (h.d11' hd).1).1;rw [hi] at this;cases this
 d11' hd:=by
  rw [zAa _ _ zc] at hd;rw [zAa _ _ zc,zAa _ _ zc];exact h.d11' hd
 below:=(h.alloc (.map #[] 0)).below
 size:=(h.alloc (.map #[] 0)).size
theorem J1.s2 (h:J1 w0 B SL n r1 r2 g1 g2 s done vals w) (hi:done 2=false):J1 w0 B SL n r1 w.heap.size g1 g2 s (zBZ done 2 true) (zBZ vals 2 (.map (some w.heap.size))) (w.alloc (.map #[] 0)) where
 d0 hd:=by
  rw [zAa _ _ zc] at hd;rw [zAa _ _ zc];exact (h.alloc (.map #[] 0)).d0 hd
 d1 hd:=by
  rw [zAa _ _ zc] at hd;rw [zAa _ _ zc];exact (h.alloc (.map #[] 0)).d1 hd
 d2 _:=⟨zAE _ _ _,zAO.new _ _,h.size⟩
 d3 hd:=by
  rw [zAa _ _ zc] at hd;rw [zAa _ _ zc];exact (h.alloc (.map #[] 0)).d3 hd
 d4 hd:=by
  rw [zAa _ _ zc] at hd;rw [zAa _ _ zc];exact (h.alloc (.map #[] 0)).d4 hd
 d5 hd:=by
  rw [zAa _ _ zc] at hd;rw [zAa _ _ zc];exact (h.alloc (.map #[] 0)).d5 hd
 d6 hd:=by
  rw [zAa _ _ zc] at hd;rw [zAa _ _ zc];exact (h.alloc (.map #[] 0)).d6 hd
 d7 hd:=by
  rw [zAa _ _ zc] at hd;rw [zAa _ _ zc];exact (h.alloc (.map #[] 0)).d7 hd
 d8 hd:=by
  rw [zAa _ _ zc] at hd;rw [zAa _ _ zc];exact (h.alloc (.map #[] 0)).d8 hd
 d9 hd:=by
  rw [zAa _ _ zc] at hd;have:=(h.d9' hd).2.1;rw [hi] at this;cases this
 d10 hd:=by
  rw [zAa _ _ zc] at hd;rw [zAa _ _ zc];exact (h.alloc (.map #[] 0)).d10 hd
 d12 hd _:=by
  rw [zAa _ _ zc] at hd;have:=(h.d1 hd).2.1.lt;omega
 d9' hd:=by
  rw [zAa _ _ zc] at hd;have:=(h.d9' hd).2.1;rw [hi] at this;cases this
 d11 hd:=by
  rw [zAa _ _ zc] at hd;have:=(h.d9' (h.d11' hd).1).2.1;rw [hi] at this;cases this
 d11' hd:=by
  rw [zAa _ _ zc] at hd;rw [zAa _ _ zc,zAa _ _ zc];exact h.d11' hd
 below:=(h.alloc (.map #[] 0)).below
 size:=(h.alloc (.map #[] 0)).size
theorem J1.s3 (h:J1 w0 B SL n r1 r2 g1 g2 s done vals w):J1 w0 B SL n r1 r2 g1 g2 s (zBZ done 3 true) (zBZ vals 3 (SL)) w where
 d0 hd:=by
  rw [zAa _ _ zc] at hd;rw [zAa _ _ zc];exact h.d0 hd
 d1 hd:=by
  rw [zAa _ _ zc] at hd;rw [zAa _ _ zc];exact h.d1 hd
 d2 hd:=by
  rw [zAa _ _ zc] at hd;rw [zAa _ _ zc];exact h.d2 hd
 d3 _:=zAE _ _ _
 d4 hd:=by
  rw [zAa _ _ zc] at hd;rw [zAa _ _ zc];exact h.d4 hd
 d5 hd:=by
  rw [zAa _ _ zc] at hd;rw [zAa _ _ zc];exact h.d5 hd
 d6 hd:=by
  rw [zAa _ _ zc] at hd;rw [zAa _ _ zc];exact h.d6 hd
 d7 hd:=by
  rw [zAa _ _ zc] at hd;rw [zAa _ _ zc];exact h.d7 hd
 d8 hd:=by
  rw [zAa _ _ zc] at hd;rw [zAa _ _ zc];exact h.d8 hd
 d9 hd:=by
  rw [zAa _ _ zc] at hd;rw [zAa _ _ zc];exact h.d9 hd
 d10 hd:=by
  rw [zAa _ _ zc] at hd;rw [zAa _ _ zc];exact h.d10 hd
 d12 hd hd':=by
  rw [zAa _ _ zc] at hd hd';exact h.d12 hd hd'
 d9' hd:=by
  rw [zAa _ _ zc] at hd;rw [zAa _ _ zc,zAa _ _ zc,zAa _ _ zc,zAa _ _ zc];exact h.d9' hd
 d11 hd:=by
  rw [zAa _ _ zc] at hd;exact h.d11 hd
 d11' hd:=by
  rw [zAa _ _ zc] at hd;rw [zAa _ _ zc,zAa _ _ zc];exact h.d11' hd
 below:=h.below
 size:=h.size
theorem J1.s4 (h:J1 w0 B SL n r1 r2 g1 g2 s done vals w):J1 w0 B SL n r1 r2 g1 g2 s (zBZ done 4 true) (zBZ vals 4 (.int .i64 (n:Int))) w where
 d0 hd:=by
  rw [zAa _ _ zc] at hd;rw [zAa _ _ zc];exact h.d0 hd
 d1 hd:=by
  rw [zAa _ _ zc] at hd;rw [zAa _ _ zc];exact h.d1 hd
 d2 hd:=by
  rw [zAa _ _ zc] at hd;rw [zAa _ _ zc];exact h.d2 hd
 d3 hd:=by
  rw [zAa _ _ zc] at hd;rw [zAa _ _ zc];exact h.d3 hd
 d4 _:=zAE _ _ _
 d5 hd:=by
  rw [zAa _ _ zc] at hd;rw [zAa _ _ zc];exact h.d5 hd
 d6 hd:=by
  rw [zAa _ _ zc] at hd;rw [zAa _ _ zc];exact h.d6 hd
 d7 hd:=by
  rw [zAa _ _ zc] at hd;rw [zAa _ _ zc];exact h.d7 hd
 d8 hd:=by
  rw [zAa _ _ zc] at hd;rw [zAa _ _ zc];exact h.d8 hd
 d9 hd:=by
  rw [zAa _ _ zc] at hd;rw [zAa _ _ zc];exact h.d9 hd
 d10 hd:=by
  rw [zAa _ _ zc] at hd;rw [zAa _ _ zc];exact h.d10 hd
 d12 hd hd':=by
  rw [zAa _ _ zc] at hd hd';exact h.d12 hd hd'
 d9' hd:=by
  rw [zAa _ _ zc] at hd;rw [zAa _ _ zc,zAa _ _ zc,zAa _ _ zc,zAa _ _ zc];exact h.d9' hd
 d11 hd:=by
  rw [zAa _ _ zc] at hd;exact h.d11 hd
 d11' hd:=by
  rw [zAa _ _ zc] at hd;rw [zAa _ _ zc,zAa _ _ zc];exact h.d11' hd
 below:=h.below
 size:=h.size
theorem J1.s5 (h:J1 w0 B SL n r1 r2 g1 g2 s done vals w) (hi:done 5=false):J1 w0 B SL n r1 r2 w.heap.size g2 s (zBZ done 5 true) (zBZ vals 5 (slAt w.heap.size n)) (w.alloc (.cells (Array.replicate n (.int .i64 0)) 3)) where
 d0 hd:=by
  rw [zAa _ _ zc] at hd;rw [zAa _ _ zc];exact (h.alloc (.cells (Array.replicate n (.int .i64 0)) 3)).d0 hd
 d1 hd:=by
  rw [zAa _ _ zc] at hd;rw [zAa _ _ zc];exact (h.alloc (.cells (Array.replicate n (.int .i64 0)) 3)).d1 hd
 d2 hd:=by
  rw [zAa _ _ zc] at hd;rw [zAa _ _ zc];exact (h.alloc (.cells (Array.replicate n (.int .i64 0)) 3)).d2 hd
 d3 hd:=by
  rw [zAa _ _ zc] at hd;rw [zAa _ _ zc];exact (h.alloc (.cells (Array.replicate n (.int .i64 0)) 3)).d3 hd
 d4 hd:=by
  rw [zAa _ _ zc] at hd;rw [zAa _ _ zc];exact (h.alloc (.cells (Array.replicate n (.int .i64 0)) 3)).d4 hd
 d5 _:=⟨zAE _ _ _,cI _ _,h.size⟩
 d6 hd:=by
  rw [zAa _ _ zc] at hd;rw [zAa _ _ zc];exact (h.alloc (.cells (Array.replicate n (.int .i64 0)) 3)).d6 hd
 d7 hd:=by
  rw [zAa _ _ zc] at hd;rw [zAa _ _ zc];exact (h.alloc (.cells (Array.replicate n (.int .i64 0)) 3)).d7 hd
 d8 hd:=by
  rw [zAa _ _ zc] at hd;rw [zAa _ _ zc];exact (h.alloc (.cells (Array.replicate n (.int .i64 0)) 3)).d8 hd
 d9 hd:=by
  rw [zAa _ _ zc] at hd;have:=(h.d9' hd).2.2.1;rw [hi] at this;cases this
 d10 hd:=by
  rw [zAa _ _ zc] at hd;rw [zAa _ _ zc];exact (h.alloc (.cells (Array.replicate n (.int .i64 0)) 3)).d10 hd
 d12 hd hd':=by
  rw [zAa _ _ zc] at hd hd';exact h.d12 hd hd'
 d9' hd:=by
  rw [zAa _ _ zc] at hd;have:=(h.d9' hd).2.2.1;rw [hi] at this;cases this
 d11 hd:=by
  rw [zAa _ _ zc] at hd;have:=(h.d9' (h.d11' hd).1).2.2.1;rw [hi] at this;cases this
 d11' hd:=by
  rw [zAa _ _ zc] at hd;rw [zAa _ _ zc,zAa _ _ zc];exact h.d11' hd
 below:=(h.alloc (.cells (Array.replicate n (.int .i64 0)) 3)).below
 size:=(h.alloc (.cells (Array.replicate n (.int .i64 0)) 3)).size
theorem J1.s6 (h:J1 w0 B SL n r1 r2 g1 g2 s done vals w):J1 w0 B SL n r1 r2 g1 g2 s (zBZ done 6 true) (zBZ vals 6 (SL)) w where
 d0 hd:=by
  rw [zAa _ _ zc] at hd;rw [zAa _ _ zc];exact h.d0 hd
 d1 hd:=by
  rw [zAa _ _ zc] at hd;rw [zAa _ _ zc];exact h.d1 hd
 d2 hd:=by
  rw [zAa _ _ zc] at hd;rw [zAa _ _ zc];exact h.d2 hd
 d3 hd:=by
  rw [zAa _ _ zc] at hd;rw [zAa _ _ zc];exact h.d3 hd
 d4 hd:=by
  rw [zAa _ _ zc] at hd;rw [zAa _ _ zc];exact h.d4 hd
 d5 hd:=by
  rw [zAa _ _ zc] at hd;rw [zAa _ _ zc];exact h.d5 hd
 d6 _:=zAE _ _ _
 d7 hd:=by
  rw [zAa _ _ zc] at hd;rw [zAa _ _ zc];exact h.d7 hd
 d8 hd:=by
  rw [zAa _ _ zc] at hd;rw [zAa _ _ zc];exact h.d8 hd
 d9 hd:=by
  rw [zAa _ _ zc] at hd;rw [zAa _ _ zc];exact h.d9 hd
 d10 hd:=by
  rw [zAa _ _ zc] at hd;rw [zAa _ _ zc];exact h.d10 hd
 d12 hd hd':=by
  rw [zAa _ _ zc] at hd hd';exact h.d12 hd hd'
 d9' hd:=by
  rw [zAa _ _ zc] at hd;rw [zAa _ _ zc,zAa _ _ zc,zAa _ _ zc,zAa _ _ zc];exact h.d9' hd
 d11 hd:=by
  rw [zAa _ _ zc] at hd;exact h.d11 hd
 d11' hd:=by
  rw [zAa _ _ zc] at hd;rw [zAa _ _ zc,zAa _ _ zc];exact h.d11' hd
 below:=h.below
 size:=h.size
theorem J1.s7 (h:J1 w0 B SL n r1 r2 g1 g2 s done vals w):J1 w0 B SL n r1 r2 g1 g2 s (zBZ done 7 true) (zBZ vals 7 (.int .i64 (n:Int))) w where
 d0 hd:=by
  rw [zAa _ _ zc] at hd;rw [zAa _ _ zc];exact h.d0 hd
 d1 hd:=by
  rw [zAa _ _ zc] at hd;rw [zAa _ _ zc];exact h.d1 hd
 d2 hd:=by
  rw [zAa _ _ zc] at hd;rw [zAa _ _ zc];exact h.d2 hd
 d3 hd:=by
  rw [zAa _ _ zc] at hd;rw [zAa _ _ zc];exact h.d3 hd
 d4 hd:=by
  rw [zAa _ _ zc] at hd;rw [zAa _ _ zc];exact h.d4 hd
 d5 hd:=by
  rw [zAa _ _ zc] at hd;rw [zAa _ _ zc];exact h.d5 hd
 d6 hd:=by
  rw [zAa _ _ zc] at hd;rw [zAa _ _ zc];exact h.d6 hd
 d7 _:=zAE _ _ _
 d8 hd:=by
  rw [zAa _ _ zc] at hd;rw [zAa _ _ zc];exact h.d8 hd
 d9 hd:=by
  rw [zAa _ _ zc] at hd;rw [zAa _ _ zc];exact h.d9 hd
 d10 hd:=by
  rw [zAa _ _ zc] at hd;rw [zAa _ _ zc];exact h.d10 hd
 d12 hd hd':=by
  rw [zAa _ _ zc] at hd hd';exact h.d12 hd hd'
 d9' hd:=by
  rw [zAa _ _ zc] at hd;rw [zAa _ _ zc,zAa _ _ zc,zAa _ _ zc,zAa _ _ zc];exact h.d9' hd
 d11 hd:=by
  rw [zAa _ _ zc] at hd;exact h.d11 hd
 d11' hd:=by
  rw [zAa _ _ zc] at hd;rw [zAa _ _ zc,zAa _ _ zc];exact h.d11' hd
 below:=h.below
 size:=h.size
theorem J1.s8 (h:J1 w0 B SL n r1 r2 g1 g2 s done vals w) (hi:done 8=false):J1 w0 B SL n r1 r2 g1 w.heap.size s (zBZ done 8 true) (zBZ vals 8 (slAt w.heap.size n)) (w.alloc (.cells (Array.replicate n zAv) 94)) where
 d0 hd:=by
  rw [zAa _ _ zc] at hd;rw [zAa _ _ zc];exact (h.alloc (.cells (Array.replicate n zAv) 94)).d0 hd
 d1 hd:=by
  rw [zAa _ _ zc] at hd;rw [zAa _ _ zc];exact (h.alloc (.cells (Array.replicate n zAv) 94)).d1 hd
 d2 hd:=by
  rw [zAa _ _ zc] at hd;rw [zAa _ _ zc];exact (h.alloc (.cells (Array.replicate n zAv) 94)).d2 hd
 d3 hd:=by
  rw [zAa _ _ zc] at hd;rw [zAa _ _ zc];exact (h.alloc (.cells (Array.replicate n zAv) 94)).d3 hd
 d4 hd:=by
  rw [zAa _ _ zc] at hd;rw [zAa _ _ zc];exact (h.alloc (.cells (Array.replicate n zAv) 94)).d4 hd
 d5 hd:=by
  rw [zAa _ _ zc] at hd;rw [zAa _ _ zc];exact (h.alloc (.cells (Array.replicate n zAv) 94)).d5 hd
 d6 hd:=by
  rw [zAa _ _ zc] at hd;rw [zAa _ _ zc];exact (h.alloc (.cells (Array.replicate n zAv) 94)).d6 hd
 d7 hd:=by
  rw [zAa _ _ zc] at hd;rw [zAa _ _ zc];exact (h.alloc (.cells (Array.replicate n zAv) 94)).d7 hd
 d8 _:=⟨zAE _ _ _,cI _ _,h.size⟩
 d9 hd:=by
  rw [zAa _ _ zc] at hd;have:=(h.d9' hd).2.2.2;rw [hi] at this;cases this
 d10 hd:=by
  rw [zAa _ _ zc] at hd;rw [zAa _ _ zc];exact (h.alloc (.cells (Array.replicate n zAv) 94)).d10 hd
 d12 hd hd':=by
  rw [zAa _ _ zc] at hd hd';exact h.d12 hd hd'
 d9' hd:=by
  rw [zAa _ _ zc] at hd;have:=(h.d9' hd).2.2.2;rw [hi] at this;cases this
 d11 hd:=by
  rw [zAa _ _ zc] at hd;have:=(h.d9' (h.d11' hd).1).2.2.2;rw [hi] at this;cases this
 d11' hd:=by
  rw [zAa _ _ zc] at hd;rw [zAa _ _ zc,zAa _ _ zc];exact h.d11' hd
 below:=(h.alloc (.cells (Array.replicate n zAv) 94)).below
 size:=(h.alloc (.cells (Array.replicate n zAv) 94)).size
theorem J1.s9 (h:J1 w0 B SL n r1 r2 g1 g2 s done vals w) (h1:done 1=true) (h2:done 2=true) (h5:done 5=true) (h8:done 8=true):J1 w0 B SL n r1 r2 g1 g2 s (zBZ done 9 true) (zBZ vals 9 (.agg (boxOf SL zAv r1 r2 g1 g2 n))) w where
 d0 hd:=by
  rw [zAa _ _ zc] at hd;rw [zAa _ _ zc];exact h.d0 hd
 d1 hd:=by
  rw [zAa _ _ zc] at hd;rw [zAa _ _ zc];exact h.d1 hd
 d2 hd:=by
  rw [zAa _ _ zc] at hd;rw [zAa _ _ zc];exact h.d2 hd
 d3 hd:=by
  rw [zAa _ _ zc] at hd;rw [zAa _ _ zc];exact h.d3 hd
 d4 hd:=by
  rw [zAa _ _ zc] at hd;rw [zAa _ _ zc];exact h.d4 hd
 d5 hd:=by
  rw [zAa _ _ zc] at hd;rw [zAa _ _ zc];exact h.d5 hd
 d6 hd:=by
  rw [zAa _ _ zc] at hd;rw [zAa _ _ zc];exact h.d6 hd
 d7 hd:=by
  rw [zAa _ _ zc] at hd;rw [zAa _ _ zc];exact h.d7 hd
 d8 hd:=by
  rw [zAa _ _ zc] at hd;rw [zAa _ _ zc];exact h.d8 hd
 d9 _:=zAE _ _ _
 d10 hd:=by
  rw [zAa _ _ zc] at hd;rw [zAa _ _ zc];exact h.d10 hd
 d12 hd hd':=by
  rw [zAa _ _ zc] at hd hd';exact h.d12 hd hd'
 d9' _:=by
  rw [zAa _ _ zc,zAa _ _ zc,zAa _ _ zc,zAa _ _ zc];exact ⟨h1,h2,h5,h8⟩
 d11 hd:=by
  rw [zAa _ _ zc] at hd;exact h.d11 hd
 d11' hd:=by
  rw [zAa _ _ zc] at hd;rw [zAa _ _ (show (10:Nat)≠9 by decide)]
  exact ⟨zAE _ _ _,(h.d11' hd).2⟩
 below:=h.below
 size:=h.size
theorem J1.s10 (h:J1 w0 B SL n r1 r2 g1 g2 s done vals w) (hi:done 10=false) (cs:Array Value) (hcs:cs.size=6):J1 w0 B SL n r1 r2 g1 g2 w.heap.size (zBZ done 10 true) (zBZ vals 10 (.pointer (some ⟨w.heap.size,0,none⟩))) (w.alloc (.cells cs 97)) where
 d0 hd:=by
  rw [zAa _ _ zc] at hd;rw [zAa _ _ zc];exact (h.alloc (.cells cs 97)).d0 hd
 d1 hd:=by
  rw [zAa _ _ zc] at hd;rw [zAa _ _ zc];exact (h.alloc (.cells cs 97)).d1 hd
 d2 hd:=by
  rw [zAa _ _ zc] at hd;rw [zAa _ _ zc];exact (h.alloc (.cells cs 97)).d2 hd
 d3 hd:=by
  rw [zAa _ _ zc] at hd;rw [zAa _ _ zc];exact (h.alloc (.cells cs 97)).d3 hd
 d4 hd:=by
  rw [zAa _ _ zc] at hd;rw [zAa _ _ zc];exact (h.alloc (.cells cs 97)).d4 hd
 d5 hd:=by
  rw [zAa _ _ zc] at hd;rw [zAa _ _ zc];exact (h.alloc (.cells cs 97)).d5 hd
 d6 hd:=by
  rw [zAa _ _ zc] at hd;rw [zAa _ _ zc];exact (h.alloc (.cells cs 97)).d6 hd
 d7 hd:=by
  rw [zAa _ _ zc] at hd;rw [zAa _ _ zc];exact (h.alloc (.cells cs 97)).d7 hd
 d8 hd:=by
  rw [zAa _ _ zc] at hd;rw [zAa _ _ zc];exact (h.alloc (.cells cs 97)).d8 hd
 d9 hd:=by
  rw [zAa _ _ zc] at hd;rw [zAa _ _ zc];exact (h.alloc (.cells cs 97)).d9 hd
 d10 _:=⟨zAE _ _ _,⟨cs,hcs,cI _ _⟩,h.size⟩
 d12 hd hd':=by
  rw [zAa _ _ zc] at hd hd';exact h.d12 hd hd'
 d9' hd:=by
  rw [zAa _ _ zc] at hd;rw [zAa _ _ zc,zAa _ _ zc,zAa _ _ zc,zAa _ _ zc];exact h.d9' hd
 d11 hd:=by
  rw [zAa _ _ zc] at hd;have:=(h.d11' hd).2;rw [hi] at this;cases this
 d11' hd:=by
  rw [zAa _ _ zc] at hd;rw [zAa _ _ (show (9:Nat)≠10 by decide)]
  exact ⟨(h.d11' hd).1,zAE _ _ _⟩
 below:=(h.alloc (.cells cs 97)).below
 size:=(h.alloc (.cells cs 97)).size
end
theorem boxOf_size (SL lv:Value) (r1 r2 g1 g2 n:Nat):(boxOf SL lv r1 r2 g1 g2 n).size=6:=rfl
theorem run_store6 {w:World} {s:Nat} {cs:Array Value} (hcs:cs.size=6) (hs:w.heap[s]?=some (.cells cs 97 (0,0))) (new:Array Value) (hn:new.size=6) (h1:∀ v∈new.toList,v.oneCell'=true) :
  (Instr.storeAt 97 (.pointer (some ⟨s,0,none⟩)) (.agg new)).run Tryz.prog w = .ok () (w.setRow s new):=by
 have hst:=run_storeCells_at Tryz.prog s 0 97 new.toList 0 cs w hs (by simp [hn,hcs]) h1
 have e:(cs.toList.take (0+0)++new.toList++cs.toList.drop (0+0+new.toList.length)).toArray=new:=by
  have:cs.toList.drop (0+0+new.toList.length)=[]:=aA (by simp [hn,hcs])
  rw [this];simp
 rw [e] at hst;have hsz:(sizeOf 97).run Tryz.prog w = .ok 6 w:=zb;simp [Instr.storeAt,Instr.sureAddr,storeVar,hsz,Value.cells,hn,hst]
theorem J1.s11 {w0 w:World} {B n r1 r2 g1 g2 s:Nat} {SL:Value} {done:Nat→Bool} {vals:Nat→Value} (h:J1 w0 B SL n r1 r2 g1 g2 s done vals w) (h9:done 9=true) (h10:done 10=true) (v:Value) :
  J1 w0 B SL n r1 r2 g1 g2 s (zBZ done 11 true) (zBZ vals 11 v) (w.setRow s (boxOf SL zAv r1 r2 g1 g2 n)):=by
 obtain ⟨hv,⟨cs,hcs,hs⟩,hB⟩:=h.d10 h10;have hne:∀ {k:Nat},k≠s→(w.setRow s (boxOf SL zAv r1 r2 g1 g2 n)).heap[k]?=w.heap[k]?:=fun hk=>setRow_other w s _ _ hk
 have hmap:∀ {r:Nat} {f:BA→Option Value},zAO Value.string w r f→r≠s:=fun hm e=>by
  obtain ⟨es,clk,L,hr,_⟩:=hm;rw [e,hs] at hr;cases hr
 have hcell:∀ {g:Nat} {c:Array Value} {t:TypeId},t≠97→w.heap[g]?=some (.cells c t (0,0))→g≠s:=fun ht hg e=>by
  rw [e,hs] at hg
  injection hg with hg
  injection hg with _ hg
  exact ht hg.symm
 exact {
  d0:=fun hd=>by rw [zAa _ _ zc] at hd ⊢;exact h.d0 hd
  d1:=fun hd=>by
   rw [zAa _ _ zc] at hd ⊢;obtain ⟨h1,h2,h3⟩:=h.d1 hd;exact ⟨h1,h2.keep (hne (hmap h2)),h3⟩
  d2:=fun hd=>by
   rw [zAa _ _ zc] at hd ⊢;obtain ⟨h1,h2,h3⟩:=h.d2 hd;exact ⟨h1,h2.keep (hne (hmap h2)),h3⟩
  d12:=fun hd hd'=>by rw [zAa _ _ zc] at hd hd';exact h.d12 hd hd'
  d3:=fun hd=>by rw [zAa _ _ zc] at hd ⊢;exact h.d3 hd
  d4:=fun hd=>by rw [zAa _ _ zc] at hd ⊢;exact h.d4 hd
  d5:=fun hd=>by
   rw [zAa _ _ zc] at hd ⊢;obtain ⟨h1,h2,h3⟩:=h.d5 hd;exact ⟨h1,(hne (hcell zc h2)).trans h2,h3⟩
  d6:=fun hd=>by rw [zAa _ _ zc] at hd ⊢;exact h.d6 hd
  d7:=fun hd=>by rw [zAa _ _ zc] at hd ⊢;exact h.d7 hd
  d8:=fun hd=>by
   rw [zAa _ _ zc] at hd ⊢;obtain ⟨h1,h2,h3⟩:=h.d8 hd;exact ⟨h1,(hne (hcell zc h2)).trans h2,h3⟩
  d9:=fun hd=>by rw [zAa _ _ zc] at hd ⊢;exact h.d9 hd
  d9':=fun hd=>by
   rw [zAa _ _ zc] at hd;rw [zAa _ _ zc,zAa _ _ zc,zAa _ _ zc,zAa _ _ zc];exact h.d9' hd
  d10:=fun hd=>by
   rw [zAa _ _ zc] at hd ⊢;exact ⟨(h.d10 hd).1,⟨_,boxOf_size _ _ _ _ _ _ _,setRow_heap w s cs _ _ _ hs⟩,hB⟩
  d11:=fun _=>setRow_heap w s cs _ _ _ hs
  d11':=fun _=>by
   rw [zAa _ _ zc,zAa _ _ zc];exact ⟨h9,h10⟩
  below:=⟨h.below.os,h.below.tape,h.below.output,by simpa using h.below.size,fun k hk=>(hne za).trans (h.below.block k hk)⟩
  size:=by simpa using h.size }
theorem region1 {ops:Array Oper} {Q:Exit→Act→World→Prop} {a0:Act} {w:World} {id:Nat} {A:Option Addr} {n c:Nat} (hn:n≤200) (hsz:ops.size=12) (hap:apartB ops=true) (hb:backB ops=true) (hk0:notDst ops 0=true)
  (ha0:a0.eval (.tmp 0) = .slice A n c) (has:22<a0.tmps.size)
  (o0:∃ ty ps af,ops[0]?=some ⟨some 13,.move (.tmp 0),ty,ps,af,none⟩)
  (o1:∃ ty ps af,ops[1]?=some ⟨some 14,.makeMap 93 none,ty,ps,af,none⟩)
  (o2:∃ ty ps af,ops[2]?=some ⟨some 15,.makeMap 93 none,ty,ps,af,none⟩)
  (o3:∃ ty ps af,ops[3]?=some ⟨some 16,.move (.tmp 0),ty,ps,af,none⟩)
  (o4:∃ ty ps af,ops[4]?=some ⟨some 17,.call { callee:=.builtin .len,args:=#[.tmp 16],argTypes:=#[22] },ty,ps,af,none⟩)
  (o5:∃ ty ps af,ops[5]?=some ⟨some 18,.makeSlice 94 (.tmp 17) (.tmp 17),ty,ps,af,none⟩)
  (o6:∃ ty ps af,ops[6]?=some ⟨some 19,.move (.tmp 0),ty,ps,af,none⟩)
  (o7:∃ ty ps af,ops[7]?=some ⟨some 20,.call { callee:=.builtin .len,args:=#[.tmp 19],argTypes:=#[22] },ty,ps,af,none⟩)
  (o8:∃ ty ps af,ops[8]?=some ⟨some 21,.makeSlice 95 (.tmp 20) (.tmp 20),ty,ps,af,none⟩)
  (o9:∃ ty ps af,ops[9]?=some ⟨some 22,.build 97 #[(0,.tmp 13),(1,.tmp 14),(3,.tmp 15),(4,.tmp 18),(5,.tmp 21)],ty,ps,af,none⟩)
  (o10:∃ ty ps af,ops[10]?=some ⟨some 3,.alloc 97,ty,ps,af,none⟩)
  (o11:∃ ty ps af,ops[11]?=some ⟨none,.store 97 (.tmp 3) (.tmp 22),ty,ps,af,none⟩)
  (e43:depB ops 4 3=true) (e54:depB ops 5 4=true) (e76:depB ops 7 6=true) (e87:depB ops 8 7=true)
  (e90:depB ops 9 0=true) (e91:depB ops 9 1=true) (e92:depB ops 9 2=true) (e95:depB ops 9 5=true) (e98:depB ops 9 8=true) (e119:depB ops 11 9=true) (e1110:depB ops 11 10=true)
  (hK:∀ (r1 r2 g1 g2 s:Nat) (vals:Nat→Value) (w':World),NW w w' w.heap.size (.slice A n c) zAv r1 r2 g1 g2 s n (fun _=>none) (fun _=>none) (Array.replicate n (.int .i64 0)) (Array.replicate n zAv) →
   vals 0 = .slice A n c→vals 1 = .map (some r1)→vals 2 = .map (some r2)→vals 3 = .slice A n c→vals 4 = .int .i64 (n:Int)→vals 5=slAt g1 n→vals 6 = .slice A n c→vals 7 = .int .i64 (n:Int)→vals 8=slAt g2 n →
   vals 9 = .agg (boxOf (.slice A n c) zAv r1 r2 g1 g2 n)→vals 10 = .pointer (some ⟨s,0,none⟩)→Q .normal (zAt ops vals (List.range 12) a0) w') :
  (Code.region id ops true).wp Tryz.prog Q a0 w:=by
 have hAp:=apart_of hap;refine zEu zb hAp hb (fun _=>undef) (fun done vals w'=>∃ r1 r2 g1 g2 s,J1 w w.heap.size (.slice A n c) n r1 r2 g1 g2 s done vals w') ?_ ?_ ?_
 ·exact ⟨0,0,0,0,0,zd,zd,zd,zd,zd,zd,zd,zd,zd,zd,zd,zd,zd,zd,zd,(bS _ _).drew,aB _⟩
 ·intro i done vals w1 hi ⟨r1,r2,g1,g2,s,hJ⟩ hd hdep
  rw [hsz] at hi;have hlen:∀ ty:TypeId,(Builtin.len_ #[22] ty #[.slice A n c]).run Tryz.prog w1 = .ok (.int .i64 (n:Int)) w1:=fun _=>zb
  have hev0:(zAt ops vals (zAS ops.size done) a0).eval (.tmp 0) = .slice A n c:=(eval_kept hk0).trans ha0
  match i,hi with
  | 0,_ =>
   obtain ⟨ty,ps,af,ho⟩:=o0;refine zAs ho rfl (v:=.slice A n c) (w':=w1) (by simp [execOp,hev0]) ⟨_,yj,_,_,_,_,_,hJ.s0⟩
  | 1,_ =>
   obtain ⟨ty,ps,af,ho⟩:=o1;refine zAs ho rfl (v:=.map (some w1.heap.size)) (w':=w1.alloc (.map #[] 0)) vi ⟨_,yj,_,_,_,_,_,hJ.s1 hd⟩
  | 2,_ =>
   obtain ⟨ty,ps,af,ho⟩:=o2;refine zAs ho rfl (v:=.map (some w1.heap.size)) (w':=w1.alloc (.map #[] 0)) vi ⟨_,yj,_,_,_,_,_,hJ.s2 hd⟩
  | 3,_ =>
   obtain ⟨ty,ps,af,ho⟩:=o3;refine zAs ho rfl (v:=.slice A n c) (w':=w1) (by simp [execOp,hev0]) ⟨_,yj,_,_,_,_,_,hJ.s3⟩
  | 4,_ =>
   obtain ⟨ty,ps,af,ho⟩:=o4;have h3:=zBv e43 hdep
   have hev:(zAt ops vals (zAS ops.size done) a0).eval (.tmp 16) = .slice A n c:=by
    obtain ⟨ty',ps',af',ho'⟩:=o3;rw [zAz hAp (a:=a0) (j:=3) (d:=16) za ym h3 (aW (m:=22) zc has),hJ.d3 h3]
   refine zAs ho rfl (v:=.int .i64 (n:Int)) (w':=w1) (by simp [execOp,resolve,invoke,builtin,hev,hlen]) ⟨_,yj,_,_,_,_,_,hJ.s4⟩
  | 5,_ =>
   obtain ⟨ty,ps,af,ho⟩:=o5;have h4:=zBv e54 hdep
   have hev:(zAt ops vals (zAS ops.size done) a0).eval (.tmp 17) = .int .i64 (n:Int):=by
    obtain ⟨ty',ps',af',ho'⟩:=o4;rw [zAz hAp (a:=a0) (j:=4) (d:=17) za ym h4 (aW (m:=22) zc has),hJ.d4 h4]
   refine zAs ho rfl (v:=slAt w1.heap.size n) (w':=w1.alloc (.cells (Array.replicate n (.int .i64 0)) 3)) (by simp [execOp,hev,run_make_n _ _ elInt n za za rfl]) ⟨_,yj,_,_,_,_,_,hJ.s5 hd⟩
  | 6,_ =>
   obtain ⟨ty,ps,af,ho⟩:=o6;refine zAs ho rfl (v:=.slice A n c) (w':=w1) (by simp [execOp,hev0]) ⟨_,yj,_,_,_,_,_,hJ.s6⟩
  | 7,_ =>
   obtain ⟨ty,ps,af,ho⟩:=o7;have h3:=zBv e76 hdep
   have hev:(zAt ops vals (zAS ops.size done) a0).eval (.tmp 19) = .slice A n c:=by
    obtain ⟨ty',ps',af',ho'⟩:=o6;rw [zAz hAp (a:=a0) (j:=6) (d:=19) za ym h3 (aW (m:=22) zc has),hJ.d6 h3]
   refine zAs ho rfl (v:=.int .i64 (n:Int)) (w':=w1) (by simp [execOp,resolve,invoke,builtin,hev,hlen]) ⟨_,yj,_,_,_,_,_,hJ.s7⟩
  | 8,_ =>
   obtain ⟨ty,ps,af,ho⟩:=o8;have h4:=zBv e87 hdep
   have hev:(zAt ops vals (zAS ops.size done) a0).eval (.tmp 20) = .int .i64 (n:Int):=by
    obtain ⟨ty',ps',af',ho'⟩:=o7;rw [zAz hAp (a:=a0) (j:=7) (d:=20) za ym h4 (aW (m:=22) zc has),hJ.d7 h4]
   refine zAs ho rfl (v:=slAt w1.heap.size n) (w':=w1.alloc (.cells (Array.replicate n zAv) 94)) (by simp [execOp,hev,run_make_n _ _ elInts n za za rfl]) ⟨_,yj,_,_,_,_,_,hJ.s8 hd⟩
  | 9,_ =>
   obtain ⟨ty,ps,af,ho⟩:=o9;have q0:=zBv e90 hdep;have q1:=zBv e91 hdep;have q2:=zBv e92 hdep;have q5:=zBv e95 hdep;have q8:=zBv e98 hdep
   have ev0:(zAt ops vals (zAS ops.size done) a0).eval (.tmp 13) = .slice A n c:=by
    obtain ⟨ty',ps',af',ho'⟩:=o0;rw [zAz hAp (a:=a0) (j:=0) (d:=13) za ym q0 (aW (m:=22) zc has),hJ.d0 q0]
   have ev1:(zAt ops vals (zAS ops.size done) a0).eval (.tmp 14) = .map (some r1):=by
    obtain ⟨ty',ps',af',ho'⟩:=o1;rw [zAz hAp (a:=a0) (j:=1) (d:=14) za ym q1 (aW (m:=22) zc has),(hJ.d1 q1).1]
   have ev2:(zAt ops vals (zAS ops.size done) a0).eval (.tmp 15) = .map (some r2):=by
    obtain ⟨ty',ps',af',ho'⟩:=o2;rw [zAz hAp (a:=a0) (j:=2) (d:=15) za ym q2 (aW (m:=22) zc has),(hJ.d2 q2).1]
   have ev5:(zAt ops vals (zAS ops.size done) a0).eval (.tmp 18)=slAt g1 n:=by
    obtain ⟨ty',ps',af',ho'⟩:=o5;rw [zAz hAp (a:=a0) (j:=5) (d:=18) za ym q5 (aW (m:=22) zc has),(hJ.d5 q5).1]
   have ev8:(zAt ops vals (zAS ops.size done) a0).eval (.tmp 21)=slAt g2 n:=by
    obtain ⟨ty',ps',af',ho'⟩:=o8;rw [zAz hAp (a:=a0) (j:=8) (d:=21) za ym q8 (aW (m:=22) zc has),(hJ.d8 q8).1]
   have hbuild:(Instr.build 97 #[(0,.slice A n c),(1,.map (some r1)),(3,.map (some r2)),(4,slAt g1 n),(5,slAt g2 n)]).run Tryz.prog w1 = .ok (.agg (boxOf (.slice A n c) zAv r1 r2 g1 g2 n)) w1:=zb;refine zAs ho rfl (v:=.agg (boxOf (.slice A n c) zAv r1 r2 g1 g2 n)) (w':=w1) (by simp [execOp,ev0,ev1,ev2,ev5,ev8,hbuild]) ⟨_,yj,_,_,_,_,_,hJ.s9 q1 q2 q5 q8⟩
  | 10,_ =>
   obtain ⟨ty,ps,af,ho⟩:=o10;have halloc:(Instr.alloc 97 true (.tuple #[])).run Tryz.prog w1 = .ok (.pointer (some ⟨w1.heap.size,0,none⟩)) (w1.alloc (.cells #[zAv,.map none,zAv,.map none,zAv,zAv] 97)):=zb;refine zAs ho rfl (v:=.pointer (some ⟨w1.heap.size,0,none⟩)) (w':=w1.alloc (.cells #[zAv,.map none,zAv,.map none,zAv,zAv] 97)) (by simp [execOp,halloc]) ⟨_,yj,_,_,_,_,_,hJ.s10 hd _ rfl⟩
  | 11,_ =>
   obtain ⟨ty,ps,af,ho⟩:=o11;have q9:=zBv e119 hdep;have q10:=zBv e1110 hdep
   have ev9:(zAt ops vals (zAS ops.size done) a0).eval (.tmp 22) = .agg (boxOf (.slice A n c) zAv r1 r2 g1 g2 n):=by
    obtain ⟨ty',ps',af',ho'⟩:=o9;rw [zAz hAp (a:=a0) (j:=9) (d:=22) za ym q9 (aW (m:=22) zc has),hJ.d9 q9]
   have ev10:(zAt ops vals (zAS ops.size done) a0).eval (.tmp 3) = .pointer (some ⟨s,0,none⟩):=by
    obtain ⟨ty',ps',af',ho'⟩:=o10;rw [zAz hAp (a:=a0) (j:=10) (d:=3) za ym q10 (aW (m:=22) zc has),(hJ.d10 q10).1]
   obtain ⟨_,⟨cs,hcs,hs⟩,_⟩:=hJ.d10 q10;have hst:=run_store6 hcs hs (boxOf (.slice A n c) zAv r1 r2 g1 g2 n) rfl (by simp [boxOf,Value.oneCell'])
   refine wpOp_skip ho rfl (w':=w1.setRow s (boxOf (.slice A n c) zAv r1 r2 g1 g2 n)) (by simp [execOp,ev9,ev10,hst]) ⟨undef,yj,_,_,_,_,_,hJ.s11 q9 q10 undef⟩
 ·intro done vals w' hall ⟨r1,r2,g1,g2,s,hJ⟩
  rw [hsz] at hall ⊢;have d1:=hJ.d1 (hall 1 za);have d2:=hJ.d2 (hall 2 za);have d5:=hJ.d5 (hall 5 za);have d8:=hJ.d8 (hall 8 za);have d10:=hJ.d10 (hall 10 za)
  exact hK r1 r2 g1 g2 s vals w' ⟨hJ.d11 (hall 11 za),d1.2.1,d2.2.1,d5.2.1,d8.2.1,hJ.d12 (hall 1 za) (hall 2 za),d1.2.2,d2.2.2,d5.2.2,d8.2.2,d10.2.2,hJ.below⟩
   (hJ.d0 (hall 0 za)) d1.1 d2.1 (hJ.d3 (hall 3 za)) (hJ.d4 (hall 4 za)) d5.1 (hJ.d6 (hall 6 za)) (hJ.d7 (hall 7 za)) d8.1 (hJ.d9 (hall 9 za)) d10.1
abbrev encI:Int→List Value:=fun z=>[.int .i64 z]
def zDH (l:List Rg) (k:Nat):List Nat:=(List.range k).filter fun i=>!zBc l i
theorem leafTo_par {l:List Rg} {k:Nat} (h:zBc l k=true):zDH l (k+1)=zDH l k:=by
 unfold zDH;rw [zCf];simp [h]
theorem leafTo_leaf {l:List Rg} {k:Nat} (h:zBc l k=false):zDH l (k+1)=zDH l k++[k]:=by
 unfold zDH;rw [zCf];simp [h]
theorem leafTo_le (l:List Rg) (k:Nat):(zDH l k).length≤k:=by
 unfold zDH;have:=dC (fun i=>!zBc l i) (List.range k)
 simpa using this
def lmF (l:List Rg):Nat→BA→Option Value
 | 0,_=>none
 | k+1,s=>if zBc l k then lmF l k s else if s=nmAt l k then some (.int .i64 ((zDH l k).length:Int)) else lmF l k s
def zBP (l:List Rg) (k x:Nat):List Int:=((zDH l k).zipIdx.filter fun p=>under l p.1 x).map fun p=>(p.2:Int)
theorem belowK_par {l:List Rg} {k:Nat} (h:zBc l k=true) (x:Nat):zBP l (k+1) x=zBP l k x:=by
 unfold zBP;rw [leafTo_par h]
theorem belowK_leaf {l:List Rg} {k:Nat} (h:zBc l k=false) (x:Nat):zBP l (k+1) x=zBP l k x++if under l k x then [((zDH l k).length:Int)] else []:=by
 unfold zBP;rw [leafTo_leaf h,List.zipIdx_append,List.filter_append,dV]
 congr 1
 cases hu:under l k x<;>simp [hu]
theorem belowK_le (l:List Rg) (k x:Nat):(zBP l k x).length≤k:=by
 unfold zBP;rw [aK];refine cV (dC _ _) ?_
 rw [List.length_zipIdx];exact leafTo_le l k
theorem underF_upN {l:List Rg}:∀ {f i k:Nat},zCG l f i k=true→∃ d,upN l d i=some k
 | 0,_,_,h=>by simp [zCG] at h
 | f+1,i,k,h=>by
  rw [zCG] at h
  by_cases e:i=k
  ·exact ⟨0,by simp [upN,e]⟩
  ·cases hu:up l i with
   | none=>rw [hu] at h;simp [e] at h
   | some j =>
    rw [hu] at h;have h':zCG l f j k=true:=by simpa [e] using h
    obtain ⟨d,hd⟩:=underF_upN h';exact ⟨d+1,by rw [upN,hu];exact hd⟩
theorem upN_underF {l:List Rg}:∀ {f i k d:Nat},upN l f i=none→upN l d i=some k→zCG l f i k=true
 | 0,_,_,_,h,_=>by simp [upN] at h
 | f+1,i,k,0,_,h=>by
  have:i=k:=by simpa [upN] using h
  subst this;simp [zCG]
 | f+1,i,k,d+1,h,hd=>by
  rw [upN] at h hd
  cases hu:up l i with
  | none=>rw [hu] at hd;cases hd
  | some j =>
   rw [hu] at h hd;have:=upN_underF h hd;rw [zCG,hu];simp [this]
theorem not_under_up {l:List Rg} (g:GoodR l) {y y' f:Nat} (hy:y<l.length) (hu:up l y=some y'):zCG l f y' y=false:=by
 cases h:zCG l f y' y with
 | false=>rfl
 | true =>
  exfalso
  obtain ⟨d,hd⟩:=underF_upN h;have e:upN l (d+1) y=some y:=by rw [upN,hu];exact hd
  have h1:=g.ends y hy;have h2:=zDI e (l.length+2)
  rw [zBW h1 (by
   have:1*(l.length+2)≤(d+1)*(l.length+2):=aN _ za;omega)] at h2
  cases h2
structure RowsI (w:World) (B g1 n:Nat) (bl:Array Value) (R:Nat→List Int):Prop where
 size:bl.size=n
 own:∀ (x:Nat) (v:Value),bl[x]?=some v→zAF encI 1 w B 3 v (R x)
 ne1:∀ (x:Nat) (v:Value),bl[x]?=some v→v.ownBlock≠some g1
 sep:∀ (x y:Nat) (v u:Value),x≠y→bl[x]?=some v→bl[y]?=some u→v.ownBlock=none∨v.ownBlock≠u.ownBlock
theorem own_keepT {α:Type} {enc:α→List Value} {k:Nat} {w w':World} {base:Nat} {e:TypeId} {v:Value} {l:List α} (h:zAF enc k w base e v l) (hk:∀ (g:Nat) (cs:Array Value),w.heap[g]?=some (.cells cs e (0,0))→w'.heap[g]?=w.heap[g]?):zAF enc k w' base e v l:=by
 refine ⟨h.1,?_⟩
 rcases h.2 with hn | ⟨g,cap,cur,rfl,hb,hgg,rest⟩
 ·exact .inl hn
 ·exact .inr ⟨g,cap,cur,rfl,hb,(hk g cur hgg).trans hgg,rest⟩
theorem zDd {α:Type} {enc:α→List Value} {k:Nat} {w:World} {base:Nat} {e:TypeId} {v:Value} {l:List α} (h:zAF enc k w base e v l) {g:Nat} (hg:v.ownBlock=some g):base≤g∧∃ cs,w.heap[g]?=some (.cells cs e (0,0)):=by
 rcases h.2 with ⟨rfl,_⟩ | ⟨g',cap,cur,rfl,hb,hgg,rest⟩
 ·simp [Value.ownBlock] at hg
 ·have:g'=g:=by simpa [Value.ownBlock] using hg
  subst this;exact ⟨hb,cur,hgg⟩
section
variable {w w':World} {B g1 n:Nat} {bl:Array Value} {R:Nat→List Int}
theorem RowsI.nil (w:World) (B g1 n:Nat):RowsI w B g1 n (Array.replicate n zAv) (fun _=>[]) where
 size:=zd
 own x v h:=by
  rw [Array.getElem?_replicate] at h
  split at h
  ·injection h with h;subst h;exact zAF.nil _ _ _ _ _
  ·cases h
 ne1 x v h:=by
  rw [Array.getElem?_replicate] at h
  split at h
  ·injection h with h;subst h;simp [Value.ownBlock]
  ·cases h
 sep x y v u _ h _:=by
  rw [Array.getElem?_replicate] at h
  split at h
  ·injection h with h;subst h;exact .inl rfl
  ·cases h
theorem RowsI.keepT (h:RowsI w B g1 n bl R) (hk:∀ (g:Nat) (cs:Array Value),w.heap[g]?=some (.cells cs 3 (0,0))→w'.heap[g]?=w.heap[g]?):RowsI w' B g1 n bl R :=
 ⟨h.size,fun x v hv=>own_keepT (h.own x v hv) hk,h.ne1,h.sep⟩
theorem RowsI.congr {R':Nat→List Int} (h:RowsI w B g1 n bl R) (hR:∀ x,x<n→R x=R' x):RowsI w B g1 n bl R' :=
 ⟨h.size,fun x v hv=>by
  have hx:x<n:=by rw [←h.size];exact (Array.getElem?_eq_some_iff.1 hv).1
  rw [←hR x hx];exact h.own x v hv,h.ne1,h.sep⟩
theorem RowsI.alloc (h:RowsI w B g1 n bl R) (o:Obj):RowsI (w.alloc o) B g1 n bl R:=h.keepT fun _ _ hg=>dF w o _ (Array.getElem?_eq_some_iff.1 hg).1
theorem RowsI.push (h:RowsI w B g1 n bl R) {y:Nat} {v v':Value} {m:Int} (hy:bl[y]?=some v) (hg1:g1<w.heap.size) (hg:w.grownBy w' v.ownBlock) (ho:zAF encI 1 w' B 3 v' (R y++[m])) (hat:v'.ownBlock=v.ownBlock∨v'.ownBlock=some w.heap.size) :
  RowsI w' B g1 n (bl.setIfInBounds y v') (fun x=>if x=y then R y++[m] else R x):=by
 have hyl:y<bl.size:=(Array.getElem?_eq_some_iff.1 hy).1
 have hlt:∀ (x:Nat) (u:Value),bl[x]?=some u→∀ k,u.ownBlock=some k→k<w.heap.size:=fun x u hu k hk=>by
  obtain ⟨_,cs,hcs⟩:=zDd (h.own x u hu) hk;exact (Array.getElem?_eq_some_iff.1 hcs).1
 have hget:∀ (x:Nat) (u:Value),(bl.setIfInBounds y v')[x]?=some u→(x=y∧u=v')∨(x≠y∧bl[x]?=some u):=fun x u hu=>by
  rw [Array.getElem?_setIfInBounds] at hu
  by_cases e:y=x
  ·rw [aE e,aE hyl] at hu
   injection hu with hu
   exact .inl ⟨e.symm,hu.symm⟩
  ·rw [aC e] at hu
   exact .inr ⟨fun e'=>e e'.symm,hu⟩
 refine ⟨by simp [h.size],fun x u hu=>?_,fun x u hu=>?_,fun x z u t hxz hu ht=>?_⟩
 ·rcases hget x u hu with ⟨rfl,rfl⟩ | ⟨hne,hu'⟩
  ·simpa using ho
  ·simp only [hne,dG]
   exact (h.own x u hu').grown hg (h.sep x y u v hne hu' hy)
 ·rcases hget x u hu with ⟨rfl,rfl⟩ | ⟨hne,hu'⟩
  ·rcases hat with e | e
   ·rw [e];exact h.ne1 _ _ hy
   ·rw [e];intro e2;injection e2 with e2;omega
  ·exact h.ne1 x u hu'
 ·rcases hget x u hu with ⟨rfl,rfl⟩ | ⟨hne,hu'⟩
  ·rcases hget z t ht with ⟨rfl,rfl⟩ | ⟨hne2,ht'⟩
   ·exact absurd rfl hxz
   ·rcases hat with e | e
    ·rw [e];exact h.sep _ _ _ _ (Ne.symm hne2) hy ht'
    ·right
     rw [e];intro e2;have:=hlt z t ht' _ e2.symm;omega
  ·rcases hget z t ht with ⟨rfl,rfl⟩ | ⟨hne2,ht'⟩
   ·rcases hat with e | e
    ·rw [e];exact h.sep _ _ _ _ hne hu' hy
    ·right
     rw [e];intro e2;have:=hlt x u hu' _ e2;omega
   ·exact h.sep x z u t hxz hu' ht'
end
structure J2 (w0:World) (B s g2 n y:Nat) (M:Int) (v:Value) (L:List Int) (done:Nat→Bool) (vals:Nat→Value) (w:World):Prop where
 d0:done 0=true→vals 0 = .pointer (some ⟨s,5,none⟩)
 d1:done 1=true→vals 1=slAt g2 n
 d2:done 2=true→vals 2 = .int .i64 (y:Int)
 d3:done 3=true→vals 3 = .pointer (some ⟨s,5,none⟩)
 d4:done 4=true→vals 4=slAt g2 n
 d5:done 5=true→vals 5 = .int .i64 (y:Int)
 d6:done 6=true→vals 6 = .pointer (some ⟨g2,y,none⟩)
 d7:done 7=true→vals 7=v
 d8:done 8=true→vals 8 = .int .i64 M
 d9:done 9=true→vals 9 = .slice (some ⟨w0.heap.size,0,none⟩) 1 1
 d11:done 11=true→vals 11 = .pointer (some ⟨g2,y,none⟩)
 d10':done 10=true→done 9=true
 d12':done 12=true→∀ j,j<12→done j=true
 w9:done 9=false→w=w0.drew
 w10:done 9=true→done 10=false→w=(w0.alloc (.cells #[.int .i64 M] 3)).drew
 w12:done 10=true→∃ A' c' wA,vals 10 = .slice A' (L.length+1) c'∧zAF encI 1 wA B 3 (.slice A' (L.length+1) c') (L++[M])∧(w0.alloc (.cells #[.int .i64 M] 3)).grownBy wA v.ownBlock ∧
  ((Value.slice A' (L.length+1) c').ownBlock=v.ownBlock∨(Value.slice A' (L.length+1) c').ownBlock=some (w0.heap.size+1))∧(done 12=false→w=wA)∧(done 12=true→w=wA.setCell ⟨g2,y,none⟩ (.slice A' (L.length+1) c'))
theorem J2.keep {w0 w:World} {B s g2 n y:Nat} {M:Int} {v:Value} {L:List Int} {done:Nat→Bool} {vals:Nat→Value} (h:J2 w0 B s g2 n y M v L done vals w) (h12:done 12=false) {p:Addr} (hp:p.block<w0.heap.size) (hne:v.ownBlock≠some p.block) :
  w.heap[p.block]?=w0.heap[p.block]?∧w0.heap.size≤w.heap.size:=by
 cases h9:done 9 with
 | false=>rw [h.w9 h9];exact ⟨rfl,aB _⟩
 | true =>
  cases h10:done 10 with
  | false =>
   rw [h.w10 h9 h10];exact ⟨dF w0 _ _ hp,zd⟩
  | true =>
   obtain ⟨A',c',wA,_,_,hg,_,hw,_⟩:=h.w12 h10;rw [hw h12];exact ⟨(hg.block _ zg (fun e=>hne e.symm)).trans (dF w0 _ _ hp),by have:=hg.size;simp at this;omega⟩
theorem J2.pure {w0 w:World} {B s g2 n y:Nat} {M:Int} {v:Value} {L:List Int} {done:Nat→Bool} {vals:Nat→Value} (h:J2 w0 B s g2 n y M v L done vals w) {i:Nat} {u:Value} (hi:i≠9∧i≠10∧i≠12)
  (hu:(i=0→u = .pointer (some ⟨s,5,none⟩))∧(i=1→u=slAt g2 n)∧(i=2→u = .int .i64 (y:Int))∧(i=3→u = .pointer (some ⟨s,5,none⟩))∧(i=4→u=slAt g2 n)∧(i=5→u = .int .i64 (y:Int))∧(i=6→u = .pointer (some ⟨g2,y,none⟩))∧(i=7→u=v)∧(i=8→u = .int .i64 M)∧(i=11→u = .pointer (some ⟨g2,y,none⟩))) (hd:done i=false) :
  J2 w0 B s g2 n y M v L (zBZ done i true) (zBZ vals i u) w:=by
 obtain ⟨n9,n10,n12⟩:=hi;obtain ⟨u0,u1,u2,u3,u4,u5,u6,u7,u8,u11⟩:=hu;have e9:zBZ done i true 9=done 9:=zAa _ _ (Ne.symm n9);have e10:zBZ done i true 10=done 10:=zAa _ _ (Ne.symm n10);have e12:zBZ done i true 12=done 12:=zAa _ _ (Ne.symm n12)
 have step:∀ {j:Nat} {c:Value},(done j=true→vals j=c)→(i=j→u=c)→zBZ done i true j=true→zBZ vals i u j=c:=fun {j c} h1 h2 h3=>by
  by_cases e:j=i
  ·subst e;rw [zAE];exact h2 rfl
  ·rw [zAa _ _ e] at h3 ⊢;exact h1 h3
 exact {
  d0:=step h.d0 u0
  d1:=step h.d1 u1
  d2:=step h.d2 u2
  d3:=step h.d3 u3
  d4:=step h.d4 u4
  d5:=step h.d5 u5
  d6:=step h.d6 u6
  d7:=step h.d7 u7
  d8:=step h.d8 u8
  d9:=fun hh=>by rw [e9] at hh;rw [zAa _ _ (Ne.symm n9)];exact h.d9 hh
  d11:=step h.d11 u11
  d10':=fun hh=>by rw [e10] at hh;rw [e9];exact h.d10' hh
  d12':=fun hh=>by
   rw [e12] at hh;intro j hj
   by_cases e:j=i
   ·subst e;exact zAE _ _ _
   ·rw [zAa _ _ e];exact h.d12' hh j hj
  w9:=fun hh=>by rw [e9] at hh;exact h.w9 hh
  w10:=fun hh hh'=>by rw [e9] at hh;rw [e10] at hh';exact h.w10 hh hh'
  w12:=fun hh=>by
   rw [e10] at hh;obtain ⟨A',c',wA,h1,h2,h3,h4,h5,h6⟩:=h.w12 hh;exact ⟨A',c',wA,by rw [zAa _ _ (Ne.symm n10)];exact h1,h2,h3,h4,fun hx=>h5 (by rw [e12] at hx;exact hx),fun hx=>h6 (by rw [e12] at hx;exact hx)⟩ }
theorem region26 {ops:Array Oper} {Q:Exit→Act→World→Prop} {a0:Act} {w0:World} {id B s g2 n y:Nat} {M:Int} {Av:Option Addr} {cv:Nat} {L:List Int} (hL:L.length≤200) (hy:y<n) (hsz:ops.size=13) (hap:apartB ops=true) (hb:backB ops=true)
  (hk3:notDst ops 3=true) (hk11:notDst ops 11=true) (hk12:notDst ops 12=true) (ha3:a0.eval (.tmp 3) = .pointer (some ⟨s,0,none⟩)) (ha11:a0.eval (.tmp 11) = .int .i64 M) (ha12:a0.eval (.tmp 12) = .int .i64 (y:Int)) (has:115<a0.tmps.size)
  (hcs:w0.cell? ⟨s,5,none⟩=some (slAt g2 n)) (hcg:w0.cell? ⟨g2,y,none⟩=some (.slice Av L.length cv)) (hfg:w0.frozen? ⟨g2,y,none⟩=false) (hown:zAF encI 1 w0 B 3 (.slice Av L.length cv) L) (hB:B≤w0.heap.size)
  (hns:(Value.slice Av L.length cv).ownBlock≠some s) (hng:(Value.slice Av L.length cv).ownBlock≠some g2)
  (o0:∃ ty ps af,ops[0]?=some ⟨some 104,.fieldAddr 97 (.tmp 3) 5,ty,ps,af,none⟩)
  (o1:∃ ty ps af,ops[1]?=some ⟨some 105,.load 95 (.tmp 104),ty,ps,af,none⟩)
  (o2:∃ ty ps af,ops[2]?=some ⟨some 106,.move (.tmp 12),ty,ps,af,none⟩)
  (o3:∃ ty ps af,ops[3]?=some ⟨some 107,.fieldAddr 97 (.tmp 3) 5,ty,ps,af,none⟩)
  (o4:∃ ty ps af,ops[4]?=some ⟨some 108,.load 95 (.tmp 107),ty,ps,af,none⟩)
  (o5:∃ ty ps af,ops[5]?=some ⟨some 109,.move (.tmp 12),ty,ps,af,none⟩)
  (o6:∃ ty ps af,ops[6]?=some ⟨some 110,.indexAddr 95 (.tmp 108) (.tmp 109),ty,ps,af,none⟩)
  (o7:∃ ty ps af,ops[7]?=some ⟨some 111,.load 94 (.tmp 110),ty,ps,af,none⟩)
  (o8:∃ ty ps af,ops[8]?=some ⟨some 112,.move (.tmp 11),ty,ps,af,none⟩)
  (o9:∃ ty ps af,ops[9]?=some ⟨some 113,.buildSlice 94 1 #[(0,.tmp 112)],ty,ps,af,none⟩)
  (o10:∃ ty ps af,ops[10]?=some ⟨some 114,.call { callee:=.builtin .append,args:=#[.tmp 111,.tmp 113],argTypes:=#[94,94] },ty,ps,af,none⟩)
  (o11:∃ ty ps af,ops[11]?=some ⟨some 115,.indexAddr 95 (.tmp 105) (.tmp 106),ty,ps,af,none⟩)
  (o12:∃ ty ps af,ops[12]?=some ⟨none,.store 94 (.tmp 115) (.tmp 114),ty,ps,af,none⟩)
  (e10:depB ops 1 0=true) (e43:depB ops 4 3=true) (e64:depB ops 6 4=true) (e65:depB ops 6 5=true) (e76:depB ops 7 6=true) (e98:depB ops 9 8=true) (e107:depB ops 10 7=true) (e109:depB ops 10 9=true) (e111:depB ops 11 1=true) (e112:depB ops 11 2=true)
  (e12:((List.range 12).all fun j=>depB ops 12 j)=true)
  (hK:∀ (A':Option Addr) (c':Nat) (wA:World) (vals:Nat→Value),zAF encI 1 wA B 3 (.slice A' (L.length+1) c') (L++[M])→(w0.alloc (.cells #[.int .i64 M] 3)).grownBy wA (Value.slice Av L.length cv).ownBlock →
   ((Value.slice A' (L.length+1) c').ownBlock=(Value.slice Av L.length cv).ownBlock∨(Value.slice A' (L.length+1) c').ownBlock=some (w0.heap.size+1)) →
   vals 0 = .pointer (some ⟨s,5,none⟩)→vals 1=slAt g2 n→vals 2 = .int .i64 (y:Int)→vals 3 = .pointer (some ⟨s,5,none⟩)→vals 4=slAt g2 n→vals 5 = .int .i64 (y:Int)→vals 6 = .pointer (some ⟨g2,y,none⟩)→vals 7 = .slice Av L.length cv→vals 8 = .int .i64 M →
   vals 9 = .slice (some ⟨w0.heap.size,0,none⟩) 1 1→vals 10 = .slice A' (L.length+1) c'→vals 11 = .pointer (some ⟨g2,y,none⟩)→Q .normal (zAt ops vals (List.range 13) a0) (wA.setCell ⟨g2,y,none⟩ (.slice A' (L.length+1) c'))) :
  (Code.region id ops true).wp Tryz.prog Q a0 w0:=by
 have hAp:=apart_of hap;have hsl:s<w0.heap.size:=World.block_lt_of_cell? w0 _ hcs;have hgl:g2<w0.heap.size:=World.block_lt_of_cell? w0 _ hcg;refine zEu zb hAp hb (fun _=>undef) (J2 w0 B s g2 n y M (.slice Av L.length cv) L) ?_ ?_ ?_
 ·exact ⟨zd,zd,zd,zd,zd,zd,zd,zd,zd,zd,zd,zd,zd,fun _=>rfl,zd,zd⟩
 ·intro i done vals w1 hi hJ hd hdep
  rw [hsz] at hi
  have h12:i≠12→done 12=false:=fun hne=>by
   cases h:done 12 with
   | false=>rfl
   | true=>rw [hJ.d12' h i za] at hd;cases hd
  have hc5:i≠12→w1.cell? ⟨s,5,none⟩=some (slAt g2 n):=fun hne=>by
   rw [←hcs];exact World.cell?_of_block (hJ.keep (h12 hne) (p:=⟨s,5,none⟩) hsl hns).1
  have hcy:i≠12→w1.cell? ⟨g2,y,none⟩=some (.slice Av L.length cv):=fun hne=>by
   rw [←hcg];exact World.cell?_of_block (hJ.keep (h12 hne) (p:=⟨g2,y,none⟩) hgl hng).1
  have hidx:(Instr.indexAt 95 (slAt g2 n) (.int .i64 (y:Int))).run Tryz.prog w1 = .ok (.pointer (some ⟨g2,y,none⟩)) w1:=by
   have hi:(0:Int)≤(y:Int)∧(y:Int)<(n:Int):=za;simp [go_sem,hi]
  have hfld:(Instr.fieldAt 97 (.pointer (some ⟨s,0,none⟩)) 5).run Tryz.prog w1 = .ok (.pointer (some ⟨s,5,none⟩)) w1:=by
   simp [go_sem]
  have hev3:(zAt ops vals (zAS ops.size done) a0).eval (.tmp 3) = .pointer (some ⟨s,0,none⟩):=(eval_kept hk3).trans ha3;have hev11:(zAt ops vals (zAS ops.size done) a0).eval (.tmp 11) = .int .i64 M:=(eval_kept hk11).trans ha11;have hev12:(zAt ops vals (zAS ops.size done) a0).eval (.tmp 12) = .int .i64 (y:Int):=(eval_kept hk12).trans ha12
  match i,hi with
  | 0,_ =>
   obtain ⟨ty,ps,af,ho⟩:=o0;exact zAs ho rfl (v:=.pointer (some ⟨s,5,none⟩)) (w':=w1) (by simp [execOp,hev3,hfld]) ⟨_,yj,hJ.pure zc zd hd⟩
  | 1,_ =>
   obtain ⟨ty,ps,af,ho⟩:=o1;have q:=zBv e10 hdep
   have ev:(zAt ops vals (zAS ops.size done) a0).eval (.tmp 104) = .pointer (some ⟨s,5,none⟩):=by
    obtain ⟨ty',ps',af',ho'⟩:=o0;rw [zAz hAp (a:=a0) (j:=0) (d:=104) za ym q (aW (m:=115) zc has),hJ.d0 q]
   have hld:(Instr.loadAt 95 (.pointer (some ⟨s,5,none⟩))).run Tryz.prog w1 = .ok (slAt g2 n) w1:=by simp [go_sem,hc5 zc]
   exact zAs ho rfl (v:=slAt g2 n) (w':=w1) (by simp [execOp,ev,hld]) ⟨_,yj,hJ.pure zc zd hd⟩
  | 2,_ =>
   obtain ⟨ty,ps,af,ho⟩:=o2;exact zAs ho rfl (v:=.int .i64 (y:Int)) (w':=w1) (by simp [execOp,hev12]) ⟨_,yj,hJ.pure zc zd hd⟩
  | 3,_ =>
   obtain ⟨ty,ps,af,ho⟩:=o3;exact zAs ho rfl (v:=.pointer (some ⟨s,5,none⟩)) (w':=w1) (by simp [execOp,hev3,hfld]) ⟨_,yj,hJ.pure zc zd hd⟩
  | 4,_ =>
   obtain ⟨ty,ps,af,ho⟩:=o4;have q:=zBv e43 hdep
   have ev:(zAt ops vals (zAS ops.size done) a0).eval (.tmp 107) = .pointer (some ⟨s,5,none⟩):=by
    obtain ⟨ty',ps',af',ho'⟩:=o3;rw [zAz hAp (a:=a0) (j:=3) (d:=107) za ym q (aW (m:=115) zc has),hJ.d3 q]
   have hld:(Instr.loadAt 95 (.pointer (some ⟨s,5,none⟩))).run Tryz.prog w1 = .ok (slAt g2 n) w1:=by simp [go_sem,hc5 zc]
   exact zAs ho rfl (v:=slAt g2 n) (w':=w1) (by simp [execOp,ev,hld]) ⟨_,yj,hJ.pure zc zd hd⟩
  | 5,_ =>
   obtain ⟨ty,ps,af,ho⟩:=o5;exact zAs ho rfl (v:=.int .i64 (y:Int)) (w':=w1) (by simp [execOp,hev12]) ⟨_,yj,hJ.pure zc zd hd⟩
  | 6,_ =>
   obtain ⟨ty,ps,af,ho⟩:=o6;have q4:=zBv e64 hdep;have q5:=zBv e65 hdep
   have ev4:(zAt ops vals (zAS ops.size done) a0).eval (.tmp 108)=slAt g2 n:=by
    obtain ⟨ty',ps',af',ho'⟩:=o4;rw [zAz hAp (a:=a0) (j:=4) (d:=108) za ym q4 (aW (m:=115) zc has),hJ.d4 q4]
   have ev5:(zAt ops vals (zAS ops.size done) a0).eval (.tmp 109) = .int .i64 (y:Int):=by
    obtain ⟨ty',ps',af',ho'⟩:=o5;rw [zAz hAp (a:=a0) (j:=5) (d:=109) za ym q5 (aW (m:=115) zc has),hJ.d5 q5]
   exact zAs ho rfl (v:=.pointer (some ⟨g2,y,none⟩)) (w':=w1) (by simp [execOp,ev4,ev5,hidx]) ⟨_,yj,hJ.pure zc zd hd⟩
  | 7,_ =>
   obtain ⟨ty,ps,af,ho⟩:=o7;have q:=zBv e76 hdep
   have ev:(zAt ops vals (zAS ops.size done) a0).eval (.tmp 110) = .pointer (some ⟨g2,y,none⟩):=by
    obtain ⟨ty',ps',af',ho'⟩:=o6;rw [zAz hAp (a:=a0) (j:=6) (d:=110) za ym q (aW (m:=115) zc has),hJ.d6 q]
   have hld:(Instr.loadAt 94 (.pointer (some ⟨g2,y,none⟩))).run Tryz.prog w1 = .ok (.slice Av L.length cv) w1:=by simp [go_sem,hcy zc]
   exact zAs ho rfl (v:=.slice Av L.length cv) (w':=w1) (by simp [execOp,ev,hld]) ⟨_,yj,hJ.pure zc zd hd⟩
  | 8,_ =>
   obtain ⟨ty,ps,af,ho⟩:=o8;exact zAs ho rfl (v:=.int .i64 M) (w':=w1) (by simp [execOp,hev11]) ⟨_,yj,hJ.pure zc zd hd⟩
  | 9,_ =>
   obtain ⟨ty,ps,af,ho⟩:=o9;have q:=zBv e98 hdep
   have ev:(zAt ops vals (zAS ops.size done) a0).eval (.tmp 112) = .int .i64 M:=by
    obtain ⟨ty',ps',af',ho'⟩:=o8;rw [zAz hAp (a:=a0) (j:=8) (d:=112) za ym q (aW (m:=115) zc has),hJ.d8 q]
   have hw:=hJ.w9 hd
   have h10:done 10=false:=by
    cases h:done 10 with
    | false=>rfl
    | true=>rw [hJ.d10' h] at hd;cases hd
   have hbs:(Instr.buildSlice 94 1 #[(0,.int .i64 M)]).run Tryz.prog w1 = .ok (.slice (some ⟨w1.heap.size,0,none⟩) 1 1) (w1.alloc (.cells #[.int .i64 M] 3)):=zb;refine zAs ho rfl (v:=.slice (some ⟨w1.heap.size,0,none⟩) 1 1) (w':=w1.alloc (.cells #[.int .i64 M] 3)) (by simp [execOp,ev,hbs]) ⟨_,yj,?_⟩
   subst hw;have ne:∀ {j:Nat},j≠9→zBZ done 9 true j=done j:=fun hj=>zAa _ _ hj
   have nv:∀ {j:Nat} {u:Value},j≠9→zBZ vals 9 u j=vals j:=fun hj=>zAa _ _ hj
   exact {
    d0:=fun hh=>jt
    d1:=fun hh=>ju
    d2:=fun hh=>jw
    d3:=fun hh=>jx
    d4:=fun hh=>jy
    d5:=fun hh=>jz
    d6:=fun hh=>j0
    d7:=fun hh=>j1
    d8:=fun hh=>j2
    d9:=fun _=>zAE _ _ _
    d11:=fun hh=>jq
    d10':=fun _=>zAE _ _ _
    d12':=fun hh=>by rw [ne zc,h12 zc] at hh;cases hh
    w9:=fun hh=>by rw [zAE] at hh;cases hh
    w10:=fun _ _=>rfl
    w12:=fun hh=>by rw [ne zc,h10] at hh;cases hh }
  | 10,_ =>
   obtain ⟨ty,ps,af,ho⟩:=o10;have q7:=zBv e107 hdep;have q9:=zBv e109 hdep
   have ev7:(zAt ops vals (zAS ops.size done) a0).eval (.tmp 111) = .slice Av L.length cv:=by
    obtain ⟨ty',ps',af',ho'⟩:=o7;rw [zAz hAp (a:=a0) (j:=7) (d:=111) za ym q7 (aW (m:=115) zc has),hJ.d7 q7]
   have ev9:(zAt ops vals (zAS ops.size done) a0).eval (.tmp 113) = .slice (some ⟨w0.heap.size,0,none⟩) 1 1:=by
    obtain ⟨ty',ps',af',ho'⟩:=o9;rw [zAz hAp (a:=a0) (j:=9) (d:=113) za ym q9 (aW (m:=115) zc has),hJ.d9 q9]
   have hw:=hJ.w10 q9 hd;have f12:=h12 zc;obtain ⟨i0,hi0,hz0,hz1,hz2⟩:=info_parts elInt.info
   obtain ⟨v',wA,hrun,h2,h3,_,h5⟩:=run_append_own_at (P:=Tryz.prog) w1 B 94 ty 3 i0 _ 1 8 elInt.ty hi0 hz0 hz1 hz2 rfl zc (.slice Av L.length cv) L.length (L.flatMap encI) (by rw [hw];exact (hown.alloc _)) ⟨w0.heap.size,0,none⟩ 1 1 [.int .i64 M] rfl
    (by rw [hw];exact World.news_of_block (cs:=#[.int .i64 M]) (t:=3) (fr:=(0,0)) (cI w0 _)) zu zt za (by rw [hw];simp;omega)
   have ho':zAF encI 1 wA B 3 v' (L++[M]):=by
    unfold zAF
    simpa using h2
   obtain ⟨A',c',rfl⟩:∃ A' c',v' = .slice A' (L.length+1) c':=by
    rcases h2.2 with ⟨rfl,hn⟩ | ⟨g,cap,cur,rfl,_⟩
    ·omega
    ·exact ⟨_,_,rfl⟩
   refine zAs ho rfl (v:=.slice A' (L.length+1) c') (w':=wA) (by simp [execOp,resolve,invoke,builtin,ev7,ev9,hrun]) ⟨_,yj,?_⟩
   have ne:∀ {j:Nat},j≠10→zBZ done 10 true j=done j:=fun hj=>zAa _ _ hj
   have nv:∀ {j:Nat} {u:Value},j≠10→zBZ vals 10 u j=vals j:=fun hj=>zAa _ _ hj
   have h3':(w0.alloc (.cells #[.int .i64 M] 3)).grownBy wA (Value.slice Av L.length cv).ownBlock:=by
    rw [hw] at h3;exact ⟨h3.os,h3.tape,h3.output,h3.size,h3.block⟩
   have h5':(Value.slice A' (L.length+1) c').ownBlock=(Value.slice Av L.length cv).ownBlock∨(Value.slice A' (L.length+1) c').ownBlock=some (w0.heap.size+1):=by
    rw [hw] at h5
    simpa using h5
   exact {
    d0:=fun hh=>jt
    d1:=fun hh=>ju
    d2:=fun hh=>jw
    d3:=fun hh=>jx
    d4:=fun hh=>jy
    d5:=fun hh=>jz
    d6:=fun hh=>j0
    d7:=fun hh=>j1
    d8:=fun hh=>j2
    d9:=fun hh=>by rw [ne zc] at hh;rw [nv zc];exact hJ.d9 hh
    d11:=fun hh=>jq
    d10':=fun _=>by rw [ne zc];exact q9
    d12':=fun hh=>by rw [ne zc,f12] at hh;cases hh
    w9:=fun hh=>by rw [ne zc,q9] at hh;cases hh
    w10:=fun _ hh=>by rw [zAE] at hh;cases hh
    w12:=fun _=>⟨A',c',wA,zAE _ _ _,ho',h3',h5',fun _=>rfl,fun hh=>by rw [ne zc,f12] at hh;cases hh⟩ }
  | 11,_ =>
   obtain ⟨ty,ps,af,ho⟩:=o11;have q1:=zBv e111 hdep;have q2:=zBv e112 hdep
   have ev1:(zAt ops vals (zAS ops.size done) a0).eval (.tmp 105)=slAt g2 n:=by
    obtain ⟨ty',ps',af',ho'⟩:=o1;rw [zAz hAp (a:=a0) (j:=1) (d:=105) za ym q1 (aW (m:=115) zc has),hJ.d1 q1]
   have ev2:(zAt ops vals (zAS ops.size done) a0).eval (.tmp 106) = .int .i64 (y:Int):=by
    obtain ⟨ty',ps',af',ho'⟩:=o2;rw [zAz hAp (a:=a0) (j:=2) (d:=106) za ym q2 (aW (m:=115) zc has),hJ.d2 q2]
   exact zAs ho rfl (v:=.pointer (some ⟨g2,y,none⟩)) (w':=w1) (by simp [execOp,ev1,ev2,hidx]) ⟨_,yj,hJ.pure zc zd hd⟩
  | 12,_ =>
   obtain ⟨ty,ps,af,ho⟩:=o12;have qa:∀ j,j<12→done j=true:=fun j hj=>zBv (List.all_eq_true.1 e12 j (List.mem_range.2 hj)) hdep
   obtain ⟨A',c',wA,hv10,hoA,hgA,hat,hwA,_⟩:=hJ.w12 (qa 10 za);have hw:=hwA hd
   have ev11:(zAt ops vals (zAS ops.size done) a0).eval (.tmp 115) = .pointer (some ⟨g2,y,none⟩):=by
    obtain ⟨ty',ps',af',ho'⟩:=o11;rw [zAz hAp (a:=a0) (j:=11) (d:=115) za ym (qa 11 za) (aW (m:=115) zc has),hJ.d11 (qa 11 za)]
   have ev10:(zAt ops vals (zAS ops.size done) a0).eval (.tmp 114) = .slice A' (L.length+1) c':=by
    obtain ⟨ty',ps',af',ho'⟩:=o10;rw [zAz hAp (a:=a0) (j:=10) (d:=114) za ym (qa 10 za) (aW (m:=115) zc has),hv10]
   have hblk:=hJ.keep hd (p:=⟨g2,y,none⟩) hgl hng
   have hcA:wA.cell? ⟨g2,y,none⟩=some (.slice Av L.length cv):=by
    rw [hw] at hblk;rw [←hcg];exact World.cell?_of_block hblk.1
   have hfA:wA.frozen? ⟨g2,y,none⟩=false:=by
    rw [hw] at hblk;rw [←hfg];exact World.frozen?_of_block hblk.1
   have hst:(Instr.storeAt 94 (.pointer (some ⟨g2,y,none⟩)) (.slice A' (L.length+1) c')).run Tryz.prog wA = .ok () (wA.setCell ⟨g2,y,none⟩ (.slice A' (L.length+1) c')):=by
    simp [go_sem,hcA,hfA]
   rw [hw];refine wpOp_skip ho rfl (w':=wA.setCell ⟨g2,y,none⟩ (.slice A' (L.length+1) c')) (by simp [execOp,ev10,ev11,hst]) ⟨undef,yj,?_⟩
   have ne:∀ {j:Nat},j≠12→zBZ done 12 true j=done j:=fun hj=>zAa _ _ hj
   have nv:∀ {j:Nat} {u:Value},j≠12→zBZ vals 12 u j=vals j:=fun hj=>zAa _ _ hj
   exact {
    d0:=fun hh=>jt
    d1:=fun hh=>ju
    d2:=fun hh=>jw
    d3:=fun hh=>jx
    d4:=fun hh=>jy
    d5:=fun hh=>jz
    d6:=fun hh=>j0
    d7:=fun hh=>j1
    d8:=fun hh=>j2
    d9:=fun hh=>by rw [ne zc] at hh;rw [nv zc];exact hJ.d9 hh
    d11:=fun hh=>jq
    d10':=fun _=>by rw [ne zc];exact qa 9 za
    d12':=fun _ j hj=>by rw [ne za];exact qa j hj
    w9:=fun hh=>by rw [ne zc,qa 9 za] at hh;cases hh
    w10:=fun _ hh=>by rw [ne zc,qa 10 za] at hh;cases hh
    w12:=fun _=>⟨A',c',wA,by rw [nv zc];exact hv10,hoA,hgA,hat,(fun hh=>by rw [zAE] at hh;cases hh),fun _=>rfl⟩ }
 ·intro done vals w' hall hJ
  rw [hsz] at hall ⊢;obtain ⟨A',c',wA,hv10,hoA,hgA,hat,_,hw⟩:=hJ.w12 (hall 10 za);rw [hw (hall 12 za)];exact hK A' c' wA vals hoA hgA hat (hJ.d0 (hall 0 za)) (hJ.d1 (hall 1 za)) (hJ.d2 (hall 2 za)) (hJ.d3 (hall 3 za)) (hJ.d4 (hall 4 za)) (hJ.d5 (hall 5 za)) (hJ.d6 (hall 6 za)) (hJ.d7 (hall 7 za)) (hJ.d8 (hall 8 za)) (hJ.d9 (hall 9 za)) hv10 (hJ.d11 (hall 11 za))
end Go.Proofs.YtoaelidmmcbkfaaGreatDoor
