/- Package right (places): the memory of newWorld, and its first statement, whose order Go leaves open. -/
import Derived.Test.YtlcfgejaeecclaaGreatDoorJq04
namespace Go.Proofs.YtlcfgejaeecclaaGreatDoor
open Go.RowKit Dw

theorem wpOp_value {P : Program} {ops : Array Oper} {Q : Exit → Act → World → Prop} {i : Nat} {o : Oper} {K : Act → World → Prop} {a : Act} {w w' : World} {v : Value} (ho : ops[i]? = some o) (hg : o.guard = none)
    (hr : (execOp a.eval o).run P w = .ok (.value v) w') (h : K (a.put o.dst v) w') : wpOp P ops Q i K a w := by
  unfold wpOp
  simp only [ho]
  rw [if_pos (by simp [Region.wanted, hg])]
  left
  unfold Oper.wp
  rw [hr]
  exact h
theorem wpOp_skip {P : Program} {ops : Array Oper} {Q : Exit → Act → World → Prop} {i : Nat} {o : Oper} {K : Act → World → Prop} {a : Act} {w w' : World} (ho : ops[i]? = some o) (hg : o.guard = none)
    (hr : (execOp a.eval o).run P w = .ok .skip w') (h : K (a.put o.dst undef) w') : wpOp P ops Q i K a w := by
  unfold wpOp
  simp only [ho]
  rw [if_pos (by simp [Region.wanted, hg])]
  left
  unfold Oper.wp
  rw [hr]
  exact h
def notDst (ops : Array Oper) (t : Tmp) : Bool := (List.range ops.size).all fun i => (ops[i]?).bind (·.dst) != some t
theorem eval_kept {ops : Array Oper} {vals : Nat → Value} {t : Tmp} {done : Nat → Bool} {a : Act} (h : notDst ops t = true) : (putAll ops vals (doneL ops.size done) a).eval (.tmp t) = a.eval (.tmp t) := by
  refine eval_putAll_other fun i hi d hd e => ?_
  injection e with e
  subst e
  have := List.all_eq_true.1 h i (List.mem_range.2 (mem_doneL.1 hi).1)
  rw [hd] at this
  simp at this
theorem eval_done {ops : Array Oper} (hap : Apart ops) {vals : Nat → Value} {done : Nat → Bool} {a : Act} {j : Nat} {d : Tmp} (hj : j < ops.size) (hd : (ops[j]?).bind (·.dst) = some d) (hdone : done j = true) (hs : d < a.tmps.size) :
    (putAll ops vals (doneL ops.size done) a).eval (.tmp d) = vals j :=
  eval_putAll_done hap hj hd (mem_doneL.2 ⟨hj, hdone⟩) (List.nodup_range.filter _) (fun _ hi => (mem_doneL.1 hi).1) hs

theorem run_make_n {P : Program} (t e : TypeId) {z : Value} {bytes : Nat} (hT : ElemT P t e z 1 bytes) (n : Nat) (hb : bytes * n ≤ 281474976710656) (h63 : n ≤ 9223372036854775807) (hz : z.cells = #[z]) (w : World) :
    (Instr.makeSlice t (.int .i64 (n : Int)) (.int .i64 (n : Int))).run P w = .ok (.slice (some ⟨w.heap.size, 0, none⟩) n n) (w.alloc (.cells (Array.replicate n z) e)) := by
  obtain ⟨i, hi, hz0, hz1, hz2⟩ := info_parts hT.info
  have hb' : (i.bytes : Int) * (n : Int) ≤ 281474976710656 := by
    rw [hz2]
    have h : ((bytes * n : Nat) : Int) ≤ 281474976710656 := by omega
    rwa [Int.natCast_mul] at h
  have hr := run_make (P := P) w t e i z hT.ty hi hz0 .i64 .i64 n n (by omega) (by omega) hb' (by omega)
  simp only [Int.toNat_natCast] at hr
  rw [hz1, hz, Nat.mul_one] at hr
  have e1 : madeCells #[z] n = Array.replicate n z := by
    apply Array.toList_inj.1
    rw [toList_madeCells_one, Array.toList_replicate]
  rw [e1] at hr
  exact hr

theorem elInt : ElemT Tryz.prog 73 3 (.int .i64 0) 1 8 := ⟨Tryz.underlying73, by kernel_rfl, rfl, by decide⟩
theorem elInts : ElemT Tryz.prog 74 73 (.slice none 0 0) 1 24 := ⟨Tryz.underlying74, by kernel_rfl, rfl, by decide⟩
theorem elBool : ElemT Tryz.prog 129 4 (.bool false) 1 1 := ⟨Tryz.underlying129, by kernel_rfl, rfl, by decide⟩
theorem elSet : ElemT Tryz.prog 130 4 (.bool false) 1 1 := ⟨Tryz.underlying130, by kernel_rfl, rfl, by decide⟩

/-- What newWorld holds while it works: the struct, its two maps, the parents and the rows of leaves. -/
structure NW (w0 w : World) (B : Nat) (SL lv : Value) (r1 r2 g1 g2 s n : Nat) (f1 f2 : ByteArray → Option Value) (up bl : Array Value) : Prop where
  box : w.heap[s]? = some (.cells #[SL, .map (some r1), lv, .map (some r2), .slice (some ⟨g1, 0, none⟩) n n, .slice (some ⟨g2, 0, none⟩) n n] 76 (0, 0))
  m1 : MapIs Value.string w r1 f1
  m2 : MapIs Value.string w r2 f2
  up : w.heap[g1]? = some (.cells up 3 (0, 0))
  bl : w.heap[g2]? = some (.cells bl 73 (0, 0))
  ne : r1 ≠ r2
  b1 : B ≤ r1
  b2 : B ≤ r2
  b3 : B ≤ g1
  b4 : B ≤ g2
  b5 : B ≤ s
  below : Below B w0 w

def depB (ops : Array Oper) (i j : Nat) : Bool := ((ops[i]?).map fun o => o.after.any fun e => Region.binds .any e && e.on == j).getD false
theorem dep_of {ops : Array Oper} {i j : Nat} {done : Nat → Bool} (h : depB ops i j = true) (hd : ∀ o, ops[i]? = some o → ∀ e ∈ o.after, Region.binds .any e = true → done e.on = true) : done j = true := by
  unfold depB at h
  cases ho : ops[i]? with
  | none => rw [ho] at h; simp at h
  | some o =>
    rw [ho] at h
    simp only [Option.map_some, Option.getD_some] at h
    obtain ⟨e, he, hb⟩ := Array.any_eq_true'.1 h
    rw [Bool.and_eq_true] at hb
    have := hd o ho e he hb.1
    rw [show e.on = j from by simpa using hb.2] at this
    exact this

abbrev nilSl : Value := .slice none 0 0
abbrev slAt (g n : Nat) : Value := .slice (some ⟨g, 0, none⟩) n n
def boxOf (SL : Value) (lv : Value) (r1 r2 g1 g2 n : Nat) : Array Value := #[SL, .map (some r1), lv, .map (some r2), slAt g1 n, slAt g2 n]

/-- What holds in the first statement of newWorld, whatever has been done of it. -/
structure J1 (w0 : World) (B : Nat) (SL : Value) (n : Nat) (r1 r2 g1 g2 s : Nat) (done : Nat → Bool) (vals : Nat → Value) (w : World) : Prop where
  d0 : done 0 = true → vals 0 = SL
  d1 : done 1 = true → vals 1 = .map (some r1) ∧ MapIs Value.string w r1 (fun _ => none) ∧ B ≤ r1
  d2 : done 2 = true → vals 2 = .map (some r2) ∧ MapIs Value.string w r2 (fun _ => none) ∧ B ≤ r2
  d12 : done 1 = true → done 2 = true → r1 ≠ r2
  d3 : done 3 = true → vals 3 = SL
  d4 : done 4 = true → vals 4 = .int .i64 (n : Int)
  d5 : done 5 = true → vals 5 = slAt g1 n ∧ w.heap[g1]? = some (.cells (Array.replicate n (.int .i64 0)) 3 (0, 0)) ∧ B ≤ g1
  d6 : done 6 = true → vals 6 = SL
  d7 : done 7 = true → vals 7 = .int .i64 (n : Int)
  d8 : done 8 = true → vals 8 = slAt g2 n ∧ w.heap[g2]? = some (.cells (Array.replicate n nilSl) 73 (0, 0)) ∧ B ≤ g2
  d9 : done 9 = true → vals 9 = .agg (boxOf SL nilSl r1 r2 g1 g2 n)
  d9' : done 9 = true → done 1 = true ∧ done 2 = true ∧ done 5 = true ∧ done 8 = true
  d10 : done 10 = true → vals 10 = .pointer (some ⟨s, 0, none⟩) ∧ (∃ cs : Array Value, cs.size = 6 ∧ w.heap[s]? = some (.cells cs 76 (0, 0))) ∧ B ≤ s
  d11 : done 11 = true → w.heap[s]? = some (.cells (boxOf SL nilSl r1 r2 g1 g2 n) 76 (0, 0))
  d11' : done 11 = true → done 9 = true ∧ done 10 = true
  below : Below B w0 w
  size : B ≤ w.heap.size

section
variable {w0 w : World} {B n r1 r2 g1 g2 s : Nat} {SL : Value} {done : Nat → Bool} {vals : Nat → Value}
theorem heap_keep {w : World} {o : Obj} {g : Nat} {x : Obj} (h : w.heap[g]? = some x) : (w.alloc o).heap[g]? = some x := by
  rw [Below.heap_alloc w o g (Array.getElem?_eq_some_iff.1 h).1]; exact h
theorem J1.alloc (h : J1 w0 B SL n r1 r2 g1 g2 s done vals w) (o : Obj) : J1 w0 B SL n r1 r2 g1 g2 s done vals (w.alloc o) where
  d0 := h.d0
  d1 hd := ⟨(h.d1 hd).1, (h.d1 hd).2.1.alloc o, (h.d1 hd).2.2⟩
  d2 hd := ⟨(h.d2 hd).1, (h.d2 hd).2.1.alloc o, (h.d2 hd).2.2⟩
  d12 := h.d12
  d3 := h.d3
  d4 := h.d4
  d5 hd := ⟨(h.d5 hd).1, heap_keep (h.d5 hd).2.1, (h.d5 hd).2.2⟩
  d6 := h.d6
  d7 := h.d7
  d8 hd := ⟨(h.d8 hd).1, heap_keep (h.d8 hd).2.1, (h.d8 hd).2.2⟩
  d9 := h.d9
  d9' := h.d9'
  d10 hd := ⟨(h.d10 hd).1, by obtain ⟨cs, h1, h2⟩ := (h.d10 hd).2.1; exact ⟨cs, h1, heap_keep h2⟩, (h.d10 hd).2.2⟩
  d11 hd := heap_keep (h.d11 hd)
  d11' := h.d11'
  below := h.below.alloc h.size o
  size := by have := h.size; simp; omega
end
theorem setD_same {α : Type} (f : Nat → α) (i : Nat) (v : α) : setD f i v i = v := by simp [setD]
theorem setD_ne {α : Type} (f : Nat → α) {i j : Nat} (v : α) (h : j ≠ i) : setD f i v j = f j := by simp [setD, h]

section
variable {w0 w : World} {B n r1 r2 g1 g2 s : Nat} {SL : Value} {done : Nat → Bool} {vals : Nat → Value}
theorem J1.s0 (h : J1 w0 B SL n r1 r2 g1 g2 s done vals w) : J1 w0 B SL n r1 r2 g1 g2 s (setD done 0 true) (setD vals 0 (SL)) w where
  d0 _ := setD_same _ _ _
  d1 hd := by
    rw [setD_ne _ _ (by decide)] at hd
    rw [setD_ne _ _ (by decide)]
    exact h.d1 hd
  d2 hd := by
    rw [setD_ne _ _ (by decide)] at hd
    rw [setD_ne _ _ (by decide)]
    exact h.d2 hd
  d3 hd := by
    rw [setD_ne _ _ (by decide)] at hd
    rw [setD_ne _ _ (by decide)]
    exact h.d3 hd
  d4 hd := by
    rw [setD_ne _ _ (by decide)] at hd
    rw [setD_ne _ _ (by decide)]
    exact h.d4 hd
  d5 hd := by
    rw [setD_ne _ _ (by decide)] at hd
    rw [setD_ne _ _ (by decide)]
    exact h.d5 hd
  d6 hd := by
    rw [setD_ne _ _ (by decide)] at hd
    rw [setD_ne _ _ (by decide)]
    exact h.d6 hd
  d7 hd := by
    rw [setD_ne _ _ (by decide)] at hd
    rw [setD_ne _ _ (by decide)]
    exact h.d7 hd
  d8 hd := by
    rw [setD_ne _ _ (by decide)] at hd
    rw [setD_ne _ _ (by decide)]
    exact h.d8 hd
  d9 hd := by
    rw [setD_ne _ _ (by decide)] at hd
    rw [setD_ne _ _ (by decide)]
    exact h.d9 hd
  d10 hd := by
    rw [setD_ne _ _ (by decide)] at hd
    rw [setD_ne _ _ (by decide)]
    exact h.d10 hd
  d12 hd hd' := by
    rw [setD_ne _ _ (by decide)] at hd hd'
    exact h.d12 hd hd'
  d9' hd := by
    rw [setD_ne _ _ (by decide)] at hd
    rw [setD_ne _ _ (by decide), setD_ne _ _ (by decide), setD_ne _ _ (by decide), setD_ne _ _ (by decide)]
    exact h.d9' hd
  d11 hd := by
    rw [setD_ne _ _ (by decide)] at hd
    exact h.d11 hd
  d11' hd := by
    rw [setD_ne _ _ (by decide)] at hd
    rw [setD_ne _ _ (by decide), setD_ne _ _ (by decide)]
    exact h.d11' hd
  below := h.below
  size := h.size
theorem J1.s1 (h : J1 w0 B SL n r1 r2 g1 g2 s done vals w) (hi : done 1 = false) : J1 w0 B SL n w.heap.size r2 g1 g2 s (setD done 1 true) (setD vals 1 (.map (some w.heap.size))) (w.alloc (.map #[] 0)) where
  d0 hd := by
    rw [setD_ne _ _ (by decide)] at hd
    rw [setD_ne _ _ (by decide)]
    exact (h.alloc (.map #[] 0)).d0 hd
  d1 _ := ⟨setD_same _ _ _, MapIs.new _ _, h.size⟩
  d2 hd := by
    rw [setD_ne _ _ (by decide)] at hd
    rw [setD_ne _ _ (by decide)]
    exact (h.alloc (.map #[] 0)).d2 hd
  d3 hd := by
    rw [setD_ne _ _ (by decide)] at hd
    rw [setD_ne _ _ (by decide)]
    exact (h.alloc (.map #[] 0)).d3 hd
  d4 hd := by
    rw [setD_ne _ _ (by decide)] at hd
    rw [setD_ne _ _ (by decide)]
    exact (h.alloc (.map #[] 0)).d4 hd
  d5 hd := by
    rw [setD_ne _ _ (by decide)] at hd
    rw [setD_ne _ _ (by decide)]
    exact (h.alloc (.map #[] 0)).d5 hd
  d6 hd := by
    rw [setD_ne _ _ (by decide)] at hd
    rw [setD_ne _ _ (by decide)]
    exact (h.alloc (.map #[] 0)).d6 hd
  d7 hd := by
    rw [setD_ne _ _ (by decide)] at hd
    rw [setD_ne _ _ (by decide)]
    exact (h.alloc (.map #[] 0)).d7 hd
  d8 hd := by
    rw [setD_ne _ _ (by decide)] at hd
    rw [setD_ne _ _ (by decide)]
    exact (h.alloc (.map #[] 0)).d8 hd
  d9 hd := by
    rw [setD_ne _ _ (by decide)] at hd
    have := (h.d9' hd).1
    rw [hi] at this; cases this
  d10 hd := by
    rw [setD_ne _ _ (by decide)] at hd
    rw [setD_ne _ _ (by decide)]
    exact (h.alloc (.map #[] 0)).d10 hd
  d12 _ hd := by
    rw [setD_ne _ _ (by decide)] at hd
    have := (h.d2 hd).2.1.lt
    omega
  d9' hd := by
    rw [setD_ne _ _ (by decide)] at hd
    have := (h.d9' hd).1
    rw [hi] at this; cases this
  d11 hd := by
    rw [setD_ne _ _ (by decide)] at hd
    have := (h.d9' (h.d11' hd).1).1
    rw [hi] at this; cases this
  d11' hd := by
    rw [setD_ne _ _ (by decide)] at hd
    rw [setD_ne _ _ (by decide), setD_ne _ _ (by decide)]
    exact h.d11' hd
  below := (h.alloc (.map #[] 0)).below
  size := (h.alloc (.map #[] 0)).size
theorem J1.s2 (h : J1 w0 B SL n r1 r2 g1 g2 s done vals w) (hi : done 2 = false) : J1 w0 B SL n r1 w.heap.size g1 g2 s (setD done 2 true) (setD vals 2 (.map (some w.heap.size))) (w.alloc (.map #[] 0)) where
  d0 hd := by
    rw [setD_ne _ _ (by decide)] at hd
    rw [setD_ne _ _ (by decide)]
    exact (h.alloc (.map #[] 0)).d0 hd
  d1 hd := by
    rw [setD_ne _ _ (by decide)] at hd
    rw [setD_ne _ _ (by decide)]
    exact (h.alloc (.map #[] 0)).d1 hd
  d2 _ := ⟨setD_same _ _ _, MapIs.new _ _, h.size⟩
  d3 hd := by
    rw [setD_ne _ _ (by decide)] at hd
    rw [setD_ne _ _ (by decide)]
    exact (h.alloc (.map #[] 0)).d3 hd
  d4 hd := by
    rw [setD_ne _ _ (by decide)] at hd
    rw [setD_ne _ _ (by decide)]
    exact (h.alloc (.map #[] 0)).d4 hd
  d5 hd := by
    rw [setD_ne _ _ (by decide)] at hd
    rw [setD_ne _ _ (by decide)]
    exact (h.alloc (.map #[] 0)).d5 hd
  d6 hd := by
    rw [setD_ne _ _ (by decide)] at hd
    rw [setD_ne _ _ (by decide)]
    exact (h.alloc (.map #[] 0)).d6 hd
  d7 hd := by
    rw [setD_ne _ _ (by decide)] at hd
    rw [setD_ne _ _ (by decide)]
    exact (h.alloc (.map #[] 0)).d7 hd
  d8 hd := by
    rw [setD_ne _ _ (by decide)] at hd
    rw [setD_ne _ _ (by decide)]
    exact (h.alloc (.map #[] 0)).d8 hd
  d9 hd := by
    rw [setD_ne _ _ (by decide)] at hd
    have := (h.d9' hd).2.1
    rw [hi] at this; cases this
  d10 hd := by
    rw [setD_ne _ _ (by decide)] at hd
    rw [setD_ne _ _ (by decide)]
    exact (h.alloc (.map #[] 0)).d10 hd
  d12 hd _ := by
    rw [setD_ne _ _ (by decide)] at hd
    have := (h.d1 hd).2.1.lt
    omega
  d9' hd := by
    rw [setD_ne _ _ (by decide)] at hd
    have := (h.d9' hd).2.1
    rw [hi] at this; cases this
  d11 hd := by
    rw [setD_ne _ _ (by decide)] at hd
    have := (h.d9' (h.d11' hd).1).2.1
    rw [hi] at this; cases this
  d11' hd := by
    rw [setD_ne _ _ (by decide)] at hd
    rw [setD_ne _ _ (by decide), setD_ne _ _ (by decide)]
    exact h.d11' hd
  below := (h.alloc (.map #[] 0)).below
  size := (h.alloc (.map #[] 0)).size
theorem J1.s3 (h : J1 w0 B SL n r1 r2 g1 g2 s done vals w) : J1 w0 B SL n r1 r2 g1 g2 s (setD done 3 true) (setD vals 3 (SL)) w where
  d0 hd := by
    rw [setD_ne _ _ (by decide)] at hd
    rw [setD_ne _ _ (by decide)]
    exact h.d0 hd
  d1 hd := by
    rw [setD_ne _ _ (by decide)] at hd
    rw [setD_ne _ _ (by decide)]
    exact h.d1 hd
  d2 hd := by
    rw [setD_ne _ _ (by decide)] at hd
    rw [setD_ne _ _ (by decide)]
    exact h.d2 hd
  d3 _ := setD_same _ _ _
  d4 hd := by
    rw [setD_ne _ _ (by decide)] at hd
    rw [setD_ne _ _ (by decide)]
    exact h.d4 hd
  d5 hd := by
    rw [setD_ne _ _ (by decide)] at hd
    rw [setD_ne _ _ (by decide)]
    exact h.d5 hd
  d6 hd := by
    rw [setD_ne _ _ (by decide)] at hd
    rw [setD_ne _ _ (by decide)]
    exact h.d6 hd
  d7 hd := by
    rw [setD_ne _ _ (by decide)] at hd
    rw [setD_ne _ _ (by decide)]
    exact h.d7 hd
  d8 hd := by
    rw [setD_ne _ _ (by decide)] at hd
    rw [setD_ne _ _ (by decide)]
    exact h.d8 hd
  d9 hd := by
    rw [setD_ne _ _ (by decide)] at hd
    rw [setD_ne _ _ (by decide)]
    exact h.d9 hd
  d10 hd := by
    rw [setD_ne _ _ (by decide)] at hd
    rw [setD_ne _ _ (by decide)]
    exact h.d10 hd
  d12 hd hd' := by
    rw [setD_ne _ _ (by decide)] at hd hd'
    exact h.d12 hd hd'
  d9' hd := by
    rw [setD_ne _ _ (by decide)] at hd
    rw [setD_ne _ _ (by decide), setD_ne _ _ (by decide), setD_ne _ _ (by decide), setD_ne _ _ (by decide)]
    exact h.d9' hd
  d11 hd := by
    rw [setD_ne _ _ (by decide)] at hd
    exact h.d11 hd
  d11' hd := by
    rw [setD_ne _ _ (by decide)] at hd
    rw [setD_ne _ _ (by decide), setD_ne _ _ (by decide)]
    exact h.d11' hd
  below := h.below
  size := h.size
theorem J1.s4 (h : J1 w0 B SL n r1 r2 g1 g2 s done vals w) : J1 w0 B SL n r1 r2 g1 g2 s (setD done 4 true) (setD vals 4 (.int .i64 (n : Int))) w where
  d0 hd := by
    rw [setD_ne _ _ (by decide)] at hd
    rw [setD_ne _ _ (by decide)]
    exact h.d0 hd
  d1 hd := by
    rw [setD_ne _ _ (by decide)] at hd
    rw [setD_ne _ _ (by decide)]
    exact h.d1 hd
  d2 hd := by
    rw [setD_ne _ _ (by decide)] at hd
    rw [setD_ne _ _ (by decide)]
    exact h.d2 hd
  d3 hd := by
    rw [setD_ne _ _ (by decide)] at hd
    rw [setD_ne _ _ (by decide)]
    exact h.d3 hd
  d4 _ := setD_same _ _ _
  d5 hd := by
    rw [setD_ne _ _ (by decide)] at hd
    rw [setD_ne _ _ (by decide)]
    exact h.d5 hd
  d6 hd := by
    rw [setD_ne _ _ (by decide)] at hd
    rw [setD_ne _ _ (by decide)]
    exact h.d6 hd
  d7 hd := by
    rw [setD_ne _ _ (by decide)] at hd
    rw [setD_ne _ _ (by decide)]
    exact h.d7 hd
  d8 hd := by
    rw [setD_ne _ _ (by decide)] at hd
    rw [setD_ne _ _ (by decide)]
    exact h.d8 hd
  d9 hd := by
    rw [setD_ne _ _ (by decide)] at hd
    rw [setD_ne _ _ (by decide)]
    exact h.d9 hd
  d10 hd := by
    rw [setD_ne _ _ (by decide)] at hd
    rw [setD_ne _ _ (by decide)]
    exact h.d10 hd
  d12 hd hd' := by
    rw [setD_ne _ _ (by decide)] at hd hd'
    exact h.d12 hd hd'
  d9' hd := by
    rw [setD_ne _ _ (by decide)] at hd
    rw [setD_ne _ _ (by decide), setD_ne _ _ (by decide), setD_ne _ _ (by decide), setD_ne _ _ (by decide)]
    exact h.d9' hd
  d11 hd := by
    rw [setD_ne _ _ (by decide)] at hd
    exact h.d11 hd
  d11' hd := by
    rw [setD_ne _ _ (by decide)] at hd
    rw [setD_ne _ _ (by decide), setD_ne _ _ (by decide)]
    exact h.d11' hd
  below := h.below
  size := h.size
theorem J1.s5 (h : J1 w0 B SL n r1 r2 g1 g2 s done vals w) (hi : done 5 = false) : J1 w0 B SL n r1 r2 w.heap.size g2 s (setD done 5 true) (setD vals 5 (slAt w.heap.size n)) (w.alloc (.cells (Array.replicate n (.int .i64 0)) 3)) where
  d0 hd := by
    rw [setD_ne _ _ (by decide)] at hd
    rw [setD_ne _ _ (by decide)]
    exact (h.alloc (.cells (Array.replicate n (.int .i64 0)) 3)).d0 hd
  d1 hd := by
    rw [setD_ne _ _ (by decide)] at hd
    rw [setD_ne _ _ (by decide)]
    exact (h.alloc (.cells (Array.replicate n (.int .i64 0)) 3)).d1 hd
  d2 hd := by
    rw [setD_ne _ _ (by decide)] at hd
    rw [setD_ne _ _ (by decide)]
    exact (h.alloc (.cells (Array.replicate n (.int .i64 0)) 3)).d2 hd
  d3 hd := by
    rw [setD_ne _ _ (by decide)] at hd
    rw [setD_ne _ _ (by decide)]
    exact (h.alloc (.cells (Array.replicate n (.int .i64 0)) 3)).d3 hd
  d4 hd := by
    rw [setD_ne _ _ (by decide)] at hd
    rw [setD_ne _ _ (by decide)]
    exact (h.alloc (.cells (Array.replicate n (.int .i64 0)) 3)).d4 hd
  d5 _ := ⟨setD_same _ _ _, heap_alloc_new _ _, h.size⟩
  d6 hd := by
    rw [setD_ne _ _ (by decide)] at hd
    rw [setD_ne _ _ (by decide)]
    exact (h.alloc (.cells (Array.replicate n (.int .i64 0)) 3)).d6 hd
  d7 hd := by
    rw [setD_ne _ _ (by decide)] at hd
    rw [setD_ne _ _ (by decide)]
    exact (h.alloc (.cells (Array.replicate n (.int .i64 0)) 3)).d7 hd
  d8 hd := by
    rw [setD_ne _ _ (by decide)] at hd
    rw [setD_ne _ _ (by decide)]
    exact (h.alloc (.cells (Array.replicate n (.int .i64 0)) 3)).d8 hd
  d9 hd := by
    rw [setD_ne _ _ (by decide)] at hd
    have := (h.d9' hd).2.2.1
    rw [hi] at this; cases this
  d10 hd := by
    rw [setD_ne _ _ (by decide)] at hd
    rw [setD_ne _ _ (by decide)]
    exact (h.alloc (.cells (Array.replicate n (.int .i64 0)) 3)).d10 hd
  d12 hd hd' := by
    rw [setD_ne _ _ (by decide)] at hd hd'
    exact h.d12 hd hd'
  d9' hd := by
    rw [setD_ne _ _ (by decide)] at hd
    have := (h.d9' hd).2.2.1
    rw [hi] at this; cases this
  d11 hd := by
    rw [setD_ne _ _ (by decide)] at hd
    have := (h.d9' (h.d11' hd).1).2.2.1
    rw [hi] at this; cases this
  d11' hd := by
    rw [setD_ne _ _ (by decide)] at hd
    rw [setD_ne _ _ (by decide), setD_ne _ _ (by decide)]
    exact h.d11' hd
  below := (h.alloc (.cells (Array.replicate n (.int .i64 0)) 3)).below
  size := (h.alloc (.cells (Array.replicate n (.int .i64 0)) 3)).size
theorem J1.s6 (h : J1 w0 B SL n r1 r2 g1 g2 s done vals w) : J1 w0 B SL n r1 r2 g1 g2 s (setD done 6 true) (setD vals 6 (SL)) w where
  d0 hd := by
    rw [setD_ne _ _ (by decide)] at hd
    rw [setD_ne _ _ (by decide)]
    exact h.d0 hd
  d1 hd := by
    rw [setD_ne _ _ (by decide)] at hd
    rw [setD_ne _ _ (by decide)]
    exact h.d1 hd
  d2 hd := by
    rw [setD_ne _ _ (by decide)] at hd
    rw [setD_ne _ _ (by decide)]
    exact h.d2 hd
  d3 hd := by
    rw [setD_ne _ _ (by decide)] at hd
    rw [setD_ne _ _ (by decide)]
    exact h.d3 hd
  d4 hd := by
    rw [setD_ne _ _ (by decide)] at hd
    rw [setD_ne _ _ (by decide)]
    exact h.d4 hd
  d5 hd := by
    rw [setD_ne _ _ (by decide)] at hd
    rw [setD_ne _ _ (by decide)]
    exact h.d5 hd
  d6 _ := setD_same _ _ _
  d7 hd := by
    rw [setD_ne _ _ (by decide)] at hd
    rw [setD_ne _ _ (by decide)]
    exact h.d7 hd
  d8 hd := by
    rw [setD_ne _ _ (by decide)] at hd
    rw [setD_ne _ _ (by decide)]
    exact h.d8 hd
  d9 hd := by
    rw [setD_ne _ _ (by decide)] at hd
    rw [setD_ne _ _ (by decide)]
    exact h.d9 hd
  d10 hd := by
    rw [setD_ne _ _ (by decide)] at hd
    rw [setD_ne _ _ (by decide)]
    exact h.d10 hd
  d12 hd hd' := by
    rw [setD_ne _ _ (by decide)] at hd hd'
    exact h.d12 hd hd'
  d9' hd := by
    rw [setD_ne _ _ (by decide)] at hd
    rw [setD_ne _ _ (by decide), setD_ne _ _ (by decide), setD_ne _ _ (by decide), setD_ne _ _ (by decide)]
    exact h.d9' hd
  d11 hd := by
    rw [setD_ne _ _ (by decide)] at hd
    exact h.d11 hd
  d11' hd := by
    rw [setD_ne _ _ (by decide)] at hd
    rw [setD_ne _ _ (by decide), setD_ne _ _ (by decide)]
    exact h.d11' hd
  below := h.below
  size := h.size
theorem J1.s7 (h : J1 w0 B SL n r1 r2 g1 g2 s done vals w) : J1 w0 B SL n r1 r2 g1 g2 s (setD done 7 true) (setD vals 7 (.int .i64 (n : Int))) w where
  d0 hd := by
    rw [setD_ne _ _ (by decide)] at hd
    rw [setD_ne _ _ (by decide)]
    exact h.d0 hd
  d1 hd := by
    rw [setD_ne _ _ (by decide)] at hd
    rw [setD_ne _ _ (by decide)]
    exact h.d1 hd
  d2 hd := by
    rw [setD_ne _ _ (by decide)] at hd
    rw [setD_ne _ _ (by decide)]
    exact h.d2 hd
  d3 hd := by
    rw [setD_ne _ _ (by decide)] at hd
    rw [setD_ne _ _ (by decide)]
    exact h.d3 hd
  d4 hd := by
    rw [setD_ne _ _ (by decide)] at hd
    rw [setD_ne _ _ (by decide)]
    exact h.d4 hd
  d5 hd := by
    rw [setD_ne _ _ (by decide)] at hd
    rw [setD_ne _ _ (by decide)]
    exact h.d5 hd
  d6 hd := by
    rw [setD_ne _ _ (by decide)] at hd
    rw [setD_ne _ _ (by decide)]
    exact h.d6 hd
  d7 _ := setD_same _ _ _
  d8 hd := by
    rw [setD_ne _ _ (by decide)] at hd
    rw [setD_ne _ _ (by decide)]
    exact h.d8 hd
  d9 hd := by
    rw [setD_ne _ _ (by decide)] at hd
    rw [setD_ne _ _ (by decide)]
    exact h.d9 hd
  d10 hd := by
    rw [setD_ne _ _ (by decide)] at hd
    rw [setD_ne _ _ (by decide)]
    exact h.d10 hd
  d12 hd hd' := by
    rw [setD_ne _ _ (by decide)] at hd hd'
    exact h.d12 hd hd'
  d9' hd := by
    rw [setD_ne _ _ (by decide)] at hd
    rw [setD_ne _ _ (by decide), setD_ne _ _ (by decide), setD_ne _ _ (by decide), setD_ne _ _ (by decide)]
    exact h.d9' hd
  d11 hd := by
    rw [setD_ne _ _ (by decide)] at hd
    exact h.d11 hd
  d11' hd := by
    rw [setD_ne _ _ (by decide)] at hd
    rw [setD_ne _ _ (by decide), setD_ne _ _ (by decide)]
    exact h.d11' hd
  below := h.below
  size := h.size
theorem J1.s8 (h : J1 w0 B SL n r1 r2 g1 g2 s done vals w) (hi : done 8 = false) : J1 w0 B SL n r1 r2 g1 w.heap.size s (setD done 8 true) (setD vals 8 (slAt w.heap.size n)) (w.alloc (.cells (Array.replicate n nilSl) 73)) where
  d0 hd := by
    rw [setD_ne _ _ (by decide)] at hd
    rw [setD_ne _ _ (by decide)]
    exact (h.alloc (.cells (Array.replicate n nilSl) 73)).d0 hd
  d1 hd := by
    rw [setD_ne _ _ (by decide)] at hd
    rw [setD_ne _ _ (by decide)]
    exact (h.alloc (.cells (Array.replicate n nilSl) 73)).d1 hd
  d2 hd := by
    rw [setD_ne _ _ (by decide)] at hd
    rw [setD_ne _ _ (by decide)]
    exact (h.alloc (.cells (Array.replicate n nilSl) 73)).d2 hd
  d3 hd := by
    rw [setD_ne _ _ (by decide)] at hd
    rw [setD_ne _ _ (by decide)]
    exact (h.alloc (.cells (Array.replicate n nilSl) 73)).d3 hd
  d4 hd := by
    rw [setD_ne _ _ (by decide)] at hd
    rw [setD_ne _ _ (by decide)]
    exact (h.alloc (.cells (Array.replicate n nilSl) 73)).d4 hd
  d5 hd := by
    rw [setD_ne _ _ (by decide)] at hd
    rw [setD_ne _ _ (by decide)]
    exact (h.alloc (.cells (Array.replicate n nilSl) 73)).d5 hd
  d6 hd := by
    rw [setD_ne _ _ (by decide)] at hd
    rw [setD_ne _ _ (by decide)]
    exact (h.alloc (.cells (Array.replicate n nilSl) 73)).d6 hd
  d7 hd := by
    rw [setD_ne _ _ (by decide)] at hd
    rw [setD_ne _ _ (by decide)]
    exact (h.alloc (.cells (Array.replicate n nilSl) 73)).d7 hd
  d8 _ := ⟨setD_same _ _ _, heap_alloc_new _ _, h.size⟩
  d9 hd := by
    rw [setD_ne _ _ (by decide)] at hd
    have := (h.d9' hd).2.2.2
    rw [hi] at this; cases this
  d10 hd := by
    rw [setD_ne _ _ (by decide)] at hd
    rw [setD_ne _ _ (by decide)]
    exact (h.alloc (.cells (Array.replicate n nilSl) 73)).d10 hd
  d12 hd hd' := by
    rw [setD_ne _ _ (by decide)] at hd hd'
    exact h.d12 hd hd'
  d9' hd := by
    rw [setD_ne _ _ (by decide)] at hd
    have := (h.d9' hd).2.2.2
    rw [hi] at this; cases this
  d11 hd := by
    rw [setD_ne _ _ (by decide)] at hd
    have := (h.d9' (h.d11' hd).1).2.2.2
    rw [hi] at this; cases this
  d11' hd := by
    rw [setD_ne _ _ (by decide)] at hd
    rw [setD_ne _ _ (by decide), setD_ne _ _ (by decide)]
    exact h.d11' hd
  below := (h.alloc (.cells (Array.replicate n nilSl) 73)).below
  size := (h.alloc (.cells (Array.replicate n nilSl) 73)).size
theorem J1.s9 (h : J1 w0 B SL n r1 r2 g1 g2 s done vals w) (h1 : done 1 = true) (h2 : done 2 = true) (h5 : done 5 = true) (h8 : done 8 = true) : J1 w0 B SL n r1 r2 g1 g2 s (setD done 9 true) (setD vals 9 (.agg (boxOf SL nilSl r1 r2 g1 g2 n))) w where
  d0 hd := by
    rw [setD_ne _ _ (by decide)] at hd
    rw [setD_ne _ _ (by decide)]
    exact h.d0 hd
  d1 hd := by
    rw [setD_ne _ _ (by decide)] at hd
    rw [setD_ne _ _ (by decide)]
    exact h.d1 hd
  d2 hd := by
    rw [setD_ne _ _ (by decide)] at hd
    rw [setD_ne _ _ (by decide)]
    exact h.d2 hd
  d3 hd := by
    rw [setD_ne _ _ (by decide)] at hd
    rw [setD_ne _ _ (by decide)]
    exact h.d3 hd
  d4 hd := by
    rw [setD_ne _ _ (by decide)] at hd
    rw [setD_ne _ _ (by decide)]
    exact h.d4 hd
  d5 hd := by
    rw [setD_ne _ _ (by decide)] at hd
    rw [setD_ne _ _ (by decide)]
    exact h.d5 hd
  d6 hd := by
    rw [setD_ne _ _ (by decide)] at hd
    rw [setD_ne _ _ (by decide)]
    exact h.d6 hd
  d7 hd := by
    rw [setD_ne _ _ (by decide)] at hd
    rw [setD_ne _ _ (by decide)]
    exact h.d7 hd
  d8 hd := by
    rw [setD_ne _ _ (by decide)] at hd
    rw [setD_ne _ _ (by decide)]
    exact h.d8 hd
  d9 _ := setD_same _ _ _
  d10 hd := by
    rw [setD_ne _ _ (by decide)] at hd
    rw [setD_ne _ _ (by decide)]
    exact h.d10 hd
  d12 hd hd' := by
    rw [setD_ne _ _ (by decide)] at hd hd'
    exact h.d12 hd hd'
  d9' _ := by
    rw [setD_ne _ _ (by decide), setD_ne _ _ (by decide), setD_ne _ _ (by decide), setD_ne _ _ (by decide)]
    exact ⟨h1, h2, h5, h8⟩
  d11 hd := by
    rw [setD_ne _ _ (by decide)] at hd
    exact h.d11 hd
  d11' hd := by
    rw [setD_ne _ _ (by decide)] at hd
    rw [setD_ne _ _ (show (10 : Nat) ≠ 9 by decide)]
    exact ⟨setD_same _ _ _, (h.d11' hd).2⟩
  below := h.below
  size := h.size
theorem J1.s10 (h : J1 w0 B SL n r1 r2 g1 g2 s done vals w) (hi : done 10 = false) (cs : Array Value) (hcs : cs.size = 6) : J1 w0 B SL n r1 r2 g1 g2 w.heap.size (setD done 10 true) (setD vals 10 (.pointer (some ⟨w.heap.size, 0, none⟩))) (w.alloc (.cells cs 76)) where
  d0 hd := by
    rw [setD_ne _ _ (by decide)] at hd
    rw [setD_ne _ _ (by decide)]
    exact (h.alloc (.cells cs 76)).d0 hd
  d1 hd := by
    rw [setD_ne _ _ (by decide)] at hd
    rw [setD_ne _ _ (by decide)]
    exact (h.alloc (.cells cs 76)).d1 hd
  d2 hd := by
    rw [setD_ne _ _ (by decide)] at hd
    rw [setD_ne _ _ (by decide)]
    exact (h.alloc (.cells cs 76)).d2 hd
  d3 hd := by
    rw [setD_ne _ _ (by decide)] at hd
    rw [setD_ne _ _ (by decide)]
    exact (h.alloc (.cells cs 76)).d3 hd
  d4 hd := by
    rw [setD_ne _ _ (by decide)] at hd
    rw [setD_ne _ _ (by decide)]
    exact (h.alloc (.cells cs 76)).d4 hd
  d5 hd := by
    rw [setD_ne _ _ (by decide)] at hd
    rw [setD_ne _ _ (by decide)]
    exact (h.alloc (.cells cs 76)).d5 hd
  d6 hd := by
    rw [setD_ne _ _ (by decide)] at hd
    rw [setD_ne _ _ (by decide)]
    exact (h.alloc (.cells cs 76)).d6 hd
  d7 hd := by
    rw [setD_ne _ _ (by decide)] at hd
    rw [setD_ne _ _ (by decide)]
    exact (h.alloc (.cells cs 76)).d7 hd
  d8 hd := by
    rw [setD_ne _ _ (by decide)] at hd
    rw [setD_ne _ _ (by decide)]
    exact (h.alloc (.cells cs 76)).d8 hd
  d9 hd := by
    rw [setD_ne _ _ (by decide)] at hd
    rw [setD_ne _ _ (by decide)]
    exact (h.alloc (.cells cs 76)).d9 hd
  d10 _ := ⟨setD_same _ _ _, ⟨cs, hcs, heap_alloc_new _ _⟩, h.size⟩
  d12 hd hd' := by
    rw [setD_ne _ _ (by decide)] at hd hd'
    exact h.d12 hd hd'
  d9' hd := by
    rw [setD_ne _ _ (by decide)] at hd
    rw [setD_ne _ _ (by decide), setD_ne _ _ (by decide), setD_ne _ _ (by decide), setD_ne _ _ (by decide)]
    exact h.d9' hd
  d11 hd := by
    rw [setD_ne _ _ (by decide)] at hd
    have := (h.d11' hd).2
    rw [hi] at this; cases this
  d11' hd := by
    rw [setD_ne _ _ (by decide)] at hd
    rw [setD_ne _ _ (show (9 : Nat) ≠ 10 by decide)]
    exact ⟨(h.d11' hd).1, setD_same _ _ _⟩
  below := (h.alloc (.cells cs 76)).below
  size := (h.alloc (.cells cs 76)).size
end
end Go.Proofs.YtlcfgejaeecclaaGreatDoor
