/- Package right (places): the first statement of newWorld. -/
import Derived.Test.YtnjepmbonhmdnaaDoorPgC
namespace Go.Proofs.YtnjepmbonhmdnaaDoor
open Go.RowKit Dw

theorem boxOf_size (SL lv : Value) (r1 r2 g1 g2 n : Nat) : (boxOf SL lv r1 r2 g1 g2 n).size = 6 := rfl

theorem run_store6 {w : World} {s : Nat} {cs : Array Value} (hcs : cs.size = 6) (hs : w.heap[s]? = some (.cells cs 45 (0, 0))) (new : Array Value) (hn : new.size = 6) (h1 : ∀ v ∈ new.toList, v.oneCell' = true) :
    (Instr.storeAt 45 (.pointer (some ⟨s, 0, none⟩)) (.agg new)).run Tryd.prog w = .ok () (w.setRow s new) := by
  have hst := run_storeCells_at Tryd.prog s 0 45 new.toList 0 cs w hs (by simp [hn, hcs]) h1
  have e : (cs.toList.take (0 + 0) ++ new.toList ++ cs.toList.drop (0 + 0 + new.toList.length)).toArray = new := by
    have : cs.toList.drop (0 + 0 + new.toList.length) = [] := List.drop_of_length_le (by simp [hn, hcs])
    rw [this]; simp
  rw [e] at hst
  have hsz : (sizeOf 45).run Tryd.prog w = .ok 6 w := by kernel_rfl
  simp [Instr.storeAt, Instr.sureAddr, storeVar, hsz, Value.cells, hn, hst]

theorem J1.s11 {w0 w : World} {B n r1 r2 g1 g2 s : Nat} {SL : Value} {done : Nat → Bool} {vals : Nat → Value} (h : J1 w0 B SL n r1 r2 g1 g2 s done vals w) (h9 : done 9 = true) (h10 : done 10 = true) (v : Value) :
    J1 w0 B SL n r1 r2 g1 g2 s (setD done 11 true) (setD vals 11 v) (w.setRow s (boxOf SL nilSl r1 r2 g1 g2 n)) := by
  obtain ⟨hv, ⟨cs, hcs, hs⟩, hB⟩ := h.d10 h10
  have hne : ∀ {k : Nat}, k ≠ s → (w.setRow s (boxOf SL nilSl r1 r2 g1 g2 n)).heap[k]? = w.heap[k]? := fun hk => setRow_other w s _ _ hk
  have hmap : ∀ {r : Nat} {f : ByteArray → Option Value}, MapIs Value.string w r f → r ≠ s := fun hm e => by
    obtain ⟨es, clk, L, hr, _⟩ := hm
    rw [e, hs] at hr; cases hr
  have hcell : ∀ {g : Nat} {c : Array Value} {t : TypeId}, t ≠ 45 → w.heap[g]? = some (.cells c t (0, 0)) → g ≠ s := fun ht hg e => by
    rw [e, hs] at hg
    injection hg with hg
    injection hg with _ hg
    exact ht hg.symm
  exact {
    d0 := fun hd => by rw [setD_ne _ _ (by decide)] at hd ⊢; exact h.d0 hd
    d1 := fun hd => by
      rw [setD_ne _ _ (by decide)] at hd ⊢
      obtain ⟨h1, h2, h3⟩ := h.d1 hd
      exact ⟨h1, h2.keep (hne (hmap h2)), h3⟩
    d2 := fun hd => by
      rw [setD_ne _ _ (by decide)] at hd ⊢
      obtain ⟨h1, h2, h3⟩ := h.d2 hd
      exact ⟨h1, h2.keep (hne (hmap h2)), h3⟩
    d12 := fun hd hd' => by rw [setD_ne _ _ (by decide)] at hd hd'; exact h.d12 hd hd'
    d3 := fun hd => by rw [setD_ne _ _ (by decide)] at hd ⊢; exact h.d3 hd
    d4 := fun hd => by rw [setD_ne _ _ (by decide)] at hd ⊢; exact h.d4 hd
    d5 := fun hd => by
      rw [setD_ne _ _ (by decide)] at hd ⊢
      obtain ⟨h1, h2, h3⟩ := h.d5 hd
      exact ⟨h1, (hne (hcell (by decide) h2)).trans h2, h3⟩
    d6 := fun hd => by rw [setD_ne _ _ (by decide)] at hd ⊢; exact h.d6 hd
    d7 := fun hd => by rw [setD_ne _ _ (by decide)] at hd ⊢; exact h.d7 hd
    d8 := fun hd => by
      rw [setD_ne _ _ (by decide)] at hd ⊢
      obtain ⟨h1, h2, h3⟩ := h.d8 hd
      exact ⟨h1, (hne (hcell (by decide) h2)).trans h2, h3⟩
    d9 := fun hd => by rw [setD_ne _ _ (by decide)] at hd ⊢; exact h.d9 hd
    d9' := fun hd => by
      rw [setD_ne _ _ (by decide)] at hd
      rw [setD_ne _ _ (by decide), setD_ne _ _ (by decide), setD_ne _ _ (by decide), setD_ne _ _ (by decide)]
      exact h.d9' hd
    d10 := fun hd => by
      rw [setD_ne _ _ (by decide)] at hd ⊢
      exact ⟨(h.d10 hd).1, ⟨_, boxOf_size _ _ _ _ _ _ _, setRow_heap w s cs _ _ _ hs⟩, hB⟩
    d11 := fun _ => setRow_heap w s cs _ _ _ hs
    d11' := fun _ => by
      rw [setD_ne _ _ (by decide), setD_ne _ _ (by decide)]
      exact ⟨h9, h10⟩
    below := ⟨h.below.os, h.below.tape, h.below.output, by simpa using h.below.size, fun k hk => (hne (by omega)).trans (h.below.block k hk)⟩
    size := by simpa using h.size }

/-- The first statement of newWorld, in whatever order it goes. -/
theorem region1 {ops : Array Oper} {Q : Exit → Act → World → Prop} {a0 : Act} {w : World} {id : Nat} {A : Option Addr} {n c : Nat} (hn : n ≤ 200) (hsz : ops.size = 12) (hap : apartB ops = true) (hb : backB ops = true) (hk0 : notDst ops 0 = true)
    (ha0 : a0.eval (.tmp 0) = .slice A n c) (has : 22 < a0.tmps.size)
    (o0 : ∃ ty ps af, ops[0]? = some ⟨some 13, .move (.tmp 0), ty, ps, af, none⟩)
    (o1 : ∃ ty ps af, ops[1]? = some ⟨some 14, .makeMap 41 none, ty, ps, af, none⟩)
    (o2 : ∃ ty ps af, ops[2]? = some ⟨some 15, .makeMap 41 none, ty, ps, af, none⟩)
    (o3 : ∃ ty ps af, ops[3]? = some ⟨some 16, .move (.tmp 0), ty, ps, af, none⟩)
    (o4 : ∃ ty ps af, ops[4]? = some ⟨some 17, .call { callee := .builtin .len, args := #[.tmp 16], argTypes := #[22] }, ty, ps, af, none⟩)
    (o5 : ∃ ty ps af, ops[5]? = some ⟨some 18, .makeSlice 42 (.tmp 17) (.tmp 17), ty, ps, af, none⟩)
    (o6 : ∃ ty ps af, ops[6]? = some ⟨some 19, .move (.tmp 0), ty, ps, af, none⟩)
    (o7 : ∃ ty ps af, ops[7]? = some ⟨some 20, .call { callee := .builtin .len, args := #[.tmp 19], argTypes := #[22] }, ty, ps, af, none⟩)
    (o8 : ∃ ty ps af, ops[8]? = some ⟨some 21, .makeSlice 43 (.tmp 20) (.tmp 20), ty, ps, af, none⟩)
    (o9 : ∃ ty ps af, ops[9]? = some ⟨some 22, .build 45 #[(0, .tmp 13), (1, .tmp 14), (3, .tmp 15), (4, .tmp 18), (5, .tmp 21)], ty, ps, af, none⟩)
    (o10 : ∃ ty ps af, ops[10]? = some ⟨some 3, .alloc 45, ty, ps, af, none⟩)
    (o11 : ∃ ty ps af, ops[11]? = some ⟨none, .store 45 (.tmp 3) (.tmp 22), ty, ps, af, none⟩)
    (e43 : depB ops 4 3 = true) (e54 : depB ops 5 4 = true) (e76 : depB ops 7 6 = true) (e87 : depB ops 8 7 = true)
    (e90 : depB ops 9 0 = true) (e91 : depB ops 9 1 = true) (e92 : depB ops 9 2 = true) (e95 : depB ops 9 5 = true) (e98 : depB ops 9 8 = true) (e119 : depB ops 11 9 = true) (e1110 : depB ops 11 10 = true)
    (hK : ∀ (r1 r2 g1 g2 s : Nat) (vals : Nat → Value) (w' : World), NW w w' w.heap.size (.slice A n c) nilSl r1 r2 g1 g2 s n (fun _ => none) (fun _ => none) (Array.replicate n (.int .i64 0)) (Array.replicate n nilSl) →
      vals 0 = .slice A n c → vals 1 = .map (some r1) → vals 2 = .map (some r2) → vals 3 = .slice A n c → vals 4 = .int .i64 (n : Int) → vals 5 = slAt g1 n → vals 6 = .slice A n c → vals 7 = .int .i64 (n : Int) → vals 8 = slAt g2 n →
      vals 9 = .agg (boxOf (.slice A n c) nilSl r1 r2 g1 g2 n) → vals 10 = .pointer (some ⟨s, 0, none⟩) → Q .normal (putAll ops vals (List.range 12) a0) w') :
    (Code.region id ops true).wp Tryd.prog Q a0 w := by
  have hAp := apart_of hap
  refine wp_region_inv (by kernel_rfl) hAp hb (fun _ => undef) (fun done vals w' => ∃ r1 r2 g1 g2 s, J1 w w.heap.size (.slice A n c) n r1 r2 g1 g2 s done vals w') ?_ ?_ ?_
  · exact ⟨0, 0, 0, 0, 0, by simp, by simp, by simp, by simp, by simp, by simp, by simp, by simp, by simp, by simp, by simp, by simp, by simp, by simp, by simp, (Below.refl _ _).drew, Nat.le_refl _⟩
  · intro i done vals w1 hi ⟨r1, r2, g1, g2, s, hJ⟩ hd hdep
    rw [hsz] at hi
    have hlen : ∀ ty : TypeId, (Builtin.len_ #[22] ty #[.slice A n c]).run Tryd.prog w1 = .ok (.int .i64 (n : Int)) w1 := fun _ => by kernel_rfl
    have hev0 : (putAll ops vals (doneL ops.size done) a0).eval (.tmp 0) = .slice A n c := (eval_kept hk0).trans ha0
    match i, hi with
    | 0, _ =>
      obtain ⟨ty, ps, af, ho⟩ := o0
      refine wpOp_value ho rfl (v := .slice A n c) (w' := w1) (by simp [execOp, hev0]) ⟨_, by rw [ho]; rfl, _, _, _, _, _, hJ.s0⟩
    | 1, _ =>
      obtain ⟨ty, ps, af, ho⟩ := o1
      refine wpOp_value ho rfl (v := .map (some w1.heap.size)) (w' := w1.alloc (.map #[] 0)) (by simp [execOp, run_makeMap]) ⟨_, by rw [ho]; rfl, _, _, _, _, _, hJ.s1 hd⟩
    | 2, _ =>
      obtain ⟨ty, ps, af, ho⟩ := o2
      refine wpOp_value ho rfl (v := .map (some w1.heap.size)) (w' := w1.alloc (.map #[] 0)) (by simp [execOp, run_makeMap]) ⟨_, by rw [ho]; rfl, _, _, _, _, _, hJ.s2 hd⟩
    | 3, _ =>
      obtain ⟨ty, ps, af, ho⟩ := o3
      refine wpOp_value ho rfl (v := .slice A n c) (w' := w1) (by simp [execOp, hev0]) ⟨_, by rw [ho]; rfl, _, _, _, _, _, hJ.s3⟩
    | 4, _ =>
      obtain ⟨ty, ps, af, ho⟩ := o4
      have h3 := dep_of e43 hdep
      have hev : (putAll ops vals (doneL ops.size done) a0).eval (.tmp 16) = .slice A n c := by
        obtain ⟨ty', ps', af', ho'⟩ := o3
        rw [eval_done hAp (a := a0) (j := 3) (d := 16) (by omega) (by rw [ho']; rfl) h3 (Nat.lt_of_le_of_lt (m := 22) (by decide) has), hJ.d3 h3]
      refine wpOp_value ho rfl (v := .int .i64 (n : Int)) (w' := w1) (by simp [execOp, resolve, invoke, builtin, hev, hlen]) ⟨_, by rw [ho]; rfl, _, _, _, _, _, hJ.s4⟩
    | 5, _ =>
      obtain ⟨ty, ps, af, ho⟩ := o5
      have h4 := dep_of e54 hdep
      have hev : (putAll ops vals (doneL ops.size done) a0).eval (.tmp 17) = .int .i64 (n : Int) := by
        obtain ⟨ty', ps', af', ho'⟩ := o4
        rw [eval_done hAp (a := a0) (j := 4) (d := 17) (by omega) (by rw [ho']; rfl) h4 (Nat.lt_of_le_of_lt (m := 22) (by decide) has), hJ.d4 h4]
      refine wpOp_value ho rfl (v := slAt w1.heap.size n) (w' := w1.alloc (.cells (Array.replicate n (.int .i64 0)) 3)) (by simp [execOp, hev, run_make_n _ _ elInt n (by omega) (by omega) rfl]) ⟨_, by rw [ho]; rfl, _, _, _, _, _, hJ.s5 hd⟩
    | 6, _ =>
      obtain ⟨ty, ps, af, ho⟩ := o6
      refine wpOp_value ho rfl (v := .slice A n c) (w' := w1) (by simp [execOp, hev0]) ⟨_, by rw [ho]; rfl, _, _, _, _, _, hJ.s6⟩
    | 7, _ =>
      obtain ⟨ty, ps, af, ho⟩ := o7
      have h3 := dep_of e76 hdep
      have hev : (putAll ops vals (doneL ops.size done) a0).eval (.tmp 19) = .slice A n c := by
        obtain ⟨ty', ps', af', ho'⟩ := o6
        rw [eval_done hAp (a := a0) (j := 6) (d := 19) (by omega) (by rw [ho']; rfl) h3 (Nat.lt_of_le_of_lt (m := 22) (by decide) has), hJ.d6 h3]
      refine wpOp_value ho rfl (v := .int .i64 (n : Int)) (w' := w1) (by simp [execOp, resolve, invoke, builtin, hev, hlen]) ⟨_, by rw [ho]; rfl, _, _, _, _, _, hJ.s7⟩
    | 8, _ =>
      obtain ⟨ty, ps, af, ho⟩ := o8
      have h4 := dep_of e87 hdep
      have hev : (putAll ops vals (doneL ops.size done) a0).eval (.tmp 20) = .int .i64 (n : Int) := by
        obtain ⟨ty', ps', af', ho'⟩ := o7
        rw [eval_done hAp (a := a0) (j := 7) (d := 20) (by omega) (by rw [ho']; rfl) h4 (Nat.lt_of_le_of_lt (m := 22) (by decide) has), hJ.d7 h4]
      refine wpOp_value ho rfl (v := slAt w1.heap.size n) (w' := w1.alloc (.cells (Array.replicate n nilSl) 42)) (by simp [execOp, hev, run_make_n _ _ elInts n (by omega) (by omega) rfl]) ⟨_, by rw [ho]; rfl, _, _, _, _, _, hJ.s8 hd⟩
    | 9, _ =>
      obtain ⟨ty, ps, af, ho⟩ := o9
      have q0 := dep_of e90 hdep
      have q1 := dep_of e91 hdep
      have q2 := dep_of e92 hdep
      have q5 := dep_of e95 hdep
      have q8 := dep_of e98 hdep
      have ev0 : (putAll ops vals (doneL ops.size done) a0).eval (.tmp 13) = .slice A n c := by
        obtain ⟨ty', ps', af', ho'⟩ := o0
        rw [eval_done hAp (a := a0) (j := 0) (d := 13) (by omega) (by rw [ho']; rfl) q0 (Nat.lt_of_le_of_lt (m := 22) (by decide) has), hJ.d0 q0]
      have ev1 : (putAll ops vals (doneL ops.size done) a0).eval (.tmp 14) = .map (some r1) := by
        obtain ⟨ty', ps', af', ho'⟩ := o1
        rw [eval_done hAp (a := a0) (j := 1) (d := 14) (by omega) (by rw [ho']; rfl) q1 (Nat.lt_of_le_of_lt (m := 22) (by decide) has), (hJ.d1 q1).1]
      have ev2 : (putAll ops vals (doneL ops.size done) a0).eval (.tmp 15) = .map (some r2) := by
        obtain ⟨ty', ps', af', ho'⟩ := o2
        rw [eval_done hAp (a := a0) (j := 2) (d := 15) (by omega) (by rw [ho']; rfl) q2 (Nat.lt_of_le_of_lt (m := 22) (by decide) has), (hJ.d2 q2).1]
      have ev5 : (putAll ops vals (doneL ops.size done) a0).eval (.tmp 18) = slAt g1 n := by
        obtain ⟨ty', ps', af', ho'⟩ := o5
        rw [eval_done hAp (a := a0) (j := 5) (d := 18) (by omega) (by rw [ho']; rfl) q5 (Nat.lt_of_le_of_lt (m := 22) (by decide) has), (hJ.d5 q5).1]
      have ev8 : (putAll ops vals (doneL ops.size done) a0).eval (.tmp 21) = slAt g2 n := by
        obtain ⟨ty', ps', af', ho'⟩ := o8
        rw [eval_done hAp (a := a0) (j := 8) (d := 21) (by omega) (by rw [ho']; rfl) q8 (Nat.lt_of_le_of_lt (m := 22) (by decide) has), (hJ.d8 q8).1]
      have hbuild : (Instr.build 45 #[(0, .slice A n c), (1, .map (some r1)), (3, .map (some r2)), (4, slAt g1 n), (5, slAt g2 n)]).run Tryd.prog w1 = .ok (.agg (boxOf (.slice A n c) nilSl r1 r2 g1 g2 n)) w1 := by kernel_rfl
      refine wpOp_value ho rfl (v := .agg (boxOf (.slice A n c) nilSl r1 r2 g1 g2 n)) (w' := w1) (by simp [execOp, ev0, ev1, ev2, ev5, ev8, hbuild]) ⟨_, by rw [ho]; rfl, _, _, _, _, _, hJ.s9 q1 q2 q5 q8⟩
    | 10, _ =>
      obtain ⟨ty, ps, af, ho⟩ := o10
      have halloc : (Instr.alloc 45 true (.tuple #[])).run Tryd.prog w1 = .ok (.pointer (some ⟨w1.heap.size, 0, none⟩)) (w1.alloc (.cells #[nilSl, .map none, nilSl, .map none, nilSl, nilSl] 45)) := by kernel_rfl
      refine wpOp_value ho rfl (v := .pointer (some ⟨w1.heap.size, 0, none⟩)) (w' := w1.alloc (.cells #[nilSl, .map none, nilSl, .map none, nilSl, nilSl] 45)) (by simp [execOp, halloc]) ⟨_, by rw [ho]; rfl, _, _, _, _, _, hJ.s10 hd _ rfl⟩
    | 11, _ =>
      obtain ⟨ty, ps, af, ho⟩ := o11
      have q9 := dep_of e119 hdep
      have q10 := dep_of e1110 hdep
      have ev9 : (putAll ops vals (doneL ops.size done) a0).eval (.tmp 22) = .agg (boxOf (.slice A n c) nilSl r1 r2 g1 g2 n) := by
        obtain ⟨ty', ps', af', ho'⟩ := o9
        rw [eval_done hAp (a := a0) (j := 9) (d := 22) (by omega) (by rw [ho']; rfl) q9 (Nat.lt_of_le_of_lt (m := 22) (by decide) has), hJ.d9 q9]
      have ev10 : (putAll ops vals (doneL ops.size done) a0).eval (.tmp 3) = .pointer (some ⟨s, 0, none⟩) := by
        obtain ⟨ty', ps', af', ho'⟩ := o10
        rw [eval_done hAp (a := a0) (j := 10) (d := 3) (by omega) (by rw [ho']; rfl) q10 (Nat.lt_of_le_of_lt (m := 22) (by decide) has), (hJ.d10 q10).1]
      obtain ⟨_, ⟨cs, hcs, hs⟩, _⟩ := hJ.d10 q10
      have hst := run_store6 hcs hs (boxOf (.slice A n c) nilSl r1 r2 g1 g2 n) rfl (by simp [boxOf, Value.oneCell'])
      refine wpOp_skip ho rfl (w' := w1.setRow s (boxOf (.slice A n c) nilSl r1 r2 g1 g2 n)) (by simp [execOp, ev9, ev10, hst]) ⟨undef, by rw [ho]; rfl, _, _, _, _, _, hJ.s11 q9 q10 undef⟩
  · intro done vals w' hall ⟨r1, r2, g1, g2, s, hJ⟩
    rw [hsz] at hall ⊢
    have d1 := hJ.d1 (hall 1 (by omega))
    have d2 := hJ.d2 (hall 2 (by omega))
    have d5 := hJ.d5 (hall 5 (by omega))
    have d8 := hJ.d8 (hall 8 (by omega))
    have d10 := hJ.d10 (hall 10 (by omega))
    exact hK r1 r2 g1 g2 s vals w' ⟨hJ.d11 (hall 11 (by omega)), d1.2.1, d2.2.1, d5.2.1, d8.2.1, hJ.d12 (hall 1 (by omega)) (hall 2 (by omega)), d1.2.2, d2.2.2, d5.2.2, d8.2.2, d10.2.2, hJ.below⟩
      (hJ.d0 (hall 0 (by omega))) d1.1 d2.1 (hJ.d3 (hall 3 (by omega))) (hJ.d4 (hall 4 (by omega))) d5.1 (hJ.d6 (hall 6 (by omega))) (hJ.d7 (hall 7 (by omega))) d8.1 (hJ.d9 (hall 9 (by omega))) d10.1
end Go.Proofs.YtnjepmbonhmdnaaDoor
