/- Package right (places): the first statement of newWorld. Walks over the reference of chapter 7 (places): plain, combined and the exported functions. append of one element, the new slice written out. Package right (places): the rows of leaves that newWorld fills. -/
import Derived.Test.YtlcfgejaeecclaaGreatDoorJq05
import Derived.Test.YtlcfgejaeecclaaGreatDoorJq02
import Derived.Test.YtlcfgejaeecclaaGreatDoorJq01
namespace Go.Proofs.YtlcfgejaeecclaaGreatDoor
open Go.RowKit Dw

theorem boxOf_size (SL lv : Value) (r1 r2 g1 g2 n : Nat) : (boxOf SL lv r1 r2 g1 g2 n).size = 6 := rfl

theorem run_store6 {w : World} {s : Nat} {cs : Array Value} (hcs : cs.size = 6) (hs : w.heap[s]? = some (.cells cs 76 (0, 0))) (new : Array Value) (hn : new.size = 6) (h1 : ∀ v ∈ new.toList, v.oneCell' = true) :
    (Instr.storeAt 76 (.pointer (some ⟨s, 0, none⟩)) (.agg new)).run Tryz.prog w = .ok () (w.setRow s new) := by
  have hst := run_storeCells_at Tryz.prog s 0 76 new.toList 0 cs w hs (by simp [hn, hcs]) h1
  have e : (cs.toList.take (0 + 0) ++ new.toList ++ cs.toList.drop (0 + 0 + new.toList.length)).toArray = new := by
    have : cs.toList.drop (0 + 0 + new.toList.length) = [] := List.drop_of_length_le (by simp [hn, hcs])
    rw [this]; simp
  rw [e] at hst
  have hsz : (sizeOf 76).run Tryz.prog w = .ok 6 w := by kernel_rfl
  simp [Instr.storeAt, Instr.sureAddr, storeVar, hsz, Value.cells, hn, hst]

theorem J1.s11 {w0 w : World} {B n r1 r2 g1 g2 s : Nat} {SL : Value} {done : Nat → Bool} {vals : Nat → Value} (h : J1 w0 B SL n r1 r2 g1 g2 s done vals w) (h9 : done 9 = true) (h10 : done 10 = true) (v : Value) :
    J1 w0 B SL n r1 r2 g1 g2 s (setD done 11 true) (setD vals 11 v) (w.setRow s (boxOf SL nilSl r1 r2 g1 g2 n)) := by
  obtain ⟨hv, ⟨cs, hcs, hs⟩, hB⟩ := h.d10 h10
  have hne : ∀ {k : Nat}, k ≠ s → (w.setRow s (boxOf SL nilSl r1 r2 g1 g2 n)).heap[k]? = w.heap[k]? := fun hk => setRow_other w s _ _ hk
  have hmap : ∀ {r : Nat} {f : ByteArray → Option Value}, MapIs Value.string w r f → r ≠ s := fun hm e => by
    obtain ⟨es, clk, L, hr, _⟩ := hm
    rw [e, hs] at hr; cases hr
  have hcell : ∀ {g : Nat} {c : Array Value} {t : TypeId}, t ≠ 76 → w.heap[g]? = some (.cells c t (0, 0)) → g ≠ s := fun ht hg e => by
    rw [e, hs] at hg
    injection hg with hg
    injection hg with _ hg
    exact ht hg.symm
  exact {
    d0 := fun hd => by rw [setD_ne _ _ (by decide)] at hd ⊢; exact h.d0 hd
    d1 := fun hd => by
      rw [setD_ne _ _ (by decide)] at hd ⊢
      obtain ⟨h1, h2, h3⟩ := h.d1 hd
      exact ⟨h1, h2.keep (hne (hmap h2)), h3⟩
    d2 := fun hd => by
      rw [setD_ne _ _ (by decide)] at hd ⊢
      obtain ⟨h1, h2, h3⟩ := h.d2 hd
      exact ⟨h1, h2.keep (hne (hmap h2)), h3⟩
    d12 := fun hd hd' => by rw [setD_ne _ _ (by decide)] at hd hd'; exact h.d12 hd hd'
    d3 := fun hd => by rw [setD_ne _ _ (by decide)] at hd ⊢; exact h.d3 hd
    d4 := fun hd => by rw [setD_ne _ _ (by decide)] at hd ⊢; exact h.d4 hd
    d5 := fun hd => by
      rw [setD_ne _ _ (by decide)] at hd ⊢
      obtain ⟨h1, h2, h3⟩ := h.d5 hd
      exact ⟨h1, (hne (hcell (by decide) h2)).trans h2, h3⟩
    d6 := fun hd => by rw [setD_ne _ _ (by decide)] at hd ⊢; exact h.d6 hd
    d7 := fun hd => by rw [setD_ne _ _ (by decide)] at hd ⊢; exact h.d7 hd
    d8 := fun hd => by
      rw [setD_ne _ _ (by decide)] at hd ⊢
      obtain ⟨h1, h2, h3⟩ := h.d8 hd
      exact ⟨h1, (hne (hcell (by decide) h2)).trans h2, h3⟩
    d9 := fun hd => by rw [setD_ne _ _ (by decide)] at hd ⊢; exact h.d9 hd
    d9' := fun hd => by
      rw [setD_ne _ _ (by decide)] at hd
      rw [setD_ne _ _ (by decide), setD_ne _ _ (by decide), setD_ne _ _ (by decide), setD_ne _ _ (by decide)]
      exact h.d9' hd
    d10 := fun hd => by
      rw [setD_ne _ _ (by decide)] at hd ⊢
      exact ⟨(h.d10 hd).1, ⟨_, boxOf_size _ _ _ _ _ _ _, setRow_heap w s cs _ _ _ hs⟩, hB⟩
    d11 := fun _ => setRow_heap w s cs _ _ _ hs
    d11' := fun _ => by
      rw [setD_ne _ _ (by decide), setD_ne _ _ (by decide)]
      exact ⟨h9, h10⟩
    below := ⟨h.below.os, h.below.tape, h.below.output, by simpa using h.below.size, fun k hk => (hne (by omega)).trans (h.below.block k hk)⟩
    size := by simpa using h.size }

/-- The first statement of newWorld, in whatever order it goes. -/
theorem region1 {ops : Array Oper} {Q : Exit → Act → World → Prop} {a0 : Act} {w : World} {id : Nat} {A : Option Addr} {n c : Nat} (hn : n ≤ 200) (hsz : ops.size = 12) (hap : apartB ops = true) (hb : backB ops = true) (hk0 : notDst ops 0 = true)
    (ha0 : a0.eval (.tmp 0) = .slice A n c) (has : 22 < a0.tmps.size)
    (o0 : ∃ ty ps af, ops[0]? = some ⟨some 13, .move (.tmp 0), ty, ps, af, none⟩)
    (o1 : ∃ ty ps af, ops[1]? = some ⟨some 14, .makeMap 72 none, ty, ps, af, none⟩)
    (o2 : ∃ ty ps af, ops[2]? = some ⟨some 15, .makeMap 72 none, ty, ps, af, none⟩)
    (o3 : ∃ ty ps af, ops[3]? = some ⟨some 16, .move (.tmp 0), ty, ps, af, none⟩)
    (o4 : ∃ ty ps af, ops[4]? = some ⟨some 17, .call { callee := .builtin .len, args := #[.tmp 16], argTypes := #[22] }, ty, ps, af, none⟩)
    (o5 : ∃ ty ps af, ops[5]? = some ⟨some 18, .makeSlice 73 (.tmp 17) (.tmp 17), ty, ps, af, none⟩)
    (o6 : ∃ ty ps af, ops[6]? = some ⟨some 19, .move (.tmp 0), ty, ps, af, none⟩)
    (o7 : ∃ ty ps af, ops[7]? = some ⟨some 20, .call { callee := .builtin .len, args := #[.tmp 19], argTypes := #[22] }, ty, ps, af, none⟩)
    (o8 : ∃ ty ps af, ops[8]? = some ⟨some 21, .makeSlice 74 (.tmp 20) (.tmp 20), ty, ps, af, none⟩)
    (o9 : ∃ ty ps af, ops[9]? = some ⟨some 22, .build 76 #[(0, .tmp 13), (1, .tmp 14), (3, .tmp 15), (4, .tmp 18), (5, .tmp 21)], ty, ps, af, none⟩)
    (o10 : ∃ ty ps af, ops[10]? = some ⟨some 3, .alloc 76, ty, ps, af, none⟩)
    (o11 : ∃ ty ps af, ops[11]? = some ⟨none, .store 76 (.tmp 3) (.tmp 22), ty, ps, af, none⟩)
    (e43 : depB ops 4 3 = true) (e54 : depB ops 5 4 = true) (e76 : depB ops 7 6 = true) (e87 : depB ops 8 7 = true)
    (e90 : depB ops 9 0 = true) (e91 : depB ops 9 1 = true) (e92 : depB ops 9 2 = true) (e95 : depB ops 9 5 = true) (e98 : depB ops 9 8 = true) (e119 : depB ops 11 9 = true) (e1110 : depB ops 11 10 = true)
    (hK : ∀ (r1 r2 g1 g2 s : Nat) (vals : Nat → Value) (w' : World), NW w w' w.heap.size (.slice A n c) nilSl r1 r2 g1 g2 s n (fun _ => none) (fun _ => none) (Array.replicate n (.int .i64 0)) (Array.replicate n nilSl) →
      vals 0 = .slice A n c → vals 1 = .map (some r1) → vals 2 = .map (some r2) → vals 3 = .slice A n c → vals 4 = .int .i64 (n : Int) → vals 5 = slAt g1 n → vals 6 = .slice A n c → vals 7 = .int .i64 (n : Int) → vals 8 = slAt g2 n →
      vals 9 = .agg (boxOf (.slice A n c) nilSl r1 r2 g1 g2 n) → vals 10 = .pointer (some ⟨s, 0, none⟩) → Q .normal (putAll ops vals (List.range 12) a0) w') :
    (Code.region id ops true).wp Tryz.prog Q a0 w := by
  have hAp := apart_of hap
  refine wp_region_inv (by kernel_rfl) hAp hb (fun _ => undef) (fun done vals w' => ∃ r1 r2 g1 g2 s, J1 w w.heap.size (.slice A n c) n r1 r2 g1 g2 s done vals w') ?_ ?_ ?_
  · exact ⟨0, 0, 0, 0, 0, by simp, by simp, by simp, by simp, by simp, by simp, by simp, by simp, by simp, by simp, by simp, by simp, by simp, by simp, by simp, (Below.refl _ _).drew, Nat.le_refl _⟩
  · intro i done vals w1 hi ⟨r1, r2, g1, g2, s, hJ⟩ hd hdep
    rw [hsz] at hi
    have hlen : ∀ ty : TypeId, (Builtin.len_ #[22] ty #[.slice A n c]).run Tryz.prog w1 = .ok (.int .i64 (n : Int)) w1 := fun _ => by kernel_rfl
    have hev0 : (putAll ops vals (doneL ops.size done) a0).eval (.tmp 0) = .slice A n c := (eval_kept hk0).trans ha0
    match i, hi with
    | 0, _ =>
      obtain ⟨ty, ps, af, ho⟩ := o0
      refine wpOp_value ho rfl (v := .slice A n c) (w' := w1) (by simp [execOp, hev0]) ⟨_, by rw [ho]; rfl, _, _, _, _, _, hJ.s0⟩
    | 1, _ =>
      obtain ⟨ty, ps, af, ho⟩ := o1
      refine wpOp_value ho rfl (v := .map (some w1.heap.size)) (w' := w1.alloc (.map #[] 0)) (by simp [execOp, run_makeMap]) ⟨_, by rw [ho]; rfl, _, _, _, _, _, hJ.s1 hd⟩
    | 2, _ =>
      obtain ⟨ty, ps, af, ho⟩ := o2
      refine wpOp_value ho rfl (v := .map (some w1.heap.size)) (w' := w1.alloc (.map #[] 0)) (by simp [execOp, run_makeMap]) ⟨_, by rw [ho]; rfl, _, _, _, _, _, hJ.s2 hd⟩
    | 3, _ =>
      obtain ⟨ty, ps, af, ho⟩ := o3
      refine wpOp_value ho rfl (v := .slice A n c) (w' := w1) (by simp [execOp, hev0]) ⟨_, by rw [ho]; rfl, _, _, _, _, _, hJ.s3⟩
    | 4, _ =>
      obtain ⟨ty, ps, af, ho⟩ := o4
      have h3 := dep_of e43 hdep
      have hev : (putAll ops vals (doneL ops.size done) a0).eval (.tmp 16) = .slice A n c := by
        obtain ⟨ty', ps', af', ho'⟩ := o3
        rw [eval_done hAp (a := a0) (j := 3) (d := 16) (by omega) (by rw [ho']; rfl) h3 (Nat.lt_of_le_of_lt (m := 22) (by decide) has), hJ.d3 h3]
      refine wpOp_value ho rfl (v := .int .i64 (n : Int)) (w' := w1) (by simp [execOp, resolve, invoke, builtin, hev, hlen]) ⟨_, by rw [ho]; rfl, _, _, _, _, _, hJ.s4⟩
    | 5, _ =>
      obtain ⟨ty, ps, af, ho⟩ := o5
      have h4 := dep_of e54 hdep
      have hev : (putAll ops vals (doneL ops.size done) a0).eval (.tmp 17) = .int .i64 (n : Int) := by
        obtain ⟨ty', ps', af', ho'⟩ := o4
        rw [eval_done hAp (a := a0) (j := 4) (d := 17) (by omega) (by rw [ho']; rfl) h4 (Nat.lt_of_le_of_lt (m := 22) (by decide) has), hJ.d4 h4]
      refine wpOp_value ho rfl (v := slAt w1.heap.size n) (w' := w1.alloc (.cells (Array.replicate n (.int .i64 0)) 3)) (by simp [execOp, hev, run_make_n _ _ elInt n (by omega) (by omega) rfl]) ⟨_, by rw [ho]; rfl, _, _, _, _, _, hJ.s5 hd⟩
    | 6, _ =>
      obtain ⟨ty, ps, af, ho⟩ := o6
      refine wpOp_value ho rfl (v := .slice A n c) (w' := w1) (by simp [execOp, hev0]) ⟨_, by rw [ho]; rfl, _, _, _, _, _, hJ.s6⟩
    | 7, _ =>
      obtain ⟨ty, ps, af, ho⟩ := o7
      have h3 := dep_of e76 hdep
      have hev : (putAll ops vals (doneL ops.size done) a0).eval (.tmp 19) = .slice A n c := by
        obtain ⟨ty', ps', af', ho'⟩ := o6
        rw [eval_done hAp (a := a0) (j := 6) (d := 19) (by omega) (by rw [ho']; rfl) h3 (Nat.lt_of_le_of_lt (m := 22) (by decide) has), hJ.d6 h3]
      refine wpOp_value ho rfl (v := .int .i64 (n : Int)) (w' := w1) (by simp [execOp, resolve, invoke, builtin, hev, hlen]) ⟨_, by rw [ho]; rfl, _, _, _, _, _, hJ.s7⟩
    | 8, _ =>
      obtain ⟨ty, ps, af, ho⟩ := o8
      have h4 := dep_of e87 hdep
      have hev : (putAll ops vals (doneL ops.size done) a0).eval (.tmp 20) = .int .i64 (n : Int) := by
        obtain ⟨ty', ps', af', ho'⟩ := o7
        rw [eval_done hAp (a := a0) (j := 7) (d := 20) (by omega) (by rw [ho']; rfl) h4 (Nat.lt_of_le_of_lt (m := 22) (by decide) has), hJ.d7 h4]
      refine wpOp_value ho rfl (v := slAt w1.heap.size n) (w' := w1.alloc (.cells (Array.replicate n nilSl) 73)) (by simp [execOp, hev, run_make_n _ _ elInts n (by omega) (by omega) rfl]) ⟨_, by rw [ho]; rfl, _, _, _, _, _, hJ.s8 hd⟩
    | 9, _ =>
      obtain ⟨ty, ps, af, ho⟩ := o9
      have q0 := dep_of e90 hdep
      have q1 := dep_of e91 hdep
      have q2 := dep_of e92 hdep
      have q5 := dep_of e95 hdep
      have q8 := dep_of e98 hdep
      have ev0 : (putAll ops vals (doneL ops.size done) a0).eval (.tmp 13) = .slice A n c := by
        obtain ⟨ty', ps', af', ho'⟩ := o0
        rw [eval_done hAp (a := a0) (j := 0) (d := 13) (by omega) (by rw [ho']; rfl) q0 (Nat.lt_of_le_of_lt (m := 22) (by decide) has), hJ.d0 q0]
      have ev1 : (putAll ops vals (doneL ops.size done) a0).eval (.tmp 14) = .map (some r1) := by
        obtain ⟨ty', ps', af', ho'⟩ := o1
        rw [eval_done hAp (a := a0) (j := 1) (d := 14) (by omega) (by rw [ho']; rfl) q1 (Nat.lt_of_le_of_lt (m := 22) (by decide) has), (hJ.d1 q1).1]
      have ev2 : (putAll ops vals (doneL ops.size done) a0).eval (.tmp 15) = .map (some r2) := by
        obtain ⟨ty', ps', af', ho'⟩ := o2
        rw [eval_done hAp (a := a0) (j := 2) (d := 15) (by omega) (by rw [ho']; rfl) q2 (Nat.lt_of_le_of_lt (m := 22) (by decide) has), (hJ.d2 q2).1]
      have ev5 : (putAll ops vals (doneL ops.size done) a0).eval (.tmp 18) = slAt g1 n := by
        obtain ⟨ty', ps', af', ho'⟩ := o5
        rw [eval_done hAp (a := a0) (j := 5) (d := 18) (by omega) (by rw [ho']; rfl) q5 (Nat.lt_of_le_of_lt (m := 22) (by decide) has), (hJ.d5 q5).1]
      have ev8 : (putAll ops vals (doneL ops.size done) a0).eval (.tmp 21) = slAt g2 n := by
        obtain ⟨ty', ps', af', ho'⟩ := o8
        rw [eval_done hAp (a := a0) (j := 8) (d := 21) (by omega) (by rw [ho']; rfl) q8 (Nat.lt_of_le_of_lt (m := 22) (by decide) has), (hJ.d8 q8).1]
      have hbuild : (Instr.build 76 #[(0, .slice A n c), (1, .map (some r1)), (3, .map (some r2)), (4, slAt g1 n), (5, slAt g2 n)]).run Tryz.prog w1 = .ok (.agg (boxOf (.slice A n c) nilSl r1 r2 g1 g2 n)) w1 := by kernel_rfl
      refine wpOp_value ho rfl (v := .agg (boxOf (.slice A n c) nilSl r1 r2 g1 g2 n)) (w' := w1) (by simp [execOp, ev0, ev1, ev2, ev5, ev8, hbuild]) ⟨_, by rw [ho]; rfl, _, _, _, _, _, hJ.s9 q1 q2 q5 q8⟩
    | 10, _ =>
      obtain ⟨ty, ps, af, ho⟩ := o10
      have halloc : (Instr.alloc 76 true (.tuple #[])).run Tryz.prog w1 = .ok (.pointer (some ⟨w1.heap.size, 0, none⟩)) (w1.alloc (.cells #[nilSl, .map none, nilSl, .map none, nilSl, nilSl] 76)) := by kernel_rfl
      refine wpOp_value ho rfl (v := .pointer (some ⟨w1.heap.size, 0, none⟩)) (w' := w1.alloc (.cells #[nilSl, .map none, nilSl, .map none, nilSl, nilSl] 76)) (by simp [execOp, halloc]) ⟨_, by rw [ho]; rfl, _, _, _, _, _, hJ.s10 hd _ rfl⟩
    | 11, _ =>
      obtain ⟨ty, ps, af, ho⟩ := o11
      have q9 := dep_of e119 hdep
      have q10 := dep_of e1110 hdep
      have ev9 : (putAll ops vals (doneL ops.size done) a0).eval (.tmp 22) = .agg (boxOf (.slice A n c) nilSl r1 r2 g1 g2 n) := by
        obtain ⟨ty', ps', af', ho'⟩ := o9
        rw [eval_done hAp (a := a0) (j := 9) (d := 22) (by omega) (by rw [ho']; rfl) q9 (Nat.lt_of_le_of_lt (m := 22) (by decide) has), hJ.d9 q9]
      have ev10 : (putAll ops vals (doneL ops.size done) a0).eval (.tmp 3) = .pointer (some ⟨s, 0, none⟩) := by
        obtain ⟨ty', ps', af', ho'⟩ := o10
        rw [eval_done hAp (a := a0) (j := 10) (d := 3) (by omega) (by rw [ho']; rfl) q10 (Nat.lt_of_le_of_lt (m := 22) (by decide) has), (hJ.d10 q10).1]
      obtain ⟨_, ⟨cs, hcs, hs⟩, _⟩ := hJ.d10 q10
      have hst := run_store6 hcs hs (boxOf (.slice A n c) nilSl r1 r2 g1 g2 n) rfl (by simp [boxOf, Value.oneCell'])
      refine wpOp_skip ho rfl (w' := w1.setRow s (boxOf (.slice A n c) nilSl r1 r2 g1 g2 n)) (by simp [execOp, ev9, ev10, hst]) ⟨undef, by rw [ho]; rfl, _, _, _, _, _, hJ.s11 q9 q10 undef⟩
  · intro done vals w' hall ⟨r1, r2, g1, g2, s, hJ⟩
    rw [hsz] at hall ⊢
    have d1 := hJ.d1 (hall 1 (by omega))
    have d2 := hJ.d2 (hall 2 (by omega))
    have d5 := hJ.d5 (hall 5 (by omega))
    have d8 := hJ.d8 (hall 8 (by omega))
    have d10 := hJ.d10 (hall 10 (by omega))
    exact hK r1 r2 g1 g2 s vals w' ⟨hJ.d11 (hall 11 (by omega)), d1.2.1, d2.2.1, d5.2.1, d8.2.1, hJ.d12 (hall 1 (by omega)) (hall 2 (by omega)), d1.2.2, d2.2.2, d5.2.2, d8.2.2, d10.2.2, hJ.below⟩
      (hJ.d0 (hall 0 (by omega))) d1.1 d2.1 (hJ.d3 (hall 3 (by omega))) (hJ.d4 (hall 4 (by omega))) d5.1 (hJ.d6 (hall 6 (by omega))) (hJ.d7 (hall 7 (by omega))) d8.1 (hJ.d9 (hall 9 (by omega))) d10.1
end Go.Proofs.YtlcfgejaeecclaaGreatDoor

namespace Go.Proofs.YtlcfgejaeecclaaGreatDoor
open Go.RowKit Dw

theorem underF_up {l : List Rg} {k k' : Nat} (hk : up l k = some k') : ∀ (f i : Nat), upN l f i = none → underF l f i k = true → underF l f i k' = true
  | 0, _, _, h => by simp [underF] at h
  | f + 1, i, hd, h => by
    by_cases e : i = k
    · subst e
      rw [upN, hk] at hd
      rw [underF, hk]
      cases f with
      | zero => simp [upN] at hd
      | succ f => simp [underF]
    · rw [underF] at h ⊢
      cases hu : up l i with
      | none => rw [hu] at h; simp [e] at h
      | some j =>
        rw [upN, hu] at hd
        rw [hu] at h
        have h' : underF l f j k = true := by simpa [e] using h
        have := underF_up hk f j hd h'
        simp [this]
theorem under_up {l : List Rg} (g : GoodR l) {i k k' : Nat} (hi : i < l.length) (hk : up l k = some k') (h : under l i k = true) : under l i k' = true :=
  underF_up hk _ _ (g.ends i hi) h
theorem fullP_up {l : List Rg} (g : GoodR l) {S : Nat → Bool} {k k' : Nat} (hk : up l k = some k') (h : fullP l S k' = true) : fullP l S k = true := by
  unfold fullP at *
  rw [List.all_eq_true] at *
  intro i hi
  have h1 := h i hi
  cases hu : under l i k with
  | false => simp
  | true =>
    have hil : i < l.length := by unfold leafIdx at hi; exact List.mem_range.1 (List.mem_filter.1 hi).1
    rw [under_up g hil hk hu] at h1
    simpa using h1

def topF (l : List Rg) (S : Nat → Bool) : Nat → Nat → Bool
  | 0, _ => true
  | f + 1, j => !fullP l S j && match up l j with
    | some j' => topF l S f j'
    | none => true
theorem topF_eq {l : List Rg} (g : GoodR l) {S : Nat → Bool} : ∀ (f j : Nat), upN l f j = none → topF l S f j = !fullP l S j
  | 0, _, h => by simp [upN] at h
  | f + 1, j, h => by
    rw [topF]
    cases hf : fullP l S j with
    | true => simp
    | false =>
      cases hu : up l j with
      | none => simp
      | some j' =>
        rw [upN, hu] at h
        have := topF_eq g (S := S) f j' h
        have hf' : fullP l S j' = false := by
          cases hx : fullP l S j' with
          | false => rfl
          | true => rw [fullP_up g hu hx] at hf; cases hf
        rw [hf'] at this
        simpa using this

def gathA (l : List Rg) (p : Nat → Bool) (k : Nat) : List Ar := ((List.range k).filter p).map fun i => ⟨nmAt l i, false⟩
theorem gathA_yes {l : List Rg} {p : Nat → Bool} {k : Nat} (h : p k = true) : gathA l p (k + 1) = gathA l p k ++ [⟨nmAt l k, false⟩] := by
  unfold gathA; rw [range_filter_succ, h]; simp
theorem gathA_no {l : List Rg} {p : Nat → Bool} {k : Nat} (h : p k = false) : gathA l p (k + 1) = gathA l p k := by
  unfold gathA; rw [range_filter_succ, h]; simp
theorem gathA_le (l : List Rg) (p : Nat → Bool) (k : Nat) : (gathA l p k).length ≤ k := by
  unfold gathA; rw [List.length_map]
  have := List.length_filter_le p (List.range k)
  simpa using this

def PlainRel (w : World) (l : List Rg) (p : Nat → Bool) (m : Nat) (out i : Value) (wr : World) : Prop :=
  ∃ k : Nat, k + m = l.length ∧ i = .int .i64 k ∧ OwnL encA 2 wr w.heap.size 63 out (gathA l p k) ∧ Below w.heap.size w wr
def PlainRel2 (w : World) (l : List Rg) (S : Nat → Bool) (T : Bool) (m : Nat) (top at_ : Value) (wr : World) : Prop :=
  Below w.heap.size w wr ∧ ∃ t : Bool, top = .bool t ∧ ((∃ j, ∃ hj : j < l.length, at_ = .string (l[j]).nm ∧ upN l m j = none ∧ (t && topF l S m j) = T) ∨ (at_ = .string emp ∧ t = T))

end Go.Proofs.YtlcfgejaeecclaaGreatDoor

namespace Dw
open Go Go.RowKit

/-- The same, the new slice written out, and where it lies. -/
theorem wpList_pushS {P : Program} {α : Type} {enc : α → List Value} {k : Nat} {ops : Array Oper} {rest : List Oper} {o : Oper} {a : Act} {w : World} {Q : Exit → Act → World → Prop}
    {e : TypeId} {z : Value} {bytes : Nat} (s x : Operand) (t : TypeId) (hT : ElemT P t e z k bytes) (hgd : o.guard = none) (ho : o.op = .call { callee := .builtin .append, args := #[s, x], argTypes := #[t, t] })
    (base : Nat) (v : Value) (l : List α) (hs : a.eval s = v) (hown : OwnL enc k w base e v l)
    (g cp : Nat) (y : α) (hx : a.eval x = .slice (some ⟨g, 0, none⟩) 1 cp) (hnew : w.heap[g]? = some (.cells (enc y).toArray e (0, 0)))
    (hk : (enc y).length = k) (hone : ∀ u ∈ enc y, u.oneCell' = true) (hlen : l.length + 1 ≤ maxLen) (hbytes : (l.length + 1) * bytes ≤ 140737488355328) (hbase : base ≤ w.heap.size)
    (h : ∀ A' c' w', OwnL enc k w' base e (.slice A' (l.length + 1) c') (l ++ [y]) → w.grownBy w' v.ownBlock → Below base w w' → ((Value.slice A' (l.length + 1) c').ownBlock = v.ownBlock ∨ (Value.slice A' (l.length + 1) c').ownBlock = some w.heap.size) →
      wpList P ops Q rest (a.put o.dst (.slice A' (l.length + 1) c')) w') : wpList P ops Q (o :: rest) a w := by
  obtain ⟨i, hi, hz0, hz1, hz2⟩ := info_parts hT.info
  refine wpList_append_own_at _ hgd s x t ho base e i z k bytes hT.ty hi hz0 hz1 hz2 hT.zs hT.pos v l.length (l.flatMap enc) hs hown ⟨g, 0, none⟩ 1 cp (enc y) hx (by rw [hk]; omega) ?_ hone hlen hbytes hbase ?_
  · intro j u hj
    exact World.news_of_block hnew j u (by simpa using hj)
  · intro v' w' h1 h2 _ h4
    have ho' : OwnL enc k w' base e v' (l ++ [y]) := by
      unfold OwnL
      simpa using h1
    obtain ⟨A', c', rfl⟩ : ∃ A' c', v' = .slice A' (l.length + 1) c' := by
      rcases h1.2 with ⟨rfl, hn⟩ | ⟨g, cap, cur, rfl, _⟩
      · omega
      · exact ⟨_, _, rfl⟩
    exact h A' c' w' ho' h2 ((Below.refl _ _).grown h2 hbase fun j hj => (World.ownsRow.lt hown j hj).1) h4
end Dw

namespace Go.Proofs.YtlcfgejaeecclaaGreatDoor
open Go.RowKit Dw

abbrev encI : Int → List Value := fun z => [.int .i64 z]

def leafTo (l : List Rg) (k : Nat) : List Nat := (List.range k).filter fun i => !isPar l i
theorem leafTo_par {l : List Rg} {k : Nat} (h : isPar l k = true) : leafTo l (k + 1) = leafTo l k := by
  unfold leafTo; rw [range_filter_succ]; simp [h]
theorem leafTo_leaf {l : List Rg} {k : Nat} (h : isPar l k = false) : leafTo l (k + 1) = leafTo l k ++ [k] := by
  unfold leafTo; rw [range_filter_succ]; simp [h]
theorem leafTo_le (l : List Rg) (k : Nat) : (leafTo l k).length ≤ k := by
  unfold leafTo
  have := List.length_filter_le (fun i => !isPar l i) (List.range k)
  simpa using this
def lmF (l : List Rg) : Nat → ByteArray → Option Value
  | 0, _ => none
  | k + 1, s => if isPar l k then lmF l k s else if s = nmAt l k then some (.int .i64 ((leafTo l k).length : Int)) else lmF l k s
def belowK (l : List Rg) (k x : Nat) : List Int := ((leafTo l k).zipIdx.filter fun p => under l p.1 x).map fun p => (p.2 : Int)
theorem belowK_par {l : List Rg} {k : Nat} (h : isPar l k = true) (x : Nat) : belowK l (k + 1) x = belowK l k x := by
  unfold belowK; rw [leafTo_par h]
theorem belowK_leaf {l : List Rg} {k : Nat} (h : isPar l k = false) (x : Nat) : belowK l (k + 1) x = belowK l k x ++ if under l k x then [((leafTo l k).length : Int)] else [] := by
  unfold belowK
  rw [leafTo_leaf h, List.zipIdx_append, List.filter_append, List.map_append]
  congr 1
  cases hu : under l k x <;> simp [hu]
theorem belowK_le (l : List Rg) (k x : Nat) : (belowK l k x).length ≤ k := by
  unfold belowK
  rw [List.length_map]
  refine Nat.le_trans (List.length_filter_le _ _) ?_
  rw [List.length_zipIdx]
  exact leafTo_le l k

theorem underF_upN {l : List Rg} : ∀ {f i k : Nat}, underF l f i k = true → ∃ d, upN l d i = some k
  | 0, _, _, h => by simp [underF] at h
  | f + 1, i, k, h => by
    rw [underF] at h
    by_cases e : i = k
    · exact ⟨0, by simp [upN, e]⟩
    · cases hu : up l i with
      | none => rw [hu] at h; simp [e] at h
      | some j =>
        rw [hu] at h
        have h' : underF l f j k = true := by simpa [e] using h
        obtain ⟨d, hd⟩ := underF_upN h'
        exact ⟨d + 1, by rw [upN, hu]; exact hd⟩
theorem upN_underF {l : List Rg} : ∀ {f i k d : Nat}, upN l f i = none → upN l d i = some k → underF l f i k = true
  | 0, _, _, _, h, _ => by simp [upN] at h
  | f + 1, i, k, 0, _, h => by
    have : i = k := by simpa [upN] using h
    subst this; simp [underF]
  | f + 1, i, k, d + 1, h, hd => by
    rw [upN] at h hd
    cases hu : up l i with
    | none => rw [hu] at hd; cases hd
    | some j =>
      rw [hu] at h hd
      have := upN_underF h hd
      rw [underF, hu]
      simp [this]
/-- A region does not lie in itself. -/
theorem not_under_up {l : List Rg} (g : GoodR l) {y y' f : Nat} (hy : y < l.length) (hu : up l y = some y') : underF l f y' y = false := by
  cases h : underF l f y' y with
  | false => rfl
  | true =>
    exfalso
    obtain ⟨d, hd⟩ := underF_upN h
    have e : upN l (d + 1) y = some y := by rw [upN, hu]; exact hd
    have h1 := g.ends y hy
    have h2 := loop_forever e (l.length + 2)
    rw [upN_none_mono h1 (by
      have : 1 * (l.length + 2) ≤ (d + 1) * (l.length + 2) := Nat.mul_le_mul_right _ (by omega)
      omega)] at h2
    cases h2

/-- RowsI of numbers, one for each region, that share no memory. -/
structure RowsI (w : World) (B g1 n : Nat) (bl : Array Value) (R : Nat → List Int) : Prop where
  size : bl.size = n
  own : ∀ (x : Nat) (v : Value), bl[x]? = some v → OwnL encI 1 w B 3 v (R x)
  ne1 : ∀ (x : Nat) (v : Value), bl[x]? = some v → v.ownBlock ≠ some g1
  sep : ∀ (x y : Nat) (v u : Value), x ≠ y → bl[x]? = some v → bl[y]? = some u → v.ownBlock = none ∨ v.ownBlock ≠ u.ownBlock

theorem own_keepT {α : Type} {enc : α → List Value} {k : Nat} {w w' : World} {base : Nat} {e : TypeId} {v : Value} {l : List α} (h : OwnL enc k w base e v l) (hk : ∀ (g : Nat) (cs : Array Value), w.heap[g]? = some (.cells cs e (0, 0)) → w'.heap[g]? = w.heap[g]?) : OwnL enc k w' base e v l := by
  refine ⟨h.1, ?_⟩
  rcases h.2 with hn | ⟨g, cap, cur, rfl, hb, hgg, rest⟩
  · exact .inl hn
  · exact .inr ⟨g, cap, cur, rfl, hb, (hk g cur hgg).trans hgg, rest⟩
theorem own_row {α : Type} {enc : α → List Value} {k : Nat} {w : World} {base : Nat} {e : TypeId} {v : Value} {l : List α} (h : OwnL enc k w base e v l) {g : Nat} (hg : v.ownBlock = some g) : base ≤ g ∧ ∃ cs, w.heap[g]? = some (.cells cs e (0, 0)) := by
  rcases h.2 with ⟨rfl, _⟩ | ⟨g', cap, cur, rfl, hb, hgg, rest⟩
  · simp [Value.ownBlock] at hg
  · have : g' = g := by simpa [Value.ownBlock] using hg
    subst this
    exact ⟨hb, cur, hgg⟩

section
variable {w w' : World} {B g1 n : Nat} {bl : Array Value} {R : Nat → List Int}
theorem RowsI.nil (w : World) (B g1 n : Nat) : RowsI w B g1 n (Array.replicate n nilSl) (fun _ => []) where
  size := by simp
  own x v h := by
    rw [Array.getElem?_replicate] at h
    split at h
    · injection h with h; subst h; exact OwnL.nil _ _ _ _ _
    · cases h
  ne1 x v h := by
    rw [Array.getElem?_replicate] at h
    split at h
    · injection h with h; subst h; simp [Value.ownBlock]
    · cases h
  sep x y v u _ h _ := by
    rw [Array.getElem?_replicate] at h
    split at h
    · injection h with h; subst h; exact .inl rfl
    · cases h
theorem RowsI.keepT (h : RowsI w B g1 n bl R) (hk : ∀ (g : Nat) (cs : Array Value), w.heap[g]? = some (.cells cs 3 (0, 0)) → w'.heap[g]? = w.heap[g]?) : RowsI w' B g1 n bl R :=
  ⟨h.size, fun x v hv => own_keepT (h.own x v hv) hk, h.ne1, h.sep⟩
theorem RowsI.congr {R' : Nat → List Int} (h : RowsI w B g1 n bl R) (hR : ∀ x, x < n → R x = R' x) : RowsI w B g1 n bl R' :=
  ⟨h.size, fun x v hv => by
    have hx : x < n := by rw [← h.size]; exact (Array.getElem?_eq_some_iff.1 hv).1
    rw [← hR x hx]; exact h.own x v hv, h.ne1, h.sep⟩
theorem RowsI.alloc (h : RowsI w B g1 n bl R) (o : Obj) : RowsI (w.alloc o) B g1 n bl R := h.keepT fun _ _ hg => Below.heap_alloc w o _ (Array.getElem?_eq_some_iff.1 hg).1
theorem RowsI.push (h : RowsI w B g1 n bl R) {y : Nat} {v v' : Value} {m : Int} (hy : bl[y]? = some v) (hg1 : g1 < w.heap.size) (hg : w.grownBy w' v.ownBlock) (ho : OwnL encI 1 w' B 3 v' (R y ++ [m])) (hat : v'.ownBlock = v.ownBlock ∨ v'.ownBlock = some w.heap.size) :
    RowsI w' B g1 n (bl.setIfInBounds y v') (fun x => if x = y then R y ++ [m] else R x) := by
  have hyl : y < bl.size := (Array.getElem?_eq_some_iff.1 hy).1
  have hlt : ∀ (x : Nat) (u : Value), bl[x]? = some u → ∀ k, u.ownBlock = some k → k < w.heap.size := fun x u hu k hk => by
    obtain ⟨_, cs, hcs⟩ := own_row (h.own x u hu) hk
    exact (Array.getElem?_eq_some_iff.1 hcs).1
  have hget : ∀ (x : Nat) (u : Value), (bl.setIfInBounds y v')[x]? = some u → (x = y ∧ u = v') ∨ (x ≠ y ∧ bl[x]? = some u) := fun x u hu => by
    rw [Array.getElem?_setIfInBounds] at hu
    by_cases e : y = x
    · rw [if_pos e, if_pos hyl] at hu
      injection hu with hu
      exact .inl ⟨e.symm, hu.symm⟩
    · rw [if_neg e] at hu
      exact .inr ⟨fun e' => e e'.symm, hu⟩
  refine ⟨by simp [h.size], fun x u hu => ?_, fun x u hu => ?_, fun x z u t hxz hu ht => ?_⟩
  · rcases hget x u hu with ⟨rfl, rfl⟩ | ⟨hne, hu'⟩
    · simpa using ho
    · simp only [hne, if_false]
      exact (h.own x u hu').grown hg (h.sep x y u v hne hu' hy)
  · rcases hget x u hu with ⟨rfl, rfl⟩ | ⟨hne, hu'⟩
    · rcases hat with e | e
      · rw [e]; exact h.ne1 _ _ hy
      · rw [e]; intro e2; injection e2 with e2; omega
    · exact h.ne1 x u hu'
  · rcases hget x u hu with ⟨rfl, rfl⟩ | ⟨hne, hu'⟩
    · rcases hget z t ht with ⟨rfl, rfl⟩ | ⟨hne2, ht'⟩
      · exact absurd rfl hxz
      · rcases hat with e | e
        · rw [e]; exact h.sep _ _ _ _ (Ne.symm hne2) hy ht'
        · right
          rw [e]
          intro e2
          have := hlt z t ht' _ e2.symm
          omega
    · rcases hget z t ht with ⟨rfl, rfl⟩ | ⟨hne2, ht'⟩
      · rcases hat with e | e
        · rw [e]; exact h.sep _ _ _ _ hne hu' hy
        · right
          rw [e]
          intro e2
          have := hlt x u hu' _ e2
          omega
      · exact h.sep x z u t hxz hu' ht'
end
end Go.Proofs.YtlcfgejaeecclaaGreatDoor
