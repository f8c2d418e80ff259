/- Package right: the statement by which a part is entered in the row of its thing, whose order Go leaves open. -/
import Derived.Test.YtnjepmbonhmdnaaDoorWhW
namespace Go.Proofs.YtnjepmbonhmdnaaDoor
open Go.RowKit Dw

def cstG (r R0 : Nat) (nm par : ByteArray) (v : Value) : Nat → Value
  | 0 => .map (some r)
  | 1 => .pointer (some ⟨R0, 0, none⟩)
  | 2 => .string nm
  | 3 => .map (some r)
  | 4 => .pointer (some ⟨R0, 0, none⟩)
  | 5 => .string nm
  | 6 => v
  | 7 => .pointer (some ⟨R0, 1, none⟩)
  | 8 => .string par
  | _ => undef

structure JG (w0 : World) (B r R0 : Nat) (nm par : ByteArray) (v : Value) (L : List ByteArray) (done : Nat → Bool) (vals : Nat → Value) (w : World) : Prop where
  d : ∀ i, i < 9 → done i = true → vals i = cstG r R0 nm par v i
  d9 : done 9 = true → vals 9 = .slice (some ⟨w0.heap.size, 0, none⟩) 1 1
  d10' : done 10 = true → done 9 = true
  d11' : done 11 = true → ∀ j, j < 11 → done j = true
  w9 : done 9 = false → w = w0.drew
  w10 : done 9 = true → done 10 = false → w = (w0.alloc (.cells #[.string par] 9)).drew
  w12 : done 10 = true → ∃ A' c' wA, vals 10 = .slice A' (L.length + 1) c' ∧ OwnL encS 1 wA B 9 (.slice A' (L.length + 1) c') (L ++ [par]) ∧ (w0.alloc (.cells #[.string par] 9)).grownBy wA v.ownBlock ∧
    ((Value.slice A' (L.length + 1) c').ownBlock = v.ownBlock ∨ (Value.slice A' (L.length + 1) c').ownBlock = some (w0.heap.size + 1)) ∧ (done 11 = false → w = wA) ∧ (done 11 = true → (Instr.mapUpdate 62 (.map (some r)) (.string nm) (.slice A' (L.length + 1) c')).run Tryd.prog wA = .ok () w)

section
variable {w0 w : World} {B r R0 : Nat} {nm par : ByteArray} {v : Value} {L : List ByteArray} {done : Nat → Bool} {vals : Nat → Value}
theorem JG.keep (h : JG w0 B r R0 nm par v L done vals w) (h11 : done 11 = false) {g : Nat} (hp : g < w0.heap.size) (hne : v.ownBlock ≠ some g) : w.heap[g]? = w0.heap[g]? := by
  cases h9 : done 9 with
  | false => rw [h.w9 h9]; rfl
  | true =>
    cases h10 : done 10 with
    | false =>
      rw [h.w10 h9 h10]
      exact Below.heap_alloc w0 _ _ hp
    | true =>
      obtain ⟨A', c', wA, _, _, hg, _, hw, _⟩ := h.w12 h10
      rw [hw h11]
      exact (hg.block _ (by simp; omega) (fun e => hne e.symm)).trans (Below.heap_alloc w0 _ _ hp)
/-- An operation that only reads. -/
theorem JG.pure (h : JG w0 B r R0 nm par v L done vals w) {i : Nat} (hi : i < 9) : JG w0 B r R0 nm par v L (setD done i true) (setD vals i (cstG r R0 nm par v i)) w := by
  have e : ∀ {j : Nat}, 9 ≤ j → setD done i true j = done j := fun hj => setD_ne _ _ (by omega)
  have ev : ∀ {j : Nat} {u : Value}, 9 ≤ j → setD vals i u j = vals j := fun hj => setD_ne _ _ (by omega)
  exact {
    d := fun j hj hh => by
      by_cases e2 : j = i
      · subst e2; exact setD_same _ _ _
      · rw [setD_ne _ _ e2] at hh ⊢; exact h.d j hj hh
    d9 := fun hh => by rw [e (by omega)] at hh; rw [ev (by omega)]; exact h.d9 hh
    d10' := fun hh => by rw [e (by omega)] at hh ⊢; exact h.d10' hh
    d11' := fun hh => by
      rw [e (by omega)] at hh
      intro j hj
      by_cases e2 : j = i
      · subst e2; exact setD_same _ _ _
      · rw [setD_ne _ _ e2]; exact h.d11' hh j hj
    w9 := fun hh => by rw [e (by omega)] at hh; exact h.w9 hh
    w10 := fun hh hh' => by rw [e (by omega)] at hh hh'; exact h.w10 hh hh'
    w12 := fun hh => by
      rw [e (by omega)] at hh
      obtain ⟨A', c', wA, h1, h2, h3, h4, h5, h6⟩ := h.w12 hh
      exact ⟨A', c', wA, by rw [ev (by omega)]; exact h1, h2, h3, h4, fun hx => h5 (by rw [e (by omega)] at hx; exact hx), fun hx => h6 (by rw [e (by omega)] at hx; exact hx)⟩ }
end

set_option maxHeartbeats 1000000 in
/-- in[x] = append(in[x], y), in whatever order it goes. -/
theorem region_group {ops : Array Oper} {Q : Exit → Act → World → Prop} {a0 : Act} {w0 : World} {id B r R0 tm tb d : Nat} {nm par : ByteArray} {f : ByteArray → Option Value} {R : ByteArray → List ByteArray}
    (hm : MapIs Value.string w0 r f) (hR : RowsM w0 B f R) (hL : (R nm).length ≤ 1000) (hbox : w0.heap[R0]? = some (.cells #[.string nm, .string par] 64 (0, 0))) (hB : B ≤ w0.heap.size)
    (hsz : ops.size = 12) (hap : apartB ops = true) (hb : backB ops = true) (hkm : notDst ops tm = true) (hkb : notDst ops tb = true) (ham : a0.eval (.tmp tm) = .map (some r)) (hab : a0.eval (.tmp tb) = .pointer (some ⟨R0, 0, none⟩)) (has : d + 10 < a0.tmps.size)
    (o0 : ∃ ty ps af, ops[0]? = some ⟨some d, .move (.tmp tm), ty, ps, af, none⟩)
    (o1 : ∃ ty ps af, ops[1]? = some ⟨some (d + 1), .fieldAddr 64 (.tmp tb) 0, ty, ps, af, none⟩)
    (o2 : ∃ ty ps af, ops[2]? = some ⟨some (d + 2), .load 9 (.tmp (d + 1)), ty, ps, af, none⟩)
    (o3 : ∃ ty ps af, ops[3]? = some ⟨some (d + 3), .move (.tmp tm), ty, ps, af, none⟩)
    (o4 : ∃ ty ps af, ops[4]? = some ⟨some (d + 4), .fieldAddr 64 (.tmp tb) 0, ty, ps, af, none⟩)
    (o5 : ∃ ty ps af, ops[5]? = some ⟨some (d + 5), .load 9 (.tmp (d + 4)), ty, ps, af, none⟩)
    (o6 : ∃ ty ps af, ops[6]? = some ⟨some (d + 6), .lookup 62 (.tmp (d + 3)) (.tmp (d + 5)) false, ty, ps, af, none⟩)
    (o7 : ∃ ty ps af, ops[7]? = some ⟨some (d + 7), .fieldAddr 64 (.tmp tb) 1, ty, ps, af, none⟩)
    (o8 : ∃ ty ps af, ops[8]? = some ⟨some (d + 8), .load 9 (.tmp (d + 7)), ty, ps, af, none⟩)
    (o9 : ∃ ty ps af, ops[9]? = some ⟨some (d + 9), .buildSlice 24 1 #[(0, .tmp (d + 8))], ty, ps, af, none⟩)
    (o10 : ∃ ty ps af, ops[10]? = some ⟨some (d + 10), .call { callee := .builtin .append, args := #[.tmp (d + 6), .tmp (d + 9)], argTypes := #[24, 24] }, ty, ps, af, none⟩)
    (o11 : ∃ ty ps af, ops[11]? = some ⟨none, .mapUpdate 62 (.tmp d) (.tmp (d + 2)) (.tmp (d + 10)), ty, ps, af, none⟩)
    (e21 : depB ops 2 1 = true) (e54 : depB ops 5 4 = true) (e63 : depB ops 6 3 = true) (e65 : depB ops 6 5 = true) (e87 : depB ops 8 7 = true) (e98 : depB ops 9 8 = true) (e106 : depB ops 10 6 = true) (e109 : depB ops 10 9 = true)
    (e11 : ((List.range 11).all fun j => depB ops 11 j) = true)
    (hK : ∀ (V : Value) (w3 : World) (vals : Nat → Value), (∃ f', MapIs Value.string w3 r f' ∧ RowsM w3 B f' (fun x => if x = nm then R nm ++ [par] else R x)) →
      (∀ g, g < w0.heap.size → g ≠ r → (∀ cs, w0.heap[g]? ≠ some (.cells cs 9 (0, 0))) → w3.heap[g]? = w0.heap[g]?) → (∀ C, C ≤ B → C ≤ r → Below C w0 w3) → (∀ i, i < 9 → vals i = cstG r R0 nm par ((f nm).getD nilSl) i) → vals 9 = .slice (some ⟨w0.heap.size, 0, none⟩) 1 1 → vals 10 = V →
      Q .normal (putAll ops vals (List.range 12) a0) w3) :
    (Code.region id ops true).wp Tryd.prog Q a0 w0 := by
  have hAp := apart_of hap
  have hR0 : R0 < w0.heap.size := (Array.getElem?_eq_some_iff.1 hbox).1
  have hown := hR.get nm
  have hvR0 : ((f nm).getD nilSl).ownBlock ≠ some R0 := fun e => by
    obtain ⟨_, cs, hcs⟩ := own_row hown e
    rw [hbox] at hcs
    injection hcs with hcs
    injection hcs with _ hcs
    exact absurd hcs (by decide)
  have hvr : ((f nm).getD nilSl).ownBlock ≠ some r := fun e => map_ne_row hm hown e.symm
  obtain ⟨Av, cv, hv, -⟩ := hown.rd1
  generalize hvv : (f nm).getD nilSl = v at *
  refine wp_region_inv (by kernel_rfl) hAp hb (fun _ => undef) (JG w0 B r R0 nm par v (R nm)) ?_ ?_ ?_
  · exact ⟨by simp, by simp, by simp, by simp, fun _ => rfl, by simp, by simp⟩
  · intro i done vals w1 hi hJ hd hdep
    rw [hsz] at hi
    have h11 : i ≠ 11 → done 11 = false := fun hne => by
      cases h : done 11 with
      | false => rfl
      | true => rw [hJ.d11' h i (by omega)] at hd; cases hd
    have hbx : i ≠ 11 → w1.heap[R0]? = some (.cells #[.string nm, .string par] 64 (0, 0)) := fun hne => by
      rw [← hbox]; exact hJ.keep (h11 hne) hR0 hvR0
    have hmk : i ≠ 11 → MapIs Value.string w1 r f := fun hne => hm.keep (hJ.keep (h11 hne) hm.lt hvr)
    have hc0 : i ≠ 11 → w1.cell? ⟨R0, 0, none⟩ = some (.string nm) := fun hne => box2_0 (hbx hne)
    have hc1 : i ≠ 11 → w1.cell? ⟨R0, 1, none⟩ = some (.string par) := fun hne => box2_1 (hbx hne)
    have hf0 : (Instr.fieldAt 64 (.pointer (some ⟨R0, 0, none⟩)) 0).run Tryd.prog w1 = .ok (.pointer (some ⟨R0, 0, none⟩)) w1 := by simp [go_sem]
    have hf1 : (Instr.fieldAt 64 (.pointer (some ⟨R0, 0, none⟩)) 1).run Tryd.prog w1 = .ok (.pointer (some ⟨R0, 1, none⟩)) w1 := by simp [go_sem]
    have hevm : (putAll ops vals (doneL ops.size done) a0).eval (.tmp tm) = .map (some r) := (eval_kept hkm).trans ham
    have hevb : (putAll ops vals (doneL ops.size done) a0).eval (.tmp tb) = .pointer (some ⟨R0, 0, none⟩) := (eval_kept hkb).trans hab
    have hgo : ∀ {j : Nat} {o : Oper}, j < 9 → ops[j]? = some o → o.dst = some (d + j) → done j = true → (putAll ops vals (doneL ops.size done) a0).eval (.tmp (d + j)) = cstG r R0 nm par v j := fun {j o} hj ho hdst q => by
      rw [eval_done hAp (a := a0) (j := j) (d := d + j) (by rw [hsz]; omega) (by rw [ho]; exact hdst) q (Nat.lt_of_le_of_lt (Nat.add_le_add_left (show j ≤ 10 by omega) d) has)]
      exact hJ.d j hj q
    match i, hi with
    | 0, _ =>
      obtain ⟨ty, ps, af, ho⟩ := o0
      exact wpOp_value ho rfl (v := .map (some r)) (w' := w1) (by simp [execOp, hevm]) ⟨_, by rw [ho]; rfl, hJ.pure (i := 0) (by decide)⟩
    | 1, _ =>
      obtain ⟨ty, ps, af, ho⟩ := o1
      exact wpOp_value ho rfl (v := .pointer (some ⟨R0, 0, none⟩)) (w' := w1) (by simp [execOp, hevb, hf0]) ⟨_, by rw [ho]; rfl, hJ.pure (i := 1) (by decide)⟩
    | 2, _ =>
      obtain ⟨ty, ps, af, ho⟩ := o2
      obtain ⟨ty', ps', af', ho'⟩ := o1
      have ev := hgo (j := 1) (by decide) ho' rfl (dep_of e21 hdep)
      have hld : (Instr.loadAt 9 (.pointer (some ⟨R0, 0, none⟩))).run Tryd.prog w1 = .ok (.string nm) w1 := by simp [go_sem, hc0 (by decide)]
      exact wpOp_value ho rfl (v := .string nm) (w' := w1) (by simp [execOp, ev, cstG, hld]) ⟨_, by rw [ho]; rfl, hJ.pure (i := 2) (by decide)⟩
    | 3, _ =>
      obtain ⟨ty, ps, af, ho⟩ := o3
      exact wpOp_value ho rfl (v := .map (some r)) (w' := w1) (by simp [execOp, hevm]) ⟨_, by rw [ho]; rfl, hJ.pure (i := 3) (by decide)⟩
    | 4, _ =>
      obtain ⟨ty, ps, af, ho⟩ := o4
      exact wpOp_value ho rfl (v := .pointer (some ⟨R0, 0, none⟩)) (w' := w1) (by simp [execOp, hevb, hf0]) ⟨_, by rw [ho]; rfl, hJ.pure (i := 4) (by decide)⟩
    | 5, _ =>
      obtain ⟨ty, ps, af, ho⟩ := o5
      obtain ⟨ty', ps', af', ho'⟩ := o4
      have ev := hgo (j := 4) (by decide) ho' rfl (dep_of e54 hdep)
      have hld : (Instr.loadAt 9 (.pointer (some ⟨R0, 0, none⟩))).run Tryd.prog w1 = .ok (.string nm) w1 := by simp [go_sem, hc0 (by decide)]
      exact wpOp_value ho rfl (v := .string nm) (w' := w1) (by simp [execOp, ev, cstG, hld]) ⟨_, by rw [ho]; rfl, hJ.pure (i := 5) (by decide)⟩
    | 6, _ =>
      obtain ⟨ty, ps, af, ho⟩ := o6
      obtain ⟨ty3, ps3, af3, ho3⟩ := o3
      obtain ⟨ty5, ps5, af5, ho5⟩ := o5
      have ev3 := hgo (j := 3) (by decide) ho3 rfl (dep_of e63 hdep)
      have ev5 := hgo (j := 5) (by decide) ho5 rfl (dep_of e65 hdep)
      have hlk := run_lookup_map tMapS kStr zStrs (hmk (by decide)) nm false
      rw [hvv] at hlk
      simp only [Bool.false_eq_true, if_false] at hlk
      exact wpOp_value ho rfl (v := v) (w' := w1) (by simp [execOp, ev3, ev5, cstG, hlk]) ⟨_, by rw [ho]; rfl, hJ.pure (i := 6) (by decide)⟩
    | 7, _ =>
      obtain ⟨ty, ps, af, ho⟩ := o7
      exact wpOp_value ho rfl (v := .pointer (some ⟨R0, 1, none⟩)) (w' := w1) (by simp [execOp, hevb, hf1]) ⟨_, by rw [ho]; rfl, hJ.pure (i := 7) (by decide)⟩
    | 8, _ =>
      obtain ⟨ty, ps, af, ho⟩ := o8
      obtain ⟨ty', ps', af', ho'⟩ := o7
      have ev := hgo (j := 7) (by decide) ho' rfl (dep_of e87 hdep)
      have hld : (Instr.loadAt 9 (.pointer (some ⟨R0, 1, none⟩))).run Tryd.prog w1 = .ok (.string par) w1 := by simp [go_sem, hc1 (by decide)]
      exact wpOp_value ho rfl (v := .string par) (w' := w1) (by simp [execOp, ev, cstG, hld]) ⟨_, by rw [ho]; rfl, hJ.pure (i := 8) (by decide)⟩
    | 9, _ =>
      obtain ⟨ty, ps, af, ho⟩ := o9
      obtain ⟨ty', ps', af', ho'⟩ := o8
      have ev := hgo (j := 8) (by decide) ho' rfl (dep_of e98 hdep)
      have hw := hJ.w9 hd
      have f11 := h11 (by decide)
      have h10 : done 10 = false := by
        cases h : done 10 with
        | false => rfl
        | true => rw [hJ.d10' h] at hd; cases hd
      have hbs : (Instr.buildSlice 24 1 #[(0, .string par)]).run Tryd.prog w1 = .ok (.slice (some ⟨w1.heap.size, 0, none⟩) 1 1) (w1.alloc (.cells #[.string par] 9)) := by kernel_rfl
      refine wpOp_value ho rfl (v := .slice (some ⟨w1.heap.size, 0, none⟩) 1 1) (w' := w1.alloc (.cells #[.string par] 9)) (by simp [execOp, ev, cstG, hbs]) ⟨_, by rw [ho]; rfl, ?_⟩
      subst hw
      have ne : ∀ {j : Nat}, j ≠ 9 → setD done 9 true j = done j := fun hj => setD_ne _ _ hj
      have nv : ∀ {j : Nat} {u : Value}, j ≠ 9 → setD vals 9 u j = vals j := fun hj => setD_ne _ _ hj
      exact {
        d := fun j hj hh => by rw [ne (by omega)] at hh; rw [nv (by omega)]; exact hJ.d j hj hh
        d9 := fun _ => setD_same _ _ _
        d10' := fun _ => setD_same _ _ _
        d11' := fun hh => by rw [ne (by decide), f11] at hh; cases hh
        w9 := fun hh => by rw [setD_same] at hh; cases hh
        w10 := fun _ _ => rfl
        w12 := fun hh => by rw [ne (by decide), h10] at hh; cases hh }
    | 10, _ =>
      obtain ⟨ty, ps, af, ho⟩ := o10
      obtain ⟨ty6, ps6, af6, ho6⟩ := o6
      obtain ⟨ty9, ps9, af9, ho9⟩ := o9
      have q9 := dep_of e109 hdep
      have ev6 := hgo (j := 6) (by decide) ho6 rfl (dep_of e106 hdep)
      have ev9 : (putAll ops vals (doneL ops.size done) a0).eval (.tmp (d + 9)) = .slice (some ⟨w0.heap.size, 0, none⟩) 1 1 := by
        rw [eval_done hAp (a := a0) (j := 9) (d := d + 9) (by rw [hsz]; omega) (by rw [ho9]; rfl) q9 (Nat.lt_of_le_of_lt (Nat.add_le_add_left (show 9 ≤ 10 by decide) d) has), hJ.d9 q9]
      have hw := hJ.w10 q9 hd
      have f11 := h11 (by decide)
      obtain ⟨i0, hi0, hz0, hz1, hz2⟩ := info_parts elStr.info
      obtain ⟨v', wA, hrun, h2, h3, _, h5⟩ := run_append_own_at (P := Tryd.prog) w1 B 24 ty 9 i0 _ 1 16 elStr.ty hi0 hz0 hz1 hz2 rfl (by decide) v (R nm).length ((R nm).flatMap encS) (by rw [hw]; exact (hown.alloc _)) ⟨w0.heap.size, 0, none⟩ 1 1 [.string par] rfl
        (by rw [hw]; exact World.news_of_block (cs := #[.string par]) (t := 9) (fr := (0, 0)) (heap_alloc_new w0 _)) (by simp [Value.oneCell']) (by unfold maxLen; omega) (by omega) (by rw [hw]; simp; omega)
      have ho' : OwnL encS 1 wA B 9 v' (R nm ++ [par]) := by
        unfold OwnL
        simpa using h2
      obtain ⟨A', c', rfl⟩ : ∃ A' c', v' = .slice A' ((R nm).length + 1) c' := by
        rcases h2.2 with ⟨rfl, hn⟩ | ⟨g, cap, cur, rfl, _⟩
        · omega
        · exact ⟨_, _, rfl⟩
      refine wpOp_value ho rfl (v := .slice A' ((R nm).length + 1) c') (w' := wA) (by simp [execOp, resolve, invoke, builtin, ev6, ev9, cstG, hrun]) ⟨_, by rw [ho]; rfl, ?_⟩
      have ne : ∀ {j : Nat}, j ≠ 10 → setD done 10 true j = done j := fun hj => setD_ne _ _ hj
      have nv : ∀ {j : Nat} {u : Value}, j ≠ 10 → setD vals 10 u j = vals j := fun hj => setD_ne _ _ hj
      have h3' : (w0.alloc (.cells #[.string par] 9)).grownBy wA v.ownBlock := by
        rw [hw] at h3
        exact ⟨h3.os, h3.tape, h3.output, h3.size, h3.block⟩
      have h5' : (Value.slice A' ((R nm).length + 1) c').ownBlock = v.ownBlock ∨ (Value.slice A' ((R nm).length + 1) c').ownBlock = some (w0.heap.size + 1) := by
        rw [hw] at h5
        simpa using h5
      exact {
        d := fun j hj hh => by rw [ne (by omega)] at hh; rw [nv (by omega)]; exact hJ.d j hj hh
        d9 := fun hh => by rw [ne (by decide)] at hh; rw [nv (by decide)]; exact hJ.d9 hh
        d10' := fun _ => by rw [ne (by decide)]; exact q9
        d11' := fun hh => by rw [ne (by decide), f11] at hh; cases hh
        w9 := fun hh => by rw [ne (by decide), q9] at hh; cases hh
        w10 := fun _ hh => by rw [setD_same] at hh; cases hh
        w12 := fun _ => ⟨A', c', wA, setD_same _ _ _, ho', h3', h5', fun _ => rfl, fun hh => by rw [ne (by decide), f11] at hh; cases hh⟩ }
    | 11, _ =>
      obtain ⟨ty, ps, af, ho⟩ := o11
      have qa : ∀ j, j < 11 → done j = true := fun j hj => dep_of (List.all_eq_true.1 e11 j (List.mem_range.2 hj)) hdep
      obtain ⟨A', c', wA, hv10, hoA, hgA, hat, hwA, _⟩ := hJ.w12 (qa 10 (by omega))
      have hw := hwA hd
      obtain ⟨ty0, ps0, af0, ho0⟩ := o0
      obtain ⟨ty2, ps2, af2, ho2⟩ := o2
      obtain ⟨ty1, ps1, af1, ho1⟩ := o10
      have ev0 := hgo (j := 0) (by decide) ho0 rfl (qa 0 (by omega))
      have ev2 := hgo (j := 2) (by decide) ho2 rfl (qa 2 (by omega))
      have ev10 : (putAll ops vals (doneL ops.size done) a0).eval (.tmp (d + 10)) = .slice A' ((R nm).length + 1) c' := by
        rw [eval_done hAp (a := a0) (j := 10) (d := d + 10) (by rw [hsz]; omega) (by rw [ho1]; rfl) (qa 10 (by omega)) has, hv10]
      have hmA : MapIs Value.string wA r f := hm.keep (by rw [← hw]; exact hJ.keep hd hm.lt hvr)
      obtain ⟨w3, hrun, _, _, _⟩ := run_update_map (P := Tryd.prog) tMapS kStr hmA nm (.slice A' ((R nm).length + 1) c')
      rw [hw]
      refine wpOp_skip ho rfl (w' := w3) (by
        have ev0' : (putAll ops vals (doneL ops.size done) a0).eval (.tmp d) = .map (some r) := ev0
        simp [execOp, ev0', ev2, ev10, cstG, hrun]) ⟨undef, by rw [ho]; rfl, ?_⟩
      have ne : ∀ {j : Nat}, j ≠ 11 → setD done 11 true j = done j := fun hj => setD_ne _ _ hj
      have nv : ∀ {j : Nat} {u : Value}, j ≠ 11 → setD vals 11 u j = vals j := fun hj => setD_ne _ _ hj
      exact {
        d := fun j hj hh => by rw [ne (by omega)] at hh; rw [nv (by omega)]; exact hJ.d j hj hh
        d9 := fun hh => by rw [ne (by decide)] at hh; rw [nv (by decide)]; exact hJ.d9 hh
        d10' := fun hh => by rw [ne (by decide)] at hh ⊢; exact hJ.d10' hh
        d11' := fun _ j hj => by rw [ne (by omega)]; exact qa j hj
        w9 := fun hh => by rw [ne (by decide), qa 9 (by omega)] at hh; cases hh
        w10 := fun _ hh => by rw [ne (by decide), qa 10 (by omega)] at hh; cases hh
        w12 := fun _ => ⟨A', c', wA, by rw [nv (by decide)]; exact hv10, hoA, hgA, hat, (fun hh => by rw [setD_same] at hh; cases hh), fun _ => hrun⟩ }
  · intro done vals w' hall hJ
    rw [hsz] at hall ⊢
    obtain ⟨A', c', wA, hv10, hoA, hgA, hat, _, hrun⟩ := hJ.w12 (hall 10 (by omega))
    have hmA : MapIs Value.string wA r f := (hm.alloc _).keep (hgA.block r (hm.alloc _).lt (fun e => hvr e.symm))
    obtain ⟨w3, hrun3, hm3, hg3, hs3⟩ := run_update_map (P := Tryd.prog) tMapS kStr hmA nm (.slice A' ((R nm).length + 1) c')
    obtain rfl : w3 = w' := by
      have h1 := hrun (hall 11 (by omega))
      rw [hrun3] at h1
      injection h1
    have hRA := (hR.alloc (.cells #[.string par] 9)).push (s := par) hvv hgA hoA (by simpa using hat)
    have hR3 := hRA.map hmA hg3
    refine hK (.slice A' ((R nm).length + 1) c') w3 vals ⟨_, hm3, hR3⟩ (fun g hg hgr hgc => ?_) (fun C hC hCr => ?_) (fun i hi => hJ.d i hi (hall i (by omega))) (hJ.d9 (hall 9 (by omega))) hv10
    · refine (hg3.block g (by have := hgA.size; simp at this; omega) (fun e => hgr (by injection e))).trans ((hgA.block g (by simp; omega) (fun e => ?_)).trans (Below.heap_alloc w0 _ _ hg))
      obtain ⟨_, cs, hcs⟩ := own_row hown e.symm
      exact hgc cs hcs
    · have hC0 : C ≤ w0.heap.size := Nat.le_trans hC hB
      have b1 : Below C w0 (w0.alloc (.cells #[.string par] 9)) := (Below.refl _ _).alloc hC0 _
      have b2 : Below C w0 wA := b1.grown hgA (Nat.le_trans hC0 b1.size) (fun k hk => Nat.le_trans hC (own_row hown hk).1)
      exact b2.grown hg3 (Nat.le_trans hC0 b2.size) (fun k hk => by injection hk with hk; omega)
end Go.Proofs.YtnjepmbonhmdnaaDoor
