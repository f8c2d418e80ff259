/- A region that draws its order: an invariant that each operation hands on, whatever was done before it. -/
import Derived.Orders
import Derived.RegionTactic
namespace Dw
open Go

def putAll (ops : Array Oper) (vals : Nat → Value) : List Nat → Act → Act
  | [], a => a
  | i :: L, a => putAll ops vals L (a.put ((ops[i]?).bind (·.dst)) (vals i))
def doneL (n : Nat) (done : Nat → Bool) : List Nat := (List.range n).filter done
def setD {α : Type} (f : Nat → α) (i : Nat) (v : α) : Nat → α := fun j => if j = i then v else f j
/-- No two operations write one slot. -/
def Apart (ops : Array Oper) : Prop := ∀ i j : Nat, i < ops.size → j < ops.size → i ≠ j → ∀ d, (ops[i]?).bind (·.dst) = some d → (ops[j]?).bind (·.dst) ≠ some d
def apartB (ops : Array Oper) : Bool := (List.range ops.size).all fun i => (List.range ops.size).all fun j => i == j || ((ops[i]?).bind (·.dst)).isNone || (ops[i]?).bind (·.dst) != (ops[j]?).bind (·.dst)
theorem apart_of {ops : Array Oper} (h : apartB ops = true) : Apart ops := fun i j hi hj hne d hd he => by
  unfold apartB at h
  have h1 := List.all_eq_true.1 h i (List.mem_range.2 hi)
  have h2 := List.all_eq_true.1 h1 j (List.mem_range.2 hj)
  rw [hd, he] at h2
  simp [hne] at h2
/-- Each operation waits only for earlier ones. -/
def backB (ops : Array Oper) : Bool := (List.range ops.size).all fun i => ((ops[i]?).map fun o => o.after.all fun e => !Region.binds .any e || decide (e.on < i)).getD true

theorem putAll_append (ops : Array Oper) (vals : Nat → Value) : ∀ (L M : List Nat) (a : Act), putAll ops vals (L ++ M) a = putAll ops vals M (putAll ops vals L a)
  | [], _, _ => rfl
  | i :: L, M, a => by rw [List.cons_append, putAll, putAll, putAll_append ops vals L M]
theorem putAll_congr {ops : Array Oper} {vals vals' : Nat → Value} : ∀ {L : List Nat} {a : Act}, (∀ i ∈ L, vals i = vals' i) → putAll ops vals L a = putAll ops vals' L a
  | [], _, _ => rfl
  | i :: L, a, h => by
    rw [putAll, putAll, h i (by simp)]
    exact putAll_congr fun j hj => h j (by simp [hj])
theorem doneL_succ (n : Nat) (done : Nat → Bool) : doneL (n + 1) done = doneL n done ++ (if done n then [n] else []) := by
  unfold doneL
  rw [List.range_succ, List.filter_append]
  cases h : done n <;> simp [h]
theorem doneL_congr {n : Nat} {d d' : Nat → Bool} (h : ∀ j, j < n → d j = d' j) : doneL n d = doneL n d' := List.filter_congr fun x hx => h x (List.mem_range.1 hx)
theorem mem_doneL {n i : Nat} {done : Nat → Bool} : i ∈ doneL n done ↔ i < n ∧ done i = true := by
  unfold doneL; rw [List.mem_filter, List.mem_range]

theorem putAll_ins {ops : Array Oper} (hap : Apart ops) {vals : Nat → Value} {done : Nat → Bool} {i : Nat} {v : Value} {a : Act} (hi : done i = false) :
    ∀ n, i < n → n ≤ ops.size → putAll ops (setD vals i v) (doneL n (setD done i true)) a = (putAll ops vals (doneL n done) a).put ((ops[i]?).bind (·.dst)) v
  | 0, h, _ => by omega
  | n + 1, h, hn => by
    rw [doneL_succ, doneL_succ, putAll_append, putAll_append]
    by_cases e : i = n
    · subst e
      have e1 : doneL i (setD done i true) = doneL i done := doneL_congr fun j hj => by simp [setD]; omega
      rw [e1, hi]
      have e2 : putAll ops (setD vals i v) (doneL i done) a = putAll ops vals (doneL i done) a := putAll_congr fun j hj => by
        have := (mem_doneL.1 hj).1
        simp [setD]; omega
      simp [setD, putAll, e2]
    · have ih := putAll_ins hap (vals := vals) (v := v) (a := a) hi n (by omega) (by omega)
      have e1 : setD done i true n = done n := by simp [setD]; omega
      rw [e1, ih]
      cases hd : done n with
      | false => simp [putAll]
      | true =>
        have e2 : setD vals i v n = vals n := by simp [setD]; omega
        simp only [if_true, putAll, e2]
        exact Act.put_comm _ _ _ fun d hd' => hap i n (by omega) (by omega) e d hd'

theorem eval_put_same {a : Act} {d : Tmp} {v : Value} (h : d < a.tmps.size) : (a.put (some d) v).eval (.tmp d) = v := by
  simp [Act.put, Act.eval, h]
theorem size_put (a : Act) (d : Option Tmp) (v : Value) : (a.put d v).tmps.size = a.tmps.size := by
  cases d <;> simp [Act.put]
theorem size_putAll (ops : Array Oper) (vals : Nat → Value) : ∀ (L : List Nat) (a : Act), (putAll ops vals L a).tmps.size = a.tmps.size
  | [], _ => rfl
  | i :: L, a => by rw [putAll, size_putAll ops vals L, size_put]
theorem eval_putAll_other {ops : Array Oper} {vals : Nat → Value} {x : Operand} : ∀ {L : List Nat} {a : Act}, (∀ i ∈ L, ∀ d, (ops[i]?).bind (·.dst) = some d → x ≠ .tmp d) → (putAll ops vals L a).eval x = a.eval x
  | [], _, _ => rfl
  | i :: L, a, h => by
    rw [putAll, eval_putAll_other fun j hj => h j (by simp [hj])]
    exact Act.eval_put fun d hd => h i (by simp) d hd
theorem eval_putAll_done {ops : Array Oper} (hap : Apart ops) {vals : Nat → Value} {d : Tmp} {j : Nat} (hj : j < ops.size) (hd : (ops[j]?).bind (·.dst) = some d) :
    ∀ {L : List Nat} {a : Act}, j ∈ L → L.Nodup → (∀ i ∈ L, i < ops.size) → d < a.tmps.size → (putAll ops vals L a).eval (.tmp d) = vals j
  | [], _, h, _, _, _ => by simp at h
  | i :: L, a, h, hnd, hlt, hs => by
    rw [putAll]
    rw [List.nodup_cons] at hnd
    rcases List.mem_cons.1 h with e | h'
    · subst e
      rw [eval_putAll_other, hd, eval_put_same hs]
      intro k hk d' hd' e
      injection e with e
      subst e
      have hne : j ≠ k := fun e => hnd.1 (e ▸ hk)
      exact hap j k hj (hlt k (by simp [hk])) hne d hd hd'
    · exact eval_putAll_done hap hj hd h' hnd.2 (fun k hk => hlt k (by simp [hk])) (by rw [size_put]; exact hs)

section
variable {P : Program} {ops : Array Oper} {Q : Exit → Act → World → Prop}

theorem ready_none {listed : Array Bool} {done : Nat → Bool} (hb : backB ops = true) (hls : listed.size = ops.size) (hl : ∀ j, j < ops.size → listed.getD j false = done j) (hr : Region.ready .any ops listed = []) : ∀ j, j < ops.size → done j = true := by
  intro j
  induction j using Nat.strongRecOn with
  | _ j ih =>
    intro hj
    cases hd : done j with
    | true => rfl
    | false =>
      exfalso
      have hmem : j ∈ Region.ready .any ops listed := by
        unfold Region.ready
        rw [List.mem_filter, List.mem_range]
        refine ⟨hj, ?_⟩
        have h1 := hl j hj
        have hjs : j < listed.size := by omega
        have h2 : listed.getD j true = false := by
          rw [hd] at h1
          simp [Array.getD, hjs] at h1 ⊢
          exact h1
        rw [h2]
        have h3 := List.all_eq_true.1 hb j (List.mem_range.2 hj)
        rw [Array.getElem?_eq_getElem hj] at h3 ⊢
        simp only [Option.map_some, Option.getD_some, Bool.not_false, Bool.true_and] at h3 ⊢
        rw [Array.all_eq_true'] at h3 ⊢
        intro e he
        have h4 := h3 e he
        cases hb2 : Region.binds .any e with
        | false => simp
        | true =>
          rw [hb2] at h4
          have h5 : e.on < j := by simpa using h4
          rw [hl e.on (by omega), ih e.on h5 (by omega)]
          simp
      rw [hr] at hmem
      simp at hmem

theorem count_set {n i : Nat} {done : Nat → Bool} (hi : i < n) (hd : done i = false) : (doneL n fun j => !setD done i true j).length + 1 = (doneL n fun j => !done j).length := by
  induction n with
  | zero => omega
  | succ n ih =>
    rw [doneL_succ, doneL_succ, List.length_append, List.length_append]
    by_cases e : i = n
    · subst e
      have e1 : doneL i (fun j => !setD done i true j) = doneL i fun j => !done j := doneL_congr fun j hj => by simp [setD]; omega
      rw [e1]
      simp [setD, hd]
    · have e1 : setD done i true n = done n := by simp [setD]; omega
      rw [e1, ← ih (by omega)]
      omega

theorem wpAny_inv (hap : Apart ops) (hb : backB ops = true) (a0 : Act) (J : (Nat → Bool) → (Nat → Value) → World → Prop)
    (hstep : ∀ (i : Nat) (done : Nat → Bool) (vals : Nat → Value) (w : World), i < ops.size → J done vals w → done i = false → (∀ o, ops[i]? = some o → ∀ e ∈ o.after, Region.binds .any e = true → done e.on = true) →
      wpOp P ops Q i (fun a' w' => ∃ v, a' = (putAll ops vals (doneL ops.size done) a0).put ((ops[i]?).bind (·.dst)) v ∧ J (setD done i true) (setD vals i v) w') (putAll ops vals (doneL ops.size done) a0) w)
    (hend : ∀ (done : Nat → Bool) (vals : Nat → Value) (w : World), (∀ j, j < ops.size → done j = true) → J done vals w → Q .normal (putAll ops vals (List.range ops.size) a0) w) :
    ∀ (fuel : Nat) (listed : Array Bool) (done : Nat → Bool) (vals : Nat → Value) (w : World), listed.size = ops.size → (∀ j, j < ops.size → listed.getD j false = done j) → (doneL ops.size fun j => !done j).length ≤ fuel → J done vals w →
      wpAny P .any ops Q fuel listed (putAll ops vals (doneL ops.size done) a0) w := by
  intro fuel
  have hfin : ∀ (done : Nat → Bool) (vals : Nat → Value) (w : World), (∀ j, j < ops.size → done j = true) → J done vals w → Q .normal (putAll ops vals (doneL ops.size done) a0) w := fun done vals w hd hJ => by
    have := hend done vals w hd hJ
    have e : doneL ops.size done = List.range ops.size := by
      unfold doneL
      rw [List.filter_eq_self]
      exact fun x hx => hd x (List.mem_range.1 hx)
    rw [e]; exact this
  induction fuel with
  | zero =>
    intro listed done vals w hls hl hc hJ
    have hall : ∀ j, j < ops.size → done j = true := fun j hj => by
      cases hd : done j with
      | true => rfl
      | false =>
        have : j ∈ doneL ops.size fun j => !done j := mem_doneL.2 ⟨hj, by simp [hd]⟩
        rw [List.eq_nil_of_length_eq_zero (l := doneL ops.size fun j => !done j) (by omega)] at this
        simp at this
    refine ⟨?_, hfin done vals w hall hJ⟩
    unfold Region.ready
    rw [List.filter_eq_nil_iff]
    intro j hj
    have hj' := List.mem_range.1 hj
    have h1 := hl j hj'
    rw [hall j hj'] at h1
    have hjs : j < listed.size := by omega
    have h2 : listed.getD j true = true := by simp [Array.getD, hjs] at h1 ⊢; exact h1
    simp [h2]
  | succ fuel ih =>
    intro listed done vals w hls hl hc hJ
    refine ⟨fun hr => hfin done vals w (ready_none hb hls hl hr) hJ, fun i hi => ?_⟩
    unfold Region.ready at hi
    rw [List.mem_filter, List.mem_range] at hi
    obtain ⟨hin, hrd⟩ := hi
    rw [Bool.and_eq_true] at hrd
    have hjs : i < listed.size := by omega
    have hdi : done i = false := by
      rw [← hl i hin]
      have := hrd.1
      simp [Array.getD, hjs] at this ⊢
      exact this
    have hdeps : ∀ o, ops[i]? = some o → ∀ e ∈ o.after, Region.binds .any e = true → done e.on = true := fun o ho e he hbd => by
      have h3 := hrd.2
      rw [ho] at h3
      simp only [Option.map_some, Option.getD_some] at h3
      rw [Array.all_eq_true'] at h3
      have h4 := h3 e he
      rw [hbd] at h4
      have h5 : listed.getD e.on false = true := by simpa using h4
      have hlt : e.on < ops.size := by
        refine Nat.lt_of_not_ge fun hge => ?_
        have : ¬ e.on < listed.size := by omega
        simp [Array.getD, this] at h5
      rw [← hl _ hlt]; exact h5
    refine wpOp_mono ?_ (hstep i done vals w hin hJ hdi hdeps)
    rintro a' w' ⟨v, rfl, hJ'⟩
    rw [← putAll_ins hap hdi ops.size hin (Nat.le_refl _)]
    refine ih (listed.setIfInBounds i true) (setD done i true) (setD vals i v) w' (by simp [hls]) (fun j hj => ?_) ?_ hJ'
    · have hjs' : j < listed.size := by omega
      by_cases e : j = i
      · subst e; simp [setD, Array.getD, hjs']
      · have := hl j hj
        simp [setD, e, Array.getD, hjs'] at this ⊢
        rw [Array.getElem_setIfInBounds_ne (by omega) (by omega)]
        exact this
    · have := count_set hin hdi
      omega

theorem wp_region_inv {id : Nat} {a0 : Act} {w : World} (hm : P.follows .mixedOrders = true) (hap : Apart ops) (hb : backB ops = true) (vals0 : Nat → Value) (J : (Nat → Bool) → (Nat → Value) → World → Prop)
    (h0 : J (fun _ => false) vals0 w.drew)
    (hstep : ∀ (i : Nat) (done : Nat → Bool) (vals : Nat → Value) (w : World), i < ops.size → J done vals w → done i = false → (∀ o, ops[i]? = some o → ∀ e ∈ o.after, Region.binds .any e = true → done e.on = true) →
      wpOp P ops Q i (fun a' w' => ∃ v, a' = (putAll ops vals (doneL ops.size done) a0).put ((ops[i]?).bind (·.dst)) v ∧ J (setD done i true) (setD vals i v) w') (putAll ops vals (doneL ops.size done) a0) w)
    (hend : ∀ (done : Nat → Bool) (vals : Nat → Value) (w : World), (∀ j, j < ops.size → done j = true) → J done vals w → Q .normal (putAll ops vals (List.range ops.size) a0) w) :
    (Code.region id ops true).wp P Q a0 w := by
  refine wp_region_any hm ?_
  have e : doneL ops.size (fun _ => false) = [] := by
    unfold doneL
    rw [List.filter_eq_nil_iff]
    simp
  have := wpAny_inv (P := P) (Q := Q) hap hb a0 J hstep hend ops.size (Array.replicate ops.size false) (fun _ => false) vals0 w.drew (by simp) (fun j hj => by simp [Array.getD, hj]) (by
    refine Nat.le_trans (List.length_filter_le _ _) ?_
    simp) h0
  rw [e] at this
  exact this
end
end Dw
