/- The witness world: Go's five tables laid. The row's closed facts, ahead of the law's walk. For every catalogue, tracks, id and rate, the law DeskLabelsMatchSpec returns true (Label of package desk answers as the reference does, errors too) and its arguments read as before. Conditions: the row's own (laid: five tables of Go's library start as their text lays them; the card ties them, over a pruned copy of the project). -/
import Derived.Test.YtfninfgohiipjaaGreatDoorLdG
import Derived.Test.YtfninfgohiipjaaGreatDoorLdP
import Derived.Test.YtfninfgohiipjaaGreatDoorCards
import Derived.Test.YtfninfgohiipjaaGreatDoorTie
import Derived.ProofKit
import Derived.OpenShut
import Derived.ReadAgain
import Derived.Deep.Slices
import Derived.Deep.Fields
import Derived.ChangeSame
import Derived.Lib.SmallJoins
import Derived.Deep.DeepHandedRow
import Derived.Lib.LaidTab
import Derived.Shelf.Vars
import Derived.Lib.LaidU8
import Derived.Lib.DecodeN
namespace Go.Proofs.YtfninfgohiipjaaGreatDoor
open Go.ChangeShapes Go.WideShapes Go.ChangeAt Go.RowKit Go.Deep Go.Joins Dw

theorem kids : Kids Tryz.prog (· < Tryz.prog.types.size) := kids_rows (by kernel_rfl) (by kernel_rfl)
theorem full : ∀ t e, t < Tryz.prog.types.size → Tryz.prog.underlying t = some (.slice e) → 0 < Tryz.prog.cellsOf e := slices_full_of Tryz.prog (by kernel_rfl)

theorem list_choose {α : Type} {n : Nat} {P : Nat → α → Prop} (h : ∀ i, i < n → ∃ t, P i t) : ∃ l : List α, l.length = n ∧ ∀ i (hi : i < l.length), P i l[i] := by
  induction n with
  | zero => exact ⟨[], rfl, fun i hi => absurd hi (by simp)⟩
  | succ n ih =>
    obtain ⟨l, hl, hp⟩ := ih fun i hi => h i (by omega)
    obtain ⟨t, ht⟩ := h n (by omega)
    refine ⟨l ++ [t], by simp [hl], fun i hi => ?_⟩
    rcases Nat.lt_or_ge i n with h1 | h1
    · rw [List.getElem_append_left (by omega)]; exact hp i (by omega)
    · have : i = n := by simp [hl] at hi; omega
      subst this
      rw [List.getElem_append_right (by omega)]
      simpa [hl] using ht

section
variable {H : Type} {enc : TypeId × Value → H} {P : Program} {W W' : World} {sp : Nat → Bool}
theorem reads_later (hb : Below W.heap.size W W') : ∀ {ts : List TypeId} {vs : List Value} {ds : List (DataW H)} {ps : List MemPlace}, (∀ p ∈ ps, p.block < W.heap.size) → DataW.TrodAll enc P W 0 sp true ts vs ds ps → DataW.TrodAll enc P W' 0 sp true ts vs ds ps
  | [], [], [], _, _, h => h
  | _ :: _, _ :: _, _ :: _, _, hl, ⟨p, q, ⟨n, h1⟩, h2, e⟩ =>
    ⟨p, q, ⟨n, DataW.trod_carry n _ _ _ h1 fun x hx => hb.same (hl x (by rw [e]; exact List.mem_append_left _ hx))⟩, reads_later hb (fun x hx => hl x (by rw [e]; exact List.mem_append_right _ hx)) h2, e⟩

/-- A law that answers true in a world that has only grown meets its row. -/
theorem law_post {f : Func} {s : ChangeSpec} {args : Array Value} {ds gs : List (DataW H)} {before : List MemPlace} {tb : TypeId}
    (hW : DataW.Whole enc Tryz.prog f.params.toList s.vars false W args.toList ds gs before) (hv : s.vars = []) (hr : f.resultTypes = #[tb]) (htb : Tryz.prog.underlying tb = some .bool)
    (hts : ∀ t ∈ f.params.toList, t < Tryz.prog.types.size) (hfn : (s.fn H ds).results = [.lit (.bool true)] ∧ (s.fn H ds).args = ds ∧ (s.fn H ds).vars = []) (hb : Below W.heap.size W W') :
    s.post enc Tryz.prog f false true false false W args (.bool true) W' := by
  have hW' := hW
  obtain ⟨p, q, hA, hV, rfl, hfz, _⟩ := hW
  rw [hv] at hV
  obtain ⟨rfl, rfl⟩ := trodVars_none hV
  have hlt : ∀ x ∈ p, x.block < W.heap.size := hA.lt
  refine ⟨ds, [], p ++ [], [], p, [], hW', ?_, ?_, ?_, hb.frame _ |> World.keptBut_mono (fun x hx => ⟨hx, .inr (.inl (by simpa using hx))⟩), fun h => by cases h⟩
  · rw [List.append_nil, hfn.1, hr]
    exact trodAll_mk1 (shut_bool htb true)
  · rw [List.append_nil, hfn.2.1]
    exact reads_later hb hlt (DataW.TrodAll.respare kids full hts hA fun x hx => by simpa using hlt x hx)
  · rw [List.append_nil, hfn.2.2, hv]
    rfl

/-- A slice of one-cell elements. -/
theorem open_ones {α : Type} {f : α → Value} {g : α → Prop} {t e : TypeId} {n : Nat} {v : Value} {y : DataW H × List MemPlace} (ht : P.underlying t = some (.slice e)) (hc : P.cellsOf e = 1)
    (he : ∀ n u z, DataW.trod enc P W 0 (fun _ => true) true n e [u] = some z → ∃ x, u = f x ∧ g x) (h : DataW.trod enc P W 0 (fun _ => true) true n t [v] = some y) :
    ∃ (A : Option Addr) (c : Nat) (l : List α), v = .slice A l.length c ∧ Rd1 f W A l ∧ l.length ≤ c ∧ l.length ≤ 9223372036854775807 ∧ ∀ x ∈ l, g x := by
  rcases open_slice1 ht hc h with ⟨hcs, _⟩ | ⟨a, len, cap, m, k, V, D, Pl, hcs, _, hl, hm, hmm, _, hx⟩
  · simp only [List.cons.injEq, and_true] at hcs
    subst hcs
    exact ⟨none, 0, [], rfl, Rd1.nil, Nat.le_refl _, by simp, fun x hx => by cases hx⟩
  · simp only [List.cons.injEq, and_true] at hcs
    subst hcs
    simp only [if_true] at hmm
    subst hmm
    obtain ⟨l, rfl, hp⟩ := list_choose (n := len) (P := fun i x => V i = f x ∧ g x) fun i hi => he _ _ _ (hx i (by omega)).2
    unfold maxLen at hm
    refine ⟨some a, m, l, rfl, fun hpos => ?_, hl, by omega, fun x hxl => ?_⟩
    · obtain ⟨b, o, spot⟩ := a
      have hspot : spot = none := by simpa [Addr.add] using World.cell?_spot (hx 0 (by omega)).1
      subst hspot
      refine ⟨b, o, rfl, fun i hi => ?_⟩
      have e1 := (hx i (by omega)).1
      rw [(hp i hi).1, add_plain] at e1
      exact e1
    · obtain ⟨i, hi, rfl⟩ := List.getElem_of_mem hxl
      exact (hp i hi).2

/-- A slice of structs with one-cell fields: the cells of each. -/
theorem open_structs {t e : TypeId} {fs : Array Field} {n : Nat} {v : Value} {y : DataW H × List MemPlace} (ht : P.underlying t = some (.slice e)) (he : P.underlying e = some (.struct fs)) (hone : oneCellFields P fs = true) (hC : P.cellsOf e = fs.size) (hF : 0 < fs.size)
    (h : DataW.trod enc P W 0 (fun _ => true) true n t [v] = some y) :
    ∃ (A : Option Addr) (len c : Nat), v = .slice A len c ∧ len ≤ c ∧ len ≤ 9223372036854775807 ∧ (0 < len → ∃ b o : Nat, A = some ⟨b, o, none⟩ ∧ ∀ i, i < len → ∀ (j : Nat) (f : Field), fs[j]? = some f →
      ∃ (u : Value) (z : DataW H × List MemPlace) (n : Nat), W.cell? ⟨b, o + (i * fs.size + j), none⟩ = some u ∧ DataW.trod enc P W 0 (fun _ => true) true n f.type [u] = some z) := by
  rcases open_slice ht h with ⟨hcs, _⟩ | ⟨a, len, cap, m, k, D, Pl, hcs, _, hl, hm, hmm, _, hx⟩
  · simp only [List.cons.injEq, and_true] at hcs
    subst hcs
    exact ⟨none, 0, 0, rfl, Nat.le_refl _, by simp, fun h => absurd h (by simp)⟩
  · simp only [List.cons.injEq, and_true] at hcs
    subst hcs
    simp only [if_true] at hmm
    subst hmm
    unfold maxLen at hm
    rw [hC] at hx
    have key : ∀ i, i < len → ∀ (j : Nat) (f : Field), fs[j]? = some f → ∃ (u : Value) (z : DataW H × List MemPlace) (n : Nat), W.cell? (a.add (i * fs.size + j)) = some u ∧ DataW.trod enc P W 0 (fun _ => true) true n f.type [u] = some z := fun i hi j f hj => by
      obtain ⟨cs', hc, ht'⟩ := hx i (by omega)
      obtain ⟨ys, n', _, _, hlen, hyl, hf⟩ := DataW.trod_struct he ht'
      obtain ⟨_, hcl, hat⟩ := World.cells?_some hc
      obtain ⟨ho, hk⟩ := hone_of hone j f hj
      have hjl : j < fs.size := (Array.getElem?_eq_some_iff.1 hj).1
      have hcell := hat j hjl
      have h1 := hf j f hj
      rw [ho, hk] at h1
      have hone' : (cs'.drop j).take 1 = [cs'[j]'(by omega)] := by
        rw [List.drop_eq_getElem_cons (by omega)]
        rfl
      rw [hone'] at h1
      have hys : ys[j]? = some (ys[j]'(by omega)) := List.getElem?_eq_getElem (by omega)
      have hv : cs'[j]? = some (cs'[j]'(by omega)) := List.getElem?_eq_getElem (by omega)
      refine ⟨_, _, n', ?_, h1.trans hys⟩
      rw [← Go.Deep.add_add, hcell, hv]
    refine ⟨some a, len, m, rfl, hl, by omega, fun hpos => ?_⟩
    obtain ⟨b, o, spot⟩ := a
    obtain ⟨f0, hf0⟩ : ∃ f, fs[0]? = some f := ⟨fs[0], by simp [hF]⟩
    obtain ⟨u, z, n, hc0, _⟩ := key 0 hpos 0 f0 hf0
    have hspot : spot = none := by simpa [Addr.add] using World.cell?_spot hc0
    subst hspot
    refine ⟨b, o, rfl, fun i hi j f hj => ?_⟩
    obtain ⟨u, z, n, hc, hz⟩ := key i hi j f hj
    rw [add_plain] at hc
    exact ⟨u, z, n, hc, hz⟩

theorem int_of {t : TypeId} {n : Nat} {u : Value} {z : DataW H × List MemPlace} (ht : P.underlying t = some (.int .i64)) (h : DataW.trod enc P W 0 (fun _ => true) true n t [u] = some z) : ∃ x : Int, u = .int .i64 x ∧ True := by
  obtain ⟨x, hx, _⟩ := DataW.trod_int ht h
  simp only [List.cons.injEq, and_true] at hx
  exact ⟨x, hx, trivial⟩
theorem str_of {t : TypeId} {n : Nat} {u : Value} {z : DataW H × List MemPlace} (ht : P.underlying t = some .string) (h : DataW.trod enc P W 0 (fun _ => true) true n t [u] = some z) : ∃ x : ByteArray, u = .string x ∧ x.size ≤ 9223372036854775807 := by
  obtain ⟨x, hx, _, hs⟩ := DataW.trod_string ht h
  simp only [List.cons.injEq, and_true] at hx
  unfold maxLen at hs
  exact ⟨x, hx, by omega⟩

set_option maxRecDepth 100000 in
theorem open_cat {r : Reach} {b0 : Nat} {v : Value} {d : DataW H} {p : List MemPlace} (hok : Value.okWide Tryz.prog W r b0 25 v) (h : DataW.Trod enc Tryz.prog W 0 (fun _ => true) true 25 v d p) :
    ∃ (A1 : Option Addr) (c1 : Nat) (T : List Th) (A2 : Option Addr) (c2 : Nat) (M : List Mv), v = catV A1 c1 T A2 c2 M ∧ CatOk W A1 T A2 M ∧ T.length ≤ c1 := by
  obtain ⟨v0, v1, y0, y1, n, rfl, _, _, h0, h1⟩ := open_agg2 Tryz.underlying25 (by kernel_rfl) (by kernel_rfl) hok h
  obtain ⟨A1, len1, c1, rfl, hl1, _, hT⟩ := open_structs Tryz.underlying22 Tryz.underlying54 (by kernel_rfl) (by kernel_rfl) (by decide) h0
  obtain ⟨A2, len2, c2, rfl, hl2, _, hM⟩ := open_structs Tryz.underlying23 Tryz.underlying147 (by kernel_rfl) (by kernel_rfl) (by decide) h1
  have eT : ∃ T : List Th, T.length = len1 ∧ Ths W A1 T ∧ PartsOk W T ∧ ∀ t ∈ T, t.title.size ≤ 9223372036854775807 ∧ t.code.size ≤ 9223372036854775807 ∧ t.parts.length ≤ 9223372036854775807 := by
    by_cases hz : 0 < len1
    · obtain ⟨b, o, rfl, hall⟩ := hT hz
      obtain ⟨T, rfl, hp⟩ := list_choose (n := len1) (P := fun i (t : Th) => (W.cell? ⟨b, o + i * 7, none⟩ = some (.int .i64 t.id) ∧ W.cell? ⟨b, o + i * 7 + 1, none⟩ = some (.int .i64 t.kind) ∧
          W.cell? ⟨b, o + i * 7 + 2, none⟩ = some (.string t.title) ∧ W.cell? ⟨b, o + i * 7 + 3, none⟩ = some (.string t.code) ∧ W.cell? ⟨b, o + i * 7 + 4, none⟩ = some (.int .i64 t.since) ∧
          W.cell? ⟨b, o + i * 7 + 5, none⟩ = some (.int .i64 t.parent) ∧ W.cell? ⟨b, o + i * 7 + 6, none⟩ = some (.slice t.pA t.parts.length t.pc)) ∧ Ints W t.pA t.parts ∧ t.title.size ≤ 9223372036854775807 ∧ t.code.size ≤ 9223372036854775807 ∧ t.parts.length ≤ 9223372036854775807) fun i hi => by
        obtain ⟨u0, z0, n0, q0, r0⟩ := hall i hi 0 _ rfl
        obtain ⟨u1, z1, n1, q1, r1⟩ := hall i hi 1 _ rfl
        obtain ⟨u2, z2, n2, q2, r2⟩ := hall i hi 2 _ rfl
        obtain ⟨u3, z3, n3, q3, r3⟩ := hall i hi 3 _ rfl
        obtain ⟨u4, z4, n4, q4, r4⟩ := hall i hi 4 _ rfl
        obtain ⟨u5, z5, n5, q5, r5⟩ := hall i hi 5 _ rfl
        obtain ⟨u6, z6, n6, q6, r6⟩ := hall i hi 6 _ rfl
        obtain ⟨x0, rfl, _⟩ := int_of Tryz.underlying3 r0
        obtain ⟨x1, rfl, _⟩ := int_of Tryz.underlying3 r1
        obtain ⟨x2, rfl, s2⟩ := str_of Tryz.underlying9 r2
        obtain ⟨x3, rfl, s3⟩ := str_of Tryz.underlying9 r3
        obtain ⟨x4, rfl, _⟩ := int_of Tryz.underlying3 r4
        obtain ⟨x5, rfl, _⟩ := int_of Tryz.underlying3 r5
        obtain ⟨pA, pc, parts, rfl, hI, _, hpl, _⟩ := open_ones (f := fun n : Int => Value.int .i64 n) (g := fun _ => True) Tryz.underlying52 (by kernel_rfl) (fun _ _ _ hh => int_of Tryz.underlying3 hh) r6
        exact ⟨⟨x0, x1, x2, x3, x4, x5, parts, pA, pc⟩, ⟨q0, q1, q2, q3, q4, q5, q6⟩, hI, s2, s3, hpl⟩
      refine ⟨T, rfl, fun _ => ⟨b, o, rfl, fun i hi => (hp i hi).1⟩, fun t ht => ?_, fun t ht => ?_⟩
      · obtain ⟨i, hi, rfl⟩ := List.getElem_of_mem ht
        exact (hp i hi).2.1
      · obtain ⟨i, hi, rfl⟩ := List.getElem_of_mem ht
        exact (hp i hi).2.2
    · obtain rfl : len1 = 0 := by omega
      exact ⟨[], rfl, (fun h => absurd h (by simp)), (fun t ht => by cases ht), (fun t ht => by cases ht)⟩
  have eM : ∃ M : List Mv, M.length = len2 ∧ Mvs W A2 M := by
    by_cases hz : 0 < len2
    · obtain ⟨b, o, rfl, hall⟩ := hM hz
      obtain ⟨M, rfl, hp⟩ := list_choose (n := len2) (P := fun i (t : Mv) => W.cell? ⟨b, o + i * 2, none⟩ = some (.int .i64 t.frm) ∧ W.cell? ⟨b, o + i * 2 + 1, none⟩ = some (.int .i64 t.to)) fun i hi => by
        obtain ⟨u0, z0, n0, q0, r0⟩ := hall i hi 0 _ rfl
        obtain ⟨u1, z1, n1, q1, r1⟩ := hall i hi 1 _ rfl
        obtain ⟨x0, rfl, _⟩ := int_of Tryz.underlying3 r0
        obtain ⟨x1, rfl, _⟩ := int_of Tryz.underlying3 r1
        exact ⟨⟨x0, x1⟩, q0, q1⟩
      exact ⟨M, rfl, fun _ => ⟨b, o, rfl, fun i hi => hp i hi⟩⟩
    · obtain rfl : len2 = 0 := by omega
      exact ⟨[], rfl, Rd2.nil⟩
  obtain ⟨T, rfl, hT1, hT2, hT3⟩ := eT
  obtain ⟨M, rfl, hM1⟩ := eM
  exact ⟨A1, c1, T, A2, c2, M, rfl, ⟨hT1, hT2, hM1, hT3⟩, hl1⟩

set_option maxRecDepth 100000 in
theorem open_ems {v : Value} {d : DataW H} {p : List MemPlace} {r : Reach} {b0 : Nat} (hok : Value.okWide Tryz.prog W r b0 33 v) (h : DataW.Trod enc Tryz.prog W 0 (fun _ => true) true 33 v d p) :
    ∃ (A : Option Addr) (c : Nat) (l : List Em), v = .slice A l.length c ∧ EmsOk W A l := by
  obtain ⟨a0, len0, cap0, rfl⟩ := okWide_slice Tryz.underlying33 hok
  obtain ⟨fuel, hf⟩ := h
  obtain ⟨A, len, c, e, _, hlen, hT⟩ := open_structs Tryz.underlying33 Tryz.underlying96 (by kernel_rfl) (by kernel_rfl) (by decide) (v := .slice a0 len0 cap0) (by simpa [Value.cells] using hf)
  rw [e]
  by_cases hz : 0 < len
  · obtain ⟨b, o, rfl, hall⟩ := hT hz
    obtain ⟨l, rfl, hp⟩ := list_choose (n := len) (P := fun i (t : Em) => (W.cell? ⟨b, o + i * 3, none⟩ = some (.int .i64 t.id) ∧ W.cell? ⟨b, o + i * 3 + 1, none⟩ = some (.int .i64 t.til) ∧
        W.cell? ⟨b, o + i * 3 + 2, none⟩ = some (.slice t.bA t.but.length t.bc)) ∧ Strs W t.bA t.but ∧ t.but.length ≤ 9223372036854775807 ∧ ∀ s ∈ t.but, s.size ≤ 9223372036854775807) fun i hi => by
      obtain ⟨u0, z0, n0, q0, r0⟩ := hall i hi 0 _ rfl
      obtain ⟨u1, z1, n1, q1, r1⟩ := hall i hi 1 _ rfl
      obtain ⟨u2, z2, n2, q2, r2⟩ := hall i hi 2 _ rfl
      obtain ⟨x0, rfl, _⟩ := int_of Tryz.underlying3 r0
      obtain ⟨x1, rfl, _⟩ := int_of Tryz.underlying3 r1
      obtain ⟨bA, bc, but, rfl, hI, _, hpl, hs⟩ := open_ones (f := Value.string) (g := fun s : ByteArray => s.size ≤ 9223372036854775807) Tryz.underlying94 (by kernel_rfl) (fun _ _ _ hh => str_of Tryz.underlying9 hh) r2
      exact ⟨⟨x0, x1, but, bA, bc⟩, ⟨q0, q1, q2⟩, hI, hpl, hs⟩
    refine ⟨_, c, l, rfl, ⟨fun _ => ⟨b, o, rfl, fun i hi => (hp i hi).1⟩, fun t ht => ?_, hlen, fun t ht => ?_⟩⟩
    · obtain ⟨i, hi, rfl⟩ := List.getElem_of_mem ht
      exact (hp i hi).2.1
    · obtain ⟨i, hi, rfl⟩ := List.getElem_of_mem ht
      exact (hp i hi).2.2
  · obtain rfl : len = 0 := by omega
    exact ⟨A, c, [], rfl, ⟨(fun h => absurd h (by simp)), (fun t ht => by cases ht), by simp, (fun t ht => by cases ht)⟩⟩

set_option maxRecDepth 100000 in
theorem open_i {v : Value} {d : DataW H} {p : List MemPlace} {r : Reach} {b0 : Nat} (hok : Value.okWide Tryz.prog W r b0 3 v) (h : DataW.Trod enc Tryz.prog W 0 (fun _ => true) true 3 v d p) : ∃ n : Int, v = .int .i64 n ∧ -9223372036854775808 ≤ n ∧ n ≤ 9223372036854775807 := by
  obtain ⟨n, rfl⟩ := okWide_int Tryz.underlying3 hok
  obtain ⟨fuel, hf⟩ := h
  obtain ⟨m, hm, _, hw⟩ := DataW.trod_int Tryz.underlying3 hf
  simp only [Value.cells] at hm
  have e : n = m := by simpa using hm
  subst e
  simp only [Lit.wf, Bool.and_eq_true, decide_eq_true_eq] at hw
  have h1 : IntKind.i64.min = -9223372036854775808 := by decide
  have h2 : IntKind.i64.max = 9223372036854775807 := by decide
  rw [h1, h2] at hw
  exact ⟨n, rfl, hw.1, hw.2⟩
set_option maxRecDepth 100000 in
theorem open_s {v : Value} {d : DataW H} {p : List MemPlace} {r : Reach} {b0 : Nat} (hok : Value.okWide Tryz.prog W r b0 9 v) (h : DataW.Trod enc Tryz.prog W 0 (fun _ => true) true 9 v d p) : ∃ s : ByteArray, v = .string s ∧ s.size ≤ 9223372036854775807 := by
  obtain ⟨n, rfl⟩ := okWide_string Tryz.underlying9 hok
  obtain ⟨fuel, hf⟩ := h
  exact ⟨n, rfl, by
    obtain ⟨m, e, hs⟩ := str_of Tryz.underlying9 (u := .string n) (by simpa [Value.cells] using hf)
    injection e with e; subst e; exact hs⟩
end
theorem gok_of {W : World} (h : W.ShapedOpen Tryz.prog) : GOK W :=
  cell_of_shapedOpen_int (zero := #[.int .i64 0]) h (of_decide_eq_true (by kernel_rfl)) (by kernel_rfl) rfl (by kernel_rfl) (by kernel_rfl) Tryz.underlying3
end Go.Proofs.YtfninfgohiipjaaGreatDoor
namespace Go.Proofs.YtfninfgohiipjaaGreatDoor
open Go.ChangeShapes Go.WideShapes Go.ChangeAt Go.RowKit Go.Deep Dw

theorem own : ownKnob Tryz.prog.godebug = none := by kernel_rfl
/-- The settled world, the tables holding what their initialisers lay. -/
noncomputable def laidWorld (os : Os) : World :=
  let w0 := World.holding Tryz.prog os ⟨#[], #[], []⟩
  let put (h : Array Obj) (g : Nat) (cs : Array Value) : Array Obj := h.modify g fun
    | .cells _ t frozen => .cells cs t frozen
    | o => o
  { w0 with heap := put (put (put (put (put w0.heap 2 (Lib.firstTab.map fun z => Value.int .u8 z).toArray) 3 ((List.range 16).flatMap fun i => [Value.int .u8 (Lib.accLo i), Value.int .u8 (Lib.accHi i)]).toArray) 4 (([0, 1, 28, 2, 29, 14, 24, 3, 30, 22, 20, 15, 25, 17, 4, 8, 31, 27, 13, 23, 21, 19, 16, 7, 26, 12, 18, 6, 11, 5, 10, 9] : List Int).map fun z => Value.int .u8 z).toArray) 5 (([0, 1, 56, 2, 57, 49, 28, 3, 61, 58, 42, 50, 38, 29, 17, 4, 62, 47, 59, 36, 45, 43, 51, 22, 53, 39, 33, 30, 24, 18, 12, 5, 63, 55, 48, 27, 60, 41, 37, 16, 46, 35, 44, 21, 52, 32, 23, 11, 54, 26, 40, 15, 34, 20, 31, 10, 25, 14, 19, 9, 13, 8, 7, 6] : List Int).map fun z => Value.int .u8 z).toArray) 1 (([1, 10, 100, 1000, 10000, 100000, 1000000, 10000000, 100000000, 1000000000, 10000000000, 100000000000, 1000000000000, 10000000000000, 100000000000000, 1000000000000000, 10000000000000000, 100000000000000000, 1000000000000000000, 10000000000000000000] : List Int).map fun z => Value.int .u64 z).toArray }
end Go.Proofs.YtfninfgohiipjaaGreatDoor

namespace Go.Proofs.YtfninfgohiipjaaGreatDoor.label
open Go.ChangeShapes Go.WideShapes Go.ChangeAt Go.RowKit Go.Deep Dw
/-- What the law's walk has to give. -/
abbrev Con : Prop := ∀ (H : Type) (enc : TypeId × Value → H) (W : World) (base : Nat) (args : Array Value) (ds gs : List (DataW H)) (before : List MemPlace)
    (_hval : ∀ (j : Nat) t v, Tryz.f3.params[j]? = some t → args[j]? = some v → Value.okWide Tryz.prog W .any base t v)
    (_hW : DataW.Whole enc Tryz.prog Tryz.f3.params.toList Rows.deskLabelsMatchSpecSpec.vars false W args.toList ds gs before) (_hlaid : laidMetH Tryz.prog Rows.deskLabelsMatchSpecRow.laid W) (_hsh : W.ShapedOpen Tryz.prog),
    Calls Tryz.prog 3 args W fun e W' => ∃ v, e = .returned v ∧ Rows.deskLabelsMatchSpecSpec.post enc Tryz.prog Tryz.f3 false true false false W args v W'
abbrev wit : Array Value := #[.agg #[nilSl, nilSl], nilSl, .int .i64 0, .int .i64 0]
set_option maxRecDepth 100000 in
theorem laid_met (os : Os) : laidMet Tryz.prog Rows.deskLabelsMatchSpecRow.laid ((laidWorld os).forCall (fun _ _ => 0) ⟨#[], wit, []⟩).memory :=
  laidMet_of_run' 8 (by kernel_rfl) (by kernel_rfl)
theorem reads (os : Os) {H : Type} (enc : TypeId × Value → H) : ∃ places, DataW.whole enc Tryz.prog ((laidWorld os).forCall (fun _ _ => 0) ⟨#[], wit, []⟩).memory Tryz.f3.params.toList Rows.deskLabelsMatchSpecSpec.vars false wit.toList 8 = some ([.agg [.nil, .nil], .nil, .lit (.int .i64 0), .lit (.int .i64 0)], [], places) :=
  ⟨[], by kernel_rfl⟩

set_option maxRecDepth 100000 in
theorem lifted (hcon : Con) (os : Os) (started : os.Started) (H : Type) (enc : TypeId × Value → H) (F : Stop.Interp) :
    ReturnsInHanded {} Tryz.checked os 3 .any ((OpenSpec.ofChange Rows.deskLabelsMatchSpecSpec).preRow enc Tryz.prog Tryz.f3 Rows.deskLabelsMatchSpecRow.domain false Rows.deskLabelsMatchSpecRow.laid) (((OpenSpec.ofChange Rows.deskLabelsMatchSpecSpec).at F).post enc Tryz.prog Tryz.f3 false true false false) := by
  obtain ⟨places, hx⟩ := reads os enc
  refine returnsInHanded_of_row (C := Tryz.checked) (s := OpenSpec.ofChange Rows.deskLabelsMatchSpecSpec) own started (by kernel_rfl) Tryz.func3
    (witness_row_at (enc := enc) (C := Tryz.checked) false (laidWorld os) wit rfl (by kernel_rfl) (by kernel_rfl) (by kernel_rfl)
      (OpenSpec.preRow_of_cond 8 hx (by kernel_rfl) (fun k hk => by cases hk) (by kernel_rfl) (laid_met os))) ?_
  intro W base args ds gs before hval hW _ _ _ hlaid hsh _
  exact hcon H enc W base args ds gs before hval hW hlaid hsh

theorem said (hcon : Con) : Rows.DeskLabelsMatchSpecSaid :=
  OpenClaim.holds_of_cond 3 Tryz.f3 rfl rfl rfl rfl rfl rfl rfl ⟨rfl, rfl, rfl, rfl, rfl⟩ rfl rfl rfl rfl rfl (by kernel_rfl) Tryz.func3 (by kernel_rfl)
    (of_decide_eq_true (by kernel_rfl)) (by unfold Func.isWrapper; first | (rw [if_pos (by decide +kernel)]; kernel_rfl) | (rw [if_neg (by decide +kernel)]; exact ⟨rfl, rfl⟩))
    (fun os started H enc _ F => by rw [OpenClaim.pre_eq_preRow]; exact lifted hcon os started H enc F)

theorem plain (f : FuncId) (fn : Func) (hf : Tryz.pinned.checked.prog.funcNamed "deadwax/deadwaxlaw10.DeskLabelsMatchSpec" = some f) (hfn : Tryz.pinned.checked.prog.funcs[f]? = some fn) :
    false = Tryz.pinned.checked.prog.looks [] ∧ ∀ (j : Nat) t, fn.params[j]? = some t → Tryz.pinned.checked.prog.wantsStandIn t = false := by
  obtain rfl : f = 3 := Option.some.inj ((show Tryz.prog.funcNamed "deadwax/deadwaxlaw10.DeskLabelsMatchSpec" = some 3 by kernel_rfl).symm.trans hf) |>.symm
  obtain rfl : fn = Tryz.f3 := (Option.some.inj (Tryz.func3.symm.trans hfn)).symm
  refine ⟨by kernel_rfl, fun j t ht => ?_⟩
  rw [Tryz.params3] at ht
  have hm : t = 25 ∨ t = 26 ∨ t = 3 := by
    have := Array.mem_of_getElem? ht
    simp at this
    omega
  rcases hm with rfl | rfl | rfl
  · exact (show Tryz.prog.wantsStandIn 25 = false by kernel_rfl)
  · exact (show Tryz.prog.wantsStandIn 26 = false by kernel_rfl)
  · exact (show Tryz.prog.wantsStandIn 3 = false by kernel_rfl)

theorem card_of (hcon : Con) : Rows.DeskLabelsMatchSpecCardSaid :=
  Claim7.holds_tied_plain_at .later [] _ _ _ _ (said hcon) (fun _ h => by cases h) (by kernel_rfl) (fun _ h => by cases h) deskLabelsMatchSpec_row_tie rfl ⟨rfl, rfl⟩ (by kernel_rfl) rfl plain (by kernel_rfl)
end Go.Proofs.YtfninfgohiipjaaGreatDoor.label
