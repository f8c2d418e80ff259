/- The row's frame: the arguments opened, the law's post from Below. -/
import Derived.Test.YtnjepmbonhmdnaaDoorLawB
import Derived.Test.YtnjepmbonhmdnaaDoorCards
import Derived.Test.YtnjepmbonhmdnaaDoorTie
import Derived.ProofKit
import Derived.OpenShut
import Derived.ReadAgain
import Derived.Deep.SlicePairs
import Derived.Deep.DeepHandedRow
import Derived.Lib.LaidTab
namespace Go.Proofs.YtnjepmbonhmdnaaDoor
open Go.ChangeShapes Go.WideShapes Go.ChangeAt Go.RowKit Go.Deep Dw

theorem kids : Kids Tryd.prog (· < Tryd.prog.types.size) := kids_rows (by kernel_rfl) (by kernel_rfl)
theorem full : ∀ t e, t < Tryd.prog.types.size → Tryd.prog.underlying t = some (.slice e) → 0 < Tryd.prog.cellsOf e := slices_full_of Tryd.prog (by kernel_rfl)

section
variable {H : Type} {enc : TypeId × Value → H} {P : Program} {W W' : World} {sp : Nat → Bool}
theorem reads_later (hb : Below W.heap.size W W') : ∀ {ts : List TypeId} {vs : List Value} {ds : List (DataW H)} {ps : List MemPlace}, (∀ p ∈ ps, p.block < W.heap.size) → DataW.TrodAll enc P W 0 sp true ts vs ds ps → DataW.TrodAll enc P W' 0 sp true ts vs ds ps
  | [], [], [], _, _, h => h
  | _ :: _, _ :: _, _ :: _, _, hl, ⟨p, q, ⟨n, h1⟩, h2, e⟩ =>
    ⟨p, q, ⟨n, DataW.trod_carry n _ _ _ h1 fun x hx => hb.same (hl x (by rw [e]; exact List.mem_append_left _ hx))⟩, reads_later hb (fun x hx => hl x (by rw [e]; exact List.mem_append_right _ hx)) h2, e⟩

/-- A law that answers true in a world that has only grown meets its row. -/
theorem law_post {f : Func} {s : ChangeSpec} {args : Array Value} {ds gs : List (DataW H)} {before : List MemPlace} {tb : TypeId}
    (hW : DataW.Whole enc Tryd.prog f.params.toList s.vars false W args.toList ds gs before) (hv : s.vars = []) (hr : f.resultTypes = #[tb]) (htb : Tryd.prog.underlying tb = some .bool)
    (hts : ∀ t ∈ f.params.toList, t < Tryd.prog.types.size) (hfn : (s.fn H ds).results = [.lit (.bool true)] ∧ (s.fn H ds).args = ds ∧ (s.fn H ds).vars = []) (hb : Below W.heap.size W W') :
    s.post enc Tryd.prog f false true false false W args (.bool true) W' := by
  have hW' := hW
  obtain ⟨p, q, hA, hV, rfl, hfz, _⟩ := hW
  rw [hv] at hV
  obtain ⟨rfl, rfl⟩ := trodVars_none hV
  have hlt : ∀ x ∈ p, x.block < W.heap.size := hA.lt
  refine ⟨ds, [], p ++ [], [], p, [], hW', ?_, ?_, ?_, hb.frame _ |> World.keptBut_mono (fun x hx => ⟨hx, .inr (.inl (by simpa using hx))⟩), fun h => by cases h⟩
  · rw [List.append_nil, hfn.1, hr]
    exact trodAll_mk1 (shut_bool htb true)
  · rw [List.append_nil, hfn.2.1]
    exact reads_later hb hlt (DataW.TrodAll.respare kids full hts hA fun x hx => by simpa using hlt x hx)
  · rw [List.append_nil, hfn.2.2, hv]
    rfl

def strV : Value → ByteArray
  | .string s => s
  | _ => emp
def boolV : Value → Bool
  | .bool b => b
  | _ => false

set_option maxRecDepth 100000 in
theorem open_regions {r : Reach} {b0 : Nat} {v : Value} {d : DataW H} {p : List MemPlace} (hok : Value.okWide Tryd.prog W r b0 22 v) (h : DataW.Trod enc Tryd.prog W 0 (fun _ => true) true 22 v d p) :
    ∃ (A : Option Addr) (c : Nat) (l : List Rg), v = .slice A l.length c ∧ Rgs W A l ∧ ∀ i (h : i < l.length), (l[i]).nm.size ≤ 9223372036854775807 := by
  obtain ⟨a0, len, cap, rfl⟩ := okWide_slice Tryd.underlying22 hok
  obtain ⟨fuel, hf⟩ := h
  rcases open_slice_pairs Tryd.underlying22 Tryd.underlying54 (by kernel_rfl) rfl rfl (by kernel_rfl) (by kernel_rfl) hf with ⟨hc, _⟩ | ⟨a, len', cap', m, k, V0, V1, D0, D1, P0, P1, hc, _, hl, hm, hmm, _, hall⟩
  · simp [Value.cells] at hc
    obtain ⟨rfl, rfl, rfl⟩ := hc
    exact ⟨none, 0, [], rfl, Rd2.nil, fun i hi => absurd hi (by simp)⟩
  · simp [Value.cells] at hc
    obtain ⟨rfl, rfl, rfl⟩ := hc
    simp only [if_true] at hmm
    subst hmm
    have h0 : ∀ i, i < len → V0 i = .string (strV (V0 i)) ∧ (strV (V0 i)).size ≤ 9223372036854775807 ∧ V1 i = .string (strV (V1 i)) := fun i hi => by
      obtain ⟨s, e1, _, hs⟩ := DataW.trod_string Tryd.underlying9 (hall i (by omega)).2.2.1
      obtain ⟨s', e2, _, _⟩ := DataW.trod_string Tryd.underlying9 (hall i (by omega)).2.2.2
      simp only [List.cons.injEq, and_true] at e1 e2
      rw [e1, e2]
      exact ⟨rfl, by unfold maxLen at hs; show s.size ≤ _; omega, rfl⟩
    refine ⟨some a, m, (List.range len).map fun i => ⟨strV (V0 i), strV (V1 i)⟩, by simp, fun hpos => ?_, fun i hi => ?_⟩
    · have hpos' : 0 < len := by simpa using hpos
      obtain ⟨b, o, spot⟩ := a
      have hspot : spot = none := by simpa [Addr.add] using World.cell?_spot (hall 0 (by omega)).1
      subst hspot
      refine ⟨b, o, rfl, fun i hi => ?_⟩
      have hi' : i < len := by simpa using hi
      have hx := hall i (by omega)
      have hv := h0 i hi'
      simp only [List.getElem_map, List.getElem_range]
      rw [← hv.1, ← hv.2.2]
      have e1 := hx.1
      have e2 := hx.2.1
      rw [add_plain] at e1 e2
      exact ⟨e1, e2⟩
    · have hi' : i < len := by simpa using hi
      simp only [List.getElem_map, List.getElem_range]
      exact (h0 i hi').2.1

set_option maxRecDepth 100000 in
theorem open_areas {r : Reach} {b0 : Nat} {v : Value} {d : DataW H} {p : List MemPlace} (hok : Value.okWide Tryd.prog W r b0 23 v) (h : DataW.Trod enc Tryd.prog W 0 (fun _ => true) true 23 v d p) :
    ∃ (A : Option Addr) (c : Nat) (l : List Ar), v = .slice A l.length c ∧ Ars W A l := by
  obtain ⟨a0, len, cap, rfl⟩ := okWide_slice Tryd.underlying23 hok
  obtain ⟨fuel, hf⟩ := h
  rcases open_slice_pairs Tryd.underlying23 Tryd.underlying34 (by kernel_rfl) rfl rfl (by kernel_rfl) (by kernel_rfl) hf with ⟨hc, _⟩ | ⟨a, len', cap', m, k, V0, V1, D0, D1, P0, P1, hc, _, hl, hm, hmm, _, hall⟩
  · simp [Value.cells] at hc
    obtain ⟨rfl, rfl, rfl⟩ := hc
    exact ⟨none, 0, [], rfl, Rd2.nil⟩
  · simp [Value.cells] at hc
    obtain ⟨rfl, rfl, rfl⟩ := hc
    simp only [if_true] at hmm
    subst hmm
    have h0 : ∀ i, i < len → V0 i = .string (strV (V0 i)) ∧ V1 i = .bool (boolV (V1 i)) := fun i hi => by
      obtain ⟨s, e1, _, hs⟩ := DataW.trod_string Tryd.underlying9 (hall i (by omega)).2.2.1
      obtain ⟨s', e2, _⟩ := DataW.trod_bool Tryd.underlying4 (hall i (by omega)).2.2.2
      simp only [List.cons.injEq, and_true] at e1 e2
      rw [e1, e2]
      exact ⟨rfl, rfl⟩
    refine ⟨some a, m, (List.range len).map fun i => ⟨strV (V0 i), boolV (V1 i)⟩, by simp, fun hpos => ?_⟩
    have hpos' : 0 < len := by simpa using hpos
    obtain ⟨b, o, spot⟩ := a
    have hspot : spot = none := by simpa [Addr.add] using World.cell?_spot (hall 0 (by omega)).1
    subst hspot
    refine ⟨b, o, rfl, fun i hi => ?_⟩
    have hi' : i < len := by simpa using hi
    have hx := hall i (by omega)
    have hv := h0 i hi'
    simp only [List.getElem_map, List.getElem_range]
    rw [← hv.1, ← hv.2]
    have e1 := hx.1
    have e2 := hx.2.1
    rw [add_plain] at e1 e2
    exact ⟨e1, e2⟩
end
end Go.Proofs.YtnjepmbonhmdnaaDoor
