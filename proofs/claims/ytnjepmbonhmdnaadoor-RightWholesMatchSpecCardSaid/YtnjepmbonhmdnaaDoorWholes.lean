/- For every list of parts of things and every name, the law RightWholesMatchSpec returns true (Whole of package right is that of the reference, with all errors) and its arguments read as before. Conditions: the row's own ('laid': Go's two UTF-8 tables start as the text lays them; the card ties them, over a pruned copy of the project). -/
import Derived.Test.YtnjepmbonhmdnaaDoorRowB
import Derived.Test.YtnjepmbonhmdnaaDoorWhL
import Derived.ChangeMaps5
namespace Go.Proofs.YtnjepmbonhmdnaaDoor.wholes
open Go.ChangeShapes Go.WideShapes Go.ChangeAt Go.RowKit Go.Deep Dw

section
variable {H : Type} {enc : TypeId × Value → H} {W : World}
set_option maxRecDepth 100000 in
theorem open_contained {r : Reach} {b0 : Nat} {v : Value} {d : DataW H} {p : List MemPlace} (hok : Value.okWide Tryd.prog W r b0 38 v) (h : DataW.Trod enc Tryd.prog W 0 (fun _ => true) true 38 v d p) :
    ∃ (A : Option Addr) (c : Nat) (l : List Rg), v = .slice A l.length c ∧ Rgs W A l ∧ Sized l := by
  obtain ⟨a0, len, cap, rfl⟩ := okWide_slice Tryd.underlying38 hok
  obtain ⟨fuel, hf⟩ := h
  rcases open_slice_pairs Tryd.underlying38 Tryd.underlying64 (by kernel_rfl) rfl rfl (by kernel_rfl) (by kernel_rfl) hf with ⟨hc, _⟩ | ⟨a, len', cap', m, k, V0, V1, D0, D1, P0, P1, hc, _, hl, hm, hmm, _, hall⟩
  · simp [Value.cells] at hc
    obtain ⟨rfl, rfl, rfl⟩ := hc
    exact ⟨none, 0, [], rfl, Rd2.nil, fun i hi => absurd hi (by simp)⟩
  · simp [Value.cells] at hc
    obtain ⟨rfl, rfl, rfl⟩ := hc
    simp only [if_true] at hmm
    subst hmm
    have h0 : ∀ i, i < len → V0 i = .string (strV (V0 i)) ∧ (strV (V0 i)).size ≤ 9223372036854775807 ∧ V1 i = .string (strV (V1 i)) ∧ (strV (V1 i)).size ≤ 9223372036854775807 := fun i hi => by
      obtain ⟨s, e1, _, hs⟩ := DataW.trod_string Tryd.underlying9 (hall i (by omega)).2.2.1
      obtain ⟨s', e2, _, hs'⟩ := DataW.trod_string Tryd.underlying9 (hall i (by omega)).2.2.2
      simp only [List.cons.injEq, and_true] at e1 e2
      rw [e1, e2]
      exact ⟨rfl, by unfold maxLen at hs; show s.size ≤ _; omega, rfl, by unfold maxLen at hs'; show s'.size ≤ _; omega⟩
    refine ⟨some a, m, (List.range len).map fun i => ⟨strV (V0 i), strV (V1 i)⟩, by simp, fun hpos => ?_, fun i hi => ?_⟩
    · have hpos' : 0 < len := by simpa using hpos
      obtain ⟨b, o, spot⟩ := a
      have hspot : spot = none := by simpa [Addr.add] using World.cell?_spot (hall 0 (by omega)).1
      subst hspot
      refine ⟨b, o, rfl, fun i hi => ?_⟩
      have hi' : i < len := by simpa using hi
      have hx := hall i (by omega)
      have hv := h0 i hi'
      simp only [List.getElem_map, List.getElem_range]
      rw [← hv.1, ← hv.2.2.1]
      have e1 := hx.1
      have e2 := hx.2.1
      rw [add_plain] at e1 e2
      exact ⟨e1, e2⟩
    · have hi' : i < len := by simpa using hi
      simp only [List.getElem_map, List.getElem_range]
      exact ⟨(h0 i hi').2.1, (h0 i hi').2.2.2⟩
end

theorem laid_met5 (os : Os) : laidMet Tryd.prog Rows.rightWholesMatchSpecRow.laid ((laidWorld os).forCall (fun _ _ => 0) ⟨#[], #[nilSl, .string ⟨#[]⟩], []⟩).memory :=
  laidMet_of_run' 8 (by kernel_rfl) (by kernel_rfl)

set_option maxRecDepth 100000 in
theorem contract (H : Type) (enc : TypeId × Value → H) (W : World) (base : Nat) (args : Array Value) (ds gs : List (DataW H)) (before : List MemPlace)
    (hval : ∀ (j : Nat) t v, Tryd.f5.params[j]? = some t → args[j]? = some v → Value.okWide Tryd.prog W .any base t v)
    (hW : DataW.Whole enc Tryd.prog Tryd.f5.params.toList Rows.rightWholesMatchSpecSpec.vars false W args.toList ds gs before) :
    Calls Tryd.prog 5 args W fun e W' => ∃ v, e = .returned v ∧ Rows.rightWholesMatchSpecSpec.post enc Tryd.prog Tryd.f5 false true false false W args v W' := by
  have hW' := hW
  obtain ⟨p, q, hA0, hV, rfl, hfz, hnd⟩ := hW
  have hA : DataW.TrodAll enc Tryd.prog W 0 (fun _ => true) true Tryd.f5.params.toList args.toList ds p := hA0
  rw [Tryd.params5] at hA hval
  obtain ⟨v0, vs0, d0, ds0, p0, q0, hargs, rfl, rfl, h0, r0⟩ := trodAll_cons hA
  obtain ⟨v1, vs1, d1, ds1, p1, q1, rfl, rfl, rfl, h1, r1⟩ := trodAll_cons r0
  obtain ⟨rfl, rfl, rfl⟩ := trodAll_nil r1
  obtain rfl : args = #[v0, v1] := by cases args; simp_all
  obtain ⟨rfl, rfl⟩ := trodVars_none hV
  obtain ⟨A, c, l, rfl, hl, hz⟩ := open_contained (hval 0 _ v0 rfl rfl) h0
  obtain ⟨s, rfl, _, _, hs⟩ := Go.ChangeMaps.open_string Tryd.underlying9 (hval 1 _ v1 rfl rfl) h1
  refine (law5_c A c l s W hl hz (by unfold maxLen at hs; omega)).mono fun e W' ⟨he, hbl⟩ => ?_
  subst he
  exact ⟨_, rfl, law_post (tb := 4) hW' rfl (by kernel_rfl) Tryd.underlying4 (by rw [Tryd.params5]; decide) ⟨rfl, rfl, rfl⟩ hbl⟩

theorem reads (os : Os) {H : Type} (enc : TypeId × Value → H) : ∃ pl, DataW.whole enc Tryd.prog ((laidWorld os).forCall (fun _ _ => 0) ⟨#[], #[nilSl, .string ⟨#[]⟩], []⟩).memory Tryd.f5.params.toList Rows.rightWholesMatchSpecSpec.vars false #[nilSl, .string ⟨#[]⟩].toList 8 = some ([.nil, .lit (.string [])], [], pl) :=
  ⟨[], by kernel_rfl⟩

set_option maxRecDepth 100000 in
theorem lifted (os : Os) (started : os.Started) (H : Type) (enc : TypeId × Value → H) (F : Stop.Interp) :
    ReturnsInHanded {} Tryd.checked os 5 .any ((OpenSpec.ofChange Rows.rightWholesMatchSpecSpec).preRow enc Tryd.prog Tryd.f5 Rows.rightWholesMatchSpecRow.domain false Rows.rightWholesMatchSpecRow.laid) (((OpenSpec.ofChange Rows.rightWholesMatchSpecSpec).at F).post enc Tryd.prog Tryd.f5 false true false false) := by
  obtain ⟨pl, hx⟩ := reads os enc
  refine returnsInHanded_of_row (C := Tryd.checked) (s := OpenSpec.ofChange Rows.rightWholesMatchSpecSpec) own started (by kernel_rfl) Tryd.func5
    (witness_row_at (enc := enc) (C := Tryd.checked) false (laidWorld os) #[nilSl, .string ⟨#[]⟩] rfl (by kernel_rfl) (by kernel_rfl) (by kernel_rfl)
      (OpenSpec.preRow_of_cond 8 hx (by kernel_rfl) (fun k hk => by cases hk) (by kernel_rfl) (laid_met5 os))) ?_
  intro W base args ds gs before hval hW _ _ _ _ _ _
  exact contract H enc W base args ds gs before hval hW

theorem said : Rows.RightWholesMatchSpecSaid :=
  OpenClaim.holds_of_cond 5 Tryd.f5 rfl rfl rfl rfl rfl rfl rfl ⟨rfl, rfl, rfl, rfl, rfl⟩ rfl rfl rfl rfl rfl (by kernel_rfl) Tryd.func5 (by kernel_rfl)
    (of_decide_eq_true (by kernel_rfl)) (by unfold Func.isWrapper; first | (rw [if_pos (by decide +kernel)]; kernel_rfl) | (rw [if_neg (by decide +kernel)]; exact ⟨rfl, rfl⟩))
    (fun os started H enc _ F => by rw [OpenClaim.pre_eq_preRow]; exact lifted os started H enc F)

theorem plain (f : FuncId) (fn : Func) (hf : Tryd.pinned.checked.prog.funcNamed "deadwax/deadwaxlaw7.RightWholesMatchSpec" = some f) (hfn : Tryd.pinned.checked.prog.funcs[f]? = some fn) :
    false = Tryd.pinned.checked.prog.looks [] ∧ ∀ (j : Nat) t, fn.params[j]? = some t → Tryd.pinned.checked.prog.wantsStandIn t = false := by
  obtain rfl : f = 5 := Option.some.inj ((show Tryd.prog.funcNamed "deadwax/deadwaxlaw7.RightWholesMatchSpec" = some 5 by kernel_rfl).symm.trans hf) |>.symm
  obtain rfl : fn = Tryd.f5 := (Option.some.inj (Tryd.func5.symm.trans hfn)).symm
  refine ⟨by kernel_rfl, fun j t ht => ?_⟩
  rw [Tryd.params5] at ht
  have hm : t = 38 ∨ t = 9 := by
    have := Array.mem_of_getElem? ht
    simp at this
    omega
  rcases hm with rfl | rfl
  · exact (show Tryd.prog.wantsStandIn 38 = false by kernel_rfl)
  · exact (show Tryd.prog.wantsStandIn 9 = false by kernel_rfl)

theorem card : Rows.RightWholesMatchSpecCardSaid :=
  Claim7.holds_tied_plain_at .later [] _ _ _ _ said (fun _ h => by cases h) (by kernel_rfl) (fun _ h => by cases h) rightWholesMatchSpec_row_tie rfl ⟨rfl, rfl⟩ (by kernel_rfl) rfl plain (by kernel_rfl)
end Go.Proofs.YtnjepmbonhmdnaaDoor.wholes
