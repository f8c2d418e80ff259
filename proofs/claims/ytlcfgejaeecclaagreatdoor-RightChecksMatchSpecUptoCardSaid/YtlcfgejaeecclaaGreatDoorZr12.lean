/- For every two titles and words of bulk at most 1048576, the law RightChecksMatchSpec returns true (Check and Text are as specified, with all errors) and its arguments read as before. Conditions: the row's own (the bound on the bulk; laid: the tables of Go's library that the row lists start as their text lays them; the card ties them, over a pruned copy of the project). -/
import Derived.Test.YtlcfgejaeecclaaGreatDoorZq49
import Derived.Test.YtlcfgejaeecclaaGreatDoorZr11
import Derived.Stop.LaidErr
set_option maxRecDepth 100000
set_option maxHeartbeats 8000000
namespace Go.Proofs.YtlcfgejaeecclaaGreatDoor.checks
open Go.ChangeShapes Go.WideShapes Go.ChangeAt Go.RowKit Go.Deep Dw
theorem pok_of {W : World} (h : laidMetH Tryz.prog Rows.rightChecksMatchSpecUptoRow.laid W) : POK W := by
 have h' : laidMet Tryz.prog Rows.rightChecksMatchSpecUptoRow.laid W := h
 exact Lib.tabIs_of_head (g := 1) (t := 244) (e := 158) (n := 20) (by kernel_rfl) (by kernel_rfl) (by kernel_rfl) (by kernel_rfl) (by kernel_rfl) (by kernel_rfl) (laidMet.tail (laidMet.tail h'))
theorem contract (H : Type) (enc : TypeId × Value → H) (W : World) (base : Nat) (args : Array Value) (ds gs : List (DataW H)) (before : List MemPlace)
  (hval : ∀ (j : Nat) t v, Tryz.f6.params[j]? = some t → args[j]? = some v → Value.okWide Tryz.prog W .any base t v)
  (hW : DataW.Whole enc Tryz.prog Tryz.f6.params.toList Rows.rightChecksMatchSpecSpec.vars false W args.toList ds gs before) (hk : Rows.uptoSmall H (ds ++ gs) = true) (hlaid : laidMetH Tryz.prog Rows.rightChecksMatchSpecUptoRow.laid W) :
  Calls Tryz.prog 6 args W fun e W' => ∃ v, e = .returned v ∧ Rows.rightChecksMatchSpecSpec.post enc Tryz.prog Tryz.f6 false true false false W args v W' := by
 have hW' := hW
 obtain ⟨p, q, hA0, hV, rfl, hfz, hnd⟩ := hW
 have hA : DataW.TrodAll enc Tryz.prog W 0 (fun _ => true) true Tryz.f6.params.toList args.toList ds p := hA0
 rw [Tryz.params6] at hA hval
 obtain ⟨v0, vs0, d0, ds0, p0, q0, hargs, rfl, rfl, h0, r0⟩ := trodAll_cons hA
 obtain ⟨rfl, rfl, rfl⟩ := trodAll_nil r0
 obtain rfl : args = #[v0] := by cases args; simp_all
 obtain ⟨rfl, rfl⟩ := trodVars_none hV
 rw [List.append_nil] at hk
 have hB : Rows.uptoBulkAll _ ≤ 1048576 := of_decide_eq_true hk
 simp only [Rows.uptoBulkAll] at hB
 obtain ⟨RA0, rc0, rs0, UA0, uc0, us0, DA0, dc0, dl0, rfl, ht0, hc0⟩ := open_title (by omega) (hval 0 _ v0 rfl rfl) h0
 refine (lawC_c RA0 rc0 rs0 UA0 uc0 us0 DA0 dc0 dl0 W ht0.rg ht0.st ht0.de ht0.rz ht0.uz (pok_of hlaid)).mono fun e W' ⟨he, hbl⟩ => ?_
 subst he
 exact ⟨_, rfl, law_post (tb := 4) hW' rfl (by kernel_rfl) Tryz.underlying4 (by rw [Tryz.params6]; decide) ⟨rfl, rfl, rfl⟩ hbl⟩
abbrev wit : Array Value := #[.agg #[nilSl, nilSl, nilSl]]
theorem laid_met (os : Os) : laidMet Tryz.prog Rows.rightChecksMatchSpecUptoRow.laid ((laidWorld2 os).forCall (fun _ _ => 0) ⟨#[], wit, []⟩).memory :=
 laidMet_of_run' 8 (by kernel_rfl) (by kernel_rfl)
theorem reads (os : Os) {H : Type} (enc : TypeId × Value → H) : ∃ places, DataW.whole enc Tryz.prog ((laidWorld2 os).forCall (fun _ _ => 0) ⟨#[], wit, []⟩).memory Tryz.f6.params.toList Rows.rightChecksMatchSpecSpec.vars false wit.toList 8 = some ([.agg [.nil, .nil, .nil]], [], places) :=
 ⟨[], by kernel_rfl⟩
theorem lifted (os : Os) (started : os.Started) (H : Type) (enc : TypeId × Value → H) (F : Stop.Interp) :
  ReturnsInHanded {} Tryz.checked os 6 .any ((Rows.OpenSpec.upto Rows.rightChecksMatchSpecSpec).preRow enc Tryz.prog Tryz.f6 Rows.rightChecksMatchSpecUptoRow.domain false Rows.rightChecksMatchSpecUptoRow.laid) (((Rows.OpenSpec.upto Rows.rightChecksMatchSpecSpec).at F).post enc Tryz.prog Tryz.f6 false true false false) := by
 obtain ⟨places, hx⟩ := reads os enc
 refine returnsInHanded_of_row (C := Tryz.checked) (s := Rows.OpenSpec.upto Rows.rightChecksMatchSpecSpec) own started (by kernel_rfl) Tryz.func6
  (witness_row_at (enc := enc) (C := Tryz.checked) false (laidWorld2 os) wit rfl (by kernel_rfl) (by kernel_rfl) (by kernel_rfl)
   (OpenSpec.preRow_of_cond 8 hx (by kernel_rfl) (fun k hk => by cases hk; kernel_rfl) (by kernel_rfl) (laid_met os))) ?_
 intro W base args ds gs before hval hW _ hcond _ hL hsh _
 exact contract H enc W base args ds gs before hval hW (hcond _ rfl) hL
theorem said : Rows.RightChecksMatchSpecUptoSaid :=
 OpenClaim.holds_of_cond 6 Tryz.f6 rfl rfl rfl rfl rfl rfl rfl ⟨rfl, rfl, rfl, rfl, rfl⟩ rfl rfl rfl rfl rfl (by kernel_rfl) Tryz.func6 (by kernel_rfl)
  (of_decide_eq_true (by kernel_rfl)) (by unfold Func.isWrapper; first | (rw [if_pos (by decide +kernel)]; kernel_rfl) | (rw [if_neg (by decide +kernel)]; exact ⟨rfl, rfl⟩))
  (fun os started H enc _ F => by rw [OpenClaim.pre_eq_preRow]; exact lifted os started H enc F)
theorem plain (f : FuncId) (fn : Func) (hf : Tryz.pinned.checked.prog.funcNamed "deadwax/deadwaxlaw7.RightChecksMatchSpec" = some f) (hfn : Tryz.pinned.checked.prog.funcs[f]? = some fn) :
  true = Tryz.pinned.checked.prog.looks [] ∧ ∀ (j : Nat) t, fn.params[j]? = some t → Tryz.pinned.checked.prog.wantsStandIn t = false := by
 obtain rfl : f = 6 := Option.some.inj ((show Tryz.prog.funcNamed "deadwax/deadwaxlaw7.RightChecksMatchSpec" = some 6 by kernel_rfl).symm.trans hf) |>.symm
 obtain rfl : fn = Tryz.f6 := (Option.some.inj (Tryz.func6.symm.trans hfn)).symm
 refine ⟨by kernel_rfl, fun j t ht => ?_⟩
 rw [Tryz.params6] at ht
 have hm : t = 26 := by
  have := Array.mem_of_getElem? ht
  simpa using this
 subst hm
 exact (show Tryz.prog.wantsStandIn 26 = false by kernel_rfl)
theorem card : Rows.RightChecksMatchSpecUptoCardSaid :=
 Claim7.holds_tied_plain_at .later [] _ _ _ _ said (fun _ h => by cases h) (by kernel_rfl) (fun _ h => by cases h) rightChecksMatchSpecUpto_row_tie rfl ⟨rfl, rfl⟩ (by kernel_rfl) rfl plain (by kernel_rfl)
end Go.Proofs.YtlcfgejaeecclaaGreatDoor.checks
