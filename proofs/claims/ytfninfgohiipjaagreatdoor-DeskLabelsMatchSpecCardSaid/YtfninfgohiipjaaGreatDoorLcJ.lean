/- Find, of the reference and of package shelf. -/
import Derived.Test.YtfninfgohiipjaaGreatDoorLcI
namespace Go.Proofs.YtfninfgohiipjaaGreatDoor
open Go.RowKit Dw

/-- What Find answers. -/
def fndF (T : List Th) (M : List Mv) (id : Int) : Int × Int :=
  if chkC twoB T M ≠ 0 then (0, chkC twoB T M) else match findN T M (M.length + 1) id with
    | none => (0, 9)
    | some n => (n, 0)
theorem fndF_bad {T : List Th} {M : List Mv} {id : Int} (h : chkC twoB T M ≠ 0) : fndF T M id = (0, chkC twoB T M) := by unfold fndF; rw [if_pos h]
theorem fndF_none {T : List Th} {M : List Mv} {id : Int} (h : chkC twoB T M = 0) (hf : findN T M (M.length + 1) id = none) : fndF T M id = (0, 9) := by unfold fndF; rw [if_neg (by rw [h]; simp), hf]
theorem fndF_some {T : List Th} {M : List Mv} {id n : Int} (h : chkC twoB T M = 0) (hf : findN T M (M.length + 1) id = some n) : fndF T M id = (n, 0) := by unfold fndF; rw [if_neg (by rw [h]; simp), hf]
def GivesP (p : Int × Int) (w : World) (e : Ending) (w' : World) : Prop := e = .returned (.tuple #[.int .i64 p.1, .int .i64 p.2]) ∧ Below w.heap.size w w'
theorem GivesP.mk {p : Int × Int} {a b : Int} {w w' : World} (h : p = (a, b)) (hb : Below w.heap.size w w') : GivesP p w (.returned (.tuple #[.int .i64 a, .int .i64 b])) w' := by
  subst h; exact ⟨rfl, hb⟩
theorem chkC_len {T : List Th} {M : List Mv} (h : chkC twoB T M = 0) : T.length ≤ 300 ∧ M.length ≤ 300 := by
  by_cases hl : 300 < T.length ∨ 300 < M.length
  · rw [chkC_large hl] at h; cases h
  · omega

set_option maxHeartbeats 1000000 in
theorem FindR_c (A1 : Option Addr) (c1 : Nat) (T : List Th) (A2 : Option Addr) (c2 : Nat) (M : List Mv) (id : Int) (w : World) (hc : CatOk w A1 T A2 M) (hG : GOK w) (hcap : T.length ≤ c1) :
    Calls Tryz.prog 83 #[catV A1 c1 T A2 c2 M, .int .i64 id] w (GivesP (fndF T M id) w) := by
  generalize hres : fndF T M id = res
  have HR := Lib.hid hres
  clear hres
  have HCB := Lib.hid (CB.new w (.slice A1 T.length c1) (.slice A2 M.length c2))
  go_enter Tryz.func83, Tryz.ntmps83
  go_wp2_with fail
  refine (CheckR_c A1 c1 T A2 c2 M _ (hc.below HCB.out.bel) (hG.below HCB.out.bel) hcap).mono ?_
  rintro e w2 ⟨rfl, hb2⟩
  have HC2 := Lib.hid (HCB.out.below hb2)
  clear hb2
  have hw2 : w.heap.size < w2.heap.size := HC2.out.lt
  have d0 := HC2.out.c0
  have d1 := HC2.out.c1
  by_cases hf : chkC twoB T M = 0
  case neg =>
    have hfb : (chkC twoB T M != 0) = true := by simpa using hf
    have HS := Lib.hid (HR.out.symm.trans (fndF_bad hf))
    clear hf
    generalize chkC twoB T M = ck at *
    go_wp2
    go_ret2
    exact GivesP.mk HS.out HC2.out.bel
  have HCK := Lib.hid hf
  rw [hf]
  clear hf
  go_wp2_with fail
  refine (findR_c A1 c1 T A2 c2 M id _ (hc.below HC2.out.bel) (chkC_len HCK.out).1 (chkC_len HCK.out).2).mono ?_
  rintro e w3 ⟨rfl, hb3⟩
  have HC3 := Lib.hid (HC2.out.below hb3)
  clear hb3
  cases hfd : findN T M (M.length + 1) id with
  | none =>
    have HS := Lib.hid (HR.out.symm.trans (fndF_none HCK.out hfd))
    clear hfd
    simp only [Option.getD_none, Option.isSome_none]
    go_wp2
    go_ret2
    exact GivesP.mk HS.out HC3.out.bel
  | some n =>
    have HS := Lib.hid (HR.out.symm.trans (fndF_some HCK.out hfd))
    clear hfd
    simp only [Option.getD_some, Option.isSome_some]
    go_wp2
    go_ret2
    exact GivesP.mk HS.out HC3.out.bel

theorem chkC_ok {T : List Th} {M : List Mv} (h : chkC twoB T M = 0) : IncT T ∧ Pos T ∧ (∀ t ∈ T, thF twoB t = 0) ∧ (∀ j, j < T.length → tF2 T j = 0) ∧ IncM M ∧ (∀ x ∈ M, 1 ≤ x.frm) ∧ ∀ j, j < M.length → mvF2 T M j = 0 := by
  obtain ⟨l1, l2⟩ := chkC_len h
  unfold chkC at h
  rw [if_neg (by omega)] at h
  by_cases h1 : firstF (tF1 twoB T) T.length = 0
  · rw [if_neg (by rw [h1]; simp)] at h
    by_cases h2 : firstF (tF2 T) T.length = 0
    · rw [if_neg (by rw [h2]; simp)] at h
      by_cases h3 : firstF (mvF1 T M) M.length = 0
      · rw [if_neg (by rw [h3]; simp)] at h
        obtain ⟨i1, i2, i3⟩ := tF1_inc (firstF_all h1)
        obtain ⟨m1, m2⟩ := mvF1_inc (firstF_all h3)
        exact ⟨i1, i2, i3, firstF_all h2, m1, m2, firstF_all h⟩
      · rw [if_pos h3] at h; exact absurd h h3
    · rw [if_pos h2] at h; exact absurd h h2
  · rw [if_pos h1] at h; exact absurd h h1

def FpRel (w : World) (M : List Mv) (g : Nat) (v1 v2 : Value) (m : Nat) (i : Value) (wr : World) : Prop :=
  ∃ k : Nat, k + m = M.length ∧ i = .int .i64 k ∧ MapIs kI wr g (fun id => (mvL M k id).map kI) ∧ MapSz wr g k ∧ CB w wr w.heap.size v1 v2
theorem CB.upd {w wr wr' : World} {g r : Nat} {v1 v2 : Value} (h : CB w wr g v1 v2) (hg : wr.grownBy wr' (some r)) (h1 : g ≠ r) (h2 : w.heap.size ≤ r) : CB w wr' g v1 v2 :=
  ⟨(hg.block _ h.lt (fun e => by injection e with e; exact h1 e)).trans h.box, below_mapU h.bel hg h2 h.bel.size⟩

set_option maxHeartbeats 2000000 in
theorem FindS_c (A1 : Option Addr) (c1 : Nat) (T : List Th) (A2 : Option Addr) (c2 : Nat) (M : List Mv) (id : Int) (w : World) (hc : CatOk w A1 T A2 M) (hG : GOK w) :
    Calls Tryz.prog 78 #[catV A1 c1 T A2 c2 M, .int .i64 id] w (GivesP (fndF T M id) w) := by
  generalize hres : fndF T M id = res
  have HR := Lib.hid hres
  clear hres
  have HCB := Lib.hid (CB.new w (.slice A1 T.length c1) (.slice A2 M.length c2))
  go_enter Tryz.func78, Tryz.ntmps78
  go_wp2_with fail
  refine (Check_c A1 c1 T A2 c2 M _ (hc.below HCB.out.bel) (hG.below HCB.out.bel)).mono ?_
  rintro e w2 ⟨rfl, hb2⟩
  have HC2 := Lib.hid (HCB.out.below hb2)
  clear hb2
  have hw2 : w.heap.size < w2.heap.size := HC2.out.lt
  have d0 := HC2.out.c0
  have d1 := HC2.out.c1
  by_cases hf : chkC twoB T M = 0
  case neg =>
    have hfb : (chkC twoB T M != 0) = true := by simpa using hf
    have HS := Lib.hid (HR.out.symm.trans (fndF_bad hf))
    clear hf
    generalize chkC twoB T M = ck at *
    go_wp2
    go_ret2
    exact GivesP.mk HS.out HC2.out.bel
  have HCK := Lib.hid hf
  have HOK := Lib.hid (chkC_ok hf)
  have hmlen : M.length ≤ 300 := (chkC_len hf).2
  rw [hf]
  clear hf
  have hmm := @run_makeMap Tryz.prog
  go_wp2
  clear hmm
  go_loopg [21] M.length (FpRel w M w2.heap.size (.slice A1 T.length c1) (.slice A2 M.length c2))
  case atStart => exact ⟨0, by omega, rfl, MapIs.new kI w2, MapSz.new w2, HC2.out.alloc _⟩
  clear d0 d1 HC2
  case round =>
    obtain ⟨k, hk, rfl, hmp, hsz, hcb⟩ := hrel
    have HK := Lib.hid hk
    have hk1 : k ≤ M.length := by omega
    have hwr : w2.heap.size < wr.heap.size := hmp.lt
    have hws : w.heap.size < wr.heap.size := by omega
    have b0 := hcb.c0
    have b1 := hcb.c1
    clear hk
    by_cases hlt : k < M.length
    · obtain ⟨b, o, rfl, hb, hcc⟩ := hc.mvs.at_ (by omega)
      have q0 := (hcb.bel.cell (p := ⟨b, o + k * 2, none⟩) hb).trans (hcc k hlt).1
      have q1 := (hcb.bel.cell (p := ⟨b, o + k * 2 + 1, none⟩) hb).trans (hcc k hlt).2
      have hbr : b < wr.heap.size := by omega
      obtain ⟨w3, hrun, hm3, hs3, hg3, hz3⟩ := run_update_new (P := Tryz.prog) tMoved kInt (hmp.alloc (.cells #[.int .i64 (M[k]).frm, .int .i64 (M[k]).to] 147)) (hsz.alloc (.cells #[.int .i64 (M[k]).frm, .int .i64 (M[k]).to] 147)) (M[k]).frm (.int .i64 (M[k]).to) (by rw [mvL_fresh HOK.out.2.2.2.2.1 hlt]; rfl)
      have HM3 : Hid (MapIs kI w3 w2.heap.size (fun id => (mvL M (k + 1) id).map kI)) := by
        show MapIs kI w3 w2.heap.size (fun id => (mvL M (k + 1) id).map kI)
        have e : (fun id' => if id' = (M[k]).frm then some (Value.int .i64 (M[k]).to) else (mvL M k id').map kI) = fun id => (mvL M (k + 1) id).map kI := by
          funext id'
          rw [mvL, getM hlt]
          by_cases h : id' = (M[k]).frm <;> simp [h, kI]
        rw [e] at hm3
        exact hm3
      have HS3 := Lib.hid hs3
      have HC3 := Lib.hid ((hcb.alloc (.cells #[.int .i64 (M[k]).frm, .int .i64 (M[k]).to] 147)).upd hg3 (by omega) (by omega))
      have hrun' : (Instr.mapUpdate 145 (.map (some w2.heap.size)) (.int .i64 (M[k]).frm) (.int .i64 (M[k]).to)).run Tryz.prog (wr.alloc (.cells #[.int .i64 (M[k]).frm, .int .i64 (M[k]).to] 147)) = .ok () w3 := hrun
      clear hcc hm3 hs3 hg3 hz3 hrun hmp hsz hcb
      go_wp2
      go_roundg (gk - 1)
      case measure => have := HK.out; omega
      case rel => exact ⟨k + 1, by have := HK.out; omega, by go_num, HM3.out, HS3.out, HC3.out⟩
    · have hkm : k = M.length := by omega
      have hto : ToM wr w2.heap.size M := by
        refine ⟨?_, by rw [← hkm]; exact hsz⟩
        rw [hkm] at hmp
        rw [funext (fun id => by rw [mvL_inc HOK.out.2.2.2.2.1 id] : ∀ id, (mvL M M.length id).map kI = (mvAt M id).map kI)] at hmp
        exact hmp
      have HTO := Lib.hid hto
      have HC3 := Lib.hid hcb
      clear hkm hto hmp hsz hcb
      go_wp2_with fail
      refine (indexOf_c A1 c1 T A2 c2 M _ (hc.below HC3.out.bel) HOK.out.1 (chkC_len HCK.out).1).mono ?_
      rintro e w4 ⟨r, rfl, hrw, hidx, hb4⟩
      have HC4 := Lib.hid (HC3.out.below hb4)
      have HTO4 := Lib.hid (HTO.out.below hb4)
      have HIX := Lib.hid hidx
      clear hb4 hidx
      go_wp2_with fail
      refine (found_c r w2.heap.size T M id _ HIX.out HTO4.out hmlen).mono ?_
      rintro e w5 ⟨rfl, hb5⟩
      have HC5 := Lib.hid (HC4.out.below hb5)
      clear hb5
      rw [findP_findN HOK.out.2.1 HOK.out.2.2.2.2.2.1]
      cases hfd : findN T M (M.length + 1) id with
      | none =>
        have HS := Lib.hid (HR.out.symm.trans (fndF_none HCK.out hfd))
        clear hfd
        simp only [Option.getD_none, Option.isSome_none]
        go_wp2
        go_ret2
        exact GivesP.mk HS.out HC5.out.bel
      | some n =>
        have HS := Lib.hid (HR.out.symm.trans (fndF_some HCK.out hfd))
        clear hfd
        simp only [Option.getD_some, Option.isSome_some]
        go_wp2
        go_ret2
        exact GivesP.mk HS.out HC5.out.bel
end Go.Proofs.YtfninfgohiipjaaGreatDoor
