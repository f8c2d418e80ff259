/- Package desk: withins, which keep what they have found. -/
import Derived.Test.YtfninfgohiipjaaGreatDoorLdA
namespace Go.Proofs.YtfninfgohiipjaaGreatDoor
open Go.RowKit Dw

theorem tWit : Tryz.prog.underlying 126 = some (.map 3 52) := Tryz.underlying126
theorem zInts (w : World) : (zeroValue 52).run Tryz.prog w = .ok (.slice none 0 0) w := by kernel_rfl
theorem map_cells {κ : Type} [DecidableEq κ] {mk : κ → Value} {w : World} {r b o : Nat} {F : κ → Option Value} {v : Value} (hm : MapIs mk w r F) (hc : w.cell? ⟨b, o, none⟩ = some v) : b ≠ r := by
  rintro rfl
  obtain ⟨es, clk, L, hr, _⟩ := hm
  simp [World.cell?, hr] at hc
/-- A slice that is read keeps under a write to a map. -/
theorem Ints.map {κ : Type} [DecidableEq κ] {mk : κ → Value} {w w' : World} {r : Nat} {F : κ → Option Value} {A : Option Addr} {l : List Int} (h : Ints w A l) (hm : MapIs mk w r F) (hg : w.grownBy w' (some r)) : Ints w' A l := fun hl => by
  obtain ⟨b, o, rfl, hb, hc⟩ := h.at_ hl
  refine ⟨b, o, rfl, fun i hi => ?_⟩
  have hne := map_cells hm (hc i hi)
  rw [World.cell?_of_block (hg.block b hb (fun e => by injection e with e; exact hne e))]
  exact hc i hi

structure CacheF (w : World) (r : Nat) (T : List Th) (M : List Mv) (f : Int → Option Value) : Prop where
  map : MapIs kI w r f
  has : ∀ id v, f id = some v → ∃ A c l, v = .slice A l.length c ∧ insO T M id = some l ∧ Ints w A l
/-- The withins: a box with the catalogue and the map; K are ids that are kept. -/
structure WSt (w0 w : World) (g r : Nat) (v1 v2 : Value) (T : List Th) (M : List Mv) (K : Int → Prop) : Prop where
  box : w.heap[g]? = some (.cells #[v1, v2, .map (some r)] 128 (0, 0))
  cache : ∃ f, CacheF w r T M f ∧ ∀ k, K k → (f k).isSome = true
  bel : Below w0.heap.size w0 w
  old : w0.heap.size ≤ g ∧ w0.heap.size ≤ r
section
variable {w0 w w' : World} {g r : Nat} {v1 v2 : Value} {T : List Th} {M : List Mv} {K : Int → Prop}
theorem WSt.lt (h : WSt w0 w g r v1 v2 T M K) : g < w.heap.size := (Array.getElem?_eq_some_iff.1 h.box).1
theorem WSt.ltr (h : WSt w0 w g r v1 v2 T M K) : r < w.heap.size := by
  obtain ⟨f, hf, _⟩ := h.cache
  exact hf.map.lt
theorem WSt.ne (h : WSt w0 w g r v1 v2 T M K) : g ≠ r := by
  obtain ⟨f, hf, _⟩ := h.cache
  exact map_cells hf.map (boxC h.box (i := 0) rfl)
theorem WSt.below (h : WSt w0 w g r v1 v2 T M K) (hb : Below w.heap.size w w') : WSt w0 w' g r v1 v2 T M K := by
  obtain ⟨f, hf, hk⟩ := h.cache
  refine ⟨(hb.block _ h.lt).trans h.box, ⟨f, ⟨hf.map.below hb, fun id v hv => ?_⟩, hk⟩, h.bel.trans (hb.mono h.bel.size), h.old⟩
  obtain ⟨A, c, l, e, hi, hr⟩ := hf.has id v hv
  exact ⟨A, c, l, e, hi, hr.below hb⟩
theorem WSt.alloc (h : WSt w0 w g r v1 v2 T M K) (o : Obj) : WSt w0 (w.alloc o) g r v1 v2 T M K := h.below ((Below.refl _ _).alloc (Nat.le_refl _) _)
theorem WSt.c0 (h : WSt w0 w g r v1 v2 T M K) : w.cell? ⟨g, 0, none⟩ = some v1 := boxC h.box rfl
theorem WSt.c1 (h : WSt w0 w g r v1 v2 T M K) : w.cell? ⟨g, 1, none⟩ = some v2 := boxC h.box rfl
theorem WSt.c2 (h : WSt w0 w g r v1 v2 T M K) : w.cell? ⟨g, 2, none⟩ = some (.map (some r)) := boxC h.box rfl
theorem WSt.weak {K' : Int → Prop} (h : WSt w0 w g r v1 v2 T M K) (hk : ∀ k, K' k → K k) : WSt w0 w g r v1 v2 T M K' := by
  obtain ⟨f, hf, hs⟩ := h.cache
  exact ⟨h.box, ⟨f, hf, fun k hk' => hs k (hk k hk')⟩, h.bel, h.old⟩
end

theorem grown_trans2 {a b c : World} {row : Option Nat} (h : Below a.heap.size a b) (k : b.grownBy c row) : a.grownBy c row :=
  ⟨k.os.trans h.os, k.tape.trans h.tape, k.output.trans h.output, Nat.le_trans h.size k.size, fun i hi hne => (k.block i (Nat.lt_of_lt_of_le hi h.size) hne).trans (h.block i hi)⟩

/-- What at answers. -/
def atP (T : List Th) (M : List Mv) (id : Int) : List Int × Int := match insO T M id with
  | none => ([], 9)
  | some l => (l, 0)
theorem atP_none {T : List Th} {M : List Mv} {id : Int} (h : insO T M id = none) : atP T M id = ([], 9) := by unfold atP; rw [h]
theorem atP_some {T : List Th} {M : List Mv} {id : Int} {l : List Int} (h : insO T M id = some l) : atP T M id = (l, 0) := by unfold atP; rw [h]
def GivesAt (w0 w : World) (g r : Nat) (v1 v2 : Value) (T : List Th) (M : List Mv) (K : Int → Prop) (id : Int) (e : Ending) (w' : World) : Prop :=
  ∃ A c, e = .returned (.tuple #[.slice A (atP T M id).1.length c, .int .i64 (atP T M id).2]) ∧ Ints w' A (atP T M id).1 ∧ WSt w0 w' g r v1 v2 T M (fun k => K k ∨ (k = id ∧ (insO T M id).isSome = true)) ∧ w.grownBy w' (some r) ∧ (K id → w = w')
theorem GivesAt.nil {w0 w w' : World} {g r : Nat} {v1 v2 : Value} {T : List Th} {M : List Mv} {K : Int → Prop} {id : Int} (h : insO T M id = none) (hs : WSt w0 w' g r v1 v2 T M K) (hg : w.grownBy w' (some r)) (hk : ¬ K id) : GivesAt w0 w g r v1 v2 T M K id (.returned (.tuple #[.slice none 0 0, .int .i64 9])) w' :=
  ⟨none, 0, by rw [atP_none h]; rfl, by rw [atP_none h]; exact Rd1.nil, hs.weak (fun k hk => by
    rcases hk with h1 | ⟨_, h2⟩
    · exact h1
    · rw [h] at h2; cases h2), hg, fun h => absurd h hk⟩
theorem GivesAt.mk {w0 w w' : World} {g r : Nat} {v1 v2 : Value} {T : List Th} {M : List Mv} {K : Int → Prop} {id : Int} {l : List Int} {A : Option Addr} {c : Nat} (h : insO T M id = some l) (hi : Ints w' A l) (hs : WSt w0 w' g r v1 v2 T M (fun k => K k ∨ k = id)) (hg : w.grownBy w' (some r)) (hk : K id → w = w') : GivesAt w0 w g r v1 v2 T M K id (.returned (.tuple #[.slice A l.length c, .int .i64 0])) w' :=
  ⟨A, c, by rw [atP_some h], by rw [atP_some h]; exact hi, hs.weak (fun k hk => by
    rcases hk with h1 | ⟨h1, _⟩
    · exact .inl h1
    · exact .inr h1), hg, hk⟩

set_option maxHeartbeats 1000000 in
theorem at_c (w0 : World) (g r : Nat) (A1 : Option Addr) (c1 : Nat) (T : List Th) (A2 : Option Addr) (c2 : Nat) (M : List Mv) (K : Int → Prop) (id : Int) (w : World) (hc : CatOk w0 A1 T A2 M) (hG : GOK w0) (hck : chkC twoB T M = 0)
    (hst : WSt w0 w g r (.slice A1 T.length c1) (.slice A2 M.length c2) T M K) :
    Calls Tryz.prog 42 #[.pointer (some ⟨g, 0, none⟩), .int .i64 id] w (GivesAt w0 w g r (.slice A1 T.length c1) (.slice A2 M.length c2) T M K id) := by
  have HST := Lib.hid hst
  have HCK := Lib.hid hck
  obtain ⟨f, hf, hK⟩ := hst.cache
  have HF := Lib.hid hf
  have HK := Lib.hid hK
  have hg0 := hst.lt
  have b0 := hst.c0
  have b1 := hst.c1
  have b2 := hst.c2
  have hlk := run_lookup_map tWit kInt zInts hf.map id true
  clear hck hst hf hK
  cases hfi : f id with
  | some v =>
    obtain ⟨A, c, l, rfl, hi, hrd⟩ := HF.out.has id v hfi
    rw [hfi] at hlk
    have hlk' : (Instr.lookup 126 (.map (some r)) (.int .i64 id) true).run Tryz.prog w = .ok (.tuple #[.slice A l.length c, .bool true]) w := hlk
    have HFI := Lib.hid hfi
    have HI := Lib.hid hi
    have HRD := Lib.hid hrd
    clear hlk hfi hi hrd
    go_enter Tryz.func42, Tryz.ntmps42
    go_wp2
    go_ret2
    refine GivesAt.mk HI.out HRD.out ?_ (grownBy_of_below (Below.refl _ _) _) (fun _ => rfl)
    refine ⟨HST.out.box, ⟨f, HF.out, fun k hk => ?_⟩, HST.out.bel, HST.out.old⟩
    rcases hk with h1 | rfl
    · exact HK.out k h1
    · rw [HFI.out]; rfl
  | none =>
    rw [hfi] at hlk
    have hlk' : (Instr.lookup 126 (.map (some r)) (.int .i64 id) true).run Tryz.prog w = .ok (.tuple #[.slice none 0 0, .bool false]) w := hlk
    have HNK : Hid (¬ K id) := fun h => by have := HK.out id h; rw [hfi] at this; cases this
    clear hlk hfi
    go_enter Tryz.func42, Tryz.ntmps42
    go_wp2_with fail
    refine (FindS_c A1 c1 T A2 c2 M id _ (hc.below HST.out.bel) (hG.below HST.out.bel)).mono ?_
    rintro e w2 ⟨rfl, hb2⟩
    have HB2 := Lib.hid hb2
    have HS2 := Lib.hid (HST.out.below hb2)
    clear hb2 b0 b1 b2 hlk'
    have hg2 := HS2.out.lt
    have b0 := HS2.out.c0
    have b1 := HS2.out.c1
    have b2 := HS2.out.c2
    cases hfd : findN T M (M.length + 1) id with
    | none =>
      rw [fndF_none HCK.out hfd]
      have HI := Lib.hid (insO_none hfd)
      clear hfd
      go_wp2
      go_ret2
      exact GivesAt.nil HI.out HS2.out (grownBy_of_below HB2.out _) HNK.out
    | some n =>
      rw [fndF_some HCK.out hfd]
      obtain ⟨t, ht⟩ := findN_there hfd
      have HI := Lib.hid (insO_some hfd ht)
      have HW := Lib.hid (witF_some HCK.out ht)
      clear hfd ht
      go_wp2_with fail
      refine (WithinS_c A1 c1 T A2 c2 M n _ (hc.below HS2.out.bel) (hG.below HS2.out.bel)).mono ?_
      rw [HW.out]
      rintro e w3 ⟨A, c, rfl, hi3, hb3⟩
      have HB3 := Lib.hid hb3
      have HS3 := Lib.hid (HS2.out.below hb3)
      have HI3 := Lib.hid hi3
      clear hb3 b0 b1 b2 hi3
      have hg3 := HS3.out.lt
      have b2 := HS3.out.c2
      generalize witL T n t = l at *
      dsimp only
      obtain ⟨f3, hf3, hK3⟩ := HS3.out.cache
      obtain ⟨w4, hrun, hm4, hg4, hz4⟩ := run_update_map (P := Tryz.prog) tWit kInt hf3.map id (.slice A l.length c)
      have hrun' : (Instr.mapUpdate 126 (.map (some r)) (.int .i64 id) (.slice A l.length c)).run Tryz.prog w3 = .ok () w4 := hrun
      have HI4 := Lib.hid (HI3.out.map hf3.map hg4)
      have HG4 := Lib.hid (grown_trans2 HB2.out (grown_trans2 HB3.out hg4))
      have HS4 : Hid (WSt w0 w4 g r (.slice A1 T.length c1) (.slice A2 M.length c2) T M (fun k => K k ∨ k = id)) := by
        show WSt w0 w4 g r (.slice A1 T.length c1) (.slice A2 M.length c2) T M (fun k => K k ∨ k = id)
        refine ⟨(hg4.block g HS3.out.lt (fun e => by injection e with e; exact HS3.out.ne e)).trans HS3.out.box, ⟨_, ⟨hm4, fun id' v hv => ?_⟩, fun k hk => ?_⟩, below_mapU HS3.out.bel hg4 HS3.out.old.2 HS3.out.bel.size, HS3.out.old⟩
        · by_cases e : id' = id
          · rw [if_pos e] at hv
            injection hv with hv
            subst hv
            subst e
            exact ⟨A, c, l, rfl, HI.out, HI4.out⟩
          · rw [if_neg e] at hv
            obtain ⟨A', c', l', e1, e2, e3⟩ := hf3.has id' v hv
            exact ⟨A', c', l', e1, e2, e3.map hf3.map hg4⟩
        · show (if k = id then _ else f3 k).isSome = true
          by_cases e : k = id
          · rw [if_pos e]; rfl
          · rw [if_neg e]
            rcases hk with h1 | h1
            · exact hK3 k h1
            · exact absurd h1 e
      clear hrun hm4 hg4 hz4 hf3 hK3
      go_wp2
      go_ret2
      exact GivesAt.mk HI.out HI4.out HS4.out HG4.out (fun h => absurd h HNK.out)

theorem newWithins_c (w0 : World) (A1 : Option Addr) (c1 : Nat) (T : List Th) (A2 : Option Addr) (c2 : Nat) (M : List Mv) (w : World) (hb : Below w0.heap.size w0 w) :
    Calls Tryz.prog 39 #[catV A1 c1 T A2 c2 M] w fun e w' => ∃ g r, e = .returned (.pointer (some ⟨g, 0, none⟩)) ∧ WSt w0 w' g r (.slice A1 T.length c1) (.slice A2 M.length c2) T M (fun _ => False) ∧ Below w.heap.size w w' := by
  have hmm := @run_makeMap Tryz.prog
  have hsz := hb.size
  have hB : Below w.heap.size w (((w.alloc (.cells #[.slice A1 T.length c1, .slice A2 M.length c2] 25)).alloc (.map #[] 0)).alloc (.cells #[.slice A1 T.length c1, .slice A2 M.length c2, .map (some (w.heap.size + 1))] 128)) :=
    (((Below.refl _ _).alloc (Nat.le_refl _) _).alloc (by simp) _).alloc (by simp; omega) _
  have HB := Lib.hid hB
  have HB0 := Lib.hid (below_trans hb hB)
  have e1 : (w.alloc (.cells #[.slice A1 T.length c1, .slice A2 M.length c2] 25)).heap.size = w.heap.size + 1 := by simp
  have e2 : ((w.alloc (.cells #[.slice A1 T.length c1, .slice A2 M.length c2] 25)).alloc (.map #[] 0)).heap.size = w.heap.size + 2 := by simp
  have h1 := MapIs.new kI (w.alloc (.cells #[.slice A1 T.length c1, .slice A2 M.length c2] 25))
  rw [e1] at h1
  have HM := Lib.hid (h1.alloc (.cells #[.slice A1 T.length c1, .slice A2 M.length c2, .map (some (w.heap.size + 1))] 128))
  have h2 := heap_alloc_new ((w.alloc (.cells #[.slice A1 T.length c1, .slice A2 M.length c2] 25)).alloc (.map #[] 0)) (.cells #[.slice A1 T.length c1, .slice A2 M.length c2, .map (some (w.heap.size + 1))] 128)
  rw [e2] at h2
  have HX := Lib.hid h2
  clear hb hB e1 e2 h1 h2
  go_enter Tryz.func39, Tryz.ntmps39
  go_wp2
  go_ret
  exact ⟨_, w.heap.size + 1, rfl, ⟨HX.out, ⟨fun _ => none, ⟨HM.out, fun _ _ h => by cases h⟩, fun _ h => h.elim⟩, HB0.out, ⟨by omega, by omega⟩⟩, HB.out⟩
end Go.Proofs.YtfninfgohiipjaaGreatDoor
