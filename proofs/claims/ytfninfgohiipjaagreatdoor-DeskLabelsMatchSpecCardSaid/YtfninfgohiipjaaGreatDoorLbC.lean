/- Package shelf: checkMoved. -/
import Derived.Test.YtfninfgohiipjaaGreatDoorLbB
namespace Go.Proofs.YtfninfgohiipjaaGreatDoor
open Go.RowKit Dw

/-- What stands while a catalogue is checked: its box, the index, what was there before. -/
structure StC (w wr : World) (r : Nat) (T : List Th) (v1 v2 : Value) : Prop where
  box : wr.heap[w.heap.size]? = some (.cells #[v1, v2] 25 (0, 0))
  idx : IdxM wr r T
  bel : Below w.heap.size w wr
section
variable {w wr wr' : World} {r : Nat} {T : List Th} {v1 v2 : Value}
theorem StC.alloc (h : StC w wr r T v1 v2) (o : Obj) : StC w (wr.alloc o) r T v1 v2 :=
  ⟨(Below.heap_alloc wr o _ (Array.getElem?_eq_some_iff.1 h.box).1).trans h.box, h.idx.alloc o, h.bel.alloc h.bel.size o⟩
theorem StC.below (h : StC w wr r T v1 v2) (hb : Below wr.heap.size wr wr') : StC w wr' r T v1 v2 :=
  ⟨(hb.block _ (Array.getElem?_eq_some_iff.1 h.box).1).trans h.box, h.idx.below hb, h.bel.trans (hb.mono h.bel.size)⟩
theorem StC.drewN (h : StC w wr r T v1 v2) (n : Nat) : StC w (wr.drewN n) r T v1 v2 := h.below (below_drewN (Below.refl _ _) n)
/-- A write to another map. -/
theorem StC.upd (h : StC w wr r T v1 v2) {r2 : Nat} (hg : wr.grownBy wr' (some r2)) (h1 : r2 ≠ r) (h2 : w.heap.size < r2) : StC w wr' r T v1 v2 :=
  ⟨(hg.block _ (Array.getElem?_eq_some_iff.1 h.box).1 (fun e => by injection e with e; omega)).trans h.box,
    h.idx.keep (hg.block _ h.idx.lt (fun e => by injection e with e; exact h1 e.symm)), below_mapU h.bel hg (Nat.le_of_lt h2) h.bel.size⟩
theorem StC.c0 (h : StC w wr r T v1 v2) : wr.cell? ⟨w.heap.size, 0, none⟩ = some v1 := by rw [cell_of_row wr _ 0 _ _ (0, 0) h.box]; rfl
theorem StC.c1 (h : StC w wr r T v1 v2) : wr.cell? ⟨w.heap.size, 1, none⟩ = some v2 := by rw [cell_of_row wr _ 1 _ _ (0, 0) h.box]; rfl
end
theorem run_update_cond {P : Program} {κ : Type} [DecidableEq κ] {mk : κ → Value} {T K E : TypeId} (hT : P.underlying T = some (.map K E)) (hK : KeyT P K mk) {w : World} {r n : Nat} {f : κ → Option Value} (h : MapIs mk w r f) {p : Prop} (hs : p → MapSz w r n) (k : κ) (v : Value) (hk : p → f k = none) :
    ∃ w', (Instr.mapUpdate T (.map (some r)) (mk k) v).run P w = .ok () w' ∧ MapIs mk w' r (fun k' => if k' = k then some v else f k') ∧ (p → MapSz w' r (n + 1)) ∧ w.grownBy w' (some r) ∧ w'.heap.size = w.heap.size := by
  by_cases hp : p
  · obtain ⟨w', h1, h2, h3, h4, h5⟩ := run_update_new hT hK h (hs hp) k v (hk hp)
    exact ⟨w', h1, h2, fun _ => h3, h4, h5⟩
  · obtain ⟨w', h1, h2, h4, h5⟩ := run_update_map hT hK h k v
    exact ⟨w', h1, h2, fun hh => absurd hh hp, h4, h5⟩
theorem mvL_fresh {M : List Mv} (h : IncM M) {k : Nat} (hk : k < M.length) : mvL M k (M[k]).frm = none := by
  cases hm : mvL M k (M[k]).frm with
  | none => rfl
  | some t =>
    have : (mvL M k (M[k]).frm).isSome = true := by rw [hm]; rfl
    obtain ⟨j, hj, h1, h2⟩ := (mvL_some (by omega)).1 this
    exact absurd (h.inj hj hk h2) (by omega)
def MvR1 (w : World) (r : Nat) (T : List Th) (M : List Mv) (v1 v2 : Value) (m : Nat) (i : Value) (wr : World) : Prop :=
  ∃ k : Nat, k + m = M.length ∧ i = .int .i64 k ∧ MapIs kI wr (w.heap.size + 1) (fun id => (mvL M k id).map kI) ∧ (IncM M → MapSz wr (w.heap.size + 1) k) ∧ StC w wr r T v1 v2
def MvR2 (w : World) (r : Nat) (T : List Th) (M : List Mv) (v1 v2 : Value) (m : Nat) (i : Value) (wr : World) : Prop :=
  ∃ k : Nat, k + m = M.length ∧ i = .int .i64 k ∧ (∀ j, j < k → mvF1 T M j = 0) ∧ MapIs kI wr (w.heap.size + 1) (fun id => (mvL M M.length id).map kI) ∧ (IncM M → MapSz wr (w.heap.size + 1) M.length) ∧ StC w wr r T v1 v2
def MvR3 (w : World) (r : Nat) (T : List Th) (M : List Mv) (v1 v2 : Value) (m : Nat) (i : Value) (wr : World) : Prop :=
  ∃ k : Nat, k + m = M.length ∧ i = .int .i64 k ∧ (∀ j, j < k → mvF2 T M j = 0) ∧ ToM wr (w.heap.size + 1) M ∧ StC w wr r T v1 v2
def mvF (T : List Th) (M : List Mv) : Int := if firstF (mvF1 T M) M.length ≠ 0 then firstF (mvF1 T M) M.length else firstF (mvF2 T M) M.length

set_option maxRecDepth 100000 in
set_option maxHeartbeats 4000000 in
theorem checkMoved_c (A1 : Option Addr) (c1 : Nat) (T : List Th) (A2 : Option Addr) (c2 : Nat) (M : List Mv) (r : Nat) (w : World) (hc : CatOk w A1 T A2 M) (hx : IdxM w r T) (hpos : Pos T) (hn : M.length ≤ 300) :
    Calls Tryz.prog 70 #[catV A1 c1 T A2 c2 M, .map (some r)] w (GivesB (.int .i64 (mvF T M)) w) := by
  generalize hres : mvF T M = res
  have HR := Lib.hid hres
  clear hres
  unfold mvF at HR
  have hrl := hx.lt
  have hmm := @run_makeMap Tryz.prog
  go_enter Tryz.func70, Tryz.ntmps70
  go_wp2
  clear hmm
  go_loopg [24] M.length (MvR1 w r T M (.slice A1 T.length c1) (.slice A2 M.length c2))
  case atStart =>
    have e : (w.alloc (.cells #[.slice A1 T.length c1, .slice A2 M.length c2] 25)).heap.size = w.heap.size + 1 := by simp
    refine ⟨0, by omega, rfl, ?_, fun _ => ?_, ?_⟩
    · have := MapIs.new kI (w.alloc (.cells #[.slice A1 T.length c1, .slice A2 M.length c2] 25))
      rw [e] at this
      exact this
    · have := MapSz.new (w.alloc (.cells #[.slice A1 T.length c1, .slice A2 M.length c2] 25))
      rw [e] at this
      exact this
    · exact StC.alloc ⟨heap_alloc_new _ _, hx.alloc _, (Below.refl _ _).alloc (Nat.le_refl _) _⟩ _
  clear hx
  case round =>
    obtain ⟨k, hk, rfl, hmp, hsz, hst⟩ := hrel
    have HK := Lib.hid hk
    have HSZ := Lib.hid hsz
    have hk1 : k ≤ M.length := by omega
    have hwr : w.heap.size + 1 < wr.heap.size := hmp.lt
    clear hk hsz
    by_cases hlt : k < M.length
    · obtain ⟨b, o, rfl, hb, hcc⟩ := hc.mvs.at_ (by omega)
      have q0 := (hst.bel.cell (p := ⟨b, o + k * 2, none⟩) hb).trans (hcc k hlt).1
      have q1 := (hst.bel.cell (p := ⟨b, o + k * 2 + 1, none⟩) hb).trans (hcc k hlt).2
      have hbr : b < wr.heap.size := by omega
      have hst2 := hst.alloc (.cells #[.int .i64 (M[k]).frm, .int .i64 (M[k]).to] 147)
      have hmp2 := hmp.alloc (.cells #[.int .i64 (M[k]).frm, .int .i64 (M[k]).to] 147)
      obtain ⟨w3, hrun, hm3, hs3, hg3, hz3⟩ := run_update_cond (P := Tryz.prog) tMoved kInt hmp2 (fun h => (HSZ.out h).alloc (.cells #[.int .i64 (M[k]).frm, .int .i64 (M[k]).to] 147)) (M[k]).frm (.int .i64 (M[k]).to) (fun h => by
        show (mvL M k (M[k]).frm).map kI = none
        rw [mvL_fresh h hlt]; rfl)
      have HM3 : Hid (MapIs kI w3 (w.heap.size + 1) (fun id => (mvL M (k + 1) id).map kI)) := by
        show MapIs kI w3 (w.heap.size + 1) (fun id => (mvL M (k + 1) id).map kI)
        have e : (fun k' => if k' = (M[k]).frm then some (Value.int .i64 (M[k]).to) else (mvL M k k').map kI) = fun id => (mvL M (k + 1) id).map kI := by
          funext id
          rw [mvL, getM hlt]
          by_cases h : id = (M[k]).frm <;> simp [h]
        rw [e] at hm3
        exact hm3
      have HS3 := Lib.hid hs3
      have HST3 := Lib.hid (hst2.upd hg3 (by omega) (by omega))
      have hrun' : (Instr.mapUpdate 145 (.map (some (w.heap.size + 1))) (.int .i64 (M[k]).frm) (.int .i64 (M[k]).to)).run Tryz.prog (wr.alloc (.cells #[.int .i64 (M[k]).frm, .int .i64 (M[k]).to] 147)) = .ok () w3 := hrun
      clear hcc hst2 hmp2 hm3 hs3 hg3 hz3 hrun hst hmp
      go_wp2
      go_roundg (gk - 1)
      case measure => have := HK.out; omega
      case rel => exact ⟨k + 1, by have := HK.out; omega, by go_num, HM3.out, HS3.out, HST3.out⟩
    · have hc1 := hst.c1
      go_wp2
      clear hc1
      go_loopg [37] M.length (MvR2 w r T M (.slice A1 T.length c1) (.slice A2 M.length c2))
      case atStart =>
        refine ⟨0, by omega, rfl, fun j hj => absurd hj (by omega), ?_, fun h => ?_, hst⟩
        · rw [show M.length = k by omega]; exact hmp
        · rw [show M.length = k by omega]; exact HSZ.out h
      clear hst hmp HSZ HK hk1 hlt hwr
      case round =>
        obtain ⟨k, hk, rfl, hpre, hmp, hsz, hst⟩ := hrel
        have HK := Lib.hid hk
        have HP := Lib.hid hpre
        have HSZ := Lib.hid hsz
        have HMP := Lib.hid hmp
        have HST := Lib.hid hst
        have hk1 : k ≤ M.length := by omega
        have hwr : w.heap.size + 1 < wr.heap.size := hmp.lt
        have hc1 := hst.c1
        have hws : w.heap.size < wr.heap.size := by omega
        clear hk hpre hsz hmp hst
        by_cases hlt : k < M.length
        · obtain ⟨b, o, rfl, hb, hcc⟩ := hc.mvs.at_ (by omega)
          have q0 := (HST.out.bel.cell (p := ⟨b, o + k * 2, none⟩) hb).trans (hcc k hlt).1
          have q1 := (HST.out.bel.cell (p := ⟨b, o + k * 2 + 1, none⟩) hb).trans (hcc k hlt).2
          have hbr : b < wr.heap.size := by omega
          have hcp : 0 < k → wr.cell? ⟨b, o + (k - 1) * 2, none⟩ = some (.int .i64 (M.getD (k - 1) default).frm) := fun h0 => by
            rw [getM (by omega)]; exact (HST.out.bel.cell hb).trans (hcc (k - 1) (by omega)).1
          have HCP := Lib.hid hcp
          have HF1 : Hid (mvF1 T M k = if (M[k]).frm < 1 ∨ 1000000 < (M[k]).frm then 1 else if 0 < k ∧ (M[k]).frm ≤ (M.getD (k - 1) default).frm then 8 else if (thAt T (M[k]).frm).isSome then 7 else if (thAt T (M[k]).to).isNone ∧ (mvAt M (M[k]).to).isNone then 9 else 0) := by
            show mvF1 T M k = _
            unfold mvF1
            rw [getM hlt]
          have HERR : Hid (∀ x : Int, mvF1 T M k = x → x ≠ 0 → res = x) := by
            show ∀ x : Int, mvF1 T M k = x → x ≠ 0 → res = x
            intro x hx1 hx0
            have hfi := firstF_at hlt HP.out (by rw [hx1]; exact hx0)
            rw [← HR.out, if_pos (by rw [hfi, hx1]; exact hx0), hfi, hx1]
          have HST2 := Lib.hid (HST.out.alloc (.cells #[.int .i64 (M[k]).frm, .int .i64 (M[k]).to] 147))
          have HMP2 := Lib.hid (HMP.out.alloc (.cells #[.int .i64 (M[k]).frm, .int .i64 (M[k]).to] 147))
          clear hcc hcp
          by_cases h1 : (M[k]).frm < 1
          · have HS := Lib.hid (HERR.out 1 (by rw [HF1.out, if_pos (.inl h1)]) (by decide))
            go_wp2
            go_ret
            exact GivesB.mk (vint HS.out.symm) HST2.out.bel
          by_cases h2 : 1000000 < (M[k]).frm
          · have HS := Lib.hid (HERR.out 1 (by rw [HF1.out, if_pos (.inr h2)]) (by decide))
            go_wp2
            go_ret
            exact GivesB.mk (vint HS.out.symm) HST2.out.bel
          have HN1 : Hid (¬ ((M[k]).frm < 1 ∨ 1000000 < (M[k]).frm)) := by show ¬ _; omega
          by_cases h3 : 0 < k ∧ (M[k]).frm ≤ (M.getD (k - 1) default).frm
          · have HS := Lib.hid (HERR.out 8 (by rw [HF1.out, if_neg HN1.out, if_pos h3]) (by decide))
            obtain ⟨h30, h31⟩ := h3
            have hd : decide ((0 : Int) < (k : Int)) = true := by simp; omega
            have hcp := HCP.out h30
            have hle : decide ((M[k]).frm ≤ (M.getD (k - 1) default).frm) = true := by simpa using h31
            generalize (M.getD (k - 1) default).frm = pf at *
            go_wp2
            go_quiet (fail)
            go_wp2
            go_ret
            exact GivesB.mk (vint HS.out.symm) (below_drewN HST2.out.bel _)
          have HN3 := Lib.hid h3
          have hord : (∃ hd : decide ((0 : Int) < (k : Int)) = false, ¬ 0 < k) ∨ (0 < k ∧ decide ((0 : Int) < (k : Int)) = true ∧ ¬ (M[k]).frm ≤ (M.getD (k - 1) default).frm) := by
            by_cases h0 : 0 < k
            · right
              exact ⟨h0, by simp; omega, fun h => h3 ⟨h0, h⟩⟩
            · left
              exact ⟨by simp; omega, h0⟩
          clear h3
          rcases hord with ⟨hd, h0⟩ | ⟨h0, hd, hle⟩
          case' inr =>
            have hcp := HCP.out h0
            have hleb : decide ((M[k]).frm ≤ (M.getD (k - 1) default).frm) = false := by simpa using hle
            generalize (M.getD (k - 1) default).frm = pf at hcp hleb hle
          all_goals
            go_wp2
            go_quiet (fail)
            have HST3 := Lib.hid (HST2.out.drewN nq)
            have HMP3 := Lib.hid (HMP2.out.drewN nq)
            have HSZ3 := Lib.hid (fun h : IncM M => ((HSZ.out h).alloc (.cells #[.int .i64 (M[k]).frm, .int .i64 (M[k]).to] 147)).below (below_drewN (Below.refl _ _) nq))
            have hbx : ((wr.alloc (.cells #[.int .i64 (M[k]).frm, .int .i64 (M[k]).to] 147)).drewN nq).heap[wr.heap.size]? = some (.cells #[.int .i64 (M[k]).frm, .int .i64 (M[k]).to] 147 (0, 0)) := heap_alloc_new _ _
            generalize (wr.alloc (.cells #[.int .i64 (M[k]).frm, .int .i64 (M[k]).to] 147)).drewN nq = W at *
            have hx0 : W.cell? ⟨wr.heap.size, 0, none⟩ = some (.int .i64 (M[k]).frm) := boxC hbx rfl
            have hx1 : W.cell? ⟨wr.heap.size, 1, none⟩ = some (.int .i64 (M[k]).to) := boxC hbx rfl
            have hxl : wr.heap.size < W.heap.size := (Array.getElem?_eq_some_iff.1 hbx).1
            have hlkF := look2 HST3.out.idx (M[k]).frm
            have HN3 := HN3
            clear hbx q0 q1 hc1 hd h0
            cases hta : thAt T (M[k]).frm with
            | some p =>
              rw [hta] at hlkF
              have hlk' : (Instr.lookup 117 (.map (some r)) (.int .i64 (M[k]).frm) true).run Tryz.prog W = .ok (.tuple #[thV p, .bool true]) W := hlkF
              have HS := Lib.hid (HERR.out 7 (by rw [HF1.out, if_neg HN1.out, if_neg HN3.out, if_pos (by rw [hta]; rfl)]) (by decide))
              clear hlkF hta
              go_wp2
              go_ret
              exact GivesB.mk (vint HS.out.symm) (HST3.out.alloc _).bel
            | none =>
              rw [hta] at hlkF
              have hlk' : (Instr.lookup 117 (.map (some r)) (.int .i64 (M[k]).frm) true).run Tryz.prog W = .ok (.tuple #[thZ, .bool false]) W := hlkF
              have HNT : Hid (¬ (thAt T (M[k]).frm).isSome = true) := by show ¬ _; rw [hta]; simp
              have hlkT := look2 (HST3.out.alloc (.cells #[.int .i64 0, .int .i64 0, .string ⟨#[]⟩, .string ⟨#[]⟩, .int .i64 0, .int .i64 0, .slice none 0 0] 54)).idx (M[k]).to
              clear hlkF hta
              cases htb : thAt T (M[k]).to with
              | some p =>
                rw [htb] at hlkT
                have hlkT' : (Instr.lookup 117 (.map (some r)) (.int .i64 (M[k]).to) true).run Tryz.prog (W.alloc (.cells #[.int .i64 0, .int .i64 0, .string ⟨#[]⟩, .string ⟨#[]⟩, .int .i64 0, .int .i64 0, .slice none 0 0] 54)) = .ok (.tuple #[thV p, .bool true]) (W.alloc (.cells #[.int .i64 0, .int .i64 0, .string ⟨#[]⟩, .string ⟨#[]⟩, .int .i64 0, .int .i64 0, .slice none 0 0] 54)) := hlkT
                have hl2 := run_lookup_map tMoved kInt zInt ((HMP3.out.alloc (.cells #[.int .i64 0, .int .i64 0, .string ⟨#[]⟩, .string ⟨#[]⟩, .int .i64 0, .int .i64 0, .slice none 0 0] 54)).alloc (.cells #[.int .i64 p.id, .int .i64 p.kind, .string p.title, .string p.code, .int .i64 p.since, .int .i64 p.parent, .slice p.pA p.parts.length p.pc] 54)) (M[k]).to true
                have HOK : Hid (mvF1 T M k = 0) := by
                  show mvF1 T M k = 0
                  rw [HF1.out, if_neg HN1.out, if_neg HN3.out, if_neg HNT.out, if_neg (by rw [htb]; simp)]
                generalize ((mvL M M.length (M[k]).to).map kI).getD (.int .i64 0) = gv at hl2
                generalize ((mvL M M.length (M[k]).to).map kI).isSome = gb at hl2
                have hl3 : (Instr.lookup 145 (.map (some (w.heap.size + 1))) (.int .i64 (M[k]).to) true).run Tryz.prog ((W.alloc (.cells #[.int .i64 0, .int .i64 0, .string ⟨#[]⟩, .string ⟨#[]⟩, .int .i64 0, .int .i64 0, .slice none 0 0] 54)).alloc (.cells #[.int .i64 p.id, .int .i64 p.kind, .string p.title, .string p.code, .int .i64 p.since, .int .i64 p.parent, .slice p.pA p.parts.length p.pc] 54)) = .ok (.tuple #[gv, .bool gb]) ((W.alloc (.cells #[.int .i64 0, .int .i64 0, .string ⟨#[]⟩, .string ⟨#[]⟩, .int .i64 0, .int .i64 0, .slice none 0 0] 54)).alloc (.cells #[.int .i64 p.id, .int .i64 p.kind, .string p.title, .string p.code, .int .i64 p.since, .int .i64 p.parent, .slice p.pA p.parts.length p.pc] 54)) := hl2
                clear hlkT htb hl2
                go_wp2
                go_roundg (gk - 1)
                case measure => have := HK.out; omega
                case rel =>
                  refine ⟨k + 1, by have := HK.out; omega, by go_num, fun j hj => ?_, (HMP3.out.alloc _).alloc _, fun h => ((HSZ3.out h).alloc _).alloc _, (HST3.out.alloc _).alloc _⟩
                  rcases Nat.lt_or_ge j k with h1 | h1
                  · exact HP.out j h1
                  · obtain rfl : j = k := by omega
                    exact HOK.out
              | none =>
                rw [htb] at hlkT
                have hlkT' : (Instr.lookup 117 (.map (some r)) (.int .i64 (M[k]).to) true).run Tryz.prog (W.alloc (.cells #[.int .i64 0, .int .i64 0, .string ⟨#[]⟩, .string ⟨#[]⟩, .int .i64 0, .int .i64 0, .slice none 0 0] 54)) = .ok (.tuple #[thZ, .bool false]) (W.alloc (.cells #[.int .i64 0, .int .i64 0, .string ⟨#[]⟩, .string ⟨#[]⟩, .int .i64 0, .int .i64 0, .slice none 0 0] 54)) := hlkT
                have hl2 := run_lookup_map tMoved kInt zInt ((HMP3.out.alloc (.cells #[.int .i64 0, .int .i64 0, .string ⟨#[]⟩, .string ⟨#[]⟩, .int .i64 0, .int .i64 0, .slice none 0 0] 54)).alloc (.cells #[.int .i64 0, .int .i64 0, .string ⟨#[]⟩, .string ⟨#[]⟩, .int .i64 0, .int .i64 0, .slice none 0 0] 54)) (M[k]).to true
                have hgs : ((mvL M M.length (M[k]).to).map kI).isSome = (mvAt M (M[k]).to).isSome := by rw [Option.isSome_map, mvL_is]
                generalize ((mvL M M.length (M[k]).to).map kI).getD (.int .i64 0) = gv at hl2
                rw [hgs] at hl2
                cases hmv : mvAt M (M[k]).to with
                | none =>
                  rw [hmv] at hl2
                  have hl3 : (Instr.lookup 145 (.map (some (w.heap.size + 1))) (.int .i64 (M[k]).to) true).run Tryz.prog ((W.alloc (.cells #[.int .i64 0, .int .i64 0, .string ⟨#[]⟩, .string ⟨#[]⟩, .int .i64 0, .int .i64 0, .slice none 0 0] 54)).alloc (.cells #[.int .i64 0, .int .i64 0, .string ⟨#[]⟩, .string ⟨#[]⟩, .int .i64 0, .int .i64 0, .slice none 0 0] 54)) = .ok (.tuple #[gv, .bool false]) ((W.alloc (.cells #[.int .i64 0, .int .i64 0, .string ⟨#[]⟩, .string ⟨#[]⟩, .int .i64 0, .int .i64 0, .slice none 0 0] 54)).alloc (.cells #[.int .i64 0, .int .i64 0, .string ⟨#[]⟩, .string ⟨#[]⟩, .int .i64 0, .int .i64 0, .slice none 0 0] 54)) := hl2
                  have HS := Lib.hid (HERR.out 9 (by rw [HF1.out, if_neg HN1.out, if_neg HN3.out, if_neg HNT.out, if_pos (by rw [htb, hmv]; simp)]) (by decide))
                  clear hlkT htb hl2 hgs hmv
                  go_wp2
                  go_ret
                  exact GivesB.mk (vint HS.out.symm) ((HST3.out.alloc _).alloc _).bel
                | some tt =>
                  rw [hmv] at hl2
                  have hl3 : (Instr.lookup 145 (.map (some (w.heap.size + 1))) (.int .i64 (M[k]).to) true).run Tryz.prog ((W.alloc (.cells #[.int .i64 0, .int .i64 0, .string ⟨#[]⟩, .string ⟨#[]⟩, .int .i64 0, .int .i64 0, .slice none 0 0] 54)).alloc (.cells #[.int .i64 0, .int .i64 0, .string ⟨#[]⟩, .string ⟨#[]⟩, .int .i64 0, .int .i64 0, .slice none 0 0] 54)) = .ok (.tuple #[gv, .bool true]) ((W.alloc (.cells #[.int .i64 0, .int .i64 0, .string ⟨#[]⟩, .string ⟨#[]⟩, .int .i64 0, .int .i64 0, .slice none 0 0] 54)).alloc (.cells #[.int .i64 0, .int .i64 0, .string ⟨#[]⟩, .string ⟨#[]⟩, .int .i64 0, .int .i64 0, .slice none 0 0] 54)) := hl2
                  have HOK : Hid (mvF1 T M k = 0) := by
                    show mvF1 T M k = 0
                    rw [HF1.out, if_neg HN1.out, if_neg HN3.out, if_neg HNT.out, if_neg (by rw [hmv]; simp)]
                  clear hlkT htb hl2 hgs hmv
                  go_wp2
                  go_roundg (gk - 1)
                  case measure => have := HK.out; omega
                  case rel =>
                    refine ⟨k + 1, by have := HK.out; omega, by go_num, fun j hj => ?_, (HMP3.out.alloc _).alloc _, fun h => ((HSZ3.out h).alloc _).alloc _, (HST3.out.alloc _).alloc _⟩
                    rcases Nat.lt_or_ge j k with h1 | h1
                    · exact HP.out j h1
                    · obtain rfl : j = k := by omega
                      exact HOK.out
        · have hF0 : ∀ j, j < M.length → mvF1 T M j = 0 := fun j hj => HP.out j (by omega)
          obtain ⟨hinc, hfp⟩ := mvF1_inc hF0
          have hr1 := HR.out
          rw [if_neg (by rw [firstF_zero hF0]; simp)] at hr1
          have HR1 := Lib.hid hr1
          have hto : ToM wr (w.heap.size + 1) M := by
            refine ⟨?_, HSZ.out hinc⟩
            have := HMP.out
            rw [funext (fun id => by rw [mvL_inc hinc id] : ∀ id, (mvL M M.length id).map kI = (mvAt M id).map kI)] at this
            exact this
          have HTO := Lib.hid hto
          have HFP := Lib.hid hfp
          clear hF0 hinc hfp hr1 HP HMP HSZ HK hto
          go_wp2
          clear hc1
          go_loopg [96] M.length (MvR3 w r T M (.slice A1 T.length c1) (.slice A2 M.length c2))
          case atStart => exact ⟨0, by omega, rfl, fun j hj => absurd hj (by omega), HTO.out, HST.out⟩
          clear HTO HST hwr hws hlt hk1
          case round =>
            obtain ⟨k, hk, rfl, hpre, hto, hst⟩ := hrel
            have HK := Lib.hid hk
            have HP := Lib.hid hpre
            have hk1 : k ≤ M.length := by omega
            clear hk hpre
            by_cases hlt : k < M.length
            · obtain ⟨b, o, rfl, hb, hcc⟩ := hc.mvs.at_ (by omega)
              have q0 := (hst.bel.cell (p := ⟨b, o + k * 2, none⟩) hb).trans (hcc k hlt).1
              have q1 := (hst.bel.cell (p := ⟨b, o + k * 2 + 1, none⟩) hb).trans (hcc k hlt).2
              have hws : w.heap.size < wr.heap.size := (Array.getElem?_eq_some_iff.1 hst.box).1
              have hbr : b < wr.heap.size := by omega
              have HST2 := Lib.hid (hst.alloc (.cells #[.int .i64 (M[k]).frm, .int .i64 (M[k]).to] 147))
              have HTO2 := Lib.hid (hto.alloc (.cells #[.int .i64 (M[k]).frm, .int .i64 (M[k]).to] 147))
              have HF2 : Hid (mvF2 T M k = if (findP T M (M.length + 1) (M[k]).frm).isNone then 14 else 0) := by
                show mvF2 T M k = _
                unfold mvF2
                rw [getM hlt, findP_findN hpos HFP.out]
              clear hcc hst hto
              go_wp2_with fail
              refine (found_c r (w.heap.size + 1) T M (M[k]).frm _ HST2.out.idx HTO2.out hn).mono ?_
              rintro e w3 ⟨rfl, hb3⟩
              have HST3 := Lib.hid (HST2.out.below hb3)
              have HTO3 := Lib.hid (HTO2.out.below hb3)
              clear hb3 HST2 HTO2
              cases hfd : findP T M (M.length + 1) (M[k]).frm with
              | none =>
                have HS : Hid (res = 14) := by
                  show res = 14
                  have h14 : mvF2 T M k = 14 := by rw [HF2.out, hfd]; rfl
                  rw [← HR1.out, firstF_at hlt HP.out (by rw [h14]; decide), h14]
                clear hfd
                go_wp2
                go_ret
                exact GivesB.mk (vint HS.out.symm) HST3.out.bel
              | some x =>
                have HOK : Hid (mvF2 T M k = 0) := by
                  show mvF2 T M k = 0
                  rw [HF2.out, hfd]; rfl
                clear hfd
                go_wp2
                go_roundg (gk - 1)
                case measure => have := HK.out; omega
                case rel =>
                  refine ⟨k + 1, by have := HK.out; omega, by go_num, fun j hj => ?_, HTO3.out, HST3.out⟩
                  rcases Nat.lt_or_ge j k with h1 | h1
                  · exact HP.out j h1
                  · obtain rfl : j = k := by omega
                    exact HOK.out
            · have HS : Hid (res = 0) := by
                show res = 0
                rw [← HR1.out, firstF_zero fun j hj => HP.out j (by omega)]
              go_wp2
              go_ret
              exact GivesB.mk (vint HS.out.symm) hst.bel
end Go.Proofs.YtfninfgohiipjaaGreatDoor
