/- Package shelf: the index of a catalogue. -/
import Derived.Test.YtfninfgohiipjaaGreatDoorLbX
import Derived.Test.YtfninfgohiipjaaGreatDoorLbM
namespace Go.Proofs.YtfninfgohiipjaaGreatDoor
open Go.RowKit Dw

abbrev kI : Int → Value := fun n => .int .i64 n
theorem kInt : KeyT Tryz.prog 3 kI := keyT_int Tryz.underlying3
theorem tIdx : Tryz.prog.underlying 117 = some (.map 3 54) := Tryz.underlying117
abbrev thZ : Value := .agg #[.int .i64 0, .int .i64 0, .string ⟨#[]⟩, .string ⟨#[]⟩, .int .i64 0, .int .i64 0, .slice none 0 0]
theorem zThing (w : World) : (zeroValue 54).run Tryz.prog w = .ok thZ w := by kernel_rfl
/-- The index of things. -/
structure IdxM (w : World) (r : Nat) (c : List Th) : Prop where
  map : MapIs kI w r (fun id => (thAt c id).map thV)
  size : MapSz w r c.length
theorem IdxM.lt {w : World} {r : Nat} {c : List Th} (h : IdxM w r c) : r < w.heap.size := h.map.lt
theorem IdxM.below {w w' : World} {r : Nat} {c : List Th} (h : IdxM w r c) (hb : Below w.heap.size w w') : IdxM w' r c := ⟨h.map.below hb, h.size.below hb⟩
theorem IdxM.alloc {w : World} {r : Nat} {c : List Th} (h : IdxM w r c) (o : Obj) : IdxM (w.alloc o) r c := ⟨h.map.alloc o, h.size.alloc o⟩
theorem IdxM.keep {w w' : World} {r : Nat} {c : List Th} (h : IdxM w r c) (hk : w'.heap[r]? = w.heap[r]?) : IdxM w' r c := ⟨h.map.keep hk, h.size.keep hk⟩
/-- A call that answers an index. -/
def GivesI (c : List Th) (w : World) (e : Ending) (w' : World) : Prop := ∃ r, e = .returned (.map (some r)) ∧ w.heap.size ≤ r ∧ IdxM w' r c ∧ Below w.heap.size w w'

def IxRel (w : World) (c : List Th) (r : Nat) (m : Nat) (i : Value) (wr : World) : Prop :=
  ∃ k : Nat, k + m = c.length ∧ i = .int .i64 k ∧ IdxM wr r (c.take k) ∧ Below w.heap.size w wr
theorem below_mapU {B r : Nat} {a w w' : World} (h : Below B a w) (hg : w.grownBy w' (some r)) (hr : B ≤ r) (hB : B ≤ w.heap.size) : Below B a w' :=
  h.grown hg hB fun k hk => by injection hk with hk; omega

set_option maxHeartbeats 1000000 in
theorem indexOf_c (A1 : Option Addr) (c1 : Nat) (T : List Th) (A2 : Option Addr) (c2 : Nat) (M : List Mv) (w : World) (hc : CatOk w A1 T A2 M) (hi : IncT T) (hn : T.length ≤ 300) :
    Calls Tryz.prog 68 #[catV A1 c1 T A2 c2 M] w (GivesI T w) := by
  have hmm := @run_makeMap Tryz.prog
  go_enter Tryz.func68, Tryz.ntmps68
  go_wp2
  clear hmm
  go_loopg [10] T.length (IxRel w T (w.heap.size + 1))
  case atStart =>
    refine ⟨0, by omega, rfl, ⟨?_, ?_⟩, ((Below.refl _ _).alloc (Nat.le_refl _) _).alloc (by simp) _⟩
    · have := MapIs.new kI (w.alloc (.cells #[.slice A1 T.length c1, .slice A2 M.length c2] 25))
      rw [show (w.alloc (.cells #[.slice A1 T.length c1, .slice A2 M.length c2] 25)).heap.size = w.heap.size + 1 by simp] at this
      exact this
    · have := MapSz.new (w.alloc (.cells #[.slice A1 T.length c1, .slice A2 M.length c2] 25))
      simpa using this
  case round =>
    obtain ⟨k, hk, rfl, hix, hbel⟩ := hrel
    have HK := Lib.hid hk
    have hk1 : k ≤ T.length := by omega
    have hwr : w.heap.size + 1 < wr.heap.size := hix.lt
    clear hk
    by_cases hlt : k < T.length
    · obtain ⟨b, o, rfl, hb, hcc⟩ := hc.ths.at_ (by omega)
      obtain ⟨p0, p1, p2, p3, p4, p5, p6⟩ := hcc k hlt
      have hbr : b < wr.heap.size := by omega
      have q0 := (hbel.cell (p := ⟨b, o + k * 7, none⟩) hb).trans p0
      have q1 := (hbel.cell (p := ⟨b, o + k * 7 + 1, none⟩) hb).trans p1
      have q2 := (hbel.cell (p := ⟨b, o + k * 7 + 2, none⟩) hb).trans p2
      have q3 := (hbel.cell (p := ⟨b, o + k * 7 + 3, none⟩) hb).trans p3
      have q4 := (hbel.cell (p := ⟨b, o + k * 7 + 4, none⟩) hb).trans p4
      have q5 := (hbel.cell (p := ⟨b, o + k * 7 + 5, none⟩) hb).trans p5
      have q6 := (hbel.cell (p := ⟨b, o + k * 7 + 6, none⟩) hb).trans p6
      have hstep := fun id => IncT.step hi hlt thV id
      have hfr : (fun id => (thAt (T.take k) id).map thV) (T[k]).id = none := by
        show (thAt (T.take k) (T[k]).id).map thV = none
        rw [hi.fresh hlt]; rfl
      have hix2 := hix.alloc (.cells #[.int .i64 (T[k]).id, .int .i64 (T[k]).kind, .string (T[k]).title, .string (T[k]).code, .int .i64 (T[k]).since, .int .i64 (T[k]).parent, .slice (T[k]).pA (T[k]).parts.length (T[k]).pc] 54)
      obtain ⟨w3, hrun, hm3, hs3, hg3, hz3⟩ := run_update_new (P := Tryz.prog) tIdx kInt hix2.map hix2.size (T[k]).id (thV T[k]) hfr
      have HX3 : Hid (IdxM w3 (w.heap.size + 1) (T.take (k + 1))) := by
        show IdxM w3 (w.heap.size + 1) (T.take (k + 1))
        refine ⟨?_, ?_⟩
        · have e : (fun k' => if k' = (T[k]).id then some (thV T[k]) else (thAt (T.take k) k').map thV) = fun id => (thAt (T.take (k + 1)) id).map thV := funext hstep
          rw [e] at hm3
          exact hm3
        · have e : (T.take (k + 1)).length = (T.take k).length + 1 := by simp; omega
          rw [e]; exact hs3
      have HB3 := Lib.hid (below_mapU (hbel.alloc (by omega) _) hg3 (by omega) (by simp; omega))
      have hrun' : (Instr.mapUpdate 117 (.map (some (w.heap.size + 1))) (.int .i64 (T[k]).id) (thV T[k])).run Tryz.prog (wr.alloc (.cells #[.int .i64 (T[k]).id, .int .i64 (T[k]).kind, .string (T[k]).title, .string (T[k]).code, .int .i64 (T[k]).since, .int .i64 (T[k]).parent, .slice (T[k]).pA (T[k]).parts.length (T[k]).pc] 54)) = .ok () w3 := hrun
      clear hcc p0 p1 p2 p3 p4 p5 p6 hstep hfr hix2 hm3 hs3 hg3 hz3 hix hbel hrun
      go_wp2
      go_roundg (gk - 1)
      case measure => have := HK.out; omega
      case rel => exact ⟨k + 1, by have := HK.out; omega, by go_num, HX3.out, HB3.out⟩
    · have hix' : IdxM wr (w.heap.size + 1) T := by
        rw [List.take_of_length_le (by omega)] at hix; exact hix
      clear hix
      go_wp2
      go_ret
      exact ⟨_, rfl, by omega, hix', hbel⟩
end Go.Proofs.YtfninfgohiipjaaGreatDoor
