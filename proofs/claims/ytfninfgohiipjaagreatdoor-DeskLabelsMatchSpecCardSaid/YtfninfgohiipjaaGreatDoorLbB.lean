/- Package shelf: ids that moved. -/
import Derived.Test.YtfninfgohiipjaaGreatDoorLbZ
namespace Go.Proofs.YtfninfgohiipjaaGreatDoor
open Go.RowKit Dw

theorem tMoved : Tryz.prog.underlying 145 = some (.map 3 3) := Tryz.underlying145
theorem zInt (w : World) : (zeroValue 3).run Tryz.prog w = .ok (.int .i64 0) w := by kernel_rfl
/-- The map of ids that moved. -/
structure ToM (w : World) (r : Nat) (M : List Mv) : Prop where
  map : MapIs kI w r (fun id => (mvAt M id).map kI)
  size : MapSz w r M.length
theorem ToM.below {w w' : World} {r : Nat} {M : List Mv} (h : ToM w r M) (hb : Below w.heap.size w w') : ToM w' r M := ⟨h.map.below hb, h.size.below hb⟩
theorem ToM.alloc {w : World} {r : Nat} {M : List Mv} (h : ToM w r M) (o : Obj) : ToM (w.alloc o) r M := ⟨h.map.alloc o, h.size.alloc o⟩
def GivesF (o : Option Int) (w : World) (e : Ending) (w' : World) : Prop := e = .returned (.tuple #[.int .i64 (o.getD 0), .bool o.isSome]) ∧ Below w.heap.size w w'
theorem GivesF.none_ {o : Option Int} {w w' : World} (h : o = none) (hb : Below w.heap.size w w') : GivesF o w (.returned (.tuple #[.int .i64 0, .bool false])) w' := by
  subst h; exact ⟨rfl, hb⟩
theorem GivesF.some_ {o : Option Int} {w w' : World} {x : Int} (h : o = some x) (hb : Below w.heap.size w w') : GivesF o w (.returned (.tuple #[.int .i64 x, .bool true])) w' := by
  subst h; exact ⟨rfl, hb⟩
def FdRel (w : World) (r r2 : Nat) (T : List Th) (M : List Mv) (res : Option Int) (m : Nat) (x i : Value) (wr : World) : Prop :=
  ∃ (k : Nat) (id : Int), k + m = M.length + 1 ∧ i = .int .i64 k ∧ x = .int .i64 id ∧ findP T M m id = res ∧ IdxM wr r T ∧ ToM wr r2 M ∧ Below w.heap.size w wr
theorem findP_end (T : List Th) (M : List Mv) (id : Int) : findP T M 0 id = none := rfl

set_option maxHeartbeats 1000000 in
theorem found_c (r r2 : Nat) (T : List Th) (M : List Mv) (id : Int) (w : World) (hx : IdxM w r T) (ht : ToM w r2 M) (hn : M.length ≤ 300) :
    Calls Tryz.prog 99 #[.map (some r), .map (some r2), .int .i64 id] w (GivesF (findP T M (M.length + 1) id) w) := by
  generalize hres : findP T M (M.length + 1) id = res
  have HR := Lib.hid hres
  have hlen : ∀ ty, (Builtin.len_ #[145] ty #[.map (some r2)]).run Tryz.prog w = .ok (.int .i64 (M.length : Int)) w := fun ty => Dw.run_len_map tMoved ty ht.size
  clear hres
  go_enter Tryz.func99, Tryz.ntmps99
  go_wp2
  go_loopg [2, 13] (M.length + 1) (FdRel w r r2 T M res)
  case atStart => exact ⟨0, id, by omega, rfl, rfl, HR.out, hx, ht, Below.refl _ _⟩
  clear hlen hx ht
  case round =>
    obtain ⟨k, x, hk, rfl, rfl, hf, hix, hto, hbel⟩ := hrel
    have HK := Lib.hid hk
    have HF := Lib.hid hf
    have HX := Lib.hid hix
    have HT := Lib.hid hto
    have HB := Lib.hid hbel
    have hk1 : k ≤ M.length + 1 := by omega
    have hwr : w.heap.size ≤ wr.heap.size := hbel.size
    clear hk hf
    by_cases hlt : k < M.length + 1
    · have hlt2 : (k : Int) < (M.length : Int) + 1 := by omega
      have hlk := look2 hix x
      cases hta : thAt T x with
      | some p =>
        rw [hta] at hlk
        have hlk' : (Instr.lookup 117 (.map (some r)) (.int .i64 x) true).run Tryz.prog wr = .ok (.tuple #[thV p, .bool true]) wr := hlk
        have HS : Hid (res = some x) := by
          show res = some x
          rw [← HF.out, show gk = (gk - 1) + 1 by have := HK.out; omega, findP, hta]; rfl
        clear hlk hta hix hto hbel
        go_wp2
        go_ret2
        exact GivesF.some_ HS.out (HB.out.alloc hwr _)
      | none =>
        rw [hta] at hlk
        have hlk' : (Instr.lookup 117 (.map (some r)) (.int .i64 x) true).run Tryz.prog wr = .ok (.tuple #[thZ, .bool false]) wr := hlk
        have hl2 := run_lookup_map tMoved kInt zInt (hto.alloc (.cells #[.int .i64 0, .int .i64 0, .string ⟨#[]⟩, .string ⟨#[]⟩, .int .i64 0, .int .i64 0, .slice none 0 0] 54)).map x false
        have hl3 : (Instr.lookup 145 (.map (some r2)) (.int .i64 x) false).run Tryz.prog (wr.alloc (.cells #[.int .i64 0, .int .i64 0, .string ⟨#[]⟩, .string ⟨#[]⟩, .int .i64 0, .int .i64 0, .slice none 0 0] 54)) = .ok (.int .i64 ((mvAt M x).getD 0)) (wr.alloc (.cells #[.int .i64 0, .int .i64 0, .string ⟨#[]⟩, .string ⟨#[]⟩, .int .i64 0, .int .i64 0, .slice none 0 0] 54)) := by
          simp only [Bool.false_eq_true, if_false] at hl2
          rw [hl2]
          cases mvAt M x <;> rfl
        have HS : Hid (findP T M (gk - 1) ((mvAt M x).getD 0) = res) := by
          show findP T M (gk - 1) ((mvAt M x).getD 0) = res
          have h1 := HF.out
          rw [show gk = (gk - 1) + 1 by have := HK.out; omega, findP, hta] at h1
          exact h1
        clear hlk hta hix hto hbel hl2
        go_wp2
        go_roundg (gk - 1)
        case measure => have := HK.out; omega
        case rel => exact ⟨k + 1, _, by have := HK.out; omega, by go_num, rfl, HS.out, HX.out.alloc _, HT.out.alloc _, HB.out.alloc hwr _⟩
    · have HS : Hid (res = none) := by
        show res = none
        rw [← HF.out, show gk = 0 by have := HK.out; omega]; rfl
      go_wp2
      go_ret2
      exact GivesF.none_ HS.out HB.out
end Go.Proofs.YtfninfgohiipjaaGreatDoor
