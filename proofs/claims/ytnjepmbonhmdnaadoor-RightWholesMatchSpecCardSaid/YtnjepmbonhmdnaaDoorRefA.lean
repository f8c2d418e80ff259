/- Walks over the reference of chapter 7 (places): region, has, around, IsLeaf, lies. Each returns what the plain function says. -/
import Derived.Test.YtnjepmbonhmdnaaDoorProg
import Derived.Test.YtnjepmbonhmdnaaDoorPure
import Derived.Test.YtnjepmbonhmdnaaDoorHeap
namespace Go.Proofs.YtnjepmbonhmdnaaDoor
open Go.RowKit Dw

abbrev Rgs := Rd2 (fun r : Rg => Value.string r.nm) (fun r : Rg => Value.string r.par)
abbrev Ars := Rd2 (fun x : Ar => Value.string x.rg) (fun x : Ar => Value.bool x.out)
abbrev Strs := Rd1 Value.string

/-- A call that answers v and leaves the world as it is. -/
def Gives (v : Value) (w : World) (e : Ending) (w' : World) : Prop := e = .returned v ∧ w = w'
theorem Gives.mk {v v' : Value} {w w' : World} (h : v = v') (hw : w = w') : Gives v' w (.returned v) w' := ⟨by rw [h], hw⟩
theorem vint {a b : Int} (h : a = b) : Value.int .i64 a = .int .i64 b := by rw [h]
theorem vbool {a b : Bool} (h : a = b) : Value.bool a = .bool b := by rw [h]

def idxI (l : List Rg) (s : ByteArray) : Int := match idx l s with
  | some i => i
  | none => -1

def RegionRel (w : World) (l : List Rg) (nm : ByteArray) (m : Nat) (i : Value) (wr : World) : Prop :=
  wr = w ∧ ∃ k : Nat, k + m = l.length ∧ i = .int .i64 k ∧ ∀ j (h : j < l.length), j < k → (l[j]).nm ≠ nm

set_option maxHeartbeats 400000 in
theorem region_c (A : Option Addr) (c : Nat) (l : List Rg) (nm : ByteArray) (w : World) (hn : l.length ≤ 200) (h : Rgs w A l) :
    Calls Tryd.prog 28 #[.slice A l.length c, .string nm] w (Gives (.int .i64 (idxI l nm)) w) := by
  go_enter Tryd.func28, Tryd.ntmps28
  go_wp2
  go_loopg [5] l.length (RegionRel w l nm)
  case atStart => exact ⟨rfl, 0, by omega, rfl, fun j _ hj => absurd hj (by omega)⟩
  case round =>
    obtain ⟨hw, k, hk, rfl, hpre⟩ := hrel
    subst hw
    have HK := Lib.hid hk
    have HP := Lib.hid hpre
    have hk1 : k ≤ l.length := by omega
    clear hk hpre
    by_cases hlt : k < l.length
    · obtain ⟨b, o, rfl, hb, hc⟩ := h.at_ (by omega)
      have hc0 := (hc k hlt).1
      clear hc
      by_cases hq : (l[k]).nm = nm
      · have hqb := beq_of_eq hq
        have HQ := Lib.hid hq
        clear hq
        go_wp2
        go_ret
        refine Gives.mk (vint ?_) rfl
        unfold idxI
        rw [idx_mk hlt HQ.out (fun j hj => HP.out j (by omega) hj)]
      · have hqb := beq_of_ne hq
        have HQ := Lib.hid hq
        clear hq
        go_wp2
        go_roundg (gk - 1)
        case measure => have := HK.out; omega
        case rel =>
          refine ⟨rfl, k + 1, by have := HK.out; omega, by go_num, fun j hj hjk => ?_⟩
          rcases Nat.lt_or_ge j k with h1 | h1
          · exact HP.out j hj h1
          · obtain rfl : j = k := by omega
            exact HQ.out
    · go_wp2
      go_ret
      refine Gives.mk (vint ?_) rfl
      unfold idxI
      rw [idx_mk_none (fun j hj => HP.out j hj (by omega))]

def HasRel (w : World) (l : List ByteArray) (s : ByteArray) (m : Nat) (i : Value) (wr : World) : Prop :=
  wr = w ∧ ∃ k : Nat, k + m = l.length ∧ i = .int .i64 k ∧ ∀ j (h : j < l.length), j < k → l[j] ≠ s

set_option maxHeartbeats 400000 in
theorem has_c (A : Option Addr) (c : Nat) (l : List ByteArray) (s : ByteArray) (w : World) (hn : l.length ≤ 1000000) (h : Strs w A l) :
    Calls Tryd.prog 37 #[.slice A l.length c, .string s] w (Gives (.bool (memS l s)) w) := by
  go_enter Tryd.func37, Tryd.ntmps37
  go_wp2
  go_loopg [5] l.length (HasRel w l s)
  case atStart => exact ⟨rfl, 0, by omega, rfl, fun j _ hj => absurd hj (by omega)⟩
  case round =>
    obtain ⟨hw, k, hk, rfl, hpre⟩ := hrel
    subst hw
    have HK := Lib.hid hk
    have HP := Lib.hid hpre
    have hk1 : k ≤ l.length := by omega
    clear hk hpre
    by_cases hlt : k < l.length
    · obtain ⟨b, o, rfl, hb, hc⟩ := h.at_ (by omega)
      have hc0 := hc k hlt
      clear hc
      by_cases hq : l[k] = s
      · have hqb := beq_of_eq hq
        have HQ := Lib.hid hq
        clear hq
        go_wp2
        go_ret
        refine Gives.mk (vbool ?_) rfl
        exact (memS_true.2 (HQ.out ▸ List.getElem_mem hlt)).symm
      · have hqb := beq_of_ne hq
        have HQ := Lib.hid hq
        clear hq
        go_wp2
        go_roundg (gk - 1)
        case measure => have := HK.out; omega
        case rel =>
          refine ⟨rfl, k + 1, by have := HK.out; omega, by go_num, fun j hj hjk => ?_⟩
          rcases Nat.lt_or_ge j k with h1 | h1
          · exact HP.out j hj h1
          · obtain rfl : j = k := by omega
            exact HQ.out
    · go_wp2
      go_ret
      refine Gives.mk (vbool ?_) rfl
      refine (memS_false.2 fun hm => ?_).symm
      obtain ⟨j, hj, e⟩ := List.getElem_of_mem hm
      exact HP.out j hj (by omega) e

def leafB (l : List Rg) (nm : ByteArray) : Bool := (idx l nm).isSome && !l.any fun q => decide (q.par = nm)
theorem leafB_at {l : List Rg} (g : GoodR l) {i : Nat} (hi : i < l.length) : leafB l (l[i]).nm = !isPar l i := by
  unfold leafB isPar
  rw [g.inc.idx hi, nmAt_of hi]
  rfl

def IsLeafRel (w : World) (l : List Rg) (nm : ByteArray) (m : Nat) (i : Value) (wr : World) : Prop :=
  wr = w ∧ ∃ k : Nat, k + m = l.length ∧ i = .int .i64 k ∧ ∀ j (h : j < l.length), j < k → (l[j]).par ≠ nm

set_option maxHeartbeats 400000 in
theorem IsLeaf_c (A : Option Addr) (c : Nat) (l : List Rg) (nm : ByteArray) (w : World) (hn : l.length ≤ 200) (h : Rgs w A l) :
    Calls Tryd.prog 42 #[.slice A l.length c, .string nm] w (Gives (.bool (leafB l nm)) w) := by
  cases hix : idx l nm with
  | none =>
    have HX := Lib.hid hix
    clear hix
    have hi0 : idxI l nm = -1 := by unfold idxI; rw [HX.out]
    go_enter Tryd.func42, Tryd.ntmps42
    go_wp2_with (go_at_call 28; refine (region_c _ _ _ _ _ hn h).mono ?_; rintro e w' ⟨rfl, rfl⟩)
    go_ret
    refine Gives.mk (vbool ?_) rfl
    unfold leafB
    rw [HX.out]; rfl
  | some x =>
    have HX := Lib.hid hix
    clear hix
    have hi0 : idxI l nm = (x : Int) := by unfold idxI; rw [HX.out]
    go_enter Tryd.func42, Tryd.ntmps42
    go_wp2_with (go_at_call 28; refine (region_c _ _ _ _ _ hn h).mono ?_; rintro e w' ⟨rfl, rfl⟩)
    clear hi0
    go_loopg [5] l.length (IsLeafRel w l nm)
    case atStart => exact ⟨rfl, 0, by omega, rfl, fun j _ hj => absurd hj (by omega)⟩
    case round =>
      obtain ⟨hw, k, hk, rfl, hpre⟩ := hrel
      subst hw
      have HK := Lib.hid hk
      have HP := Lib.hid hpre
      have hk1 : k ≤ l.length := by omega
      clear hk hpre
      by_cases hlt : k < l.length
      · obtain ⟨b, o, rfl, hb, hc⟩ := h.at_ (by omega)
        have hc0 := (hc k hlt).2
        clear hc
        by_cases hq : (l[k]).par = nm
        · have hqb := beq_of_eq hq
          have HQ := Lib.hid hq
          clear hq
          go_wp2
          go_ret
          refine Gives.mk (vbool ?_) rfl
          have : (l.any fun q => decide (q.par = nm)) = true := List.any_eq_true.2 ⟨l[k], List.getElem_mem hlt, by simp [HQ.out]⟩
          simp [leafB, this]
        · have hqb := beq_of_ne hq
          have HQ := Lib.hid hq
          clear hq
          go_wp2
          go_roundg (gk - 1)
          case measure => have := HK.out; omega
          case rel =>
            refine ⟨rfl, k + 1, by have := HK.out; omega, by go_num, fun j hj hjk => ?_⟩
            rcases Nat.lt_or_ge j k with h1 | h1
            · exact HP.out j hj h1
            · obtain rfl : j = k := by omega
              exact HQ.out
      · go_wp2
        go_ret
        refine Gives.mk (vbool ?_) rfl
        have : (l.any fun q => decide (q.par = nm)) = false := by
          rw [List.any_eq_false]
          intro q hm
          obtain ⟨j, hj, rfl⟩ := List.getElem_of_mem hm
          simpa using HP.out j hj (by omega)
        simp [leafB, this, HX.out]
end Go.Proofs.YtnjepmbonhmdnaaDoor
