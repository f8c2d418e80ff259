/- Package right (places): slices.ContainsFunc at plain's literal. -/
import Derived.Test.YtnjepmbonhmdnaaDoorPgI
namespace Go.Proofs.YtnjepmbonhmdnaaDoor
open Go.RowKit Dw

def offM (M : List Bool) (x : Int) : Bool := !(M.getD x.toNat false)
def IdxRel (w : World) (M : List Bool) (L : List Int) (m : Nat) (i : Value) (wr : World) : Prop :=
  wr = w ∧ ∃ k : Nat, k + m = L.length ∧ i = .int .i64 k ∧ ∀ j (h : j < L.length), j < k → offM M L[j] = false
def GivesIx (t : Bool) (w : World) (e : Ending) (w' : World) : Prop := ∃ z : Int, e = .returned (.int .i64 z) ∧ w = w' ∧ decide (0 ≤ z) = t

set_option maxHeartbeats 400000 in
theorem indexFunc_c (Ai As : Option Addr) (ci cs p : Nat) (L : List Int) (M : List Bool) (w : World) (hL : Rd1 (Value.int .i64) w Ai L) (hM : Rd1 Value.bool w As M) (hp : w.cell? ⟨p, 0, none⟩ = some (.slice As M.length cs))
    (hn : L.length ≤ 200) (hm : M.length ≤ 200) (hx : ∀ j (h : j < L.length), ∃ n : Nat, L[j] = (n : Int) ∧ n < M.length) :
    Calls Tryd.prog 66 #[.slice Ai L.length ci, .func (.func 53) #[] #[.pointer (some ⟨p, 0, none⟩)]] w (GivesIx (L.any (offM M)) w) := by
  generalize hres : L.any (offM M) = res
  have HR := Lib.hid hres
  clear hres
  have hpl : p < w.heap.size := World.block_lt_of_cell? w _ hp
  go_enter Tryd.func66, Tryd.ntmps66
  go_wp2
  go_loopg [8] L.length (IdxRel w M L)
  case atStart => exact ⟨rfl, 0, by omega, rfl, fun j _ hj => absurd hj (by omega)⟩
  case round =>
    obtain ⟨hw, k, hk, rfl, hpre⟩ := hrel
    subst hw
    have HK := Lib.hid hk
    have HP := Lib.hid hpre
    have hk1 : k ≤ L.length := by omega
    clear hk hpre
    by_cases hlt : k < L.length
    · obtain ⟨b, o, rfl, hb, hc⟩ := hL.at_ (by omega)
      obtain ⟨n, hn1, hn2⟩ := hx k hlt
      have hc0 := hc k hlt
      rw [hn1] at hc0
      obtain ⟨b2, o2, rfl, hb2, hc2⟩ := hM.at_ (by omega)
      have hc1 := hc2 n hn2
      have hn0 : (0 : Int) ≤ (n : Int) := by omega
      have hn3 : (n : Int) < (M.length : Int) := by omega
      have he : offM M L[k] = !M[n] := by rw [hn1]; simp [offM, hn2]
      have HE := Lib.hid he
      cases hq : M[n] with
      | false =>
        rw [hq] at hc1
        have HQ := Lib.hid hq
        clear hc hc2 he hq
        go_wp2
        go_ret
        refine ⟨_, rfl, rfl, ?_⟩
        rw [← HR.out]
        have : L.any (offM M) = true := List.any_eq_true.2 ⟨L[k], List.getElem_mem hlt, by rw [HE.out, HQ.out]; rfl⟩
        rw [this]
        simp
      | true =>
        rw [hq] at hc1
        have HQ := Lib.hid hq
        clear hc hc2 he hq
        go_wp2
        go_roundg (gk - 1)
        case measure => have := HK.out; omega
        case rel =>
          refine ⟨rfl, k + 1, by have := HK.out; omega, by go_num, fun j hj hjk => ?_⟩
          rcases Nat.lt_or_ge j k with h1 | h1
          · exact HP.out j hj h1
          · obtain rfl : j = k := by omega
            rw [HE.out, HQ.out]; rfl
    · go_wp2
      go_ret
      refine ⟨_, rfl, rfl, ?_⟩
      rw [← HR.out]
      have : L.any (offM M) = false := by
        rw [List.any_eq_false]
        intro x hx
        obtain ⟨j, hj, rfl⟩ := List.getElem_of_mem hx
        rw [HP.out j hj (by omega)]; simp
      rw [this]
      simp

set_option maxHeartbeats 400000 in
theorem containsFunc_c (Ai As : Option Addr) (ci cs p : Nat) (L : List Int) (M : List Bool) (w : World) (hL : Rd1 (Value.int .i64) w Ai L) (hM : Rd1 Value.bool w As M) (hp : w.cell? ⟨p, 0, none⟩ = some (.slice As M.length cs))
    (hn : L.length ≤ 200) (hm : M.length ≤ 200) (hx : ∀ j (h : j < L.length), ∃ n : Nat, L[j] = (n : Int) ∧ n < M.length) :
    Calls Tryd.prog 52 #[.slice Ai L.length ci, .func (.func 53) #[] #[.pointer (some ⟨p, 0, none⟩)]] w (Gives (.bool (L.any (offM M))) w) := by
  go_enter Tryd.func52, Tryd.ntmps52
  go_wp2_with fail
  refine (indexFunc_c _ _ _ _ p L M w hL hM hp hn hm hx).mono ?_
  rintro e w1 ⟨z, rfl, rfl, hz⟩
  have HZ := Lib.hid hz
  clear hz
  go_wp2
  go_ret
  exact Gives.mk (vbool HZ.out) rfl
end Go.Proofs.YtnjepmbonhmdnaaDoor
