/- Package num: Div. Package num: long division. -/
import Derived.Test.YtlcfgejaeecclaaGreatDoorJq13
import Derived.Deep.RegionHeld3
import Derived.StillTailTactics
namespace Go.Proofs.YtlcfgejaeecclaaGreatDoor
open Go.RowKit Dw

theorem ntV_zero : ntV none 0 0 = .slice none 0 0 := rfl
theorem Nt.zero (w : World) : Nt w none 0 0 := ⟨Rd1.nil, Nat.le_refl _⟩
theorem Cmp_ge {A A2 : Option Addr} {c c2 a b : Nat} {w : World} (h : Nt w A c a) (h2 : Nt w A2 c2 b) (hn : (words B32 a).length ≤ 1000000) (hge : b ≤ a) :
    ∃ z : Int, 0 ≤ z ∧ Calls Tryz.prog 177 #[ntV A c a, ntV A2 c2 b] w (GivesD (.int .i64 z) w) := by
  refine ⟨cmpN a b, ?_, Cmp_c A A2 c c2 a b w h h2 hn⟩
  unfold cmpN
  rw [if_neg (by omega)]
  split <;> omega
set_option maxHeartbeats 400000 in
theorem Div_lt (A A2 : Option Addr) (c c2 a b : Nat) (w : World) (h : Nt w A c a) (h2 : Nt w A2 c2 b) (hn : (words B32 a).length ≤ 400000) (hlt : a < b) :
    Calls Tryz.prog 196 #[ntV A c a, ntV A2 c2 b] w (GivesNN (a / b) (a % b) w) := by
  rw [Nat.div_eq_of_lt hlt, Nat.mod_eq_of_lt hlt]
  have hc := Cmp_c A A2 c c2 a b w h h2 (by omega)
  rw [cmpN_lt hlt] at hc
  have HC := Lib.hid hc
  clear hc hlt
  go_enter Tryz.func196, Tryz.ntmps196
  go_wp2_with fail
  with_reducible refine HC.out.mono ?_
  rintro e w' ⟨rfl, nd, rfl⟩
  clear HC
  go_wp2
  go_ret2
  exact ⟨none, 0, A, c, rfl, Nt.zero _, h.drewN nd, below_drewN (Below.refl _ _) nd⟩
set_option maxHeartbeats 400000 in
theorem Div_small (A A2 : Option Addr) (c c2 a b : Nat) (w : World) (h : Nt w A c a) (h2 : Nt w A2 c2 b) (hn : (words B32 a).length ≤ 2) (hge : b ≤ a) (hb : 0 < b) :
    Calls Tryz.prog 196 #[ntV A c a, ntV A2 c2 b] w (GivesNN (a / b) (a % b) w) := by
  obtain ⟨z, hz, hc⟩ := Cmp_ge h h2 (by omega) hge
  have hm := Nat.le_trans (len_le_of_le B32_gt hge) hn
  have la := small_lt hn
  have lb := small_lt hm
  have HC := Lib.hid hc
  clear hc hge
  go_enter Tryz.func196, Tryz.ntmps196
  go_wp2_with fail
  with_reducible refine HC.out.mono ?_
  rintro e w' ⟨rfl, nd, rfl⟩
  clear HC
  go_wp2_with fail
  with_reducible refine (small_yes A c a _ (h.drewN nd) hn).mono ?_
  rintro e w' ⟨rfl, nd1, rfl⟩
  go_wp2_with fail
  have h2d := h2.drewN (nd + nd1)
  with_reducible refine (small_yes A2 c2 b _ h2d hm).mono ?_
  rintro e w' ⟨rfl, nd2, rfl⟩
  obtain ⟨q, hq⟩ : ∃ q, a / b = q := ⟨_, rfl⟩
  obtain ⟨r, hr⟩ : ∃ r, a % b = r := ⟨_, rfl⟩
  have hqa : q ≤ a := by rw [← hq]; exact Nat.div_le_self a b
  have hra : r ≤ a := by rw [← hr]; exact Nat.mod_le a b
  have e1 : (a : Int) / (b : Int) = (q : Int) := by rw [← hq]; exact (Int.natCast_ediv a b).symm
  have e2 : (a : Int).tmod (b : Int) = (r : Int) := by rw [IntWalk.rem_in _ _ (by omega), ← hr]; exact (Int.natCast_emod a b).symm
  have e3 : IntKind.u64.wrap (q : Int) = (q : Int) := IntWalk.u64_in _ (by omega)
  have e4 : IntKind.u64.wrap (r : Int) = (r : Int) := IntWalk.u64_in _ (by omega)
  have hbz : ¬ b = 0 := by omega
  have hbq : ∀ W : World, (binOp .quo 158 (.int .u64 (a : Int)) (.int .u64 (b : Int))).run Tryz.prog W = .ok (.int .u64 (q : Int)) W := fun W => by
    simp [go_sem, hbz, e1, e3]
  have hbr : ∀ W : World, (binOp .rem 158 (.int .u64 (a : Int)) (.int .u64 (b : Int))).run Tryz.prog W = .ok (.int .u64 (r : Int)) W := fun W => by
    simp [go_sem, hbz, e2]
  have hqB : q < 18446744073709551616 := by omega
  have hrB : r < 18446744073709551616 := by omega
  have HQ1 := Lib.hid hq
  have HR1 := Lib.hid hr
  clear hq hr
  have HQ := Lib.hid (fun W : World => natOf_c q W hqB)
  have HR := Lib.hid (fun W : World => natOf_c r W hrB)
  clear hqB hrB
  go_wp2
  go_region_held3 (fun _ => True) (trivial)
    (first
      | ((go_at_call 179; (with_reducible refine (HQ.out _).mono ?_); rintro e w6 ⟨A5, c5, rfl, hn5, hb5⟩))
      | ((go_at_call 179; (with_reducible refine (HR.out _).mono ?_); rintro e w7 ⟨A6, c6, rfl, hn6, hb6⟩)))
  all_goals
    have hb7 : Below w.heap.size w w6 := (below_drewN (Below.refl w.heap.size w) _).trans hb5
    have hb8 : Below w.heap.size w w7 := hb7.trans (hb6.mono hb7.size)
    have hn7 := hn5.below hb6
    clear hb5 hb6 hb7 hn5
    go_wp2
    go_ret2
    rw [HQ1.out, HR1.out]
    exact ⟨A5, c5, A6, c6, rfl, hn7, hn6, hb8⟩
theorem words_one {b : Nat} (h : (words B32 b).length = 1) : words B32 b = [b] := by
  have hv := wval_words B32_gt b
  match hw : words B32 b, h with
  | [x], _ =>
    rw [hw, wval_one] at hv
    rw [hv]
set_option maxHeartbeats 400000 in
theorem Div_word (A A2 : Option Addr) (c c2 a b : Nat) (w : World) (h : Nt w A c a) (h2 : Nt w A2 c2 b) (hn : (words B32 a).length ≤ 400000) (hn2 : 2 < (words B32 a).length) (hm : (words B32 b).length = 1) (hge : b ≤ a) :
    Calls Tryz.prog 196 #[ntV A c a, ntV A2 c2 b] w (GivesNN (a / b) (a % b) w) := by
  obtain ⟨z, hz, hc⟩ := Cmp_ge h h2 (by omega) hge
  have HC := Lib.hid hc
  have hw := words_one hm
  have hl := words_lt B32_gt b
  rw [hw] at hl
  have hb2 : b ≤ 4294967295 := by have := hl.head; have e := B32_eq; omega
  have hb1 : 1 ≤ b := by
    rcases Nat.eq_zero_or_pos b with h0 | h0
    · rw [(words_nil B32_gt).2 h0] at hm
      simp at hm
    · exact h0
  obtain ⟨r2, hcap2⟩ := h2
  rw [hw] at r2
  obtain ⟨b2, o2, hA2, hlt2, hcl⟩ := r2.at_ (by simp)
  subst hA2
  have hc0 := hcl 0 (by simp)
  rw [u32V_eq] at hc0
  simp only [List.getElem_cons_zero, Nat.add_zero] at hc0
  have e2 : ntV (some ⟨b2, o2, none⟩) c2 b = .slice (some ⟨b2, o2, none⟩) 1 c2 := by unfold ntV; rw [hw]; rfl
  rw [e2] at HC ⊢
  have hcap3 : 1 ≤ c2 := by rw [hw] at hcap2; exact hcap2
  clear hc hge hw hl hcl hm e2 r2 hcap2
  go_enter Tryz.func196, Tryz.ntmps196
  go_wp2_with fail
  with_reducible refine HC.out.mono ?_
  rintro e w' ⟨rfl, nd, rfl⟩
  clear HC
  go_wp2_with fail
  with_reducible refine (small_no A c a _ (h.drewN nd) hn2 (by omega)).mono ?_
  rintro e w' ⟨rfl, nd1, rfl⟩
  go_wp2_with fail
  with_reducible refine (divWord_c A c a b _ (h.drewN (nd + nd1)) (by omega) hb1 hb2).mono ?_
  rintro e w' ⟨A5, c5, A6, c6, rfl, h5, h6, hb⟩
  go_wp2
  go_ret2
  exact ⟨A5, c5, A6, c6, rfl, h5, h6, (below_drewN (Below.refl w.heap.size w) _).trans hb⟩
theorem step_n (g j cu cv n : Nat) (A2 : Option Addr) (U V X : List Nat) (w : World) (hn1 : 1 ≤ n) (hA : ArrU w g U) (hj : j + (n + 1) ≤ U.length) (hX : X = (U.drop j).take (n + 1)) (hU : WLt B32 U) (h2 : Wds w A2 V) (hV : WLt B32 V) (hVn : V.length = n) (hm : n ≤ 900000)
    (hv1 : ∀ h : n - 1 < V.length, 0 < V[n - 1]) (hlt : wval B32 X < wval B32 V * B32) :
    Calls Tryz.prog 215 #[.slice (some ⟨g, j, none⟩) (n + 1) cu, .slice A2 n cv] w (GivesSt g j (n + 1) (wval B32 X / wval B32 V) (wval B32 X % wval B32 V) U w) := by
  obtain ⟨m, rfl⟩ : ∃ m, n = m + 1 := ⟨n - 1, by omega⟩
  exact step_c g j cu cv m A2 U V X w hA hj hX hU h2 hV hVn (by omega) hv1 hlt
/-- A shift that brings the highest bit of a word up. -/
theorem shift_ok {x : Nat} (h0 : 0 < x) (h : x < 4294967296) : 1 ≤ Lib.bitLen x ∧ Lib.bitLen x ≤ 32 ∧ x * 2 ^ (32 - Lib.bitLen x) < 4294967296 := by
  have hlt : ∀ (f x : Nat), x < 2 ^ f → x < 2 ^ Lib.bitLenAux f x := by
    intro f
    induction f with
    | zero => intro x hx; simpa [Lib.bitLenAux] using hx
    | succ f ih =>
      intro x hx
      unfold Lib.bitLenAux
      split
      · next h => rw [h]; exact Nat.two_pow_pos _
      · have h1 : x / 2 < 2 ^ f := by rw [Nat.pow_succ] at hx; omega
        have h2 := ih (x / 2) h1
        rw [Nat.pow_add]
        omega
  have hle : ∀ (f x k : Nat), x < 2 ^ k → Lib.bitLenAux f x ≤ k := by
    intro f
    induction f with
    | zero => intro x k _; simp [Lib.bitLenAux]
    | succ f ih =>
      intro x k hx
      unfold Lib.bitLenAux
      split
      · omega
      · next h0 =>
        cases k with
        | zero => simp at hx; omega
        | succ k =>
          have := ih (x / 2) k (by rw [Nat.pow_succ] at hx; omega)
          omega
  have h1 : Lib.bitLen x ≤ 32 := hle 64 x 32 h
  have h2 : x < 2 ^ Lib.bitLen x := hlt 64 x (Nat.lt_trans h (by decide))
  refine ⟨?_, h1, ?_⟩
  · rcases Nat.eq_zero_or_pos (Lib.bitLen x) with e | e
    · rw [e] at h2; simp at h2; omega
    · exact e
  · have h3 : x * 2 ^ (32 - Lib.bitLen x) < 2 ^ Lib.bitLen x * 2 ^ (32 - Lib.bitLen x) := Nat.mul_lt_mul_of_pos_right h2 (Nat.two_pow_pos _)
    rw [← Nat.pow_add, show Lib.bitLen x + (32 - Lib.bitLen x) = 32 by omega] at h3
    exact h3
/-- The rounds of a long division: m digits are still to come. -/
def DvRel (w : World) (gu gv gq : Nat) (U0 V0 : List Nat) (v na nb : Nat) (m : Nat) (jv : Value) (wr : World) : Prop :=
  ∃ (U Q : List Nat) (z : Int), z = (m : Int) - 1 ∧ jv = .int .i64 z ∧ m ≤ na - nb + 1 ∧ ArrU wr gu U ∧ U.length = na + 1 ∧ WLt B32 U ∧ ArrU wr gv V0 ∧ ArrU wr gq Q ∧ Q.length = na - nb + 1 ∧ WLt B32 Q ∧ U.take m = U0.take m ∧
    wval B32 (U.drop m) = wval B32 (U0.drop m) % v ∧ wval B32 (Q.drop m) = wval B32 (U0.drop m) / v ∧ Below w.heap.size w wr
/-- The window of a round. -/
theorem window {U U0 : List Nat} {j n v na : Nat} (hU : U.length = na + 1) (h0 : U0.length = na + 1) (hj : j + n + 1 ≤ na + 1) (ht : U.take (j + 1) = U0.take (j + 1)) (hr : wval B32 (U.drop (j + 1)) = wval B32 (U0.drop (j + 1)) % v) (hv : v < B32 ^ n) (hv0 : 0 < v) (hW : WLt B32 U) :
    wval B32 ((U.drop j).take (n + 1)) = wval B32 (U.drop j) ∧ wval B32 (U.drop j) < v * B32 ∧ wval B32 (U.drop (j + (n + 1))) = 0 ∧ wval B32 (U.drop j) = U0[j]'(by omega) + B32 * (wval B32 (U0.drop (j + 1)) % v) := by
  have hjU : j < U.length := by omega
  have e0 : U[j] = U0[j]'(by omega) := by
    have h1 : (U.take (j + 1))[j]'(by rw [List.length_take]; omega) = U[j] := List.getElem_take
    have h2 : (U0.take (j + 1))[j]'(by rw [List.length_take]; omega) = U0[j]'(by omega) := List.getElem_take
    rw [← h1, ← h2]
    exact List.getElem_of_eq ht _
  have e1 := wval_drop (B := B32) hjU
  have hx := hW.get j hjU
  have hlt : wval B32 (U.drop j) < v * B32 := by
    rw [e1, hr]
    exact next_lt (Nat.mod_lt _ hv0) hx
  have hz : wval B32 (U.drop (j + 1 + n)) = 0 := wval_drop_zero (n := n) (by rw [hr]; exact Nat.lt_trans (Nat.mod_lt _ hv0) hv) (by omega)
  have ej : j + (n + 1) = j + 1 + n := by omega
  refine ⟨?_, hlt, by rw [ej]; exact hz, by rw [e1, hr, e0]⟩
  have e2 := wval_split B32 (n + 1) (U.drop j) (by rw [List.length_drop]; omega)
  rw [List.drop_drop, ej, hz, Nat.mul_zero, Nat.add_zero] at e2
  exact e2.symm
end Go.Proofs.YtlcfgejaeecclaaGreatDoor

namespace Go.Proofs.YtlcfgejaeecclaaGreatDoor
open Go.RowKit Dw

theorem lz_c (x : Nat) (w : World) (h : x < 4294967296) : Calls Tryz.prog 213 #[.int .u32 (x : Int)] w (Gives (.int .i64 (32 - (Lib.bitLen x : Int))) w) := by
  have h := Any.bits_LeadingZeros32 Tryz.lays133 (x : Int) w (by omega) (by omega)
  change Calls Tryz.prog 213 _ _ _ at h
  rw [Int.toNat_natCast] at h
  exact h.mono fun _ _ ⟨he, hw⟩ => ⟨he, hw.symm⟩
theorem cutW (g j n N : Nat) (h : j + n + 1 ≤ N) (W : World) : (Instr.slice 171 (.slice (some ⟨g, 0, none⟩) N N) (some (.int .i64 (j : Int))) (some (.int .i64 ((j : Int) + (n : Int) + 1))) none).run Tryz.prog W = .ok (.slice (some ⟨g, j, none⟩) (n + 1) (N - j)) W := by
  have e1 : ¬ N = j := by omega
  have h1 : (0 : Int) ≤ (j : Int) := by omega
  have h2 : (j : Int) ≤ (j : Int) + (n : Int) + 1 := by omega
  have h3 : (j : Int) + (n : Int) + 1 ≤ (N : Int) := by omega
  simp [go_sem, h1, h2, h3]
  exact ⟨fun e => absurd e e1, by omega⟩
theorem cutV (A : Option Addr) (n N : Nat) (h : n ≤ N) (W : World) : (Instr.slice 171 (.slice A N N) none (some (.int .i64 (n : Int))) none).run Tryz.prog W = .ok (.slice A n N) W := by
  have h3 : (n : Int) ≤ (N : Int) := by omega
  simp [go_sem, h3]
/-- The remainder, shifted back. -/
def RvRel (w : World) (gu gq gr : Nat) (U Q : List Nat) (s nb : Nat) (m : Nat) (iv : Value) (wr : World) : Prop :=
  ∃ (k : Nat) (R : List Nat), k + m = nb ∧ iv = .int .i64 k ∧ ArrU wr gr R ∧ R.length = nb ∧ WLt B32 R ∧ 2 ^ s * wval B32 (R.take k) + U.getD 0 0 % 2 ^ s = wval B32 (U.take k) + B32 ^ k * (U.getD k 0 % 2 ^ s) ∧
    ArrU wr gu U ∧ ArrU wr gq Q ∧ Below w.heap.size w wr ∧ w.heap.size ≤ gr ∧ gu < gr ∧ gq < gr
theorem RvRel.step {w wr : World} {gu gq gr : Nat} {U Q R : List Nat} {s nb k gk T : Nat} (hkm : k + gk = nb) (hlt : k < nb) (hR : ArrU wr gr R) (hRl : R.length = nb) (hRW : WLt B32 R) (hs : s < 32) (hU1 : k + 1 < U.length) (hUW : WLt B32 U)
    (hV : 2 ^ s * wval B32 (R.take k) + U.getD 0 0 % 2 ^ s = wval B32 (U.take k) + B32 ^ k * (U.getD k 0 % 2 ^ s)) (hU : ArrU wr gu U) (hQ : ArrU wr gq Q) (hb : Below w.heap.size w wr) (h1 : w.heap.size ≤ gr) (h2 : gu < gr) (h3 : gq < gr)
    (hT : T = U[k] + 4294967296 * U[k + 1]) {iv mv : Value} (hi : iv = .int .i64 ((k : Int) + 1)) (hm : mv = .int .u32 ((T / 2 ^ s % 4294967296 : Nat) : Int)) {wd : World} (hd : ∃ n, wd = (wr.drewN n).setCell ⟨gr, k, none⟩ mv) : RvRel w gu gq gr U Q s nb (gk - 1) iv wd := by
  obtain ⟨n, rfl⟩ := hd
  subst hi hm
  have hR' : ArrU (wr.drewN n) gr R := hR
  have hU' : ArrU (wr.drewN n) gu U := hU
  have hQ' : ArrU (wr.drewN n) gq Q := hQ
  refine ⟨k + 1, R.set k (T / 2 ^ s % 4294967296), by omega, by go_num, hR'.set k _, by simpa using hRl, hRW.set (modB _) k, ?_, hU'.far (show gu ≠ gr by omega) _, hQ'.far (show gq ≠ gr by omega) _, (below_drewN hb n).setCell h1 _, h1, h2, h3⟩
  rw [wval_put (by omega), wval_take (by omega : k < U.length)]
  have e0 : U.getD k 0 = U[k] := by simp [List.getD, show k < U.length by omega]
  have e1 : U.getD (k + 1) 0 = U[k + 1] := by simp [List.getD, hU1]
  rw [e1]
  rw [e0] at hV
  have hx := hUW.get k (by omega)
  have hdv : (2 ^ s) ∣ B32 := by
    refine ⟨2 ^ (32 - s), ?_⟩
    rw [← Nat.pow_add, show s + (32 - s) = 32 by omega]
    rfl
  exact shr_col B32_pos (Nat.two_pow_pos s) hdv hx hV (by rw [hT]; rfl)
/-- The first part of a long division, up to the loop over the digits. -/
def DvCut (a b s na nb : Nat) (w : World) (uv vv qv nv jv sv : Value) (wx : World) : Prop :=
  ∃ (gu gv gq : Nat) (U V : List Nat), uv = .slice (some ⟨gu, 0, none⟩) (na + 1) (na + 1) ∧ vv = .slice (some ⟨gv, 0, none⟩) (nb + 1) (nb + 1) ∧ qv = .slice (some ⟨gq, 0, none⟩) (na - nb + 1) (na - nb + 1) ∧ nv = .int .i64 (nb : Int) ∧ jv = .int .i64 ((na : Int) - (nb : Int)) ∧ sv = .int .u64 (s : Int) ∧
    ArrU wx gu U ∧ U.length = na + 1 ∧ WLt B32 U ∧ wval B32 U = a * 2 ^ s ∧ ArrU wx gv V ∧ V.length = nb + 1 ∧ WLt B32 V ∧ wval B32 V = b * 2 ^ s ∧ ArrU wx gq (List.replicate (na - nb + 1) 0) ∧ w.heap.size ≤ gu ∧ gu < gv ∧ gv < gq ∧ Below w.heap.size w wx
/-- The divisor, shifted: it fits its words, and its highest word is not 0. -/
theorem divisor {r V : List Nat} {top s : Nat} (hr : WLt B32 r) (hn : 0 < r.length) (htop : r.getLast? = some top) (h1 : top * 2 ^ s < 4294967296) (h0 : 0 < top) (hs : s < 32) (hVl : V.length = r.length + 1) (hVW : WLt B32 V) (hVv : wval B32 V = wval B32 r * 2 ^ s) :
    wval B32 r * 2 ^ s < B32 ^ r.length ∧ 0 < wval B32 r * 2 ^ s ∧ wval B32 (V.take r.length) = wval B32 r * 2 ^ s ∧ (∀ h : r.length - 1 < (V.take r.length).length, 0 < (V.take r.length)[r.length - 1]) := by
  have ht : r[r.length - 1]'(by omega) = top := by
    rw [List.getLast?_eq_getElem?, List.getElem?_eq_getElem (by omega)] at htop
    injection htop
  have e1 := wval_take (B := B32) (l := r) (i := r.length - 1) (by omega)
  rw [show r.length - 1 + 1 = r.length by omega, List.take_length, ht] at e1
  have e2 := wval_lt (hr.take (r.length - 1))
  rw [List.length_take, Nat.min_eq_left (by omega)] at e2
  have e3 : B32 ^ (r.length - 1) * B32 = B32 ^ r.length := by rw [← Nat.pow_succ, show (r.length - 1).succ = r.length by omega]
  have h2 : (top + 1) * 2 ^ s ≤ B32 := by
    have e4 : (4294967296 : Nat) = 2 ^ (32 - s) * 2 ^ s := by rw [← Nat.pow_add, show 32 - s + s = 32 by omega]
    have h3 : top < 2 ^ (32 - s) := by
      rw [e4] at h1
      exact Nat.lt_of_mul_lt_mul_right h1
    have h4 := Nat.mul_le_mul_right (2 ^ s) (show top + 1 ≤ 2 ^ (32 - s) from h3)
    rw [← e4] at h4
    exact h4
  have hp := Nat.two_pow_pos s
  have hlt : wval B32 r * 2 ^ s < B32 ^ r.length := by
    have h5 : wval B32 r + 1 ≤ B32 ^ (r.length - 1) * (top + 1) := by rw [Nat.mul_add, Nat.mul_one]; omega
    have h6 := Nat.mul_le_mul_right (2 ^ s) h5
    have h7 := Nat.mul_le_mul_left (B32 ^ (r.length - 1)) h2
    rw [e3, ← Nat.mul_assoc] at h7
    rw [Nat.add_mul, Nat.one_mul] at h6
    omega
  have hge : B32 ^ (r.length - 1) ≤ wval B32 r := by
    have := Nat.mul_le_mul_left (B32 ^ (r.length - 1)) (show 1 ≤ top from h0)
    rw [Nat.mul_one] at this
    omega
  have hbp : 0 < B32 ^ (r.length - 1) := Nat.pow_pos B32_pos
  have hpos : 0 < wval B32 r * 2 ^ s := Nat.mul_pos (by omega) hp
  have hz : wval B32 (V.drop (0 + r.length)) = 0 := wval_drop_zero (n := r.length) (by rw [List.drop_zero, hVv]; exact hlt) (by omega)
  have hsp := wval_split B32 r.length V (by omega)
  rw [Nat.zero_add] at hz
  rw [hz, Nat.mul_zero, Nat.add_zero, hVv] at hsp
  refine ⟨hlt, hpos, hsp.symm, fun h => ?_⟩
  rcases Nat.eq_zero_or_pos ((V.take r.length)[r.length - 1]) with h0 | h0
  · exfalso
    have e5 := wval_take (B := B32) (l := V.take r.length) (i := r.length - 1) h
    rw [h0, Nat.mul_zero, Nat.add_zero, List.take_take, List.take_take, Nat.min_eq_left (by omega), Nat.min_eq_left (by omega)] at e5
    rw [show r.length - 1 + 1 = r.length by omega, ← hsp] at e5
    have e6 := wval_lt (hVW.take (r.length - 1))
    rw [List.length_take, Nat.min_eq_left (by omega)] at e6
    have e7 := Nat.mul_le_mul_left (wval B32 r) hp
    rw [Nat.mul_one] at e7
    omega
  · exact h0
/-- Before the first digit: nothing of the dividend has been taken. -/
theorem first_part {U : List Nat} {a b s na nb : Nat} (hU : U.length = na + 1) (hUv : wval B32 U = a * 2 ^ s) (ha : a < B32 ^ na) (hb : B32 ^ (nb - 1) ≤ b) (h1 : 1 ≤ nb) (h2 : nb ≤ na) : wval B32 (U.drop (na - nb + 1)) < b * 2 ^ s := by
  have e := wval_split B32 (na - nb + 1) U (by omega)
  have hp := Nat.two_pow_pos s
  have h3 : B32 ^ (na - nb + 1) * wval B32 (U.drop (na - nb + 1)) < B32 ^ na * 2 ^ s := by
    have := Nat.mul_lt_mul_of_pos_right ha hp
    omega
  have e2 : B32 ^ na = B32 ^ (na - nb + 1) * B32 ^ (nb - 1) := by rw [← Nat.pow_add, show na - nb + 1 + (nb - 1) = na by omega]
  rw [e2, Nat.mul_assoc] at h3
  exact Nat.lt_of_lt_of_le (Nat.lt_of_mul_lt_mul_left h3) (Nat.mul_le_mul_right _ hb)
set_option maxRecDepth 100000 in
set_option maxHeartbeats 2000000 in
theorem Div_long (A A2 : Option Addr) (c c2 a b : Nat) (w : World) (h : Nt w A c a) (h2 : Nt w A2 c2 b) (hn : (words B32 a).length ≤ 400000) (hn2 : 2 < (words B32 a).length) (hm : 2 ≤ (words B32 b).length) (hge : b ≤ a) :
    Calls Tryz.prog 196 #[ntV A c a, ntV A2 c2 b] w (GivesNN (a / b) (a % b) w) := by
  obtain ⟨z, hz, hc⟩ := Cmp_ge h h2 (by omega) hge
  have hlen := len_le_of_le B32_gt hge
  obtain ⟨top, htop, ht0⟩ : ∃ top, (words B32 b).getLast? = some top ∧ 0 < top := by
    have hb0 := words_last (B := B32) B32_gt (n := b) (by omega)
    exact ⟨_, by rw [List.getLast?_eq_getElem?, List.getElem?_eq_getElem (by omega)], by omega⟩
  have hl1 := words_lt B32_gt a
  have hl2 := words_lt B32_gt b
  have HVA := Lib.hid (wval_words B32_gt a)
  have HVB := Lib.hid (wval_words B32_gt b)
  obtain ⟨h, hcap⟩ := h
  obtain ⟨h2, hcap2⟩ := h2
  have hsm := small_no A c a w ⟨h, hcap⟩ hn2 (by omega)
  have HS := Lib.hid (fun nd : Nat => small_no A c a (w.drewN nd) ⟨h.drewN nd, hcap⟩ hn2 (by omega))
  have HC := Lib.hid hc
  clear hc hsm
  unfold ntV at HC HS ⊢
  generalize words B32 a = l at *
  generalize words B32 b = r at *
  obtain ⟨na, hna⟩ : ∃ na, na = l.length := ⟨_, rfl⟩
  obtain ⟨nb, hnb⟩ : ∃ nb, nb = r.length := ⟨_, rfl⟩
  obtain ⟨b2, o2, hA2, hlt2, hcl⟩ := h2.at_ (by omega)
  subst hA2
  have hc0 := hcl (r.length - 1) (by omega)
  have htop2 : r[r.length - 1]'(by omega) = top := by
    rw [List.getLast?_eq_getElem?, List.getElem?_eq_getElem (by omega)] at htop
    injection htop
  have ht1 : top < 4294967296 := by rw [← htop2]; exact hl2.get _ (by omega)
  rw [u32V_eq, htop2] at hc0
  obtain ⟨hs1, hs2, hs3⟩ := shift_ok ht0 ht1
  have HLZ := Lib.hid (fun W : World => lz_c top W ht1)
  obtain ⟨s, hs⟩ : ∃ s, s = 32 - Lib.bitLen top := ⟨_, rfl⟩
  have hsI : (32 : Int) - (Lib.bitLen top : Int) = (s : Int) := by omega
  rw [hsI] at HLZ
  have hs4 : s < 32 := by omega
  have HL1 := Lib.hid (fun W (hW : Wds W A l) => left_l A c s l W hW hl1 (by omega) hs4)
  have HL2 := Lib.hid (fun W (hW : Wds W (some ⟨b2, o2, none⟩) r) => left_l (some ⟨b2, o2, none⟩) c2 s r W hW hl2 (by omega) hs4)
  have HTOP : Hid (r.getLast? = some top ∧ top * 2 ^ s < 4294967296 ∧ 0 < top) := ⟨htop, by rw [hs]; exact hs3, ht0⟩
  rw [← hnb] at hc0
  clear htop htop2 hs1 hs2 hs3 hs hsI hcl
  have hmk : ∀ w : World, (Instr.makeSlice 171 (.int .i64 ((na : Int) - (nb : Int) + 1)) (.int .i64 ((na : Int) - (nb : Int) + 1))).run Tryz.prog w =
      .ok (.slice (some ⟨w.heap.size, 0, none⟩) (na - nb + 1) (na - nb + 1)) (w.alloc (.cells (Array.replicate (na - nb + 1) (.int .u32 0)) 156)) := by
    have e : (na : Int) - (nb : Int) + 1 = ((na - nb + 1 : Nat) : Int) := by omega
    rw [e]
    exact mk_nat (na - nb + 1) (by omega)
  rw [← hna] at hn hn2 hlen hcap
  rw [← hnb] at hm hlen hcap2
  simp only [← hna, ← hnb] at HS HL1 HL2 HC ⊢
  have HNA := Lib.hid hna
  have HNB := Lib.hid hnb
  clear hna hnb
  go_enter Tryz.func196, Tryz.ntmps196
  go_wp2_with fail
  with_reducible refine HC.out.mono ?_
  rintro e w' ⟨rfl, nd, rfl⟩
  clear HC
  go_wp2_with fail
  with_reducible refine (HS.out nd).mono ?_
  rintro e w' ⟨rfl, nd1, rfl⟩
  clear HS
  go_wp2_with fail
  with_reducible refine (HLZ.out _).mono ?_
  rintro e w' ⟨rfl, rfl⟩
  clear HLZ
  go_wp2_with fail
  with_reducible refine (HL1.out _ (h.drewN (nd + nd1))).mono ?_
  rintro e w3 ⟨gu, U, rfl, hU, hUl, hUW, hUv, hb3, hg3⟩
  clear HL1
  have hb3' : Below w.heap.size w w3 := (below_drewN (Below.refl w.heap.size w) _).trans hb3
  have HB3 := Lib.hid hb3'
  have hg3' : w.heap.size ≤ gu := hg3
  clear hb3 hb3' hg3
  go_wp2_with fail
  with_reducible refine (HL2.out _ (h2.below HB3.out)).mono ?_
  rintro e w4 ⟨gv, V, rfl, hV, hVl, hVW, hVv, hb4, hg4⟩
  clear HL2
  have hU4 := hU.below hb4
  have hgu3 := hU.lt
  have HB4 := Lib.hid (below_trans HB3.out hb4)
  have hz3 := HB3.out.size
  clear hb4 hU
  go_wp2_with fail
  have hnew := ArrU.new w4 (na - nb + 1)
  have hbel : Below w4.heap.size w4 (w4.alloc (.cells (Array.replicate (na - nb + 1) (.int .u32 0)) 156)) := (Below.refl _ _).alloc (Nat.le_refl _) _
  have hU5 := hU4.below hbel
  have hV5 := hV.below hbel
  have hgv4 := hV.lt
  have hbw5 := below_trans HB4.out hbel
  obtain ⟨gq, hgq⟩ : ∃ gq, gq = w4.heap.size := ⟨_, rfl⟩
  obtain ⟨w5, hw5⟩ : ∃ w5, w5 = w4.alloc (.cells (Array.replicate (na - nb + 1) (.int .u32 0)) 156) := ⟨_, rfl⟩
  rw [← hgq] at hnew
  rw [← hw5] at hnew hU5 hV5 hbw5
  rw [← hgq, ← hw5]
  have hgv : gu < gv := by omega
  have hgqv : gv < gq := by omega
  have HB5 := Lib.hid hbw5
  clear hbel hbw5 hw5 hgq hmk hU4 hV HB4 HB3 hgv4 hgu3 hz3 hg4 hc0 hlt2
  obtain ⟨htop, hts, htp⟩ := HTOP.out
  have hrn := HNB.out
  have hln := HNA.out
  have HD := divisor hl2 (by omega) htop hts htp hs4 (by omega) hVW hVv
  rw [← hrn, HVB.out] at HD
  have hbB : B32 ^ (nb - 1) ≤ b := by
    have := wval_ge (B := B32) (l := r) (by omega) (by rw [List.getLast?_eq_getElem?, List.getElem?_eq_getElem (by omega)] at htop; injection htop with e; omega)
    rwa [← hrn, HVB.out] at this
  have haB : a < B32 ^ na := by
    have := wval_lt hl1
    rwa [HVA.out, ← hln] at this
  rw [HVA.out] at hUv
  rw [HVB.out] at hVv
  obtain ⟨v, hv⟩ : ∃ v, v = b * 2 ^ s := ⟨_, rfl⟩
  have hF := first_part hUl hUv haB hbB (by omega) hlen
  rw [← hv] at HD hF
  obtain ⟨HD1, HD2, HD3, HD4⟩ := HD
  obtain ⟨Vn, hVn⟩ : ∃ Vn, Vn = V.take nb := ⟨_, rfl⟩
  rw [← hVn] at HD3 HD4
  have hVnl : Vn.length = nb := by rw [hVn, List.length_take]; omega
  have HVN := Lib.hid hVn
  have HVNL := Lib.hid hVnl
  have hVnW : WLt B32 Vn := by rw [hVn]; exact hVW.take nb
  have HV := Lib.hid hv
  have HD1 := Lib.hid HD1
  have HD3 := Lib.hid HD3
  have HD4 := Lib.hid HD4
  have HF := Lib.hid hF
  have HUV := Lib.hid hUv
  have HUL := Lib.hid hUl
  clear htop hts htp hrn hln hbB haB hv hF hVn hVnl hUv hVv hUl HTOP hl1 hl2 hcap hcap2 h h2 HVA HVB HNA HNB hge hVl
  go_loopg [15] (na - nb + 1) (DvRel w gu gv gq U V v na nb)
  case atStart =>
    refine ⟨U, List.replicate (na - nb + 1) 0, _, rfl, ?_, Nat.le_refl _, hU5, HUL.out, hUW, hV5, hnew, by simp, WLt.zeros B32_pos _, rfl, (Nat.mod_eq_of_lt HF.out).symm, ?_, HB5.out⟩
    · congr 1; omega
    · rw [List.drop_of_length_le (by simp), Nat.div_eq_of_lt HF.out]; rfl
  case round =>
    clear hU5 hV5 hnew
    obtain ⟨U', Q, zz, hzz, rfl, hgk, hU', hUl', hUW', hV', hQ, hQl, hQW, hTk, hRm, hQt, hbw⟩ := hrel
    have HTK := Lib.hid hTk
    have HRM := Lib.hid hRm
    have HQT := Lib.hid hQt
    have HQL := Lib.hid hQl
    have HUL' := Lib.hid hUl'
    clear hTk hRm hQt hQl hUl'
    rcases Nat.eq_zero_or_pos gk with h0 | h0
    · subst h0
      obtain rfl : zz = -1 := hzz
      have hrem : wval B32 U' = (a % b) * 2 ^ s := by
        have := HRM.out
        rwa [List.drop_zero, List.drop_zero, HUV.out, HV.out, Nat.mul_mod_mul_right] at this
      have hquo : wval B32 Q = a / b := by
        have := HQT.out
        rwa [List.drop_zero, List.drop_zero, HUV.out, HV.out, Nat.mul_div_mul_right _ _ (Nat.two_pow_pos s)] at this
      have hrl : wval B32 U' < B32 ^ nb := by
        have := HRM.out
        rw [List.drop_zero] at this
        rw [this]
        exact Nat.lt_trans (Nat.mod_lt _ HD2) HD1.out
      have HREM := Lib.hid hrem
      have HQUO := Lib.hid hquo
      have HRL := Lib.hid hrl
      clear hrem hquo hrl HTK HRM HQT HD3 HD4
      have hmk : ∀ w : World, (Instr.makeSlice 171 (.int .i64 (nb : Int)) (.int .i64 (nb : Int))).run Tryz.prog w =
          .ok (.slice (some ⟨w.heap.size, 0, none⟩) nb nb) (w.alloc (.cells (Array.replicate nb (.int .u32 0)) 156)) := mk_nat nb (by omega)
      go_wp2
      clear hmk
      have hnew := ArrU.new wr nb
      have hbel : Below wr.heap.size wr (wr.alloc (.cells (Array.replicate nb (.int .u32 0)) 156)) := (Below.refl _ _).alloc (Nat.le_refl _) _
      have hU5 := hU'.below hbel
      have hQ5 := hQ.below hbel
      have hgu5 := hU'.lt
      have hgq5 := hQ.lt
      have hbw5 := below_trans hbw hbel
      have hsz5 := hbw.size
      obtain ⟨gr, hgr⟩ : ∃ gr, gr = wr.heap.size := ⟨_, rfl⟩
      obtain ⟨w5, hw5⟩ : ∃ w5, w5 = wr.alloc (.cells (Array.replicate nb (.int .u32 0)) 156) := ⟨_, rfl⟩
      rw [← hgr] at hnew hgu5 hgq5 hsz5
      rw [← hw5] at hnew hU5 hQ5 hbw5
      rw [← hgr, ← hw5]
      clear hgr hw5 hbel hbw hV' hU' hQ
      go_loopg [100] nb (RvRel w gu gq gr U' Q s nb)
      case atStart => exact ⟨0, List.replicate nb 0, by omega, rfl, hnew, by simp, WLt.zeros B32_pos _, by simp [wval], hU5, hQ5, hbw5, hsz5, hgu5, hgq5⟩
      case round =>
        clear hnew hU5 hQ5 hbw5
        obtain ⟨k, R, hkm, rfl, hR, hRl, hRW, hVR, hU5, hQ5, hbw5, _, _, _⟩ := hrel
        have HKM := Lib.hid hkm
        have HRL2 := Lib.hid hRl
        have HVR := Lib.hid hVR
        clear hkm hRl hVR
        by_cases hlt : k < nb
        · have hk1 : k + 1 < U'.length := by have := HUL'.out; omega
          have hc0 := hU5.cell k (by omega)
          have hc1 := hU5.cell (k + 1) hk1
          have hc2 := hR.cell k (by have := HRL2.out; omega)
          have hf2 := hR.frozen k
          have hx0 : U'[k] < 4294967296 := hUW'.get k (by omega)
          have hx1 : U'[k + 1] < 4294967296 := hUW'.get (k + 1) hk1
          obtain ⟨T, hT⟩ : ∃ T, T = U'[k] + 4294967296 * U'[k + 1] := ⟨_, rfl⟩
          have hor : bits .or .u64 (U'[k] : Int) ((U'[k + 1] : Int) * 4294967296) = (T : Int) := by rw [or_u64 _ _ hx0 hx1, hT]; simp
          obtain ⟨D, hD⟩ : ∃ D, D = T / 2 ^ s := ⟨_, rfl⟩
          have hDe : (T : Int) / 2 ^ s = (D : Int) := by rw [hD, Int.natCast_ediv, Int.natCast_pow]; rfl
          have hDT : D ≤ T := by rw [hD]; exact Nat.div_le_self _ _
          have hTB : T ≤ 18446744073709551615 := by omega
          have HT := Lib.hid hT
          have HD := Lib.hid hD
          clear hT hD
          have hsh : IntKind.u64.wrap ((U'[k + 1] : Int) * 4294967296) = (U'[k + 1] : Int) * 4294967296 := IntWalk.u64_in _ (by omega)
          have hw1 : IntKind.i64.wrap ((k : Int) + 1) = (k : Int) + 1 := IntWalk.i64_in _ (by omega)
          go_wp2
          have y1 : (k : Int) < (na : Int) + 1 := by omega
          have y2 : (k : Int) + 1 < (na : Int) + 1 := by omega
          have y3 : (k : Int) < (nb : Int) := by omega
          have y4 : (0 : Int) ≤ (k : Int) + 1 := by omega
          have y5 : ((k : Int) + 1).toNat = k + 1 := by omega
          have y6 : (0 : Int) ≤ (k : Int) := by omega
          refine wp_region_still_tail 19 (by kernel_rfl) (by kernel_rfl) ?_
          simp only [List.take_succ_cons, List.take_zero, List.drop_succ_cons, List.drop_zero]
          repeat still_step
          refine wpStill_nil ?_
          change wpList _ _ _ _ _ wr.drew
          clear y1 y2 y3 y4 y5 y6 hsh hw1
          go_wp2
          go_roundg (gk - 1)
          case measure => have := HKM.out; omega
          case rel => exact RvRel.step HKM.out hlt hR HRL2.out hRW hs4 hk1 hUW' HVR.out hU5 hQ5 hbw5 hsz5 hgu5 hgq5 HT.out rfl (by rw [← HD.out]; rfl) ⟨1, rfl⟩
        · obtain rfl : k = nb := by have := HKM.out; omega
          have HR : Hid (wval B32 R = a % b) := by
            show _ = _
            have h1 := HVR.out
            have hul := HUL'.out
            have h2 : wval B32 (U'.drop (0 + k)) = 0 := wval_drop_zero (n := k) (by rw [List.drop_zero]; exact HRL.out) (by omega)
            rw [Nat.zero_add] at h2
            have h3 := wval_split B32 k U' (by omega)
            rw [h2, Nat.mul_zero, Nat.add_zero, HREM.out] at h3
            have h4 : U'.getD k 0 = 0 := by
              have h5 := wval_drop (B := B32) (l := U') (i := k) (by omega)
              rw [h2] at h5
              have h6 : U'.getD k 0 = U'[k]'(by omega) := by simp [List.getD, show k < U'.length by omega]
              rw [h6]
              omega
            rw [List.take_of_length_le (by rw [HRL2.out]; omega), ← h3, h4, Nat.zero_mod, Nat.mul_zero, Nat.add_zero] at h1
            have hp := Nat.two_pow_pos s
            have h7 := congrArg (· / 2 ^ s) h1
            simp only [Nat.mul_div_cancel _ hp] at h7
            rw [Nat.add_comm, Nat.add_mul_div_left _ _ hp, Nat.div_eq_of_lt (Nat.mod_lt _ hp), Nat.zero_add] at h7
            exact h7
          have hql := HQL.out
          have hrl := HRL2.out
          go_wp2_with fail
          rw [← hql]
          with_reducible refine (trim_n _ _ Q _ wr (by omega) (Nat.le_refl _) (by have := hQ5.rd Q.length; rwa [List.take_length] at this) hQW (Below.refl _ _) HQUO.out).mono ?_
          rintro e w7 ⟨A7, c7, rfl, hn7, hb7⟩
          clear hql
          have hR7 := hR.below hb7
          go_wp2_with fail
          rw [← hrl]
          with_reducible refine (trim_n _ _ R _ w7 (by omega) (Nat.le_refl _) (by have := hR7.rd R.length; rwa [List.take_length] at this) hRW (Below.refl _ _) HR.out).mono ?_
          rintro e w8 ⟨A8, c8, rfl, hn8, hb8⟩
          clear hrl
          go_wp2
          go_ret2
          exact ⟨A7, c7, A8, c8, rfl, hn7.below hb8, hn8, below_trans (below_trans hbw5 hb7) hb8⟩
    · obtain ⟨j, rfl⟩ : ∃ j, gk = j + 1 := ⟨gk - 1, by omega⟩
      obtain rfl : zz = (j : Int) := by omega
      clear hzz
      have hj : j + nb ≤ na := by omega
      obtain ⟨hw1, hw2, hw3, hw4⟩ := window (n := nb) (v := v) HUL'.out HUL.out (by omega) HTK.out HRM.out HD1.out HD2 hUW'
      obtain ⟨X, hX⟩ : ∃ X, X = (U'.drop j).take (nb + 1) := ⟨_, rfl⟩
      rw [← hX] at hw1
      have hst := step_n gu j (na + 1 - j) (nb + 1) nb (some ⟨gv, 0, none⟩) U' Vn X wr.drew (by omega) (show ArrU wr.drew gu U' from hU') (by rw [HUL'.out]; omega) hX hUW' (by rw [HVN.out]; exact (show ArrU wr.drew gv V from hV').rd nb) hVnW HVNL.out (by omega) HD4.out (by rw [HD3.out, hw1]; exact hw2)
      rw [HD3.out, hw1] at hst
      have HST := Lib.hid hst
      have HW2 := Lib.hid hw2
      have HW3 := Lib.hid hw3
      have HW4 := Lib.hid hw4
      have hjq : j < Q.length := by rw [HQL.out]; omega
      have hc1 := hQ.cell j hjq
      have hf1 := hQ.frozen j
      clear hst hw1 hw2 hw3 hw4 hX
      go_wp2
      have hs1 : IntKind.i64.wrap ((j : Int) + (nb : Int)) = (j : Int) + (nb : Int) := IntWalk.i64_in _ (by omega)
      have hs2 : IntKind.i64.wrap ((j : Int) + (nb : Int) + 1) = (j : Int) + (nb : Int) + 1 := IntWalk.i64_in _ (by omega)
      have hji : (j : Int) < ((na - nb + 1 : Nat) : Int) := by omega
      have hji2 : (j : Int) < ((na - nb : Nat) : Int) + 1 := by omega
      have hji3 : (0 : Int) ≤ (j : Int) := by omega
      have hcw := cutW gu j nb (na + 1) (by omega)
      have hcv := cutV (some ⟨gv, 0, none⟩) nb (nb + 1) (by omega)
      go_region_held3 (fun _ => True) (trivial)
        (first
          | ((go_at_call 215; (with_reducible refine HST.out.mono ?_); rintro e w6 ⟨rfl, W, hWl, hWW, hWv, hU6, hg6⟩; have hQ6 : ArrU w6 gq Q := (hg6.block gq hQ.lt (fun e => by injection e; omega)).trans hQ; have hc6 := hQ6.cell j hjq; have hf6 := hQ6.frozen j)))
      have hbw6 : Below w.heap.size w w6 := ⟨hg6.os.trans hbw.os, hg6.tape.trans hbw.tape, hg6.output.trans hbw.output, Nat.le_trans hbw.size hg6.size, fun i hi => (hg6.block i (Nat.lt_of_lt_of_le hi hbw.size) (fun e => by injection e; omega)).trans (hbw.block i hi)⟩
      have hV6 : ArrU w6 gv V := (hg6.block gv hV'.lt (fun e => by injection e; omega)).trans hV'
      clear hs1 hs2 hcw hcv hji hji2 hji3 hc1 hf1 hc6 hf6 hg6
      go_wp2
      go_roundg j
      case measure => omega
      case rel =>
        clear HST
        have hy := Nat.div_add_mod' (wval B32 (U.drop (j + 1))) v
        have hn := div_next (B := B32) (v := v) (x := U[j]'(by have := HUL.out; omega)) (r := wval B32 (U.drop (j + 1)) % v) HD2 (wval B32 (U.drop (j + 1)) / v)
        rw [hy] at hn
        have hUj : wval B32 (U.drop j) = U[j]'(by have := HUL.out; omega) + B32 * wval B32 (U.drop (j + 1)) := wval_drop (by have := HUL.out; omega)
        rw [← hUj, ← HW4.out] at hn
        have hul := HUL'.out
        have hql := HQL.out
        have htk : (U'.take j).length = j := by rw [List.length_take]; omega
        refine ⟨U'.take j ++ W ++ U'.drop (j + (nb + 1)), Q.set j (wval B32 (U'.drop j) / v), _, rfl, rfl, by omega, hU6.far (show gu ≠ gq by omega) _, ?_, ((hUW'.take j).append hWW).append (hUW'.drop _), hV6.far (show gv ≠ gq by omega) _, hQ6.set j _, by simpa using hql, hQW.set (quot_lt HW2.out) j, ?_, ?_, ?_, hbw6.setCell (show w.heap.size ≤ gq by omega) _⟩
        · rw [List.length_append, List.length_append, htk, hWl, List.length_drop]; omega
        · rw [List.append_assoc, List.take_append_of_le_length (by omega), List.take_take, Nat.min_self]
          have h1 := congrArg (List.take j) HTK.out
          rwa [List.take_take, List.take_take, Nat.min_eq_left (by omega)] at h1
        · rw [wval_window (by omega) hWl HW3.out, hWv, hn.2]
        · rw [drop_set_pred Q j _ hjq, wval, HQT.out, hn.1, Nat.add_comm]
theorem Div_c (A A2 : Option Addr) (c c2 a b : Nat) (w : World) (h : Nt w A c a) (h2 : Nt w A2 c2 b) (hn : (words B32 a).length ≤ 400000) (hb : 0 < b) :
    Calls Tryz.prog 196 #[ntV A c a, ntV A2 c2 b] w (GivesNN (a / b) (a % b) w) := by
  rcases Nat.lt_or_ge a b with hlt | hge
  · exact Div_lt A A2 c c2 a b w h h2 hn hlt
  · by_cases h3 : (words B32 a).length ≤ 2
    · exact Div_small A A2 c c2 a b w h h2 h3 hge hb
    · have h4 : (words B32 b).length ≠ 0 := fun e => by
        have := (words_nil B32_gt (n := b)).1 (List.eq_nil_of_length_eq_zero e)
        omega
      by_cases h5 : (words B32 b).length = 1
      · exact Div_word A A2 c c2 a b w h h2 hn (by omega) h5 hge
      · exact Div_long A A2 c c2 a b w h h2 hn (by omega) (by omega) hge
end Go.Proofs.YtlcfgejaeecclaaGreatDoor
