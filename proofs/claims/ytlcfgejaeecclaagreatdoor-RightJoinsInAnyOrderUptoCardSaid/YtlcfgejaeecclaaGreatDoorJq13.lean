/- Package num: divWord and left. Package num: a digit of a quotient (step). -/
import Derived.Test.YtlcfgejaeecclaaGreatDoorJq12
import Derived.Laws.CopyOwn
import Derived.Deep.DeepCutAuto
namespace Go.Proofs.YtlcfgejaeecclaaGreatDoor
open Go.RowKit Dw

/-- A call that answers two numbers. -/
def GivesNN (q r : Nat) (w : World) (e : Ending) (w' : World) : Prop :=
  ∃ A c A2 c2, e = .returned (.tuple #[ntV A c q, ntV A2 c2 r]) ∧ Nt w' A c q ∧ Nt w' A2 c2 r ∧ Below w.heap.size w w'
def DwRel (w : World) (g : Nat) (l : List Nat) (b : Nat) (m : Nat) (rv iv : Value) (wr : World) : Prop :=
  ∃ (rr : Nat) (Q : List Nat) (z : Int), m ≤ l.length ∧ z = (m : Int) - 1 ∧ iv = .int .i64 z ∧ rv = .int .u64 (rr : Int) ∧ rr < b ∧ ArrU wr g Q ∧ Q.length = l.length ∧ WLt B32 Q ∧
    wval B32 (l.drop m) = wval B32 (Q.drop m) * b + rr ∧ Below w.heap.size w wr ∧ w.heap.size ≤ g
theorem DwRel.step {w wr : World} {g : Nat} {l Q : List Nat} {j b rr X : Nat} (hj : j < l.length) (hrr : rr < b) (hA : ArrU wr g Q) (hQ : Q.length = l.length) (hLt : WLt B32 Q) (hb : b ≤ 4294967295)
    (hV : wval B32 (l.drop (j + 1)) = wval B32 (Q.drop (j + 1)) * b + rr) (hbw : Below w.heap.size w wr) (hwg : w.heap.size ≤ g) (hX : X = l[j] + 4294967296 * rr) (hl : l[j] < 4294967296)
    {rv iv mv : Value} (hi : iv = .int .i64 ((j : Int) - 1)) (hr : rv = .int .u64 ((X % b : Nat) : Int)) (hm : mv = .int .u32 ((X / b : Nat) : Int)) : DwRel w g l b j rv iv (wr.setCell ⟨g, j, none⟩ mv) := by
  subst hi hr hm
  have hq : X / b < B32 := quot_lt (B := B32) (by rw [hX]; exact next_lt (B := B32) hrr hl)
  refine ⟨X % b, Q.set j (X / b), _, by omega, rfl, rfl, rfl, Nat.mod_lt _ (by omega), hA.set j _, by simpa using hQ, hLt.set hq j, ?_, hbw.setCell hwg _, hwg⟩
  rw [drop_set_pred Q j _ (by omega), wval, wval_drop hj, hV]
  have h1 := Nat.div_add_mod X b
  have h2 : B32 * (wval B32 (Q.drop (j + 1)) * b + rr) = B32 * wval B32 (Q.drop (j + 1)) * b + 4294967296 * rr := by rw [Nat.mul_add, Nat.mul_assoc]; rfl
  rw [h2, Nat.add_mul, Nat.mul_comm (X / b)]
  omega
set_option maxRecDepth 100000 in
set_option maxHeartbeats 1000000 in
theorem divWord_c (A : Option Addr) (c a b : Nat) (w : World) (h : Nt w A c a) (hn : (words B32 a).length ≤ 900000) (hb1 : 1 ≤ b) (hb2 : b ≤ 4294967295) :
    Calls Tryz.prog 212 #[ntV A c a, .int .u64 (b : Int)] w (GivesNN (a / b) (a % b) w) := by
  have hmk : ∀ w : World, (Instr.makeSlice 171 (.int .i64 ((words B32 a).length : Int)) (.int .i64 ((words B32 a).length : Int))).run Tryz.prog w =
      .ok (.slice (some ⟨w.heap.size, 0, none⟩) (words B32 a).length (words B32 a).length) (w.alloc (.cells (Array.replicate (words B32 a).length (.int .u32 0)) 156)) := mk_nat _ (by omega)
  unfold ntV
  have hl := words_lt B32_gt a
  have HVA := Lib.hid (wval_words B32_gt a)
  obtain ⟨h, hcap⟩ := h
  generalize words B32 a = l at *
  go_enter Tryz.func212, Tryz.ntmps212
  go_wp2
  clear hmk
  have hnew := ArrU.new w l.length
  have hbel : Below w.heap.size w (w.alloc (.cells (Array.replicate l.length (.int .u32 0)) 156)) := (Below.refl _ _).alloc (Nat.le_refl _) _
  obtain ⟨g, hg⟩ : ∃ g, g = w.heap.size := ⟨_, rfl⟩
  rw [← hg] at hnew
  obtain ⟨w1, hw1⟩ : ∃ w1, w1 = w.alloc (.cells (Array.replicate l.length (.int .u32 0)) 156) := ⟨_, rfl⟩
  rw [← hw1] at hnew hbel
  rw [← hg, ← hw1]
  have HG := Lib.hid hg
  have HB := Lib.hid hbel
  clear hg hbel hw1
  go_loopg [7, 8] l.length (DwRel w g l b)
  case atStart => exact ⟨0, List.replicate l.length 0, _, Nat.le_refl _, rfl, rfl, rfl, by omega, hnew, by simp, WLt.zeros B32_pos _, by rw [List.drop_of_length_le (Nat.le_refl _), List.drop_of_length_le (by simp)]; simp [wval], HB.out, by rw [HG.out]; exact Nat.le_refl _⟩
  case round =>
    obtain ⟨rr, Q, z, hm, hz, rfl, rfl, hrr, hA, hQ, hLt, hV, hbw, hwg⟩ := hrel
    have HV := Lib.hid hV
    have HQ := Lib.hid hQ
    clear hV hQ
    rcases Nat.eq_zero_or_pos gk with h0 | h0
    · subst h0
      obtain rfl : z = -1 := hz
      have HT : Hid (wval B32 Q = a / b ∧ rr = a % b) := by
        have h1 := HV.out
        rw [List.drop_zero, List.drop_zero, HVA.out] at h1
        have h2 := Nat.div_mod_unique (a := a) (b := b) (c := rr) (d := wval B32 Q) (by omega)
        have h3 := h2.2 ⟨by rw [h1, Nat.mul_comm b]; omega, hrr⟩
        exact ⟨h3.1.symm, h3.2.symm⟩
      go_wp2_with fail
      have hq2 := HQ.out
      rw [← hq2]
      with_reducible refine (trim_n _ _ Q _ w (by omega) (Nat.le_refl _) (by have := hA.rd Q.length; rwa [List.take_length] at this) hLt hbw HT.out.1).mono ?_
      rintro e w' ⟨A1, c1, rfl, hn1, hb1'⟩
      clear hq2
      go_wp2_with fail
      have hnat := natOf_c rr w' (by omega)
      rw [HT.out.2] at hnat
      rw [HT.out.2]
      with_reducible refine hnat.mono ?_
      rintro e w'' ⟨A2, c2, rfl, hn2, hb2'⟩
      clear hnat
      go_wp2
      go_ret2
      exact ⟨A1, c1, A2, c2, rfl, hn1.below hb2', hn2, hb1'.trans (hb2'.mono hb1'.size)⟩
    · obtain ⟨j, rfl⟩ : ∃ j, gk = j + 1 := ⟨gk - 1, by omega⟩
      obtain rfl : z = (j : Int) := by omega
      clear hz
      have hj : j < l.length := by omega
      obtain ⟨b1, o1, hA0, hb, hcl⟩ := (h.below hbw).at_ (by omega)
      subst hA0
      have hc0 := hcl j hj
      rw [u32V_eq] at hc0
      have hx : l[j] < 4294967296 := hl.get j hj
      have hjQ : j < Q.length := by have := HQ.out; omega
      have hc1 := hA.cell j hjQ
      have hf1 := hA.frozen j
      clear hcl
      obtain ⟨X, hX⟩ : ∃ X, X = l[j] + 4294967296 * rr := ⟨_, rfl⟩
      have hor : bits .or .u64 ((rr : Int) * 4294967296) (l[j] : Int) = (X : Int) := by rw [or_u64' l[j] rr hx (by omega), hX]; simp
      have hX1 : X ≤ 18446744073709551615 := by omega
      have hq0 : X / b ≤ 4294967295 := by
        have : X / b < B32 := quot_lt (B := B32) (by rw [hX]; exact next_lt (B := B32) hrr hx)
        rw [B32_eq] at this
        omega
      have hq1 : (X : Int) / (b : Int) ≤ 4294967295 := by rw [← Int.natCast_ediv]; omega
      have hq2 : 0 ≤ (X : Int) / (b : Int) := Int.ediv_nonneg (Int.natCast_nonneg X) (Int.natCast_nonneg b)
      have HX := Lib.hid hX
      clear hX hq0
      go_wp2
      go_roundg j
      case measure => omega
      case rel => exact DwRel.step hj hrr hA HQ.out hLt hb2 HV.out hbw hwg HX.out hx rfl rfl rfl

theorem left_nat {x s h : Nat} (hs : s < 32) (hh : h < 2 ^ s) : (h ||| x * 2 ^ s % 4294967296) = h + x * 2 ^ s % 4294967296 ∧ h + x * 2 ^ s % 4294967296 < 4294967296 := by
  have e1 : (4294967296 : Nat) = 2 ^ (32 - s) * 2 ^ s := by rw [← Nat.pow_add, show 32 - s + s = 32 by omega]
  have e2 : x * 2 ^ s % 4294967296 = (x % 2 ^ (32 - s)) * 2 ^ s := by rw [e1, Nat.mul_mod_mul_right]
  have e3 := Nat.two_pow_add_eq_or_of_lt (i := s) (b := h) hh (x % 2 ^ (32 - s))
  have e4 : x % 2 ^ (32 - s) + 1 ≤ 2 ^ (32 - s) := Nat.mod_lt _ (Nat.two_pow_pos _)
  have e5 : (x % 2 ^ (32 - s) + 1) * 2 ^ s ≤ 2 ^ (32 - s) * 2 ^ s := Nat.mul_le_mul_right _ e4
  rw [← e1, Nat.add_mul, Nat.one_mul] at e5
  rw [e2]
  refine ⟨?_, by omega⟩
  rw [Nat.or_comm, Nat.mul_comm, ← e3, Nat.add_comm]
theorem left_or {x s h : Nat} (hs : s < 32) (hh : h < 2 ^ s) : bits .or .u32 (h : Int) (((x * 2 ^ s : Nat) : Int) % 4294967296) = ((h + x * 2 ^ s % 4294967296 : Nat) : Int) := by
  have e : (((x * 2 ^ s : Nat) : Int) % 4294967296) = ((x * 2 ^ s % 4294967296 : Nat) : Int) := rfl
  obtain ⟨h1, h2⟩ := left_nat (x := x) hs hh
  rw [e, u32_or_nat _ _ (by omega) (by omega), h1]
def LfRel (w : World) (g : Nat) (l : List Nat) (D : Nat) (m : Nat) (iv : Value) (wr : World) : Prop :=
  ∃ (k : Nat) (L : List Nat), k + m = l.length ∧ iv = .int .i64 k ∧ ArrU wr g L ∧ L.length = l.length + 1 ∧ WLt B32 L ∧ wval B32 L = wval B32 (l.take k) * D ∧ (∀ x (h : x < L.length), k + 1 ≤ x → L[x] = 0) ∧
    (∀ h : k < L.length, L[k] < D) ∧ Below w.heap.size w wr ∧ w.heap.size ≤ g
/-- A call that answers a block of words of its own. -/
def GivesBlk (n v : Nat) (w : World) (e : Ending) (w' : World) : Prop :=
  ∃ g L, e = .returned (.slice (some ⟨g, 0, none⟩) n n) ∧ ArrU w' g L ∧ L.length = n ∧ WLt B32 L ∧ wval B32 L = v ∧ Below w.heap.size w w' ∧ w.heap.size ≤ g
set_option maxRecDepth 100000 in
set_option maxHeartbeats 1000000 in
theorem left_l (A : Option Addr) (c s : Nat) (l : List Nat) (w : World) (h : Wds w A l) (hl : WLt B32 l) (hn : l.length ≤ 900000) (hs : s < 32) :
    Calls Tryz.prog 214 #[.slice A l.length c, .int .u64 (s : Int)] w (GivesBlk (l.length + 1) (wval B32 l * 2 ^ s) w) := by
  have hmk : ∀ w : World, (Instr.makeSlice 171 (.int .i64 ((l.length : Int) + 1)) (.int .i64 ((l.length : Int) + 1))).run Tryz.prog w =
      .ok (.slice (some ⟨w.heap.size, 0, none⟩) (l.length + 1) (l.length + 1)) (w.alloc (.cells (Array.replicate (l.length + 1) (.int .u32 0)) 156)) := mk_nat (l.length + 1) (by omega)
  go_enter Tryz.func214, Tryz.ntmps214
  go_wp2
  clear hmk
  have hnew := ArrU.new w (l.length + 1)
  have hbel : Below w.heap.size w (w.alloc (.cells (Array.replicate (l.length + 1) (.int .u32 0)) 156)) := (Below.refl _ _).alloc (Nat.le_refl _) _
  obtain ⟨g, hg⟩ : ∃ g, g = w.heap.size := ⟨_, rfl⟩
  rw [← hg] at hnew
  obtain ⟨w1, hw1⟩ : ∃ w1, w1 = w.alloc (.cells (Array.replicate (l.length + 1) (.int .u32 0)) 156) := ⟨_, rfl⟩
  rw [← hw1] at hnew hbel
  rw [← hg, ← hw1]
  have HG := Lib.hid hg
  have HB := Lib.hid hbel
  clear hg hbel hw1
  obtain ⟨D, hD⟩ : ∃ D, D = 2 ^ s := ⟨_, rfl⟩
  have hD1 : 1 ≤ D := by rw [hD]; exact Nat.two_pow_pos s
  have HD := Lib.hid hD
  clear hD
  go_loopg [15] l.length (LfRel w g l D)
  case atStart => exact ⟨0, List.replicate (l.length + 1) 0, by omega, rfl, hnew, by simp, WLt.zeros B32_pos _, by rw [wval_zeros]; simp [wval], fun x hx _ => by simp, fun hx => by simp; omega, HB.out, by rw [HG.out]; exact Nat.le_refl _⟩
  case round =>
    obtain ⟨k, L, hkm, rfl, hA, hL, hLt, hV, hZ, hT, hbw, hwg⟩ := hrel
    have HM := Lib.hid hkm
    have HV := Lib.hid hV
    have HZ := Lib.hid hZ
    have HL := Lib.hid hL
    have HT := Lib.hid hT
    clear hkm hV hZ hL hT
    by_cases hlt : k < l.length
    · have hkL : k < L.length := by have := HL.out; omega
      have hkL1 : k + 1 < L.length := by have := HL.out; omega
      obtain ⟨b, o, hA0, hb, hcl⟩ := (h.below hbw).at_ (by omega)
      subst hA0
      have hc0 := hcl k hlt
      rw [u32V_eq] at hc0
      have hx : l[k] < 4294967296 := hl.get k hlt
      have hc1 := hA.cell k hkL
      have hf1 := hA.frozen k
      have hc2 := hA.cell (k + 1) hkL1
      have hf2 := hA.frozen (k + 1)
      clear hcl
      have hh : L[k] < 2 ^ s := by have := HT.out hkL; rwa [HD.out] at this
      have hDB : D ≤ 2147483648 := by
        rw [HD.out]
        exact Nat.le_trans (Nat.pow_le_pow_right (by omega) (show s ≤ 31 by omega)) (by decide)
      obtain ⟨y, hy⟩ : ∃ y, y = l[k] * 2 ^ s := ⟨_, rfl⟩
      have hyB : y < 4294967296 * D := by rw [hy, HD.out]; exact Nat.mul_lt_mul_of_pos_right hx (Nat.two_pow_pos s)
      have hy2 : y ≤ 9223372036854775807 := by omega
      have hwr : IntKind.u64.wrap ((l[k] : Int) * 2 ^ s) = (y : Int) := by
        have e : (l[k] : Int) * 2 ^ s = (y : Int) := by rw [hy, Int.natCast_mul, Int.natCast_pow]; rfl
        rw [e]
        exact IntWalk.u64_in _ (by omega)
      obtain ⟨z, hz⟩ : ∃ z, z = L[k] + y % 4294967296 := ⟨_, rfl⟩
      have hor : bits .or .u32 (L[k] : Int) ((y : Int) % 4294967296) = (z : Int) := by rw [hz, hy]; exact left_or hs hh
      have hzB : z < 4294967296 := by rw [hz, hy]; exact (left_nat hs hh).2
      have HY := Lib.hid hy
      have HZ2 := Lib.hid hz
      have HH := Lib.hid hh
      have HYB := Lib.hid hyB
      clear hy hz hh hyB hDB
      go_wp2
      go_roundg (gk - 1)
      case measure => have := HM.out; omega
      case rel =>
        clear hor hwr
        refine ⟨k + 1, (L.set k z).set (k + 1) (y / 4294967296), by have := HM.out; omega, by go_num, (hA.set k z).set (k + 1) _, by simpa using HL.out, (hLt.set (by rw [B32_eq]; omega) k).set (by rw [B32_eq]; omega) _, ?_, fun i hi hki => ?_, fun hi => ?_, (hbw.setCell hwg _).setCell hwg _, hwg⟩
        · have e1 := wval_set B32 L k z hkL
          have e2 := wval_set B32 (L.set k z) (k + 1) (y / 4294967296) (by simpa using hkL1)
          rw [List.getElem_set_ne (by omega), HZ.out (k + 1) hkL1 (Nat.le_refl _)] at e2
          rw [wval_take hlt, Nat.add_mul, ← HV.out]
          have e3 : B32 ^ k * (y % 4294967296) + B32 ^ (k + 1) * (y / 4294967296) = B32 ^ k * y := by
            rw [Nat.pow_succ, Nat.mul_assoc, ← Nat.mul_add, B32_eq, Nat.mod_add_div]
          have e4 : B32 ^ k * l[k] * D = B32 ^ k * y := by rw [Nat.mul_assoc, HY.out, HD.out]
          have e5 : B32 ^ k * z = B32 ^ k * L[k] + B32 ^ k * (y % 4294967296) := by rw [HZ2.out, Nat.mul_add]
          rw [e4]
          omega
        · rw [List.getElem_set_ne (by omega), List.getElem_set_ne (by omega)]
          exact HZ.out i (by simpa using hi) (by omega)
        · have h1 := HYB.out
          simp
          omega
    · obtain rfl : k = l.length := by have := HM.out; omega
      have hVV := HV.out
      rw [List.take_of_length_le (Nat.le_refl _), HD.out] at hVV
      have HVV := Lib.hid hVV
      clear hVV
      go_wp2
      go_ret
      exact ⟨g, L, rfl, hA, HL.out, hLt, HVV.out, hbw, hwg⟩
end Go.Proofs.YtlcfgejaeecclaaGreatDoor

namespace Go.Proofs.YtlcfgejaeecclaaGreatDoor
open Go.RowKit Dw

theorem infoU32 : (Tryz.prog.info? 156).map (·.size) = some 1 := by kernel_rfl
/-- copy over words of a block. -/
theorem wpList_copyU {ops : Array Oper} {rest : List Oper} {o : Oper} {a : Act} {w : World} {Q : Exit → Act → World → Prop} (d s : Operand) (hgd : o.guard = none) (ho : o.op = .call { callee := .builtin .copy, args := #[d, s], argTypes := #[171, 171] })
    (g j n cd cs g2 : Nat) (U W : List Nat) (hd : a.eval d = .slice (some ⟨g, j, none⟩) n cd) (hs : a.eval s = .slice (some ⟨g2, 0, none⟩) n cs) (hA : ArrU w g U) (hA2 : ArrU w g2 W) (hn : W.length = n) (hj : j + n ≤ U.length)
    (h : ∀ w', ArrU w' g (U.take j ++ W ++ U.drop (j + n)) → w.grownBy w' (some g) → wpList Tryz.prog ops Q rest (a.put o.dst (goInt n)) w') : wpList Tryz.prog ops Q (o :: rest) a w := by
  subst hn
  refine wpList_copy_own hgd d s _ _ ho 156 Tryz.underlying171 infoU32 g j W.length cd ⟨g2, 0, none⟩ W.length cs hd hs (U.map u32V).toArray 156 hA (W.map u32V) (by simp) ?_ (by simpa using hj) (by simp [u32V, Value.oneCell']) ?_
  · intro i v hv
    have hi : i < W.length := by
      have := (List.getElem?_eq_some_iff.1 hv).1
      simpa using this
    have := hA2.cell i hi
    have e : (⟨g2, 0, none⟩ : Addr).add i = ⟨g2, i, none⟩ := by simp [Addr.add]; exact fun h => h.symm
    rw [e, this, ← hv]
    simp [hi, u32V]
  · have hl : (W.map u32V).length = W.length := List.length_map _
    rw [hl]
    refine h _ ?_ ⟨rfl, rfl, rfl, by simp, fun k _ hk => setRow_other w g k _ (fun e => hk (by rw [e]))⟩
    unfold ArrU
    rw [setRow_heap w g _ _ _ _ hA]
    simp
/-- What step leaves: the digit, and the rest in place of the window. -/
def GivesSt (g j n q r : Nat) (U : List Nat) (w : World) (e : Ending) (w' : World) : Prop :=
  e = .returned (.int .u32 (q : Int)) ∧ ∃ W : List Nat, W.length = n ∧ WLt B32 W ∧ wval B32 W = r ∧ ArrU w' g (U.take j ++ W ++ U.drop (j + n)) ∧ w.grownBy w' (some g)
/-- The guesses of step. -/
def StRel (w : World) (x v : Nat) (m : Nat) (qv : Value) (wr : World) : Prop :=
  qv = .int .u64 (m : Int) ∧ m ≤ 4294967295 ∧ x / v ≤ m ∧ Below w.heap.size w wr
def StRel2 (w : World) (g2 : Nat) (X V : List Nat) (n q : Nat) (m : Nat) (bv cv iv : Value) (wr : World) : Prop :=
  ∃ (i bo cy : Nat) (W : List Nat), i + m = n + 1 ∧ iv = .int .i64 i ∧ bv = .int .u64 (bo : Int) ∧ cv = .int .u64 (cy : Int) ∧ bo ≤ 1 ∧ cy ≤ 4294967295 ∧ (i = n + 1 → cy = 0) ∧ ArrU wr g2 W ∧ W.length = n + 1 ∧ WLt B32 W ∧
    (wval B32 (W.take i) : Int) = (wval B32 (X.take i) : Int) - (q : Int) * (wval B32 (V.take i) : Int) + (B32 : Int) ^ i * ((cy : Int) + (bo : Int)) ∧ Below w.heap.size w wr ∧ w.heap.size ≤ g2
theorem and_mask (C : Nat) (h : C < 18446744073709551616) : bits .and .u64 (C : Int) 4294967295 = ((C % 4294967296 : Nat) : Int) := by
  have e : (4294967295 : Int) = ((4294967295 : Nat) : Int) := rfl
  rw [e, u64_and_nat C 4294967295 h (by omega), show (4294967295 : Nat) = 2 ^ 32 - 1 from rfl, Nat.and_two_pow_sub_one_eq_mod]
theorem wrap_nat (x : Int) : ∃ t : Nat, IntKind.u64.wrap x = (t : Int) ∧ (t : Int) = x % 18446744073709551616 := by
  refine ⟨(x % 18446744073709551616).toNat, ?_, ?_⟩
  · rw [IntKind.wrap_u64, Int.toNat_of_nonneg (by omega)]
  · rw [Int.toNat_of_nonneg (by omega)]
theorem StRel2.step {w wr : World} {g2 : Nat} {X V W : List Nat} {n q i bo cy gk u v C t1 t : Nat} (him : i + gk = n + 1) (hi : i < n + 1) (hA : ArrU wr g2 W) (hW : W.length = n + 1) (hLt : WLt B32 W) (hbo : bo ≤ 1)
    (hV : (wval B32 (W.take i) : Int) = (wval B32 (X.take i) : Int) - (q : Int) * (wval B32 (V.take i) : Int) + (B32 : Int) ^ i * ((cy : Int) + (bo : Int))) (hbw : Below w.heap.size w wr) (hwg : w.heap.size ≤ g2)
    (hX : wval B32 (X.take (i + 1)) = wval B32 (X.take i) + B32 ^ i * u) (hVv : wval B32 (V.take (i + 1)) = wval B32 (V.take i) + B32 ^ i * v) (hu : u < 4294967296) (hC : C = cy + q * v) (hC2 : C ≤ 18446744069414584320) (hlast : i = n → C ≤ 4294967295)
    (h1 : (t1 : Int) = ((u : Int) - ((C % 4294967296 : Nat) : Int)) % 18446744073709551616) (h2 : (t : Int) = ((t1 : Int) - (bo : Int)) % 18446744073709551616)
    {bv cv iv mv : Value} (hb : bv = .int .u64 ((t / 9223372036854775808 : Nat) : Int)) (hc : cv = .int .u64 ((C / 4294967296 : Nat) : Int)) (hiv : iv = .int .i64 ((i : Int) + 1)) (hm : mv = .int .u32 ((t % 4294967296 : Nat) : Int)) :
    StRel2 w g2 X V n q (gk - 1) bv cv iv (wr.setCell ⟨g2, i, none⟩ mv) := by
  subst hb hc hiv hm
  have hlo := Nat.mod_lt C (show 0 < 4294967296 by decide)
  have hhi : C / 4294967296 ≤ 4294967295 := by omega
  have key : ((t % 4294967296 : Nat) : Int) = (u : Int) - ((C % 4294967296 : Nat) : Int) - (bo : Int) + 4294967296 * ((t / 9223372036854775808 : Nat) : Int) := by omega
  refine ⟨i + 1, t / 9223372036854775808, C / 4294967296, W.set i (t % 4294967296), by omega, by go_num, rfl, rfl, by omega, hhi, fun e => by have := hlast (by omega); omega, hA.set i _, by simpa using hW, hLt.set (modB t) i, ?_, hbw.setCell hwg _, hwg⟩
  rw [wval_put (by omega), hX, hVv]
  have hCI : (cy : Int) + (q : Int) * (v : Int) = ((C % 4294967296 : Nat) : Int) + (B32 : Int) * ((C / 4294967296 : Nat) : Int) := by
    have e : (B32 : Int) = 4294967296 := rfl
    have e2 : (q : Int) * (v : Int) = ((q * v : Nat) : Int) := (Int.natCast_mul q v).symm
    rw [e, e2]
    generalize q * v = p at *
    omega
  have := step_col (B := B32) hV hCI (w := ((t % 4294967296 : Nat) : Int)) (u := (u : Int)) (b' := ((t / 9223372036854775808 : Nat) : Int)) key
  simp only [Int.natCast_add, Int.natCast_mul, Int.natCast_pow] at this ⊢
  exact this
set_option maxRecDepth 100000 in
set_option maxHeartbeats 2000000 in
theorem step_c (g j cu cv m : Nat) (A2 : Option Addr) (U V X : List Nat) (w : World) (hA : ArrU w g U) (hj : j + (m + 2) ≤ U.length) (hX : X = (U.drop j).take (m + 2)) (hU : WLt B32 U) (h2 : Wds w A2 V) (hV : WLt B32 V) (hVn : V.length = m + 1) (hm : m ≤ 900000)
    (hv1 : ∀ h : m < V.length, 0 < V[m]) (hlt : wval B32 X < wval B32 V * B32) :
    Calls Tryz.prog 215 #[.slice (some ⟨g, j, none⟩) (m + 2) cu, .slice A2 (m + 1) cv] w (GivesSt g j (m + 2) (wval B32 X / wval B32 V) (wval B32 X % wval B32 V) U w) := by
  have hXl : X.length = m + 2 := by rw [hX, List.length_take, List.length_drop]; omega
  have hXW : WLt B32 X := by rw [hX]; exact (hU.drop j).take _
  have hXr : Wds w (some ⟨g, j, none⟩) X := fun _ => ⟨g, j, rfl, fun i hi => by
    rw [hA.cell (j + i) (by omega)]
    rw [List.getElem_of_eq hX hi, List.getElem_take, List.getElem_drop]; rfl⟩
  obtain ⟨b2, o2, hA2, hb2, hcl2⟩ := h2.at_ (by omega)
  subst hA2
  obtain ⟨y1, ey1⟩ : ∃ y1, V[m]'(by omega) = y1 := ⟨_, rfl⟩
  obtain ⟨x1, ex1⟩ : ∃ x1, X[m]'(by omega) = x1 := ⟨_, rfl⟩
  obtain ⟨x0, ex0⟩ : ∃ x0, X[m + 1]'(by omega) = x0 := ⟨_, rfl⟩
  have cv1 := hcl2 m (by omega)
  have cu1 := hA.cell (j + m) (by omega)
  have cu0 := hA.cell (j + (m + 1)) (by omega)
  have eu1 : U[j + m] = X[m] := by rw [List.getElem_of_eq hX, List.getElem_take, List.getElem_drop]
  have eu0 : U[j + (m + 1)] = X[m + 1] := by rw [List.getElem_of_eq hX, List.getElem_take, List.getElem_drop]
  rw [eu1, ex1] at cu1
  rw [eu0, ex0] at cu0
  rw [u32V_eq, ey1] at cv1
  have hy1 : y1 < 4294967296 := by rw [← ey1]; exact hV.get m (by omega)
  have hy0 : 0 < y1 := by rw [← ey1]; exact hv1 (by omega)
  have hx1 : x1 < 4294967296 := by rw [← ex1]; exact hXW.get m (by omega)
  have hx0 : x0 < 4294967296 := by rw [← ex0]; exact hXW.get (m + 1) (by omega)
  obtain ⟨T, hT⟩ : ∃ T, T = x1 + 4294967296 * x0 := ⟨_, rfl⟩
  have hor : bits .or .u64 ((x0 : Int) * 4294967296) (x1 : Int) = (T : Int) := by rw [or_u64' _ _ hx1 hx0, hT]; simp
  have hT1 : T ≤ 18446744073709551615 := by omega
  -- the first guess is not below the digit
  have hval : wval B32 X = wval B32 (X.take m) + B32 ^ m * T := by
    have h1 := wval_take (B := B32) (l := X) (i := m) (by omega)
    have h2 := wval_take (B := B32) (l := X) (i := m + 1) (by omega)
    rw [List.take_of_length_le (by omega), h1, ex1, ex0] at h2
    rw [h2, hT, Nat.mul_add, Nat.pow_succ, Nat.mul_assoc, Nat.add_assoc]; rfl
  have hvv : B32 ^ m * y1 ≤ wval B32 V := by
    have h1 := wval_take (B := B32) (l := V) (i := m) (by omega)
    rw [List.take_of_length_le (by omega), ey1] at h1
    omega
  have htk : wval B32 (X.take m) < B32 ^ m := by
    have := wval_lt (hXW.take m)
    rwa [List.length_take, Nat.min_eq_left (by omega)] at this
  have hguess : wval B32 X / wval B32 V ≤ T / y1 := by
    refine digit_le (B := B32) (n := m) (v := wval B32 V) (u := wval B32 X) (Nat.div_mul_le_self _ _) (by rw [Nat.mul_comm]; exact hvv) ?_ hy0
    rw [hval, Nat.mul_comm (T + 1), Nat.mul_add, Nat.mul_one]
    omega
  have hmax : wval B32 X / wval B32 V ≤ 4294967295 := by
    have : wval B32 X / wval B32 V < B32 := quot_lt hlt
    have e := B32_eq
    omega
  have hTy : x0 < y1 → T / y1 ≤ 4294967295 := fun h => by
    have : T / y1 < B32 := quot_lt (by rw [hT]; exact next_lt (B := B32) h hx1)
    have e := B32_eq
    omega
  have HX := Lib.hid hX
  have HXL := Lib.hid hXl
  have HVL := Lib.hid hVn
  have HG := Lib.hid hguess
  have HM := Lib.hid hmax
  have HTY := Lib.hid hTy
  clear hcl2 eu0 eu1 ex0 ex1 ey1 hX hXl hVn hT hval hvv htk hguess hmax hTy
  go_enter Tryz.func215, Tryz.ntmps215
  go_wp2
  go_quiet (fail)
  go_wp2
  go_quiet (fail)
  go_upto_if 37 with fail
  go_cut [7] (fun qv wx => ∃ q0 : Nat, StRel w (wval B32 X) (wval B32 V) q0 qv wx)
  case first =>
    by_cases hc : x0 < y1
    · have hcb : decide (x0 < y1) = true := decide_eq_true hc
      have ht1 : (T : Int) / (y1 : Int) ≤ 4294967295 := by
        have := HTY.out hc
        rw [← Int.natCast_ediv]; omega
      have ht2 : 0 ≤ (T : Int) / (y1 : Int) := Int.ediv_nonneg (Int.natCast_nonneg _) (Int.natCast_nonneg _)
      have HQ1 : Hid (T / y1 ≤ 4294967295) := HTY.out hc
      rw [hcb]
      clear hc hcb
      go_wp2
      go_meet
      exact ⟨T / y1, rfl, HQ1.out, HG.out, by first | exact below_drewN (Below.refl _ _) _ | exact below_drewN (below_drewN (Below.refl _ _) _) _⟩
    · have hcb : decide (x0 < y1) = false := decide_eq_false hc
      rw [hcb]
      clear hc hcb
      go_wp2
      go_meet
      exact ⟨4294967295, rfl, Nat.le_refl _, HM.out, by first | exact below_drewN (Below.refl _ _) _ | exact below_drewN (below_drewN (Below.refl _ _) _) _⟩
  case rest =>
    obtain ⟨q0, rfl, hq1, hq2, hbwc⟩ := hcut
    have HQ := Lib.hid hq2
    clear hq2 hor hT1 cv1 cu1 cu0
    go_wp2
    go_loopg [7] q0 (StRel w (wval B32 X) (wval B32 V))
    case atStart => exact ⟨rfl, hq1, HQ.out, hbwc⟩
    case round =>
      clear hq1 HQ hbwc
      obtain ⟨rfl, hgk, hge, hbw⟩ := hrel
      have HGE := Lib.hid hge
      clear hge
      have hmk : ∀ w : World, (Instr.makeSlice 171 (.int .i64 ((m : Int) + 1 + 1)) (.int .i64 ((m : Int) + 1 + 1))).run Tryz.prog w =
          .ok (.slice (some ⟨w.heap.size, 0, none⟩) (m + 2) (m + 2)) (w.alloc (.cells (Array.replicate (m + 2) (.int .u32 0)) 156)) := mk_nat (m + 2) (by omega)
      go_wp2
      clear hmk
      have hnew := ArrU.new wr (m + 2)
      have hbel : Below wr.heap.size wr (wr.alloc (.cells (Array.replicate (m + 2) (.int .u32 0)) 156)) := (Below.refl _ _).alloc (Nat.le_refl _) _
      have hszw : w.heap.size ≤ wr.heap.size := hbw.size
      have hbw1 := below_trans hbw hbel
      obtain ⟨g2, hg2⟩ : ∃ g2, g2 = wr.heap.size := ⟨_, rfl⟩
      rw [← hg2] at hnew
      obtain ⟨w1, hw1⟩ : ∃ w1, w1 = wr.alloc (.cells (Array.replicate (m + 2) (.int .u32 0)) 156) := ⟨_, rfl⟩
      rw [← hw1] at hnew hbw1
      rw [← hg2, ← hw1]
      have hwg : w.heap.size ≤ g2 := by rw [hg2]; exact hszw
      have HBW := Lib.hid hbw1
      clear hg2 hbel hw1 hszw hbw hbw1
      obtain ⟨q, hqq⟩ : ∃ q, q = gk := ⟨_, rfl⟩
      subst hqq
      go_loopg [8, 9, 51] (m + 2) (StRel2 w g2 X V (m + 1) q)
      case atStart => exact ⟨0, 0, 0, List.replicate (m + 2) 0, by omega, rfl, rfl, rfl, by omega, by omega, fun _ => rfl, hnew, by simp, WLt.zeros B32_pos _, by simp [wval], HBW.out, hwg⟩
      case round =>
        obtain ⟨i, bo, cy, W, him, rfl, rfl, rfl, hbo, hcy, hlast, hAW, hWl, hWW, hVal, hbw, hwg'⟩ := hrel
        have HIM := Lib.hid him
        have HLA := Lib.hid hlast
        have HWL := Lib.hid hWl
        have HVAL := Lib.hid hVal
        clear him hlast hWl hVal hwg'
        by_cases hi : i < m + 2
        · have hiX : i < X.length := by have := HXL.out; omega
          have hiW : i < W.length := by have := HWL.out; omega
          obtain ⟨b1, o1, hA1, hb1, hcl1⟩ := (hXr.below hbw).at_ (by omega)
          injection hA1 with hA1
          injection hA1 with hA1 hA1'
          subst hA1 hA1'
          have hc0 := hcl1 i hiX
          rw [u32V_eq] at hc0
          have hu : X[i] < 4294967296 := hXW.get i hiX
          have hc1 := hAW.cell i hiW
          have hf1 := hAW.frozen i
          clear hcl1
          by_cases him : i < m + 1
          · have hiV : i < V.length := by have := HVL.out; omega
            obtain ⟨b3, o3, hA3, hb3, hcl3⟩ := (h2.below hbw).at_ (by omega)
            injection hA3 with hA3
            injection hA3 with hA3 hA3'
            subst hA3 hA3'
            have hc3 := hcl3 i hiV
            rw [u32V_eq] at hc3
            have hv : V[i] < 4294967296 := hV.get i hiV
            clear hcl3
            obtain ⟨p, hp⟩ : ∃ p, p = q * V[i] := ⟨_, rfl⟩
            have hpB : p ≤ 18446744065119617025 := by
              have h9 : q * V[i] ≤ 4294967295 * 4294967295 := Nat.mul_le_mul hgk (by omega)
              rw [hp]; omega
            have hpe : (q : Int) * (V[i] : Int) = (p : Int) := by rw [hp]; exact (Int.natCast_mul _ _).symm
            obtain ⟨C, hC⟩ : ∃ C, C = cy + p := ⟨_, rfl⟩
            have hCe : (cy : Int) + (p : Int) = (C : Int) := by rw [hC]; exact (Int.natCast_add _ _).symm
            have hCB : C ≤ 18446744069414584320 := by omega
            obtain ⟨lo, hlo⟩ : ∃ lo, lo = C % 4294967296 := ⟨_, rfl⟩
            have hand : bits .and .u64 (C : Int) 4294967295 = (lo : Int) := by rw [hlo]; exact and_mask C (by omega)
            have hloB : lo < 4294967296 := by omega
            obtain ⟨t1, ht1, ht1'⟩ := wrap_nat ((X[i] : Int) - (lo : Int))
            obtain ⟨t, ht, ht'⟩ := wrap_nat ((t1 : Int) - (bo : Int))
            have htB : t ≤ 18446744073709551615 := by omega
            have ht1B : t1 ≤ 18446744073709551615 := by omega
            have HP := Lib.hid hp
            have HC := Lib.hid hC
            have HLO := Lib.hid hlo
            have HT1 := Lib.hid ht1'
            have HT := Lib.hid ht'
            clear hp hC hlo ht1' ht'
            go_wp2
            go_roundg (gk - 1)
            case measure => have := HIM.out; omega
            case rel => exact StRel2.step HIM.out hi hAW HWL.out hWW hbo HVAL.out hbw hwg (wval_take hiX) (wval_take hiV) hu (by rw [← HP.out]; exact HC.out) hCB (fun e => by omega) (by rw [← HLO.out]; exact HT1.out) HT.out (by simp) (by simp) rfl (by simp)
          · obtain rfl : i = m + 1 := by omega
            have HVT : Hid (wval B32 (V.take (m + 1 + 1)) = wval B32 (V.take (m + 1)) + B32 ^ (m + 1) * 0) := by
              show wval B32 (V.take (m + 1 + 1)) = wval B32 (V.take (m + 1)) + B32 ^ (m + 1) * 0
              rw [List.take_of_length_le (by have := HVL.out; omega), List.take_of_length_le (by have := HVL.out; omega), Nat.mul_zero, Nat.add_zero]
            have hand : bits .and .u64 (cy : Int) 4294967295 = (cy : Int) := by
              rw [and_mask cy (by omega), Nat.mod_eq_of_lt (by omega)]
            obtain ⟨t1, ht1, ht1'⟩ := wrap_nat ((X[m + 1] : Int) - (cy : Int))
            obtain ⟨t, ht, ht'⟩ := wrap_nat ((t1 : Int) - (bo : Int))
            have htB : t ≤ 18446744073709551615 := by omega
            have ht1B : t1 ≤ 18446744073709551615 := by omega
            have HT1 := Lib.hid ht1'
            have HT := Lib.hid ht'
            clear ht1' ht'
            go_wp2
            go_roundg (gk - 1)
            case measure => have := HIM.out; omega
            case rel => exact StRel2.step (C := cy) HIM.out hi hAW HWL.out hWW hbo HVAL.out hbw hwg (wval_take hiX) HVT.out hu (by simp) (by omega) (fun e => hcy) (by rw [Nat.mod_eq_of_lt (by omega)]; exact HT1.out) HT.out (by simp) (by simp) rfl (by simp)
        · obtain rfl : i = m + 2 := by have := HIM.out; omega
          obtain rfl : cy = 0 := HLA.out rfl
          have HW : Hid ((wval B32 W : Int) = (wval B32 X : Int) - (q : Int) * (wval B32 V : Int) + (B32 : Int) ^ (m + 2) * (bo : Int)) := by
            have h1 := HVAL.out
            rw [List.take_of_length_le (by have := HWL.out; omega), List.take_of_length_le (by have := HXL.out; omega), List.take_of_length_le (by have := HVL.out; omega)] at h1
            show _ = _
            simpa using h1
          have HWB : Hid (wval B32 W < B32 ^ (m + 2)) := by
            have := wval_lt hWW
            rwa [HWL.out] at this
          rcases Nat.eq_zero_or_pos bo with hb0 | hb0
          · subst hb0
            have hAU := hA.below hbw
            have hn9 := HWL.out
            go_wp2_with (with_reducible refine wpList_copyU (.tmp 88) (.tmp 89) rfl rfl g j (m + 2) cu (m + 2) g2 U W rfl rfl hAU hAW hn9 hj ?_; intro w9 hA9 hg9)
            clear hn9
            have HQE : Hid (q = wval B32 X / wval B32 V ∧ wval B32 W = wval B32 X % wval B32 V) := by
              have h1 := HW.out
              have hvp : 0 < wval B32 V := by
                rcases Nat.eq_zero_or_pos (wval B32 V) with h | h
                · rw [h, Nat.zero_mul] at hlt
                  exact absurd hlt (Nat.not_lt_zero _)
                · exact h
              have h2 : q * wval B32 V + wval B32 W = wval B32 X := by
                have : ((q * wval B32 V + wval B32 W : Nat) : Int) = ((wval B32 X : Nat) : Int) := by
                  rw [Int.natCast_add, Int.natCast_mul, h1, show ((0 : Nat) : Int) = 0 from rfl, Int.mul_zero]
                  generalize ((q : Int) * ((wval B32 V : Nat) : Int)) = R at *
                  omega
                exact Int.ofNat.inj this
              have h3 : q ≤ wval B32 X / wval B32 V := (Nat.le_div_iff_mul_le hvp).2 (by rw [← h2]; exact Nat.le_add_right _ _)
              have h4 : q = wval B32 X / wval B32 V := Nat.le_antisymm h3 HGE.out
              refine ⟨h4, ?_⟩
              have h5 := Nat.div_add_mod (wval B32 X) (wval B32 V)
              rw [← h4, Nat.mul_comm] at h5
              exact Nat.add_left_cancel (h2.trans h5.symm)
            go_wp2
            go_ret
            refine ⟨by rw [← HQE.out.1]; rfl, W, HWL.out, hWW, HQE.out.2, hA9, ?_⟩
            exact ⟨hg9.os.trans hbw.os, hg9.tape.trans hbw.tape, hg9.output.trans hbw.output, Nat.le_trans hbw.size hg9.size, fun i hi hne => (hg9.block i (Nat.lt_of_lt_of_le hi hbw.size) hne).trans (hbw.block i hi)⟩
          · obtain rfl : bo = 1 := by omega
            have HQ1 : Hid (wval B32 X / wval B32 V < q) := by
              show _ < _
              have h1 := HW.out
              have h2 := HWB.out
              rcases Nat.lt_or_ge (wval B32 X / wval B32 V) q with h | h
              · exact h
              · exfalso
                have h3 : q * wval B32 V ≤ wval B32 X := Nat.le_trans (Nat.mul_le_mul_right _ h) (Nat.div_mul_le_self _ _)
                have h4 : ((wval B32 W : Nat) : Int) < ((B32 ^ (m + 2) : Nat) : Int) := Int.ofNat_lt.2 h2
                rw [Int.natCast_pow] at h4
                have h5 : ((q * wval B32 V : Nat) : Int) ≤ ((wval B32 X : Nat) : Int) := Int.ofNat_le.2 h3
                rw [Int.natCast_mul] at h5
                generalize ((B32 : Int) ^ (m + 2)) = P at *
                generalize ((q : Int) * ((wval B32 V : Nat) : Int)) = R at *
                omega
            have hq1 : 1 ≤ q := Nat.lt_of_le_of_lt (Nat.zero_le _) HQ1.out
            go_wp2
            go_roundg (q - 1)
            case measure => omega
            case rel => exact ⟨by rw [show (((q - 1 : Nat)) : Int) = (q : Int) - 1 by omega], by omega, Nat.le_sub_one_of_lt HQ1.out, hbw⟩
end Go.Proofs.YtlcfgejaeecclaaGreatDoor
