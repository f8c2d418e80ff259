/- Parts of the proof, joined: Package num: small, natOf, One, Cmp. Package num: Add and sub. DERIVED. -/
import Derived.Test.YtlcfgejaeecclaaGreatDoorZq01
import Derived.Laws.BitsAllLaws
import Derived.Ground.NamesProg
import Derived.Shelf.Small.Bits
import Derived.Shelf.Bits.Mul64
set_option maxRecDepth 100000
set_option maxHeartbeats 8000000
namespace Go.Proofs.YtlcfgejaeecclaaGreatDoor
open Go.RowKit Dw
theorem or_u64n (x y : Nat) (hx : x < 4294967296) : y * 4294967296 ||| x = x + 4294967296 * y := by
 have := Nat.two_pow_add_eq_or_of_lt (i := 32) (b := x) (by omega) y
 rw [Nat.mul_comm y, show (4294967296 : Nat) = 2 ^ 32 from rfl, ← this, Nat.add_comm]
theorem or_u64 (x y : Nat) (hx : x < 4294967296) (hy : y < 4294967296) : bits .or .u64 (x : Int) ((y : Int) * 4294967296) = (x : Int) + 4294967296 * (y : Int) := by
 have e : (y : Int) * 4294967296 = ((y * 4294967296 : Nat) : Int) := by rw [Int.natCast_mul]; rfl
 rw [e, u64_or_nat x (y * 4294967296) (by omega) (by omega), Nat.or_comm, or_u64n x y hx]
 omega
theorem or_u64' (x y : Nat) (hx : x < 4294967296) (hy : y < 4294967296) : bits .or .u64 ((y : Int) * 4294967296) (x : Int) = (x : Int) + 4294967296 * (y : Int) := by
 have e : (y : Int) * 4294967296 = ((y * 4294967296 : Nat) : Int) := by rw [Int.natCast_mul]; rfl
 rw [e, u64_or_nat (y * 4294967296) x (by omega) (by omega), or_u64n x y hx]
 omega
theorem small_l (A : Option Addr) (c : Nat) (L : List Nat) (w : World) (h : Wds w A L) (hl : WLt B32 L) (hn : L.length ≤ 1000000) :
  Calls Tryz.prog 197 #[.slice A L.length c] w (GivesD (.tuple #[.int .u64 (if L.length ≤ 2 then ((wval B32 L : Nat) : Int) else 0), .bool (decide (L.length ≤ 2))]) w) := by
 match L, h, hl, hn with
 | [], _, _, _ =>
  go_enter Tryz.func197, Tryz.ntmps197
  go_wp2
  go_ret2
  exact GivesD.mk rfl ⟨0, rfl⟩
 | [x], h, hl, _ =>
  obtain ⟨b, o, rfl, hb, hcl⟩ := h.at_ (by simp)
  have hx := hl.head
  rw [B32_eq] at hx
  have hc0 := hcl 0 (by simp)
  rw [u32V_eq] at hc0
  simp only [List.getElem_cons_zero, Nat.add_zero] at hc0
  clear hcl
  go_enter Tryz.func197, Tryz.ntmps197
  go_wp2
  go_ret2
  exact GivesD.mk (by simp [wval]) ⟨0, rfl⟩
 | [x, y], h, hl, _ =>
  obtain ⟨b, o, rfl, hb, hcl⟩ := h.at_ (by simp)
  have hx := hl.head
  have hy := hl.tail.head
  rw [B32_eq] at hx hy
  have hc0 := hcl 0 (by simp)
  have hc1 := hcl 1 (by simp)
  rw [u32V_eq] at hc0 hc1
  simp only [List.getElem_cons_zero, List.getElem_cons_succ, Nat.add_zero] at hc0 hc1
  clear hcl
  go_enter Tryz.func197, Tryz.ntmps197
  go_wp2
  go_quiet (fail)
  go_wp2
  go_ret2
  refine GivesD.mk ?_ ⟨_, rfl⟩
  simp only [wval]
  simp [or_u64 x y hx hy, B32_eq]
 | x :: y :: z :: l, h, hl, hn =>
  have hk : (x :: y :: z :: l).length = l.length + 3 := rfl
  have e0 : ¬ l.length + 3 ≤ 2 := by omega
  rw [hk] at hn ⊢
  clear hk
  go_enter Tryz.func197, Tryz.ntmps197
  go_wp2
  go_ret2
  exact GivesD.mk rfl ⟨0, rfl⟩
def smV (n : Nat) : Value := .tuple #[.int .u64 (if (words B32 n).length ≤ 2 then (n : Int) else 0), .bool (decide ((words B32 n).length ≤ 2))]
theorem small_c (A : Option Addr) (c n : Nat) (w : World) (h : Nt w A c n) (hn : (words B32 n).length ≤ 1000000) : Calls Tryz.prog 197 #[ntV A c n] w (GivesD (smV n) w) := by
 have := small_l A c (words B32 n) w h.rd (words_lt B32_gt n) hn
 rw [wval_words B32_gt] at this
 exact this
theorem wval2 (n : Nat) (h : n < 18446744073709551616) : wval B32 [n % 4294967296, n / 4294967296] = n ∧ WLt B32 [n % 4294967296, n / 4294967296] := by
 refine ⟨?_, WLt.cons ?_ (WLt.cons ?_ WLt.nil)⟩
 ·simp [wval, B32_eq]; omega
 ·rw [B32_eq]; omega
 ·rw [B32_eq]; omega
theorem wds_new (w : World) (cs : Array Value) (L : List Nat) (h : cs.toList = L.map u32V) : Wds (w.alloc (.cells cs 156)) (some ⟨w.heap.size, 0, none⟩) L := by
 intro _
 refine ⟨w.heap.size, 0, rfl, fun i hi => ?_⟩
 rw [cell_of_row _ _ _ _ _ _ (heap_alloc_new w _), ← Array.getElem?_toList, h]
 simp [hi]
theorem trim2 (n : Nat) (w : World) (h : n < 18446744073709551616) : Calls Tryz.prog 199 #[.slice (some ⟨w.heap.size, 0, none⟩) 2 2]
  (w.alloc (.cells #[.int .u32 ((n : Int) % 4294967296), .int .u32 ((n : Int) / 4294967296)] 156)) (GivesN n w) :=
 trim_n _ 2 [n % 4294967296, n / 4294967296] _ w (by simp) (by simp) (wds_new w _ _ (by simp [u32V])) (wval2 n h).2 ((Below.refl _ _).alloc (Nat.le_refl _) _) (wval2 n h).1
theorem natOf_c (n : Nat) (w : World) (h : n < 18446744073709551616) : Calls Tryz.prog 179 #[.int .u64 (n : Int)] w (GivesN n w) := by
 go_enter Tryz.func179, Tryz.ntmps179
 go_wp2_with fail
 with_reducible refine (trim2 n w h).mono ?_
 rintro e w' ⟨A, c, rfl, hn, hb⟩
 go_wp2
 go_ret
 exact ⟨A, c, rfl, hn, hb⟩
theorem one_words : words B32 1 = [1] := by decide +kernel
theorem Nt.one (w : World) : Nt (w.alloc (.cells #[.int .u32 1] 156)) (some ⟨w.heap.size, 0, none⟩) 1 1 :=
 ⟨by rw [one_words]; exact wds_new w _ _ rfl, by rw [one_words]; decide⟩
theorem One_c (w : World) : Calls Tryz.prog 149 #[] w (GivesN 1 w) := by
 go_enter Tryz.func149, Tryz.ntmps149
 go_wp2
 go_ret
 exact ⟨_, 1, by unfold ntV; rw [one_words]; rfl, Nt.one w, (Below.refl _ _).alloc (Nat.le_refl _) _⟩
def CmpRel (w : World) (l r : List Nat) (m : Nat) (i : Value) (wr : World) : Prop :=
 (∃ n, wr = w.drewN n) ∧ m ≤ l.length ∧ (∃ z : Int, z = (m : Int) - 1 ∧ i = .int .i64 z) ∧ l.drop m = r.drop m
theorem Cmp_l (A A2 : Option Addr) (c c2 : Nat) (l r : List Nat) (w : World) (h : Wds w A l) (h2 : Wds w A2 r) (hl : WLt B32 l) (hr : WLt B32 r) (hn : l.length ≤ 1000000) (he : l.length = r.length) :
  Calls Tryz.prog 177 #[.slice A l.length c, .slice A2 l.length c2] w (GivesD (.int .i64 (cmpN (wval B32 l) (wval B32 r))) w) := by
 have HE := zq he
 clear he
 go_enter Tryz.func177, Tryz.ntmps177
 go_wp2
 go_loopg [5] l.length (CmpRel w l r)
 case atStart => exact ⟨⟨0, rfl⟩, Nat.le_refl _, ⟨_, rfl, rfl⟩, by rw [List.drop_of_length_le (Nat.le_refl _), List.drop_of_length_le (by rw [HE.out]; omega)]⟩
 case round =>
  obtain ⟨⟨nd, hw⟩, hk, ⟨z, hz, rfl⟩, hd⟩ := hrel
  subst hw
  have HD := zq hd
  clear hd
  rcases Nat.eq_zero_or_pos gk with h0 | h0
  ·subst h0
   obtain rfl : z = -1 := hz
   go_wp2
   go_ret
   refine GivesD.mk ?_ ⟨_, rfl⟩
   have e : l = r := by simpa using HD.out
   rw [e, cmpN_eq rfl]
   rfl
  ·obtain ⟨j, rfl⟩ : ∃ j, gk = j + 1 := ⟨gk - 1, by omega⟩
   obtain rfl : z = (j : Int) := by omega
   clear hz
   have hjr : j < r.length := by have := HE.out; omega
   obtain ⟨b, o, rfl, hb, hcl⟩ := h.at_ (by omega)
   obtain ⟨b2, o2, rfl, hb2, hcl2⟩ := h2.at_ (by omega)
   have hc0 := hcl j (by omega)
   have hc1 := hcl2 j hjr
   rw [u32V_eq] at hc0 hc1
   clear hcl hcl2
   have hx : l[j] < B32 := hl.get j (by omega)
   have hy : r[j] < B32 := hr.get j hjr
   by_cases hq : l[j] = r[j]
   ·have hqb : (((l[j] : Nat) : Int) != ((r[j] : Nat) : Int)) = false := by simp [hq]
    have HQ := zq hq
    clear hq
    go_wp2
    go_quiet (fail)
    go_wp2
    go_roundg j
    case measure => omega
    case rel =>
     refine ⟨⟨_, rfl⟩, by omega, ⟨_, rfl, rfl⟩, ?_⟩
     rw [List.drop_eq_getElem_cons (by omega), List.drop_eq_getElem_cons hjr, HQ.out, HD.out]
   ·have hqb : (((l[j] : Nat) : Int) != ((r[j] : Nat) : Int)) = true := by simp; omega
    by_cases hlt : l[j] < r[j]
    ·have hltb : decide (l[j] < r[j]) = true := decide_eq_true hlt
     have HQ := zq hlt
     clear hq hlt
     go_wp2
     go_quiet (fail)
     go_wp2
     go_quiet (fail)
     go_wp2
     go_ret
     refine GivesD.mk ?_ (by rw [World.drewN_drewN, World.drewN_drewN]; exact ⟨_, rfl⟩)
     rw [cmpN_lt (wval_lt_of hl HE.out (by omega) hjr HD.out HQ.out)]
     rfl
    ·have hltb : decide (l[j] < r[j]) = false := decide_eq_false hlt
     have HQ := zq (show r[j] < l[j] by omega)
     clear hq hlt
     go_wp2
     go_quiet (fail)
     go_wp2
     go_quiet (fail)
     go_wp2
     go_ret
     refine GivesD.mk ?_ (by rw [World.drewN_drewN, World.drewN_drewN]; exact ⟨_, rfl⟩)
     rw [cmpN_gt (wval_lt_of hr HE.out.symm hjr (by omega) HD.out.symm HQ.out)]
     rfl
theorem Cmp_len (A A2 : Option Addr) (c c2 n m : Nat) (w : World) (hne : n ≠ m) :
  Calls Tryz.prog 177 #[.slice A n c, .slice A2 m c2] w (GivesD (.int .i64 (cmpN n m)) w) := by
 have hnb : ((n : Int) != (m : Int)) = true := by simp; omega
 rcases Nat.lt_or_ge n m with hlt | hge
 ·have hltb : decide (n < m) = true := decide_eq_true hlt
  have hv : cmpN n m = -1 := cmpN_lt hlt
  rw [hv]
  have HV := zq hv
  clear hv
  go_enter Tryz.func177, Tryz.ntmps177
  go_wp2
  go_ret
  exact GivesD.mk rfl ⟨0, rfl⟩
 ·have hltb : decide (n < m) = false := decide_eq_false (by omega)
  have hv : cmpN n m = 1 := cmpN_gt (by omega)
  rw [hv]
  have HV := zq hv
  clear hv
  go_enter Tryz.func177, Tryz.ntmps177
  go_wp2
  go_ret
  exact GivesD.mk rfl ⟨0, rfl⟩
theorem Cmp_c (A A2 : Option Addr) (c c2 a b : Nat) (w : World) (h : Nt w A c a) (h2 : Nt w A2 c2 b) (hn : (words B32 a).length ≤ 1000000) :
  Calls Tryz.prog 177 #[ntV A c a, ntV A2 c2 b] w (GivesD (.int .i64 (cmpN a b)) w) := by
 by_cases he : (words B32 a).length = (words B32 b).length
 ·have := Cmp_l A A2 c c2 (words B32 a) (words B32 b) w h.rd h2.rd (words_lt B32_gt a) (words_lt B32_gt b) hn he
  rw [wval_words B32_gt, wval_words B32_gt] at this
  unfold ntV
  rw [← he]
  exact this
 ·have := Cmp_len A A2 c c2 _ _ w he
  have e : cmpN (words B32 a).length (words B32 b).length = cmpN a b := by
   rcases Nat.lt_or_ge (words B32 a).length (words B32 b).length with h1 | h1
   ·rw [cmpN_lt h1, cmpN_lt (lt_of_len B32_gt h1)]
   ·rw [cmpN_gt (by omega), cmpN_gt (lt_of_len B32_gt (by omega))]
  rw [e] at this
  exact this
def AddRel (w : World) (g : Nat) (l r : List Nat) (m : Nat) (cv iv : Value) (wr : World) : Prop :=
 ∃ (k cy : Nat) (L : List Nat), k + m = l.length ∧ iv = .int .i64 k ∧ cv = .int .u64 (cy : Int) ∧ cy ≤ 1 ∧ ArrU wr g L ∧ L.length = l.length + 1 ∧ WLt B32 L ∧
  wval B32 (L.take k) + B32 ^ k * cy = wval B32 (l.take k) + wval B32 (r.take k) ∧ (∀ x (h : x < L.length), k ≤ x → L[x] = 0) ∧ Below w.heap.size w wr ∧ w.heap.size ≤ g
theorem wval_put {L : List Nat} {k x : Nat} (h : k < L.length) : wval B32 ((L.set k x).take (k + 1)) = wval B32 (L.take k) + B32 ^ k * x := by
 rw [take_set_succ L k x h, wval_append, wval_one, List.length_take, Nat.min_eq_left (by omega)]
theorem zeros_set {L : List Nat} {k x : Nat} (h : ∀ i (h : i < L.length), k ≤ i → L[i] = 0) : ∀ i (h : i < (L.set k x).length), k + 1 ≤ i → (L.set k x)[i] = 0 := fun i hi hk => by
 rw [List.getElem_set_ne (by omega)]
 exact h i (by simpa using hi) (by omega)
theorem modB (s : Nat) : s % 4294967296 < B32 := Nat.mod_lt _ (by decide)
theorem AddRel.step {w wr : World} {g : Nat} {l r L : List Nat} {k cy gk s y : Nat} (hkm : k + gk = l.length) (hlt : k < l.length) (hA : ArrU wr g L) (hL : L.length = l.length + 1) (hLt : WLt B32 L)
  (hV : wval B32 (L.take k) + B32 ^ k * cy = wval B32 (l.take k) + wval B32 (r.take k)) (hZ : ∀ x (h : x < L.length), k ≤ x → L[x] = 0) (hbw : Below w.heap.size w wr) (hwg : w.heap.size ≤ g)
  (hy : wval B32 (r.take (k + 1)) = wval B32 (r.take k) + B32 ^ k * y) (hs : s = cy + l[k] + y) (hs2 : s ≤ 8589934591) {cv iv mv : Value} (hc : cv = .int .u64 ((s / 4294967296 : Nat) : Int)) (hi : iv = .int .i64 ((k : Int) + 1)) (hm : mv = .int .u32 ((s % 4294967296 : Nat) : Int)) :
  AddRel w g l r (gk - 1) cv iv (wr.setCell ⟨g, k, none⟩ mv) := by
 subst hc hi hm
 refine ⟨k + 1, s / 4294967296, L.set k (s % 4294967296), by omega, by go_num, rfl, by omega, hA.set k _, by simpa using hL, hLt.set (modB s) k, ?_, zeros_set hZ, hbw.setCell hwg _, hwg⟩
 rw [wval_put (by omega), hy, wval_take hlt]
 exact add_col hV hs
theorem Add_l (A A2 : Option Addr) (c c2 : Nat) (l r : List Nat) (w : World) (h : Wds w A l) (h2 : Wds w A2 r) (hl : WLt B32 l) (hr : WLt B32 r) (hn : l.length ≤ 900000) (he : r.length ≤ l.length) :
  Calls Tryz.prog 201 #[.slice A l.length c, .slice A2 r.length c2] w (GivesN (wval B32 l + wval B32 r) w) := by
 have hltb : decide (l.length < r.length) = false := decide_eq_false (by omega)
 have hmk : ∀ w : World, (Instr.makeSlice 171 (.int .i64 ((l.length : Int) + 1)) (.int .i64 ((l.length : Int) + 1))).run Tryz.prog w = .ok (.slice (some ⟨w.heap.size, 0, none⟩) (l.length + 1) (l.length + 1)) (w.alloc (.cells (Array.replicate (l.length + 1) (.int .u32 0)) 156)) := mk_nat (l.length + 1) (by omega)
 go_enter Tryz.func201, Tryz.ntmps201
 go_wp2
 clear hmk
 have hnew := ArrU.new w (l.length + 1)
 have hbel : Below w.heap.size w (w.alloc (.cells (Array.replicate (l.length + 1) (.int .u32 0)) 156)) := (Below.refl _ _).alloc (Nat.le_refl _) _
 obtain ⟨g, hg⟩ : ∃ g, g = w.heap.size := ⟨_, rfl⟩
 rw [← hg] at hnew
 obtain ⟨w1, hw1⟩ : ∃ w1, w1 = w.alloc (.cells (Array.replicate (l.length + 1) (.int .u32 0)) 156) := ⟨_, rfl⟩
 rw [← hw1] at hnew hbel
 rw [← hg, ← hw1]
 have HG := zq hg
 have HB := zq hbel
 clear hg hbel hw1
 go_loopg [6, 21] l.length (AddRel w g l r)
 case atStart => exact ⟨0, 0, List.replicate (l.length + 1) 0, by omega, rfl, rfl, by omega, hnew, by simp, WLt.zeros B32_pos _, by simp [wval], fun x hx _ => by simp, HB.out, by rw [HG.out]; exact Nat.le_refl _⟩
 case round =>
  obtain ⟨k, cy, L, hkm, rfl, rfl, hcy, hA, hL, hLt, hV, hZ, hbw, hwg⟩ := hrel
  have HM := zq hkm
  have HV := zq hV
  have HZ := zq hZ
  have HL := zq hL
  clear hkm hV hZ hL
  by_cases hlt : k < l.length
  ·have hkL : k < L.length := by have := HL.out; omega
   obtain ⟨b, o, hA0, hb, hcl⟩ := (h.below hbw).at_ (by omega)
   subst hA0
   have hc0 := hcl k hlt
   rw [u32V_eq] at hc0
   have hx : l[k] < 4294967296 := hl.get k hlt
   have hc1 := hA.cell k hkL
   have hf1 := hA.frozen k
   clear hcl
   by_cases hlr : k < r.length
   ·obtain ⟨b2, o2, hA2, hb2, hcl2⟩ := (h2.below hbw).at_ (by omega)
    subst hA2
    have hc2 := hcl2 k hlr
    rw [u32V_eq] at hc2
    have hy : r[k] < 4294967296 := hr.get k hlr
    clear hcl2
    go_wp2
    go_roundg (gk - 1)
    case measure => have := HM.out; omega
    case rel => exact AddRel.step HM.out hlt hA HL.out hLt HV.out HZ.out hbw hwg (wval_take hlr) rfl (by omega) (by simp) rfl (by simp)
   ·have HR : Hid (wval B32 (r.take (k + 1)) = wval B32 (r.take k) + B32 ^ k * 0) := by
     show wval B32 (r.take (k + 1)) = wval B32 (r.take k) + B32 ^ k * 0
     rw [List.take_of_length_le (by omega), List.take_of_length_le (by omega)]; simp
    go_wp2
    go_roundg (gk - 1)
    case measure => have := HM.out; omega
    case rel => exact AddRel.step HM.out hlt hA HL.out hLt HV.out HZ.out hbw hwg HR.out (s := cy + l[k]) rfl (by omega) (by simp) rfl (by simp)
  ·obtain rfl : k = l.length := by have := HM.out; omega
   have hkL : l.length < L.length := by have := HL.out; omega
   have hc1 := hA.cell l.length hkL
   have hf1 := hA.frozen l.length
   go_wp2_with fail
   have HT : Hid (wval B32 (L.set l.length cy) = wval B32 l + wval B32 r) := by
    have e : L.set l.length cy = (L.set l.length cy).take (l.length + 1) := by rw [List.take_of_length_le (by rw [List.length_set, HL.out]; omega)]
    show wval B32 (L.set l.length cy) = _
    rw [e, wval_put hkL]
    have := HV.out
    rwa [List.take_of_length_le (Nat.le_refl _), List.take_of_length_le he] at this
   have hA2 := hA.set l.length cy
   have hl2 : (L.set l.length cy).length = l.length + 1 := by rw [List.length_set, HL.out]
   rw [← hl2]
   with_reducible refine (trim_n _ _ (L.set l.length cy) _ w (by omega) (Nat.le_refl _) (by have := hA2.rd (L.set l.length cy).length; rwa [List.take_length] at this) (hLt.set (by rw [B32_eq]; omega) _) (hbw.setCell hwg _) HT.out).mono ?_
   rintro e w' ⟨A, c, rfl, hn, hb⟩
   clear hl2 hA2
   go_wp2
   go_ret
   exact ⟨A, c, rfl, hn, hb⟩
theorem Add_s (A A2 : Option Addr) (c c2 : Nat) (l r : List Nat) (w : World) (h : Wds w A l) (h2 : Wds w A2 r) (hl : WLt B32 l) (hr : WLt B32 r) (hn : l.length ≤ 900000) (he : r.length < l.length) :
  Calls Tryz.prog 201 #[.slice A2 r.length c2, .slice A l.length c] w (GivesN (wval B32 l + wval B32 r) w) := by
 have hltb : decide (r.length < l.length) = true := decide_eq_true he
 have hmk : ∀ w : World, (Instr.makeSlice 171 (.int .i64 ((l.length : Int) + 1)) (.int .i64 ((l.length : Int) + 1))).run Tryz.prog w = .ok (.slice (some ⟨w.heap.size, 0, none⟩) (l.length + 1) (l.length + 1)) (w.alloc (.cells (Array.replicate (l.length + 1) (.int .u32 0)) 156)) := mk_nat (l.length + 1) (by omega)
 go_enter Tryz.func201, Tryz.ntmps201
 go_wp2
 clear hmk
 have hnew := ArrU.new w (l.length + 1)
 have hbel : Below w.heap.size w (w.alloc (.cells (Array.replicate (l.length + 1) (.int .u32 0)) 156)) := (Below.refl _ _).alloc (Nat.le_refl _) _
 obtain ⟨g, hg⟩ : ∃ g, g = w.heap.size := ⟨_, rfl⟩
 rw [← hg] at hnew
 obtain ⟨w1, hw1⟩ : ∃ w1, w1 = w.alloc (.cells (Array.replicate (l.length + 1) (.int .u32 0)) 156) := ⟨_, rfl⟩
 rw [← hw1] at hnew hbel
 rw [← hg, ← hw1]
 have HG := zq hg
 have HB := zq hbel
 clear hg hbel hw1
 go_loopg [6, 21] l.length (AddRel w g l r)
 case atStart => exact ⟨0, 0, List.replicate (l.length + 1) 0, by omega, rfl, rfl, by omega, hnew, by simp, WLt.zeros B32_pos _, by simp [wval], fun x hx _ => by simp, HB.out, by rw [HG.out]; exact Nat.le_refl _⟩
 case round =>
  obtain ⟨k, cy, L, hkm, rfl, rfl, hcy, hA, hL, hLt, hV, hZ, hbw, hwg⟩ := hrel
  have HM := zq hkm
  have HV := zq hV
  have HZ := zq hZ
  have HL := zq hL
  clear hkm hV hZ hL
  by_cases hlt : k < l.length
  ·have hkL : k < L.length := by have := HL.out; omega
   obtain ⟨b, o, hA0, hb, hcl⟩ := (h.below hbw).at_ (by omega)
   subst hA0
   have hc0 := hcl k hlt
   rw [u32V_eq] at hc0
   have hx : l[k] < 4294967296 := hl.get k hlt
   have hc1 := hA.cell k hkL
   have hf1 := hA.frozen k
   clear hcl
   by_cases hlr : k < r.length
   ·obtain ⟨b2, o2, hA2, hb2, hcl2⟩ := (h2.below hbw).at_ (by omega)
    subst hA2
    have hc2 := hcl2 k hlr
    rw [u32V_eq] at hc2
    have hy : r[k] < 4294967296 := hr.get k hlr
    clear hcl2
    go_wp2
    go_roundg (gk - 1)
    case measure => have := HM.out; omega
    case rel => exact AddRel.step HM.out hlt hA HL.out hLt HV.out HZ.out hbw hwg (wval_take hlr) rfl (by omega) (by simp) rfl (by simp)
   ·have HR : Hid (wval B32 (r.take (k + 1)) = wval B32 (r.take k) + B32 ^ k * 0) := by
     show wval B32 (r.take (k + 1)) = wval B32 (r.take k) + B32 ^ k * 0
     rw [List.take_of_length_le (by omega), List.take_of_length_le (by omega)]; simp
    go_wp2
    go_roundg (gk - 1)
    case measure => have := HM.out; omega
    case rel => exact AddRel.step HM.out hlt hA HL.out hLt HV.out HZ.out hbw hwg HR.out (s := cy + l[k]) rfl (by omega) (by simp) rfl (by simp)
  ·obtain rfl : k = l.length := by have := HM.out; omega
   have hkL : l.length < L.length := by have := HL.out; omega
   have hc1 := hA.cell l.length hkL
   have hf1 := hA.frozen l.length
   go_wp2_with fail
   have HT : Hid (wval B32 (L.set l.length cy) = wval B32 l + wval B32 r) := by
    have e : L.set l.length cy = (L.set l.length cy).take (l.length + 1) := by rw [List.take_of_length_le (by rw [List.length_set, HL.out]; omega)]
    show wval B32 (L.set l.length cy) = _
    rw [e, wval_put hkL]
    have := HV.out
    rwa [List.take_of_length_le (Nat.le_refl _), List.take_of_length_le (Nat.le_of_lt he)] at this
   have hA2 := hA.set l.length cy
   have hl2 : (L.set l.length cy).length = l.length + 1 := by rw [List.length_set, HL.out]
   rw [← hl2]
   with_reducible refine (trim_n _ _ (L.set l.length cy) _ w (by omega) (Nat.le_refl _) (by have := hA2.rd (L.set l.length cy).length; rwa [List.take_length] at this) (hLt.set (by rw [B32_eq]; omega) _) (hbw.setCell hwg _) HT.out).mono ?_
   rintro e w' ⟨A, c, rfl, hn, hb⟩
   clear hl2 hA2
   go_wp2
   go_ret
   exact ⟨A, c, rfl, hn, hb⟩
theorem Add_c (A A2 : Option Addr) (c c2 a b : Nat) (w : World) (h : Nt w A c a) (h2 : Nt w A2 c2 b) (hn : (words B32 a).length ≤ 900000) (hm : (words B32 b).length ≤ 900000) :
  Calls Tryz.prog 201 #[ntV A c a, ntV A2 c2 b] w (GivesN (a + b) w) := by
 have e1 := wval_words B32_gt a
 have e2 := wval_words B32_gt b
 rcases Nat.lt_or_ge (words B32 a).length (words B32 b).length with h1 | h1
 ·have := Add_s A2 A c2 c (words B32 b) (words B32 a) w h2.rd h.rd (words_lt B32_gt b) (words_lt B32_gt a) hm h1
  rw [e1, e2, Nat.add_comm] at this
  exact this
 ·have := Add_l A A2 c c2 (words B32 a) (words B32 b) w h.rd h2.rd (words_lt B32_gt a) (words_lt B32_gt b) hn h1
  rw [e1, e2] at this
  exact this
end Go.Proofs.YtlcfgejaeecclaaGreatDoor
namespace Go.Proofs
open Go.Shelf
def Tryz.lays133_ren : Go.Shelf.Ren := ⟨fun | 133 => 213 | 128 => 95 | n => n, fun | 51 => 156 | 3 => 3 | 4 => 4 | 46 => 123 | 5 => 5 | 9 => 9 | n => n, fun | n => n⟩
theorem Tryz.lays133 : Go.Proofs.Lays.n133 Tryz.prog Tryz.lays133_ren := {
 mixed := by kernel_rfl
 f128 := Tryz.func95.trans (congrArg some (by kernel_rfl))
 f133 := Tryz.func213.trans (congrArg some (by kernel_rfl))
 t3 := Tryz.underlying3
 a3 := Tryz.isAgg3
 z3 := Tryz.sizeOf3
 v3 := Tryz.zeroValue3
 t4 := Tryz.underlying4
 a4 := Tryz.isAgg4
 z4 := Tryz.sizeOf4
 v4 := Tryz.zeroValue4
 t5 := Tryz.underlying5
 a5 := Tryz.isAgg5
 z5 := Tryz.sizeOf5
 v5 := Tryz.zeroValue5
 t9 := Tryz.underlying9
 a9 := Tryz.isAgg9
 z9 := Tryz.sizeOf9
 v9 := Tryz.zeroValue9
 t46 := Tryz.underlying123
 a46 := Tryz.isAgg123
 z46 := Tryz.sizeOf123
 v46 := Tryz.zeroValue123
 t51 := Tryz.underlying156
 a51 := Tryz.isAgg156
 z51 := Tryz.sizeOf156
 v51 := Tryz.zeroValue156 }
def Tryz.lays264_ren : Go.Shelf.Ren := ⟨fun | 264 => 198 | n => n, fun | 53 => 158 | 46 => 123 | n => n, fun | n => n⟩
theorem Tryz.lays264 : Go.Proofs.Lays.n264 Tryz.prog Tryz.lays264_ren := {
 mixed := by kernel_rfl
 f264 := Tryz.func198.trans (congrArg some (by kernel_rfl))
 t46 := Tryz.underlying123
 a46 := Tryz.isAgg123
 z46 := Tryz.sizeOf123
 v46 := Tryz.zeroValue123
 t53 := Tryz.underlying158
 a53 := Tryz.isAgg158
 z53 := Tryz.sizeOf158
 v53 := Tryz.zeroValue158 }
end Go.Proofs
namespace Go.Proofs.YtlcfgejaeecclaaGreatDoor
open Go.RowKit Dw
theorem small_yes (A : Option Addr) (c n : Nat) (w : World) (h : Nt w A c n) (hn : (words B32 n).length ≤ 2) : Calls Tryz.prog 197 #[ntV A c n] w (GivesD (.tuple #[.int .u64 (n : Int), .bool true]) w) := by
 have := small_c A c n w h (by omega)
 unfold smV at this
 rw [if_pos hn, decide_eq_true hn] at this
 exact this
theorem small_no (A : Option Addr) (c n : Nat) (w : World) (h : Nt w A c n) (hn : 2 < (words B32 n).length) (hm : (words B32 n).length ≤ 1000000) : Calls Tryz.prog 197 #[ntV A c n] w (GivesD (.tuple #[.int .u64 0, .bool false]) w) := by
 have := small_c A c n w h hm
 unfold smV at this
 rw [if_neg (by omega), decide_eq_false (by omega)] at this
 exact this
theorem small_lt {n : Nat} (hn : (words B32 n).length ≤ 2) : n ≤ 18446744073709551615 := by
 have h1 := words_len B32_gt n
 have h2 : B32 ^ (words B32 n).length ≤ B32 ^ 2 := Nat.pow_le_pow_right B32_pos hn
 have h3 : B32 ^ 2 = 18446744073709551616 := by decide
 omega
def GivesM (x y : Nat) (w : World) (e : Ending) (w' : World) : Prop :=
 ∃ hi lo : Nat, e = .returned (.tuple #[.int .u64 (hi : Int), .int .u64 (lo : Int)]) ∧ hi ≤ 18446744073709551615 ∧ lo ≤ 18446744073709551615 ∧ Hid (x * y = lo + 18446744073709551616 * hi) ∧ w = w'
theorem mul64_c (x y : Nat) (w : World) (hx : x ≤ 18446744073709551615) (hy : y ≤ 18446744073709551615) : Calls Tryz.prog 198 #[.int .u64 (x : Int), .int .u64 (y : Int)] w (GivesM x y w) := by
 have h := Any.bits_Mul64 Tryz.lays264 x y (by omega) (by omega) w
 change Calls Tryz.prog 198 _ _ _ at h
 refine h.mono fun e w' ⟨he, hw⟩ => ⟨_, _, he, ?_, ?_, ?_, hw.symm⟩
 ·have h1 : x * y ≤ 18446744073709551615 * 18446744073709551615 := Nat.mul_le_mul hx hy
  generalize x * y = p at *
  omega
 ·omega
 ·show x * y = _
  generalize x * y = p at *
  omega
theorem trim4 (hi lo nd : Nat) (w : World) (h1 : hi ≤ 18446744073709551615) (h2 : lo ≤ 18446744073709551615) {n : Nat} (hv : n = lo + 18446744073709551616 * hi) : Calls Tryz.prog 199 #[.slice (some ⟨w.heap.size, 0, none⟩) 4 4]
  ((w.drewN nd).alloc (.cells #[.int .u32 ((lo : Int) % 4294967296), .int .u32 ((lo : Int) / 4294967296), .int .u32 ((hi : Int) % 4294967296), .int .u32 ((hi : Int) / 4294967296)] 156)) (GivesN n w) :=
 trim_n _ 4 [lo % 4294967296, lo / 4294967296, hi % 4294967296, hi / 4294967296] _ w (by simp) (by simp) (wds_new (w.drewN nd) _ _ (by simp [u32V]))
  (WLt.cons (by rw [B32_eq]; omega) (WLt.cons (by rw [B32_eq]; omega) (WLt.cons (by rw [B32_eq]; omega) (WLt.cons (by rw [B32_eq]; omega) WLt.nil)))) ((below_drewN (Below.refl _ _) nd).alloc (Nat.le_refl _) _) (by
   rw [hv]; simp [wval, B32_eq]; omega)
def MulRel (w : World) (g : Nat) (l r : List Nat) (m : Nat) (iv : Value) (wr : World) : Prop :=
 ∃ (k : Nat) (L : List Nat), k + m = l.length ∧ iv = .int .i64 k ∧ ArrU wr g L ∧ L.length = l.length + r.length ∧ WLt B32 L ∧ wval B32 L = wval B32 (l.take k) * wval B32 r ∧
  (∀ x (h : x < L.length), k + r.length ≤ x → L[x] = 0) ∧ Below w.heap.size w wr ∧ w.heap.size ≤ g
def MulRel2 (w : World) (g : Nat) (l r : List Nat) (k x : Nat) (m : Nat) (cv jv : Value) (wr : World) : Prop :=
 ∃ (j cy : Nat) (L : List Nat), j + m = r.length ∧ jv = .int .i64 j ∧ cv = .int .u64 (cy : Int) ∧ cy ≤ 4294967295 ∧ ArrU wr g L ∧ L.length = l.length + r.length ∧ WLt B32 L ∧
  wval B32 L + B32 ^ (k + j) * cy = wval B32 (l.take k) * wval B32 r + B32 ^ k * (x * wval B32 (r.take j)) ∧ (∀ x (h : x < L.length), k + r.length ≤ x → L[x] = 0) ∧ Below w.heap.size w wr ∧ w.heap.size ≤ g
theorem MulRel2.step {w wr : World} {g : Nat} {l r L : List Nat} {k x j cy gk t : Nat} (hkm : j + gk = r.length) (hlt : j < r.length) (hk : k < l.length) (hcy : cy ≤ 4294967295) (hx : x ≤ 4294967295) (hA : ArrU wr g L) (hL : L.length = l.length + r.length) (hr : WLt B32 r) (hLt : WLt B32 L)
  (hV : wval B32 L + B32 ^ (k + j) * cy = wval B32 (l.take k) * wval B32 r + B32 ^ k * (x * wval B32 (r.take j))) (hZ : ∀ x (h : x < L.length), k + r.length ≤ x → L[x] = 0) (hbw : Below w.heap.size w wr) (hwg : w.heap.size ≤ g)
  (ht : t = cy + (x * r[j] + L[k + j])) {cv iv mv : Value} (hc : cv = .int .u64 ((t / 4294967296 : Nat) : Int)) (hi : iv = .int .i64 ((j : Int) + 1)) (hm : mv = .int .u32 ((t % 4294967296 : Nat) : Int)) :
  MulRel2 w g l r k x (gk - 1) cv iv (wr.setCell ⟨g, k + j, none⟩ mv) := by
 subst hc hi hm
 have hy : r[j] ≤ 4294967295 := by have := hr.get j hlt; rw [B32_eq] at this; omega
 have hz : L[k + j] ≤ 4294967295 := by have := hLt.get (k + j) (by omega); rw [B32_eq] at this; omega
 have hxy : x * r[j] ≤ 4294967295 * 4294967295 := Nat.mul_le_mul hx hy
 refine ⟨j + 1, t / 4294967296, L.set (k + j) (t % 4294967296), by omega, by go_num, rfl, by rw [ht]; generalize x * r[j] = p at *; omega, hA.set (k + j) _, by simpa using hL, hLt.set (modB t) _, ?_, fun i hi hki => ?_, hbw.setCell hwg _, hwg⟩
 ·have e1 := wval_set B32 L (k + j) (t % 4294967296) (by omega)
  rw [wval_take hlt]
  have e2 : B32 ^ (k + j) * (t % 4294967296) + B32 ^ (k + (j + 1)) * (t / 4294967296) = B32 ^ (k + j) * t := by
   rw [show k + (j + 1) = (k + j) + 1 by omega, Nat.pow_succ, Nat.mul_assoc, ← Nat.mul_add, B32_eq, Nat.mod_add_div]
  have e3 : B32 ^ (k + j) * t = B32 ^ (k + j) * cy + B32 ^ (k + j) * (x * r[j]) + B32 ^ (k + j) * L[k + j] := by
   rw [ht, Nat.mul_add, Nat.mul_add, Nat.add_assoc]
  have e4 : B32 ^ k * (x * (wval B32 (r.take j) + B32 ^ j * r[j])) = B32 ^ k * (x * wval B32 (r.take j)) + B32 ^ (k + j) * (x * r[j]) := by
   rw [Nat.mul_add, Nat.mul_add, Nat.pow_add, Nat.mul_left_comm x, Nat.mul_assoc]
  rw [e4]
  omega
 ·rw [List.getElem_set_ne (by omega)]
  exact hZ i (by simpa using hi) (by omega)
theorem MulRel.next {w wr : World} {g : Nat} {l r L : List Nat} {k cy gk : Nat} (hkm : k + 1 + gk = l.length) (hlt : k < l.length) (hcy : cy ≤ 4294967295) (hA : ArrU wr g L) (hL : L.length = l.length + r.length) (hLt : WLt B32 L)
  (hV : wval B32 L + B32 ^ (k + r.length) * cy = wval B32 (l.take k) * wval B32 r + B32 ^ k * (l[k] * wval B32 (r.take r.length))) (hZ : ∀ x (h : x < L.length), k + r.length ≤ x → L[x] = 0) (hbw : Below w.heap.size w wr) (hwg : w.heap.size ≤ g)
  {iv mv : Value} (hi : iv = .int .i64 ((k : Int) + 1)) (hm : mv = .int .u32 (cy : Int)) :
  MulRel w g l r gk iv (wr.setCell ⟨g, k + r.length, none⟩ mv) := by
 subst hi hm
 refine ⟨k + 1, L.set (k + r.length) cy, by omega, by go_num, hA.set _ _, by simpa using hL, hLt.set (by rw [B32_eq]; omega) _, ?_, fun i hi hki => ?_, hbw.setCell hwg _, hwg⟩
 ·have e1 := wval_set B32 L (k + r.length) cy (by omega)
  rw [hZ (k + r.length) (by omega) (Nat.le_refl _)] at e1
  rw [List.take_of_length_le (Nat.le_refl _)] at hV
  rw [wval_take hlt, Nat.add_mul, Nat.mul_assoc (B32 ^ k)]
  omega
 ·rw [List.getElem_set_ne (by omega)]
  exact hZ i (by simpa using hi) (by omega)
theorem Mul_c (A A2 : Option Addr) (c c2 : Nat) (a b : Nat) (w : World) (h : Nt w A c a) (h2 : Nt w A2 c2 b) (hn : (words B32 a).length ≤ 400000) (hm : (words B32 b).length ≤ 400000) :
  Calls Tryz.prog 178 #[ntV A c a, ntV A2 c2 b] w (GivesN (a * b) w) := by
 by_cases h1 : (words B32 a).length ≤ 2 ∧ (words B32 b).length ≤ 2
 ·obtain ⟨ha, hb⟩ := h1
  have la := small_lt ha
  have lb := small_lt hb
  go_enter Tryz.func178, Tryz.ntmps178
  go_wp2_with fail
  with_reducible refine (small_yes A c a _ h ha).mono ?_
  rintro e w' ⟨rfl, nd, rfl⟩
  go_wp2_with fail
  with_reducible refine (small_yes A2 c2 b _ (h2.drewN nd) hb).mono ?_
  rintro e w' ⟨rfl, nd2, rfl⟩
  go_wp2_with fail
  with_reducible refine (mul64_c a b _ la lb).mono ?_
  rintro e w' ⟨hi, lo, rfl, h3, h4, hv, rfl⟩
  go_wp2_with fail
  with_reducible refine (trim4 hi lo (nd + nd2) w h3 h4 hv.out).mono ?_
  rintro e w' ⟨A, c, rfl, hn, hb⟩
  go_wp2
  go_ret
  exact ⟨A, c, rfl, hn, hb⟩
 ·have hmk : ∀ w : World, (Instr.makeSlice 171 (.int .i64 (((words B32 a).length : Int) + ((words B32 b).length : Int))) (.int .i64 (((words B32 a).length : Int) + ((words B32 b).length : Int)))).run Tryz.prog w =
    .ok (.slice (some ⟨w.heap.size, 0, none⟩) ((words B32 a).length + (words B32 b).length) ((words B32 a).length + (words B32 b).length)) (w.alloc (.cells (Array.replicate ((words B32 a).length + (words B32 b).length) (.int .u32 0)) 156)) :=
   mk_nat ((words B32 a).length + (words B32 b).length) (by omega)
  by_cases ha : (words B32 a).length ≤ 2
  case' pos =>
   have hb : 2 < (words B32 b).length := by omega
   go_enter Tryz.func178, Tryz.ntmps178
   go_wp2_with fail
   with_reducible refine (small_yes A c a _ h ha).mono ?_
   rintro e w' ⟨rfl, nd, rfl⟩
   go_wp2_with fail
   with_reducible refine (small_no A2 c2 b _ (h2.drewN nd) hb (by omega)).mono ?_
   rintro e w' ⟨rfl, nd2, rfl⟩
   rw [World.drewN_drewN]
   clear hb
   generalize nd + nd2 = nd
  case' neg =>
   go_enter Tryz.func178, Tryz.ntmps178
   go_wp2_with fail
   with_reducible refine (small_no A c a _ h (by omega) (by omega)).mono ?_
   rintro e w' ⟨rfl, nd, rfl⟩
  all_goals
   clear ha h1
   unfold ntV
   go_wp2
   clear hmk
   have hnew := ArrU.new (w.drewN nd) ((words B32 a).length + (words B32 b).length)
   have hbel : Below w.heap.size w ((w.drewN nd).alloc (.cells (Array.replicate ((words B32 a).length + (words B32 b).length) (.int .u32 0)) 156)) := (below_drewN (Below.refl _ _) nd).alloc (Nat.le_refl _) _
   have hg0 : (w.drewN nd).heap.size = w.heap.size := rfl
   rw [hg0] at hnew
   clear hg0
   obtain ⟨g, hg⟩ : ∃ g, g = w.heap.size := ⟨_, rfl⟩
   rw [← hg] at hnew
   obtain ⟨w1, hw1⟩ : ∃ w1, w1 = (w.drewN nd).alloc (.cells (Array.replicate ((words B32 a).length + (words B32 b).length) (.int .u32 0)) 156) := ⟨_, rfl⟩
   rw [← hw1] at hnew hbel
   rw [← hg, ← hw1]
   have HG := zq hg
   have HB := zq hbel
   clear hg hbel hw1
   have hl := words_lt B32_gt a
   have hr := words_lt B32_gt b
   have HVA := zq (wval_words B32_gt a)
   have HVB := zq (wval_words B32_gt b)
   obtain ⟨h, hcap⟩ := h
   obtain ⟨h2, hcap2⟩ := h2
   generalize words B32 a = l at *
   generalize words B32 b = r at *
   go_loopg [55] l.length (MulRel w g l r)
   case atStart => exact ⟨0, List.replicate (l.length + r.length) 0, by omega, rfl, hnew, by simp, WLt.zeros B32_pos _, by rw [wval_zeros]; simp [wval], fun x hx _ => by simp, HB.out, by rw [HG.out]; exact Nat.le_refl _⟩
   case round =>
    obtain ⟨k, L, hkm, rfl, hA, hL, hLt, hV, hZ, hbw, hwg⟩ := hrel
    have HM := zq hkm
    have HV := zq hV
    have HZ := zq hZ
    have HL := zq hL
    clear hkm hV hZ hL
    by_cases hlt : k < l.length
    ·obtain ⟨b1, o1, hA0, hb1, hcl⟩ := (h.below hbw).at_ (by omega)
     subst hA0
     have hc0 := hcl k hlt
     rw [u32V_eq] at hc0
     have hx : l[k] < 4294967296 := hl.get k hlt
     clear hcl
     go_wp2
     clear hc0
     obtain ⟨wo, hwo⟩ : ∃ wo : World, wo = wr := ⟨_, rfl⟩
     subst hwo
     go_loopg [14, 62] r.length (MulRel2 w g l r k l[k])
     case atStart => exact ⟨0, 0, L, by omega, rfl, rfl, by omega, hA, HL.out, hLt, by rw [HV.out]; simp [wval], HZ.out, hbw, hwg⟩
     case round =>
      clear hA hbw
      obtain ⟨j, cy, L2, hjm, rfl, rfl, hcy, hA2, hL2, hLt2, hV2, hZ2, hbw2, hwg2⟩ := hrel
      have HM2 := zq hjm
      have HV2 := zq hV2
      have HZ2 := zq hZ2
      have HL2 := zq hL2
      clear hjm hV2 hZ2 hL2
      by_cases hj : j < r.length
      ·obtain ⟨b2, o2, hA02, hb2, hcl2⟩ := (h2.below hbw2).at_ (by omega)
       subst hA02
       have hc2 := hcl2 j hj
       rw [u32V_eq] at hc2
       have hy : r[j] < 4294967296 := hr.get j hj
       have hkj : k + j < L2.length := by have := HL2.out; omega
       have hz : L2[k + j] < 4294967296 := hLt2.get (k + j) hkj
       have hc1 := hA2.cell (k + j) hkj
       have hf1 := hA2.frozen (k + j)
       have hxy0 : l[k] * r[j] ≤ 4294967295 * 4294967295 := Nat.mul_le_mul (by omega) (by omega)
       have hxy : (l[k] : Int) * (r[j] : Int) ≤ 18446744065119617025 := by
        have : ((l[k] * r[j] : Nat) : Int) ≤ ((4294967295 * 4294967295 : Nat) : Int) := by omega
        rwa [Int.natCast_mul] at this
       have hxy2 : 0 ≤ (l[k] : Int) * (r[j] : Int) := Int.mul_nonneg (by omega) (by omega)
       clear hcl2 hxy0
       go_wp2
       go_roundg (gk - 1)
       case measure => have := HM2.out; omega
       case rel => exact MulRel2.step HM2.out hj hlt hcy (by omega) hA2 HL2.out hr hLt2 HV2.out HZ2.out hbw2 hwg2 rfl (by simp) rfl (by simp)
      ·obtain rfl : j = r.length := by have := HM2.out; omega
       have hkj : k + r.length < L2.length := by have := HL2.out; omega
       have hc1 := hA2.cell (k + r.length) hkj
       have hf1 := hA2.frozen (k + r.length)
       go_wp2
       go_roundg (l.length - k - 1)
       case measure => have := HM.out; omega
       case rel => exact MulRel.next (by omega) hlt hcy hA2 HL2.out hLt2 HV2.out HZ2.out hbw2 hwg2 rfl rfl
    ·obtain rfl : k = l.length := by have := HM.out; omega
     go_wp2_with fail
     have HT : Hid (wval B32 L = a * b) := by
      show wval B32 L = _
      have := HV.out
      rwa [List.take_of_length_le (Nat.le_refl _), HVA.out, HVB.out] at this
     have hl2 := HL.out
     rw [← hl2]
     with_reducible refine (trim_n _ _ L _ w (by omega) (Nat.le_refl _) (by have := hA.rd L.length; rwa [List.take_length] at this) hLt hbw HT.out).mono ?_
     rintro e w' ⟨A, c, rfl, hn, hb⟩
     clear hl2
     go_wp2
     go_ret
     exact ⟨A, c, rfl, hn, hb⟩
def GivesNN (q r : Nat) (w : World) (e : Ending) (w' : World) : Prop :=
 ∃ A c A2 c2, e = .returned (.tuple #[ntV A c q, ntV A2 c2 r]) ∧ Nt w' A c q ∧ Nt w' A2 c2 r ∧ Below w.heap.size w w'
def DwRel (w : World) (g : Nat) (l : List Nat) (b : Nat) (m : Nat) (rv iv : Value) (wr : World) : Prop :=
 ∃ (rr : Nat) (Q : List Nat) (z : Int), m ≤ l.length ∧ z = (m : Int) - 1 ∧ iv = .int .i64 z ∧ rv = .int .u64 (rr : Int) ∧ rr < b ∧ ArrU wr g Q ∧ Q.length = l.length ∧ WLt B32 Q ∧
  wval B32 (l.drop m) = wval B32 (Q.drop m) * b + rr ∧ Below w.heap.size w wr ∧ w.heap.size ≤ g
theorem DwRel.step {w wr : World} {g : Nat} {l Q : List Nat} {j b rr X : Nat} (hj : j < l.length) (hrr : rr < b) (hA : ArrU wr g Q) (hQ : Q.length = l.length) (hLt : WLt B32 Q) (hb : b ≤ 4294967295)
  (hV : wval B32 (l.drop (j + 1)) = wval B32 (Q.drop (j + 1)) * b + rr) (hbw : Below w.heap.size w wr) (hwg : w.heap.size ≤ g) (hX : X = l[j] + 4294967296 * rr) (hl : l[j] < 4294967296)
  {rv iv mv : Value} (hi : iv = .int .i64 ((j : Int) - 1)) (hr : rv = .int .u64 ((X % b : Nat) : Int)) (hm : mv = .int .u32 ((X / b : Nat) : Int)) : DwRel w g l b j rv iv (wr.setCell ⟨g, j, none⟩ mv) := by
 subst hi hr hm
 have hq : X / b < B32 := quot_lt (B := B32) (by rw [hX]; exact next_lt (B := B32) hrr hl)
 refine ⟨X % b, Q.set j (X / b), _, by omega, rfl, rfl, rfl, Nat.mod_lt _ (by omega), hA.set j _, by simpa using hQ, hLt.set hq j, ?_, hbw.setCell hwg _, hwg⟩
 rw [drop_set_pred Q j _ (by omega), wval, wval_drop hj, hV]
 have h1 := Nat.div_add_mod X b
 have h2 : B32 * (wval B32 (Q.drop (j + 1)) * b + rr) = B32 * wval B32 (Q.drop (j + 1)) * b + 4294967296 * rr := by rw [Nat.mul_add, Nat.mul_assoc]; rfl
 rw [h2, Nat.add_mul, Nat.mul_comm (X / b)]
 omega
theorem divWord_c (A : Option Addr) (c a b : Nat) (w : World) (h : Nt w A c a) (hn : (words B32 a).length ≤ 900000) (hb1 : 1 ≤ b) (hb2 : b ≤ 4294967295) :
  Calls Tryz.prog 212 #[ntV A c a, .int .u64 (b : Int)] w (GivesNN (a / b) (a % b) w) := by
 have hmk : ∀ w : World, (Instr.makeSlice 171 (.int .i64 ((words B32 a).length : Int)) (.int .i64 ((words B32 a).length : Int))).run Tryz.prog w =
   .ok (.slice (some ⟨w.heap.size, 0, none⟩) (words B32 a).length (words B32 a).length) (w.alloc (.cells (Array.replicate (words B32 a).length (.int .u32 0)) 156)) := mk_nat _ (by omega)
 unfold ntV
 have hl := words_lt B32_gt a
 have HVA := zq (wval_words B32_gt a)
 obtain ⟨h, hcap⟩ := h
 generalize words B32 a = l at *
 go_enter Tryz.func212, Tryz.ntmps212
 go_wp2
 clear hmk
 have hnew := ArrU.new w l.length
 have hbel : Below w.heap.size w (w.alloc (.cells (Array.replicate l.length (.int .u32 0)) 156)) := (Below.refl _ _).alloc (Nat.le_refl _) _
 obtain ⟨g, hg⟩ : ∃ g, g = w.heap.size := ⟨_, rfl⟩
 rw [← hg] at hnew
 obtain ⟨w1, hw1⟩ : ∃ w1, w1 = w.alloc (.cells (Array.replicate l.length (.int .u32 0)) 156) := ⟨_, rfl⟩
 rw [← hw1] at hnew hbel
 rw [← hg, ← hw1]
 have HG := zq hg
 have HB := zq hbel
 clear hg hbel hw1
 go_loopg [7, 8] l.length (DwRel w g l b)
 case atStart => exact ⟨0, List.replicate l.length 0, _, Nat.le_refl _, rfl, rfl, rfl, by omega, hnew, by simp, WLt.zeros B32_pos _, by rw [List.drop_of_length_le (Nat.le_refl _), List.drop_of_length_le (by simp)]; simp [wval], HB.out, by rw [HG.out]; exact Nat.le_refl _⟩
 case round =>
  obtain ⟨rr, Q, z, hm, hz, rfl, rfl, hrr, hA, hQ, hLt, hV, hbw, hwg⟩ := hrel
  have HV := zq hV
  have HQ := zq hQ
  clear hV hQ
  rcases Nat.eq_zero_or_pos gk with h0 | h0
  ·subst h0
   obtain rfl : z = -1 := hz
   have HT : Hid (wval B32 Q = a / b ∧ rr = a % b) := by
    have h1 := HV.out
    rw [List.drop_zero, List.drop_zero, HVA.out] at h1
    have h2 := Nat.div_mod_unique (a := a) (b := b) (c := rr) (d := wval B32 Q) (by omega)
    have h3 := h2.2 ⟨by rw [h1, Nat.mul_comm b]; omega, hrr⟩
    exact ⟨h3.1.symm, h3.2.symm⟩
   go_wp2_with fail
   have hq2 := HQ.out
   rw [← hq2]
   with_reducible refine (trim_n _ _ Q _ w (by omega) (Nat.le_refl _) (by have := hA.rd Q.length; rwa [List.take_length] at this) hLt hbw HT.out.1).mono ?_
   rintro e w' ⟨A1, c1, rfl, hn1, hb1'⟩
   clear hq2
   go_wp2_with fail
   have hnat := natOf_c rr w' (by omega)
   rw [HT.out.2] at hnat
   rw [HT.out.2]
   with_reducible refine hnat.mono ?_
   rintro e w'' ⟨A2, c2, rfl, hn2, hb2'⟩
   clear hnat
   go_wp2
   go_ret2
   exact ⟨A1, c1, A2, c2, rfl, hn1.below hb2', hn2, hb1'.trans (hb2'.mono hb1'.size)⟩
  ·obtain ⟨j, rfl⟩ : ∃ j, gk = j + 1 := ⟨gk - 1, by omega⟩
   obtain rfl : z = (j : Int) := by omega
   clear hz
   have hj : j < l.length := by omega
   obtain ⟨b1, o1, hA0, hb, hcl⟩ := (h.below hbw).at_ (by omega)
   subst hA0
   have hc0 := hcl j hj
   rw [u32V_eq] at hc0
   have hx : l[j] < 4294967296 := hl.get j hj
   have hjQ : j < Q.length := by have := HQ.out; omega
   have hc1 := hA.cell j hjQ
   have hf1 := hA.frozen j
   clear hcl
   obtain ⟨X, hX⟩ : ∃ X, X = l[j] + 4294967296 * rr := ⟨_, rfl⟩
   have hor : bits .or .u64 ((rr : Int) * 4294967296) (l[j] : Int) = (X : Int) := by rw [or_u64' l[j] rr hx (by omega), hX]; simp
   have hX1 : X ≤ 18446744073709551615 := by omega
   have hq0 : X / b ≤ 4294967295 := by
    have : X / b < B32 := quot_lt (B := B32) (by rw [hX]; exact next_lt (B := B32) hrr hx)
    rw [B32_eq] at this
    omega
   have hq1 : (X : Int) / (b : Int) ≤ 4294967295 := by rw [← Int.natCast_ediv]; omega
   have hq2 : 0 ≤ (X : Int) / (b : Int) := Int.ediv_nonneg (Int.natCast_nonneg X) (Int.natCast_nonneg b)
   have HX := zq hX
   clear hX hq0
   go_wp2
   go_roundg j
   case measure => omega
   case rel => exact DwRel.step hj hrr hA HQ.out hLt hb2 HV.out hbw hwg HX.out hx rfl rfl rfl
theorem left_nat {x s h : Nat} (hs : s < 32) (hh : h < 2 ^ s) : (h ||| x * 2 ^ s % 4294967296) = h + x * 2 ^ s % 4294967296 ∧ h + x * 2 ^ s % 4294967296 < 4294967296 := by
 have e1 : (4294967296 : Nat) = 2 ^ (32 - s) * 2 ^ s := by rw [← Nat.pow_add, show 32 - s + s = 32 by omega]
 have e2 : x * 2 ^ s % 4294967296 = (x % 2 ^ (32 - s)) * 2 ^ s := by rw [e1, Nat.mul_mod_mul_right]
 have e3 := Nat.two_pow_add_eq_or_of_lt (i := s) (b := h) hh (x % 2 ^ (32 - s))
 have e4 : x % 2 ^ (32 - s) + 1 ≤ 2 ^ (32 - s) := Nat.mod_lt _ (Nat.two_pow_pos _)
 have e5 : (x % 2 ^ (32 - s) + 1) * 2 ^ s ≤ 2 ^ (32 - s) * 2 ^ s := Nat.mul_le_mul_right _ e4
 rw [← e1, Nat.add_mul, Nat.one_mul] at e5
 rw [e2]
 refine ⟨?_, by omega⟩
 rw [Nat.or_comm, Nat.mul_comm, ← e3, Nat.add_comm]
theorem left_or {x s h : Nat} (hs : s < 32) (hh : h < 2 ^ s) : bits .or .u32 (h : Int) (((x * 2 ^ s : Nat) : Int) % 4294967296) = ((h + x * 2 ^ s % 4294967296 : Nat) : Int) := by
 have e : (((x * 2 ^ s : Nat) : Int) % 4294967296) = ((x * 2 ^ s % 4294967296 : Nat) : Int) := rfl
 obtain ⟨h1, h2⟩ := left_nat (x := x) hs hh
 rw [e, u32_or_nat _ _ (by omega) (by omega), h1]
def LfRel (w : World) (g : Nat) (l : List Nat) (D : Nat) (m : Nat) (iv : Value) (wr : World) : Prop :=
 ∃ (k : Nat) (L : List Nat), k + m = l.length ∧ iv = .int .i64 k ∧ ArrU wr g L ∧ L.length = l.length + 1 ∧ WLt B32 L ∧ wval B32 L = wval B32 (l.take k) * D ∧ (∀ x (h : x < L.length), k + 1 ≤ x → L[x] = 0) ∧
  (∀ h : k < L.length, L[k] < D) ∧ Below w.heap.size w wr ∧ w.heap.size ≤ g
def GivesBlk (n v : Nat) (w : World) (e : Ending) (w' : World) : Prop :=
 ∃ g L, e = .returned (.slice (some ⟨g, 0, none⟩) n n) ∧ ArrU w' g L ∧ L.length = n ∧ WLt B32 L ∧ wval B32 L = v ∧ Below w.heap.size w w' ∧ w.heap.size ≤ g
theorem left_l (A : Option Addr) (c s : Nat) (l : List Nat) (w : World) (h : Wds w A l) (hl : WLt B32 l) (hn : l.length ≤ 900000) (hs : s < 32) :
  Calls Tryz.prog 214 #[.slice A l.length c, .int .u64 (s : Int)] w (GivesBlk (l.length + 1) (wval B32 l * 2 ^ s) w) := by
 have hmk : ∀ w : World, (Instr.makeSlice 171 (.int .i64 ((l.length : Int) + 1)) (.int .i64 ((l.length : Int) + 1))).run Tryz.prog w =
   .ok (.slice (some ⟨w.heap.size, 0, none⟩) (l.length + 1) (l.length + 1)) (w.alloc (.cells (Array.replicate (l.length + 1) (.int .u32 0)) 156)) := mk_nat (l.length + 1) (by omega)
 go_enter Tryz.func214, Tryz.ntmps214
 go_wp2
 clear hmk
 have hnew := ArrU.new w (l.length + 1)
 have hbel : Below w.heap.size w (w.alloc (.cells (Array.replicate (l.length + 1) (.int .u32 0)) 156)) := (Below.refl _ _).alloc (Nat.le_refl _) _
 obtain ⟨g, hg⟩ : ∃ g, g = w.heap.size := ⟨_, rfl⟩
 rw [← hg] at hnew
 obtain ⟨w1, hw1⟩ : ∃ w1, w1 = w.alloc (.cells (Array.replicate (l.length + 1) (.int .u32 0)) 156) := ⟨_, rfl⟩
 rw [← hw1] at hnew hbel
 rw [← hg, ← hw1]
 have HG := zq hg
 have HB := zq hbel
 clear hg hbel hw1
 obtain ⟨D, hD⟩ : ∃ D, D = 2 ^ s := ⟨_, rfl⟩
 have hD1 : 1 ≤ D := by rw [hD]; exact Nat.two_pow_pos s
 have HD := zq hD
 clear hD
 go_loopg [15] l.length (LfRel w g l D)
 case atStart => exact ⟨0, List.replicate (l.length + 1) 0, by omega, rfl, hnew, by simp, WLt.zeros B32_pos _, by rw [wval_zeros]; simp [wval], fun x hx _ => by simp, fun hx => by simp; omega, HB.out, by rw [HG.out]; exact Nat.le_refl _⟩
 case round =>
  obtain ⟨k, L, hkm, rfl, hA, hL, hLt, hV, hZ, hT, hbw, hwg⟩ := hrel
  have HM := zq hkm
  have HV := zq hV
  have HZ := zq hZ
  have HL := zq hL
  have HT := zq hT
  clear hkm hV hZ hL hT
  by_cases hlt : k < l.length
  ·have hkL : k < L.length := by have := HL.out; omega
   have hkL1 : k + 1 < L.length := by have := HL.out; omega
   obtain ⟨b, o, hA0, hb, hcl⟩ := (h.below hbw).at_ (by omega)
   subst hA0
   have hc0 := hcl k hlt
   rw [u32V_eq] at hc0
   have hx : l[k] < 4294967296 := hl.get k hlt
   have hc1 := hA.cell k hkL
   have hf1 := hA.frozen k
   have hc2 := hA.cell (k + 1) hkL1
   have hf2 := hA.frozen (k + 1)
   clear hcl
   have hh : L[k] < 2 ^ s := by have := HT.out hkL; rwa [HD.out] at this
   have hDB : D ≤ 2147483648 := by
    rw [HD.out]
    exact Nat.le_trans (Nat.pow_le_pow_right (by omega) (show s ≤ 31 by omega)) (by decide)
   obtain ⟨y, hy⟩ : ∃ y, y = l[k] * 2 ^ s := ⟨_, rfl⟩
   have hyB : y < 4294967296 * D := by rw [hy, HD.out]; exact Nat.mul_lt_mul_of_pos_right hx (Nat.two_pow_pos s)
   have hy2 : y ≤ 9223372036854775807 := by omega
   have hwr : IntKind.u64.wrap ((l[k] : Int) * 2 ^ s) = (y : Int) := by
    have e : (l[k] : Int) * 2 ^ s = (y : Int) := by rw [hy, Int.natCast_mul, Int.natCast_pow]; rfl
    rw [e]
    exact IntWalk.u64_in _ (by omega)
   obtain ⟨z, hz⟩ : ∃ z, z = L[k] + y % 4294967296 := ⟨_, rfl⟩
   have hor : bits .or .u32 (L[k] : Int) ((y : Int) % 4294967296) = (z : Int) := by rw [hz, hy]; exact left_or hs hh
   have hzB : z < 4294967296 := by rw [hz, hy]; exact (left_nat hs hh).2
   have HY := zq hy
   have HZ2 := zq hz
   have HH := zq hh
   have HYB := zq hyB
   clear hy hz hh hyB hDB
   go_wp2
   go_roundg (gk - 1)
   case measure => have := HM.out; omega
   case rel =>
    clear hor hwr
    refine ⟨k + 1, (L.set k z).set (k + 1) (y / 4294967296), by have := HM.out; omega, by go_num, (hA.set k z).set (k + 1) _, by simpa using HL.out, (hLt.set (by rw [B32_eq]; omega) k).set (by rw [B32_eq]; omega) _, ?_, fun i hi hki => ?_, fun hi => ?_, (hbw.setCell hwg _).setCell hwg _, hwg⟩
    ·have e1 := wval_set B32 L k z hkL
     have e2 := wval_set B32 (L.set k z) (k + 1) (y / 4294967296) (by simpa using hkL1)
     rw [List.getElem_set_ne (by omega), HZ.out (k + 1) hkL1 (Nat.le_refl _)] at e2
     rw [wval_take hlt, Nat.add_mul, ← HV.out]
     have e3 : B32 ^ k * (y % 4294967296) + B32 ^ (k + 1) * (y / 4294967296) = B32 ^ k * y := by
      rw [Nat.pow_succ, Nat.mul_assoc, ← Nat.mul_add, B32_eq, Nat.mod_add_div]
     have e4 : B32 ^ k * l[k] * D = B32 ^ k * y := by rw [Nat.mul_assoc, HY.out, HD.out]
     have e5 : B32 ^ k * z = B32 ^ k * L[k] + B32 ^ k * (y % 4294967296) := by rw [HZ2.out, Nat.mul_add]
     rw [e4]
     omega
    ·rw [List.getElem_set_ne (by omega), List.getElem_set_ne (by omega)]
     exact HZ.out i (by simpa using hi) (by omega)
    ·have h1 := HYB.out
     simp
     omega
  ·obtain rfl : k = l.length := by have := HM.out; omega
   have hVV := HV.out
   rw [List.take_of_length_le (Nat.le_refl _), HD.out] at hVV
   have HVV := zq hVV
   clear hVV
   go_wp2
   go_ret
   exact ⟨g, L, rfl, hA, HL.out, hLt, HVV.out, hbw, hwg⟩
end Go.Proofs.YtlcfgejaeecclaaGreatDoor
