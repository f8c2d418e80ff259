/- Package num: Add and sub. DERIVED: THE SHELF's CONTRACTS AT THIS DUMP, IN PLAIN WORDS (tools/lay-plain.mjs out of 'YtlcfgejaeecclaaGreatDoorNumLay.lean', which tools/lay-shelf.mjs wrote): THE SAME DECLARATIONS UNDER THE SAME NAMES: 'import', 'namespace', 'open', 'def', 'theorem' AND NOTHING ELSE: no command of the shelf's: FOR A HAND-IN. Each laying: the table of numbers ('.._ren') and one theorem, a field a fact of the dump's own or the kernel's comparison; each contract: ONE APPLICATION. Package num: Mul. -/
import Derived.Test.YtlcfgejaeecclaaGreatDoorJq11
import Derived.Test.YtlcfgejaeecclaaGreatDoorProg
import Derived.Ground.NamesProg
import Derived.Shelf.Small.Bits
import Derived.Shelf.Bits.Mul64
namespace Go.Proofs.YtlcfgejaeecclaaGreatDoor
open Go.RowKit Dw

/-- A round of Add: k words are done, L is what the block holds, cy is the carry. -/
def AddRel (w : World) (g : Nat) (l r : List Nat) (m : Nat) (cv iv : Value) (wr : World) : Prop :=
  ∃ (k cy : Nat) (L : List Nat), k + m = l.length ∧ iv = .int .i64 k ∧ cv = .int .u64 (cy : Int) ∧ cy ≤ 1 ∧ ArrU wr g L ∧ L.length = l.length + 1 ∧ WLt B32 L ∧
    wval B32 (L.take k) + B32 ^ k * cy = wval B32 (l.take k) + wval B32 (r.take k) ∧ (∀ x (h : x < L.length), k ≤ x → L[x] = 0) ∧ Below w.heap.size w wr ∧ w.heap.size ≤ g
/-- One word more of a block: the values of what stands. -/
theorem wval_put {L : List Nat} {k x : Nat} (h : k < L.length) : wval B32 ((L.set k x).take (k + 1)) = wval B32 (L.take k) + B32 ^ k * x := by
  rw [take_set_succ L k x h, wval_append, wval_one, List.length_take, Nat.min_eq_left (by omega)]
theorem zeros_set {L : List Nat} {k x : Nat} (h : ∀ i (h : i < L.length), k ≤ i → L[i] = 0) : ∀ i (h : i < (L.set k x).length), k + 1 ≤ i → (L.set k x)[i] = 0 := fun i hi hk => by
  rw [List.getElem_set_ne (by omega)]
  exact h i (by simpa using hi) (by omega)
theorem modB (s : Nat) : s % 4294967296 < B32 := Nat.mod_lt _ (by decide)
theorem AddRel.step {w wr : World} {g : Nat} {l r L : List Nat} {k cy gk s y : Nat} (hkm : k + gk = l.length) (hlt : k < l.length) (hA : ArrU wr g L) (hL : L.length = l.length + 1) (hLt : WLt B32 L)
    (hV : wval B32 (L.take k) + B32 ^ k * cy = wval B32 (l.take k) + wval B32 (r.take k)) (hZ : ∀ x (h : x < L.length), k ≤ x → L[x] = 0) (hbw : Below w.heap.size w wr) (hwg : w.heap.size ≤ g)
    (hy : wval B32 (r.take (k + 1)) = wval B32 (r.take k) + B32 ^ k * y) (hs : s = cy + l[k] + y) (hs2 : s ≤ 8589934591) {cv iv mv : Value} (hc : cv = .int .u64 ((s / 4294967296 : Nat) : Int)) (hi : iv = .int .i64 ((k : Int) + 1)) (hm : mv = .int .u32 ((s % 4294967296 : Nat) : Int)) :
    AddRel w g l r (gk - 1) cv iv (wr.setCell ⟨g, k, none⟩ mv) := by
  subst hc hi hm
  refine ⟨k + 1, s / 4294967296, L.set k (s % 4294967296), by omega, by go_num, rfl, by omega, hA.set k _, by simpa using hL, hLt.set (modB s) k, ?_, zeros_set hZ, hbw.setCell hwg _, hwg⟩
  rw [wval_put (by omega), hy, wval_take hlt]
  exact add_col hV hs
set_option maxRecDepth 100000 in
set_option maxHeartbeats 1000000 in
theorem Add_l (A A2 : Option Addr) (c c2 : Nat) (l r : List Nat) (w : World) (h : Wds w A l) (h2 : Wds w A2 r) (hl : WLt B32 l) (hr : WLt B32 r) (hn : l.length ≤ 900000) (he : r.length ≤ l.length) :
    Calls Tryz.prog 201 #[.slice A l.length c, .slice A2 r.length c2] w (GivesN (wval B32 l + wval B32 r) w) := by
  have hltb : decide (l.length < r.length) = false := decide_eq_false (by omega)
  have hmk : ∀ w : World, (Instr.makeSlice 171 (.int .i64 ((l.length : Int) + 1)) (.int .i64 ((l.length : Int) + 1))).run Tryz.prog w = .ok (.slice (some ⟨w.heap.size, 0, none⟩) (l.length + 1) (l.length + 1)) (w.alloc (.cells (Array.replicate (l.length + 1) (.int .u32 0)) 156)) := mk_nat (l.length + 1) (by omega)
  go_enter Tryz.func201, Tryz.ntmps201
  go_wp2
  clear hmk
  have hnew := ArrU.new w (l.length + 1)
  have hbel : Below w.heap.size w (w.alloc (.cells (Array.replicate (l.length + 1) (.int .u32 0)) 156)) := (Below.refl _ _).alloc (Nat.le_refl _) _
  obtain ⟨g, hg⟩ : ∃ g, g = w.heap.size := ⟨_, rfl⟩
  rw [← hg] at hnew
  obtain ⟨w1, hw1⟩ : ∃ w1, w1 = w.alloc (.cells (Array.replicate (l.length + 1) (.int .u32 0)) 156) := ⟨_, rfl⟩
  rw [← hw1] at hnew hbel
  rw [← hg, ← hw1]
  have HG := Lib.hid hg
  have HB := Lib.hid hbel
  clear hg hbel hw1
  go_loopg [6, 21] l.length (AddRel w g l r)
  case atStart => exact ⟨0, 0, List.replicate (l.length + 1) 0, by omega, rfl, rfl, by omega, hnew, by simp, WLt.zeros B32_pos _, by simp [wval], fun x hx _ => by simp, HB.out, by rw [HG.out]; exact Nat.le_refl _⟩
  case round =>
    obtain ⟨k, cy, L, hkm, rfl, rfl, hcy, hA, hL, hLt, hV, hZ, hbw, hwg⟩ := hrel
    have HM := Lib.hid hkm
    have HV := Lib.hid hV
    have HZ := Lib.hid hZ
    have HL := Lib.hid hL
    clear hkm hV hZ hL
    by_cases hlt : k < l.length
    · have hkL : k < L.length := by have := HL.out; omega
      obtain ⟨b, o, hA0, hb, hcl⟩ := (h.below hbw).at_ (by omega)
      subst hA0
      have hc0 := hcl k hlt
      rw [u32V_eq] at hc0
      have hx : l[k] < 4294967296 := hl.get k hlt
      have hc1 := hA.cell k hkL
      have hf1 := hA.frozen k
      clear hcl
      by_cases hlr : k < r.length
      · obtain ⟨b2, o2, hA2, hb2, hcl2⟩ := (h2.below hbw).at_ (by omega)
        subst hA2
        have hc2 := hcl2 k hlr
        rw [u32V_eq] at hc2
        have hy : r[k] < 4294967296 := hr.get k hlr
        clear hcl2
        go_wp2
        go_roundg (gk - 1)
        case measure => have := HM.out; omega
        case rel => exact AddRel.step HM.out hlt hA HL.out hLt HV.out HZ.out hbw hwg (wval_take hlr) rfl (by omega) (by simp) rfl (by simp)
      · have HR : Hid (wval B32 (r.take (k + 1)) = wval B32 (r.take k) + B32 ^ k * 0) := by
          show wval B32 (r.take (k + 1)) = wval B32 (r.take k) + B32 ^ k * 0
          rw [List.take_of_length_le (by omega), List.take_of_length_le (by omega)]; simp
        go_wp2
        go_roundg (gk - 1)
        case measure => have := HM.out; omega
        case rel => exact AddRel.step HM.out hlt hA HL.out hLt HV.out HZ.out hbw hwg HR.out (s := cy + l[k]) rfl (by omega) (by simp) rfl (by simp)
    · obtain rfl : k = l.length := by have := HM.out; omega
      have hkL : l.length < L.length := by have := HL.out; omega
      have hc1 := hA.cell l.length hkL
      have hf1 := hA.frozen l.length
      go_wp2_with fail
      have HT : Hid (wval B32 (L.set l.length cy) = wval B32 l + wval B32 r) := by
        have e : L.set l.length cy = (L.set l.length cy).take (l.length + 1) := by rw [List.take_of_length_le (by rw [List.length_set, HL.out]; omega)]
        show wval B32 (L.set l.length cy) = _
        rw [e, wval_put hkL]
        have := HV.out
        rwa [List.take_of_length_le (Nat.le_refl _), List.take_of_length_le he] at this
      have hA2 := hA.set l.length cy
      have hl2 : (L.set l.length cy).length = l.length + 1 := by rw [List.length_set, HL.out]
      rw [← hl2]
      with_reducible refine (trim_n _ _ (L.set l.length cy) _ w (by omega) (Nat.le_refl _) (by have := hA2.rd (L.set l.length cy).length; rwa [List.take_length] at this) (hLt.set (by rw [B32_eq]; omega) _) (hbw.setCell hwg _) HT.out).mono ?_
      rintro e w' ⟨A, c, rfl, hn, hb⟩
      clear hl2 hA2
      go_wp2
      go_ret
      exact ⟨A, c, rfl, hn, hb⟩
set_option maxRecDepth 100000 in
set_option maxHeartbeats 1000000 in
theorem Add_s (A A2 : Option Addr) (c c2 : Nat) (l r : List Nat) (w : World) (h : Wds w A l) (h2 : Wds w A2 r) (hl : WLt B32 l) (hr : WLt B32 r) (hn : l.length ≤ 900000) (he : r.length < l.length) :
    Calls Tryz.prog 201 #[.slice A2 r.length c2, .slice A l.length c] w (GivesN (wval B32 l + wval B32 r) w) := by
  have hltb : decide (r.length < l.length) = true := decide_eq_true he
  have hmk : ∀ w : World, (Instr.makeSlice 171 (.int .i64 ((l.length : Int) + 1)) (.int .i64 ((l.length : Int) + 1))).run Tryz.prog w = .ok (.slice (some ⟨w.heap.size, 0, none⟩) (l.length + 1) (l.length + 1)) (w.alloc (.cells (Array.replicate (l.length + 1) (.int .u32 0)) 156)) := mk_nat (l.length + 1) (by omega)
  go_enter Tryz.func201, Tryz.ntmps201
  go_wp2
  clear hmk
  have hnew := ArrU.new w (l.length + 1)
  have hbel : Below w.heap.size w (w.alloc (.cells (Array.replicate (l.length + 1) (.int .u32 0)) 156)) := (Below.refl _ _).alloc (Nat.le_refl _) _
  obtain ⟨g, hg⟩ : ∃ g, g = w.heap.size := ⟨_, rfl⟩
  rw [← hg] at hnew
  obtain ⟨w1, hw1⟩ : ∃ w1, w1 = w.alloc (.cells (Array.replicate (l.length + 1) (.int .u32 0)) 156) := ⟨_, rfl⟩
  rw [← hw1] at hnew hbel
  rw [← hg, ← hw1]
  have HG := Lib.hid hg
  have HB := Lib.hid hbel
  clear hg hbel hw1
  go_loopg [6, 21] l.length (AddRel w g l r)
  case atStart => exact ⟨0, 0, List.replicate (l.length + 1) 0, by omega, rfl, rfl, by omega, hnew, by simp, WLt.zeros B32_pos _, by simp [wval], fun x hx _ => by simp, HB.out, by rw [HG.out]; exact Nat.le_refl _⟩
  case round =>
    obtain ⟨k, cy, L, hkm, rfl, rfl, hcy, hA, hL, hLt, hV, hZ, hbw, hwg⟩ := hrel
    have HM := Lib.hid hkm
    have HV := Lib.hid hV
    have HZ := Lib.hid hZ
    have HL := Lib.hid hL
    clear hkm hV hZ hL
    by_cases hlt : k < l.length
    · have hkL : k < L.length := by have := HL.out; omega
      obtain ⟨b, o, hA0, hb, hcl⟩ := (h.below hbw).at_ (by omega)
      subst hA0
      have hc0 := hcl k hlt
      rw [u32V_eq] at hc0
      have hx : l[k] < 4294967296 := hl.get k hlt
      have hc1 := hA.cell k hkL
      have hf1 := hA.frozen k
      clear hcl
      by_cases hlr : k < r.length
      · obtain ⟨b2, o2, hA2, hb2, hcl2⟩ := (h2.below hbw).at_ (by omega)
        subst hA2
        have hc2 := hcl2 k hlr
        rw [u32V_eq] at hc2
        have hy : r[k] < 4294967296 := hr.get k hlr
        clear hcl2
        go_wp2
        go_roundg (gk - 1)
        case measure => have := HM.out; omega
        case rel => exact AddRel.step HM.out hlt hA HL.out hLt HV.out HZ.out hbw hwg (wval_take hlr) rfl (by omega) (by simp) rfl (by simp)
      · have HR : Hid (wval B32 (r.take (k + 1)) = wval B32 (r.take k) + B32 ^ k * 0) := by
          show wval B32 (r.take (k + 1)) = wval B32 (r.take k) + B32 ^ k * 0
          rw [List.take_of_length_le (by omega), List.take_of_length_le (by omega)]; simp
        go_wp2
        go_roundg (gk - 1)
        case measure => have := HM.out; omega
        case rel => exact AddRel.step HM.out hlt hA HL.out hLt HV.out HZ.out hbw hwg HR.out (s := cy + l[k]) rfl (by omega) (by simp) rfl (by simp)
    · obtain rfl : k = l.length := by have := HM.out; omega
      have hkL : l.length < L.length := by have := HL.out; omega
      have hc1 := hA.cell l.length hkL
      have hf1 := hA.frozen l.length
      go_wp2_with fail
      have HT : Hid (wval B32 (L.set l.length cy) = wval B32 l + wval B32 r) := by
        have e : L.set l.length cy = (L.set l.length cy).take (l.length + 1) := by rw [List.take_of_length_le (by rw [List.length_set, HL.out]; omega)]
        show wval B32 (L.set l.length cy) = _
        rw [e, wval_put hkL]
        have := HV.out
        rwa [List.take_of_length_le (Nat.le_refl _), List.take_of_length_le (Nat.le_of_lt he)] at this
      have hA2 := hA.set l.length cy
      have hl2 : (L.set l.length cy).length = l.length + 1 := by rw [List.length_set, HL.out]
      rw [← hl2]
      with_reducible refine (trim_n _ _ (L.set l.length cy) _ w (by omega) (Nat.le_refl _) (by have := hA2.rd (L.set l.length cy).length; rwa [List.take_length] at this) (hLt.set (by rw [B32_eq]; omega) _) (hbw.setCell hwg _) HT.out).mono ?_
      rintro e w' ⟨A, c, rfl, hn, hb⟩
      clear hl2 hA2
      go_wp2
      go_ret
      exact ⟨A, c, rfl, hn, hb⟩
theorem Add_c (A A2 : Option Addr) (c c2 a b : Nat) (w : World) (h : Nt w A c a) (h2 : Nt w A2 c2 b) (hn : (words B32 a).length ≤ 900000) (hm : (words B32 b).length ≤ 900000) :
    Calls Tryz.prog 201 #[ntV A c a, ntV A2 c2 b] w (GivesN (a + b) w) := by
  have e1 := wval_words B32_gt a
  have e2 := wval_words B32_gt b
  rcases Nat.lt_or_ge (words B32 a).length (words B32 b).length with h1 | h1
  · have := Add_s A2 A c2 c (words B32 b) (words B32 a) w h2.rd h.rd (words_lt B32_gt b) (words_lt B32_gt a) hm h1
    rw [e1, e2, Nat.add_comm] at this
    exact this
  · have := Add_l A A2 c c2 (words B32 a) (words B32 b) w h.rd h2.rd (words_lt B32_gt a) (words_lt B32_gt b) hn h1
    rw [e1, e2] at this
    exact this

/-- A round of sub. -/
def SubRel (w : World) (g : Nat) (l r : List Nat) (m : Nat) (cv iv : Value) (wr : World) : Prop :=
  ∃ (k : Nat) (cy : Int) (L : List Nat), k + m = l.length ∧ iv = .int .i64 k ∧ cv = .int .i64 cy ∧ -1 ≤ cy ∧ cy ≤ 0 ∧ ArrU wr g L ∧ L.length = l.length ∧ WLt B32 L ∧
    (wval B32 (L.take k) : Int) + (B32 : Int) ^ k * cy = (wval B32 (l.take k) : Int) - (wval B32 (r.take k) : Int) ∧ Below w.heap.size w wr ∧ w.heap.size ≤ g
theorem SubRel.step {w wr : World} {g : Nat} {l r L : List Nat} {k gk y : Nat} {cy s : Int} (hkm : k + gk = l.length) (hlt : k < l.length) (hA : ArrU wr g L) (hL : L.length = l.length) (hLt : WLt B32 L)
    (hV : (wval B32 (L.take k) : Int) + (B32 : Int) ^ k * cy = (wval B32 (l.take k) : Int) - (wval B32 (r.take k) : Int)) (hbw : Below w.heap.size w wr) (hwg : w.heap.size ≤ g)
    (hy : wval B32 (r.take (k + 1)) = wval B32 (r.take k) + B32 ^ k * y) (hs : s = cy + l[k] - y) (hs1 : -4294967296 ≤ s) (hs2 : s ≤ 4294967295) {cv iv mv : Value} (hc : cv = .int .i64 (s / 4294967296)) (hi : iv = .int .i64 ((k : Int) + 1)) (hm : mv = .int .u32 (s % 4294967296)) :
    SubRel w g l r (gk - 1) cv iv (wr.setCell ⟨g, k, none⟩ mv) := by
  have hx : ((s % 4294967296).toNat : Int) = s % 4294967296 := Int.toNat_of_nonneg (by omega)
  rw [← hx] at hm
  subst hc hi hm
  refine ⟨k + 1, s / 4294967296, L.set k (s % 4294967296).toNat, by omega, by go_num, rfl, by omega, by omega, hA.set k _, by simpa using hL, hLt.set (by rw [B32_eq]; omega) k, ?_, hbw.setCell hwg _, hwg⟩
  rw [wval_put (by omega), hy, wval_take hlt]
  have := sub_col hV hs
  simp only [Int.natCast_add, Int.natCast_mul, Int.natCast_pow, hx]
  exact this
set_option maxRecDepth 100000 in
set_option maxHeartbeats 1000000 in
theorem sub_l (A A2 : Option Addr) (c c2 : Nat) (l r : List Nat) (w : World) (h : Wds w A l) (h2 : Wds w A2 r) (hl : WLt B32 l) (hr : WLt B32 r) (hn : l.length ≤ 900000) (he : r.length ≤ l.length) (hv : wval B32 r ≤ wval B32 l) :
    Calls Tryz.prog 202 #[.slice A l.length c, .slice A2 r.length c2] w (GivesN (wval B32 l - wval B32 r) w) := by
  have hmk : ∀ w : World, (Instr.makeSlice 171 (.int .i64 (l.length : Int)) (.int .i64 (l.length : Int))).run Tryz.prog w = .ok (.slice (some ⟨w.heap.size, 0, none⟩) l.length l.length) (w.alloc (.cells (Array.replicate l.length (.int .u32 0)) 156)) := mk_nat l.length (by omega)
  have HVL := Lib.hid hv
  clear hv
  go_enter Tryz.func202, Tryz.ntmps202
  go_wp2
  clear hmk
  have hnew := ArrU.new w l.length
  have hbel : Below w.heap.size w (w.alloc (.cells (Array.replicate l.length (.int .u32 0)) 156)) := (Below.refl _ _).alloc (Nat.le_refl _) _
  obtain ⟨g, hg⟩ : ∃ g, g = w.heap.size := ⟨_, rfl⟩
  rw [← hg] at hnew
  obtain ⟨w1, hw1⟩ : ∃ w1, w1 = w.alloc (.cells (Array.replicate l.length (.int .u32 0)) 156) := ⟨_, rfl⟩
  rw [← hw1] at hnew hbel
  rw [← hg, ← hw1]
  have HG := Lib.hid hg
  have HB := Lib.hid hbel
  clear hg hbel hw1
  go_loopg [6, 13] l.length (SubRel w g l r)
  case atStart => exact ⟨0, 0, List.replicate l.length 0, by omega, rfl, rfl, by omega, by omega, hnew, by simp, WLt.zeros B32_pos _, by simp [wval], HB.out, by rw [HG.out]; exact Nat.le_refl _⟩
  case round =>
    obtain ⟨k, cy, L, hkm, rfl, rfl, hcy1, hcy2, hA, hL, hLt, hV, hbw, hwg⟩ := hrel
    have HM := Lib.hid hkm
    have HV := Lib.hid hV
    have HL := Lib.hid hL
    clear hkm hV hL
    by_cases hlt : k < l.length
    · have hkL : k < L.length := by have := HL.out; omega
      obtain ⟨b, o, hA0, hb, hcl⟩ := (h.below hbw).at_ (by omega)
      subst hA0
      have hc0 := hcl k hlt
      rw [u32V_eq] at hc0
      have hx : l[k] < 4294967296 := hl.get k hlt
      have hc1 := hA.cell k hkL
      have hf1 := hA.frozen k
      clear hcl
      by_cases hlr : k < r.length
      · obtain ⟨b2, o2, hA2, hb2, hcl2⟩ := (h2.below hbw).at_ (by omega)
        subst hA2
        have hc2 := hcl2 k hlr
        rw [u32V_eq] at hc2
        have hy : r[k] < 4294967296 := hr.get k hlr
        clear hcl2
        go_wp2
        go_roundg (gk - 1)
        case measure => have := HM.out; omega
        case rel => exact SubRel.step HM.out hlt hA HL.out hLt HV.out hbw hwg (wval_take hlr) rfl (by omega) (by omega) rfl rfl rfl
      · have HR : Hid (wval B32 (r.take (k + 1)) = wval B32 (r.take k) + B32 ^ k * 0) := by
          show wval B32 (r.take (k + 1)) = wval B32 (r.take k) + B32 ^ k * 0
          rw [List.take_of_length_le (by omega), List.take_of_length_le (by omega)]; simp
        go_wp2
        go_roundg (gk - 1)
        case measure => have := HM.out; omega
        case rel => exact SubRel.step HM.out hlt hA HL.out hLt HV.out hbw hwg HR.out (s := cy + l[k]) (by simp) (by omega) (by omega) rfl rfl rfl
    · obtain rfl : k = l.length := by have := HM.out; omega
      go_wp2_with fail
      have HT : Hid (wval B32 L = wval B32 l - wval B32 r) := by
        show wval B32 L = _
        have h1 := HV.out
        rw [List.take_of_length_le (by rw [HL.out]; omega), List.take_of_length_le (Nat.le_refl _), List.take_of_length_le he] at h1
        have h2 := HVL.out
        have h3 := wval_lt hLt
        rw [HL.out] at h3
        have h4 : (wval B32 L : Int) < (B32 : Int) ^ l.length := by rw [← Int.natCast_pow]; omega
        have h5 : cy = 0 ∨ cy = -1 := by omega
        rcases h5 with rfl | rfl
        · omega
        · omega
      have hl2 := HL.out
      rw [← hl2]
      with_reducible refine (trim_n _ _ L _ w (by omega) (Nat.le_refl _) (by have := hA.rd L.length; rwa [List.take_length] at this) hLt hbw HT.out).mono ?_
      rintro e w' ⟨A, c, rfl, hn, hb⟩
      clear hl2
      go_wp2
      go_ret
      exact ⟨A, c, rfl, hn, hb⟩
theorem sub_c (A A2 : Option Addr) (c c2 a b : Nat) (w : World) (h : Nt w A c a) (h2 : Nt w A2 c2 b) (hn : (words B32 a).length ≤ 900000) (hv : b ≤ a) :
    Calls Tryz.prog 202 #[ntV A c a, ntV A2 c2 b] w (GivesN (a - b) w) := by
  have e1 := wval_words B32_gt a
  have e2 := wval_words B32_gt b
  have := sub_l A A2 c c2 (words B32 a) (words B32 b) w h.rd h2.rd (words_lt B32_gt a) (words_lt B32_gt b) hn (len_le_of_le B32_gt hv) (by rw [e1, e2]; exact hv)
  rw [e1, e2] at this
  exact this
end Go.Proofs.YtlcfgejaeecclaaGreatDoor

namespace Go.Proofs
open Go.Shelf
def Tryz.lays133_ren : Go.Shelf.Ren := ⟨fun | 133 => 213 | 128 => 95 | n => n, fun | 51 => 156 | 3 => 3 | 4 => 4 | 46 => 123 | 5 => 5 | 9 => 9 | n => n, fun | n => n⟩
theorem Tryz.lays133 : Go.Proofs.Lays.n133 Tryz.prog Tryz.lays133_ren := {
  mixed := by kernel_rfl
  f128 := Tryz.func95.trans (congrArg some (by kernel_rfl))
  f133 := Tryz.func213.trans (congrArg some (by kernel_rfl))
  t3 := Tryz.underlying3
  a3 := Tryz.isAgg3
  z3 := Tryz.sizeOf3
  v3 := Tryz.zeroValue3
  t4 := Tryz.underlying4
  a4 := Tryz.isAgg4
  z4 := Tryz.sizeOf4
  v4 := Tryz.zeroValue4
  t5 := Tryz.underlying5
  a5 := Tryz.isAgg5
  z5 := Tryz.sizeOf5
  v5 := Tryz.zeroValue5
  t9 := Tryz.underlying9
  a9 := Tryz.isAgg9
  z9 := Tryz.sizeOf9
  v9 := Tryz.zeroValue9
  t46 := Tryz.underlying123
  a46 := Tryz.isAgg123
  z46 := Tryz.sizeOf123
  v46 := Tryz.zeroValue123
  t51 := Tryz.underlying156
  a51 := Tryz.isAgg156
  z51 := Tryz.sizeOf156
  v51 := Tryz.zeroValue156 }
def Tryz.lays264_ren : Go.Shelf.Ren := ⟨fun | 264 => 198 | n => n, fun | 53 => 158 | 46 => 123 | n => n, fun | n => n⟩
theorem Tryz.lays264 : Go.Proofs.Lays.n264 Tryz.prog Tryz.lays264_ren := {
  mixed := by kernel_rfl
  f264 := Tryz.func198.trans (congrArg some (by kernel_rfl))
  t46 := Tryz.underlying123
  a46 := Tryz.isAgg123
  z46 := Tryz.sizeOf123
  v46 := Tryz.zeroValue123
  t53 := Tryz.underlying158
  a53 := Tryz.isAgg158
  z53 := Tryz.sizeOf158
  v53 := Tryz.zeroValue158 }
end Go.Proofs

namespace Go.Proofs.YtlcfgejaeecclaaGreatDoor
open Go.RowKit Dw

theorem small_yes (A : Option Addr) (c n : Nat) (w : World) (h : Nt w A c n) (hn : (words B32 n).length ≤ 2) : Calls Tryz.prog 197 #[ntV A c n] w (GivesD (.tuple #[.int .u64 (n : Int), .bool true]) w) := by
  have := small_c A c n w h (by omega)
  unfold smV at this
  rw [if_pos hn, decide_eq_true hn] at this
  exact this
theorem small_no (A : Option Addr) (c n : Nat) (w : World) (h : Nt w A c n) (hn : 2 < (words B32 n).length) (hm : (words B32 n).length ≤ 1000000) : Calls Tryz.prog 197 #[ntV A c n] w (GivesD (.tuple #[.int .u64 0, .bool false]) w) := by
  have := small_c A c n w h hm
  unfold smV at this
  rw [if_neg (by omega), decide_eq_false (by omega)] at this
  exact this
theorem small_lt {n : Nat} (hn : (words B32 n).length ≤ 2) : n ≤ 18446744073709551615 := by
  have h1 := words_len B32_gt n
  have h2 : B32 ^ (words B32 n).length ≤ B32 ^ 2 := Nat.pow_le_pow_right B32_pos hn
  have h3 : B32 ^ 2 = 18446744073709551616 := by decide
  omega
/-- What bits.Mul64 answers. -/
def GivesM (x y : Nat) (w : World) (e : Ending) (w' : World) : Prop :=
  ∃ hi lo : Nat, e = .returned (.tuple #[.int .u64 (hi : Int), .int .u64 (lo : Int)]) ∧ hi ≤ 18446744073709551615 ∧ lo ≤ 18446744073709551615 ∧ Hid (x * y = lo + 18446744073709551616 * hi) ∧ w = w'
theorem mul64_c (x y : Nat) (w : World) (hx : x ≤ 18446744073709551615) (hy : y ≤ 18446744073709551615) : Calls Tryz.prog 198 #[.int .u64 (x : Int), .int .u64 (y : Int)] w (GivesM x y w) := by
  have h := Any.bits_Mul64 Tryz.lays264 x y (by omega) (by omega) w
  change Calls Tryz.prog 198 _ _ _ at h
  refine h.mono fun e w' ⟨he, hw⟩ => ⟨_, _, he, ?_, ?_, ?_, hw.symm⟩
  · have h1 : x * y ≤ 18446744073709551615 * 18446744073709551615 := Nat.mul_le_mul hx hy
    generalize x * y = p at *
    omega
  · omega
  · show x * y = _
    generalize x * y = p at *
    omega
theorem trim4 (hi lo nd : Nat) (w : World) (h1 : hi ≤ 18446744073709551615) (h2 : lo ≤ 18446744073709551615) {n : Nat} (hv : n = lo + 18446744073709551616 * hi) : Calls Tryz.prog 199 #[.slice (some ⟨w.heap.size, 0, none⟩) 4 4]
    ((w.drewN nd).alloc (.cells #[.int .u32 ((lo : Int) % 4294967296), .int .u32 ((lo : Int) / 4294967296), .int .u32 ((hi : Int) % 4294967296), .int .u32 ((hi : Int) / 4294967296)] 156)) (GivesN n w) :=
  trim_n _ 4 [lo % 4294967296, lo / 4294967296, hi % 4294967296, hi / 4294967296] _ w (by simp) (by simp) (wds_new (w.drewN nd) _ _ (by simp [u32V]))
    (WLt.cons (by rw [B32_eq]; omega) (WLt.cons (by rw [B32_eq]; omega) (WLt.cons (by rw [B32_eq]; omega) (WLt.cons (by rw [B32_eq]; omega) WLt.nil)))) ((below_drewN (Below.refl _ _) nd).alloc (Nat.le_refl _) _) (by
      rw [hv]; simp [wval, B32_eq]; omega)

/-- An outer round of Mul. -/
def MulRel (w : World) (g : Nat) (l r : List Nat) (m : Nat) (iv : Value) (wr : World) : Prop :=
  ∃ (k : Nat) (L : List Nat), k + m = l.length ∧ iv = .int .i64 k ∧ ArrU wr g L ∧ L.length = l.length + r.length ∧ WLt B32 L ∧ wval B32 L = wval B32 (l.take k) * wval B32 r ∧
    (∀ x (h : x < L.length), k + r.length ≤ x → L[x] = 0) ∧ Below w.heap.size w wr ∧ w.heap.size ≤ g
/-- An inner round of Mul. -/
def MulRel2 (w : World) (g : Nat) (l r : List Nat) (k x : Nat) (m : Nat) (cv jv : Value) (wr : World) : Prop :=
  ∃ (j cy : Nat) (L : List Nat), j + m = r.length ∧ jv = .int .i64 j ∧ cv = .int .u64 (cy : Int) ∧ cy ≤ 4294967295 ∧ ArrU wr g L ∧ L.length = l.length + r.length ∧ WLt B32 L ∧
    wval B32 L + B32 ^ (k + j) * cy = wval B32 (l.take k) * wval B32 r + B32 ^ k * (x * wval B32 (r.take j)) ∧ (∀ x (h : x < L.length), k + r.length ≤ x → L[x] = 0) ∧ Below w.heap.size w wr ∧ w.heap.size ≤ g
theorem MulRel2.step {w wr : World} {g : Nat} {l r L : List Nat} {k x j cy gk t : Nat} (hkm : j + gk = r.length) (hlt : j < r.length) (hk : k < l.length) (hcy : cy ≤ 4294967295) (hx : x ≤ 4294967295) (hA : ArrU wr g L) (hL : L.length = l.length + r.length) (hr : WLt B32 r) (hLt : WLt B32 L)
    (hV : wval B32 L + B32 ^ (k + j) * cy = wval B32 (l.take k) * wval B32 r + B32 ^ k * (x * wval B32 (r.take j))) (hZ : ∀ x (h : x < L.length), k + r.length ≤ x → L[x] = 0) (hbw : Below w.heap.size w wr) (hwg : w.heap.size ≤ g)
    (ht : t = cy + (x * r[j] + L[k + j])) {cv iv mv : Value} (hc : cv = .int .u64 ((t / 4294967296 : Nat) : Int)) (hi : iv = .int .i64 ((j : Int) + 1)) (hm : mv = .int .u32 ((t % 4294967296 : Nat) : Int)) :
    MulRel2 w g l r k x (gk - 1) cv iv (wr.setCell ⟨g, k + j, none⟩ mv) := by
  subst hc hi hm
  have hy : r[j] ≤ 4294967295 := by have := hr.get j hlt; rw [B32_eq] at this; omega
  have hz : L[k + j] ≤ 4294967295 := by have := hLt.get (k + j) (by omega); rw [B32_eq] at this; omega
  have hxy : x * r[j] ≤ 4294967295 * 4294967295 := Nat.mul_le_mul hx hy
  refine ⟨j + 1, t / 4294967296, L.set (k + j) (t % 4294967296), by omega, by go_num, rfl, by rw [ht]; generalize x * r[j] = p at *; omega, hA.set (k + j) _, by simpa using hL, hLt.set (modB t) _, ?_, fun i hi hki => ?_, hbw.setCell hwg _, hwg⟩
  · have e1 := wval_set B32 L (k + j) (t % 4294967296) (by omega)
    rw [wval_take hlt]
    have e2 : B32 ^ (k + j) * (t % 4294967296) + B32 ^ (k + (j + 1)) * (t / 4294967296) = B32 ^ (k + j) * t := by
      rw [show k + (j + 1) = (k + j) + 1 by omega, Nat.pow_succ, Nat.mul_assoc, ← Nat.mul_add, B32_eq, Nat.mod_add_div]
    have e3 : B32 ^ (k + j) * t = B32 ^ (k + j) * cy + B32 ^ (k + j) * (x * r[j]) + B32 ^ (k + j) * L[k + j] := by
      rw [ht, Nat.mul_add, Nat.mul_add, Nat.add_assoc]
    have e4 : B32 ^ k * (x * (wval B32 (r.take j) + B32 ^ j * r[j])) = B32 ^ k * (x * wval B32 (r.take j)) + B32 ^ (k + j) * (x * r[j]) := by
      rw [Nat.mul_add, Nat.mul_add, Nat.pow_add, Nat.mul_left_comm x, Nat.mul_assoc]
    rw [e4]
    omega
  · rw [List.getElem_set_ne (by omega)]
    exact hZ i (by simpa using hi) (by omega)
theorem MulRel.next {w wr : World} {g : Nat} {l r L : List Nat} {k cy gk : Nat} (hkm : k + 1 + gk = l.length) (hlt : k < l.length) (hcy : cy ≤ 4294967295) (hA : ArrU wr g L) (hL : L.length = l.length + r.length) (hLt : WLt B32 L)
    (hV : wval B32 L + B32 ^ (k + r.length) * cy = wval B32 (l.take k) * wval B32 r + B32 ^ k * (l[k] * wval B32 (r.take r.length))) (hZ : ∀ x (h : x < L.length), k + r.length ≤ x → L[x] = 0) (hbw : Below w.heap.size w wr) (hwg : w.heap.size ≤ g)
    {iv mv : Value} (hi : iv = .int .i64 ((k : Int) + 1)) (hm : mv = .int .u32 (cy : Int)) :
    MulRel w g l r gk iv (wr.setCell ⟨g, k + r.length, none⟩ mv) := by
  subst hi hm
  refine ⟨k + 1, L.set (k + r.length) cy, by omega, by go_num, hA.set _ _, by simpa using hL, hLt.set (by rw [B32_eq]; omega) _, ?_, fun i hi hki => ?_, hbw.setCell hwg _, hwg⟩
  · have e1 := wval_set B32 L (k + r.length) cy (by omega)
    rw [hZ (k + r.length) (by omega) (Nat.le_refl _)] at e1
    rw [List.take_of_length_le (Nat.le_refl _)] at hV
    rw [wval_take hlt, Nat.add_mul, Nat.mul_assoc (B32 ^ k)]
    omega
  · rw [List.getElem_set_ne (by omega)]
    exact hZ i (by simpa using hi) (by omega)
set_option maxRecDepth 100000 in
set_option maxHeartbeats 2000000 in
theorem Mul_c (A A2 : Option Addr) (c c2 : Nat) (a b : Nat) (w : World) (h : Nt w A c a) (h2 : Nt w A2 c2 b) (hn : (words B32 a).length ≤ 400000) (hm : (words B32 b).length ≤ 400000) :
    Calls Tryz.prog 178 #[ntV A c a, ntV A2 c2 b] w (GivesN (a * b) w) := by
  by_cases h1 : (words B32 a).length ≤ 2 ∧ (words B32 b).length ≤ 2
  · obtain ⟨ha, hb⟩ := h1
    have la := small_lt ha
    have lb := small_lt hb
    go_enter Tryz.func178, Tryz.ntmps178
    go_wp2_with fail
    with_reducible refine (small_yes A c a _ h ha).mono ?_
    rintro e w' ⟨rfl, nd, rfl⟩
    go_wp2_with fail
    with_reducible refine (small_yes A2 c2 b _ (h2.drewN nd) hb).mono ?_
    rintro e w' ⟨rfl, nd2, rfl⟩
    go_wp2_with fail
    with_reducible refine (mul64_c a b _ la lb).mono ?_
    rintro e w' ⟨hi, lo, rfl, h3, h4, hv, rfl⟩
    go_wp2_with fail
    with_reducible refine (trim4 hi lo (nd + nd2) w h3 h4 hv.out).mono ?_
    rintro e w' ⟨A, c, rfl, hn, hb⟩
    go_wp2
    go_ret
    exact ⟨A, c, rfl, hn, hb⟩
  · have hmk : ∀ w : World, (Instr.makeSlice 171 (.int .i64 (((words B32 a).length : Int) + ((words B32 b).length : Int))) (.int .i64 (((words B32 a).length : Int) + ((words B32 b).length : Int)))).run Tryz.prog w =
        .ok (.slice (some ⟨w.heap.size, 0, none⟩) ((words B32 a).length + (words B32 b).length) ((words B32 a).length + (words B32 b).length)) (w.alloc (.cells (Array.replicate ((words B32 a).length + (words B32 b).length) (.int .u32 0)) 156)) :=
      mk_nat ((words B32 a).length + (words B32 b).length) (by omega)
    by_cases ha : (words B32 a).length ≤ 2
    case' pos =>
      have hb : 2 < (words B32 b).length := by omega
      go_enter Tryz.func178, Tryz.ntmps178
      go_wp2_with fail
      with_reducible refine (small_yes A c a _ h ha).mono ?_
      rintro e w' ⟨rfl, nd, rfl⟩
      go_wp2_with fail
      with_reducible refine (small_no A2 c2 b _ (h2.drewN nd) hb (by omega)).mono ?_
      rintro e w' ⟨rfl, nd2, rfl⟩
      rw [World.drewN_drewN]
      clear hb
      generalize nd + nd2 = nd
    case' neg =>
      go_enter Tryz.func178, Tryz.ntmps178
      go_wp2_with fail
      with_reducible refine (small_no A c a _ h (by omega) (by omega)).mono ?_
      rintro e w' ⟨rfl, nd, rfl⟩
    all_goals
      clear ha h1
      unfold ntV
      go_wp2
      clear hmk
      have hnew := ArrU.new (w.drewN nd) ((words B32 a).length + (words B32 b).length)
      have hbel : Below w.heap.size w ((w.drewN nd).alloc (.cells (Array.replicate ((words B32 a).length + (words B32 b).length) (.int .u32 0)) 156)) := (below_drewN (Below.refl _ _) nd).alloc (Nat.le_refl _) _
      have hg0 : (w.drewN nd).heap.size = w.heap.size := rfl
      rw [hg0] at hnew
      clear hg0
      obtain ⟨g, hg⟩ : ∃ g, g = w.heap.size := ⟨_, rfl⟩
      rw [← hg] at hnew
      obtain ⟨w1, hw1⟩ : ∃ w1, w1 = (w.drewN nd).alloc (.cells (Array.replicate ((words B32 a).length + (words B32 b).length) (.int .u32 0)) 156) := ⟨_, rfl⟩
      rw [← hw1] at hnew hbel
      rw [← hg, ← hw1]
      have HG := Lib.hid hg
      have HB := Lib.hid hbel
      clear hg hbel hw1
      have hl := words_lt B32_gt a
      have hr := words_lt B32_gt b
      have HVA := Lib.hid (wval_words B32_gt a)
      have HVB := Lib.hid (wval_words B32_gt b)
      obtain ⟨h, hcap⟩ := h
      obtain ⟨h2, hcap2⟩ := h2
      generalize words B32 a = l at *
      generalize words B32 b = r at *
      go_loopg [55] l.length (MulRel w g l r)
      case atStart => exact ⟨0, List.replicate (l.length + r.length) 0, by omega, rfl, hnew, by simp, WLt.zeros B32_pos _, by rw [wval_zeros]; simp [wval], fun x hx _ => by simp, HB.out, by rw [HG.out]; exact Nat.le_refl _⟩
      case round =>
        obtain ⟨k, L, hkm, rfl, hA, hL, hLt, hV, hZ, hbw, hwg⟩ := hrel
        have HM := Lib.hid hkm
        have HV := Lib.hid hV
        have HZ := Lib.hid hZ
        have HL := Lib.hid hL
        clear hkm hV hZ hL
        by_cases hlt : k < l.length
        · obtain ⟨b1, o1, hA0, hb1, hcl⟩ := (h.below hbw).at_ (by omega)
          subst hA0
          have hc0 := hcl k hlt
          rw [u32V_eq] at hc0
          have hx : l[k] < 4294967296 := hl.get k hlt
          clear hcl
          go_wp2
          clear hc0
          obtain ⟨wo, hwo⟩ : ∃ wo : World, wo = wr := ⟨_, rfl⟩
          subst hwo
          go_loopg [14, 62] r.length (MulRel2 w g l r k l[k])
          case atStart => exact ⟨0, 0, L, by omega, rfl, rfl, by omega, hA, HL.out, hLt, by rw [HV.out]; simp [wval], HZ.out, hbw, hwg⟩
          case round =>
            clear hA hbw
            obtain ⟨j, cy, L2, hjm, rfl, rfl, hcy, hA2, hL2, hLt2, hV2, hZ2, hbw2, hwg2⟩ := hrel
            have HM2 := Lib.hid hjm
            have HV2 := Lib.hid hV2
            have HZ2 := Lib.hid hZ2
            have HL2 := Lib.hid hL2
            clear hjm hV2 hZ2 hL2
            by_cases hj : j < r.length
            · obtain ⟨b2, o2, hA02, hb2, hcl2⟩ := (h2.below hbw2).at_ (by omega)
              subst hA02
              have hc2 := hcl2 j hj
              rw [u32V_eq] at hc2
              have hy : r[j] < 4294967296 := hr.get j hj
              have hkj : k + j < L2.length := by have := HL2.out; omega
              have hz : L2[k + j] < 4294967296 := hLt2.get (k + j) hkj
              have hc1 := hA2.cell (k + j) hkj
              have hf1 := hA2.frozen (k + j)
              have hxy0 : l[k] * r[j] ≤ 4294967295 * 4294967295 := Nat.mul_le_mul (by omega) (by omega)
              have hxy : (l[k] : Int) * (r[j] : Int) ≤ 18446744065119617025 := by
                have : ((l[k] * r[j] : Nat) : Int) ≤ ((4294967295 * 4294967295 : Nat) : Int) := by omega
                rwa [Int.natCast_mul] at this
              have hxy2 : 0 ≤ (l[k] : Int) * (r[j] : Int) := Int.mul_nonneg (by omega) (by omega)
              clear hcl2 hxy0
              go_wp2
              go_roundg (gk - 1)
              case measure => have := HM2.out; omega
              case rel => exact MulRel2.step HM2.out hj hlt hcy (by omega) hA2 HL2.out hr hLt2 HV2.out HZ2.out hbw2 hwg2 rfl (by simp) rfl (by simp)
            · obtain rfl : j = r.length := by have := HM2.out; omega
              have hkj : k + r.length < L2.length := by have := HL2.out; omega
              have hc1 := hA2.cell (k + r.length) hkj
              have hf1 := hA2.frozen (k + r.length)
              go_wp2
              go_roundg (l.length - k - 1)
              case measure => have := HM.out; omega
              case rel => exact MulRel.next (by omega) hlt hcy hA2 HL2.out hLt2 HV2.out HZ2.out hbw2 hwg2 rfl rfl
        · obtain rfl : k = l.length := by have := HM.out; omega
          go_wp2_with fail
          have HT : Hid (wval B32 L = a * b) := by
            show wval B32 L = _
            have := HV.out
            rwa [List.take_of_length_le (Nat.le_refl _), HVA.out, HVB.out] at this
          have hl2 := HL.out
          rw [← hl2]
          with_reducible refine (trim_n _ _ L _ w (by omega) (Nat.le_refl _) (by have := hA.rd L.length; rwa [List.take_length] at this) hLt hbw HT.out).mono ?_
          rintro e w' ⟨A, c, rfl, hn, hb⟩
          clear hl2
          go_wp2
          go_ret
          exact ⟨A, c, rfl, hn, hb⟩
end Go.Proofs.YtlcfgejaeecclaaGreatDoor
