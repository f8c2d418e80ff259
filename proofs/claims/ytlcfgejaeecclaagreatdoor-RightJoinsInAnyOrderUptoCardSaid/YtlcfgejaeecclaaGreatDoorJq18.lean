/- Package right: deeds in memory; the order of deeds; small tests. slices.Equal of any two slices of strings, areas, regions, shares (printed by gen_eq.py). -/
import Derived.Test.YtlcfgejaeecclaaGreatDoorJq17
namespace Go.Proofs.YtlcfgejaeecclaaGreatDoor
open Go.RowKit Dw

abbrev Ints := Rd1 (fun n : Int => Value.int .i64 n)
def cmpI (a b : Int) : Int := if a < b then -1 else if b < a then 1 else 0
theorem isNaN_c (a : Int) (w : World) : Calls Tryz.prog 97 #[.int .i64 a] w (Gives (.bool false) w) := by
  have hb : (a != a) = false := by simp
  go_enter Tryz.func97, Tryz.ntmps97
  go_wp2
  go_ret
  exact Gives.mk rfl rfl
set_option maxHeartbeats 400000 in
theorem cmpI_c (a b : Int) (w : World) : Calls Tryz.prog 60 #[.int .i64 a, .int .i64 b] w (Gives (.int .i64 (cmpI a b)) w) := by
  generalize hres : cmpI a b = res
  have HR := Lib.hid hres
  clear hres
  by_cases h1 : a < b
  · have HS : Hid (res = -1) := by
      show res = -1
      rw [← HR.out]; unfold cmpI; rw [if_pos h1]
    go_enter Tryz.func60, Tryz.ntmps60
    go_wp2_with (go_at_call 97; refine (isNaN_c _ _).mono ?_; rintro e w' ⟨rfl, rfl⟩)
    go_ret
    exact Gives.mk (vint HS.out.symm) rfl
  · by_cases h2 : b < a
    · have HS : Hid (res = 1) := by
        show res = 1
        rw [← HR.out]; unfold cmpI; rw [if_neg h1, if_pos h2]
      go_enter Tryz.func60, Tryz.ntmps60
      go_wp2_with (go_at_call 97; refine (isNaN_c _ _).mono ?_; rintro e w' ⟨rfl, rfl⟩)
      go_ret
      exact Gives.mk (vint HS.out.symm) rfl
    · have HS : Hid (res = 0) := by
        show res = 0
        rw [← HR.out]; unfold cmpI; rw [if_neg h1, if_neg h2]
      go_enter Tryz.func60, Tryz.ntmps60
      go_wp2_with (go_at_call 97; refine (isNaN_c _ _).mono ?_; rintro e w' ⟨rfl, rfl⟩)
      go_ret
      exact Gives.mk (vint HS.out.symm) rfl

def orI : List Int → Int
  | [] => 0
  | a :: l => if a = 0 then orI l else a
theorem orI_at {l : List Int} {k : Nat} (hk : k < l.length) (hp : ∀ j (h : j < l.length), j < k → l[j] = 0) (h : l[k] ≠ 0) : orI l = l[k] := by
  induction l generalizing k with
  | nil => simp at hk
  | cons a t ih =>
    cases k with
    | zero => simp at h; simp [orI, h]
    | succ k =>
      have h0 : a = 0 := hp 0 (by simp) (by omega)
      rw [orI, if_pos h0]
      exact ih (by simpa using hk) (fun j hj hjk => hp (j + 1) (by simpa using hj) (by omega)) (by simpa using h)
theorem orI_none {l : List Int} (hp : ∀ j (h : j < l.length), l[j] = 0) : orI l = 0 := by
  induction l with
  | nil => rfl
  | cons a t ih =>
    have h0 : a = 0 := hp 0 (by simp)
    rw [orI, if_pos h0]
    exact ih fun j hj => hp (j + 1) (by simpa using hj)
def OrRel (w : World) (l : List Int) (m : Nat) (i : Value) (wr : World) : Prop :=
  w = wr ∧ ∃ k : Nat, k + m = l.length ∧ i = .int .i64 k ∧ ∀ j (h : j < l.length), j < k → l[j] = 0
set_option maxHeartbeats 400000 in
theorem cmpOr_c (A : Option Addr) (c : Nat) (l : List Int) (w : World) (hn : l.length ≤ 1000000) (h : Ints w A l) :
    Calls Tryz.prog 59 #[.slice A l.length c] w (Gives (.int .i64 (orI l)) w) := by
  generalize hres : orI l = res
  have HR := Lib.hid hres
  clear hres
  go_enter Tryz.func59, Tryz.ntmps59
  go_wp2
  go_loopg [8] l.length (OrRel w l)
  case atStart => exact ⟨rfl, 0, by omega, rfl, fun j _ hj => absurd hj (by omega)⟩
  case round =>
    obtain ⟨hw, k, hk, rfl, hpre⟩ := hrel
    subst hw
    have HK := Lib.hid hk
    have HP := Lib.hid hpre
    have hk1 : k ≤ l.length := by omega
    clear hk hpre
    by_cases hlt : k < l.length
    · obtain ⟨b, o, rfl, hb, hc⟩ := h.at_ (by omega)
      have hc0 := hc k hlt
      clear hc
      by_cases hq : l[k] = 0
      · have hqb : (l[k] != 0) = false := by simpa using hq
        have HQ := Lib.hid hq
        clear hq
        go_wp2
        go_roundg (gk - 1)
        case measure => have := HK.out; omega
        case rel =>
          refine ⟨rfl, k + 1, by have := HK.out; omega, by go_num, fun j hj hjk => ?_⟩
          rcases Nat.lt_or_ge j k with h1 | h1
          · exact HP.out j hj h1
          · obtain rfl : j = k := by omega
            exact HQ.out
      · have hqb : (l[k] != 0) = true := by simpa using hq
        have HQ := Lib.hid hq
        clear hq
        go_wp2
        go_ret
        exact Gives.mk (vint (by rw [← HR.out, orI_at hlt HP.out HQ.out])) rfl
    · go_wp2
      go_ret
      exact Gives.mk (vint (by rw [← HR.out, orI_none fun j hj => HP.out j hj (by omega)])) rfl

def cfS (x y : ByteArray) : Int := Lib.compareBytes x.data.toList y.data.toList
theorem compare_less : ∀ (a b : List UInt8), decide (Lib.compareBytes a b < 0) = Op.bytesLess a b
  | [], [] => by simp [Lib.compareBytes, Op.bytesLess]
  | [], _ :: _ => by simp [Lib.compareBytes, Op.bytesLess]
  | _ :: _, [] => by simp [Lib.compareBytes, Op.bytesLess]
  | a :: x, b :: y => by
    have ih := compare_less x y
    rw [Lib.compareBytes, Op.bytesLess]
    by_cases h1 : a < b
    · simp [h1]
    · by_cases h2 : b < a
      · have h3 : ¬ a = b := fun e => by subst e; exact h1 h2
        simp [h1, h2, h3]
      · have h3 : a = b := UInt8.le_antisymm (UInt8.not_lt.1 h2) (UInt8.not_lt.1 h1)
        subst h3
        simp only [h1, if_false]
        rw [ih]
        simp
theorem compare_zero : ∀ (a b : List UInt8), Lib.compareBytes a b = 0 → a = b
  | [], [], _ => rfl
  | [], _ :: _, h => by simp [Lib.compareBytes] at h
  | _ :: _, [], h => by simp [Lib.compareBytes] at h
  | a :: x, b :: y, h => by
    rw [Lib.compareBytes] at h
    by_cases h1 : a < b
    · simp [h1] at h
    · by_cases h2 : b < a
      · simp [h1, h2] at h
      · have h3 : a = b := UInt8.le_antisymm (UInt8.not_lt.1 h2) (UInt8.not_lt.1 h1)
        subst h3
        simp only [h1, if_false] at h
        rw [compare_zero x y h]
theorem cfS_lt (x y : ByteArray) : decide (cfS x y < 0) = slt x y := by
  unfold cfS slt
  rw [compare_less, Dw.toList_eq, Dw.toList_eq]
theorem cfS_zero {x y : ByteArray} (h : cfS x y = 0) : x = y := by
  refine Dw.toList_inj ?_
  rw [Dw.toList_eq, Dw.toList_eq]
  exact compare_zero _ _ h
theorem compareS_c (x y : ByteArray) (w : World) : Calls Tryz.prog 61 #[.string x, .string y] w (Gives (.int .i64 (cfS x y)) w) := by
  have h := Any.strings_Compare Tryz.lays106 x y w
  change Calls Tryz.prog 61 _ _ _ at h
  exact h.mono fun _ _ ⟨he, hw⟩ => ⟨he, hw.symm⟩
/-- A slice of shares reads as a list. -/
def Shs (w : World) (A : Option Addr) (l : List Sh) : Prop :=
  0 < l.length → ∃ b o : Nat, A = some ⟨b, o, none⟩ ∧ ∀ i (h : i < l.length), w.cell? ⟨b, o + i * 3, none⟩ = some (.string (l[i]).pt) ∧ w.cell? ⟨b, o + i * 3 + 1, none⟩ = some (.string (l[i]).nu) ∧ w.cell? ⟨b, o + i * 3 + 2, none⟩ = some (.string (l[i]).de)
theorem Shs.at_ {w : World} {A : Option Addr} {l : List Sh} (h : Shs w A l) (hl : 0 < l.length) : ∃ b o : Nat, A = some ⟨b, o, none⟩ ∧ b < w.heap.size ∧ ∀ i (h : i < l.length), w.cell? ⟨b, o + i * 3, none⟩ = some (.string (l[i]).pt) ∧ w.cell? ⟨b, o + i * 3 + 1, none⟩ = some (.string (l[i]).nu) ∧ w.cell? ⟨b, o + i * 3 + 2, none⟩ = some (.string (l[i]).de) := by
  obtain ⟨b, o, rfl, hc⟩ := h hl
  exact ⟨b, o, rfl, World.block_lt_of_cell? w _ (hc 0 hl).1, hc⟩
theorem Shs.below {w w' : World} {A : Option Addr} {l : List Sh} (h : Shs w A l) (hb : Below w.heap.size w w') : Shs w' A l := fun hl => by
  obtain ⟨b, o, rfl, hlt, hc⟩ := h.at_ hl
  refine ⟨b, o, rfl, fun i hi => ?_⟩
  rw [hb.cell hlt, hb.cell hlt, hb.cell hlt]
  exact hc i hi
/-- A deed as a value, and as the cells of a block. -/
abbrev deC (d : De) : Array Value := #[.string d.id, .int .i64 d.day, .int .i64 d.kd, .string d.th, .string d.fr, .string d.to_, .string d.nu, .string d.de, .bool d.ex, .bool d.sb, .slice d.arA d.ar.length d.arc, .slice d.usA d.us.length d.usc, .int .i64 d.bg, .int .i64 d.en, .slice d.shA d.sh.length d.shc, .string d.ot]
abbrev deV (d : De) : Value := .agg (deC d)
/-- What a deed points to, and that it is of a size that a machine holds. -/
structure DeOk (w : World) (d : De) : Prop where
  ars : Ars w d.arA d.ar
  uses : Strs w d.usA d.us
  shs : Shs w d.shA d.sh
  lens : d.ar.length ≤ 140737488355328 ∧ d.us.length ≤ 140737488355328 ∧ d.sh.length ≤ 140737488355328
  strs : d.id.size ≤ 9223372036854775807 ∧ d.th.size ≤ 9223372036854775807 ∧ d.fr.size ≤ 9223372036854775807 ∧ d.to_.size ≤ 9223372036854775807 ∧ d.nu.size ≤ 9223372036854775807 ∧ d.de.size ≤ 9223372036854775807
  shz : ∀ s ∈ d.sh, s.pt.size ≤ 9223372036854775807 ∧ s.nu.size ≤ 9223372036854775807 ∧ s.de.size ≤ 9223372036854775807
theorem DeOk.below {w w' : World} {d : De} (h : DeOk w d) (hb : Below w.heap.size w w') : DeOk w' d := ⟨h.ars.below hb, h.uses.below hb, h.shs.below hb, h.lens, h.strs, h.shz⟩

theorem isDay_c (n : Int) (w : World) : Calls Tryz.prog 66 #[.int .i64 n] w (Gives (.bool (dayB n)) w) := by
  by_cases h1 : 0 ≤ n
  · by_cases h2 : n ≤ 200000
    · have hv : dayB n = true := by simp [dayB, h1, h2]
      rw [hv]
      have HV := Lib.hid hv
      clear hv
      go_enter Tryz.func66, Tryz.ntmps66
      go_wp2
      go_ret
      exact Gives.mk rfl rfl
    · have hv : dayB n = false := by simp [dayB, h2]
      rw [hv]
      have HV := Lib.hid hv
      have h2' : 200000 < n := by omega
      clear hv h2
      go_enter Tryz.func66, Tryz.ntmps66
      go_wp2
      go_ret
      exact Gives.mk (vbool (decide_eq_false (by omega))) rfl
  · have hv : dayB n = false := by simp [dayB, h1]
    rw [hv]
    have HV := Lib.hid hv
    have h1' : n < 0 := by omega
    clear hv h1
    go_enter Tryz.func66, Tryz.ntmps66
    go_wp2
    go_ret
    exact Gives.mk rfl rfl
def kindB (n : Int) : Bool := decide (1 ≤ n) && decide (n ≤ 5)
theorem isKindD_c (n : Int) (w : World) : Calls Tryz.prog 80 #[.int .i64 n] w (Gives (.bool (kindB n)) w) := by
  by_cases h1 : 1 ≤ n
  · by_cases h2 : n ≤ 5
    · have hv : kindB n = true := by simp [kindB, h1, h2]
      rw [hv]
      have HV := Lib.hid hv
      clear hv
      go_enter Tryz.func80, Tryz.ntmps80
      go_wp2
      go_ret
      exact Gives.mk rfl rfl
    · have hv : kindB n = false := by simp [kindB, h2]
      rw [hv]
      have HV := Lib.hid hv
      have h2' : 5 < n := by omega
      clear hv h2
      go_enter Tryz.func80, Tryz.ntmps80
      go_wp2
      go_ret
      exact Gives.mk (vbool (decide_eq_false (by omega))) rfl
  · have hv : kindB n = false := by simp [kindB, h1]
    rw [hv]
    have HV := Lib.hid hv
    have h1' : n < 1 := by omega
    clear hv h1
    go_enter Tryz.func80, Tryz.ntmps80
    go_wp2
    go_ret
    exact Gives.mk rfl rfl
/-- The order of deeds. -/
def deCmp (a b : De) : Int := orI [cmpI a.day b.day, cfS a.id b.id]
theorem deCmp_lt (a b : De) : decide (deCmp a b < 0) = deLt a b := by
  unfold deCmp deLt cmpI
  rcases Int.lt_trichotomy a.day b.day with h | h | h
  · simp [h, orI]
  · rw [h]
    have e1 := cfS_lt a.id b.id
    rw [← e1]
    by_cases hz : cfS a.id b.id = 0
    · simp [orI, hz]
    · simp [orI, hz]
  · have h1 : ¬ a.day < b.day := by omega
    have h2 : ¬ a.day = b.day := by omega
    simp [orI, h, h1, h2]
theorem ints_twoR (w : World) (a b : Int) (t : TypeId) : Ints (w.alloc (.cells #[.int .i64 a, .int .i64 b] t)) (some ⟨w.heap.size, 0, none⟩) [a, b] := fun _ => by
  refine ⟨w.heap.size, 0, rfl, fun i hi => ?_⟩
  have h2 : i = 0 ∨ i = 1 := by simp at hi; omega
  rcases h2 with rfl | rfl
  · exact (Bx.new w _ t).cell rfl
  · exact (Bx.new w _ t).cell rfl
set_option maxRecDepth 100000 in
set_option maxHeartbeats 2000000 in
theorem compareDeeds_c (a b : De) (w : World) : Calls Tryz.prog 28 #[deV a, deV b] w (GivesB (.int .i64 (deCmp a b)) w) := by
  have HX : Hid (Bx ((w.alloc (.cells (deC a) 54)).alloc (.cells (deC b) 54)) w.heap.size (deC a) 54) := (Bx.new _ _ _).alloc _
  have HY : Hid (Bx ((w.alloc (.cells (deC a) 54)).alloc (.cells (deC b) 54)) (w.heap.size + 1) (deC b) 54) := Bx.new1 _ _ _ _
  have HB : Hid (Below w.heap.size w ((w.alloc (.cells (deC a) 54)).alloc (.cells (deC b) 54))) := ((Below.refl w.heap.size w).alloc (Nat.le_refl _) _).alloc (by simp) _
  obtain ⟨W, hW⟩ : ∃ W, W = (w.alloc (.cells (deC a) 54)).alloc (.cells (deC b) 54) := ⟨_, rfl⟩
  rw [← hW] at HX HY HB
  unfold deCmp
  have HC := Lib.hid (fun W' => cmpI_c a.day b.day W')
  have HS := Lib.hid (fun W' => compareS_c a.id b.id W')
  go_enter Tryz.func28, Tryz.ntmps28
  go_wp2_with fail
  rw [← hW]
  clear hW
  have x0 := HX.out.cell (i := 0) rfl
  have x1 := HX.out.cell (i := 1) rfl
  have y0 := HY.out.cell (i := 0) rfl
  have y1 := HY.out.cell (i := 1) rfl
  generalize cmpI a.day b.day = z1 at *
  generalize cfS a.id b.id = z2 at *
  have ho : ∀ W' : World, Calls Tryz.prog 59 #[.slice (some ⟨W'.heap.size, 0, none⟩) 2 2] (W'.alloc (.cells #[.int .i64 z1, .int .i64 z2] 3)).drew (Gives (.int .i64 (orI [z1, z2])) (W'.alloc (.cells #[.int .i64 z1, .int .i64 z2] 3)).drew) :=
    fun W' => cmpOr_c (some ⟨W'.heap.size, 0, none⟩) 2 [z1, z2] _ (by simp) (Rd1.drew (ints_twoR W' z1 z2 _))
  have HO := Lib.hid ho
  clear ho
  refine wp_region_still_tail 10 (by kernel_rfl) (by kernel_rfl) ?_
  simp only [List.take_succ_cons, List.take_zero, List.drop_succ_cons, List.drop_zero]
  iterate 4 still_step
  still_call ((HC.out _).mono (fun _ _ h => ⟨h.1, h.2.symm⟩))
  iterate 4 still_step
  still_call ((HS.out _).mono (fun _ _ h => ⟨h.1, h.2.symm⟩))
  refine wpStill_nil ?_
  change wpList _ _ _ _ _ W.drew
  clear x0 x1 y0 y1 HC HS
  go_wp2_with fail
  with_reducible refine (HO.out W).mono ?_
  rintro e w3 ⟨rfl, rfl⟩
  have HB3 : Hid (Below w.heap.size w (W.alloc (.cells #[.int .i64 z1, .int .i64 z2] 3)).drew) := below_drewN (HB.out.alloc HB.out.size _) 1
  go_wp2
  go_ret
  exact GivesB.mk rfl HB3.out
/-- The fields that a kind uses. -/
def fldC (k : Int) : Array Value :=
  if k = 1 then #[.bool true, .bool false, .bool false, .bool false, .bool false, .bool false, .bool false, .bool true, .bool false]
  else if k = 2 then #[.bool true, .bool true, .bool true, .bool true, .bool false, .bool true, .bool true, .bool false, .bool false]
  else if k = 3 then #[.bool true, .bool true, .bool true, .bool false, .bool true, .bool true, .bool true, .bool false, .bool false]
  else if k = 4 then #[.bool false, .bool false, .bool false, .bool false, .bool false, .bool false, .bool false, .bool false, .bool true]
  else #[.bool false, .bool true, .bool false, .bool false, .bool false, .bool false, .bool false, .bool true, .bool false]
set_option maxHeartbeats 1000000 in
theorem fieldsOf_c (k : Int) (w : World) (hk : 1 ≤ k ∧ k ≤ 5) : Calls Tryz.prog 33 #[.int .i64 k] w (GivesB (.agg (fldC k)) w) := by
  have h5 : k = 1 ∨ k = 2 ∨ k = 3 ∨ k = 4 ∨ k = 5 := by omega
  rcases h5 with rfl | rfl | rfl | rfl | rfl
  all_goals
    clear hk
    go_enter Tryz.func33, Tryz.ntmps33
    go_wp2
    refine bodyPost_ret (v := .agg (fldC _)) (by simp [results, Tryz.results33, go_sem]; rfl) rfl ⟨rfl, ?_⟩
    exact (Below.refl w.heap.size w).alloc (Nat.le_refl _) _
end Go.Proofs.YtlcfgejaeecclaaGreatDoor

namespace Go.Proofs.YtlcfgejaeecclaaGreatDoor
open Go.RowKit Dw

def GivesEq (same : Prop) (w : World) (e : Ending) (w' : World) : Prop := ∃ r : Bool, e = .returned (.bool r) ∧ (r = true ↔ same) ∧ ∃ n, w' = w.drewN n
theorem GivesEq.no {same : Prop} {w w' : World} (h : ¬ same) (hw : ∃ n, w' = w.drewN n) : GivesEq same w (.returned (.bool false)) w' := ⟨false, rfl, ⟨(fun e => by cases e), fun e => absurd e h⟩, hw⟩
theorem GivesEq.yes {same : Prop} {w w' : World} (h : same) (hw : ∃ n, w' = w.drewN n) : GivesEq same w (.returned (.bool true)) w' := ⟨true, rfl, ⟨fun _ => h, fun _ => rfl⟩, hw⟩
def EqRel2 {α : Type} (w : World) (L M : List α) (m : Nat) (i : Value) (wr : World) : Prop :=
  ∃ q, wr = w.drewN q ∧ ∃ k : Nat, k + m = L.length ∧ i = .int .i64 k ∧ ∀ j, j < k → L[j]? = M[j]?
theorem same_of {α : Type} {L M : List α} (hl : L.length = M.length) {k : Nat} (hk : L.length ≤ k) (h : ∀ j, j < k → L[j]? = M[j]?) : L = M := by
  apply List.ext_getElem?
  intro i
  by_cases hi : i < k
  · exact h i hi
  · rw [List.getElem?_eq_none (by omega), List.getElem?_eq_none (by omega)]
theorem Shs.drewN {w : World} {A : Option Addr} {l : List Sh} (h : Shs w A l) (n : Nat) : Shs (w.drewN n) A l := h
theorem bool_ne {a b : Bool} (h : ¬ a = b) : (a == b) = false := by cases a <;> cases b <;> simp_all
set_option maxHeartbeats 1000000 in
theorem equalS_c (A A2 : Option Addr) (c c2 : Nat) (L M : List ByteArray) (w : World) (hn : L.length ≤ 140737488355328) (hn2 : M.length ≤ 140737488355328) (h : Strs w A L) (h2 : Strs w A2 M) :
    Calls Tryz.prog 21 #[.slice A L.length c, .slice A2 M.length c2] w (GivesEq (L = M) w) := by
  by_cases hl : L.length = M.length
  · rw [← hl]
    have HL := Lib.hid hl
    clear hl
    go_enter Tryz.func21, Tryz.ntmps21
    go_wp2
    go_loopg [13] L.length (EqRel2 w L M)
    case atStart => exact ⟨0, rfl, 0, by omega, rfl, fun j hj => absurd hj (by omega)⟩
    case round =>
      obtain ⟨q, hw, k, hk, rfl, hpre⟩ := hrel
      subst hw
      have HK := Lib.hid hk
      have HP := Lib.hid hpre
      have hk1 : k ≤ L.length := by omega
      clear hk hpre
      by_cases hlt : k < L.length
      · have hlt2 : k < M.length := by have := HL.out; omega
        obtain ⟨b, o, rfl, hb, hc⟩ := h.at_ (by omega)
        obtain ⟨b2, o2, rfl, hb2, hcm⟩ := h2.at_ (by omega)
        have hc0 := hc k hlt
        have hd0 := hcm k hlt2
        clear hc hcm
        by_cases he : L[k] = M[k]
        · have heb := beq_of_eq he
          have HE := Lib.hid he
          clear he
          go_wp2
          go_quiet (fail)
          go_wp2
          go_roundg (gk - 1)
          case measure => have := HK.out; omega
          case rel =>
            refine ⟨_, rfl, k + 1, by have := HK.out; omega, by go_num, fun j hj => ?_⟩
            rcases Nat.lt_or_ge j k with h1 | h1
            · exact HP.out j h1
            · obtain rfl : j = k := by omega
              rw [List.getElem?_eq_getElem hlt, List.getElem?_eq_getElem (by have := HL.out; omega), HE.out]
        · have heb := beq_of_ne he
          have HE : Hid (¬ L = M) := by
            show ¬ L = M
            intro e
            subst e
            exact he rfl
          clear he
          go_wp2
          go_quiet (fail)
          go_wp2
          go_ret
          exact GivesEq.no HE.out ⟨_, World.drewN_drewN _ _ _⟩
      · go_wp2
        go_ret
        exact GivesEq.yes (same_of HL.out (by omega) HP.out) ⟨_, rfl⟩
  · have HE : Hid (¬ L = M) := by
      show ¬ L = M
      intro e
      subst e
      exact hl rfl
    have hlb : ((L.length : Int) != (M.length : Int)) = true := by simp; omega
    go_enter Tryz.func21, Tryz.ntmps21
    go_wp2
    go_ret
    exact GivesEq.no HE.out ⟨0, rfl⟩
set_option maxHeartbeats 1000000 in
theorem equalA_c (A A2 : Option Addr) (c c2 : Nat) (L M : List Ar) (w : World) (hn : L.length ≤ 140737488355328) (hn2 : M.length ≤ 140737488355328) (h : Ars w A L) (h2 : Ars w A2 M) :
    Calls Tryz.prog 53 #[.slice A L.length c, .slice A2 M.length c2] w (GivesEq (L = M) w) := by
  by_cases hl : L.length = M.length
  · rw [← hl]
    have HL := Lib.hid hl
    clear hl
    go_enter Tryz.func53, Tryz.ntmps53
    go_wp2
    go_loopg [13] L.length (EqRel2 w L M)
    case atStart => exact ⟨0, rfl, 0, by omega, rfl, fun j hj => absurd hj (by omega)⟩
    case round =>
      obtain ⟨q, hw, k, hk, rfl, hpre⟩ := hrel
      subst hw
      have HK := Lib.hid hk
      have HP := Lib.hid hpre
      have hk1 : k ≤ L.length := by omega
      clear hk hpre
      by_cases hlt : k < L.length
      · have hlt2 : k < M.length := by have := HL.out; omega
        obtain ⟨b, o, rfl, hb, hc⟩ := h.at_ (by omega)
        obtain ⟨b2, o2, rfl, hb2, hcm⟩ := h2.at_ (by omega)
        have hc0 := (hc k hlt).1
        have hd0 := (hcm k hlt2).1
        have hc1 := (hc k hlt).2
        have hd1 := (hcm k hlt2).2
        clear hc hcm
        by_cases he : L[k] = M[k]
        · have HE := Lib.hid he
          rw [← he] at hd0 hd1
          clear he
          go_wp2
          go_quiet (fail)
          go_wp2
          go_roundg (gk - 1)
          case measure => have := HK.out; omega
          case rel =>
            refine ⟨_, rfl, k + 1, by have := HK.out; omega, by go_num, fun j hj => ?_⟩
            rcases Nat.lt_or_ge j k with h1 | h1
            · exact HP.out j h1
            · obtain rfl : j = k := by omega
              rw [List.getElem?_eq_getElem hlt, List.getElem?_eq_getElem (by have := HL.out; omega), HE.out]
        · have HE : Hid (¬ L = M) := by
            show ¬ L = M
            intro e
            subst e
            exact he rfl
          by_cases h0 : (L[k]).rg = (M[k]).rg
          case neg =>
            have hb := beq_of_ne h0
            clear he h0
            go_wp2
            go_quiet (fail)
            go_wp2
            go_ret
            exact GivesEq.no HE.out ⟨_, World.drewN_drewN _ _ _⟩
          rw [← h0] at hd0
          have h1 : ¬ (L[k]).out = (M[k]).out := fun e => he (by
            cases hx : L[k]
            cases hy : M[k]
            simp_all)
          have hb := bool_ne h1
          clear he h0 h1
          go_wp2
          go_quiet (fail)
          go_wp2
          go_ret
          exact GivesEq.no HE.out ⟨_, World.drewN_drewN _ _ _⟩
      · go_wp2
        go_ret
        exact GivesEq.yes (same_of HL.out (by omega) HP.out) ⟨_, rfl⟩
  · have HE : Hid (¬ L = M) := by
      show ¬ L = M
      intro e
      subst e
      exact hl rfl
    have hlb : ((L.length : Int) != (M.length : Int)) = true := by simp; omega
    go_enter Tryz.func53, Tryz.ntmps53
    go_wp2
    go_ret
    exact GivesEq.no HE.out ⟨0, rfl⟩
set_option maxHeartbeats 1000000 in
theorem equalR_c (A A2 : Option Addr) (c c2 : Nat) (L M : List Rg) (w : World) (hn : L.length ≤ 140737488355328) (hn2 : M.length ≤ 140737488355328) (h : Rgs w A L) (h2 : Rgs w A2 M) :
    Calls Tryz.prog 20 #[.slice A L.length c, .slice A2 M.length c2] w (GivesEq (L = M) w) := by
  by_cases hl : L.length = M.length
  · rw [← hl]
    have HL := Lib.hid hl
    clear hl
    go_enter Tryz.func20, Tryz.ntmps20
    go_wp2
    go_loopg [13] L.length (EqRel2 w L M)
    case atStart => exact ⟨0, rfl, 0, by omega, rfl, fun j hj => absurd hj (by omega)⟩
    case round =>
      obtain ⟨q, hw, k, hk, rfl, hpre⟩ := hrel
      subst hw
      have HK := Lib.hid hk
      have HP := Lib.hid hpre
      have hk1 : k ≤ L.length := by omega
      clear hk hpre
      by_cases hlt : k < L.length
      · have hlt2 : k < M.length := by have := HL.out; omega
        obtain ⟨b, o, rfl, hb, hc⟩ := h.at_ (by omega)
        obtain ⟨b2, o2, rfl, hb2, hcm⟩ := h2.at_ (by omega)
        have hc0 := (hc k hlt).1
        have hd0 := (hcm k hlt2).1
        have hc1 := (hc k hlt).2
        have hd1 := (hcm k hlt2).2
        clear hc hcm
        by_cases he : L[k] = M[k]
        · have HE := Lib.hid he
          rw [← he] at hd0 hd1
          clear he
          go_wp2
          go_quiet (fail)
          go_wp2
          go_roundg (gk - 1)
          case measure => have := HK.out; omega
          case rel =>
            refine ⟨_, rfl, k + 1, by have := HK.out; omega, by go_num, fun j hj => ?_⟩
            rcases Nat.lt_or_ge j k with h1 | h1
            · exact HP.out j h1
            · obtain rfl : j = k := by omega
              rw [List.getElem?_eq_getElem hlt, List.getElem?_eq_getElem (by have := HL.out; omega), HE.out]
        · have HE : Hid (¬ L = M) := by
            show ¬ L = M
            intro e
            subst e
            exact he rfl
          by_cases h0 : (L[k]).nm = (M[k]).nm
          case neg =>
            have hb := beq_of_ne h0
            clear he h0
            go_wp2
            go_quiet (fail)
            go_wp2
            go_ret
            exact GivesEq.no HE.out ⟨_, World.drewN_drewN _ _ _⟩
          rw [← h0] at hd0
          have h1 : ¬ (L[k]).par = (M[k]).par := fun e => he (by
            cases hx : L[k]
            cases hy : M[k]
            simp_all)
          have hb := beq_of_ne h1
          clear he h0 h1
          go_wp2
          go_quiet (fail)
          go_wp2
          go_ret
          exact GivesEq.no HE.out ⟨_, World.drewN_drewN _ _ _⟩
      · go_wp2
        go_ret
        exact GivesEq.yes (same_of HL.out (by omega) HP.out) ⟨_, rfl⟩
  · have HE : Hid (¬ L = M) := by
      show ¬ L = M
      intro e
      subst e
      exact hl rfl
    have hlb : ((L.length : Int) != (M.length : Int)) = true := by simp; omega
    go_enter Tryz.func20, Tryz.ntmps20
    go_wp2
    go_ret
    exact GivesEq.no HE.out ⟨0, rfl⟩
set_option maxHeartbeats 1000000 in
theorem equalH_c (A A2 : Option Addr) (c c2 : Nat) (L M : List Sh) (w : World) (hn : L.length ≤ 140737488355328) (hn2 : M.length ≤ 140737488355328) (h : Shs w A L) (h2 : Shs w A2 M) :
    Calls Tryz.prog 54 #[.slice A L.length c, .slice A2 M.length c2] w (GivesEq (L = M) w) := by
  by_cases hl : L.length = M.length
  · rw [← hl]
    have HL := Lib.hid hl
    clear hl
    go_enter Tryz.func54, Tryz.ntmps54
    go_wp2
    go_loopg [13] L.length (EqRel2 w L M)
    case atStart => exact ⟨0, rfl, 0, by omega, rfl, fun j hj => absurd hj (by omega)⟩
    case round =>
      obtain ⟨q, hw, k, hk, rfl, hpre⟩ := hrel
      subst hw
      have HK := Lib.hid hk
      have HP := Lib.hid hpre
      have hk1 : k ≤ L.length := by omega
      clear hk hpre
      by_cases hlt : k < L.length
      · have hlt2 : k < M.length := by have := HL.out; omega
        obtain ⟨b, o, rfl, hb, hc⟩ := h.at_ (by omega)
        obtain ⟨b2, o2, rfl, hb2, hcm⟩ := h2.at_ (by omega)
        have hc0 := (hc k hlt).1
        have hd0 := (hcm k hlt2).1
        have hc1 := (hc k hlt).2.1
        have hd1 := (hcm k hlt2).2.1
        have hc2 := (hc k hlt).2.2
        have hd2 := (hcm k hlt2).2.2
        clear hc hcm
        by_cases he : L[k] = M[k]
        · have HE := Lib.hid he
          rw [← he] at hd0 hd1 hd2
          clear he
          go_wp2
          go_quiet (fail)
          go_wp2
          go_roundg (gk - 1)
          case measure => have := HK.out; omega
          case rel =>
            refine ⟨_, rfl, k + 1, by have := HK.out; omega, by go_num, fun j hj => ?_⟩
            rcases Nat.lt_or_ge j k with h1 | h1
            · exact HP.out j h1
            · obtain rfl : j = k := by omega
              rw [List.getElem?_eq_getElem hlt, List.getElem?_eq_getElem (by have := HL.out; omega), HE.out]
        · have HE : Hid (¬ L = M) := by
            show ¬ L = M
            intro e
            subst e
            exact he rfl
          by_cases h0 : (L[k]).pt = (M[k]).pt
          case neg =>
            have hb := beq_of_ne h0
            clear he h0
            go_wp2
            go_quiet (fail)
            go_wp2
            go_ret
            exact GivesEq.no HE.out ⟨_, World.drewN_drewN _ _ _⟩
          rw [← h0] at hd0
          by_cases h1 : (L[k]).nu = (M[k]).nu
          case neg =>
            have hb := beq_of_ne h1
            clear he h0 h1
            go_wp2
            go_quiet (fail)
            go_wp2
            go_ret
            exact GivesEq.no HE.out ⟨_, World.drewN_drewN _ _ _⟩
          rw [← h1] at hd1
          have h2 : ¬ (L[k]).de = (M[k]).de := fun e => he (by
            cases hx : L[k]
            cases hy : M[k]
            simp_all)
          have hb := beq_of_ne h2
          clear he h0 h1 h2
          go_wp2
          go_quiet (fail)
          go_wp2
          go_ret
          exact GivesEq.no HE.out ⟨_, World.drewN_drewN _ _ _⟩
      · go_wp2
        go_ret
        exact GivesEq.yes (same_of HL.out (by omega) HP.out) ⟨_, rfl⟩
  · have HE : Hid (¬ L = M) := by
      show ¬ L = M
      intro e
      subst e
      exact hl rfl
    have hlb : ((L.length : Int) != (M.length : Int)) = true := by simp; omega
    go_enter Tryz.func54, Tryz.ntmps54
    go_wp2
    go_ret
    exact GivesEq.no HE.out ⟨0, rfl⟩
end Go.Proofs.YtlcfgejaeecclaaGreatDoor
