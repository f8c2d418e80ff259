/- Walks over the reference of chapter 7 (places): all, leaves, full. -/
import Derived.Test.YtnjepmbonhmdnaaDoorRefD
namespace Go.Proofs.YtnjepmbonhmdnaaDoor
open Go.RowKit Dw

theorem elStr : ElemT Tryd.prog 24 9 (.string ⟨#[]⟩) 1 16 := ⟨Tryd.underlying24, by kernel_rfl, rfl, by decide⟩
theorem elAr : ElemT Tryd.prog 23 34 (.agg #[.string ⟨#[]⟩, .bool false]) 2 24 := ⟨Tryd.underlying23, by kernel_rfl, rfl, by decide⟩

abbrev encS : ByteArray → List Value := fun s => [.string s]
abbrev encA : Ar → List Value := fun x => [.string x.rg, .bool x.out]

/-- A call that answers a slice of strings and only makes memory. -/
def GivesS (l : List ByteArray) (w : World) (e : Ending) (w' : World) : Prop :=
  ∃ A c, e = .returned (.slice A l.length c) ∧ Strs w' A l ∧ Below w.heap.size w w'
def GivesA (l : List Ar) (w : World) (e : Ending) (w' : World) : Prop :=
  ∃ A c, e = .returned (.slice A l.length c) ∧ Ars w' A l ∧ Below w.heap.size w w'
/-- A call that answers v and only makes memory. -/
def GivesB (v : Value) (w : World) (e : Ending) (w' : World) : Prop := e = .returned v ∧ Below w.heap.size w w'

theorem GivesB.mk {v v' : Value} {w w' : World} (h : v = v') (hw : Below w.heap.size w w') : GivesB v' w (.returned v) w' := ⟨by rw [h], hw⟩

theorem range_filter_succ {p : Nat → Bool} (k : Nat) : (List.range (k + 1)).filter p = (List.range k).filter p ++ (if p k then [k] else []) := by
  rw [List.range_succ, List.filter_append]
  cases h : p k <;> simp [h]

def allS (l : List Rg) : List ByteArray := (leafIdx l).map (nmAt l)
def gath (l : List Rg) (p : Nat → Bool) (k : Nat) : List ByteArray := ((List.range k).filter p).map (nmAt l)
theorem gath_yes {l : List Rg} {p : Nat → Bool} {k : Nat} (h : p k = true) : gath l p (k + 1) = gath l p k ++ [nmAt l k] := by
  unfold gath; rw [range_filter_succ, h]; simp
theorem gath_no {l : List Rg} {p : Nat → Bool} {k : Nat} (h : p k = false) : gath l p (k + 1) = gath l p k := by
  unfold gath; rw [range_filter_succ, h]; simp
theorem gath_le (l : List Rg) (p : Nat → Bool) (k : Nat) : (gath l p k).length ≤ k := by
  unfold gath; rw [List.length_map]
  have := List.length_filter_le p (List.range k)
  simpa using this

def GathRel (w : World) (l : List Rg) (p : Nat → Bool) (m : Nat) (out i : Value) (wr : World) : Prop :=
  ∃ k : Nat, k + m = l.length ∧ i = .int .i64 k ∧ OwnL encS 1 wr w.heap.size 9 out (gath l p k) ∧ Below w.heap.size w wr

set_option maxHeartbeats 400000 in
theorem all_c (A : Option Addr) (c : Nat) (l : List Rg) (w : World) (g : GoodR l) (h : Rgs w A l) :
    Calls Tryd.prog 46 #[.slice A l.length c] w (GivesS (allS l) w) := by
  have hn := g.len
  obtain ⟨b, o, rfl, hb, hc⟩ := h.at_ (List.length_pos_iff.2 g.ne)
  have HC := Lib.hid hc
  clear hc
  go_enter Tryd.func46, Tryd.ntmps46
  go_wp2
  go_loopg [3, 4] l.length (GathRel w l (fun i => !isPar l i))
  case atStart => exact ⟨0, by omega, rfl, OwnL.nil _ _ _ _ _, Below.refl _ _⟩
  case round =>
    obtain ⟨k, hk, rfl, hown, hbel⟩ := hrel
    have HK := Lib.hid hk
    have hk1 : k ≤ l.length := by omega
    clear hk
    by_cases hlt : k < l.length
    · have hc0 : wr.cell? ⟨b, o + k * 2, none⟩ = some (.string (l[k]).nm) := (hbel.cell hb).trans (HC.out k hlt).1
      have hwr : w.heap.size ≤ wr.heap.size := hbel.size
      have hbr : b < wr.heap.size := by omega
      have hle := gath_le l (fun i => !isPar l i) k
      have hlf := leafB_at g hlt
      by_cases hq : isPar l k = true
      · have hl2 : leafB l (l[k]).nm = false := by rw [hlf, hq]; rfl
        have HL := Lib.hid hl2
        have HQ := Lib.hid hq
        clear hlf hl2 hq
        go_wp2_with fail
        refine (IsLeaf_c _ _ _ _ _ hn (h.below hbel)).mono ?_
        rintro e w' ⟨rfl, rfl⟩
        rw [HL.out]
        go_wp2
        go_roundg (gk - 1)
        case measure => have := HK.out; omega
        case rel => exact ⟨k + 1, by have := HK.out; omega, by go_num, by rw [gath_no (by simp [HQ.out])]; exact hown, hbel⟩
      · have hl2 : leafB l (l[k]).nm = true := by rw [hlf]; simp [hq]
        have HL := Lib.hid hl2
        have HQ := Lib.hid hq
        clear hlf hl2 hq
        go_wp2_with fail
        refine (IsLeaf_c _ _ _ _ _ hn (h.below hbel)).mono ?_
        rintro e w' ⟨rfl, rfl⟩
        rw [HL.out]
        go_wp2_with (at_builtin; refine wpList_push _ _ _ elStr rfl rfl w.heap.size _ (gath l (fun i => !isPar l i) k) rfl (hown.alloc _) wr.heap.size 1 (nmAt l k) rfl (by rw [nmAt_of hlt]; exact heap_alloc_new _ _) rfl (by simp [Value.oneCell']) (by unfold maxLen; omega) (by omega) (by simp; omega) ?_; intro v1 w1 hown1 hg1 hb1)
        have HO := Lib.hid hown1
        have hbel1 := (hbel.alloc hwr _).trans hb1
        have HB := Lib.hid hbel1
        clear hown hown1 hg1 hb1 hbel hbel1
        go_wp2
        go_roundg (gk - 1)
        case measure => have := HK.out; omega
        case rel => exact ⟨k + 1, by have := HK.out; omega, by go_num, by rw [gath_yes (by simp [HQ.out])]; exact HO.out, HB.out⟩
    · have hke : k = l.length := by omega
      have HKE := Lib.hid hke
      clear hke
      obtain ⟨A', c', rfl, hrd⟩ := hown.rd1
      go_wp2
      go_ret
      have e : gath l (fun i => !isPar l i) k = allS l := by rw [HKE.out]; rfl
      rw [e] at hrd ⊢
      exact ⟨A', c', rfl, hrd, hbel⟩

def leafP (l : List Rg) (a : List Ar) (i : Nat) : Bool := !isPar l i && lies l a i
theorem gath_leaves (l : List Rg) (a : List Ar) : gath l (leafP l a) l.length = leavesOf l a := by
  unfold gath leavesOf leafIdx
  rw [List.filter_filter]
  congr 1
  apply List.filter_congr
  intro x _
  unfold leafP
  rw [Bool.and_comm]

set_option maxHeartbeats 400000 in
theorem leaves_c (A A2 : Option Addr) (c c2 : Nat) (l : List Rg) (a : List Ar) (w : World) (g : GoodR l) (h : Rgs w A l) (h2 : Ars w A2 a) (hn2 : a.length ≤ 100) :
    Calls Tryd.prog 25 #[.slice A l.length c, .slice A2 a.length c2] w (GivesS (leavesOf l a) w) := by
  have hn := g.len
  obtain ⟨b, o, rfl, hb, hc⟩ := h.at_ (List.length_pos_iff.2 g.ne)
  have HC := Lib.hid hc
  clear hc
  go_enter Tryd.func25, Tryd.ntmps25
  go_wp2
  go_loopg [5, 6] l.length (GathRel w l (leafP l a))
  case atStart => exact ⟨0, by omega, rfl, OwnL.nil _ _ _ _ _, Below.refl _ _⟩
  case round =>
    obtain ⟨k, hk, rfl, hown, hbel⟩ := hrel
    have HK := Lib.hid hk
    have hk1 : k ≤ l.length := by omega
    clear hk
    by_cases hlt : k < l.length
    · have hc0 : wr.cell? ⟨b, o + k * 2, none⟩ = some (.string (l[k]).nm) := (hbel.cell hb).trans (HC.out k hlt).1
      have hwr : w.heap.size ≤ wr.heap.size := hbel.size
      have hbr : b < wr.heap.size := by omega
      have hle := gath_le l (leafP l a) k
      have hlf := leafB_at g hlt
      by_cases hq : isPar l k = true
      · have hl2 : leafB l (l[k]).nm = false := by rw [hlf, hq]; rfl
        have HL := Lib.hid hl2
        have HQ : Hid (leafP l a k = false) := by show leafP l a k = false; simp [leafP, hq]
        clear hlf hl2 hq
        go_wp2_with fail
        refine (IsLeaf_c _ _ _ _ _ hn (h.below hbel)).mono ?_
        rintro e w' ⟨rfl, rfl⟩
        rw [HL.out]
        go_wp2
        go_roundg (gk - 1)
        case measure => have := HK.out; omega
        case rel => exact ⟨k + 1, by have := HK.out; omega, by go_num, by rw [gath_no HQ.out]; exact hown, hbel⟩
      · have hl2 : leafB l (l[k]).nm = true := by rw [hlf]; simp [hq]
        have HL := Lib.hid hl2
        have HQ := Lib.hid hq
        clear hlf hl2 hq
        cases hli : lies l a k with
        | false =>
          have HP : Hid (leafP l a k = false) := by show leafP l a k = false; simp [leafP, hli]
          have HI := Lib.hid hli
          clear hli
          go_wp2_with fail
          refine (IsLeaf_c _ _ _ _ _ hn (h.below hbel)).mono ?_
          rintro e w' ⟨rfl, rfl⟩
          rw [HL.out]
          go_wp2_with fail
          refine (lies_c _ _ _ _ _ _ _ g (h.below hbel) (h2.below hbel) hn2 k hlt).mono ?_
          rintro e w' ⟨rfl, rfl⟩
          rw [HI.out]
          go_wp2
          go_roundg (gk - 1)
          case measure => have := HK.out; omega
          case rel => exact ⟨k + 1, by have := HK.out; omega, by go_num, by rw [gath_no HP.out]; exact hown, hbel⟩
        | true =>
          have HP : Hid (leafP l a k = true) := by show leafP l a k = true; simp [leafP, hli, HQ.out]
          have HI := Lib.hid hli
          clear hli
          go_wp2_with fail
          refine (IsLeaf_c _ _ _ _ _ hn (h.below hbel)).mono ?_
          rintro e w' ⟨rfl, rfl⟩
          rw [HL.out]
          go_wp2_with fail
          refine (lies_c _ _ _ _ _ _ _ g (h.below hbel) (h2.below hbel) hn2 k hlt).mono ?_
          rintro e w' ⟨rfl, rfl⟩
          rw [HI.out]
          go_wp2_with (at_builtin; refine wpList_push _ _ _ elStr rfl rfl w.heap.size _ (gath l (leafP l a) k) rfl (hown.alloc _) wr.heap.size 1 (nmAt l k) rfl (by rw [nmAt_of hlt]; exact heap_alloc_new _ _) rfl (by simp [Value.oneCell']) (by unfold maxLen; omega) (by omega) (by simp; omega) ?_; intro v1 w1 hown1 hg1 hb1)
          have HO := Lib.hid hown1
          have hbel1 := (hbel.alloc hwr _).trans hb1
          have HB := Lib.hid hbel1
          clear hown hown1 hg1 hb1 hbel hbel1
          go_wp2
          go_roundg (gk - 1)
          case measure => have := HK.out; omega
          case rel => exact ⟨k + 1, by have := HK.out; omega, by go_num, by rw [gath_yes HP.out]; exact HO.out, HB.out⟩
    · have hke : k = l.length := by omega
      have HKE := Lib.hid hke
      clear hke
      obtain ⟨A', c', rfl, hrd⟩ := hown.rd1
      go_wp2
      go_ret
      have e : gath l (leafP l a) k = leavesOf l a := by rw [HKE.out, gath_leaves]
      rw [e] at hrd ⊢
      exact ⟨A', c', rfl, hrd, hbel⟩

def setP (l : List Rg) (S : List ByteArray) (i : Nat) : Bool := memS S (nmAt l i)
def FullRel (w : World) (l : List Rg) (S : List ByteArray) (k : Nat) (m : Nat) (i : Value) (wr : World) : Prop :=
  wr = w ∧ ∃ t : Nat, t + m = (leafIdx l).length ∧ i = .int .i64 t ∧ ∀ j (h : j < (leafIdx l).length), j < t → (!under l (leafIdx l)[j] k || setP l S (leafIdx l)[j]) = true
theorem leafIdx_lt {l : List Rg} {t : Nat} (h : t < (leafIdx l).length) : (leafIdx l)[t] < l.length := by
  have := List.getElem_mem h
  unfold leafIdx at this
  rw [List.mem_filter, List.mem_range] at this
  exact this.1
theorem leafIdx_le (l : List Rg) : (leafIdx l).length ≤ l.length := by
  unfold leafIdx
  have := List.length_filter_le (fun i => !isPar l i) (List.range l.length)
  simpa using this

theorem allS_get {l : List Rg} {t : Nat} (h : t < (allS l).length) (h' : t < (leafIdx l).length) : (allS l)[t] = nmAt l (leafIdx l)[t] := by
  simp [allS]

set_option maxHeartbeats 400000 in
theorem full_c (A A2 : Option Addr) (c c2 : Nat) (l : List Rg) (S : List ByteArray) (w : World) (g : GoodR l) (h : Rgs w A l) (h2 : Strs w A2 S) (hn2 : S.length ≤ 200) (k : Nat) (hk : k < l.length) :
    Calls Tryd.prog 54 #[.slice A l.length c, .string (l[k]).nm, .slice A2 S.length c2] w (GivesB (.bool (fullP l (setP l S) k)) w) := by
  have hn := g.len
  generalize hres : fullP l (setP l S) k = res
  have HR := Lib.hid hres
  clear hres
  go_enter Tryd.func54, Tryd.ntmps54
  go_wp2_with fail
  refine (all_c _ _ _ _ g h).mono ?_
  rintro e w1 ⟨A3, c3, rfl, hrd, hb1⟩
  have hl3 : (allS l).length = (leafIdx l).length := by unfold allS; rw [List.length_map]
  have hl4 := leafIdx_le l
  have h' := h.below hb1
  have h2' := h2.below hb1
  have HB := Lib.hid hb1
  have HL3 := Lib.hid hl3
  have hl5 : (allS l).length ≤ 200 := by omega
  clear hb1 h h2 hl3
  go_wp2
  go_loopg [12] (leafIdx l).length (FullRel w1 l S k)
  case atStart => exact ⟨rfl, 0, by omega, rfl, fun j _ hj => absurd hj (by omega)⟩
  case round =>
    obtain ⟨hw, t, ht, rfl, hpre⟩ := hrel
    subst hw
    have HK := Lib.hid ht
    have HP := Lib.hid hpre
    have hk1 : t ≤ (leafIdx l).length := by omega
    clear ht hpre
    by_cases hlt : t < (leafIdx l).length
    · have hlt' : t < (allS l).length := by rw [HL3.out]; exact hlt
      obtain ⟨b, o, rfl, hb, hc⟩ := hrd.at_ (by omega)
      have hc0 := hc t hlt'
      clear hc
      obtain ⟨x, hx⟩ : ∃ x, x = (leafIdx l)[t] := ⟨_, rfl⟩
      have hxl : x < l.length := by rw [hx]; exact leafIdx_lt hlt
      have hnm : (allS l)[t] = (l[x]).nm := by rw [allS_get hlt' hlt, ← hx, nmAt_of hxl]
      rw [hnm] at hc0
      have HX := Lib.hid hx
      clear hx hnm
      cases hu : under l x k with
      | false =>
        have HU := Lib.hid hu
        clear hu
        go_wp2_with fail
        refine (around_c _ _ _ _ g h' x k hxl hk).mono ?_
        rintro e w' ⟨rfl, rfl⟩
        rw [HU.out]
        go_wp2
        go_roundg (gk - 1)
        case measure => have := HK.out; omega
        case rel =>
          refine ⟨rfl, t + 1, by have := HK.out; omega, by go_num, fun j hj hjk => ?_⟩
          rcases Nat.lt_or_ge j t with h1 | h1
          · exact HP.out j hj h1
          · obtain rfl : j = t := by omega
            rw [← HX.out, HU.out]; rfl
      | true =>
        have HU := Lib.hid hu
        clear hu
        cases hm : memS S (l[x]).nm with
        | false =>
          have hres : res = false := by
            rw [← HR.out]
            unfold fullP
            rw [List.all_eq_false]
            refine ⟨(leafIdx l)[t], List.getElem_mem _, ?_⟩
            rw [← HX.out, HU.out]
            simp [setP, nmAt_of hxl, hm]
          have HS := Lib.hid hres
          have HM := Lib.hid hm
          clear hres hm
          go_wp2_with fail
          refine (around_c _ _ _ _ g h' x k hxl hk).mono ?_
          rintro e w' ⟨rfl, rfl⟩
          rw [HU.out]
          go_wp2_with fail
          refine (has_c _ _ _ _ _ (by omega) h2').mono ?_
          rintro e w' ⟨rfl, rfl⟩
          rw [HM.out]
          go_wp2
          go_ret
          exact GivesB.mk (vbool HS.out.symm) HB.out
        | true =>
          have HM := Lib.hid hm
          clear hm
          go_wp2_with fail
          refine (around_c _ _ _ _ g h' x k hxl hk).mono ?_
          rintro e w' ⟨rfl, rfl⟩
          rw [HU.out]
          go_wp2_with fail
          refine (has_c _ _ _ _ _ (by omega) h2').mono ?_
          rintro e w' ⟨rfl, rfl⟩
          rw [HM.out]
          go_wp2
          go_roundg (gk - 1)
          case measure => have := HK.out; omega
          case rel =>
            refine ⟨rfl, t + 1, by have := HK.out; omega, by go_num, fun j hj hjk => ?_⟩
            rcases Nat.lt_or_ge j t with h1 | h1
            · exact HP.out j hj h1
            · obtain rfl : j = t := by omega
              rw [← HX.out, HU.out]
              simp [setP, nmAt_of hxl, HM.out]
    · have hlt' : (allS l).length ≤ t := by rw [HL3.out]; omega
      have hres : res = true := by
        rw [← HR.out]
        unfold fullP
        rw [List.all_eq_true]
        intro x hx
        obtain ⟨j, hj, rfl⟩ := List.getElem_of_mem hx
        exact HP.out j hj (by omega)
      have HS := Lib.hid hres
      clear hres
      go_wp2
      go_ret
      exact GivesB.mk (vbool HS.out.symm) HB.out
end Go.Proofs.YtnjepmbonhmdnaaDoor
