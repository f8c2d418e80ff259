/- Walks over the reference of chapter 7 (places): combined, Leaves, Plain, Union, Meet, Without. -/
import Derived.Test.YtnjepmbonhmdnaaDoorRefF
namespace Go.Proofs.YtnjepmbonhmdnaaDoor
open Go.RowKit Dw

def GivesA2 (r : List Ar × Int) (w : World) (e : Ending) (w' : World) : Prop :=
  ∃ A c, e = .returned (.tuple #[.slice A r.1.length c, .int .i64 r.2]) ∧ Ars w' A r.1 ∧ Below w.heap.size w w'
def GivesS2 (r : List ByteArray × Int) (w : World) (e : Ending) (w' : World) : Prop :=
  ∃ A c, e = .returned (.tuple #[.slice A r.1.length c, .int .i64 r.2]) ∧ Strs w' A r.1 ∧ Below w.heap.size w w'
theorem GivesA2.err {r : List Ar × Int} {w w' : World} {f : Int} (hr : r = ([], f)) (hw : Below w.heap.size w w') : GivesA2 r w (.returned (.tuple #[.slice none 0 0, .int .i64 f])) w' := by
  subst hr; exact ⟨none, 0, rfl, Rd2.nil, hw⟩
theorem GivesS2.err {r : List ByteArray × Int} {w w' : World} {f : Int} (hr : r = ([], f)) (hw : Below w.heap.size w w') : GivesS2 r w (.returned (.tuple #[.slice none 0 0, .int .i64 f])) w' := by
  subst hr; exact ⟨none, 0, rfl, Rd1.nil, hw⟩
theorem GivesA2.ok {r : List Ar × Int} {l : List Ar} {w w' : World} {f : Int} {A : Option Addr} {c : Nat} (hr : r = (l, f)) (hl : Ars w' A l) (hw : Below w.heap.size w w') : GivesA2 r w (.returned (.tuple #[.slice A l.length c, .int .i64 f])) w' := by
  subst hr; exact ⟨A, c, rfl, hl, hw⟩
theorem GivesS2.ok {r : List ByteArray × Int} {l : List ByteArray} {w w' : World} {f : Int} {A : Option Addr} {c : Nat} (hr : r = (l, f)) (hl : Strs w' A l) (hw : Below w.heap.size w w') : GivesS2 r w (.returned (.tuple #[.slice A l.length c, .int .i64 f])) w' := by
  subst hr; exact ⟨A, c, rfl, hl, hw⟩

theorem mem_leaves {l : List Rg} (g : GoodR l) (a : List Ar) {i : Nat} (hi : i ∈ leafIdx l) : memS (leavesOf l a) (nmAt l i) = lies l a i := by
  have hlt : ∀ {j}, j ∈ leafIdx l → j < l.length := fun hj => by unfold leafIdx at hj; exact List.mem_range.1 (List.mem_filter.1 hj).1
  cases hl : lies l a i with
  | true =>
    rw [memS_true]
    unfold leavesOf
    exact List.mem_map.2 ⟨i, List.mem_filter.2 ⟨hi, hl⟩, rfl⟩
  | false =>
    rw [memS_false]
    intro hm
    unfold leavesOf at hm
    obtain ⟨j, hj, e⟩ := List.mem_map.1 hm
    obtain ⟨hj1, hj2⟩ := List.mem_filter.1 hj
    rw [nmAt_of (hlt hj1), nmAt_of (hlt hi)] at e
    rw [g.nm_inj (hlt hj1) (hlt hi) e] at hj2
    rw [hl] at hj2; cases hj2
def pick (l : List Rg) (p : Nat → Bool) : List ByteArray := ((leafIdx l).filter p).map (nmAt l)
theorem mem_pick {l : List Rg} (g : GoodR l) (p : Nat → Bool) {i : Nat} (hi : i ∈ leafIdx l) : setP l (pick l p) i = p i := by
  have hlt : ∀ {j}, j ∈ leafIdx l → j < l.length := fun hj => by unfold leafIdx at hj; exact List.mem_range.1 (List.mem_filter.1 hj).1
  unfold setP
  cases hl : p i with
  | true =>
    rw [memS_true]
    exact List.mem_map.2 ⟨i, List.mem_filter.2 ⟨hi, hl⟩, rfl⟩
  | false =>
    rw [memS_false]
    intro hm
    obtain ⟨j, hj, e⟩ := List.mem_map.1 hm
    obtain ⟨hj1, hj2⟩ := List.mem_filter.1 hj
    rw [nmAt_of (hlt hj1), nmAt_of (hlt hi)] at e
    rw [g.nm_inj (hlt hj1) (hlt hi) e] at hj2
    rw [hl] at hj2; cases hj2
theorem all_congr {α : Type} {p q : α → Bool} {l : List α} (h : ∀ x ∈ l, p x = q x) : l.all p = l.all q := by
  induction l with
  | nil => rfl
  | cons a t ih => rw [List.all_cons, List.all_cons, h a (by simp), ih (fun x hx => h x (by simp [hx]))]
theorem plainOf_congr {l : List Rg} {p q : Nat → Bool} (h : ∀ i ∈ leafIdx l, p i = q i) : plainOf l p = plainOf l q := by
  have hf : ∀ k, fullP l p k = fullP l q k := fun k => all_congr fun i hi => by rw [h i hi]
  have ht : ∀ k, plainTop l p k = plainTop l q k := fun k => by
    unfold plainTop
    rw [hf k]
    cases up l k with
    | none => rfl
    | some j => simp [hf j]
  unfold plainOf
  congr 1
  exact List.filter_congr fun k _ => ht k

def opOf (n : Nat) (p q : Bool) : Bool := if n = 1 then p || q else if n = 2 then p && q else p && !q

def pickTo (l : List Rg) (p : Nat → Bool) (t : Nat) : List ByteArray := (((leafIdx l).take t).filter p).map (nmAt l)
theorem pickTo_succ {l : List Rg} {p : Nat → Bool} {t : Nat} (h : t < (leafIdx l).length) : pickTo l p (t + 1) = pickTo l p t ++ (if p (leafIdx l)[t] then [nmAt l (leafIdx l)[t]] else []) := by
  unfold pickTo
  rw [List.take_succ_eq_append_getElem h, List.filter_append, List.map_append]
  cases hp : p (leafIdx l)[t] <;> simp [hp]
theorem pickTo_le (l : List Rg) (p : Nat → Bool) (t : Nat) : (pickTo l p t).length ≤ t := by
  unfold pickTo
  rw [List.length_map]
  refine Nat.le_trans (List.length_filter_le _ _) ?_
  rw [List.length_take]; omega

def CombRel (w : World) (l : List Rg) (p : Nat → Bool) (m : Nat) (set_ i : Value) (wr : World) : Prop :=
  ∃ t : Nat, t + m = (leafIdx l).length ∧ i = .int .i64 t ∧ OwnL encS 1 wr w.heap.size 9 set_ (pickTo l p t) ∧ Below w.heap.size w wr

theorem leavesOf_le (l : List Rg) (a : List Ar) : (leavesOf l a).length ≤ l.length := by
  unfold leavesOf
  rw [List.length_map]
  exact Nat.le_trans (List.length_filter_le _ _) (leafIdx_le l)

theorem chkA_le {l : List Rg} {a : List Ar} (h : chkA l a = 0) : a.length ≤ 100 := by
  unfold chkA at h
  split at h
  · omega
  · omega

theorem below_of_drewN (w : World) (n : Nat) : Below w.heap.size w (w.drewN n) := below_drewN (Below.refl _ _) n

theorem GivesQ.toB {v : Value} {w w' : World} {e : Ending} (h : GivesQ v w e w') : e = .returned v ∧ Below w.heap.size w w' := by
  obtain ⟨he, n, rfl⟩ := h
  exact ⟨he, below_of_drewN w n⟩

set_option maxHeartbeats 2000000 in
theorem combined_c (n : Nat) (hn3 : n = 1 ∨ n = 2 ∨ n = 3) (A A2 A3 : Option Addr) (c c2 c3 : Nat) (l : List Rg) (a b : List Ar) (w : World) (h : Rgs w A l) (h2 : Ars w A2 a) (h3 : Ars w A3 b) (hz : ∀ i (h : i < l.length), (l[i]).nm.size ≤ 9223372036854775807) :
    Calls Tryd.prog 31 #[.slice A l.length c, .slice A2 a.length c2, .slice A3 b.length c3, .int .i64 (n : Int)] w (GivesA2 (togetherS (opOf n) l a b) w) := by
  generalize hres : togetherS (opOf n) l a b = res
  have HR := Lib.hid hres
  clear hres
  unfold togetherS at HR
  by_cases hR : chkR l = 0
  · have g := good_of hR
    have hn := g.len
    have hRb : (chkR l != 0) = false := by simp [hR]
    by_cases hA : chkA l a = 0
    · have hAb : (chkA l a != 0) = false := by simp [hA]
      by_cases hB : chkA l b = 0
      · have hBb : (chkA l b != 0) = false := by simp [hB]
        have hal := chkA_le hA
        have hbl := chkA_le hB
        have HR2 : Hid ((if 100 < (plainOf l fun i => opOf n (lies l a i) (lies l b i)).length then (([] : List Ar), (2 : Int)) else (plainOf l fun i => opOf n (lies l a i) (lies l b i), 0)) = res) := by
          have := HR.out
          rw [if_neg (by simp [hR]), if_neg (by simp [hA]), if_neg (by simp [hB])] at this
          exact this
        clear HR
        have HA := Lib.hid hA
        have HB := Lib.hid hB
        have HRR := Lib.hid hR
        clear hA hB hR
        go_enter Tryd.func31, Tryd.ntmps31
        go_wp2_with fail
        refine (CheckRegionsR_c _ _ _ _ h hz).mono ?_
        intro e w1 hq
        obtain ⟨rfl, hb1⟩ := hq.toB
        rw [HRR.out]
        go_wp2_with fail
        refine (checkAreaR_c _ _ _ _ _ _ _ hn (h.below hb1) (h2.below hb1)).mono ?_
        intro e w2 hq
        obtain ⟨rfl, hb2'⟩ := hq.toB
        rw [HA.out]
        have hb2 := below_trans hb1 hb2'
        clear hb1 hb2'
        go_wp2_with fail
        refine (checkAreaR_c _ _ _ _ _ _ _ hn (h.below hb2) (h3.below hb2)).mono ?_
        intro e w3 hq
        obtain ⟨rfl, hb3'⟩ := hq.toB
        rw [HB.out]
        have hb3 := below_trans hb2 hb3'
        clear hb2 hb3'
        go_wp2_with fail
        refine (leaves_c _ _ _ _ _ _ _ g (h.below hb3) (h2.below hb3) hal).mono ?_
        rintro e w4 ⟨A4, c4, rfl, hx, hb4'⟩
        have hb4 := below_trans hb3 hb4'
        clear hb3 hb4'
        go_wp2_with fail
        refine (leaves_c _ _ _ _ _ _ _ g (h.below hb4) (h3.below hb4) hbl).mono ?_
        rintro e w5 ⟨A5, c5, rfl, hy, hb5'⟩
        have hb5 := below_trans hb4 hb5'
        have hx5 := hx.below hb5'
        clear hb4 hb5' hx
        go_wp2_with fail
        refine (all_c _ _ _ _ g (h.below hb5)).mono ?_
        rintro e w6 ⟨A6, c6, rfl, hall, hb6'⟩
        have hb6 := below_trans hb5 hb6'
        have hx6 := hx5.below hb6'
        have hy6 := hy.below hb6'
        clear hb5 hb6' hx5 hy
        have hl3 : (allS l).length = (leafIdx l).length := by unfold allS; rw [List.length_map]
        have hl4 := leafIdx_le l
        have hl5 : (allS l).length ≤ 200 := by omega
        have HL3 := Lib.hid hl3
        have HB6 := Lib.hid hb6
        have hlx : (leavesOf l a).length ≤ 1000000 := by have := leavesOf_le l a; omega
        have hly : (leavesOf l b).length ≤ 1000000 := by have := leavesOf_le l b; omega
        clear hl3 hb6
        go_wp2
        go_loopg [15, 47] (leafIdx l).length (CombRel w6 l (fun i => opOf n (lies l a i) (lies l b i)))
        case atStart => exact ⟨0, by omega, rfl, OwnL.nil _ _ _ _ _, Below.refl _ _⟩
        case round =>
          obtain ⟨t, ht, rfl, hown, hbel⟩ := hrel
          have HK := Lib.hid ht
          have hk1 : t ≤ (leafIdx l).length := by omega
          clear ht
          by_cases hlt : t < (leafIdx l).length
          · have hlt' : t < (allS l).length := by rw [HL3.out]; exact hlt
            obtain ⟨bb, o, rfl, hb, hc⟩ := (hall.below hbel).at_ (by omega)
            have hc0 := hc t hlt'
            clear hc
            obtain ⟨x, hxx⟩ : ∃ x, x = (leafIdx l)[t] := ⟨_, rfl⟩
            have hxm : x ∈ leafIdx l := by rw [hxx]; exact List.getElem_mem hlt
            have hxl : x < l.length := by rw [hxx]; exact leafIdx_lt hlt
            have hnm : (allS l)[t] = nmAt l x := by rw [allS_get hlt' hlt, ← hxx]
            rw [hnm] at hc0
            have hma := mem_leaves g a hxm
            have hmb := mem_leaves g b hxm
            have HX := Lib.hid hxx
            have HMA := Lib.hid hma
            have HMB := Lib.hid hmb
            have hle := pickTo_le l (fun i => opOf n (lies l a i) (lies l b i)) t
            have hwr : w6.heap.size ≤ wr.heap.size := hbel.size
            clear hxx hnm hma hmb
            go_wp2_with fail
            refine (has_c _ _ _ _ _ hlx (hx6.below hbel)).mono ?_
            rintro e w' ⟨rfl, rfl⟩
            rw [HMA.out]
            go_wp2_with fail
            refine (has_c _ _ _ _ _ hly (hy6.below hbel)).mono ?_
            rintro e w' ⟨rfl, rfl⟩
            rw [HMB.out]
            clear HMA HMB hx6 hy6
            have hsucc := pickTo_succ (p := fun i => opOf n (lies l a i) (lies l b i)) hlt
            rw [← HX.out] at hsucc
            have HS := Lib.hid hsucc
            clear hsucc
            generalize hp : lies l a x = p
            generalize hq : lies l b x = q
            have HP := Lib.hid hp
            have HQ := Lib.hid hq
            clear hp hq hRb hAb hBb
            rcases hn3 with rfl | rfl | rfl <;> cases p <;> cases q
            all_goals first
              | (go_wp2_with (at_builtin; refine wpList_push _ _ _ elStr rfl rfl w6.heap.size _ (pickTo l _ t) rfl (hown.alloc _) wr.heap.size 1 (nmAt l x) rfl (heap_alloc_new _ _) rfl (by simp [Value.oneCell']) (by unfold maxLen; omega) (by omega) (by simp; omega) ?_; intro v1 w7 hown7 hg7 hb7)
                 have HO7 := Lib.hid hown7
                 have HB7 := Lib.hid ((hbel.alloc hwr _).trans hb7)
                 clear hown hown7 hg7 hb7 hbel
                 go_wp2
                 go_roundg (gk - 1)
                 case measure => have := HK.out; omega
                 case rel => exact ⟨t + 1, by have := HK.out; omega, by go_num, by rw [HS.out]; simpa [opOf, HP.out, HQ.out] using HO7.out, HB7.out⟩)
              | (go_wp2
                 go_roundg (gk - 1)
                 case measure => have := HK.out; omega
                 case rel => exact ⟨t + 1, by have := HK.out; omega, by go_num, by rw [HS.out]; simpa [opOf, HP.out, HQ.out] using hown, hbel⟩)
          · have hlt' : (allS l).length ≤ t := by rw [HL3.out]; omega
            have hpk : pickTo l (fun i => opOf n (lies l a i) (lies l b i)) t = pick l fun i => opOf n (lies l a i) (lies l b i) := by
              unfold pickTo pick
              rw [List.take_of_length_le (by omega)]
            rw [hpk] at hown
            have hpl : (pick l fun i => opOf n (lies l a i) (lies l b i)).length ≤ 200 := by
              have := pickTo_le l (fun i => opOf n (lies l a i) (lies l b i)) t
              rw [hpk] at this
              omega
            obtain ⟨A7, c7, rfl, hset⟩ := hown.rd1
            have hpo : plainOf l (setP l (pick l fun i => opOf n (lies l a i) (lies l b i))) = plainOf l fun i => opOf n (lies l a i) (lies l b i) := plainOf_congr fun i hi => mem_pick g _ hi
            have HPO := Lib.hid hpo
            have hb7 := below_trans HB6.out hbel
            clear hpk hpo hbel hown
            go_wp2_with fail
            refine (plainR_c _ _ _ _ _ _ _ g (h.below hb7) hset hpl).mono ?_
            rintro e w8 ⟨A8, c8, rfl, hpn, hb8'⟩
            have hb8 := below_trans hb7 hb8'
            clear hb7 hb8'
            rw [HPO.out] at hpn ⊢
            by_cases hlong : 100 < (plainOf l fun i => opOf n (lies l a i) (lies l b i)).length
            · have hres : res = ([], 2) := by rw [← HR2.out, if_pos hlong]
              have HS := Lib.hid hres
              clear hres
              go_wp2
              go_ret2
              exact GivesA2.err HS.out hb8
            · have hres : res = (plainOf l fun i => opOf n (lies l a i) (lies l b i), 0) := by rw [← HR2.out, if_neg hlong]
              have HS := Lib.hid hres
              clear hres
              go_wp2
              go_ret2
              exact GivesA2.ok HS.out hpn hb8
      · have hBb : (chkA l b != 0) = true := by simp [hB]
        have hres : res = ([], chkA l b) := by
          have := HR.out
          rw [if_neg (by simp [hR]), if_neg (by simp [hA]), if_pos hB] at this
          exact this.symm
        have HS := Lib.hid hres
        have HA := Lib.hid hA
        have HRR := Lib.hid hR
        clear hres hA hR hB HR
        go_enter Tryd.func31, Tryd.ntmps31
        go_wp2_with fail
        refine (CheckRegionsR_c _ _ _ _ h hz).mono ?_
        intro e w1 hq
        obtain ⟨rfl, hb1⟩ := hq.toB
        rw [HRR.out]
        go_wp2_with fail
        refine (checkAreaR_c _ _ _ _ _ _ _ hn (h.below hb1) (h2.below hb1)).mono ?_
        intro e w2 hq
        obtain ⟨rfl, hb2'⟩ := hq.toB
        rw [HA.out]
        have hb2 := below_trans hb1 hb2'
        clear hb1 hb2'
        go_wp2_with fail
        refine (checkAreaR_c _ _ _ _ _ _ _ hn (h.below hb2) (h3.below hb2)).mono ?_
        intro e w3 hq
        obtain ⟨rfl, hb3'⟩ := hq.toB
        have hb3 := below_trans hb2 hb3'
        clear hb2 hb3'
        go_wp2
        go_ret2
        exact GivesA2.err HS.out hb3
    · have hAb : (chkA l a != 0) = true := by simp [hA]
      have hres : res = ([], chkA l a) := by
        have := HR.out
        rw [if_neg (by simp [hR]), if_pos hA] at this
        exact this.symm
      have HS := Lib.hid hres
      have HRR := Lib.hid hR
      clear hres hA hR HR
      go_enter Tryd.func31, Tryd.ntmps31
      go_wp2_with fail
      refine (CheckRegionsR_c _ _ _ _ h hz).mono ?_
      intro e w1 hq
      obtain ⟨rfl, hb1⟩ := hq.toB
      rw [HRR.out]
      go_wp2_with fail
      refine (checkAreaR_c _ _ _ _ _ _ _ hn (h.below hb1) (h2.below hb1)).mono ?_
      intro e w2 hq
      obtain ⟨rfl, hb2'⟩ := hq.toB
      have hb2 := below_trans hb1 hb2'
      clear hb1 hb2'
      go_wp2
      go_ret2
      exact GivesA2.err HS.out hb2
  · have hRb : (chkR l != 0) = true := by simp [hR]
    have hres : res = ([], chkR l) := by
      have := HR.out
      rw [if_pos hR] at this
      exact this.symm
    have HS := Lib.hid hres
    clear hres hR HR
    go_enter Tryd.func31, Tryd.ntmps31
    go_wp2_with fail
    refine (CheckRegionsR_c _ _ _ _ h hz).mono ?_
    intro e w1 hq
    obtain ⟨rfl, hb1⟩ := hq.toB
    go_wp2
    go_ret2
    exact GivesA2.err HS.out hb1
end Go.Proofs.YtnjepmbonhmdnaaDoor
