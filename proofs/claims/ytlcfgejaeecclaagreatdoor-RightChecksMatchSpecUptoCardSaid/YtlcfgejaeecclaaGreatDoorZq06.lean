/- Parts of the proof, joined: Package clock: digits and CheckRatio. slices.Index and slices.Contains. -/
import Derived.Test.YtlcfgejaeecclaaGreatDoorZq05
set_option maxRecDepth 100000
set_option maxHeartbeats 8000000
namespace Go.Proofs.YtlcfgejaeecclaaGreatDoor
open Go.RowKit Dw
theorem zero_list : (⟨#[48]⟩ : ByteArray).toList = [48] := by rw [Dw.toList_eq]
theorem numB_all {s : ByteArray} (h : numB s = true) : s.data.toList.all dgB = true ∧ 1 ≤ s.size := by
 unfold numB at h
 simp only [Bool.and_eq_true, Bool.or_eq_true, decide_eq_true_eq] at h
 refine ⟨h.1, ?_⟩
 rcases h.2 with h2 | h2 <;> omega
def DigRel (w : World) (s : ByteArray) (m : Nat) (iv : Value) (wr : World) : Prop :=
 wr = w ∧ ∃ k : Nat, k + m = s.size ∧ iv = .int .i64 k ∧ (s.data.toList.take k).all dgB = true
theorem all_take_succ {s : ByteArray} {k : Nat} (hk : k < s.size) (h : (s.data.toList.take k).all dgB = true) (h2 : dgB s[k] = true) : (s.data.toList.take (k + 1)).all dgB = true := by
 rw [List.take_succ_eq_append_getElem (by simpa using hk), List.all_append, h, data_get' s k hk]
 simp [h2]
theorem not_all {s : ByteArray} {k : Nat} (hk : k < s.size) (h2 : dgB s[k] = false) : s.data.toList.all dgB = false := by
 rw [List.all_eq_false]
 exact ⟨s[k], by rw [← data_get' s k hk]; exact List.getElem_mem _, by simp [h2]⟩
theorem digits_c (s : ByteArray) (w : World) (hs : s.size ≤ 9223372036854775807) : Calls Tryz.prog 141 #[.string s] w (Gives (.bool (numB s)) w) := by
 go_enter Tryz.func141, Tryz.ntmps141
 go_wp2
 go_loopg [6] s.size (DigRel w s)
 case atStart => exact ⟨rfl, 0, by omega, rfl, rfl⟩
 case round =>
  obtain ⟨hw, k, hkm, rfl, hall⟩ := hrel
  subst hw
  have HM := zq hkm
  have HA := zq hall
  clear hkm hall
  by_cases hlt : k < s.size
  ·by_cases h1 : s[k].toNat < 48
   ·have HD := zq (not_all hlt (show dgB s[k] = false by unfold dgB; simp; omega))
    go_wp2
    go_ret
    refine Gives.mk (vbool ?_) rfl
    unfold numB
    rw [HD.out]; rfl
   ·by_cases h2 : 57 < s[k].toNat
    ·have HD := zq (not_all hlt (show dgB s[k] = false by unfold dgB; simp; omega))
     have h1b : (48 : Int) ≤ (s[k].toNat : Int) := by omega
     go_wp2
     go_ret
     refine Gives.mk (vbool ?_) rfl
     unfold numB
     rw [HD.out]; rfl
    ·have HD := zq (all_take_succ hlt HA.out (show dgB s[k] = true by unfold dgB; simp; omega))
     have h1b : (48 : Int) ≤ (s[k].toNat : Int) := by omega
     have h2b : (s[k].toNat : Int) ≤ 57 := by omega
     go_wp2
     go_roundg (gk - 1)
     case measure => have := HM.out; omega
     case rel => exact ⟨rfl, k + 1, by have := HM.out; omega, by go_num, HD.out⟩
  ·obtain rfl : k = s.size := by have := HM.out; omega
   have HALL : Hid (s.data.toList.all dgB = true) := by
    show _ = _
    have := HA.out
    rwa [List.take_of_length_le (by simp)] at this
   have hr : numB s = (decide (s.size = 1) || decide (1 < s.size) && decide ((s.data.toList.headD 0).toNat ≠ 48)) := by
    unfold numB; rw [HALL.out]; rfl
   rcases Nat.eq_zero_or_pos s.size with h0 | h0
   ·have he : s = emp := by
     apply Dw.toList_inj
     rw [Dw.toList_eq, Dw.toList_eq, List.eq_nil_of_length_eq_zero (l := s.data.toList) (by simpa using h0)]
     rfl
    have hv : numB s = false := by rw [hr, h0]; rfl
    rw [hv]
    have q1 := isEmpty_of_eq he
    have q2 : (s.toList == [48]) = false := by rw [← zero_list]; exact beq_of_ne (by rw [he]; decide)
    have HV := zq hv
    clear hr hv he
    go_wp2
    go_ret
    exact Gives.mk (vbool HV.out.symm) rfl
   ·have hne : s ≠ emp := fun e => by rw [e] at h0; exact absurd h0 (by decide)
    have q1 := isEmpty_of_ne hne
    by_cases hz : s = zeroS
    ·have hv : numB s = true := by rw [hz]; decide +kernel
     rw [hv]
     have q2 : (s.toList == [48]) = true := by rw [← zero_list]; exact beq_of_eq hz
     have HV := zq hv
     clear hr hv hz hne
     go_wp2
     go_ret
     exact Gives.mk (vbool HV.out.symm) rfl
    ·have q2 : (s.toList == [48]) = false := by rw [← zero_list]; exact beq_of_ne hz
     have hd0 : s.data.toList.headD 0 = s[0] := headD_get s h0
     by_cases hh : s[0].toNat = 48
     ·have h1 : s.size ≠ 1 := fun e => hz (by
       apply Dw.toList_inj
       rw [Dw.toList_eq, Dw.toList_eq]
       apply List.ext_getElem
       ·simp [zeroS, e]
       ·intro i hi1 hi2
        obtain rfl : i = 0 := by simp [e] at hi1; omega
        rw [data_get' s 0 h0]
        have : s[0] = 48 := UInt8.toNat_inj.1 (by simpa using hh)
        rw [this]; rfl)
      have hv : numB s = false := by rw [hr, hd0, hh]; simp [h1]
      have q3 : ((s[0].toNat : Int) != 48) = false := by simp [hh]
      rw [hv]
      have HV := zq hv
      clear hr hv hz hne hh hd0 h1
      go_wp2
      go_ret
      exact Gives.mk (vbool HV.out.symm) rfl
     ·have hv : numB s = true := by
       rw [hr, hd0]
       rcases Nat.lt_or_ge 1 s.size with h | h
       ·simp [h, hh]
       ·have : s.size = 1 := by omega
        simp [this]
      have q3 : ((s[0].toNat : Int) != 48) = true := by simp; omega
      rw [hv]
      have HV := zq hv
      clear hr hv hz hne hh hd0
      go_wp2
      go_ret
      exact Gives.mk (vbool HV.out.symm) rfl
theorem len_val {s : ByteArray} (h : s.data.toList.all dgB = true) (hs : s.size ≤ 2000) : (words B32 (valS s)).length ≤ 2000 := by
 have h1 := decV_dg h
 have h2 : 10 ^ s.data.toList.length ≤ B32 ^ s.data.toList.length := Nat.pow_le_pow_left (by decide) _
 have h3 := len_le_of_lt B32_gt (Nat.lt_of_lt_of_le h1 h2)
 have h4 : s.data.toList.length = s.size := by simp
 unfold valS
 omega
theorem den_pos {s : ByteArray} (h : numB s = true) (hz : s ≠ zeroS) : 0 < valS s := by
 obtain ⟨h1, h2⟩ := numB_all h
 unfold numB at h
 rw [h1] at h
 simp only [Bool.true_and, Bool.or_eq_true, decide_eq_true_eq, Bool.and_eq_true] at h
 have hd0 : s.data.toList.headD 0 = s[0] := headD_get s (by omega)
 have hne : s[0].toNat ≠ 48 := by
  rcases h with h | ⟨_, h⟩
  ·intro e
   apply hz
   apply Dw.toList_inj
   rw [Dw.toList_eq, Dw.toList_eq]
   apply List.ext_getElem
   ·simp [zeroS, h]
   ·intro i hi1 hi2
    obtain rfl : i = 0 := by simp [h] at hi1; omega
    rw [data_get' s 0 (by omega)]
    have : s[0] = 48 := UInt8.toNat_inj.1 (by simpa using e)
    rw [this]; rfl
  ·rwa [hd0] at h
 have hdg := dgB_of (List.all_eq_true.1 h1 s[0] (by rw [← data_get' s 0 (by omega)]; exact List.getElem_mem _))
 unfold valS
 rw [decV_cut s.data.toList 1]
 have e1 : s.data.toList.take 1 = [s[0]] := by
  rw [List.take_succ_eq_append_getElem (by simp; omega), data_get' s 0 (by omega)]; rfl
 have e2 : decV [s[0]] = s[0].toNat - 48 := by simp [decV]
 rw [e1, e2]
 have h3 : 1 * 10 ^ (s.data.toList.length - 1) ≤ (s[0].toNat - 48) * 10 ^ (s.data.toList.length - 1) := Nat.mul_le_mul_right _ (by omega)
 have h4 : 0 < 10 ^ (s.data.toList.length - 1) := Nat.pow_pos (by omega)
 omega
theorem CheckRatio_c (nu de : ByteArray) (w : World) (hs : (absN nu).size ≤ 9223372036854775807) (hs2 : de.size ≤ 9223372036854775807) :
  Calls Tryz.prog 108 #[.agg #[.string nu, .string de]] w (GivesB (.int .i64 (ratF nu de)) w) := by
 generalize hres : ratF nu de = res
 have HR := zq hres
 clear hres
 unfold ratF at HR
 have HB0 : Hid (Below w.heap.size w (w.alloc (.cells #[.string nu, .string de] 50))) := (Below.refl w.heap.size w).alloc (Nat.le_refl _) _
 have HC := zq (fun W => cut_c nu W)
 have HD1 := zq (fun W => digits_c (absN nu) W hs)
 have HD2 := zq (fun W => digits_c de W hs2)
 have HF := zq (fun (h1 : numB (absN nu) = true) (h2 : numB de = true) (h3 : (absN nu).size ≤ 2000) (h4 : de.size ≤ 2000) W => From_c nu de W (numB_all h1).1 h3 (numB_all h2).1 h4)
 have HL := zq (fun (h1 : numB (absN nu) = true) (h2 : numB de = true) (hz : de ≠ zeroS) (h3 : (absN nu).size ≤ 2000) (h4 : de.size ≤ 2000) A c A2 c2 W (x : Nt W A c (valS (absN nu))) (y : Nt W A2 c2 (valS de)) =>
  Lowest_c (sgB nu) A A2 c c2 (valS (absN nu)) (valS de) W x y (den_pos h2 hz) (Nat.le_trans (len_val (numB_all h1).1 h3) (by omega)) (Nat.le_trans (len_val (numB_all h2).1 h4) (by omega)))
 go_enter Tryz.func108, Tryz.ntmps108
 go_wp2_with fail
 with_reducible refine (HC.out _).mono ?_
 rintro e w1 ⟨rfl, rfl⟩
 go_wp2_with fail
 with_reducible refine (HD1.out _).mono ?_
 rintro e w1 ⟨rfl, rfl⟩
 cases h1 : numB (absN nu) with
 | false =>
  have HS : Hid (res = 3) := by show _ = _; rw [← HR.out, if_pos (.inl h1)]
  clear h1
  go_wp2
  go_ret
  exact GivesB.mk (vint HS.out.symm) HB0.out
 | true =>
  by_cases h2 : negB nu = true ∧ absN nu = zeroS
  ·have HS : Hid (res = 3) := by show _ = _; rw [← HR.out, if_pos (.inr (.inl h2))]
   have q1 := h2.1
   have q2 : ((absN nu).toList == [48]) = true := by rw [← zero_list]; exact beq_of_eq h2.2
   rw [q1]
   clear h1 h2 q1
   go_wp2
   go_ret
   exact GivesB.mk (vint HS.out.symm) HB0.out
  ·have HQ : Hid (negB nu = false ∨ ((absN nu).toList == [48]) = false) := by
    show _ ∨ _
    by_cases h3 : negB nu = true
    ·exact .inr (by rw [← zero_list]; exact beq_of_ne fun e => h2 ⟨h3, e⟩)
    ·exact .inl (by simpa using h3)
   have hr1 := HR.out
   have HR1 : Hid ((if numB de = false ∨ de = zeroS then 3 else if 2000 < (absN nu).size ∨ 2000 < de.size then 2 else if Nat.gcd (valS (absN nu)) (valS de) = 1 then 0 else 3) = res) := by
    show _ = _
    rw [← hr1]
    by_cases h4 : numB de = false ∨ de = zeroS
    ·rw [if_pos h4, if_pos (.inr (.inr h4))]
    ·have hno : ¬(numB (absN nu) = false ∨ (negB nu = true ∧ absN nu = zeroS) ∨ numB de = false ∨ de = zeroS) := by
      rintro (h | h | h)
      ·rw [h1] at h; cases h
      ·exact h2 h
      ·exact h4 h
     rw [if_neg h4, if_neg hno]
   have H1 := zq h1
   clear hr1 HR h2 h1 HD1 HC
   rcases HQ.out with q | q
   case' inr => cases hng : negB nu
   case' inl => rw [q]
   all_goals
    clear HQ
    go_wp2_with fail
    with_reducible refine (HD2.out _).mono ?_
    rintro e w1 ⟨rfl, rfl⟩
    cases h3 : numB de with
    | false =>
     have HS : Hid (res = 3) := by show _ = _; rw [← HR1.out, if_pos (.inl h3)]
     clear h3
     go_wp2
     go_ret
     exact GivesB.mk (vint HS.out.symm) HB0.out
    | true =>
     by_cases h4 : de = zeroS
     ·have HS : Hid (res = 3) := by show _ = _; rw [← HR1.out, if_pos (.inr h4)]
      have q2 : (de.toList == [48]) = true := by rw [← zero_list]; exact beq_of_eq h4
      clear h3 h4
      go_wp2
      go_ret
      exact GivesB.mk (vint HS.out.symm) HB0.out
     ·have q2 : (de.toList == [48]) = false := by rw [← zero_list]; exact beq_of_ne h4
      have HR2 : Hid ((if 2000 < (absN nu).size ∨ 2000 < de.size then 2 else if Nat.gcd (valS (absN nu)) (valS de) = 1 then 0 else 3) = res) := by
       show _ = _
       have hno : ¬(numB de = false ∨ de = zeroS) := by
        rintro (h | h)
        ·rw [h3] at h; cases h
        ·exact h4 h
       rw [← HR1.out, if_neg hno]
      by_cases h5 : 2000 < (absN nu).size
      ·have HS : Hid (res = 2) := by show _ = _; rw [← HR2.out, if_pos (.inl h5)]
       clear h3 h4
       go_wp2
       go_ret
       exact GivesB.mk (vint HS.out.symm) HB0.out
      ·by_cases h6 : 2000 < de.size
       ·have HS : Hid (res = 2) := by show _ = _; rw [← HR2.out, if_pos (.inr h6)]
        clear h3 h4
        go_wp2
        go_ret
        exact GivesB.mk (vint HS.out.symm) HB0.out
       ·have HR3 : Hid ((if Nat.gcd (valS (absN nu)) (valS de) = 1 then (0 : Int) else 3) = res) := by
         show _ = _
         rw [← HR2.out, if_neg (show ¬(2000 < (absN nu).size ∨ 2000 < de.size) by omega)]
        have HF2 := zq (HF.out H1.out h3 (by omega) (by omega))
        have HL2 := zq (HL.out H1.out h3 h4 (by omega) (by omega))
        clear h3 h4
        go_wp2_with fail
        with_reducible refine (HF2.out _).mono ?_
        rintro e w2 ⟨A5, c5, A6, c6, rfl, h7, h8, hb2⟩
        have HB2 := zq (HB0.out.trans (hb2.mono HB0.out.size))
        clear hb2
        go_wp2_with fail
        with_reducible refine (HL2.out A5 c5 A6 c6 _ h7 h8).mono ?_
        rintro e w3 ⟨rfl, hb3⟩
        have HB3 := zq (below_trans HB2.out hb3)
        clear hb3 HF HL HF2 HL2 HB2
        by_cases h9 : Nat.gcd (valS (absN nu)) (valS de) = 1
        ·have HS : Hid (res = 0) := by show _ = _; rw [← HR3.out, if_pos h9]
         have hlb : lowB (valS (absN nu)) (valS de) = true := by unfold lowB; exact decide_eq_true h9
         rw [hlb]
         clear h9 hlb
         go_wp2
         go_ret
         exact GivesB.mk (vint HS.out.symm) HB3.out
        ·have HS : Hid (res = 3) := by show _ = _; rw [← HR3.out, if_neg h9]
         have hlb : lowB (valS (absN nu)) (valS de) = false := by unfold lowB; exact decide_eq_false h9
         rw [hlb]
         clear h9 hlb
         go_wp2
         go_ret
         exact GivesB.mk (vint HS.out.symm) HB3.out
def posS (l : List ByteArray) (s : ByteArray) : Int := match l.findIdx? fun x => decide (x = s) with
 | some i => i
 | none => -1
theorem posS_mem (l : List ByteArray) (s : ByteArray) : decide ((0 : Int) ≤ posS l s) = memS l s := by
 unfold posS memS
 cases h : l.findIdx? fun x => decide (x = s) with
 | none =>
  have : (l.any fun x => decide (x = s)) = false := by
   rw [List.any_eq_false]
   intro x hx
   have := List.findIdx?_eq_none_iff.1 h x hx
   simpa using this
  rw [this]; rfl
 | some i =>
  obtain ⟨hi, hp, _⟩ := List.findIdx?_eq_some_iff_getElem.1 h
  have : (l.any fun x => decide (x = s)) = true := List.any_eq_true.2 ⟨l[i], List.getElem_mem hi, hp⟩
  rw [this]; simp
def PosIRel (w : World) (l : List ByteArray) (s : ByteArray) (m : Nat) (i : Value) (wr : World) : Prop :=
 w = wr ∧ ∃ k : Nat, k + m = l.length ∧ i = .int .i64 k ∧ ∀ j (h : j < l.length), j < k → l[j] ≠ s
theorem indexS_c (A : Option Addr) (c : Nat) (l : List ByteArray) (s : ByteArray) (w : World) (hn : l.length ≤ 1000000) (h : Strs w A l) :
  Calls Tryz.prog 101 #[.slice A l.length c, .string s] w (Gives (.int .i64 (posS l s)) w) := by
 generalize hres : posS l s = res
 have HR := zq hres
 clear hres
 go_enter Tryz.func101, Tryz.ntmps101
 go_wp2
 go_loopg [8] l.length (PosIRel w l s)
 case atStart => exact ⟨rfl, 0, by omega, rfl, fun j _ hj => absurd hj (by omega)⟩
 case round =>
  obtain ⟨hw, k, hk, rfl, hpre⟩ := hrel
  subst hw
  have HK := zq hk
  have HP := zq hpre
  have hk1 : k ≤ l.length := by omega
  clear hk hpre
  by_cases hlt : k < l.length
  ·obtain ⟨b, o, rfl, hb, hc⟩ := h.at_ (by omega)
   have hc0 := hc k hlt
   clear hc
   by_cases hq : s = l[k]
   ·have hqb := beq_of_eq hq
    have HQ := zq hq
    clear hq
    go_wp2
    go_ret
    refine Gives.mk (vint ?_) rfl
    rw [← HR.out]
    unfold posS
    rw [List.findIdx?_eq_some_iff_getElem.2 ⟨hlt, by simp [HQ.out], fun j hj => by simpa using HP.out j (by omega) hj⟩]
   ·have hqb := beq_of_ne hq
    have HQ := zq hq
    clear hq
    go_wp2
    go_roundg (gk - 1)
    case measure => have := HK.out; omega
    case rel =>
     refine ⟨rfl, k + 1, by have := HK.out; omega, by go_num, fun j hj hjk => ?_⟩
     rcases Nat.lt_or_ge j k with h1 | h1
     ·exact HP.out j hj h1
     ·obtain rfl : j = k := by omega
      exact fun e => HQ.out e.symm
  ·go_wp2
   go_ret
   refine Gives.mk (vint ?_) rfl
   rw [← HR.out]
   unfold posS
   rw [List.findIdx?_eq_none_iff.2 fun x hx => by
    obtain ⟨j, hj, rfl⟩ := List.getElem_of_mem hx
    simpa using HP.out j hj (by omega)]
theorem containsS_c (A : Option Addr) (c : Nat) (l : List ByteArray) (s : ByteArray) (w : World) (hn : l.length ≤ 1000000) (h : Strs w A l) :
  Calls Tryz.prog 65 #[.slice A l.length c, .string s] w (Gives (.bool (memS l s)) w) := by
 have hm := posS_mem l s
 generalize memS l s = res at *
 have HM := zq hm
 clear hm
 go_enter Tryz.func65, Tryz.ntmps65
 go_wp2_with (go_at_call 101; refine (indexS_c _ _ _ _ _ hn h).mono ?_; rintro e w' ⟨rfl, rfl⟩)
 go_ret
 exact Gives.mk (vbool HM.out) rfl
abbrev Ints := Rd1 (fun n : Int => Value.int .i64 n)
def cmpI (a b : Int) : Int := if a < b then -1 else if b < a then 1 else 0
theorem isNaN_c (a : Int) (w : World) : Calls Tryz.prog 97 #[.int .i64 a] w (Gives (.bool false) w) := by
 have hb : (a != a) = false := by simp
 go_enter Tryz.func97, Tryz.ntmps97
 go_wp2
 go_ret
 exact Gives.mk rfl rfl
theorem cmpI_c (a b : Int) (w : World) : Calls Tryz.prog 60 #[.int .i64 a, .int .i64 b] w (Gives (.int .i64 (cmpI a b)) w) := by
 generalize hres : cmpI a b = res
 have HR := zq hres
 clear hres
 by_cases h1 : a < b
 ·have HS : Hid (res = -1) := by
   show res = -1
   rw [← HR.out]; unfold cmpI; rw [if_pos h1]
  go_enter Tryz.func60, Tryz.ntmps60
  go_wp2_with (go_at_call 97; refine (isNaN_c _ _).mono ?_; rintro e w' ⟨rfl, rfl⟩)
  go_ret
  exact Gives.mk (vint HS.out.symm) rfl
 ·by_cases h2 : b < a
  ·have HS : Hid (res = 1) := by
    show res = 1
    rw [← HR.out]; unfold cmpI; rw [if_neg h1, if_pos h2]
   go_enter Tryz.func60, Tryz.ntmps60
   go_wp2_with (go_at_call 97; refine (isNaN_c _ _).mono ?_; rintro e w' ⟨rfl, rfl⟩)
   go_ret
   exact Gives.mk (vint HS.out.symm) rfl
  ·have HS : Hid (res = 0) := by
    show res = 0
    rw [← HR.out]; unfold cmpI; rw [if_neg h1, if_neg h2]
   go_enter Tryz.func60, Tryz.ntmps60
   go_wp2_with (go_at_call 97; refine (isNaN_c _ _).mono ?_; rintro e w' ⟨rfl, rfl⟩)
   go_ret
   exact Gives.mk (vint HS.out.symm) rfl
def orI : List Int → Int
 | [] => 0
 | a :: l => if a = 0 then orI l else a
theorem orI_at {l : List Int} {k : Nat} (hk : k < l.length) (hp : ∀ j (h : j < l.length), j < k → l[j] = 0) (h : l[k] ≠ 0) : orI l = l[k] := by
 induction l generalizing k with
 | nil => simp at hk
 | cons a t ih =>
  cases k with
  | zero => simp at h; simp [orI, h]
  | succ k =>
   have h0 : a = 0 := hp 0 (by simp) (by omega)
   rw [orI, if_pos h0]
   exact ih (by simpa using hk) (fun j hj hjk => hp (j + 1) (by simpa using hj) (by omega)) (by simpa using h)
theorem orI_none {l : List Int} (hp : ∀ j (h : j < l.length), l[j] = 0) : orI l = 0 := by
 induction l with
 | nil => rfl
 | cons a t ih =>
  have h0 : a = 0 := hp 0 (by simp)
  rw [orI, if_pos h0]
  exact ih fun j hj => hp (j + 1) (by simpa using hj)
def OrRel (w : World) (l : List Int) (m : Nat) (i : Value) (wr : World) : Prop :=
 w = wr ∧ ∃ k : Nat, k + m = l.length ∧ i = .int .i64 k ∧ ∀ j (h : j < l.length), j < k → l[j] = 0
theorem cmpOr_c (A : Option Addr) (c : Nat) (l : List Int) (w : World) (hn : l.length ≤ 1000000) (h : Ints w A l) :
  Calls Tryz.prog 59 #[.slice A l.length c] w (Gives (.int .i64 (orI l)) w) := by
 generalize hres : orI l = res
 have HR := zq hres
 clear hres
 go_enter Tryz.func59, Tryz.ntmps59
 go_wp2
 go_loopg [8] l.length (OrRel w l)
 case atStart => exact ⟨rfl, 0, by omega, rfl, fun j _ hj => absurd hj (by omega)⟩
 case round =>
  obtain ⟨hw, k, hk, rfl, hpre⟩ := hrel
  subst hw
  have HK := zq hk
  have HP := zq hpre
  have hk1 : k ≤ l.length := by omega
  clear hk hpre
  by_cases hlt : k < l.length
  ·obtain ⟨b, o, rfl, hb, hc⟩ := h.at_ (by omega)
   have hc0 := hc k hlt
   clear hc
   by_cases hq : l[k] = 0
   ·have hqb : (l[k] != 0) = false := by simpa using hq
    have HQ := zq hq
    clear hq
    go_wp2
    go_roundg (gk - 1)
    case measure => have := HK.out; omega
    case rel =>
     refine ⟨rfl, k + 1, by have := HK.out; omega, by go_num, fun j hj hjk => ?_⟩
     rcases Nat.lt_or_ge j k with h1 | h1
     ·exact HP.out j hj h1
     ·obtain rfl : j = k := by omega
      exact HQ.out
   ·have hqb : (l[k] != 0) = true := by simpa using hq
    have HQ := zq hq
    clear hq
    go_wp2
    go_ret
    exact Gives.mk (vint (by rw [← HR.out, orI_at hlt HP.out HQ.out])) rfl
  ·go_wp2
   go_ret
   exact Gives.mk (vint (by rw [← HR.out, orI_none fun j hj => HP.out j hj (by omega)])) rfl
def cfS (x y : ByteArray) : Int := Lib.compareBytes x.data.toList y.data.toList
theorem compare_less : ∀ (a b : List UInt8), decide (Lib.compareBytes a b < 0) = Op.bytesLess a b
 | [], [] => by simp [Lib.compareBytes, Op.bytesLess]
 | [], _ :: _ => by simp [Lib.compareBytes, Op.bytesLess]
 | _ :: _, [] => by simp [Lib.compareBytes, Op.bytesLess]
 | a :: x, b :: y => by
  have ih := compare_less x y
  rw [Lib.compareBytes, Op.bytesLess]
  by_cases h1 : a < b
  ·simp [h1]
  ·by_cases h2 : b < a
   ·have h3 : ¬ a = b := fun e => by subst e; exact h1 h2
    simp [h1, h2, h3]
   ·have h3 : a = b := UInt8.le_antisymm (UInt8.not_lt.1 h2) (UInt8.not_lt.1 h1)
    subst h3
    simp only [h1, if_false]
    rw [ih]
    simp
theorem cfS_lt (x y : ByteArray) : decide (cfS x y < 0) = slt x y := by
 unfold cfS slt
 rw [compare_less, Dw.toList_eq, Dw.toList_eq]
theorem compareS_c (x y : ByteArray) (w : World) : Calls Tryz.prog 61 #[.string x, .string y] w (Gives (.int .i64 (cfS x y)) w) := by
 have h := Any.strings_Compare Tryz.lays106 x y w
 change Calls Tryz.prog 61 _ _ _ at h
 exact h.mono fun _ _ ⟨he, hw⟩ => ⟨he, hw.symm⟩
def Shs (w : World) (A : Option Addr) (l : List Sh) : Prop :=
 0 < l.length → ∃ b o : Nat, A = some ⟨b, o, none⟩ ∧ ∀ i (h : i < l.length), w.cell? ⟨b, o + i * 3, none⟩ = some (.string (l[i]).pt) ∧ w.cell? ⟨b, o + i * 3 + 1, none⟩ = some (.string (l[i]).nu) ∧ w.cell? ⟨b, o + i * 3 + 2, none⟩ = some (.string (l[i]).de)
theorem Shs.at_ {w : World} {A : Option Addr} {l : List Sh} (h : Shs w A l) (hl : 0 < l.length) : ∃ b o : Nat, A = some ⟨b, o, none⟩ ∧ b < w.heap.size ∧ ∀ i (h : i < l.length), w.cell? ⟨b, o + i * 3, none⟩ = some (.string (l[i]).pt) ∧ w.cell? ⟨b, o + i * 3 + 1, none⟩ = some (.string (l[i]).nu) ∧ w.cell? ⟨b, o + i * 3 + 2, none⟩ = some (.string (l[i]).de) := by
 obtain ⟨b, o, rfl, hc⟩ := h hl
 exact ⟨b, o, rfl, World.block_lt_of_cell? w _ (hc 0 hl).1, hc⟩
theorem Shs.below {w w' : World} {A : Option Addr} {l : List Sh} (h : Shs w A l) (hb : Below w.heap.size w w') : Shs w' A l := fun hl => by
 obtain ⟨b, o, rfl, hlt, hc⟩ := h.at_ hl
 refine ⟨b, o, rfl, fun i hi => ?_⟩
 rw [hb.cell hlt, hb.cell hlt, hb.cell hlt]
 exact hc i hi
abbrev deC (d : De) : Array Value := #[.string d.id, .int .i64 d.day, .int .i64 d.kd, .string d.th, .string d.fr, .string d.to_, .string d.nu, .string d.de, .bool d.ex, .bool d.sb, .slice d.arA d.ar.length d.arc, .slice d.usA d.us.length d.usc, .int .i64 d.bg, .int .i64 d.en, .slice d.shA d.sh.length d.shc, .string d.ot]
abbrev deV (d : De) : Value := .agg (deC d)
structure DeOk (w : World) (d : De) : Prop where
 ars : Ars w d.arA d.ar
 uses : Strs w d.usA d.us
 shs : Shs w d.shA d.sh
 lens : d.ar.length ≤ 140737488355328 ∧ d.us.length ≤ 140737488355328 ∧ d.sh.length ≤ 140737488355328
 strs : d.id.size ≤ 9223372036854775807 ∧ d.th.size ≤ 9223372036854775807 ∧ d.fr.size ≤ 9223372036854775807 ∧ d.to_.size ≤ 9223372036854775807 ∧ d.nu.size ≤ 9223372036854775807 ∧ d.de.size ≤ 9223372036854775807
 shz : ∀ s ∈ d.sh, s.pt.size ≤ 9223372036854775807 ∧ s.nu.size ≤ 9223372036854775807 ∧ s.de.size ≤ 9223372036854775807
theorem DeOk.below {w w' : World} {d : De} (h : DeOk w d) (hb : Below w.heap.size w w') : DeOk w' d := ⟨h.ars.below hb, h.uses.below hb, h.shs.below hb, h.lens, h.strs, h.shz⟩
theorem isDay_c (n : Int) (w : World) : Calls Tryz.prog 66 #[.int .i64 n] w (Gives (.bool (dayB n)) w) := by
 by_cases h1 : 0 ≤ n
 ·by_cases h2 : n ≤ 200000
  ·have hv : dayB n = true := by simp [dayB, h1, h2]
   rw [hv]
   have HV := zq hv
   clear hv
   go_enter Tryz.func66, Tryz.ntmps66
   go_wp2
   go_ret
   exact Gives.mk rfl rfl
  ·have hv : dayB n = false := by simp [dayB, h2]
   rw [hv]
   have HV := zq hv
   have h2' : 200000 < n := by omega
   clear hv h2
   go_enter Tryz.func66, Tryz.ntmps66
   go_wp2
   go_ret
   exact Gives.mk (vbool (decide_eq_false (by omega))) rfl
 ·have hv : dayB n = false := by simp [dayB, h1]
  rw [hv]
  have HV := zq hv
  have h1' : n < 0 := by omega
  clear hv h1
  go_enter Tryz.func66, Tryz.ntmps66
  go_wp2
  go_ret
  exact Gives.mk rfl rfl
def kindB (n : Int) : Bool := decide (1 ≤ n) && decide (n ≤ 5)
theorem isKindD_c (n : Int) (w : World) : Calls Tryz.prog 80 #[.int .i64 n] w (Gives (.bool (kindB n)) w) := by
 by_cases h1 : 1 ≤ n
 ·by_cases h2 : n ≤ 5
  ·have hv : kindB n = true := by simp [kindB, h1, h2]
   rw [hv]
   have HV := zq hv
   clear hv
   go_enter Tryz.func80, Tryz.ntmps80
   go_wp2
   go_ret
   exact Gives.mk rfl rfl
  ·have hv : kindB n = false := by simp [kindB, h2]
   rw [hv]
   have HV := zq hv
   have h2' : 5 < n := by omega
   clear hv h2
   go_enter Tryz.func80, Tryz.ntmps80
   go_wp2
   go_ret
   exact Gives.mk (vbool (decide_eq_false (by omega))) rfl
 ·have hv : kindB n = false := by simp [kindB, h1]
  rw [hv]
  have HV := zq hv
  have h1' : n < 1 := by omega
  clear hv h1
  go_enter Tryz.func80, Tryz.ntmps80
  go_wp2
  go_ret
  exact Gives.mk rfl rfl
def deCmp (a b : De) : Int := orI [cmpI a.day b.day, cfS a.id b.id]
theorem deCmp_lt (a b : De) : decide (deCmp a b < 0) = deLt a b := by
 unfold deCmp deLt cmpI
 rcases Int.lt_trichotomy a.day b.day with h | h | h
 ·simp [h, orI]
 ·rw [h]
  have e1 := cfS_lt a.id b.id
  rw [← e1]
  by_cases hz : cfS a.id b.id = 0
  ·simp [orI, hz]
  ·simp [orI, hz]
 ·have h1 : ¬ a.day < b.day := by omega
  have h2 : ¬ a.day = b.day := by omega
  simp [orI, h, h1, h2]
theorem ints_twoR (w : World) (a b : Int) (t : TypeId) : Ints (w.alloc (.cells #[.int .i64 a, .int .i64 b] t)) (some ⟨w.heap.size, 0, none⟩) [a, b] := fun _ => by
 refine ⟨w.heap.size, 0, rfl, fun i hi => ?_⟩
 have h2 : i = 0 ∨ i = 1 := by simp at hi; omega
 rcases h2 with rfl | rfl
 ·exact (Bx.new w _ t).cell rfl
 ·exact (Bx.new w _ t).cell rfl
theorem compareDeeds_c (a b : De) (w : World) : Calls Tryz.prog 28 #[deV a, deV b] w (GivesB (.int .i64 (deCmp a b)) w) := by
 have HX : Hid (Bx ((w.alloc (.cells (deC a) 54)).alloc (.cells (deC b) 54)) w.heap.size (deC a) 54) := (Bx.new _ _ _).alloc _
 have HY : Hid (Bx ((w.alloc (.cells (deC a) 54)).alloc (.cells (deC b) 54)) (w.heap.size + 1) (deC b) 54) := Bx.new1 _ _ _ _
 have HB : Hid (Below w.heap.size w ((w.alloc (.cells (deC a) 54)).alloc (.cells (deC b) 54))) := ((Below.refl w.heap.size w).alloc (Nat.le_refl _) _).alloc (by simp) _
 obtain ⟨W, hW⟩ : ∃ W, W = (w.alloc (.cells (deC a) 54)).alloc (.cells (deC b) 54) := ⟨_, rfl⟩
 rw [← hW] at HX HY HB
 unfold deCmp
 have HC := zq (fun W' => cmpI_c a.day b.day W')
 have HS := zq (fun W' => compareS_c a.id b.id W')
 go_enter Tryz.func28, Tryz.ntmps28
 go_wp2_with fail
 rw [← hW]
 clear hW
 have x0 := HX.out.cell (i := 0) rfl
 have x1 := HX.out.cell (i := 1) rfl
 have y0 := HY.out.cell (i := 0) rfl
 have y1 := HY.out.cell (i := 1) rfl
 generalize cmpI a.day b.day = z1 at *
 generalize cfS a.id b.id = z2 at *
 have ho : ∀ W' : World, Calls Tryz.prog 59 #[.slice (some ⟨W'.heap.size, 0, none⟩) 2 2] (W'.alloc (.cells #[.int .i64 z1, .int .i64 z2] 3)).drew (Gives (.int .i64 (orI [z1, z2])) (W'.alloc (.cells #[.int .i64 z1, .int .i64 z2] 3)).drew) :=
  fun W' => cmpOr_c (some ⟨W'.heap.size, 0, none⟩) 2 [z1, z2] _ (by simp) (Rd1.drew (ints_twoR W' z1 z2 _))
 have HO := zq ho
 clear ho
 refine wp_region_still_tail 10 (by kernel_rfl) (by kernel_rfl) ?_
 simp only [List.take_succ_cons, List.take_zero, List.drop_succ_cons, List.drop_zero]
 iterate 4 still_step
 still_call ((HC.out _).mono (fun _ _ h => ⟨h.1, h.2.symm⟩))
 iterate 4 still_step
 still_call ((HS.out _).mono (fun _ _ h => ⟨h.1, h.2.symm⟩))
 refine wpStill_nil ?_
 change wpList _ _ _ _ _ W.drew
 clear x0 x1 y0 y1 HC HS
 go_wp2_with fail
 with_reducible refine (HO.out W).mono ?_
 rintro e w3 ⟨rfl, rfl⟩
 have HB3 : Hid (Below w.heap.size w (W.alloc (.cells #[.int .i64 z1, .int .i64 z2] 3)).drew) := below_drewN (HB.out.alloc HB.out.size _) 1
 go_wp2
 go_ret
 exact GivesB.mk rfl HB3.out
def fldC (k : Int) : Array Value :=
 if k = 1 then #[.bool true, .bool false, .bool false, .bool false, .bool false, .bool false, .bool false, .bool true, .bool false]
 else if k = 2 then #[.bool true, .bool true, .bool true, .bool true, .bool false, .bool true, .bool true, .bool false, .bool false]
 else if k = 3 then #[.bool true, .bool true, .bool true, .bool false, .bool true, .bool true, .bool true, .bool false, .bool false]
 else if k = 4 then #[.bool false, .bool false, .bool false, .bool false, .bool false, .bool false, .bool false, .bool false, .bool true]
 else #[.bool false, .bool true, .bool false, .bool false, .bool false, .bool false, .bool false, .bool true, .bool false]
theorem fieldsOf_c (k : Int) (w : World) (hk : 1 ≤ k ∧ k ≤ 5) : Calls Tryz.prog 33 #[.int .i64 k] w (GivesB (.agg (fldC k)) w) := by
 have h5 : k = 1 ∨ k = 2 ∨ k = 3 ∨ k = 4 ∨ k = 5 := by omega
 rcases h5 with rfl | rfl | rfl | rfl | rfl
 all_goals
  clear hk
  go_enter Tryz.func33, Tryz.ntmps33
  go_wp2
  refine bodyPost_ret (v := .agg (fldC _)) (by simp [results, Tryz.results33, go_sem]; rfl) rfl ⟨rfl, ?_⟩
  exact (Below.refl w.heap.size w).alloc (Nat.le_refl _) _
def GivesPos (M : List Bool) (w : World) (e : Ending) (w' : World) : Prop := ∃ z : Int, e = .returned (.int .i64 z) ∧ decide ((0 : Int) ≤ z) = M.any id ∧ w = w'
def IdxRelB (w : World) (M : List Bool) (m : Nat) (i : Value) (wr : World) : Prop :=
 wr = w ∧ ∃ k : Nat, k + m = M.length ∧ i = .int .i64 k ∧ (M.take k).any id = false
theorem indexB_c (A : Option Addr) (c : Nat) (M : List Bool) (w : World) (hn : M.length ≤ 1000000) (h : Rd1 Value.bool w A M) :
  Calls Tryz.prog 200 #[.slice A M.length c, .bool true] w (GivesPos M w) := by
 go_enter Tryz.func200, Tryz.ntmps200
 go_wp2
 go_loopg [8] M.length (IdxRelB w M)
 case atStart => exact ⟨rfl, 0, by omega, rfl, rfl⟩
 case round =>
  obtain ⟨hw, k, hk, rfl, hpre⟩ := hrel
  subst hw
  have HK := zq hk
  have HP := zq hpre
  have hk1 : k ≤ M.length := by omega
  clear hk hpre
  by_cases hlt : k < M.length
  ·obtain ⟨b, o, rfl, hb, hc⟩ := h.at_ (by omega)
   have hc0 := hc k hlt
   clear hc
   have HE : Hid (M.take (k + 1) = M.take k ++ [M[k]]) := List.take_succ_eq_append_getElem hlt
   have HM : Hid (M[k] = true → M.any id = true) := fun e => List.any_eq_true.2 ⟨M[k], List.getElem_mem hlt, e⟩
   obtain ⟨x, hx⟩ : ∃ x, M[k] = x := ⟨_, rfl⟩
   rw [hx] at hc0 HE HM
   clear hx
   cases x with
   | true =>
    go_wp2
    go_ret
    exact ⟨(k : Int), rfl, by rw [HM.out trivial]; exact decide_eq_true (by omega), rfl⟩
   | false =>
    go_wp2
    go_roundg (gk - 1)
    case measure => have := HK.out; omega
    case rel => exact ⟨rfl, k + 1, by have := HK.out; omega, by go_num, by rw [HE.out, List.any_append, HP.out]; rfl⟩
  ·have HA : Hid (M.any id = false) := by
    show _ = _
    have := HP.out
    rwa [List.take_of_length_le (by omega)] at this
   go_wp2
   go_ret
   exact ⟨-1, rfl, by rw [HA.out]; rfl, rfl⟩
theorem some_c (A : Option Addr) (c : Nat) (M : List Bool) (w : World) (hn : M.length ≤ 1000000) (h : Rd1 Value.bool w A M) :
  Calls Tryz.prog 150 #[.slice A M.length c] w (Gives (.bool (M.any id)) w) := by
 have hC : ∀ W, Rd1 Value.bool W A M → Calls Tryz.prog 180 #[.slice A M.length c, .bool true] W (Gives (.bool (M.any id)) W) := fun W hW => by
  go_enter Tryz.func180, Tryz.ntmps180
  go_wp2_with fail
  with_reducible refine (indexB_c A c M W hn hW).mono ?_
  rintro e w' ⟨z, rfl, hz, rfl⟩
  have HZ := zq hz
  clear hz
  go_wp2
  go_ret
  exact Gives.mk (vbool HZ.out) rfl
 have HC := zq (hC w h)
 clear hC
 go_enter Tryz.func150, Tryz.ntmps150
 go_wp2_with fail
 with_reducible refine HC.out.mono ?_
 rintro e w' ⟨rfl, rfl⟩
 go_wp2
 go_ret
 exact Gives.mk rfl rfl
def UsesRel (w : World) (us l : List ByteArray) (m : Nat) (i : Value) (wr : World) : Prop :=
 (∃ n, wr = w.drewN n) ∧ ∃ k : Nat, k + m = l.length ∧ i = .int .i64 k ∧ ∀ j, j < k → useFault us l j = none
theorem useF_hit {us l : List ByteArray} {k : Nat} {f : Int} (hk : k < l.length) (hp : ∀ j, j < k → useFault us l j = none) (h : useFault us l k = some f) : useF us l = f := by
 unfold useF
 rw [findSome_first hk hp h]
theorem useF_none {us l : List ByteArray} (hp : ∀ j, j < l.length → useFault us l j = none) : useF us l = 0 := by
 unfold useF
 rw [findSome_none hp]
theorem usAt_of {l : List ByteArray} {i : Nat} (h : i < l.length) : usAt l i = l[i] := by simp [usAt, List.getD, h]
theorem checkUses_c (A A2 : Option Addr) (c c2 : Nat) (us l : List ByteArray) (w : World) (hu : us.length ≤ 1000000) (hn : l.length ≤ 140737488355328) (h : Strs w A us) (h2 : Strs w A2 l) :
  Calls Tryz.prog 151 #[.slice A us.length c, .slice A2 l.length c2] w (GivesD (.int .i64 (useF us l)) w) := by
 have HC := zq (fun W s (x : Strs W A us) => containsS_c A c us s W hu x)
 go_enter Tryz.func151, Tryz.ntmps151
 go_wp2
 go_loopg [9] l.length (UsesRel w us l)
 case atStart => exact ⟨⟨0, rfl⟩, 0, by omega, rfl, fun j hj => absurd hj (by omega)⟩
 case round =>
  obtain ⟨⟨nd, hw⟩, k, hkm, rfl, hpre⟩ := hrel
  subst hw
  have HM := zq hkm
  have HP := zq hpre
  clear hkm hpre
  by_cases hlt : k < l.length
  ·obtain ⟨b, o, hA, hb, hc⟩ := h2.at_ (by omega)
   subst hA
   have hc0 := hc k hlt
   have HCL := zq hc
   clear hc
   have e0 : usAt l k = l[k] := usAt_of hlt
   go_wp2_with fail
   with_reducible refine (HC.out _ _ (h.drewN nd)).mono ?_
   rintro e w' ⟨rfl, rfl⟩
   cases hm : memS us l[k] with
   | false =>
    have HF : Hid (useF us l = 5) := useF_hit hlt HP.out (by unfold useFault; rw [e0, if_pos hm])
    clear hm e0
    go_wp2
    go_ret
    exact GivesD.mk (vint HF.out.symm) ⟨nd, rfl⟩
   | true =>
    rcases Nat.eq_zero_or_pos k with h0 | h0
    ·subst h0
     have HF : Hid (useFault us l 0 = none) := by
      show _ = _
      unfold useFault; rw [e0, if_neg (by rw [hm]; simp), if_neg (by omega)]
     clear hm e0
     go_wp2
     go_roundg (gk - 1)
     case measure => have := HM.out; omega
     case rel => exact ⟨⟨nd, rfl⟩, 1, by have := HM.out; omega, by go_num, fun j hj => by
      have e : j = 0 := by omega
      subst e
      exact HF.out⟩
    ·have hcp := HCL.out (k - 1) (by omega)
     have hd : decide ((0 : Int) < (k : Int)) = true := by simp; omega
     have e1 : usAt l (k - 1) = l[k - 1]'(by omega) := usAt_of (by omega)
     cases hle : sle l[k] (l[k - 1]'(by omega)) with
     | true =>
      have HF : Hid (useF us l = 8) := useF_hit hlt HP.out (by unfold useFault; rw [e0, e1, if_neg (by rw [hm]; simp), if_pos ⟨h0, hle⟩])
      have hleb := hle
      unfold sle at hleb
      clear hm e0 e1 hle
      go_wp2
      go_ret
      exact GivesD.mk (vint HF.out.symm) ⟨nd, rfl⟩
     | false =>
      have HF : Hid (useFault us l k = none) := by
       show _ = _
       unfold useFault; rw [e0, e1, if_neg (by rw [hm]; simp), if_neg (by rintro ⟨_, h9⟩; rw [hle] at h9; cases h9)]
      have hleb := hle
      unfold sle at hleb
      clear hm e0 e1 hle
      go_wp2
      go_roundg (gk - 1)
      case measure => have := HM.out; omega
      case rel =>
       refine ⟨⟨nd, rfl⟩, k + 1, by have := HM.out; omega, by go_num, fun j hj => ?_⟩
       rcases Nat.lt_or_ge j k with h1 | h1
       ·exact HP.out j h1
       ·have e : j = k := by omega
        subst e
        exact HF.out
  ·have HF : Hid (useF us l = 0) := useF_none fun j hj => HP.out j (by omega)
   go_wp2
   go_ret
   exact GivesD.mk (vint HF.out.symm) ⟨nd, rfl⟩
def ptIs (fr : ByteArray) (s : Sh) : Bool := decide (s.pt = fr)
def ShIx (w : World) (l : List Sh) (fr : ByteArray) (m : Nat) (i : Value) (wr : World) : Prop :=
 Below w.heap.size w wr ∧ ∃ k : Nat, k + m = l.length ∧ i = .int .i64 k ∧ (l.take k).any (ptIs fr) = false
def GivesPosB (t : Bool) (w : World) (e : Ending) (w' : World) : Prop := ∃ z : Int, e = .returned (.int .i64 z) ∧ decide ((0 : Int) ≤ z) = t ∧ Below w.heap.size w w'
theorem ptIs_c (s : Sh) (p : Nat) (fr : ByteArray) (w : World) (hp : w.cell? ⟨p, 4, none⟩ = some (.string fr)) :
  Calls Tryz.prog 154 #[.agg #[.string s.pt, .string s.nu, .string s.de], .pointer (some ⟨p, 0, none⟩)] w (GivesB (.bool (ptIs fr s)) w) := by
 have hpl : p < w.heap.size := World.block_lt_of_cell? w _ hp
 by_cases h : s.pt = fr
 ·have hb := beq_of_eq h
  have hv : ptIs fr s = true := by unfold ptIs; exact decide_eq_true h
  rw [hv]
  have HV := zq hv
  clear hv h
  go_enter Tryz.func154, Tryz.ntmps154
  go_wp2
  go_ret
  exact GivesB.mk rfl ((Below.refl w.heap.size w).alloc (Nat.le_refl _) _)
 ·have hb := beq_of_ne h
  have hv : ptIs fr s = false := by unfold ptIs; exact decide_eq_false h
  rw [hv]
  have HV := zq hv
  clear hv h
  go_enter Tryz.func154, Tryz.ntmps154
  go_wp2
  go_ret
  exact GivesB.mk rfl ((Below.refl w.heap.size w).alloc (Nat.le_refl _) _)
theorem indexSh_c (A : Option Addr) (c p : Nat) (l : List Sh) (fr : ByteArray) (w : World) (hn : l.length ≤ 1000000) (h : Shs w A l) (hp : w.cell? ⟨p, 4, none⟩ = some (.string fr)) :
  Calls Tryz.prog 182 #[.slice A l.length c, .func (.func 154) #[] #[.pointer (some ⟨p, 0, none⟩)]] w (GivesPosB (l.any (ptIs fr)) w) := by
 have hpl : p < w.heap.size := World.block_lt_of_cell? w _ hp
 go_enter Tryz.func182, Tryz.ntmps182
 go_wp2
 go_loopg [8] l.length (ShIx w l fr)
 case atStart => exact ⟨Below.refl _ _, 0, by omega, rfl, rfl⟩
 case round =>
  obtain ⟨hbw, k, hk, rfl, hpre⟩ := hrel
  have HK := zq hk
  have HP := zq hpre
  have HBW := zq hbw
  clear hk hpre hbw
  by_cases hlt : k < l.length
  ·obtain ⟨b, o, hA, hb, hc⟩ := (h.below HBW.out).at_ (by omega)
   subst hA
   obtain ⟨c0, c1, c2⟩ := hc k hlt
   clear hc
   have HE : Hid (l.take (k + 1) = l.take k ++ [l[k]]) := List.take_succ_eq_append_getElem hlt
   have HM : Hid (ptIs fr l[k] = true → l.any (ptIs fr) = true) := fun e => List.any_eq_true.2 ⟨l[k], List.getElem_mem hlt, e⟩
   have hcall := ptIs_c l[k] p fr wr ((HBW.out.cell (p := ⟨p, 4, none⟩) hpl).trans hp)
   have HCALL := zq hcall
   clear hcall
   go_wp2_with fail
   with_reducible refine HCALL.out.mono ?_
   rintro e w2 ⟨rfl, hb2⟩
   have HB2 := zq (below_trans HBW.out hb2)
   clear hb2 HCALL c0 c1 c2
   cases hx : ptIs fr l[k] with
   | true =>
    have HM2 := zq (HM.out hx)
    clear hx
    go_wp2
    go_ret
    exact ⟨(k : Int), rfl, by rw [HM2.out]; exact decide_eq_true (by omega), HB2.out⟩
   | false =>
    have HX := zq hx
    clear hx
    go_wp2
    go_roundg (gk - 1)
    case measure => have := HK.out; omega
    case rel => exact ⟨HB2.out, k + 1, by have := HK.out; omega, by go_num, by rw [HE.out, List.any_append, HP.out]; simp [HX.out]⟩
  ·have HA : Hid (l.any (ptIs fr) = false) := by
    show _ = _
    have := HP.out
    rwa [List.take_of_length_le (by omega)] at this
   go_wp2
   go_ret
   exact ⟨-1, rfl, by rw [HA.out]; rfl, HBW.out⟩
theorem containsSh_c (A : Option Addr) (c p : Nat) (l : List Sh) (fr : ByteArray) (w : World) (hn : l.length ≤ 1000000) (h : Shs w A l) (hp : w.cell? ⟨p, 4, none⟩ = some (.string fr)) :
  Calls Tryz.prog 153 #[.slice A l.length c, .func (.func 154) #[] #[.pointer (some ⟨p, 0, none⟩)]] w (GivesB (.bool (l.any (ptIs fr))) w) := by
 go_enter Tryz.func153, Tryz.ntmps153
 go_wp2_with fail
 refine (indexSh_c A c p l fr w hn h hp).mono ?_
 rintro e w1 ⟨z, rfl, hz, hb⟩
 have HZ := zq hz
 clear hz
 go_wp2
 go_ret
 exact GivesB.mk (vbool HZ.out) hb
def cutset : ByteArray := ⟨#[97, 98, 99, 100, 101, 102, 103, 104, 105, 106, 107, 108, 109, 110, 111, 112, 113, 114, 115, 116, 117, 118, 119, 120, 121, 122, 48, 49, 50, 51, 52, 53, 54, 55, 56, 57, 45]⟩
theorem cut_okB (c : UInt8) : cutset.data.toList.contains c = okB c := by
 have h : ∀ n : Nat, n < 256 → cutset.data.toList.contains (UInt8.ofNat n) = okB (UInt8.ofNat n) := by decide +kernel
 have := h c.toNat c.toNat_lt
 simpa using this
theorem dropWhile_mem {p : UInt8 → Bool} : ∀ {l : List UInt8} {b : UInt8}, b ∈ l → p b = false → b ∈ l.dropWhile p
 | [], _, h, _ => by simp at h
 | a :: t, b, h, hb => by
  rw [List.dropWhile_cons]
  cases ha : p a with
  | false => simpa using h
  | true =>
   simp only [if_true]
   rcases List.mem_cons.1 h with rfl | h
   ·rw [ha] at hb; cases hb
   ·exact dropWhile_mem h hb
theorem dropWhile_all {p : UInt8 → Bool} : ∀ {l : List UInt8}, l.all p = true → l.dropWhile p = []
 | [], _ => rfl
 | a :: t, h => by
  rw [List.all_cons, Bool.and_eq_true] at h
  rw [List.dropWhile_cons, h.1]
  simpa using dropWhile_all h.2
theorem trim_empty (l : List UInt8) : (Lib.trimS l cutset.data.toList).isEmpty = l.all okB := by
 have hp : (fun b => cutset.data.toList.contains b) = okB := funext cut_okB
 cases ha : l.all okB with
 | true =>
  have : Lib.trimS l cutset.data.toList = [] := by
   unfold Lib.trimS Lib.trimLeftS Lib.trimRightS
   rw [hp, dropWhile_all (l := l.reverse) (by rw [List.all_reverse]; exact ha)]
   rfl
  rw [this]; rfl
 | false =>
  obtain ⟨b, hb, hn⟩ := List.all_eq_false.1 ha
  have hn' : okB b = false := by simpa using hn
  have : b ∈ Lib.trimS l cutset.data.toList := by
   unfold Lib.trimS Lib.trimLeftS Lib.trimRightS
   rw [hp]
   exact dropWhile_mem (List.mem_reverse.2 (dropWhile_mem (List.mem_reverse.2 hb) hn')) hn'
  cases hs : Lib.trimS l cutset.data.toList with
  | nil => rw [hs] at this; simp at this
  | cons a t => rfl
theorem trimS_c (s : ByteArray) (w : World) (hs : s.size ≤ 9223372036854775807) :
  Calls Tryz.prog 107 #[.string s, .string cutset] w (GivesB (.string ⟨(Lib.trimS s.data.toList cutset.data.toList).toArray⟩) w) :=
 Any.strings_Trim_laid Tryz.lays160 (by kernel_rfl) s cutset w hs (by decide) (ascii_of_all (by decide +kernel))
theorem soundIsName_c (s : ByteArray) (w : World) (hs : s.size ≤ 9223372036854775807) :
  Calls Tryz.prog 79 #[.string s] w (GivesB (.bool (isNm s)) w) := by
 generalize hres : isNm s = res
 have HR := zq hres
 clear hres
 by_cases h1 : 1 ≤ s.size
 ·by_cases h2 : s.size ≤ 40
  ·by_cases h3 : 97 ≤ (s[0]'h1).toNat
   ·by_cases h4 : (s[0]'h1).toNat ≤ 122
    ·have hall : (⟨(Lib.trimS s.data.toList cutset.data.toList).toArray⟩ : ByteArray).toList.isEmpty = res := by
      rw [← HR.out, isNm_all h1 h2 h3 h4, ByteArray.toList_mk, trim_empty]
     have hcon := trimS_c s w hs
     generalize (⟨(Lib.trimS s.data.toList cutset.data.toList).toArray⟩ : ByteArray) = r at hall hcon
     have HC := zq hcon
     have HA := zq hall
     clear hcon hall
     go_enter Tryz.func79, Tryz.ntmps79
     go_wp2_with fail
     refine HC.out.mono ?_
     rintro e w' ⟨rfl, hB⟩
     go_wp2
     go_ret
     exact GivesB.mk (vbool HA.out) hB
    ·have hres : res = false := by
      rw [← HR.out]
      unfold isNm
      rw [headD_get s h1]
      simp [h4]
     have HS := zq hres
     clear hres
     go_enter Tryz.func79, Tryz.ntmps79
     go_wp2_with fail
     go_ret
     exact GivesB.mk (vbool HS.out.symm) (Below.refl _ _)
   ·have hres : res = false := by
     rw [← HR.out]
     unfold isNm
     rw [headD_get s h1]
     simp [h3]
    have HS := zq hres
    clear hres
    go_enter Tryz.func79, Tryz.ntmps79
    go_wp2_with fail
    go_ret
    exact GivesB.mk (vbool HS.out.symm) (Below.refl _ _)
  ·have hres : res = false := by
    rw [← HR.out]
    unfold isNm
    simp [h2]
   have HS := zq hres
   clear hres
   go_enter Tryz.func79, Tryz.ntmps79
   go_wp2_with fail
   go_ret
   exact GivesB.mk (vbool HS.out.symm) (Below.refl _ _)
 ·have hres : res = false := by
   rw [← HR.out]
   unfold isNm
   simp [h1]
  have HS := zq hres
  clear hres
  go_enter Tryz.func79, Tryz.ntmps79
  go_wp2_with fail
  go_ret
  exact GivesB.mk (vbool HS.out.symm) (Below.refl _ _)
theorem isName_c (s : ByteArray) (w : World) (hs : s.size ≤ 9223372036854775807) :
  Calls Tryz.prog 47 #[.string s] w (GivesB (.bool (isNm s)) w) := by
 go_enter Tryz.func47, Tryz.ntmps47
 go_wp2_with fail
 refine (soundIsName_c s w hs).mono ?_
 rintro e w' ⟨rfl, hB⟩
 go_wp2
 go_ret
 exact GivesB.mk rfl hB
end Go.Proofs.YtlcfgejaeecclaaGreatDoor
