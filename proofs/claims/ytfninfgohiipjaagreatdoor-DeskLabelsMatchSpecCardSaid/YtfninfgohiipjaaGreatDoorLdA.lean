/- Names, comparisons and searches for embargoes. -/
import Derived.Test.YtfninfgohiipjaaGreatDoorLdP
import Derived.Test.YtfninfgohiipjaaGreatDoorLcQ
namespace Go.Proofs.YtfninfgohiipjaaGreatDoor
open Go.RowKit Dw

theorem data_get (s : ByteArray) (k : Nat) (h : k < s.size) : s.data.toList[k]'(by simpa using h) = s[k] := rfl
def NameRel (w : World) (s : ByteArray) (m : Nat) (i : Value) (wr : World) : Prop :=
  wr = w ∧ ∃ k : Nat, k + m = s.size ∧ i = .int .i64 k ∧ ∀ j (h : j < s.size), j < k → okB s[j] = true

theorem isNm_all {s : ByteArray} (h1 : 1 ≤ s.size) (h2 : s.size ≤ 40) (h3 : 97 ≤ (s[0]'h1).toNat) (h4 : (s[0]'h1).toNat ≤ 122) : isNm s = s.data.toList.all okB := by
  unfold isNm
  rw [headD_get s h1]
  simp [h1, h2, h3, h4]

set_option maxHeartbeats 800000 in
theorem soundIsName_c (s : ByteArray) (w : World) (hs : s.size ≤ 9223372036854775807) :
    Calls Tryz.prog 41 #[.string s] w (GivesB (.bool (isNm s)) w) := by
  generalize hres : isNm s = res
  have HR := Lib.hid hres
  clear hres
  by_cases h1 : 1 ≤ s.size
  · by_cases h2 : s.size ≤ 40
    · by_cases h3 : 97 ≤ (s[0]'h1).toNat
      · by_cases h4 : (s[0]'h1).toNat ≤ 122
        · have HALL := Lib.hid (isNm_all h1 h2 h3 h4)
          go_enter Tryz.func41, Tryz.ntmps41
          go_wp2_with fail
          refine (trimN_c s w hs).mono ?_
          rintro e w' ⟨r, rfl, hr, hB⟩
          have HE := Lib.hid hr
          clear hr
          go_wp2
          go_ret
          exact GivesB.mk (vbool (by rw [HE.out, ← HALL.out, HR.out])) hB
        · have hres : res = false := by
            rw [← HR.out]
            unfold isNm
            rw [headD_get s h1]
            simp [h4]
          have HS := Lib.hid hres
          clear hres
          go_enter Tryz.func41, Tryz.ntmps41
          go_wp2_with fail
          go_ret
          exact GivesB.mk (vbool HS.out.symm) (Below.refl _ _)
      · have hres : res = false := by
          rw [← HR.out]
          unfold isNm
          rw [headD_get s h1]
          simp [h3]
        have HS := Lib.hid hres
        clear hres
        go_enter Tryz.func41, Tryz.ntmps41
        go_wp2_with fail
        go_ret
        exact GivesB.mk (vbool HS.out.symm) (Below.refl _ _)
    · have hres : res = false := by
        rw [← HR.out]
        unfold isNm
        simp [h2]
      have HS := Lib.hid hres
      clear hres
      go_enter Tryz.func41, Tryz.ntmps41
      go_wp2_with fail
      go_ret
      exact GivesB.mk (vbool HS.out.symm) (Below.refl _ _)
  · have hres : res = false := by
      rw [← HR.out]
      unfold isNm
      simp [h1]
    have HS := Lib.hid hres
    clear hres
    go_enter Tryz.func41, Tryz.ntmps41
    go_wp2_with fail
    go_ret
    exact GivesB.mk (vbool HS.out.symm) (Below.refl _ _)

set_option maxHeartbeats 800000 in
theorem IsParty_c (s : ByteArray) (w : World) (hs : s.size ≤ 9223372036854775807) :
    Calls Tryz.prog 44 #[.string s] w (Gives (.bool (isNm s)) w) := by
  generalize hres : isNm s = res
  have HR := Lib.hid hres
  clear hres
  by_cases h1 : 1 ≤ s.size
  · have he : s.toList.isEmpty = false := isEmpty_of_ne (fun e => by rw [e] at h1; exact absurd h1 (by decide))
    by_cases h2 : s.size ≤ 40
    · by_cases h3 : 97 ≤ (s[0]'h1).toNat
      · by_cases h4 : (s[0]'h1).toNat ≤ 122
        · have hall := isNm_all h1 h2 h3 h4
          have HA := Lib.hid hall
          clear hall
          go_enter Tryz.func44, Tryz.ntmps44
          go_wp2
          go_loopg [24] s.size (NameRel w s)
          case atStart => exact ⟨rfl, 0, by omega, rfl, fun j _ hj => absurd hj (by omega)⟩
          case round =>
            obtain ⟨hw, k, hk, rfl, hpre⟩ := hrel
            subst hw
            have HK := Lib.hid hk
            have HP := Lib.hid hpre
            have hk1 : k ≤ s.size := by omega
            clear hk hpre
            by_cases hlt : k < s.size
            · have hcase : ((97 ≤ s[k].toNat ∧ s[k].toNat ≤ 122) ∨ (48 ≤ s[k].toNat ∧ s[k].toNat ≤ 57) ∨ (45 ≤ s[k].toNat ∧ s[k].toNat ≤ 45)) ∨ ((122 < s[k].toNat ∧ 1 ≤ s.size) ∨ (57 < s[k].toNat ∧ s[k].toNat < 97) ∨ (s[k].toNat < 48 ∧ s[k].toNat ≠ 45)) := by omega
              rcases hcase with hcase | hcase
              · have hok : okB s[k] = true := by
                  unfold okB
                  rcases hcase with ⟨a1, a2⟩ | ⟨a1, a2⟩ | ⟨a1, a2⟩
                  · simp [a1, a2]
                  · simp [a1, a2]
                  · have : s[k].toNat = 45 := by omega
                    simp [this]
                have HO := Lib.hid hok
                clear hok
                have fin : ∀ j (h : j < s.size), j < k + 1 → okB s[j] = true := fun j hj hjk => by
                  rcases Nat.lt_or_ge j k with h1 | h1
                  · exact HP.out j hj h1
                  · obtain rfl : j = k := by omega
                    exact HO.out
                have HF := Lib.hid fin
                clear fin
                rcases hcase with ⟨a1, a2⟩ | ⟨a1, a2⟩ | ⟨a1, a2⟩
                · go_wp2
                  go_roundg (gk - 1)
                  case measure => have := HK.out; omega
                  case rel => exact ⟨rfl, k + 1, by have := HK.out; omega, by go_num, HF.out⟩
                · go_wp2
                  go_roundg (gk - 1)
                  case measure => have := HK.out; omega
                  case rel => exact ⟨rfl, k + 1, by have := HK.out; omega, by go_num, HF.out⟩
                · have hb : ((s[k].toNat : Int) != 45) = false := by
                    have : (s[k].toNat : Int) = 45 := by omega
                    simp [this]
                  go_wp2
                  go_roundg (gk - 1)
                  case measure => have := HK.out; omega
                  case rel => exact ⟨rfl, k + 1, by have := HK.out; omega, by go_num, HF.out⟩
              · have hb : ((s[k].toNat : Int) != 45) = true := by rw [bne_iff_ne]; omega
                have hno : okB s[k] = false := by
                  unfold okB
                  simp
                  omega
                have hres : res = false := by
                  rw [← HR.out, HA.out, List.all_eq_false]
                  exact ⟨s[k], by rw [← data_get s k hlt]; exact List.getElem_mem _, by simp [hno]⟩
                have HS := Lib.hid hres
                clear hres hno
                rcases hcase with ⟨a1, a2⟩ | ⟨a1, a2⟩ | ⟨a1, a2⟩
                · have d1 : decide (122 < (s[k].toNat : Int)) = true := by simp; omega
                  have d2 : decide (57 < (s[k].toNat : Int)) = true := by simp; omega
                  have d3 : decide ((s[k].toNat : Int) < 97) = false := by simp; omega
                  have d4 : decide ((s[k].toNat : Int) < 48) = false := by simp; omega
                  go_wp2
                  go_ret
                  exact Gives.mk (vbool HS.out.symm) rfl
                · have d2 : decide (57 < (s[k].toNat : Int)) = true := by simp; omega
                  have d3 : decide ((s[k].toNat : Int) < 97) = true := by simp; omega
                  have d4 : decide ((s[k].toNat : Int) < 48) = false := by simp; omega
                  go_wp2
                  go_ret
                  exact Gives.mk (vbool HS.out.symm) rfl
                · have d3 : decide ((s[k].toNat : Int) < 97) = true := by simp; omega
                  have d4 : decide ((s[k].toNat : Int) < 48) = true := by simp; omega
                  go_wp2
                  go_ret
                  exact Gives.mk (vbool HS.out.symm) rfl
            · go_wp2
              go_ret
              refine Gives.mk (vbool ?_) rfl
              rw [← HR.out, HA.out, eq_comm, List.all_eq_true]
              intro x hx
              obtain ⟨j, hj, rfl⟩ := List.getElem_of_mem hx
              have hj' : j < s.size := by simpa using hj
              exact HP.out j hj' (by omega)
        · go_enter Tryz.func44, Tryz.ntmps44
          go_wp2
          go_ret
          refine Gives.mk (vbool ?_) rfl
          rw [← HR.out]
          unfold isNm
          rw [headD_get s h1]
          simp [h4]
      · go_enter Tryz.func44, Tryz.ntmps44
        go_wp2
        go_ret
        refine Gives.mk (vbool ?_) rfl
        rw [← HR.out]
        unfold isNm
        rw [headD_get s h1]
        simp [h3]
    · go_enter Tryz.func44, Tryz.ntmps44
      go_wp2
      go_ret
      refine Gives.mk (vbool ?_) rfl
      rw [← HR.out]
      unfold isNm
      simp [h2]
  · have he : s.toList.isEmpty = true := by
      cases hs : s.toList with
      | nil => rfl
      | cons a l =>
        have := congrArg List.length hs
        rw [toList_eq] at this
        simp at this
        omega
    go_enter Tryz.func44, Tryz.ntmps44
    go_wp2
    go_ret
    refine Gives.mk (vbool ?_) rfl
    rw [← HR.out]
    unfold isNm
    simp [h1]

def posS (l : List ByteArray) (s : ByteArray) : Int := match l.findIdx? fun x => decide (x = s) with
  | some i => i
  | none => -1
theorem posS_mem (l : List ByteArray) (s : ByteArray) : decide ((0 : Int) ≤ posS l s) = memS l s := by
  unfold posS memS
  cases h : l.findIdx? fun x => decide (x = s) with
  | none =>
    have : (l.any fun x => decide (x = s)) = false := by
      rw [List.any_eq_false]
      intro x hx
      have := List.findIdx?_eq_none_iff.1 h x hx
      simpa using this
    rw [this]; rfl
  | some i =>
    obtain ⟨hi, hp, _⟩ := List.findIdx?_eq_some_iff_getElem.1 h
    have : (l.any fun x => decide (x = s)) = true := List.any_eq_true.2 ⟨l[i], List.getElem_mem hi, hp⟩
    rw [this]; simp
def PosIRel (w : World) (l : List ByteArray) (s : ByteArray) (m : Nat) (i : Value) (wr : World) : Prop :=
  w = wr ∧ ∃ k : Nat, k + m = l.length ∧ i = .int .i64 k ∧ ∀ j (h : j < l.length), j < k → l[j] ≠ s

set_option maxHeartbeats 400000 in
theorem indexS_c (A : Option Addr) (c : Nat) (l : List ByteArray) (s : ByteArray) (w : World) (hn : l.length ≤ 1000000) (h : Strs w A l) :
    Calls Tryz.prog 120 #[.slice A l.length c, .string s] w (Gives (.int .i64 (posS l s)) w) := by
  generalize hres : posS l s = res
  have HR := Lib.hid hres
  clear hres
  go_enter Tryz.func120, Tryz.ntmps120
  go_wp2
  go_loopg [8] l.length (PosIRel w l s)
  case atStart => exact ⟨rfl, 0, by omega, rfl, fun j _ hj => absurd hj (by omega)⟩
  case round =>
    obtain ⟨hw, k, hk, rfl, hpre⟩ := hrel
    subst hw
    have HK := Lib.hid hk
    have HP := Lib.hid hpre
    have hk1 : k ≤ l.length := by omega
    clear hk hpre
    by_cases hlt : k < l.length
    · obtain ⟨b, o, rfl, hb, hc⟩ := h.at_ (by omega)
      have hc0 := hc k hlt
      clear hc
      by_cases hq : s = l[k]
      · have hqb := beq_of_eq hq
        have HQ := Lib.hid hq
        clear hq
        go_wp2
        go_ret
        refine Gives.mk (vint ?_) rfl
        rw [← HR.out]
        unfold posS
        rw [List.findIdx?_eq_some_iff_getElem.2 ⟨hlt, by simp [HQ.out], fun j hj => by simpa using HP.out j (by omega) hj⟩]
      · have hqb := beq_of_ne hq
        have HQ := Lib.hid hq
        clear hq
        go_wp2
        go_roundg (gk - 1)
        case measure => have := HK.out; omega
        case rel =>
          refine ⟨rfl, k + 1, by have := HK.out; omega, by go_num, fun j hj hjk => ?_⟩
          rcases Nat.lt_or_ge j k with h1 | h1
          · exact HP.out j hj h1
          · obtain rfl : j = k := by omega
            exact fun e => HQ.out e.symm
    · go_wp2
      go_ret
      refine Gives.mk (vint ?_) rfl
      rw [← HR.out]
      unfold posS
      rw [List.findIdx?_eq_none_iff.2 fun x hx => by
        obtain ⟨j, hj, rfl⟩ := List.getElem_of_mem hx
        simpa using HP.out j hj (by omega)]

set_option maxHeartbeats 400000 in
theorem containsS_c (A : Option Addr) (c : Nat) (l : List ByteArray) (s : ByteArray) (w : World) (hn : l.length ≤ 1000000) (h : Strs w A l) :
    Calls Tryz.prog 80 #[.slice A l.length c, .string s] w (Gives (.bool (memS l s)) w) := by
  have hm := posS_mem l s
  generalize memS l s = res at *
  have HM := Lib.hid hm
  clear hm
  go_enter Tryz.func80, Tryz.ntmps80
  go_wp2_with (go_at_call 120; refine (indexS_c _ _ _ _ _ hn h).mono ?_; rintro e w' ⟨rfl, rfl⟩)
  go_ret
  exact Gives.mk (vbool HM.out) rfl

def cmpI (a b : Int) : Int := if a < b then -1 else if b < a then 1 else 0
theorem isNaN_c (a : Int) (w : World) : Calls Tryz.prog 87 #[.int .i64 a] w (Gives (.bool false) w) := by
  have hb : (a != a) = false := by simp
  go_enter Tryz.func87, Tryz.ntmps87
  go_wp2
  go_ret
  exact Gives.mk rfl rfl
set_option maxHeartbeats 400000 in
theorem cmpI_c (a b : Int) (w : World) : Calls Tryz.prog 52 #[.int .i64 a, .int .i64 b] w (Gives (.int .i64 (cmpI a b)) w) := by
  generalize hres : cmpI a b = res
  have HR := Lib.hid hres
  clear hres
  by_cases h1 : a < b
  · have HS : Hid (res = -1) := by
      show res = -1
      rw [← HR.out]; unfold cmpI; rw [if_pos h1]
    go_enter Tryz.func52, Tryz.ntmps52
    go_wp2_with (go_at_call 87; refine (isNaN_c _ _).mono ?_; rintro e w' ⟨rfl, rfl⟩)
    go_ret
    exact Gives.mk (vint HS.out.symm) rfl
  · by_cases h2 : b < a
    · have HS : Hid (res = 1) := by
        show res = 1
        rw [← HR.out]; unfold cmpI; rw [if_neg h1, if_pos h2]
      go_enter Tryz.func52, Tryz.ntmps52
      go_wp2_with (go_at_call 87; refine (isNaN_c _ _).mono ?_; rintro e w' ⟨rfl, rfl⟩)
      go_ret
      exact Gives.mk (vint HS.out.symm) rfl
    · have HS : Hid (res = 0) := by
        show res = 0
        rw [← HR.out]; unfold cmpI; rw [if_neg h1, if_neg h2]
      go_enter Tryz.func52, Tryz.ntmps52
      go_wp2_with (go_at_call 87; refine (isNaN_c _ _).mono ?_; rintro e w' ⟨rfl, rfl⟩)
      go_ret
      exact Gives.mk (vint HS.out.symm) rfl

def orI : List Int → Int
  | [] => 0
  | a :: l => if a = 0 then orI l else a
theorem orI_at {l : List Int} {k : Nat} (hk : k < l.length) (hp : ∀ j (h : j < l.length), j < k → l[j] = 0) (h : l[k] ≠ 0) : orI l = l[k] := by
  induction l generalizing k with
  | nil => simp at hk
  | cons a t ih =>
    cases k with
    | zero => simp at h; simp [orI, h]
    | succ k =>
      have h0 : a = 0 := hp 0 (by simp) (by omega)
      rw [orI, if_pos h0]
      exact ih (by simpa using hk) (fun j hj hjk => hp (j + 1) (by simpa using hj) (by omega)) (by simpa using h)
theorem orI_none {l : List Int} (hp : ∀ j (h : j < l.length), l[j] = 0) : orI l = 0 := by
  induction l with
  | nil => rfl
  | cons a t ih =>
    have h0 : a = 0 := hp 0 (by simp)
    rw [orI, if_pos h0]
    exact ih fun j hj => hp (j + 1) (by simpa using hj)
def OrRel (w : World) (l : List Int) (m : Nat) (i : Value) (wr : World) : Prop :=
  w = wr ∧ ∃ k : Nat, k + m = l.length ∧ i = .int .i64 k ∧ ∀ j (h : j < l.length), j < k → l[j] = 0
set_option maxHeartbeats 400000 in
theorem cmpOr_c (A : Option Addr) (c : Nat) (l : List Int) (w : World) (hn : l.length ≤ 1000000) (h : Ints w A l) :
    Calls Tryz.prog 51 #[.slice A l.length c] w (Gives (.int .i64 (orI l)) w) := by
  generalize hres : orI l = res
  have HR := Lib.hid hres
  clear hres
  go_enter Tryz.func51, Tryz.ntmps51
  go_wp2
  go_loopg [8] l.length (OrRel w l)
  case atStart => exact ⟨rfl, 0, by omega, rfl, fun j _ hj => absurd hj (by omega)⟩
  case round =>
    obtain ⟨hw, k, hk, rfl, hpre⟩ := hrel
    subst hw
    have HK := Lib.hid hk
    have HP := Lib.hid hpre
    have hk1 : k ≤ l.length := by omega
    clear hk hpre
    by_cases hlt : k < l.length
    · obtain ⟨b, o, rfl, hb, hc⟩ := h.at_ (by omega)
      have hc0 := hc k hlt
      clear hc
      by_cases hq : l[k] = 0
      · have hqb : (l[k] != 0) = false := by simpa using hq
        have HQ := Lib.hid hq
        clear hq
        go_wp2
        go_roundg (gk - 1)
        case measure => have := HK.out; omega
        case rel =>
          refine ⟨rfl, k + 1, by have := HK.out; omega, by go_num, fun j hj hjk => ?_⟩
          rcases Nat.lt_or_ge j k with h1 | h1
          · exact HP.out j hj h1
          · obtain rfl : j = k := by omega
            exact HQ.out
      · have hqb : (l[k] != 0) = true := by simpa using hq
        have HQ := Lib.hid hq
        clear hq
        go_wp2
        go_ret
        exact Gives.mk (vint (by rw [← HR.out, orI_at hlt HP.out HQ.out])) rfl
    · go_wp2
      go_ret
      exact Gives.mk (vint (by rw [← HR.out, orI_none fun j hj => HP.out j hj (by omega)])) rfl

/-- The literal of free: is a number among those of a slice in a box? -/
theorem free1_c (p : Nat) (A : Option Addr) (c : Nat) (l : List Int) (n : Int) (w : World) (hn : l.length ≤ 1000000) (h : Ints w A l) (hp : w.cell? ⟨p, 0, none⟩ = some (.slice A l.length c)) :
    Calls Tryz.prog 82 #[.int .i64 n, .pointer (some ⟨p, 0, none⟩)] w (Gives (.bool (memI l n)) w) := by
  go_enter Tryz.func82, Tryz.ntmps82
  go_wp2_with fail
  refine (containsI_c A c l n w hn h).mono ?_
  rintro e w1 ⟨rfl, rfl⟩
  go_wp2
  go_ret
  exact Gives.mk rfl rfl
def IxfRel (w : World) (M : List Int) (L : List Int) (m : Nat) (i : Value) (wr : World) : Prop :=
  w = wr ∧ ∃ k : Nat, k + m = L.length ∧ i = .int .i64 k ∧ ∀ j (h : j < L.length), j < k → memI M L[j] = false
def GivesIx (t : Bool) (w : World) (e : Ending) (w' : World) : Prop := ∃ z : Int, e = .returned (.int .i64 z) ∧ w = w' ∧ decide (0 ≤ z) = t

set_option maxHeartbeats 400000 in
theorem indexFunc_c (Ai As : Option Addr) (ci cs p : Nat) (L : List Int) (M : List Int) (w : World) (hL : Ints w Ai L) (hM : Ints w As M) (hp : w.cell? ⟨p, 0, none⟩ = some (.slice As M.length cs))
    (hn : L.length ≤ 1000000) (hm : M.length ≤ 1000000) :
    Calls Tryz.prog 121 #[.slice Ai L.length ci, .func (.func 82) #[] #[.pointer (some ⟨p, 0, none⟩)]] w (GivesIx (L.any (memI M)) w) := by
  generalize hres : L.any (memI M) = res
  have HR := Lib.hid hres
  clear hres
  go_enter Tryz.func121, Tryz.ntmps121
  go_wp2
  go_loopg [8] L.length (IxfRel w M L)
  case atStart => exact ⟨rfl, 0, by omega, rfl, fun j _ hj => absurd hj (by omega)⟩
  case round =>
    obtain ⟨hw, k, hk, rfl, hpre⟩ := hrel
    subst hw
    have HK := Lib.hid hk
    have HP := Lib.hid hpre
    have hk1 : k ≤ L.length := by omega
    clear hk hpre
    by_cases hlt : k < L.length
    · obtain ⟨b, o, rfl, hb, hc⟩ := hL.at_ (by omega)
      have hc0 := hc k hlt
      clear hc
      go_wp2_with fail
      refine (free1_c p As cs M L[k] w hm hM hp).mono ?_
      rintro e w1 ⟨rfl, rfl⟩
      cases hq : memI M L[k] with
      | true =>
        have HQ := Lib.hid hq
        clear hq
        go_wp2
        go_ret
        refine ⟨_, rfl, rfl, ?_⟩
        rw [← HR.out]
        have : L.any (memI M) = true := List.any_eq_true.2 ⟨L[k], List.getElem_mem hlt, HQ.out⟩
        rw [this]
        simp
      | false =>
        have HQ := Lib.hid hq
        clear hq
        go_wp2
        go_roundg (gk - 1)
        case measure => have := HK.out; omega
        case rel =>
          refine ⟨rfl, k + 1, by have := HK.out; omega, by go_num, fun j hj hjk => ?_⟩
          rcases Nat.lt_or_ge j k with h1 | h1
          · exact HP.out j hj h1
          · obtain rfl : j = k := by omega
            exact HQ.out
    · go_wp2
      go_ret
      refine ⟨_, rfl, rfl, ?_⟩
      rw [← HR.out]
      have : L.any (memI M) = false := by
        rw [List.any_eq_false]
        intro x hx
        obtain ⟨j, hj, rfl⟩ := List.getElem_of_mem hx
        rw [HP.out j hj (by omega)]; simp
      rw [this]
      simp

set_option maxHeartbeats 400000 in
theorem containsFunc_c (Ai As : Option Addr) (ci cs p : Nat) (L : List Int) (M : List Int) (w : World) (hL : Ints w Ai L) (hM : Ints w As M) (hp : w.cell? ⟨p, 0, none⟩ = some (.slice As M.length cs))
    (hn : L.length ≤ 1000000) (hm : M.length ≤ 1000000) :
    Calls Tryz.prog 81 #[.slice Ai L.length ci, .func (.func 82) #[] #[.pointer (some ⟨p, 0, none⟩)]] w (Gives (.bool (L.any (memI M))) w) := by
  go_enter Tryz.func81, Tryz.ntmps81
  go_wp2_with fail
  refine (indexFunc_c _ _ _ _ p L M w hL hM hp hn hm).mono ?_
  rintro e w1 ⟨z, rfl, rfl, hz⟩
  have HZ := Lib.hid hz
  clear hz
  go_wp2
  go_ret
  exact Gives.mk (vbool HZ.out) rfl
end Go.Proofs.YtfninfgohiipjaaGreatDoor
