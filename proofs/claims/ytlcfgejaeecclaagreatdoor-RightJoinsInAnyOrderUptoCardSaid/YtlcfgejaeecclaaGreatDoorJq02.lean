/- Walks over the reference of chapter 7 (places): checkArea, IsName, CheckRegions. Walks over the reference of chapter 7 (places): CheckRegions. Walks over the reference of chapter 7 (places): all, leaves, full. -/
import Derived.Test.YtlcfgejaeecclaaGreatDoorJq01
namespace Go.Proofs.YtlcfgejaeecclaaGreatDoor
open Go.RowKit Dw

/-- A call that answers v and only draws. -/
def GivesQ (v : Value) (w : World) (e : Ending) (w' : World) : Prop := e = .returned v ∧ ∃ n, w' = w.drewN n
theorem GivesQ.mk {v v' : Value} {w w' : World} (h : v = v') (hw : ∃ n, w' = w.drewN n) : GivesQ v' w (.returned v) w' := ⟨by rw [h], hw⟩

def ChkARel (w : World) (l : List Rg) (a : List Ar) (m : Nat) (i : Value) (wr : World) : Prop :=
  ∃ n, wr = w.drewN n ∧ ∃ k : Nat, k + m = a.length ∧ i = .int .i64 k ∧ ∀ j, j < k → arFault l a j = none

set_option maxHeartbeats 800000 in
theorem checkAreaR_c (A A2 : Option Addr) (c c2 : Nat) (l : List Rg) (a : List Ar) (w : World) (hn : l.length ≤ 200) (h : Rgs w A l) (h2 : Ars w A2 a) :
    Calls Tryz.prog 121 #[.slice A l.length c, .slice A2 a.length c2] w (GivesQ (.int .i64 (chkA l a)) w) := by
  generalize hres : chkA l a = res
  have HR := Lib.hid hres
  clear hres
  by_cases hlen : 100 < a.length
  · go_enter Tryz.func121, Tryz.ntmps121
    go_wp2
    go_ret
    refine GivesQ.mk (vint ?_) ⟨0, rfl⟩
    rw [← HR.out]; unfold chkA; rw [if_pos hlen]
  · have hlen2 : a.length ≤ 100 := by omega
    go_enter Tryz.func121, Tryz.ntmps121
    go_wp2
    go_loopg [5] a.length (ChkARel w l a)
    case atStart => exact ⟨0, rfl, 0, by omega, rfl, fun j hj => absurd hj (by omega)⟩
    case round =>
      obtain ⟨n, hw, k, hk, rfl, hpre⟩ := hrel
      subst hw
      have HK := Lib.hid hk
      have HP := Lib.hid hpre
      have hk1 : k ≤ a.length := by omega
      clear hk hpre
      by_cases hlt : k < a.length
      · obtain ⟨b2, o2, rfl, hb2, hc2⟩ := h2.at_ (by omega)
        have hc0 := (hc2 k hlt).1
        have hr0 := rgAt_of hlt
        by_cases hq : idx l (a[k]).rg = none
        · have hix : idxI l (a[k]).rg = -1 := by unfold idxI; rw [hq]
          have hres : res = 5 := by
            rw [← HR.out]; unfold chkA; rw [if_neg hlen, findSome_first hlt HP.out (x := 5) (by unfold arFault; rw [hr0, if_pos hq])]
          have HS := Lib.hid hres
          have HX := Lib.hid hix
          clear hc2 hr0 hq hres hix
          go_wp2_with fail
          refine (region_c _ _ _ _ _ hn (h.drewN _)).mono ?_
          rintro e w' ⟨rfl, rfl⟩
          rw [HX.out]
          go_wp2
          go_ret
          exact GivesQ.mk (vint HS.out.symm) ⟨_, rfl⟩
        · obtain ⟨x, hx⟩ := Option.ne_none_iff_exists'.1 hq
          have hix : idxI l (a[k]).rg = (x : Int) := by unfold idxI; rw [hx]
          have HX := Lib.hid hix
          have HQ := Lib.hid hq
          clear hix hx hq
          by_cases hk0 : 0 < k
          · have hd : decide ((0 : Int) < (k : Int)) = true := by simp; omega
            have hcp := (hc2 (k - 1) (by omega)).1
            have hr1 := rgAt_of (a := a) (i := k - 1) (by omega)
            by_cases hle : sle (a[k]).rg (a[k - 1]).rg = true
            · have hleb := hle
              unfold sle at hleb
              have hres : res = 8 := by
                rw [← HR.out]; unfold chkA; rw [if_neg hlen, findSome_first hlt HP.out (x := 8) (by unfold arFault; rw [hr0, hr1, if_neg HQ.out, if_pos ⟨hk0, hle⟩])]
              have HS := Lib.hid hres
              clear hc2 hr0 hr1 hres hle
              go_wp2_with fail
              refine (region_c _ _ _ _ _ hn (h.drewN _)).mono ?_
              rintro e w' ⟨rfl, rfl⟩
              rw [HX.out]
              go_wp2
              go_quiet (fail)
              go_wp2
              go_ret
              exact GivesQ.mk (vint HS.out.symm) ⟨_, World.drewN_drewN _ _ _⟩
            · have hle' : sle (a[k]).rg (a[k - 1]).rg = false := by simpa using hle
              have hleb := hle'
              unfold sle at hleb
              have HF : Hid (arFault l a k = none) := by
                show arFault l a k = none
                unfold arFault; rw [hr0, hr1, if_neg HQ.out, if_neg (fun hh => hle hh.2)]
              clear hc2 hr0 hr1 hle hle'
              go_wp2_with fail
              refine (region_c _ _ _ _ _ hn (h.drewN _)).mono ?_
              rintro e w' ⟨rfl, rfl⟩
              rw [HX.out]
              go_wp2
              go_quiet (fail)
              go_wp2
              go_roundg (gk - 1)
              case measure => have := HK.out; omega
              case rel =>
                refine ⟨_, rfl, k + 1, by have := HK.out; omega, by go_num, fun j hj => ?_⟩
                rcases Nat.lt_or_ge j k with h1 | h1
                · exact HP.out j h1
                · obtain rfl : j = k := by omega
                  exact HF.out
          · have hd : decide ((0 : Int) < (k : Int)) = false := by simp; omega
            have HF : Hid (arFault l a k = none) := by
              show arFault l a k = none
              unfold arFault; rw [hr0, if_neg HQ.out, if_neg (by omega)]
            clear hc2 hr0
            go_wp2_with fail
            refine (region_c _ _ _ _ _ hn (h.drewN _)).mono ?_
            rintro e w' ⟨rfl, rfl⟩
            rw [HX.out]
            go_wp2
            go_quiet (fail)
            go_wp2
            go_roundg (gk - 1)
            case measure => have := HK.out; omega
            case rel =>
              refine ⟨_, rfl, k + 1, by have := HK.out; omega, by go_num, fun j hj => ?_⟩
              rcases Nat.lt_or_ge j k with h1 | h1
              · exact HP.out j h1
              · obtain rfl : j = k := by omega
                exact HF.out
      · have hres : res = 0 := by
          rw [← HR.out]; unfold chkA; rw [if_neg hlen, findSome_none (fun j hj => HP.out j (by omega))]
        have HS := Lib.hid hres
        clear hres
        go_wp2
        go_ret
        exact GivesQ.mk (vint HS.out.symm) ⟨_, rfl⟩

theorem data_get (s : ByteArray) (k : Nat) (h : k < s.size) : s.data.toList[k]'(by simpa using h) = s[k] := rfl
theorem headD_get (s : ByteArray) (h : 0 < s.size) : s.data.toList.headD 0 = s[0] := by
  rw [← data_get s 0 h, List.headD_eq_head?_getD, List.head?_eq_getElem?]
  simp [h]

def NameRel (w : World) (s : ByteArray) (m : Nat) (i : Value) (wr : World) : Prop :=
  wr = w ∧ ∃ k : Nat, k + m = s.size ∧ i = .int .i64 k ∧ ∀ j (h : j < s.size), j < k → okB s[j] = true

theorem isNm_all {s : ByteArray} (h1 : 1 ≤ s.size) (h2 : s.size ≤ 40) (h3 : 97 ≤ (s[0]'h1).toNat) (h4 : (s[0]'h1).toNat ≤ 122) : isNm s = s.data.toList.all okB := by
  unfold isNm
  rw [headD_get s h1]
  simp [h1, h2, h3, h4]

set_option maxHeartbeats 800000 in
theorem IsNameR_c (s : ByteArray) (w : World) (hs : s.size ≤ 9223372036854775807) :
    Calls Tryz.prog 38 #[.string s] w (Gives (.bool (isNm s)) w) := by
  generalize hres : isNm s = res
  have HR := Lib.hid hres
  clear hres
  by_cases h1 : 1 ≤ s.size
  · have he : s.toList.isEmpty = false := isEmpty_of_ne (fun e => by rw [e] at h1; exact absurd h1 (by decide))
    by_cases h2 : s.size ≤ 40
    · by_cases h3 : 97 ≤ (s[0]'h1).toNat
      · by_cases h4 : (s[0]'h1).toNat ≤ 122
        · have hall := isNm_all h1 h2 h3 h4
          have HA := Lib.hid hall
          clear hall
          go_enter Tryz.func38, Tryz.ntmps38
          go_wp2
          go_loopg [3] s.size (NameRel w s)
          case atStart => exact ⟨rfl, 0, by omega, rfl, fun j _ hj => absurd hj (by omega)⟩
          case round =>
            obtain ⟨hw, k, hk, rfl, hpre⟩ := hrel
            subst hw
            have HK := Lib.hid hk
            have HP := Lib.hid hpre
            have hk1 : k ≤ s.size := by omega
            clear hk hpre
            by_cases hlt : k < s.size
            · have hcase : ((97 ≤ s[k].toNat ∧ s[k].toNat ≤ 122) ∨ (48 ≤ s[k].toNat ∧ s[k].toNat ≤ 57) ∨ (45 ≤ s[k].toNat ∧ s[k].toNat ≤ 45)) ∨ ((122 < s[k].toNat ∧ 1 ≤ s.size) ∨ (57 < s[k].toNat ∧ s[k].toNat < 97) ∨ (s[k].toNat < 48 ∧ s[k].toNat ≠ 45)) := by omega
              rcases hcase with hcase | hcase
              · have hok : okB s[k] = true := by
                  unfold okB
                  rcases hcase with ⟨a1, a2⟩ | ⟨a1, a2⟩ | ⟨a1, a2⟩
                  · simp [a1, a2]
                  · simp [a1, a2]
                  · have : s[k].toNat = 45 := by omega
                    simp [this]
                have HO := Lib.hid hok
                clear hok
                have fin : ∀ j (h : j < s.size), j < k + 1 → okB s[j] = true := fun j hj hjk => by
                  rcases Nat.lt_or_ge j k with h1 | h1
                  · exact HP.out j hj h1
                  · obtain rfl : j = k := by omega
                    exact HO.out
                have HF := Lib.hid fin
                clear fin
                rcases hcase with ⟨a1, a2⟩ | ⟨a1, a2⟩ | ⟨a1, a2⟩
                · go_wp2
                  go_roundg (gk - 1)
                  case measure => have := HK.out; omega
                  case rel => exact ⟨rfl, k + 1, by have := HK.out; omega, by go_num, HF.out⟩
                · go_wp2
                  go_roundg (gk - 1)
                  case measure => have := HK.out; omega
                  case rel => exact ⟨rfl, k + 1, by have := HK.out; omega, by go_num, HF.out⟩
                · have hb : ((s[k].toNat : Int) == 45) = true := by rw [beq_iff_eq]; omega
                  go_wp2
                  go_roundg (gk - 1)
                  case measure => have := HK.out; omega
                  case rel => exact ⟨rfl, k + 1, by have := HK.out; omega, by go_num, HF.out⟩
              · have hb : ((s[k].toNat : Int) == 45) = false := by rw [beq_eq_false_iff_ne]; omega
                have hno : okB s[k] = false := by
                  unfold okB
                  simp
                  omega
                have hres : res = false := by
                  rw [← HR.out, HA.out, List.all_eq_false]
                  exact ⟨s[k], by rw [← data_get s k hlt]; exact List.getElem_mem _, by simp [hno]⟩
                have HS := Lib.hid hres
                clear hres hno
                rcases hcase with ⟨a1, a2⟩ | ⟨a1, a2⟩ | ⟨a1, a2⟩
                · have d1 : decide ((s[k].toNat : Int) ≤ 122) = false := by simp; omega
                  have d2 : decide ((s[k].toNat : Int) ≤ 57) = false := by simp; omega
                  go_wp2
                  go_ret
                  exact Gives.mk (vbool HS.out.symm) rfl
                · have d2 : decide ((s[k].toNat : Int) ≤ 57) = false := by simp; omega
                  go_wp2
                  go_ret
                  exact Gives.mk (vbool HS.out.symm) rfl
                · go_wp2
                  go_ret
                  exact Gives.mk (vbool HS.out.symm) rfl
            · go_wp2
              go_ret
              refine Gives.mk (vbool ?_) rfl
              rw [← HR.out, HA.out, eq_comm, List.all_eq_true]
              intro x hx
              obtain ⟨j, hj, rfl⟩ := List.getElem_of_mem hx
              have hj' : j < s.size := by simpa using hj
              exact HP.out j hj' (by omega)
        · go_enter Tryz.func38, Tryz.ntmps38
          go_wp2
          go_ret
          refine Gives.mk (vbool ?_) rfl
          rw [← HR.out]
          unfold isNm
          rw [headD_get s h1]
          simp [h4]
      · go_enter Tryz.func38, Tryz.ntmps38
        go_wp2
        go_ret
        refine Gives.mk (vbool ?_) rfl
        rw [← HR.out]
        unfold isNm
        rw [headD_get s h1]
        simp [h3]
    · go_enter Tryz.func38, Tryz.ntmps38
      go_wp2
      go_ret
      refine Gives.mk (vbool ?_) rfl
      rw [← HR.out]
      unfold isNm
      simp [h2]
  · have he : s.toList.isEmpty = true := by
      cases hs : s.toList with
      | nil => rfl
      | cons a l =>
        have := congrArg List.length hs
        rw [toList_eq] at this
        simp at this
        omega
    go_enter Tryz.func38, Tryz.ntmps38
    go_wp2
    go_ret
    refine Gives.mk (vbool ?_) rfl
    rw [← HR.out]
    unfold isNm
    simp [h1]
end Go.Proofs.YtlcfgejaeecclaaGreatDoor

namespace Go.Proofs.YtlcfgejaeecclaaGreatDoor
open Go.RowKit Dw

def ChkR1 (w : World) (l : List Rg) (m : Nat) (i : Value) (wr : World) : Prop :=
  ∃ n, wr = w.drewN n ∧ ∃ k : Nat, k + m = l.length ∧ i = .int .i64 k ∧ ∀ j, j < k → rgFault l j = none
def ChkR2 (w : World) (l : List Rg) (m : Nat) (i : Value) (wr : World) : Prop :=
  ∃ n, wr = w.drewN n ∧ ∃ k : Nat, k + m = l.length ∧ i = .int .i64 k ∧ ∀ j (h : j < l.length), j < k → parBad l l[j] = false
def ChkR3 (w : World) (l : List Rg) (m : Nat) (i : Value) (wr : World) : Prop :=
  ∃ n, wr = w.drewN n ∧ ∃ k : Nat, k + m = l.length ∧ i = .int .i64 k ∧ ∀ j, j < k → ∀ d, 0 < d → d ≤ l.length + 1 → upN l d j ≠ some j
def ChkR4 (w : World) (l : List Rg) (i : Nat) (m : Nat) (at_ n : Value) (wr : World) : Prop :=
  wr = w ∧ ∃ k : Nat, k + m = l.length + 1 ∧ n = .int .i64 k ∧ ∃ j, j < l.length ∧ at_ = .int .i64 j ∧ upN l k i = some j ∧ ∀ d, 0 < d → d ≤ k → upN l d i ≠ some i

theorem parBad_false {l : List Rg} (h : ∀ j (h : j < l.length), parBad l l[j] = false) {i : Nat} (hi : i < l.length) (hp : (l[i]).par ≠ emp) : ∃ j, idx l (l[i]).par = some j := by
  have := h i hi
  unfold parBad at this
  cases hx : idx l (l[i]).par with
  | some j => exact ⟨j, rfl⟩
  | none => rw [hx] at this; simp [hp] at this

theorem chkR_head {l : List Rg} (h1 : l ≠ []) (h2 : ¬ 200 < l.length) : chkR l = match (List.range l.length).findSome? (rgFault l) with
  | some f => f
  | none => if l.any (parBad l) = true then 5 else if EndsR l then 0 else 14 := by
  unfold chkR; rw [if_neg h1, if_neg h2] <;> rfl
theorem chkR_first {l : List Rg} (h1 : l ≠ []) (h2 : ¬ 200 < l.length) {k : Nat} {x : Int} (hk : k < l.length) (hpre : ∀ j, j < k → rgFault l j = none) (h : rgFault l k = some x) : chkR l = x := by
  rw [chkR_head h1 h2, findSome_first hk hpre h]
theorem chkR_par {l : List Rg} (h1 : l ≠ []) (h2 : ¬ 200 < l.length) (hpre : ∀ j, j < l.length → rgFault l j = none) {k : Nat} (hk : k < l.length) (h : parBad l l[k] = true) : chkR l = 5 := by
  rw [chkR_head h1 h2, findSome_none hpre]
  simp only []
  rw [if_pos (List.any_eq_true.2 ⟨l[k], List.getElem_mem hk, h⟩)]
theorem chkR_last {l : List Rg} (h1 : l ≠ []) (h2 : ¬ 200 < l.length) (hpre : ∀ j, j < l.length → rgFault l j = none) (h : ∀ j (h : j < l.length), parBad l l[j] = false) : chkR l = if EndsR l then 0 else 14 := by
  rw [chkR_head h1 h2, findSome_none hpre]
  simp only []
  rw [if_neg]
  intro hh
  obtain ⟨x, hx, hb⟩ := List.any_eq_true.1 hh
  obtain ⟨j, hj, rfl⟩ := List.getElem_of_mem hx
  rw [h j hj] at hb; cases hb

set_option maxHeartbeats 1000000 in
theorem CheckRegionsR_c (A : Option Addr) (c : Nat) (l : List Rg) (w : World) (h : Rgs w A l) (hz : ∀ i (h : i < l.length), (l[i]).nm.size ≤ 9223372036854775807) :
    Calls Tryz.prog 50 #[.slice A l.length c] w (GivesQ (.int .i64 (chkR l)) w) := by
  generalize hres : chkR l = res
  have HR := Lib.hid hres
  clear hres
  by_cases h1 : l = []
  · subst h1
    go_enter Tryz.func50, Tryz.ntmps50
    go_wp2
    go_ret
    refine GivesQ.mk (vint ?_) ⟨0, rfl⟩
    rw [← HR.out]; rfl
  have h1' : 0 < l.length := List.length_pos_iff.2 h1
  have hl0 : ((l.length : Int) == 0) = false := by rw [beq_eq_false_iff_ne]; omega
  by_cases hlen : 200 < l.length
  · go_enter Tryz.func50, Tryz.ntmps50
    go_wp2
    go_ret
    refine GivesQ.mk (vint ?_) ⟨0, rfl⟩
    rw [← HR.out]; unfold chkR; rw [if_neg h1, if_pos hlen]
  have hn : l.length ≤ 200 := by omega
  obtain ⟨b, o, rfl, hb, hc⟩ := h.at_ h1'
  have HC := Lib.hid hc
  have HZ := Lib.hid hz
  have H1 := Lib.hid h1
  clear hc hz h1
  go_enter Tryz.func50, Tryz.ntmps50
  go_wp2
  go_loopg [3] l.length (ChkR1 w l)
  case atStart => exact ⟨0, rfl, 0, by omega, rfl, fun j hj => absurd hj (by omega)⟩
  case round =>
    obtain ⟨n, hw, k, hk, rfl, hpre⟩ := hrel
    subst hw
    have HK := Lib.hid hk
    have HP := Lib.hid hpre
    have hk1 : k ≤ l.length := by omega
    clear hk hpre
    by_cases hlt : k < l.length
    · have hc0 := (HC.out k hlt).1
      have hr0 := nmAt_of hlt
      have hzk := HZ.out k hlt
      by_cases hq : isNm (l[k]).nm = true
      · by_cases hk0 : 0 < k
        · have hd : decide ((0 : Int) < (k : Int)) = true := by simp; omega
          have hcp := (HC.out (k - 1) (by omega)).1
          have hr1 := nmAt_of (l := l) (i := k - 1) (by omega)
          by_cases hle : sle (l[k]).nm (l[k - 1]).nm = true
          · have hleb := hle
            unfold sle at hleb
            have hres : res = 8 := by
              rw [← HR.out, chkR_first H1.out hlen hlt HP.out (x := 8) (by unfold rgFault; rw [hr0, hr1, if_neg (by rw [hq]; simp), if_pos ⟨hk0, hle⟩])]
            have HS := Lib.hid hres
            have HQ := Lib.hid hq
            clear hr0 hr1 hres hle hq
            go_wp2_with fail
            refine (IsNameR_c _ _ hzk).mono ?_
            rintro e w' ⟨rfl, rfl⟩
            rw [HQ.out]
            go_wp2
            go_quiet (fail)
            go_wp2
            go_ret
            exact GivesQ.mk (vint HS.out.symm) ⟨_, World.drewN_drewN _ _ _⟩
          · have hle' : sle (l[k]).nm (l[k - 1]).nm = false := by simpa using hle
            have hleb := hle'
            unfold sle at hleb
            have HF : Hid (rgFault l k = none) := by
              show rgFault l k = none
              unfold rgFault; rw [hr0, hr1, if_neg (by rw [hq]; simp), if_neg (fun hh => hle hh.2)]
            have HQ := Lib.hid hq
            clear hr0 hr1 hle hle' hq
            go_wp2_with fail
            refine (IsNameR_c _ _ hzk).mono ?_
            rintro e w' ⟨rfl, rfl⟩
            rw [HQ.out]
            go_wp2
            go_quiet (fail)
            go_wp2
            go_roundg (gk - 1)
            case measure => have := HK.out; omega
            case rel =>
              refine ⟨_, rfl, k + 1, by have := HK.out; omega, by go_num, fun j hj => ?_⟩
              rcases Nat.lt_or_ge j k with h1 | h1
              · exact HP.out j h1
              · obtain rfl : j = k := by omega
                exact HF.out
        · have hd : decide ((0 : Int) < (k : Int)) = false := by simp; omega
          have HF : Hid (rgFault l k = none) := by
            show rgFault l k = none
            unfold rgFault; rw [hr0, if_neg (by rw [hq]; simp), if_neg (by omega)]
          have HQ := Lib.hid hq
          clear hr0 hq
          go_wp2_with fail
          refine (IsNameR_c _ _ hzk).mono ?_
          rintro e w' ⟨rfl, rfl⟩
          rw [HQ.out]
          go_wp2
          go_quiet (fail)
          go_wp2
          go_roundg (gk - 1)
          case measure => have := HK.out; omega
          case rel =>
            refine ⟨_, rfl, k + 1, by have := HK.out; omega, by go_num, fun j hj => ?_⟩
            rcases Nat.lt_or_ge j k with h1 | h1
            · exact HP.out j h1
            · obtain rfl : j = k := by omega
              exact HF.out
      · have hq' : isNm (l[k]).nm = false := by simpa using hq
        have hres : res = 5 := by
          rw [← HR.out, chkR_first H1.out hlen hlt HP.out (x := 5) (by unfold rgFault; rw [hr0, if_pos hq'])]
        have HS := Lib.hid hres
        have HQ := Lib.hid hq'
        clear hr0 hres hq hq'
        go_wp2_with fail
        refine (IsNameR_c _ _ hzk).mono ?_
        rintro e w' ⟨rfl, rfl⟩
        rw [HQ.out]
        go_wp2
        go_ret
        exact GivesQ.mk (vint HS.out.symm) ⟨_, rfl⟩
    · have hF0 : ∀ j, j < l.length → rgFault l j = none := fun j hj => HP.out j (by omega)
      have HF0 := Lib.hid hF0
      clear hF0
      go_wp2
      clear HK HP hk1 hlt
      go_loopg [4] l.length (ChkR2 w l)
      case atStart => exact ⟨_, rfl, 0, by omega, rfl, fun j _ hj => absurd hj (by omega)⟩
      case round =>
        obtain ⟨n2, hw, k, hk, rfl, hpre⟩ := hrel
        subst hw
        have HK := Lib.hid hk
        have HP := Lib.hid hpre
        have hk1 : k ≤ l.length := by omega
        clear hk hpre
        by_cases hlt : k < l.length
        · have hc0 := (HC.out k hlt).2
          by_cases hp : (l[k]).par = emp
          · have he := isEmpty_of_eq hp
            have HF : Hid (parBad l l[k] = false) := by
              show parBad l l[k] = false
              simp [parBad, hp]
            clear hp
            go_wp2
            go_roundg (gk - 1)
            case measure => have := HK.out; omega
            case rel =>
              refine ⟨_, rfl, k + 1, by have := HK.out; omega, by go_num, fun j hj hjk => ?_⟩
              rcases Nat.lt_or_ge j k with h1 | h1
              · exact HP.out j hj h1
              · obtain rfl : j = k := by omega
                exact HF.out
          · have he := isEmpty_of_ne hp
            cases hix : idx l (l[k]).par with
            | none =>
              have hi0 : idxI l (l[k]).par = -1 := by unfold idxI; rw [hix]
              have hres : res = 5 := by
                rw [← HR.out]
                exact chkR_par H1.out hlen HF0.out hlt (by simp [parBad, hp, hix])
              have HS := Lib.hid hres
              have HX := Lib.hid hi0
              clear hres hi0 hix hp
              go_wp2_with fail
              refine (region_c _ _ _ _ _ hn (h.drewN _)).mono ?_
              rintro e w' ⟨rfl, rfl⟩
              rw [HX.out]
              go_wp2
              go_ret
              exact GivesQ.mk (vint HS.out.symm) ⟨_, rfl⟩
            | some x =>
              have hi0 : idxI l (l[k]).par = (x : Int) := by unfold idxI; rw [hix]
              have HF : Hid (parBad l l[k] = false) := by
                show parBad l l[k] = false
                simp [parBad, hix]
              have HX := Lib.hid hi0
              clear hi0 hix hp
              go_wp2_with fail
              refine (region_c _ _ _ _ _ hn (h.drewN _)).mono ?_
              rintro e w' ⟨rfl, rfl⟩
              rw [HX.out]
              go_wp2
              go_roundg (gk - 1)
              case measure => have := HK.out; omega
              case rel =>
                refine ⟨_, rfl, k + 1, by have := HK.out; omega, by go_num, fun j hj hjk => ?_⟩
                rcases Nat.lt_or_ge j k with h1 | h1
                · exact HP.out j hj h1
                · obtain rfl : j = k := by omega
                  exact HF.out
        · have hP0 : ∀ j (h : j < l.length), parBad l l[j] = false := fun j hj => HP.out j hj (by omega)
          have HP0 := Lib.hid hP0
          clear hP0
          go_wp2
          clear HK HP hk1 hlt
          go_loopg [5] l.length (ChkR3 w l)
          case atStart => exact ⟨_, rfl, 0, by omega, rfl, fun j hj => absurd hj (by omega)⟩
          case round =>
            obtain ⟨n3, hw, i, hk, rfl, hpre⟩ := hrel
            subst hw
            have HK := Lib.hid hk
            have HP := Lib.hid hpre
            have hk1 : i ≤ l.length := by omega
            clear hk hpre
            obtain ⟨g1, hg1⟩ : ∃ g1, g1 = gk := ⟨_, rfl⟩
            subst hg1
            by_cases hlt : i < l.length
            · go_wp2
              go_loopg [6, 7] (l.length + 1) (ChkR4 (w.drewN n3) l i)
              case atStart => exact ⟨rfl, 0, by omega, rfl, i, hlt, rfl, rfl, fun d h1 h2 => absurd h1 (by omega)⟩
              case round =>
                obtain ⟨hw, k, hk, rfl, j, hj, rfl, hup, hno⟩ := hrel
                subst hw
                have HK4 := Lib.hid hk
                have HU := Lib.hid hup
                have HN := Lib.hid hno
                have hk2 : k ≤ l.length + 1 := by omega
                clear hk hup hno
                by_cases hlt2 : k ≤ l.length
                · have hc1 := (HC.out j hj).2
                  by_cases hp : (l[j]).par = emp
                  · have he := isEmpty_of_eq hp
                    have hstop : ∀ d, 0 < d → d ≤ l.length + 1 → upN l d i ≠ some i := fun d h1 h2 => by
                      rcases Nat.lt_or_ge k d with h3 | h3
                      · have : upN l (k + 1) i = none := by rw [upN_add, HU.out]; simp [upN, up_none hj hp]
                        rw [upN_none_mono this h3]; simp
                      · exact HN.out d h1 h3
                    have HS := Lib.hid hstop
                    clear hstop hp
                    go_wp2
                    go_roundg (g1 - 1)
                    case measure => have := HK.out; omega
                    case rel =>
                      refine ⟨_, rfl, i + 1, by have := HK.out; omega, by go_num, fun t ht d h1 h2 => ?_⟩
                      rcases Nat.lt_or_ge t i with h3 | h3
                      · exact HP.out t h3 d h1 h2
                      · obtain rfl : t = i := by omega
                        exact HS.out d h1 h2
                  · have he := isEmpty_of_ne hp
                    obtain ⟨j', hx⟩ := parBad_false HP0.out hj hp
                    obtain ⟨hj', hnm⟩ := idx_some hx
                    have hi0 : idxI l (l[j]).par = (j' : Int) := by unfold idxI; rw [hx]
                    have hup' : upN l (k + 1) i = some j' := by
                      rw [upN_add, HU.out]; simp [upN, up_of hj, hp, hx]
                    have HX := Lib.hid hi0
                    have HU' := Lib.hid hup'
                    clear hi0 hup' hx hnm hp
                    by_cases hji : j' = i
                    · have hji' : ((j' : Int) == (i : Int)) = true := by rw [beq_iff_eq]; omega
                      have hres : res = 14 := by
                        rw [← HR.out, chkR_last H1.out hlen HF0.out HP0.out, if_neg]
                        rw [not_ends_iff]
                        refine twice_of_long hlt (fun hnn => ?_)
                        have e : upN l (k + 1) i = some i := by rw [HU'.out, hji]
                        have h3 := loop_forever e l.length
                        rw [upN_none_mono hnn (by
                          have : l.length * 1 ≤ (k + 1) * l.length := by rw [Nat.mul_comm]; exact Nat.mul_le_mul_right _ (by omega)
                          omega)] at h3
                        cases h3
                      have HS := Lib.hid hres
                      have HJ := Lib.hid hji
                      clear hres hji
                      go_wp2_with fail
                      refine (region_c _ _ _ _ _ hn (h.drewN _)).mono ?_
                      rintro e w' ⟨rfl, rfl⟩
                      rw [HX.out]
                      go_wp2
                      go_ret
                      exact GivesQ.mk (vint HS.out.symm) ⟨_, rfl⟩
                    · have hji' : ((j' : Int) == (i : Int)) = false := by rw [beq_eq_false_iff_ne]; omega
                      have HJ := Lib.hid hji
                      clear hji
                      go_wp2_with fail
                      refine (region_c _ _ _ _ _ hn (h.drewN _)).mono ?_
                      rintro e w' ⟨rfl, rfl⟩
                      rw [HX.out]
                      go_wp2
                      go_roundg (gk - 1)
                      case measure => have := HK4.out; omega
                      case rel =>
                        refine ⟨rfl, k + 1, by have := HK4.out; omega, by go_num, j', hj', rfl, HU'.out, fun d h1 h2 => ?_⟩
                        rcases Nat.lt_or_ge k d with h3 | h3
                        · obtain rfl : d = k + 1 := by omega
                          rw [HU'.out]
                          intro e
                          injection e with e
                          exact HJ.out e
                        · exact HN.out d h1 h3
                · have hke : k = l.length + 1 := by omega
                  have HKE := Lib.hid hke
                  clear hke
                  go_wp2
                  go_roundg (g1 - 1)
                  case measure => have := HK.out; omega
                  case rel =>
                    refine ⟨_, rfl, i + 1, by have := HK.out; omega, by go_num, fun t ht d h1 h2 => ?_⟩
                    rcases Nat.lt_or_ge t i with h3 | h3
                    · exact HP.out t h3 d h1 h2
                    · obtain rfl : t = i := by omega
                      exact HN.out d h1 (by rw [HKE.out]; exact h2)
            · have hres : res = 0 := by
                rw [← HR.out, chkR_last H1.out hlen HF0.out HP0.out, if_pos]
                refine Classical.byContradiction fun hh => ?_
                obtain ⟨t, m, ht, hm, hml, e⟩ := not_ends_iff.1 hh
                exact HP.out t (by omega) m hm (by omega) e
              have HS := Lib.hid hres
              clear hres
              go_wp2
              go_ret
              exact GivesQ.mk (vint HS.out.symm) ⟨_, rfl⟩
end Go.Proofs.YtlcfgejaeecclaaGreatDoor

namespace Go.Proofs.YtlcfgejaeecclaaGreatDoor
open Go.RowKit Dw

theorem elStr : ElemT Tryz.prog 23 9 (.string ⟨#[]⟩) 1 16 := ⟨Tryz.underlying23, by kernel_rfl, rfl, by decide⟩
theorem elAr : ElemT Tryz.prog 51 63 (.agg #[.string ⟨#[]⟩, .bool false]) 2 24 := ⟨Tryz.underlying51, by kernel_rfl, rfl, by decide⟩

abbrev encS : ByteArray → List Value := fun s => [.string s]
abbrev encA : Ar → List Value := fun x => [.string x.rg, .bool x.out]

/-- A call that answers a slice of strings and only makes memory. -/
def GivesS (l : List ByteArray) (w : World) (e : Ending) (w' : World) : Prop :=
  ∃ A c, e = .returned (.slice A l.length c) ∧ Strs w' A l ∧ Below w.heap.size w w'
def GivesA (l : List Ar) (w : World) (e : Ending) (w' : World) : Prop :=
  ∃ A c, e = .returned (.slice A l.length c) ∧ Ars w' A l ∧ Below w.heap.size w w'
/-- A call that answers v and only makes memory. -/
def GivesB (v : Value) (w : World) (e : Ending) (w' : World) : Prop := e = .returned v ∧ Below w.heap.size w w'

theorem GivesB.mk {v v' : Value} {w w' : World} (h : v = v') (hw : Below w.heap.size w w') : GivesB v' w (.returned v) w' := ⟨by rw [h], hw⟩

theorem range_filter_succ {p : Nat → Bool} (k : Nat) : (List.range (k + 1)).filter p = (List.range k).filter p ++ (if p k then [k] else []) := by
  rw [List.range_succ, List.filter_append]
  cases h : p k <;> simp [h]

def allS (l : List Rg) : List ByteArray := (leafIdx l).map (nmAt l)
def gath (l : List Rg) (p : Nat → Bool) (k : Nat) : List ByteArray := ((List.range k).filter p).map (nmAt l)
theorem gath_yes {l : List Rg} {p : Nat → Bool} {k : Nat} (h : p k = true) : gath l p (k + 1) = gath l p k ++ [nmAt l k] := by
  unfold gath; rw [range_filter_succ, h]; simp
theorem gath_no {l : List Rg} {p : Nat → Bool} {k : Nat} (h : p k = false) : gath l p (k + 1) = gath l p k := by
  unfold gath; rw [range_filter_succ, h]; simp
theorem gath_le (l : List Rg) (p : Nat → Bool) (k : Nat) : (gath l p k).length ≤ k := by
  unfold gath; rw [List.length_map]
  have := List.length_filter_le p (List.range k)
  simpa using this

def GathRel (w : World) (l : List Rg) (p : Nat → Bool) (m : Nat) (out i : Value) (wr : World) : Prop :=
  ∃ k : Nat, k + m = l.length ∧ i = .int .i64 k ∧ OwnL encS 1 wr w.heap.size 9 out (gath l p k) ∧ Below w.heap.size w wr

def leafP (l : List Rg) (a : List Ar) (i : Nat) : Bool := !isPar l i && lies l a i
theorem gath_leaves (l : List Rg) (a : List Ar) : gath l (leafP l a) l.length = leavesOf l a := by
  unfold gath leavesOf leafIdx
  rw [List.filter_filter]
  congr 1
  apply List.filter_congr
  intro x _
  unfold leafP
  rw [Bool.and_comm]

set_option maxHeartbeats 400000 in
theorem leaves_c (A A2 : Option Addr) (c c2 : Nat) (l : List Rg) (a : List Ar) (w : World) (g : GoodR l) (h : Rgs w A l) (h2 : Ars w A2 a) (hn2 : a.length ≤ 100) :
    Calls Tryz.prog 122 #[.slice A l.length c, .slice A2 a.length c2] w (GivesS (leavesOf l a) w) := by
  have hn := g.len
  obtain ⟨b, o, rfl, hb, hc⟩ := h.at_ (List.length_pos_iff.2 g.ne)
  have HC := Lib.hid hc
  clear hc
  go_enter Tryz.func122, Tryz.ntmps122
  go_wp2
  go_loopg [5, 6] l.length (GathRel w l (leafP l a))
  case atStart => exact ⟨0, by omega, rfl, OwnL.nil _ _ _ _ _, Below.refl _ _⟩
  case round =>
    obtain ⟨k, hk, rfl, hown, hbel⟩ := hrel
    have HK := Lib.hid hk
    have hk1 : k ≤ l.length := by omega
    clear hk
    by_cases hlt : k < l.length
    · have hc0 : wr.cell? ⟨b, o + k * 2, none⟩ = some (.string (l[k]).nm) := (hbel.cell hb).trans (HC.out k hlt).1
      have hwr : w.heap.size ≤ wr.heap.size := hbel.size
      have hbr : b < wr.heap.size := by omega
      have hle := gath_le l (leafP l a) k
      have hlf := leafB_at g hlt
      by_cases hq : isPar l k = true
      · have hl2 : leafB l (l[k]).nm = false := by rw [hlf, hq]; rfl
        have HL := Lib.hid hl2
        have HQ : Hid (leafP l a k = false) := by show leafP l a k = false; simp [leafP, hq]
        clear hlf hl2 hq
        go_wp2_with fail
        refine (IsLeaf_c _ _ _ _ _ hn (h.below hbel)).mono ?_
        rintro e w' ⟨rfl, rfl⟩
        rw [HL.out]
        go_wp2
        go_roundg (gk - 1)
        case measure => have := HK.out; omega
        case rel => exact ⟨k + 1, by have := HK.out; omega, by go_num, by rw [gath_no HQ.out]; exact hown, hbel⟩
      · have hl2 : leafB l (l[k]).nm = true := by rw [hlf]; simp [hq]
        have HL := Lib.hid hl2
        have HQ := Lib.hid hq
        clear hlf hl2 hq
        cases hli : lies l a k with
        | false =>
          have HP : Hid (leafP l a k = false) := by show leafP l a k = false; simp [leafP, hli]
          have HI := Lib.hid hli
          clear hli
          go_wp2_with fail
          refine (IsLeaf_c _ _ _ _ _ hn (h.below hbel)).mono ?_
          rintro e w' ⟨rfl, rfl⟩
          rw [HL.out]
          go_wp2_with fail
          refine (lies_c _ _ _ _ _ _ _ g (h.below hbel) (h2.below hbel) hn2 k hlt).mono ?_
          rintro e w' ⟨rfl, rfl⟩
          rw [HI.out]
          go_wp2
          go_roundg (gk - 1)
          case measure => have := HK.out; omega
          case rel => exact ⟨k + 1, by have := HK.out; omega, by go_num, by rw [gath_no HP.out]; exact hown, hbel⟩
        | true =>
          have HP : Hid (leafP l a k = true) := by show leafP l a k = true; simp [leafP, hli, HQ.out]
          have HI := Lib.hid hli
          clear hli
          go_wp2_with fail
          refine (IsLeaf_c _ _ _ _ _ hn (h.below hbel)).mono ?_
          rintro e w' ⟨rfl, rfl⟩
          rw [HL.out]
          go_wp2_with fail
          refine (lies_c _ _ _ _ _ _ _ g (h.below hbel) (h2.below hbel) hn2 k hlt).mono ?_
          rintro e w' ⟨rfl, rfl⟩
          rw [HI.out]
          go_wp2_with (at_builtin; refine wpList_push _ _ _ elStr rfl rfl w.heap.size _ (gath l (leafP l a) k) rfl (hown.alloc _) wr.heap.size 1 (nmAt l k) rfl (by rw [nmAt_of hlt]; exact heap_alloc_new _ _) rfl (by simp [Value.oneCell']) (by unfold maxLen; omega) (by omega) (by simp; omega) ?_; intro v1 w1 hown1 hg1 hb1)
          have HO := Lib.hid hown1
          have hbel1 := (hbel.alloc hwr _).trans hb1
          have HB := Lib.hid hbel1
          clear hown hown1 hg1 hb1 hbel hbel1
          go_wp2
          go_roundg (gk - 1)
          case measure => have := HK.out; omega
          case rel => exact ⟨k + 1, by have := HK.out; omega, by go_num, by rw [gath_yes HP.out]; exact HO.out, HB.out⟩
    · have hke : k = l.length := by omega
      have HKE := Lib.hid hke
      clear hke
      obtain ⟨A', c', rfl, hrd⟩ := hown.rd1
      go_wp2
      go_ret
      have e : gath l (leafP l a) k = leavesOf l a := by rw [HKE.out, gath_leaves]
      rw [e] at hrd ⊢
      exact ⟨A', c', rfl, hrd, hbel⟩

def setP (l : List Rg) (S : List ByteArray) (i : Nat) : Bool := memS S (nmAt l i)
def FullRel (w : World) (l : List Rg) (S : List ByteArray) (k : Nat) (m : Nat) (i : Value) (wr : World) : Prop :=
  wr = w ∧ ∃ t : Nat, t + m = (leafIdx l).length ∧ i = .int .i64 t ∧ ∀ j (h : j < (leafIdx l).length), j < t → (!under l (leafIdx l)[j] k || setP l S (leafIdx l)[j]) = true
theorem leafIdx_lt {l : List Rg} {t : Nat} (h : t < (leafIdx l).length) : (leafIdx l)[t] < l.length := by
  have := List.getElem_mem h
  unfold leafIdx at this
  rw [List.mem_filter, List.mem_range] at this
  exact this.1
theorem leafIdx_le (l : List Rg) : (leafIdx l).length ≤ l.length := by
  unfold leafIdx
  have := List.length_filter_le (fun i => !isPar l i) (List.range l.length)
  simpa using this

theorem allS_get {l : List Rg} {t : Nat} (h : t < (allS l).length) (h' : t < (leafIdx l).length) : (allS l)[t] = nmAt l (leafIdx l)[t] := by
  simp [allS]

end Go.Proofs.YtlcfgejaeecclaaGreatDoor
