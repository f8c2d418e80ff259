/- Walks over the reference of chapter 7 (places): checkArea, IsName, CheckRegions. -/
import Derived.Test.YtnjepmbonhmdnaaDoorRefB
namespace Go.Proofs.YtnjepmbonhmdnaaDoor
open Go.RowKit Dw

/-- A call that answers v and only draws. -/
def GivesQ (v : Value) (w : World) (e : Ending) (w' : World) : Prop := e = .returned v ∧ ∃ n, w' = w.drewN n
theorem GivesQ.mk {v v' : Value} {w w' : World} (h : v = v') (hw : ∃ n, w' = w.drewN n) : GivesQ v' w (.returned v) w' := ⟨by rw [h], hw⟩

def ChkARel (w : World) (l : List Rg) (a : List Ar) (m : Nat) (i : Value) (wr : World) : Prop :=
  ∃ n, wr = w.drewN n ∧ ∃ k : Nat, k + m = a.length ∧ i = .int .i64 k ∧ ∀ j, j < k → arFault l a j = none

set_option maxHeartbeats 800000 in
theorem checkAreaR_c (A A2 : Option Addr) (c c2 : Nat) (l : List Rg) (a : List Ar) (w : World) (hn : l.length ≤ 200) (h : Rgs w A l) (h2 : Ars w A2 a) :
    Calls Tryd.prog 24 #[.slice A l.length c, .slice A2 a.length c2] w (GivesQ (.int .i64 (chkA l a)) w) := by
  generalize hres : chkA l a = res
  have HR := Lib.hid hres
  clear hres
  by_cases hlen : 100 < a.length
  · go_enter Tryd.func24, Tryd.ntmps24
    go_wp2
    go_ret
    refine GivesQ.mk (vint ?_) ⟨0, rfl⟩
    rw [← HR.out]; unfold chkA; rw [if_pos hlen]
  · have hlen2 : a.length ≤ 100 := by omega
    go_enter Tryd.func24, Tryd.ntmps24
    go_wp2
    go_loopg [5] a.length (ChkARel w l a)
    case atStart => exact ⟨0, rfl, 0, by omega, rfl, fun j hj => absurd hj (by omega)⟩
    case round =>
      obtain ⟨n, hw, k, hk, rfl, hpre⟩ := hrel
      subst hw
      have HK := Lib.hid hk
      have HP := Lib.hid hpre
      have hk1 : k ≤ a.length := by omega
      clear hk hpre
      by_cases hlt : k < a.length
      · obtain ⟨b2, o2, rfl, hb2, hc2⟩ := h2.at_ (by omega)
        have hc0 := (hc2 k hlt).1
        have hr0 := rgAt_of hlt
        by_cases hq : idx l (a[k]).rg = none
        · have hix : idxI l (a[k]).rg = -1 := by unfold idxI; rw [hq]
          have hres : res = 5 := by
            rw [← HR.out]; unfold chkA; rw [if_neg hlen, findSome_first hlt HP.out (x := 5) (by unfold arFault; rw [hr0, if_pos hq])]
          have HS := Lib.hid hres
          have HX := Lib.hid hix
          clear hc2 hr0 hq hres hix
          go_wp2_with fail
          refine (region_c _ _ _ _ _ hn (h.drewN _)).mono ?_
          rintro e w' ⟨rfl, rfl⟩
          rw [HX.out]
          go_wp2
          go_ret
          exact GivesQ.mk (vint HS.out.symm) ⟨_, rfl⟩
        · obtain ⟨x, hx⟩ := Option.ne_none_iff_exists'.1 hq
          have hix : idxI l (a[k]).rg = (x : Int) := by unfold idxI; rw [hx]
          have HX := Lib.hid hix
          have HQ := Lib.hid hq
          clear hix hx hq
          by_cases hk0 : 0 < k
          · have hd : decide ((0 : Int) < (k : Int)) = true := by simp; omega
            have hcp := (hc2 (k - 1) (by omega)).1
            have hr1 := rgAt_of (a := a) (i := k - 1) (by omega)
            by_cases hle : sle (a[k]).rg (a[k - 1]).rg = true
            · have hleb := hle
              unfold sle at hleb
              have hres : res = 8 := by
                rw [← HR.out]; unfold chkA; rw [if_neg hlen, findSome_first hlt HP.out (x := 8) (by unfold arFault; rw [hr0, hr1, if_neg HQ.out, if_pos ⟨hk0, hle⟩])]
              have HS := Lib.hid hres
              clear hc2 hr0 hr1 hres hle
              go_wp2_with fail
              refine (region_c _ _ _ _ _ hn (h.drewN _)).mono ?_
              rintro e w' ⟨rfl, rfl⟩
              rw [HX.out]
              go_wp2
              go_quiet (fail)
              go_wp2
              go_ret
              exact GivesQ.mk (vint HS.out.symm) ⟨_, World.drewN_drewN _ _ _⟩
            · have hle' : sle (a[k]).rg (a[k - 1]).rg = false := by simpa using hle
              have hleb := hle'
              unfold sle at hleb
              have HF : Hid (arFault l a k = none) := by
                show arFault l a k = none
                unfold arFault; rw [hr0, hr1, if_neg HQ.out, if_neg (fun hh => hle hh.2)]
              clear hc2 hr0 hr1 hle hle'
              go_wp2_with fail
              refine (region_c _ _ _ _ _ hn (h.drewN _)).mono ?_
              rintro e w' ⟨rfl, rfl⟩
              rw [HX.out]
              go_wp2
              go_quiet (fail)
              go_wp2
              go_roundg (gk - 1)
              case measure => have := HK.out; omega
              case rel =>
                refine ⟨_, rfl, k + 1, by have := HK.out; omega, by go_num, fun j hj => ?_⟩
                rcases Nat.lt_or_ge j k with h1 | h1
                · exact HP.out j h1
                · obtain rfl : j = k := by omega
                  exact HF.out
          · have hd : decide ((0 : Int) < (k : Int)) = false := by simp; omega
            have HF : Hid (arFault l a k = none) := by
              show arFault l a k = none
              unfold arFault; rw [hr0, if_neg HQ.out, if_neg (by omega)]
            clear hc2 hr0
            go_wp2_with fail
            refine (region_c _ _ _ _ _ hn (h.drewN _)).mono ?_
            rintro e w' ⟨rfl, rfl⟩
            rw [HX.out]
            go_wp2
            go_quiet (fail)
            go_wp2
            go_roundg (gk - 1)
            case measure => have := HK.out; omega
            case rel =>
              refine ⟨_, rfl, k + 1, by have := HK.out; omega, by go_num, fun j hj => ?_⟩
              rcases Nat.lt_or_ge j k with h1 | h1
              · exact HP.out j h1
              · obtain rfl : j = k := by omega
                exact HF.out
      · have hres : res = 0 := by
          rw [← HR.out]; unfold chkA; rw [if_neg hlen, findSome_none (fun j hj => HP.out j (by omega))]
        have HS := Lib.hid hres
        clear hres
        go_wp2
        go_ret
        exact GivesQ.mk (vint HS.out.symm) ⟨_, rfl⟩

theorem data_get (s : ByteArray) (k : Nat) (h : k < s.size) : s.data.toList[k]'(by simpa using h) = s[k] := rfl
theorem headD_get (s : ByteArray) (h : 0 < s.size) : s.data.toList.headD 0 = s[0] := by
  rw [← data_get s 0 h, List.headD_eq_head?_getD, List.head?_eq_getElem?]
  simp [h]

def NameRel (w : World) (s : ByteArray) (m : Nat) (i : Value) (wr : World) : Prop :=
  wr = w ∧ ∃ k : Nat, k + m = s.size ∧ i = .int .i64 k ∧ ∀ j (h : j < s.size), j < k → okB s[j] = true

theorem isNm_all {s : ByteArray} (h1 : 1 ≤ s.size) (h2 : s.size ≤ 40) (h3 : 97 ≤ (s[0]'h1).toNat) (h4 : (s[0]'h1).toNat ≤ 122) : isNm s = s.data.toList.all okB := by
  unfold isNm
  rw [headD_get s h1]
  simp [h1, h2, h3, h4]

set_option maxHeartbeats 800000 in
theorem IsNameR_c (s : ByteArray) (w : World) (hs : s.size ≤ 9223372036854775807) :
    Calls Tryd.prog 27 #[.string s] w (Gives (.bool (isNm s)) w) := by
  generalize hres : isNm s = res
  have HR := Lib.hid hres
  clear hres
  by_cases h1 : 1 ≤ s.size
  · have he : s.toList.isEmpty = false := isEmpty_of_ne (fun e => by rw [e] at h1; exact absurd h1 (by decide))
    by_cases h2 : s.size ≤ 40
    · by_cases h3 : 97 ≤ (s[0]'h1).toNat
      · by_cases h4 : (s[0]'h1).toNat ≤ 122
        · have hall := isNm_all h1 h2 h3 h4
          have HA := Lib.hid hall
          clear hall
          go_enter Tryd.func27, Tryd.ntmps27
          go_wp2
          go_loopg [3] s.size (NameRel w s)
          case atStart => exact ⟨rfl, 0, by omega, rfl, fun j _ hj => absurd hj (by omega)⟩
          case round =>
            obtain ⟨hw, k, hk, rfl, hpre⟩ := hrel
            subst hw
            have HK := Lib.hid hk
            have HP := Lib.hid hpre
            have hk1 : k ≤ s.size := by omega
            clear hk hpre
            by_cases hlt : k < s.size
            · have hcase : ((97 ≤ s[k].toNat ∧ s[k].toNat ≤ 122) ∨ (48 ≤ s[k].toNat ∧ s[k].toNat ≤ 57) ∨ (45 ≤ s[k].toNat ∧ s[k].toNat ≤ 45)) ∨ ((122 < s[k].toNat ∧ 1 ≤ s.size) ∨ (57 < s[k].toNat ∧ s[k].toNat < 97) ∨ (s[k].toNat < 48 ∧ s[k].toNat ≠ 45)) := by omega
              rcases hcase with hcase | hcase
              · have hok : okB s[k] = true := by
                  unfold okB
                  rcases hcase with ⟨a1, a2⟩ | ⟨a1, a2⟩ | ⟨a1, a2⟩
                  · simp [a1, a2]
                  · simp [a1, a2]
                  · have : s[k].toNat = 45 := by omega
                    simp [this]
                have HO := Lib.hid hok
                clear hok
                have fin : ∀ j (h : j < s.size), j < k + 1 → okB s[j] = true := fun j hj hjk => by
                  rcases Nat.lt_or_ge j k with h1 | h1
                  · exact HP.out j hj h1
                  · obtain rfl : j = k := by omega
                    exact HO.out
                have HF := Lib.hid fin
                clear fin
                rcases hcase with ⟨a1, a2⟩ | ⟨a1, a2⟩ | ⟨a1, a2⟩
                · go_wp2
                  go_roundg (gk - 1)
                  case measure => have := HK.out; omega
                  case rel => exact ⟨rfl, k + 1, by have := HK.out; omega, by go_num, HF.out⟩
                · go_wp2
                  go_roundg (gk - 1)
                  case measure => have := HK.out; omega
                  case rel => exact ⟨rfl, k + 1, by have := HK.out; omega, by go_num, HF.out⟩
                · have hb : ((s[k].toNat : Int) == 45) = true := by rw [beq_iff_eq]; omega
                  go_wp2
                  go_roundg (gk - 1)
                  case measure => have := HK.out; omega
                  case rel => exact ⟨rfl, k + 1, by have := HK.out; omega, by go_num, HF.out⟩
              · have hb : ((s[k].toNat : Int) == 45) = false := by rw [beq_eq_false_iff_ne]; omega
                have hno : okB s[k] = false := by
                  unfold okB
                  simp
                  omega
                have hres : res = false := by
                  rw [← HR.out, HA.out, List.all_eq_false]
                  exact ⟨s[k], by rw [← data_get s k hlt]; exact List.getElem_mem _, by simp [hno]⟩
                have HS := Lib.hid hres
                clear hres hno
                rcases hcase with ⟨a1, a2⟩ | ⟨a1, a2⟩ | ⟨a1, a2⟩
                · have d1 : decide ((s[k].toNat : Int) ≤ 122) = false := by simp; omega
                  have d2 : decide ((s[k].toNat : Int) ≤ 57) = false := by simp; omega
                  go_wp2
                  go_ret
                  exact Gives.mk (vbool HS.out.symm) rfl
                · have d2 : decide ((s[k].toNat : Int) ≤ 57) = false := by simp; omega
                  go_wp2
                  go_ret
                  exact Gives.mk (vbool HS.out.symm) rfl
                · go_wp2
                  go_ret
                  exact Gives.mk (vbool HS.out.symm) rfl
            · go_wp2
              go_ret
              refine Gives.mk (vbool ?_) rfl
              rw [← HR.out, HA.out, eq_comm, List.all_eq_true]
              intro x hx
              obtain ⟨j, hj, rfl⟩ := List.getElem_of_mem hx
              have hj' : j < s.size := by simpa using hj
              exact HP.out j hj' (by omega)
        · go_enter Tryd.func27, Tryd.ntmps27
          go_wp2
          go_ret
          refine Gives.mk (vbool ?_) rfl
          rw [← HR.out]
          unfold isNm
          rw [headD_get s h1]
          simp [h4]
      · go_enter Tryd.func27, Tryd.ntmps27
        go_wp2
        go_ret
        refine Gives.mk (vbool ?_) rfl
        rw [← HR.out]
        unfold isNm
        rw [headD_get s h1]
        simp [h3]
    · go_enter Tryd.func27, Tryd.ntmps27
      go_wp2
      go_ret
      refine Gives.mk (vbool ?_) rfl
      rw [← HR.out]
      unfold isNm
      simp [h2]
  · have he : s.toList.isEmpty = true := by
      cases hs : s.toList with
      | nil => rfl
      | cons a l =>
        have := congrArg List.length hs
        rw [toList_eq] at this
        simp at this
        omega
    go_enter Tryd.func27, Tryd.ntmps27
    go_wp2
    go_ret
    refine Gives.mk (vbool ?_) rfl
    rw [← HR.out]
    unfold isNm
    simp [h1]
end Go.Proofs.YtnjepmbonhmdnaaDoor
