/- Package shelf: titles and names. -/
import Derived.Test.YtfninfgohiipjaaGreatDoorLbS
namespace Go.Proofs.YtfninfgohiipjaaGreatDoor
open Go.RowKit Dw

theorem headD_get (s : ByteArray) (h : 0 < s.size) : s.data.toList.headD 0 = s[0] := by
  obtain ⟨⟨l⟩⟩ := s
  cases l with
  | nil => exact absurd h (by decide)
  | cons a t => rfl
theorem lastD_get (s : ByteArray) (h : 0 < s.size) : s.data.toList.getLastD 0 = s[s.size - 1] := by
  have hl : s.data.toList.length = s.size := by cases s; rfl
  have hne : s.data.toList ≠ [] := fun e => by rw [e] at hl; simp at hl; omega
  have : s.data.toList.getLastD 0 = s.data.toList.getLast hne := by rw [List.getLastD_eq_getLast?, List.getLast?_eq_some_getLast hne]; rfl
  rw [this, List.getLast_eq_getElem]
  have h2 : s.data.toList[s.data.toList.length - 1]'(by omega) = s.data.toList[s.size - 1]'(by omega) := by congr 1
  rw [h2]; rfl
theorem nonempty_of {s : ByteArray} (h : 1 ≤ s.size) : s.toList.isEmpty = false := isEmpty_of_ne fun e => by subst e; exact absurd h (by decide)
theorem empty_of {s : ByteArray} (h : ¬ 1 ≤ s.size) : s.toList.isEmpty = true := isEmpty_of_eq (by
  obtain ⟨⟨l⟩⟩ := s
  cases l with
  | nil => rfl
  | cons a t => exact absurd (show 1 ≤ (a :: t).length by simp) h)
def inT (c : UInt8) : Bool := decide (32 ≤ c.toNat) && decide (c.toNat ≤ 126)
def TitleRel (w : World) (s : ByteArray) (m : Nat) (i : Value) (wr : World) : Prop :=
  w = wr ∧ ∃ k : Nat, k + m = s.size ∧ i = .int .i64 k ∧ ∀ j (h : j < s.size), j < k → inT s[j] = true
theorem title_split {s : ByteArray} (h1 : 1 ≤ s.size) (h2 : s.size ≤ 100) : titleB (twoB s) s = (decide ((s[0]'h1).toNat ≠ 32) && decide ((s[s.size - 1]'(by omega)).toNat ≠ 32) && !twoB s && s.data.toList.all inT) := by
  unfold titleB
  rw [headD_get s h1, lastD_get s h1]
  simp [h1, h2]
  rfl
theorem all_get {s : ByteArray} {p : UInt8 → Bool} : s.data.toList.all p = true ↔ ∀ j (h : j < s.size), p s[j] = true := by
  have hl : s.data.toList.length = s.size := by cases s; rfl
  rw [List.all_eq_true]
  constructor
  · intro h j hj
    exact h s[j] (List.getElem_mem (by omega : j < s.data.toList.length))
  · intro h x hx
    obtain ⟨j, hj, rfl⟩ := List.getElem_of_mem hx
    exact h j (by omega)

set_option maxHeartbeats 1000000 in
theorem isTitle_c (s : ByteArray) (w : World) (hs : s.size ≤ 9223372036854775807) (hG : GOK w) :
    Calls Tryz.prog 96 #[.string s] w (Gives (.bool (titleB (twoB s) s)) w) := by
  generalize hres : titleB (twoB s) s = res
  have HR := Lib.hid hres
  clear hres
  by_cases h1 : 1 ≤ s.size
  · have hne := nonempty_of h1
    by_cases h2 : s.size ≤ 100
    · have HSP := Lib.hid (title_split h1 h2)
      have hsz : s.size - 1 < s.size := by omega
      by_cases h3 : (s[0]'h1).toNat = 32
      · have h3b : (((s[0]'h1).toNat : Int) == 32) = true := by rw [h3]; rfl
        have hres : res = false := by rw [← HR.out, HSP.out]; simp [h3]
        have HS := Lib.hid hres
        clear hres h3
        go_enter Tryz.func96, Tryz.ntmps96
        go_wp2_with fail
        go_ret
        exact Gives.mk (vbool HS.out.symm) rfl
      · have h3b : (((s[0]'h1).toNat : Int) == 32) = false := by rw [beq_eq_false_iff_ne]; omega
        by_cases h4 : (s[s.size - 1]'hsz).toNat = 32
        · have h4b : (((s[s.size - 1]'hsz).toNat : Int) == 32) = true := by rw [h4]; rfl
          have hres : res = false := by rw [← HR.out, HSP.out]; simp [h4]
          have HS := Lib.hid hres
          clear hres h3 h4
          go_enter Tryz.func96, Tryz.ntmps96
          go_wp2_with fail
          go_ret
          exact Gives.mk (vbool HS.out.symm) rfl
        · have h4b : (((s[s.size - 1]'hsz).toNat : Int) == 32) = false := by rw [beq_eq_false_iff_ne]; omega
          have HCON := Lib.hid (contains2_c s w h2 hG)
          cases h5 : twoB s with
          | true =>
            rw [h5] at HCON
            have hres : res = false := by rw [← HR.out, HSP.out]; simp [h5]
            have HS := Lib.hid hres
            clear hres h3 h4 h5
            go_enter Tryz.func96, Tryz.ntmps96
            go_wp2_with fail
            refine HCON.out.mono ?_
            rintro e w' ⟨rfl, rfl⟩
            go_wp2
            go_ret
            exact Gives.mk (vbool HS.out.symm) rfl
          | false =>
            rw [h5] at HCON
            have hres : res = s.data.toList.all inT := by rw [← HR.out, HSP.out, h5]; simp [h3, h4]
            have HS := Lib.hid hres
            clear hres h3 h4 h5
            go_enter Tryz.func96, Tryz.ntmps96
            go_wp2_with fail
            refine HCON.out.mono ?_
            rintro e w' ⟨rfl, rfl⟩
            go_wp2
            go_loopg [31] s.size (TitleRel w s)
            case atStart => exact ⟨rfl, 0, by omega, rfl, fun j _ hj => absurd hj (by omega)⟩
            case round =>
              obtain ⟨hw, k, hk, rfl, hpre⟩ := hrel
              subst hw
              have HK := Lib.hid hk
              have HP := Lib.hid hpre
              have hk1 : k ≤ s.size := by omega
              clear hk hpre
              by_cases hlt : k < s.size
              · by_cases hc1 : 32 ≤ (s[k]).toNat
                · by_cases hc2 : (s[k]).toNat ≤ 126
                  · have HI : Hid (inT s[k] = true) := by
                      show inT s[k] = true
                      simp [inT, hc1, hc2]
                    go_wp2
                    go_roundg (gk - 1)
                    case measure => have := HK.out; omega
                    case rel =>
                      refine ⟨rfl, k + 1, by have := HK.out; omega, by go_num, fun j hj hjk => ?_⟩
                      rcases Nat.lt_or_ge j k with h1 | h1
                      · exact HP.out j hj h1
                      · obtain rfl : j = k := by omega
                        exact HI.out
                  · have HI : Hid (inT s[k] = false) := by
                      show inT s[k] = false
                      simp [inT, hc2]
                    go_wp2
                    go_ret
                    refine Gives.mk (vbool ?_) rfl
                    rw [HS.out]
                    cases ha : s.data.toList.all inT with
                    | false => rfl
                    | true => exact absurd (all_get.1 ha k hlt) (by rw [HI.out]; simp)
                · have HI : Hid (inT s[k] = false) := by
                    show inT s[k] = false
                    simp [inT, hc1]
                  go_wp2
                  go_ret
                  refine Gives.mk (vbool ?_) rfl
                  rw [HS.out]
                  cases ha : s.data.toList.all inT with
                  | false => rfl
                  | true => exact absurd (all_get.1 ha k hlt) (by rw [HI.out]; simp)
              · go_wp2
                go_ret
                refine Gives.mk (vbool ?_) rfl
                rw [HS.out]
                exact (all_get.2 fun j hj => HP.out j hj (by omega)).symm
    · have hres : res = false := by
        rw [← HR.out]
        unfold titleB
        simp [h2]
      have HS := Lib.hid hres
      clear hres
      go_enter Tryz.func96, Tryz.ntmps96
      go_wp2_with fail
      go_ret
      exact Gives.mk (vbool HS.out.symm) rfl
  · have hem := empty_of h1
    have hres : res = false := by
      rw [← HR.out]
      unfold titleB
      simp [h1]
    have HS := Lib.hid hres
    clear hres
    go_enter Tryz.func96, Tryz.ntmps96
    go_wp2_with fail
    go_ret
    exact Gives.mk (vbool HS.out.symm) rfl

set_option maxHeartbeats 1000000 in
theorem isTitleR_c (s : ByteArray) (w : World) (hs : s.size ≤ 9223372036854775807) (hG : GOK w) :
    Calls Tryz.prog 103 #[.string s] w (Gives (.bool (titleB (twoB s) s)) w) := by
  generalize hres : titleB (twoB s) s = res
  have HR := Lib.hid hres
  clear hres
  by_cases h1 : 1 ≤ s.size
  · have hne := nonempty_of h1
    by_cases h2 : s.size ≤ 100
    · have HSP := Lib.hid (title_split h1 h2)
      have hsz : s.size - 1 < s.size := by omega
      by_cases h3 : (s[0]'h1).toNat = 32
      · have h3b : (((s[0]'h1).toNat : Int) == 32) = true := by rw [h3]; rfl
        have hres : res = false := by rw [← HR.out, HSP.out]; simp [h3]
        have HS := Lib.hid hres
        clear hres h3
        go_enter Tryz.func103, Tryz.ntmps103
        go_wp2_with fail
        go_ret
        exact Gives.mk (vbool HS.out.symm) rfl
      · have h3b : (((s[0]'h1).toNat : Int) == 32) = false := by rw [beq_eq_false_iff_ne]; omega
        by_cases h4 : (s[s.size - 1]'hsz).toNat = 32
        · have h4b : (((s[s.size - 1]'hsz).toNat : Int) == 32) = true := by rw [h4]; rfl
          have hres : res = false := by rw [← HR.out, HSP.out]; simp [h4]
          have HS := Lib.hid hres
          clear hres h3 h4
          go_enter Tryz.func103, Tryz.ntmps103
          go_wp2_with fail
          go_ret
          exact Gives.mk (vbool HS.out.symm) rfl
        · have h4b : (((s[s.size - 1]'hsz).toNat : Int) == 32) = false := by rw [beq_eq_false_iff_ne]; omega
          have HCON := Lib.hid (contains2_c s w h2 hG)
          cases h5 : twoB s with
          | true =>
            rw [h5] at HCON
            have hres : res = false := by rw [← HR.out, HSP.out]; simp [h5]
            have HS := Lib.hid hres
            clear hres h3 h4 h5
            go_enter Tryz.func103, Tryz.ntmps103
            go_wp2_with fail
            refine HCON.out.mono ?_
            rintro e w' ⟨rfl, rfl⟩
            go_wp2
            go_ret
            exact Gives.mk (vbool HS.out.symm) rfl
          | false =>
            rw [h5] at HCON
            have hres : res = s.data.toList.all inT := by rw [← HR.out, HSP.out, h5]; simp [h3, h4]
            have HS := Lib.hid hres
            clear hres h3 h4 h5
            go_enter Tryz.func103, Tryz.ntmps103
            go_wp2_with fail
            refine HCON.out.mono ?_
            rintro e w' ⟨rfl, rfl⟩
            go_wp2
            go_loopg [30] s.size (TitleRel w s)
            case atStart => exact ⟨rfl, 0, by omega, rfl, fun j _ hj => absurd hj (by omega)⟩
            case round =>
              obtain ⟨hw, k, hk, rfl, hpre⟩ := hrel
              subst hw
              have HK := Lib.hid hk
              have HP := Lib.hid hpre
              have hk1 : k ≤ s.size := by omega
              clear hk hpre
              by_cases hlt : k < s.size
              · by_cases hc1 : 32 ≤ (s[k]).toNat
                · by_cases hc2 : (s[k]).toNat ≤ 126
                  · have HI : Hid (inT s[k] = true) := by
                      show inT s[k] = true
                      simp [inT, hc1, hc2]
                    go_wp2
                    go_roundg (gk - 1)
                    case measure => have := HK.out; omega
                    case rel =>
                      refine ⟨rfl, k + 1, by have := HK.out; omega, by go_num, fun j hj hjk => ?_⟩
                      rcases Nat.lt_or_ge j k with h1 | h1
                      · exact HP.out j hj h1
                      · obtain rfl : j = k := by omega
                        exact HI.out
                  · have HI : Hid (inT s[k] = false) := by
                      show inT s[k] = false
                      simp [inT, hc2]
                    go_wp2
                    go_ret
                    refine Gives.mk (vbool ?_) rfl
                    rw [HS.out]
                    cases ha : s.data.toList.all inT with
                    | false => rfl
                    | true => exact absurd (all_get.1 ha k hlt) (by rw [HI.out]; simp)
                · have HI : Hid (inT s[k] = false) := by
                    show inT s[k] = false
                    simp [inT, hc1]
                  go_wp2
                  go_ret
                  refine Gives.mk (vbool ?_) rfl
                  rw [HS.out]
                  cases ha : s.data.toList.all inT with
                  | false => rfl
                  | true => exact absurd (all_get.1 ha k hlt) (by rw [HI.out]; simp)
              · go_wp2
                go_ret
                refine Gives.mk (vbool ?_) rfl
                rw [HS.out]
                exact (all_get.2 fun j hj => HP.out j hj (by omega)).symm
    · have hres : res = false := by
        rw [← HR.out]
        unfold titleB
        simp [h2]
      have HS := Lib.hid hres
      clear hres
      go_enter Tryz.func103, Tryz.ntmps103
      go_wp2_with fail
      go_ret
      exact Gives.mk (vbool HS.out.symm) rfl
  · have hem := empty_of h1
    have hres : res = false := by
      rw [← HR.out]
      unfold titleB
      simp [h1]
    have HS := Lib.hid hres
    clear hres
    go_enter Tryz.func103, Tryz.ntmps103
    go_wp2_with fail
    go_ret
    exact Gives.mk (vbool HS.out.symm) rfl
end Go.Proofs.YtfninfgohiipjaaGreatDoor
