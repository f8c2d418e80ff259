/- Walks over the reference of chapter 7 (places): CheckRegions. -/
import Derived.Test.YtnjepmbonhmdnaaDoorRefC
namespace Go.Proofs.YtnjepmbonhmdnaaDoor
open Go.RowKit Dw

def ChkR1 (w : World) (l : List Rg) (m : Nat) (i : Value) (wr : World) : Prop :=
  ∃ n, wr = w.drewN n ∧ ∃ k : Nat, k + m = l.length ∧ i = .int .i64 k ∧ ∀ j, j < k → rgFault l j = none
def ChkR2 (w : World) (l : List Rg) (m : Nat) (i : Value) (wr : World) : Prop :=
  ∃ n, wr = w.drewN n ∧ ∃ k : Nat, k + m = l.length ∧ i = .int .i64 k ∧ ∀ j (h : j < l.length), j < k → parBad l l[j] = false
def ChkR3 (w : World) (l : List Rg) (m : Nat) (i : Value) (wr : World) : Prop :=
  ∃ n, wr = w.drewN n ∧ ∃ k : Nat, k + m = l.length ∧ i = .int .i64 k ∧ ∀ j, j < k → ∀ d, 0 < d → d ≤ l.length + 1 → upN l d j ≠ some j
def ChkR4 (w : World) (l : List Rg) (i : Nat) (m : Nat) (at_ n : Value) (wr : World) : Prop :=
  wr = w ∧ ∃ k : Nat, k + m = l.length + 1 ∧ n = .int .i64 k ∧ ∃ j, j < l.length ∧ at_ = .int .i64 j ∧ upN l k i = some j ∧ ∀ d, 0 < d → d ≤ k → upN l d i ≠ some i

theorem parBad_false {l : List Rg} (h : ∀ j (h : j < l.length), parBad l l[j] = false) {i : Nat} (hi : i < l.length) (hp : (l[i]).par ≠ emp) : ∃ j, idx l (l[i]).par = some j := by
  have := h i hi
  unfold parBad at this
  cases hx : idx l (l[i]).par with
  | some j => exact ⟨j, rfl⟩
  | none => rw [hx] at this; simp [hp] at this

theorem chkR_head {l : List Rg} (h1 : l ≠ []) (h2 : ¬ 200 < l.length) : chkR l = match (List.range l.length).findSome? (rgFault l) with
  | some f => f
  | none => if l.any (parBad l) = true then 5 else if EndsR l then 0 else 14 := by
  unfold chkR; rw [if_neg h1, if_neg h2]; rfl
theorem chkR_first {l : List Rg} (h1 : l ≠ []) (h2 : ¬ 200 < l.length) {k : Nat} {x : Int} (hk : k < l.length) (hpre : ∀ j, j < k → rgFault l j = none) (h : rgFault l k = some x) : chkR l = x := by
  rw [chkR_head h1 h2, findSome_first hk hpre h]
theorem chkR_par {l : List Rg} (h1 : l ≠ []) (h2 : ¬ 200 < l.length) (hpre : ∀ j, j < l.length → rgFault l j = none) {k : Nat} (hk : k < l.length) (h : parBad l l[k] = true) : chkR l = 5 := by
  rw [chkR_head h1 h2, findSome_none hpre]
  simp only []
  rw [if_pos (List.any_eq_true.2 ⟨l[k], List.getElem_mem hk, h⟩)]
theorem chkR_last {l : List Rg} (h1 : l ≠ []) (h2 : ¬ 200 < l.length) (hpre : ∀ j, j < l.length → rgFault l j = none) (h : ∀ j (h : j < l.length), parBad l l[j] = false) : chkR l = if EndsR l then 0 else 14 := by
  rw [chkR_head h1 h2, findSome_none hpre]
  simp only []
  rw [if_neg]
  intro hh
  obtain ⟨x, hx, hb⟩ := List.any_eq_true.1 hh
  obtain ⟨j, hj, rfl⟩ := List.getElem_of_mem hx
  rw [h j hj] at hb; cases hb

set_option maxHeartbeats 1000000 in
theorem CheckRegionsR_c (A : Option Addr) (c : Nat) (l : List Rg) (w : World) (h : Rgs w A l) (hz : ∀ i (h : i < l.length), (l[i]).nm.size ≤ 9223372036854775807) :
    Calls Tryd.prog 9 #[.slice A l.length c] w (GivesQ (.int .i64 (chkR l)) w) := by
  generalize hres : chkR l = res
  have HR := Lib.hid hres
  clear hres
  by_cases h1 : l = []
  · subst h1
    go_enter Tryd.func9, Tryd.ntmps9
    go_wp2
    go_ret
    refine GivesQ.mk (vint ?_) ⟨0, rfl⟩
    rw [← HR.out]; rfl
  have h1' : 0 < l.length := List.length_pos_iff.2 h1
  have hl0 : ((l.length : Int) == 0) = false := by rw [beq_eq_false_iff_ne]; omega
  by_cases hlen : 200 < l.length
  · go_enter Tryd.func9, Tryd.ntmps9
    go_wp2
    go_ret
    refine GivesQ.mk (vint ?_) ⟨0, rfl⟩
    rw [← HR.out]; unfold chkR; rw [if_neg h1, if_pos hlen]
  have hn : l.length ≤ 200 := by omega
  obtain ⟨b, o, rfl, hb, hc⟩ := h.at_ h1'
  have HC := Lib.hid hc
  have HZ := Lib.hid hz
  have H1 := Lib.hid h1
  clear hc hz h1
  go_enter Tryd.func9, Tryd.ntmps9
  go_wp2
  go_loopg [3] l.length (ChkR1 w l)
  case atStart => exact ⟨0, rfl, 0, by omega, rfl, fun j hj => absurd hj (by omega)⟩
  case round =>
    obtain ⟨n, hw, k, hk, rfl, hpre⟩ := hrel
    subst hw
    have HK := Lib.hid hk
    have HP := Lib.hid hpre
    have hk1 : k ≤ l.length := by omega
    clear hk hpre
    by_cases hlt : k < l.length
    · have hc0 := (HC.out k hlt).1
      have hr0 := nmAt_of hlt
      have hzk := HZ.out k hlt
      by_cases hq : isNm (l[k]).nm = true
      · by_cases hk0 : 0 < k
        · have hd : decide ((0 : Int) < (k : Int)) = true := by simp; omega
          have hcp := (HC.out (k - 1) (by omega)).1
          have hr1 := nmAt_of (l := l) (i := k - 1) (by omega)
          by_cases hle : sle (l[k]).nm (l[k - 1]).nm = true
          · have hleb := hle
            unfold sle at hleb
            have hres : res = 8 := by
              rw [← HR.out, chkR_first H1.out hlen hlt HP.out (x := 8) (by unfold rgFault; rw [hr0, hr1, if_neg (by rw [hq]; simp), if_pos ⟨hk0, hle⟩])]
            have HS := Lib.hid hres
            have HQ := Lib.hid hq
            clear hr0 hr1 hres hle hq
            go_wp2_with fail
            refine (IsNameR_c _ _ hzk).mono ?_
            rintro e w' ⟨rfl, rfl⟩
            rw [HQ.out]
            go_wp2
            go_quiet (fail)
            go_wp2
            go_ret
            exact GivesQ.mk (vint HS.out.symm) ⟨_, World.drewN_drewN _ _ _⟩
          · have hle' : sle (l[k]).nm (l[k - 1]).nm = false := by simpa using hle
            have hleb := hle'
            unfold sle at hleb
            have HF : Hid (rgFault l k = none) := by
              show rgFault l k = none
              unfold rgFault; rw [hr0, hr1, if_neg (by rw [hq]; simp), if_neg (fun hh => hle hh.2)]
            have HQ := Lib.hid hq
            clear hr0 hr1 hle hle' hq
            go_wp2_with fail
            refine (IsNameR_c _ _ hzk).mono ?_
            rintro e w' ⟨rfl, rfl⟩
            rw [HQ.out]
            go_wp2
            go_quiet (fail)
            go_wp2
            go_roundg (gk - 1)
            case measure => have := HK.out; omega
            case rel =>
              refine ⟨_, rfl, k + 1, by have := HK.out; omega, by go_num, fun j hj => ?_⟩
              rcases Nat.lt_or_ge j k with h1 | h1
              · exact HP.out j h1
              · obtain rfl : j = k := by omega
                exact HF.out
        · have hd : decide ((0 : Int) < (k : Int)) = false := by simp; omega
          have HF : Hid (rgFault l k = none) := by
            show rgFault l k = none
            unfold rgFault; rw [hr0, if_neg (by rw [hq]; simp), if_neg (by omega)]
          have HQ := Lib.hid hq
          clear hr0 hq
          go_wp2_with fail
          refine (IsNameR_c _ _ hzk).mono ?_
          rintro e w' ⟨rfl, rfl⟩
          rw [HQ.out]
          go_wp2
          go_quiet (fail)
          go_wp2
          go_roundg (gk - 1)
          case measure => have := HK.out; omega
          case rel =>
            refine ⟨_, rfl, k + 1, by have := HK.out; omega, by go_num, fun j hj => ?_⟩
            rcases Nat.lt_or_ge j k with h1 | h1
            · exact HP.out j h1
            · obtain rfl : j = k := by omega
              exact HF.out
      · have hq' : isNm (l[k]).nm = false := by simpa using hq
        have hres : res = 5 := by
          rw [← HR.out, chkR_first H1.out hlen hlt HP.out (x := 5) (by unfold rgFault; rw [hr0, if_pos hq'])]
        have HS := Lib.hid hres
        have HQ := Lib.hid hq'
        clear hr0 hres hq hq'
        go_wp2_with fail
        refine (IsNameR_c _ _ hzk).mono ?_
        rintro e w' ⟨rfl, rfl⟩
        rw [HQ.out]
        go_wp2
        go_ret
        exact GivesQ.mk (vint HS.out.symm) ⟨_, rfl⟩
    · have hF0 : ∀ j, j < l.length → rgFault l j = none := fun j hj => HP.out j (by omega)
      have HF0 := Lib.hid hF0
      clear hF0
      go_wp2
      clear HK HP hk1 hlt
      go_loopg [4] l.length (ChkR2 w l)
      case atStart => exact ⟨_, rfl, 0, by omega, rfl, fun j _ hj => absurd hj (by omega)⟩
      case round =>
        obtain ⟨n2, hw, k, hk, rfl, hpre⟩ := hrel
        subst hw
        have HK := Lib.hid hk
        have HP := Lib.hid hpre
        have hk1 : k ≤ l.length := by omega
        clear hk hpre
        by_cases hlt : k < l.length
        · have hc0 := (HC.out k hlt).2
          by_cases hp : (l[k]).par = emp
          · have he := isEmpty_of_eq hp
            have HF : Hid (parBad l l[k] = false) := by
              show parBad l l[k] = false
              simp [parBad, hp]
            clear hp
            go_wp2
            go_roundg (gk - 1)
            case measure => have := HK.out; omega
            case rel =>
              refine ⟨_, rfl, k + 1, by have := HK.out; omega, by go_num, fun j hj hjk => ?_⟩
              rcases Nat.lt_or_ge j k with h1 | h1
              · exact HP.out j hj h1
              · obtain rfl : j = k := by omega
                exact HF.out
          · have he := isEmpty_of_ne hp
            cases hix : idx l (l[k]).par with
            | none =>
              have hi0 : idxI l (l[k]).par = -1 := by unfold idxI; rw [hix]
              have hres : res = 5 := by
                rw [← HR.out]
                exact chkR_par H1.out hlen HF0.out hlt (by simp [parBad, hp, hix])
              have HS := Lib.hid hres
              have HX := Lib.hid hi0
              clear hres hi0 hix hp
              go_wp2_with fail
              refine (region_c _ _ _ _ _ hn (h.drewN _)).mono ?_
              rintro e w' ⟨rfl, rfl⟩
              rw [HX.out]
              go_wp2
              go_ret
              exact GivesQ.mk (vint HS.out.symm) ⟨_, rfl⟩
            | some x =>
              have hi0 : idxI l (l[k]).par = (x : Int) := by unfold idxI; rw [hix]
              have HF : Hid (parBad l l[k] = false) := by
                show parBad l l[k] = false
                simp [parBad, hix]
              have HX := Lib.hid hi0
              clear hi0 hix hp
              go_wp2_with fail
              refine (region_c _ _ _ _ _ hn (h.drewN _)).mono ?_
              rintro e w' ⟨rfl, rfl⟩
              rw [HX.out]
              go_wp2
              go_roundg (gk - 1)
              case measure => have := HK.out; omega
              case rel =>
                refine ⟨_, rfl, k + 1, by have := HK.out; omega, by go_num, fun j hj hjk => ?_⟩
                rcases Nat.lt_or_ge j k with h1 | h1
                · exact HP.out j hj h1
                · obtain rfl : j = k := by omega
                  exact HF.out
        · have hP0 : ∀ j (h : j < l.length), parBad l l[j] = false := fun j hj => HP.out j hj (by omega)
          have HP0 := Lib.hid hP0
          clear hP0
          go_wp2
          clear HK HP hk1 hlt
          go_loopg [5] l.length (ChkR3 w l)
          case atStart => exact ⟨_, rfl, 0, by omega, rfl, fun j hj => absurd hj (by omega)⟩
          case round =>
            obtain ⟨n3, hw, i, hk, rfl, hpre⟩ := hrel
            subst hw
            have HK := Lib.hid hk
            have HP := Lib.hid hpre
            have hk1 : i ≤ l.length := by omega
            clear hk hpre
            obtain ⟨g1, hg1⟩ : ∃ g1, g1 = gk := ⟨_, rfl⟩
            subst hg1
            by_cases hlt : i < l.length
            · go_wp2
              go_loopg [6, 7] (l.length + 1) (ChkR4 (w.drewN n3) l i)
              case atStart => exact ⟨rfl, 0, by omega, rfl, i, hlt, rfl, rfl, fun d h1 h2 => absurd h1 (by omega)⟩
              case round =>
                obtain ⟨hw, k, hk, rfl, j, hj, rfl, hup, hno⟩ := hrel
                subst hw
                have HK4 := Lib.hid hk
                have HU := Lib.hid hup
                have HN := Lib.hid hno
                have hk2 : k ≤ l.length + 1 := by omega
                clear hk hup hno
                by_cases hlt2 : k ≤ l.length
                · have hc1 := (HC.out j hj).2
                  by_cases hp : (l[j]).par = emp
                  · have he := isEmpty_of_eq hp
                    have hstop : ∀ d, 0 < d → d ≤ l.length + 1 → upN l d i ≠ some i := fun d h1 h2 => by
                      rcases Nat.lt_or_ge k d with h3 | h3
                      · have : upN l (k + 1) i = none := by rw [upN_add, HU.out]; simp [upN, up_none hj hp]
                        rw [upN_none_mono this h3]; simp
                      · exact HN.out d h1 h3
                    have HS := Lib.hid hstop
                    clear hstop hp
                    go_wp2
                    go_roundg (g1 - 1)
                    case measure => have := HK.out; omega
                    case rel =>
                      refine ⟨_, rfl, i + 1, by have := HK.out; omega, by go_num, fun t ht d h1 h2 => ?_⟩
                      rcases Nat.lt_or_ge t i with h3 | h3
                      · exact HP.out t h3 d h1 h2
                      · obtain rfl : t = i := by omega
                        exact HS.out d h1 h2
                  · have he := isEmpty_of_ne hp
                    obtain ⟨j', hx⟩ := parBad_false HP0.out hj hp
                    obtain ⟨hj', hnm⟩ := idx_some hx
                    have hi0 : idxI l (l[j]).par = (j' : Int) := by unfold idxI; rw [hx]
                    have hup' : upN l (k + 1) i = some j' := by
                      rw [upN_add, HU.out]; simp [upN, up_of hj, hp, hx]
                    have HX := Lib.hid hi0
                    have HU' := Lib.hid hup'
                    clear hi0 hup' hx hnm hp
                    by_cases hji : j' = i
                    · have hji' : ((j' : Int) == (i : Int)) = true := by rw [beq_iff_eq]; omega
                      have hres : res = 14 := by
                        rw [← HR.out, chkR_last H1.out hlen HF0.out HP0.out, if_neg]
                        rw [not_ends_iff]
                        refine twice_of_long hlt (fun hnn => ?_)
                        have e : upN l (k + 1) i = some i := by rw [HU'.out, hji]
                        have h3 := loop_forever e l.length
                        rw [upN_none_mono hnn (by
                          have : l.length * 1 ≤ (k + 1) * l.length := by rw [Nat.mul_comm]; exact Nat.mul_le_mul_right _ (by omega)
                          omega)] at h3
                        cases h3
                      have HS := Lib.hid hres
                      have HJ := Lib.hid hji
                      clear hres hji
                      go_wp2_with fail
                      refine (region_c _ _ _ _ _ hn (h.drewN _)).mono ?_
                      rintro e w' ⟨rfl, rfl⟩
                      rw [HX.out]
                      go_wp2
                      go_ret
                      exact GivesQ.mk (vint HS.out.symm) ⟨_, rfl⟩
                    · have hji' : ((j' : Int) == (i : Int)) = false := by rw [beq_eq_false_iff_ne]; omega
                      have HJ := Lib.hid hji
                      clear hji
                      go_wp2_with fail
                      refine (region_c _ _ _ _ _ hn (h.drewN _)).mono ?_
                      rintro e w' ⟨rfl, rfl⟩
                      rw [HX.out]
                      go_wp2
                      go_roundg (gk - 1)
                      case measure => have := HK4.out; omega
                      case rel =>
                        refine ⟨rfl, k + 1, by have := HK4.out; omega, by go_num, j', hj', rfl, HU'.out, fun d h1 h2 => ?_⟩
                        rcases Nat.lt_or_ge k d with h3 | h3
                        · obtain rfl : d = k + 1 := by omega
                          rw [HU'.out]
                          intro e
                          injection e with e
                          exact HJ.out e
                        · exact HN.out d h1 h3
                · have hke : k = l.length + 1 := by omega
                  have HKE := Lib.hid hke
                  clear hke
                  go_wp2
                  go_roundg (g1 - 1)
                  case measure => have := HK.out; omega
                  case rel =>
                    refine ⟨_, rfl, i + 1, by have := HK.out; omega, by go_num, fun t ht d h1 h2 => ?_⟩
                    rcases Nat.lt_or_ge t i with h3 | h3
                    · exact HP.out t h3 d h1 h2
                    · obtain rfl : t = i := by omega
                      exact HN.out d h1 (by rw [HKE.out]; exact h2)
            · have hres : res = 0 := by
                rw [← HR.out, chkR_last H1.out hlen HF0.out HP0.out, if_pos]
                refine Classical.byContradiction fun hh => ?_
                obtain ⟨t, m, ht, hm, hml, e⟩ := not_ends_iff.1 hh
                exact HP.out t (by omega) m hm (by omega) e
              have HS := Lib.hid hres
              clear hres
              go_wp2
              go_ret
              exact GivesQ.mk (vint HS.out.symm) ⟨_, rfl⟩
end Go.Proofs.YtnjepmbonhmdnaaDoor
