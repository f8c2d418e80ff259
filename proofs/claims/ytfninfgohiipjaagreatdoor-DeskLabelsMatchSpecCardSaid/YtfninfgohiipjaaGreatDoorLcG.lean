/- The reference of chapter 6: checkLinks. -/
import Derived.Test.YtfninfgohiipjaaGreatDoorLcF
namespace Go.Proofs.YtfninfgohiipjaaGreatDoor
open Go.RowKit Dw

theorem tF2_is {T : List Th} {i : Nat} {t : Th} (h : T.getD i default = t) : tF2 T i = if upF T t ≠ 0 then upF T t else if partF T t.parts ≠ 0 then partF T t.parts else if loopT T t = true then 14 else if twT T i = true then 7 else 0 := by
  unfold tF2 lnkF
  rw [h]
  by_cases h1 : upF T t = 0
  · by_cases h2 : partF T t.parts = 0
    · by_cases h3 : loopT T t = true <;> simp [h1, h2, h3]
    · simp [h1, h2]
  · simp [h1]
theorem twR_yes {T : List Th} {i j : Nat} {t : Th} (h : T.getD i default = t) (hi : i < T.length) (hj : j < i) (h1 : (T[j]).kind = t.kind) (h2 : t.code ≠ emp) (h3 : (T[j]).code = t.code) : twT T i = true := by
  unfold twT
  rw [h, List.any_eq_true]
  exact ⟨T[j], List.mem_take_iff_getElem.2 ⟨j, by omega, rfl⟩, by simp [h1, h2, h3]⟩
theorem twR_no {T : List Th} {i : Nat} {t : Th} (h : T.getD i default = t) (hp : ∀ j (hj : j < T.length), j < i → ¬ ((T[j]).kind = t.kind ∧ t.code ≠ emp ∧ (T[j]).code = t.code)) : twT T i = false := by
  unfold twT
  rw [h, List.any_eq_false]
  intro x hx
  obtain ⟨j, hj, rfl⟩ := List.mem_take_iff_getElem.1 hx
  have := hp j (by omega) (by omega)
  simp only [Bool.and_eq_true, decide_eq_true_eq]
  rintro ⟨⟨h1, h2⟩, h3⟩
  exact this ⟨h1, h2, h3⟩
def LkSt (w wr : World) (v1 v2 : Value) (t : Th) : Prop := CB w wr w.heap.size v1 v2 ∧ BoxT wr (w.heap.size + 1) t
section
variable {w wr wr' : World} {v1 v2 : Value} {t : Th}
theorem LkSt.alloc (h : LkSt w wr v1 v2 t) (o : Obj) : LkSt w (wr.alloc o) v1 v2 t := ⟨h.1.alloc o, h.2.alloc o⟩
theorem LkSt.below (h : LkSt w wr v1 v2 t) (hb : Below wr.heap.size wr wr') : LkSt w wr' v1 v2 t := ⟨h.1.below hb, h.2.below hb⟩
theorem LkSt.drewN (h : LkSt w wr v1 v2 t) (n : Nat) : LkSt w (wr.drewN n) v1 v2 t := h.below (below_drewN (Below.refl _ _) n)
end
def LkR1 (w : World) (T : List Th) (t : Th) (v1 v2 : Value) (m : Nat) (i : Value) (wr : World) : Prop :=
  ∃ k : Nat, k + m = t.parts.length ∧ i = .int .i64 k ∧ partF T (t.parts.drop k) = partF T t.parts ∧ LkSt w wr v1 v2 t
def LkR2 (w : World) (T : List Th) (t : Th) (n : Nat) (v1 v2 : Value) (m : Nat) (i : Value) (wr : World) : Prop :=
  ∃ k : Nat, k + m = n ∧ i = .int .i64 k ∧ (∀ j (hj : j < T.length), j < k → ¬ ((T[j]).kind = t.kind ∧ t.code ≠ emp ∧ (T[j]).code = t.code)) ∧ LkSt w wr v1 v2 t

set_option maxRecDepth 100000 in
set_option maxHeartbeats 4000000 in
theorem checkLinksR_c (A1 : Option Addr) (c1 : Nat) (T : List Th) (A2 : Option Addr) (c2 : Nat) (M : List Mv) (i : Nat) (w : World) (hc : CatOk w A1 T A2 M) (hn : T.length ≤ 300) (hp : Pos T) (hi : i < T.length) (hcap : T.length ≤ c1) :
    Calls Tryz.prog 74 #[catV A1 c1 T A2 c2 M, .int .i64 i] w (GivesB (.int .i64 (tF2 T i)) w) := by
  obtain ⟨b, o, rfl, hb, hcc⟩ := hc.ths.at_ (by omega)
  obtain ⟨p0, p1, p2, p3, p4, p5, p6⟩ := hcc i hi
  generalize hres : tF2 T i = res
  have HGD := Lib.hid (getT hi)
  have HMEM : Hid (T[i] ∈ T) := List.getElem_mem hi
  have hsz := hc.sized T[i] HMEM.out
  have hpt := hc.parts T[i] HMEM.out
  generalize T[i] = t at *
  have HR := Lib.hid ((tF2_is HGD.out).symm.trans hres)
  have HPo := Lib.hid hp
  have HCC := Lib.hid hcc
  have HPT := Lib.hid hpt
  have hpl : t.parts.length ≤ 9223372036854775807 := hsz.2.2
  clear hres hp hcc hpt hsz
  have HST : Hid (LkSt w ((w.alloc (.cells #[.slice (some ⟨b, o, none⟩) T.length c1, .slice A2 M.length c2] 25)).alloc (.cells #[.int .i64 t.id, .int .i64 t.kind, .string t.title, .string t.code, .int .i64 t.since, .int .i64 t.parent, .slice t.pA t.parts.length t.pc] 54)) (.slice (some ⟨b, o, none⟩) T.length c1) (.slice A2 M.length c2) t) := by
    refine ⟨(CB.new _ _ _).alloc _, ?_⟩
    have := heap_alloc_new (w.alloc (.cells #[.slice (some ⟨b, o, none⟩) T.length c1, .slice A2 M.length c2] 25)) (.cells #[.int .i64 t.id, .int .i64 t.kind, .string t.title, .string t.code, .int .i64 t.since, .int .i64 t.parent, .slice t.pA t.parts.length t.pc] 54)
    have e1 : (w.alloc (.cells #[.slice (some ⟨b, o, none⟩) T.length c1, .slice A2 M.length c2] 25)).heap.size = w.heap.size + 1 := by simp
    rw [e1] at this
    exact this
  by_cases h0 : t.parent = 0
  case' pos =>
    have hb0 : (t.parent != 0) = false := by simpa using h0
    have HU : Hid (upF T t = 0) := by show upF T t = 0; unfold upF; rw [if_pos h0]
    clear h0
    go_enter Tryz.func74, Tryz.ntmps74
    go_wp2
  case' neg =>
    have hb0 : (t.parent != 0) = true := by simpa using h0
    have HN0 := Lib.hid h0
    clear h0
    go_enter Tryz.func74, Tryz.ntmps74
    go_wp2_with fail
    refine (thing_c (some ⟨b, o, none⟩) c1 T A2 c2 M t.parent _ (hc.below HST.out.1.bel) hn).mono ?_
    rintro e w2 ⟨rfl, hb2⟩
    have HST2 := Lib.hid (HST.out.below hb2)
    clear hb2 HST
    have hw2 : w.heap.size + 1 < w2.heap.size := HST2.out.2.lt
    obtain ⟨y0, y1, y2, y3, y4, y5, y6⟩ := HST2.out.2.cells
    rcases hta : thAt T t.parent with _ | p
    · have HS : Hid (res = 9) := by
        show res = 9
        rw [← HR.out, upF_none HN0.out hta]; rfl
      clear hta
      simp only [thO, Option.map_none, Option.getD_none, Option.isSome_none]
      go_wp2
      go_ret
      exact GivesB.mk (vint HS.out.symm) (HST2.out.alloc _).1.bel
    have HUP := Lib.hid (upF_some HN0.out hta)
    simp only [thO, Option.map_some, Option.getD_some, Option.isSome_some]
    have HST := Lib.hid (HST2.out.alloc (.cells #[.int .i64 p.id, .int .i64 p.kind, .string p.title, .string p.code, .int .i64 p.since, .int .i64 p.parent, .slice p.pA p.parts.length p.pc] 54))
    clear hta HST2
    by_cases h4 : t.kind = 4
    case' pos =>
      have h4b : (t.kind == 4) = true := by simpa using h4
      have h4c : (t.kind != 4) = false := by simpa using h4
      have hu := HUP.out
      rw [if_pos h4] at hu
      clear h4 HUP
      by_cases hpk : p.kind = 3
      case neg =>
        have hpb : (p.kind != 3) = true := by simpa using hpk
        rw [if_pos hpk] at hu
        have HS : Hid (res = 6) := by show res = 6; rw [← HR.out, hu]; rfl
        clear hpk hu
        go_wp2
        go_ret
        exact GivesB.mk (vint HS.out.symm) HST.out.1.bel
      have hpb : (p.kind != 3) = false := by simpa using hpk
      rw [if_neg (by intro h; exact h hpk)] at hu
      have HU := Lib.hid hu
      clear hu hpk
      go_wp2
    case' neg =>
      have h4b : (t.kind == 4) = false := by simpa using h4
      have h4c : (t.kind != 4) = true := by simpa using h4
      have hu := HUP.out
      rw [if_neg h4] at hu
      clear h4 HUP
      by_cases hpk : p.kind = 1
      case neg =>
        have hpb : (p.kind != 1) = true := by simpa using hpk
        rw [if_pos hpk] at hu
        have HS : Hid (res = 6) := by show res = 6; rw [← HR.out, hu]; rfl
        clear hpk hu
        go_wp2
        go_ret
        exact GivesB.mk (vint HS.out.symm) HST.out.1.bel
      have hpb : (p.kind != 1) = false := by simpa using hpk
      rw [if_neg (by intro h; exact h hpk)] at hu
      have HU := Lib.hid hu
      clear hu hpk
      go_wp2
  all_goals
    have hr1 := HR.out
    rw [if_neg (by rw [HU.out]; simp)] at hr1
    have HR1 := Lib.hid hr1
    clear hr1 HU
    go_loopg [52] t.parts.length (LkR1 w T t (.slice (some ⟨b, o, none⟩) T.length c1) (.slice A2 M.length c2))
    case atStart => exact ⟨0, by omega, rfl, rfl, HST.out⟩
    case round =>
      obtain ⟨k, hk, rfl, hpf, hst⟩ := hrel
      obtain ⟨z0, z1, z2, z3, z4, z5, z6⟩ := hst.2.cells
      have b0 := hst.1.c0
      have b1 := hst.1.c1
      have HK := Lib.hid hk
      have HPF := Lib.hid hpf
      have HS2 := Lib.hid hst
      have hk1 : k ≤ t.parts.length := by omega
      have hwr : w.heap.size + 1 < wr.heap.size := hst.2.lt
      clear hk hpf hst HST
      by_cases hlt : k < t.parts.length
      · obtain ⟨b2, o2, hA, hb2, hcc2⟩ := HPT.out.at_ (by omega)
        have hcl : wr.cell? ⟨b2, o2 + k, none⟩ = some (.int .i64 t.parts[k]) := (HS2.out.1.bel.cell hb2).trans (hcc2 k hlt)
        have hidx : ∀ W, (Instr.indexAt 52 (.slice t.pA t.parts.length t.pc) (.int .i64 (k : Int))).run Tryz.prog W = .ok (.pointer (some ⟨b2, o2 + k, none⟩)) W := fun W => by
          rw [hA]
          have hi : (0 : Int) ≤ (k : Int) ∧ (k : Int) < (t.parts.length : Int) := by omega
          simp [go_sem, hi]
        have HDR : Hid (t.parts.drop k = t.parts[k] :: t.parts.drop (k + 1)) := List.drop_eq_getElem_cons hlt
        clear hA hcc2
        generalize t.parts[k] = pk at *
        go_wp2_with fail
        refine (thing_c (some ⟨b, o, none⟩) c1 T A2 c2 M pk _ (hc.below HS2.out.1.bel) hn).mono ?_
        rintro e w3 ⟨rfl, hb3⟩
        have HS3 := Lib.hid (HS2.out.below hb3)
        clear hb3 HS2
        have hw3 : w.heap.size + 1 < w3.heap.size := HS3.out.2.lt
        cases hta : thAt T pk with
        | none =>
          have HS : Hid (res = 9) := by
            show res = 9
            rw [← HR1.out, ← HPF.out, HDR.out, partF_none hta]; rfl
          clear hta
          simp only [thO, Option.map_none, Option.getD_none, Option.isSome_none]
          go_wp2
          go_ret
          exact GivesB.mk (vint HS.out.symm) (HS3.out.alloc _).1.bel
        | some x =>
          by_cases hx2 : x.kind = 2
          · have hxb : (x.kind != 2) = false := by simpa using hx2
            have HPO : Hid (partF T (t.parts.drop (k + 1)) = partF T t.parts) := by
              show partF T (t.parts.drop (k + 1)) = partF T t.parts
              rw [← HPF.out, HDR.out, partF_ok hta hx2]
            clear hta hx2
            simp only [thO, Option.map_some, Option.getD_some, Option.isSome_some]
            go_wp2
            go_roundg (gk - 1)
            case measure => have := HK.out; omega
            case rel => exact ⟨k + 1, by have := HK.out; omega, by go_num, HPO.out, HS3.out.alloc _⟩
          · have hxb : (x.kind != 2) = true := by simpa using hx2
            have HS : Hid (res = 6) := by
              show res = 6
              rw [← HR1.out, ← HPF.out, HDR.out, partF_bad hta hx2]; rfl
            clear hta hx2
            simp only [thO, Option.map_some, Option.getD_some, Option.isSome_some]
            go_wp2
            go_ret
            exact GivesB.mk (vint HS.out.symm) (HS3.out.alloc _).1.bel
      · have hr2 := HR1.out
        rw [← HPF.out, List.drop_of_length_le (by omega), partF] at hr2
        have hr3 : (if loopT T t = true then (14 : Int) else if twT T i = true then 7 else 0) = res := hr2
        have HR2 := Lib.hid hr3
        clear hr2 hr3 HK HPF hk1
        go_wp2_with fail
        refine (comesBack_c (some ⟨b, o, none⟩) c1 T A2 c2 M t _ (hc.below HS2.out.1.bel) hn HPo.out HMEM.out).mono ?_
        rintro e w3 ⟨rfl, hb3⟩
        have HS3 := Lib.hid (HS2.out.below hb3)
        clear hb3 HS2 z0 z1 z2 z3 z4 z5 z6 b0 b1
        have b0 := HS3.out.1.c0
        have hw3 : w.heap.size + 1 < w3.heap.size := HS3.out.2.lt
        cases hlo : loopT T t with
        | true =>
          have HS : Hid (res = 14) := by
            show res = 14
            rw [← HR2.out, if_pos hlo]
          clear hlo
          go_wp2
          go_ret
          exact GivesB.mk (vint HS.out.symm) HS3.out.1.bel
        | false =>
          have hr3 := HR2.out
          rw [if_neg (by rw [hlo]; simp)] at hr3
          have HR3 := Lib.hid hr3
          clear hr3 HR2 hlo hlt
          have hi0 : (0 : Int) ≤ (i : Int) := by omega
          have hi1 : (i : Int) ≤ (c1 : Int) := by omega
          have hi2 : i ≤ c1 := by omega
          obtain ⟨g1, hg1⟩ : ∃ g1, g1 = gk := ⟨_, rfl⟩
          subst hg1
          go_wp2
          go_loopg [76] i (LkR2 w T t i (.slice (some ⟨b, o, none⟩) T.length c1) (.slice A2 M.length c2))
          case atStart => exact ⟨0, by omega, rfl, fun j _ hj => absurd hj (by omega), HS3.out⟩
          case round =>
            obtain ⟨k, hk, rfl, hpre, hst⟩ := hrel
            obtain ⟨z0, z1, z2, z3, z4, z5, z6⟩ := hst.2.cells
            have HK := Lib.hid hk
            have HP := Lib.hid hpre
            have HS4 := Lib.hid hst
            have hk1 : k ≤ i := by omega
            have hwr : w.heap.size + 1 < wr.heap.size := hst.2.lt
            have hbr : b < wr.heap.size := by omega
            clear hk hpre hst HS3 b0 hw3
            by_cases hlt : k < i
            · have hkT : k < T.length := by omega
              obtain ⟨p0, p1, p2, p3, p4, p5, p6⟩ := HCC.out k hkT
              have q0 := (HS4.out.1.bel.cell (p := ⟨b, o + k * 7, none⟩) hb).trans p0
              have q1 := (HS4.out.1.bel.cell (p := ⟨b, o + k * 7 + 1, none⟩) hb).trans p1
              have q2 := (HS4.out.1.bel.cell (p := ⟨b, o + k * 7 + 2, none⟩) hb).trans p2
              have q3 := (HS4.out.1.bel.cell (p := ⟨b, o + k * 7 + 3, none⟩) hb).trans p3
              have q4 := (HS4.out.1.bel.cell (p := ⟨b, o + k * 7 + 4, none⟩) hb).trans p4
              have q5 := (HS4.out.1.bel.cell (p := ⟨b, o + k * 7 + 5, none⟩) hb).trans p5
              have q6 := (HS4.out.1.bel.cell (p := ⟨b, o + k * 7 + 6, none⟩) hb).trans p6
              have HYES : Hid ((T[k]).kind = t.kind → t.code ≠ emp → (T[k]).code = t.code → res = 7) := fun a1 a2 a3 => by rw [← HR3.out, if_pos (twR_yes HGD.out hi hlt a1 a2 a3)]
              have HNO : Hid (¬ ((T[k]).kind = t.kind ∧ t.code ≠ emp ∧ (T[k]).code = t.code) → ∀ j (hj : j < T.length), j < k + 1 → ¬ ((T[j]).kind = t.kind ∧ t.code ≠ emp ∧ (T[j]).code = t.code)) := fun hx j hj hjk => by
                rcases Nat.lt_or_ge j k with h1 | h1
                · exact HP.out j hj h1
                · obtain rfl : j = k := by omega
                  exact hx
              clear p0 p1 p2 p3 p4 p5 p6
              generalize T[k] = x at *
              by_cases e1 : x.kind = t.kind
              case neg =>
                have e1b : (x.kind == t.kind) = false := by simpa using e1
                have HN := Lib.hid (HNO.out fun h => e1 h.1)
                clear e1
                go_wp2
                go_roundg (gk - 1)
                case measure => have := HK.out; omega
                case rel => exact ⟨k + 1, by have := HK.out; omega, by go_num, HN.out, HS4.out.alloc _⟩
              have e1b : (x.kind == t.kind) = true := by simpa using e1
              have HE1 := Lib.hid e1
              clear e1
              by_cases e2 : t.code = emp
              case pos =>
                have he := isEmpty_of_eq e2
                have HN := Lib.hid (HNO.out fun h => h.2.1 e2)
                clear e2
                go_wp2
                go_roundg (gk - 1)
                case measure => have := HK.out; omega
                case rel => exact ⟨k + 1, by have := HK.out; omega, by go_num, HN.out, HS4.out.alloc _⟩
              have he := isEmpty_of_ne e2
              by_cases e3 : x.code = t.code
              · have e3b := beq_of_eq e3
                have HS := Lib.hid (HYES.out HE1.out e2 e3)
                clear e2 e3
                go_wp2
                go_ret
                exact GivesB.mk (vint HS.out.symm) (HS4.out.alloc _).1.bel
              · have e3b := beq_of_ne e3
                have HN := Lib.hid (HNO.out fun h => e3 h.2.2)
                clear e2 e3
                go_wp2
                go_roundg (gk - 1)
                case measure => have := HK.out; omega
                case rel => exact ⟨k + 1, by have := HK.out; omega, by go_num, HN.out, HS4.out.alloc _⟩
            · have HS : Hid (res = 0) := by
                show res = 0
                rw [← HR3.out, if_neg (by rw [twR_no HGD.out fun j hj hji => HP.out j hj (by omega)]; simp)]
              go_wp2
              go_ret
              exact GivesB.mk (vint HS.out.symm) HS4.out.1.bel
end Go.Proofs.YtfninfgohiipjaaGreatDoor
