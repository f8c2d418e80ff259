/- Package shelf: a thing alone. -/
import Derived.Test.YtfninfgohiipjaaGreatDoorLbW
namespace Go.Proofs.YtfninfgohiipjaaGreatDoor
open Go.RowKit Dw

theorem hasParts_c (k : Int) (w : World) : Calls Tryz.prog 98 #[.int .i64 k] w (Gives (.bool (decide (k = 3) || decide (k = 4))) w) := by
  by_cases h1 : k = 3
  · subst h1
    go_enter Tryz.func98, Tryz.ntmps98
    go_wp2
    go_ret
    exact Gives.mk rfl rfl
  · have h1b : (k == 3) = false := by simpa using h1
    by_cases h2 : k = 4
    · subst h2
      go_enter Tryz.func98, Tryz.ntmps98
      go_wp2
      go_ret
      exact Gives.mk rfl rfl
    · have h2b : (k == 4) = false := by simpa using h2
      have hr : (decide (k = 3) || decide (k = 4)) = false := by simp [h1, h2]
      rw [hr]
      clear h1 h2 hr
      go_enter Tryz.func98, Tryz.ntmps98
      go_wp2
      go_ret
      exact Gives.mk rfl rfl

theorem box7 {w w2 : World} {v : Array Value} {t : TypeId} (hb : Below (w.alloc (.cells v t)).heap.size (w.alloc (.cells v t)) w2) : w2.heap[w.heap.size]? = some (.cells v t (0, 0)) := by
  rw [hb.block _ (by simp)]
  exact heap_alloc_new _ _
theorem boxC {w : World} {g : Nat} {vs : Array Value} {t : TypeId} (h : w.heap[g]? = some (.cells vs t (0, 0))) {i : Nat} {v : Value} (hi : vs[i]? = some v) : w.cell? ⟨g, i, none⟩ = some v := by
  rw [cell_of_row w g i _ t (0, 0) h]; exact hi
/-- A thing in a variable. -/
def BoxT (w : World) (g : Nat) (t : Th) : Prop := w.heap[g]? = some (.cells #[.int .i64 t.id, .int .i64 t.kind, .string t.title, .string t.code, .int .i64 t.since, .int .i64 t.parent, .slice t.pA t.parts.length t.pc] 54 (0, 0))
theorem BoxT.below {w w' : World} {g : Nat} {t : Th} (h : BoxT w g t) (hb : Below w.heap.size w w') : BoxT w' g t := (hb.block g (Array.getElem?_eq_some_iff.1 h).1).trans h
theorem BoxT.lt {w : World} {g : Nat} {t : Th} (h : BoxT w g t) : g < w.heap.size := (Array.getElem?_eq_some_iff.1 h).1
theorem BoxT.cells {w : World} {g : Nat} {t : Th} (h : BoxT w g t) : w.cell? ⟨g, 0, none⟩ = some (.int .i64 t.id) ∧ w.cell? ⟨g, 1, none⟩ = some (.int .i64 t.kind) ∧ w.cell? ⟨g, 2, none⟩ = some (.string t.title) ∧ w.cell? ⟨g, 3, none⟩ = some (.string t.code) ∧
    w.cell? ⟨g, 4, none⟩ = some (.int .i64 t.since) ∧ w.cell? ⟨g, 5, none⟩ = some (.int .i64 t.parent) ∧ w.cell? ⟨g, 6, none⟩ = some (.slice t.pA t.parts.length t.pc) :=
  ⟨boxC h rfl, boxC h rfl, boxC h rfl, boxC h rfl, boxC h rfl, boxC h rfl, boxC h rfl⟩

set_option maxHeartbeats 2000000 in
theorem checkThing_c (t : Th) (w : World) (hz1 : t.title.size ≤ 9223372036854775807) (hz2 : t.code.size ≤ 9223372036854775807) (hG : GOK w) :
    Calls Tryz.prog 67 #[thV t] w (GivesB (.int .i64 (thF twoB t)) w) := by
  generalize hres : thF twoB t = res
  have HR := Lib.hid hres
  clear hres
  unfold thF at HR
  go_enter Tryz.func67, Tryz.ntmps67
  go_wp2_with fail
  refine (isKind_c t.kind _).mono ?_
  rintro e w' ⟨rfl, rfl⟩
  by_cases hk : t.kind < 1 ∨ 4 < t.kind
  · have hkb : (decide (1 ≤ t.kind) && decide (t.kind ≤ 4)) = false := by
      rcases hk with h | h
      · rw [decide_eq_false (by omega)]; rfl
      · rw [decide_eq_false (p := t.kind ≤ 4) (by omega)]; simp
    have HS : Hid (res = 4) := by
      show res = 4
      rw [← HR.out, if_pos hk]
    rw [hkb]
    clear hk hkb
    go_wp2
    go_ret
    exact GivesB.mk (vint HS.out.symm) ((Below.refl _ _).alloc (Nat.le_refl _) _)
  have hkb : (decide (1 ≤ t.kind) && decide (t.kind ≤ 4)) = true := by simp; omega
  rw [hkb]
  have hr1 := HR.out
  rw [if_neg hk] at hr1
  have HR1 := Lib.hid hr1
  have hk1 : 1 ≤ t.kind := by omega
  have hk2 : t.kind ≤ 4 := by omega
  clear hk hkb hr1 HR
  go_wp2_with fail
  refine (isTitle_c t.title _ hz1 (hG.below ((Below.refl _ _).alloc (Nat.le_refl _) _))).mono ?_
  rintro e w' ⟨rfl, rfl⟩
  cases ht : titleB (twoB t.title) t.title with
  | false =>
    have HS : Hid (res = 3) := by
      show res = 3
      rw [← HR1.out, if_pos ht]
    clear ht
    go_wp2
    go_ret
    exact GivesB.mk (vint HS.out.symm) ((Below.refl _ _).alloc (Nat.le_refl _) _)
  | true =>
    have hr2 := HR1.out
    rw [if_neg (by rw [ht]; simp)] at hr2
    have HR2 := Lib.hid hr2
    clear ht hr2 HR1
    have HBX : Hid (BoxT (w.alloc (.cells #[.int .i64 t.id, .int .i64 t.kind, .string t.title, .string t.code, .int .i64 t.since, .int .i64 t.parent, .slice t.pA t.parts.length t.pc] 54)) w.heap.size t) := heap_alloc_new _ _
    have HBB : Hid (Below w.heap.size w (w.alloc (.cells #[.int .i64 t.id, .int .i64 t.kind, .string t.title, .string t.code, .int .i64 t.since, .int .i64 t.parent, .slice t.pA t.parts.length t.pc] 54))) := (Below.refl _ _).alloc (Nat.le_refl _) _
    by_cases hc : t.code = emp
    case' pos =>
      have he := isEmpty_of_eq hc
      have hr3 := HR2.out
      rw [if_neg (by intro h; exact h.1 hc)] at hr3
      have HR3 := Lib.hid hr3
      clear hr3 HR2 hc
    case' neg =>
      have he := isEmpty_of_ne hc
      go_wp2_with fail
      refine (CheckCode_c t.kind t.code _ hz2).mono ?_
      rintro e w2 ⟨rfl, hb2⟩
      have hbx2 : BoxT w2 w.heap.size t := HBX.out.below hb2
      have HB2 := Lib.hid (HBB.out.trans (hb2.mono HBB.out.size))
      obtain ⟨q0, q1, q2, q3, q4, q5, q6⟩ := hbx2.cells
      clear hb2 hbx2 HBB
      have HBB := HB2
      clear HB2
      by_cases hf : codeF t.kind t.code.data.toList = 0
      case neg =>
        have hfb : (codeF t.kind t.code.data.toList != 0) = true := by simpa using hf
        have HS : Hid (res = codeF t.kind t.code.data.toList) := by
          show res = _
          rw [← HR2.out, if_pos ⟨hc, hf⟩]
        clear hf hc HR2
        generalize codeF t.kind t.code.data.toList = cf at *
        go_wp2
        go_ret
        exact GivesB.mk (vint HS.out.symm) HBB.out
      have hr3 := HR2.out
      rw [if_neg (by intro h; exact h.2 hf)] at hr3
      have HR3 := Lib.hid hr3
      rw [hf]
      clear hr3 HR2 hc hf
    all_goals
      by_cases hs1 : t.since < 0
      · have hd : decide (t.since < 0) = true := by simpa using hs1
        go_wp2_with (go_at_call 98; refine (hasParts_c _ _).mono ?_; rintro e w' ⟨rfl, rfl⟩)
        go_ret
        refine GivesB.mk (vint ?_) HBB.out
        rw [← HR3.out, if_pos (.inl (by omega))]
      · have hd : decide (t.since < 0) = false := by simpa using hs1
        by_cases hs2 : 200000 < t.since
        · have hd2 : decide (200000 < t.since) = true := by simpa using hs2
          go_wp2_with (go_at_call 98; refine (hasParts_c _ _).mono ?_; rintro e w' ⟨rfl, rfl⟩)
          go_ret
          refine GivesB.mk (vint ?_) HBB.out
          rw [← HR3.out, if_pos (.inr (by omega))]
        · have hd2 : decide (200000 < t.since) = false := by simpa using hs2
          have HNS : Hid (¬ (t.since < 0 ∨ 200000 < t.since)) := by show ¬ (t.since < 0 ∨ 200000 < t.since); omega
          by_cases hk3 : t.kind = 3
          · have b3 : (t.kind == 3) = true := by simpa using hk3
            have b4 : (t.kind == 4) = false := by rw [beq_eq_false_iff_ne]; omega
            have hpb : (decide (t.kind = 3) || decide (t.kind = 4)) = true := by simp [hk3]
            by_cases hp : t.parent = 0
            · have hpn : (t.parent != 0) = false := by simpa using hp
              have HF : Hid (¬ ((t.kind = 3 ∧ t.parent ≠ 0) ∨ (t.kind = 4 ∧ t.parent = 0) ∨ (t.kind ≤ 2 ∧ 0 < t.parts.length))) := by
                show ¬ _
                omega
              clear hk3 hp
              by_cases hl : 50 < t.parts.length
              · go_wp2_with fail
                refine (hasParts_c _ _).mono ?_
                rintro e w' ⟨rfl, rfl⟩
                rw [hpb]
                go_wp2
                go_ret
                refine GivesB.mk (vint ?_) HBB.out
                rw [← HR3.out, if_neg HNS.out, if_neg HF.out, if_pos hl]
              · go_wp2_with fail
                refine (hasParts_c _ _).mono ?_
                rintro e w' ⟨rfl, rfl⟩
                rw [hpb]
                go_wp2
                go_ret
                refine GivesB.mk (vint ?_) HBB.out
                rw [← HR3.out, if_neg HNS.out, if_neg HF.out, if_neg hl]
            · have hpn : (t.parent != 0) = true := by simpa using hp
              have HF : Hid ((t.kind = 3 ∧ t.parent ≠ 0) ∨ (t.kind = 4 ∧ t.parent = 0) ∨ (t.kind ≤ 2 ∧ 0 < t.parts.length)) := .inl ⟨hk3, hp⟩
              clear hk3 hp
              go_wp2_with fail
              go_ret
              refine GivesB.mk (vint ?_) HBB.out
              rw [← HR3.out, if_neg HNS.out, if_pos HF.out]
          · have b3 : (t.kind == 3) = false := by simpa using hk3
            by_cases hk4 : t.kind = 4
            · have b4 : (t.kind == 4) = true := by simpa using hk4
              have hpb : (decide (t.kind = 3) || decide (t.kind = 4)) = true := by simp [hk4]
              by_cases hp : t.parent = 0
              · have hpe : (t.parent == 0) = true := by simpa using hp
                have HF : Hid ((t.kind = 3 ∧ t.parent ≠ 0) ∨ (t.kind = 4 ∧ t.parent = 0) ∨ (t.kind ≤ 2 ∧ 0 < t.parts.length)) := .inr (.inl ⟨hk4, hp⟩)
                clear hk3 hk4 hp
                go_wp2_with fail
                go_ret
                refine GivesB.mk (vint ?_) HBB.out
                rw [← HR3.out, if_neg HNS.out, if_pos HF.out]
              · have hpe : (t.parent == 0) = false := by simpa using hp
                have HF : Hid (¬ ((t.kind = 3 ∧ t.parent ≠ 0) ∨ (t.kind = 4 ∧ t.parent = 0) ∨ (t.kind ≤ 2 ∧ 0 < t.parts.length))) := by
                  show ¬ _
                  omega
                clear hk3 hk4 hp
                by_cases hl : 50 < t.parts.length
                · go_wp2_with fail
                  refine (hasParts_c _ _).mono ?_
                  rintro e w' ⟨rfl, rfl⟩
                  rw [hpb]
                  go_wp2
                  go_ret
                  refine GivesB.mk (vint ?_) HBB.out
                  rw [← HR3.out, if_neg HNS.out, if_neg HF.out, if_pos hl]
                · go_wp2_with fail
                  refine (hasParts_c _ _).mono ?_
                  rintro e w' ⟨rfl, rfl⟩
                  rw [hpb]
                  go_wp2
                  go_ret
                  refine GivesB.mk (vint ?_) HBB.out
                  rw [← HR3.out, if_neg HNS.out, if_neg HF.out, if_neg hl]
            · have b4 : (t.kind == 4) = false := by simpa using hk4
              have hpb : (decide (t.kind = 3) || decide (t.kind = 4)) = false := by simp [hk3, hk4]
              by_cases hl0 : 0 < t.parts.length
              · have hl0b : decide ((0 : Int) < (t.parts.length : Int)) = true := by simp; omega
                have HF : Hid ((t.kind = 3 ∧ t.parent ≠ 0) ∨ (t.kind = 4 ∧ t.parent = 0) ∨ (t.kind ≤ 2 ∧ 0 < t.parts.length)) := .inr (.inr ⟨by omega, hl0⟩)
                clear hk3 hk4
                go_wp2_with fail
                refine (hasParts_c _ _).mono ?_
                rintro e w' ⟨rfl, rfl⟩
                rw [hpb]
                go_wp2
                go_ret
                refine GivesB.mk (vint ?_) HBB.out
                rw [← HR3.out, if_neg HNS.out, if_pos HF.out]
              · have hl0b : decide ((0 : Int) < (t.parts.length : Int)) = false := by rw [decide_eq_false_iff_not]; omega
                have HF : Hid (¬ ((t.kind = 3 ∧ t.parent ≠ 0) ∨ (t.kind = 4 ∧ t.parent = 0) ∨ (t.kind ≤ 2 ∧ 0 < t.parts.length))) := by
                  show ¬ _
                  omega
                have hl : ¬ 50 < t.parts.length := by omega
                clear hk3 hk4
                go_wp2_with fail
                refine (hasParts_c _ _).mono ?_
                rintro e w' ⟨rfl, rfl⟩
                rw [hpb]
                go_wp2
                go_ret
                refine GivesB.mk (vint ?_) HBB.out
                rw [← HR3.out, if_neg HNS.out, if_neg HF.out, if_neg hl]
end Go.Proofs.YtfninfgohiipjaaGreatDoor
