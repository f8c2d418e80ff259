/- Walks over package right (places): CheckRegions. -/
import Derived.Test.YtnjepmbonhmdnaaDoorRefD
import Derived.Test.YtnjepmbonhmdnaaDoorPgA
import Derived.Test.YtnjepmbonhmdnaaDoorMaps
namespace Go.Proofs.YtnjepmbonhmdnaaDoor
open Go.RowKit Dw

/-- The map from names to places, the first k regions entered. -/
def mp (l : List Rg) : Nat → ByteArray → Option Value
  | 0, _ => none
  | k + 1, s => if s = nmAt l k then some (.int .i64 (k : Int)) else mp l k s
theorem mp_none {l : List Rg} {s : ByteArray} : ∀ {k : Nat}, k ≤ l.length → (∀ j (h : j < l.length), j < k → (l[j]).nm ≠ s) → mp l k s = none
  | 0, _, _ => rfl
  | k + 1, hk, h => by
    rw [mp, if_neg, mp_none (by omega) (fun j hj hjk => h j hj (by omega))]
    rw [nmAt_of (by omega)]
    exact fun e => h k (by omega) (by omega) e.symm
theorem mp_some {l : List Rg} (hi : Inc l) {x : Nat} (hx : x < l.length) : ∀ {k : Nat}, x < k → k ≤ l.length → mp l k (l[x]).nm = some (.int .i64 (x : Int))
  | 0, h, _ => by omega
  | k + 1, h, hk => by
    rw [mp]
    by_cases e : x = k
    · subst e; rw [if_pos (nmAt_of hx).symm]
    · rw [if_neg, mp_some hi hx (by omega) (by omega)]
      rw [nmAt_of (by omega)]
      exact fun e' => e (hi.inj hx (by omega) e')
theorem mp_idx {l : List Rg} (hi : Inc l) (s : ByteArray) : mp l l.length s = (idx l s).map fun x => .int .i64 (x : Int) := by
  cases h : idx l s with
  | none => exact mp_none (Nat.le_refl _) fun j hj _ => idx_none h hj
  | some x =>
    obtain ⟨hx, rfl⟩ := idx_some h
    exact mp_some hi hx hx (Nat.le_refl _)

theorem kStr : KeyT Tryd.prog 9 Value.string := keyT_string Tryd.underlying9
theorem tMap : Tryd.prog.underlying 41 = some (.map 9 3) := Tryd.underlying41
theorem zInt (w : World) : (zeroValue 3).run Tryd.prog w = .ok (.int .i64 0) w := by kernel_rfl

def ChkP1 (w : World) (l : List Rg) (m : Nat) (i : Value) (wr : World) : Prop :=
  ∃ k : Nat, k + m = l.length ∧ i = .int .i64 k ∧ (∀ j, j < k → rgFault l j = none) ∧ MapIs Value.string wr w.heap.size (mp l k) ∧ Below w.heap.size w wr
def ChkP2 (w : World) (l : List Rg) (m : Nat) (i : Value) (wr : World) : Prop :=
  ∃ k : Nat, k + m = l.length ∧ i = .int .i64 k ∧ (∀ j (h : j < l.length), j < k → parBad l l[j] = false) ∧ MapIs Value.string wr w.heap.size (mp l l.length) ∧ Below w.heap.size w wr

def ChkP3 (w : World) (l : List Rg) (m : Nat) (i : Value) (wr : World) : Prop :=
  ∃ k : Nat, k + m = l.length ∧ i = .int .i64 k ∧ (∀ j, j < k → upN l (l.length + 2) j = none) ∧ MapIs Value.string wr w.heap.size (mp l l.length) ∧ Below w.heap.size w wr
def ChkP4 (w : World) (l : List Rg) (i R : Nat) (m : Nat) (n : Value) (wr : World) : Prop :=
  ∃ k : Nat, k + m = l.length + 1 ∧ n = .int .i64 k ∧ ∃ j, ∃ hj : j < l.length, upN l k i = some j ∧ wr.heap[R]? = some (.cells #[.string (l[j]).nm, .string (l[j]).par] 54 (0, 0)) ∧
    MapIs Value.string wr w.heap.size (mp l l.length) ∧ Below w.heap.size w wr

/-- A variable of two cells that lies behind a call. -/
theorem box2 {wr w2 : World} {v0 v1 : Value} {t : TypeId} (hb : Below (wr.alloc (.cells #[v0, v1] t)).heap.size (wr.alloc (.cells #[v0, v1] t)) w2) :
    w2.heap[wr.heap.size]? = some (.cells #[v0, v1] t (0, 0)) := by
  rw [hb.block _ (by simp)]
  exact heap_alloc_new _ _
theorem box2_0 {w : World} {g : Nat} {v0 v1 : Value} {t : TypeId} (h : w.heap[g]? = some (.cells #[v0, v1] t (0, 0))) : w.cell? ⟨g, 0, none⟩ = some v0 := by
  rw [cell_of_row w g 0 _ t (0, 0) h]; rfl
theorem box2_1 {w : World} {g : Nat} {v0 v1 : Value} {t : TypeId} (h : w.heap[g]? = some (.cells #[v0, v1] t (0, 0))) : w.cell? ⟨g, 1, none⟩ = some v1 := by
  rw [cell_of_row w g 1 _ t (0, 0) h]; rfl
theorem box2_f {w : World} {g : Nat} {v0 v1 : Value} {t : TypeId} (h : w.heap[g]? = some (.cells #[v0, v1] t (0, 0))) (i : Nat) : w.frozen? ⟨g, i, none⟩ = false :=
  frozen_of_row w g i _ t h
theorem box2_set {w : World} {g : Nat} {v0 v1 u0 u1 : Value} {t : TypeId} (h : w.heap[g]? = some (.cells #[v0, v1] t (0, 0))) :
    ((w.setCell ⟨g, 0, none⟩ u0).setCell ⟨g, 1, none⟩ u1).heap[g]? = some (.cells #[u0, u1] t (0, 0)) := by
  have h1 := heap_setCell_same w g 0 _ t u0 h
  exact heap_setCell_same _ g 1 _ t u1 h1
theorem below_map {B r : Nat} {a w w' : World} (h : Below B a w) (hg : w.grownBy w' (some r)) (hr : B ≤ r) (hB : B ≤ w.heap.size) : Below B a w' :=
  h.grown hg hB fun k hk => by injection hk with hk; omega

set_option maxHeartbeats 1000000 in
theorem CheckRegions_c (A : Option Addr) (c : Nat) (l : List Rg) (w : World) (h : Rgs w A l) (hz : ∀ i (h : i < l.length), (l[i]).nm.size ≤ 9223372036854775807) :
    Calls Tryd.prog 8 #[.slice A l.length c] w (GivesB (.int .i64 (chkR l)) w) := by
  generalize hres : chkR l = res
  have HR := Lib.hid hres
  clear hres
  by_cases h1 : l = []
  · subst h1
    go_enter Tryd.func8, Tryd.ntmps8
    go_wp2
    go_ret
    refine GivesB.mk (vint ?_) (Below.refl _ _)
    rw [← HR.out]; rfl
  have h1' : 0 < l.length := List.length_pos_iff.2 h1
  have hl0 : ((l.length : Int) == 0) = false := by rw [beq_eq_false_iff_ne]; omega
  by_cases hlen : 200 < l.length
  · go_enter Tryd.func8, Tryd.ntmps8
    go_wp2
    go_ret
    refine GivesB.mk (vint ?_) (Below.refl _ _)
    rw [← HR.out]; unfold chkR; rw [if_neg h1, if_pos hlen]
  have hn : l.length ≤ 200 := by omega
  obtain ⟨b, o, rfl, hb, hc⟩ := h.at_ h1'
  have HC := Lib.hid hc
  have HZ := Lib.hid hz
  have H1 := Lib.hid h1
  clear hc hz h1
  have hmm := @run_makeMap Tryd.prog
  go_enter Tryd.func8, Tryd.ntmps8
  go_wp2
  clear hmm
  go_loopg [22] l.length (ChkP1 w l)
  case atStart => exact ⟨0, by omega, rfl, fun j hj => absurd hj (by omega), MapIs.new _ _, (Below.refl _ _).alloc (Nat.le_refl _) _⟩
  case round =>
    obtain ⟨k, hk, rfl, hpre, hmap, hbel⟩ := hrel
    have HK := Lib.hid hk
    have HP := Lib.hid hpre
    have HM := Lib.hid hmap
    have HB := Lib.hid hbel
    have hk1 : k ≤ l.length := by omega
    have hwr : w.heap.size < wr.heap.size := hmap.lt
    have hbr : b < wr.heap.size := by omega
    clear hk hpre hmap hbel
    by_cases hlt : k < l.length
    · have hc0 : wr.cell? ⟨b, o + k * 2, none⟩ = some (.string (l[k]).nm) := (HB.out.cell hb).trans (HC.out k hlt).1
      have hc1 : wr.cell? ⟨b, o + k * 2 + 1, none⟩ = some (.string (l[k]).par) := (HB.out.cell hb).trans (HC.out k hlt).2
      have hr0 := nmAt_of hlt
      have hzk := HZ.out k hlt
      have hcp : 0 < k → wr.cell? ⟨b, o + (k - 1) * 2, none⟩ = some (.string (nmAt l (k - 1))) := fun hk0 => by
        rw [nmAt_of (by omega)]; exact (HB.out.cell hb).trans (HC.out (k - 1) (by omega)).1
      go_wp2_with fail
      refine (isName_c _ _ hzk).mono ?_
      rintro e w2 ⟨rfl, hb2⟩
      have hR := box2 hb2
      have hR0 := box2_0 hR
      have hmap2 := (HM.out.alloc _).below hb2
      have hbel2 : Below w.heap.size w w2 := (HB.out.alloc (by omega) _).trans (hb2.mono (by simp; omega))
      have hcp2 : 0 < k → w2.cell? ⟨b, o + (k - 1) * 2, none⟩ = some (.string (nmAt l (k - 1))) := fun hk0 => by
        rw [← hcp hk0]
        exact (hb2.cell (by simp; omega)).trans (World.cell?_alloc_lt _ _ _ hbr)
      clear hcp hc0 hc1 HM HB hR hb2
      cases hq : isNm (l[k]).nm with
      | false =>
        have hres : res = 5 := by
          rw [← HR.out, chkR_first H1.out hlen hlt HP.out (x := 5) (by unfold rgFault; rw [hr0, if_pos hq])]
        have HS := Lib.hid hres
        have HB2 := Lib.hid hbel2
        clear hres hq hr0 hbel2 hmap2 hcp2
        go_wp2
        go_ret
        exact GivesB.mk (vint HS.out.symm) HB2.out
      | true =>
        by_cases hk0 : 0 < k
        · have hd : decide ((0 : Int) < (k : Int)) = true := by simp; omega
          have hcpk := hcp2 hk0
          clear hcp2
          cases hle : sle (l[k]).nm (nmAt l (k - 1)) with
          | true =>
            have hleb := hle
            unfold sle at hleb
            have hres : res = 8 := by
              rw [← HR.out, chkR_first H1.out hlen hlt HP.out (x := 8) (by unfold rgFault; rw [hr0, if_neg (by rw [hq]; simp), if_pos ⟨hk0, hle⟩])]
            have HS := Lib.hid hres
            have HB2 := Lib.hid hbel2
            clear hres hq hr0 hle hbel2 hmap2
            go_wp2
            go_quiet (fail)
            go_wp2
            go_ret
            exact GivesB.mk (vint HS.out.symm) (below_drewN HB2.out _)
          | false =>
            have hleb := hle
            unfold sle at hleb
            have HF : Hid (rgFault l k = none) := by
              show rgFault l k = none
              unfold rgFault; rw [hr0, if_neg (by rw [hq]; simp), if_neg (by rw [hle]; simp)]
            have HM2 := Lib.hid hmap2
            have HB2 := Lib.hid hbel2
            clear hq hle hmap2 hbel2
            go_wp2
            go_quiet (fail)
            obtain ⟨w3, hrun, hm3, hg3, hs3⟩ := run_update_map tMap kStr (HM2.out.drewN nq) (l[k]).nm (.int .i64 (k : Int))
            have HM3 := Lib.hid hm3
            have HB3 := Lib.hid (below_map (below_drewN HB2.out nq) hg3 (Nat.le_refl _) (by have := HB2.out.size; simpa using this))
            have HR0 := Lib.hid hr0
            clear hm3 hg3 hs3 HM2 HB2 hr0
            go_wp2
            go_roundg (gk - 1)
            case measure => have := HK.out; omega
            case rel =>
              refine ⟨k + 1, by have := HK.out; omega, by go_num, fun j hj => ?_, ?_, HB3.out⟩
              · rcases Nat.lt_or_ge j k with h1 | h1
                · exact HP.out j h1
                · obtain rfl : j = k := by omega
                  exact HF.out
              · have := HM3.out
                rw [← HR0.out] at this
                exact this
        · have hd : decide ((0 : Int) < (k : Int)) = false := by simp; omega
          have HF : Hid (rgFault l k = none) := by
            show rgFault l k = none
            unfold rgFault; rw [hr0, if_neg (by rw [hq]; simp), if_neg (by omega)]
          have HM2 := Lib.hid hmap2
          have HB2 := Lib.hid hbel2
          clear hq hmap2 hbel2 hcp2
          go_wp2
          go_quiet (fail)
          obtain ⟨w3, hrun, hm3, hg3, hs3⟩ := run_update_map tMap kStr (HM2.out.drewN nq) (l[k]).nm (.int .i64 (k : Int))
          have HM3 := Lib.hid hm3
          have HB3 := Lib.hid (below_map (below_drewN HB2.out nq) hg3 (Nat.le_refl _) (by have := HB2.out.size; simpa using this))
          have HR0 := Lib.hid hr0
          clear hm3 hg3 hs3 HM2 HB2 hr0
          go_wp2
          go_roundg (gk - 1)
          case measure => have := HK.out; omega
          case rel =>
            refine ⟨k + 1, by have := HK.out; omega, by go_num, fun j hj => ?_, ?_, HB3.out⟩
            · rcases Nat.lt_or_ge j k with h1 | h1
              · exact HP.out j h1
              · obtain rfl : j = k := by omega
                exact HF.out
            · have := HM3.out
              rw [← HR0.out] at this
              exact this
    · have hF0 : ∀ j, j < l.length → rgFault l j = none := fun j hj => HP.out j (by omega)
      have HF0 := Lib.hid hF0
      have HI := Lib.hid (inc_of_fault hF0).2
      obtain rfl : k = l.length := by omega
      clear hF0 HP HK hk1 hlt
      go_wp2
      go_loopg [51] l.length (ChkP2 w l)
      case atStart => exact ⟨0, by omega, rfl, fun j _ hj => absurd hj (by omega), HM.out, HB.out⟩
      clear HM HB hwr hbr
      case round =>
        obtain ⟨k, hk, rfl, hpre, hmap, hbel⟩ := hrel
        have HK := Lib.hid hk
        have HP := Lib.hid hpre
        have HM := Lib.hid hmap
        have HB := Lib.hid hbel
        have hk1 : k ≤ l.length := by omega
        have hwr : w.heap.size < wr.heap.size := hmap.lt
        have hbr : b < wr.heap.size := by omega
        clear hk hpre hmap hbel
        by_cases hlt : k < l.length
        · have hc0 : wr.cell? ⟨b, o + k * 2, none⟩ = some (.string (l[k]).nm) := (HB.out.cell hb).trans (HC.out k hlt).1
          have hc1 : wr.cell? ⟨b, o + k * 2 + 1, none⟩ = some (.string (l[k]).par) := (HB.out.cell hb).trans (HC.out k hlt).2
          have hlk := run_lookup_map tMap kStr zInt (HM.out.alloc (.cells #[.string (l[k]).nm, .string (l[k]).par] 54)) (l[k]).par true
          have HM2 := Lib.hid (HM.out.alloc (.cells #[.string (l[k]).nm, .string (l[k]).par] 54))
          have HB2 := Lib.hid (HB.out.alloc (Nat.le_of_lt hwr) (.cells #[.string (l[k]).nm, .string (l[k]).par] 54))
          clear HM HB
          by_cases hp : (l[k]).par = emp
          · have he := isEmpty_of_eq hp
            have HF : Hid (parBad l l[k] = false) := by
              show parBad l l[k] = false
              simp [parBad, hp]
            generalize (mp l l.length (l[k]).par).getD (.int .i64 0) = v at hlk
            generalize (mp l l.length (l[k]).par).isSome = bl at hlk
            simp only [if_true] at hlk
            clear hp
            go_wp2
            go_roundg (gk - 1)
            case measure => have := HK.out; omega
            case rel =>
              refine ⟨k + 1, by have := HK.out; omega, by go_num, fun j hj hjk => ?_, HM2.out, HB2.out⟩
              rcases Nat.lt_or_ge j k with h1 | h1
              · exact HP.out j hj h1
              · obtain rfl : j = k := by omega
                exact HF.out
          · have he := isEmpty_of_ne hp
            cases hix : idx l (l[k]).par with
            | none =>
              rw [mp_idx HI.out, hix] at hlk
              simp only [if_true, Option.map_none, Option.getD_none, Option.isSome_none] at hlk
              have hres : res = 5 := by
                rw [← HR.out]
                exact chkR_par H1.out hlen HF0.out hlt (by simp [parBad, hp, hix])
              have HS := Lib.hid hres
              clear hres hix hp
              go_wp2
              go_ret
              exact GivesB.mk (vint HS.out.symm) HB2.out
            | some x =>
              rw [mp_idx HI.out, hix] at hlk
              simp only [if_true, Option.map_some, Option.getD_some, Option.isSome_some] at hlk
              have HF : Hid (parBad l l[k] = false) := by
                show parBad l l[k] = false
                simp [parBad, hix]
              clear hix hp
              go_wp2
              go_roundg (gk - 1)
              case measure => have := HK.out; omega
              case rel =>
                refine ⟨k + 1, by have := HK.out; omega, by go_num, fun j hj hjk => ?_, HM2.out, HB2.out⟩
                rcases Nat.lt_or_ge j k with h1 | h1
                · exact HP.out j hj h1
                · obtain rfl : j = k := by omega
                  exact HF.out
        · have hP0 : ∀ j (h : j < l.length), parBad l l[j] = false := fun j hj => HP.out j hj (by omega)
          have HP0 := Lib.hid hP0
          clear hP0
          go_wp2
          clear HK HP hk1 hlt
          go_loopg [72] l.length (ChkP3 w l)
          case atStart => exact ⟨0, by omega, rfl, fun j hj => absurd hj (by omega), HM.out, HB.out⟩
          clear HM HB hwr hbr
          case round =>
            obtain ⟨i, hk, rfl, hpre, hmap, hbel⟩ := hrel
            have HK := Lib.hid hk
            have HP := Lib.hid hpre
            have HM := Lib.hid hmap
            have HB := Lib.hid hbel
            have hk1 : i ≤ l.length := by omega
            have hwr : w.heap.size < wr.heap.size := hmap.lt
            have hbr : b < wr.heap.size := by omega
            clear hk hpre hmap hbel
            obtain ⟨g1, hg1⟩ : ∃ g1, g1 = gk := ⟨_, rfl⟩
            subst hg1
            obtain ⟨w0, hw0⟩ : ∃ w0 : World, w0 = wr := ⟨_, rfl⟩
            subst hw0
            by_cases hlt : i < l.length
            · have hc0 : w0.cell? ⟨b, o + i * 2, none⟩ = some (.string (l[i]).nm) := (HB.out.cell hb).trans (HC.out i hlt).1
              have hc1 : w0.cell? ⟨b, o + i * 2 + 1, none⟩ = some (.string (l[i]).par) := (HB.out.cell hb).trans (HC.out i hlt).2
              have HM2 := Lib.hid (HM.out.alloc (.cells #[.string (l[i]).nm, .string (l[i]).par] 54))
              have HB2 := Lib.hid (HB.out.alloc (Nat.le_of_lt hwr) (.cells #[.string (l[i]).nm, .string (l[i]).par] 54))
              go_wp2
              clear hc0 hc1
              go_loopg [12] (l.length + 1) (ChkP4 w l i w0.heap.size)
              case atStart => exact ⟨0, by omega, rfl, i, hlt, rfl, heap_alloc_new _ _, HM2.out, HB2.out⟩
              clear HM2 HB2
              case round =>
                obtain ⟨k, hk, rfl, j, hj, hup, hRj, hmap, hbel⟩ := hrel
                have HK4 := Lib.hid hk
                have HU := Lib.hid hup
                have hk2 : k ≤ l.length + 1 := by omega
                have hR0 := box2_0 hRj
                have hR1 := box2_1 hRj
                have hf0 := box2_f hRj 0
                have hf1 := box2_f hRj 1
                have HRJ := Lib.hid hRj
                have HM4 := Lib.hid hmap
                have HB4 := Lib.hid hbel
                have hwi : w.heap.size < wr.heap.size := hmap.lt
                clear hk hup hRj hmap hbel
                by_cases hp : (l[j]).par = emp
                · have he := isEmpty_of_eq hp
                  have hend : upN l (l.length + 2) i = none := by
                    have : upN l (k + 1) i = none := by rw [upN_add, HU.out]; simp [upN, up_none hj hp]
                    exact upN_none_mono this (by omega)
                  have HE := Lib.hid hend
                  clear hend hp
                  go_wp2
                  go_roundg (g1 - 1)
                  case measure => have := HK.out; omega
                  case rel =>
                    refine ⟨i + 1, by have := HK.out; omega, by go_num, fun t ht => ?_, HM4.out, HB4.out⟩
                    rcases Nat.lt_or_ge t i with h3 | h3
                    · exact HP.out t h3
                    · obtain rfl : t = i := by omega
                      exact HE.out
                · have he := isEmpty_of_ne hp
                  obtain ⟨j', hx⟩ := parBad_false HP0.out hj hp
                  obtain ⟨hj', hnm⟩ := idx_some hx
                  have hup' : upN l (k + 1) i = some j' := by
                    rw [upN_add, HU.out]; simp [upN, up_of hj, hp, hx]
                  have HU' := Lib.hid hup'
                  by_cases hbig : l.length < k
                  · have hres : res = 14 := by
                      rw [← HR.out, chkR_last H1.out hlen HF0.out HP0.out, if_neg]
                      intro hE
                      have h2 := hE i hlt
                      rw [show l.length + 2 = k + 1 from by omega, HU'.out] at h2
                      cases h2
                    have HS := Lib.hid hres
                    clear hres hup' hx hnm hp
                    go_wp2
                    go_ret
                    exact GivesB.mk (vint HS.out.symm) HB4.out
                  · have hlk := run_lookup_map tMap kStr zInt HM4.out (l[j]).par false
                    rw [mp_idx HI.out, hx] at hlk
                    simp only [Bool.false_eq_true, if_false, Option.map_some, Option.getD_some] at hlk
                    have hc0 : wr.cell? ⟨b, o + j' * 2, none⟩ = some (.string (l[j']).nm) := (HB4.out.cell hb).trans (HC.out j' hj').1
                    have hc1 : wr.cell? ⟨b, o + j' * 2 + 1, none⟩ = some (.string (l[j']).par) := (HB4.out.cell hb).trans (HC.out j' hj').2
                    clear hup' hx hnm hp
                    go_wp2
                    go_roundg (gk - 1)
                    case measure => have := HK4.out; omega
                    case rel =>
                      refine ⟨k + 1, by have := HK4.out; omega, by go_num, j', hj', HU'.out, box2_set HRJ.out, ?_, ?_⟩
                      · exact (HM4.out.setCell (a := ⟨w0.heap.size, 0, none⟩) (by show w.heap.size ≠ w0.heap.size; omega) _).setCell (a := ⟨w0.heap.size, 1, none⟩) (by show w.heap.size ≠ w0.heap.size; omega) _
                      · exact (HB4.out.setCell (p := ⟨w0.heap.size, 0, none⟩) (by show w.heap.size ≤ w0.heap.size; omega) _).setCell (p := ⟨w0.heap.size, 1, none⟩) (by show w.heap.size ≤ w0.heap.size; omega) _
            · have hres : res = 0 := by
                rw [← HR.out, chkR_last H1.out hlen HF0.out HP0.out, if_pos]
                exact fun t ht => HP.out t (by omega)
              have HS := Lib.hid hres
              clear hres
              go_wp2
              go_ret
              exact GivesB.mk (vint HS.out.symm) HB.out
end Go.Proofs.YtnjepmbonhmdnaaDoor
