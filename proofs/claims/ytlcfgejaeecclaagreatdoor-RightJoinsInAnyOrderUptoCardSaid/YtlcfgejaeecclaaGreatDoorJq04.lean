/- Walks over package right (places): CheckRegions. A region that draws its order: an invariant that each operation hands on, whatever was done before it. -/
import Derived.Test.YtlcfgejaeecclaaGreatDoorJq02
import Derived.Test.YtlcfgejaeecclaaGreatDoorJq03
import Derived.Orders
import Derived.RegionTactic
namespace Go.Proofs.YtlcfgejaeecclaaGreatDoor
open Go.RowKit Dw

/-- The map from names to places, the first k regions entered. -/
def mp (l : List Rg) : Nat → ByteArray → Option Value
  | 0, _ => none
  | k + 1, s => if s = nmAt l k then some (.int .i64 (k : Int)) else mp l k s
theorem mp_none {l : List Rg} {s : ByteArray} : ∀ {k : Nat}, k ≤ l.length → (∀ j (h : j < l.length), j < k → (l[j]).nm ≠ s) → mp l k s = none
  | 0, _, _ => rfl
  | k + 1, hk, h => by
    rw [mp, if_neg, mp_none (by omega) (fun j hj hjk => h j hj (by omega))]
    rw [nmAt_of (by omega)]
    exact fun e => h k (by omega) (by omega) e.symm
theorem mp_some {l : List Rg} (hi : Inc l) {x : Nat} (hx : x < l.length) : ∀ {k : Nat}, x < k → k ≤ l.length → mp l k (l[x]).nm = some (.int .i64 (x : Int))
  | 0, h, _ => by omega
  | k + 1, h, hk => by
    rw [mp]
    by_cases e : x = k
    · subst e; rw [if_pos (nmAt_of hx).symm]
    · rw [if_neg, mp_some hi hx (by omega) (by omega)]
      rw [nmAt_of (by omega)]
      exact fun e' => e (hi.inj hx (by omega) e')
theorem mp_idx {l : List Rg} (hi : Inc l) (s : ByteArray) : mp l l.length s = (idx l s).map fun x => .int .i64 (x : Int) := by
  cases h : idx l s with
  | none => exact mp_none (Nat.le_refl _) fun j hj _ => idx_none h hj
  | some x =>
    obtain ⟨hx, rfl⟩ := idx_some h
    exact mp_some hi hx hx (Nat.le_refl _)

theorem kStr : KeyT Tryz.prog 9 Value.string := keyT_string Tryz.underlying9
theorem tMap : Tryz.prog.underlying 72 = some (.map 9 3) := Tryz.underlying72
theorem zInt (w : World) : (zeroValue 3).run Tryz.prog w = .ok (.int .i64 0) w := by kernel_rfl

def ChkP1 (w : World) (l : List Rg) (m : Nat) (i : Value) (wr : World) : Prop :=
  ∃ k : Nat, k + m = l.length ∧ i = .int .i64 k ∧ (∀ j, j < k → rgFault l j = none) ∧ MapIs Value.string wr w.heap.size (mp l k) ∧ Below w.heap.size w wr
def ChkP2 (w : World) (l : List Rg) (m : Nat) (i : Value) (wr : World) : Prop :=
  ∃ k : Nat, k + m = l.length ∧ i = .int .i64 k ∧ (∀ j (h : j < l.length), j < k → parBad l l[j] = false) ∧ MapIs Value.string wr w.heap.size (mp l l.length) ∧ Below w.heap.size w wr

def ChkP3 (w : World) (l : List Rg) (m : Nat) (i : Value) (wr : World) : Prop :=
  ∃ k : Nat, k + m = l.length ∧ i = .int .i64 k ∧ (∀ j, j < k → upN l (l.length + 2) j = none) ∧ MapIs Value.string wr w.heap.size (mp l l.length) ∧ Below w.heap.size w wr
def ChkP4 (w : World) (l : List Rg) (i R : Nat) (m : Nat) (n : Value) (wr : World) : Prop :=
  ∃ k : Nat, k + m = l.length + 1 ∧ n = .int .i64 k ∧ ∃ j, ∃ hj : j < l.length, upN l k i = some j ∧ wr.heap[R]? = some (.cells #[.string (l[j]).nm, .string (l[j]).par] 43 (0, 0)) ∧
    MapIs Value.string wr w.heap.size (mp l l.length) ∧ Below w.heap.size w wr

/-- A variable of two cells that lies behind a call. -/
theorem box2 {wr w2 : World} {v0 v1 : Value} {t : TypeId} (hb : Below (wr.alloc (.cells #[v0, v1] t)).heap.size (wr.alloc (.cells #[v0, v1] t)) w2) :
    w2.heap[wr.heap.size]? = some (.cells #[v0, v1] t (0, 0)) := by
  rw [hb.block _ (by simp)]
  exact heap_alloc_new _ _
theorem box2_0 {w : World} {g : Nat} {v0 v1 : Value} {t : TypeId} (h : w.heap[g]? = some (.cells #[v0, v1] t (0, 0))) : w.cell? ⟨g, 0, none⟩ = some v0 := by
  rw [cell_of_row w g 0 _ t (0, 0) h]; rfl
theorem box2_1 {w : World} {g : Nat} {v0 v1 : Value} {t : TypeId} (h : w.heap[g]? = some (.cells #[v0, v1] t (0, 0))) : w.cell? ⟨g, 1, none⟩ = some v1 := by
  rw [cell_of_row w g 1 _ t (0, 0) h]; rfl
theorem box2_f {w : World} {g : Nat} {v0 v1 : Value} {t : TypeId} (h : w.heap[g]? = some (.cells #[v0, v1] t (0, 0))) (i : Nat) : w.frozen? ⟨g, i, none⟩ = false :=
  frozen_of_row w g i _ t h
theorem box2_set {w : World} {g : Nat} {v0 v1 u0 u1 : Value} {t : TypeId} (h : w.heap[g]? = some (.cells #[v0, v1] t (0, 0))) :
    ((w.setCell ⟨g, 0, none⟩ u0).setCell ⟨g, 1, none⟩ u1).heap[g]? = some (.cells #[u0, u1] t (0, 0)) := by
  have h1 := heap_setCell_same w g 0 _ t u0 h
  exact heap_setCell_same _ g 1 _ t u1 h1
theorem below_map {B r : Nat} {a w w' : World} (h : Below B a w) (hg : w.grownBy w' (some r)) (hr : B ≤ r) (hB : B ≤ w.heap.size) : Below B a w' :=
  h.grown hg hB fun k hk => by injection hk with hk; omega

set_option maxHeartbeats 1000000 in
theorem CheckRegions_c (A : Option Addr) (c : Nat) (l : List Rg) (w : World) (h : Rgs w A l) (hz : ∀ i (h : i < l.length), (l[i]).nm.size ≤ 9223372036854775807) :
    Calls Tryz.prog 46 #[.slice A l.length c] w (GivesB (.int .i64 (chkR l)) w) := by
  generalize hres : chkR l = res
  have HR := Lib.hid hres
  clear hres
  by_cases h1 : l = []
  · subst h1
    go_enter Tryz.func46, Tryz.ntmps46
    go_wp2
    go_ret
    refine GivesB.mk (vint ?_) (Below.refl _ _)
    rw [← HR.out]; rfl
  have h1' : 0 < l.length := List.length_pos_iff.2 h1
  have hl0 : ((l.length : Int) == 0) = false := by rw [beq_eq_false_iff_ne]; omega
  by_cases hlen : 200 < l.length
  · go_enter Tryz.func46, Tryz.ntmps46
    go_wp2
    go_ret
    refine GivesB.mk (vint ?_) (Below.refl _ _)
    rw [← HR.out]; unfold chkR; rw [if_neg h1, if_pos hlen]
  have hn : l.length ≤ 200 := by omega
  obtain ⟨b, o, rfl, hb, hc⟩ := h.at_ h1'
  have HC := Lib.hid hc
  have HZ := Lib.hid hz
  have H1 := Lib.hid h1
  clear hc hz h1
  have hmm := @run_makeMap Tryz.prog
  go_enter Tryz.func46, Tryz.ntmps46
  go_wp2
  clear hmm
  go_loopg [22] l.length (ChkP1 w l)
  case atStart => exact ⟨0, by omega, rfl, fun j hj => absurd hj (by omega), MapIs.new _ _, (Below.refl _ _).alloc (Nat.le_refl _) _⟩
  case round =>
    obtain ⟨k, hk, rfl, hpre, hmap, hbel⟩ := hrel
    have HK := Lib.hid hk
    have HP := Lib.hid hpre
    have HM := Lib.hid hmap
    have HB := Lib.hid hbel
    have hk1 : k ≤ l.length := by omega
    have hwr : w.heap.size < wr.heap.size := hmap.lt
    have hbr : b < wr.heap.size := by omega
    clear hk hpre hmap hbel
    by_cases hlt : k < l.length
    · have hc0 : wr.cell? ⟨b, o + k * 2, none⟩ = some (.string (l[k]).nm) := (HB.out.cell hb).trans (HC.out k hlt).1
      have hc1 : wr.cell? ⟨b, o + k * 2 + 1, none⟩ = some (.string (l[k]).par) := (HB.out.cell hb).trans (HC.out k hlt).2
      have hr0 := nmAt_of hlt
      have hzk := HZ.out k hlt
      have hcp : 0 < k → wr.cell? ⟨b, o + (k - 1) * 2, none⟩ = some (.string (nmAt l (k - 1))) := fun hk0 => by
        rw [nmAt_of (by omega)]; exact (HB.out.cell hb).trans (HC.out (k - 1) (by omega)).1
      go_wp2_with fail
      refine (isName_c _ _ hzk).mono ?_
      rintro e w2 ⟨rfl, hb2⟩
      have hR := box2 hb2
      have hR0 := box2_0 hR
      have hmap2 := (HM.out.alloc _).below hb2
      have hbel2 : Below w.heap.size w w2 := (HB.out.alloc (by omega) _).trans (hb2.mono (by simp; omega))
      have hcp2 : 0 < k → w2.cell? ⟨b, o + (k - 1) * 2, none⟩ = some (.string (nmAt l (k - 1))) := fun hk0 => by
        rw [← hcp hk0]
        exact (hb2.cell (by simp; omega)).trans (World.cell?_alloc_lt _ _ _ hbr)
      clear hcp hc0 hc1 HM HB hR hb2
      cases hq : isNm (l[k]).nm with
      | false =>
        have hres : res = 5 := by
          rw [← HR.out, chkR_first H1.out hlen hlt HP.out (x := 5) (by unfold rgFault; rw [hr0, if_pos hq])]
        have HS := Lib.hid hres
        have HB2 := Lib.hid hbel2
        clear hres hq hr0 hbel2 hmap2 hcp2
        go_wp2
        go_ret
        exact GivesB.mk (vint HS.out.symm) HB2.out
      | true =>
        by_cases hk0 : 0 < k
        · have hd : decide ((0 : Int) < (k : Int)) = true := by simp; omega
          have hcpk := hcp2 hk0
          clear hcp2
          cases hle : sle (l[k]).nm (nmAt l (k - 1)) with
          | true =>
            have hleb := hle
            unfold sle at hleb
            have hres : res = 8 := by
              rw [← HR.out, chkR_first H1.out hlen hlt HP.out (x := 8) (by unfold rgFault; rw [hr0, if_neg (by rw [hq]; simp), if_pos ⟨hk0, hle⟩])]
            have HS := Lib.hid hres
            have HB2 := Lib.hid hbel2
            clear hres hq hr0 hle hbel2 hmap2
            go_wp2
            go_quiet (fail)
            go_wp2
            go_ret
            exact GivesB.mk (vint HS.out.symm) (below_drewN HB2.out _)
          | false =>
            have hleb := hle
            unfold sle at hleb
            have HF : Hid (rgFault l k = none) := by
              show rgFault l k = none
              unfold rgFault; rw [hr0, if_neg (by rw [hq]; simp), if_neg (by rw [hle]; simp)]
            have HM2 := Lib.hid hmap2
            have HB2 := Lib.hid hbel2
            clear hq hle hmap2 hbel2
            go_wp2
            go_quiet (fail)
            obtain ⟨w3, hrun, hm3, hg3, hs3⟩ := run_update_map tMap kStr (HM2.out.drewN nq) (l[k]).nm (.int .i64 (k : Int))
            have HM3 := Lib.hid hm3
            have HB3 := Lib.hid (below_map (below_drewN HB2.out nq) hg3 (Nat.le_refl _) (by have := HB2.out.size; simpa using this))
            have HR0 := Lib.hid hr0
            clear hm3 hg3 hs3 HM2 HB2 hr0
            go_wp2
            go_roundg (gk - 1)
            case measure => have := HK.out; omega
            case rel =>
              refine ⟨k + 1, by have := HK.out; omega, by go_num, fun j hj => ?_, ?_, HB3.out⟩
              · rcases Nat.lt_or_ge j k with h1 | h1
                · exact HP.out j h1
                · obtain rfl : j = k := by omega
                  exact HF.out
              · have := HM3.out
                rw [← HR0.out] at this
                exact this
        · have hd : decide ((0 : Int) < (k : Int)) = false := by simp; omega
          have HF : Hid (rgFault l k = none) := by
            show rgFault l k = none
            unfold rgFault; rw [hr0, if_neg (by rw [hq]; simp), if_neg (by omega)]
          have HM2 := Lib.hid hmap2
          have HB2 := Lib.hid hbel2
          clear hq hmap2 hbel2 hcp2
          go_wp2
          go_quiet (fail)
          obtain ⟨w3, hrun, hm3, hg3, hs3⟩ := run_update_map tMap kStr (HM2.out.drewN nq) (l[k]).nm (.int .i64 (k : Int))
          have HM3 := Lib.hid hm3
          have HB3 := Lib.hid (below_map (below_drewN HB2.out nq) hg3 (Nat.le_refl _) (by have := HB2.out.size; simpa using this))
          have HR0 := Lib.hid hr0
          clear hm3 hg3 hs3 HM2 HB2 hr0
          go_wp2
          go_roundg (gk - 1)
          case measure => have := HK.out; omega
          case rel =>
            refine ⟨k + 1, by have := HK.out; omega, by go_num, fun j hj => ?_, ?_, HB3.out⟩
            · rcases Nat.lt_or_ge j k with h1 | h1
              · exact HP.out j h1
              · obtain rfl : j = k := by omega
                exact HF.out
            · have := HM3.out
              rw [← HR0.out] at this
              exact this
    · have hF0 : ∀ j, j < l.length → rgFault l j = none := fun j hj => HP.out j (by omega)
      have HF0 := Lib.hid hF0
      have HI := Lib.hid (inc_of_fault hF0).2
      obtain rfl : k = l.length := by omega
      clear hF0 HP HK hk1 hlt
      go_wp2
      go_loopg [51] l.length (ChkP2 w l)
      case atStart => exact ⟨0, by omega, rfl, fun j _ hj => absurd hj (by omega), HM.out, HB.out⟩
      clear HM HB hwr hbr
      case round =>
        obtain ⟨k, hk, rfl, hpre, hmap, hbel⟩ := hrel
        have HK := Lib.hid hk
        have HP := Lib.hid hpre
        have HM := Lib.hid hmap
        have HB := Lib.hid hbel
        have hk1 : k ≤ l.length := by omega
        have hwr : w.heap.size < wr.heap.size := hmap.lt
        have hbr : b < wr.heap.size := by omega
        clear hk hpre hmap hbel
        by_cases hlt : k < l.length
        · have hc0 : wr.cell? ⟨b, o + k * 2, none⟩ = some (.string (l[k]).nm) := (HB.out.cell hb).trans (HC.out k hlt).1
          have hc1 : wr.cell? ⟨b, o + k * 2 + 1, none⟩ = some (.string (l[k]).par) := (HB.out.cell hb).trans (HC.out k hlt).2
          have hlk := run_lookup_map tMap kStr zInt (HM.out.alloc (.cells #[.string (l[k]).nm, .string (l[k]).par] 43)) (l[k]).par true
          have HM2 := Lib.hid (HM.out.alloc (.cells #[.string (l[k]).nm, .string (l[k]).par] 43))
          have HB2 := Lib.hid (HB.out.alloc (Nat.le_of_lt hwr) (.cells #[.string (l[k]).nm, .string (l[k]).par] 43))
          clear HM HB
          by_cases hp : (l[k]).par = emp
          · have he := isEmpty_of_eq hp
            have HF : Hid (parBad l l[k] = false) := by
              show parBad l l[k] = false
              simp [parBad, hp]
            generalize (mp l l.length (l[k]).par).getD (.int .i64 0) = v at hlk
            generalize (mp l l.length (l[k]).par).isSome = bl at hlk
            simp only [if_true] at hlk
            clear hp
            go_wp2
            go_roundg (gk - 1)
            case measure => have := HK.out; omega
            case rel =>
              refine ⟨k + 1, by have := HK.out; omega, by go_num, fun j hj hjk => ?_, HM2.out, HB2.out⟩
              rcases Nat.lt_or_ge j k with h1 | h1
              · exact HP.out j hj h1
              · obtain rfl : j = k := by omega
                exact HF.out
          · have he := isEmpty_of_ne hp
            cases hix : idx l (l[k]).par with
            | none =>
              rw [mp_idx HI.out, hix] at hlk
              simp only [if_true, Option.map_none, Option.getD_none, Option.isSome_none] at hlk
              have hres : res = 5 := by
                rw [← HR.out]
                exact chkR_par H1.out hlen HF0.out hlt (by simp [parBad, hp, hix])
              have HS := Lib.hid hres
              clear hres hix hp
              go_wp2
              go_ret
              exact GivesB.mk (vint HS.out.symm) HB2.out
            | some x =>
              rw [mp_idx HI.out, hix] at hlk
              simp only [if_true, Option.map_some, Option.getD_some, Option.isSome_some] at hlk
              have HF : Hid (parBad l l[k] = false) := by
                show parBad l l[k] = false
                simp [parBad, hix]
              clear hix hp
              go_wp2
              go_roundg (gk - 1)
              case measure => have := HK.out; omega
              case rel =>
                refine ⟨k + 1, by have := HK.out; omega, by go_num, fun j hj hjk => ?_, HM2.out, HB2.out⟩
                rcases Nat.lt_or_ge j k with h1 | h1
                · exact HP.out j hj h1
                · obtain rfl : j = k := by omega
                  exact HF.out
        · have hP0 : ∀ j (h : j < l.length), parBad l l[j] = false := fun j hj => HP.out j hj (by omega)
          have HP0 := Lib.hid hP0
          clear hP0
          go_wp2
          clear HK HP hk1 hlt
          go_loopg [72] l.length (ChkP3 w l)
          case atStart => exact ⟨0, by omega, rfl, fun j hj => absurd hj (by omega), HM.out, HB.out⟩
          clear HM HB hwr hbr
          case round =>
            obtain ⟨i, hk, rfl, hpre, hmap, hbel⟩ := hrel
            have HK := Lib.hid hk
            have HP := Lib.hid hpre
            have HM := Lib.hid hmap
            have HB := Lib.hid hbel
            have hk1 : i ≤ l.length := by omega
            have hwr : w.heap.size < wr.heap.size := hmap.lt
            have hbr : b < wr.heap.size := by omega
            clear hk hpre hmap hbel
            obtain ⟨g1, hg1⟩ : ∃ g1, g1 = gk := ⟨_, rfl⟩
            subst hg1
            obtain ⟨w0, hw0⟩ : ∃ w0 : World, w0 = wr := ⟨_, rfl⟩
            subst hw0
            by_cases hlt : i < l.length
            · have hc0 : w0.cell? ⟨b, o + i * 2, none⟩ = some (.string (l[i]).nm) := (HB.out.cell hb).trans (HC.out i hlt).1
              have hc1 : w0.cell? ⟨b, o + i * 2 + 1, none⟩ = some (.string (l[i]).par) := (HB.out.cell hb).trans (HC.out i hlt).2
              have HM2 := Lib.hid (HM.out.alloc (.cells #[.string (l[i]).nm, .string (l[i]).par] 43))
              have HB2 := Lib.hid (HB.out.alloc (Nat.le_of_lt hwr) (.cells #[.string (l[i]).nm, .string (l[i]).par] 43))
              go_wp2
              clear hc0 hc1
              go_loopg [12] (l.length + 1) (ChkP4 w l i w0.heap.size)
              case atStart => exact ⟨0, by omega, rfl, i, hlt, rfl, heap_alloc_new _ _, HM2.out, HB2.out⟩
              clear HM2 HB2
              case round =>
                obtain ⟨k, hk, rfl, j, hj, hup, hRj, hmap, hbel⟩ := hrel
                have HK4 := Lib.hid hk
                have HU := Lib.hid hup
                have hk2 : k ≤ l.length + 1 := by omega
                have hR0 := box2_0 hRj
                have hR1 := box2_1 hRj
                have hf0 := box2_f hRj 0
                have hf1 := box2_f hRj 1
                have HRJ := Lib.hid hRj
                have HM4 := Lib.hid hmap
                have HB4 := Lib.hid hbel
                have hwi : w.heap.size < wr.heap.size := hmap.lt
                clear hk hup hRj hmap hbel
                by_cases hp : (l[j]).par = emp
                · have he := isEmpty_of_eq hp
                  have hend : upN l (l.length + 2) i = none := by
                    have : upN l (k + 1) i = none := by rw [upN_add, HU.out]; simp [upN, up_none hj hp]
                    exact upN_none_mono this (by omega)
                  have HE := Lib.hid hend
                  clear hend hp
                  go_wp2
                  go_roundg (g1 - 1)
                  case measure => have := HK.out; omega
                  case rel =>
                    refine ⟨i + 1, by have := HK.out; omega, by go_num, fun t ht => ?_, HM4.out, HB4.out⟩
                    rcases Nat.lt_or_ge t i with h3 | h3
                    · exact HP.out t h3
                    · obtain rfl : t = i := by omega
                      exact HE.out
                · have he := isEmpty_of_ne hp
                  obtain ⟨j', hx⟩ := parBad_false HP0.out hj hp
                  obtain ⟨hj', hnm⟩ := idx_some hx
                  have hup' : upN l (k + 1) i = some j' := by
                    rw [upN_add, HU.out]; simp [upN, up_of hj, hp, hx]
                  have HU' := Lib.hid hup'
                  by_cases hbig : l.length < k
                  · have hres : res = 14 := by
                      rw [← HR.out, chkR_last H1.out hlen HF0.out HP0.out, if_neg]
                      intro hE
                      have h2 := hE i hlt
                      rw [show l.length + 2 = k + 1 from by omega, HU'.out] at h2
                      cases h2
                    have HS := Lib.hid hres
                    clear hres hup' hx hnm hp
                    go_wp2
                    go_ret
                    exact GivesB.mk (vint HS.out.symm) HB4.out
                  · have hlk := run_lookup_map tMap kStr zInt HM4.out (l[j]).par false
                    rw [mp_idx HI.out, hx] at hlk
                    simp only [Bool.false_eq_true, if_false, Option.map_some, Option.getD_some] at hlk
                    have hc0 : wr.cell? ⟨b, o + j' * 2, none⟩ = some (.string (l[j']).nm) := (HB4.out.cell hb).trans (HC.out j' hj').1
                    have hc1 : wr.cell? ⟨b, o + j' * 2 + 1, none⟩ = some (.string (l[j']).par) := (HB4.out.cell hb).trans (HC.out j' hj').2
                    clear hup' hx hnm hp
                    go_wp2
                    go_roundg (gk - 1)
                    case measure => have := HK4.out; omega
                    case rel =>
                      refine ⟨k + 1, by have := HK4.out; omega, by go_num, j', hj', HU'.out, box2_set HRJ.out, ?_, ?_⟩
                      · exact (HM4.out.setCell (a := ⟨w0.heap.size, 0, none⟩) (by show w.heap.size ≠ w0.heap.size; omega) _).setCell (a := ⟨w0.heap.size, 1, none⟩) (by show w.heap.size ≠ w0.heap.size; omega) _
                      · exact (HB4.out.setCell (p := ⟨w0.heap.size, 0, none⟩) (by show w.heap.size ≤ w0.heap.size; omega) _).setCell (p := ⟨w0.heap.size, 1, none⟩) (by show w.heap.size ≤ w0.heap.size; omega) _
            · have hres : res = 0 := by
                rw [← HR.out, chkR_last H1.out hlen HF0.out HP0.out, if_pos]
                exact fun t ht => HP.out t (by omega)
              have HS := Lib.hid hres
              clear hres
              go_wp2
              go_ret
              exact GivesB.mk (vint HS.out.symm) HB.out
end Go.Proofs.YtlcfgejaeecclaaGreatDoor

namespace Dw
open Go

def putAll (ops : Array Oper) (vals : Nat → Value) : List Nat → Act → Act
  | [], a => a
  | i :: L, a => putAll ops vals L (a.put ((ops[i]?).bind (·.dst)) (vals i))
def doneL (n : Nat) (done : Nat → Bool) : List Nat := (List.range n).filter done
def setD {α : Type} (f : Nat → α) (i : Nat) (v : α) : Nat → α := fun j => if j = i then v else f j
/-- No two operations write one slot. -/
def Apart (ops : Array Oper) : Prop := ∀ i j : Nat, i < ops.size → j < ops.size → i ≠ j → ∀ d, (ops[i]?).bind (·.dst) = some d → (ops[j]?).bind (·.dst) ≠ some d
def apartB (ops : Array Oper) : Bool := (List.range ops.size).all fun i => (List.range ops.size).all fun j => i == j || ((ops[i]?).bind (·.dst)).isNone || (ops[i]?).bind (·.dst) != (ops[j]?).bind (·.dst)
theorem apart_of {ops : Array Oper} (h : apartB ops = true) : Apart ops := fun i j hi hj hne d hd he => by
  unfold apartB at h
  have h1 := List.all_eq_true.1 h i (List.mem_range.2 hi)
  have h2 := List.all_eq_true.1 h1 j (List.mem_range.2 hj)
  rw [hd, he] at h2
  simp [hne] at h2
/-- Each operation waits only for earlier ones. -/
def backB (ops : Array Oper) : Bool := (List.range ops.size).all fun i => ((ops[i]?).map fun o => o.after.all fun e => !Region.binds .any e || decide (e.on < i)).getD true

theorem putAll_append (ops : Array Oper) (vals : Nat → Value) : ∀ (L M : List Nat) (a : Act), putAll ops vals (L ++ M) a = putAll ops vals M (putAll ops vals L a)
  | [], _, _ => rfl
  | i :: L, M, a => by rw [List.cons_append, putAll, putAll, putAll_append ops vals L M]
theorem putAll_congr {ops : Array Oper} {vals vals' : Nat → Value} : ∀ {L : List Nat} {a : Act}, (∀ i ∈ L, vals i = vals' i) → putAll ops vals L a = putAll ops vals' L a
  | [], _, _ => rfl
  | i :: L, a, h => by
    rw [putAll, putAll, h i (by simp)]
    exact putAll_congr fun j hj => h j (by simp [hj])
theorem doneL_succ (n : Nat) (done : Nat → Bool) : doneL (n + 1) done = doneL n done ++ (if done n then [n] else []) := by
  unfold doneL
  rw [List.range_succ, List.filter_append]
  cases h : done n <;> simp [h]
theorem doneL_congr {n : Nat} {d d' : Nat → Bool} (h : ∀ j, j < n → d j = d' j) : doneL n d = doneL n d' := List.filter_congr fun x hx => h x (List.mem_range.1 hx)
theorem mem_doneL {n i : Nat} {done : Nat → Bool} : i ∈ doneL n done ↔ i < n ∧ done i = true := by
  unfold doneL; rw [List.mem_filter, List.mem_range]

theorem putAll_ins {ops : Array Oper} (hap : Apart ops) {vals : Nat → Value} {done : Nat → Bool} {i : Nat} {v : Value} {a : Act} (hi : done i = false) :
    ∀ n, i < n → n ≤ ops.size → putAll ops (setD vals i v) (doneL n (setD done i true)) a = (putAll ops vals (doneL n done) a).put ((ops[i]?).bind (·.dst)) v
  | 0, h, _ => by omega
  | n + 1, h, hn => by
    rw [doneL_succ, doneL_succ, putAll_append, putAll_append]
    by_cases e : i = n
    · subst e
      have e1 : doneL i (setD done i true) = doneL i done := doneL_congr fun j hj => by simp [setD]; omega
      rw [e1, hi]
      have e2 : putAll ops (setD vals i v) (doneL i done) a = putAll ops vals (doneL i done) a := putAll_congr fun j hj => by
        have := (mem_doneL.1 hj).1
        simp [setD]; omega
      simp [setD, putAll, e2]
    · have ih := putAll_ins hap (vals := vals) (v := v) (a := a) hi n (by omega) (by omega)
      have e1 : setD done i true n = done n := by simp [setD]; omega
      rw [e1, ih]
      cases hd : done n with
      | false => simp [putAll]
      | true =>
        have e2 : setD vals i v n = vals n := by simp [setD]; omega
        simp only [if_true, putAll, e2]
        exact Act.put_comm _ _ _ fun d hd' => hap i n (by omega) (by omega) e d hd'

theorem eval_put_same {a : Act} {d : Tmp} {v : Value} (h : d < a.tmps.size) : (a.put (some d) v).eval (.tmp d) = v := by
  simp [Act.put, Act.eval, h]
theorem size_put (a : Act) (d : Option Tmp) (v : Value) : (a.put d v).tmps.size = a.tmps.size := by
  cases d <;> simp [Act.put]
theorem size_putAll (ops : Array Oper) (vals : Nat → Value) : ∀ (L : List Nat) (a : Act), (putAll ops vals L a).tmps.size = a.tmps.size
  | [], _ => rfl
  | i :: L, a => by rw [putAll, size_putAll ops vals L, size_put]
theorem eval_putAll_other {ops : Array Oper} {vals : Nat → Value} {x : Operand} : ∀ {L : List Nat} {a : Act}, (∀ i ∈ L, ∀ d, (ops[i]?).bind (·.dst) = some d → x ≠ .tmp d) → (putAll ops vals L a).eval x = a.eval x
  | [], _, _ => rfl
  | i :: L, a, h => by
    rw [putAll, eval_putAll_other fun j hj => h j (by simp [hj])]
    exact Act.eval_put fun d hd => h i (by simp) d hd
theorem eval_putAll_done {ops : Array Oper} (hap : Apart ops) {vals : Nat → Value} {d : Tmp} {j : Nat} (hj : j < ops.size) (hd : (ops[j]?).bind (·.dst) = some d) :
    ∀ {L : List Nat} {a : Act}, j ∈ L → L.Nodup → (∀ i ∈ L, i < ops.size) → d < a.tmps.size → (putAll ops vals L a).eval (.tmp d) = vals j
  | [], _, h, _, _, _ => by simp at h
  | i :: L, a, h, hnd, hlt, hs => by
    rw [putAll]
    rw [List.nodup_cons] at hnd
    rcases List.mem_cons.1 h with e | h'
    · subst e
      rw [eval_putAll_other, hd, eval_put_same hs]
      intro k hk d' hd' e
      injection e with e
      subst e
      have hne : j ≠ k := fun e => hnd.1 (e ▸ hk)
      exact hap j k hj (hlt k (by simp [hk])) hne d hd hd'
    · exact eval_putAll_done hap hj hd h' hnd.2 (fun k hk => hlt k (by simp [hk])) (by rw [size_put]; exact hs)

section
variable {P : Program} {ops : Array Oper} {Q : Exit → Act → World → Prop}

theorem ready_none {listed : Array Bool} {done : Nat → Bool} (hb : backB ops = true) (hls : listed.size = ops.size) (hl : ∀ j, j < ops.size → listed.getD j false = done j) (hr : Region.ready .any ops listed = []) : ∀ j, j < ops.size → done j = true := by
  intro j
  induction j using Nat.strongRecOn with
  | _ j ih =>
    intro hj
    cases hd : done j with
    | true => rfl
    | false =>
      exfalso
      have hmem : j ∈ Region.ready .any ops listed := by
        unfold Region.ready
        rw [List.mem_filter, List.mem_range]
        refine ⟨hj, ?_⟩
        have h1 := hl j hj
        have hjs : j < listed.size := by omega
        have h2 : listed.getD j true = false := by
          rw [hd] at h1
          simp [Array.getD, hjs] at h1 ⊢
          exact h1
        rw [h2]
        have h3 := List.all_eq_true.1 hb j (List.mem_range.2 hj)
        rw [Array.getElem?_eq_getElem hj] at h3 ⊢
        simp only [Option.map_some, Option.getD_some, Bool.not_false, Bool.true_and] at h3 ⊢
        rw [Array.all_eq_true'] at h3 ⊢
        intro e he
        have h4 := h3 e he
        cases hb2 : Region.binds .any e with
        | false => simp
        | true =>
          rw [hb2] at h4
          have h5 : e.on < j := by simpa using h4
          rw [hl e.on (by omega), ih e.on h5 (by omega)]
          simp
      rw [hr] at hmem
      simp at hmem

theorem count_set {n i : Nat} {done : Nat → Bool} (hi : i < n) (hd : done i = false) : (doneL n fun j => !setD done i true j).length + 1 = (doneL n fun j => !done j).length := by
  induction n with
  | zero => omega
  | succ n ih =>
    rw [doneL_succ, doneL_succ, List.length_append, List.length_append]
    by_cases e : i = n
    · subst e
      have e1 : doneL i (fun j => !setD done i true j) = doneL i fun j => !done j := doneL_congr fun j hj => by simp [setD]; omega
      rw [e1]
      simp [setD, hd]
    · have e1 : setD done i true n = done n := by simp [setD]; omega
      rw [e1, ← ih (by omega)]
      omega

theorem wpAny_inv (hap : Apart ops) (hb : backB ops = true) (a0 : Act) (J : (Nat → Bool) → (Nat → Value) → World → Prop)
    (hstep : ∀ (i : Nat) (done : Nat → Bool) (vals : Nat → Value) (w : World), i < ops.size → J done vals w → done i = false → (∀ o, ops[i]? = some o → ∀ e ∈ o.after, Region.binds .any e = true → done e.on = true) →
      wpOp P ops Q i (fun a' w' => ∃ v, a' = (putAll ops vals (doneL ops.size done) a0).put ((ops[i]?).bind (·.dst)) v ∧ J (setD done i true) (setD vals i v) w') (putAll ops vals (doneL ops.size done) a0) w)
    (hend : ∀ (done : Nat → Bool) (vals : Nat → Value) (w : World), (∀ j, j < ops.size → done j = true) → J done vals w → Q .normal (putAll ops vals (List.range ops.size) a0) w) :
    ∀ (fuel : Nat) (listed : Array Bool) (done : Nat → Bool) (vals : Nat → Value) (w : World), listed.size = ops.size → (∀ j, j < ops.size → listed.getD j false = done j) → (doneL ops.size fun j => !done j).length ≤ fuel → J done vals w →
      wpAny P .any ops Q fuel listed (putAll ops vals (doneL ops.size done) a0) w := by
  intro fuel
  have hfin : ∀ (done : Nat → Bool) (vals : Nat → Value) (w : World), (∀ j, j < ops.size → done j = true) → J done vals w → Q .normal (putAll ops vals (doneL ops.size done) a0) w := fun done vals w hd hJ => by
    have := hend done vals w hd hJ
    have e : doneL ops.size done = List.range ops.size := by
      unfold doneL
      rw [List.filter_eq_self]
      exact fun x hx => hd x (List.mem_range.1 hx)
    rw [e]; exact this
  induction fuel with
  | zero =>
    intro listed done vals w hls hl hc hJ
    have hall : ∀ j, j < ops.size → done j = true := fun j hj => by
      cases hd : done j with
      | true => rfl
      | false =>
        have : j ∈ doneL ops.size fun j => !done j := mem_doneL.2 ⟨hj, by simp [hd]⟩
        rw [List.eq_nil_of_length_eq_zero (l := doneL ops.size fun j => !done j) (by omega)] at this
        simp at this
    refine ⟨?_, hfin done vals w hall hJ⟩
    unfold Region.ready
    rw [List.filter_eq_nil_iff]
    intro j hj
    have hj' := List.mem_range.1 hj
    have h1 := hl j hj'
    rw [hall j hj'] at h1
    have hjs : j < listed.size := by omega
    have h2 : listed.getD j true = true := by simp [Array.getD, hjs] at h1 ⊢; exact h1
    simp [h2]
  | succ fuel ih =>
    intro listed done vals w hls hl hc hJ
    refine ⟨fun hr => hfin done vals w (ready_none hb hls hl hr) hJ, fun i hi => ?_⟩
    unfold Region.ready at hi
    rw [List.mem_filter, List.mem_range] at hi
    obtain ⟨hin, hrd⟩ := hi
    rw [Bool.and_eq_true] at hrd
    have hjs : i < listed.size := by omega
    have hdi : done i = false := by
      rw [← hl i hin]
      have := hrd.1
      simp [Array.getD, hjs] at this ⊢
      exact this
    have hdeps : ∀ o, ops[i]? = some o → ∀ e ∈ o.after, Region.binds .any e = true → done e.on = true := fun o ho e he hbd => by
      have h3 := hrd.2
      rw [ho] at h3
      simp only [Option.map_some, Option.getD_some] at h3
      rw [Array.all_eq_true'] at h3
      have h4 := h3 e he
      rw [hbd] at h4
      have h5 : listed.getD e.on false = true := by simpa using h4
      have hlt : e.on < ops.size := by
        refine Nat.lt_of_not_ge fun hge => ?_
        have : ¬ e.on < listed.size := by omega
        simp [Array.getD, this] at h5
      rw [← hl _ hlt]; exact h5
    refine wpOp_mono ?_ (hstep i done vals w hin hJ hdi hdeps)
    rintro a' w' ⟨v, rfl, hJ'⟩
    rw [← putAll_ins hap hdi ops.size hin (Nat.le_refl _)]
    refine ih (listed.setIfInBounds i true) (setD done i true) (setD vals i v) w' (by simp [hls]) (fun j hj => ?_) ?_ hJ'
    · have hjs' : j < listed.size := by omega
      by_cases e : j = i
      · subst e; simp [setD, Array.getD, hjs']
      · have := hl j hj
        simp [setD, e, Array.getD, hjs'] at this ⊢
        rw [Array.getElem_setIfInBounds_ne (by omega) (by omega)]
        exact this
    · have := count_set hin hdi
      omega

theorem wp_region_inv {id : Nat} {a0 : Act} {w : World} (hm : P.follows .mixedOrders = true) (hap : Apart ops) (hb : backB ops = true) (vals0 : Nat → Value) (J : (Nat → Bool) → (Nat → Value) → World → Prop)
    (h0 : J (fun _ => false) vals0 w.drew)
    (hstep : ∀ (i : Nat) (done : Nat → Bool) (vals : Nat → Value) (w : World), i < ops.size → J done vals w → done i = false → (∀ o, ops[i]? = some o → ∀ e ∈ o.after, Region.binds .any e = true → done e.on = true) →
      wpOp P ops Q i (fun a' w' => ∃ v, a' = (putAll ops vals (doneL ops.size done) a0).put ((ops[i]?).bind (·.dst)) v ∧ J (setD done i true) (setD vals i v) w') (putAll ops vals (doneL ops.size done) a0) w)
    (hend : ∀ (done : Nat → Bool) (vals : Nat → Value) (w : World), (∀ j, j < ops.size → done j = true) → J done vals w → Q .normal (putAll ops vals (List.range ops.size) a0) w) :
    (Code.region id ops true).wp P Q a0 w := by
  refine wp_region_any hm ?_
  have e : doneL ops.size (fun _ => false) = [] := by
    unfold doneL
    rw [List.filter_eq_nil_iff]
    simp
  have := wpAny_inv (P := P) (Q := Q) hap hb a0 J hstep hend ops.size (Array.replicate ops.size false) (fun _ => false) vals0 w.drew (by simp) (fun j hj => by simp [Array.getD, hj]) (by
    refine Nat.le_trans (List.length_filter_le _ _) ?_
    simp) h0
  rw [e] at this
  exact this
end
end Dw
