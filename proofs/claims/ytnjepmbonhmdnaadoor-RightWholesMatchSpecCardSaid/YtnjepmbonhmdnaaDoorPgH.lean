/- Package right (places): checkArea and in of a world. -/
import Derived.Test.YtnjepmbonhmdnaaDoorPgE
namespace Go.Proofs.YtnjepmbonhmdnaaDoor
open Go.RowKit Dw

def CkRel (W : World) (l : List Rg) (a : List Ar) (m : Nat) (i : Value) (wr : World) : Prop :=
  ∃ k : Nat, k + m = a.length ∧ i = .int .i64 k ∧ (∀ j, j < k → arFault l a j = none) ∧ Below W.heap.size W wr

set_option maxHeartbeats 1000000 in
theorem checkArea_c (A A2 : Option Addr) (c r1 r2 g1 g2 : Nat) (AL : Option Addr) (cL c2 : Nat) (l : List Rg) (a : List Ar) (w : World) (g : GoodR l) (h : WR w A r1 r2 g1 g2 AL l) (h2 : Ars w A2 a) :
    Calls Tryd.prog 40 #[wv A c r1 r2 g1 g2 AL cL l, .slice A2 a.length c2] w (GivesB (.int .i64 (chkA l a)) w) := by
  generalize hres : chkA l a = res
  have HR := Lib.hid hres
  clear hres
  unfold wv
  by_cases hlen : 100 < a.length
  · go_enter Tryd.func40, Tryd.ntmps40
    go_wp2
    go_ret
    refine GivesB.mk (vint ?_) ((Below.refl _ _).alloc (Nat.le_refl _) _)
    rw [← HR.out]; unfold chkA; rw [if_pos hlen]
  · have hn2 : a.length ≤ 100 := by omega
    go_enter Tryd.func40, Tryd.ntmps40
    go_wp2
    generalize hW : w.alloc (.cells #[.slice A l.length c, .map (some r1), .slice AL (gath l (fun i => !isPar l i) l.length).length cL, .map (some r2), .slice (some ⟨g1, 0, none⟩) l.length l.length, .slice (some ⟨g2, 0, none⟩) l.length l.length] 45) = W
    have hWs : W.heap.size = w.heap.size + 1 := by rw [← hW]; simp
    have hWb : Below w.heap.size w W := by rw [← hW]; exact (Below.refl _ _).alloc (Nat.le_refl _) _
    have hW1 : W.cell? ⟨w.heap.size, 1, none⟩ = some (.map (some r1)) := by rw [← hW, cell_of_row _ w.heap.size 1 _ _ _ (heap_alloc_new _ _)]; rfl
    have hm : MapIs Value.string W r1 (mp l l.length) := h.m1.keep (hWb.block _ h.m1.lt)
    have hr1 : r1 < W.heap.size := hm.lt
    have h2' := h2.below hWb
    have HM := Lib.hid hm
    have HWb := Lib.hid hWb
    clear hW hWb hm h h2
    go_loopg [14] a.length (CkRel W l a)
    case atStart => exact ⟨0, by omega, rfl, fun j hj => absurd hj (by omega), Below.refl _ _⟩
    case round =>
      obtain ⟨k, hk, rfl, hpre, hbel⟩ := hrel
      have HK := Lib.hid hk
      have HP := Lib.hid hpre
      have HB := Lib.hid hbel
      have hk1 : k ≤ a.length := by omega
      have hws : w.heap.size < wr.heap.size := by have := hbel.size; omega
      have hs1 : wr.cell? ⟨w.heap.size, 1, none⟩ = some (.map (some r1)) := (hbel.cell (by show w.heap.size < W.heap.size; omega)).trans hW1
      clear hk hpre hbel
      by_cases hlt : k < a.length
      · obtain ⟨b, o, rfl, hb, hc⟩ := h2'.at_ (by omega)
        have hbr : b < wr.heap.size := Nat.lt_of_lt_of_le hb HB.out.size
        have hc0 : wr.cell? ⟨b, o + k * 2, none⟩ = some (.string (a[k]).rg) := (HB.out.cell hb).trans (hc k hlt).1
        have hc1 : wr.cell? ⟨b, o + k * 2 + 1, none⟩ = some (.bool (a[k]).out) := (HB.out.cell hb).trans (hc k hlt).2
        have hr0 := rgAt_of hlt
        have hlk := run_lookup_map tMap kStr zInt ((HM.out.keep (HB.out.block _ hr1)).alloc (.cells #[.string (a[k]).rg, .bool (a[k]).out] 34)) (a[k]).rg true
        rw [mp_idx g.inc] at hlk
        have HB2 := Lib.hid (HB.out.alloc HB.out.size (.cells #[.string (a[k]).rg, .bool (a[k]).out] 34))
        cases hq : idx l (a[k]).rg with
        | none =>
          rw [hq] at hlk
          simp only [if_true, Option.map_none, Option.getD_none, Option.isSome_none] at hlk
          have hres : res = 5 := by
            rw [← HR.out]; unfold chkA
            rw [if_neg hlen, findSome_first hlt HP.out (x := 5) (by unfold arFault; rw [hr0, if_pos hq])]
          have HS := Lib.hid hres
          clear hc hr0 hq hres HB
          go_wp2
          go_ret
          exact GivesB.mk (vint HS.out.symm) (below_trans HWb.out HB2.out)
        | some x =>
          rw [hq] at hlk
          simp only [if_true, Option.map_some, Option.getD_some, Option.isSome_some] at hlk
          have HQ : Hid (¬ idx l (a[k]).rg = none) := by show ¬ _; rw [hq]; simp
          clear hq
          by_cases hk0 : 0 < k
          · have hd : decide ((0 : Int) < (k : Int)) = true := by simp; omega
            have hcp : wr.cell? ⟨b, o + (k - 1) * 2, none⟩ = some (.string (a[k - 1]).rg) := (HB.out.cell hb).trans (hc (k - 1) (by omega)).1
            have hr1' := rgAt_of (a := a) (i := k - 1) (by omega)
            by_cases hle : sle (a[k]).rg (a[k - 1]).rg = true
            · have hleb := hle
              unfold sle at hleb
              have hres : res = 8 := by
                rw [← HR.out]; unfold chkA
                rw [if_neg hlen, findSome_first hlt HP.out (x := 8) (by unfold arFault; rw [hr0, hr1', if_neg HQ.out, if_pos ⟨hk0, hle⟩])]
              have HS := Lib.hid hres
              clear hc hr0 hr1' hres hle HB
              go_wp2
              go_quiet (fail)
              go_wp2
              go_ret
              exact GivesB.mk (vint HS.out.symm) (below_drewN (below_trans HWb.out HB2.out) _)
            · have hle' : sle (a[k]).rg (a[k - 1]).rg = false := by simpa using hle
              have hleb := hle'
              unfold sle at hleb
              have HF : Hid (arFault l a k = none) := by
                show arFault l a k = none
                unfold arFault; rw [hr0, hr1', if_neg HQ.out, if_neg (fun hh => hle hh.2)]
              clear hc hr0 hr1' hle hle' HB
              go_wp2
              go_quiet (fail)
              go_wp2
              go_roundg (gk - 1)
              case measure => have := HK.out; omega
              case rel =>
                refine ⟨k + 1, by have := HK.out; omega, by go_num, fun j hj => ?_, below_drewN HB2.out _⟩
                rcases Nat.lt_or_ge j k with h1 | h1
                · exact HP.out j h1
                · obtain rfl : j = k := by omega
                  exact HF.out
          · have hd : decide ((0 : Int) < (k : Int)) = false := by simp; omega
            have HF : Hid (arFault l a k = none) := by
              show arFault l a k = none
              unfold arFault; rw [hr0, if_neg HQ.out, if_neg (by omega)]
            clear hc hr0 HB
            go_wp2
            go_quiet (fail)
            go_wp2
            go_roundg (gk - 1)
            case measure => have := HK.out; omega
            case rel =>
              refine ⟨k + 1, by have := HK.out; omega, by go_num, fun j hj => ?_, below_drewN HB2.out _⟩
              rcases Nat.lt_or_ge j k with h1 | h1
              · exact HP.out j h1
              · obtain rfl : j = k := by omega
                exact HF.out
      · have hres : res = 0 := by
          rw [← HR.out]; unfold chkA; rw [if_neg hlen, findSome_none (fun j hj => HP.out j (by omega))]
        have HS := Lib.hid hres
        clear hres
        go_wp2
        go_ret
        exact GivesB.mk (vint HS.out.symm) (below_trans HWb.out HB.out)
end Go.Proofs.YtnjepmbonhmdnaaDoor
