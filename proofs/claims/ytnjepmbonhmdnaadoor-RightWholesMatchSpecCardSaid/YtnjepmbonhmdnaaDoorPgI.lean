/- Package right (places): in of a world. -/
import Derived.Test.YtnjepmbonhmdnaaDoorPgH
import Derived.Test.YtnjepmbonhmdnaaDoorBoolRow
namespace Go.Proofs.YtnjepmbonhmdnaaDoor
open Go.RowKit Dw

abbrev mkI : Int → Value := fun n => Value.int .i64 n
theorem kInt : KeyT Tryd.prog 3 mkI := keyT_int Tryd.underlying3
theorem tMapB : Tryd.prog.underlying 81 = some (.map 3 4) := Tryd.underlying81
theorem zBool (w : World) : (zeroValue 4).run Tryd.prog w = .ok (.bool false) w := by kernel_rfl

def InRel1 (W : World) (l : List Rg) (a : List Ar) (m : Nat) (i : Value) (wr : World) : Prop :=
  ∃ k : Nat, k + m = a.length ∧ i = .int .i64 k ∧ MapIs mkI wr W.heap.size (nmK l a k) ∧ Below W.heap.size W wr
def InRel2 (W : World) (l : List Rg) (a : List Ar) (go : Nat) (m : Nat) (i : Value) (wr : World) : Prop :=
  ∃ k : Nat, k + m = (inL l a).length ∧ i = .int .i64 k ∧ MapIs mkI wr W.heap.size (nmK l a a.length) ∧ wr.heap[go]? = some (.cells (bArr (inL l a) k) 4 (0, 0)) ∧ Below W.heap.size W wr
def InRel3 (w5 : World) (l : List Rg) (a : List Ar) (res : Bool) (m : Nat) (kk : Value) (wr : World) : Prop :=
  wr = w5 ∧ ((∃ y, y < l.length ∧ kk = .int .i64 (y : Int) ∧ upN l m y = none ∧ liesF l a m y = res) ∨ (kk = .int .i64 (-1) ∧ res = false))

/-- A call that answers a row of bools. -/
def GivesL (M : List Bool) (w : World) (e : Ending) (w' : World) : Prop :=
  ∃ go c, e = .returned (.slice (some ⟨go, 0, none⟩) M.length c) ∧ w'.heap[go]? = some (.cells (bArr M M.length) 4 (0, 0)) ∧ Below w.heap.size w w'

theorem gath_get (l : List Rg) {n : Nat} (hn : n < (gath l (fun i => !isPar l i) l.length).length) (hm : n < (leafIdx l).length) : (gath l (fun i => !isPar l i) l.length)[n] = nmAt l (leafIdx l)[n] := by
  have e : gath l (fun i => !isPar l i) l.length = (leafIdx l).map (nmAt l) := rfl
  simp only [e, List.getElem_map]
theorem gath_len (l : List Rg) (a : List Ar) : (gath l (fun i => !isPar l i) l.length).length = (inL l a).length := by
  have e : gath l (fun i => !isPar l i) l.length = (leafIdx l).map (nmAt l) := rfl
  rw [e, inL, List.length_map, List.length_map]
theorem map_ne_cells' {κ : Type} [DecidableEq κ] {mk : κ → Value} {w : World} {r g : Nat} {f : κ → Option Value} {c : Array Value} {t : TypeId} {fr : Nat × Nat} (hm : MapIs mk w r f) (hg : w.heap[g]? = some (.cells c t fr)) : g ≠ r := fun e => by
  obtain ⟨es, clk, L, hr, _⟩ := hm
  rw [← e, hg] at hr; cases hr

set_option maxHeartbeats 1000000 in
theorem in_c (A A2 : Option Addr) (c r1 r2 g1 g2 : Nat) (AL : Option Addr) (cL c2 : Nat) (l : List Rg) (a : List Ar) (w : World) (g : GoodR l) (ga : GoodA l a) (h : WR w A r1 r2 g1 g2 AL l) (h2 : Ars w A2 a) :
    Calls Tryd.prog 41 #[wv A c r1 r2 g1 g2 AL cL l, .slice A2 a.length c2] w (GivesL (inL l a) w) := by
  unfold wv
  have hn2 := ga.len
  have hn := g.len
  have hmm := @run_makeMap Tryd.prog
  go_enter Tryd.func41, Tryd.ntmps41
  go_wp2
  clear hmm
  generalize hW : w.alloc (.cells #[.slice A l.length c, .map (some r1), .slice AL (gath l (fun i => !isPar l i) l.length).length cL, .map (some r2), .slice (some ⟨g1, 0, none⟩) l.length l.length, .slice (some ⟨g2, 0, none⟩) l.length l.length] 45) = W
  have hWs : W.heap.size = w.heap.size + 1 := by rw [← hW]; simp
  have hWb : Below w.heap.size w W := by rw [← hW]; exact (Below.refl _ _).alloc (Nat.le_refl _) _
  have hWr := heap_alloc_new w (.cells #[.slice A l.length c, .map (some r1), .slice AL (gath l (fun i => !isPar l i) l.length).length cL, .map (some r2), .slice (some ⟨g1, 0, none⟩) l.length l.length, .slice (some ⟨g2, 0, none⟩) l.length l.length] 45)
  rw [hW] at hWr
  have hW1 : W.cell? ⟨w.heap.size, 1, none⟩ = some (.map (some r1)) := by rw [cell_of_row _ w.heap.size 1 _ _ _ hWr]; rfl
  have hW2 : W.cell? ⟨w.heap.size, 2, none⟩ = some (.slice AL (gath l (fun i => !isPar l i) l.length).length cL) := by rw [cell_of_row _ w.heap.size 2 _ _ _ hWr]; rfl
  have hW4 : W.cell? ⟨w.heap.size, 4, none⟩ = some (.slice (some ⟨g1, 0, none⟩) l.length l.length) := by rw [cell_of_row _ w.heap.size 4 _ _ _ hWr]; rfl
  have hwr := h.below hWb
  have hr1 : r1 < W.heap.size := hwr.m1.lt
  have h2' := h2.below hWb
  have HWR := Lib.hid hwr
  have HWb := Lib.hid hWb
  have hwW : w.heap.size < W.heap.size := by omega
  have hg1W := hwr.h1
  clear hW hWb hWr hwr h h2
  rw [← hWs]
  clear hWs
  go_loopg [17] a.length (InRel1 W l a)
  case atStart => exact ⟨0, by omega, rfl, MapIs.new _ _, (Below.refl _ _).alloc (Nat.le_refl _) _⟩
  case round =>
    obtain ⟨k, hk, rfl, hmap, hbel⟩ := hrel
    have HK := Lib.hid hk
    have HM := Lib.hid hmap
    have HB := Lib.hid hbel
    have hk1 : k ≤ a.length := by omega
    have hws : w.heap.size < wr.heap.size := Nat.lt_of_lt_of_le hwW hbel.size
    have hs1 : wr.cell? ⟨w.heap.size, 1, none⟩ = some (.map (some r1)) := (hbel.cell hwW).trans hW1
    have hs2 := (hbel.cell hwW).trans hW2
    have hs4 := (hbel.cell hwW).trans hW4
    clear hk hmap hbel
    by_cases hlt : k < a.length
    · obtain ⟨b, o, rfl, hb, hc⟩ := h2'.at_ (by omega)
      have hbr : b < wr.heap.size := Nat.lt_of_lt_of_le hb HB.out.size
      have hc0 : wr.cell? ⟨b, o + k * 2, none⟩ = some (.string (a[k]).rg) := (HB.out.cell hb).trans (hc k hlt).1
      have hc1 : wr.cell? ⟨b, o + k * 2 + 1, none⟩ = some (.bool (a[k]).out) := (HB.out.cell hb).trans (hc k hlt).2
      have hlk := run_lookup_map tMap kStr zInt ((HWR.out.m1.keep (HB.out.block _ hr1)).alloc (.cells #[.string (a[k]).rg, .bool (a[k]).out] 34)) (a[k]).rg false
      obtain ⟨x, hx⟩ := ga.at_ k hlt
      rw [mp_idx g.inc, hx] at hlk
      simp only [Bool.false_eq_true, if_false, Option.map_some, Option.getD_some] at hlk
      obtain ⟨w3, hrun, hm3, hg3, hs3⟩ := run_update_map tMapB kInt (HM.out.alloc (.cells #[.string (a[k]).rg, .bool (a[k]).out] 34)) (x : Int) (.bool (!(a[k]).out))
      have HM3 := Lib.hid hm3
      have HB3 := Lib.hid (below_map (HB.out.alloc HB.out.size (.cells #[.string (a[k]).rg, .bool (a[k]).out] 34)) hg3 (Nat.le_refl _) (by have := HB.out.size; simp; omega))
      have HX := Lib.hid hx
      clear hc hm3 hg3 hs3 hx HM HB
      go_wp2
      go_roundg (gk - 1)
      case measure => have := HK.out; omega
      case rel =>
        refine ⟨k + 1, by have := HK.out; omega, by go_num, ?_, HB3.out⟩
        have e : nmK l a (k + 1) = fun k' => if k' = (x : Int) then some (.bool (!(a[k]).out)) else nmK l a k k' := by
          funext i
          rw [nmK, rgAt_of hlt, HX.out]
          simp [List.getD, hlt]
        rw [e]
        exact HM3.out
    · obtain rfl : k = a.length := by omega
      clear HK hk1 hlt hs1 hs4
      have hgl := gath_len l a
      have hil : (inL l a).length ≤ 200 := by
        have := leafTo_le l l.length
        unfold inL
        rw [List.length_map]
        exact Nat.le_trans this hn
      rw [hgl] at hs2
      have HGL := Lib.hid hgl
      clear hgl
      have hmk := run_make_n _ _ elSet (inL l a).length (by omega) (by omega) rfl
      go_wp2
      clear hmk
      have hp0 : (wr.alloc (.cells (Array.replicate (inL l a).length (.bool false)) 4)).heap[wr.heap.size]? = some (.cells (bArr (inL l a) 0) 4 (0, 0)) := by
        rw [← bArr_0]; exact heap_alloc_new _ _
      have HP0 := Lib.hid hp0
      have HM2 := Lib.hid (HM.out.alloc (.cells (Array.replicate (inL l a).length (.bool false)) 4))
      have HB2 := Lib.hid (HB.out.alloc HB.out.size (.cells (Array.replicate (inL l a).length (.bool false)) 4))
      have hgo : W.heap.size ≤ wr.heap.size := HB.out.size
      clear HM HB hp0 hws
      generalize hw2 : wr.alloc (.cells (Array.replicate (inL l a).length (.bool false)) 4) = w2 at HM2 HP0 HB2
      obtain ⟨go, hgoe⟩ : ∃ go, go = wr.heap.size := ⟨_, rfl⟩
      rw [← hgoe] at HP0 hgo ⊢
      clear hw2 hgoe hs2
      go_loopg [38] (inL l a).length (InRel2 W l a go)
      case atStart => exact ⟨0, by omega, rfl, HM2.out, HP0.out, HB2.out⟩
      clear HM2 HP0 HB2
      case round =>
        obtain ⟨n, hk, rfl, hmap, hrow, hbel⟩ := hrel
        have HK := Lib.hid hk
        have HM := Lib.hid hmap
        have HP := Lib.hid hrow
        have HB := Lib.hid hbel
        have hk1 : n ≤ (inL l a).length := by omega
        have hws : w.heap.size < wr.heap.size := Nat.lt_of_lt_of_le hwW hbel.size
        have hgol : go < wr.heap.size := lt_of_heap hrow
        have hs1 : wr.cell? ⟨w.heap.size, 1, none⟩ = some (.map (some r1)) := (hbel.cell hwW).trans hW1
        have hs4 := (hbel.cell hwW).trans hW4
        obtain ⟨gk1, hgk1⟩ : ∃ gk1, gk1 = gk := ⟨_, rfl⟩
        subst hgk1
        obtain ⟨w5, hw5⟩ : ∃ w5 : World, w5 = wr := ⟨_, rfl⟩
        subst hw5
        clear hk hmap hrow hbel
        by_cases hlt : n < (inL l a).length
        · have hltL : n < (leafIdx l).length := by simpa [inL] using hlt
          have hltG : n < (gath l (fun i => !isPar l i) l.length).length := by rw [HGL.out]; exact hlt
          have hyl := leafIdx_lt hltL
          have hrl := HWR.out.lv
          obtain ⟨b, o, rfl, hb, hc⟩ := hrl.at_ (by omega)
          have hbr : b < w5.heap.size := Nat.lt_of_lt_of_le hb HB.out.size
          have hc0 : w5.cell? ⟨b, o + n, none⟩ = some (.string (l[(leafIdx l)[n]]).nm) := by
            rw [HB.out.cell hb, hc n hltG, gath_get l hltG hltL, nmAt_of hyl]
          have hlk := run_lookup_map tMap kStr zInt (HWR.out.m1.keep (HB.out.block _ hr1)) (l[(leafIdx l)[n]]).nm false
          rw [mp_idx g.inc, g.inc.idx hyl] at hlk
          simp only [Bool.false_eq_true, if_false, Option.map_some, Option.getD_some] at hlk
          have hres : lies l a (leafIdx l)[n] = (inL l a)[n] := by simp [inL]
          generalize hrs : (inL l a)[n] = res at hres
          have HRS := Lib.hid hrs
          have hue := g.ends _ hyl
          unfold lies at hres
          generalize (leafIdx l)[n] = y0 at *
          have HR := Lib.hid hres
          have HU := Lib.hid hue
          clear hc hrl hres hue hrs
          go_wp2
          clear hlk hc0
          go_loopg [11] (l.length + 2) (InRel3 w5 l a res)
          case atStart => exact ⟨rfl, .inl ⟨y0, hyl, rfl, HU.out, HR.out⟩⟩
          clear HU HR
          case round =>
            obtain ⟨hw, hrel⟩ := hrel
            subst hw
            rcases hrel with ⟨y, hy, rfl, hup, hlr⟩ | ⟨rfl, hres⟩
            · obtain ⟨m, rfl⟩ : ∃ m, gk = m + 1 := by
                cases gk with
                | zero => exact absurd hup (by simp [upN])
                | succ m => exact ⟨m, rfl⟩
              rw [liesF] at hlr
              rw [upN] at hup
              have hlk := run_lookup_map tMapB kInt zBool HM.out (y : Int) true
              rw [nmK_find g ga hy] at hlk
              have hy0 : (0 : Int) ≤ (y : Int) := by omega
              have hy1 : (y : Int) < (l.length : Int) := by omega
              have hcu : wr.cell? ⟨g1, y, none⟩ = some (.int .i64 (upI l y)) := (HB.out.cell hg1W).trans (HWR.out.up y hy)
              cases hf : findA a (nmAt l y) with
              | some xa =>
                rw [hf] at hlk hlr
                simp only [if_true, Option.map_some, Option.getD_some, Option.isSome_some] at hlk
                have hlr' : (!xa.out) = res := hlr
                rw [hlr'] at hlk
                have hco : wr.cell? ⟨go, n, none⟩ = some (.bool false) := by
                  rw [cell_of_row _ go n _ _ _ HP.out, bArr_get _ _ hlt]; simp
                have hfo := frozen_of_row wr go n _ _ HP.out
                have HBS := Lib.hid (bArr_set (inL l a) hlt)
                clear hf hlr hlr' hup
                go_wp2
                go_roundg (gk1 - 1)
                case measure => have := HK.out; omega
                case rel =>
                  refine ⟨n + 1, by have := HK.out; omega, by go_num, ?_, ?_, ?_⟩
                  · exact HM.out.setCell (a := ⟨go, n, none⟩) (fun e => by have := map_ne_cells' HM.out HP.out; exact this e.symm) _
                  · have e := HBS.out
                    rw [HRS.out] at e
                    rw [← e]
                    exact heap_setCell_same _ go n _ _ _ HP.out
                  · exact HB.out.setCell (p := ⟨go, n, none⟩) hgo _
              | none =>
                rw [hf] at hlk hlr
                simp only [if_true, Option.map_none, Option.getD_none, Option.isSome_none] at hlk
                have HLR := Lib.hid hlr
                have HUP := Lib.hid hup
                clear hf hlr hup
                go_wp2
                have hlr := HLR.out
                have hup := HUP.out
                cases hu : up l y with
                | none =>
                  rw [hu] at hlr
                  go_roundg m
                  case measure => omega
                  case rel => exact ⟨rfl, .inr ⟨by rw [upI, hu], hlr.symm⟩⟩
                | some y' =>
                  rw [hu] at hlr hup
                  have hyl' := (up_lt hu).2
                  go_roundg m
                  case measure => omega
                  case rel => exact ⟨rfl, .inl ⟨y', hyl', by rw [upI, hu], hup, hlr⟩⟩
            · have HS := Lib.hid hres
              clear hres
              go_wp2
              go_roundg (gk1 - 1)
              case measure => have := HK.out; omega
              case rel =>
                refine ⟨n + 1, by have := HK.out; omega, by go_num, HM.out, ?_, HB.out⟩
                rw [bArr_skip _ hlt (by rw [HRS.out, HS.out])]
                exact HP.out
        · obtain rfl : n = (inL l a).length := by omega
          clear HK hk1 hlt
          go_wp2
          go_ret
          exact ⟨_, _, rfl, HP.out, below_trans HWb.out HB.out⟩
end Go.Proofs.YtnjepmbonhmdnaaDoor
