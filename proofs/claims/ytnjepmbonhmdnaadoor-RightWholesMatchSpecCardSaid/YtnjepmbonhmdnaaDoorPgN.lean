/- Package right (places): together, Plain, Union, Meet, Without. -/
import Derived.Test.YtnjepmbonhmdnaaDoorPgM
import Derived.StillTailTactics
import Derived.Shelf.Abstract
namespace Go.Proofs.YtnjepmbonhmdnaaDoor
open Go.RowKit Dw

theorem areasF_2 (l : List Rg) (a b : List Ar) : areasF l [a, b] = if chkR l ≠ 0 then chkR l else if chkA l a ≠ 0 then chkA l a else chkA l b := by
  unfold areasF
  by_cases h : chkR l = 0
  · by_cases h2 : chkA l a = 0
    · by_cases h3 : chkA l b = 0
      · simp [h, h2, h3]
      · simp [h, h2, h3]
    · simp [h, h2]
  · simp [h]
def TgRel (W : World) (M : List Bool) (m : Nat) (i : Value) (wr : World) : Prop :=
  ∃ k : Nat, k + m = M.length ∧ i = .int .i64 k ∧ wr.heap[W.heap.size]? = some (.cells (bArr M k) 4 (0, 0)) ∧ Below W.heap.size W wr

set_option maxHeartbeats 1000000 in
set_option maxRecDepth 100000 in
theorem together_c (fid : FuncId) (op : Bool → Bool → Bool) (hen : ∀ (args : Array Value) (w : World), (callFunc fid args).run Tryd.prog w = .ok (.enter fid args) w) (hkp : ∀ (x y : Bool) (w : World), Calls Tryd.prog fid #[.bool x, .bool y] w (Gives (.bool (op x y)) w))
    (A A2 A3 : Option Addr) (c c2 c3 : Nat) (l : List Rg) (a b : List Ar) (w : World) (h : Rgs w A l) (h2 : Ars w A2 a) (h3 : Ars w A3 b) (hz : ∀ i (h : i < l.length), (l[i]).nm.size ≤ 9223372036854775807) :
    Calls Tryd.prog 29 #[.slice A l.length c, .slice A2 a.length c2, .slice A3 b.length c3, .func (.func fid) #[] #[]] w (GivesA2 (togetherS op l a b) w) := by
  have hwb : Below w.heap.size w (w.alloc (.cells #[.slice A2 a.length c2, .slice A3 b.length c3] 23)) := (Below.refl _ _).alloc (Nat.le_refl _) _
  have hsl : SlA (w.alloc (.cells #[.slice A2 a.length c2, .slice A3 b.length c3] 23)) (some ⟨w.heap.size, 0, none⟩) [a, b] :=
    ⟨w.heap.size, 0, rfl, by simp, fun i hi => by
      match i, hi with
      | 0, _ => exact ⟨A2, c2, by rw [cell_of_row _ w.heap.size _ _ _ _ (heap_alloc_new _ _)]; rfl, h2.below hwb⟩
      | 1, _ => exact ⟨A3, c3, by rw [cell_of_row _ w.heap.size _ _ _ _ (heap_alloc_new _ _)]; rfl, h3.below hwb⟩⟩
  generalize hres : togetherS op l a b = res
  have HR := Lib.hid hres
  clear hres
  go_enter Tryd.func29, Tryd.ntmps29
  go_wp2_with fail
  refine (areas_c A (some ⟨w.heap.size, 0, none⟩) c 2 l [a, b] _ (h.below hwb) hz hsl (by simp)).mono ?_
  rintro e w1 ⟨hb1, ⟨hf, rfl⟩ | ⟨hr, hc, r1, r2, g1, g2, AL, cL, O, co, vs, rfl, hwr, hvl, hrd, hsets⟩⟩
  · have hw1 : Below w.heap.size w w1 := below_trans hwb hb1
    have hrs : res = ([], areasF l [a, b]) := by
      rw [← HR.out, togetherS]
      rw [areasF_2] at hf ⊢
      by_cases hq : chkR l = 0
      · by_cases hq2 : chkA l a = 0
        · rw [if_neg (by simp [hq]), if_neg (by simp [hq2])] at hf
          simp [hq, hq2, hf]
        · simp [hq, hq2]
      · simp [hq]
    have HS := Lib.hid hrs
    generalize areasF l [a, b] = f at *
    have hfb : (f != 0) = true := by simpa using hf
    have HB := Lib.hid (hw1.alloc hw1.size (.cells #[nilSl, .map none, nilSl, .map none, nilSl, nilSl] 45))
    clear hrs hf hb1 hw1 hwb hsl h h2
    unfold zw
    go_wp2
    go_ret2
    exact GivesA2.err HS.out HB.out
  · have hw1 : Below w.heap.size w w1 := below_trans hwb hb1
    have g := good_of hr
    have hn := g.len
    have ha0 : chkA l a = 0 := hc 0 (by simp)
    have hb0 : chkA l b = 0 := hc 1 (by simp)
    obtain ⟨S, hS⟩ : ∃ S : Nat → Bool, S = fun i => op (lies l a i) (lies l b i) := ⟨_, rfl⟩
    have hrs : res = if 100 < (plainOf l S).length then ([], 2) else (plainOf l S, 0) := by
      rw [← HR.out, togetherS, hS]
      simp [hr, ha0, hb0]
    have HS := Lib.hid hrs
    have HSS := Lib.hid hS
    clear hrs hb1 hwb hsl h h2 hc ha0 hr hS hb0
    obtain ⟨v0, v1, hv0⟩ : ∃ v0 v1, vs = [v0, v1] := by
      match vs, hvl with
      | [v0, v1], _ => exact ⟨v0, v1, rfl⟩
    subst hv0
    obtain ⟨a', ha', gi, ci, rfl, hgi⟩ := hsets 0 v0 rfl
    have : a' = a := by simpa using ha'.symm
    subst this
    obtain ⟨b', hb', gj, cj, rfl, hgj⟩ := hsets 1 v1 rfl
    have : b' = b := by simpa using hb'.symm
    subst this
    obtain ⟨bo, oo, rfl, hbo, hco⟩ := hrd.at_ (by simp)
    have hco0 : w1.cell? ⟨bo, oo, none⟩ = some (.slice (some ⟨gi, 0, none⟩) (inL l a').length ci) := hco 0 (by simp)
    have hco1 : w1.cell? ⟨bo, oo + 1, none⟩ = some (.slice (some ⟨gj, 0, none⟩) (inL l b').length cj) := hco 1 (by simp)
    clear hco hsets hvl ha' hb' hrd
    have hil : (leafIdx l).length ≤ 200 := Nat.le_trans (leafTo_le l l.length) hn
    have hmk := run_make_n _ _ elSet (leafIdx l).length (by omega) (by omega) rfl
    have hgl : (gath l (fun i => !isPar l i) l.length).length = (leafIdx l).length := by rw [gath_len l a', inL, List.length_map]
    unfold wv
    rw [hgl]
    have HGL := Lib.hid hgl
    clear hgl
    go_wp2
    clear hmk
    generalize hW : w1.alloc (.cells #[.slice A l.length c, .map (some r1), .slice AL (leafIdx l).length cL, .map (some r2), .slice (some ⟨g1, 0, none⟩) l.length l.length, .slice (some ⟨g2, 0, none⟩) l.length l.length] 45) = W
    have hWr := heap_alloc_new w1 (.cells #[.slice A l.length c, .map (some r1), .slice AL (leafIdx l).length cL, .map (some r2), .slice (some ⟨g1, 0, none⟩) l.length l.length, .slice (some ⟨g2, 0, none⟩) l.length l.length] 45)
    rw [hW] at hWr
    have hWs : W.heap.size = w1.heap.size + 1 := by rw [← hW]; simp
    have hWb : Below w1.heap.size w1 W := by rw [← hW]; exact (Below.refl _ _).alloc (Nat.le_refl _) _
    rw [← hWs]
    have HWR := Lib.hid (hwr.below hWb)
    have HRow := Lib.hid hWr
    have hsW := lt_of_heap hWr
    have hgiW : gi < W.heap.size := Nat.lt_of_lt_of_le (lt_of_heap hgi) hWb.size
    have hgjW : gj < W.heap.size := Nat.lt_of_lt_of_le (lt_of_heap hgj) hWb.size
    have HGI := Lib.hid ((hWb.block _ (lt_of_heap hgi)).trans hgi)
    have HGJ := Lib.hid ((hWb.block _ (lt_of_heap hgj)).trans hgj)
    have hboW : bo < W.heap.size := Nat.lt_of_lt_of_le hbo hWb.size
    have hcoW0 := (hWb.cell hbo).trans hco0
    have hcoW1 := (hWb.cell hbo).trans hco1
    have HWb := Lib.hid (below_trans hw1 hWb)
    clear hW hWb hwr hgi hgj hbo hco0 hco1 hw1 hWr hWs
    obtain ⟨s6, hs6⟩ : ∃ s6, s6 = w1.heap.size := ⟨_, rfl⟩
    rw [← hs6] at HRow hsW ⊢
    clear hs6
    clear w1
    have hinla : (inL l a').length = (leafIdx l).length := by rw [inL, List.length_map]
    have hinlb : (inL l b').length = (leafIdx l).length := by rw [inL, List.length_map]
    rw [hinla] at hcoW0
    rw [hinlb] at hcoW1
    have HINA := Lib.hid hinla
    have HINB := Lib.hid hinlb
    clear hinla hinlb
    have hML : ((leafIdx l).map S).length = (leafIdx l).length := by rw [List.length_map]
    have HML := Lib.hid hML
    have hp0 : (W.alloc (.cells (Array.replicate (leafIdx l).length (.bool false)) 4)).heap[W.heap.size]? = some (.cells (bArr ((leafIdx l).map S) 0) 4 (0, 0)) := by
      rw [← bArr_0, hML]; exact heap_alloc_new _ _
    have HP0 := Lib.hid hp0
    clear hp0 hML
    go_loopg [34] (leafIdx l).length (TgRel W ((leafIdx l).map S))
    case atStart => exact ⟨0, by have := HML.out; omega, rfl, HP0.out, (Below.refl _ _).alloc (Nat.le_refl _) _⟩
    clear HP0
    case round =>
      obtain ⟨k, hk, rfl, hrow, hbel⟩ := hrel
      rw [HML.out] at hk
      have HK := Lib.hid hk
      have HP := Lib.hid hrow
      have HB := Lib.hid hbel
      have hk1 : k ≤ (leafIdx l).length := by omega
      have hWl : W.heap.size < wr.heap.size := lt_of_heap hrow
      clear hk hrow hbel
      by_cases hlt : k < (leafIdx l).length
      · have hcor0 := (HB.out.cell hboW).trans hcoW0
        have hcor1 := (HB.out.cell hboW).trans hcoW1
        have hbor : bo < wr.heap.size := Nat.lt_of_lt_of_le hboW HB.out.size
        have hgir : gi < wr.heap.size := Nat.lt_of_lt_of_le hgiW HB.out.size
        have hgjr : gj < wr.heap.size := Nat.lt_of_lt_of_le hgjW HB.out.size
        have hcs0 : wr.cell? ⟨gi, k, none⟩ = some (.bool (lies l a' (leafIdx l)[k])) := by
          rw [HB.out.cell hgiW, cell_of_row _ gi k _ _ _ HGI.out, bArr_get _ _ (by rw [HINA.out]; exact hlt)]
          simp [inL, hlt]
        have hcs1 : wr.cell? ⟨gj, k, none⟩ = some (.bool (lies l b' (leafIdx l)[k])) := by
          rw [HB.out.cell hgjW, cell_of_row _ gj k _ _ _ HGJ.out, bArr_get _ _ (by rw [HINB.out]; exact hlt)]
          simp [inL, hlt]
        have hco : wr.cell? ⟨W.heap.size, k, none⟩ = some (.bool false) := by
          rw [cell_of_row _ W.heap.size k _ _ _ HP.out, bArr_get _ _ (by rw [HML.out]; exact hlt)]; simp
        have hfo := frozen_of_row wr W.heap.size k _ _ HP.out
        have hS : S (leafIdx l)[k] = op (lies l a' (leafIdx l)[k]) (lies l b' (leafIdx l)[k]) := by rw [HSS.out]
        have HSk := Lib.hid hS
        clear hS
        generalize hxa : lies l a' (leafIdx l)[k] = xa at *
        generalize hxb : lies l b' (leafIdx l)[k] = xb at *
        clear hxa hxb
        go_wp2
        refine wp_region_still_tail 17 (by kernel_rfl) (by kernel_rfl) ?_
        simp only [List.take_succ_cons, List.take_zero, List.drop_succ_cons, List.drop_zero]
        repeat still_step
        refine wpStill_step (fun K hK => ?_)
        go_simp
        refine ⟨.bool (op xa xb), (hkp _ _ _).mono (fun _ _ h => ⟨h.1, h.2.symm⟩), hK _ ?_⟩
        clear hK K
        repeat still_step
        refine wpStill_nil ?_
        change wpList _ _ _ _ _ wr.drew
        have HBS := Lib.hid (bArr_set ((leafIdx l).map S) (k := k) (by rw [HML.out]; exact hlt))
        go_wp2
        go_roundg (gk - 1)
        case measure => have := HK.out; omega
        case rel =>
          refine ⟨k + 1, by have := HK.out; have := HML.out; omega, by go_num, ?_, ?_⟩
          · have e2 := HBS.out
            have e3 : ((leafIdx l).map S)[k]'(by rw [HML.out]; exact hlt) = op xa xb := by rw [List.getElem_map]; exact HSk.out
            rw [e3] at e2
            rw [← e2]
            exact heap_setCell_same wr W.heap.size k _ _ _ HP.out
          · exact below_drewN (HB.out.setCell (p := ⟨W.heap.size, k, none⟩) (Nat.le_refl _) _) 1
      · have hke : k = (leafIdx l).length := by omega
        have hrow2 : wr.heap[W.heap.size]? = some (.cells (bArr ((leafIdx l).map S) ((leafIdx l).map S).length) 4 (0, 0)) := by
          rw [HML.out, ← hke]; exact HP.out
        have hrow6 := (HB.out.block _ hsW).trans HRow.out
        obtain ⟨hs0, hs1, hs2, hs3, hs4, hs5⟩ := six_cells hrow6
        have hs6r : s6 < wr.heap.size := Nat.lt_of_lt_of_le hsW HB.out.size
        have hpl := plain_c A (some ⟨W.heap.size, 0, none⟩) c r1 r2 g1 g2 AL cL (leafIdx l).length l S wr g (HWR.out.below HB.out) (bArr_rd hrow2)
        unfold wv at hpl
        rw [HGL.out, HML.out] at hpl
        clear hrow2 hrow6 hke
        go_wp2_with fail
        refine hpl.mono ?_
        rintro e w2 ⟨Ap, cp, rfl, hrd, hb2⟩
        have HB2 := Lib.hid (HWb.out.trans ((below_trans HB.out hb2).mono HWb.out.size))
        have HD := Lib.hid hrd
        clear hpl hs0 hs1 hs2 hs3 hs4 hs5 hs6r hb2 hrd
        by_cases hbig : 100 < (plainOf l S).length
        · have hrs := HS.out
          rw [if_pos hbig] at hrs
          have HQ := Lib.hid hrs
          clear hrs
          go_wp2
          go_ret2
          exact GivesA2.err HQ.out HB2.out
        · have hrs := HS.out
          rw [if_neg hbig] at hrs
          have HQ := Lib.hid hrs
          clear hrs
          go_wp2
          go_ret2
          exact GivesA2.ok HQ.out HD.out HB2.out

set_option maxHeartbeats 400000 in
theorem keepP (x y : Bool) (w : World) : Calls Tryd.prog 30 #[.bool x, .bool y] w (Gives (.bool x) w) := by
  go_enter Tryd.func30, Tryd.ntmps30
  go_wp2
  go_ret
  exact Gives.mk rfl rfl
set_option maxHeartbeats 400000 in
theorem keepU (x y : Bool) (w : World) : Calls Tryd.prog 32 #[.bool x, .bool y] w (Gives (.bool (x || y)) w) := by
  cases x <;>
  · go_enter Tryd.func32, Tryd.ntmps32
    go_wp2
    go_ret
    exact Gives.mk (by simp) rfl
set_option maxHeartbeats 400000 in
theorem keepM (x y : Bool) (w : World) : Calls Tryd.prog 33 #[.bool x, .bool y] w (Gives (.bool (x && y)) w) := by
  cases x <;>
  · go_enter Tryd.func33, Tryd.ntmps33
    go_wp2
    go_ret
    exact Gives.mk (by simp) rfl
set_option maxHeartbeats 400000 in
theorem keepW (x y : Bool) (w : World) : Calls Tryd.prog 34 #[.bool x, .bool y] w (Gives (.bool (x && !y)) w) := by
  cases x <;>
  · go_enter Tryd.func34, Tryd.ntmps34
    go_wp2
    go_ret
    exact Gives.mk (by simp) rfl
theorem liesF_nil (l : List Rg) : ∀ (f i : Nat), liesF l [] f i = false
  | 0, _ => rfl
  | f + 1, i => by
    rw [liesF]
    have : findA [] (nmAt l i) = none := rfl
    rw [this]
    cases hu : up l i with
    | none => rfl
    | some j => exact liesF_nil l f j
theorem plain_op (l : List Rg) (a : List Ar) : togetherS (fun x _ => x) l a [] = togetherS (opOf 1) l a [] := by
  have e : (fun i => opOf 1 (lies l a i) (lies l [] i)) = fun i => lies l a i := by
    funext i
    have : lies l [] i = false := liesF_nil l _ i
    simp [opOf, this]
  unfold togetherS
  rw [e]

set_option maxHeartbeats 400000 in
theorem Plain_c (A A2 : Option Addr) (c c2 : Nat) (l : List Rg) (a : List Ar) (w : World) (h : Rgs w A l) (h2 : Ars w A2 a) (hz : ∀ i (h : i < l.length), (l[i]).nm.size ≤ 9223372036854775807) :
    Calls Tryd.prog 11 #[.slice A l.length c, .slice A2 a.length c2] w (GivesA2 (togetherS (opOf 1) l a []) w) := by
  rw [← plain_op]
  go_enter Tryd.func11, Tryd.ntmps11
  go_wp2_with fail
  refine (together_c 30 (fun x _ => x) (enters_of Tryd.func30 (by kernel_rfl) rfl) keepP A A2 none c c2 0 l a [] w h h2 Rd2.nil hz).mono ?_
  rintro e w1 ⟨A1, c1, rfl, hx, hb⟩
  go_wp2
  go_ret2
  exact ⟨A1, c1, rfl, hx, hb⟩

set_option maxHeartbeats 400000 in
theorem Union_c (A A2 A3 : Option Addr) (c c2 c3 : Nat) (l : List Rg) (a b : List Ar) (w : World) (h : Rgs w A l) (h2 : Ars w A2 a) (h3 : Ars w A3 b) (hz : ∀ i (h : i < l.length), (l[i]).nm.size ≤ 9223372036854775807) :
    Calls Tryd.prog 14 #[.slice A l.length c, .slice A2 a.length c2, .slice A3 b.length c3] w (GivesA2 (togetherS (opOf 1) l a b) w) := by
  go_enter Tryd.func14, Tryd.ntmps14
  go_wp2_with fail
  refine (together_c 32 (opOf 1) (enters_of Tryd.func32 (by kernel_rfl) rfl) (fun x y w => (keepU x y w)) A A2 A3 c c2 c3 l a b w h h2 h3 hz).mono ?_
  rintro e w1 ⟨A1, c1, rfl, hx, hb⟩
  go_wp2
  go_ret2
  exact ⟨A1, c1, rfl, hx, hb⟩

set_option maxHeartbeats 400000 in
theorem Meet_c (A A2 A3 : Option Addr) (c c2 c3 : Nat) (l : List Rg) (a b : List Ar) (w : World) (h : Rgs w A l) (h2 : Ars w A2 a) (h3 : Ars w A3 b) (hz : ∀ i (h : i < l.length), (l[i]).nm.size ≤ 9223372036854775807) :
    Calls Tryd.prog 16 #[.slice A l.length c, .slice A2 a.length c2, .slice A3 b.length c3] w (GivesA2 (togetherS (opOf 2) l a b) w) := by
  go_enter Tryd.func16, Tryd.ntmps16
  go_wp2_with fail
  refine (together_c 33 (opOf 2) (enters_of Tryd.func33 (by kernel_rfl) rfl) (fun x y w => (keepM x y w)) A A2 A3 c c2 c3 l a b w h h2 h3 hz).mono ?_
  rintro e w1 ⟨A1, c1, rfl, hx, hb⟩
  go_wp2
  go_ret2
  exact ⟨A1, c1, rfl, hx, hb⟩

set_option maxHeartbeats 400000 in
theorem Without_c (A A2 A3 : Option Addr) (c c2 c3 : Nat) (l : List Rg) (a b : List Ar) (w : World) (h : Rgs w A l) (h2 : Ars w A2 a) (h3 : Ars w A3 b) (hz : ∀ i (h : i < l.length), (l[i]).nm.size ≤ 9223372036854775807) :
    Calls Tryd.prog 18 #[.slice A l.length c, .slice A2 a.length c2, .slice A3 b.length c3] w (GivesA2 (togetherS (opOf 3) l a b) w) := by
  go_enter Tryd.func18, Tryd.ntmps18
  go_wp2_with fail
  refine (together_c 34 (opOf 3) (enters_of Tryd.func34 (by kernel_rfl) rfl) (fun x y w => (keepW x y w)) A A2 A3 c c2 c3 l a b w h h2 h3 hz).mono ?_
  rintro e w1 ⟨A1, c1, rfl, hx, hb⟩
  go_wp2
  go_ret2
  exact ⟨A1, c1, rfl, hx, hb⟩
end Go.Proofs.YtnjepmbonhmdnaaDoor
