/- Package right (places): Leaves. -/
import Derived.Test.YtnjepmbonhmdnaaDoorPgL
import Derived.Test.YtnjepmbonhmdnaaDoorRefH
namespace Go.Proofs.YtnjepmbonhmdnaaDoor
open Go.RowKit Dw

theorem areasF_1 (l : List Rg) (a : List Ar) : areasF l [a] = if chkR l ≠ 0 then chkR l else chkA l a := by
  unfold areasF
  by_cases h : chkR l = 0
  · by_cases h2 : chkA l a = 0
    · simp [h, h2]
    · simp [h, h2]
  · simp [h]
def lvTo (l : List Rg) (a : List Ar) (k : Nat) : List ByteArray := (((leafIdx l).take k).filter (lies l a)).map (nmAt l)
theorem lvTo_succ {l : List Rg} {a : List Ar} {k : Nat} (h : k < (leafIdx l).length) : lvTo l a (k + 1) = lvTo l a k ++ if lies l a (leafIdx l)[k] then [nmAt l (leafIdx l)[k]] else [] := by
  unfold lvTo
  rw [List.take_succ_eq_append_getElem h, List.filter_append, List.map_append]
  congr 1
  cases hl : lies l a (leafIdx l)[k] <;> simp [hl]
theorem lvTo_le (l : List Rg) (a : List Ar) (k : Nat) : (lvTo l a k).length ≤ k := by
  unfold lvTo
  rw [List.length_map]
  refine Nat.le_trans (List.length_filter_le _ _) ?_
  rw [List.length_take]
  omega
def LvRel (W : World) (l : List Rg) (a : List Ar) (m : Nat) (out i : Value) (wr : World) : Prop :=
  ∃ k : Nat, k + m = (leafIdx l).length ∧ i = .int .i64 k ∧ OwnL encS 1 wr W.heap.size 9 out (lvTo l a k) ∧ Below W.heap.size W wr

set_option maxHeartbeats 1000000 in
theorem Leaves_c (A A2 : Option Addr) (c c2 : Nat) (l : List Rg) (a : List Ar) (w : World) (h : Rgs w A l) (h2 : Ars w A2 a) (hz : ∀ i (h : i < l.length), (l[i]).nm.size ≤ 9223372036854775807) :
    Calls Tryd.prog 6 #[.slice A l.length c, .slice A2 a.length c2] w (GivesS2 (leavesS l a) w) := by
  have hwb : Below w.heap.size w (w.alloc (.cells #[.slice A2 a.length c2] 23)) := (Below.refl _ _).alloc (Nat.le_refl _) _
  have hsl : SlA (w.alloc (.cells #[.slice A2 a.length c2] 23)) (some ⟨w.heap.size, 0, none⟩) [a] :=
    ⟨w.heap.size, 0, rfl, by simp, fun i hi => by
      have : i = 0 := by simp at hi; omega
      subst this
      exact ⟨A2, c2, by rw [cell_of_row _ w.heap.size _ _ _ _ (heap_alloc_new _ _)]; rfl, h2.below hwb⟩⟩
  generalize hres : leavesS l a = res
  have HR := Lib.hid hres
  clear hres
  go_enter Tryd.func6, Tryd.ntmps6
  go_wp2_with fail
  refine (areas_c A (some ⟨w.heap.size, 0, none⟩) c 1 l [a] _ (h.below hwb) hz hsl (by simp)).mono ?_
  rintro e w1 ⟨hb1, ⟨hf, rfl⟩ | ⟨hr, hc, r1, r2, g1, g2, AL, cL, O, co, vs, rfl, hwr, hvl, hrd, hsets⟩⟩
  · have hw1 : Below w.heap.size w w1 := below_trans hwb hb1
    have hrs : res = ([], areasF l [a]) := by
      rw [← HR.out, leavesS]
      rw [areasF_1] at hf ⊢
      by_cases hq : chkR l = 0
      · rw [if_neg (by simp [hq])] at hf
        simp [hq, hf]
      · simp [hq]
    have HS := Lib.hid hrs
    generalize areasF l [a] = f at *
    have hfb : (f != 0) = true := by simpa using hf
    have HB := Lib.hid (hw1.alloc hw1.size (.cells #[nilSl, .map none, nilSl, .map none, nilSl, nilSl] 45))
    clear hrs hf hb1 hw1 hwb hsl h h2
    unfold zw
    go_wp2
    go_ret2
    exact GivesS2.err HS.out HB.out
  · have hw1 : Below w.heap.size w w1 := below_trans hwb hb1
    have g := good_of hr
    have hn := g.len
    have ha0 : chkA l a = 0 := hc 0 (by simp)
    have hrs : res = (leavesOf l a, 0) := by
      rw [← HR.out, leavesS]
      simp [hr, ha0]
    have HS := Lib.hid hrs
    clear hrs hb1 hwb hsl h h2 hc ha0 hr
    obtain ⟨v0, hv0⟩ : ∃ v0, vs = [v0] := by
      match vs, hvl with
      | [v0], _ => exact ⟨v0, rfl⟩
    subst hv0
    obtain ⟨a', ha', gi, ci, rfl, hgi⟩ := hsets 0 v0 rfl
    have : a' = a := by simpa using ha'.symm
    subst this
    obtain ⟨bo, oo, rfl, hbo, hco⟩ := hrd.at_ (by simp)
    have hco0 : w1.cell? ⟨bo, oo, none⟩ = some (.slice (some ⟨gi, 0, none⟩) (inL l a').length ci) := hco 0 (by simp)
    clear hco hsets hvl ha' hrd
    unfold wv
    go_wp2
    have hgl : (gath l (fun i => !isPar l i) l.length).length = (leafIdx l).length := by rw [gath_len l a', inL, List.length_map]
    have hil : (leafIdx l).length ≤ 200 := Nat.le_trans (leafTo_le l l.length) hn
    rw [hgl]
    have HGL := Lib.hid hgl
    clear hgl
    generalize hW : w1.alloc (.cells #[.slice A l.length c, .map (some r1), .slice AL (leafIdx l).length cL, .map (some r2), .slice (some ⟨g1, 0, none⟩) l.length l.length, .slice (some ⟨g2, 0, none⟩) l.length l.length] 45) = W
    have hWb : Below w1.heap.size w1 W := by rw [← hW]; exact (Below.refl _ _).alloc (Nat.le_refl _) _
    have HLV := Lib.hid (hwr.lv.below hWb)
    have hgW : gi < W.heap.size := Nat.lt_of_lt_of_le (lt_of_heap hgi) hWb.size
    have HGI := Lib.hid ((hWb.block _ (lt_of_heap hgi)).trans hgi)
    have hboW : bo < W.heap.size := Nat.lt_of_lt_of_le hbo hWb.size
    have hcoW := (hWb.cell hbo).trans hco0
    have HWb := Lib.hid (below_trans hw1 hWb)
    clear hW hWb hwr hgi hbo hco0 hw1
    obtain ⟨s6, hs6⟩ : ∃ s6, s6 = w1.heap.size := ⟨_, rfl⟩
    rw [← hs6]
    clear hs6
    clear w1
    have hinl : (inL l a').length = (leafIdx l).length := by rw [inL, List.length_map]
    rw [hinl] at hcoW
    have HIN := Lib.hid hinl
    clear hinl
    go_loopg [9, 26] (leafIdx l).length (LvRel W l a')
    case atStart => exact ⟨0, by omega, rfl, OwnL.nil _ _ _ _ _, Below.refl _ _⟩
    case round =>
      obtain ⟨k, hk, rfl, hown, hbel⟩ := hrel
      have HK := Lib.hid hk
      have hk1 : k ≤ (leafIdx l).length := by omega
      clear hk
      by_cases hlt : k < (leafIdx l).length
      · have hltG : k < (gath l (fun i => !isPar l i) l.length).length := by rw [HGL.out]; exact hlt
        obtain ⟨b, o, rfl, hb, hc⟩ := HLV.out.at_ (by omega)
        have hyl := leafIdx_lt hlt
        have hc0 : wr.cell? ⟨b, o + k, none⟩ = some (.string (nmAt l (leafIdx l)[k])) := by
          rw [hbel.cell hb, hc k hltG, gath_get l hltG hlt]
        have hbr : b < wr.heap.size := Nat.lt_of_lt_of_le hb hbel.size
        have hcor := (hbel.cell hboW).trans hcoW
        have hbor : bo < wr.heap.size := Nat.lt_of_lt_of_le hboW hbel.size
        have hgr : gi < wr.heap.size := Nat.lt_of_lt_of_le hgW hbel.size
        have hcs : wr.cell? ⟨gi, k, none⟩ = some (.bool (lies l a' (leafIdx l)[k])) := by
          rw [hbel.cell hgW, cell_of_row _ gi k _ _ _ HGI.out, bArr_get _ _ (by rw [HIN.out]; exact hlt)]
          simp [inL, hlt]
        have hle := lvTo_le l a' k
        have hwr : W.heap.size ≤ wr.heap.size := hbel.size
        have HSU := Lib.hid (lvTo_succ (a := a') hlt)
        clear hc
        generalize hx : nmAt l (leafIdx l)[k] = nm at *
        cases hq : lies l a' (leafIdx l)[k] with
        | false =>
          rw [hq] at hcs
          have HQ := Lib.hid hq
          have HO := Lib.hid hown
          have HB := Lib.hid hbel
          clear hq hown hbel hx
          go_wp2
          go_roundg (gk - 1)
          case measure => have := HK.out; omega
          case rel => exact ⟨k + 1, by have := HK.out; omega, by go_num, by rw [HSU.out, HQ.out]; simpa using HO.out, HB.out⟩
        | true =>
          rw [hq] at hcs
          have HQ := Lib.hid hq
          clear hq hx
          go_wp2_with (at_builtin; refine wpList_push _ _ _ elStr rfl rfl W.heap.size _ (lvTo l a' k) rfl (hown.alloc _) wr.heap.size 1 nm rfl (heap_alloc_new _ _) rfl (by simp [Value.oneCell']) (by unfold maxLen; omega) (by omega) (by simp; omega) ?_; intro v1 w2 hown2 hg2 hb2)
          have HO := Lib.hid hown2
          have HB := Lib.hid ((hbel.alloc hwr _).trans hb2)
          clear hown hbel hown2 hg2 hb2
          go_wp2
          go_roundg (gk - 1)
          case measure => have := HK.out; omega
          case rel => exact ⟨k + 1, by have := HK.out; omega, by go_num, by rw [HSU.out, HQ.out]; simpa using HO.out, HB.out⟩
      · have hke : k = (leafIdx l).length := by omega
        have e : lvTo l a' k = leavesOf l a' := by rw [hke, lvTo, List.take_length]; rfl
        rw [e] at hown
        obtain ⟨A', c', rfl, hrd⟩ := hown.rd1
        have HB := Lib.hid (below_trans HWb.out hbel)
        have HD := Lib.hid hrd
        clear e hown hrd hbel hke
        go_wp2
        go_ret2
        exact GivesS2.ok HS.out HD.out HB.out
end Go.Proofs.YtnjepmbonhmdnaaDoor
