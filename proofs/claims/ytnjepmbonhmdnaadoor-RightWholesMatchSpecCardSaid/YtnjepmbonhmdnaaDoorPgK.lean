/- Package right (places): plain of a world. -/
import Derived.Test.YtnjepmbonhmdnaaDoorPgJ
namespace Go.Proofs.YtnjepmbonhmdnaaDoor
open Go.RowKit Dw

def fullL (l : List Rg) (S : Nat → Bool) : List Bool := (List.range l.length).map (fullP l S)
theorem fullL_len (l : List Rg) (S : Nat → Bool) : (fullL l S).length = l.length := by simp [fullL]
theorem mem_zip {L : List Nat} {p : Nat × Nat} : p ∈ L.zipIdx ↔ ∃ h : p.2 < L.length, L[p.2] = p.1 := by
  rw [List.mem_zipIdx_iff_getElem?]
  rw [List.getElem?_eq_some_iff]
theorem below_off (l : List Rg) (S : Nat → Bool) (x : Nat) : (!(belowK l l.length x).any (offM ((leafIdx l).map S))) = fullP l S x := by
  have e : leafTo l l.length = leafIdx l := rfl
  unfold belowK fullP
  rw [e, Bool.eq_iff_iff]
  simp only [Bool.not_eq_true', List.any_eq_false, List.all_eq_true]
  constructor
  · intro h i hi
    obtain ⟨n, hn, rfl⟩ := List.getElem_of_mem hi
    cases hu : under l (leafIdx l)[n] x with
    | false => rfl
    | true =>
      have := h (n : Int) (List.mem_map.2 ⟨((leafIdx l)[n], n), List.mem_filter.2 ⟨mem_zip.2 ⟨hn, rfl⟩, hu⟩, rfl⟩)
      simpa [offM, hn] using this
  · intro h z hz
    obtain ⟨p, hp, rfl⟩ := List.mem_map.1 hz
    obtain ⟨hp1, hp2⟩ := List.mem_filter.1 hp
    obtain ⟨hlt, he⟩ := mem_zip.1 hp1
    have := h p.1 (by rw [← he]; exact List.getElem_mem hlt)
    rw [hp2] at this
    have hs : S p.1 = true := by simpa using this
    have e2 : offM ((leafIdx l).map S) (p.2 : Int) = !(S (leafIdx l)[p.2]) := by simp [offM, hlt]
    rw [e2, he, hs]
    simp
theorem below_lt (l : List Rg) (S : Nat → Bool) (x : Nat) (j : Nat) (h : j < (belowK l l.length x).length) : ∃ n : Nat, (belowK l l.length x)[j] = (n : Int) ∧ n < ((leafIdx l).map S).length := by
  have hm := List.getElem_mem h
  generalize (belowK l l.length x)[j] = z at hm
  unfold belowK at hm
  obtain ⟨p, hp, rfl⟩ := List.mem_map.1 hm
  obtain ⟨hp1, hp2⟩ := List.mem_filter.1 hp
  obtain ⟨hlt, he⟩ := mem_zip.1 hp1
  exact ⟨p.2, rfl, by rw [List.length_map]; exact hlt⟩

def PlRel1 (W : World) (l : List Rg) (S : Nat → Bool) (go : Nat) (m : Nat) (i : Value) (wr : World) : Prop :=
  ∃ k : Nat, k + m = l.length ∧ i = .int .i64 k ∧ wr.heap[go]? = some (.cells (bArr (fullL l S) k) 4 (0, 0)) ∧ Below W.heap.size W wr
def PlRel2 (W : World) (l : List Rg) (S : Nat → Bool) (go : Nat) (m : Nat) (out i : Value) (wr : World) : Prop :=
  ∃ k : Nat, k + m = l.length ∧ i = .int .i64 k ∧ wr.heap[go]? = some (.cells (bArr (fullL l S) l.length) 4 (0, 0)) ∧ OwnL encA 2 wr W.heap.size 34 out (gathA l (plainTop l S) k) ∧ Below W.heap.size W wr

set_option maxHeartbeats 1000000 in
theorem plain_c (A As : Option Addr) (c r1 r2 g1 g2 : Nat) (AL : Option Addr) (cL cs : Nat) (l : List Rg) (S : Nat → Bool) (w : World) (g : GoodR l) (h : WR w A r1 r2 g1 g2 AL l) (h2 : Rd1 Value.bool w As ((leafIdx l).map S)) :
    Calls Tryd.prog 45 #[wv A c r1 r2 g1 g2 AL cL l, .slice As ((leafIdx l).map S).length cs] w (GivesA (plainOf l S) w) := by
  unfold wv
  have hn := g.len
  have hil : ((leafIdx l).map S).length ≤ 200 := by
    rw [List.length_map]
    exact Nat.le_trans (leafTo_le l l.length) hn
  have hmk := run_make_n _ _ elBool l.length (by omega) (by omega) rfl
  generalize hM : (leafIdx l).map S = M at *
  have HM := Lib.hid hM
  clear hM
  go_enter Tryd.func45, Tryd.ntmps45
  go_wp2
  clear hmk
  generalize hW0 : w.alloc (.cells #[.slice A l.length c, .map (some r1), .slice AL (gath l (fun i => !isPar l i) l.length).length cL, .map (some r2), .slice (some ⟨g1, 0, none⟩) l.length l.length, .slice (some ⟨g2, 0, none⟩) l.length l.length] 45) = W0
  have hW0s : W0.heap.size = w.heap.size + 1 := by rw [← hW0]; simp
  have hW0b : Below w.heap.size w W0 := by rw [← hW0]; exact (Below.refl _ _).alloc (Nat.le_refl _) _
  have hWr := heap_alloc_new w (.cells #[.slice A l.length c, .map (some r1), .slice AL (gath l (fun i => !isPar l i) l.length).length cL, .map (some r2), .slice (some ⟨g1, 0, none⟩) l.length l.length, .slice (some ⟨g2, 0, none⟩) l.length l.length] 45)
  rw [hW0] at hWr
  clear hW0
  generalize hW : W0.alloc (.cells #[.slice As M.length cs] 50) = W
  have hWs : W.heap.size = w.heap.size + 1 + 1 := by rw [← hW]; simp [hW0s]
  have hWb0 : Below W0.heap.size W0 W := by rw [← hW]; exact (Below.refl _ _).alloc (Nat.le_refl _) _
  have hWb : Below w.heap.size w W := below_trans hW0b hWb0
  have hWr2 : W.heap[w.heap.size]? = _ := (hWb0.block w.heap.size (by omega)).trans hWr
  have hW0' : W.cell? ⟨w.heap.size, 0, none⟩ = some (.slice A l.length c) := by rw [cell_of_row _ w.heap.size 0 _ _ _ hWr2]; rfl
  have hW4 : W.cell? ⟨w.heap.size, 4, none⟩ = some (.slice (some ⟨g1, 0, none⟩) l.length l.length) := by rw [cell_of_row _ w.heap.size 4 _ _ _ hWr2]; rfl
  have hWset : W.cell? ⟨w.heap.size + 1, 0, none⟩ = some (.slice As M.length cs) := by
    rw [← hW, ← hW0s, cell_of_row _ W0.heap.size 0 _ _ _ (heap_alloc_new _ _)]; rfl
  have hwr := h.below hWb
  have h2' := h2.below hWb
  have HWR := Lib.hid hwr
  have HWb := Lib.hid hWb
  have hwW : w.heap.size < W.heap.size := by omega
  have hwW1 : w.heap.size + 1 < W.heap.size := by omega
  have hg1W := hwr.h1
  have hg2W := hwr.h2
  clear hW hWr hWr2 hWb0 hW0b hWb hwr h h2 hW0s W0
  rw [← hWs]
  have hp0 : (W.alloc (.cells (Array.replicate l.length (.bool false)) 4)).heap[W.heap.size]? = some (.cells (bArr (fullL l S) 0) 4 (0, 0)) := by
    rw [← bArr_0, fullL_len]; exact heap_alloc_new _ _
  have HP0 := Lib.hid hp0
  clear hp0 hWs
  have hmf : ∀ (fn : Fn) (first cap : Array Value) (w : World), (Instr.makeFunc fn first cap).run Tryd.prog w = .ok (.func fn first cap) w := fun _ _ _ _ => rfl
  go_loopg [18] l.length (PlRel1 W l S W.heap.size)
  case atStart => exact ⟨0, by omega, rfl, HP0.out, (Below.refl _ _).alloc (Nat.le_refl _) _⟩
  clear HP0
  case round =>
    obtain ⟨k, hk, rfl, hrow, hbel⟩ := hrel
    have HK := Lib.hid hk
    have HP := Lib.hid hrow
    have HB := Lib.hid hbel
    have hk1 : k ≤ l.length := by omega
    have hws : w.heap.size < wr.heap.size := Nat.lt_of_lt_of_le hwW hbel.size
    have hws1 : w.heap.size + 1 < wr.heap.size := Nat.lt_of_lt_of_le hwW1 hbel.size
    have hWl : W.heap.size < wr.heap.size := lt_of_heap hrow
    have hs0 := (hbel.cell hwW).trans hW0'
    have hs4 := (hbel.cell hwW).trans hW4
    clear hk hrow hbel
    by_cases hlt : k < l.length
    · obtain ⟨Ai, ci, hci, hrd⟩ := HWR.out.bl k hlt
      have hcb : wr.cell? ⟨g2, k, none⟩ = some (.slice Ai (belowK l l.length k).length ci) := (HB.out.cell hg2W).trans hci
      have hss : wr.cell? ⟨w.heap.size + 1, 0, none⟩ = some (.slice As M.length cs) := (HB.out.cell hwW1).trans hWset
      have hrd1 := hrd.below HB.out
      have hset1 := h2'.below HB.out
      have hbl := belowK_le l l.length k
      have hbl2 : (belowK l l.length k).length ≤ 200 := by omega
      have hlt2 := below_lt l S k
      rw [HM.out] at hlt2
      have hg2r : g2 < wr.heap.size := Nat.lt_of_lt_of_le hg2W HB.out.size
      have HBO := Lib.hid (below_off l S k)
      have HBS := Lib.hid (bArr_set (fullL l S) (k := k) (by rw [fullL_len]; exact hlt))
      have hco : wr.cell? ⟨W.heap.size, k, none⟩ = some (.bool false) := by
        rw [cell_of_row _ W.heap.size k _ _ _ HP.out, bArr_get _ _ (by rw [fullL_len]; exact hlt)]; simp
      have hfo := frozen_of_row wr W.heap.size k _ _ HP.out
      go_wp2_with fail
      refine (containsFunc_c Ai As ci cs (w.heap.size + 1) (belowK l l.length k) M wr hrd1 hset1 hss hbl2 hil hlt2).mono ?_
      rintro e w1 ⟨rfl, rfl⟩
      clear hrd hrd1 hset1 hci hlt2 hss hcb
      go_wp2
      go_roundg (gk - 1)
      case measure => have := HK.out; omega
      case rel =>
        refine ⟨k + 1, by have := HK.out; omega, by go_num, ?_, HB.out.setCell (p := ⟨W.heap.size, k, none⟩) (Nat.le_refl _) _⟩
        have e1 := HBO.out
        rw [HM.out] at e1
        rw [e1]
        have e2 := HBS.out
        have e3 : (fullL l S)[k]'(by rw [fullL_len]; exact hlt) = fullP l S k := by simp [fullL]
        rw [e3] at e2
        rw [← e2]
        exact heap_setCell_same _ W.heap.size k _ _ _ HP.out
    · obtain rfl : k = l.length := by omega
      clear HK hk1 hlt
      go_wp2
      clear hs0 hs4 hmf hWset h2'
      go_loopg [8, 34] l.length (PlRel2 W l S W.heap.size)
      case atStart => exact ⟨0, by omega, rfl, HP.out, OwnL.nil _ _ _ _ _, HB.out⟩
      clear HP HB hws hws1 hWl
      case round =>
        obtain ⟨k, hk, rfl, hrow, hown, hbel⟩ := hrel
        have HK := Lib.hid hk
        have HP := Lib.hid hrow
        have HB := Lib.hid hbel
        have hk1 : k ≤ l.length := by omega
        have hws : w.heap.size < wr.heap.size := Nat.lt_of_lt_of_le hwW hbel.size
        have hWl : W.heap.size < wr.heap.size := lt_of_heap hrow
        have hg1r : g1 < wr.heap.size := Nat.lt_of_lt_of_le hg1W hbel.size
        have hs4 := (hbel.cell hwW).trans hW4
        clear hk hrow hbel
        by_cases hlt : k < l.length
        · obtain ⟨b, o, rfl, hb, hc⟩ := HWR.out.rg.at_ (by omega)
          have hbr : b < wr.heap.size := Nat.lt_of_lt_of_le hb HB.out.size
          have hc0 : wr.cell? ⟨b, o + k * 2, none⟩ = some (.string (l[k]).nm) := (HB.out.cell hb).trans (hc k hlt).1
          have hc1 : wr.cell? ⟨b, o + k * 2 + 1, none⟩ = some (.string (l[k]).par) := (HB.out.cell hb).trans (hc k hlt).2
          have hcu : wr.cell? ⟨g1, k, none⟩ = some (.int .i64 (upI l k)) := (HB.out.cell hg1W).trans (HWR.out.up k hlt)
          have hfull : ∀ j, j < l.length → wr.cell? ⟨W.heap.size, j, none⟩ = some (.bool (fullP l S j)) := fun j hj => by
            rw [cell_of_row _ W.heap.size j _ _ _ HP.out, bArr_get _ _ (by rw [fullL_len]; exact hj)]
            simp [fullL, hj]
          have hck := hfull k hlt
          have HFU := Lib.hid hfull
          have hgl := gathA_le l (plainTop l S) k
          have hWle : W.heap.size ≤ wr.heap.size := Nat.le_of_lt hWl
          clear hc hfull
          have keep3 : ∀ {w3 : World} {v : Value}, ((wr.alloc (.cells #[.string (l[k]).nm, .string (l[k]).par] 54)).alloc (.cells #[.string (l[k]).nm, .bool false] 34)).grownBy w3 v.ownBlock → OwnL encA 2 wr W.heap.size 34 v (gathA l (plainTop l S) k) → w3.heap[W.heap.size]? = some (.cells (bArr (fullL l S) l.length) 4 (0, 0)) := fun hg3 hown =>
            (hg3.block _ (lt_of_heap (heap_keep (heap_keep HP.out))) fun e2 => by
              obtain ⟨_, cs, hcs⟩ := own_row hown e2.symm
              exact cells_ne HP.out hcs (by decide) rfl).trans (heap_keep (heap_keep HP.out))
          have hnew : ((wr.alloc (.cells #[.string (l[k]).nm, .string (l[k]).par] 54)).alloc (.cells #[.string (l[k]).nm, .bool false] 34)).heap[wr.heap.size + 1]? = some (.cells (encA ⟨nmAt l k, false⟩).toArray 34 (0, 0)) := by
            have := heap_alloc_new (wr.alloc (.cells #[.string (l[k]).nm, .string (l[k]).par] 54)) (.cells #[.string (l[k]).nm, .bool false] 34)
            rw [show (wr.alloc (.cells #[.string (l[k]).nm, .string (l[k]).par] 54)).heap.size = wr.heap.size + 1 by simp] at this
            rw [nmAt_of hlt]
            exact this
          have HNEW := Lib.hid hnew
          clear hnew
          cases hf : fullP l S k with
          | false =>
              rw [hf] at hck
              have HPT : Hid (plainTop l S k = false) := by show _ = _; simp [plainTop, hf]
              have HO := Lib.hid hown
              clear hf keep3 hown
              go_wp2
              go_roundg (gk - 1)
              case measure => have := HK.out; omega
              case rel => exact ⟨k + 1, by have := HK.out; omega, by go_num, heap_keep HP.out, by rw [gathA_no HPT.out]; exact HO.out.alloc _, HB.out.alloc HB.out.size _⟩
          | true =>
            rw [hf] at hck
            cases hu : up l k with
            | none =>
              have HPT : Hid (plainTop l S k = true) := by show _ = _; simp [plainTop, hf, hu]
              have hui : upI l k = -1 := by rw [upI, hu]
              rw [hui] at hcu
              clear hf hu hui
              go_wp2_with (at_builtin; refine wpList_push _ _ _ elAr rfl rfl W.heap.size _ (gathA l (plainTop l S) k) rfl ((hown.alloc _).alloc _) (wr.heap.size + 1) 1 ⟨nmAt l k, false⟩ rfl HNEW.out rfl (by simp [Value.oneCell']) (by unfold maxLen; omega) (by omega) (by simp; omega) ?_; intro v1 w3 hown3 hg3 hb3)
              have HO3 := Lib.hid hown3
              have HR3 := Lib.hid (keep3 hg3 hown)
              have HB3 := Lib.hid (((HB.out.alloc HB.out.size (.cells #[.string (l[k]).nm, .string (l[k]).par] 54)).alloc (by have := HB.out.size; simp; omega) (.cells #[.string (l[k]).nm, .bool false] 34)).trans hb3)
              clear hown3 hg3 hb3 keep3 hown
              go_wp2
              go_roundg (gk - 1)
              case measure => have := HK.out; omega
              case rel => exact ⟨k + 1, by have := HK.out; omega, by go_num, HR3.out, by rw [gathA_yes HPT.out]; exact HO3.out, HB3.out⟩
            | some j =>
              have hj := (up_lt hu).2
              have hui : upI l k = (j : Int) := by rw [upI, hu]
              rw [hui] at hcu
              have hcj := HFU.out j hj
              have hj0 : decide ((j : Int) < 0) = false := by simp
              have hj1 : (0 : Int) ≤ (j : Int) := by omega
              have hj2 : (j : Int) < (l.length : Int) := by omega
              cases hfj : fullP l S j with
              | false =>
                rw [hfj] at hcj
                have HPT : Hid (plainTop l S k = true) := by show _ = _; simp [plainTop, hf, hu, hfj]
                clear hf hu hui hfj
                go_wp2_with (at_builtin; refine wpList_push _ _ _ elAr rfl rfl W.heap.size _ (gathA l (plainTop l S) k) rfl ((hown.alloc _).alloc _) (wr.heap.size + 1) 1 ⟨nmAt l k, false⟩ rfl HNEW.out rfl (by simp [Value.oneCell']) (by unfold maxLen; omega) (by omega) (by simp; omega) ?_; intro v1 w3 hown3 hg3 hb3)
                have HO3 := Lib.hid hown3
                have HR3 := Lib.hid (keep3 hg3 hown)
                have HB3 := Lib.hid (((HB.out.alloc HB.out.size (.cells #[.string (l[k]).nm, .string (l[k]).par] 54)).alloc (by have := HB.out.size; simp; omega) (.cells #[.string (l[k]).nm, .bool false] 34)).trans hb3)
                clear hown3 hg3 hb3 keep3 hown
                go_wp2
                go_roundg (gk - 1)
                case measure => have := HK.out; omega
                case rel => exact ⟨k + 1, by have := HK.out; omega, by go_num, HR3.out, by rw [gathA_yes HPT.out]; exact HO3.out, HB3.out⟩
              | true =>
                rw [hfj] at hcj
                have HPT : Hid (plainTop l S k = false) := by show _ = _; simp [plainTop, hf, hu, hfj]
                have HO := Lib.hid hown
                clear hf hu hui hfj keep3 hown
                go_wp2
                go_roundg (gk - 1)
                case measure => have := HK.out; omega
                case rel => exact ⟨k + 1, by have := HK.out; omega, by go_num, heap_keep HP.out, by rw [gathA_no HPT.out]; exact HO.out.alloc _, HB.out.alloc HB.out.size _⟩
        · have hke : k = l.length := by omega
          have HKE := Lib.hid hke
          clear hke
          obtain ⟨A', c', rfl, hrd⟩ := hown.rd2
          go_wp2
          go_ret
          have e : gathA l (plainTop l S) k = plainOf l S := by rw [HKE.out]; rfl
          rw [e] at hrd ⊢
          exact ⟨A', c', rfl, hrd, below_trans HWb.out HB.out⟩
end Go.Proofs.YtnjepmbonhmdnaaDoor
