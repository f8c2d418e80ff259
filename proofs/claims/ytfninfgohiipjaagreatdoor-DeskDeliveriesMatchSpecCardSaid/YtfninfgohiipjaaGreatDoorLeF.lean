/- slices.Insert of one delivery, into a slice of the call's own. Reference of chapter 10: checkAsks, sooner. Reference: what is inside a thing, with where it lies: in a new block (printed by gen_fresh.py out of LcL, LcP, LdE). Reference of chapter 10: Deliver; the law DeskDeliveriesMatchSpec as a call. The law DeskDeliveriesMatchSpec as a call. -/
import Derived.Test.YtfninfgohiipjaaGreatDoorLeC
import Derived.Shelf.Spec.SlicesInsert
import Derived.Lib.AppendZerosOnto
import Derived.Laws.CopyRow
import Derived.Deep.RegionLaw
import Derived.Deep.DeepCutAuto
namespace Go.Proofs.YtfninfgohiipjaaGreatDoor
open Go.RowKit Go.Lib Dw

theorem run_copy_rowK {P : Program} (w : World) (dT sT ty elem : TypeId) (k g o dLen dCap : Nat) (a : Addr) (sLen sCap : Nat) (cur : Array Value) (t : TypeId) (cs : List Value)
    (hu : P.underlying dT = some (.slice elem)) (hs : (P.info? elem).map (·.size) = some k) (hg : w.heap[g]? = some (.cells cur t (0, 0))) (hn : cs.length = Nat.min sLen dLen * k)
    (hsrc : ∀ j v, cs[j]? = some v → w.cell? (a.add j) = some v) (hfit : o + cs.length ≤ cur.size) (h1 : ∀ v ∈ cs, v.oneCell' = true) :
    (Builtin.copy_ #[dT, sT] ty #[.slice (some ⟨g, o, none⟩) dLen dCap, .slice (some a) sLen sCap]).run P w =
      .ok (goInt (Nat.min sLen dLen)) (w.setRow g (cur.toList.take o ++ cs ++ cur.toList.drop (o + cs.length)).toArray) := by
  have hl := run_loadCells_list (P := P) w a cs hsrc
  have hst := run_storeCells_at P g o t cs 0 cur w hg (by simpa using hfit) h1
  cases hq : P.info? elem with
  | none => simp [hq] at hs
  | some i =>
    have hi : i.size = k := by simpa [hq] using hs
    simp [Builtin.copy_, run_underlying hu, Builtin.lenOf, Builtin.firstCells, sizeOf, typeInfo, hq, hi, ← hn, hl, hst]

/-- The cells of a list of deliveries. -/
abbrev fl (L : List Dl) : List Value := L.flatMap encD
theorem fl_len (L : List Dl) : (fl L).length = L.length * 3 := by
  induction L with
  | nil => rfl
  | cons a t ih => simp [fl, List.flatMap_cons] at *; omega
theorem fl_take (L : List Dl) (i : Nat) (hi : i ≤ L.length) : (fl L).take (i * 3) = fl (L.take i) := by
  have h : fl L = fl (L.take i) ++ fl (L.drop i) := by rw [fl, fl, fl, ← List.flatMap_append, List.take_append_drop]
  rw [h, List.take_append_of_le_length (by rw [fl_len]; simp; omega), List.take_of_length_le (by rw [fl_len]; simp; omega)]
theorem fl_drop (L : List Dl) (i : Nat) (hi : i ≤ L.length) : (fl L).drop (i * 3) = fl (L.drop i) := by
  have h : fl L = fl (L.take i) ++ fl (L.drop i) := by rw [fl, fl, fl, ← List.flatMap_append, List.take_append_drop]
  rw [h, List.drop_append_of_le_length (by rw [fl_len]; simp; omega), List.drop_of_length_le (by rw [fl_len]; simp; omega), List.nil_append]
theorem fl_one (L : List Dl) : ∀ v ∈ fl L, v.oneCell' = true := fun v hv => by
  obtain ⟨d, _, hd⟩ := List.mem_flatMap.1 hv
  simp [encD] at hd
  rcases hd with rfl | rfl | rfl <;> rfl
def insAt (L : List Dl) (i : Nat) (x : Dl) : List Dl := L.take i ++ x :: L.drop i
theorem insAt_len (L : List Dl) (i : Nat) (x : Dl) (hi : i ≤ L.length) : (insAt L i x).length = L.length + 1 := by unfold insAt; simp; omega
theorem fl_insAt (L : List Dl) (i : Nat) (x : Dl) : fl (insAt L i x) = fl (L.take i) ++ (encD x ++ fl (L.drop i)) := by
  unfold insAt fl
  rw [List.flatMap_append, List.flatMap_cons]

def GivesIn (w : World) (base : Nat) (v : Value) (L : List Dl) (i : Nat) (x : Dl) (e : Ending) (w' : World) : Prop :=
  ∃ v', e = .returned v' ∧ OwnL encD 3 w' base 44 v' (insAt L i x) ∧ w.grownBy w' v.ownBlock ∧ Below base w w'

set_option maxRecDepth 100000 in
set_option maxHeartbeats 1000000 in
theorem insertEnd_c (w : World) (base : Nat) (v : Value) (L : List Dl) (x : Dl) (gv cv : Nat) (hown : OwnL encD 3 w base 44 v L) (hl : L.length ≤ 1000000) (hx : BoxD w gv x) (hb : base ≤ w.heap.size) :
    Calls Tryz.prog 58 #[v, .int .i64 L.length, .slice (some ⟨gv, 0, none⟩) 1 cv] w (GivesIn w base v L L.length x) := by
  have HX := Lib.hid hx
  have HOW := Lib.hid hown
  have HRES : Hid (insAt L L.length x = L ++ [x]) := by show _ = _; unfold insAt; simp
  obtain ⟨A, c, rfl, hA⟩ := own_form hown
  obtain ⟨hcap, _⟩ := own_cap hown
  have hc63 : c ≤ 9223372036854775807 := by
    rcases hown.2 with ⟨he, _⟩ | ⟨g', cap, cur, he, _, _, _, hm, _⟩
    · injection he with _ _ h2; omega
    · injection he with _ _ h2; unfold maxLen at hm; omega
  clear hown hx
  rcases Nat.eq_or_lt_of_le hcap with hcl | hcl
  · subst hcl
    go_enter Tryz.func58, Tryz.ntmps58
    go_wp2_with (at_builtin; refine wpList_push _ _ _ elDl rfl rfl base (.slice A L.length L.length) L rfl HOW.out gv cv x rfl HX.out rfl (by simp [Value.oneCell']) (by unfold maxLen; omega) (by omega) hb ?_; intro v1 w1 hown1 hg1 hb1)
    go_ret
    exact ⟨_, rfl, by rw [HRES.out]; exact hown1, hg1, hb1⟩
  · have hne : ¬ (c = L.length) := by omega
    go_enter Tryz.func58, Tryz.ntmps58
    go_wp2_with (at_builtin; refine wpList_push _ _ _ elDl rfl rfl base (.slice A L.length c) L rfl HOW.out gv cv x rfl HX.out rfl (by simp [Value.oneCell']) (by unfold maxLen; omega) (by omega) hb ?_; intro v1 w1 hown1 hg1 hb1)
    go_ret
    exact ⟨_, rfl, by rw [HRES.out]; exact hown1, hg1, hb1⟩

theorem infoD : (Tryz.prog.info? 44).map (·.size) = some 3 := by kernel_rfl
theorem take_app {α : Type} (a b : List α) (n : Nat) (h : a.length = n) : (a ++ b).take n = a := by subst h; simp
theorem drop_app {α : Type} (a b : List α) (n : Nat) (h : a.length = n) : (a ++ b).drop n = b := by subst h; simp

/-- The cells behind both copies. -/
theorem shift_cells (cur : List Value) (L : List Dl) (i : Nat) (x : Dl) (hi : i < L.length) (hcur : cur.take (L.length * 3) = fl L) (hsz : (L.length + 1) * 3 ≤ cur.length) :
    ((cur.take ((i + 1) * 3) ++ fl (L.drop i) ++ cur.drop ((i + 1) * 3 + (fl (L.drop i)).length)).take (i * 3) ++ encD x ++ (cur.take ((i + 1) * 3) ++ fl (L.drop i) ++ cur.drop ((i + 1) * 3 + (fl (L.drop i)).length)).drop (i * 3 + 3)).take ((L.length + 1) * 3) = fl (insAt L i x) := by
  have hd : (fl (L.drop i)).length = (L.length - i) * 3 := by rw [fl_len]; simp
  have h1 : (cur.take ((i + 1) * 3)).length = (i + 1) * 3 := by simp; omega
  have h2 : (cur.take ((i + 1) * 3)).take (i * 3) = fl (L.take i) := by
    rw [← fl_take L i (by omega), ← hcur, List.take_take, List.take_take]
    congr 1; omega
  have e1 : (cur.take ((i + 1) * 3) ++ fl (L.drop i) ++ cur.drop ((i + 1) * 3 + (fl (L.drop i)).length)).take (i * 3) = fl (L.take i) := by
    rw [List.append_assoc, List.take_append_of_le_length (by rw [h1]; omega), h2]
  have e2 : (cur.take ((i + 1) * 3) ++ fl (L.drop i) ++ cur.drop ((i + 1) * 3 + (fl (L.drop i)).length)).drop (i * 3 + 3) = fl (L.drop i) ++ cur.drop ((i + 1) * 3 + (fl (L.drop i)).length) := by
    rw [List.append_assoc]
    exact drop_app _ _ _ (by rw [h1]; omega)
  rw [e1, e2, fl_insAt, ← List.append_assoc, ← List.append_assoc]
  refine take_app _ _ _ ?_
  simp only [List.length_append, fl_len]
  simp [encD]; omega

set_option maxRecDepth 100000 in
set_option maxHeartbeats 4000000 in
theorem insertRoom_c (w : World) (base g c i : Nat) (cur : Array Value) (L : List Dl) (x : Dl) (gv cv : Nat) (hi : i < L.length) (hl : L.length ≤ 1000000) (hroom : L.length + 1 ≤ c) (hc : c ≤ 9223372036854775807)
    (hg : w.heap[g]? = some (.cells cur 44 (0, 0))) (hbg : base ≤ g) (hcs : cur.size = c * 3) (hcur : cur.toList.take (L.length * 3) = fl L) (hx : BoxD w gv x) (hne : gv ≠ g) :
    Calls Tryz.prog 58 #[.slice (some ⟨g, 0, none⟩) L.length c, .int .i64 i, .slice (some ⟨gv, 0, none⟩) 1 cv] w (GivesIn w base (.slice (some ⟨g, 0, none⟩) L.length c) L i x) := by
  have HRES := Lib.hid (shift_cells cur.toList L i x hi hcur (by simp; omega))
  have hdl : (fl (L.drop i)).length = (L.length - i) * 3 := by rw [fl_len]; simp
  have hfr : ∀ o, w.frozen? ⟨gv, o, none⟩ = false := fun o => frozen_of_row w gv _ _ _ hx
  have hov : ∀ lb cb, (callFunc 90 #[.slice (some ⟨gv, 0, none⟩) 1 cv, .slice (some ⟨g, (i + 1) * 3, none⟩) lb cb]).run Tryz.prog w = .ok (.value (.bool false)) w := fun lb cb => by
    rw [run_callFunc_extern Tryz.func90 (by kernel_rfl) (by kernel_rfl) (by kernel_rfl) (e := Extern.SlicesOverlaps.overlaps #[39, 39] #[4]) (by kernel_rfl),
      Lib.run_overlaps_apart w 39 4 44 Tryz.underlying39 3 Tryz.sizeOf44 ⟨gv, 0, none⟩ ⟨g, (i + 1) * 3, none⟩ 1 cv lb cb hne 44 44 3 (c * 3) (by unfold BoxD at hx; simp [World.shape?, hx]) (by simp [World.shape?, hg, hcs]) (by omega) (hfr _) (hfr _)]
    rfl
  have hcell : ∀ j v, (fl L)[j]? = some v → w.cell? ⟨g, j, none⟩ = some v := fun j v hv => by
    rw [cell_of_row w g j cur _ (0, 0) hg]
    rw [← hcur, List.getElem?_take] at hv
    split at hv
    · simpa using hv
    · cases hv
  have hsrc : ∀ j v, (fl (L.drop i))[j]? = some v → w.cell? ⟨g, i * 3 + j, none⟩ = some v := fun j v hv => by
    refine hcell _ v ?_
    rw [← fl_drop L i (by omega), List.getElem?_drop] at hv
    exact hv
  have hvs : ∀ j v, (encD x)[j]? = some v → w.cell? ⟨gv, j, none⟩ = some v := fun j v hv => by
    obtain ⟨h0, h1, h2⟩ := hx.cells
    match j, hv with
    | 0, hv => simp at hv; rw [← hv]; exact h0
    | 1, hv => simp at hv; rw [← hv]; exact h1
    | 2, hv => simp at hv; rw [← hv]; exact h2
    | j + 3, hv => simp at hv
  generalize hcur1 : (cur.toList.take ((i + 1) * 3) ++ fl (L.drop i) ++ cur.toList.drop ((i + 1) * 3 + (fl (L.drop i)).length)) = cur1 at HRES
  have hl1 : cur1.length = c * 3 := by
    rw [← hcur1]; simp only [List.length_append, List.length_take, List.length_drop, hdl, Array.length_toList, hcs]; omega
  have hcp1 : ∀ (W : World) ty dc sc, W.heap = w.heap → (Builtin.copy_ #[39, 39] ty #[.slice (some ⟨g, (i + 1) * 3, none⟩) (L.length - i) dc, .slice (some ⟨g, i * 3, none⟩) (L.length + 1 - i) sc]).run Tryz.prog W = .ok (goInt ((L.length - i : Nat) : Int)) (W.setRow g cur1.toArray) := fun W ty dc sc hW => by
    have hcc : ∀ a, W.cell? a = w.cell? a := fun a => by simp [World.cell?, hW]
    have hm : Nat.min (L.length + 1 - i) (L.length - i) = L.length - i := by simp only [Nat.min_def]; split <;> omega
    have := run_copy_rowK (P := Tryz.prog) W 39 39 ty 44 3 g ((i + 1) * 3) (L.length - i) dc ⟨g, i * 3, none⟩ (L.length + 1 - i) sc cur 44 (fl (L.drop i)) Tryz.underlying39 infoD (by rw [hW]; exact hg) (by rw [hm, hdl]) (fun j v hj => by rw [Addr.add_lit, hcc]; exact hsrc j v hj) (by rw [hdl, hcs]; omega) (fl_one _)
    rw [hm, hcur1] at this
    exact this
  have hcp2 : ∀ (W : World) ty dc, W.heap[g]? = some (.cells cur1.toArray 44 (0, 0)) → W.heap[gv]? = w.heap[gv]? → (Builtin.copy_ #[39, 39] ty #[.slice (some ⟨g, i * 3, none⟩) (L.length + 1 - i) dc, .slice (some ⟨gv, 0, none⟩) 1 cv]).run Tryz.prog W = .ok (goInt 1) (W.setRow g (cur1.take (i * 3) ++ encD x ++ cur1.drop (i * 3 + 3)).toArray) := fun W ty dc hW hW2 => by
    have hm : Nat.min 1 (L.length + 1 - i) = 1 := by simp only [Nat.min_def]; split <;> omega
    have := run_copy_rowK (P := Tryz.prog) W 39 39 ty 44 3 g (i * 3) (L.length + 1 - i) dc ⟨gv, 0, none⟩ 1 cv cur1.toArray 44 (encD x) Tryz.underlying39 infoD hW (by rw [hm]; rfl) (fun j v hj => by
      rw [Addr.add_lit, Nat.zero_add]
      have := hvs j v hj
      rwa [World.cell?_of_block hW2]) (by simp [encD]; omega) (fun v hv => by simp [encD] at hv; rcases hv with rfl | rfl | rfl <;> rfl)
    rw [hm] at this
    exact this
  have HFIN : Hid (∀ W : World, W.grownBy W none → True) := fun _ _ => trivial
  clear HFIN hsrc hvs hcell hfr hcur hcur1
  have hw1 : IntKind.i64.wrap ((i : Int) + 1) = (i : Int) + 1 := IntWalk.i64_in _ (by omega)
  have hz2 : ((i : Int) == (L.length : Int)) = false := by simp; omega
  have hb2 : ¬ (c = i + 1) := by omega
  have hb4 : ¬ (c = i) := by omega
  have hb1 : (0 : Int) ≤ (i : Int) + 1 := by omega
  have hin : i ≤ L.length := by omega
  have hb3 : (i : Int) ≤ (L.length : Int) + 1 := by omega
  have hb5 : i ≤ L.length + 1 := by omega
  go_enter Tryz.func58, Tryz.ntmps58
  go_wp2_with (simp only [hov])
  clear hov
  have hcpA := hcp1 w.drew 3 (c - (i + 1)) (c - i) rfl
  clear hcp1
  go_region
  have hg1 : (w.drew.setRow g cur1.toArray).heap[g]? = some (.cells cur1.toArray 44 (0, 0)) := setRow_heap w.drew g cur _ _ _ hg
  have hgv1 : (w.drew.setRow g cur1.toArray).heap[gv]? = w.heap[gv]? := setRow_other w.drew g gv _ hne
  have hcpB := hcp2 (w.drew.setRow g cur1.toArray) 3 (c - i) hg1 hgv1
  clear hcp2 hcpA
  generalize hcur2 : cur1.take (i * 3) ++ encD x ++ cur1.drop (i * 3 + 3) = cur2 at *
  have hl2 : cur2.length = c * 3 := by
    rw [← hcur2]; simp only [List.length_append, List.length_take, List.length_drop, hl1]; simp [encD]; omega
  have hgl : g < w.heap.size := (Array.getElem?_eq_some_iff.1 hg).1
  have hgr : w.grownBy ((w.drew.setRow g cur1.toArray).setRow g cur2.toArray) (some g) := by
    refine ⟨rfl, rfl, rfl, by simp [World.setRow], fun k hk hne => ?_⟩
    have hkg : k ≠ g := fun e => hne (by rw [e])
    rw [setRow_other _ g k _ hkg, setRow_other _ g k _ hkg]
    rfl
  have HGR := Lib.hid hgr
  have HOW : Hid (OwnL encD 3 ((w.drew.setRow g cur1.toArray).setRow g cur2.toArray) base 44 (.slice (some ⟨g, 0, none⟩) (L.length + 1) c) (insAt L i x)) := by
    show OwnL _ _ _ _ _ _ _
    unfold OwnL
    rw [insAt_len L i x (by omega)]
    refine ⟨by have := fl_len (insAt L i x); rw [insAt_len L i x (by omega)] at this; exact this, .inr ⟨g, c, cur2.toArray, rfl, hbg, setRow_heap _ g _ _ _ _ hg1, hroom, by unfold maxLen; omega, by simpa using hl2, ?_⟩⟩
    exact HRES.out
  have HBL : Hid (Below base w ((w.drew.setRow g cur1.toArray).setRow g cur2.toArray)) := (Below.refl base w).grown hgr (by omega) (fun k hk => by injection hk with hk; omega)
  clear hgr hcur2 hl2 hg1 hgv1 hgl
  go_wp2
  go_ret
  exact ⟨_, rfl, HOW.out, HGR.out, HBL.out⟩

/-- The cells of the new row behind both copies. -/
theorem grow_cells (Z : List Value) (L : List Dl) (i : Nat) (x : Dl) (hi : i < L.length) :
    (((fl (L.take i) ++ Z).take (i * 3) ++ encD x ++ (fl (L.take i) ++ Z).drop (i * 3 + 3)).take ((i + 1) * 3) ++ fl (L.drop i) ++ ((fl (L.take i) ++ Z).take (i * 3) ++ encD x ++ (fl (L.take i) ++ Z).drop (i * 3 + 3)).drop ((i + 1) * 3 + (fl (L.drop i)).length)).take ((L.length + 1) * 3) = fl (insAt L i x) := by
  have ht : (fl (L.take i)).length = i * 3 := by rw [fl_len]; simp; omega
  have hd : (fl (L.drop i)).length = (L.length - i) * 3 := by rw [fl_len]; simp
  have e1 : (fl (L.take i) ++ Z).take (i * 3) = fl (L.take i) := take_app _ _ _ ht
  have e2 : ((fl (L.take i) ++ Z).take (i * 3) ++ encD x ++ (fl (L.take i) ++ Z).drop (i * 3 + 3)).take ((i + 1) * 3) = fl (L.take i) ++ encD x := by
    rw [e1]
    exact take_app _ _ _ (by simp only [List.length_append, ht]; simp [encD]; omega)
  rw [e2, fl_insAt, ← List.append_assoc]
  refine take_app _ _ _ ?_
  simp only [List.length_append, ht, hd]
  simp [encD]; omega

set_option maxRecDepth 100000 in
set_option maxHeartbeats 4000000 in
theorem insertGrow_c (w : World) (base g c i : Nat) (cur : Array Value) (L : List Dl) (x : Dl) (gv cv : Nat) (hi : i < L.length) (hl : L.length ≤ 1000000) (hnc : L.length ≤ c) (hroom : c < L.length + 1)
    (hg : w.heap[g]? = some (.cells cur 44 (0, 0))) (hbg : base ≤ g) (hcs : cur.size = c * 3) (hcur : cur.toList.take (L.length * 3) = fl L) (hx : BoxD w gv x) :
    Calls Tryz.prog 58 #[.slice (some ⟨g, 0, none⟩) L.length c, .int .i64 i, .slice (some ⟨gv, 0, none⟩) 1 cv] w (GivesIn w base (.slice (some ⟨g, 0, none⟩) L.length c) L i x) := by
  obtain rfl : c = L.length := by omega
  obtain ⟨i0, hi0, hz0, hzs, hzb⟩ := info_parts elDl.info
  have hdl : (fl (L.drop i)).length = (L.length - i) * 3 := by rw [fl_len]; simp
  have htl : (fl (L.take i)).length = i * 3 := by rw [fl_len]; simp; omega
  have hgl : g < w.heap.size := (Array.getElem?_eq_some_iff.1 hg).1
  have hvl := hx.lt
  have hcell : ∀ j v, (fl L)[j]? = some v → w.cell? ⟨g, j, none⟩ = some v := fun j v hv => by
    rw [cell_of_row w g j cur _ (0, 0) hg]
    rw [← hcur, List.getElem?_take] at hv
    split at hv
    · simpa using hv
    · cases hv
  have hsrc : ∀ j v, (fl (L.drop i))[j]? = some v → w.cell? ⟨g, i * 3 + j, none⟩ = some v := fun j v hv => by
    refine hcell _ v ?_
    rw [← fl_drop L i (by omega), List.getElem?_drop] at hv
    exact hv
  have hvs : ∀ j v, (encD x)[j]? = some v → w.cell? ⟨gv, j, none⟩ = some v := fun j v hv => by
    obtain ⟨h0, h1, h2⟩ := hx.cells
    match j, hv with
    | 0, hv => simp at hv; rw [← hv]; exact h0
    | 1, hv => simp at hv; rw [← hv]; exact h1
    | 2, hv => simp at hv; rw [← hv]; exact h2
    | j + 3, hv => simp at hv
  have hold : (Builtin.firstCells i0.size i (.slice (some ⟨g, 0, none⟩) i L.length)).run Tryz.prog w.drew = .ok (fl (L.take i)).toArray w.drew := by
    rw [hzs]
    exact run_firstCells_some w.drew 3 i ⟨g, 0, none⟩ i L.length (fl (L.take i)) (by rw [htl]) (fun j v hj => by
      rw [Addr.add_lit, Nat.zero_add]
      refine hcell j v ?_
      rw [← fl_take L i (by omega), List.getElem?_take] at hj
      split at hj
      · exact hj
      · cases hj)
  obtain ⟨G, hG⟩ : ∃ G, G = grownCap w (L.length + 1) L.length 44 := ⟨_, rfl⟩
  have hik : i + (L.length + 1 - i) = L.length + 1 := by omega
  have hkk : (L.length : Int) + 1 - (i : Int) = ((L.length + 1 - i : Nat) : Int) := by omega
  obtain ⟨Z, hZ⟩ : ∃ Z : List Value, Z = (Builtin.zeroCells (Value.agg #[.int .i64 0, .string ⟨#[]⟩, .int .i64 0]).cells (L.length + 1 - i)).toList ++ (Builtin.zeroCells (Value.agg #[.int .i64 0, .string ⟨#[]⟩, .int .i64 0]).cells (G - (L.length + 1))).toList := ⟨_, rfl⟩
  have hGn : L.length + 1 ≤ G := by rw [hG]; exact grownCap_ge w _ _ _
  have hG63 : G ≤ 9223372036854775807 := by
    have := grownCap_le_maxLen w (L.length + 1) L.length 44 (by unfold maxLen; omega)
    rw [← hG] at this
    unfold maxLen at this
    omega
  have hrz : (Builtin.append_ #[39, 3] 39 #[.slice (some ⟨g, 0, none⟩) i L.length, .int .i64 ((L.length : Int) + 1 - (i : Int))]).run Tryz.prog w =
      .ok (.slice (some ⟨w.heap.size, 0, none⟩) (L.length + 1) G) (w.drew.alloc (.cells (fl (L.take i) ++ Z).toArray 44)) := by
    have h := Lib.run_append_grow_zeros w 39 3 39 44 i0 _ .i64 .i64 Tryz.underlying39 Tryz.underlying3 hi0 hz0 (some ⟨g, 0, none⟩) i L.length (fl (L.take i)) hold (L.length + 1 - i) (by omega) (by omega) (by omega) (by omega) (by rw [hzb]; omega) (by rw [hzb, hik]; exact growslice_fits hroom (by omega))
    rw [hik, ← hG] at h
    have ea : ∀ (f : List Value) (z1 z2 : Array Value), f.toArray ++ z1 ++ z2 = (f ++ (z1.toList ++ z2.toList)).toArray := fun f z1 z2 => by
      apply Array.ext'; simp
    rw [hkk, h, hZ, ea]
  have hZl : Z.length = (G - i) * 3 := by
    rw [hZ]; simp [Builtin.zeroCells, Value.cells]; omega
  have HRES := Lib.hid (grow_cells Z L i x hi)
  have hR0 : (fl (L.take i) ++ Z).length = G * 3 := by rw [List.length_append, htl, hZl]; omega
  generalize hR : fl (L.take i) ++ Z = R at *
  clear hR hZ hG hold
  obtain ⟨W1, hW1⟩ : ∃ W1, W1 = w.drew.alloc (.cells R.toArray 44) := ⟨_, rfl⟩
  rw [← hW1] at hrz
  have h1N : W1.heap[w.heap.size]? = some (.cells R.toArray 44 (0, 0)) := by rw [hW1]; exact heap_alloc_new w.drew _
  have hb1 : Below w.heap.size w W1 := by rw [hW1]; exact (below_drewN (Below.refl w.heap.size w) 1).alloc (Nat.le_refl _) _
  have hcpA : (Builtin.copy_ #[39, 39] 3 #[.slice (some ⟨w.heap.size, i * 3, none⟩) (L.length + 1 - i) (G - i), .slice (some ⟨gv, 0, none⟩) 1 cv]).run Tryz.prog W1 = .ok (goInt 1) (W1.setRow w.heap.size (R.take (i * 3) ++ encD x ++ R.drop (i * 3 + 3)).toArray) := by
    have hm : Nat.min 1 (L.length + 1 - i) = 1 := by simp only [Nat.min_def]; split <;> omega
    have := run_copy_rowK (P := Tryz.prog) W1 39 39 3 44 3 w.heap.size (i * 3) (L.length + 1 - i) (G - i) ⟨gv, 0, none⟩ 1 cv R.toArray 44 (encD x) Tryz.underlying39 infoD h1N (by rw [hm]; rfl) (fun j v hj => by
      rw [Addr.add_lit, Nat.zero_add, hb1.cell (p := ⟨gv, j, none⟩) hvl]
      exact hvs j v hj) (by simp [encD]; omega) (fun v hv => by simp [encD] at hv; rcases hv with rfl | rfl | rfl <;> rfl)
    rw [hm] at this
    exact this
  generalize hR1 : R.take (i * 3) ++ encD x ++ R.drop (i * 3 + 3) = R1 at *
  have hR1l : R1.length = G * 3 := by
    rw [← hR1]; simp only [List.length_append, List.length_take, List.length_drop, hR0]; simp [encD]; omega
  clear hR1
  obtain ⟨W2, hW2⟩ : ∃ W2, W2 = W1.setRow w.heap.size R1.toArray := ⟨_, rfl⟩
  rw [← hW2] at hcpA
  have h2N : W2.heap[w.heap.size]? = some (.cells R1.toArray 44 (0, 0)) := by rw [hW2]; exact setRow_heap W1 _ _ _ _ _ h1N
  have hb2 : Below w.heap.size w W2 := by rw [hW2]; exact hb1.trans ⟨rfl, rfl, rfl, by simp [World.setRow], fun k hk => setRow_other W1 _ k _ (by omega)⟩
  have hcpB : (Builtin.copy_ #[39, 39] 3 #[.slice (some ⟨w.heap.size, (i + 1) * 3, none⟩) (L.length - i) (G - (i + 1)), .slice (some ⟨g, i * 3, none⟩) (L.length - i) (L.length - i)]).run Tryz.prog W2.drew = .ok (goInt ((L.length - i : Nat) : Int)) (W2.drew.setRow w.heap.size (R1.take ((i + 1) * 3) ++ fl (L.drop i) ++ R1.drop ((i + 1) * 3 + (fl (L.drop i)).length)).toArray) := by
    have hm : Nat.min (L.length - i) (L.length - i) = L.length - i := by simp only [Nat.min_def]; split <;> omega
    have := run_copy_rowK (P := Tryz.prog) W2.drew 39 39 3 44 3 w.heap.size ((i + 1) * 3) (L.length - i) (G - (i + 1)) ⟨g, i * 3, none⟩ (L.length - i) (L.length - i) R1.toArray 44 (fl (L.drop i)) Tryz.underlying39 infoD h2N (by rw [hm, hdl]) (fun j v hj => by
      rw [Addr.add_lit]
      show W2.cell? _ = _
      rw [hb2.cell (p := ⟨g, i * 3 + j, none⟩) hgl]
      exact hsrc j v hj) (by rw [hdl]; simp; omega) (fl_one _)
    rw [hm] at this
    exact this
  generalize hR2 : R1.take ((i + 1) * 3) ++ fl (L.drop i) ++ R1.drop ((i + 1) * 3 + (fl (L.drop i)).length) = R2 at *
  have hR2l : R2.length = G * 3 := by
    rw [← hR2]; simp only [List.length_append, List.length_take, List.length_drop, hR1l, hdl]; omega
  clear hR2
  obtain ⟨W3, hW3⟩ : ∃ W3, W3 = W2.drew.setRow w.heap.size R2.toArray := ⟨_, rfl⟩
  rw [← hW3] at hcpB
  have h3N : W3.heap[w.heap.size]? = some (.cells R2.toArray 44 (0, 0)) := by rw [hW3]; exact setRow_heap W2.drew _ _ _ _ _ h2N
  have hb3 : Below w.heap.size w W3 := by rw [hW3]; exact (below_drewN hb2 1).trans ⟨rfl, rfl, rfl, by simp [World.setRow], fun k hk => setRow_other W2.drew _ k _ (by omega)⟩
  have HGR := Lib.hid (grownBy_of_below hb3 (some g))
  have HBL : Hid (Below base w W3) := hb3.mono (by omega)
  have HOW : Hid (OwnL encD 3 W3 base 44 (.slice (some ⟨w.heap.size, 0, none⟩) (L.length + 1) G) (insAt L i x)) := by
    show OwnL _ _ _ _ _ _ _
    unfold OwnL
    rw [insAt_len L i x (by omega)]
    exact ⟨by have := fl_len (insAt L i x); rw [insAt_len L i x (by omega)] at this; exact this, .inr ⟨w.heap.size, G, R2.toArray, rfl, by omega, h3N, hGn, by unfold maxLen; omega, by simpa using hR2l, HRES.out⟩⟩
  have hz2 : ((i : Int) == (L.length : Int)) = false := by simp; omega
  have hw1 : IntKind.i64.wrap ((i : Int) + 1) = (i : Int) + 1 := IntWalk.i64_in _ (by omega)
  have hq1 : (0 : Int) ≤ (i : Int) + 1 := by omega
  have hq2 : i ≤ L.length := by omega
  have hq3 : ¬ (L.length = i) := by omega
  have hq4 : ¬ (G = i) := by omega
  have hq5 : ¬ (G = i + 1) := by omega
  have hq6 : (i : Int) ≤ (L.length : Int) := by omega
  clear hW1 hW2 hW3 h1N h2N h3N hb1 hb2 hb3 hR0 hR1l hR2l hZl hcell hsrc hvs hik hkk hcur hdl htl hcs
  go_enter Tryz.func58, Tryz.ntmps58
  go_wp2_with (at_builtin; refine Lib.wpList_append_run _ rfl _ _ _ _ rfl _ _ rfl rfl _ _ hrz ?_)
  go_region
  go_wp2
  go_ret
  exact ⟨_, rfl, HOW.out, HGR.out, HBL.out⟩

theorem insertD_c (w : World) (base : Nat) (v : Value) (L : List Dl) (i : Nat) (x : Dl) (gv cv : Nat) (hown : OwnL encD 3 w base 44 v L) (hl : L.length ≤ 1000000) (hi : i ≤ L.length) (hx : BoxD w gv x) (hne : v.ownBlock ≠ some gv) (hb : base ≤ w.heap.size) :
    Calls Tryz.prog 58 #[v, .int .i64 i, .slice (some ⟨gv, 0, none⟩) 1 cv] w (GivesIn w base v L i x) := by
  rcases Nat.eq_or_lt_of_le hi with rfl | hi
  · exact insertEnd_c w base v L x gv cv hown hl hx hb
  · rcases hown.2 with ⟨rfl, hn⟩ | ⟨g, cap, cur, rfl, hbg, hg, hnc, hm, hs, htake⟩
    · omega
    · have hgne : gv ≠ g := fun e => hne (by rw [e]; rfl)
      unfold maxLen at hm
      by_cases hr : L.length + 1 ≤ cap
      · exact insertRoom_c w base g cap i cur L x gv cv hi hl hr (by omega) hg hbg hs htake hx hgne
      · exact insertGrow_c w base g cap i cur L x gv cv hi hl hnc (by omega) hg hbg hs htake hx
theorem insD_at {d : Dl} : ∀ {l : List Dl} {j : Nat}, j ≤ l.length → (∀ i (h : i < l.length), i < j → dlLt l[i] d = true) → (∀ h : j < l.length, dlLt l[j] d = false) → insD d l = insAt l j d
  | [], j, hj, _, _ => by
    obtain rfl : j = 0 := by simp at hj; omega
    rfl
  | x :: t, 0, _, _, h2 => by
    have := h2 (by simp)
    unfold insD
    rw [if_neg (by simpa using this)]
    rfl
  | x :: t, j + 1, hj, h1, h2 => by
    have hx := h1 0 (by simp) (by omega)
    unfold insD
    rw [if_pos (by simpa using hx), insD_at (l := t) (j := j) (by simpa using hj) (fun i hi hij => by have := h1 (i + 1) (by simpa using hi) (by omega); simpa using this) (fun h => by have := h2 (by simpa using h); simpa using this)]
    rfl
end Go.Proofs.YtfninfgohiipjaaGreatDoor

namespace Go.Proofs.YtfninfgohiipjaaGreatDoor
open Go.RowKit Dw

def CaR2 (w : World) (v1 v2 : Value) (T : List Th) (M : List Mv) (l : List Ak) (m : Nat) (i : Value) (wr : World) : Prop :=
  ∃ k : Nat, k + m = l.length ∧ i = .int .i64 k ∧ (∀ j, j < k → asF T M l j = 0) ∧ CB w wr w.heap.size v1 v2
/-- The six ways of the order test. -/
theorem akOrd_ways (p c : Ak) : (decide (c.day < p.day) = true ∧ akLt p c = false) ∨
    (decide (c.day < p.day) = false ∧ (c.day == p.day) = false ∧ akLt p c = true) ∨
    (decide (c.day < p.day) = false ∧ (c.day == p.day) = true ∧ slt c.party p.party = true ∧ akLt p c = false) ∨
    (decide (c.day < p.day) = false ∧ (c.day == p.day) = true ∧ slt c.party p.party = false ∧ (c.party.toList == p.party.toList) = false ∧ akLt p c = true) ∨
    (decide (c.day < p.day) = false ∧ (c.day == p.day) = true ∧ slt c.party p.party = false ∧ (c.party.toList == p.party.toList) = true ∧ decide (c.id ≤ p.id) = true ∧ akLt p c = false) ∨
    (decide (c.day < p.day) = false ∧ (c.day == p.day) = true ∧ slt c.party p.party = false ∧ (c.party.toList == p.party.toList) = true ∧ decide (c.id ≤ p.id) = false ∧ akLt p c = true) := by
  unfold akLt triLt
  rcases Int.lt_trichotomy c.day p.day with h | h | h
  · left
    have h1 : ¬ p.day < c.day := by omega
    have h2 : ¬ p.day = c.day := by omega
    simp [h, h1, h2]
  · right; right
    rw [str_dec]
    by_cases hp : c.party = p.party
    · right; right
      rw [hp, slt_irrefl]
      by_cases hi : c.id ≤ p.id
      · left
        have h3 : ¬ p.id < c.id := by omega
        simp [h, hi, h3]
      · right
        have h3 : p.id < c.id := by omega
        simp [h, h3]
    · cases hs : slt c.party p.party with
      | true =>
        left
        have hne : ¬ p.party = c.party := fun e => hp e.symm
        simp [h, slt_asymm hs, hne]
      | false =>
        right; left
        have : slt p.party c.party = true := by
          cases h4 : slt p.party c.party with
          | true => rfl
          | false => exact absurd (slt_total hs h4) hp
        simp [h, this, hp]
  · right; left
    have h1 : ¬ c.day < p.day := by omega
    have h2 : ¬ c.day = p.day := by omega
    simp [h, h1, h2]

set_option maxRecDepth 100000 in
set_option maxHeartbeats 2000000 in
theorem checkAsR_c (A1 : Option Addr) (c1 : Nat) (T : List Th) (A2 : Option Addr) (c2 : Nat) (M : List Mv) (A : Option Addr) (c : Nat) (l : List Ak) (w : World) (hc : CatOk w A1 T A2 M) (hG : GOK w) (he : AksOk w A l) (hcap : T.length ≤ c1) (hck : chkC twoB T M = 0) :
    Calls Tryz.prog 56 #[catV A1 c1 T A2 c2 M, .slice A l.length c] w (GivesB (.int .i64 (chkAs T M l)) w) := by
  generalize hres : chkAs T M l = res
  have HR := Lib.hid hres
  have HEM := Lib.hid he
  have HCK := Lib.hid hck
  have hls := he.sized.1
  have HCB := Lib.hid (CB.new w (.slice A1 T.length c1) (.slice A2 M.length c2))
  clear hres he hck
  by_cases hlg : 500 < l.length
  · have HS : Hid (res = 2) := by show res = 2; rw [← HR.out, chkAs_large hlg]
    go_enter Tryz.func56, Tryz.ntmps56
    go_wp2
    go_ret
    exact GivesB.mk (vint HS.out.symm) HCB.out.bel
  have HFST : Hid (res = firstF (asF T M l) l.length) := by show res = _; rw [← HR.out, chkAs_first hlg]
  have hn : l.length ≤ 500 := by omega
  clear hls
  go_enter Tryz.func56, Tryz.ntmps56
  go_wp2
  clear hlg
  go_loopg [15] l.length (CaR2 w (.slice A1 T.length c1) (.slice A2 M.length c2) T M l)
  case atStart => exact ⟨0, by omega, rfl, fun j hj => absurd hj (by omega), HCB.out⟩
  clear HCB
  case round =>
    obtain ⟨k, hk, rfl, hpre, hcb⟩ := hrel
    have HK := Lib.hid hk
    have HP := Lib.hid hpre
    have HCB := Lib.hid hcb
    have hk1 : k ≤ l.length := by omega
    have hwl := hcb.lt
    have d0 := hcb.c0
    have d1 := hcb.c1
    clear hk hpre hcb
    by_cases hlt : k < l.length
    · have heb := HEM.out.below HCB.out.bel
      obtain ⟨b, o, rfl, hb, hcc⟩ := heb.aks.at_ (by omega)
      obtain ⟨q0, q1, q2⟩ := hcc k hlt
      have HER : Hid (∀ z : Int, asF T M l k = z → z ≠ 0 → res = z) := by
        show ∀ z : Int, asF T M l k = z → z ≠ 0 → res = z
        intro z h1 h2
        rw [HFST.out, firstF_at hlt HP.out (by rw [h1]; exact h2), h1]
      have HSZ := Lib.hid (heb.sized.2 _ (List.getElem_mem hlt))
      have HEF := Lib.hid (asF_at (T := T) (M := M) hlt)
      have HCP : Hid (0 < k → wr.cell? ⟨b, o + (k - 1) * 3, none⟩ = some (.int .i64 (l.getD (k - 1) default).day) ∧ wr.cell? ⟨b, o + (k - 1) * 3 + 1, none⟩ = some (.string (l.getD (k - 1) default).party) ∧ wr.cell? ⟨b, o + (k - 1) * 3 + 2, none⟩ = some (.int .i64 (l.getD (k - 1) default).id)) := by
        show 0 < k → _
        intro h0
        rw [getK (l := l) (i := k - 1) (by omega)]
        exact hcc (k - 1) (by omega)
      clear hcc heb
      have HCA := Lib.hid (HCB.out.alloc (.cells #[.int .i64 (l[k]).day, .string (l[k]).party, .int .i64 (l[k]).id] 100))
      have HBX : Hid (BoxA (wr.alloc (.cells #[.int .i64 (l[k]).day, .string (l[k]).party, .int .i64 (l[k]).id] 100)) wr.heap.size l[k]) := heap_alloc_new _ _
      go_wp2_with fail
      refine (foundR_c A1 c1 T A2 c2 M (l[k]).id _ (hc.below HCA.out.bel) (hG.below HCA.out.bel) hcap HCK.out).mono ?_
      rintro e w2 ⟨rfl, hb2⟩
      have HC2 := Lib.hid (HCA.out.below hb2)
      have HB2 := Lib.hid (HBX.out.below hb2)
      have HCL : Hid (∀ i v, wr.cell? ⟨b, i, none⟩ = some v → w2.cell? ⟨b, i, none⟩ = some v) := fun i v hv => by
        rw [hb2.cell (p := ⟨b, i, none⟩) (by simp; omega), World.cell?_alloc_lt _ _ _ hb]; exact hv
      have hbz : b < w2.heap.size := Nat.lt_of_lt_of_le hb (Nat.le_trans (by simp) hb2.size)
      clear hb2 HCA HBX q0 q1 q2 hwl d0 d1
      generalize hpp : wr.heap.size = p at *
      clear hpp
      obtain ⟨x0, x1, x2⟩ := HB2.out.cells
      have hp2 := HB2.out.lt
      by_cases ht1 : (l[k]).day < 0
      · have HI := Lib.hid (HER.out 1 (by rw [HEF.out, if_pos (.inl ht1)]) (by decide))
        generalize fdP T M (l[k]).id = fp at *
        go_wp2
        go_ret
        exact GivesB.mk (vint HI.out.symm) HC2.out.bel
      by_cases ht2 : 200000 < (l[k]).day
      · have HI := Lib.hid (HER.out 1 (by rw [HEF.out, if_pos (.inr ht2)]) (by decide))
        generalize fdP T M (l[k]).id = fp at *
        go_wp2
        go_ret
        exact GivesB.mk (vint HI.out.symm) HC2.out.bel
      have HE2 := Lib.hid (HEF.out.trans (if_neg (by omega)))
      have HFD : Hid ((fdP T M (l[k]).id).2 = (insO T M (l[k]).id).isSome) := by
        show _ = _
        cases hf : findN T M (M.length + 1) (l[k]).id with
        | none => rw [fdP_none hf, insO_none hf]; rfl
        | some n =>
          obtain ⟨t, ht⟩ := findN_there hf
          rw [fdP_some hf, insO_some hf ht]; rfl
      clear HEF
      generalize hf1 : (fdP T M (l[k]).id).1 = f1 at *
      generalize hf2 : (fdP T M (l[k]).id).2 = f2 at *
      clear hf1 hf2
      go_wp2_with fail
      refine (IsParty_c _ _ HSZ.out).mono ?_
      rintro e w3 ⟨rfl, rfl⟩
      cases hnm : isNm (l[k]).party with
      | false =>
        have HI := Lib.hid (HER.out 5 (by rw [HE2.out, if_pos hnm]) (by decide))
        clear hnm
        go_wp2
        go_ret
        exact GivesB.mk (vint HI.out.symm) HC2.out.bel
      | true =>
      have HE3 := Lib.hid (HE2.out.trans (if_neg (by rw [hnm]; simp)))
      clear HE2 hnm
      cases hf2 : f2 with
      | false =>
        have hin : insO T M (l[k]).id = none := by
          have := HFD.out
          rw [hf2] at this
          cases hq : insO T M (l[k]).id with
          | none => rfl
          | some r => rw [hq] at this; cases this
        have HI := Lib.hid (HER.out 9 (by rw [HE3.out, if_pos hin]) (by decide))
        clear hin HFD
        subst hf2
        go_wp2
        go_ret
        exact GivesB.mk (vint HI.out.symm) HC2.out.bel
      | true =>
      have hin : ¬ insO T M (l[k]).id = none := fun e => by
        have := HFD.out
        rw [hf2, e] at this
        cases this
      have HE4 := Lib.hid (HE3.out.trans (if_neg hin))
      clear hin HFD HE3
      subst hf2
      by_cases h0 : 0 < k
      case neg =>
        have hd : ((k : Int) == 0) = true := by simp; omega
        have HOK : Hid (asF T M l k = 0) := HE4.out.trans (if_neg (fun h => h0 h.1))
        obtain rfl : k = 0 := by omega
        clear HE4
        go_wp2
        go_roundg (gk - 1)
        case measure => have := HK.out; omega
        case rel =>
          refine ⟨0 + 1, by have := HK.out; omega, by go_num, fun j hj => ?_, HC2.out⟩
          obtain rfl : j = 0 := by omega
          exact HOK.out
      case pos =>
        have hd : ((k : Int) == 0) = false := by simp; omega
        have HCP2 := Lib.hid (HCP.out h0)
        have y0 := HCL.out _ _ HCP2.out.1
        have y1 := HCL.out _ _ HCP2.out.2.1
        have y2 := HCL.out _ _ HCP2.out.2.2
        have hw := akOrd_ways (l.getD (k - 1) default) l[k]
        clear HCP HCP2
        have s0 : IntKind.i64.wrap ((k : Int) - 1) = (k : Int) - 1 := IntWalk.i64_in _ (by omega)
        have s1 : (1 : Int) ≤ (k : Int) := by omega
        have s2 : (k : Int) - 1 < (l.length : Int) := by omega
        have s3 : ((k : Int) - 1).toNat = k - 1 := by omega
        unfold slt at hw
        generalize hpv : l.getD (k - 1) default = pv at *
        have HC3 := Lib.hid (HC2.out.alloc (.cells #[.int .i64 pv.day, .string pv.party, .int .i64 pv.id] 100))
        have HBAD : Hid (akLt pv l[k] = false → res = 8) := fun h => HER.out 8 (by rw [HE4.out, if_pos ⟨h0, h⟩]) (by decide)
        have HOKK : Hid (akLt pv l[k] = true → asF T M l k = 0) := fun h => HE4.out.trans (if_neg (fun h' => by rw [h] at h'; cases h'.2))
        clear hpv HE4
        rcases hw with ⟨e1, hor⟩ | ⟨e1, e2, hor⟩ | ⟨e1, e2, e3, hor⟩ | ⟨e1, e2, e3, e4, hor⟩ | ⟨e1, e2, e3, e4, e5, hor⟩ | ⟨e1, e2, e3, e4, e5, hor⟩
        · have HS := Lib.hid (HBAD.out hor)
          clear hor HBAD HOKK
          go_wp2
          go_ret
          exact GivesB.mk (vint HS.out.symm) HC3.out.bel
        · have HOK := Lib.hid (HOKK.out hor)
          clear hor HBAD HOKK
          go_wp2
          go_roundg (gk - 1)
          case measure => have := HK.out; omega
          case rel =>
            refine ⟨k + 1, by have := HK.out; omega, by go_num, fun j hj => ?_, HC3.out⟩
            rcases Nat.lt_or_ge j k with h1 | h1
            · exact HP.out j h1
            · obtain rfl : j = k := by omega
              exact HOK.out
        · have HS := Lib.hid (HBAD.out hor)
          clear hor HBAD HOKK
          go_wp2
          go_ret
          exact GivesB.mk (vint HS.out.symm) HC3.out.bel
        · have HOK := Lib.hid (HOKK.out hor)
          clear hor HBAD HOKK
          go_wp2
          go_roundg (gk - 1)
          case measure => have := HK.out; omega
          case rel =>
            refine ⟨k + 1, by have := HK.out; omega, by go_num, fun j hj => ?_, HC3.out⟩
            rcases Nat.lt_or_ge j k with h1 | h1
            · exact HP.out j h1
            · obtain rfl : j = k := by omega
              exact HOK.out
        · have HS := Lib.hid (HBAD.out hor)
          clear hor HBAD HOKK
          go_wp2
          go_ret
          exact GivesB.mk (vint HS.out.symm) HC3.out.bel
        · have HOK := Lib.hid (HOKK.out hor)
          clear hor HBAD HOKK
          go_wp2
          go_roundg (gk - 1)
          case measure => have := HK.out; omega
          case rel =>
            refine ⟨k + 1, by have := HK.out; omega, by go_num, fun j hj => ?_, HC3.out⟩
            rcases Nat.lt_or_ge j k with h1 | h1
            · exact HP.out j h1
            · obtain rfl : j = k := by omega
              exact HOK.out
    · have HX : Hid (res = 0) := by
        show res = 0
        rw [HFST.out, firstF_zero fun j hj => HP.out j (by omega)]
      go_wp2
      go_ret
      exact GivesB.mk (vint HX.out.symm) HCB.out.bel

set_option maxHeartbeats 400000 in
theorem sooner_c (x y : Dl) (w : World) : Calls Tryz.prog 57 #[.agg #[.int .i64 x.day, .string x.party, .int .i64 x.rc], .agg #[.int .i64 y.day, .string y.party, .int .i64 y.rc]] w (GivesB (.bool (dlLt x y)) w) := by
  generalize hres : dlLt x y = res
  have HR := Lib.hid hres
  clear hres
  have hB : Below w.heap.size w ((w.alloc (.cells #[.int .i64 x.day, .string x.party, .int .i64 x.rc] 44)).alloc (.cells #[.int .i64 y.day, .string y.party, .int .i64 y.rc] 44)) := ((Below.refl _ _).alloc (Nat.le_refl _) _).alloc (by simp) _
  have HB := Lib.hid hB
  clear hB
  by_cases hd : x.day = y.day
  · have e1 : (x.day != y.day) = false := by simp [hd]
    by_cases hp : x.party = y.party
    · have e2 : (x.party.toList == y.party.toList) = true := by simp [hp]
      have e2' : (x.party.toList != y.party.toList) = false := by simp [hp]
      have HS : Hid (decide (x.rc < y.rc) = res) := by
        show _ = res
        rw [← HR.out]; unfold dlLt triLt; rw [hp, slt_irrefl]; simp [hd]
      clear hd hp
      go_enter Tryz.func57, Tryz.ntmps57
      go_wp2
      go_ret
      exact GivesB.mk (vbool HS.out) HB.out
    · have e2 : (x.party.toList == y.party.toList) = false := beq_of_ne hp
      have e2' : (x.party.toList != y.party.toList) = true := by rw [bne, e2]; rfl
      have HS : Hid (slt x.party y.party = res) := by
        show _ = res
        rw [← HR.out]; unfold dlLt triLt; simp [hd, hp]
      clear hd hp
      go_enter Tryz.func57, Tryz.ntmps57
      go_wp2
      go_ret
      exact GivesB.mk (vbool HS.out) HB.out
  · have e1 : (x.day != y.day) = true := by simpa using hd
    have HS : Hid (decide (x.day < y.day) = res) := by
      show _ = res
      rw [← HR.out]; unfold dlLt triLt; simp [hd]
    clear hd
    go_enter Tryz.func57, Tryz.ntmps57
    go_wp2
    go_ret
    exact GivesB.mk (vbool HS.out) HB.out
end Go.Proofs.YtfninfgohiipjaaGreatDoor

namespace Go.Proofs.YtfninfgohiipjaaGreatDoor
open Go.RowKit Dw

/-- A slice in a block that is new. -/
def FrA (w : World) (A : Option Addr) : Prop := ∀ a, A = some a → w.heap.size ≤ a.block
theorem FrA.own {α : Type} {enc : α → List Value} {k : Nat} {w w0 : World} {base : Nat} {e : TypeId} {A : Option Addr} {n c : Nat} {l : List α} (h : OwnL enc k w base e (.slice A n c) l) (hb : w0.heap.size ≤ base) : FrA w0 A := fun a ha => by
  subst ha
  exact Nat.le_trans hb (World.ownsRow.lt h a.block rfl).1
theorem FrA.later {w0 w : World} {A : Option Addr} (hb : Below w0.heap.size w0 w) (h : FrA w A) : FrA w0 A := fun a ha => Nat.le_trans hb.size (h a ha)
def GivesIsF (l : List Int) (w : World) (e : Ending) (w' : World) : Prop :=
  ∃ A c, e = .returned (.slice A l.length c) ∧ Ints w' A l ∧ Below w.heap.size w w' ∧ FrA w A
theorem GivesIsF.mk {l l' : List Int} {w w' : World} {A : Option Addr} {c : Nat} (h : l' = l) (hi : Ints w' A l) (hb : Below w.heap.size w w') (hf : FrA w A) : GivesIsF l' w (.returned (.slice A l.length c)) w' := by
  subst h; exact ⟨A, c, rfl, hi, hb, hf⟩
def GivesIFF (p : List Int × Int) (w : World) (e : Ending) (w' : World) : Prop :=
  ∃ A c, e = .returned (.tuple #[.slice A p.1.length c, .int .i64 p.2]) ∧ Ints w' A p.1 ∧ Below w.heap.size w w' ∧ FrA w A
theorem GivesIFF.nil {p : List Int × Int} {f : Int} {w w' : World} (h : p = ([], f)) (hb : Below w.heap.size w w') : GivesIFF p w (.returned (.tuple #[.slice none 0 0, .int .i64 f])) w' := by
  subst h; exact ⟨none, 0, rfl, Rd1.nil, hb, fun a ha => by cases ha⟩
theorem GivesIFF.mk {p : List Int × Int} {l : List Int} {f : Int} {A : Option Addr} {c : Nat} {w w' : World} (h : p = (l, f)) (hi : Ints w' A l) (hb : Below w.heap.size w w') (hf : FrA w A) : GivesIFF p w (.returned (.tuple #[.slice A l.length c, .int .i64 f])) w' := by
  subst h; exact ⟨A, c, rfl, hi, hb, hf⟩

set_option maxHeartbeats 1000000 in
theorem onceRF_c (A : Option Addr) (c : Nat) (l : List Int) (w : World) (hn : l.length ≤ 1000) (h : Ints w A l) :
    Calls Tryz.prog 123 #[.slice A l.length c] w (GivesIsF (onceF l) w) := by
  go_enter Tryz.func123, Tryz.ntmps123
  go_wp2
  go_loopg [3, 8] l.length (OncRel w l)
  case atStart => exact ⟨0, by omega, rfl, OwnL.nil _ _ _ _ _, Below.refl _ _⟩
  case round =>
    obtain ⟨k, hk, rfl, hown, hbel⟩ := hrel
    have HK := Lib.hid hk
    have hk1 : k ≤ l.length := by omega
    clear hk
    by_cases hlt : k < l.length
    · obtain ⟨b, o, rfl, hb, hc⟩ := h.at_ (by omega)
      have hc0 : wr.cell? ⟨b, o + k, none⟩ = some (.int .i64 l[k]) := (hbel.cell hb).trans (hc k hlt)
      have hwr : w.heap.size ≤ wr.heap.size := hbel.size
      have hbr : b < wr.heap.size := by omega
      have hle := onceF_le l k hk1
      have HSN := Lib.hid (onceF_snoc l hlt)
      have HBL := Lib.hid hbel
      clear hc hbel
      generalize l[k] = x at *
      generalize onceF (l.take k) = acc at *
      obtain ⟨A', c', rfl, hrd⟩ := hown.rd1
      have HRD := Lib.hid hrd
      have HOW := Lib.hid hown
      clear hrd
      go_wp2_with fail
      refine (containsI_c A' c' acc x _ (by omega) HRD.out).mono ?_
      rintro e w' ⟨rfl, rfl⟩
      cases hq : memI acc x with
      | true =>
        have hs := HSN.out
        rw [if_pos hq] at hs
        have HS := Lib.hid hs
        clear hs hq
        go_wp2
        go_roundg (gk - 1)
        case measure => have := HK.out; omega
        case rel => exact ⟨k + 1, by have := HK.out; omega, by go_num, by rw [HS.out]; exact HOW.out, HBL.out⟩
      | false =>
        have hs := HSN.out
        rw [if_neg (by rw [hq]; simp)] at hs
        have HS := Lib.hid hs
        clear hs hq
        go_wp2_with (at_builtin; refine wpList_push _ _ _ elInt rfl rfl w.heap.size _ acc rfl (hown.alloc _) wr.heap.size 1 x rfl (heap_alloc_new _ _) rfl (by simp [Value.oneCell']) (by unfold maxLen; omega) (by omega) (by simp; omega) ?_; intro v1 w1 hown1 hg1 hb1)
        have HO := Lib.hid hown1
        have HB := Lib.hid ((HBL.out.alloc hwr _).trans hb1)
        clear hown hown1 hg1 hb1
        go_wp2
        go_roundg (gk - 1)
        case measure => have := HK.out; omega
        case rel => exact ⟨k + 1, by have := HK.out; omega, by go_num, by rw [HS.out]; exact HO.out, HB.out⟩
    · have HKE : Hid (onceF (l.take k) = onceF l) := by
        show onceF (l.take k) = onceF l
        rw [List.take_of_length_le (by omega)]
      obtain ⟨A', c', rfl, hrd⟩ := hown.rd1
      have HFR := Lib.hid (FrA.own hown (Nat.le_refl _))
      go_wp2
      go_ret
      rw [HKE.out] at hrd ⊢
      exact ⟨A', c', rfl, hrd, hbel, HFR.out⟩

set_option maxHeartbeats 2000000 in
theorem WithinRF_c (A1 : Option Addr) (c1 : Nat) (T : List Th) (A2 : Option Addr) (c2 : Nat) (M : List Mv) (id : Int) (w : World) (hc : CatOk w A1 T A2 M) (hG : GOK w) (hcap : T.length ≤ c1) :
    Calls Tryz.prog 84 #[catV A1 c1 T A2 c2 M, .int .i64 id] w (GivesIFF (witF T M id) w) := by
  generalize hres : witF T M id = res
  have HR := Lib.hid hres
  clear hres
  have HCB := Lib.hid (CB.new w (.slice A1 T.length c1) (.slice A2 M.length c2))
  go_enter Tryz.func84, Tryz.ntmps84
  go_wp2_with fail
  refine (CheckR_c A1 c1 T A2 c2 M _ (hc.below HCB.out.bel) (hG.below HCB.out.bel) hcap).mono ?_
  rintro e w2 ⟨rfl, hb2⟩
  have HC2 := Lib.hid (HCB.out.below hb2)
  clear hb2
  have hw2 : w.heap.size < w2.heap.size := HC2.out.lt
  have d0 := HC2.out.c0
  have d1 := HC2.out.c1
  by_cases hf : chkC twoB T M = 0
  case neg =>
    have hfb : (chkC twoB T M != 0) = true := by simpa using hf
    have HS := Lib.hid (HR.out.symm.trans (witF_bad hf))
    clear hf
    generalize chkC twoB T M = ck at *
    go_wp2
    go_ret2
    exact GivesIFF.nil HS.out HC2.out.bel
  have HCK := Lib.hid hf
  have HOK := Lib.hid (chkC_ok hf)
  have hn : T.length ≤ 300 := (chkC_len hf).1
  rw [hf]
  clear hf
  go_wp2_with fail
  refine (thing_c A1 c1 T A2 c2 M id _ (hc.below HC2.out.bel) hn).mono ?_
  rintro e w3 ⟨rfl, hb3⟩
  have HC3 := Lib.hid (HC2.out.below hb3)
  clear hb3 d0 d1
  have hw3 : w.heap.size < w3.heap.size := HC3.out.lt
  have d0 := HC3.out.c0
  have d1 := HC3.out.c1
  cases hta : thAt T id with
  | none =>
    have HS := Lib.hid (HR.out.symm.trans (witF_none HCK.out hta))
    clear hta
    simp only [thO, Option.map_none, Option.getD_none, Option.isSome_none]
    go_wp2
    go_ret2
    exact GivesIFF.nil HS.out (HC3.out.alloc _).bel
  | some t =>
    have HT := Lib.hid (HR.out.symm.trans (witF_some HCK.out hta))
    have HTA := Lib.hid (thAt_some hta)
    have HKD := Lib.hid (thF_kind (HOK.out.2.2.1 t HTA.out.1))
    have HPT := Lib.hid (hc.parts t HTA.out.1)
    clear hta
    simp only [thO, Option.map_some, Option.getD_some, Option.isSome_some]
    have HST : Hid (ThSt w (w3.alloc (.cells #[.int .i64 t.id, .int .i64 t.kind, .string t.title, .string t.code, .int .i64 t.since, .int .i64 t.parent, .slice t.pA t.parts.length t.pc] 54)) (.slice A1 T.length c1) (.slice A2 M.length c2) w3.heap.size t) := ⟨HC3.out.alloc _, heap_alloc_new _ _⟩
    by_cases h2 : t.kind = 2
    case pos =>
      have h2b : (t.kind == 2) = true := by simpa using h2
      have HS : Hid (res = ([id], 0)) := by
        show res = ([id], 0)
        rw [HT.out]; unfold witL; rw [if_pos h2]
      clear h2
      go_wp2
      go_ret2
      refine GivesIFF.mk (l := [id]) HS.out ?_ (HST.out.1.bel.alloc (by simp; omega) _) (fun a ha => by injection ha with ha; subst ha; show w.heap.size ≤ w3.heap.size + 1; omega)
      have hne := heap_alloc_new (w3.alloc (.cells #[.int .i64 t.id, .int .i64 t.kind, .string t.title, .string t.code, .int .i64 t.since, .int .i64 t.parent, .slice t.pA t.parts.length t.pc] 54)) (.cells #[.int .i64 id] 3)
      have e1 : (w3.alloc (.cells #[.int .i64 t.id, .int .i64 t.kind, .string t.title, .string t.code, .int .i64 t.since, .int .i64 t.parent, .slice t.pA t.parts.length t.pc] 54)).heap.size = w3.heap.size + 1 := by simp
      rw [e1] at hne
      exact ints_one hne
    have h2b : (t.kind == 2) = false := by simpa using h2
    by_cases h1 : t.kind = 1
    case pos =>
      have h1b : (t.kind == 1) = true := by simpa using h1
      have HS : Hid (res = (recsOf T id T.length, 0)) := by
        show res = (recsOf T id T.length, 0)
        rw [HT.out]; unfold witL; rw [if_neg h2, if_pos h1]
      clear h1 h2
      go_wp2
      go_loopg [9, 36] T.length (WrRel w T id (w.heap.size + 1) (.slice A1 T.length c1) (.slice A2 M.length c2))
      case atStart => exact ⟨0, by omega, rfl, OwnL.nil _ _ _ _ _, HST.out.1⟩
      case round =>
        obtain ⟨k, hk, rfl, hown, hcb⟩ := hrel
        have HK := Lib.hid hk
        have HCR := Lib.hid hcb
        have hk1 : k ≤ T.length := by omega
        have hwr : w.heap.size < wr.heap.size := hcb.lt
        have b0 := hcb.c0
        have b1 := hcb.c1
        clear hk hcb HST
        by_cases hlt : k < T.length
        · obtain ⟨b, o, rfl, hb, hcc⟩ := hc.ths.at_ (by omega)
          obtain ⟨p0, p1, p2, p3, p4, p5, p6⟩ := hcc k hlt
          have q0 := (HCR.out.bel.cell (p := ⟨b, o + k * 7, none⟩) hb).trans p0
          have q1 := (HCR.out.bel.cell (p := ⟨b, o + k * 7 + 1, none⟩) hb).trans p1
          have q2 := (HCR.out.bel.cell (p := ⟨b, o + k * 7 + 2, none⟩) hb).trans p2
          have q3 := (HCR.out.bel.cell (p := ⟨b, o + k * 7 + 3, none⟩) hb).trans p3
          have q4 := (HCR.out.bel.cell (p := ⟨b, o + k * 7 + 4, none⟩) hb).trans p4
          have q5 := (HCR.out.bel.cell (p := ⟨b, o + k * 7 + 5, none⟩) hb).trans p5
          have q6 := (HCR.out.bel.cell (p := ⟨b, o + k * 7 + 6, none⟩) hb).trans p6
          have hbr : b < wr.heap.size := by omega
          have HY := Lib.hid (recsOf_yes (id := id) hlt)
          have HN := Lib.hid (recsOf_no (id := id) hlt)
          have hle := recsOf_le T id k
          clear hcc p0 p1 p2 p3 p4 p5 p6
          generalize T[k] = x at *
          unfold recP2 at HY HN
          by_cases hx2 : x.kind = 2
          case neg =>
            have hx2b : (x.kind == 2) = false := by simpa using hx2
            have HE := Lib.hid (HN.out (by simp [hx2]))
            clear hx2
            go_wp2
            go_roundg (gk - 1)
            case measure => have := HK.out; omega
            case rel => exact ⟨k + 1, by have := HK.out; omega, by go_num, by rw [HE.out]; exact hown.alloc _, HCR.out.alloc _⟩
          have hx2b : (x.kind == 2) = true := by simpa using hx2
          have HX2 : Hid (decide (x.kind = 2) = true) := by show decide (x.kind = 2) = true; simpa using hx2
          clear hx2
          have HTS : Hid (ThSt w (wr.alloc (.cells #[.int .i64 x.id, .int .i64 x.kind, .string x.title, .string x.code, .int .i64 x.since, .int .i64 x.parent, .slice x.pA x.parts.length x.pc] 54)) (.slice (some ⟨b, o, none⟩) T.length c1) (.slice A2 M.length c2) wr.heap.size x) := ⟨HCR.out.alloc _, heap_alloc_new _ _⟩
          have HIDP : Hid (1 ≤ id) := by show 1 ≤ id; rw [← HTA.out.2]; exact HOK.out.2.1 t HTA.out.1
          go_wp2_with fail
          refine (madeOf_c (some ⟨b, o, none⟩) c1 T A2 c2 M x id _ (hc.below HTS.out.1.bel) hn HOK.out.2.1 HIDP.out).mono ?_
          rintro e w5 ⟨rfl, hb5⟩
          have HTS5 := Lib.hid (HTS.out.below hb5)
          have hown5 := (hown.alloc (.cells #[.int .i64 x.id, .int .i64 x.kind, .string x.title, .string x.code, .int .i64 x.since, .int .i64 x.parent, .slice x.pA x.parts.length x.pc] 54)).below hb5
          clear hb5 q0 q1 q2 q3 q4 q5 q6 b0 b1 hown
          obtain ⟨q0, q1, q2, q3, q4, q5, q6⟩ := HTS5.out.2.cells
          have hw5 : wr.heap.size < w5.heap.size := HTS5.out.2.lt
          cases hmd : madeB T x id with
          | false =>
            have HE := Lib.hid (HN.out (by rw [HX2.out, hmd]; rfl))
            clear hmd
            go_wp2
            go_roundg (gk - 1)
            case measure => have := HK.out; omega
            case rel => exact ⟨k + 1, by have := HK.out; omega, by go_num, by rw [HE.out]; exact hown5, HTS5.out.1⟩
          | true =>
            have HE := Lib.hid (HY.out (by rw [HX2.out, hmd]; rfl))
            clear hmd
            go_wp2_with (at_builtin; refine wpList_push _ _ _ elInt rfl rfl (w.heap.size + 1) _ (recsOf T id k) rfl (hown5.alloc _) w5.heap.size 1 x.id rfl (heap_alloc_new _ _) rfl (by simp [Value.oneCell']) (by unfold maxLen; omega) (by omega) (by simp; omega) ?_; intro v1 w6 hown6 hg6 hb6)
            have HO := Lib.hid hown6
            have HC6 := Lib.hid (CB.belowU (HTS5.out.1.alloc (.cells #[.int .i64 x.id] 3)) hb6)
            clear hown5 hown6 hg6 hb6
            go_wp2
            go_roundg (gk - 1)
            case measure => have := HK.out; omega
            case rel => exact ⟨k + 1, by have := HK.out; omega, by go_num, by rw [HE.out]; exact HO.out, HC6.out⟩
        · have HKE : Hid (recsOf T id k = recsOf T id T.length) := by
            show recsOf T id k = recsOf T id T.length
            rw [show k = T.length by omega]
          obtain ⟨A', c', rfl, hrd⟩ := hown.rd1
          have HFR := Lib.hid (FrA.own (w0 := w) hown (by omega))
          go_wp2
          go_ret2
          rw [HKE.out] at hrd ⊢
          exact GivesIFF.mk HS.out hrd HCR.out.bel HFR.out
    have h1b : (t.kind == 1) = false := by simpa using h1
    have HWL : Hid (res = (onceF (ptsOf T t), 0)) := by
      show res = (onceF (ptsOf T t), 0)
      rw [HT.out]; unfold witL; rw [if_neg h2, if_neg h1]
    have HP50 := Lib.hid (thF_parts (HOK.out.2.2.1 t HTA.out.1))
    clear h1 h2
    by_cases h4 : t.kind = 4 ∧ t.parts.length = 0
    case neg =>
      have HS : Hid (res = (onceF t.parts, 0)) := by
        show res = (onceF t.parts, 0)
        rw [HWL.out]; unfold ptsOf; rw [if_neg h4]
      have hcas : ((t.kind == 4) = false) ∨ ((t.kind == 4) = true ∧ ((t.parts.length : Int) == 0) = false) := by
        by_cases e : t.kind = 4
        · right
          exact ⟨by simpa using e, by simp; intro e2; exact h4 ⟨e, by simp [e2]⟩⟩
        · left
          simpa using e
      clear h4
      rcases hcas with h4b | ⟨h4b, h0b⟩
      all_goals
        go_wp2_with fail
        refine (onceRF_c t.pA t.pc t.parts _ (by have := HP50.out; omega) (HPT.out.below HST.out.1.bel)).mono ?_
        rintro e w5 ⟨A5, c5, rfl, hi5, hb5, hf5⟩
        have HF5 := Lib.hid (FrA.later HST.out.1.bel hf5)
        clear hf5
        have HC5 := Lib.hid (HST.out.below hb5)
        have HI5 := Lib.hid hi5
        clear hb5 hi5
        go_wp2
        go_ret2
        exact GivesIFF.mk HS.out HI5.out HC5.out.1.bel HF5.out
    have h4b : (t.kind == 4) = true := by simpa using h4.1
    have h0b : ((t.parts.length : Int) == 0) = true := by simpa using h4.2
    have HPP : Hid (ptsOf T t = ((thAt T t.parent).map (·.parts)).getD []) := by
      show ptsOf T t = _
      unfold ptsOf; rw [if_pos h4]
    clear h4
    go_wp2_with fail
    refine (thing_c A1 c1 T A2 c2 M t.parent _ (hc.below HST.out.1.bel) hn).mono ?_
    rintro e w5 ⟨rfl, hb5⟩
    have HS5 := Lib.hid (HST.out.below hb5)
    clear hb5
    have hbx := HS5.out.2
    have hw5 : w3.heap.size < w5.heap.size := hbx.lt
    obtain ⟨x0, x1, x2, x3, x4, x5, x6⟩ := hbx.cells
    have fz : ∀ i, w5.frozen? ⟨w3.heap.size, i, none⟩ = false := fun i => frozen_of_row w5 _ i _ _ hbx
    clear hbx
    obtain ⟨u, hu1, hu2, hu3⟩ : ∃ u : Th, thO (thAt T t.parent) = thV u ∧ ((thAt T t.parent).map (·.parts)).getD [] = u.parts ∧ (Ints w u.pA u.parts ∧ u.parts.length ≤ 50) := by
      cases hta : thAt T t.parent with
      | none => exact ⟨default, rfl, rfl, Rd1.nil, by decide⟩
      | some u => exact ⟨u, rfl, rfl, hc.parts u (thAt_some hta).1, thF_parts (HOK.out.2.2.1 u (thAt_some hta).1)⟩
    have HS : Hid (res = (onceF u.parts, 0)) := by
      show res = _
      rw [HWL.out, HPP.out, hu2]
    have HU3 := Lib.hid hu3
    rw [hu1]
    clear hu1 hu2 hu3
    generalize (thAt T t.parent).isSome = bs at *
    have HB7 := Lib.hid (set7_below (g := w3.heap.size) u HS5.out.1.bel (by omega))
    go_wp2_with fail
    refine (onceRF_c u.pA u.pc u.parts _ (by have := HU3.out.2; omega) (HU3.out.1.below HB7.out)).mono ?_
    rintro e w6 ⟨A6, c6, rfl, hi6, hb6, hf6⟩
    have HF6 := Lib.hid (FrA.later HB7.out hf6)
    clear hf6
    have HB6 := Lib.hid (below_trans HB7.out hb6)
    have HI6 := Lib.hid hi6
    clear hb6 hi6
    go_wp2
    go_ret2
    exact GivesIFF.mk HS.out HI6.out HB6.out HF6.out

set_option maxHeartbeats 400000 in
theorem insideF_c (A1 : Option Addr) (c1 : Nat) (T : List Th) (A2 : Option Addr) (c2 : Nat) (M : List Mv) (id : Int) (w : World) (hc : CatOk w A1 T A2 M) (hG : GOK w) (hcap : T.length ≤ c1) (hck : chkC twoB T M = 0) :
    Calls Tryz.prog 47 #[catV A1 c1 T A2 c2 M, .int .i64 id] w (GivesIsF (insL T M id) w) := by
  have HCK := Lib.hid hck
  clear hck
  have HCB := Lib.hid (CB.new w (.slice A1 T.length c1) (.slice A2 M.length c2))
  go_enter Tryz.func47, Tryz.ntmps47
  go_wp2_with fail
  refine (foundR_c A1 c1 T A2 c2 M id _ (hc.below HCB.out.bel) (hG.below HCB.out.bel) hcap HCK.out).mono ?_
  rintro e w2 ⟨rfl, hb2⟩
  have HC2 := Lib.hid (HCB.out.below hb2)
  clear hb2
  have hw2 := HC2.out.lt
  have d0 := HC2.out.c0
  have d1 := HC2.out.c1
  cases hfd : findN T M (M.length + 1) id with
  | none =>
    have HX : Hid (insL T M id = []) := by show insL T M id = []; unfold insL; rw [insO_none hfd]; rfl
    rw [fdP_none hfd]
    clear hfd
    go_wp2
    go_ret
    exact GivesIsF.mk (l := []) HX.out Rd1.nil HC2.out.bel (fun a ha => by cases ha)
  | some n =>
    obtain ⟨t, ht⟩ := findN_there hfd
    have HX : Hid (insL T M id = witL T n t) := by show insL T M id = _; unfold insL; rw [insO_some hfd ht]; rfl
    have HW := Lib.hid (witF_some HCK.out ht)
    rw [fdP_some hfd]
    clear hfd ht
    go_wp2_with fail
    refine (WithinRF_c A1 c1 T A2 c2 M n _ (hc.below HC2.out.bel) (hG.below HC2.out.bel) hcap).mono ?_
    rw [HW.out]
    rintro e w3 ⟨A, c, rfl, hi3, hb3, hf3⟩
    have HF := Lib.hid (FrA.later HC2.out.bel hf3)
    clear hf3
    have HI := Lib.hid hi3
    have HB := Lib.hid (HC2.out.below hb3).bel
    clear hi3 hb3
    dsimp only
    generalize witL T n t = l at *
    go_wp2
    go_ret
    exact GivesIsF.mk HX.out HI.out HB.out HF.out

end Go.Proofs.YtfninfgohiipjaaGreatDoor

namespace Go.Proofs.YtfninfgohiipjaaGreatDoor
open Go.RowKit Dw

theorem _root_.Dw.Rd1.keep2 {α : Type} {f : α → Value} {w w' : World} {A : Option Addr} {l : List α} (h : Rd1 f w A l) (b o : Nat) (hA : A = some ⟨b, o, none⟩) (hk : ∀ o, w'.cell? ⟨b, o, none⟩ = w.cell? ⟨b, o, none⟩) : Rd1 f w' A l := fun hl => by
  obtain ⟨b', o', e, hc⟩ := h hl
  rw [hA] at e
  injection e with e
  injection e with e1 e2 _
  subst e1
  subst e2
  exact ⟨b, o, hA, fun i hi => (hk _).trans (hc i hi)⟩
structure RvS (w wr : World) (v1 v2 : Value) (acc : List Dl) (out : Value) : Prop where
  cb : CB w wr w.heap.size v1 v2
  own : OwnL encD 3 wr (w.heap.size + 1) 44 out acc
section
variable {w wr wr' : World} {v1 v2 : Value} {acc : List Dl} {out : Value}
theorem RvS.below (h : RvS w wr v1 v2 acc out) (hb : Below wr.heap.size wr wr') : RvS w wr' v1 v2 acc out := ⟨h.cb.below hb, h.own.below hb⟩
theorem RvS.alloc (h : RvS w wr v1 v2 acc out) (o : Obj) : RvS w (wr.alloc o) v1 v2 acc out := h.below ((Below.refl _ _).alloc (Nat.le_refl _) _)
end
def RvRel (w : World) (v1 v2 : Value) (fr : ByteArray → Int → Int) (ins : Int → List Int) (ak : List Ak) (m : Nat) (out i : Value) (wr : World) : Prop :=
  ∃ k : Nat, k + m = ak.length ∧ i = .int .i64 k ∧ RvS w wr v1 v2 (allD fr ins (ak.take k)) out
def RiRel (w : World) (v1 v2 : Value) (fr : ByteArray → Int → Int) (a : Ak) (p : Nat) (A : Option Addr) (L : List Int) (acc0 : List Dl) (m : Nat) (out i : Value) (wr : World) : Prop :=
  ∃ k : Nat, k + m = L.length ∧ i = .int .i64 k ∧ BoxA wr p a ∧ Ints wr A L ∧ (∀ b, A = some b → out.ownBlock ≠ some b.block) ∧ RvS w wr v1 v2 ((L.take k).foldl (addD fr a) acc0) out
def hasK3 (acc : List Dl) (p : ByteArray) (n : Int) (k : Nat) : Bool := (acc.take k).any fun x => decide (x.party = p) && decide (x.rc = n)
theorem hasK3_snoc {acc : List Dl} {p : ByteArray} {n : Int} {k : Nat} (hk : k < acc.length) : hasK3 acc p n (k + 1) = (hasK3 acc p n k || (decide ((acc[k]).party = p) && decide ((acc[k]).rc = n))) := by
  unfold hasK3
  rw [List.take_succ_eq_append_getElem hk, List.any_append]; simp
theorem hasK3_all {acc : List Dl} {p : ByteArray} {n : Int} {k : Nat} (hk : acc.length ≤ k) : hasK3 acc p n k = hasD acc p n := by
  unfold hasK3 hasD; rw [List.take_of_length_le hk]
def RaRel (w6 : World) (acc : List Dl) (p : ByteArray) (n : Int) (m : Nat) (b i : Value) (wr : World) : Prop :=
  ∃ k : Nat, k + m = acc.length ∧ i = .int .i64 k ∧ b = .bool (hasK3 acc p n k) ∧ Below w6.heap.size w6 wr
/-- What the statement 'd := ..' leaves. -/
def CutD (wr : World) (d : Dl) (s : Value) (wx : World) : Prop := ∃ q : Nat, s = .pointer (some ⟨q, 0, none⟩) ∧ BoxD wx q d ∧ Below wr.heap.size wr wx ∧ wr.heap.size ≤ q
theorem boxD_set {w : World} {q : Nat} {x : Dl} (d : Dl) (h : BoxD w q x) : BoxD (((w.setCell ⟨q, 0, none⟩ (.int .i64 d.day)).setCell ⟨q, 1, none⟩ (.string d.party)).setCell ⟨q, 2, none⟩ (.int .i64 d.rc)) q d := by
  unfold BoxD at *
  have h1 := setRow_heap w q _ ((#[.int .i64 x.day, .string x.party, .int .i64 x.rc] : Array Value).setIfInBounds 0 (.int .i64 d.day)) _ _ h
  rw [← setCell_eq_setRow w q 0 _ _ _ (.int .i64 d.day) h] at h1
  have h2 := setRow_heap _ q _ (((#[.int .i64 x.day, .string x.party, .int .i64 x.rc] : Array Value).setIfInBounds 0 (.int .i64 d.day)).setIfInBounds 1 (.string d.party)) _ _ h1
  rw [← setCell_eq_setRow _ q 1 _ _ _ (.string d.party) h1] at h2
  have h3 := setRow_heap _ q _ ((((#[.int .i64 x.day, .string x.party, .int .i64 x.rc] : Array Value).setIfInBounds 0 (.int .i64 d.day)).setIfInBounds 1 (.string d.party)).setIfInBounds 2 (.int .i64 d.rc)) _ _ h2
  rw [← setCell_eq_setRow _ q 2 _ _ _ (.int .i64 d.rc) h2] at h3
  simpa using h3
theorem CutD.alloc {wr w6 : World} (a : Int) (b : ByteArray) (c : Int) (hb : Below wr.heap.size wr w6) : CutD wr ⟨a, b, c⟩ (.pointer (some ⟨w6.heap.size, 0, none⟩)) (w6.alloc (.cells #[.int .i64 a, .string b, .int .i64 c] 44)) :=
  ⟨_, rfl, heap_alloc_new _ _, hb.alloc hb.size _, hb.size⟩
theorem CutD.set {wr w6 : World} {q : Nat} {x : Dl} (a : Int) (b : ByteArray) (c : Int) (hz : BoxD w6 q x) (hb : Below wr.heap.size wr w6) (hq : wr.heap.size ≤ q) : CutD wr ⟨a, b, c⟩ (.pointer (some ⟨q, 0, none⟩)) (((w6.setCell ⟨q, 0, none⟩ (.int .i64 a)).setCell ⟨q, 1, none⟩ (.string b)).setCell ⟨q, 2, none⟩ (.int .i64 c)) :=
  ⟨q, rfl, boxD_set ⟨a, b, c⟩ hz, ((hb.setCell hq _).setCell hq _).setCell hq _, hq⟩
def RoRel (w3 : World) (acc : List Dl) (upto : Int) (m : Nat) (out i : Value) (wr : World) : Prop :=
  ∃ k : Nat, k + m = acc.length ∧ i = .int .i64 k ∧ Below w3.heap.size w3 wr ∧ OwnL encD 3 wr w3.heap.size 44 out ((acc.take k).foldl (putD upto) [])
def RsRel (w5 : World) (L : List Dl) (d : Dl) (m : Nat) (at_ : Value) (wr : World) : Prop :=
  ∃ j : Nat, j + m = L.length ∧ at_ = .int .i64 j ∧ (∀ i (h : i < L.length), i < j → dlLt L[i] d = true) ∧ Below w5.heap.size w5 wr
/-- freeFor of one recording, in whatever world. -/
theorem ffOne_c (w0 : World) (A1 : Option Addr) (c1 : Nat) (T : List Th) (A2 : Option Addr) (c2 : Nat) (M : List Mv) (A : Option Addr) (c : Nat) (l : List Em) (p : ByteArray) (n : Int) (b : Nat) (W : World) (hc : CatOk w0 A1 T A2 M) (hG : GOK w0) (he : EmsOk w0 A l) (hcap : T.length ≤ c1) (hck : chkE T M l = 0)
    (hb : Below w0.heap.size w0 W) (hR : W.cell? ⟨b, 0, none⟩ = some (.int .i64 n)) :
    Calls Tryz.prog 46 #[catV A1 c1 T A2 c2 M, .slice A l.length c, .string p, .slice (some ⟨b, 0, none⟩) 1 1] W (GivesB (.int .i64 (frD T M l p n)) W) := by
  have hI : Ints W (some ⟨b, 0, none⟩) [n] := fun _ => by
    refine ⟨b, 0, rfl, fun i hi => ?_⟩
    have : i = 0 := by simp at hi; omega
    subst this
    exact hR
  exact freeFor_c A1 c1 T A2 c2 M A c l p (some ⟨b, 0, none⟩) 1 [n] W (hc.below hb) (hG.below hb) (he.below hb) hcap (chkE_ok hck).1 (chkE_ok hck).2.1 (fun x hx => by
    obtain ⟨j, hj, rfl⟩ := List.getElem_of_mem hx
    exact (emF_ok hj ((chkE_ok hck).2.2 j hj)).2.2.2.1) hI (by simp)

set_option maxRecDepth 100000 in
set_option maxHeartbeats 1500000 in
theorem DeliverR_c (A1 : Option Addr) (c1 : Nat) (T : List Th) (A2 : Option Addr) (c2 : Nat) (M : List Mv) (A : Option Addr) (c : Nat) (l : List Em) (A3 : Option Addr) (c3 : Nat) (ak : List Ak) (upto : Int) (w : World) (hc : CatOk w A1 T A2 M) (hG : GOK w) (he : EmsOk w A l) (ha : AksOk w A3 ak) (hcap : T.length ≤ c1) :
    Calls Tryz.prog 21 #[catV A1 c1 T A2 c2 M, .slice A l.length c, .slice A3 ak.length c3, .int .i64 upto] w (GivesD (delF T M l ak upto) w) := by
  have HEM := Lib.hid he
  have HAK := Lib.hid ha
  have HCB := Lib.hid (CB.new w (.slice A1 T.length c1) (.slice A2 M.length c2))
  clear he ha
  go_enter Tryz.func21, Tryz.ntmps21
  go_wp2_with fail
  refine (CheckEmR_c A1 c1 T A2 c2 M A c l _ (hc.below HCB.out.bel) (hG.below HCB.out.bel) (HEM.out.below HCB.out.bel) hcap).mono ?_
  rintro e w2 ⟨rfl, hb2⟩
  have HC2 := Lib.hid (HCB.out.below hb2)
  clear hb2 HCB
  have hw2 := HC2.out.lt
  have d0 := HC2.out.c0
  have d1 := HC2.out.c1
  by_cases hck : chkE T M l = 0
  case neg =>
    have hckb : (chkE T M l != 0) = true := by simpa using hck
    have HX := Lib.hid (delF_bad (ak := ak) (upto := upto) hck)
    clear hck
    generalize chkE T M l = z at *
    go_wp2
    go_ret2
    exact GivesD.err HX.out HC2.out.bel
  have HCK := Lib.hid hck
  have HCC := Lib.hid (chkE_ok hck).1
  rw [hck]
  clear hck
  go_wp2_with fail
  refine (checkAsR_c A1 c1 T A2 c2 M A3 c3 ak _ (hc.below HC2.out.bel) (hG.below HC2.out.bel) (HAK.out.below HC2.out.bel) hcap HCC.out).mono ?_
  rintro e w3 ⟨rfl, hb3⟩
  have HC3 := Lib.hid (HC2.out.below hb3)
  clear hb3 HC2 hw2 d0 d1
  by_cases hca : chkAs T M ak = 0
  case neg =>
    have hckb : (chkAs T M ak != 0) = true := by simpa using hca
    have HX := Lib.hid (delF_asks (upto := upto) HCK.out hca)
    clear hca
    generalize chkAs T M ak = z at *
    go_wp2
    go_ret2
    exact GivesD.err HX.out HC3.out.bel
  have HCA := Lib.hid hca
  rw [hca]
  clear hca
  by_cases hu : upto < 0
  · have HX := Lib.hid (delF_upto HCK.out HCA.out (.inl hu))
    go_wp2
    go_ret2
    exact GivesD.err HX.out HC3.out.bel
  by_cases hu2 : 200000 < upto
  · have HX := Lib.hid (delF_upto HCK.out HCA.out (.inr hu2))
    go_wp2
    go_ret2
    exact GivesD.err HX.out HC3.out.bel
  have HX := Lib.hid (delF_ok HCK.out HCA.out (by omega : ¬ (upto < 0 ∨ 200000 < upto)))
  have hn5 := (chkAs_ok HCA.out).1
  have HLEN : Hid (∀ k, (allD (frD T M l) (insL T M) (ak.take k)).length ≤ 150000) := fun k => allD_len HCC.out k hn5
  go_wp2
  go_loopg [12, 45] ak.length (RvRel w (.slice A1 T.length c1) (.slice A2 M.length c2) (frD T M l) (insL T M) ak)
  case atStart => exact ⟨0, by omega, rfl, ⟨HC3.out, OwnL.nil _ _ _ _ _⟩⟩
  clear HC3
  case round =>
    obtain ⟨k, hk, rfl, hrv⟩ := hrel
    have HK := Lib.hid hk
    have HRV := Lib.hid hrv
    have hk1 : k ≤ ak.length := by omega
    have hwl := hrv.cb.lt
    have d0 := hrv.cb.c0
    have d1 := hrv.cb.c1
    clear hk hrv
    by_cases hlt : k < ak.length
    · have hab := HAK.out.below HRV.out.cb.bel
      obtain ⟨b, o, rfl, hb, hcc⟩ := hab.aks.at_ (by omega)
      obtain ⟨q0, q1, q2⟩ := hcc k hlt
      clear hcc hab
      have HRA := Lib.hid (HRV.out.alloc (.cells #[.int .i64 (ak[k]).day, .string (ak[k]).party, .int .i64 (ak[k]).id] 100))
      have HBX : Hid (BoxA (wr.alloc (.cells #[.int .i64 (ak[k]).day, .string (ak[k]).party, .int .i64 (ak[k]).id] 100)) wr.heap.size ak[k]) := heap_alloc_new _ _
      go_wp2_with fail
      refine (insideF_c A1 c1 T A2 c2 M (ak[k]).id _ (hc.below HRA.out.cb.bel) (hG.below HRA.out.cb.bel) hcap HCC.out).mono ?_
      rintro e w4 ⟨A', c', rfl, hL, hb4, hfr⟩
      have HR4 := Lib.hid (HRA.out.below hb4)
      have HB4 := Lib.hid (HBX.out.below hb4)
      have HL4 := Lib.hid hL
      have HNE : Hid (∀ b, A' = some b → u12.ownBlock ≠ some b.block) := fun b hb he => by
        have h1 := hfr b hb
        have h2 := (World.ownsRow.lt HRA.out.own _ he).2
        omega
      have hLn := insL_len (M := M) (id := (ak[k]).id) HCC.out
      have HLL : Hid (∃ L, L = insL T M (ak[k]).id) := ⟨_, rfl⟩
      clear hL hb4 hfr q0 q1 q2 HRA HBX HRV hwl d0 d1
      obtain ⟨L, hLe⟩ := HLL.out
      rw [← hLe] at hLn ⊢
      have HLE := Lib.hid hLe
      have HL5 : Hid (Ints w4 A' L) := by show Ints w4 A' L; rw [HLE.out]; exact HL4.out
      clear hLe HL4 HLL
      generalize hpp : wr.heap.size = p at *
      clear hpp
      obtain ⟨g1, hg1⟩ : ∃ g1, g1 = gk := ⟨_, rfl⟩
      subst hg1
      go_wp2
      go_loopg [12, 54] L.length (RiRel w (.slice A1 T.length c1) (.slice A2 M.length c2) (frD T M l) ak[k] p A' L (allD (frD T M l) (insL T M) (ak.take k)))
      case atStart => exact ⟨0, by omega, rfl, HB4.out, HL5.out, HNE.out, HR4.out⟩
      clear HR4 HB4 HL5 HNE
      case round =>
        obtain ⟨k2, hk2, rfl, hbx, hil, hne, hrv⟩ := hrel
        have HK2 := Lib.hid hk2
        have HB2 := Lib.hid hbx
        have HI2 := Lib.hid hil
        have HN2 := Lib.hid hne
        have HR2 := Lib.hid hrv
        have hk21 : k2 ≤ L.length := by omega
        have hwl := hrv.cb.lt
        have d0 := hrv.cb.c0
        have d1 := hrv.cb.c1
        have hpw := hbx.lt
        clear hk2 hbx hil hne hrv
        by_cases hlt2 : k2 < L.length
        · obtain ⟨b2, o2, hA2, hb2, hc2⟩ := HI2.out.at_ (by omega)
          have q := hc2 k2 hlt2
          have HA2 := Lib.hid hA2
          clear hc2
          subst hA2
          obtain ⟨x0, x1, x2⟩ := HB2.out.cells
          have HACC := Lib.hid (addD_snoc (fr := frD T M l) (a := ak[k]) hlt2 (allD (frD T M l) (insL T M) (ak.take k)))
          have HLN : Hid (((L.take k2).foldl (addD (frD T M l) ak[k]) (allD (frD T M l) (insL T M) (ak.take k))).length ≤ 160000) := by
            show _ ≤ _
            have h1 := addsD_len (fr := frD T M l) (a := ak[k]) (L.take k2) (allD (frD T M l) (insL T M) (ak.take k))
            have h2 := HLEN.out k
            have h3 : (L.take k2).length ≤ 300 := by simp; omega
            omega
          generalize (L.take k2).foldl (addD (frD T M l) ak[k]) (allD (frD T M l) (insL T M) (ak.take k)) = acc at *
          generalize L[k2] = n at *
          have hB1 : Below wr.heap.size wr (wr.alloc (.cells #[.int .i64 n] 3)).drew := below_drewN ((Below.refl _ _).alloc (Nat.le_refl _) _) 1
          have hB2 : Below wr.heap.size wr ((wr.alloc (.cells #[.int .i64 n] 3)).alloc (.cells #[.int .i64 0, .string ⟨#[]⟩, .int .i64 0] 44)).drew := below_drewN (((Below.refl _ _).alloc (Nat.le_refl _) _).alloc (by simp) _) 1
          have hB3 : Below wr.heap.size wr ((wr.alloc (.cells #[.int .i64 0, .string ⟨#[]⟩, .int .i64 0] 44)).alloc (.cells #[.int .i64 n] 3)).drew := below_drewN (((Below.refl _ _).alloc (Nat.le_refl _) _).alloc (by simp) _) 1
          have HW1 := Lib.hid hB1
          have HW2 := Lib.hid hB2
          have HW3 := Lib.hid hB3
          have HF1 := Lib.hid (ffOne_c w A1 c1 T A2 c2 M A c l (ak[k]).party n wr.heap.size (wr.alloc (.cells #[.int .i64 n] 3)).drew hc hG HEM.out hcap HCK.out (HR2.out.below hB1).cb.bel (boxC (heap_alloc_new _ _) rfl))
          have hq2 : ((wr.alloc (.cells #[.int .i64 n] 3)).alloc (.cells #[.int .i64 0, .string ⟨#[]⟩, .int .i64 0] 44)).drew.heap[wr.heap.size]? = some (.cells #[.int .i64 n] 3 (0, 0)) := (Below.heap_alloc _ _ _ (by simp)).trans (heap_alloc_new _ _)
          have hq3 : ((wr.alloc (.cells #[.int .i64 0, .string ⟨#[]⟩, .int .i64 0] 44)).alloc (.cells #[.int .i64 n] 3)).drew.heap[wr.heap.size + 1]? = some (.cells #[.int .i64 n] 3 (0, 0)) := by
            have := heap_alloc_new (wr.alloc (.cells #[.int .i64 0, .string ⟨#[]⟩, .int .i64 0] 44)) (.cells #[.int .i64 n] 3)
            rwa [show (wr.alloc (.cells #[.int .i64 0, .string ⟨#[]⟩, .int .i64 0] 44)).heap.size = wr.heap.size + 1 by simp] at this
          have HF2 := Lib.hid (ffOne_c w A1 c1 T A2 c2 M A c l (ak[k]).party n wr.heap.size ((wr.alloc (.cells #[.int .i64 n] 3)).alloc (.cells #[.int .i64 0, .string ⟨#[]⟩, .int .i64 0] 44)).drew hc hG HEM.out hcap HCK.out (HR2.out.below hB2).cb.bel (boxC hq2 rfl))
          have HF3 := Lib.hid (ffOne_c w A1 c1 T A2 c2 M A c l (ak[k]).party n (wr.heap.size + 1) ((wr.alloc (.cells #[.int .i64 0, .string ⟨#[]⟩, .int .i64 0] 44)).alloc (.cells #[.int .i64 n] 3)).drew hc hG HEM.out hcap HCK.out (HR2.out.below hB3).cb.bel (boxC hq3 rfl))
          have HZ2 : Hid (BoxD ((wr.alloc (.cells #[.int .i64 n] 3)).alloc (.cells #[.int .i64 0, .string ⟨#[]⟩, .int .i64 0] 44)).drew (wr.heap.size + 1) ⟨0, ⟨#[]⟩, 0⟩) := by
            show BoxD _ _ _
            have := heap_alloc_new (wr.alloc (.cells #[.int .i64 n] 3)) (.cells #[.int .i64 0, .string ⟨#[]⟩, .int .i64 0] 44)
            rwa [show (wr.alloc (.cells #[.int .i64 n] 3)).heap.size = wr.heap.size + 1 by simp] at this
          have HZ3 : Hid (BoxD ((wr.alloc (.cells #[.int .i64 0, .string ⟨#[]⟩, .int .i64 0] 44)).alloc (.cells #[.int .i64 n] 3)).drew wr.heap.size ⟨0, ⟨#[]⟩, 0⟩) := (Below.heap_alloc _ _ _ (by simp)).trans (heap_alloc_new _ _)
          clear hB1 hB2 hB3 hq2 hq3
          have n1 : ¬ (w.heap.size = wr.heap.size + 1) := by omega
          have n2 : ¬ (w.heap.size = wr.heap.size) := by omega
          have n3 : ¬ (p = wr.heap.size + 1) := by omega
          have n4 : ¬ (p = wr.heap.size) := by omega
          have n5 : ¬ (wr.heap.size + 1 = w.heap.size) := by omega
          have n6 : ¬ (wr.heap.size = w.heap.size) := by omega
          have n7 : ¬ (wr.heap.size + 1 = p) := by omega
          have n8 : ¬ (wr.heap.size = p) := by omega
          go_upto_region 16 with fail
          go_cut [17] (fun s17 wx => CutD wr ⟨max (ak[k]).day (frD T M l (ak[k]).party n), (ak[k]).party, n⟩ s17 wx)
          case first =>
            clear q
            go_region_held3 (fun w' => (w'.cell? ⟨w.heap.size, 0, none⟩ = some (.slice A1 T.length c1) ∧ w'.cell? ⟨w.heap.size, 1, none⟩ = some (.slice A2 M.length c2)) ∧ (w'.cell? ⟨p, 0, none⟩ = some (.int .i64 (ak[k]).day) ∧ w'.cell? ⟨p, 1, none⟩ = some (.string (ak[k]).party))) (go_keep)
              (first
                | ((go_at_call 46; (with_reducible refine HF1.out.mono ?_); rintro e w6 ⟨rfl, hb6⟩; have HB6 := Lib.hid (below_trans HW1.out hb6); have z0 := (HR2.out.below HB6.out).cb.c0; have z1 := (HR2.out.below HB6.out).cb.c1; have z2 := (HB2.out.below HB6.out).cells; clear hb6))
                | ((go_at_call 46; (with_reducible refine HF2.out.mono ?_); rintro e w6 ⟨rfl, hb6⟩; have HZ6 := Lib.hid (HZ2.out.below hb6); have HB6 := Lib.hid (below_trans HW2.out hb6); have z0 := (HR2.out.below HB6.out).cb.c0; have z1 := (HR2.out.below HB6.out).cb.c1; have z2 := (HB2.out.below HB6.out).cells; have z3 := HZ6.out.cells; have z4 := HZ6.out.lt; have z5 : ∀ i, w6.frozen? ⟨wr.heap.size + 1, i, none⟩ = false := fun i => frozen_of_row w6 _ i _ _ HZ6.out; clear hb6))
                | ((go_at_call 46; (with_reducible refine HF3.out.mono ?_); rintro e w6 ⟨rfl, hb6⟩; have HZ6 := Lib.hid (HZ3.out.below hb6); have HB6 := Lib.hid (below_trans HW3.out hb6); have z0 := (HR2.out.below HB6.out).cb.c0; have z1 := (HR2.out.below HB6.out).cb.c1; have z2 := (HB2.out.below HB6.out).cells; have z3 := HZ6.out.cells; have z4 := HZ6.out.lt; have z5 : ∀ i, w6.frozen? ⟨wr.heap.size, i, none⟩ = false := fun i => frozen_of_row w6 _ i _ _ HZ6.out; clear hb6)))
            all_goals (go_wp2_with fail; go_meet)
            · exact CutD.alloc _ _ _ HB6.out
            · exact CutD.alloc _ _ _ HB6.out
            · exact CutD.set _ _ _ HZ6.out HB6.out (by omega)
            · exact CutD.set _ _ _ HZ6.out HB6.out (by omega)
          case rest =>
            obtain ⟨q', rfl, hbd, hbe, hq'⟩ := hcut
            have HBD := Lib.hid hbd
            have HR6 := Lib.hid (HR2.out.below hbe)
            have HB6 := Lib.hid (HB2.out.below hbe)
            have HI6 := Lib.hid (HI2.out.below hbe)
            have hb26 : b2 < wc.heap.size := Nat.lt_of_lt_of_le hb2 hbe.size
            have HBQ : Hid (u12.ownBlock ≠ some q') := fun e => by
              have := (World.ownsRow.lt HR2.out.own _ e).2
              omega
            clear hbd hbe hq' HR2 HB2 HI2 HF1 HF2 HF3 HW1 HW2 HW3 HZ2 HZ3 x0 x1 x2 d0 d1 q n1 n2 n3 n4 n5 n6 n7 n8 hb2 hpw hwl
            generalize hdd : max (ak[k]).day (frD T M l (ak[k]).party n) = dd at *
            have HDD := Lib.hid hdd
            clear hdd
            obtain ⟨A8, c8, hv8, hd8⟩ := own_rd3 HR6.out.own
            subst hv8
            have HD8 := Lib.hid hd8
            clear hd8
            have hln := HLN.out
            obtain ⟨g2, hg2⟩ : ∃ g2, g2 = gk := ⟨_, rfl⟩
            subst hg2
            go_wp2
            go_loopg [18, 74] acc.length (RaRel wc acc (ak[k]).party n)
            case atStart => exact ⟨0, by omega, rfl, rfl, Below.refl _ _⟩
            case round =>
              obtain ⟨k3, hk3, rfl, rfl, hbr⟩ := hrel
              have HK3 := Lib.hid hk3
              have HBR := Lib.hid hbr
              have hk31 : k3 ≤ acc.length := by omega
              clear hk3 hbr
              by_cases hlt3 : k3 < acc.length
              · obtain ⟨b3, o3, hA3, hb3, hc3⟩ := (HD8.out.below HBR.out).at_ (by omega)
                subst hA3
                obtain ⟨y0, y1, y2⟩ := hc3 k3 hlt3
                obtain ⟨z0, z1, z2⟩ := (HBD.out.below HBR.out).cells
                have hzl := (HBD.out.below HBR.out).lt
                have HSN := Lib.hid (hasK3_snoc (p := (ak[k]).party) (n := n) hlt3)
                have HBN : Hid (Below wc.heap.size wc (wr.alloc (.cells #[.int .i64 (acc[k3]).day, .string (acc[k3]).party, .int .i64 (acc[k3]).rc] 44))) := HBR.out.alloc HBR.out.size _
                clear hc3
                generalize hasK3 acc (ak[k]).party n k3 = hb at *
                cases hb with
                | true =>
                  have HV : Hid (hasK3 acc (ak[k]).party n (k3 + 1) = true) := by show _ = _; rw [HSN.out]; rfl
                  clear HSN
                  go_wp2
                  go_roundg (gk - 1)
                  case measure => have := HK3.out; omega
                  case rel => exact ⟨k3 + 1, by have := HK3.out; omega, by go_num, by rw [HV.out], HBN.out⟩
                | false =>
                  cases e1 : ((acc[k3]).party.toList == (ak[k]).party.toList) with
                  | false =>
                    have HV : Hid (hasK3 acc (ak[k]).party n (k3 + 1) = false) := by
                      show _ = _
                      rw [HSN.out]
                      rw [str_dec] at e1
                      simp [e1]
                    clear HSN
                    go_wp2
                    go_roundg (gk - 1)
                    case measure => have := HK3.out; omega
                    case rel => exact ⟨k3 + 1, by have := HK3.out; omega, by go_num, by rw [HV.out], HBN.out⟩
                  | true =>
                    cases e2 : ((acc[k3]).rc == n) with
                    | false =>
                      have HV : Hid (hasK3 acc (ak[k]).party n (k3 + 1) = false) := by
                        show _ = _
                        rw [HSN.out]
                        have : decide ((acc[k3]).rc = n) = false := e2
                        simp [this]
                      clear HSN
                      go_wp2
                      go_roundg (gk - 1)
                      case measure => have := HK3.out; omega
                      case rel => exact ⟨k3 + 1, by have := HK3.out; omega, by go_num, by rw [HV.out], HBN.out⟩
                    | true =>
                      have HV : Hid (hasK3 acc (ak[k]).party n (k3 + 1) = true) := by
                        show _ = _
                        rw [HSN.out]
                        rw [str_dec] at e1
                        have : decide ((acc[k3]).rc = n) = true := e2
                        simp [this, e1]
                      clear HSN
                      go_wp2
                      go_roundg (gk - 1)
                      case measure => have := HK3.out; omega
                      case rel => exact ⟨k3 + 1, by have := HK3.out; omega, by go_num, by rw [HV.out], HBN.out⟩
              · have HBD9 := Lib.hid (HBD.out.below HBR.out)
                have HR9 := Lib.hid (HR6.out.below HBR.out)
                have HB9 := Lib.hid (HB6.out.below HBR.out)
                have HI9 := Lib.hid (HI6.out.below HBR.out)
                have hb29 : b2 < wr.heap.size := Nat.lt_of_lt_of_le hb26 HBR.out.size
                have HHK := Lib.hid (hasK3_all (acc := acc) (p := (ak[k]).party) (n := n) (k := k3) (by omega))
                obtain ⟨z0, z1, z2⟩ := HBD9.out.cells
                have hzl := HBD9.out.lt
                clear HBD HR6 HB6 HI6 HD8 HBR hb26
                rw [HHK.out]
                clear HHK
                cases hq : hasD acc (ak[k]).party n with
                | true =>
                  have HA3 : Hid ((L.take (k2 + 1)).foldl (addD (frD T M l) ak[k]) (allD (frD T M l) (insL T M) (ak.take k)) = acc) := by
                    show _ = _
                    rw [HACC.out]
                    unfold addD
                    rw [if_pos hq]
                  clear hq HACC
                  go_wp2
                  go_roundg (g2 - 1)
                  case measure => have := HK2.out; omega
                  case rel => exact ⟨k2 + 1, by have := HK2.out; omega, by go_num, HB9.out, HI9.out, HN2.out, by rw [HA3.out]; exact HR9.out⟩
                | false =>
                  have HA3 : Hid ((L.take (k2 + 1)).foldl (addD (frD T M l) ak[k]) (allD (frD T M l) (insL T M) (ak.take k)) = acc ++ [⟨dd, (ak[k]).party, n⟩]) := by
                    show _ = _
                    rw [HACC.out]
                    unfold addD
                    rw [if_neg (by rw [hq]; simp), HDD.out]
                  clear hq HACC
                  have hwz := HR9.out.cb.lt
                  go_wp2_with (at_builtin; refine wpList_pushS _ _ _ elDl rfl rfl (w.heap.size + 1) (.slice A8 acc.length c8) acc rfl (HR9.out.own.alloc _) wr.heap.size 1 ⟨dd, (ak[k]).party, n⟩ rfl (heap_alloc_new _ _) rfl (by simp [Value.oneCell']) (by unfold maxLen; omega) (by omega) (by simp; omega) ?_; intro A7 c7 w8 hown8 hg8 hb8 hat8)
                  have hxa := HB9.out.below ((Below.refl wr.heap.size wr).alloc (Nat.le_refl _) (.cells #[.int .i64 dd, .string (ak[k]).party, .int .i64 n] 44))
                  have hx8 : BoxA w8 p ak[k] := (hg8.block _ hxa.lt (hxa.ne_own (HR9.out.own.alloc _))).trans hxa
                  have hi8 : Ints w8 (some ⟨b2, o2, none⟩) L := by
                    refine (HI9.out.alloc (.cells #[.int .i64 dd, .string (ak[k]).party, .int .i64 n] 44)).keep2 b2 o2 rfl ?_
                    intro o
                    exact World.cell?_of_block (hg8.block b2 (by simp; omega) (fun e => HN2.out _ rfl e.symm))
                  have hn8 : ∀ b, some (⟨b2, o2, none⟩ : Addr) = some b → (Value.slice A7 (acc.length + 1) c7).ownBlock ≠ some b.block := fun b hb he => by
                    injection hb with hb
                    subst hb
                    rcases hat8 with h | h
                    · exact HN2.out _ rfl (h.symm.trans he)
                    · rw [h] at he
                      injection he with he
                      simp at he
                      omega
                  have hr8 : RvS w w8 (.slice A1 T.length c1) (.slice A2 M.length c2) (acc ++ [(⟨dd, (ak[k]).party, n⟩ : Dl)]) (.slice A7 (acc.length + 1) c7) :=
                    ⟨⟨(hb8.block _ (by omega)).trans (HR9.out.cb.alloc _).box, (HR9.out.cb.alloc _).bel.trans (hb8.mono (by omega))⟩, hown8⟩
                  have HX8 := Lib.hid hx8
                  have HI8 := Lib.hid hi8
                  have HN8 := Lib.hid hn8
                  have HR8 := Lib.hid hr8
                  clear hxa hx8 hi8 hn8 hr8 hown8 hg8 hb8 hat8 z0 z1 z2
                  go_wp2
                  go_roundg (g2 - 1)
                  case measure => have := HK2.out; omega
                  case rel => exact ⟨k2 + 1, by have := HK2.out; omega, by go_num, HX8.out, HI8.out, HN8.out, by rw [HA3.out]; exact HR8.out⟩
        · have HSN : Hid (allD (frD T M l) (insL T M) (ak.take (k + 1)) = (L.take k2).foldl (addD (frD T M l) ak[k]) (allD (frD T M l) (insL T M) (ak.take k))) := by
            show _ = _
            rw [allD_snoc hlt, ← HLE.out, show L.take k2 = L from List.take_of_length_le (by omega)]
          clear HB2 HI2 HN2
          go_wp2
          go_roundg (g1 - 1)
          case measure => have := HK.out; omega
          case rel => exact ⟨k + 1, by have := HK.out; omega, by go_num, by rw [HSN.out]; exact HR2.out⟩
    · have HKE : Hid (allD (frD T M l) (insL T M) (ak.take k) = allD (frD T M l) (insL T M) ak) := by
        show _ = _
        rw [List.take_of_length_le (by omega)]
      have hw8 : w.heap.size + 1 ≤ wr.heap.size := hwl
      obtain ⟨A8, c8, hv8, hd8⟩ := own_rd3 HRV.out.own
      rw [HKE.out] at hv8 hd8
      have hln : (allD (frD T M l) (insL T M) ak).length ≤ 150000 := by rw [← HKE.out]; exact HLEN.out k
      subst hv8
      have HD8 := Lib.hid hd8
      have HB8 := Lib.hid HRV.out.cb.bel
      have HFIN : Hid ((allD (frD T M l) (insL T M) ak).foldl (putD upto) [] = delL T M l ak upto) := putsD_srt upto _
      clear hd8 HKE HRV HAK HEM HLEN
      generalize allD (frD T M l) (insL T M) ak = acc at *
      generalize delL T M l ak upto = res at *
      obtain ⟨w3, hw3⟩ : ∃ w3, w3 = wr := ⟨_, rfl⟩
      subst hw3
      go_wp2
      go_loopg [21, 103] acc.length (RoRel w3 acc upto)
      case atStart => exact ⟨0, by omega, rfl, Below.refl _ _, OwnL.nil _ _ _ _ _⟩
      case round =>
        obtain ⟨k4, hk4, rfl, hb4, hown4⟩ := hrel
        have HK4 := Lib.hid hk4
        have HB4 := Lib.hid hb4
        have HOW4 := Lib.hid hown4
        have hk41 : k4 ≤ acc.length := by omega
        clear hk4 hb4 hown4
        by_cases hlt4 : k4 < acc.length
        · obtain ⟨b3, o3, hA3, hb3, hc3⟩ := (HD8.out.below HB4.out).at_ (by omega)
          subst hA3
          obtain ⟨y0, y1, y2⟩ := hc3 k4 hlt4
          clear hc3
          have HSN := Lib.hid (putsD_snoc (u := upto) hlt4)
          have hpl : ((acc.take k4).foldl (putD upto) []).length ≤ 150000 := by
            have h1 := (putsD_perm upto (acc.take k4) []).length_eq
            have h2 := List.length_filter_le (fun d : Dl => decide (d.day ≤ upto)) (acc.take k4)
            have h3 : (acc.take k4).length ≤ acc.length := by simp; omega
            rw [List.append_nil] at h1
            omega
          generalize (acc.take k4).foldl (putD upto) [] = L at *
          generalize acc[k4] = d at *
          have hbx0 : BoxD (wr.alloc (.cells #[.int .i64 d.day, .string d.party, .int .i64 d.rc] 44)) wr.heap.size d := heap_alloc_new _ _
          have HBX := Lib.hid hbx0
          have HB5 := Lib.hid (HB4.out.alloc HB4.out.size (.cells #[.int .i64 d.day, .string d.party, .int .i64 d.rc] 44))
          have HO5 := Lib.hid (HOW4.out.alloc (.cells #[.int .i64 d.day, .string d.party, .int .i64 d.rc] 44))
          have HNP : Hid (u21.ownBlock ≠ some wr.heap.size) := fun e => by
            have := (World.ownsRow.lt HOW4.out _ e).2
            omega
          have hsz5 : w3.heap.size ≤ wr.heap.size := HB4.out.size
          clear hbx0 HOW4 HB4
          obtain ⟨A9, c9, hv9, hd9⟩ := own_rd3 HO5.out
          subst hv9
          have HD9 := Lib.hid hd9
          clear hd9
          obtain ⟨g3, hg3⟩ : ∃ g3, g3 = gk := ⟨_, rfl⟩
          subst hg3
          go_wp2
          generalize hpp : wr.heap.size = p at *
          clear hpp
          generalize hw5 : (wr.alloc (.cells #[.int .i64 d.day, .string d.party, .int .i64 d.rc] 44)) = w5 at *
          clear hw5 y0 y1 y2
          go_loopg [24] L.length (RsRel w5 L d)
          case atStart => exact ⟨0, by omega, rfl, fun i _ h => absurd h (by omega), Below.refl _ _⟩
          case round =>
            obtain ⟨j, hj, rfl, hpre, hb6⟩ := hrel
            have HJ := Lib.hid hj
            have HP := Lib.hid hpre
            have HB6 := Lib.hid hb6
            have HX6 := Lib.hid (HBX.out.below hb6)
            have hj1 : j ≤ L.length := by omega
            clear hj hpre hb6
            obtain ⟨z0, z1, z2⟩ := HX6.out.cells
            have hzl := HX6.out.lt
            by_cases hlt5 : j < L.length
            · obtain ⟨b6, o6, hA6, hb6, hc6⟩ := (HD9.out.below HB6.out).at_ (by omega)
              subst hA6
              obtain ⟨x0, x1, x2⟩ := hc6 j hlt5
              have HSO : Hid (∀ dr os, Calls Tryz.prog 57 #[.agg #[.int .i64 (L[j]).day, .string (L[j]).party, .int .i64 (L[j]).rc], .agg #[.int .i64 d.day, .string d.party, .int .i64 d.rc]] (Sort.grow (redrawn wr dr) os) (GivesB (.bool (dlLt L[j] d)) (Sort.grow (redrawn wr dr) os))) := fun dr os => sooner_c _ _ _
              have e0 : ∀ d' os, (Sort.grow (redrawn wr d') os).cell? ⟨b6, o6 + j * 3, none⟩ = some (.int .i64 (L[j]).day) := fun d' os => cell_regrown x0 d' os
              have e1 : ∀ d' os, (Sort.grow (redrawn wr d') os).cell? ⟨b6, o6 + j * 3 + 1, none⟩ = some (.string (L[j]).party) := fun d' os => cell_regrown x1 d' os
              have e2 : ∀ d' os, (Sort.grow (redrawn wr d') os).cell? ⟨b6, o6 + j * 3 + 2, none⟩ = some (.int .i64 (L[j]).rc) := fun d' os => cell_regrown x2 d' os
              have f0 : ∀ d' os, (Sort.grow (redrawn wr d') os).cell? ⟨p, 0, none⟩ = some (.int .i64 d.day) := fun d' os => cell_regrown z0 d' os
              have f1 : ∀ d' os, (Sort.grow (redrawn wr d') os).cell? ⟨p, 1, none⟩ = some (.string d.party) := fun d' os => cell_regrown z1 d' os
              have f2 : ∀ d' os, (Sort.grow (redrawn wr d') os).cell? ⟨p, 2, none⟩ = some (.int .i64 d.rc) := fun d' os => cell_regrown z2 d' os
              clear hc6
              cases hcmp : dlLt L[j] d with
              | true =>
                rw [hcmp] at HSO
                have HC := Lib.hid hcmp
                clear hcmp
                go_wp2_with fail
                refine wp_region_quiet_below (by kernel_rfl) (by kernel_rfl) ?_
                repeat (quiet_step (exact Calls.regrown_of (HSO.out _ _)))
                refine wpQuiet_nil ?_
                intro _ hw'
                obtain ⟨⟨dq, osq⟩, hw''⟩ := hw'
                subst hw''
                have HB7 := Lib.hid (below_trans HB6.out (below_regrown wr dq osq))
                clear e0 e1 e2 f0 f1 f2 x0 x1 x2 z0 z1 z2 HSO HX6
                generalize Sort.grow (redrawn wr dq) osq = w7 at *
                go_wp2
                go_roundg (gk - 1)
                case measure => have := HJ.out; omega
                case rel =>
                  refine ⟨j + 1, by have := HJ.out; omega, by go_num, fun i hi hij => ?_, HB7.out⟩
                  rcases Nat.lt_or_ge i j with h1 | h1
                  · exact HP.out i hi h1
                  · obtain rfl : i = j := by omega
                    exact HC.out
              | false =>
                rw [hcmp] at HSO
                have HIN : Hid (insD d L = insAt L j d) := insD_at hj1 (fun i hi h => HP.out i hi h) (fun h => hcmp)
                clear hcmp
                go_wp2_with fail
                refine wp_region_quiet_below (by kernel_rfl) (by kernel_rfl) ?_
                repeat (quiet_step (exact Calls.regrown_of (HSO.out _ _)))
                refine wpQuiet_nil ?_
                intro _ hw'
                obtain ⟨⟨dq, osq⟩, hw''⟩ := hw'
                subst hw''
                have HB7 := Lib.hid (below_trans HB6.out (below_regrown wr dq osq))
                clear e0 e1 e2 f0 f1 f2 x0 x1 x2 z0 z1 z2 HSO HX6
                generalize Sort.grow (redrawn wr dq) osq = w7 at *
                have HX7 := Lib.hid (HBX.out.below HB7.out)
                obtain ⟨z0, z1, z2⟩ := HX7.out.cells
                have hzl7 := HX7.out.lt
                by_cases hday : d.day ≤ upto
                · have HPU : Hid ((acc.take (k4 + 1)).foldl (putD upto) [] = insAt L j d) := by
                    show _ = _
                    rw [HSN.out]
                    unfold putD
                    rw [if_pos hday, HIN.out]
                  have HO8 := Lib.hid (HO5.out.below HB7.out)
                  have hwz : w3.heap.size ≤ w7.heap.size := Nat.le_trans HB5.out.size HB7.out.size
                  have HI8 := Lib.hid (insertD_c (w7.alloc (.cells #[.int .i64 d.day, .string d.party, .int .i64 d.rc] 44)) w3.heap.size (.slice _ L.length c9) L j d w7.heap.size 1 (HO8.out.alloc _) (by omega) hj1 (heap_alloc_new _ _) (fun e => by
                    have := (World.ownsRow.lt HO8.out _ e).2
                    omega) (by simp; omega))
                  have HB8 := Lib.hid ((below_trans HB5.out HB7.out).alloc hwz (.cells #[.int .i64 d.day, .string d.party, .int .i64 d.rc] 44))
                  clear HIN HSN
                  go_wp2_with fail
                  refine HI8.out.mono ?_
                  rintro e w8 ⟨v8, rfl, hown8, hg8, hb8⟩
                  have HO9 := Lib.hid hown8
                  have HB9 := Lib.hid (HB8.out.trans hb8)
                  clear hown8 hg8 hb8 z0 z1 z2 HI8 HB8 HO8
                  go_wp2
                  go_roundg (g3 - 1)
                  case measure => have := HK4.out; omega
                  case rel => exact ⟨k4 + 1, by have := HK4.out; omega, by go_num, HB9.out, by rw [HPU.out]; exact HO9.out⟩
                · have HPU : Hid ((acc.take (k4 + 1)).foldl (putD upto) [] = L) := by
                    show _ = _
                    rw [HSN.out]
                    unfold putD
                    rw [if_neg hday]
                  have HO8 := Lib.hid (HO5.out.below HB7.out)
                  have HB8 := Lib.hid (below_trans HB5.out HB7.out)
                  clear HIN HSN
                  go_wp2
                  go_roundg (g3 - 1)
                  case measure => have := HK4.out; omega
                  case rel => exact ⟨k4 + 1, by have := HK4.out; omega, by go_num, HB8.out, by rw [HPU.out]; exact HO8.out⟩
            · have HIN : Hid (insD d L = insAt L j d) := insD_at hj1 (fun i hi h => HP.out i hi h) (fun h => absurd h hlt5)
              have hjl : decide (j < L.length) = false := by simpa using hlt5
              go_wp2_with fail
              refine wp_region_quiet_below (by kernel_rfl) (by kernel_rfl) ?_
              repeat (quiet_step (fail))
              refine wpQuiet_nil ?_
              intro _ hw'
              obtain ⟨⟨dq, osq⟩, hw''⟩ := hw'
              subst hw''
              have HB7 := Lib.hid (below_trans HB6.out (below_regrown wr dq osq))
              clear z0 z1 z2 HX6
              generalize Sort.grow (redrawn wr dq) osq = w7 at *
              have HX7 := Lib.hid (HBX.out.below HB7.out)
              obtain ⟨z0, z1, z2⟩ := HX7.out.cells
              have hzl7 := HX7.out.lt
              by_cases hday : d.day ≤ upto
              · have HPU : Hid ((acc.take (k4 + 1)).foldl (putD upto) [] = insAt L j d) := by
                  show _ = _
                  rw [HSN.out]
                  unfold putD
                  rw [if_pos hday, HIN.out]
                have HO8 := Lib.hid (HO5.out.below HB7.out)
                have hwz : w3.heap.size ≤ w7.heap.size := Nat.le_trans HB5.out.size HB7.out.size
                have HI8 := Lib.hid (insertD_c (w7.alloc (.cells #[.int .i64 d.day, .string d.party, .int .i64 d.rc] 44)) w3.heap.size (.slice _ L.length c9) L j d w7.heap.size 1 (HO8.out.alloc _) (by omega) hj1 (heap_alloc_new _ _) (fun e => by
                  have := (World.ownsRow.lt HO8.out _ e).2
                  omega) (by simp; omega))
                have HB8 := Lib.hid ((below_trans HB5.out HB7.out).alloc hwz (.cells #[.int .i64 d.day, .string d.party, .int .i64 d.rc] 44))
                clear HIN HSN
                go_wp2_with fail
                refine HI8.out.mono ?_
                rintro e w8 ⟨v8, rfl, hown8, hg8, hb8⟩
                have HO9 := Lib.hid hown8
                have HB9 := Lib.hid (HB8.out.trans hb8)
                clear hown8 hg8 hb8 z0 z1 z2 HI8 HB8 HO8
                go_wp2
                go_roundg (g3 - 1)
                case measure => have := HK4.out; omega
                case rel => exact ⟨k4 + 1, by have := HK4.out; omega, by go_num, HB9.out, by rw [HPU.out]; exact HO9.out⟩
              · have HPU : Hid ((acc.take (k4 + 1)).foldl (putD upto) [] = L) := by
                  show _ = _
                  rw [HSN.out]
                  unfold putD
                  rw [if_neg hday]
                have HO8 := Lib.hid (HO5.out.below HB7.out)
                have HB8 := Lib.hid (below_trans HB5.out HB7.out)
                clear HIN HSN
                go_wp2
                go_roundg (g3 - 1)
                case measure => have := HK4.out; omega
                case rel => exact ⟨k4 + 1, by have := HK4.out; omega, by go_num, HB8.out, by rw [HPU.out]; exact HO8.out⟩
        · have HFE : Hid ((acc.take k4).foldl (putD upto) [] = res) := by
            show _ = _
            rw [List.take_of_length_le (by omega)]
            exact HFIN.out
          obtain ⟨A9, c9, hv9, hd9⟩ := own_rd3 HOW4.out
          have hcp9 := HOW4.out
          rw [HFE.out] at hv9 hd9 hcp9
          subst hv9
          have HD9 := Lib.hid hd9
          have HC9 := Lib.hid (own_cap hcp9).1
          have HBF := Lib.hid (HB8.out.trans (HB4.out.mono HB8.out.size))
          clear hd9 hcp9 HOW4
          go_wp2
          go_ret2
          exact GivesD.mk HX.out rfl HD9.out HBF.out HC9.out
end Go.Proofs.YtfninfgohiipjaaGreatDoor

namespace Go.Proofs.YtfninfgohiipjaaGreatDoor
open Go.RowKit Dw

theorem delF_len {T : List Th} {M : List Mv} {l : List Em} {ak : List Ak} {upto : Int} : (delF T M l ak upto).1.length ≤ 150000 := by
  by_cases h : (delF T M l ak upto).2 = 0
  · obtain ⟨h1, h2, h3⟩ := delF_inv h
    rw [delF_ok h1 h2 h3]
    exact delL_len (chkE_ok h1).1 (chkAs_ok h2).1
  · rw [delF_nil h]; simp

set_option maxRecDepth 100000 in
set_option maxHeartbeats 1000000 in
theorem lawD_c (A1 : Option Addr) (c1 : Nat) (T : List Th) (A2 : Option Addr) (c2 : Nat) (M : List Mv) (A : Option Addr) (c : Nat) (l : List Em) (A3 : Option Addr) (c3 : Nat) (ak : List Ak) (upto : Int) (w : World) (hc : CatOk w A1 T A2 M) (hG : GOK w) (he : EmsOk w A l) (ha : AksOk w A3 ak) (hcap : T.length ≤ c1) :
    Calls Tryz.prog 6 #[catV A1 c1 T A2 c2 M, .slice A l.length c, .slice A3 ak.length c3, .int .i64 upto] w (GivesB (.bool true) w) := by
  have HEM := Lib.hid he
  have HAK := Lib.hid ha
  have HCB := Lib.hid (CB.new w (.slice A1 T.length c1) (.slice A2 M.length c2))
  have HLN : Hid ((delF T M l ak upto).1.length ≤ 150000) := delF_len
  clear he ha
  go_enter Tryz.func6, Tryz.ntmps6
  go_wp2_with fail
  refine (Deliver_c A1 c1 T A2 c2 M A c l A3 c3 ak upto _ (hc.below HCB.out.bel) (hG.below HCB.out.bel) (HEM.out.below HCB.out.bel) (HAK.out.below HCB.out.bel)).mono ?_
  rintro e w2 ⟨A4, c4, rfl, hd4, hb2, hcap4⟩
  have HC2 := Lib.hid (HCB.out.below hb2)
  have HD4 := Lib.hid hd4
  clear hb2 HCB hd4 hcap4
  have hw2 := HC2.out.lt
  have d0 := HC2.out.c0
  have d1 := HC2.out.c1
  go_wp2_with fail
  refine (DeliverR_c A1 c1 T A2 c2 M A c l A3 c3 ak upto _ (hc.below HC2.out.bel) (hG.below HC2.out.bel) (HEM.out.below HC2.out.bel) (HAK.out.below HC2.out.bel) hcap).mono ?_
  rintro e w3 ⟨A5, c5, rfl, hd5, hb3, hcap5⟩
  have HC3 := Lib.hid (HC2.out.below hb3)
  have HD5 := Lib.hid hd5
  have HD6 := Lib.hid (HD4.out.below hb3)
  clear hb3 HC2 hw2 d0 d1 hd5 hcap5 HD4
  generalize delF T M l ak upto = R at *
  obtain ⟨x, f⟩ := R
  have hn := HLN.out
  dsimp only at hn ⊢
  go_wp2_with fail
  refine (equalD_c A4 A5 c4 c5 x _ HD6.out HD5.out (by omega)).mono ?_
  rintro e w4 ⟨rfl, hb4⟩
  have HC4 := Lib.hid (HC3.out.below hb4)
  clear hb4
  go_wp2_with fail
  refine (works_c _ (hG.below HC4.out.bel)).mono ?_
  rintro e w5 ⟨rfl, hb5⟩
  have HB5 := Lib.hid (HC4.out.below hb5).bel
  clear hb5
  go_wp2
  go_ret
  exact GivesB.mk rfl HB5.out
end Go.Proofs.YtfninfgohiipjaaGreatDoor
