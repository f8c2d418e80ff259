/- Parts of the proof, joined: The reference's SameTitle (printed by gen_stitle.py). Joining in any o. -/
import Derived.Test.YtlcfgejaeecclaaGreatDoorZq35
import Derived.Test.YtlcfgejaeecclaaGreatDoorZq20
import Derived.Test.YtlcfgejaeecclaaGreatDoorZq21
import Derived.Lib.SliceRun
set_option maxRecDepth 100000
set_option maxHeartbeats 8000000
namespace Go.Proofs.YtlcfgejaeecclaaGreatDoor
open Go.RowKit Dw
def SameT (rs : List Rg) (us : List ByteArray) (ds : List De) (rs2 : List Rg) (us2 : List ByteArray) (ds2 : List De) : Prop :=
 rs = rs2 ∧ us = us2 ∧ ds.length = ds2.length ∧ ∀ i, i < ds.length → SameD (ds.getD i default) (ds2.getD i default)
def TtRel (W : World) (ds ds2 : List De) (m : Nat) (i : Value) (wr : World) : Prop :=
 ∃ k : Nat, k + m = ds.length ∧ i = .int .i64 k ∧ Below W.heap.size W wr ∧ ∀ j, j < k → SameD (ds.getD j default) (ds2.getD j default)
theorem sameTitle_c (RA : Option Addr) (rc : Nat) (rs : List Rg) (UA : Option Addr) (uc : Nat) (us : List ByteArray) (DA : Option Addr) (dc : Nat) (ds : List De)
  (RA2 : Option Addr) (rc2 : Nat) (rs2 : List Rg) (UA2 : Option Addr) (uc2 : Nat) (us2 : List ByteArray) (DA2 : Option Addr) (dc2 : Nat) (ds2 : List De) (w : World)
  (hr : Rgs w RA rs) (hu : Strs w UA us) (hd : Des w DA ds) (hr2 : Rgs w RA2 rs2) (hu2 : Strs w UA2 us2) (hd2 : Des w DA2 ds2)
  (hn : rs.length ≤ 140737488355328 ∧ us.length ≤ 140737488355328 ∧ ds.length ≤ 140737488355328) (hn2 : rs2.length ≤ 140737488355328 ∧ us2.length ≤ 140737488355328 ∧ ds2.length ≤ 140737488355328) :
  Calls Tryz.prog 10 #[.agg (tiC RA rc rs UA uc us DA dc ds), .agg (tiC RA2 rc2 rs2 UA2 uc2 us2 DA2 dc2 ds2)] w (GivesQD (SameT rs us ds rs2 us2 ds2) w) := by
 have HX : Hid (Bx ((w.alloc (.cells (tiC RA rc rs UA uc us DA dc ds) 26)).alloc (.cells (tiC RA2 rc2 rs2 UA2 uc2 us2 DA2 dc2 ds2) 26)) w.heap.size (tiC RA rc rs UA uc us DA dc ds) 26) := (Bx.new _ _ _).alloc _
 have HY : Hid (Bx ((w.alloc (.cells (tiC RA rc rs UA uc us DA dc ds) 26)).alloc (.cells (tiC RA2 rc2 rs2 UA2 uc2 us2 DA2 dc2 ds2) 26)) (w.heap.size + 1) (tiC RA2 rc2 rs2 UA2 uc2 us2 DA2 dc2 ds2) 26) := Bx.new1 _ _ _ _
 have HB : Hid (Below w.heap.size w ((w.alloc (.cells (tiC RA rc rs UA uc us DA dc ds) 26)).alloc (.cells (tiC RA2 rc2 rs2 UA2 uc2 us2 DA2 dc2 ds2) 26))) := ((Below.refl w.heap.size w).alloc (Nat.le_refl _) _).alloc (by simp) _
 obtain ⟨W, hW⟩ : ∃ W, W = (w.alloc (.cells (tiC RA rc rs UA uc us DA dc ds) 26)).alloc (.cells (tiC RA2 rc2 rs2 UA2 uc2 us2 DA2 dc2 ds2) 26) := ⟨_, rfl⟩
 rw [← hW] at HX HY HB
 have HSF := zq (sameFrame_c RA rc rs UA uc us DA dc ds RA2 rc2 rs2 UA2 uc2 us2 DA2 dc2 ds2 W (hr.below HB.out) (hu.below HB.out) (hr2.below HB.out) (hu2.below HB.out) ⟨hn.1, hn.2.1⟩ ⟨hn2.1, hn2.2.1⟩)
 have HDE := zq (hd.below HB.out)
 have HDF := zq (hd2.below HB.out)
 have hdl := hn.2.2
 clear hr hr2 hu hu2 hd hd2
 go_enter Tryz.func10, Tryz.ntmps10
 iterate 13 go_step
 rw [← hW]
 clear hW
 have hsx := HX.out.lt
 have hsy := HY.out.lt
 have x0 := HX.out.cell (i := 0) rfl
 have x1 := HX.out.cell (i := 1) rfl
 have x2 := HX.out.cell (i := 2) rfl
 have y0 := HY.out.cell (i := 0) rfl
 have y1 := HY.out.cell (i := 1) rfl
 have y2 := HY.out.cell (i := 2) rfl
 go_wp2_with fail
 with_reducible refine HSF.out.mono ?_
 rintro x w1 ⟨r, rfl, hrr, hb1⟩
 have HX1 := zq (HX.out.below hb1)
 have HY1 := zq (HY.out.below hb1)
 have HB1 := zq (below_trans HB.out hb1)
 have HDE1 := zq (HDE.out.below hb1)
 have HDF1 := zq (HDF.out.below hb1)
 clear hsx hsy x0 x1 x2 y0 y1 y2 hb1 HX HY HB HDE HDF HSF
 have hsx := HX1.out.lt
 have hsy := HY1.out.lt
 have x2 := HX1.out.cell (i := 2) rfl
 have y2 : w1.cell? ⟨w.heap.size + 1, 2, none⟩ = some (.slice DA2 ds2.length dc2) := HY1.out.cell (i := 2) rfl
 by_cases hfr : rs = rs2 ∧ us = us2
 case neg =>
  have hrf : r = false := by
   cases hh : r with
   | false => rfl
   | true => exact absurd (hrr.1 hh) hfr
  subst hrf
  have HE : Hid (¬ SameT rs us ds rs2 us2 ds2) := fun e => hfr ⟨e.1, e.2.1⟩
  clear hrr hfr
  go_wp2
  go_ret
  exact GivesQD.no HE.out HB1.out
 have hrt : r = true := hrr.2 hfr
 subst hrt
 have HFR := zq hfr
 clear hrr hfr
 by_cases hl : ds.length = ds2.length
 case neg =>
  have HE : Hid (¬ SameT rs us ds rs2 us2 ds2) := fun e => hl e.2.2.1
  have hlb : ((ds.length : Int) != (ds2.length : Int)) = true := by simp; omega
  clear hl
  go_wp2
  go_ret
  exact GivesQD.no HE.out HB1.out
 rw [← hl] at y2
 have HL := zq hl
 clear hl
 go_wp2
 clear hsx hsy x2 y2
 go_loopg [5] ds.length (TtRel w1 ds ds2)
 case atStart => exact ⟨0, by omega, rfl, Below.refl _ _, fun j hj => absurd hj (by omega)⟩
 case round =>
  obtain ⟨k, hk, rfl, hbel, hpre⟩ := hrel
  have HK := zq hk
  have HP := zq hpre
  have HBL := zq hbel
  have HX2 := zq (HX1.out.below hbel)
  have HY2 := zq (HY1.out.below hbel)
  have hk1 : k ≤ ds.length := by omega
  have hsx := HX2.out.lt
  have hsy := HY2.out.lt
  clear hk hpre hbel
  by_cases hlt : k < ds.length
  ·have hlt2 : k < ds2.length := by have := HL.out; omega
   have x2 : wr.cell? ⟨w.heap.size, 2, none⟩ = some (.slice DA ds.length dc) := HX2.out.cell (i := 2) rfl
   have y2 : wr.cell? ⟨w.heap.size + 1, 2, none⟩ = some (.slice DA2 ds.length dc2) := by rw [HL.out]; exact HY2.out.cell (i := 2) rfl
   obtain ⟨b, o, hA, hb, hc⟩ := (HDE1.out.below HBL.out) (by omega)
   obtain ⟨b2, o2, hA2, hb2, hcm⟩ := (HDF1.out.below HBL.out) (by omega)
   obtain ⟨d, hdd⟩ : ∃ d, d = ds[k] := ⟨_, rfl⟩
   obtain ⟨e, hee⟩ : ∃ e, e = ds2[k] := ⟨_, rfl⟩
   have hr1 := (hc k hlt).1
   have hr2 := (hcm k hlt2).1
   rw [← hdd] at hr1
   rw [← hee] at hr2
   have hkd : DeOk wr d := by rw [hdd]; exact (hc k hlt).2
   have hke : DeOk wr e := by rw [hee]; exact (hcm k hlt2).2
   have HGD : Hid (ds.getD k default = d) := by show _ = _; rw [hdd]; simp [List.getD, hlt]
   have HGE : Hid (ds2.getD k default = e) := by show _ = _; rw [hee]; simp [List.getD, hlt2]
   have HSD := zq (sameDeed_c d e wr.drew (hkd.below (below_drewN (Below.refl _ _) 1)) (hke.below (below_drewN (Below.refl _ _) 1)))
   rw [hA] at x2
   rw [hA2] at y2
   have cx : ∀ w', Below wr.heap.size wr w' → w'.cell? ⟨w.heap.size, 2, none⟩ = some (.slice (some ⟨b, o, none⟩) ds.length dc) := fun w' hx => (hx.cell (p := ⟨w.heap.size, 2, none⟩) hsx).trans x2
   have cy : ∀ w', Below wr.heap.size wr w' → w'.cell? ⟨w.heap.size + 1, 2, none⟩ = some (.slice (some ⟨b2, o2, none⟩) ds.length dc2) := fun w' hx => (hx.cell (p := ⟨w.heap.size + 1, 2, none⟩) hsy).trans y2
   clear hc hcm hkd hke hdd hee hA hA2
   go_wp2_with fail
   refine wp_region_held_drew (S := (fun w' => Below wr.heap.size wr w')) (by kernel_rfl) ?_ (fun hHeld => ?_)
   ·(first | exact HB6.out | exact below_drewN (Below.refl _ _) 1)
   refine Dw.tk 0 ?_ rfl ?_ (by assumption) ?_
   rotate_left 1
   ·(intro w _; go_simp; try with_reducible rfl)
   simp only [List.getElem_toArray, List.getElem_cons_zero, Act.put, List.setIfInBounds_toArray, List.set_cons_zero, List.set_cons_succ]
   refine Dw.tk 1 ?_ rfl ?_ (by assumption) ?_
   rotate_left 1
   ·(intro w hSw; have e1 := cx _ hSw; go_simp; try with_reducible rfl)
   simp only [Dw.lay, Act.put]
   refine Dw.tk 2 ?_ rfl ?_ (by assumption) ?_
   rotate_left 1
   ·(intro w _; go_simp; try with_reducible rfl)
   simp only [Dw.lay, Act.put]
   refine Dw.tk 3 ?_ rfl ?_ (by assumption) ?_
   rotate_left 1
   ·(intro w _; go_simp; try with_reducible rfl)
   simp only [Dw.lay, Act.put]
   refine wpAnyH_take (i := 4) (v := deV d) rfl (by kernel_rfl) (by kernel_rfl) (by kernel_rfl) (fun _ _ _ h => h) ?_ (by assumption) ?_
   ·exact yields_deed (by kernel_rfl) (.tmp 29) rfl b (o + k * 16) (by kernel_rfl) d (fun w hSw j v hv => (hSw.cell hb).trans (hr1 j v hv))
   simp only [Dw.lay, Act.put]
   refine Dw.tk 5 ?_ rfl ?_ (by assumption) ?_
   rotate_left 1
   ·(intro w _; go_simp; try with_reducible rfl)
   simp only [Dw.lay, Act.put]
   refine Dw.tk 6 ?_ rfl ?_ (by assumption) ?_
   rotate_left 1
   ·(intro w hSw; have e1 := cy _ hSw; go_simp; try with_reducible rfl)
   simp only [Dw.lay, Act.put]
   refine Dw.tk 7 ?_ rfl ?_ (by assumption) ?_
   rotate_left 1
   ·(intro w _; go_simp; try with_reducible rfl)
   simp only [Dw.lay, Act.put]
   refine Dw.tk 8 ?_ rfl ?_ (by assumption) ?_
   rotate_left 1
   ·(intro w _; go_simp; try with_reducible rfl)
   simp only [Dw.lay, Act.put]
   refine wpAnyH_take (i := 9) (v := deV e) rfl (by kernel_rfl) (by kernel_rfl) (by kernel_rfl) (fun _ _ _ h => h) ?_ (by assumption) ?_
   ·exact yields_deed (by kernel_rfl) (.tmp 34) rfl b2 (o2 + k * 16) (by kernel_rfl) e (fun w hSw j v hv => (hSw.cell hb2).trans (hr2 j v hv))
   simp only [Dw.lay, Act.put]
   refine Dw.rd1 10 rfl (fun K hK => ?_)
   clear hHeld
   go_simp
   go_at_call 31
   with_reducible refine (HSD.out).mono ?_
   rintro x w6 ⟨r, rfl, hrr, hb6⟩
   have HB6 := zq (below_trans (below_drewN (Below.refl wr.heap.size wr) 1) hb6)
   refine hK.out _ _ ?_ (fun hHeld => ?_)
   ·(first | exact HB6.out | exact below_drewN (Below.refl _ _) 1)
   clear hK K
   try simp only [Dw.lay, Act.put]
   refine Dw.tk 11 ?_ rfl ?_ (by assumption) ?_
   rotate_left 1
   ·(intro w _; go_simp; try with_reducible rfl)
   simp only [Dw.lay, Act.put]
   refine wpAnyH_done (by kernel_rfl) ?_ _
   clear hHeld
   by_cases hsd : SameD d e
   ·have hrt : r = true := hrr.2 hsd
    subst hrt
    have HSM := zq hsd
    clear hrr hsd
    go_wp2
    go_roundg (gk - 1)
    case measure => have := HK.out; omega
    case rel =>
     refine ⟨k + 1, by have := HK.out; omega, by go_num, below_trans HBL.out HB6.out, fun j hj => ?_⟩
     rcases Nat.lt_or_ge j k with h1 | h1
     ·exact HP.out j h1
     ·obtain rfl : j = k := by omega
      rw [HGD.out, HGE.out]
      exact HSM.out
   ·have hrf : r = false := by
     cases hh : r with
     | false => rfl
     | true => exact absurd (hrr.1 hh) hsd
    subst hrf
    have HE : Hid (¬ SameT rs us ds rs2 us2 ds2) := fun hs => hsd (by
     have := hs.2.2.2 k hlt
     rwa [HGD.out, HGE.out] at this)
    clear hrr hsd
    go_wp2
    go_ret
    exact GivesQD.no HE.out (below_trans HB1.out (below_trans HBL.out HB6.out))
  ·obtain rfl : k = ds.length := by omega
   have x2 := HX2.out.cell (i := 2) rfl
   go_wp2
   go_ret
   exact GivesQD.yes ⟨HFR.out.1, HFR.out.2, HL.out, HP.out⟩ (below_trans HB1.out HBL.out)
end Go.Proofs.YtlcfgejaeecclaaGreatDoor
namespace Go.Proofs.YtlcfgejaeecclaaGreatDoor
open Go Dw
theorem sameT_of {rs : List Rg} {us : List ByteArray} {ds ds2 : List De} (h : ds.map plainD = ds2.map plainD) : SameT rs us ds rs us ds2 := by
 have hl : ds.length = ds2.length := by have := congrArg List.length h; simpa using this
 refine ⟨rfl, rfl, hl, fun i hi => (sameD_iff _ _).2 ?_⟩
 have h1 : ds.getD i default = ds[i] := by simp [List.getD_eq_getElem?_getD, List.getElem?_eq_getElem hi]
 have h2 : ds2.getD i default = ds2[i]'(by omega) := by simp [List.getD_eq_getElem?_getD, List.getElem?_eq_getElem (show i < ds2.length by omega)]
 rw [h1, h2]
 have h3 := congrArg (fun l => l[i]?) h
 simpa [List.getElem?_eq_getElem hi, List.getElem?_eq_getElem (show i < ds2.length by omega)] using h3
end Go.Proofs.YtlcfgejaeecclaaGreatDoor
namespace Go.Proofs.YtlcfgejaeecclaaGreatDoor
open Go.RowKit Dw
theorem RdK.of3 {w : World} {A : Option Addr} {l : List Sh} (h : Shs w A l) : RdK (fun x : Sh => [Value.string x.pt, .string x.nu, .string x.de]) w A l := fun hl => by
 obtain ⟨b, o, rfl, hc⟩ := h hl
 refine ⟨b, o, rfl, flat_cells (k := 3) (fun _ => rfl) l o fun i hi c v hv => ?_⟩
 match c, hv with
 | 0, hv => simp at hv; subst hv; exact (hc i hi).1
 | 1, hv => simp at hv; subst hv; exact (hc i hi).2.1
 | 2, hv => simp at hv; subst hv; exact (hc i hi).2.2
def GivesCl {α : Type} (enc : α → List Value) (k : Nat) (e : TypeId) (L : List α) (w : World) (en : Ending) (w' : World) : Prop :=
 ∃ A c, en = .returned (.slice A L.length c) ∧ Below w.heap.size w w' ∧ (L = [] ∨ OwnL enc k w' w.heap.size e (.slice A L.length c) L)
theorem own_slice {α : Type} {enc : α → List Value} {k : Nat} {w : World} {base : Nat} {e : TypeId} {v : Value} {l : List α} (h : OwnL enc k w base e v l) : ∃ A c, v = .slice A l.length c := by
 obtain ⟨A, c, he, _⟩ := OwnL.rdk h
 exact ⟨A, c, he⟩
theorem elKR : ElemT Tryz.prog 22 43 (.agg #[.string ⟨#[]⟩, .string ⟨#[]⟩]) 2 32 := ⟨Tryz.underlying22, by kernel_rfl, rfl, by decide⟩
theorem cloneR_c (A : Option Addr) (c : Nat) (L : List Rg) (w : World) (hn : L.length ≤ 1000000000) (h : Rgs w A L) :
  Calls Tryz.prog 22 #[.slice A L.length c] w (GivesCl (fun x => [.string x.nm, .string x.par]) 2 43 L w) := by
 have hr : RdK (fun x => [.string x.nm, .string x.par]) w A L := RdK.of2 h
 cases A with
 | none =>
  have hL : L = [] := by
   rcases Nat.eq_zero_or_pos L.length with h0 | h0
   ·exact List.eq_nil_of_length_eq_zero h0
   ·obtain ⟨b, o, h1, _⟩ := hr h0
    cases h1
  subst hL
  have hq : ∀ (W : World) (x : Nat), (binOp .eql 22 (.slice none x c) (.slice none 0 0)).run Tryz.prog W = .ok (.bool true) W := fun W x => Lib.run_eql_slice_nil W _ _ none x c 0 0 Tryz.underlying22
  go_enter Tryz.func22, Tryz.ntmps22
  go_wp2
  go_ret
  exact ⟨none, 0, rfl, Below.refl _ _, .inl rfl⟩
 | some ad =>
  have hr2 : RdK (fun x => [.string x.nm, .string x.par]) (w.alloc (.cells #[] 43)) (some ad) L := fun hl => by
   obtain ⟨b, o, h1, hc⟩ := hr hl
   refine ⟨b, o, h1, fun j v hv => ?_⟩
   have h2 := hc j v hv
   rw [World.cell?_alloc_lt _ _ _ (World.block_lt_of_cell? w _ h2)]
   exact h2
  have HR := zq hr2
  have HB : Hid (Below w.heap.size w (w.alloc (.cells #[] 43))) := (Below.refl _ _).alloc (Nat.le_refl _) _
  have hown : OwnL (fun x => [.string x.nm, .string x.par]) 2 (w.alloc (.cells #[] 43)) w.heap.size 43 (.slice (some ⟨w.heap.size, 0, none⟩) 0 0) ([] : List Rg) := World.ownsRow_made w #[] 0 (Nat.le_refl _) (Nat.zero_le _) rfl
  have HO := zq hown
  clear hr hr2 hown h
  have hq : ∀ (W : World), (binOp .eql 22 (.slice (some ad) L.length c) (.slice none 0 0)).run Tryz.prog W = .ok (.bool false) W := fun W => Lib.run_eql_slice_nil W _ _ (some ad) L.length c 0 0 Tryz.underlying22
  go_enter Tryz.func22, Tryz.ntmps22
  go_wp2_with (at_builtin; refine wpList_pushK (k := 2) (enc := (fun x => [.string x.nm, .string x.par])) (fun _ => rfl) (by simp [Value.oneCell']) _ _ _ elKR rfl rfl w.heap.size _ [] rfl HO.out (some ad) _ c L rfl rfl HR.out (.inl (by simp)) (by unfold maxLen; simp; omega) (by simp; omega) (by simp) ?_)
  rintro v' w' ho' hg' hb' _
  have HB2 := zq (HB.out.trans hb')
  have HO2 := zq ho'
  obtain ⟨A', c', hv⟩ := own_slice HO2.out
  clear ho' hg' hb' HR HO HB
  subst hv
  go_wp2
  go_ret
  exact ⟨A', c', rfl, HB2.out, .inr HO2.out⟩
theorem elKS : ElemT Tryz.prog 23 9 (.string ⟨#[]⟩) 1 16 := ⟨Tryz.underlying23, by kernel_rfl, rfl, by decide⟩
theorem cloneS_c (A : Option Addr) (c : Nat) (L : List ByteArray) (w : World) (hn : L.length ≤ 1000000000) (h : Strs w A L) :
  Calls Tryz.prog 23 #[.slice A L.length c] w (GivesCl (fun x => [.string x]) 1 9 L w) := by
 have hr : RdK (fun x => [.string x]) w A L := RdK.of1 h
 cases A with
 | none =>
  have hL : L = [] := by
   rcases Nat.eq_zero_or_pos L.length with h0 | h0
   ·exact List.eq_nil_of_length_eq_zero h0
   ·obtain ⟨b, o, h1, _⟩ := hr h0
    cases h1
  subst hL
  have hq : ∀ (W : World) (x : Nat), (binOp .eql 23 (.slice none x c) (.slice none 0 0)).run Tryz.prog W = .ok (.bool true) W := fun W x => Lib.run_eql_slice_nil W _ _ none x c 0 0 Tryz.underlying23
  go_enter Tryz.func23, Tryz.ntmps23
  go_wp2
  go_ret
  exact ⟨none, 0, rfl, Below.refl _ _, .inl rfl⟩
 | some ad =>
  have hr2 : RdK (fun x => [.string x]) (w.alloc (.cells #[] 9)) (some ad) L := fun hl => by
   obtain ⟨b, o, h1, hc⟩ := hr hl
   refine ⟨b, o, h1, fun j v hv => ?_⟩
   have h2 := hc j v hv
   rw [World.cell?_alloc_lt _ _ _ (World.block_lt_of_cell? w _ h2)]
   exact h2
  have HR := zq hr2
  have HB : Hid (Below w.heap.size w (w.alloc (.cells #[] 9))) := (Below.refl _ _).alloc (Nat.le_refl _) _
  have hown : OwnL (fun x => [.string x]) 1 (w.alloc (.cells #[] 9)) w.heap.size 9 (.slice (some ⟨w.heap.size, 0, none⟩) 0 0) ([] : List ByteArray) := World.ownsRow_made w #[] 0 (Nat.le_refl _) (Nat.zero_le _) rfl
  have HO := zq hown
  clear hr hr2 hown h
  have hq : ∀ (W : World), (binOp .eql 23 (.slice (some ad) L.length c) (.slice none 0 0)).run Tryz.prog W = .ok (.bool false) W := fun W => Lib.run_eql_slice_nil W _ _ (some ad) L.length c 0 0 Tryz.underlying23
  go_enter Tryz.func23, Tryz.ntmps23
  go_wp2_with (at_builtin; refine wpList_pushK (k := 1) (enc := (fun x => [.string x])) (fun _ => rfl) (by simp [Value.oneCell']) _ _ _ elKS rfl rfl w.heap.size _ [] rfl HO.out (some ad) _ c L rfl rfl HR.out (.inl (by simp)) (by unfold maxLen; simp; omega) (by simp; omega) (by simp) ?_)
  rintro v' w' ho' hg' hb' _
  have HB2 := zq (HB.out.trans hb')
  have HO2 := zq ho'
  obtain ⟨A', c', hv⟩ := own_slice HO2.out
  clear ho' hg' hb' HR HO HB
  subst hv
  go_wp2
  go_ret
  exact ⟨A', c', rfl, HB2.out, .inr HO2.out⟩
theorem elKA : ElemT Tryz.prog 51 63 (.agg #[.string ⟨#[]⟩, .bool false]) 2 24 := ⟨Tryz.underlying51, by kernel_rfl, rfl, by decide⟩
theorem cloneA_c (A : Option Addr) (c : Nat) (L : List Ar) (w : World) (hn : L.length ≤ 1000000000) (h : Ars w A L) :
  Calls Tryz.prog 55 #[.slice A L.length c] w (GivesCl (fun x => [.string x.rg, .bool x.out]) 2 63 L w) := by
 have hr : RdK (fun x => [.string x.rg, .bool x.out]) w A L := RdK.of2 h
 cases A with
 | none =>
  have hL : L = [] := by
   rcases Nat.eq_zero_or_pos L.length with h0 | h0
   ·exact List.eq_nil_of_length_eq_zero h0
   ·obtain ⟨b, o, h1, _⟩ := hr h0
    cases h1
  subst hL
  have hq : ∀ (W : World) (x : Nat), (binOp .eql 51 (.slice none x c) (.slice none 0 0)).run Tryz.prog W = .ok (.bool true) W := fun W x => Lib.run_eql_slice_nil W _ _ none x c 0 0 Tryz.underlying51
  go_enter Tryz.func55, Tryz.ntmps55
  go_wp2
  go_ret
  exact ⟨none, 0, rfl, Below.refl _ _, .inl rfl⟩
 | some ad =>
  have hr2 : RdK (fun x => [.string x.rg, .bool x.out]) (w.alloc (.cells #[] 63)) (some ad) L := fun hl => by
   obtain ⟨b, o, h1, hc⟩ := hr hl
   refine ⟨b, o, h1, fun j v hv => ?_⟩
   have h2 := hc j v hv
   rw [World.cell?_alloc_lt _ _ _ (World.block_lt_of_cell? w _ h2)]
   exact h2
  have HR := zq hr2
  have HB : Hid (Below w.heap.size w (w.alloc (.cells #[] 63))) := (Below.refl _ _).alloc (Nat.le_refl _) _
  have hown : OwnL (fun x => [.string x.rg, .bool x.out]) 2 (w.alloc (.cells #[] 63)) w.heap.size 63 (.slice (some ⟨w.heap.size, 0, none⟩) 0 0) ([] : List Ar) := World.ownsRow_made w #[] 0 (Nat.le_refl _) (Nat.zero_le _) rfl
  have HO := zq hown
  clear hr hr2 hown h
  have hq : ∀ (W : World), (binOp .eql 51 (.slice (some ad) L.length c) (.slice none 0 0)).run Tryz.prog W = .ok (.bool false) W := fun W => Lib.run_eql_slice_nil W _ _ (some ad) L.length c 0 0 Tryz.underlying51
  go_enter Tryz.func55, Tryz.ntmps55
  go_wp2_with (at_builtin; refine wpList_pushK (k := 2) (enc := (fun x => [.string x.rg, .bool x.out])) (fun _ => rfl) (by simp [Value.oneCell']) _ _ _ elKA rfl rfl w.heap.size _ [] rfl HO.out (some ad) _ c L rfl rfl HR.out (.inl (by simp)) (by unfold maxLen; simp; omega) (by simp; omega) (by simp) ?_)
  rintro v' w' ho' hg' hb' _
  have HB2 := zq (HB.out.trans hb')
  have HO2 := zq ho'
  obtain ⟨A', c', hv⟩ := own_slice HO2.out
  clear ho' hg' hb' HR HO HB
  subst hv
  go_wp2
  go_ret
  exact ⟨A', c', rfl, HB2.out, .inr HO2.out⟩
theorem elKH : ElemT Tryz.prog 52 118 (.agg #[.string ⟨#[]⟩, .string ⟨#[]⟩, .string ⟨#[]⟩]) 3 48 := ⟨Tryz.underlying52, by kernel_rfl, rfl, by decide⟩
theorem cloneH_c (A : Option Addr) (c : Nat) (L : List Sh) (w : World) (hn : L.length ≤ 1000000000) (h : Shs w A L) :
  Calls Tryz.prog 56 #[.slice A L.length c] w (GivesCl (fun x => [.string x.pt, .string x.nu, .string x.de]) 3 118 L w) := by
 have hr : RdK (fun x => [.string x.pt, .string x.nu, .string x.de]) w A L := RdK.of3 h
 cases A with
 | none =>
  have hL : L = [] := by
   rcases Nat.eq_zero_or_pos L.length with h0 | h0
   ·exact List.eq_nil_of_length_eq_zero h0
   ·obtain ⟨b, o, h1, _⟩ := hr h0
    cases h1
  subst hL
  have hq : ∀ (W : World) (x : Nat), (binOp .eql 52 (.slice none x c) (.slice none 0 0)).run Tryz.prog W = .ok (.bool true) W := fun W x => Lib.run_eql_slice_nil W _ _ none x c 0 0 Tryz.underlying52
  go_enter Tryz.func56, Tryz.ntmps56
  go_wp2
  go_ret
  exact ⟨none, 0, rfl, Below.refl _ _, .inl rfl⟩
 | some ad =>
  have hr2 : RdK (fun x => [.string x.pt, .string x.nu, .string x.de]) (w.alloc (.cells #[] 118)) (some ad) L := fun hl => by
   obtain ⟨b, o, h1, hc⟩ := hr hl
   refine ⟨b, o, h1, fun j v hv => ?_⟩
   have h2 := hc j v hv
   rw [World.cell?_alloc_lt _ _ _ (World.block_lt_of_cell? w _ h2)]
   exact h2
  have HR := zq hr2
  have HB : Hid (Below w.heap.size w (w.alloc (.cells #[] 118))) := (Below.refl _ _).alloc (Nat.le_refl _) _
  have hown : OwnL (fun x => [.string x.pt, .string x.nu, .string x.de]) 3 (w.alloc (.cells #[] 118)) w.heap.size 118 (.slice (some ⟨w.heap.size, 0, none⟩) 0 0) ([] : List Sh) := World.ownsRow_made w #[] 0 (Nat.le_refl _) (Nat.zero_le _) rfl
  have HO := zq hown
  clear hr hr2 hown h
  have hq : ∀ (W : World), (binOp .eql 52 (.slice (some ad) L.length c) (.slice none 0 0)).run Tryz.prog W = .ok (.bool false) W := fun W => Lib.run_eql_slice_nil W _ _ (some ad) L.length c 0 0 Tryz.underlying52
  go_enter Tryz.func56, Tryz.ntmps56
  go_wp2_with (at_builtin; refine wpList_pushK (k := 3) (enc := (fun x => [.string x.pt, .string x.nu, .string x.de])) (fun _ => rfl) (by simp [Value.oneCell']) _ _ _ elKH rfl rfl w.heap.size _ [] rfl HO.out (some ad) _ c L rfl rfl HR.out (.inl (by simp)) (by unfold maxLen; simp; omega) (by simp; omega) (by simp) ?_)
  rintro v' w' ho' hg' hb' _
  have HB2 := zq (HB.out.trans hb')
  have HO2 := zq ho'
  obtain ⟨A', c', hv⟩ := own_slice HO2.out
  clear ho' hg' hb' HR HO HB
  subst hv
  go_wp2
  go_ret
  exact ⟨A', c', rfl, HB2.out, .inr HO2.out⟩
end Go.Proofs.YtlcfgejaeecclaaGreatDoor
