/- Parts of the proof, joined: When a deed runs, plainly. The reference's runs and Runs. A region tha. -/
import Derived.Test.YtlcfgejaeecclaaGreatDoorZq33
import Derived.OwnWalk
import Derived.Deep.CutRange
set_option maxRecDepth 100000
set_option maxHeartbeats 8000000
namespace Go.Proofs.YtlcfgejaeecclaaGreatDoor
open Dw
def endsB (id : ByteArray) (x : De) : Bool := decide (x.kd = 4) && decide (x.ot = id)
def endAt (ds : List De) (id : ByteArray) : Option Int := (ds.reverse.find? (endsB id)).map De.bg
theorem endAt_snoc (l : List De) (d : De) (id : ByteArray) : endAt (l ++ [d]) id = if endsB id d = true then some d.bg else endAt l id := by
 unfold endAt
 rw [List.reverse_append, List.reverse_singleton, List.singleton_append, List.find?_cons]
 cases endsB id d <;> simp
def toP (ds : List De) (d : De) : Int := match endAt ds d.id with
 | some t => min d.en t
 | none => d.en
def toR (ds : List De) (d : De) : Int := ds.foldl (fun e x => if endsB d.id x = true then min e x.bg else e) d.en
def cutR (b e : Int) : Int × Int := if e ≤ b then (0, 0) else (b, e)
def runP (ds : List De) (d : De) : Int × Int := if givesB d.kd = true then cutR d.bg (toP ds d) else (0, 0)
def OneEnd (ds : List De) : Prop := ds.Pairwise fun a b => ¬ (a.kd = 4 ∧ b.kd = 4 ∧ a.ot = b.ot)
theorem endAt_none {l : List De} {id : ByteArray} (h : ∀ x ∈ l, endsB id x = false) : endAt l id = none := by
 unfold endAt
 rw [List.find?_eq_none.2 (fun x hx => by rw [h x (List.mem_reverse.1 hx)]; simp)]
 rfl
theorem foldl_none {l : List De} {id : ByteArray} (h : ∀ x ∈ l, endsB id x = false) (e : Int) : l.foldl (fun e x => if endsB id x = true then min e x.bg else e) e = e := by
 induction l with
 | nil => rfl
 | cons a l ih =>
  rw [List.foldl_cons, h a List.mem_cons_self]
  exact ih fun x hx => h x (List.mem_cons_of_mem _ hx)
theorem endsB_true {id : ByteArray} {x : De} : endsB id x = true ↔ x.kd = 4 ∧ x.ot = id := by unfold endsB; simp
theorem toR_eq {ds : List De} (h : OneEnd ds) (d : De) : toR ds d = toP ds d := by
 unfold toR toP
 induction ds with
 | nil => rfl
 | cons a l ih =>
  obtain ⟨h1, h2⟩ := List.pairwise_cons.1 h
  rw [List.foldl_cons]
  have e1 : endAt (a :: l) d.id = match endAt l d.id with
    | some t => some t
    | none => if endsB d.id a = true then some a.bg else none := by
   unfold endAt
   rw [List.reverse_cons, List.find?_append]
   cases hf : l.reverse.find? (endsB d.id) with
   | some q => simp
   | none => cases hb : endsB d.id a <;> simp [hb]
  cases hb : endsB d.id a with
  | false =>
   have := ih h2
   rw [e1, hb]
   simp only [Bool.false_eq_true, if_false] at this ⊢
   rw [this]
   cases endAt l d.id <;> rfl
  | true =>
   have hn : ∀ x ∈ l, endsB d.id x = false := fun x hx => by
    cases hh : endsB d.id x with
    | false => rfl
    | true =>
     obtain ⟨k1, k2⟩ := endsB_true.1 hb
     obtain ⟨k3, k4⟩ := endsB_true.1 hh
     exact absurd ⟨k1, k3, k2.trans k4.symm⟩ (h1 x hx)
   rw [e1, endAt_none hn, hb]
   simp only [if_true]
   rw [foldl_none hn]
theorem chkD_end {rs : List Rg} {us : List ByteArray} {pre : List De} {d : De} (h : chkD rs us pre d = 0) (hk : d.kd = 4) : ∀ p ∈ pre, ¬ (p.kd = 4 ∧ p.ot = d.ot) := by
 have hg : givesB d.kd = false := by rw [hk]; decide
 have he : endF pre d = 0 := by
  unfold chkD at h
  rw [hg] at h
  simp only [hk] at h
  repeat' split at h
  all_goals first | exact h | (cases h; done) | (exfalso; simp_all; done) | skip
 unfold endF at he
 split at he
 ·cases he
 split at he
 ·cases he
 split at he
 ·cases he
 next h3 =>
 intro p hp ⟨k1, k2⟩
 exact h3 (List.any_eq_true.2 ⟨p, hp, by simp [k1, k2]⟩)
theorem deeds_oneEnd {rs : List Rg} {us : List ByteArray} {ds : List De} (h : chkT rs us ds = 0) : OneEnd ds := by
 have hc := (chkT_deeds h).2
 refine List.pairwise_iff_getElem.2 fun i j hi hj hij => ?_
 rintro ⟨k1, k2, k3⟩
 refine chkD_end (hc j hj) k2 ds[i] ?_ ⟨k1, k3⟩
 rw [List.mem_take_iff_getElem]
 exact ⟨i, by omega, rfl⟩
open Go.RowKit Dw
abbrev iiV (p : Int × Int) : Value := .tuple #[.int .i64 p.1, .int .i64 p.2]
theorem toR_snoc (l : List De) (x d : De) : toR (l ++ [x]) d = if endsB d.id x = true then min (toR l d) x.bg else toR l d := by
 unfold toR; rw [List.foldl_append]; rfl
def RunR (W : World) (ds : List De) (d : De) (m : Nat) (e i : Value) (wr : World) : Prop :=
 ∃ q j, wr = W.drewN q ∧ j + m = ds.length ∧ i = .int .i64 (j : Nat) ∧ e = .int .i64 (toR (ds.take j) d)
theorem runsR_c (RA : Option Addr) (rc : Nat) (rs : List Rg) (UA : Option Addr) (uc : Nat) (us : List ByteArray) (DA : Option Addr) (dc : Nat) (ds : List De) (k : Nat) (w : World) (hd : Des w DA ds) (hk : k < ds.length) (hdl : ds.length ≤ 200) :
  Calls Tryz.prog 35 #[.agg (tiC RA rc rs UA uc us DA dc ds), .int .i64 k] w (GivesB (iiV (cutR ds[k].bg (toR ds ds[k]))) w) := by
 obtain ⟨b, o, rfl, hb0, hc0⟩ := hd (by omega)
 have hrg := (hc0 k hk).1
 obtain ⟨d, hdd⟩ : ∃ d, ds[k] = d := ⟨_, rfl⟩
 rw [hdd] at hrg ⊢
 have HC0 := zq hc0
 clear hd hc0 hdd
 have HX : Hid (Bx (w.alloc (.cells (tiC RA rc rs UA uc us (some ⟨b, o, none⟩) dc ds) 26)) w.heap.size (tiC RA rc rs UA uc us (some ⟨b, o, none⟩) dc ds) 26) := Bx.new _ _ _
 have HB : Hid (Below w.heap.size w (w.alloc (.cells (tiC RA rc rs UA uc us (some ⟨b, o, none⟩) dc ds) 26))) := (Below.refl _ _).alloc (Nat.le_refl _) _
 obtain ⟨W, hW⟩ : ∃ W, W = w.alloc (.cells (tiC RA rc rs UA uc us (some ⟨b, o, none⟩) dc ds) 26) := ⟨_, rfl⟩
 rw [← hW] at HX HB
 go_enter Tryz.func35, Tryz.ntmps35
 go_upto_region 1 with fail
 rw [← hW]
 clear hW
 have x2 : W.cell? ⟨w.heap.size, 2, none⟩ = some (.slice (some ⟨b, o, none⟩) ds.length dc) := HX.out.cell (i := 2) rfl
 have hsx := HX.out.lt
 have q0 : W.cell? ⟨b, o + k * 16, none⟩ = some (.string d.id) := (HB.out.cell (p := ⟨b, o + k * 16, none⟩) hb0).trans (hrg 0 _ rfl)
 have q11 : W.cell? ⟨b, o + k * 16 + 12, none⟩ = some (.int .i64 d.bg) := (HB.out.cell (p := ⟨b, o + k * 16 + 12, none⟩) hb0).trans (hrg 12 _ rfl)
 have q12 : W.cell? ⟨b, o + k * 16 + 13, none⟩ = some (.int .i64 d.en) := (HB.out.cell (p := ⟨b, o + k * 16 + 13, none⟩) hb0).trans (hrg 13 _ rfl)
 clear hrg
 go_quiet (fail)
 go_wp2
 go_loopg [7, 8] ds.length (RunR W ds d)
 case atStart => exact ⟨_, 0, rfl, by omega, rfl, rfl⟩
 case round =>
  obtain ⟨q, j, rfl, hjm, rfl, rfl⟩ := hrel
  have HJM := zq hjm
  have hjk : j ≤ ds.length := by omega
  clear hjm
  by_cases hlj : j < ds.length
  ·obtain ⟨pj, hpj⟩ : ∃ pj, ds[j] = pj := ⟨_, rfl⟩
   have hp := (HC0.out j hlj).1
   rw [hpj] at hp
   have p2 : W.cell? ⟨b, o + j * 16 + 2, none⟩ = some (.int .i64 pj.kd) := (HB.out.cell (p := ⟨b, o + j * 16 + 2, none⟩) hb0).trans (hp 2 _ rfl)
   have p11 : W.cell? ⟨b, o + j * 16 + 12, none⟩ = some (.int .i64 pj.bg) := (HB.out.cell (p := ⟨b, o + j * 16 + 12, none⟩) hb0).trans (hp 12 _ rfl)
   have p15 : W.cell? ⟨b, o + j * 16 + 15, none⟩ = some (.string pj.ot) := (HB.out.cell (p := ⟨b, o + j * 16 + 15, none⟩) hb0).trans (hp 15 _ rfl)
   have HS : Hid (toR (ds.take (j + 1)) d = if endsB d.id pj = true then min (toR (ds.take j) d) pj.bg else toR (ds.take j) d) := by
    show _ = _
    rw [List.take_succ_eq_append_getElem hlj, hpj, toR_snoc]
   generalize toR (ds.take j) d = te at HS
   clear hp hpj
   by_cases hq : pj.kd = 4
   ·have e1 : (pj.kd == 4) = true := by simpa using hq
    by_cases he : pj.ot = d.id
    ·have HT : Hid (toR (ds.take (j + 1)) d = min te pj.bg) := by show _ = _; rw [HS.out, if_pos (endsB_true.2 ⟨hq, he⟩)]
     have q1 := beq_of_eq he
     clear hq he HS
     go_wp2
     go_quiet (fail)
     go_wp2
     go_roundg (gk - 1)
     case measure => have := HJM.out; omega
     case rel => exact ⟨_, j + 1, rfl, by have := HJM.out; omega, by go_num, by rw [HT.out]⟩
    ·have HT : Hid (toR (ds.take (j + 1)) d = te) := by show _ = _; rw [HS.out, if_neg (fun h => he (endsB_true.1 h).2)]
     have q1 := beq_of_ne he
     clear hq he HS
     go_wp2
     go_quiet (fail)
     go_wp2
     go_roundg (gk - 1)
     case measure => have := HJM.out; omega
     case rel => exact ⟨_, j + 1, rfl, by have := HJM.out; omega, by go_num, by rw [HT.out]⟩
   ·have e1 : (pj.kd == 4) = false := by simpa using hq
    have HT : Hid (toR (ds.take (j + 1)) d = te) := by show _ = _; rw [HS.out, if_neg (fun h => hq (endsB_true.1 h).1)]
    clear hq HS
    go_wp2
    go_quiet (fail)
    go_wp2
    go_roundg (gk - 1)
    case measure => have := HJM.out; omega
    case rel => exact ⟨_, j + 1, rfl, by have := HJM.out; omega, by go_num, by rw [HT.out]⟩
  ·have hje : j = ds.length := by omega
   rw [hje, List.take_length]
   have HB2 := zq (below_drewN HB.out q)
   generalize hte : toR ds d = te
   have HTE := zq hte
   clear hte
   clear hjk
   subst hje
   by_cases hle : te ≤ d.bg
   ·have HV : Hid (cutR d.bg te = (0, 0)) := by show _ = _; unfold cutR; rw [if_pos hle]
    have e1 : decide (te ≤ d.bg) = true := decide_eq_true hle
    clear hle
    go_wp2
    go_ret2
    exact GivesB.mk (by rw [HTE.out, HV.out]; rfl) HB2.out
   ·have HV : Hid (cutR d.bg te = (d.bg, te)) := by show _ = _; unfold cutR; rw [if_neg hle]
    have e1 : decide (te ≤ d.bg) = false := decide_eq_false hle
    clear hle
    go_wp2
    go_ret2
    exact GivesB.mk (by rw [HTE.out, HV.out]; rfl) HB2.out
def runsF (rs : List Rg) (us : List ByteArray) (ds : List De) (s : ByteArray) : (Int × Int) × Int :=
 if chkT rs us ds ≠ 0 then ((0, 0), chkT rs us ds) else match ds.find? (fun d => decide (d.id = s)) with
 | none => ((0, 0), 5)
 | some d => if givesB d.kd = true then (cutR d.bg (toP ds d), 0) else ((0, 0), 4)
abbrev iifV (p : (Int × Int) × Int) : Value := .tuple #[.int .i64 p.1.1, .int .i64 p.1.2, .int .i64 p.2]
theorem find_at {α : Type} {p : α → Bool} {l : List α} {j : Nat} (hj : j < l.length) (h : p l[j] = true) (hn : ∀ q (hq : q < l.length), q < j → p l[q] = false) : l.find? p = some l[j] := by
 rw [List.find?_eq_some_iff_getElem]
 exact ⟨h, j, hj, rfl, fun q hq => by rw [hn q (by omega) hq]; rfl⟩
theorem find_no {α : Type} {p : α → Bool} {l : List α} (hn : ∀ q (hq : q < l.length), p l[q] = false) : l.find? p = none := by
 rw [List.find?_eq_none]
 intro x hx
 obtain ⟨i, hi, rfl⟩ := List.getElem_of_mem hx
 rw [hn i hi]; simp
def RusR (w0 : World) (g : Nat) (T : Array Value) (ds : List De) (s : ByteArray) (m : Nat) (i : Value) (wr : World) : Prop :=
 Below w0.heap.size w0 wr ∧ Bx wr g T 26 ∧ ∃ j, j + m = ds.length ∧ i = .int .i64 (j : Nat) ∧ ∀ q (hq : q < ds.length), q < j → decide (ds[q].id = s) = false
theorem RunsR_c (RA : Option Addr) (rc : Nat) (rs : List Rg) (UA : Option Addr) (uc : Nat) (us : List ByteArray) (DA : Option Addr) (dc : Nat) (ds : List De) (s : ByteArray) (w : World)
  (hr : Rgs w RA rs) (hu : Strs w UA us) (hd : Des w DA ds) (hz : ∀ i (h : i < rs.length), (rs[i]).nm.size ≤ 9223372036854775807) (hz2 : ∀ i (h : i < us.length), (us[i]).size ≤ 9223372036854775807) :
  Calls Tryz.prog 12 #[.agg (tiC RA rc rs UA uc us DA dc ds), .string s] w (GivesB (iifV (runsF rs us ds s)) w) := by
 generalize hres : runsF rs us ds s = res
 have HR := zq hres
 clear hres
 have HX : Hid (Bx (w.alloc (.cells (tiC RA rc rs UA uc us DA dc ds) 26)) w.heap.size (tiC RA rc rs UA uc us DA dc ds) 26) := Bx.new _ _ _
 have HB : Hid (Below w.heap.size w (w.alloc (.cells (tiC RA rc rs UA uc us DA dc ds) 26))) := (Below.refl _ _).alloc (Nat.le_refl _) _
 obtain ⟨W, hW⟩ : ∃ W, W = w.alloc (.cells (tiC RA rc rs UA uc us DA dc ds) 26) := ⟨_, rfl⟩
 rw [← hW] at HX HB
 have HCK := zq (CheckTR_c RA rc rs UA uc us DA dc ds W (hr.below HB.out) (hu.below HB.out) (hd.below HB.out) hz hz2)
 have HD := zq hd
 clear hr hu hd
 go_enter Tryz.func12, Tryz.ntmps12
 go_upto_region 1 with fail
 rw [← hW]
 clear hW
 iterate 2 go_step
 refine wp_load_mid _ _ (by rfl) w.heap.size 0 (by rfl) (tiC RA rc rs UA uc us DA dc ds).toList _ (rangeB HX.out) Tryz.underlying26 rfl (by kernel_rfl) ?_
 go_wp2_with fail
 with_reducible refine HCK.out.mono ?_
 rintro e w1 ⟨rfl, hb1⟩
 have HB1 := zq (below_trans HB.out hb1)
 have HX1 := zq (HX.out.below hb1)
 clear hb1 HCK HX HB
 by_cases hc : chkT rs us ds = 0
 case neg =>
  have hcb : (chkT rs us ds != 0) = true := by simpa using hc
  have HS : Hid (res = ((0, 0), chkT rs us ds)) := by show _ = _; rw [← HR.out]; unfold runsF; rw [if_pos hc]
  clear hc
  go_wp2
  go_ret3
  exact GivesB.mk (by first | (rw [HS.out]; rfl) | rw [HS.out]) HB1.out
 have HC := zq hc
 rw [hc]
 clear hc
 obtain ⟨_, _, hdl⟩ := chkT_zero HC.out
 have HR2 : Hid ((match ds.find? (fun d => decide (d.id = s)) with
  | none => (((0, 0), 5) : (Int × Int) × Int)
  | some d => if givesB d.kd = true then (cutR d.bg (toP ds d), 0) else ((0, 0), 4)) = res) := by
  show _ = _
  rw [← HR.out]; unfold runsF; rw [if_neg (by rw [HC.out]; simp)]
 clear HR
 have HOE := zq (deeds_oneEnd HC.out)
 go_wp2
 go_loopg [8] ds.length (RusR w w.heap.size (tiC RA rc rs UA uc us DA dc ds) ds s)
 case atStart => exact ⟨HB1.out, HX1.out, 0, by omega, rfl, fun q _ hq => absurd hq (by omega)⟩
 clear HB1 HX1
 case round =>
  obtain ⟨hb, hx, j, hjm, rfl, hpre⟩ := hrel
  have HB := zq hb
  have HX := zq hx
  have HJM := zq hjm
  have HP := zq hpre
  have hjk : j ≤ ds.length := by omega
  clear hb hx hjm hpre
  have x2 : _ = some (Value.slice DA ds.length dc) := HX.out.cell (i := 2) rfl
  have hsx := HX.out.lt
  by_cases hlj : j < ds.length
  ·obtain ⟨b, o, hA, hb0, hc0⟩ := HD.out (by omega)
   subst hA
   obtain ⟨pj, hpj⟩ : ∃ pj, ds[j] = pj := ⟨_, rfl⟩
   have hp := (hc0 j hlj).1
   rw [hpj] at hp
   have p0 : _ = some (Value.string pj.id) := (HB.out.cell (p := ⟨b, o + j * 16, none⟩) hb0).trans (hp 0 _ rfl)
   have p2 : _ = some (Value.int .i64 pj.kd) := (HB.out.cell (p := ⟨b, o + j * 16 + 2, none⟩) hb0).trans (hp 2 _ rfl)
   have HPJ := zq hpj
   clear hp hc0 hpj
   by_cases he : pj.id = s
   ·have q1 := beq_of_eq he
    have HF : Hid ((if givesB pj.kd = true then ((cutR pj.bg (toP ds pj), 0) : (Int × Int) × Int) else ((0, 0), 4)) = res) := by
     show _ = _
     rw [← HR2.out, find_at hlj (by rw [HPJ.out]; exact decide_eq_true he) HP.out, HPJ.out]
    have HGV := zq (fun w => givesR_c pj.kd w)
    clear he
    cases hgv : givesB pj.kd with
    | false =>
     have HS : Hid (res = ((0, 0), 4)) := by show _ = _; rw [← HF.out, hgv]; rfl
     rw [hgv] at HGV
     clear hgv
     go_wp2_with fail
     with_reducible refine (HGV.out _).mono ?_
     rintro e w1 ⟨rfl, rfl⟩
     go_wp2
     go_ret3
     exact GivesB.mk (by first | (rw [HS.out]; rfl) | rw [HS.out]) HB.out
    | true =>
     have HS : Hid (res = (cutR pj.bg (toP ds pj), 0)) := by show _ = _; rw [← HF.out, hgv]; rfl
     rw [hgv] at HGV
     clear hgv
     go_wp2_with fail
     with_reducible refine (HGV.out _).mono ?_
     rintro e w1 ⟨rfl, rfl⟩
     clear HGV p0 p2 q1
     go_upto_region 10 with fail
     iterate 2 go_step
     refine wp_load_mid _ _ (by rfl) w.heap.size 0 (by rfl) (tiC RA rc rs UA uc us (some ⟨b, o, none⟩) dc ds).toList _ (rangeB HX.out) Tryz.underlying26 rfl (by kernel_rfl) ?_
     have hrc := runsR_c RA rc rs UA uc us (some ⟨b, o, none⟩) dc ds j wr (HD.out.below HB.out) hlj hdl
     rw [toR_eq HOE.out, HPJ.out] at hrc
     have HRC := zq hrc
     clear hrc
     go_wp2_with fail
     with_reducible refine HRC.out.mono ?_
     rintro e w2 ⟨rfl, hb2⟩
     have HB2 := zq (below_trans HB.out hb2)
     clear hb2 x2 hsx
     go_wp2
     go_ret3
     exact GivesB.mk (by first | (rw [HS.out]; rfl) | rw [HS.out]) HB2.out
   ·have HE : Hid (decide (ds[j].id = s) = false) := by show _ = _; rw [HPJ.out]; exact decide_eq_false he
    have q1 := beq_of_ne he
    clear he
    go_wp2
    go_roundg (gk - 1)
    case measure => have := HJM.out; omega
    case rel =>
     refine ⟨HB.out, HX.out, j + 1, by have := HJM.out; omega, by go_num, fun q hq h => ?_⟩
     rcases Nat.lt_or_ge q j with h9 | h9
     ·exact HP.out q hq h9
     ·obtain rfl : q = j := by omega
      exact HE.out
  ·have HS : Hid (res = ((0, 0), 5)) := by
    show _ = _
    rw [← HR2.out, find_no (fun q hq => HP.out q hq (by omega))]
   go_wp2
   go_ret3
   exact GivesB.mk (by first | (rw [HS.out]; rfl) | rw [HS.out]) HB.out
end Go.Proofs.YtlcfgejaeecclaaGreatDoor
namespace Dw
open Go Go.Proofs.YtlcfgejaeecclaaGreatDoor
section
variable {P : Program} {ops : Array Oper} {Q : Exit → Act → World → Prop} {md : Region.Mode} {S : Array Bool → World → Prop}
def anyL (P : Program) (md : Region.Mode) (ops : Array Oper) (Q : Exit → Act → World → Prop) (S : Array Bool → World → Prop) : Nat → Array Bool → Act → World → Prop
 | 0, l, a, w => Region.ready md ops l = [] ∧ Q .normal a w
 | n + 1, l, a, w => (Region.ready md ops l = [] → Q .normal a w) ∧
  ∀ i ∈ Region.ready md ops l, wpOp P ops Q i (fun a' w' => S (l.setIfInBounds i true) w' ∧ anyL P md ops Q S n (l.setIfInBounds i true) a' w') a w
theorem anyL_any : ∀ (n : Nat) (l : Array Bool) (a : Act) (w : World), anyL P md ops Q S n l a w → wpAny P md ops Q n l a w
 | 0, _, _, _, h => h
 | n + 1, _, _, _, h => ⟨h.1, fun i hi => wpOp_mono (fun a' w' h' => anyL_any n _ a' w' h'.2) (h.2 i hi)⟩
def ShutL (md : Region.Mode) (ops : Array Oper) (l : Array Bool) : Prop := ∀ (j : Nat) (o : Oper), ops[j]? = some o → l.getD j false = true → ∀ e ∈ o.after, Region.binds md e = true → l.getD e.on false = true
theorem ShutL.set {l : Array Bool} (h : ShutL md ops l) {j : Nat} (hj : j ∈ Region.ready md ops l) : ShutL md ops (l.setIfInBounds j true) := fun k o ho hk e he hb => by
 refine getD_set_true ?_
 by_cases hkj : j = k
 ·subst hkj
  obtain ⟨_, o', ho', hall⟩ := mem_ready.1 hj
  rw [ho] at ho'
  injection ho' with ho'
  subst ho'
  exact hall e he hb
 ·rw [getD_set_ne false hkj] at hk
  exact h k o ho hk e he hb
theorem ShutL.start (n : Nat) : ShutL md ops (Array.replicate n false) := fun j o _ hj => by
 exfalso
 rw [Array.getD_eq_getD_getElem?, Array.getElem?_replicate] at hj
 split at hj <;> simp at hj
abbrev Ahead (md : Region.Mode) (ops : Array Oper) (S : Array Bool → World → Prop) (i : Nat) : World → Prop := fun w => ∃ l, ShutL md ops l ∧ l.getD i true = false ∧ S l w
theorem anyL_first {i : Nat} {oi : Oper} {v : Value} (hi : ops[i]? = some oi) (hsel : ∀ (j : Nat) (o : Oper) cs b, ops[j]? = some o → o.op ≠ .select cs b)
  (hQ : ∀ c a w, Q (.panic c) (a.put oi.dst v) w → Q (.panic c) a w) (hSi : ∀ l w, S (l.setIfInBounds i true) w ↔ S l w) :
  ∀ (fuel : Nat) (l : Array Bool) (a : Act) (w : World), ShutL md ops l →
   (∀ j oj, ops[j]? = some oj → j ≠ i → l.getD j true = false → (∀ e ∈ oj.after, Region.binds md e = true → e.on ≠ i) → oi.apart ops oj = true) →
   i ∈ Region.ready md ops l → YieldsIf P ops (Ahead md ops S i) oi v a → S l w →
   anyL P md ops Q S fuel (l.setIfInBounds i true) (a.put oi.dst v) w → anyL P md ops Q S (fuel + 1) l a w := by
 intro fuel
 induction fuel with
 | zero =>
  intro l a w hsh _ hr hy hS H
  refine ⟨fun h => (by rw [h] at hr; cases hr), fun j hj => ?_⟩
  by_cases hji : j = i
  ·subst hji
   exact hy.wpOp hi ⟨l, hsh, (mem_ready.1 hr).1, hS⟩ ⟨(hSi _ _).2 hS, H⟩
  ·have := ready_mono hj hji
   rw [H.1] at this
   cases this
 | succ fuel ih =>
  intro l a w hsh hfree hr hy hS H
  refine ⟨fun h => (by rw [h] at hr; cases hr), fun j hj => ?_⟩
  by_cases hji : j = i
  ·subst hji
   exact hy.wpOp hi ⟨l, hsh, (mem_ready.1 hr).1, hS⟩ ⟨(hSi _ _).2 hS, H⟩
  ·have h1 := H.2 j (ready_mono hj hji)
   obtain ⟨hjun, oj, hoj, hall⟩ := mem_ready.1 hj
   have hnot : ∀ e ∈ oj.after, Region.binds md e = true → e.on ≠ i := fun e he hb heq => by
    have h1 := hall e he hb
    have h0 := (mem_ready.1 hr).1
    rw [heq] at h1
    rcases Nat.lt_or_ge i l.size with h' | h'
    ·simp [h'] at h0 h1; rw [h0] at h1; cases h1
    ·simp [Array.getElem?_eq_none h'] at h1
   have h2 := wpOp_putIf hoj (hfree j oj hoj hji hjun hnot) (fun cs b => hsel i oi cs b hi) (fun cs b => hsel j oj cs b hoj) hQ hy h1
   have hfree' : ∀ k ok, ops[k]? = some ok → k ≠ i → (l.setIfInBounds j true).getD k true = false →
     (∀ e ∈ ok.after, Region.binds md e = true → e.on ≠ i) → oi.apart ops ok = true := fun k ok hk hki hun hno => by
    refine hfree k ok hk hki ?_ hno
    by_cases hjk : j = k
    ·subst hjk; exact hjun
    ·rw [getD_set_ne true hjk] at hun; exact hun
   refine wpOp_mono (fun a' w' h3 => ?_) h2
   have hs3 : S (l.setIfInBounds j true) w' := by
    have := h3.2.1
    rw [Array.setIfInBounds_comm _ _ (fun e => hji e.symm)] at this
    exact (hSi _ _).1 this
   refine ⟨hs3, ih (l.setIfInBounds j true) a' w' (hsh.set hj) hfree' (ready_mono hr (Ne.symm hji)) h3.1 hs3 ?_⟩
   rw [Array.setIfInBounds_comm _ _ hji]
   exact h3.2.2
theorem anyL_take {i : Nat} {oi : Oper} {v : Value} {fuel : Nat} {l : Array Bool} {a : Act} {w : World} (hi : ops[i]? = some oi)
  (hs : Region.noSelect ops = true) (hf : Region.free md ops l i = true) (hr : (Region.ready md ops l).contains i = true)
  (hQ : ∀ c a w, Q (.panic c) (a.put oi.dst v) w → Q (.panic c) a w) (hSi : ∀ l w, S (l.setIfInBounds i true) w ↔ S l w) (hsh : ShutL md ops l) (hy : YieldsIf P ops (Ahead md ops S i) oi v a) (hS : S l w)
  (h : ShutL md ops (l.setIfInBounds i true) → S (l.setIfInBounds i true) w → anyL P md ops Q S fuel (l.setIfInBounds i true) (a.put oi.dst v) w) : anyL P md ops Q S (fuel + 1) l a w :=
 anyL_first hi (Region.noSelect_spec hs) hQ hSi fuel l a w hsh (Region.free_spec hi hf) (by simpa using hr) hy hS (h (hsh.set (by simpa using hr)) ((hSi _ _).2 hS))
def AllL (P : Program) (md : Region.Mode) (ops : Array Oper) (Q : Exit → Act → World → Prop) (S : Array Bool → World → Prop) (fuel : Nat) (l : Array Bool) (a : Act) (w : World) (rs : List Nat) : Prop :=
 ∀ i ∈ rs, wpOp P ops Q i (fun a' w' => S (l.setIfInBounds i true) w' ∧ anyL P md ops Q S fuel (l.setIfInBounds i true) a' w') a w
theorem AllL.nil {fuel : Nat} {l : Array Bool} {a : Act} {w : World} : AllL P md ops Q S fuel l a w [] := fun _ h => by cases h
theorem AllL.cons {fuel : Nat} {l : Array Bool} {a : Act} {w : World} {i : Nat} {o : Oper} {rs : List Nat} (ho : ops[i]? = some o)
  (h : ∀ K' : Act → World → Prop, Shut (∀ a w, S (l.setIfInBounds i true) w → (S (l.setIfInBounds i true) w → anyL P md ops Q S fuel (l.setIfInBounds i true) a w) → K' a w) → if Region.wanted o (yielded ops a.tmps) = true then Oper.wp P o a w K' Q else K' (a.put o.dst undef) w)
  (hs : AllL P md ops Q S fuel l a w rs) : AllL P md ops Q S fuel l a w (i :: rs) := fun j hj => by
 rcases List.mem_cons.1 hj with rfl | hj
 ·exact wpOp_step ho (fun K' hK => h K' (fun a w hS hW => hK a w ⟨hS, hW hS⟩))
 ·exact hs j hj
theorem anyL_ready {rs : List Nat} {fuel : Nat} {l : Array Bool} {a : Act} {w : World} (hr : Region.ready md ops l = rs) (hne : rs ≠ []) (h : AllL P md ops Q S fuel l a w rs) : anyL P md ops Q S (fuel + 1) l a w :=
 ⟨fun h0 => absurd (hr ▸ h0) hne, hr ▸ h⟩
theorem anyL_done {l : Array Bool} {a : Act} {w : World} (hr : Region.ready md ops l = []) (h : Q .normal a w) : ∀ fuel, anyL P md ops Q S fuel l a w
 | 0 => ⟨hr, h⟩
 | _ + 1 => ⟨fun _ => h, by rw [hr]; simp⟩
theorem wp_region_late {id : Nat} {a : Act} {w : World} (hm : P.follows .mixedOrders = true) (hS : S (Array.replicate ops.size false) w.drew)
  (h : ShutL .any ops (Array.replicate ops.size false) → S (Array.replicate ops.size false) w.drew → anyL P .any ops Q S ops.size (Array.replicate ops.size false) a w.drew) : (Code.region id ops true).wp P Q a w :=
 wp_region_any hm (anyL_any _ _ _ _ (h (ShutL.start _) hS))
theorem ShutL.back {l : Array Bool} (h : ShutL .any ops l) {i j : Nat} (hd : depB ops i j = true) (hj : l.getD j false = false) : l.getD i false = false := by
 cases hli : l.getD i false with
 | false => rfl
 | true =>
  have h2 : l.getD j false = true := dep_of (done := fun k => l.getD k false) hd (fun o ho e he hb => h i o ho hli e he hb)
  rw [hj] at h2
  cases h2
theorem getD_ft {l : Array Bool} {j : Nat} (h : l.getD j true = false) : l.getD j false = false := by
 rw [Array.getD_eq_getD_getElem?] at h ⊢
 cases he : l[j]? with
 | none => rfl
 | some b => rw [he] at h; simpa using h
end
end Dw
namespace Go.Proofs.YtlcfgejaeecclaaGreatDoor
open Go.RowKit Dw
abbrev wvC (RA : Option Addr) (rc r1 r2 g1 g2 : Nat) (AL : Option Addr) (cL : Nat) (rs : List Rg) : Array Value :=
 #[.slice RA rs.length rc, .map (some r1), .slice AL (gath rs (fun i => !isPar rs i) rs.length).length cL, .map (some r2), .slice (some ⟨g1, 0, none⟩) rs.length rs.length, .slice (some ⟨g2, 0, none⟩) rs.length rs.length]
theorem wv_eq (RA : Option Addr) (rc r1 r2 g1 g2 : Nat) (AL : Option Addr) (cL : Nat) (rs : List Rg) : wv RA rc r1 r2 g1 g2 AL cL rs = .agg (wvC RA rc r1 r2 g1 g2 AL cL rs) := rfl
abbrev lgC (RA : Option Addr) (rc : Nat) (rs : List Rg) (UA : Option Addr) (uc : Nat) (us : List ByteArray) (DA : Option Addr) (dc many r1 r2 g1 g2 : Nat) (AL : Option Addr) (cL : Nat) (vr vi : Value) : Array Value :=
 #[.slice RA rs.length rc, .slice UA us.length uc, .slice DA many dc, .slice RA rs.length rc, .map (some r1), .slice AL (gath rs (fun i => !isPar rs i) rs.length).length cL, .map (some r2), .slice (some ⟨g1, 0, none⟩) rs.length rs.length, .slice (some ⟨g2, 0, none⟩) rs.length rs.length, vr, vi]
abbrev spC (p : Int × Int) : Array Value := #[.int .i64 p.1, .int .i64 p.2]
abbrev eRun : Int × Int → List Value := fun p => [.int .i64 p.1, .int .i64 p.2]
abbrev eIn : Value × List Bool → List Value := fun x => [x.1]
theorem elRun : ElemT Tryz.prog 77 71 (.agg #[.int .i64 0, .int .i64 0]) 2 16 := ⟨Tryz.underlying77, by kernel_rfl, rfl, by decide⟩
theorem elIn : ElemT Tryz.prog 78 130 (.slice none 0 0) 1 24 := ⟨Tryz.underlying78, by kernel_rfl, rfl, by decide⟩
theorem oneRun (p : Int × Int) : ∀ u ∈ eRun p, u.oneCell' = true := by simp [Value.oneCell']
def InS (w : World) (x : Value) (M : List Bool) : Prop := (x = .slice none 0 0 ∧ M = []) ∨ ∃ go c, x = .slice (some ⟨go, 0, none⟩) M.length c ∧ w.heap[go]? = some (.cells (bArr M M.length) 4 (0, 0))
theorem InS.one {w : World} {x : Value} {M : List Bool} (h : InS w x M) : x.oneCell' = true := by
 rcases h with ⟨rfl, _⟩ | ⟨_, _, rfl, _⟩ <;> rfl
theorem InS.keep {w w' : World} {x : Value} {M : List Bool} (h : InS w x M) (hk : ∀ (g : Nat) (cs : Array Value), w.heap[g]? = some (Obj.cells cs 4 (0, 0)) → w'.heap[g]? = w.heap[g]?) : InS w' x M :=
 h.imp id fun ⟨go, c, e, hg⟩ => ⟨go, c, e, (hk go _ hg).trans hg⟩
theorem InS.below {w w' : World} {x : Value} {M : List Bool} (h : InS w x M) (hb : Below w.heap.size w w') : InS w' x M := h.keep fun g _ hg => hb.block g (lt_of_heap hg)
def insM (rs : List Rg) (d : De) : List Bool := if givesB d.kd = true then inL rs d.ar else []
structure LS (W1 : World) (C : Value → Value → Array Value) (L r : Nat) (f : ByteArray → Option Value) (cr ci vr vi : Value) (runs : List (Int × Int)) (ins : List (Value × List Bool)) (w : World) : Prop where
 bel : Below W1.heap.size W1 w
 lo : W1.heap.size ≤ L
 lg : Bx w L (C cr ci) 80
 rlo : W1.heap.size ≤ r
 mp : MapIs Value.string w r f
 rn : OwnL eRun 2 w W1.heap.size 71 vr runs
 ns : OwnL eIn 1 w W1.heap.size 130 vi ins
 el : ∀ x ∈ ins, InS w x.1 x.2
section
variable {W1 w w' : World} {C : Value → Value → Array Value} {L r : Nat} {f : ByteArray → Option Value} {cr ci vr vi v' : Value} {runs : List (Int × Int)} {ins : List (Value × List Bool)}
theorem LS.below (h : LS W1 C L r f cr ci vr vi runs ins w) (hb : Below w.heap.size w w') : LS W1 C L r f cr ci vr vi runs ins w' :=
 ⟨below_trans h.bel hb, h.lo, h.lg.below hb, h.rlo, h.mp.below hb, h.rn.below hb, h.ns.below hb, fun x hx => (h.el x hx).below hb⟩
theorem LS.drewN (h : LS W1 C L r f cr ci vr vi runs ins w) (n : Nat) : LS W1 C L r f cr ci vr vi runs ins (w.drewN n) := h.below (below_drewN (Below.refl _ _) n)
theorem LS.drew (h : LS W1 C L r f cr ci vr vi runs ins w) : LS W1 C L r f cr ci vr vi runs ins w.drew := h.drewN 1
theorem bx_grown {g : Nat} {cs : Array Value} {T e : TypeId} {α : Type} {enc : α → List Value} {k b : Nat} {v : Value} {l : List α} (h : Bx w g cs T) (ho : OwnL enc k w b e v l) (hne : T ≠ e) (hg : w.grownBy w' v.ownBlock) : Bx w' g cs T := by
 show w'.heap[g]? = _
 rw [hg.block g h.lt fun e2 => by
  obtain ⟨_, cs2, hc⟩ := own_row ho e2.symm
  exact cells_ne h hc hne rfl]
 exact h
theorem map_grown {f : ByteArray → Option Value} {α : Type} {enc : α → List Value} {k b : Nat} {e : TypeId} {v : Value} {l : List α} (h : MapIs Value.string w r f) (ho : OwnL enc k w b e v l) (hg : w.grownBy w' v.ownBlock) : MapIs Value.string w' r f :=
 h.keep (hg.block r h.lt fun e2 => by
  obtain ⟨_, cs2, hc⟩ := own_row ho e2.symm
  exact map_ne_cells h hc rfl)
theorem ins_grown {α : Type} {enc : α → List Value} {k b : Nat} {e : TypeId} {v x : Value} {l : List α} {M : List Bool} (h : InS w x M) (ho : OwnL enc k w b e v l) (hne : 4 ≠ e) (hg : w.grownBy w' v.ownBlock) : InS w' x M :=
 h.keep fun g cs hc => hg.block g (lt_of_heap hc) fun e2 => by
  obtain ⟨_, cs2, hc2⟩ := own_row ho e2.symm
  exact cells_ne hc hc2 hne rfl
theorem own_base {α : Type} {enc : α → List Value} {k b : Nat} {e : TypeId} {v : Value} {l : List α} (ho : OwnL enc k w b e v l) : ∀ q, v.ownBlock = some q → b ≤ q := fun _q hq => (own_row ho hq).1
theorem LS.pushR (h : LS W1 C L r f cr ci vr vi runs ins w) {p : Int × Int} (hn : OwnL eRun 2 w' W1.heap.size 71 v' (runs ++ [p])) (hg : w.grownBy w' vr.ownBlock) : LS W1 C L r f cr ci v' vi (runs ++ [p]) ins w' :=
 ⟨h.bel.grown hg h.bel.size (own_base h.rn), h.lo, bx_grown h.lg h.rn (by decide) hg, h.rlo, map_grown h.mp h.rn hg, hn, h.ns.grown hg (own_ne_type h.ns h.rn (by decide)), fun x hx => ins_grown (h.el x hx) h.rn (by decide) hg⟩
theorem LS.pushI (h : LS W1 C L r f cr ci vr vi runs ins w) {x : Value × List Bool} (hx : InS w x.1 x.2) (hn : OwnL eIn 1 w' W1.heap.size 130 v' (ins ++ [x])) (hg : w.grownBy w' vi.ownBlock) : LS W1 C L r f cr ci vr v' runs (ins ++ [x]) w' :=
 ⟨h.bel.grown hg h.bel.size (own_base h.ns), h.lo, bx_grown h.lg h.ns (by decide) hg, h.rlo, map_grown h.mp h.ns hg, h.rn.grown hg (own_ne_type h.rn h.ns (by decide)), hn, fun y hy => by
  rcases List.mem_append.1 hy with hy | hy
  ·exact ins_grown (h.el y hy) h.ns (by decide) hg
  ·rw [List.mem_singleton.1 hy]; exact ins_grown hx h.ns (by decide) hg⟩
theorem LS.set (h : LS W1 C L r f cr ci vr vi runs ins w) {i : Nat} {u cr' ci' : Value} (hC : (C cr ci).setIfInBounds i u = C cr' ci') : LS W1 C L r f cr' ci' vr vi runs ins (w.setCell ⟨L, i, none⟩ u) :=
 ⟨h.bel.setCell h.lo _, h.lo, by rw [← hC]; exact h.lg.set i u, h.rlo, h.mp.setCell (map_ne_cells h.mp h.lg).symm _, own_far h.rn h.lg (by decide) i u, own_far h.ns h.lg (by decide) i u, fun x hx => (h.el x hx).keep fun g cs hc => Below.heap_setCell _ _ _ _ (cells_ne hc h.lg (by decide))⟩
theorem LS.far (h : LS W1 C L r f cr ci vr vi runs ins w) {g i : Nat} {cs : Array Value} {T : TypeId} {u : Value} (hg : Bx w g cs T) (hlo : W1.heap.size ≤ g) (h1 : T ≠ 80) (h3 : T ≠ 130) (h4 : T ≠ 4) (hr : vr.ownBlock ≠ some g) : LS W1 C L r f cr ci vr vi runs ins (w.setCell ⟨g, i, none⟩ u) :=
 ⟨h.bel.setCell hlo _, h.lo, h.lg.far (show L ≠ g from cells_ne h.lg hg (fun e => h1 e.symm)) _, h.rlo, h.mp.setCell (map_ne_cells h.mp hg).symm _, ownsRow_setCell_other h.rn hr _, own_far h.ns hg (fun e => h3 e.symm) i u, fun x hx => (h.el x hx).keep fun _g2 _cs2 hc => Below.heap_setCell _ _ _ _ (cells_ne hc hg (fun e => h4 e.symm))⟩
theorem LS.upd {f' : ByteArray → Option Value} (h : LS W1 C L r f cr ci vr vi runs ins w) (hm : MapIs Value.string w' r f') (hg : w.grownBy w' (some r)) : LS W1 C L r f' cr ci vr vi runs ins w' :=
 ⟨h.bel.grown hg h.bel.size (fun k hk => by injection hk with hk; rw [← hk]; exact h.rlo), h.lo, by
  show w'.heap[L]? = _
  rw [hg.block L h.lg.lt (by simp; exact map_ne_cells h.mp h.lg)]
  exact h.lg, h.rlo, hm, h.rn.grown hg (own_ne_mapJ h.rn h.mp), h.ns.grown hg (own_ne_mapJ h.ns h.mp), fun x hx => (h.el x hx).keep fun g cs hc => hg.block g (lt_of_heap hc) (by simp; exact map_ne_cells h.mp hc)⟩
end
theorem chkD_kind {rs : List Rg} {us : List ByteArray} {pre : List De} {d : De} (h : chkD rs us pre d = 0) : (1 ≤ d.kd ∧ d.kd ≤ 5) ∧ (givesB d.kd = true → chkA rs d.ar = 0) := by
 unfold chkD at h
 split at h
 ·cases h
 split at h
 ·cases h
 split at h
 ·cases h
 split at h
 ·cases h
 split at h
 ·cases h
 next hk =>
 split at h
 ·cases h
 refine ⟨by omega, fun hg => ?_⟩
 rw [if_pos hg] at h
 unfold giftF at h
 split at h
 ·cases h
 split at h
 ·cases h
 split at h
 ·next h1 => exact absurd h h1
 split at h
 ·next h1 => exact absurd h h1
 next ha => simpa using ha
theorem chkT_kind {rs : List Rg} {us : List ByteArray} {ds : List De} (h : chkT rs us ds = 0) : ∀ d ∈ ds, (1 ≤ d.kd ∧ d.kd ≤ 5) ∧ (givesB d.kd = true → chkA rs d.ar = 0) := fun d hd => by
 obtain ⟨i, hi, rfl⟩ := List.getElem_of_mem hd
 exact chkD_kind ((chkT_deeds h).2 i hi)
theorem fldC_p1 (W : World) : (Instr.field 68 (.agg (fldC 1)) 5).run Tryz.prog W = .ok (.bool (givesB 1)) W := by kernel_rfl
theorem fldC_p2 (W : World) : (Instr.field 68 (.agg (fldC 2)) 5).run Tryz.prog W = .ok (.bool (givesB 2)) W := by kernel_rfl
theorem fldC_p3 (W : World) : (Instr.field 68 (.agg (fldC 3)) 5).run Tryz.prog W = .ok (.bool (givesB 3)) W := by kernel_rfl
theorem fldC_p4 (W : World) : (Instr.field 68 (.agg (fldC 4)) 5).run Tryz.prog W = .ok (.bool (givesB 4)) W := by kernel_rfl
theorem fldC_p5 (W : World) : (Instr.field 68 (.agg (fldC 5)) 5).run Tryz.prog W = .ok (.bool (givesB 5)) W := by kernel_rfl
theorem fldC_place (k : Int) (h : 1 ≤ k ∧ k ≤ 5) (W : World) : (Instr.field 68 (.agg (fldC k)) 5).run Tryz.prog W = .ok (.bool (givesB k)) W := by
 have h5 : k = 1 ∨ k = 2 ∨ k = 3 ∨ k = 4 ∨ k = 5 := by omega
 rcases h5 with rfl | rfl | rfl | rfl | rfl
 ·exact fldC_p1 W
 ·exact fldC_p2 W
 ·exact fldC_p3 W
 ·exact fldC_p4 W
 ·exact fldC_p5 W
theorem tMapE : Tryz.prog.underlying 72 = some (.map 9 3) := Tryz.underlying72
abbrev endM (l : List De) : ByteArray → Option Value := fun x => (endAt l x).map (Value.int .i64)
theorem endM_nil : endM [] = fun _ => none := rfl
theorem endM_skip {l : List De} {d : De} (h : d.kd ≠ 4) : endM (l ++ [d]) = endM l := by
 funext x
 show (endAt (l ++ [d]) x).map _ = (endAt l x).map _
 rw [endAt_snoc, if_neg (fun hh => h (endsB_true.1 hh).1)]
theorem endM_push {l : List De} {d : De} (h : d.kd = 4) : endM (l ++ [d]) = fun x => if x = d.ot then some (.int .i64 d.bg) else endM l x := by
 funext x
 show (endAt (l ++ [d]) x).map _ = _
 rw [endAt_snoc]
 by_cases hx : x = d.ot
 ·rw [if_pos hx, if_pos (endsB_true.2 ⟨h, hx.symm⟩)]; rfl
 ·rw [if_neg hx, if_neg (fun hh => hx (endsB_true.1 hh).2.symm)]
end Go.Proofs.YtlcfgejaeecclaaGreatDoor
