/- Package right: Text. The law RightChecksMatchSpec as one call. -/
import Derived.Test.YtlcfgejaeecclaaGreatDoorZr10
set_option maxRecDepth 100000
set_option maxHeartbeats 8000000
namespace Go.Proofs.YtlcfgejaeecclaaGreatDoor
open Go.RowKit Dw
structure TpS (w W0 : World) (B : Nat) (T : Array Value) (l : List UInt8) (W : World) : Prop where
 s : NmS B B l W0 W
 bel : Below w.heap.size w W
 box : Bx W w.heap.size T 26
 lt : w.heap.size < B
 hB : B < W0.heap.size
section
variable {w W0 W W' : World} {B : Nat} {T : Array Value} {l l' : List UInt8}
theorem TpS.below (h : TpS w W0 B T l W) (hb : Below W.heap.size W W') : TpS w W0 B T l W' := ⟨h.s.below (Nat.le_of_lt h.hB) hb, below_trans h.bel hb, h.box.below hb, h.lt, h.hB⟩
theorem TpS.wr (h : TpS w W0 B T l W) (hs : NmS B B l' W W') : TpS w W0 B T l' W' :=
 ⟨h.s.trans hs, h.bel.trans (hs.bel.mono (Nat.le_of_lt h.lt)), hs.box h.box (by have := h.lt; omega) (by decide), h.lt, h.hB⟩
theorem TpS.le (h : TpS w W0 B T l W) : B < W.heap.size := Nat.lt_of_lt_of_le h.hB h.s.bel.size
theorem TpS.write (h : TpS w W0 B T l W) (s : ByteArray) (hs : s.size ≤ 1000000) (hl : l.length ≤ 1000000000) :
  Calls Tryz.prog 41 #[.pointer (some ⟨B, 0, none⟩), .string s] W (fun e W' => e = .returned (.tuple #[.int .i64 (s.size : Int), .nilIface]) ∧ TpS w W0 B T (l ++ s.data.toList) W') :=
 (writeS_c B B l s W W ⟨h.s.bld, Below.refl _ _, Lib.OthersKept.refl _ _ _⟩ (by omega) (Nat.le_of_lt h.le)).mono fun _ _ ⟨he, hk⟩ => ⟨he, h.wr hk⟩
end
def TpR (w W0 : World) (B : Nat) (T : Array Value) (n : Nat) (F : Nat → List UInt8) (m : Nat) (i : Value) (wr : World) : Prop :=
 ∃ k : Nat, k + m = n ∧ i = .int .i64 (k : Nat) ∧ TpS w W0 B T (F k) wr
def TpD (w W0 : World) (B : Nat) (T : Array Value) (n : Nat) (F : Nat → List UInt8) (m : Nat) (i : Value) (wr : World) : Prop :=
 ∃ k : Nat, k + m = n ∧ i = .int .i64 (k : Nat) ∧ TpS w W0 B T (F k) wr ∧ (F k).length ≤ 500000
theorem Text_c (RA : Option Addr) (rc : Nat) (rs : List Rg) (UA : Option Addr) (uc : Nat) (us : List ByteArray) (DA : Option Addr) (dc : Nat) (ds : List De) (w : World)
  (hr : Rgs w RA rs) (hu : Strs w UA us) (hd : Des w DA ds) (hz : ∀ i (h : i < rs.length), (rs[i]).nm.size ≤ 9223372036854775807) (hz2 : ∀ i (h : i < us.length), (us[i]).size ≤ 9223372036854775807) (hP : POK w) :
  Calls Tryz.prog 15 #[.agg (tiC RA rc rs UA uc us DA dc ds)] w (GivesB (sfP (txF rs us ds)) w) := by
 generalize hres : txF rs us ds = res
 have HR := zq hres
 clear hres
 have HX : Hid (Bx (w.alloc (.cells (tiC RA rc rs UA uc us DA dc ds) 26)) w.heap.size (tiC RA rc rs UA uc us DA dc ds) 26) := Bx.new _ _ _
 have HB : Hid (Below w.heap.size w (w.alloc (.cells (tiC RA rc rs UA uc us DA dc ds) 26))) := (Below.refl _ _).alloc (Nat.le_refl _) _
 obtain ⟨W, hW⟩ : ∃ W, W = w.alloc (.cells (tiC RA rc rs UA uc us DA dc ds) 26) := ⟨_, rfl⟩
 rw [← hW] at HX HB
 have HCK := zq (CheckT_c RA rc rs UA uc us DA dc ds W (hr.below HB.out) (hu.below HB.out) (hd.below HB.out) hz hz2)
 have HDw := zq hd
 have HRw := zq hr
 have HUw := zq hu
 have HPK := zq hP
 clear hr hu hd hP
 go_enter Tryz.func15, Tryz.ntmps15
 go_upto_region 1 with fail
 rw [← hW]
 clear hW
 iterate 2 go_step
 refine wp_load_mid _ _ (by rfl) w.heap.size 0 (by rfl) (tiC RA rc rs UA uc us DA dc ds).toList _ (rangeB HX.out) Tryz.underlying26 rfl (by kernel_rfl) ?_
 go_wp2_with fail
 with_reducible refine HCK.out.mono ?_
 rintro e w1 ⟨rfl, hb1⟩
 have HB1 := zq (below_trans HB.out hb1)
 have HX1 := zq (HX.out.below hb1)
 clear hb1 HCK HX HB
 by_cases hc : chkT rs us ds = 0
 case neg =>
  have hcb : (chkT rs us ds != 0) = true := by simpa using hc
  have HS : Hid (res = (emp, chkT rs us ds)) := by show _ = _; rw [← HR.out, txF_chk hc]
  clear hc
  go_wp2
  go_ret2
  exact GivesB.mk (by first | (rw [HS.out]; rfl) | rw [HS.out]) HB1.out
 have HC := zq hc
 rw [hc]
 obtain ⟨⟨r1, r2⟩, ⟨u1, u2⟩, d1, d2⟩ := chkT_size hc
 have HRZ := zq r2
 have HUZ := zq u2
 have HDZ := zq d2
 have HFL := zq (fun k => flats_len hc k)
 clear hc r2 u2 d2
 have hba : Below w1.heap.size w1 (w1.alloc (.cells #[.pointer none, .slice none 0 0] 97)) := (Below.refl _ _).alloc (Nat.le_refl _) _
 obtain ⟨W0, hW0⟩ : ∃ W, W = w1.alloc (.cells #[.pointer none, .slice none 0 0] 97) := ⟨_, rfl⟩
 obtain ⟨B, hB⟩ : ∃ B, B = w1.heap.size := ⟨_, rfl⟩
 have HST : Hid (TpS w W0 B (tiC RA rc rs UA uc us DA dc ds) [] W0) := by
  show TpS _ _ _ _ _ _
  rw [hW0, hB]
  refine ⟨⟨Lib.IsBuilderF.of (Lib.fresh_isBuilder 97 5 w1), Below.refl _ _, Lib.OthersKept.refl _ _ _⟩, below_trans HB1.out hba, HX1.out.below hba, HX1.out.lt, ?_⟩
  simp
 clear hba HB1 HX1
 go_upto_region 5 with fail
 rw [← hW0, ← hB]
 clear hW0 hB
 have x0 := HST.out.box.cell (i := 0) rfl
 have xs := HST.out.box.lt
 go_wp2
 clear x0 xs
 go_loopg [21] rs.length (TpR w W0 B (tiC RA rc rs UA uc us DA dc ds) rs.length (fun k => flatL regL (rs.take k)))
 case atStart => exact ⟨0, by omega, rfl, HST.out⟩
 clear HST
 case round =>
  obtain ⟨k, hkm, rfl, hst⟩ := hrel
  have HKM := zq hkm
  have HST : Hid (TpS w W0 B (tiC RA rc rs UA uc us DA dc ds) (flatL regL (rs.take k)) wr) := hst
  have hkl : k ≤ rs.length := by omega
  have HF := zq (HFL.out k)
  clear hkm hst
  by_cases hlt : k < rs.length
  ·obtain ⟨b, o, hA, hb0, hcc⟩ := (HRw.out.below HST.out.bel).at_ (by omega)
   subst hA
   obtain ⟨q0, q1⟩ := hcc k hlt
   obtain ⟨z1, z2⟩ := HRZ.out _ (List.getElem_mem hlt)
   have HT : Hid (flatL regL (rs.take (k + 1)) = flatL regL (rs.take k) ++ regL rs[k]) := flatL_take regL rs hlt
   generalize hr : rs[k] = r at *
   obtain ⟨p, hp⟩ : ∃ p, p = parW r := ⟨_, rfl⟩
   obtain ⟨c1, c2, c3, c4, c5⟩ := reg_cats ⟨#[114, 101, 103, 105, 111, 110, 32]⟩ r.nm p rfl z1 (by rw [hp]; exact parW_size z2)
   have HE := zq (reg_eq r hp (pre := ⟨#[114, 101, 103, 105, 111, 110, 32]⟩) rfl)
   obtain ⟨W1, hW1⟩ : ∃ W, W = wr.alloc (.cells #[.string r.nm, .string r.par] 43) := ⟨_, rfl⟩
   have hb1 : Below wr.heap.size wr W1 := by rw [hW1]; exact (Below.refl _ _).alloc (Nat.le_refl _) _
   have HXR : Hid (Bx W1 wr.heap.size #[.string r.nm, .string r.par] 43) := by show Bx _ _ _ _; rw [hW1]; exact Bx.new _ _ _
   have HST1 := zq (HST.out.below hb1)
   have HWR := zq (HST1.out.write ((((⟨#[114, 101, 103, 105, 111, 110, 32]⟩ ++ r.nm) ++ ⟨#[32]⟩) ++ p) ++ ⟨#[10]⟩) (by omega) (by have := HF.out.1; omega))
   rw [HE.out, ← HT.out] at HWR
   have HPP := zq hp
   clear hcc hr hp c5 z1 z2 hb1 HE HST
   have hbs : b < wr.heap.size := hb0
   go_upto_region 8 with fail
   rw [← hW1]
   clear hW1 q0 q1 hb0 hbs
   have p0 := HXR.out.cell (i := 0) rfl
   have p1 := HXR.out.cell (i := 1) rfl
   have ps := HXR.out.lt
   rcases em_str r.par with ⟨h1, h2⟩ | ⟨h1, h2⟩
   ·have hpe : p = ⟨#[45]⟩ := by rw [HPP.out]; unfold parW; rw [if_pos h1]
    clear h1
    subst hpe
    go_wp2_with fail
    with_reducible refine HWR.out.mono ?_
    rintro e w3 ⟨rfl, hs3⟩
    have HS3 := zq hs3
    clear hs3 p0 p1 ps HWR
    go_wp2
    go_roundg (gk - 1)
    case measure => have := HKM.out; omega
    case rel => exact ⟨k + 1, by have := HKM.out; omega, by go_num, HS3.out⟩
   ·have hpe : p = r.par := by rw [HPP.out]; unfold parW; rw [if_neg h1]
    clear h1
    subst hpe
    go_wp2_with fail
    with_reducible refine HWR.out.mono ?_
    rintro e w3 ⟨rfl, hs3⟩
    have HS3 := zq hs3
    clear hs3 p0 p1 ps HWR
    go_wp2
    go_roundg (gk - 1)
    case measure => have := HKM.out; omega
    case rel => exact ⟨k + 1, by have := HKM.out; omega, by go_num, HS3.out⟩
  ·have HF1 := zq (show (flatL regL rs).length ≤ 20000 by have := HF.out.1; rw [flatL_all regL rs (by omega)] at this; exact this)
   rw [flatL_all regL rs (by omega)] at HST
   obtain ⟨L1, hL1⟩ : ∃ L, L = flatL regL rs := ⟨_, rfl⟩
   rw [← hL1] at HF1 HST
   have HL1 := zq hL1
   clear hL1 HF
   have x1 := HST.out.box.cell (i := 1) rfl
   have xs := HST.out.box.lt
   go_wp2
   clear x1 xs
   go_loopg [41] us.length (TpR w W0 B (tiC RA rc rs UA uc us DA dc ds) us.length (fun k => L1 ++ flatL useL (us.take k)))
   case atStart => exact ⟨0, by omega, rfl, by simpa [flatL] using HST.out⟩
   clear HST
   case round =>
    obtain ⟨k, hkm, rfl, hst⟩ := hrel
    have HKM := zq hkm
    have HST : Hid (TpS w W0 B (tiC RA rc rs UA uc us DA dc ds) (L1 ++ flatL useL (us.take k)) wr) := hst
    have hkl : k ≤ us.length := by omega
    have HF := zq (HFL.out k)
    clear hkm hst
    by_cases hlt : k < us.length
    ·obtain ⟨b, o, hA, hb0, hcc⟩ := (HUw.out.below HST.out.bel).at_ (by omega)
     subst hA
     have q0 := hcc k hlt
     have z1 := HUZ.out _ (List.getElem_mem hlt)
     have HT : Hid (flatL useL (us.take (k + 1)) = flatL useL (us.take k) ++ useL us[k]) := flatL_take useL us hlt
     generalize hr : us[k] = u at *
     obtain ⟨c1, c2, c5⟩ := use_cats ⟨#[117, 115, 101, 32]⟩ u rfl z1
     have HWR := zq (HST.out.write ((⟨#[117, 115, 101, 32]⟩ ++ u) ++ ⟨#[10]⟩) (by omega) (by rw [List.length_append]; have := HF.out.2.1; have := HF1.out; omega))
     rw [use_eq u rfl, List.append_assoc, ← HT.out] at HWR
     clear hcc hr c5 z1
     go_wp2_with fail
     with_reducible refine HWR.out.mono ?_
     rintro e w3 ⟨rfl, hs3⟩
     have HS3 := zq hs3
     clear hs3 HWR q0 hb0
     go_wp2
     go_roundg (gk - 1)
     case measure => have := HKM.out; omega
     case rel => exact ⟨k + 1, by have := HKM.out; omega, by go_num, HS3.out⟩
    ·have HF2 := zq (show (L1 ++ flatL useL us).length ≤ 21000 by have := HF.out.2.1; rw [flatL_all useL us (by omega)] at this; rw [List.length_append]; have := HF1.out; omega)
     rw [flatL_all useL us (by omega)] at HST
     obtain ⟨L2, hL2⟩ : ∃ L, L = L1 ++ flatL useL us := ⟨_, rfl⟩
     rw [← hL2] at HF2 HST
     have HL2 := zq hL2
     clear hL2 HF HF1
     have x2 := HST.out.box.cell (i := 2) rfl
     have xs := HST.out.box.lt
     go_wp2
     clear x2 xs
     go_loopg [53] ds.length (TpD w W0 B (tiC RA rc rs UA uc us DA dc ds) ds.length (fun k => L2 ++ flatL deedL (ds.take k)))
     case atStart => exact ⟨0, by omega, rfl, by simpa [flatL] using HST.out, by simp [flatL]; have := HF2.out; omega⟩
     clear HST
     case round =>
      obtain ⟨k, hkm, rfl, hst, hln⟩ := hrel
      have HKM := zq hkm
      have HST : Hid (TpS w W0 B (tiC RA rc rs UA uc us DA dc ds) (L2 ++ flatL deedL (ds.take k)) wr) := hst
      have HLN : Hid ((L2 ++ flatL deedL (ds.take k)).length ≤ 500000) := hln
      have hkl : k ≤ ds.length := by omega
      clear hkm hst hln
      by_cases hlt : k < ds.length
      ·obtain ⟨b, o, hA, hb0, hc0⟩ := HDw.out (by omega)
       subst hA
       have hp := (hc0 k hlt).1
       have HOK := zq (hc0 k hlt).2
       have HZD := zq (HDZ.out _ (List.getElem_mem hlt))
       have HT : Hid (flatL deedL (ds.take (k + 1)) = flatL deedL (ds.take k) ++ deedL ds[k]) := flatL_take deedL ds hlt
       have HMO : Hid ((L2 ++ flatL deedL (ds.take (k + 1))).length ≤ (txtL rs us ds).length) := by
        show _ ≤ _
        have h1 := flatL_mono deedL ds (k + 1)
        have h2 : txtL rs us ds = L2 ++ flatL deedL ds := by rw [HL2.out, HL1.out]; rfl
        rw [h2, List.length_append, List.length_append]
        omega
       have hrg : wr.rangeAt b (o + k * 16) (deC ds[k]).toList := fun q v hv => (HST.out.bel.cell (p := ⟨b, o + k * 16 + q, none⟩) hb0).trans (hp q v hv)
       generalize hr : ds[k] = d at *
       obtain ⟨W1, hW1⟩ : ∃ W, W = wr.alloc (.cells (deC d) 54) := ⟨_, rfl⟩
       have hb1 : Below wr.heap.size wr W1 := by rw [hW1]; exact (Below.refl _ _).alloc (Nat.le_refl _) _
       have HXD : Hid (Bx W1 wr.heap.size (deC d) 54) := by show Bx _ _ _ _; rw [hW1]; exact Bx.new _ _ _
       have HST1 := zq (HST.out.below hb1)
       have HWD := zq (writeDeed_c w B B (L2 ++ flatL deedL (ds.take k)) d W1 HOK.out HZD.out HPK.out HST1.out.bel (Nat.le_of_lt HST1.out.lt) HST1.out.s.bld (Nat.le_of_lt HST1.out.le) HST1.out.le (by have := HLN.out; omega))
       rw [List.append_assoc, ← HT.out] at HWD
       clear hc0 hp hr hb1 HST
       go_upto_region 20 with fail
       iterate 5 go_step
       refine wp_load_mid _ _ (by rfl) b (o + k * 16) (by rfl) (deC d).toList _ hrg Tryz.underlying54 rfl (by kernel_rfl) ?_
       clear hrg
       go_upto_region 21 with fail
       rw [← hW1]
       clear hW1
       iterate 2 go_step
       refine wp_load_mid _ _ (by rfl) wr.heap.size 0 (by rfl) (deC d).toList _ (rangeD HXD.out) Tryz.underlying54 rfl (by kernel_rfl) ?_
       go_wp2_with fail
       with_reducible refine HWD.out.mono ?_
       rintro e w3 ⟨rfl, hs3⟩
       have HST3 := zq (HST1.out.wr hs3)
       clear hs3 HWD HXD HST1
       obtain ⟨nn, hnn⟩ : ∃ nn, nn = (L2 ++ flatL deedL (ds.take (k + 1))).length := ⟨_, rfl⟩
       have hle := blen_c B B _ w3 HST3.out.s.bld
       rw [← hnn] at hle
       have HLE := zq hle
       have HNN := zq hnn
       clear hle hnn
       go_wp2_with fail
       with_reducible refine HLE.out.mono ?_
       rintro e w4 ⟨rfl, rfl⟩
       clear HLE
       by_cases hq : 500000 < nn
       ·have HS : Hid (res = (emp, 2)) := by show _ = _; rw [← HR.out, txF_large HC.out (by have := HMO.out; have := HNN.out; omega)]
        have hq1 : (500000 : Int) < (nn : Int) := by omega
        clear hq
        go_wp2
        go_ret2
        exact GivesB.mk (by first | (rw [HS.out]; rfl) | rw [HS.out]) HST3.out.bel
       ·have hq1 : ¬ (500000 : Int) < (nn : Int) := by omega
        have HQ := zq hq
        clear hq
        go_wp2
        go_roundg (gk - 1)
        case measure => have := HKM.out; omega
        case rel => exact ⟨k + 1, by have := HKM.out; omega, by go_num, HST3.out, by have := HQ.out; have := HNN.out; show (L2 ++ flatL deedL (ds.take (k + 1))).length ≤ 500000; omega⟩
      ·have HTX : Hid (L2 ++ flatL deedL (ds.take k) = txtL rs us ds) := by
        show _ = _
        rw [flatL_all deedL ds (by omega), HL2.out, HL1.out]; rfl
       rw [HTX.out] at HST HLN
       have HS : Hid (res = (sB (txtL rs us ds), 0)) := by show _ = _; rw [← HR.out, txF_ok HC.out (by have := HLN.out; omega)]
       obtain ⟨nn, hnn⟩ : ∃ nn, nn = (txtL rs us ds).length := ⟨_, rfl⟩
       have hq1 : ¬ (500000 : Int) < (nn : Int) := by have := HLN.out; omega
       have hle := blen_c B B _ wr HST.out.s.bld
       rw [← hnn] at hle
       have HLE := zq hle
       clear hle hnn
       have HSR := zq (bstr_c B B _ wr HST.out.s.bld (Nat.le_of_lt HST.out.le))
       go_wp2_with fail
       with_reducible refine HLE.out.mono ?_
       rintro e w4 ⟨rfl, rfl⟩
       go_wp2_with fail
       with_reducible refine HSR.out.mono ?_
       rintro e w5 ⟨rfl, hb5⟩
       have HB5 : Hid (Below w.heap.size w w5) := HST.out.bel.trans (hb5.mono (Nat.le_of_lt HST.out.lt))
       clear hb5
       go_wp2
       go_ret2
       exact GivesB.mk (by first | (rw [HS.out]; rfl) | rw [HS.out]) HB5.out
theorem quiet_load_title {ops : Array Oper} {C : World → Prop} {Q : Act → Prop} {a : Act} {op : Oper} {rest : List Oper} (hw : Region.wanted op (yielded ops a.tmps) = true) (x : Operand) (ho : op.op = .load 26 x) (b o : Nat) (hx : a.eval x = .pointer (some ⟨b, o, none⟩)) (T : Array Value) (hT : T.size = 3)
  (hS : ∀ w, C w → w.rangeAt b o T.toList) (h : wpQuiet Tryz.prog ops C Q rest (a.put op.dst (.agg T))) : wpQuiet Tryz.prog ops C Q (op :: rest) a := by
 unfold wpQuiet
 rw [if_pos hw]
 refine ⟨.agg T, fun w hC => ?_, h⟩
 have hrun : (loadVar 26 ⟨b, o, none⟩).run Tryz.prog w = .ok (.agg T.toList.toArray) w := run_loadVar_mid w b o _ _ _ (hS w hC) Tryz.underlying26 rfl (by
  rw [Array.length_toList, hT]; kernel_rfl)
 unfold Oper.quietAt execOp
 simp only [ho, hx, Instr.loadAt, Instr.sureAddr, Sem.run_bind, Sem.run_pure, Result.andThen_ok, hrun, Oper.quietUpon]
 first | exact ⟨rfl, rfl⟩ | exact ⟨trivial, rfl⟩ | trivial
theorem lawC_c (RA : Option Addr) (rc : Nat) (rs : List Rg) (UA : Option Addr) (uc : Nat) (us : List ByteArray) (DA : Option Addr) (dc : Nat) (ds : List De) (w : World)
  (hr : Rgs w RA rs) (hu : Strs w UA us) (hd : Des w DA ds) (hz : ∀ i (h : i < rs.length), (rs[i]).nm.size ≤ 9223372036854775807) (hz2 : ∀ i (h : i < us.length), (us[i]).size ≤ 9223372036854775807) (hP : POK w) :
  Calls Tryz.prog 6 #[.agg (tiC RA rc rs UA uc us DA dc ds)] w (GivesB (.bool true) w) := by
 have HX : Hid (Bx (w.alloc (.cells (tiC RA rc rs UA uc us DA dc ds) 26)) w.heap.size (tiC RA rc rs UA uc us DA dc ds) 26) := Bx.new _ _ _
 have HB : Hid (Below w.heap.size w (w.alloc (.cells (tiC RA rc rs UA uc us DA dc ds) 26))) := (Below.refl _ _).alloc (Nat.le_refl _) _
 obtain ⟨W, hW⟩ : ∃ W, W = w.alloc (.cells (tiC RA rc rs UA uc us DA dc ds) 26) := ⟨_, rfl⟩
 rw [← hW] at HX HB
 have HR := zq (hr.below HB.out)
 have HU := zq (hu.below HB.out)
 have HD := zq (hd.below HB.out)
 have HPK := zq (hP.below HB.out)
 clear hr hu hd hP
 go_enter Tryz.func6, Tryz.ntmps6
 go_upto_region 1 with fail
 rw [← hW]
 clear hW
 have HC := zq (Text_c RA rc rs UA uc us DA dc ds W HR.out HU.out HD.out hz hz2 HPK.out)
 obtain ⟨res, hres⟩ : ∃ res, res = txF rs us ds := ⟨_, rfl⟩
 rw [← hres] at HC
 iterate 2 go_step
 refine wp_load_mid _ _ (by rfl) w.heap.size 0 (by rfl) (tiC RA rc rs UA uc us DA dc ds).toList _ (rangeB HX.out) Tryz.underlying26 rfl (by kernel_rfl) ?_
 go_wp2_with fail
 with_reducible refine HC.out.mono ?_
 rintro e w1 ⟨rfl, hb1⟩
 have HB1 := zq (below_trans HB.out hb1)
 have HX1 := zq (HX.out.below hb1)
 have HR1 := zq (HR.out.below hb1)
 have HU1 := zq (HU.out.below hb1)
 have HD1 := zq (HD.out.below hb1)
 have HC2 := zq (TextR_c RA rc rs UA uc us DA dc ds w1 HR1.out HU1.out HD1.out hz hz2 (HPK.out.below hb1))
 rw [← hres] at HC2
 clear hb1 HB HX HC HR HU HD hres HPK
 obtain ⟨ra, rf⟩ := res
 go_upto_region 2 with fail
 iterate 2 go_step
 refine wp_load_mid _ _ (by rfl) w.heap.size 0 (by rfl) (tiC RA rc rs UA uc us DA dc ds).toList _ (rangeB HX1.out) Tryz.underlying26 rfl (by kernel_rfl) ?_
 go_wp2_with fail
 with_reducible refine HC2.out.mono ?_
 rintro e w2 ⟨rfl, hb2⟩
 have HB2 := zq (below_trans HB1.out hb2)
 have HX2 := zq (HX1.out.below hb2)
 have HR2 := zq (HR1.out.below hb2)
 have HU2 := zq (HU1.out.below hb2)
 have HD2 := zq (HD1.out.below hb2)
 have ha := beq_of_eq (rfl : ra = ra)
 have hf : (rf == rf) = true := by simp
 clear hb2 HB1 HX1 HC2 HR1 HU1 HD1
 have HK1 : Hid (∀ d os, Calls Tryz.prog 17 #[.agg (tiC RA rc rs UA uc us DA dc ds)] (Sort.grow (redrawn w2 d) os) (GivesB (.int .i64 (chkT rs us ds)) (Sort.grow (redrawn w2 d) os))) := fun d os =>
  CheckT_c RA rc rs UA uc us DA dc ds _ (HR2.out.below (below_regrown w2 d os)) (HU2.out.below (below_regrown w2 d os)) (HD2.out.below (below_regrown w2 d os)) hz hz2
 have HK2 : Hid (∀ d os, Calls Tryz.prog 18 #[.agg (tiC RA rc rs UA uc us DA dc ds)] (Sort.grow (redrawn w2 d) os) (GivesB (.int .i64 (chkT rs us ds)) (Sort.grow (redrawn w2 d) os))) := fun d os =>
  CheckTR_c RA rc rs UA uc us DA dc ds _ (HR2.out.below (below_regrown w2 d os)) (HU2.out.below (below_regrown w2 d os)) (HD2.out.below (below_regrown w2 d os)) hz hz2
 have HK3 : Hid (∀ d os, Calls Tryz.prog 9 #[] (Sort.grow (redrawn w2 d) os) (GivesB (.bool true) (Sort.grow (redrawn w2 d) os))) := fun d os => (awake_c _).mono fun _ _ h => h
 have HLD : Hid (∀ W, (∃ p : Regrown, W = Sort.grow (redrawn w2 p.d) p.os) → W.rangeAt w.heap.size 0 (tiC RA rc rs UA uc us DA dc ds).toList) := fun W ⟨p, e⟩ i u hu => by
  rw [e]; exact cell_regrown (rangeB HX2.out i u hu) p.d p.os
 generalize chkT rs us ds = ck at *
 have hc : (ck == ck) = true := by simp
 clear HR2 HU2 HD2
 go_upto_region 3 with fail
 refine wp_region_quiet_below (by kernel_rfl) (by kernel_rfl) ?_
 refine quiet_load_title (by kernel_rfl) _ (by rfl) w.heap.size 0 (by rfl) (tiC RA rc rs UA uc us DA dc ds) rfl HLD.out ?_
 quiet_step (with_reducible exact Calls.regrown_of (HK1.out _ _))
 refine quiet_load_title (by kernel_rfl) _ (by rfl) w.heap.size 0 (by rfl) (tiC RA rc rs UA uc us DA dc ds) rfl HLD.out ?_
 quiet_step (with_reducible exact Calls.regrown_of (HK2.out _ _))
 repeat (quiet_step (with_reducible exact Calls.regrown_of (HK3.out _ _)))
 refine wpQuiet_nil ?_
 intro _ hw'
 obtain ⟨⟨dq, osq⟩, hw''⟩ := hw'
 subst hw''
 have HB3 := zq (below_trans HB2.out (below_regrown w2 dq osq))
 generalize Sort.grow (redrawn w2 dq) osq = w3 at *
 go_wp2
 go_ret
 exact GivesB.mk rfl HB3.out
end Go.Proofs.YtlcfgejaeecclaaGreatDoor
