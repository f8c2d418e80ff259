/- Package right: Join (under way). -/
import Derived.Test.YtlcfgejaeecclaaGreatDoorZq38
set_option maxRecDepth 100000
set_option maxHeartbeats 8000000
namespace Go.Proofs.YtlcfgejaeecclaaGreatDoor
open Go.RowKit Dw
def OutRel (w5 : World) (rs : List Rg) (us : List ByteArray) (v : Value) (wx : World) : Prop :=
 ∃ g A c A2 c2, v = .pointer (some ⟨g, 0, none⟩) ∧ w5.heap.size ≤ g ∧ Bx wx g #[.slice A rs.length c, .slice A2 us.length c2, .slice none 0 0] 26 ∧ ClK eR 2 43 w5.heap.size wx A c rs ∧ ClK eS 1 9 w5.heap.size wx A2 c2 us ∧ Below w5.heap.size w5 wx
theorem below_set3 {w0 w : World} {g : Nat} (h : Below w0.heap.size w0 w) (hg : w0.heap.size ≤ g) (a b c : Value) : Below w0.heap.size w0 (((w.setCell ⟨g, 0, none⟩ a).setCell ⟨g, 1, none⟩ b).setCell ⟨g, 2, none⟩ c) :=
 ((h.setCell (p := ⟨g, 0, none⟩) hg a).setCell (p := ⟨g, 1, none⟩) hg b).setCell (p := ⟨g, 2, none⟩) hg c
theorem out_set {w5 w7 : World} {g : Nat} {rs : List Rg} {us : List ByteArray} {A A2 : Option Addr} {c c2 : Nat} (hn : Bx w7 g #[.slice none 0 0, .slice none 0 0, .slice none 0 0] 26) (hg : w5.heap.size ≤ g)
  (h1 : ClK eR 2 43 w5.heap.size w7 A c rs) (h2 : ClK eS 1 9 w5.heap.size w7 A2 c2 us) (hb : Below w5.heap.size w5 w7) :
  OutRel w5 rs us (.pointer (some ⟨g, 0, none⟩)) (((w7.setCell ⟨g, 0, none⟩ (.slice A rs.length c)).setCell ⟨g, 1, none⟩ (.slice A2 us.length c2)).setCell ⟨g, 2, none⟩ (.slice none 0 0)) := by
 have k1 := heap_setCell_same w7 g 0 _ _ (.slice A rs.length c) hn
 have k2 := heap_setCell_same _ g 1 _ _ (.slice A2 us.length c2) k1
 have k3 := heap_setCell_same _ g 2 _ _ (.slice none 0 0) k2
 exact ⟨g, A, c, A2, c2, rfl, hg, k3, ((h1.far hn (by decide) _).far k1 (by decide) _).far k2 (by decide) _, ((h2.far hn (by decide) _).far k1 (by decide) _).far k2 (by decide) _, below_set3 hb hg _ _ _⟩
theorem out_new {w5 w7 : World} {rs : List Rg} {us : List ByteArray} {A A2 : Option Addr} {c c2 : Nat}
  (h1 : ClK eR 2 43 w5.heap.size w7 A c rs) (h2 : ClK eS 1 9 w5.heap.size w7 A2 c2 us) (hb : Below w5.heap.size w5 w7) :
  OutRel w5 rs us (.pointer (some ⟨w7.heap.size, 0, none⟩)) (w7.alloc (.cells #[.slice A rs.length c, .slice A2 us.length c2, .slice none 0 0] 26)) :=
 ⟨w7.heap.size, A, c, A2, c2, rfl, hb.size, Bx.new _ _ _, h1.below ((Below.refl _ _).alloc (Nat.le_refl _) _), h2.below ((Below.refl _ _).alloc (Nat.le_refl _) _), hb.alloc hb.size _⟩
abbrev kM (L : List De) (k : Nat) : ByteArray → Option Value := fun x => ((L.take k).find? (sameId x)).map deV
structure JS (w5 w8 : World) (g r bL : Nat) (rs : List Rg) (us : List ByteArray) (A : Option Addr) (c : Nat) (A2 : Option Addr) (c2 : Nat) (AV : Option Addr) (cv : Nat) (L : List De) (k : Nat) (v : Value) (outs : List De) (wr : World) : Prop where
 mem : JW w5 w8 g r bL rs us A c A2 c2 AV cv L (kM L k) v outs wr
 con : outs.map plainD = firsts De.id [] ((L.take k).map plainD)
 ok : KeyOk De.id ((L.take k).map plainD)
def JRel (w5 w8 : World) (g r bL : Nat) (rs : List Rg) (us : List ByteArray) (A : Option Addr) (c : Nat) (A2 : Option Addr) (c2 : Nat) (AV : Option Addr) (cv : Nat) (L : List De) (m : Nat) (i : Value) (wr : World) : Prop :=
 ∃ (k : Nat) (v : Value) (outs : List De), k + m = L.length ∧ i = .int .i64 k ∧ JS w5 w8 g r bL rs us A c A2 c2 AV cv L k v outs wr
theorem firsts_len {α κ : Type} [DecidableEq κ] {key : α → κ} : ∀ (l seen : List α), (firsts key seen l).length ≤ l.length
 | [], _ => by simp [firsts]
 | a :: l, seen => by
  unfold firsts
  split
  ·have := firsts_len (key := key) l seen; simp; omega
  ·have := firsts_len (key := key) l (a :: seen); simp; omega
theorem JS.len {w5 w8 : World} {g r bL : Nat} {rs : List Rg} {us : List ByteArray} {A : Option Addr} {c : Nat} {A2 : Option Addr} {c2 : Nat} {AV : Option Addr} {cv : Nat} {L : List De} {k : Nat} {v : Value} {outs : List De} {wr : World} (h : JS w5 w8 g r bL rs us A c A2 c2 AV cv L k v outs wr) : outs.length ≤ L.length := by
 have h1 := congrArg List.length h.con
 have h2 := firsts_len (key := De.id) ((L.take k).map plainD) []
 simp only [List.length_map, List.length_take] at h1 h2
 omega
theorem kM_zero (L : List De) : kM L 0 = fun _ => none := by funext x; rfl
theorem JS.old {w5 w8 : World} {g r bL : Nat} {rs : List Rg} {us : List ByteArray} {A : Option Addr} {c : Nat} {A2 : Option Addr} {c2 : Nat} {AV : Option Addr} {cv : Nat} {L : List De} {k : Nat} {v : Value} {outs : List De} {wr w' : World} {d o : De} (h : JS w5 w8 g r bL rs us A c A2 c2 AV cv L k v outs wr)
  (hd : L.take (k + 1) = L.take k ++ [d]) (hf : (L.take k).find? (sameId d.id) = some o) (hs : SameD o d) (hb : Below wr.heap.size wr w') : JS w5 w8 g r bL rs us A c A2 c2 AV cv L (k + 1) v outs w' := by
 have hm := find_id_some hf
 have hmem : plainD d ∈ (L.take k).map plainD := by rw [← (sameD_iff o d).1 hs]; exact List.mem_map_of_mem hm.1
 refine ⟨?_, ?_, ?_⟩
 ·have h1 := h.mem.below hb
  have e : kM L (k + 1) = kM L k := by unfold kM; rw [hd]; exact (mp_old hf).symm
  rw [e]; exact h1
 ·rw [hd, List.map_append, List.map_singleton, firsts_old _ _ ⟨plainD d, by simpa using hmem, rfl⟩]
  exact h.con
 ·rw [hd, List.map_append, List.map_singleton]
  exact keyOk_old h.ok hmem
theorem JS.new {w5 w8 : World} {g r bL : Nat} {rs : List Rg} {us : List ByteArray} {A : Option Addr} {c : Nat} {A2 : Option Addr} {c2 : Nat} {AV : Option Addr} {cv : Nat} {L : List De} {k : Nat} {v v' : Value} {outs : List De} {wr w' : World} {d o : De} (h : JS w5 w8 g r bL rs us A c A2 c2 AV cv L k v outs wr)
  (hd : L.take (k + 1) = L.take k ++ [d]) (hf : (L.take k).find? (sameId d.id) = none) (ho : plainD o = plainD d) (hm : JW w5 w8 g r bL rs us A c A2 c2 AV cv L (fun x => if x = d.id then some (deV d) else kM L k x) v' (outs ++ [o]) w') : JS w5 w8 g r bL rs us A c A2 c2 AV cv L (k + 1) v' (outs ++ [o]) w' := by
 have hn := find_id_none hf
 have hn2 : ∀ x ∈ (L.take k).map plainD, x.id ≠ (plainD d).id := fun x hx => by
  obtain ⟨q, hq, rfl⟩ := List.mem_map.1 hx
  exact hn q hq
 refine ⟨?_, ?_, ?_⟩
 ·have e : kM L (k + 1) = fun x => if x = d.id then some (deV d) else kM L k x := by unfold kM; rw [hd]; exact (mp_new hf).symm
  rw [e]; exact hm
 ·rw [hd, List.map_append, List.map_append, List.map_singleton, List.map_singleton, firsts_new _ _ (by simpa using hn2), h.con, ho]
 ·rw [hd, List.map_append, List.map_singleton]
  exact keyOk_new h.ok hn2
theorem deeds_ok {w : World} {A : Option Addr} {l : List De} (h : Des w A l) : ∀ e ∈ l, DeOk w e := fun e he => by
 obtain ⟨i, hi, rfl⟩ := List.getElem_of_mem he
 obtain ⟨b, o, _, _, hc⟩ := h (by omega)
 exact (hc i hi).2
theorem tMapD : Tryz.prog.underlying 47 = some (.map 9 54) := Tryz.underlying47
theorem zDeed (w : World) : (zeroValue 54).run Tryz.prog w = .ok (deV zDe) w := by kernel_rfl
theorem join_s (RA : Option Addr) (rc : Nat) (rs : List Rg) (UA : Option Addr) (uc : Nat) (us : List ByteArray) (DA : Option Addr) (dc : Nat) (ds : List De)
  (RA2 : Option Addr) (rc2 : Nat) (rs2 : List Rg) (UA2 : Option Addr) (uc2 : Nat) (us2 : List ByteArray) (DA2 : Option Addr) (dc2 : Nat) (ds2 : List De) (w : World)
  (hr : Rgs w RA rs) (hu : Strs w UA us) (hd : Des w DA ds) (hz : ∀ i (h : i < rs.length), (rs[i]).nm.size ≤ 9223372036854775807) (hz2 : ∀ i (h : i < us.length), (us[i]).size ≤ 9223372036854775807)
  (hr2 : Rgs w RA2 rs2) (hu2 : Strs w UA2 us2) (hd2 : Des w DA2 ds2) (hz3 : ∀ i (h : i < rs2.length), (rs2[i]).nm.size ≤ 9223372036854775807) (hz4 : ∀ i (h : i < us2.length), (us2[i]).size ≤ 9223372036854775807) :
  Calls Tryz.prog 8 #[.agg (tiC RA rc rs UA uc us DA dc ds), .agg (tiC RA2 rc2 rs2 UA2 uc2 us2 DA2 dc2 ds2)] w (GivesJ rs us ds rs2 us2 ds2 w) := by
 have HB : Hid (Below w.heap.size w (((w.alloc (.cells (tiC RA rc rs UA uc us DA dc ds) 26)).alloc (.cells (tiC RA2 rc2 rs2 UA2 uc2 us2 DA2 dc2 ds2) 26)).alloc (.cells #[.slice none 0 0, .slice none 0 0, .slice none 0 0] 26))) := (((Below.refl w.heap.size w).alloc (Nat.le_refl _) _).alloc (by simp) _).alloc (by simp; omega) _
 have HX : Hid (Bx (((w.alloc (.cells (tiC RA rc rs UA uc us DA dc ds) 26)).alloc (.cells (tiC RA2 rc2 rs2 UA2 uc2 us2 DA2 dc2 ds2) 26)).alloc (.cells #[.slice none 0 0, .slice none 0 0, .slice none 0 0] 26)) w.heap.size (tiC RA rc rs UA uc us DA dc ds) 26) := ((Bx.new _ _ _).alloc _).alloc _
 have HY : Hid (Bx (((w.alloc (.cells (tiC RA rc rs UA uc us DA dc ds) 26)).alloc (.cells (tiC RA2 rc2 rs2 UA2 uc2 us2 DA2 dc2 ds2) 26)).alloc (.cells #[.slice none 0 0, .slice none 0 0, .slice none 0 0] 26)) (w.heap.size + 1) (tiC RA2 rc2 rs2 UA2 uc2 us2 DA2 dc2 ds2) 26) := (Bx.new1 _ _ _ _).alloc _
 have HZ : Hid (Bx (((w.alloc (.cells (tiC RA rc rs UA uc us DA dc ds) 26)).alloc (.cells (tiC RA2 rc2 rs2 UA2 uc2 us2 DA2 dc2 ds2) 26)).alloc (.cells #[.slice none 0 0, .slice none 0 0, .slice none 0 0] 26)) (w.heap.size + 1 + 1) #[.slice none 0 0, .slice none 0 0, .slice none 0 0] 26) := Bx.new2 _ _ _ _ _
 obtain ⟨W, hW⟩ : ∃ W, W = ((w.alloc (.cells (tiC RA rc rs UA uc us DA dc ds) 26)).alloc (.cells (tiC RA2 rc2 rs2 UA2 uc2 us2 DA2 dc2 ds2) 26)).alloc (.cells #[.slice none 0 0, .slice none 0 0, .slice none 0 0] 26) := ⟨_, rfl⟩
 rw [← hW] at HB HX HY HZ
 have HCK := zq (CheckT_c RA rc rs UA uc us DA dc ds W (hr.below HB.out) (hu.below HB.out) (hd.below HB.out) hz hz2)
 go_enter Tryz.func8, Tryz.ntmps8
 iterate 17 go_step
 rw [← hW]
 clear hW
 have HR2 := zq (hr2.below HB.out)
 have HU2 := zq (hu2.below HB.out)
 have HD2 := zq (hd2.below HB.out)
 have HR := zq (hr.below HB.out)
 have HU := zq (hu.below HB.out)
 have HD := zq (hd.below HB.out)
 clear hr hu hd hr2 hu2 hd2
 have hsx := HX.out.lt
 have x0 := HX.out.cell (i := 0) rfl
 have x1 := HX.out.cell (i := 1) rfl
 have x2 := HX.out.cell (i := 2) rfl
 go_wp2_with fail
 with_reducible refine HCK.out.mono ?_
 rintro e w1 ⟨rfl, hb1⟩
 have HB1 := zq (below_trans HB.out hb1)
 have HX1 := zq (HX.out.below hb1)
 have HY1 := zq (HY.out.below hb1)
 have HZ1 := zq (HZ.out.below hb1)
 have HR1 := zq (HR.out.below hb1)
 have HU1 := zq (HU.out.below hb1)
 have HD1 := zq (HD.out.below hb1)
 have HR21 := zq (HR2.out.below hb1)
 have HU21 := zq (HU2.out.below hb1)
 have HD21 := zq (HD2.out.below hb1)
 clear hsx x0 x1 x2 hb1 HB HX HY HZ HR HU HD HR2 HU2 HD2 HCK
 by_cases hc1 : chkT rs us ds = 0
 case neg =>
  have hcb : (chkT rs us ds != 0) = true := by simpa using hc1
  have z0 := HZ1.out.cell (i := 0) rfl
  have z1 := HZ1.out.cell (i := 1) rfl
  have z2 := HZ1.out.cell (i := 2) rfl
  have f0 := HZ1.out.frozen 0
  have f1 := HZ1.out.frozen 1
  have f2 := HZ1.out.frozen 2
  have hsz := HZ1.out.lt
  have HNZ : Hid (chkT rs us ds ≠ 0) := hc1
  have HNO : Hid (JoinBad rs us ds rs2 us2 ds2 (chkT rs us ds)) := .inl ⟨hc1, rfl⟩
  clear hc1
  go_wp2
  refine bodyPost_ret (v := .tuple #[.agg #[.slice none 0 0, .slice none 0 0, .slice none 0 0], .int .i64 (chkT rs us ds)]) ?_ rfl ?_
  ·simp [results, Tryz.results8, go_sem, z0, z1, z2]
  ·exact GivesJ.bad HNZ.out HNO.out (below_set3 HB1.out (by omega) _ _ _)
 have HC1 := zq hc1
 rw [hc1]
 clear hc1
 have HCK := zq (CheckT_c RA2 rc2 rs2 UA2 uc2 us2 DA2 dc2 ds2 w1 HR21.out HU21.out HD21.out hz3 hz4)
 have hsy := HY1.out.lt
 have y0 := HY1.out.cell (i := 0) rfl
 have y1 := HY1.out.cell (i := 1) rfl
 have y2 := HY1.out.cell (i := 2) rfl
 go_wp2_with fail
 with_reducible refine HCK.out.mono ?_
 rintro e w2 ⟨rfl, hb2⟩
 have HB2 := zq (below_trans HB1.out hb2)
 have HX2 := zq (HX1.out.below hb2)
 have HY2 := zq (HY1.out.below hb2)
 have HZ2 := zq (HZ1.out.below hb2)
 have HR2 := zq (HR1.out.below hb2)
 have HU2 := zq (HU1.out.below hb2)
 have HD2 := zq (HD1.out.below hb2)
 have HR22 := zq (HR21.out.below hb2)
 have HU22 := zq (HU21.out.below hb2)
 have HD22 := zq (HD21.out.below hb2)
 clear hsy y0 y1 y2 hb2 HB1 HX1 HY1 HZ1 HR1 HU1 HD1 HR21 HU21 HD21 HCK
 have z0 := HZ2.out.cell (i := 0) rfl
 have z1 := HZ2.out.cell (i := 1) rfl
 have z2 := HZ2.out.cell (i := 2) rfl
 have f0 := HZ2.out.frozen 0
 have f1 := HZ2.out.frozen 1
 have f2 := HZ2.out.frozen 2
 have hsz := HZ2.out.lt
 by_cases hc2 : chkT rs2 us2 ds2 = 0
 case neg =>
  have hcb : (chkT rs2 us2 ds2 != 0) = true := by simpa using hc2
  have HNZ : Hid (chkT rs2 us2 ds2 ≠ 0) := hc2
  have HNO : Hid (JoinBad rs us ds rs2 us2 ds2 (chkT rs2 us2 ds2)) := .inr (.inl ⟨HC1.out, hc2, rfl⟩)
  clear hc2
  go_wp2
  refine bodyPost_ret (v := .tuple #[.agg #[.slice none 0 0, .slice none 0 0, .slice none 0 0], .int .i64 (chkT rs2 us2 ds2)]) ?_ rfl ?_
  ·simp [results, Tryz.results8, go_sem, z0, z1, z2]
  ·exact GivesJ.bad HNZ.out HNO.out (below_set3 HB2.out (by omega) _ _ _)
 have HC2 := zq hc2
 rw [hc2]
 clear hc2
 obtain ⟨hcr1, hul1, hdl1⟩ := chkT_zero HC1.out
 obtain ⟨hcr2, hul2, hdl2⟩ := chkT_zero HC2.out
 have HG1 := zq (good_of hcr1)
 have HG2 := zq (good_of hcr2)
 have hrl1 := HG1.out.len
 have hrl2 := HG2.out.len
 clear hcr1 hcr2
 have hsx := HX2.out.lt
 have hsy := HY2.out.lt
 have x0 := HX2.out.cell (i := 0) rfl
 have x1 := HX2.out.cell (i := 1) rfl
 have y0 := HY2.out.cell (i := 0) rfl
 have y1 := HY2.out.cell (i := 1) rfl
 have HNF : Hid (rs ≠ rs2 ∨ us ≠ us2 → JoinBad rs us ds rs2 us2 ds2 6) := fun h => .inr (.inr (.inl ⟨HC1.out, HC2.out, h, rfl⟩))
 go_wp2_with fail
 with_reducible refine (equalR_c RA RA2 rc rc2 rs rs2 w2 (by omega) (by omega) HR2.out HR22.out).mono ?_
 rintro x wx ⟨r, rfl, hrr, n, rfl⟩
 by_cases hrs : rs = rs2
 case neg =>
  have hrf : r = false := by
   cases hh : r with
   | false => rfl
   | true => exact absurd (hrr.1 hh) hrs
  subst hrf
  have HNO := zq (HNF.out (.inl hrs))
  clear hrr hrs
  go_wp2
  refine bodyPost_ret (v := .tuple #[.agg #[.slice none 0 0, .slice none 0 0, .slice none 0 0], .int .i64 6]) ?_ rfl ?_
  ·simp [results, Tryz.results8, go_sem, z0, z1, z2]
  ·exact GivesJ.bad (by decide) HNO.out (below_set3 (below_drewN HB2.out _) (by omega) _ _ _)
 have hrt : r = true := hrr.2 hrs
 subst hrt
 have HRS := zq hrs
 clear hrr hrs
 go_wp2_with fail
 with_reducible refine (equalS_c UA UA2 uc uc2 us us2 (w2.drewN n) (by omega) (by omega) (Rd1.drewN HU2.out n) (Rd1.drewN HU22.out n)).mono ?_
 rintro x wx ⟨r, rfl, hrr, n2, rfl⟩
 by_cases hus : us = us2
 case neg =>
  have hrf : r = false := by
   cases hh : r with
   | false => rfl
   | true => exact absurd (hrr.1 hh) hus
  subst hrf
  have HNO := zq (HNF.out (.inr hus))
  clear hrr hus
  go_wp2
  refine bodyPost_ret (v := .tuple #[.agg #[.slice none 0 0, .slice none 0 0, .slice none 0 0], .int .i64 6]) ?_ rfl ?_
  ·simp [results, Tryz.results8, go_sem, z0, z1, z2]
  ·exact GivesJ.bad (by decide) HNO.out (below_set3 (by first | exact below_drewN HB2.out _ | exact below_drewN (below_drewN HB2.out _) _) (by omega) _ _ _)
 have hrt : r = true := hrr.2 hus
 subst hrt
 have HUS := zq hus
 clear hrr hus HNF
 obtain ⟨w5, hw5⟩ : ∃ w5, w5 = (w2.drewN n).drewN n2 := ⟨_, rfl⟩
 rw [← hw5]
 have HB5w : Hid (Below w.heap.size w w5) := by show Below _ _ _; rw [hw5]; exact below_drewN (below_drewN HB2.out _) _
 have HX5 : Hid (Bx w5 w.heap.size (tiC RA rc rs UA uc us DA dc ds) 26) := by show Bx _ _ _ _; rw [hw5]; exact HX2.out
 have HY5 : Hid (Bx w5 (w.heap.size + 1) (tiC RA2 rc2 rs2 UA2 uc2 us2 DA2 dc2 ds2) 26) := by show Bx _ _ _ _; rw [hw5]; exact HY2.out
 have HZ5 : Hid (Bx w5 (w.heap.size + 1 + 1) #[.slice none 0 0, .slice none 0 0, .slice none 0 0] 26) := by show Bx _ _ _ _; rw [hw5]; exact HZ2.out
 have HR5 : Hid (Rgs w5 RA rs) := by show Rgs _ _ _; rw [hw5]; exact HR2.out
 have HU5 : Hid (Strs w5 UA us) := by show Strs _ _ _; rw [hw5]; exact HU2.out
 have HD5 : Hid (Des w5 DA ds) := HD2.out.below (by rw [hw5]; exact below_drewN (below_drewN (Below.refl _ _) _) _)
 have HD25 : Hid (Des w5 DA2 ds2) := HD22.out.below (by rw [hw5]; exact below_drewN (below_drewN (Below.refl _ _) _) _)
 clear hw5 z0 z1 z2 f0 f1 f2 hsz hsx hsy x0 x1 y0 y1 HB2 HX2 HY2 HZ2 HR2 HU2 HD2 HR22 HU22 HD22
 go_upto_region 9 with fail
 go_cut [8] (fun v wx => OutRel w5 rs us v wx)
 case first =>
  have x0 := HX5.out.cell (i := 0) rfl
  have x1 := HX5.out.cell (i := 1) rfl
  have x5 := HX5.out.lt
  have xn : ¬ (w5.heap.size = w.heap.size) := by omega
  go_region_held3 (fun w' => w'.cell? ⟨w.heap.size, 0, none⟩ = some (.slice RA rs.length rc) ∧ w'.cell? ⟨w.heap.size, 1, none⟩ = some (.slice UA us.length uc)) (first | (refine ⟨?_, ?_⟩ <;> with_reducible assumption) | go_keep)
   (first
    | ((go_at_call 22; (with_reducible refine (cloneR_c RA rc rs w5.drew (by omega) (Rd2.drew HR5.out)).mono ?_); rintro x w6 ⟨A6, c6, rfl, hb6, ho6⟩; have HX6 := zq (HX5.out.drew.below hb6); have HU6 := zq ((Rd1.drew HU5.out).below hb6); have HB6 := zq (below_trans (below_drewN (Below.refl w5.heap.size w5) 1) hb6); have e0 := HX6.out.cell (i := 0) rfl; have e1 := HX6.out.cell (i := 1) rfl; have es := HX6.out.lt; have en : ¬ (w6.heap.size = w.heap.size) := (by omega)))
    | ((go_at_call 22; (with_reducible refine (cloneR_c RA rc rs (w5.alloc (.cells #[.slice none 0 0, .slice none 0 0, .slice none 0 0] 26)).drew (by omega) (Rd2.drew (Rd2.alloc HR5.out _))).mono ?_); rintro x w6 ⟨A6, c6, rfl, hb6, ho6⟩; have HX6 := zq ((HX5.out.alloc (.cells #[.slice none 0 0, .slice none 0 0, .slice none 0 0] 26)).drew.below hb6); have HU6 := zq ((Rd1.drew (Rd1.alloc HU5.out (.cells #[.slice none 0 0, .slice none 0 0, .slice none 0 0] 26))).below hb6); have HB6 := zq (below_trans ((below_drewN (Below.refl w5.heap.size w5) 1).alloc (Nat.le_refl _) (.cells #[.slice none 0 0, .slice none 0 0, .slice none 0 0] 26)) hb6); have HN6 := zq ((Bx.new w5 #[.slice none 0 0, .slice none 0 0, .slice none 0 0] 26).drew.below hb6); have e0 := HX6.out.cell (i := 0) rfl; have e1 := HX6.out.cell (i := 1) rfl; have es := HX6.out.lt; have en : ¬ (w6.heap.size = w.heap.size) := (by omega)))
    | ((go_at_call 23; (with_reducible refine (cloneS_c UA uc us w6 (by omega) HU6.out).mono ?_); rintro x w7 ⟨A7, c7, rfl, hb7, ho7⟩; have HX7 := zq (HX6.out.below hb7); have HN7 := zq (HN6.out.below hb7); have n0 := HN7.out.cell (i := 0) rfl; have n1 := HN7.out.cell (i := 1) rfl; have n2 := HN7.out.cell (i := 2) rfl; have nf := HN7.out.frozen; have ns := HN7.out.lt; have HB7 := zq (below_trans HB6.out hb7); have g0 := HX7.out.cell (i := 0) rfl; have g1 := HX7.out.cell (i := 1) rfl; have gs := HX7.out.lt; have gn : ¬ (w7.heap.size = w.heap.size) := (by omega)))
    | ((go_at_call 23; (with_reducible refine (cloneS_c UA uc us w6 (by omega) HU6.out).mono ?_); rintro x w7 ⟨A7, c7, rfl, hb7, ho7⟩; have HX7 := zq (HX6.out.below hb7); have HB7 := zq (below_trans HB6.out hb7); have g0 := HX7.out.cell (i := 0) rfl; have g1 := HX7.out.cell (i := 1) rfl; have gs := HX7.out.lt; have gn : ¬ (w7.heap.size = w.heap.size) := (by omega)))
    | ((go_at_call 23; (with_reducible refine (cloneS_c UA uc us (w6.alloc (.cells #[.slice none 0 0, .slice none 0 0, .slice none 0 0] 26)) (by omega) (Rd1.alloc HU6.out _)).mono ?_); rintro x w7 ⟨A7, c7, rfl, hb7, ho7⟩; have HX7 := zq ((HX6.out.alloc (.cells #[.slice none 0 0, .slice none 0 0, .slice none 0 0] 26)).below hb7); have HN7 := zq ((Bx.new w6 #[.slice none 0 0, .slice none 0 0, .slice none 0 0] 26).below hb7); have n0 := HN7.out.cell (i := 0) rfl; have n1 := HN7.out.cell (i := 1) rfl; have n2 := HN7.out.cell (i := 2) rfl; have nf := HN7.out.frozen; have ns := HN7.out.lt; have HB7 := zq (below_trans (HB6.out.alloc HB6.out.size (.cells #[.slice none 0 0, .slice none 0 0, .slice none 0 0] 26)) hb7); have g0 := HX7.out.cell (i := 0) rfl; have g1 := HX7.out.cell (i := 1) rfl; have gs := HX7.out.lt; have gn : ¬ (w7.heap.size = w.heap.size) := (by omega))))
  ·go_wp2_with fail
   go_meet
   exact out_new ((ClK.of (below_drewN (Below.refl w5.heap.size w5) 1) ho6).below hb7) (ClK.of HB6.out ho7) HB7.out
  ·go_wp2_with fail
   go_meet
   exact out_set HN7.out HB6.out.size ((ClK.of (below_drewN (Below.refl w5.heap.size w5) 1) ho6).below ((((Below.refl _ _).alloc (Nat.le_refl _) _)).trans (hb7.mono (by simp)))) (ClK.of (HB6.out.alloc HB6.out.size _) ho7) HB7.out
  ·go_wp2_with fail
   go_meet
   exact out_set HN7.out (Nat.le_refl _) ((ClK.of ((below_drewN (Below.refl w5.heap.size w5) 1).alloc (Nat.le_refl _) _) ho6).below hb7) (ClK.of HB6.out ho7) HB7.out
 case rest =>
  obtain ⟨g, A6, c6, A7, c7, rfl, hge, hbo, hcl1, hcl2, hbw⟩ := hcut
  have HO := zq hbo
  have HCL1 := zq hcl1
  have HCL2 := zq hcl2
  have HBW := zq hbw
  have HX6 := zq (HX5.out.below hbw)
  have HY6 := zq (HY5.out.below hbw)
  have HZ6 := zq (HZ5.out.below hbw)
  have HB6 := zq (below_trans HB5w.out hbw)
  have HD6 := zq (HD5.out.below hbw)
  have HD26 := zq (HD25.out.below hbw)
  clear hbo hcl1 hcl2 hbw
  have hsx := HX6.out.lt
  have hsy := HY6.out.lt
  have x2 := HX6.out.cell (i := 2) rfl
  have y2 := HY6.out.cell (i := 2) rfl
  have hmm := @run_makeMap Tryz.prog
  go_wp2_with fail
  clear hmm
  have HBN : Hid (Below wc.heap.size wc ((wc.alloc (.map #[] 0)).alloc (.cells #[.slice DA ds.length dc, .slice DA2 ds2.length dc2] 24))) := ((Below.refl _ _).alloc (Nat.le_refl _) _).alloc (by simp) _
  have HBK : Hid (Bx ((wc.alloc (.map #[] 0)).alloc (.cells #[.slice DA ds.length dc, .slice DA2 ds2.length dc2] 24)) (wc.heap.size + 1) #[.slice DA ds.length dc, .slice DA2 ds2.length dc2] 24) := Bx.new1 _ _ _ _
  have HM : Hid (MapIs Value.string ((wc.alloc (.map #[] 0)).alloc (.cells #[.slice DA ds.length dc, .slice DA2 ds2.length dc2] 24)) wc.heap.size (fun _ => none)) := (MapIs.new _ _).alloc _
  obtain ⟨w7, hw7⟩ : ∃ w7, w7 = ((wc.alloc (.map #[] 0)).alloc (.cells #[.slice DA ds.length dc, .slice DA2 ds2.length dc2] 24)) := ⟨_, rfl⟩
  rw [← hw7] at HBN HBK HM ⊢
  clear hw7
  with_reducible refine (concatE_c (wc.heap.size + 1) DA DA2 dc dc2 ds ds2 w7 ⟨HBK.out.cell (i := 0) rfl, HBK.out.cell (i := 1) rfl⟩ (HD6.out.below HBN.out) (HD26.out.below HBN.out) ⟨hdl1, hdl2⟩).mono ?_
  rintro e w8 ⟨v, rfl, hov, hb8⟩
  have HV := zq hov
  have HB8 := zq (below_trans HBN.out hb8)
  have HM8 := zq (HM.out.below hb8)
  have HX8 := zq (HX6.out.below HB8.out)
  have HZ8 := zq (HZ6.out.below HB8.out)
  have HO8 := zq (HO.out.below HB8.out)
  have HC18 := zq (HCL1.out.below HB8.out)
  have HC28 := zq (HCL2.out.below HB8.out)
  have HW8 := zq (below_trans HBW.out HB8.out)
  have HT8 := zq (below_trans HB6.out HB8.out)
  clear hov hb8 hsx hsy x2 y2
  obtain ⟨L, hL⟩ : ∃ L, L = ds ++ ds2 := ⟨_, rfl⟩
  rw [← hL] at HV
  obtain ⟨rm, hrm⟩ : ∃ rm, rm = wc.heap.size := ⟨_, rfl⟩
  have hr5 : w5.heap.size ≤ rm := by rw [hrm]; exact HBW.out.size
  rw [← hrm] at HM8 ⊢
  clear hrm
  have HLE := zq hL
  have hLl : L.length ≤ 400 := by rw [hL]; simp; omega
  have HOKL : Hid (∀ e ∈ L, DeOk w5 e) := fun e he => by
   rw [hL] at he
   exact (List.mem_append.1 he).elim (fun h => deeds_ok HD5.out e h) (fun h => deeds_ok HD25.out e h)
  have HLN : Hid (∀ e ∈ L, e.ar.length ≤ 1000000000 ∧ e.us.length ≤ 1000000000 ∧ e.sh.length ≤ 1000000000) := fun e he => by
   rw [hL] at he
   exact (List.mem_append.1 he).elim (fun h => chkT_lens HC1.out e h) (fun h => chkT_lens HC2.out e h)
  clear hL
  obtain ⟨AV, cv, hv⟩ := own_slice HV.out
  subst hv
  have HCT := zq (slice_own_lt HV.out)
  have h58 : w5.heap.size ≤ w8.heap.size := HW8.out.size
  have hz5 : w.heap.size + 1 + 1 < w5.heap.size := HZ5.out.lt
  have HST : Hid (JS w5 w8 g rm w7.heap.size rs us A6 c6 A7 c7 AV cv L 0 (.slice none 0 0) [] w8) :=
   ⟨⟨HW8.out, Nat.le_refl _, HV.out, HO8.out, OwnL.nil _ _ _ _ _, by rw [kM_zero]; exact HM8.out, HC18.out, HC28.out, fun o ho => by cases ho⟩, rfl, fun a ha => by simp at ha⟩
  clear HV HO8 HM8 HC18 HC28 HX8 HT8 HX6 HY6 HZ6 HB6 HD6 HD26 HCL1 HCL2 HO HBW HBN HBK HM HW8 HB8
  go_wp2
  go_loopg [57] L.length (JRel w5 w8 g rm w7.heap.size rs us A6 c6 A7 c7 AV cv L)
  case atStart => exact ⟨0, .slice none 0 0, [], by omega, rfl, HST.out⟩
  clear HST HZ8
  case round =>
   obtain ⟨k, v, outs, hkm, rfl, hjs⟩ := hrel
   have HK := zq hkm
   have HJ := zq hjs
   have hk1 : k ≤ L.length := by omega
   clear hkm hjs
   by_cases hlt : k < L.length
   ·obtain ⟨q, o, hA, hc⟩ := cat_range HJ.out.mem.cat (by omega)
    subst hA
    obtain ⟨d, hdd⟩ : ∃ d, d = L[k] := ⟨_, rfl⟩
    have hrange := hc k hlt
    rw [← hdd] at hrange
    have HTK : Hid (L.take (k + 1) = L.take k ++ [d]) := by show _ = _; rw [hdd]; exact List.take_succ_eq_append_getElem hlt
    have hdm : d ∈ L := by rw [hdd]; exact List.getElem_mem hlt
    have HDM := zq hdm
    have HDOK := zq (HOKL.out d hdm)
    have HDL := zq (HLN.out d hdm)
    clear hdd hc hdm
    have hrg : wr.rangeAt q (o + k * 16) (deC d).toList := hrange
    clear hrange
    have HJ1 := zq (HJ.out.mem.below ((Below.refl wr.heap.size wr).alloc (Nat.le_refl _) (.cells (deC d) 54)))
    have hlk := run_lookup_map tMapD kStr zDeed HJ1.out.mp d.id true
    go_upto_region 13 with fail
    iterate 5 go_step
    refine wp_load_mid _ _ (by rfl) (q) (o + k * 16) (by rfl) (deC d).toList _ hrg Tryz.underlying54 rfl (by kernel_rfl) ?_
    clear hrg
    go_upto_region 14 with fail
    cases hfo : (L.take k).find? (sameId d.id) with
    | some od =>
     rw [show kM L k d.id = some (deV od) from congrArg (Option.map deV) hfo] at hlk
     simp only [if_true, Option.getD_some, Option.isSome_some] at hlk
     have HFO := zq hfo
     clear hfo
     go_upto_region 16 with fail
     obtain ⟨wb, hwb⟩ : ∃ wb, wb = (wr.alloc (.cells (deC d) 54)).alloc (.cells (deC od) 54) := ⟨_, rfl⟩
     rw [← hwb]
     have HBD : Hid (Bx wb wr.heap.size (deC d) 54) := by show Bx _ _ _ _; rw [hwb]; exact (Bx.new _ _ _).alloc _
     have HBO : Hid (Bx wb (wr.heap.size + 1) (deC od) 54) := by show Bx _ _ _ _; rw [hwb]; exact Bx.new1 _ _ _ _
     have HBB : Hid (Below wr.heap.size wr wb) := by show Below _ _ _; rw [hwb]; exact ((Below.refl wr.heap.size wr).alloc (Nat.le_refl _) _).alloc (by simp) _
     clear hwb hlk HJ1
     have HB5 := zq (below_trans HJ.out.mem.bel HBB.out)
     have HODM := zq (List.mem_of_mem_take (find_id_some HFO.out).1)
     have HOO := zq ((HOKL.out od HODM.out).below HB5.out)
     have HOD := zq (HDOK.out.below HB5.out)
     iterate 2 go_step
     refine wp_load_mid _ _ (by rfl) (wr.heap.size + 1) (0) (by rfl) (deC od).toList _ (rangeD HBO.out) Tryz.underlying54 rfl (by kernel_rfl) ?_
     iterate 2 go_step
     refine wp_load_mid _ _ (by rfl) (wr.heap.size) (0) (by rfl) (deC d).toList _ (rangeD HBD.out) Tryz.underlying54 rfl (by kernel_rfl) ?_
     go_wp2_with fail
     with_reducible refine (equal_c od d wb HOO.out HOD.out).mono ?_
     rintro e w9 ⟨rb, rfl, hrb, hb9⟩
     have HB9 := zq (below_trans HBB.out hb9)
     clear hb9 HBD HBO HOO HOD HBB HB5
     by_cases hsd : SameD od d
     case pos =>
      have hrt : rb = true := hrb.2 hsd
      subst hrt
      have HS := zq hsd
      clear hrb hsd
      go_wp2
      go_roundg (gk - 1)
      case measure => have := HK.out; omega
      case rel => exact ⟨k + 1, v, outs, by have := HK.out; omega, by go_num, HJ.out.old HTK.out HFO.out HS.out HB9.out⟩
     case neg =>
      have hrt : rb = false := by
       cases hh : rb with
       | false => rfl
       | true => exact absurd (hrb.1 hh) hsd
      subst hrt
      have HNK : Hid (JoinBad rs us ds rs2 us2 ds2 12) := .inr (.inr (.inr (.inl ⟨HC1.out, HC2.out, ⟨HRS.out, HUS.out⟩, by rw [← List.map_append, ← HLE.out]; exact not_keyOk HODM.out HDM.out (find_id_some HFO.out).2 hsd, rfl⟩)))
      have HB5 := zq (below_trans HJ.out.mem.bel HB9.out)
      have HZ9 := zq (HZ5.out.below HB5.out)
      have HBE := zq (below_trans HB5w.out HB5.out)
      have z0 := HZ9.out.cell (i := 0) rfl
      have z1 := HZ9.out.cell (i := 1) rfl
      have z2 := HZ9.out.cell (i := 2) rfl
      have f0 := HZ9.out.frozen 0
      have f1 := HZ9.out.frozen 1
      have f2 := HZ9.out.frozen 2
      have hsz := HZ9.out.lt
      clear hrb hsd
      go_wp2
      refine bodyPost_ret (v := .tuple #[.agg #[.slice none 0 0, .slice none 0 0, .slice none 0 0], .int .i64 12]) ?_ rfl ?_
      ·simp [results, Tryz.results8, go_sem, z0, z1, z2]
      ·exact GivesJ.bad (by decide) HNK.out (below_set3 HBE.out (by omega) _ _ _)
    | none =>
     rw [show kM L k d.id = none from congrArg (Option.map deV) hfo] at hlk
     simp only [if_true, Option.getD_none, Option.isSome_none] at hlk
     have HFO := zq hfo
     clear hfo
     go_upto_region 18 with fail
     obtain ⟨wb, hwb⟩ : ∃ wb, wb = (wr.alloc (.cells (deC d) 54)).alloc (.cells (deC zDe) 54) := ⟨_, rfl⟩
     rw [← hwb]
     have HBD : Hid (Bx wb wr.heap.size (deC d) 54) := by show Bx _ _ _ _; rw [hwb]; exact (Bx.new _ _ _).alloc _
     have HBO : Hid (Bx wb (wr.heap.size + 1) (deC zDe) 54) := by show Bx _ _ _ _; rw [hwb]; exact Bx.new1 _ _ _ _
     have HBB : Hid (Below wr.heap.size wr wb) := by show Below _ _ _; rw [hwb]; exact ((Below.refl wr.heap.size wr).alloc (Nat.le_refl _) _).alloc (by simp) _
     clear hwb hlk HJ1
     have HB5 := zq (below_trans HJ.out.mem.bel HBB.out)
     have HJB := zq (HJ.out.mem.below HBB.out)
     obtain ⟨wu, hup, hmu, hgu, hsu⟩ := run_update_map tMapD (keyT_string (P := Tryz.prog) (by kernel_rfl)) HJB.out.mp d.id (deV d)
     have HJU := zq (HJB.out.upd hr5 hmu hgu)
     have HBU : Hid (Bx wu wr.heap.size (deC d) 54) := by
      show wu.heap[wr.heap.size]? = _
      rw [hgu.block _ HBD.out.lt (by have := map_ne_cells HJB.out.mp HBD.out; simp; exact this)]
      exact HBD.out
     have HOD := zq (HDOK.out.below HJU.out.bel)
     have x0 := HBD.out.cell (i := 0) rfl
     have hsx := HBD.out.lt
     iterate 11 go_step
     refine wp_load_mid _ _ (by rfl) (wr.heap.size) (0) (by rfl) (deC d).toList _ (rangeD HBD.out) Tryz.underlying54 rfl (by kernel_rfl) ?_
     go_upto_region 19 with fail
     clear x0 hsx hmu hgu hsu hup HBD HBO HBB HJB HB5
     have hol := HJ.out.len
     refine wp_region_held_drew (S := fun w' => Bx w' wr.heap.size (deC d) 54) (by kernel_rfl) ?_ (fun hHeld => ?_)
     ·exact HBU.out.drew
     refine Dw.tk 0 ?_ rfl ?_ (by assumption) ?_
     rotate_left 1
     ·(intro w _; go_simp; try with_reducible rfl)
     simp only [List.getElem_toArray, List.getElem_cons_zero, Act.put, List.setIfInBounds_toArray, List.set_cons_zero, List.set_cons_succ]
     refine wpAnyH_take (i := 2) (v := deV d) rfl (by kernel_rfl) (by kernel_rfl) (by kernel_rfl) (fun _ _ _ h => h) ?_ (by assumption) ?_
     ·exact yields_deed (by kernel_rfl) _ (by rfl) wr.heap.size 0 (by rfl) d (fun w hw => rangeD hw)
     simp only [Dw.lay, Act.put]
     refine wpAnyH_ready (rs := [1, 3]) (by kernel_rfl) (by simp) ?_
     refine AllReadyH.cons rfl (fun K hK => ?_) (AllReadyH.cons rfl (fun K hK => ?_) AllReadyH.nil)
     ·clear hHeld
      have m2 := HJU.out.out.cell (i := 2) rfl
      have ms := HJU.out.out.lt
      go_simp
      clear m2 ms
      refine hK.out _ _ ?_ (fun hHeld => ?_)
      ·exact HBU.out.drew
      clear hK K
      try simp only [Dw.lay, Act.put]
      refine Dw.rd1 3 rfl (fun K hK => ?_)
      clear hHeld
      go_simp
      go_at_call 26
      with_reducible refine (own_c d wu.drew (HOD.out.below (below_drewN (Below.refl _ wu) 1)) HDL.out).mono ?_
      rintro x w6 ⟨A1, d1, A2, d2, A3, d3, rfl, h1, h2, h3, hb6⟩
      have hbu6 := below_trans (below_drewN (Below.refl wu.heap.size wu) 1) hb6
      have HJ6 := zq (HJU.out.below hbu6)
      have HB6 := zq (HBU.out.below hbu6)
      have HE6 : Hid (ElK w8.heap.size w6 (dOwn d A1 d1 A2 d2 A3 d3)) := ⟨h1.base HJU.out.size, h2.base HJU.out.size, h3.base HJU.out.size⟩
      have h86 := HJ6.out.size
      clear h1 h2 h3 hb6 hbu6
      try go_wp2_with fail
      refine hK.out _ _ ?_ (fun hHeld => ?_)
      ·exact HB6.out
      clear hK K
      try simp only [Dw.lay, Act.put]
      refine Dw.rd1 4 rfl (fun K hK => ?_)
      clear hHeld
      go_simp
      refine hK.out _ _ ?_ (fun hHeld => ?_)
      ·exact HB6.out.alloc _
      clear hK K
      try simp only [Dw.lay, Act.put]
      refine Dw.rd1 5 rfl (fun K hK => ?_)
      clear hHeld
      refine step_pushB (k := 16) (enc := eD) (by rfl) _ _ _ (by rfl) elKD w8.heap.size v outs (by rfl) (HJ6.out.own.alloc _) w6.heap.size 1 (dOwn d A1 d1 A2 d2 A3 d3) (by rfl) (heap_alloc_new w6 _) rfl rfl (oneD _) (by unfold maxLen; omega) (by omega) (by simp; omega) ?_
      intro g9 cap9 w9 ho9 hg9
      have HJA := zq (HJ6.out.below ((Below.refl _ w6).alloc (Nat.le_refl _) (.cells (deC (dOwn d A1 d1 A2 d2 A3 d3)) 54)))
      have HG9 := zq (HJA.out.mid hg9)
      have HB9 : Hid (Bx w9 wr.heap.size (deC d) 54) := by
       have hxa := HB6.out.alloc (.cells (deC (dOwn d A1 d1 A2 d2 A3 d3)) 54)
       show w9.heap[wr.heap.size]? = _
       rw [hg9.block _ hxa.lt (fun e => absurd (World.ownsRow.lt HJ.out.mem.own _ e.symm).2 (Nat.lt_irrefl _))]
       exact hxa
      have n2 := HG9.out.cell (i := 2) rfl
      have nf := HG9.out.frozen 2
      have ns := HG9.out.lt
      refine hK.out _ _ ?_ (fun hHeld => ?_)
      ·exact HB9.out
      clear hK K
      try simp only [Dw.lay, Act.put]
      refine Dw.rd1 6 rfl (fun K hK => ?_)
      clear hHeld
      go_simp
      refine hK.out _ _ ?_ (fun hHeld => ?_)
      ·exact HB9.out
      clear hK K
      try simp only [Dw.lay, Act.put]
      refine Dw.rd1 7 rfl (fun K hK => ?_)
      clear hHeld
      go_simp
      refine hK.out _ _ ?_ (fun hHeld => ?_)
      ·exact (Below.heap_setCell _ _ _ _ (fun e => cells_ne HB9.out HG9.out (by decide) e)).trans HB9.out
      clear hK K
      try simp only [Dw.lay, Act.put]
      refine wpAnyH_done (by kernel_rfl) ?_ _
      clear hHeld
      have HFIN : Hid (JW w5 w8 g rm w7.heap.size rs us A6 c6 A7 c7 (some ⟨q, o, none⟩) cv L (fun x => if x = d.id then some (deV d) else kM L k x) (.slice (some ⟨g9, 0, none⟩) (outs.length + 1) cap9) (outs ++ [dOwn d A1 d1 A2 d2 A3 d3]) (w9.setCell ⟨g, 2, none⟩ (.slice (some ⟨g9, 0, none⟩) (outs.length + 1) cap9))) := HJA.out.push h58 hge HCT.out (HE6.out.below ((Below.refl _ w6).alloc (Nat.le_refl _) _)) ho9 hg9
      clear hg9 ho9 n2 nf ns HG9 HB9 HJA HJ6 HB6 HE6
      go_wp2
      go_roundg (gk - 1)
      case measure => have := HK.out; omega
      case rel => exact ⟨k + 1, _, outs ++ [dOwn d A1 d1 A2 d2 A3 d3], by have := HK.out; omega, by go_num, HJ.out.new HTK.out HFO.out rfl HFIN.out⟩
     ·clear hHeld
      go_simp
      go_at_call 26
      with_reducible refine (own_c d wu.drew (HOD.out.below (below_drewN (Below.refl _ wu) 1)) HDL.out).mono ?_
      rintro x w6 ⟨A1, d1, A2, d2, A3, d3, rfl, h1, h2, h3, hb6⟩
      have hbu6 := below_trans (below_drewN (Below.refl wu.heap.size wu) 1) hb6
      have HJ6 := zq (HJU.out.below hbu6)
      have HB6 := zq (HBU.out.below hbu6)
      have HE6 : Hid (ElK w8.heap.size w6 (dOwn d A1 d1 A2 d2 A3 d3)) := ⟨h1.base HJU.out.size, h2.base HJU.out.size, h3.base HJU.out.size⟩
      have h86 := HJ6.out.size
      clear h1 h2 h3 hb6 hbu6
      try go_wp2_with fail
      refine hK.out _ _ ?_ (fun hHeld => ?_)
      ·exact HB6.out
      clear hK K
      try simp only [Dw.lay, Act.put]
      refine wpAnyH_ready (rs := [1, 4]) (by kernel_rfl) (by simp) ?_
      refine AllReadyH.cons rfl (fun K hK => ?_) (AllReadyH.cons rfl (fun K hK => ?_) AllReadyH.nil)
      ·clear hHeld
       have m2 := HJ6.out.out.cell (i := 2) rfl
       have ms := HJ6.out.out.lt
       go_simp
       clear m2 ms
       refine hK.out _ _ ?_ (fun hHeld => ?_)
       ·exact HB6.out
       clear hK K
       try simp only [Dw.lay, Act.put]
       refine Dw.rd1 4 rfl (fun K hK => ?_)
       clear hHeld
       go_simp
       refine hK.out _ _ ?_ (fun hHeld => ?_)
       ·exact HB6.out.alloc _
       clear hK K
       try simp only [Dw.lay, Act.put]
       refine Dw.rd1 5 rfl (fun K hK => ?_)
       clear hHeld
       refine step_pushB (k := 16) (enc := eD) (by rfl) _ _ _ (by rfl) elKD w8.heap.size v outs (by rfl) (HJ6.out.own.alloc _) w6.heap.size 1 (dOwn d A1 d1 A2 d2 A3 d3) (by rfl) (heap_alloc_new w6 _) rfl rfl (oneD _) (by unfold maxLen; omega) (by omega) (by simp; omega) ?_
       intro g9 cap9 w9 ho9 hg9
       have HJA := zq (HJ6.out.below ((Below.refl _ w6).alloc (Nat.le_refl _) (.cells (deC (dOwn d A1 d1 A2 d2 A3 d3)) 54)))
       have HG9 := zq (HJA.out.mid hg9)
       have HB9 : Hid (Bx w9 wr.heap.size (deC d) 54) := by
        have hxa := HB6.out.alloc (.cells (deC (dOwn d A1 d1 A2 d2 A3 d3)) 54)
        show w9.heap[wr.heap.size]? = _
        rw [hg9.block _ hxa.lt (fun e => absurd (World.ownsRow.lt HJ.out.mem.own _ e.symm).2 (Nat.lt_irrefl _))]
        exact hxa
       have n2 := HG9.out.cell (i := 2) rfl
       have nf := HG9.out.frozen 2
       have ns := HG9.out.lt
       refine hK.out _ _ ?_ (fun hHeld => ?_)
       ·exact HB9.out
       clear hK K
       try simp only [Dw.lay, Act.put]
       refine Dw.rd1 6 rfl (fun K hK => ?_)
       clear hHeld
       go_simp
       refine hK.out _ _ ?_ (fun hHeld => ?_)
       ·exact HB9.out
       clear hK K
       try simp only [Dw.lay, Act.put]
       refine Dw.rd1 7 rfl (fun K hK => ?_)
       clear hHeld
       go_simp
       refine hK.out _ _ ?_ (fun hHeld => ?_)
       ·exact (Below.heap_setCell _ _ _ _ (fun e => cells_ne HB9.out HG9.out (by decide) e)).trans HB9.out
       clear hK K
       try simp only [Dw.lay, Act.put]
       refine wpAnyH_done (by kernel_rfl) ?_ _
       clear hHeld
       have HFIN : Hid (JW w5 w8 g rm w7.heap.size rs us A6 c6 A7 c7 (some ⟨q, o, none⟩) cv L (fun x => if x = d.id then some (deV d) else kM L k x) (.slice (some ⟨g9, 0, none⟩) (outs.length + 1) cap9) (outs ++ [dOwn d A1 d1 A2 d2 A3 d3]) (w9.setCell ⟨g, 2, none⟩ (.slice (some ⟨g9, 0, none⟩) (outs.length + 1) cap9))) := HJA.out.push h58 hge HCT.out (HE6.out.below ((Below.refl _ w6).alloc (Nat.le_refl _) _)) ho9 hg9
       clear hg9 ho9 n2 nf ns HG9 HB9 HJA HJ6 HB6 HE6
       go_wp2
       go_roundg (gk - 1)
       case measure => have := HK.out; omega
       case rel => exact ⟨k + 1, _, outs ++ [dOwn d A1 d1 A2 d2 A3 d3], by have := HK.out; omega, by go_num, HJ.out.new HTK.out HFO.out rfl HFIN.out⟩
      ·clear hHeld
       go_simp
       refine hK.out _ _ ?_ (fun hHeld => ?_)
       ·exact HB6.out.alloc _
       clear hK K
       try simp only [Dw.lay, Act.put]
       refine Dw.rd1 1 rfl (fun K hK => ?_)
       clear hHeld
       have m2 := HJ6.out.out.cell (i := 2) rfl
       have ms := HJ6.out.out.lt
       go_simp
       clear m2 ms
       refine hK.out _ _ ?_ (fun hHeld => ?_)
       ·exact HB6.out.alloc _
       clear hK K
       try simp only [Dw.lay, Act.put]
       refine Dw.rd1 5 rfl (fun K hK => ?_)
       clear hHeld
       refine step_pushB (k := 16) (enc := eD) (by rfl) _ _ _ (by rfl) elKD w8.heap.size v outs (by rfl) (HJ6.out.own.alloc _) w6.heap.size 1 (dOwn d A1 d1 A2 d2 A3 d3) (by rfl) (heap_alloc_new w6 _) rfl rfl (oneD _) (by unfold maxLen; omega) (by omega) (by simp; omega) ?_
       intro g9 cap9 w9 ho9 hg9
       have HJA := zq (HJ6.out.below ((Below.refl _ w6).alloc (Nat.le_refl _) (.cells (deC (dOwn d A1 d1 A2 d2 A3 d3)) 54)))
       have HG9 := zq (HJA.out.mid hg9)
       have HB9 : Hid (Bx w9 wr.heap.size (deC d) 54) := by
        have hxa := HB6.out.alloc (.cells (deC (dOwn d A1 d1 A2 d2 A3 d3)) 54)
        show w9.heap[wr.heap.size]? = _
        rw [hg9.block _ hxa.lt (fun e => absurd (World.ownsRow.lt HJ.out.mem.own _ e.symm).2 (Nat.lt_irrefl _))]
        exact hxa
       have n2 := HG9.out.cell (i := 2) rfl
       have nf := HG9.out.frozen 2
       have ns := HG9.out.lt
       refine hK.out _ _ ?_ (fun hHeld => ?_)
       ·exact HB9.out
       clear hK K
       try simp only [Dw.lay, Act.put]
       refine Dw.rd1 6 rfl (fun K hK => ?_)
       clear hHeld
       go_simp
       refine hK.out _ _ ?_ (fun hHeld => ?_)
       ·exact HB9.out
       clear hK K
       try simp only [Dw.lay, Act.put]
       refine Dw.rd1 7 rfl (fun K hK => ?_)
       clear hHeld
       go_simp
       refine hK.out _ _ ?_ (fun hHeld => ?_)
       ·exact (Below.heap_setCell _ _ _ _ (fun e => cells_ne HB9.out HG9.out (by decide) e)).trans HB9.out
       clear hK K
       try simp only [Dw.lay, Act.put]
       refine wpAnyH_done (by kernel_rfl) ?_ _
       clear hHeld
       have HFIN : Hid (JW w5 w8 g rm w7.heap.size rs us A6 c6 A7 c7 (some ⟨q, o, none⟩) cv L (fun x => if x = d.id then some (deV d) else kM L k x) (.slice (some ⟨g9, 0, none⟩) (outs.length + 1) cap9) (outs ++ [dOwn d A1 d1 A2 d2 A3 d3]) (w9.setCell ⟨g, 2, none⟩ (.slice (some ⟨g9, 0, none⟩) (outs.length + 1) cap9))) := HJA.out.push h58 hge HCT.out (HE6.out.below ((Below.refl _ w6).alloc (Nat.le_refl _) _)) ho9 hg9
       clear hg9 ho9 n2 nf ns HG9 HB9 HJA HJ6 HB6 HE6
       go_wp2
       go_roundg (gk - 1)
       case measure => have := HK.out; omega
       case rel => exact ⟨k + 1, _, outs ++ [dOwn d A1 d1 A2 d2 A3 d3], by have := HK.out; omega, by go_num, HJ.out.new HTK.out HFO.out rfl HFIN.out⟩
   ·obtain rfl : k = L.length := by omega
    have hol := HJ.out.len
    have hcon := HJ.out.con
    have hok := HJ.out.ok
    rw [List.take_length] at hcon hok
    have HCON := zq hcon
    have HOKK := zq hok
    clear hcon hok
    have g0 := HJ.out.mem.out.cell (i := 0) rfl
    have g1 := HJ.out.mem.out.cell (i := 1) rfl
    have g2 := HJ.out.mem.out.cell (i := 2) rfl
    have gs := HJ.out.mem.out.lt
    go_wp2_with fail
    with_reducible refine (sortO_c v outs w8.heap.size wr HJ.out.mem.own (by omega)).mono ?_
    rintro e w9 ⟨rfl, S, hp, hs, ⟨A9, c9, hv9, hrd⟩, hg9⟩
    subst hv9
    obtain ⟨hb9, hk91, hk92, hel, hvb⟩ := HJ.out.mem.sorted h58 hg9
    have hSl : S.length = outs.length := hp.length_eq
    have HBX : Hid (Bx w9 g #[.slice A6 rs.length c6, .slice A7 us.length c7, .slice A9 S.length c9] 26) := by rw [hSl]; exact HJ.out.mem.mid hg9
    have HEL : Hid (∀ s ∈ S, ∃ d ∈ L, plainD s = plainD d ∧ ElK w8.heap.size w9 s) := fun s hs => by
     have h1 : s ∈ outs := hp.mem_iff.1 hs
     have h2 : plainD s ∈ L.map plainD := ((mem_firsts HOKK.out (plainD s)).1 (by rw [← HCON.out]; exact List.mem_map_of_mem h1)).1
     obtain ⟨d, hd, e⟩ := List.mem_map.1 h2
     exact ⟨d, hd, e.symm, hel s h1⟩
    have HVB : Hid (∀ b o, A9 = some ⟨b, o, none⟩ → w8.heap.size ≤ b ∧ b < w9.heap.size) := fun b o e => by
     have h1 := hvb b (by rw [e]; rfl)
     have h2 := slice_own_lt HJ.out.mem.own b (by rw [e]; rfl)
     have h3 := hg9.size
     omega
    have HDE9 : Hid (Des w9 A9 S) := des_of hrd fun s hs => by
     obtain ⟨d, hd, e, hk⟩ := HEL.out s hs
     exact dok_of (HOKL.out d hd) e hk
    have HJD : Hid (Joined (ds.map plainD) (ds2.map plainD) (S.map plainD)) := by
     refine ⟨?_, ?_⟩
     ·rw [← List.map_append, ← HLE.out, ← HCON.out]; exact hp.map _
     ·rw [List.pairwise_map]; exact hs
    have HKO : Hid (KeyOk De.id (ds.map plainD ++ ds2.map plainD)) := by show KeyOk _ _; rw [← List.map_append, ← HLE.out]; exact HOKK.out
    have HK1 := zq hk91
    have HK2 := zq hk92
    have HRD := zq hrd
    have HB9 := zq hb9
    have HCK := zq (CheckT_c A6 c6 rs A7 c7 us A9 c9 S w9 hk91.rd2 hk92.rd1 HDE9.out hz hz2)
    clear hk91 hk92 hrd hb9 hel hvb hp hs hg9 g0 g1 g2 gs hSl
    have g0 := HBX.out.cell (i := 0) rfl
    have g1 := HBX.out.cell (i := 1) rfl
    have g2 := HBX.out.cell (i := 2) rfl
    have gs := HBX.out.lt
    go_wp2_with fail
    with_reducible refine HCK.out.mono ?_
    rintro e w10 ⟨rfl, hb10⟩
    clear g0 g1 g2 gs
    have HB10 := zq hb10
    have HB5 := zq (below_trans HB9.out hb10)
    have HZ10 := zq (HZ5.out.below HB5.out)
    have HX10 := zq (HBX.out.below hb10)
    have HBE := zq (below_trans HB5w.out HB5.out)
    clear hb10 HCK HBX
    have z0 := HZ10.out.cell (i := 0) rfl
    have z1 := HZ10.out.cell (i := 1) rfl
    have z2 := HZ10.out.cell (i := 2) rfl
    have f0 := HZ10.out.frozen 0
    have f1 := HZ10.out.frozen 1
    have f2 := HZ10.out.frozen 2
    have hsz := HZ10.out.lt
    by_cases hcz : chkT rs us S = 0
    case neg =>
     have hcb : (chkT rs us S != 0) = true := by simpa using hcz
     have HNZ : Hid (chkT rs us S ≠ 0) := hcz
     have HNK : Hid (JoinBad rs us ds rs2 us2 ds2 (chkT rs us S)) := .inr (.inr (.inr (.inr ⟨HC1.out, HC2.out, ⟨HRS.out, HUS.out⟩, HKO.out, S.map plainD, HJD.out, by rw [chkT_plain]; exact hcz, (chkT_plain rs us S).symm⟩)))
     clear hcz
     go_wp2
     refine bodyPost_ret (v := .tuple #[.agg #[.slice none 0 0, .slice none 0 0, .slice none 0 0], .int .i64 (chkT rs us S)]) ?_ rfl ?_
     ·simp [results, Tryz.results8, go_sem, z0, z1, z2]
     ·exact GivesJ.bad HNZ.out HNK.out (below_set3 HBE.out (by omega) _ _ _)
    case pos =>
     have HCZ := zq hcz
     rw [hcz]
     clear hcz
     have g0 := HX10.out.cell (i := 0) rfl
     have g1 := HX10.out.cell (i := 1) rfl
     have g2 := HX10.out.cell (i := 2) rfl
     have gs := HX10.out.lt
     go_wp2
     refine bodyPost_ret (v := .tuple #[.agg #[.slice A6 rs.length c6, .slice A7 us.length c7, .slice A9 S.length c9], .int .i64 0]) ?_ rfl ?_
     ·simp [results, Tryz.results8, go_sem, z0, z1, z2]
     ·refine ⟨A6, c6, rs, A7, c7, us, A9, c9, S, 0, rfl, ⟨fun h => absurd rfl h, fun _ => ⟨HC1.out, HC2.out, HRS.out, HUS.out, HKO.out, rfl, rfl, HJD.out, HCZ.out⟩⟩, ?_, ?_, ?_, below_set3 HBE.out (by omega) _ _ _⟩
      ·exact ((((HK1.out.below HB10.out).set hz5 _).set hz5 _).set hz5 _).rd2
      ·exact ((((HK2.out.below HB10.out).set hz5 _).set hz5 _).set hz5 _).rd1
      ·have hz8 : w.heap.size + 1 + 1 < w8.heap.size := by omega
       refine des_of (rdk_keep HRD.out fun b o e => ?_) fun s hs => ?_
       ·obtain ⟨h1, h2⟩ := HVB.out b o e
        rw [Below.heap_setCell _ _ _ _ (show b ≠ w.heap.size + 1 + 1 by omega), Below.heap_setCell _ _ _ _ (show b ≠ w.heap.size + 1 + 1 by omega), Below.heap_setCell _ _ _ _ (show b ≠ w.heap.size + 1 + 1 by omega)]
        exact HB10.out.block b h2
       ·obtain ⟨d, hd, e, hk⟩ := HEL.out s hs
        exact dok_of (HOKL.out d hd) e ((((hk.below HB10.out).set hz8 _).set hz8 _).set hz8 _)
end Go.Proofs.YtlcfgejaeecclaaGreatDoor
