/- Parts of the proof, joined: Package right: values of a deed that divides (its walks printed by gen. -/
import Derived.Test.YtlcfgejaeecclaaGreatDoorZq11
set_option maxRecDepth 100000
set_option maxHeartbeats 8000000
namespace Go.Proofs.YtlcfgejaeecclaaGreatDoor
open Go.RowKit Dw
def divV (d : De) : Int :=
 if (d.kd = 1 ∧ isNm d.th = false) ∨ (d.kd = 5 ∧ isNm d.fr = false) then 5 else if dayB d.bg = false then 1 else shFull d
theorem values_1 (ci : Nat) (A : Option Addr) (c r1 r2 g1 g2 : Nat) (AL : Option Addr) (cL : Nat) (l : List Rg) (uA : Option Addr) (uc : Nat) (us : List ByteArray) (m2 m3 m4 m5 : Nat) (p d : De) (f2 f3 : ByteArray → Option Value) (w : World)
  (hk : d.kd = 1) (hc : Bx w ci (ckC A c r1 r2 g1 g2 AL cL l uA uc us m2 m3 m4 m5 p) 110) (hw : WR w A r1 r2 g1 g2 AL l) (hu : Strs w uA us) (hd : DeOk w d) (h2 : MapIs Value.string w m2 f2) (h3 : MapIs Value.string w m3 f3) :
  Calls Tryz.prog 82 #[.pointer (some ⟨ci, 0, none⟩), deV d, .agg #[.bool true, .bool false, .bool false, .bool false, .bool false, .bool false, .bool false, .bool true, .bool false]] w (GivesB (.int .i64 (divV d)) w) := by
 generalize hres : divV d = res
 have HR := zq hres
 clear hres
 have HV := zq (VS.start w ci #[.bool true, .bool false, .bool false, .bool false, .bool false, .bool false, .bool false, .bool true, .bool false] A c r1 r2 g1 g2 AL cL l uA uc us m2 m3 m4 m5 p d f2 f3 hc hw hu hd h2 h3)
 clear hc hw hu hd h2 h3
 obtain ⟨W, hW⟩ : ∃ W, W = (w.alloc (.cells (deC d) 54)).alloc (.cells #[.bool true, .bool false, .bool false, .bool false, .bool false, .bool false, .bool false, .bool true, .bool false] 68) := ⟨_, rfl⟩
 rw [← hW] at HV
 go_enter Tryz.func82, Tryz.ntmps82
 go_wp2_with fail
 rw [← hW]
 clear hW
 have hsz := HV.out.fx.lt
 have x3 := HV.out.dx.cell (i := 3) rfl
 have x12 := HV.out.dx.cell (i := 12) rfl
 have y0 := HV.out.fx.cell (i := 0) rfl
 have y1 := HV.out.fx.cell (i := 1) rfl
 have y2 := HV.out.fx.cell (i := 2) rfl
 have y3 := HV.out.fx.cell (i := 3) rfl
 have y4 := HV.out.fx.cell (i := 4) rfl
 have y5 := HV.out.fx.cell (i := 5) rfl
 have y6 := HV.out.fx.cell (i := 6) rfl
 have y7 := HV.out.fx.cell (i := 7) rfl
 have y8 := HV.out.fx.cell (i := 8) rfl
 have hz := HV.out.dok.strs.2.1
 go_wp2_with fail
 with_reducible refine (isName_c d.th _ hz).mono ?_
 rintro e w2 ⟨rfl, hb2⟩
 have HV2 := zq (HV.out.below hb2)
 clear hsz x3 x12 y0 y1 y2 y3 y4 y5 y6 y7 y8
 clear hb2 HV
 cases hnm : isNm d.th with
 | false =>
  have HS : Hid (res = 5) := by
   show _ = _
   rw [← HR.out]; unfold divV; rw [hk]; simp [hnm]
  clear hnm HR hk
  have hsz := HV2.out.fx.lt
  have x3 := HV2.out.dx.cell (i := 3) rfl
  have x12 := HV2.out.dx.cell (i := 12) rfl
  have y0 := HV2.out.fx.cell (i := 0) rfl
  have y1 := HV2.out.fx.cell (i := 1) rfl
  have y2 := HV2.out.fx.cell (i := 2) rfl
  have y3 := HV2.out.fx.cell (i := 3) rfl
  have y4 := HV2.out.fx.cell (i := 4) rfl
  have y5 := HV2.out.fx.cell (i := 5) rfl
  have y6 := HV2.out.fx.cell (i := 6) rfl
  have y7 := HV2.out.fx.cell (i := 7) rfl
  have y8 := HV2.out.fx.cell (i := 8) rfl
  go_wp2
  go_ret
  exact GivesB.mk (vint HS.out.symm) HV2.out.bel
 | true =>
  have HR1 : Hid ((if dayB d.bg = false then (1 : Int) else shFull d) = res) := by
   show _ = _
   rw [← HR.out]; unfold divV; rw [hk]; simp [hnm]
  clear hnm HR hk
  have HDY := zq (fun W' => isDay_c d.bg W')
  have hsz := HV2.out.fx.lt
  have x3 := HV2.out.dx.cell (i := 3) rfl
  have x12 := HV2.out.dx.cell (i := 12) rfl
  have y0 := HV2.out.fx.cell (i := 0) rfl
  have y1 := HV2.out.fx.cell (i := 1) rfl
  have y2 := HV2.out.fx.cell (i := 2) rfl
  have y3 := HV2.out.fx.cell (i := 3) rfl
  have y4 := HV2.out.fx.cell (i := 4) rfl
  have y5 := HV2.out.fx.cell (i := 5) rfl
  have y6 := HV2.out.fx.cell (i := 6) rfl
  have y7 := HV2.out.fx.cell (i := 7) rfl
  have y8 := HV2.out.fx.cell (i := 8) rfl
  go_wp2_with fail
  with_reducible refine (HDY.out _).mono ?_
  rintro e w3 ⟨rfl, rfl⟩
  cases hb : dayB d.bg with
  | false =>
   have HS : Hid (res = 1) := by
    show _ = _
    rw [← HR1.out, if_pos hb]
   clear hb HR1
   go_wp2
   go_ret
   exact GivesB.mk (vint HS.out.symm) HV2.out.bel
  | true =>
   have HS : Hid (res = shFull d) := by
    show _ = _
    rw [← HR1.out, if_neg (by rw [hb]; simp)]
   have HSH := zq (checkShares_c d w2 HV2.out.dok)
   clear hb HR1 HDY
   have x0 := HV2.out.dx.cell (i := 0) rfl
   have x1 := HV2.out.dx.cell (i := 1) rfl
   have x2 := HV2.out.dx.cell (i := 2) rfl
   have x4 := HV2.out.dx.cell (i := 4) rfl
   have x5 := HV2.out.dx.cell (i := 5) rfl
   have x6 := HV2.out.dx.cell (i := 6) rfl
   have x7 := HV2.out.dx.cell (i := 7) rfl
   have x8 := HV2.out.dx.cell (i := 8) rfl
   have x9 := HV2.out.dx.cell (i := 9) rfl
   have x10 := HV2.out.dx.cell (i := 10) rfl
   have x11 := HV2.out.dx.cell (i := 11) rfl
   have x13 := HV2.out.dx.cell (i := 13) rfl
   have x14 := HV2.out.dx.cell (i := 14) rfl
   have x15 := HV2.out.dx.cell (i := 15) rfl
   go_wp2_with fail
   with_reducible refine HSH.out.mono ?_
   rintro e w4 ⟨rfl, hb4⟩
   have HV4 := zq (HV2.out.below hb4)
   clear hsz x0 x1 x2 x3 x4 x5 x6 x7 x8 x9 x10 x11 x12 x13 x14 x15 y0 y1 y2 y3 y4 y5 y6 y7 y8
   clear hb4 HV2 HSH
   have hsz := HV4.out.fx.lt
   have y0 := HV4.out.fx.cell (i := 0) rfl
   have y1 := HV4.out.fx.cell (i := 1) rfl
   have y2 := HV4.out.fx.cell (i := 2) rfl
   have y3 := HV4.out.fx.cell (i := 3) rfl
   have y4 := HV4.out.fx.cell (i := 4) rfl
   have y5 := HV4.out.fx.cell (i := 5) rfl
   have y6 := HV4.out.fx.cell (i := 6) rfl
   have y7 := HV4.out.fx.cell (i := 7) rfl
   have y8 := HV4.out.fx.cell (i := 8) rfl
   by_cases hz : shFull d = 0
   ·rw [hz] at HS ⊢
    clear hz
    go_wp2
    go_ret
    exact GivesB.mk (vint HS.out.symm) HV4.out.bel
   ·have hzb : (shFull d != 0) = true := by simpa using hz
    clear hz
    go_wp2
    go_ret
    exact GivesB.mk (vint HS.out.symm) HV4.out.bel
theorem values_5 (ci : Nat) (A : Option Addr) (c r1 r2 g1 g2 : Nat) (AL : Option Addr) (cL : Nat) (l : List Rg) (uA : Option Addr) (uc : Nat) (us : List ByteArray) (m2 m3 m4 m5 : Nat) (p d : De) (f2 f3 : ByteArray → Option Value) (w : World)
  (hk : d.kd = 5) (hc : Bx w ci (ckC A c r1 r2 g1 g2 AL cL l uA uc us m2 m3 m4 m5 p) 110) (hw : WR w A r1 r2 g1 g2 AL l) (hu : Strs w uA us) (hd : DeOk w d) (h2 : MapIs Value.string w m2 f2) (h3 : MapIs Value.string w m3 f3) :
  Calls Tryz.prog 82 #[.pointer (some ⟨ci, 0, none⟩), deV d, .agg #[.bool false, .bool true, .bool false, .bool false, .bool false, .bool false, .bool false, .bool true, .bool false]] w (GivesB (.int .i64 (divV d)) w) := by
 generalize hres : divV d = res
 have HR := zq hres
 clear hres
 have HV := zq (VS.start w ci #[.bool false, .bool true, .bool false, .bool false, .bool false, .bool false, .bool false, .bool true, .bool false] A c r1 r2 g1 g2 AL cL l uA uc us m2 m3 m4 m5 p d f2 f3 hc hw hu hd h2 h3)
 clear hc hw hu hd h2 h3
 obtain ⟨W, hW⟩ : ∃ W, W = (w.alloc (.cells (deC d) 54)).alloc (.cells #[.bool false, .bool true, .bool false, .bool false, .bool false, .bool false, .bool false, .bool true, .bool false] 68) := ⟨_, rfl⟩
 rw [← hW] at HV
 go_enter Tryz.func82, Tryz.ntmps82
 go_wp2_with fail
 rw [← hW]
 clear hW
 have hsz := HV.out.fx.lt
 have x4 := HV.out.dx.cell (i := 4) rfl
 have x12 := HV.out.dx.cell (i := 12) rfl
 have y0 := HV.out.fx.cell (i := 0) rfl
 have y1 := HV.out.fx.cell (i := 1) rfl
 have y2 := HV.out.fx.cell (i := 2) rfl
 have y3 := HV.out.fx.cell (i := 3) rfl
 have y4 := HV.out.fx.cell (i := 4) rfl
 have y5 := HV.out.fx.cell (i := 5) rfl
 have y6 := HV.out.fx.cell (i := 6) rfl
 have y7 := HV.out.fx.cell (i := 7) rfl
 have y8 := HV.out.fx.cell (i := 8) rfl
 have hz := HV.out.dok.strs.2.2.1
 go_wp2_with fail
 with_reducible refine (isName_c d.fr _ hz).mono ?_
 rintro e w2 ⟨rfl, hb2⟩
 have HV2 := zq (HV.out.below hb2)
 clear hsz x4 x12 y0 y1 y2 y3 y4 y5 y6 y7 y8
 clear hb2 HV
 cases hnm : isNm d.fr with
 | false =>
  have HS : Hid (res = 5) := by
   show _ = _
   rw [← HR.out]; unfold divV; rw [hk]; simp [hnm]
  clear hnm HR hk
  have hsz := HV2.out.fx.lt
  have x4 := HV2.out.dx.cell (i := 4) rfl
  have x12 := HV2.out.dx.cell (i := 12) rfl
  have y0 := HV2.out.fx.cell (i := 0) rfl
  have y1 := HV2.out.fx.cell (i := 1) rfl
  have y2 := HV2.out.fx.cell (i := 2) rfl
  have y3 := HV2.out.fx.cell (i := 3) rfl
  have y4 := HV2.out.fx.cell (i := 4) rfl
  have y5 := HV2.out.fx.cell (i := 5) rfl
  have y6 := HV2.out.fx.cell (i := 6) rfl
  have y7 := HV2.out.fx.cell (i := 7) rfl
  have y8 := HV2.out.fx.cell (i := 8) rfl
  go_wp2
  go_ret
  exact GivesB.mk (vint HS.out.symm) HV2.out.bel
 | true =>
  have HR1 : Hid ((if dayB d.bg = false then (1 : Int) else shFull d) = res) := by
   show _ = _
   rw [← HR.out]; unfold divV; rw [hk]; simp [hnm]
  clear hnm HR hk
  have HDY := zq (fun W' => isDay_c d.bg W')
  have hsz := HV2.out.fx.lt
  have x4 := HV2.out.dx.cell (i := 4) rfl
  have x12 := HV2.out.dx.cell (i := 12) rfl
  have y0 := HV2.out.fx.cell (i := 0) rfl
  have y1 := HV2.out.fx.cell (i := 1) rfl
  have y2 := HV2.out.fx.cell (i := 2) rfl
  have y3 := HV2.out.fx.cell (i := 3) rfl
  have y4 := HV2.out.fx.cell (i := 4) rfl
  have y5 := HV2.out.fx.cell (i := 5) rfl
  have y6 := HV2.out.fx.cell (i := 6) rfl
  have y7 := HV2.out.fx.cell (i := 7) rfl
  have y8 := HV2.out.fx.cell (i := 8) rfl
  go_wp2_with fail
  with_reducible refine (HDY.out _).mono ?_
  rintro e w3 ⟨rfl, rfl⟩
  cases hb : dayB d.bg with
  | false =>
   have HS : Hid (res = 1) := by
    show _ = _
    rw [← HR1.out, if_pos hb]
   clear hb HR1
   go_wp2
   go_ret
   exact GivesB.mk (vint HS.out.symm) HV2.out.bel
  | true =>
   have HS : Hid (res = shFull d) := by
    show _ = _
    rw [← HR1.out, if_neg (by rw [hb]; simp)]
   have HSH := zq (checkShares_c d w2 HV2.out.dok)
   clear hb HR1 HDY
   have x0 := HV2.out.dx.cell (i := 0) rfl
   have x1 := HV2.out.dx.cell (i := 1) rfl
   have x2 := HV2.out.dx.cell (i := 2) rfl
   have x3 := HV2.out.dx.cell (i := 3) rfl
   have x5 := HV2.out.dx.cell (i := 5) rfl
   have x6 := HV2.out.dx.cell (i := 6) rfl
   have x7 := HV2.out.dx.cell (i := 7) rfl
   have x8 := HV2.out.dx.cell (i := 8) rfl
   have x9 := HV2.out.dx.cell (i := 9) rfl
   have x10 := HV2.out.dx.cell (i := 10) rfl
   have x11 := HV2.out.dx.cell (i := 11) rfl
   have x13 := HV2.out.dx.cell (i := 13) rfl
   have x14 := HV2.out.dx.cell (i := 14) rfl
   have x15 := HV2.out.dx.cell (i := 15) rfl
   go_wp2_with fail
   with_reducible refine HSH.out.mono ?_
   rintro e w4 ⟨rfl, hb4⟩
   have HV4 := zq (HV2.out.below hb4)
   clear hsz x0 x1 x2 x3 x4 x5 x6 x7 x8 x9 x10 x11 x12 x13 x14 x15 y0 y1 y2 y3 y4 y5 y6 y7 y8
   clear hb4 HV2 HSH
   have hsz := HV4.out.fx.lt
   have y0 := HV4.out.fx.cell (i := 0) rfl
   have y1 := HV4.out.fx.cell (i := 1) rfl
   have y2 := HV4.out.fx.cell (i := 2) rfl
   have y3 := HV4.out.fx.cell (i := 3) rfl
   have y4 := HV4.out.fx.cell (i := 4) rfl
   have y5 := HV4.out.fx.cell (i := 5) rfl
   have y6 := HV4.out.fx.cell (i := 6) rfl
   have y7 := HV4.out.fx.cell (i := 7) rfl
   have y8 := HV4.out.fx.cell (i := 8) rfl
   by_cases hz : shFull d = 0
   ·rw [hz] at HS ⊢
    clear hz
    go_wp2
    go_ret
    exact GivesB.mk (vint HS.out.symm) HV4.out.bel
   ·have hzb : (shFull d != 0) = true := by simpa using hz
    clear hz
    go_wp2
    go_ret
    exact GivesB.mk (vint HS.out.symm) HV4.out.bel
def restF (d : De) : Int := if dayB d.bg = false ∨ dayB d.en = false then 1 else if d.en ≤ d.bg then 8 else 0
def giftF2 (l : List Rg) (us : List ByteArray) (d : De) : Int :=
 if isNm d.th = false ∨ isNm d.fr = false ∨ isNm d.to_ = false then 5
 else if d.fr = d.to_ then 12
 else if parF d ≠ 0 then parF d
 else if placeF l us d ≠ 0 then placeF l us d else restF d
theorem giftF_two (l : List Rg) (us : List ByteArray) (d : De) : giftF l us d = giftF2 l us d := by
 unfold giftF giftF2 placeF restF
 by_cases h1 : chkA l d.ar = 0
 ·by_cases h2 : leavesOf l d.ar = [] ∨ d.us = []
  ·simp [h1, h2]
  ·simp [h1, h2]
 ·simp [h1]
theorem values_3 (ci : Nat) (A : Option Addr) (c r1 r2 g1 g2 : Nat) (AL : Option Addr) (cL : Nat) (l : List Rg) (uA : Option Addr) (uc : Nat) (us : List ByteArray) (m2 m3 m4 m5 : Nat) (p d : De) (f2 f3 : ByteArray → Option Value) (w : World)
  (hk : d.kd = 3) (g : GoodR l) (hul : us.length ≤ 1000000) (hc : Bx w ci (ckC A c r1 r2 g1 g2 AL cL l uA uc us m2 m3 m4 m5 p) 110) (hw : WR w A r1 r2 g1 g2 AL l) (hu : Strs w uA us) (hd : DeOk w d) (h2 : MapIs Value.string w m2 f2) (h3 : MapIs Value.string w m3 f3) :
  Calls Tryz.prog 82 #[.pointer (some ⟨ci, 0, none⟩), deV d, .agg #[.bool true, .bool true, .bool true, .bool false, .bool true, .bool true, .bool true, .bool false, .bool false]] w (GivesB (.int .i64 (giftF2 l us d)) w) := by
 generalize hres : giftF2 l us d = res
 have HR := zq hres
 clear hres
 have HV := zq (VS.start w ci #[.bool true, .bool true, .bool true, .bool false, .bool true, .bool true, .bool true, .bool false, .bool false] A c r1 r2 g1 g2 AL cL l uA uc us m2 m3 m4 m5 p d f2 f3 hc hw hu hd h2 h3)
 clear hc hw hu hd h2 h3
 obtain ⟨W, hW⟩ : ∃ W, W = (w.alloc (.cells (deC d) 54)).alloc (.cells #[.bool true, .bool true, .bool true, .bool false, .bool true, .bool true, .bool true, .bool false, .bool false] 68) := ⟨_, rfl⟩
 rw [← hW] at HV
 go_enter Tryz.func82, Tryz.ntmps82
 go_wp2_with fail
 rw [← hW]
 clear hW
 have hsz := HV.out.fx.lt
 have x3 := HV.out.dx.cell (i := 3) rfl
 have x4 := HV.out.dx.cell (i := 4) rfl
 have x5 := HV.out.dx.cell (i := 5) rfl
 have y0 := HV.out.fx.cell (i := 0) rfl
 have y1 := HV.out.fx.cell (i := 1) rfl
 have y2 := HV.out.fx.cell (i := 2) rfl
 have y3 := HV.out.fx.cell (i := 3) rfl
 have y4 := HV.out.fx.cell (i := 4) rfl
 have y5 := HV.out.fx.cell (i := 5) rfl
 have y6 := HV.out.fx.cell (i := 6) rfl
 have y7 := HV.out.fx.cell (i := 7) rfl
 have y8 := HV.out.fx.cell (i := 8) rfl
 have hz := HV.out.dok.strs.2.1
 go_wp2_with fail
 with_reducible refine (isName_c d.th _ hz).mono ?_
 rintro e w2 ⟨rfl, hb2⟩
 have HV2 := zq (HV.out.below hb2)
 clear hsz x3 x4 x5 y0 y1 y2 y3 y4 y5 y6 y7 y8 hz
 clear hb2 HV
 cases hnm0 : isNm d.th with
 | false =>
  have hor : isNm d.th = false ∨ isNm d.fr = false ∨ isNm d.to_ = false := .inl hnm0
  have hsz := HV2.out.fx.lt
  have x3 := HV2.out.dx.cell (i := 3) rfl
  have x4 := HV2.out.dx.cell (i := 4) rfl
  have x5 := HV2.out.dx.cell (i := 5) rfl
  have y0 := HV2.out.fx.cell (i := 0) rfl
  have y1 := HV2.out.fx.cell (i := 1) rfl
  have y2 := HV2.out.fx.cell (i := 2) rfl
  have y3 := HV2.out.fx.cell (i := 3) rfl
  have y4 := HV2.out.fx.cell (i := 4) rfl
  have y5 := HV2.out.fx.cell (i := 5) rfl
  have y6 := HV2.out.fx.cell (i := 6) rfl
  have y7 := HV2.out.fx.cell (i := 7) rfl
  have y8 := HV2.out.fx.cell (i := 8) rfl
  have HS : Hid (res = 5) := by
   show _ = _
   rw [← HR.out]; unfold giftF2; rw [if_pos hor]
  clear hor HR hnm0
  go_wp2
  go_ret
  exact GivesB.mk (vint HS.out.symm) HV2.out.bel
 | true =>
  have hsz := HV2.out.fx.lt
  have x3 := HV2.out.dx.cell (i := 3) rfl
  have x4 := HV2.out.dx.cell (i := 4) rfl
  have x5 := HV2.out.dx.cell (i := 5) rfl
  have y0 := HV2.out.fx.cell (i := 0) rfl
  have y1 := HV2.out.fx.cell (i := 1) rfl
  have y2 := HV2.out.fx.cell (i := 2) rfl
  have y3 := HV2.out.fx.cell (i := 3) rfl
  have y4 := HV2.out.fx.cell (i := 4) rfl
  have y5 := HV2.out.fx.cell (i := 5) rfl
  have y6 := HV2.out.fx.cell (i := 6) rfl
  have y7 := HV2.out.fx.cell (i := 7) rfl
  have y8 := HV2.out.fx.cell (i := 8) rfl
  have hz := HV2.out.dok.strs.2.2.1
  go_wp2_with fail
  with_reducible refine (isName_c d.fr _ hz).mono ?_
  rintro e w3 ⟨rfl, hb3⟩
  have HV3 := zq (HV2.out.below hb3)
  clear hsz x3 x4 x5 y0 y1 y2 y3 y4 y5 y6 y7 y8 hz
  clear hb3 HV2
  cases hnm1 : isNm d.fr with
  | false =>
   have hor : isNm d.th = false ∨ isNm d.fr = false ∨ isNm d.to_ = false := .inr (.inl hnm1)
   have hsz := HV3.out.fx.lt
   have x3 := HV3.out.dx.cell (i := 3) rfl
   have x4 := HV3.out.dx.cell (i := 4) rfl
   have x5 := HV3.out.dx.cell (i := 5) rfl
   have y0 := HV3.out.fx.cell (i := 0) rfl
   have y1 := HV3.out.fx.cell (i := 1) rfl
   have y2 := HV3.out.fx.cell (i := 2) rfl
   have y3 := HV3.out.fx.cell (i := 3) rfl
   have y4 := HV3.out.fx.cell (i := 4) rfl
   have y5 := HV3.out.fx.cell (i := 5) rfl
   have y6 := HV3.out.fx.cell (i := 6) rfl
   have y7 := HV3.out.fx.cell (i := 7) rfl
   have y8 := HV3.out.fx.cell (i := 8) rfl
   have HS : Hid (res = 5) := by
    show _ = _
    rw [← HR.out]; unfold giftF2; rw [if_pos hor]
   clear hor HR hnm0 hnm1
   go_wp2
   go_ret
   exact GivesB.mk (vint HS.out.symm) HV3.out.bel
  | true =>
   have hsz := HV3.out.fx.lt
   have x3 := HV3.out.dx.cell (i := 3) rfl
   have x4 := HV3.out.dx.cell (i := 4) rfl
   have x5 := HV3.out.dx.cell (i := 5) rfl
   have y0 := HV3.out.fx.cell (i := 0) rfl
   have y1 := HV3.out.fx.cell (i := 1) rfl
   have y2 := HV3.out.fx.cell (i := 2) rfl
   have y3 := HV3.out.fx.cell (i := 3) rfl
   have y4 := HV3.out.fx.cell (i := 4) rfl
   have y5 := HV3.out.fx.cell (i := 5) rfl
   have y6 := HV3.out.fx.cell (i := 6) rfl
   have y7 := HV3.out.fx.cell (i := 7) rfl
   have y8 := HV3.out.fx.cell (i := 8) rfl
   have hz := HV3.out.dok.strs.2.2.2.1
   go_wp2_with fail
   with_reducible refine (isName_c d.to_ _ hz).mono ?_
   rintro e w4 ⟨rfl, hb4⟩
   have HV4 := zq (HV3.out.below hb4)
   clear hsz x3 x4 x5 y0 y1 y2 y3 y4 y5 y6 y7 y8 hz
   clear hb4 HV3
   cases hnm2 : isNm d.to_ with
   | false =>
    have hor : isNm d.th = false ∨ isNm d.fr = false ∨ isNm d.to_ = false := .inr (.inr hnm2)
    have hsz := HV4.out.fx.lt
    have x3 := HV4.out.dx.cell (i := 3) rfl
    have x4 := HV4.out.dx.cell (i := 4) rfl
    have x5 := HV4.out.dx.cell (i := 5) rfl
    have y0 := HV4.out.fx.cell (i := 0) rfl
    have y1 := HV4.out.fx.cell (i := 1) rfl
    have y2 := HV4.out.fx.cell (i := 2) rfl
    have y3 := HV4.out.fx.cell (i := 3) rfl
    have y4 := HV4.out.fx.cell (i := 4) rfl
    have y5 := HV4.out.fx.cell (i := 5) rfl
    have y6 := HV4.out.fx.cell (i := 6) rfl
    have y7 := HV4.out.fx.cell (i := 7) rfl
    have y8 := HV4.out.fx.cell (i := 8) rfl
    have HS : Hid (res = 5) := by
     show _ = _
     rw [← HR.out]; unfold giftF2; rw [if_pos hor]
    clear hor HR hnm0 hnm1 hnm2
    go_wp2
    go_ret
    exact GivesB.mk (vint HS.out.symm) HV4.out.bel
   | true =>
    have HR1 : Hid ((if d.fr = d.to_ then (12 : Int) else if parF d ≠ 0 then parF d else if placeF l us d ≠ 0 then placeF l us d else restF d) = res) := by
     show _ = _
     have hn : ¬ (isNm d.th = false ∨ isNm d.fr = false ∨ isNm d.to_ = false) := by rw [hnm0, hnm1, hnm2]; simp
     rw [← HR.out]; unfold giftF2; rw [if_neg hn]
    clear hnm0 hnm1 hnm2 HR
    by_cases hft : d.fr = d.to_
    ·have hfb : (d.fr.toList == d.to_.toList) = true := beq_of_eq hft
     have hsz := HV4.out.fx.lt
     have x3 := HV4.out.dx.cell (i := 3) rfl
     have x4 := HV4.out.dx.cell (i := 4) rfl
     have x5 := HV4.out.dx.cell (i := 5) rfl
     have y0 := HV4.out.fx.cell (i := 0) rfl
     have y1 := HV4.out.fx.cell (i := 1) rfl
     have y2 := HV4.out.fx.cell (i := 2) rfl
     have y3 := HV4.out.fx.cell (i := 3) rfl
     have y4 := HV4.out.fx.cell (i := 4) rfl
     have y5 := HV4.out.fx.cell (i := 5) rfl
     have y6 := HV4.out.fx.cell (i := 6) rfl
     have y7 := HV4.out.fx.cell (i := 7) rfl
     have y8 := HV4.out.fx.cell (i := 8) rfl
     have HS : Hid (res = 12) := by
      show _ = _
      rw [← HR1.out, if_pos hft]
     clear hft HR1
     go_wp2
     go_ret
     exact GivesB.mk (vint HS.out.symm) HV4.out.bel
    have hfb : (d.fr.toList == d.to_.toList) = false := beq_of_ne hft
    have HR2 : Hid ((if parF d ≠ 0 then parF d else if placeF l us d ≠ 0 then placeF l us d else restF d) = res) := by
     show _ = _
     rw [← HR1.out, if_neg hft]
    clear hft HR1
    have hpf : parF d = 0 := by
     unfold parF; rw [if_pos (by omega)]
    have HR3 : Hid ((if placeF l us d ≠ 0 then placeF l us d else restF d) = res) := by
     show _ = _
     have hn : ¬ parF d ≠ 0 := fun h => h hpf
     rw [← HR2.out, if_neg hn]
    clear hpf HR2 hk
    have x4 := HV4.out.dx.cell (i := 4) rfl
    have x5 := HV4.out.dx.cell (i := 5) rfl
    have HPL := zq (place_c ci A c r1 r2 g1 g2 AL cL l uA uc us m2 m3 m4 m5 p d w4 HV4.out.ck g HV4.out.wrl HV4.out.st hul HV4.out.dok)
    have hsz := HV4.out.fx.lt
    have x0 := HV4.out.dx.cell (i := 0) rfl
    have x1 := HV4.out.dx.cell (i := 1) rfl
    have x2 := HV4.out.dx.cell (i := 2) rfl
    have x3 := HV4.out.dx.cell (i := 3) rfl
    have x4 := HV4.out.dx.cell (i := 4) rfl
    have x5 := HV4.out.dx.cell (i := 5) rfl
    have x6 := HV4.out.dx.cell (i := 6) rfl
    have x7 := HV4.out.dx.cell (i := 7) rfl
    have x8 := HV4.out.dx.cell (i := 8) rfl
    have x9 := HV4.out.dx.cell (i := 9) rfl
    have x10 := HV4.out.dx.cell (i := 10) rfl
    have x11 := HV4.out.dx.cell (i := 11) rfl
    have x12 := HV4.out.dx.cell (i := 12) rfl
    have x13 := HV4.out.dx.cell (i := 13) rfl
    have x14 := HV4.out.dx.cell (i := 14) rfl
    have x15 := HV4.out.dx.cell (i := 15) rfl
    have y0 := HV4.out.fx.cell (i := 0) rfl
    have y1 := HV4.out.fx.cell (i := 1) rfl
    have y2 := HV4.out.fx.cell (i := 2) rfl
    have y3 := HV4.out.fx.cell (i := 3) rfl
    have y4 := HV4.out.fx.cell (i := 4) rfl
    have y5 := HV4.out.fx.cell (i := 5) rfl
    have y6 := HV4.out.fx.cell (i := 6) rfl
    have y7 := HV4.out.fx.cell (i := 7) rfl
    have y8 := HV4.out.fx.cell (i := 8) rfl
    go_wp2_with fail
    with_reducible refine HPL.out.mono ?_
    rintro e w4p ⟨rfl, hbp⟩
    have HV5 := zq (HV4.out.below hbp)
    clear hsz x0 x1 x2 x3 x4 x5 x6 x7 x8 x9 x10 x11 x12 x13 x14 x15 y0 y1 y2 y3 y4 y5 y6 y7 y8
    clear hbp HV4 HPL
    by_cases hpz : placeF l us d = 0
    case neg =>
     have hpb : (placeF l us d != 0) = true := by simpa using hpz
     have HS : Hid (res = placeF l us d) := by
      show _ = _
      rw [← HR3.out, if_pos hpz]
     clear HR3 hpz
     go_wp2
     go_ret
     exact GivesB.mk (vint HS.out.symm) HV5.out.bel
    have HRP : Hid (restF d = res) := by
     show _ = _
     rw [← HR3.out, if_neg (fun h => h hpz)]
    rw [hpz]
    clear hpz HR3
    have HDY := zq (fun n W' => isDay_c n W')
    have hsz := HV5.out.fx.lt
    have x11 := HV5.out.dx.cell (i := 11) rfl
    have x12 := HV5.out.dx.cell (i := 12) rfl
    have x13 := HV5.out.dx.cell (i := 13) rfl
    have y0 := HV5.out.fx.cell (i := 0) rfl
    have y1 := HV5.out.fx.cell (i := 1) rfl
    have y2 := HV5.out.fx.cell (i := 2) rfl
    have y3 := HV5.out.fx.cell (i := 3) rfl
    have y4 := HV5.out.fx.cell (i := 4) rfl
    have y5 := HV5.out.fx.cell (i := 5) rfl
    have y6 := HV5.out.fx.cell (i := 6) rfl
    have y7 := HV5.out.fx.cell (i := 7) rfl
    have y8 := HV5.out.fx.cell (i := 8) rfl
    go_wp2_with fail
    with_reducible refine (HDY.out _ _).mono ?_
    rintro e w4qa ⟨rfl, rfl⟩
    cases hb1 : dayB d.bg with
    | false =>
     have HS : Hid (res = 1) := by
      show _ = _
      rw [← HRP.out]; unfold restF; rw [if_pos (.inl hb1)]
     clear hb1 HRP HDY
     go_wp2
     go_ret
     exact GivesB.mk (vint HS.out.symm) HV5.out.bel
    | true =>
     go_wp2_with fail
     with_reducible refine (HDY.out _ _).mono ?_
     rintro e w4qb ⟨rfl, rfl⟩
     cases hb2 : dayB d.en with
     | false =>
      have HS : Hid (res = 1) := by
       show _ = _
       rw [← HRP.out]; unfold restF; rw [if_pos (.inr hb2)]
      clear hb1 hb2 HRP HDY
      go_wp2
      go_ret
      exact GivesB.mk (vint HS.out.symm) HV5.out.bel
     | true =>
      have HRZ : Hid ((if d.en ≤ d.bg then (8 : Int) else 0) = res) := by
       show _ = _
       have hn : ¬ (dayB d.bg = false ∨ dayB d.en = false) := by rw [hb1, hb2]; simp
       rw [← HRP.out]; unfold restF; rw [if_neg hn]
      clear hb1 hb2 HDY HRP
      by_cases hle : d.en ≤ d.bg
      ·have hleb : decide (d.en ≤ d.bg) = true := decide_eq_true hle
       have HS : Hid (res = 8) := by
        show _ = _
        rw [← HRZ.out, if_pos hle]
       clear HRZ
       go_wp2
       go_ret
       exact GivesB.mk (vint HS.out.symm) HV5.out.bel
      ·have hleb : decide (d.en ≤ d.bg) = false := decide_eq_false hle
       have HS : Hid (res = 0) := by
        show _ = _
        rw [← HRZ.out, if_neg hle]
       clear HRZ
       go_wp2
       go_ret
       exact GivesB.mk (vint HS.out.symm) HV5.out.bel
end Go.Proofs.YtlcfgejaeecclaaGreatDoor
