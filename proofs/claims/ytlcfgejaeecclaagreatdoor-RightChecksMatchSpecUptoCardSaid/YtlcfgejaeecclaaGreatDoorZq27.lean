/- The reference's checkGift. The reference's checkDeed. -/
import Derived.Test.YtlcfgejaeecclaaGreatDoorZq26
import Derived.Test.YtlcfgejaeecclaaGreatDoorZq20
set_option maxRecDepth 100000
set_option maxHeartbeats 8000000
namespace Go.Proofs.YtlcfgejaeecclaaGreatDoor
open Go.RowKit Dw
structure GS (w : World) (RA : Option Addr) (rc : Nat) (rs : List Rg) (UA : Option Addr) (uc : Nat) (us : List ByteArray) (DA : Option Addr) (dc : Nat) (ds : List De) (d : De) (W : World) : Prop where
 bel : Below w.heap.size w W
 ti : Bx W w.heap.size (tiC RA rc rs UA uc us DA dc ds) 26
 de : Bx W (w.heap.size + 1) (deC d) 54
section
variable {w W W' : World} {RA : Option Addr} {rc : Nat} {rs : List Rg} {UA : Option Addr} {uc : Nat} {us : List ByteArray} {DA : Option Addr} {dc : Nat} {ds : List De} {d : De}
theorem GS.below (h : GS w RA rc rs UA uc us DA dc ds d W) (hb : Below W.heap.size W W') : GS w RA rc rs UA uc us DA dc ds d W' := ⟨below_trans h.bel hb, h.ti.below hb, h.de.below hb⟩
theorem GS.drewN (h : GS w RA rc rs UA uc us DA dc ds d W) (n : Nat) : GS w RA rc rs UA uc us DA dc ds d (W.drewN n) := h.below (below_drewN (Below.refl _ _) n)
theorem GS.drew (h : GS w RA rc rs UA uc us DA dc ds d W) : GS w RA rc rs UA uc us DA dc ds d W.drew := h.drewN 1
theorem GS.alloc (h : GS w RA rc rs UA uc us DA dc ds d W) (o : Obj) : GS w RA rc rs UA uc us DA dc ds d (W.alloc o) := h.below ((Below.refl _ _).alloc (Nat.le_refl _) o)
end
theorem chkA_lenC {l : List Rg} {a : List Ar} (h : chkA l a = 0) : a.length ≤ 100 := by
 unfold chkA at h
 split at h
 ·cases h
 ·omega
def giftU (us : List ByteArray) (d : De) : Int := if useF us d.us ≠ 0 then useF us d.us else if dayB d.bg = false ∨ dayB d.en = false then 1 else if d.en ≤ d.bg then 8 else 0
def giftP (rs : List Rg) (us : List ByteArray) (d : De) : Int := if chkA rs d.ar ≠ 0 then chkA rs d.ar else if leavesOf rs d.ar = [] ∨ d.us = [] then 9 else giftU us d
theorem giftF_eq (rs : List Rg) (us : List ByteArray) (d : De) : giftF rs us d = if isNm d.th = false ∨ isNm d.fr = false ∨ isNm d.to_ = false then 5 else if d.fr = d.to_ then 12 else if parF d ≠ 0 then parF d else giftP rs us d := rfl
def GURel (w : World) (RA : Option Addr) (rc : Nat) (rs : List Rg) (UA : Option Addr) (uc : Nat) (us : List ByteArray) (DA : Option Addr) (dc : Nat) (ds : List De) (d : De) (m : Nat) (i : Value) (wr : World) : Prop :=
 GS w RA rc rs UA uc us DA dc ds d wr ∧ ∃ k : Nat, k + m = d.us.length ∧ i = .int .i64 k ∧ ∀ j, j < k → useFault us d.us j = none
theorem checkGiftR_c (RA : Option Addr) (rc : Nat) (rs : List Rg) (UA : Option Addr) (uc : Nat) (us : List ByteArray) (DA : Option Addr) (dc : Nat) (ds : List De) (d : De) (w : World) (g : GoodR rs) (hr : Rgs w RA rs) (hu : Strs w UA us) (hul : us.length ≤ 1000000) (hd : DeOk w d) :
  Calls Tryz.prog 85 #[.agg (tiC RA rc rs UA uc us DA dc ds), deV d] w (GivesB (.int .i64 (giftF rs us d)) w) := by
 generalize hres : giftF rs us d = res
 rw [giftF_eq] at hres
 have HR := zq hres
 clear hres
 have HD := zq hd
 clear hd
 have HRG := zq hr
 have HU := zq hu
 clear hr hu
 obtain ⟨z1, z2, z3, z4, z5, z6⟩ := HD.out.strs
 have hn1 := fun W => IsNameR_c d.th W z2
 have hn2 := fun W => IsNameR_c d.fr W z3
 have hn3 := fun W => IsNameR_c d.to_ W z4
 have HST0 : Hid (GS w RA rc rs UA uc us DA dc ds d ((w.alloc (.cells (tiC RA rc rs UA uc us DA dc ds) 26)).alloc (.cells (deC d) 54))) :=
  ⟨((Below.refl w.heap.size w).alloc (Nat.le_refl _) _).alloc (by simp) _, (Bx.new _ _ _).alloc _, Bx.new1 _ _ _ _⟩
 obtain ⟨W, hW⟩ : ∃ W, W = (w.alloc (.cells (tiC RA rc rs UA uc us DA dc ds) 26)).alloc (.cells (deC d) 54) := ⟨_, rfl⟩
 rw [← hW] at HST0
 go_enter Tryz.func85, Tryz.ntmps85
 go_upto_region 1 with fail
 rw [← hW]
 clear hW
 have y3 := HST0.out.de.cell (i := 3) rfl
 have y4 := HST0.out.de.cell (i := 4) rfl
 have y5 := HST0.out.de.cell (i := 5) rfl
 have ys := HST0.out.de.lt
 cases h1 : isNm d.th with
 | false =>
  rw [h1] at hn1
  have HN1 := zq hn1
  have HS : Hid (res = 5) := by show _ = _; rw [← HR.out, if_pos (.inl h1)]
  clear h1 hn1 hn2 hn3
  go_wp2_with fail
  with_reducible refine (HN1.out _).mono ?_
  rintro e w1 ⟨rfl, rfl⟩
  go_wp2
  go_ret
  exact GivesB.mk (vint HS.out.symm) HST0.out.bel
 | true =>
 rw [h1] at hn1
 have HN1 := zq hn1
 cases h2 : isNm d.fr with
 | false =>
  rw [h2] at hn2
  have HN2 := zq hn2
  have HS : Hid (res = 5) := by show _ = _; rw [← HR.out, if_pos (.inr (.inl h2))]
  clear h1 h2 hn1 hn2 hn3
  go_wp2_with fail
  with_reducible refine (HN1.out _).mono ?_
  rintro e w1 ⟨rfl, rfl⟩
  go_wp2_with fail
  with_reducible refine (HN2.out _).mono ?_
  rintro e w2 ⟨rfl, rfl⟩
  go_wp2
  go_ret
  exact GivesB.mk (vint HS.out.symm) HST0.out.bel
 | true =>
 rw [h2] at hn2
 have HN2 := zq hn2
 cases h3 : isNm d.to_ with
 | false =>
  rw [h3] at hn3
  have HN3 := zq hn3
  have HS : Hid (res = 5) := by show _ = _; rw [← HR.out, if_pos (.inr (.inr h3))]
  clear h1 h2 h3 hn1 hn2 hn3
  go_wp2_with fail
  with_reducible refine (HN1.out _).mono ?_
  rintro e w1 ⟨rfl, rfl⟩
  go_wp2_with fail
  with_reducible refine (HN2.out _).mono ?_
  rintro e w2 ⟨rfl, rfl⟩
  go_wp2_with fail
  with_reducible refine (HN3.out _).mono ?_
  rintro e w3 ⟨rfl, rfl⟩
  go_wp2
  go_ret
  exact GivesB.mk (vint HS.out.symm) HST0.out.bel
 | true =>
 rw [h3] at hn3
 have HN3 := zq hn3
 have HR1 : Hid ((if d.fr = d.to_ then 12 else if parF d ≠ 0 then parF d else giftP rs us d) = res) := by
  show _ = _
  have hh := HR.out
  rwa [if_neg (by rw [h1, h2, h3]; simp)] at hh
 clear h1 h2 h3 hn1 hn2 hn3 HR
 go_wp2_with fail
 with_reducible refine (HN1.out _).mono ?_
 rintro e w1 ⟨rfl, rfl⟩
 go_wp2_with fail
 with_reducible refine (HN2.out _).mono ?_
 rintro e w2 ⟨rfl, rfl⟩
 go_wp2_with fail
 with_reducible refine (HN3.out _).mono ?_
 rintro e w3 ⟨rfl, rfl⟩
 clear HN1 HN2 HN3
 by_cases hft : d.fr = d.to_
 ·have HS : Hid (res = 12) := by show _ = _; rw [← HR1.out, if_pos hft]
  have q1 := beq_of_eq hft
  clear hft
  go_wp2
  go_ret
  exact GivesB.mk (vint HS.out.symm) HST0.out.bel
 have q1 := beq_of_ne hft
 have HR2 : Hid ((if parF d ≠ 0 then parF d else giftP rs us d) = res) := by
  show _ = _
  have hh := HR1.out
  rwa [if_neg hft] at hh
 clear hft HR1
 have y2 : _ = some (Value.int .i64 d.kd) := HST0.out.de.cell (i := 2) rfl
 by_cases hk2 : d.kd = 2
 case' neg =>
  have k2 : (d.kd == 2) = false := by simpa using hk2
  have HR3 : Hid (giftP rs us d = res) := by
   show _ = _
   have hh := HR2.out
   rwa [if_neg (fun h => h (by unfold parF; rw [if_pos hk2]))] at hh
  have HSTc := HST0
  clear HST0 HR2 hk2
  go_upto_region 12 with fail
 case' pos =>
  have k2 : (d.kd == 2) = true := by simpa using hk2
  have y6 := HST0.out.de.cell (i := 6) rfl
  have y7 := HST0.out.de.cell (i := 7) rfl
  go_wp2_with fail
  with_reducible refine (chkRatioR_c d.nu d.de _ z5 z6).mono ?_
  rintro e w4 ⟨rfl, hb4⟩
  have HST1 := zq (HST0.out.below hb4)
  clear y2 y3 y4 y5 y6 y7 ys hb4 HST0
  by_cases hr : ratF d.nu d.de = 0
  case' neg =>
   have HS : Hid (res = ratF d.nu d.de) := by
    show _ = _
    have e : parF d = ratF d.nu d.de := by unfold parF; rw [if_neg (fun h => h hk2), if_pos hr]
    rw [← HR2.out, e, if_pos hr]
   have hrb2 : (ratF d.nu d.de != 0) = true := by simpa using hr
   clear hr
   go_wp2
   go_ret
   exact GivesB.mk (vint HS.out.symm) HST1.out.bel
  have HP : Hid (parF d = if posB d.nu = false ∨ valS d.de < valS (absN d.nu) then 1 else 0) := by
   show _ = _
   unfold parF; rw [if_neg (fun h => h hk2), if_neg (fun h => h hr)]
  obtain ⟨p1, p2, p3, p4, p5⟩ := ratF_zero hr
  have HLN : Hid ((words BT (valS (absN d.nu))).length ≤ 500) := words_dec5 (numB_all p1).1 p4
  have HLD : Hid ((words BT (valS d.de)).length ≤ 500) := words_dec5 (numB_all p2).1 p5
  have HDP : Hid (0 < valS d.de) := den_pos p2 p3
  have HFR := zq (Of_cT d.nu d.de w4 (numB_all p1).1 p4 (numB_all p2).1 p5)
  have y6 := HST1.out.de.cell (i := 6) rfl
  have y7 := HST1.out.de.cell (i := 7) rfl
  rw [hr]
  clear p1 p2 p3 p4 p5 hr
  go_wp2_with fail
  with_reducible refine HFR.out.mono ?_
  rintro e w5 ⟨A5, c5, A6, c6, rfl, h5, h6, hb5⟩
  have HST2 := zq (HST1.out.below hb5)
  clear y6 y7 hb5 HST1 HFR
  obtain ⟨nv, hnv⟩ : ∃ nv, valS (absN d.nu) = nv := ⟨_, rfl⟩
  obtain ⟨dv, hdv⟩ : ∃ dv, valS d.de = dv := ⟨_, rfl⟩
  rw [hnv, hdv] at HP
  rw [hnv] at HLN
  rw [hdv] at HLD HDP
  rw [hnv] at h5
  rw [hdv] at h6
  rw [hnv, hdv]
  have HNV := zq hnv
  clear hnv hdv
  have HXB : Hid (Bx (w5.alloc (.cells (nuC (negB d.nu) A5 c5 nv A6 c6 dv) 180)) w5.heap.size (nuC (negB d.nu) A5 c5 nv A6 c6 dv) 180) := Bx.new _ _ _
  have HST3 := zq (HST2.out.alloc (.cells (nuC (negB d.nu) A5 c5 nv A6 c6 dv) 180))
  have H5 := zq (h5.alloc (.cells (nuC (negB d.nu) A5 c5 nv A6 c6 dv) 180))
  have H6 := zq (h6.alloc (.cells (nuC (negB d.nu) A5 c5 nv A6 c6 dv) 180))
  clear h5 h6 HST2
  go_upto_region 10 with fail
  obtain ⟨W5, hW5⟩ : ∃ W5, W5 = w5.alloc (.cells (nuC (negB d.nu) A5 c5 nv A6 c6 dv) 180) := ⟨_, rfl⟩
  rw [← hW5] at HXB HST3 H5 H6
  try rw [← hW5]
  clear hW5
  cases hng : negB d.nu
  case' true =>
   have HS : Hid (res = 1) := by
    show _ = _
    have e : parF d = 1 := by rw [HP.out, if_pos (.inl (by unfold posB; rw [hng]; rfl))]
    rw [← HR2.out, e]; rfl
   have n0 : W5.cell? ⟨w5.heap.size, 0, none⟩ = some (.bool true) := by rw [← hng]; exact HXB.out.cell (i := 0) rfl
   have ns := HXB.out.lt
   try rw [hng]
   clear hng
   go_quiet (fail)
   go_wp2
   go_ret
   exact GivesB.mk (vint HS.out.symm) (HST3.out.drewN _).bel
  rw [hng] at HXB
  have n0 := HXB.out.cell (i := 0) rfl
  have n1 := HXB.out.cell (i := 1) rfl
  have n2 := HXB.out.cell (i := 2) rfl
  have hiz := fun W => isZero_c false A5 A6 c5 c6 nv dv W
  by_cases hv0 : nv = 0
  case' pos =>
   have HS : Hid (res = 1) := by
    show _ = _
    have e : parF d = 1 := by rw [HP.out, if_pos (.inl (by unfold posB; rw [HNV.out, hv0]; simp))]
    rw [← HR2.out, e]; rfl
   rw [decide_eq_true hv0] at hiz
   have HIZ := zq hiz
   clear hiz hng hv0
   have HS0 : Hid (W5.cell? ⟨w5.heap.size, 0, none⟩ = some (.bool false) ∧ W5.cell? ⟨w5.heap.size, 1, none⟩ = some (.slice A5 (words BT nv).length c5) ∧ W5.cell? ⟨w5.heap.size, 2, none⟩ = some (.slice A6 (words BT dv).length c6)) := ⟨n0, n1, n2⟩
   refine wp_region_held_drew (S := (fun w' => w'.cell? ⟨w5.heap.size, 0, none⟩ = some (.bool false) ∧ w'.cell? ⟨w5.heap.size, 1, none⟩ = some (.slice A5 (words BT nv).length c5) ∧ w'.cell? ⟨w5.heap.size, 2, none⟩ = some (.slice A6 (words BT dv).length c6))) (by kernel_rfl) ?_ (fun hHeld => ?_)
   ·exact HS0.out
   refine Dw.rd1 0 rfl (fun K hK => ?_)
   clear hHeld
   go_simp
   refine hK.out _ _ ?_ (fun hHeld => ?_)
   ·exact HS0.out
   clear hK K
   try simp only [Dw.lay, Act.put]
   refine Dw.rd1 1 rfl (fun K hK => ?_)
   clear hHeld
   go_simp
   refine hK.out _ _ ?_ (fun hHeld => ?_)
   ·exact HS0.out
   clear hK K
   try simp only [Dw.lay, Act.put]
   refine Dw.rd1 2 rfl (fun K hK => ?_)
   clear hHeld
   go_simp
   refine hK.out _ _ ?_ (fun hHeld => ?_)
   ·exact HS0.out
   clear hK K
   try simp only [Dw.lay, Act.put]
   refine Dw.rd1 3 rfl (fun K hK => ?_)
   clear hHeld
   go_simp
   refine hK.out _ _ ?_ (fun hHeld => ?_)
   ·exact HS0.out
   clear hK K
   try simp only [Dw.lay, Act.put]
   refine Dw.rd1 4 rfl (fun K hK => ?_)
   clear hHeld
   go_simp
   go_at_call 118
   with_reducible refine (HIZ.out _).mono ?_
   rintro e w8 ⟨rfl, hb8⟩
   have HST8 := zq (HST3.out.drew.below hb8)
   have HXB8 := zq (HXB.out.drew.below hb8)
   have b0 := HXB8.out.cell (i := 0) rfl
   have b1 := HXB8.out.cell (i := 1) rfl
   have b2 := HXB8.out.cell (i := 2) rfl
   clear hb8 n0 n1 n2
   try go_wp2_with fail
   refine hK.out _ _ ?_ (fun hHeld => ?_)
   ·exact ⟨b0, b1, b2⟩
   clear hK K
   try simp only [Dw.lay, Act.put]
   refine Dw.rd1 5 rfl (fun K hK => ?_)
   clear hHeld
   go_simp
   refine hK.out _ _ ?_ (fun hHeld => ?_)
   ·exact ⟨b0, b1, b2⟩
   clear hK K
   try simp only [Dw.lay, Act.put]
   refine Dw.rd1 6 rfl (fun K hK => ?_)
   clear hHeld
   go_simp
   refine hK.out _ _ ?_ (fun hHeld => ?_)
   ·exact ⟨b0, b1, b2⟩
   clear hK K
   try simp only [Dw.lay, Act.put]
   refine wpAnyH_ready (rs := [7, 8]) (by kernel_rfl) (by simp) ?_
   refine AllReadyH.cons rfl (fun K hK => ?_) (AllReadyH.cons rfl (fun K hK => ?_) AllReadyH.nil)
   ·clear hHeld
    go_simp
    refine hK.out _ _ ?_ (fun hHeld => ?_)
    ·exact ⟨b0, b1, b2⟩
    clear hK K
    try simp only [Dw.lay, Act.put]
    refine Dw.rd1 8 rfl (fun K hK => ?_)
    clear hHeld
    go_simp
    refine hK.out _ _ ?_ (fun hHeld => ?_)
    ·exact ⟨b0, b1, b2⟩
    clear hK K
    try simp only [Dw.lay, Act.put]
    refine Dw.rd1 9 rfl (fun K hK => ?_)
    clear hHeld
    go_simp
    refine hK.out _ _ ?_ (fun hHeld => ?_)
    ·exact ⟨b0, b1, b2⟩
    clear hK K
    try simp only [Dw.lay, Act.put]
    refine Dw.rd1 10 rfl (fun K hK => ?_)
    clear hHeld
    go_simp
    refine hK.out _ _ ?_ (fun hHeld => ?_)
    ·exact ⟨b0, b1, b2⟩
    clear hK K
    try simp only [Dw.lay, Act.put]
    refine Dw.rd1 11 rfl (fun K hK => ?_)
    clear hHeld
    go_simp
    refine hK.out _ _ ?_ (fun hHeld => ?_)
    ·exact ⟨b0, b1, b2⟩
    clear hK K
    try simp only [Dw.lay, Act.put]
    refine wpAnyH_done (by kernel_rfl) ?_ _
    clear hHeld
    go_wp2
    go_ret
    exact GivesB.mk (vint HS.out.symm) HST8.out.bel
   ·clear hHeld
    go_simp
    refine hK.out _ _ ?_ (fun hHeld => ?_)
    ·exact ⟨b0, b1, b2⟩
    clear hK K
    try simp only [Dw.lay, Act.put]
    refine Dw.rd1 7 rfl (fun K hK => ?_)
    clear hHeld
    go_simp
    refine hK.out _ _ ?_ (fun hHeld => ?_)
    ·exact ⟨b0, b1, b2⟩
    clear hK K
    try simp only [Dw.lay, Act.put]
    refine Dw.rd1 9 rfl (fun K hK => ?_)
    clear hHeld
    go_simp
    refine hK.out _ _ ?_ (fun hHeld => ?_)
    ·exact ⟨b0, b1, b2⟩
    clear hK K
    try simp only [Dw.lay, Act.put]
    refine Dw.rd1 10 rfl (fun K hK => ?_)
    clear hHeld
    go_simp
    refine hK.out _ _ ?_ (fun hHeld => ?_)
    ·exact ⟨b0, b1, b2⟩
    clear hK K
    try simp only [Dw.lay, Act.put]
    refine Dw.rd1 11 rfl (fun K hK => ?_)
    clear hHeld
    go_simp
    refine hK.out _ _ ?_ (fun hHeld => ?_)
    ·exact ⟨b0, b1, b2⟩
    clear hK K
    try simp only [Dw.lay, Act.put]
    refine wpAnyH_done (by kernel_rfl) ?_ _
    clear hHeld
    go_wp2
    go_ret
    exact GivesB.mk (vint HS.out.symm) HST8.out.bel
  case' neg =>
   rw [decide_eq_false hv0] at hiz
   have HIZ := zq hiz
   have HP2 : Hid (parF d = if dv < nv then 1 else 0) := by
    show _ = _
    rw [HP.out]
    by_cases h : dv < nv
    ·rw [if_pos (.inr h), if_pos h]
    ·rw [if_neg (fun hh => hh.elim (fun q => by unfold posB at q; rw [hng, HNV.out] at q; simp [hv0] at q) h), if_neg h]
   clear hiz hng hv0
   go_region_held3 (fun w' => w'.cell? ⟨w5.heap.size, 0, none⟩ = some (.bool false) ∧ w'.cell? ⟨w5.heap.size, 1, none⟩ = some (.slice A5 (words BT nv).length c5) ∧ w'.cell? ⟨w5.heap.size, 2, none⟩ = some (.slice A6 (words BT dv).length c6)) ((refine ⟨?_, ?_, ?_⟩ <;> first | with_reducible assumption | go_simp))
    (first
     | ((go_at_call 118; (with_reducible refine (HIZ.out _).mono ?_); rintro e w8 ⟨rfl, hb8⟩; have HST8 := zq (HST3.out.drew.below hb8); have HXB8 := zq (HXB.out.drew.below hb8); have H58 := zq (H5.out.drew.below hb8); have H68 := zq (H6.out.drew.below hb8); have b0 := HXB8.out.cell (i := 0) rfl; have b1 := HXB8.out.cell (i := 1) rfl; have b2 := HXB8.out.cell (i := 2) rfl; clear hb8))
     | ((go_at_call 120; (with_reducible refine (Int_1 w8).mono ?_); rintro e w9 ⟨A7, c7, A8, c8, rfl, h7, h8, hb9⟩; have HST9 := zq (HST8.out.below hb9); have HXB9 := zq (HXB8.out.below hb9); have H59 := zq (H58.out.below hb9); have H69 := zq (H68.out.below hb9); have e0 := HXB9.out.cell (i := 0) rfl; have e1 := HXB9.out.cell (i := 1) rfl; have e2 := HXB9.out.cell (i := 2) rfl; clear hb9))
     | ((go_at_call 119; (with_reducible refine (compare_cT A5 A6 A7 A8 c5 c6 c7 c8 _ _ 1 1 w9 H59.out H69.out h7 h8 (Nat.le_trans HLN.out (by decide)) (Nat.le_trans HLD.out (by decide)) (by decide) (by decide) HDP.out (by decide)).mono ?_); rintro e w10 ⟨rfl, hb10⟩; have HST10 := zq (HST9.out.below hb10); have HXB10 := zq (HXB9.out.below hb10); have f0 := HXB10.out.cell (i := 0) rfl; have f1 := HXB10.out.cell (i := 1) rfl; have f2 := HXB10.out.cell (i := 2) rfl; clear hb10)))
   clear n0 n1 n2 b0 b1 b2 e0 e1 e2 f0 f1 f2 HST3 HST8 HST9 HXB HXB8 HXB9 HXB10 H5 H6 H58 H68 H59 H69 h7 h8 HLN HLD HDP
   try simp only [Nat.mul_one, Nat.one_mul]
   by_cases hlt : dv < nv
   ·have HS : Hid (res = 1) := by
     show _ = _
     have e : parF d = 1 := by rw [HP2.out, if_pos hlt]
     rw [← HR2.out, e]; rfl
    rw [cmpN_gt hlt]
    clear hlt
    go_wp2
    go_ret
    exact GivesB.mk (vint HS.out.symm) HST10.out.bel
   have HR3 : Hid (giftP rs us d = res) := by
    show _ = _
    have hh := HR2.out
    rwa [if_neg (fun h => h (by rw [HP2.out, if_neg hlt]))] at hh
   obtain ⟨cv, hcv, hc0⟩ : ∃ cv, cmpN nv dv = cv ∧ cv ≤ 0 := by
    rcases Nat.lt_or_ge nv dv with h | h
    ·exact ⟨-1, cmpN_lt h, by decide⟩
    ·exact ⟨0, cmpN_eq (by omega), by decide⟩
   rw [hcv]
   clear hcv
   have HSTc := HST10
   clear hlt
   go_upto_region 12 with fail
 all_goals
  try clear y2 y3 y4 y5 ys q1 k2
  have y0 := HSTc.out.ti.cell (i := 0) rfl
  have y1 := HSTc.out.ti.cell (i := 1) rfl
  have y9 := HSTc.out.de.cell (i := 10) rfl
  have y10 := HSTc.out.de.cell (i := 11) rfl
  have yt := HSTc.out.ti.lt
  have ys := HSTc.out.de.lt
  go_wp2_with fail
  with_reducible refine (checkAreaR_c RA d.arA rc d.arc rs d.ar _ g.len (HRG.out.below HSTc.out.bel) (HD.out.ars.below HSTc.out.bel)).mono ?_
  rintro e w20 ⟨rfl, nd, rfl⟩
  by_cases hch : chkA rs d.ar = 0
  case' neg =>
   have HS : Hid (res = chkA rs d.ar) := by
    show _ = _
    rw [← HR3.out]; unfold giftP; rw [if_pos hch]
   have hrb2 : (chkA rs d.ar != 0) = true := by simpa using hch
   clear hch
   go_wp2
   go_ret
   exact GivesB.mk (vint HS.out.symm) (HSTc.out.drewN nd).bel
  have HAL := zq (chkA_lenC hch)
  have HR4 : Hid ((if leavesOf rs d.ar = [] ∨ d.us = [] then 9 else giftU us d) = res) := by
   show _ = _
   have hh := HR3.out
   unfold giftP at hh
   rwa [if_neg (fun h => h hch)] at hh
  have HSTd := zq (HSTc.out.drewN nd)
  rw [hch]
  clear hch HR3
  go_wp2_with fail
  with_reducible refine (leaves_c RA d.arA rc d.arc rs d.ar _ g (HRG.out.below HSTd.out.bel) (HD.out.ars.below HSTd.out.bel) HAL.out).mono ?_
  rintro e w21 ⟨A9, c9, rfl, _, hb21⟩
  have HSTe := zq (HSTd.out.below hb21)
  clear y0 y1 y9 y10 yt ys hb21 HSTd HSTc
  have y10 := HSTe.out.de.cell (i := 11) rfl
  have ys := HSTe.out.de.lt
  by_cases hl0 : (leavesOf rs d.ar).length = 0
  case' pos =>
   have HS : Hid (res = 9) := by
    show _ = _
    rw [← HR4.out, if_pos (.inl (List.length_eq_zero_iff.1 hl0))]
   go_wp2
   go_ret
   exact GivesB.mk (vint HS.out.symm) HSTe.out.bel
  have hlb : (((leavesOf rs d.ar).length : Int) == 0) = false := by simp; intro e; exact hl0 (by rw [e]; rfl)
  by_cases hu0 : d.us.length = 0
  case' pos =>
   have HS : Hid (res = 9) := by
    show _ = _
    rw [← HR4.out, if_pos (.inr (List.length_eq_zero_iff.1 hu0))]
   clear hl0
   go_wp2
   go_ret
   exact GivesB.mk (vint HS.out.symm) HSTe.out.bel
  have hub : ((d.us.length : Int) == 0) = false := by simp; intro e; exact hu0 (by rw [e]; rfl)
  have HR5 : Hid (giftU us d = res) := by
   show _ = _
   have hh := HR4.out
   rwa [if_neg (fun h => h.elim (fun q => hl0 (by rw [q]; rfl)) (fun q => hu0 (by rw [q]; rfl)))] at hh
  clear hl0 HR4
  have hl2 := HD.out.lens.2.1
  obtain ⟨b, o, hA, hb0, hc0⟩ := HD.out.uses.at_ (by omega)
  have HC0 := zq hc0
  clear hc0 hu0
  clear y10
  have y10 : w21.cell? ⟨w.heap.size + 1, 11, none⟩ = some (Value.slice (some ⟨b, o, none⟩) d.us.length d.usc) := by rw [← hA]; exact HSTe.out.de.cell (i := 11) rfl
  go_wp2
  go_loopg [8] d.us.length (GURel w RA rc rs UA uc us DA dc ds d)
  case atStart => exact ⟨HSTe.out, 0, by omega, rfl, fun j hj => absurd hj (by omega)⟩
  case round =>
   clear HSTe y10 ys hlb hub
   obtain ⟨hst, k, hkm, rfl, hpre⟩ := hrel
   have HST := zq hst
   have HKM := zq hkm
   have HP := zq hpre
   have hkl : k ≤ d.us.length := by omega
   clear hst hkm hpre
   have y10 : wr.cell? ⟨w.heap.size + 1, 11, none⟩ = some (Value.slice (some ⟨b, o, none⟩) d.us.length d.usc) := by rw [← hA]; exact HST.out.de.cell (i := 11) rfl
   have ys := HST.out.de.lt
   by_cases hlt : k < d.us.length
   ·have y1 := HST.out.ti.cell (i := 1) rfl
    have yt := HST.out.ti.lt
    have c0 : wr.cell? ⟨b, o + k, none⟩ = some (.string d.us[k]) := (HST.out.bel.cell hb0).trans (HC0.out k hlt)
    have e0 : usAt d.us k = d.us[k] := usAt_of hlt
    have HPO := zq (fun W (x : Strs W UA us) => positionR_c UA uc us d.us[k] W hul x)
    go_wp2_with fail
    go_region_held3 (fun w' => w'.cell? ⟨w.heap.size, 1, none⟩ = some (.slice UA us.length uc) ∧ w'.cell? ⟨w.heap.size + 1, 11, none⟩ = some (Value.slice (some ⟨b, o, none⟩) d.us.length d.usc) ∧ w'.cell? ⟨b, o + k, none⟩ = some (.string d.us[k])) ((refine ⟨?_, ?_, ?_⟩ <;> first | with_reducible assumption | go_simp))
     ((go_at_call 123; (with_reducible refine (HPO.out _ (HU.out.below (HST.out.drew).bel)).mono ?_); rintro e w30 ⟨z, rfl, hz, rfl⟩))
    have HST2 := zq HST.out.drew
    clear HPO y1 yt
    cases hm : memS us d.us[k] with
    | false =>
     have HS : Hid (res = 5) := by
      show _ = _
      have e : useF us d.us = 5 := useF_hit hlt HP.out (by unfold useFault; rw [e0, if_pos hm])
      rw [← HR5.out]; unfold giftU; rw [e]; rfl
     have hz1 : z < 0 := by rw [hm] at hz; simpa using hz
     clear hz hm e0
     go_wp2
     go_ret
     exact GivesB.mk (vint HS.out.symm) HST2.out.bel
    | true =>
     have HM := zq hm
     have hz1 : 0 ≤ z := by rw [hm] at hz; simpa using hz
     clear hz hm
     have HE0 := zq e0
     clear e0
     by_cases hk0 : 0 < k
     ·have zp : wr.cell? ⟨b, o + (k - 1), none⟩ = some (.string (d.us[k - 1]'(by omega))) := (HST.out.bel.cell hb0).trans (HC0.out (k - 1) (by omega))
      have hd : decide ((0 : Int) < (k : Int)) = true := by simp; omega
      have hd0 : decide ((0 : Int) ≤ (k : Int) - 1) = true := by simp; omega
      have HE1 : Hid (usAt d.us (k - 1) = d.us[k - 1]'(by omega)) := usAt_of (by omega)
      cases hle : sle d.us[k] (d.us[k - 1]'(by omega)) with
      | true =>
       have HS : Hid (res = 8) := by
        show _ = _
        have e : useF us d.us = 8 := useF_hit hlt HP.out (by unfold useFault; rw [HE0.out, HE1.out, if_neg (by rw [HM.out]; simp), if_pos ⟨hk0, hle⟩])
        rw [← HR5.out]; unfold giftU; rw [e]; rfl
       unfold sle at hle
       go_wp2
       go_quiet (fail)
       go_wp2
       go_ret
       exact GivesB.mk (vint HS.out.symm) (HST2.out.drewN _).bel
      | false =>
       have HF : Hid (useFault us d.us k = none) := by
        show _ = _
        unfold useFault; rw [HE0.out, HE1.out, if_neg (by rw [HM.out]; simp), if_neg (fun hh => by rw [hle] at hh; cases hh.2)]
       unfold sle at hle
       go_wp2
       go_quiet (fail)
       go_wp2
       go_roundg (gk - 1)
       case measure => have := HKM.out; omega
       case rel =>
        refine ⟨HST.out.drewN _, k + 1, by have := HKM.out; omega, by go_num, fun j hj => ?_⟩
        rcases Nat.lt_or_ge j k with h9 | h9
        ·exact HP.out j h9
        ·obtain rfl : j = k := by omega
         exact HF.out
     ·have hd : decide ((0 : Int) < (k : Int)) = false := by simp; omega
      have HF : Hid (useFault us d.us k = none) := by
       show _ = _
       unfold useFault; rw [HE0.out, if_neg (by rw [HM.out]; simp), if_neg (fun hh => hk0 hh.1)]
      go_wp2
      go_quiet (fail)
      go_wp2
      go_roundg (gk - 1)
      case measure => have := HKM.out; omega
      case rel =>
       refine ⟨HST.out.drewN _, k + 1, by have := HKM.out; omega, by go_num, fun j hj => ?_⟩
       rcases Nat.lt_or_ge j k with h9 | h9
       ·exact HP.out j h9
       ·obtain rfl : j = k := by omega
        exact HF.out
   ·have y11 : wr.cell? ⟨w.heap.size + 1, 12, none⟩ = some (.int .i64 d.bg) := HST.out.de.cell (i := 12) rfl
    have y12 : wr.cell? ⟨w.heap.size + 1, 13, none⟩ = some (.int .i64 d.en) := HST.out.de.cell (i := 13) rfl
    have HR6 : Hid ((if dayB d.bg = false ∨ dayB d.en = false then 1 else if d.en ≤ d.bg then 8 else 0) = res) := by
     show _ = _
     have e : useF us d.us = 0 := useF_none fun j hj => HP.out j (by omega)
     rw [← HR5.out]; unfold giftU; rw [if_neg (show ¬ (useF us d.us ≠ 0) from fun h => h e)]
    have hd1 := fun W => isDayR_c d.bg W
    have hd2 := fun W => isDayR_c d.en W
    clear HR5
    cases hb1 : dayB d.bg with
    | false =>
     rw [hb1] at hd1
     have HD1 := zq hd1
     have HS : Hid (res = 1) := by show _ = _; rw [← HR6.out, if_pos (.inl hb1)]
     clear hd1 hd2 hb1
     go_wp2_with fail
     with_reducible refine (HD1.out _).mono ?_
     rintro e w40 ⟨rfl, rfl⟩
     go_wp2
     go_ret
     exact GivesB.mk (vint HS.out.symm) HST.out.bel
    | true =>
     rw [hb1] at hd1
     have HD1 := zq hd1
     cases hb2 : dayB d.en with
     | false =>
      rw [hb2] at hd2
      have HD2 := zq hd2
      have HS : Hid (res = 1) := by show _ = _; rw [← HR6.out, if_pos (.inr hb2)]
      clear hd1 hd2 hb1 hb2
      go_wp2_with fail
      with_reducible refine (HD1.out _).mono ?_
      rintro e w40 ⟨rfl, rfl⟩
      go_wp2_with fail
      with_reducible refine (HD2.out _).mono ?_
      rintro e w41 ⟨rfl, rfl⟩
      go_wp2
      go_ret
      exact GivesB.mk (vint HS.out.symm) HST.out.bel
     | true =>
      rw [hb2] at hd2
      have HD2 := zq hd2
      have HR7 : Hid ((if d.en ≤ d.bg then 8 else 0) = res) := by
       show _ = _
       have hh := HR6.out
       rwa [if_neg (by rw [hb1, hb2]; simp)] at hh
      clear hd1 hd2 hb1 hb2 HR6
      go_wp2_with fail
      with_reducible refine (HD1.out _).mono ?_
      rintro e w40 ⟨rfl, rfl⟩
      go_wp2_with fail
      with_reducible refine (HD2.out _).mono ?_
      rintro e w41 ⟨rfl, rfl⟩
      by_cases hen : d.en ≤ d.bg
      ·have HS : Hid (res = 8) := by show _ = _; rw [← HR7.out, if_pos hen]
       go_wp2
       go_ret
       exact GivesB.mk (vint HS.out.symm) HST.out.bel
      ·have HS : Hid (res = 0) := by show _ = _; rw [← HR7.out, if_neg hen]
       have hen2 : d.bg < d.en := by omega
       clear hen
       go_wp2
       go_ret
       exact GivesB.mk (vint HS.out.symm) HST.out.bel
theorem rangeB {w : World} {b : Nat} {cs : Array Value} {T : TypeId} (h : Bx w b cs T) : w.rangeAt b 0 cs.toList := fun j v hv => by
 rw [Nat.zero_add]
 exact h.cell (by rw [← hv, Array.getElem?_toList])
theorem take_last {α : Type} {l : List α} {k : Nat} (h : k < l.length) (hk : 0 < k) : (l.take k).getLast? = some (l[k - 1]'(by omega)) := by
 rw [List.getLast?_eq_getElem?, List.length_take, Nat.min_eq_left (by omega), List.getElem?_take_of_lt (by omega)]
 exact List.getElem?_eq_getElem (by omega)
theorem ordB_take {ds : List De} {k : Nat} (h : k < ds.length) (hk : 0 < k) (d : De) : ordB (ds.take k) d = deLt (ds[k - 1]'(by omega)) d := by
 unfold ordB
 rw [take_last h hk]
theorem sle_of_sltR {a b : ByteArray} (h : slt a b = true) : sle b a = false := by
 unfold slt at h
 unfold sle
 rw [bytesLess_eq] at h ⊢
 have h1 : a.toList < b.toList := by simpa using h
 have h2 : ¬ b.toList < a.toList := fun h2 => List.lt_irrefl _ (List.lt_trans h1 h2)
 have h3 : b.toList ≠ a.toList := fun e => by rw [e] at h1; exact List.lt_irrefl _ h1
 simp [h2, h3]
theorem slt_sle (a b : ByteArray) : slt a b = !sle b a := by
 cases h : sle b a with
 | false => rw [slt_of_not_sle h]; rfl
 | true =>
  cases h2 : slt a b with
  | false => rfl
  | true => rw [sle_of_sltR h2] at h; cases h
def chk4 (rs : List Rg) (us : List ByteArray) (pre : List De) (d : De) : Int := if givesB d.kd = true then giftF rs us d else if d.kd = 4 then endF pre d else divF pre d
def chk3 (rs : List Rg) (us : List ByteArray) (pre : List De) (d : De) : Int := if d.kd < 1 ∨ 5 < d.kd then 4 else if needB d = true then 3 else chk4 rs us pre d
def chk2 (rs : List Rg) (us : List ByteArray) (pre : List De) (d : De) : Int := if (pre.any fun p => decide (p.id = d.id)) = true then 7 else chk3 rs us pre d
theorem chkD_eq (rs : List Rg) (us : List ByteArray) (pre : List De) (d : De) : chkD rs us pre d = if isNm d.id = false then 5 else if dayB d.day = false then 1 else if ordB pre d = false then 8 else chk2 rs us pre d := rfl
def PreRel (w : World) (RA : Option Addr) (rc : Nat) (rs : List Rg) (UA : Option Addr) (uc : Nat) (us : List ByteArray) (DA : Option Addr) (dc : Nat) (ds : List De) (d : De) (k : Nat) (f : De → Bool) (m : Nat) (i : Value) (wr : World) : Prop :=
 GS w RA rc rs UA uc us DA dc ds d wr ∧ ∃ j : Nat, j + m = k ∧ i = .int .i64 j ∧ ∀ q (h : q < ds.length), q < j → f ds[q] = false
theorem any_take_true {ds : List De} {k j : Nat} {f : De → Bool} (hj : j < k) (hk : k < ds.length) (h : f (ds[j]'(by omega)) = true) : (ds.take k).any f = true := by
 refine List.any_eq_true.2 ⟨ds[j]'(by omega), ?_, h⟩
 rw [List.mem_take_iff_getElem]
 exact ⟨j, by omega, rfl⟩
theorem any_take_false {ds : List De} {k : Nat} {f : De → Bool} (h : ∀ q (h : q < ds.length), q < k → f ds[q] = false) : (ds.take k).any f = false := by
 rw [List.any_eq_false]
 intro x hx
 rw [List.mem_take_iff_getElem] at hx
 obtain ⟨q, hq, rfl⟩ := hx
 rw [h q (by omega) (by omega)]
 simp
def FndRel (w : World) (RA : Option Addr) (rc : Nat) (rs : List Rg) (UA : Option Addr) (uc : Nat) (us : List ByteArray) (DA : Option Addr) (dc : Nat) (ds : List De) (d : De) (k : Nat) (f : De → Bool) (m : Nat) (v i : Value) (wr : World) : Prop :=
 GS w RA rc rs UA uc us DA dc ds d wr ∧ ∃ j : Nat, j + m = k ∧ i = .int .i64 j ∧ v = .bool ((ds.take j).any f)
def SheRel (w : World) (RA : Option Addr) (rc : Nat) (rs : List Rg) (UA : Option Addr) (uc : Nat) (us : List ByteArray) (DA : Option Addr) (dc : Nat) (ds : List De) (d : De) (m : Nat) (i : Value) (wr : World) : Prop :=
 GS w RA rc rs UA uc us DA dc ds d wr ∧ ∃ j : Nat, j + m = d.sh.length ∧ i = .int .i64 j ∧ ∀ q (h : q < d.sh.length), q < j → d.kd = 5 → decide (d.sh[q].pt = d.fr) = false
theorem any_take_succ {ds : List De} {j : Nat} (h : j < ds.length) (f : De → Bool) : (ds.take (j + 1)).any f = ((ds.take j).any f || f ds[j]) := by
 rw [List.take_succ_eq_append_getElem h, List.any_append]
 simp
def div2 (pre : List De) (d : De) : Int := if d.kd = 5 ∧ (d.sh.any fun s => decide (s.pt = d.fr)) = true then 12 else if (pre.any fun p => decide (p.kd = d.kd) && decide (p.th = d.th) && decide (p.fr = d.fr)) = true then 7 else 0
theorem divF_eq (pre : List De) (d : De) : divF pre d = if (d.kd = 1 ∧ isNm d.th = false) ∨ (d.kd = 5 ∧ isNm d.fr = false) then 5 else if dayB d.bg = false then 1 else if shF d.kd d.sh ≠ 0 then shF d.kd d.sh else div2 pre d := rfl
end Go.Proofs.YtlcfgejaeecclaaGreatDoor
