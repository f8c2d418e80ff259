/- own makes a deed that shares no memory with another one (its walk printed by gen_own.py). -/
import Derived.Test.YtlcfgejaeecclaaGreatDoorZq36
set_option maxRecDepth 100000
set_option maxHeartbeats 8000000
namespace Go.Proofs.YtlcfgejaeecclaaGreatDoor
open Go.RowKit Dw
abbrev eA : Ar → List Value := fun x => [.string x.rg, .bool x.out]
abbrev eS : ByteArray → List Value := fun x => [.string x]
abbrev eH : Sh → List Value := fun x => [.string x.pt, .string x.nu, .string x.de]
def ClK {α : Type} (enc : α → List Value) (k : Nat) (e : TypeId) (base : Nat) (w : World) (A : Option Addr) (c : Nat) (L : List α) : Prop := L = [] ∨ OwnL enc k w base e (.slice A L.length c) L
theorem ClK.of {α : Type} {enc : α → List Value} {k : Nat} {e : TypeId} {w0 w w' : World} {A : Option Addr} {c : Nat} {L : List α} (hb : Below w0.heap.size w0 w) (h : L = [] ∨ OwnL enc k w' w.heap.size e (.slice A L.length c) L) : ClK enc k e w0.heap.size w' A c L :=
 h.imp id fun h => OwnL.base h hb.size
theorem ClK.below {α : Type} {enc : α → List Value} {k : Nat} {e : TypeId} {base : Nat} {w w' : World} {A : Option Addr} {c : Nat} {L : List α} (h : ClK enc k e base w A c L) (hb : Below w.heap.size w w') : ClK enc k e base w' A c L := h.imp id fun h => h.below hb
theorem ClK.set {α : Type} {enc : α → List Value} {k : Nat} {e : TypeId} {base : Nat} {w : World} {A : Option Addr} {c : Nat} {L : List α} (h : ClK enc k e base w A c L) {a : Addr} (ha : a.block < base) (u : Value) : ClK enc k e base (w.setCell a u) A c L :=
 h.imp id fun h => ownsRow_setCell_below h ha u
def dOwn (d : De) (A1 : Option Addr) (c1 : Nat) (A2 : Option Addr) (c2 : Nat) (A3 : Option Addr) (c3 : Nat) : De := { d with arA := A1, arc := c1, usA := A2, usc := c2, shA := A3, shc := c3 }
def OwRel (w0 : World) (bi : Nat) (d : De) (wx : World) : Prop :=
 ∃ A1 c1 A2 c2 A3 c3, Bx wx bi (deC (dOwn d A1 c1 A2 c2 A3 c3)) 54 ∧ Bx wx (bi + 1) (deC zDe) 54 ∧ ClK eA 2 63 w0.heap.size wx A1 c1 d.ar ∧ ClK eS 1 9 w0.heap.size wx A2 c2 d.us ∧ ClK eH 3 118 w0.heap.size wx A3 c3 d.sh ∧
  (wx.os = w0.os ∧ wx.tape = w0.tape ∧ wx.output = w0.output ∧ w0.heap.size ≤ wx.heap.size) ∧ ∀ x, x < w0.heap.size → x ≠ bi → wx.heap[x]? = w0.heap[x]?
theorem own_fin {w0 wc : World} {bi : Nat} {d : De} {A1 A2 A3 : Option Addr} {c1 c2 c3 : Nat} (hx : Bx wc bi (deC d) 54) (hz : Bx wc (bi + 1) (deC zDe) 54)
  (h1 : ClK eA 2 63 w0.heap.size wc A1 c1 d.ar) (h2 : ClK eS 1 9 w0.heap.size wc A2 c2 d.us) (h3 : ClK eH 3 118 w0.heap.size wc A3 c3 d.sh) (hb : Below w0.heap.size w0 wc) (hbi : bi < w0.heap.size) :
  OwRel w0 bi d (((wc.setCell ⟨bi, 10, none⟩ (.slice A1 d.ar.length c1)).setCell ⟨bi, 11, none⟩ (.slice A2 d.us.length c2)).setCell ⟨bi, 14, none⟩ (.slice A3 d.sh.length c3)) := by
 have k1 := heap_setCell_same wc bi 10 _ _ (.slice A1 d.ar.length c1) hx
 have k2 := heap_setCell_same _ bi 11 _ _ (.slice A2 d.us.length c2) k1
 have k3 := heap_setCell_same _ bi 14 _ _ (.slice A3 d.sh.length c3) k2
 have ho : ∀ x, x ≠ bi → (((wc.setCell ⟨bi, 10, none⟩ (.slice A1 d.ar.length c1)).setCell ⟨bi, 11, none⟩ (.slice A2 d.us.length c2)).setCell ⟨bi, 14, none⟩ (.slice A3 d.sh.length c3)).heap[x]? = wc.heap[x]? := fun x hne => by
  rw [heap_setCell_other _ ⟨bi, 14, none⟩ _ _ hne, heap_setCell_other _ ⟨bi, 11, none⟩ _ _ hne, heap_setCell_other _ ⟨bi, 10, none⟩ _ _ hne]
 refine ⟨A1, c1, A2, c2, A3, c3, k3, (ho _ (by omega)).trans hz, ((h1.set hbi _).set hbi _).set hbi _, ((h2.set hbi _).set hbi _).set hbi _, ((h3.set hbi _).set hbi _).set hbi _, ⟨hb.os, hb.tape, hb.output, by simpa using hb.size⟩, fun x hx hne => (ho x hne).trans (hb.block x hx)⟩
def GivesOw (d : De) (w : World) (e : Ending) (w' : World) : Prop :=
 ∃ A1 c1 A2 c2 A3 c3, e = .returned (deV (dOwn d A1 c1 A2 c2 A3 c3)) ∧ ClK eA 2 63 w.heap.size w' A1 c1 d.ar ∧ ClK eS 1 9 w.heap.size w' A2 c2 d.us ∧ ClK eH 3 118 w.heap.size w' A3 c3 d.sh ∧ Below w.heap.size w w'
theorem own_c (d : De) (w : World) (hd : DeOk w d) (hlen : d.ar.length ≤ 1000000000 ∧ d.us.length ≤ 1000000000 ∧ d.sh.length ≤ 1000000000) : Calls Tryz.prog 26 #[deV d] w (GivesOw d w) := by
 have HX : Hid (Bx ((w.alloc (.cells (deC d) 54)).alloc (.cells (deC zDe) 54)) w.heap.size (deC d) 54) := (Bx.new _ _ _).alloc _
 have HZ : Hid (Bx ((w.alloc (.cells (deC d) 54)).alloc (.cells (deC zDe) 54)) (w.heap.size + 1) (deC zDe) 54) := Bx.new1 _ _ _ _
 have HB : Hid (Below w.heap.size w ((w.alloc (.cells (deC d) 54)).alloc (.cells (deC zDe) 54))) := ((Below.refl w.heap.size w).alloc (Nat.le_refl _) _).alloc (by simp) _
 obtain ⟨W, hW⟩ : ∃ W, W = (w.alloc (.cells (deC d) 54)).alloc (.cells (deC zDe) 54) := ⟨_, rfl⟩
 rw [← hW] at HX HZ HB
 have HD := zq (hd.below HB.out)
 have hbi : w.heap.size < W.heap.size := HX.out.lt
 clear hd
 go_enter Tryz.func26, Tryz.ntmps26
 go_wp2_with fail
 change Code.wp _ _ _ _ ((w.alloc (.cells (deC d) 54)).alloc (.cells (deC zDe) 54))
 rw [← hW]
 clear hW
 go_cut [] (fun wx => OwRel W w.heap.size d wx)
 case first =>
  have HX0 : Hid (Bx W.drew w.heap.size (deC d) 54) := HX.out
  have HZ0 : Hid (Bx W.drew (w.heap.size + 1) (deC zDe) 54) := HZ.out
  have HD0 : Hid (DeOk W.drew d) := HD.out.below (below_drewN (Below.refl _ _) 1)
  have HB0 : Hid (Below W.heap.size W W.drew) := below_drewN (Below.refl _ _) 1
  refine wp_region_held_drew (S := (fun _ => True)) (by kernel_rfl) trivial (fun hHeld => ?_)
  clear hHeld
  refine Dw.tk 0 ?_ rfl ?_ trivial ?_
  rotate_left 1
  ·(intro w _; go_simp; try with_reducible rfl)
  simp only [List.getElem_toArray, List.getElem_cons_zero, Act.put, List.setIfInBounds_toArray, List.set_cons_zero, List.set_cons_succ]
  refine Dw.tk 3 ?_ rfl ?_ trivial ?_
  rotate_left 1
  ·(intro w _; go_simp; try with_reducible rfl)
  simp only [Dw.lay, Act.put]
  refine Dw.tk 6 ?_ rfl ?_ trivial ?_
  rotate_left 1
  ·(intro w _; go_simp; try with_reducible rfl)
  simp only [Dw.lay, Act.put]
  refine wpAnyH_ready (rs := [1, 4, 7]) (by kernel_rfl) (by simp) ?_
  refine AllReadyH.cons rfl (fun K hK => ?_) (AllReadyH.cons rfl (fun K hK => ?_) (AllReadyH.cons rfl (fun K hK => ?_) AllReadyH.nil))
  ·have e10 := HX0.out.cell (i := 10) rfl
   go_simp
   clear e10
   refine hK.out _ _ trivial (fun hHeld => ?_)
   clear hHeld hK K
   try simp only [Dw.lay, Act.put]
   refine wpAnyH_ready (rs := [2, 4, 7]) (by kernel_rfl) (by simp) ?_
   refine AllReadyH.cons rfl (fun K hK => ?_) (AllReadyH.cons rfl (fun K hK => ?_) (AllReadyH.cons rfl (fun K hK => ?_) AllReadyH.nil))
   ·go_simp
    go_at_call 55
    with_reducible refine (cloneA_c d.arA d.arc d.ar _ (hlen.1) HD0.out.ars).mono ?_
    rintro x wa ⟨Aa, ca, rfl, hba, hoa⟩
    have HXa := zq (HX0.out.below hba)
    have HZa := zq (HZ0.out.below hba)
    have HDa := zq (HD0.out.below hba)
    have HBa := zq (below_trans HB0.out hba)
    have HOaa := zq (ClK.of HB0.out hoa)
    clear hba hoa
    refine hK.out _ _ trivial (fun hHeld => ?_)
    clear hHeld hK K
    try simp only [Dw.lay, Act.put]
    refine wpAnyH_ready (rs := [4, 7]) (by kernel_rfl) (by simp) ?_
    refine AllReadyH.cons rfl (fun K hK => ?_) (AllReadyH.cons rfl (fun K hK => ?_) AllReadyH.nil)
    ·have e11 := HXa.out.cell (i := 11) rfl
     go_simp
     clear e11
     refine hK.out _ _ trivial (fun hHeld => ?_)
     clear hHeld hK K
     try simp only [Dw.lay, Act.put]
     refine wpAnyH_ready (rs := [5, 7]) (by kernel_rfl) (by simp) ?_
     refine AllReadyH.cons rfl (fun K hK => ?_) (AllReadyH.cons rfl (fun K hK => ?_) AllReadyH.nil)
     ·go_simp
      go_at_call 23
      with_reducible refine (cloneS_c d.usA d.usc d.us _ (hlen.2.1) HDa.out.uses).mono ?_
      rintro x wb ⟨Ab, cb, rfl, hbb, hob⟩
      have HXb := zq (HXa.out.below hbb)
      have HZb := zq (HZa.out.below hbb)
      have HDb := zq (HDa.out.below hbb)
      have HBb := zq (below_trans HBa.out hbb)
      have HObb := zq (ClK.of HBa.out hob)
      have HOab := zq (HOaa.out.below hbb)
      clear hbb hob
      refine hK.out _ _ trivial (fun hHeld => ?_)
      clear hHeld hK K
      try simp only [Dw.lay, Act.put]
      refine Dw.rd1 7 rfl (fun K hK => ?_)
      ·have e14 := HXb.out.cell (i := 14) rfl
       go_simp
       clear e14
       refine hK.out _ _ trivial (fun hHeld => ?_)
       clear hHeld hK K
       try simp only [Dw.lay, Act.put]
       refine Dw.tk 9 ?_ rfl ?_ trivial ?_
       rotate_left 1
       ·(intro w _; go_simp; try with_reducible rfl)
       simp only [Dw.lay, Act.put]
       refine Dw.rd1 8 rfl (fun K hK => ?_)
       ·go_simp
        go_at_call 56
        with_reducible refine (cloneH_c d.shA d.shc d.sh _ (hlen.2.2) HDb.out.shs).mono ?_
        rintro x wc ⟨Ac, cc, rfl, hbc, hoc⟩
        have HXc := zq (HXb.out.below hbc)
        have HZc := zq (HZb.out.below hbc)
        have HDc := zq (HDb.out.below hbc)
        have HBc := zq (below_trans HBb.out hbc)
        have HOcc := zq (ClK.of HBb.out hoc)
        have HOac := zq (HOab.out.below hbc)
        have HObc := zq (HObb.out.below hbc)
        clear hbc hoc
        refine hK.out _ _ trivial (fun hHeld => ?_)
        clear hHeld hK K
        try simp only [Dw.lay, Act.put]
        have x10 := HXc.out.cell (i := 10) rfl
        have x11 := HXc.out.cell (i := 11) rfl
        have x14 := HXc.out.cell (i := 14) rfl
        have f10 := HXc.out.frozen 10
        have f11 := HXc.out.frozen 11
        have f14 := HXc.out.frozen 14
        refine Dw.rd1 10 rfl (fun K hK => ?_)
        go_simp
        refine hK.out _ _ trivial (fun hHeld => ?_)
        clear hHeld hK K
        try simp only [Dw.lay, Act.put]
        refine Dw.tk 11 ?_ rfl ?_ trivial ?_
        rotate_left 1
        ·(intro w _; go_simp; try with_reducible rfl)
        simp only [Dw.lay, Act.put]
        refine Dw.rd1 12 rfl (fun K hK => ?_)
        go_simp
        refine hK.out _ _ trivial (fun hHeld => ?_)
        clear hHeld hK K
        try simp only [Dw.lay, Act.put]
        refine Dw.tk 13 ?_ rfl ?_ trivial ?_
        rotate_left 1
        ·(intro w _; go_simp; try with_reducible rfl)
        simp only [Dw.lay, Act.put]
        refine Dw.rd1 14 rfl (fun K hK => ?_)
        go_simp
        refine hK.out _ _ trivial (fun hHeld => ?_)
        clear hHeld hK K
        try simp only [Dw.lay, Act.put]
        refine wpAnyH_done (by kernel_rfl) ?_ _
        go_wp2_with fail
        go_meet
        exact own_fin HXc.out HZc.out HOac.out HObc.out HOcc.out HBc.out hbi
     ·have e14 := HXa.out.cell (i := 14) rfl
      go_simp
      clear e14
      refine hK.out _ _ trivial (fun hHeld => ?_)
      clear hHeld hK K
      try simp only [Dw.lay, Act.put]
      refine Dw.tk 9 ?_ rfl ?_ trivial ?_
      rotate_left 1
      ·(intro w _; go_simp; try with_reducible rfl)
      simp only [Dw.lay, Act.put]
      refine Dw.rd1 5 rfl (fun K hK => ?_)
      ·go_simp
       go_at_call 23
       with_reducible refine (cloneS_c d.usA d.usc d.us _ (hlen.2.1) HDa.out.uses).mono ?_
       rintro x wb ⟨Ab, cb, rfl, hbb, hob⟩
       have HXb := zq (HXa.out.below hbb)
       have HZb := zq (HZa.out.below hbb)
       have HDb := zq (HDa.out.below hbb)
       have HBb := zq (below_trans HBa.out hbb)
       have HObb := zq (ClK.of HBa.out hob)
       have HOab := zq (HOaa.out.below hbb)
       clear hbb hob
       refine hK.out _ _ trivial (fun hHeld => ?_)
       clear hHeld hK K
       try simp only [Dw.lay, Act.put]
       refine Dw.rd1 8 rfl (fun K hK => ?_)
       ·go_simp
        go_at_call 56
        with_reducible refine (cloneH_c d.shA d.shc d.sh _ (hlen.2.2) HDb.out.shs).mono ?_
        rintro x wc ⟨Ac, cc, rfl, hbc, hoc⟩
        have HXc := zq (HXb.out.below hbc)
        have HZc := zq (HZb.out.below hbc)
        have HDc := zq (HDb.out.below hbc)
        have HBc := zq (below_trans HBb.out hbc)
        have HOcc := zq (ClK.of HBb.out hoc)
        have HOac := zq (HOab.out.below hbc)
        have HObc := zq (HObb.out.below hbc)
        clear hbc hoc
        refine hK.out _ _ trivial (fun hHeld => ?_)
        clear hHeld hK K
        try simp only [Dw.lay, Act.put]
        have x10 := HXc.out.cell (i := 10) rfl
        have x11 := HXc.out.cell (i := 11) rfl
        have x14 := HXc.out.cell (i := 14) rfl
        have f10 := HXc.out.frozen 10
        have f11 := HXc.out.frozen 11
        have f14 := HXc.out.frozen 14
        refine Dw.rd1 10 rfl (fun K hK => ?_)
        go_simp
        refine hK.out _ _ trivial (fun hHeld => ?_)
        clear hHeld hK K
        try simp only [Dw.lay, Act.put]
        refine Dw.tk 11 ?_ rfl ?_ trivial ?_
        rotate_left 1
        ·(intro w _; go_simp; try with_reducible rfl)
        simp only [Dw.lay, Act.put]
        refine Dw.rd1 12 rfl (fun K hK => ?_)
        go_simp
        refine hK.out _ _ trivial (fun hHeld => ?_)
        clear hHeld hK K
        try simp only [Dw.lay, Act.put]
        refine Dw.tk 13 ?_ rfl ?_ trivial ?_
        rotate_left 1
        ·(intro w _; go_simp; try with_reducible rfl)
        simp only [Dw.lay, Act.put]
        refine Dw.rd1 14 rfl (fun K hK => ?_)
        go_simp
        refine hK.out _ _ trivial (fun hHeld => ?_)
        clear hHeld hK K
        try simp only [Dw.lay, Act.put]
        refine wpAnyH_done (by kernel_rfl) ?_ _
        go_wp2_with fail
        go_meet
        exact own_fin HXc.out HZc.out HOac.out HObc.out HOcc.out HBc.out hbi
    ·have e14 := HXa.out.cell (i := 14) rfl
     go_simp
     clear e14
     refine hK.out _ _ trivial (fun hHeld => ?_)
     clear hHeld hK K
     try simp only [Dw.lay, Act.put]
     refine Dw.rd1 4 rfl (fun K hK => ?_)
     ·have e11 := HXa.out.cell (i := 11) rfl
      go_simp
      clear e11
      refine hK.out _ _ trivial (fun hHeld => ?_)
      clear hHeld hK K
      try simp only [Dw.lay, Act.put]
      refine Dw.tk 9 ?_ rfl ?_ trivial ?_
      rotate_left 1
      ·(intro w _; go_simp; try with_reducible rfl)
      simp only [Dw.lay, Act.put]
      refine Dw.rd1 5 rfl (fun K hK => ?_)
      ·go_simp
       go_at_call 23
       with_reducible refine (cloneS_c d.usA d.usc d.us _ (hlen.2.1) HDa.out.uses).mono ?_
       rintro x wb ⟨Ab, cb, rfl, hbb, hob⟩
       have HXb := zq (HXa.out.below hbb)
       have HZb := zq (HZa.out.below hbb)
       have HDb := zq (HDa.out.below hbb)
       have HBb := zq (below_trans HBa.out hbb)
       have HObb := zq (ClK.of HBa.out hob)
       have HOab := zq (HOaa.out.below hbb)
       clear hbb hob
       refine hK.out _ _ trivial (fun hHeld => ?_)
       clear hHeld hK K
       try simp only [Dw.lay, Act.put]
       refine Dw.rd1 8 rfl (fun K hK => ?_)
       ·go_simp
        go_at_call 56
        with_reducible refine (cloneH_c d.shA d.shc d.sh _ (hlen.2.2) HDb.out.shs).mono ?_
        rintro x wc ⟨Ac, cc, rfl, hbc, hoc⟩
        have HXc := zq (HXb.out.below hbc)
        have HZc := zq (HZb.out.below hbc)
        have HDc := zq (HDb.out.below hbc)
        have HBc := zq (below_trans HBb.out hbc)
        have HOcc := zq (ClK.of HBb.out hoc)
        have HOac := zq (HOab.out.below hbc)
        have HObc := zq (HObb.out.below hbc)
        clear hbc hoc
        refine hK.out _ _ trivial (fun hHeld => ?_)
        clear hHeld hK K
        try simp only [Dw.lay, Act.put]
        have x10 := HXc.out.cell (i := 10) rfl
        have x11 := HXc.out.cell (i := 11) rfl
        have x14 := HXc.out.cell (i := 14) rfl
        have f10 := HXc.out.frozen 10
        have f11 := HXc.out.frozen 11
        have f14 := HXc.out.frozen 14
        refine Dw.rd1 10 rfl (fun K hK => ?_)
        go_simp
        refine hK.out _ _ trivial (fun hHeld => ?_)
        clear hHeld hK K
        try simp only [Dw.lay, Act.put]
        refine Dw.tk 11 ?_ rfl ?_ trivial ?_
        rotate_left 1
        ·(intro w _; go_simp; try with_reducible rfl)
        simp only [Dw.lay, Act.put]
        refine Dw.rd1 12 rfl (fun K hK => ?_)
        go_simp
        refine hK.out _ _ trivial (fun hHeld => ?_)
        clear hHeld hK K
        try simp only [Dw.lay, Act.put]
        refine Dw.tk 13 ?_ rfl ?_ trivial ?_
        rotate_left 1
        ·(intro w _; go_simp; try with_reducible rfl)
        simp only [Dw.lay, Act.put]
        refine Dw.rd1 14 rfl (fun K hK => ?_)
        go_simp
        refine hK.out _ _ trivial (fun hHeld => ?_)
        clear hHeld hK K
        try simp only [Dw.lay, Act.put]
        refine wpAnyH_done (by kernel_rfl) ?_ _
        go_wp2_with fail
        go_meet
        exact own_fin HXc.out HZc.out HOac.out HObc.out HOcc.out HBc.out hbi
   ·have e11 := HX0.out.cell (i := 11) rfl
    go_simp
    clear e11
    refine hK.out _ _ trivial (fun hHeld => ?_)
    clear hHeld hK K
    try simp only [Dw.lay, Act.put]
    refine wpAnyH_ready (rs := [2, 7]) (by kernel_rfl) (by simp) ?_
    refine AllReadyH.cons rfl (fun K hK => ?_) (AllReadyH.cons rfl (fun K hK => ?_) AllReadyH.nil)
    ·go_simp
     go_at_call 55
     with_reducible refine (cloneA_c d.arA d.arc d.ar _ (hlen.1) HD0.out.ars).mono ?_
     rintro x wa ⟨Aa, ca, rfl, hba, hoa⟩
     have HXa := zq (HX0.out.below hba)
     have HZa := zq (HZ0.out.below hba)
     have HDa := zq (HD0.out.below hba)
     have HBa := zq (below_trans HB0.out hba)
     have HOaa := zq (ClK.of HB0.out hoa)
     clear hba hoa
     refine hK.out _ _ trivial (fun hHeld => ?_)
     clear hHeld hK K
     try simp only [Dw.lay, Act.put]
     refine wpAnyH_ready (rs := [5, 7]) (by kernel_rfl) (by simp) ?_
     refine AllReadyH.cons rfl (fun K hK => ?_) (AllReadyH.cons rfl (fun K hK => ?_) AllReadyH.nil)
     ·go_simp
      go_at_call 23
      with_reducible refine (cloneS_c d.usA d.usc d.us _ (hlen.2.1) HDa.out.uses).mono ?_
      rintro x wb ⟨Ab, cb, rfl, hbb, hob⟩
      have HXb := zq (HXa.out.below hbb)
      have HZb := zq (HZa.out.below hbb)
      have HDb := zq (HDa.out.below hbb)
      have HBb := zq (below_trans HBa.out hbb)
      have HObb := zq (ClK.of HBa.out hob)
      have HOab := zq (HOaa.out.below hbb)
      clear hbb hob
      refine hK.out _ _ trivial (fun hHeld => ?_)
      clear hHeld hK K
      try simp only [Dw.lay, Act.put]
      refine Dw.rd1 7 rfl (fun K hK => ?_)
      ·have e14 := HXb.out.cell (i := 14) rfl
       go_simp
       clear e14
       refine hK.out _ _ trivial (fun hHeld => ?_)
       clear hHeld hK K
       try simp only [Dw.lay, Act.put]
       refine Dw.tk 9 ?_ rfl ?_ trivial ?_
       rotate_left 1
       ·(intro w _; go_simp; try with_reducible rfl)
       simp only [Dw.lay, Act.put]
       refine Dw.rd1 8 rfl (fun K hK => ?_)
       ·go_simp
        go_at_call 56
        with_reducible refine (cloneH_c d.shA d.shc d.sh _ (hlen.2.2) HDb.out.shs).mono ?_
        rintro x wc ⟨Ac, cc, rfl, hbc, hoc⟩
        have HXc := zq (HXb.out.below hbc)
        have HZc := zq (HZb.out.below hbc)
        have HDc := zq (HDb.out.below hbc)
        have HBc := zq (below_trans HBb.out hbc)
        have HOcc := zq (ClK.of HBb.out hoc)
        have HOac := zq (HOab.out.below hbc)
        have HObc := zq (HObb.out.below hbc)
        clear hbc hoc
        refine hK.out _ _ trivial (fun hHeld => ?_)
        clear hHeld hK K
        try simp only [Dw.lay, Act.put]
        have x10 := HXc.out.cell (i := 10) rfl
        have x11 := HXc.out.cell (i := 11) rfl
        have x14 := HXc.out.cell (i := 14) rfl
        have f10 := HXc.out.frozen 10
        have f11 := HXc.out.frozen 11
        have f14 := HXc.out.frozen 14
        refine Dw.rd1 10 rfl (fun K hK => ?_)
        go_simp
        refine hK.out _ _ trivial (fun hHeld => ?_)
        clear hHeld hK K
        try simp only [Dw.lay, Act.put]
        refine Dw.tk 11 ?_ rfl ?_ trivial ?_
        rotate_left 1
        ·(intro w _; go_simp; try with_reducible rfl)
        simp only [Dw.lay, Act.put]
        refine Dw.rd1 12 rfl (fun K hK => ?_)
        go_simp
        refine hK.out _ _ trivial (fun hHeld => ?_)
        clear hHeld hK K
        try simp only [Dw.lay, Act.put]
        refine Dw.tk 13 ?_ rfl ?_ trivial ?_
        rotate_left 1
        ·(intro w _; go_simp; try with_reducible rfl)
        simp only [Dw.lay, Act.put]
        refine Dw.rd1 14 rfl (fun K hK => ?_)
        go_simp
        refine hK.out _ _ trivial (fun hHeld => ?_)
        clear hHeld hK K
        try simp only [Dw.lay, Act.put]
        refine wpAnyH_done (by kernel_rfl) ?_ _
        go_wp2_with fail
        go_meet
        exact own_fin HXc.out HZc.out HOac.out HObc.out HOcc.out HBc.out hbi
     ·have e14 := HXa.out.cell (i := 14) rfl
      go_simp
      clear e14
      refine hK.out _ _ trivial (fun hHeld => ?_)
      clear hHeld hK K
      try simp only [Dw.lay, Act.put]
      refine Dw.tk 9 ?_ rfl ?_ trivial ?_
      rotate_left 1
      ·(intro w _; go_simp; try with_reducible rfl)
      simp only [Dw.lay, Act.put]
      refine Dw.rd1 5 rfl (fun K hK => ?_)
      ·go_simp
       go_at_call 23
       with_reducible refine (cloneS_c d.usA d.usc d.us _ (hlen.2.1) HDa.out.uses).mono ?_
       rintro x wb ⟨Ab, cb, rfl, hbb, hob⟩
       have HXb := zq (HXa.out.below hbb)
       have HZb := zq (HZa.out.below hbb)
       have HDb := zq (HDa.out.below hbb)
       have HBb := zq (below_trans HBa.out hbb)
       have HObb := zq (ClK.of HBa.out hob)
       have HOab := zq (HOaa.out.below hbb)
       clear hbb hob
       refine hK.out _ _ trivial (fun hHeld => ?_)
       clear hHeld hK K
       try simp only [Dw.lay, Act.put]
       refine Dw.rd1 8 rfl (fun K hK => ?_)
       ·go_simp
        go_at_call 56
        with_reducible refine (cloneH_c d.shA d.shc d.sh _ (hlen.2.2) HDb.out.shs).mono ?_
        rintro x wc ⟨Ac, cc, rfl, hbc, hoc⟩
        have HXc := zq (HXb.out.below hbc)
        have HZc := zq (HZb.out.below hbc)
        have HDc := zq (HDb.out.below hbc)
        have HBc := zq (below_trans HBb.out hbc)
        have HOcc := zq (ClK.of HBb.out hoc)
        have HOac := zq (HOab.out.below hbc)
        have HObc := zq (HObb.out.below hbc)
        clear hbc hoc
        refine hK.out _ _ trivial (fun hHeld => ?_)
        clear hHeld hK K
        try simp only [Dw.lay, Act.put]
        have x10 := HXc.out.cell (i := 10) rfl
        have x11 := HXc.out.cell (i := 11) rfl
        have x14 := HXc.out.cell (i := 14) rfl
        have f10 := HXc.out.frozen 10
        have f11 := HXc.out.frozen 11
        have f14 := HXc.out.frozen 14
        refine Dw.rd1 10 rfl (fun K hK => ?_)
        go_simp
        refine hK.out _ _ trivial (fun hHeld => ?_)
        clear hHeld hK K
        try simp only [Dw.lay, Act.put]
        refine Dw.tk 11 ?_ rfl ?_ trivial ?_
        rotate_left 1
        ·(intro w _; go_simp; try with_reducible rfl)
        simp only [Dw.lay, Act.put]
        refine Dw.rd1 12 rfl (fun K hK => ?_)
        go_simp
        refine hK.out _ _ trivial (fun hHeld => ?_)
        clear hHeld hK K
        try simp only [Dw.lay, Act.put]
        refine Dw.tk 13 ?_ rfl ?_ trivial ?_
        rotate_left 1
        ·(intro w _; go_simp; try with_reducible rfl)
        simp only [Dw.lay, Act.put]
        refine Dw.rd1 14 rfl (fun K hK => ?_)
        go_simp
        refine hK.out _ _ trivial (fun hHeld => ?_)
        clear hHeld hK K
        try simp only [Dw.lay, Act.put]
        refine wpAnyH_done (by kernel_rfl) ?_ _
        go_wp2_with fail
        go_meet
        exact own_fin HXc.out HZc.out HOac.out HObc.out HOcc.out HBc.out hbi
    ·have e14 := HX0.out.cell (i := 14) rfl
     go_simp
     clear e14
     refine hK.out _ _ trivial (fun hHeld => ?_)
     clear hHeld hK K
     try simp only [Dw.lay, Act.put]
     refine Dw.rd1 2 rfl (fun K hK => ?_)
     ·go_simp
      go_at_call 55
      with_reducible refine (cloneA_c d.arA d.arc d.ar _ (hlen.1) HD0.out.ars).mono ?_
      rintro x wa ⟨Aa, ca, rfl, hba, hoa⟩
      have HXa := zq (HX0.out.below hba)
      have HZa := zq (HZ0.out.below hba)
      have HDa := zq (HD0.out.below hba)
      have HBa := zq (below_trans HB0.out hba)
      have HOaa := zq (ClK.of HB0.out hoa)
      clear hba hoa
      refine hK.out _ _ trivial (fun hHeld => ?_)
      clear hHeld hK K
      try simp only [Dw.lay, Act.put]
      refine Dw.tk 9 ?_ rfl ?_ trivial ?_
      rotate_left 1
      ·(intro w _; go_simp; try with_reducible rfl)
      simp only [Dw.lay, Act.put]
      refine Dw.rd1 5 rfl (fun K hK => ?_)
      ·go_simp
       go_at_call 23
       with_reducible refine (cloneS_c d.usA d.usc d.us _ (hlen.2.1) HDa.out.uses).mono ?_
       rintro x wb ⟨Ab, cb, rfl, hbb, hob⟩
       have HXb := zq (HXa.out.below hbb)
       have HZb := zq (HZa.out.below hbb)
       have HDb := zq (HDa.out.below hbb)
       have HBb := zq (below_trans HBa.out hbb)
       have HObb := zq (ClK.of HBa.out hob)
       have HOab := zq (HOaa.out.below hbb)
       clear hbb hob
       refine hK.out _ _ trivial (fun hHeld => ?_)
       clear hHeld hK K
       try simp only [Dw.lay, Act.put]
       refine Dw.rd1 8 rfl (fun K hK => ?_)
       ·go_simp
        go_at_call 56
        with_reducible refine (cloneH_c d.shA d.shc d.sh _ (hlen.2.2) HDb.out.shs).mono ?_
        rintro x wc ⟨Ac, cc, rfl, hbc, hoc⟩
        have HXc := zq (HXb.out.below hbc)
        have HZc := zq (HZb.out.below hbc)
        have HDc := zq (HDb.out.below hbc)
        have HBc := zq (below_trans HBb.out hbc)
        have HOcc := zq (ClK.of HBb.out hoc)
        have HOac := zq (HOab.out.below hbc)
        have HObc := zq (HObb.out.below hbc)
        clear hbc hoc
        refine hK.out _ _ trivial (fun hHeld => ?_)
        clear hHeld hK K
        try simp only [Dw.lay, Act.put]
        have x10 := HXc.out.cell (i := 10) rfl
        have x11 := HXc.out.cell (i := 11) rfl
        have x14 := HXc.out.cell (i := 14) rfl
        have f10 := HXc.out.frozen 10
        have f11 := HXc.out.frozen 11
        have f14 := HXc.out.frozen 14
        refine Dw.rd1 10 rfl (fun K hK => ?_)
        go_simp
        refine hK.out _ _ trivial (fun hHeld => ?_)
        clear hHeld hK K
        try simp only [Dw.lay, Act.put]
        refine Dw.tk 11 ?_ rfl ?_ trivial ?_
        rotate_left 1
        ·(intro w _; go_simp; try with_reducible rfl)
        simp only [Dw.lay, Act.put]
        refine Dw.rd1 12 rfl (fun K hK => ?_)
        go_simp
        refine hK.out _ _ trivial (fun hHeld => ?_)
        clear hHeld hK K
        try simp only [Dw.lay, Act.put]
        refine Dw.tk 13 ?_ rfl ?_ trivial ?_
        rotate_left 1
        ·(intro w _; go_simp; try with_reducible rfl)
        simp only [Dw.lay, Act.put]
        refine Dw.rd1 14 rfl (fun K hK => ?_)
        go_simp
        refine hK.out _ _ trivial (fun hHeld => ?_)
        clear hHeld hK K
        try simp only [Dw.lay, Act.put]
        refine wpAnyH_done (by kernel_rfl) ?_ _
        go_wp2_with fail
        go_meet
        exact own_fin HXc.out HZc.out HOac.out HObc.out HOcc.out HBc.out hbi
   ·have e14 := HX0.out.cell (i := 14) rfl
    go_simp
    clear e14
    refine hK.out _ _ trivial (fun hHeld => ?_)
    clear hHeld hK K
    try simp only [Dw.lay, Act.put]
    refine wpAnyH_ready (rs := [2, 4]) (by kernel_rfl) (by simp) ?_
    refine AllReadyH.cons rfl (fun K hK => ?_) (AllReadyH.cons rfl (fun K hK => ?_) AllReadyH.nil)
    ·go_simp
     go_at_call 55
     with_reducible refine (cloneA_c d.arA d.arc d.ar _ (hlen.1) HD0.out.ars).mono ?_
     rintro x wa ⟨Aa, ca, rfl, hba, hoa⟩
     have HXa := zq (HX0.out.below hba)
     have HZa := zq (HZ0.out.below hba)
     have HDa := zq (HD0.out.below hba)
     have HBa := zq (below_trans HB0.out hba)
     have HOaa := zq (ClK.of HB0.out hoa)
     clear hba hoa
     refine hK.out _ _ trivial (fun hHeld => ?_)
     clear hHeld hK K
     try simp only [Dw.lay, Act.put]
     refine Dw.rd1 4 rfl (fun K hK => ?_)
     ·have e11 := HXa.out.cell (i := 11) rfl
      go_simp
      clear e11
      refine hK.out _ _ trivial (fun hHeld => ?_)
      clear hHeld hK K
      try simp only [Dw.lay, Act.put]
      refine Dw.tk 9 ?_ rfl ?_ trivial ?_
      rotate_left 1
      ·(intro w _; go_simp; try with_reducible rfl)
      simp only [Dw.lay, Act.put]
      refine Dw.rd1 5 rfl (fun K hK => ?_)
      ·go_simp
       go_at_call 23
       with_reducible refine (cloneS_c d.usA d.usc d.us _ (hlen.2.1) HDa.out.uses).mono ?_
       rintro x wb ⟨Ab, cb, rfl, hbb, hob⟩
       have HXb := zq (HXa.out.below hbb)
       have HZb := zq (HZa.out.below hbb)
       have HDb := zq (HDa.out.below hbb)
       have HBb := zq (below_trans HBa.out hbb)
       have HObb := zq (ClK.of HBa.out hob)
       have HOab := zq (HOaa.out.below hbb)
       clear hbb hob
       refine hK.out _ _ trivial (fun hHeld => ?_)
       clear hHeld hK K
       try simp only [Dw.lay, Act.put]
       refine Dw.rd1 8 rfl (fun K hK => ?_)
       ·go_simp
        go_at_call 56
        with_reducible refine (cloneH_c d.shA d.shc d.sh _ (hlen.2.2) HDb.out.shs).mono ?_
        rintro x wc ⟨Ac, cc, rfl, hbc, hoc⟩
        have HXc := zq (HXb.out.below hbc)
        have HZc := zq (HZb.out.below hbc)
        have HDc := zq (HDb.out.below hbc)
        have HBc := zq (below_trans HBb.out hbc)
        have HOcc := zq (ClK.of HBb.out hoc)
        have HOac := zq (HOab.out.below hbc)
        have HObc := zq (HObb.out.below hbc)
        clear hbc hoc
        refine hK.out _ _ trivial (fun hHeld => ?_)
        clear hHeld hK K
        try simp only [Dw.lay, Act.put]
        have x10 := HXc.out.cell (i := 10) rfl
        have x11 := HXc.out.cell (i := 11) rfl
        have x14 := HXc.out.cell (i := 14) rfl
        have f10 := HXc.out.frozen 10
        have f11 := HXc.out.frozen 11
        have f14 := HXc.out.frozen 14
        refine Dw.rd1 10 rfl (fun K hK => ?_)
        go_simp
        refine hK.out _ _ trivial (fun hHeld => ?_)
        clear hHeld hK K
        try simp only [Dw.lay, Act.put]
        refine Dw.tk 11 ?_ rfl ?_ trivial ?_
        rotate_left 1
        ·(intro w _; go_simp; try with_reducible rfl)
        simp only [Dw.lay, Act.put]
        refine Dw.rd1 12 rfl (fun K hK => ?_)
        go_simp
        refine hK.out _ _ trivial (fun hHeld => ?_)
        clear hHeld hK K
        try simp only [Dw.lay, Act.put]
        refine Dw.tk 13 ?_ rfl ?_ trivial ?_
        rotate_left 1
        ·(intro w _; go_simp; try with_reducible rfl)
        simp only [Dw.lay, Act.put]
        refine Dw.rd1 14 rfl (fun K hK => ?_)
        go_simp
        refine hK.out _ _ trivial (fun hHeld => ?_)
        clear hHeld hK K
        try simp only [Dw.lay, Act.put]
        refine wpAnyH_done (by kernel_rfl) ?_ _
        go_wp2_with fail
        go_meet
        exact own_fin HXc.out HZc.out HOac.out HObc.out HOcc.out HBc.out hbi
    ·have e11 := HX0.out.cell (i := 11) rfl
     go_simp
     clear e11
     refine hK.out _ _ trivial (fun hHeld => ?_)
     clear hHeld hK K
     try simp only [Dw.lay, Act.put]
     refine Dw.rd1 2 rfl (fun K hK => ?_)
     ·go_simp
      go_at_call 55
      with_reducible refine (cloneA_c d.arA d.arc d.ar _ (hlen.1) HD0.out.ars).mono ?_
      rintro x wa ⟨Aa, ca, rfl, hba, hoa⟩
      have HXa := zq (HX0.out.below hba)
      have HZa := zq (HZ0.out.below hba)
      have HDa := zq (HD0.out.below hba)
      have HBa := zq (below_trans HB0.out hba)
      have HOaa := zq (ClK.of HB0.out hoa)
      clear hba hoa
      refine hK.out _ _ trivial (fun hHeld => ?_)
      clear hHeld hK K
      try simp only [Dw.lay, Act.put]
      refine Dw.tk 9 ?_ rfl ?_ trivial ?_
      rotate_left 1
      ·(intro w _; go_simp; try with_reducible rfl)
      simp only [Dw.lay, Act.put]
      refine Dw.rd1 5 rfl (fun K hK => ?_)
      ·go_simp
       go_at_call 23
       with_reducible refine (cloneS_c d.usA d.usc d.us _ (hlen.2.1) HDa.out.uses).mono ?_
       rintro x wb ⟨Ab, cb, rfl, hbb, hob⟩
       have HXb := zq (HXa.out.below hbb)
       have HZb := zq (HZa.out.below hbb)
       have HDb := zq (HDa.out.below hbb)
       have HBb := zq (below_trans HBa.out hbb)
       have HObb := zq (ClK.of HBa.out hob)
       have HOab := zq (HOaa.out.below hbb)
       clear hbb hob
       refine hK.out _ _ trivial (fun hHeld => ?_)
       clear hHeld hK K
       try simp only [Dw.lay, Act.put]
       refine Dw.rd1 8 rfl (fun K hK => ?_)
       ·go_simp
        go_at_call 56
        with_reducible refine (cloneH_c d.shA d.shc d.sh _ (hlen.2.2) HDb.out.shs).mono ?_
        rintro x wc ⟨Ac, cc, rfl, hbc, hoc⟩
        have HXc := zq (HXb.out.below hbc)
        have HZc := zq (HZb.out.below hbc)
        have HDc := zq (HDb.out.below hbc)
        have HBc := zq (below_trans HBb.out hbc)
        have HOcc := zq (ClK.of HBb.out hoc)
        have HOac := zq (HOab.out.below hbc)
        have HObc := zq (HObb.out.below hbc)
        clear hbc hoc
        refine hK.out _ _ trivial (fun hHeld => ?_)
        clear hHeld hK K
        try simp only [Dw.lay, Act.put]
        have x10 := HXc.out.cell (i := 10) rfl
        have x11 := HXc.out.cell (i := 11) rfl
        have x14 := HXc.out.cell (i := 14) rfl
        have f10 := HXc.out.frozen 10
        have f11 := HXc.out.frozen 11
        have f14 := HXc.out.frozen 14
        refine Dw.rd1 10 rfl (fun K hK => ?_)
        go_simp
        refine hK.out _ _ trivial (fun hHeld => ?_)
        clear hHeld hK K
        try simp only [Dw.lay, Act.put]
        refine Dw.tk 11 ?_ rfl ?_ trivial ?_
        rotate_left 1
        ·(intro w _; go_simp; try with_reducible rfl)
        simp only [Dw.lay, Act.put]
        refine Dw.rd1 12 rfl (fun K hK => ?_)
        go_simp
        refine hK.out _ _ trivial (fun hHeld => ?_)
        clear hHeld hK K
        try simp only [Dw.lay, Act.put]
        refine Dw.tk 13 ?_ rfl ?_ trivial ?_
        rotate_left 1
        ·(intro w _; go_simp; try with_reducible rfl)
        simp only [Dw.lay, Act.put]
        refine Dw.rd1 14 rfl (fun K hK => ?_)
        go_simp
        refine hK.out _ _ trivial (fun hHeld => ?_)
        clear hHeld hK K
        try simp only [Dw.lay, Act.put]
        refine wpAnyH_done (by kernel_rfl) ?_ _
        go_wp2_with fail
        go_meet
        exact own_fin HXc.out HZc.out HOac.out HObc.out HOcc.out HBc.out hbi
  ·have e11 := HX0.out.cell (i := 11) rfl
   go_simp
   clear e11
   refine hK.out _ _ trivial (fun hHeld => ?_)
   clear hHeld hK K
   try simp only [Dw.lay, Act.put]
   refine wpAnyH_ready (rs := [1, 7]) (by kernel_rfl) (by simp) ?_
   refine AllReadyH.cons rfl (fun K hK => ?_) (AllReadyH.cons rfl (fun K hK => ?_) AllReadyH.nil)
   ·have e10 := HX0.out.cell (i := 10) rfl
    go_simp
    clear e10
    refine hK.out _ _ trivial (fun hHeld => ?_)
    clear hHeld hK K
    try simp only [Dw.lay, Act.put]
    refine wpAnyH_ready (rs := [2, 7]) (by kernel_rfl) (by simp) ?_
    refine AllReadyH.cons rfl (fun K hK => ?_) (AllReadyH.cons rfl (fun K hK => ?_) AllReadyH.nil)
    ·go_simp
     go_at_call 55
     with_reducible refine (cloneA_c d.arA d.arc d.ar _ (hlen.1) HD0.out.ars).mono ?_
     rintro x wa ⟨Aa, ca, rfl, hba, hoa⟩
     have HXa := zq (HX0.out.below hba)
     have HZa := zq (HZ0.out.below hba)
     have HDa := zq (HD0.out.below hba)
     have HBa := zq (below_trans HB0.out hba)
     have HOaa := zq (ClK.of HB0.out hoa)
     clear hba hoa
     refine hK.out _ _ trivial (fun hHeld => ?_)
     clear hHeld hK K
     try simp only [Dw.lay, Act.put]
     refine wpAnyH_ready (rs := [5, 7]) (by kernel_rfl) (by simp) ?_
     refine AllReadyH.cons rfl (fun K hK => ?_) (AllReadyH.cons rfl (fun K hK => ?_) AllReadyH.nil)
     ·go_simp
      go_at_call 23
      with_reducible refine (cloneS_c d.usA d.usc d.us _ (hlen.2.1) HDa.out.uses).mono ?_
      rintro x wb ⟨Ab, cb, rfl, hbb, hob⟩
      have HXb := zq (HXa.out.below hbb)
      have HZb := zq (HZa.out.below hbb)
      have HDb := zq (HDa.out.below hbb)
      have HBb := zq (below_trans HBa.out hbb)
      have HObb := zq (ClK.of HBa.out hob)
      have HOab := zq (HOaa.out.below hbb)
      clear hbb hob
      refine hK.out _ _ trivial (fun hHeld => ?_)
      clear hHeld hK K
      try simp only [Dw.lay, Act.put]
      refine Dw.rd1 7 rfl (fun K hK => ?_)
      ·have e14 := HXb.out.cell (i := 14) rfl
       go_simp
       clear e14
       refine hK.out _ _ trivial (fun hHeld => ?_)
       clear hHeld hK K
       try simp only [Dw.lay, Act.put]
       refine Dw.tk 9 ?_ rfl ?_ trivial ?_
       rotate_left 1
       ·(intro w _; go_simp; try with_reducible rfl)
       simp only [Dw.lay, Act.put]
       refine Dw.rd1 8 rfl (fun K hK => ?_)
       ·go_simp
        go_at_call 56
        with_reducible refine (cloneH_c d.shA d.shc d.sh _ (hlen.2.2) HDb.out.shs).mono ?_
        rintro x wc ⟨Ac, cc, rfl, hbc, hoc⟩
        have HXc := zq (HXb.out.below hbc)
        have HZc := zq (HZb.out.below hbc)
        have HDc := zq (HDb.out.below hbc)
        have HBc := zq (below_trans HBb.out hbc)
        have HOcc := zq (ClK.of HBb.out hoc)
        have HOac := zq (HOab.out.below hbc)
        have HObc := zq (HObb.out.below hbc)
        clear hbc hoc
        refine hK.out _ _ trivial (fun hHeld => ?_)
        clear hHeld hK K
        try simp only [Dw.lay, Act.put]
        have x10 := HXc.out.cell (i := 10) rfl
        have x11 := HXc.out.cell (i := 11) rfl
        have x14 := HXc.out.cell (i := 14) rfl
        have f10 := HXc.out.frozen 10
        have f11 := HXc.out.frozen 11
        have f14 := HXc.out.frozen 14
        refine Dw.rd1 10 rfl (fun K hK => ?_)
        go_simp
        refine hK.out _ _ trivial (fun hHeld => ?_)
        clear hHeld hK K
        try simp only [Dw.lay, Act.put]
        refine Dw.tk 11 ?_ rfl ?_ trivial ?_
        rotate_left 1
        ·(intro w _; go_simp; try with_reducible rfl)
        simp only [Dw.lay, Act.put]
        refine Dw.rd1 12 rfl (fun K hK => ?_)
        go_simp
        refine hK.out _ _ trivial (fun hHeld => ?_)
        clear hHeld hK K
        try simp only [Dw.lay, Act.put]
        refine Dw.tk 13 ?_ rfl ?_ trivial ?_
        rotate_left 1
        ·(intro w _; go_simp; try with_reducible rfl)
        simp only [Dw.lay, Act.put]
        refine Dw.rd1 14 rfl (fun K hK => ?_)
        go_simp
        refine hK.out _ _ trivial (fun hHeld => ?_)
        clear hHeld hK K
        try simp only [Dw.lay, Act.put]
        refine wpAnyH_done (by kernel_rfl) ?_ _
        go_wp2_with fail
        go_meet
        exact own_fin HXc.out HZc.out HOac.out HObc.out HOcc.out HBc.out hbi
     ·have e14 := HXa.out.cell (i := 14) rfl
      go_simp
      clear e14
      refine hK.out _ _ trivial (fun hHeld => ?_)
      clear hHeld hK K
      try simp only [Dw.lay, Act.put]
      refine Dw.tk 9 ?_ rfl ?_ trivial ?_
      rotate_left 1
      ·(intro w _; go_simp; try with_reducible rfl)
      simp only [Dw.lay, Act.put]
      refine Dw.rd1 5 rfl (fun K hK => ?_)
      ·go_simp
       go_at_call 23
       with_reducible refine (cloneS_c d.usA d.usc d.us _ (hlen.2.1) HDa.out.uses).mono ?_
       rintro x wb ⟨Ab, cb, rfl, hbb, hob⟩
       have HXb := zq (HXa.out.below hbb)
       have HZb := zq (HZa.out.below hbb)
       have HDb := zq (HDa.out.below hbb)
       have HBb := zq (below_trans HBa.out hbb)
       have HObb := zq (ClK.of HBa.out hob)
       have HOab := zq (HOaa.out.below hbb)
       clear hbb hob
       refine hK.out _ _ trivial (fun hHeld => ?_)
       clear hHeld hK K
       try simp only [Dw.lay, Act.put]
       refine Dw.rd1 8 rfl (fun K hK => ?_)
       ·go_simp
        go_at_call 56
        with_reducible refine (cloneH_c d.shA d.shc d.sh _ (hlen.2.2) HDb.out.shs).mono ?_
        rintro x wc ⟨Ac, cc, rfl, hbc, hoc⟩
        have HXc := zq (HXb.out.below hbc)
        have HZc := zq (HZb.out.below hbc)
        have HDc := zq (HDb.out.below hbc)
        have HBc := zq (below_trans HBb.out hbc)
        have HOcc := zq (ClK.of HBb.out hoc)
        have HOac := zq (HOab.out.below hbc)
        have HObc := zq (HObb.out.below hbc)
        clear hbc hoc
        refine hK.out _ _ trivial (fun hHeld => ?_)
        clear hHeld hK K
        try simp only [Dw.lay, Act.put]
        have x10 := HXc.out.cell (i := 10) rfl
        have x11 := HXc.out.cell (i := 11) rfl
        have x14 := HXc.out.cell (i := 14) rfl
        have f10 := HXc.out.frozen 10
        have f11 := HXc.out.frozen 11
        have f14 := HXc.out.frozen 14
        refine Dw.rd1 10 rfl (fun K hK => ?_)
        go_simp
        refine hK.out _ _ trivial (fun hHeld => ?_)
        clear hHeld hK K
        try simp only [Dw.lay, Act.put]
        refine Dw.tk 11 ?_ rfl ?_ trivial ?_
        rotate_left 1
        ·(intro w _; go_simp; try with_reducible rfl)
        simp only [Dw.lay, Act.put]
        refine Dw.rd1 12 rfl (fun K hK => ?_)
        go_simp
        refine hK.out _ _ trivial (fun hHeld => ?_)
        clear hHeld hK K
        try simp only [Dw.lay, Act.put]
        refine Dw.tk 13 ?_ rfl ?_ trivial ?_
        rotate_left 1
        ·(intro w _; go_simp; try with_reducible rfl)
        simp only [Dw.lay, Act.put]
        refine Dw.rd1 14 rfl (fun K hK => ?_)
        go_simp
        refine hK.out _ _ trivial (fun hHeld => ?_)
        clear hHeld hK K
        try simp only [Dw.lay, Act.put]
        refine wpAnyH_done (by kernel_rfl) ?_ _
        go_wp2_with fail
        go_meet
        exact own_fin HXc.out HZc.out HOac.out HObc.out HOcc.out HBc.out hbi
    ·have e14 := HX0.out.cell (i := 14) rfl
     go_simp
     clear e14
     refine hK.out _ _ trivial (fun hHeld => ?_)
     clear hHeld hK K
     try simp only [Dw.lay, Act.put]
     refine Dw.rd1 2 rfl (fun K hK => ?_)
     ·go_simp
      go_at_call 55
      with_reducible refine (cloneA_c d.arA d.arc d.ar _ (hlen.1) HD0.out.ars).mono ?_
      rintro x wa ⟨Aa, ca, rfl, hba, hoa⟩
      have HXa := zq (HX0.out.below hba)
      have HZa := zq (HZ0.out.below hba)
      have HDa := zq (HD0.out.below hba)
      have HBa := zq (below_trans HB0.out hba)
      have HOaa := zq (ClK.of HB0.out hoa)
      clear hba hoa
      refine hK.out _ _ trivial (fun hHeld => ?_)
      clear hHeld hK K
      try simp only [Dw.lay, Act.put]
      refine Dw.tk 9 ?_ rfl ?_ trivial ?_
      rotate_left 1
      ·(intro w _; go_simp; try with_reducible rfl)
      simp only [Dw.lay, Act.put]
      refine Dw.rd1 5 rfl (fun K hK => ?_)
      ·go_simp
       go_at_call 23
       with_reducible refine (cloneS_c d.usA d.usc d.us _ (hlen.2.1) HDa.out.uses).mono ?_
       rintro x wb ⟨Ab, cb, rfl, hbb, hob⟩
       have HXb := zq (HXa.out.below hbb)
       have HZb := zq (HZa.out.below hbb)
       have HDb := zq (HDa.out.below hbb)
       have HBb := zq (below_trans HBa.out hbb)
       have HObb := zq (ClK.of HBa.out hob)
       have HOab := zq (HOaa.out.below hbb)
       clear hbb hob
       refine hK.out _ _ trivial (fun hHeld => ?_)
       clear hHeld hK K
       try simp only [Dw.lay, Act.put]
       refine Dw.rd1 8 rfl (fun K hK => ?_)
       ·go_simp
        go_at_call 56
        with_reducible refine (cloneH_c d.shA d.shc d.sh _ (hlen.2.2) HDb.out.shs).mono ?_
        rintro x wc ⟨Ac, cc, rfl, hbc, hoc⟩
        have HXc := zq (HXb.out.below hbc)
        have HZc := zq (HZb.out.below hbc)
        have HDc := zq (HDb.out.below hbc)
        have HBc := zq (below_trans HBb.out hbc)
        have HOcc := zq (ClK.of HBb.out hoc)
        have HOac := zq (HOab.out.below hbc)
        have HObc := zq (HObb.out.below hbc)
        clear hbc hoc
        refine hK.out _ _ trivial (fun hHeld => ?_)
        clear hHeld hK K
        try simp only [Dw.lay, Act.put]
        have x10 := HXc.out.cell (i := 10) rfl
        have x11 := HXc.out.cell (i := 11) rfl
        have x14 := HXc.out.cell (i := 14) rfl
        have f10 := HXc.out.frozen 10
        have f11 := HXc.out.frozen 11
        have f14 := HXc.out.frozen 14
        refine Dw.rd1 10 rfl (fun K hK => ?_)
        go_simp
        refine hK.out _ _ trivial (fun hHeld => ?_)
        clear hHeld hK K
        try simp only [Dw.lay, Act.put]
        refine Dw.tk 11 ?_ rfl ?_ trivial ?_
        rotate_left 1
        ·(intro w _; go_simp; try with_reducible rfl)
        simp only [Dw.lay, Act.put]
        refine Dw.rd1 12 rfl (fun K hK => ?_)
        go_simp
        refine hK.out _ _ trivial (fun hHeld => ?_)
        clear hHeld hK K
        try simp only [Dw.lay, Act.put]
        refine Dw.tk 13 ?_ rfl ?_ trivial ?_
        rotate_left 1
        ·(intro w _; go_simp; try with_reducible rfl)
        simp only [Dw.lay, Act.put]
        refine Dw.rd1 14 rfl (fun K hK => ?_)
        go_simp
        refine hK.out _ _ trivial (fun hHeld => ?_)
        clear hHeld hK K
        try simp only [Dw.lay, Act.put]
        refine wpAnyH_done (by kernel_rfl) ?_ _
        go_wp2_with fail
        go_meet
        exact own_fin HXc.out HZc.out HOac.out HObc.out HOcc.out HBc.out hbi
   ·have e14 := HX0.out.cell (i := 14) rfl
    go_simp
    clear e14
    refine hK.out _ _ trivial (fun hHeld => ?_)
    clear hHeld hK K
    try simp only [Dw.lay, Act.put]
    refine Dw.rd1 1 rfl (fun K hK => ?_)
    ·have e10 := HX0.out.cell (i := 10) rfl
     go_simp
     clear e10
     refine hK.out _ _ trivial (fun hHeld => ?_)
     clear hHeld hK K
     try simp only [Dw.lay, Act.put]
     refine Dw.rd1 2 rfl (fun K hK => ?_)
     ·go_simp
      go_at_call 55
      with_reducible refine (cloneA_c d.arA d.arc d.ar _ (hlen.1) HD0.out.ars).mono ?_
      rintro x wa ⟨Aa, ca, rfl, hba, hoa⟩
      have HXa := zq (HX0.out.below hba)
      have HZa := zq (HZ0.out.below hba)
      have HDa := zq (HD0.out.below hba)
      have HBa := zq (below_trans HB0.out hba)
      have HOaa := zq (ClK.of HB0.out hoa)
      clear hba hoa
      refine hK.out _ _ trivial (fun hHeld => ?_)
      clear hHeld hK K
      try simp only [Dw.lay, Act.put]
      refine Dw.tk 9 ?_ rfl ?_ trivial ?_
      rotate_left 1
      ·(intro w _; go_simp; try with_reducible rfl)
      simp only [Dw.lay, Act.put]
      refine Dw.rd1 5 rfl (fun K hK => ?_)
      ·go_simp
       go_at_call 23
       with_reducible refine (cloneS_c d.usA d.usc d.us _ (hlen.2.1) HDa.out.uses).mono ?_
       rintro x wb ⟨Ab, cb, rfl, hbb, hob⟩
       have HXb := zq (HXa.out.below hbb)
       have HZb := zq (HZa.out.below hbb)
       have HDb := zq (HDa.out.below hbb)
       have HBb := zq (below_trans HBa.out hbb)
       have HObb := zq (ClK.of HBa.out hob)
       have HOab := zq (HOaa.out.below hbb)
       clear hbb hob
       refine hK.out _ _ trivial (fun hHeld => ?_)
       clear hHeld hK K
       try simp only [Dw.lay, Act.put]
       refine Dw.rd1 8 rfl (fun K hK => ?_)
       ·go_simp
        go_at_call 56
        with_reducible refine (cloneH_c d.shA d.shc d.sh _ (hlen.2.2) HDb.out.shs).mono ?_
        rintro x wc ⟨Ac, cc, rfl, hbc, hoc⟩
        have HXc := zq (HXb.out.below hbc)
        have HZc := zq (HZb.out.below hbc)
        have HDc := zq (HDb.out.below hbc)
        have HBc := zq (below_trans HBb.out hbc)
        have HOcc := zq (ClK.of HBb.out hoc)
        have HOac := zq (HOab.out.below hbc)
        have HObc := zq (HObb.out.below hbc)
        clear hbc hoc
        refine hK.out _ _ trivial (fun hHeld => ?_)
        clear hHeld hK K
        try simp only [Dw.lay, Act.put]
        have x10 := HXc.out.cell (i := 10) rfl
        have x11 := HXc.out.cell (i := 11) rfl
        have x14 := HXc.out.cell (i := 14) rfl
        have f10 := HXc.out.frozen 10
        have f11 := HXc.out.frozen 11
        have f14 := HXc.out.frozen 14
        refine Dw.rd1 10 rfl (fun K hK => ?_)
        go_simp
        refine hK.out _ _ trivial (fun hHeld => ?_)
        clear hHeld hK K
        try simp only [Dw.lay, Act.put]
        refine Dw.tk 11 ?_ rfl ?_ trivial ?_
        rotate_left 1
        ·(intro w _; go_simp; try with_reducible rfl)
        simp only [Dw.lay, Act.put]
        refine Dw.rd1 12 rfl (fun K hK => ?_)
        go_simp
        refine hK.out _ _ trivial (fun hHeld => ?_)
        clear hHeld hK K
        try simp only [Dw.lay, Act.put]
        refine Dw.tk 13 ?_ rfl ?_ trivial ?_
        rotate_left 1
        ·(intro w _; go_simp; try with_reducible rfl)
        simp only [Dw.lay, Act.put]
        refine Dw.rd1 14 rfl (fun K hK => ?_)
        go_simp
        refine hK.out _ _ trivial (fun hHeld => ?_)
        clear hHeld hK K
        try simp only [Dw.lay, Act.put]
        refine wpAnyH_done (by kernel_rfl) ?_ _
        go_wp2_with fail
        go_meet
        exact own_fin HXc.out HZc.out HOac.out HObc.out HOcc.out HBc.out hbi
  ·have e14 := HX0.out.cell (i := 14) rfl
   go_simp
   clear e14
   refine hK.out _ _ trivial (fun hHeld => ?_)
   clear hHeld hK K
   try simp only [Dw.lay, Act.put]
   refine wpAnyH_ready (rs := [1, 4]) (by kernel_rfl) (by simp) ?_
   refine AllReadyH.cons rfl (fun K hK => ?_) (AllReadyH.cons rfl (fun K hK => ?_) AllReadyH.nil)
   ·have e10 := HX0.out.cell (i := 10) rfl
    go_simp
    clear e10
    refine hK.out _ _ trivial (fun hHeld => ?_)
    clear hHeld hK K
    try simp only [Dw.lay, Act.put]
    refine wpAnyH_ready (rs := [2, 4]) (by kernel_rfl) (by simp) ?_
    refine AllReadyH.cons rfl (fun K hK => ?_) (AllReadyH.cons rfl (fun K hK => ?_) AllReadyH.nil)
    ·go_simp
     go_at_call 55
     with_reducible refine (cloneA_c d.arA d.arc d.ar _ (hlen.1) HD0.out.ars).mono ?_
     rintro x wa ⟨Aa, ca, rfl, hba, hoa⟩
     have HXa := zq (HX0.out.below hba)
     have HZa := zq (HZ0.out.below hba)
     have HDa := zq (HD0.out.below hba)
     have HBa := zq (below_trans HB0.out hba)
     have HOaa := zq (ClK.of HB0.out hoa)
     clear hba hoa
     refine hK.out _ _ trivial (fun hHeld => ?_)
     clear hHeld hK K
     try simp only [Dw.lay, Act.put]
     refine Dw.rd1 4 rfl (fun K hK => ?_)
     ·have e11 := HXa.out.cell (i := 11) rfl
      go_simp
      clear e11
      refine hK.out _ _ trivial (fun hHeld => ?_)
      clear hHeld hK K
      try simp only [Dw.lay, Act.put]
      refine Dw.tk 9 ?_ rfl ?_ trivial ?_
      rotate_left 1
      ·(intro w _; go_simp; try with_reducible rfl)
      simp only [Dw.lay, Act.put]
      refine Dw.rd1 5 rfl (fun K hK => ?_)
      ·go_simp
       go_at_call 23
       with_reducible refine (cloneS_c d.usA d.usc d.us _ (hlen.2.1) HDa.out.uses).mono ?_
       rintro x wb ⟨Ab, cb, rfl, hbb, hob⟩
       have HXb := zq (HXa.out.below hbb)
       have HZb := zq (HZa.out.below hbb)
       have HDb := zq (HDa.out.below hbb)
       have HBb := zq (below_trans HBa.out hbb)
       have HObb := zq (ClK.of HBa.out hob)
       have HOab := zq (HOaa.out.below hbb)
       clear hbb hob
       refine hK.out _ _ trivial (fun hHeld => ?_)
       clear hHeld hK K
       try simp only [Dw.lay, Act.put]
       refine Dw.rd1 8 rfl (fun K hK => ?_)
       ·go_simp
        go_at_call 56
        with_reducible refine (cloneH_c d.shA d.shc d.sh _ (hlen.2.2) HDb.out.shs).mono ?_
        rintro x wc ⟨Ac, cc, rfl, hbc, hoc⟩
        have HXc := zq (HXb.out.below hbc)
        have HZc := zq (HZb.out.below hbc)
        have HDc := zq (HDb.out.below hbc)
        have HBc := zq (below_trans HBb.out hbc)
        have HOcc := zq (ClK.of HBb.out hoc)
        have HOac := zq (HOab.out.below hbc)
        have HObc := zq (HObb.out.below hbc)
        clear hbc hoc
        refine hK.out _ _ trivial (fun hHeld => ?_)
        clear hHeld hK K
        try simp only [Dw.lay, Act.put]
        have x10 := HXc.out.cell (i := 10) rfl
        have x11 := HXc.out.cell (i := 11) rfl
        have x14 := HXc.out.cell (i := 14) rfl
        have f10 := HXc.out.frozen 10
        have f11 := HXc.out.frozen 11
        have f14 := HXc.out.frozen 14
        refine Dw.rd1 10 rfl (fun K hK => ?_)
        go_simp
        refine hK.out _ _ trivial (fun hHeld => ?_)
        clear hHeld hK K
        try simp only [Dw.lay, Act.put]
        refine Dw.tk 11 ?_ rfl ?_ trivial ?_
        rotate_left 1
        ·(intro w _; go_simp; try with_reducible rfl)
        simp only [Dw.lay, Act.put]
        refine Dw.rd1 12 rfl (fun K hK => ?_)
        go_simp
        refine hK.out _ _ trivial (fun hHeld => ?_)
        clear hHeld hK K
        try simp only [Dw.lay, Act.put]
        refine Dw.tk 13 ?_ rfl ?_ trivial ?_
        rotate_left 1
        ·(intro w _; go_simp; try with_reducible rfl)
        simp only [Dw.lay, Act.put]
        refine Dw.rd1 14 rfl (fun K hK => ?_)
        go_simp
        refine hK.out _ _ trivial (fun hHeld => ?_)
        clear hHeld hK K
        try simp only [Dw.lay, Act.put]
        refine wpAnyH_done (by kernel_rfl) ?_ _
        go_wp2_with fail
        go_meet
        exact own_fin HXc.out HZc.out HOac.out HObc.out HOcc.out HBc.out hbi
    ·have e11 := HX0.out.cell (i := 11) rfl
     go_simp
     clear e11
     refine hK.out _ _ trivial (fun hHeld => ?_)
     clear hHeld hK K
     try simp only [Dw.lay, Act.put]
     refine Dw.rd1 2 rfl (fun K hK => ?_)
     ·go_simp
      go_at_call 55
      with_reducible refine (cloneA_c d.arA d.arc d.ar _ (hlen.1) HD0.out.ars).mono ?_
      rintro x wa ⟨Aa, ca, rfl, hba, hoa⟩
      have HXa := zq (HX0.out.below hba)
      have HZa := zq (HZ0.out.below hba)
      have HDa := zq (HD0.out.below hba)
      have HBa := zq (below_trans HB0.out hba)
      have HOaa := zq (ClK.of HB0.out hoa)
      clear hba hoa
      refine hK.out _ _ trivial (fun hHeld => ?_)
      clear hHeld hK K
      try simp only [Dw.lay, Act.put]
      refine Dw.tk 9 ?_ rfl ?_ trivial ?_
      rotate_left 1
      ·(intro w _; go_simp; try with_reducible rfl)
      simp only [Dw.lay, Act.put]
      refine Dw.rd1 5 rfl (fun K hK => ?_)
      ·go_simp
       go_at_call 23
       with_reducible refine (cloneS_c d.usA d.usc d.us _ (hlen.2.1) HDa.out.uses).mono ?_
       rintro x wb ⟨Ab, cb, rfl, hbb, hob⟩
       have HXb := zq (HXa.out.below hbb)
       have HZb := zq (HZa.out.below hbb)
       have HDb := zq (HDa.out.below hbb)
       have HBb := zq (below_trans HBa.out hbb)
       have HObb := zq (ClK.of HBa.out hob)
       have HOab := zq (HOaa.out.below hbb)
       clear hbb hob
       refine hK.out _ _ trivial (fun hHeld => ?_)
       clear hHeld hK K
       try simp only [Dw.lay, Act.put]
       refine Dw.rd1 8 rfl (fun K hK => ?_)
       ·go_simp
        go_at_call 56
        with_reducible refine (cloneH_c d.shA d.shc d.sh _ (hlen.2.2) HDb.out.shs).mono ?_
        rintro x wc ⟨Ac, cc, rfl, hbc, hoc⟩
        have HXc := zq (HXb.out.below hbc)
        have HZc := zq (HZb.out.below hbc)
        have HDc := zq (HDb.out.below hbc)
        have HBc := zq (below_trans HBb.out hbc)
        have HOcc := zq (ClK.of HBb.out hoc)
        have HOac := zq (HOab.out.below hbc)
        have HObc := zq (HObb.out.below hbc)
        clear hbc hoc
        refine hK.out _ _ trivial (fun hHeld => ?_)
        clear hHeld hK K
        try simp only [Dw.lay, Act.put]
        have x10 := HXc.out.cell (i := 10) rfl
        have x11 := HXc.out.cell (i := 11) rfl
        have x14 := HXc.out.cell (i := 14) rfl
        have f10 := HXc.out.frozen 10
        have f11 := HXc.out.frozen 11
        have f14 := HXc.out.frozen 14
        refine Dw.rd1 10 rfl (fun K hK => ?_)
        go_simp
        refine hK.out _ _ trivial (fun hHeld => ?_)
        clear hHeld hK K
        try simp only [Dw.lay, Act.put]
        refine Dw.tk 11 ?_ rfl ?_ trivial ?_
        rotate_left 1
        ·(intro w _; go_simp; try with_reducible rfl)
        simp only [Dw.lay, Act.put]
        refine Dw.rd1 12 rfl (fun K hK => ?_)
        go_simp
        refine hK.out _ _ trivial (fun hHeld => ?_)
        clear hHeld hK K
        try simp only [Dw.lay, Act.put]
        refine Dw.tk 13 ?_ rfl ?_ trivial ?_
        rotate_left 1
        ·(intro w _; go_simp; try with_reducible rfl)
        simp only [Dw.lay, Act.put]
        refine Dw.rd1 14 rfl (fun K hK => ?_)
        go_simp
        refine hK.out _ _ trivial (fun hHeld => ?_)
        clear hHeld hK K
        try simp only [Dw.lay, Act.put]
        refine wpAnyH_done (by kernel_rfl) ?_ _
        go_wp2_with fail
        go_meet
        exact own_fin HXc.out HZc.out HOac.out HObc.out HOcc.out HBc.out hbi
   ·have e11 := HX0.out.cell (i := 11) rfl
    go_simp
    clear e11
    refine hK.out _ _ trivial (fun hHeld => ?_)
    clear hHeld hK K
    try simp only [Dw.lay, Act.put]
    refine Dw.rd1 1 rfl (fun K hK => ?_)
    ·have e10 := HX0.out.cell (i := 10) rfl
     go_simp
     clear e10
     refine hK.out _ _ trivial (fun hHeld => ?_)
     clear hHeld hK K
     try simp only [Dw.lay, Act.put]
     refine Dw.rd1 2 rfl (fun K hK => ?_)
     ·go_simp
      go_at_call 55
      with_reducible refine (cloneA_c d.arA d.arc d.ar _ (hlen.1) HD0.out.ars).mono ?_
      rintro x wa ⟨Aa, ca, rfl, hba, hoa⟩
      have HXa := zq (HX0.out.below hba)
      have HZa := zq (HZ0.out.below hba)
      have HDa := zq (HD0.out.below hba)
      have HBa := zq (below_trans HB0.out hba)
      have HOaa := zq (ClK.of HB0.out hoa)
      clear hba hoa
      refine hK.out _ _ trivial (fun hHeld => ?_)
      clear hHeld hK K
      try simp only [Dw.lay, Act.put]
      refine Dw.tk 9 ?_ rfl ?_ trivial ?_
      rotate_left 1
      ·(intro w _; go_simp; try with_reducible rfl)
      simp only [Dw.lay, Act.put]
      refine Dw.rd1 5 rfl (fun K hK => ?_)
      ·go_simp
       go_at_call 23
       with_reducible refine (cloneS_c d.usA d.usc d.us _ (hlen.2.1) HDa.out.uses).mono ?_
       rintro x wb ⟨Ab, cb, rfl, hbb, hob⟩
       have HXb := zq (HXa.out.below hbb)
       have HZb := zq (HZa.out.below hbb)
       have HDb := zq (HDa.out.below hbb)
       have HBb := zq (below_trans HBa.out hbb)
       have HObb := zq (ClK.of HBa.out hob)
       have HOab := zq (HOaa.out.below hbb)
       clear hbb hob
       refine hK.out _ _ trivial (fun hHeld => ?_)
       clear hHeld hK K
       try simp only [Dw.lay, Act.put]
       refine Dw.rd1 8 rfl (fun K hK => ?_)
       ·go_simp
        go_at_call 56
        with_reducible refine (cloneH_c d.shA d.shc d.sh _ (hlen.2.2) HDb.out.shs).mono ?_
        rintro x wc ⟨Ac, cc, rfl, hbc, hoc⟩
        have HXc := zq (HXb.out.below hbc)
        have HZc := zq (HZb.out.below hbc)
        have HDc := zq (HDb.out.below hbc)
        have HBc := zq (below_trans HBb.out hbc)
        have HOcc := zq (ClK.of HBb.out hoc)
        have HOac := zq (HOab.out.below hbc)
        have HObc := zq (HObb.out.below hbc)
        clear hbc hoc
        refine hK.out _ _ trivial (fun hHeld => ?_)
        clear hHeld hK K
        try simp only [Dw.lay, Act.put]
        have x10 := HXc.out.cell (i := 10) rfl
        have x11 := HXc.out.cell (i := 11) rfl
        have x14 := HXc.out.cell (i := 14) rfl
        have f10 := HXc.out.frozen 10
        have f11 := HXc.out.frozen 11
        have f14 := HXc.out.frozen 14
        refine Dw.rd1 10 rfl (fun K hK => ?_)
        go_simp
        refine hK.out _ _ trivial (fun hHeld => ?_)
        clear hHeld hK K
        try simp only [Dw.lay, Act.put]
        refine Dw.tk 11 ?_ rfl ?_ trivial ?_
        rotate_left 1
        ·(intro w _; go_simp; try with_reducible rfl)
        simp only [Dw.lay, Act.put]
        refine Dw.rd1 12 rfl (fun K hK => ?_)
        go_simp
        refine hK.out _ _ trivial (fun hHeld => ?_)
        clear hHeld hK K
        try simp only [Dw.lay, Act.put]
        refine Dw.tk 13 ?_ rfl ?_ trivial ?_
        rotate_left 1
        ·(intro w _; go_simp; try with_reducible rfl)
        simp only [Dw.lay, Act.put]
        refine Dw.rd1 14 rfl (fun K hK => ?_)
        go_simp
        refine hK.out _ _ trivial (fun hHeld => ?_)
        clear hHeld hK K
        try simp only [Dw.lay, Act.put]
        refine wpAnyH_done (by kernel_rfl) ?_ _
        go_wp2_with fail
        go_meet
        exact own_fin HXc.out HZc.out HOac.out HObc.out HOcc.out HBc.out hbi
 case rest =>
  obtain ⟨A1, c1, A2, c2, A3, c3, hx, hz, h1, h2, h3, ⟨o1, o2, o3, o4⟩, hk⟩ := hcut
  have HX9 := zq hx
  have HZ9 := zq hz
  have hst : (storeVar 54 ⟨w.heap.size + 1, 0, none⟩ (.agg (deC (dOwn d A1 c1 A2 c2 A3 c3)))).run Tryz.prog wc = .ok () (wc.setRow (w.heap.size + 1) (deC (dOwn d A1 c1 A2 c2 A3 c3))) :=
   run_storeVar_row wc (w.heap.size + 1) 54 54 (deC zDe) (deC (dOwn d A1 c1 A2 c2 A3 c3)) hz (by kernel_rfl) rfl (by simp [Value.oneCell'])
  have hz2 : Bx (wc.setRow (w.heap.size + 1) (deC (dOwn d A1 c1 A2 c2 A3 c3))) (w.heap.size + 1) (deC (dOwn d A1 c1 A2 c2 A3 c3)) 54 := setRow_heap _ _ _ _ _ _ hz
  have hso : ∀ x, x ≠ w.heap.size + 1 → (wc.setRow (w.heap.size + 1) (deC (dOwn d A1 c1 A2 c2 A3 c3))).heap[x]? = wc.heap[x]? := fun x hne => setRow_other _ _ _ _ hne
  have hsz : (wc.setRow (w.heap.size + 1) (deC (dOwn d A1 c1 A2 c2 A3 c3))).heap.size = wc.heap.size := setRow_size _ _ _
  have hbz : w.heap.size + 1 < W.heap.size := HZ.out.lt
  have hkeep : ∀ {α : Type} {enc : α → List Value} {k : Nat} {e : TypeId} {A : Option Addr} {c : Nat} {L : List α}, ClK enc k e W.heap.size wc A c L → ClK enc k e w.heap.size (wc.setRow (w.heap.size + 1) (deC (dOwn d A1 c1 A2 c2 A3 c3))) A c L := fun h => h.imp id fun h => by
   refine ⟨h.1, ?_⟩
   rcases h.2 with hn | ⟨g, cap, cur, hv, hg, hgg, rest⟩
   ·exact .inl hn
   ·exact .inr ⟨g, cap, cur, hv, by omega, (hso g (by omega)).trans hgg, rest⟩
  have hbel : Below w.heap.size w (wc.setRow (w.heap.size + 1) (deC (dOwn d A1 c1 A2 c2 A3 c3))) := by
   refine ⟨o1.trans HB.out.os, o2.trans HB.out.tape, o3.trans HB.out.output, by rw [hsz]; omega, fun x hx => ?_⟩
   rw [hso x (by omega), hk x (by omega) (by omega)]
   exact HB.out.block x hx
  have HFIN : Hid (ClK eA 2 63 w.heap.size (wc.setRow (w.heap.size + 1) (deC (dOwn d A1 c1 A2 c2 A3 c3))) A1 c1 d.ar ∧ ClK eS 1 9 w.heap.size (wc.setRow (w.heap.size + 1) (deC (dOwn d A1 c1 A2 c2 A3 c3))) A2 c2 d.us ∧ ClK eH 3 118 w.heap.size (wc.setRow (w.heap.size + 1) (deC (dOwn d A1 c1 A2 c2 A3 c3))) A3 c3 d.sh ∧ Below w.heap.size w (wc.setRow (w.heap.size + 1) (deC (dOwn d A1 c1 A2 c2 A3 c3)))) := ⟨hkeep h1, hkeep h2, hkeep h3, hbel⟩
  have HST := zq hst
  have HZ2 := zq hz2
  clear hx hz h1 h2 h3 o1 o2 o3 o4 hk hst hz2 hso hsz hkeep hbel HX HZ HB HD
  obtain ⟨w10, hw10⟩ : ∃ w10, w10 = wc.setRow (w.heap.size + 1) (deC (dOwn d A1 c1 A2 c2 A3 c3)) := ⟨_, rfl⟩
  rw [← hw10] at HFIN HST HZ2
  clear hw10
  obtain ⟨d2, hd2⟩ : ∃ d2, d2 = dOwn d A1 c1 A2 c2 A3 c3 := ⟨_, rfl⟩
  rw [← hd2] at HST HZ2 HX9
  have HDD := zq hd2
  clear hd2
  have x0 := HX9.out.cell (i := 0) rfl
  have x1 := HX9.out.cell (i := 1) rfl
  have x2 := HX9.out.cell (i := 2) rfl
  have x3 := HX9.out.cell (i := 3) rfl
  have x4 := HX9.out.cell (i := 4) rfl
  have x5 := HX9.out.cell (i := 5) rfl
  have x6 := HX9.out.cell (i := 6) rfl
  have x7 := HX9.out.cell (i := 7) rfl
  have x8 := HX9.out.cell (i := 8) rfl
  have x9 := HX9.out.cell (i := 9) rfl
  have x10 := HX9.out.cell (i := 10) rfl
  have x11 := HX9.out.cell (i := 11) rfl
  have x12 := HX9.out.cell (i := 12) rfl
  have x13 := HX9.out.cell (i := 13) rfl
  have x14 := HX9.out.cell (i := 14) rfl
  have x15 := HX9.out.cell (i := 15) rfl
  have hsx := HX9.out.lt
  go_wp2_with (refine wpList_store_var rfl _ _ _ rfl ⟨w.heap.size + 1, 0, none⟩ (deV d2) rfl rfl HST.out ?_)
  clear x0 x1 x2 x3 x4 x5 x6 x7 x8 x9 x10 x11 x12 x13 x14 x15
  have x0 := HZ2.out.cell (i := 0) rfl
  have x1 := HZ2.out.cell (i := 1) rfl
  have x2 := HZ2.out.cell (i := 2) rfl
  have x3 := HZ2.out.cell (i := 3) rfl
  have x4 := HZ2.out.cell (i := 4) rfl
  have x5 := HZ2.out.cell (i := 5) rfl
  have x6 := HZ2.out.cell (i := 6) rfl
  have x7 := HZ2.out.cell (i := 7) rfl
  have x8 := HZ2.out.cell (i := 8) rfl
  have x9 := HZ2.out.cell (i := 9) rfl
  have x10 := HZ2.out.cell (i := 10) rfl
  have x11 := HZ2.out.cell (i := 11) rfl
  have x12 := HZ2.out.cell (i := 12) rfl
  have x13 := HZ2.out.cell (i := 13) rfl
  have x14 := HZ2.out.cell (i := 14) rfl
  have x15 := HZ2.out.cell (i := 15) rfl
  go_wp2
  refine bodyPost_ret (v := deV d2) ?_ rfl ?_
  ·simp [results, Tryz.results26, go_sem, x0, x1, x2, x3, x4, x5, x6, x7, x8, x9, x10, x11, x12, x13, x14, x15]
  ·exact ⟨A1, c1, A2, c2, A3, c3, by rw [HDD.out], HFIN.out⟩
end Go.Proofs.YtlcfgejaeecclaaGreatDoor
