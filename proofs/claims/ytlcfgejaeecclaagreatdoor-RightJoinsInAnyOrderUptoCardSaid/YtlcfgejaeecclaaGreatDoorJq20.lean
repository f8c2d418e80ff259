/- Package right: equal says whether two deeds are equal (printed by gen_equal.py). Plain facts about parts of things: no program in sight. DERIVED: THE SHELF's CONTRACTS AT THIS DUMP, IN PLAIN WORDS (tools/lay-plain.mjs out of 'YtlcfgejaeecclaaGreatDoorSrtLay.lean', which tools/lay-shelf.mjs wrote): THE SAME DECLARATIONS UNDER THE SAME NAMES: 'import', 'namespace', 'open', 'def', 'theorem' AND NOTHING ELSE: no command of the shelf's: FOR A HAND-IN. Each laying: the table of numbers ('.._ren') and one theorem, a field a fact of the dump's own or the kernel's comparison; each contract: ONE APPLICATION. slices.SortFunc at deeds: by the contracts of the shelf. -/
import Derived.Test.YtlcfgejaeecclaaGreatDoorJq18
import Derived.Test.YtlcfgejaeecclaaGreatDoorJq19
import Derived.Test.YtlcfgejaeecclaaGreatDoorJq01
import Derived.Test.YtlcfgejaeecclaaGreatDoorProg
import Derived.Ground.SlsfProg
import Derived.Shelf.SlSortCmp.NoneTotal
import Derived.Shelf.SlGeneric
import Derived.Shelf.SlSortCmp.WholeK
namespace Go.Proofs.YtlcfgejaeecclaaGreatDoor
open Go.RowKit Dw

/-- Two deeds of the same content, wherever their lists lie. -/
def SameD (d e : De) : Prop := d.id = e.id ∧ d.day = e.day ∧ d.kd = e.kd ∧ d.th = e.th ∧ d.fr = e.fr ∧ d.to_ = e.to_ ∧ (d.nu = e.nu ∧ d.de = e.de) ∧ d.ex = e.ex ∧ d.sb = e.sb ∧ d.ar = e.ar ∧ d.us = e.us ∧ d.bg = e.bg ∧ d.en = e.en ∧ d.sh = e.sh ∧ d.ot = e.ot
theorem rat_eql (a b c d : ByteArray) (W : World) : (binOp .eql 50 (.agg #[.string a, .string b]) (.agg #[.string c, .string d])).run Tryz.prog W = .ok (.bool ((a.toList == c.toList) && (b.toList == d.toList))) W := by
  have h1 := Tryz.underlying50
  simp [go_sem, binOp, Op.equal, Op.maxDepth]
  by_cases h2 : a.toList = c.toList
  · by_cases h3 : b.toList = d.toList
    · simp [h2, h3]
    · simp [h2, h3]
  · simp [h2]
theorem rat_yes {a b c d : ByteArray} (h : a = c ∧ b = d) (W : World) : (binOp .eql 50 (.agg #[.string a, .string b]) (.agg #[.string c, .string d])).run Tryz.prog W = .ok (.bool true) W := by
  rw [rat_eql, beq_of_eq h.1, beq_of_eq h.2]; rfl
theorem rat_no {a b c d : ByteArray} (h : ¬ (a = c ∧ b = d)) (W : World) : (binOp .eql 50 (.agg #[.string a, .string b]) (.agg #[.string c, .string d])).run Tryz.prog W = .ok (.bool false) W := by
  rw [rat_eql]
  by_cases h1 : a = c
  · rw [beq_of_ne (fun e => h ⟨h1, e⟩)]; simp
  · rw [beq_of_ne h1]; rfl
/-- equal's answer; the world is as it was but for blocks laid behind it. -/
def GivesQD (same : Prop) (w : World) (e : Ending) (w' : World) : Prop := ∃ r : Bool, e = .returned (.bool r) ∧ (r = true ↔ same) ∧ Below w.heap.size w w'
theorem GivesQD.no {same : Prop} {w w' : World} (h : ¬ same) (hw : Below w.heap.size w w') : GivesQD same w (.returned (.bool false)) w' := ⟨false, rfl, ⟨(fun e => by cases e), fun e => absurd e h⟩, hw⟩
theorem GivesQD.yes {same : Prop} {w w' : World} (h : same) (hw : Below w.heap.size w w') : GivesQD same w (.returned (.bool true)) w' := ⟨true, rfl, ⟨fun _ => h, fun _ => rfl⟩, hw⟩
theorem drewN_bx {w : World} {g n : Nat} {cs : Array Value} {T : TypeId} (h : Bx w g cs T) : Bx (w.drewN n) g cs T := h
set_option maxRecDepth 100000 in
set_option maxHeartbeats 8000000 in
theorem equal_c (d e : De) (w : World) (hd : DeOk w d) (he : DeOk w e) : Calls Tryz.prog 25 #[deV d, deV e] w (GivesQD (SameD d e) w) := by
  have HX : Hid (Bx ((w.alloc (.cells (deC d) 54)).alloc (.cells (deC e) 54)) w.heap.size (deC d) 54) := (Bx.new _ _ _).alloc _
  have HY : Hid (Bx ((w.alloc (.cells (deC d) 54)).alloc (.cells (deC e) 54)) (w.heap.size + 1) (deC e) 54) := Bx.new1 _ _ _ _
  have HB : Hid (Below w.heap.size w ((w.alloc (.cells (deC d) 54)).alloc (.cells (deC e) 54))) := ((Below.refl w.heap.size w).alloc (Nat.le_refl _) _).alloc (by simp) _
  obtain ⟨W, hW⟩ : ∃ W, W = (w.alloc (.cells (deC d) 54)).alloc (.cells (deC e) 54) := ⟨_, rfl⟩
  rw [← hW] at HX HY HB
  have HD := Lib.hid (hd.below HB.out)
  have HE := Lib.hid (he.below HB.out)
  clear hd he
  go_enter Tryz.func25, Tryz.ntmps25
  simp only [List.append]
  iterate 13 go_step
  rw [← hW]
  clear hW
  have hsx := HX.out.lt
  have hsy := HY.out.lt
  have x0 := HX.out.cell (i := 0) rfl
  have x1 := HX.out.cell (i := 1) rfl
  have x2 := HX.out.cell (i := 2) rfl
  have x3 := HX.out.cell (i := 3) rfl
  have x4 := HX.out.cell (i := 4) rfl
  have x5 := HX.out.cell (i := 5) rfl
  have x6 := HX.out.cell (i := 6) rfl
  have x7 := HX.out.cell (i := 7) rfl
  have x8 := HX.out.cell (i := 8) rfl
  have x9 := HX.out.cell (i := 9) rfl
  have x10 := HX.out.cell (i := 10) rfl
  have x11 := HX.out.cell (i := 11) rfl
  have x12 := HX.out.cell (i := 12) rfl
  have x13 := HX.out.cell (i := 13) rfl
  have x14 := HX.out.cell (i := 14) rfl
  have x15 := HX.out.cell (i := 15) rfl
  have y0 := HY.out.cell (i := 0) rfl
  have y1 := HY.out.cell (i := 1) rfl
  have y2 := HY.out.cell (i := 2) rfl
  have y3 := HY.out.cell (i := 3) rfl
  have y4 := HY.out.cell (i := 4) rfl
  have y5 := HY.out.cell (i := 5) rfl
  have y6 := HY.out.cell (i := 6) rfl
  have y7 := HY.out.cell (i := 7) rfl
  have y8 := HY.out.cell (i := 8) rfl
  have y9 := HY.out.cell (i := 9) rfl
  have y10 := HY.out.cell (i := 10) rfl
  have y11 := HY.out.cell (i := 11) rfl
  have y12 := HY.out.cell (i := 12) rfl
  have y13 := HY.out.cell (i := 13) rfl
  have y14 := HY.out.cell (i := 14) rfl
  have y15 := HY.out.cell (i := 15) rfl
  clear HX HY
  by_cases t0 : d.id = e.id
  case neg =>
    have q0 := beq_of_ne t0
    have HS : Hid (¬ SameD d e) := fun hs => by
      unfold SameD at hs
      exact t0 hs.1
    clear t0
    go_wp2
    go_ret
    exact GivesQD.no HS.out (by first | exact HB.out | exact below_drewN HB.out _ | exact below_drewN (below_drewN HB.out _) _ | exact below_drewN (below_drewN (below_drewN HB.out _) _) _)
  have q0 := beq_of_eq t0
  by_cases t1 : d.day = e.day
  case neg =>
    have q1 : (d.day == e.day) = false := by simpa using t1
    have HS : Hid (¬ SameD d e) := fun hs => by
      unfold SameD at hs
      exact t1 hs.2.1
    clear t0 t1
    go_wp2
    go_ret
    exact GivesQD.no HS.out (by first | exact HB.out | exact below_drewN HB.out _ | exact below_drewN (below_drewN HB.out _) _ | exact below_drewN (below_drewN (below_drewN HB.out _) _) _)
  have q1 : (d.day == e.day) = true := by simpa using t1
  by_cases t2 : d.kd = e.kd
  case neg =>
    have q2 : (d.kd == e.kd) = false := by simpa using t2
    have HS : Hid (¬ SameD d e) := fun hs => by
      unfold SameD at hs
      exact t2 hs.2.2.1
    clear t0 t1 t2
    go_wp2
    go_ret
    exact GivesQD.no HS.out (by first | exact HB.out | exact below_drewN HB.out _ | exact below_drewN (below_drewN HB.out _) _ | exact below_drewN (below_drewN (below_drewN HB.out _) _) _)
  have q2 : (d.kd == e.kd) = true := by simpa using t2
  by_cases t3 : d.th = e.th
  case neg =>
    have q3 := beq_of_ne t3
    have HS : Hid (¬ SameD d e) := fun hs => by
      unfold SameD at hs
      exact t3 hs.2.2.2.1
    clear t0 t1 t2 t3
    go_wp2
    go_ret
    exact GivesQD.no HS.out (by first | exact HB.out | exact below_drewN HB.out _ | exact below_drewN (below_drewN HB.out _) _ | exact below_drewN (below_drewN (below_drewN HB.out _) _) _)
  have q3 := beq_of_eq t3
  by_cases t4 : d.fr = e.fr
  case neg =>
    have q4 := beq_of_ne t4
    have HS : Hid (¬ SameD d e) := fun hs => by
      unfold SameD at hs
      exact t4 hs.2.2.2.2.1
    clear t0 t1 t2 t3 t4
    go_wp2
    go_ret
    exact GivesQD.no HS.out (by first | exact HB.out | exact below_drewN HB.out _ | exact below_drewN (below_drewN HB.out _) _ | exact below_drewN (below_drewN (below_drewN HB.out _) _) _)
  have q4 := beq_of_eq t4
  by_cases t5 : d.to_ = e.to_
  case neg =>
    have q5 := beq_of_ne t5
    have HS : Hid (¬ SameD d e) := fun hs => by
      unfold SameD at hs
      exact t5 hs.2.2.2.2.2.1
    clear t0 t1 t2 t3 t4 t5
    go_wp2
    go_ret
    exact GivesQD.no HS.out (by first | exact HB.out | exact below_drewN HB.out _ | exact below_drewN (below_drewN HB.out _) _ | exact below_drewN (below_drewN (below_drewN HB.out _) _) _)
  have q5 := beq_of_eq t5
  by_cases t6 : (d.nu = e.nu ∧ d.de = e.de)
  case neg =>
    have q6 := rat_no t6
    have HS : Hid (¬ SameD d e) := fun hs => by
      unfold SameD at hs
      exact t6 hs.2.2.2.2.2.2.1
    clear t0 t1 t2 t3 t4 t5 t6
    go_wp2
    go_ret
    exact GivesQD.no HS.out (by first | exact HB.out | exact below_drewN HB.out _ | exact below_drewN (below_drewN HB.out _) _ | exact below_drewN (below_drewN (below_drewN HB.out _) _) _)
  have q6 := rat_yes t6
  by_cases t7 : d.ex = e.ex
  case neg =>
    have q7 : (d.ex == e.ex) = false := by simpa using t7
    have HS : Hid (¬ SameD d e) := fun hs => by
      unfold SameD at hs
      exact t7 hs.2.2.2.2.2.2.2.1
    clear t0 t1 t2 t3 t4 t5 t6 t7
    go_wp2
    go_ret
    exact GivesQD.no HS.out (by first | exact HB.out | exact below_drewN HB.out _ | exact below_drewN (below_drewN HB.out _) _ | exact below_drewN (below_drewN (below_drewN HB.out _) _) _)
  have q7 : (d.ex == e.ex) = true := by simpa using t7
  by_cases t8 : d.sb = e.sb
  case neg =>
    have q8 : (d.sb == e.sb) = false := by simpa using t8
    have HS : Hid (¬ SameD d e) := fun hs => by
      unfold SameD at hs
      exact t8 hs.2.2.2.2.2.2.2.2.1
    clear t0 t1 t2 t3 t4 t5 t6 t7 t8
    go_wp2
    go_ret
    exact GivesQD.no HS.out (by first | exact HB.out | exact below_drewN HB.out _ | exact below_drewN (below_drewN HB.out _) _ | exact below_drewN (below_drewN (below_drewN HB.out _) _) _)
  have q8 : (d.sb == e.sb) = true := by simpa using t8
  go_wp2_with fail
  with_reducible refine (equalA_c d.arA e.arA d.arc e.arc d.ar e.ar _ HD.out.lens.1 HE.out.lens.1 HD.out.ars HE.out.ars).mono ?_
  rintro x wx9 ⟨r9, rfl, hr9, n9, rfl⟩
  by_cases t9 : d.ar = e.ar
  case neg =>
    have hrf : r9 = false := by
      cases hh : r9 with
      | false => rfl
      | true => exact absurd (hr9.1 hh) t9
    subst hrf
    clear hr9
    have HS : Hid (¬ SameD d e) := fun hs => by
      unfold SameD at hs
      exact t9 hs.2.2.2.2.2.2.2.2.2.1
    clear t0 t1 t2 t3 t4 t5 t6 t7 t8 t9
    go_wp2
    go_ret
    exact GivesQD.no HS.out (by first | exact HB.out | exact below_drewN HB.out _ | exact below_drewN (below_drewN HB.out _) _ | exact below_drewN (below_drewN (below_drewN HB.out _) _) _)
  have hrt : r9 = true := hr9.2 t9
  subst hrt
  clear hr9
  go_wp2_with fail
  with_reducible refine (equalS_c d.usA e.usA d.usc e.usc d.us e.us _ HD.out.lens.2.1 HE.out.lens.2.1 (Rd1.drewN HD.out.uses _) (Rd1.drewN HE.out.uses _)).mono ?_
  rintro x wx10 ⟨r10, rfl, hr10, n10, rfl⟩
  by_cases t10 : d.us = e.us
  case neg =>
    have hrf : r10 = false := by
      cases hh : r10 with
      | false => rfl
      | true => exact absurd (hr10.1 hh) t10
    subst hrf
    clear hr10
    have HS : Hid (¬ SameD d e) := fun hs => by
      unfold SameD at hs
      exact t10 hs.2.2.2.2.2.2.2.2.2.2.1
    clear t0 t1 t2 t3 t4 t5 t6 t7 t8 t9 t10
    go_wp2
    go_ret
    exact GivesQD.no HS.out (by first | exact HB.out | exact below_drewN HB.out _ | exact below_drewN (below_drewN HB.out _) _ | exact below_drewN (below_drewN (below_drewN HB.out _) _) _)
  have hrt : r10 = true := hr10.2 t10
  subst hrt
  clear hr10
  by_cases t11 : d.bg = e.bg
  case neg =>
    have q11 : (d.bg == e.bg) = false := by simpa using t11
    have HS : Hid (¬ SameD d e) := fun hs => by
      unfold SameD at hs
      exact t11 hs.2.2.2.2.2.2.2.2.2.2.2.1
    clear t0 t1 t2 t3 t4 t5 t6 t7 t8 t9 t10 t11
    go_wp2
    go_ret
    exact GivesQD.no HS.out (by first | exact HB.out | exact below_drewN HB.out _ | exact below_drewN (below_drewN HB.out _) _ | exact below_drewN (below_drewN (below_drewN HB.out _) _) _)
  have q11 : (d.bg == e.bg) = true := by simpa using t11
  by_cases t12 : d.en = e.en
  case neg =>
    have q12 : (d.en == e.en) = false := by simpa using t12
    have HS : Hid (¬ SameD d e) := fun hs => by
      unfold SameD at hs
      exact t12 hs.2.2.2.2.2.2.2.2.2.2.2.2.1
    clear t0 t1 t2 t3 t4 t5 t6 t7 t8 t9 t10 t11 t12
    go_wp2
    go_ret
    exact GivesQD.no HS.out (by first | exact HB.out | exact below_drewN HB.out _ | exact below_drewN (below_drewN HB.out _) _ | exact below_drewN (below_drewN (below_drewN HB.out _) _) _)
  have q12 : (d.en == e.en) = true := by simpa using t12
  go_wp2_with fail
  with_reducible refine (equalH_c d.shA e.shA d.shc e.shc d.sh e.sh _ HD.out.lens.2.2 HE.out.lens.2.2 (Shs.drewN HD.out.shs _) (Shs.drewN HE.out.shs _)).mono ?_
  rintro x wx13 ⟨r13, rfl, hr13, n13, rfl⟩
  by_cases t13 : d.sh = e.sh
  case neg =>
    have hrf : r13 = false := by
      cases hh : r13 with
      | false => rfl
      | true => exact absurd (hr13.1 hh) t13
    subst hrf
    clear hr13
    have HS : Hid (¬ SameD d e) := fun hs => by
      unfold SameD at hs
      exact t13 hs.2.2.2.2.2.2.2.2.2.2.2.2.2.1
    clear t0 t1 t2 t3 t4 t5 t6 t7 t8 t9 t10 t11 t12 t13
    go_wp2
    go_ret
    exact GivesQD.no HS.out (by first | exact HB.out | exact below_drewN HB.out _ | exact below_drewN (below_drewN HB.out _) _ | exact below_drewN (below_drewN (below_drewN HB.out _) _) _)
  have hrt : r13 = true := hr13.2 t13
  subst hrt
  clear hr13
  by_cases t14 : d.ot = e.ot
  case neg =>
    have q14 := beq_of_ne t14
    have HS : Hid (¬ SameD d e) := fun hs => by
      unfold SameD at hs
      exact t14 hs.2.2.2.2.2.2.2.2.2.2.2.2.2.2
    clear t0 t1 t2 t3 t4 t5 t6 t7 t8 t9 t10 t11 t12 t13 t14
    go_wp2
    go_ret
    exact GivesQD.no HS.out (by first | exact HB.out | exact below_drewN HB.out _ | exact below_drewN (below_drewN HB.out _) _ | exact below_drewN (below_drewN (below_drewN HB.out _) _) _)
  have q14 := beq_of_eq t14
  have HS : Hid (SameD d e) := ⟨t0, t1, t2, t3, t4, t5, t6, t7, t8, t9, t10, t11, t12, t13, t14⟩
  clear t0 t1 t2 t3 t4 t5 t6 t7 t8 t9 t10 t11 t12 t13 t14
  go_wp2
  go_ret
  exact GivesQD.yes HS.out (by first | exact HB.out | exact below_drewN HB.out _ | exact below_drewN (below_drewN HB.out _) _ | exact below_drewN (below_drewN (below_drewN HB.out _) _) _)
end Go.Proofs.YtlcfgejaeecclaaGreatDoor

namespace Dw

/-- A part of a thing is held as a pair of names, as a region is: nm has par in it. -/
def partsOf (l : List Rg) (x : ByteArray) : List ByteArray := (l.filter fun r => decide (r.nm = x)).map (·.par)
def addNew (out : List ByteArray) (s : ByteArray) : List ByteArray := if memS out s then out else out ++ [s]
def addAll (out : List ByteArray) (p : List ByteArray) : List ByteArray := p.foldl addNew out
def growS (l : List Rg) (out : List ByteArray) (x : ByteArray) : List ByteArray := addAll out (partsOf l x)
def bfs (l : List Rg) : Nat → List ByteArray → Nat → List ByteArray
  | 0, out, _ => out
  | f + 1, out, i => if h : i < out.length then bfs l f (growS l out out[i]) (i + 1) else out
/-- A thing and all things in it, as they are found. -/
def reach (l : List Rg) (s : ByteArray) : List ByteArray := bfs l (l.length + 2) [s] 0

theorem addNew_yes {out : List ByteArray} {s : ByteArray} (h : memS out s = true) : addNew out s = out := by unfold addNew; rw [if_pos h]
theorem addNew_no {out : List ByteArray} {s : ByteArray} (h : memS out s = false) : addNew out s = out ++ [s] := by unfold addNew; rw [h]; rfl
theorem addAll_snoc (out p : List ByteArray) (s : ByteArray) : addAll out (p ++ [s]) = addNew (addAll out p) s := by unfold addAll; rw [List.foldl_append]; rfl
theorem addAll_take {out p : List ByteArray} {k : Nat} (hk : k < p.length) : addAll out (p.take (k + 1)) = addNew (addAll out (p.take k)) p[k] := by
  rw [List.take_succ_eq_append_getElem hk, addAll_snoc]
theorem addAll_nil (out : List ByteArray) : addAll out [] = out := rfl
theorem partsOf_snoc_yes {l : List Rg} {k : Nat} (hk : k < l.length) {x : ByteArray} (h : (l[k]).nm = x) : partsOf (l.take (k + 1)) x = partsOf (l.take k) x ++ [(l[k]).par] := by
  unfold partsOf; rw [List.take_succ_eq_append_getElem hk, List.filter_append, List.map_append, List.filter_cons_of_pos (by simpa using h)]; rfl
theorem partsOf_snoc_no {l : List Rg} {k : Nat} (hk : k < l.length) {x : ByteArray} (h : (l[k]).nm ≠ x) : partsOf (l.take (k + 1)) x = partsOf (l.take k) x := by
  unfold partsOf; rw [List.take_succ_eq_append_getElem hk, List.filter_append, List.map_append, List.filter_cons_of_neg (by simpa using h)]; simp
theorem partsOf_le (l : List Rg) (x : ByteArray) : (partsOf l x).length ≤ l.length := by
  unfold partsOf; rw [List.length_map]; exact List.length_filter_le _ _

/-- What every list of found things keeps. -/
structure FoundP (l : List Rg) (s : ByteArray) (out : List ByteArray) : Prop where
  nd : out.Nodup
  of : ∀ x ∈ out, x = s ∨ x ∈ l.map (·.par)
  has : s ∈ out
theorem FoundP.le {l : List Rg} {s : ByteArray} {out : List ByteArray} (h : FoundP l s out) : out.length ≤ l.length + 1 := by
  have := List.Nodup.length_le_of_subset h.nd (l₂ := s :: l.map (·.par)) (fun x hx => by
    rcases h.of x hx with e | e
    · rw [e]; simp
    · exact List.mem_cons_of_mem _ e)
  simpa using this
theorem FoundP.pos {l : List Rg} {s : ByteArray} {out : List ByteArray} (h : FoundP l s out) : 0 < out.length := List.length_pos_of_mem h.has
theorem FoundP.one (l : List Rg) (s : ByteArray) : FoundP l s [s] := ⟨by simp, (fun x hx => .inl (by simpa using hx)), by simp⟩
theorem FoundP.add {l : List Rg} {s x : ByteArray} {out : List ByteArray} (h : FoundP l s out) (hx : x ∈ l.map (·.par)) : FoundP l s (addNew out x) := by
  cases hm : memS out x with
  | true => rw [addNew_yes hm]; exact h
  | false =>
    rw [addNew_no hm]
    have hn := memS_false.1 hm
    refine ⟨?_, fun y hy => ?_, List.mem_append_left _ h.has⟩
    · rw [List.nodup_append]
      refine ⟨h.nd, by simp, fun a ha b hb e => hn ?_⟩
      have : b = x := by simpa using hb
      rw [← this, ← e]; exact ha
    · rcases List.mem_append.1 hy with h1 | h1
      · exact h.of y h1
      · have : y = x := by simpa using h1
        rw [this]; exact .inr hx
theorem FoundP.all {l : List Rg} {s : ByteArray} {out : List ByteArray} (h : FoundP l s out) : ∀ (p : List ByteArray), (∀ x ∈ p, x ∈ l.map (·.par)) → FoundP l s (addAll out p) := by
  intro p
  induction p generalizing out with
  | nil => intro _; exact h
  | cons a t ih =>
    intro hp
    exact ih (h.add (hp a (by simp))) fun x hx => hp x (by simp [hx])
theorem partsOf_sub {l : List Rg} {x y : ByteArray} (h : y ∈ partsOf l x) : y ∈ l.map (·.par) := by
  unfold partsOf at h
  obtain ⟨r, hr, rfl⟩ := List.mem_map.1 h
  exact List.mem_map.2 ⟨r, (List.mem_filter.1 hr).1, rfl⟩
theorem FoundP.grow {l : List Rg} {s : ByteArray} {out : List ByteArray} (h : FoundP l s out) (x : ByteArray) : FoundP l s (growS l out x) :=
  h.all _ fun _ hy => partsOf_sub hy
theorem FoundP.take {l : List Rg} {s : ByteArray} {out : List ByteArray} (h : FoundP l s out) (x : ByteArray) (k : Nat) : FoundP l s (addAll out ((partsOf l x).take k)) :=
  h.all _ fun _ hy => partsOf_sub (List.mem_of_mem_take hy)
theorem FoundP.takeL {l : List Rg} {s : ByteArray} {out : List ByteArray} (h : FoundP l s out) (x : ByteArray) (k : Nat) : FoundP l s (addAll out (partsOf (l.take k) x)) :=
  h.all _ fun _ hy => by
    obtain ⟨r, hr, e⟩ := List.mem_map.1 (partsOf_sub hy)
    exact List.mem_map.2 ⟨r, List.mem_of_mem_take hr, e⟩
theorem addNew_pre (out : List ByteArray) (s : ByteArray) : ∃ t, addNew out s = out ++ t := by
  unfold addNew; split
  · exact ⟨[], by simp⟩
  · exact ⟨_, rfl⟩
theorem addAll_pre : ∀ (p out : List ByteArray), ∃ t, addAll out p = out ++ t
  | [], out => ⟨[], by simp [addAll]⟩
  | a :: p, out => by
    obtain ⟨t, ht⟩ := addNew_pre out a
    obtain ⟨u, hu⟩ := addAll_pre p (addNew out a)
    refine ⟨t ++ u, ?_⟩
    show addAll (addNew out a) p = _
    rw [hu, ht, List.append_assoc]
theorem addAll_len (p out : List ByteArray) : out.length ≤ (addAll out p).length := by
  obtain ⟨t, ht⟩ := addAll_pre p out
  rw [ht]; simp
theorem addAll_get {p out : List ByteArray} {i : Nat} (hi : i < out.length) : (addAll out p)[i]'(Nat.lt_of_lt_of_le hi (addAll_len p out)) = out[i] := by
  obtain ⟨t, ht⟩ := addAll_pre p out
  simp only [ht]
  exact List.getElem_append_left hi
theorem bfs_step {l : List Rg} {f i : Nat} {out : List ByteArray} (h : i < out.length) : bfs l (f + 1) out i = bfs l f (growS l out out[i]) (i + 1) := by rw [bfs, dif_pos h]
theorem bfs_end {l : List Rg} {f i : Nat} {out : List ByteArray} (h : ¬ i < out.length) : bfs l f out i = out := by
  cases f with
  | zero => rfl
  | succ f => rw [bfs, dif_neg h]
theorem bfs_found {l : List Rg} {s : ByteArray} : ∀ {f i : Nat} {out : List ByteArray}, FoundP l s out → FoundP l s (bfs l f out i)
  | 0, _, _, h => h
  | f + 1, i, out, h => by
    rw [bfs]; split
    · exact bfs_found (h.grow _)
    · exact h
theorem reach_found (l : List Rg) (s : ByteArray) : FoundP l s (reach l s) := bfs_found (FoundP.one l s)
theorem reach_le (l : List Rg) (s : ByteArray) : (reach l s).length ≤ l.length + 1 := (reach_found l s).le

/-- The order of strings. -/
theorem slt_list (a b : ByteArray) : slt a b = decide (a.toList < b.toList) := by unfold slt; rw [bytesLess_eq]
theorem sge_trans {a b c : ByteArray} (h : slt b a = false) (k : slt c b = false) : slt c a = false := by
  rw [slt_list] at *
  simp only [decide_eq_false_iff_not, List.not_lt] at *
  exact List.le_trans h k
theorem slt_asymm {a b : ByteArray} (h : slt a b = true) : slt b a = false := by
  cases hb : slt b a with
  | false => rfl
  | true => exact absurd (slt_trans h hb) (by rw [slt_irrefl]; simp)
theorem slt_antisymm {a b : ByteArray} (h : slt a b = false) (k : slt b a = false) : a = b := by
  rw [slt_list] at *
  simp only [decide_eq_false_iff_not, List.not_lt] at *
  exact toList_inj (List.le_antisymm k h)
def SortedS (l : List ByteArray) : Prop := l.Pairwise fun a b => slt b a = false
def sortS (l : List ByteArray) : List ByteArray := l.mergeSort fun x y => !slt y x
theorem sortS_sorted (l : List ByteArray) : SortedS (sortS l) := by
  have := List.pairwise_mergeSort (le := fun x y => !slt y x) (fun a b c h k => by
    simp only [Bool.not_eq_true'] at *
    exact sge_trans h k) (fun a b => by
    cases h : slt b a with
    | false => simp
    | true => simp [slt_asymm h]) l
  exact this.imp fun h => by simpa using h
theorem sortS_perm (l : List ByteArray) : (sortS l).Perm l := List.mergeSort_perm _ _
theorem sortS_len (l : List ByteArray) : (sortS l).length = l.length := (sortS_perm l).length_eq
theorem sortS_mem (l : List ByteArray) (s : ByteArray) : memS (sortS l) s = memS l s := by
  rw [Bool.eq_iff_iff, memS_true, memS_true]
  exact (sortS_perm l).mem_iff
theorem sorted_one {l m : List ByteArray} (h : SortedS l) (k : SortedS m) (hp : l.Perm m) : l = m :=
  List.Perm.eq_of_pairwise (fun _ _ _ _ h1 h2 => slt_antisymm h2 h1) h k hp

/-- Where the reference puts the next one. -/
def insAt (x : ByteArray) (out : List ByteArray) : Nat → Nat
  | 0 => 0
  | k + 1 => if slt x (out.getD k emp) then insAt x out k else k + 1
def insS (out : List ByteArray) (x : ByteArray) : List ByteArray := out.take (insAt x out out.length) ++ x :: out.drop (insAt x out out.length)
def insAll (l : List ByteArray) : List ByteArray := l.foldl insS []
theorem insAt_le (x : ByteArray) (out : List ByteArray) : ∀ n, insAt x out n ≤ n
  | 0 => Nat.le_refl _
  | n + 1 => by
    rw [insAt]; split
    · exact Nat.le_succ_of_le (insAt_le x out n)
    · exact Nat.le_refl _
theorem insAt_above (x : ByteArray) (out : List ByteArray) : ∀ n j, insAt x out n ≤ j → j < n → slt x (out.getD j emp) = true
  | 0, j, _, h => by omega
  | n + 1, j, h1, h2 => by
    rw [insAt] at h1
    by_cases h : slt x (out.getD n emp) = true
    · rw [if_pos h] at h1
      by_cases e : j = n
      · rw [e]; exact h
      · exact insAt_above x out n j h1 (by omega)
    · rw [if_neg h] at h1; omega
theorem insAt_below (x : ByteArray) (out : List ByteArray) : ∀ n k, insAt x out n = k + 1 → slt x (out.getD k emp) = false
  | 0, k, h => by rw [insAt] at h; omega
  | n + 1, k, h => by
    rw [insAt] at h
    by_cases hs : slt x (out.getD n emp) = true
    · rw [if_pos hs] at h; exact insAt_below x out n k h
    · rw [if_neg hs] at h
      have : n = k := by omega
      rw [← this]; simpa using hs
theorem insS_perm (out : List ByteArray) (x : ByteArray) : (insS out x).Perm (x :: out) := by
  unfold insS
  refine List.perm_middle.trans ?_
  rw [List.take_append_drop]
theorem insS_sorted {out : List ByteArray} (h : SortedS out) (x : ByteArray) : SortedS (insS out x) := by
  have hle := insAt_le x out out.length
  unfold insS SortedS
  generalize hk : insAt x out out.length = k at *
  rw [List.pairwise_append]
  refine ⟨List.Pairwise.sublist (List.take_sublist _ _) h, ?_, ?_⟩
  · rw [List.pairwise_cons]
    refine ⟨fun y hy => ?_, List.Pairwise.sublist (List.drop_sublist _ _) h⟩
    obtain ⟨j, hj, rfl⟩ := List.getElem_of_mem hy
    have hj' : k + j < out.length := by rw [List.length_drop] at hj; omega
    have := insAt_above x out out.length (k + j) (by omega) hj'
    rw [List.getElem_drop]
    rw [List.getD_eq_getElem?_getD, List.getElem?_eq_getElem hj'] at this
    exact slt_asymm this
  · intro a ha b hb
    obtain ⟨i, hi, rfl⟩ := List.getElem_of_mem ha
    have hik : i < k := by rw [List.length_take] at hi; omega
    have hio : i < out.length := by omega
    rw [List.getElem_take]
    have hax : slt x out[i] = false := by
      obtain ⟨m, rfl⟩ : ∃ m, k = m + 1 := ⟨k - 1, by omega⟩
      have h1 := insAt_below x out out.length m hk
      have hm : m < out.length := by omega
      rw [List.getD_eq_getElem?_getD, List.getElem?_eq_getElem hm] at h1
      have h1' : slt x out[m] = false := h1
      rcases Nat.lt_or_ge i m with h2 | h2
      · have := List.pairwise_iff_getElem.1 h i m hio hm h2
        exact sge_trans this h1'
      · obtain rfl : i = m := by omega
        exact h1'
    rcases List.mem_cons.1 hb with e | hb'
    · rw [e]; exact hax
    · obtain ⟨j, hj, rfl⟩ := List.getElem_of_mem hb'
      have hj' : k + j < out.length := by rw [List.length_drop] at hj; omega
      rw [List.getElem_drop]
      exact List.pairwise_iff_getElem.1 h i (k + j) hio hj' (by omega)
theorem insAll_ok : ∀ (l out : List ByteArray), SortedS out → SortedS (l.foldl insS out) ∧ (l.foldl insS out).Perm (out ++ l)
  | [], out, h => ⟨h, by simp⟩
  | a :: l, out, h => by
    obtain ⟨h1, h2⟩ := insAll_ok l (insS out a) (insS_sorted h a)
    refine ⟨h1, h2.trans ?_⟩
    refine ((insS_perm out a).append_right l).trans ?_
    show (a :: out ++ l).Perm _
    rw [List.cons_append]
    exact List.perm_middle.symm
theorem insAll_sortS (l : List ByteArray) : insAll l = sortS l := by
  obtain ⟨h1, h2⟩ := insAll_ok l [] List.Pairwise.nil
  exact sorted_one h1 (sortS_sorted l) (h2.trans (by simpa using (sortS_perm l).symm))
theorem insAll_take {l : List ByteArray} {k : Nat} (hk : k < l.length) : insAll (l.take (k + 1)) = insS (insAll (l.take k)) l[k] := by
  unfold insAll; rw [List.take_succ_eq_append_getElem hk, List.foldl_append]; rfl
theorem insAll_len : ∀ (l out : List ByteArray), (l.foldl insS out).length = out.length + l.length
  | [], _ => by simp
  | a :: l, out => by
    show (l.foldl insS (insS out a)).length = _
    rw [insAll_len l, (insS_perm out a).length_eq]
    simp; omega

/-- The fault of a list of parts. -/
def sameP (a b : Rg) : Bool := decide (a.nm = b.nm) && decide (a.par = b.par)
def twiceP (l : List Rg) (i : Nat) : Bool := (l.take i).any fun q => sameP q (l.getD i default)
def cnFault (l : List Rg) (i : Nat) : Option Int :=
  if isNm (l.getD i default).nm = false ∨ isNm (l.getD i default).par = false then some 5 else if twiceP l i = true then some 7 else none
def loopP (l : List Rg) (i : Nat) : Bool := memS (reach l (l.getD i default).par) (l.getD i default).nm
def chkW (l : List Rg) : Int :=
  if 500 < l.length then 2 else
  match (List.range l.length).findSome? (cnFault l) with
  | some f => f
  | none => if (List.range l.length).any (loopP l) = true then 14 else 0
def wholeS (l : List Rg) (s : ByteArray) : List ByteArray × Int :=
  if chkW l ≠ 0 then ([], chkW l) else if isNm s = false then ([], 5) else (sortS (reach l s), 0)
theorem getD_of {l : List Rg} {i : Nat} (h : i < l.length) : l.getD i default = l[i] := by simp [List.getD, h]
theorem findSome_range {β : Type} {f : Nat → Option β} {x : β} : ∀ {n k : Nat}, k < n → (∀ j, j < k → f j = none) → f k = some x → (List.range n).findSome? f = some x
  | 0, _, h, _, _ => by omega
  | n + 1, k, h, hp, hx => by
    rw [List.range_succ, List.findSome?_append]
    by_cases e : k = n
    · subst e
      have : (List.range k).findSome? f = none := List.findSome?_eq_none_iff.2 fun j hj => hp j (List.mem_range.1 hj)
      rw [this]; simp [hx]
    · rw [findSome_range (k := k) (by omega) hp hx]; rfl
theorem chkW_large {l : List Rg} (h : 500 < l.length) : chkW l = 2 := by unfold chkW; rw [if_pos h]
theorem chkW_first {l : List Rg} (h : ¬ 500 < l.length) {k : Nat} (hk : k < l.length) (hp : ∀ j, j < k → cnFault l j = none) {x : Int} (hx : cnFault l k = some x) : chkW l = x := by
  unfold chkW; rw [if_neg h, findSome_range hk hp hx]
theorem chkW_none {l : List Rg} (hp : ∀ j, j < l.length → cnFault l j = none) : (List.range l.length).findSome? (cnFault l) = none :=
  List.findSome?_eq_none_iff.2 fun j hj => hp j (List.mem_range.1 hj)
theorem chkW_loop {l : List Rg} (h : ¬ 500 < l.length) (hp : ∀ j, j < l.length → cnFault l j = none) {k : Nat} (hk : k < l.length) (hx : loopP l k = true) : chkW l = 14 := by
  unfold chkW; rw [if_neg h, chkW_none hp]
  have : (List.range l.length).any (loopP l) = true := List.any_eq_true.2 ⟨k, List.mem_range.2 hk, hx⟩
  simp [this]
theorem chkW_ok {l : List Rg} (h : ¬ 500 < l.length) (hp : ∀ j, j < l.length → cnFault l j = none) (hx : ∀ j, j < l.length → loopP l j = false) : chkW l = 0 := by
  unfold chkW; rw [if_neg h, chkW_none hp]
  have : (List.range l.length).any (loopP l) = false := List.any_eq_false.2 fun j hj => by rw [hx j (List.mem_range.1 hj)]; simp
  simp [this]
theorem chkW_len {l : List Rg} (h : chkW l = 0) : l.length ≤ 500 := by
  refine Nat.le_of_not_lt fun hl => ?_
  rw [chkW_large hl] at h; omega
end Dw

namespace Go.Proofs
open Go.Shelf
def Tryz.sortE27_ren : Go.Shelf.Ren := ⟨fun | 6 => 27 | 15 => 58 | 14 => 57 | 28 => 95 | 29 => 96 | 20 => 87 | 21 => 88 | 22 => 89 | 23 => 90 | 24 => 91 | 25 => 92 | 26 => 93 | 27 => 94 | 46 => 125 | 47 => 126 | 48 => 127 | 49 => 128 | 50 => 129 | 57 => 165 | n => n, fun | 22 => 24 | 24 => 54 | 25 => 59 | 3 => 3 | 39 => 123 | 0 => 0 | 53 => 156 | 55 => 158 | 4 => 4 | 46 => 150 | 45 => 149 | 50 => 132 | 5 => 5 | 9 => 9 | 66 => 188 | 70 => 192 | 76 => 222 | 77 => 82 | n => n, fun | n => n⟩
theorem Tryz.sortE27 : Go.Proofs.SlLaysF0.n6 Tryz.prog Tryz.sortE27_ren := {
  mixed := by kernel_rfl
  f6 := ⟨Tryz.f27.name, by decide, Tryz.func27.trans (congrArg some (by kernel_rfl))⟩
  f14 := ⟨Tryz.f57.name, by decide, Tryz.func57.trans (congrArg some (by kernel_rfl))⟩
  f15 := Tryz.func58.trans (congrArg some (by kernel_rfl))
  f20 := ⟨Tryz.f87.name, by decide, Tryz.func87.trans (congrArg some (by kernel_rfl))⟩
  f21 := ⟨Tryz.f88.name, by decide, Tryz.func88.trans (congrArg some (by kernel_rfl))⟩
  f22 := ⟨Tryz.f89.name, by decide, Tryz.func89.trans (congrArg some (by kernel_rfl))⟩
  f23 := ⟨Tryz.f90.name, by decide, Tryz.func90.trans (congrArg some (by kernel_rfl))⟩
  f24 := ⟨Tryz.f91.name, by decide, Tryz.func91.trans (congrArg some (by kernel_rfl))⟩
  f25 := ⟨Tryz.f92.name, by decide, Tryz.func92.trans (congrArg some (by kernel_rfl))⟩
  f26 := ⟨Tryz.f93.name, by decide, Tryz.func93.trans (congrArg some (by kernel_rfl))⟩
  f27 := ⟨Tryz.f94.name, by decide, Tryz.func94.trans (congrArg some (by kernel_rfl))⟩
  f28 := Tryz.func95.trans (congrArg some (by kernel_rfl))
  f29 := Tryz.func96.trans (congrArg some (by kernel_rfl))
  f46 := ⟨Tryz.f125.name, by decide, Tryz.func125.trans (congrArg some (by kernel_rfl))⟩
  f47 := Tryz.func126.trans (congrArg some (by kernel_rfl))
  f48 := Tryz.func127.trans (congrArg some (by kernel_rfl))
  f49 := ⟨Tryz.f128.name, by decide, Tryz.func128.trans (congrArg some (by kernel_rfl))⟩
  f50 := ⟨Tryz.f129.name, by decide, Tryz.func129.trans (congrArg some (by kernel_rfl))⟩
  f57 := ⟨Tryz.f165.name, by decide, Tryz.func165.trans (congrArg some (by kernel_rfl))⟩
  t0 := Tryz.underlying0
  a0 := Tryz.isAgg0
  z0 := Tryz.sizeOf0
  v0 := Tryz.zeroValue0
  t3 := Tryz.underlying3
  a3 := Tryz.isAgg3
  z3 := Tryz.sizeOf3
  v3 := Tryz.zeroValue3
  t4 := Tryz.underlying4
  a4 := Tryz.isAgg4
  z4 := Tryz.sizeOf4
  v4 := Tryz.zeroValue4
  t5 := Tryz.underlying5
  a5 := Tryz.isAgg5
  z5 := Tryz.sizeOf5
  v5 := Tryz.zeroValue5
  t9 := Tryz.underlying9
  a9 := Tryz.isAgg9
  z9 := Tryz.sizeOf9
  v9 := Tryz.zeroValue9
  t22 := Tryz.underlying24
  a22 := Tryz.isAgg24
  z22 := Tryz.sizeOf24
  v22 := Tryz.zeroValue24
  t25 := Tryz.underlying59
  a25 := Tryz.isAgg59
  z25 := Tryz.sizeOf59
  v25 := Tryz.zeroValue59
  t39 := Tryz.underlying123
  a39 := Tryz.isAgg123
  z39 := Tryz.sizeOf123
  v39 := Tryz.zeroValue123
  t45 := Tryz.underlying149
  a45 := Tryz.isAgg149
  z45 := Tryz.sizeOf149
  v45 := Tryz.zeroValue149
  t46 := Tryz.underlying150
  a46 := Tryz.isAgg150
  z46 := Tryz.sizeOf150
  v46 := Tryz.zeroValue150
  t50 := Tryz.underlying132
  a50 := Tryz.isAgg132
  z50 := Tryz.sizeOf132
  v50 := Tryz.zeroValue132
  t53 := Tryz.underlying156
  a53 := Tryz.isAgg156
  z53 := Tryz.sizeOf156
  v53 := Tryz.zeroValue156
  t55 := Tryz.underlying158
  a55 := Tryz.isAgg158
  z55 := Tryz.sizeOf158
  v55 := Tryz.zeroValue158
  t66 := Tryz.underlying188
  a66 := Tryz.isAgg188
  z66 := Tryz.sizeOf188
  v66 := Tryz.zeroValue188
  t70 := Tryz.underlying192
  a70 := Tryz.isAgg192
  z70 := Tryz.sizeOf192
  v70 := Tryz.zeroValue192
  t76 := Tryz.underlying222
  a76 := Tryz.isAgg222
  z76 := Tryz.sizeOf222
  v76 := Tryz.zeroValue222
  t77 := Tryz.underlying82
  a77 := Tryz.isAgg82
  z77 := Tryz.sizeOf82
  v77 := Tryz.zeroValue82 }
end Go.Proofs

namespace Go.Proofs.YtlcfgejaeecclaaGreatDoor
open Go.Shelf Go.RowKit Go.Lib Go.Sort Dw

theorem lt_deCmp (x y : De) : ltOf deCmp x y = deLt x y := deCmp_lt x y
theorem deLt_irrefl (x : De) : deLt x x = false := by unfold deLt; rw [slt_irrefl]; simp
theorem deLt_trans {x y z : De} (h1 : deLt x y = true) (h2 : deLt y z = true) : deLt x z = true := by
  unfold deLt at *
  simp only [Bool.or_eq_true, Bool.and_eq_true, decide_eq_true_eq] at *
  rcases h1 with h1 | ⟨h1, k1⟩ <;> rcases h2 with h2 | ⟨h2, k2⟩
  · left; omega
  · left; omega
  · left; omega
  · right; exact ⟨by omega, slt_trans k1 k2⟩
theorem deLt_ntrans {x y z : De} (h1 : deLt x y = false) (h2 : deLt y z = false) : deLt x z = false := by
  unfold deLt at *
  simp only [Bool.or_eq_false_iff, Bool.and_eq_false_iff, decide_eq_false_iff_not] at *
  obtain ⟨a1, b1⟩ := h1
  obtain ⟨a2, b2⟩ := h2
  refine ⟨by omega, ?_⟩
  by_cases e : x.day = z.day
  · right
    have e1 : x.day = y.day := by omega
    have e2 : y.day = z.day := by omega
    exact sge_trans (b2.resolve_left (fun h => h e2)) (b1.resolve_left (fun h => h e1))
  · exact .inl e
theorem swoE : SWO (ltOf deCmp) where
  irrefl x := by rw [lt_deCmp]; exact deLt_irrefl x
  trans x y z h1 h2 := by rw [lt_deCmp] at *; exact deLt_trans h1 h2
  ntrans x y z h1 h2 := by rw [lt_deCmp] at *; exact deLt_ntrans h1 h2
def encE (d : De) : List Value := (deC d).toList
set_option maxRecDepth 100000 in
set_option maxHeartbeats 2000000 in
theorem compareDeeds_g (a b : De) (w : World) : Calls Tryz.prog 28 #[deV a, deV b] w fun e w' => e = .returned (.int .i64 (deCmp a b)) ∧ ∃ q os', w' = grow (w.drewN q) os' := by
  have HX : Hid (Bx ((w.alloc (.cells (deC a) 54)).alloc (.cells (deC b) 54)) w.heap.size (deC a) 54) := (Bx.new _ _ _).alloc _
  have HY : Hid (Bx ((w.alloc (.cells (deC a) 54)).alloc (.cells (deC b) 54)) (w.heap.size + 1) (deC b) 54) := Bx.new1 _ _ _ _
  have hG : ∀ Z : Obj, (((w.alloc (.cells (deC a) 54)).alloc (.cells (deC b) 54)).alloc Z).drew = grow (w.drewN 1) #[.cells (deC a) 54, .cells (deC b) 54, Z] := fun Z => by
    rw [alloc_eq_grow, alloc_eq_grow, alloc_eq_grow, grow_grow, grow_grow]; rfl
  obtain ⟨W, hW⟩ : ∃ W, W = (w.alloc (.cells (deC a) 54)).alloc (.cells (deC b) 54) := ⟨_, rfl⟩
  rw [← hW] at HX HY hG
  have HG := Lib.hid hG
  clear hG
  generalize hres : deCmp a b = res
  unfold deCmp at hres
  have HR := Lib.hid hres
  clear hres
  have HC := Lib.hid (fun W' => cmpI_c a.day b.day W')
  have HS := Lib.hid (fun W' => compareS_c a.id b.id W')
  go_enter Tryz.func28, Tryz.ntmps28
  go_wp2_with fail
  rw [← hW]
  clear hW
  have x0 := HX.out.cell (i := 0) rfl
  have x1 := HX.out.cell (i := 1) rfl
  have y0 := HY.out.cell (i := 0) rfl
  have y1 := HY.out.cell (i := 1) rfl
  generalize cmpI a.day b.day = z1 at *
  generalize cfS a.id b.id = z2 at *
  have ho : ∀ W' : World, Calls Tryz.prog 59 #[.slice (some ⟨W'.heap.size, 0, none⟩) 2 2] (W'.alloc (.cells #[.int .i64 z1, .int .i64 z2] 3)).drew (Gives (.int .i64 (orI [z1, z2])) (W'.alloc (.cells #[.int .i64 z1, .int .i64 z2] 3)).drew) :=
    fun W' => cmpOr_c (some ⟨W'.heap.size, 0, none⟩) 2 [z1, z2] _ (by simp) (Rd1.drew (ints_twoR W' z1 z2 _))
  have HO := Lib.hid ho
  clear ho
  refine wp_region_still_tail 10 (by kernel_rfl) (by kernel_rfl) ?_
  simp only [List.take_succ_cons, List.take_zero, List.drop_succ_cons, List.drop_zero]
  iterate 4 still_step
  still_call ((HC.out _).mono (fun _ _ h => ⟨h.1, h.2.symm⟩))
  iterate 4 still_step
  still_call ((HS.out _).mono (fun _ _ h => ⟨h.1, h.2.symm⟩))
  refine wpStill_nil ?_
  change wpList _ _ _ _ _ W.drew
  clear x0 x1 y0 y1 HC HS
  go_wp2_with fail
  with_reducible refine (HO.out W).mono ?_
  rintro e w3 ⟨rfl, rfl⟩
  go_wp2
  go_ret
  exact ⟨by rw [← HR.out]; rfl, 1, _, HG.out _⟩
theorem cmpLaysE (blk off size : Nat) (w : World) : CmpLays Tryz.prog 28 #[] encE 16 deCmp blk off size w :=
  fun _ _ _ _ x y => compareDeeds_g x y _
/-- What the sort leaves: the row holds a sorted list of the same members; no other block has turned. -/
def GivesSrt (g : Nat) (L : List De) (w : World) (e : Ending) (w' : World) : Prop :=
  e = .returned (.tuple #[]) ∧ ∃ S : List De, S.Perm L ∧ S.Pairwise (fun a b => deLt b a = false) ∧ HoldsK encE 16 w' g 0 S.toArray ∧ (w'.os = w.os ∧ w'.tape = w.tape ∧ w'.output = w.output ∧ w.heap.size ≤ w'.heap.size) ∧ ∀ x, x < w.heap.size → x ≠ g → w'.heap[x]? = w.heap[x]?
theorem oneE (x : De) : ∀ v ∈ encE x, v.oneCell' = true := by simp [encE, Value.oneCell']
theorem sortE_c (g c : Nat) (L : List De) (w : World) (hH : HoldsK encE 16 w g 0 L.toArray) (hgl : g < w.heap.size) (hl : L.length ≤ 1000000) :
    Calls Tryz.prog 27 #[.slice (some ⟨g, 0, none⟩) L.length c, .func (.func 28) #[] #[]] w (GivesSrt g L w) := by
  have eg : ∀ args w, (callFunc 28 args).run Tryz.prog w = .ok (.enter 28 args) w := enters_of Tryz.func28 (by kernel_rfl) rfl
  have hS := AnyQ.slices_SortFunc Tryz.sortE27 16 Tryz.isAgg54 Tryz.sizeOf54 encE (fun _ => rfl) oneE deCmp swoE 28 #[] g 0 c L.toArray w eg (cmpLaysE g 0 L.toArray.size w) hH hgl (by simp; omega)
  change Calls Tryz.prog 27 _ _ _ at hS
  rw [List.size_toArray] at hS
  refine hS.mono fun e w' ⟨he, d', n, os, hp, hs, hw⟩ => ⟨he, d'.toList, ?_, ?_, ?_, ?_, ?_⟩
  · have h := hp.2.2
    rw [Array.extract_eq_self_of_le (by rw [hp.1]; simp), Array.extract_eq_self_of_le (by simp)] at h
    simpa using h
  · rw [List.pairwise_iff_getElem]
    intro i j hi hj hij
    have hsz : d'.size = L.length := by rw [hp.1]; simp
    have h := hs i j (Nat.zero_le _) hij (by simp at hj; omega)
    rw [lt_deCmp] at h
    have hj' : j < d'.size := by simpa using hj
    have hi' : i < d'.size := by simpa using hi
    rw [getElem!_pos d' j hj', getElem!_pos d' i hi'] at h
    simpa using h
  · have hh := holdsK_sortWorldK_c (enc := encE) (k := 16) (w := w) (blk := g) (off := 0) L.toArray d' n os hH hgl hp.1
    rw [hw]
    simpa using hh
  · rw [hw]
    refine ⟨rfl, rfl, rfl, ?_⟩
    unfold sortWorldK
    rw [size_grow]
    have hz : (putRowK encE 16 (Sort.ahead w n) g 0 d').heap.size = w.heap.size := size_putRowK _ _ _ _ _ _
    omega
  · intro x hx hne
    rw [hw]
    unfold sortWorldK
    have hz : (putRowK encE 16 (Sort.ahead w n) g 0 d').heap.size = w.heap.size := size_putRowK _ _ _ _ _ _
    rw [heap_grow_old _ _ (by omega)]
    show ((Sort.ahead w n).heap.modify g _)[x]? = _
    rw [Array.getElem?_modify, if_neg (fun e => hne e.symm)]
    rfl
end Go.Proofs.YtlcfgejaeecclaaGreatDoor
