/- Slices of tracks; thingOf and trackOf of the reference of chapter 10. CheckTracks of package desk and of the reference. The names of a label: named of the reference and of package desk. The names of a label: named of package desk. Plain facts about labels: no program in sight. The head of a label: headOf of the reference. Label of the reference of chapter 10. -/
import Derived.Test.YtfninfgohiipjaaGreatDoorLgP
import Derived.Test.YtfninfgohiipjaaGreatDoorLcD
import Derived.Test.YtfninfgohiipjaaGreatDoorLdG
import Derived.BigQuiet
import Derived.Deep.QuietTactic
import Derived.IntWalk
import Derived.Test.YtfninfgohiipjaaGreatDoorLcL
import Derived.Deep.RegionHeld3
import Derived.Test.YtfninfgohiipjaaGreatDoorLcO
namespace Go.Proofs.YtfninfgohiipjaaGreatDoor
open Go.RowKit Dw

/-- A slice of tracks reads as a list. -/
def Tks (w : World) (A : Option Addr) (l : List Tk) : Prop :=
  0 < l.length → ∃ b o : Nat, A = some ⟨b, o, none⟩ ∧ ∀ i (h : i < l.length), w.cell? ⟨b, o + i * 3, none⟩ = some (.int .i64 (l[i]).rc) ∧ w.cell? ⟨b, o + i * 3 + 1, none⟩ = some (.int .i64 (l[i]).len) ∧
    w.cell? ⟨b, o + i * 3 + 2, none⟩ = some (.slice (l[i]).cA (l[i]).crs.length (l[i]).cc)
structure TksOk (w : World) (A : Option Addr) (l : List Tk) : Prop where
  tks : Tks w A l
  crs : ∀ x ∈ l, CrsOk w x.cA x.crs
  sized : l.length ≤ 9223372036854775807
section
variable {w w' : World} {A : Option Addr} {l : List Tk}
theorem Tks.at_ (h : Tks w A l) (hl : 0 < l.length) : ∃ b o : Nat, A = some ⟨b, o, none⟩ ∧ b < w.heap.size ∧ ∀ i (h : i < l.length), w.cell? ⟨b, o + i * 3, none⟩ = some (.int .i64 (l[i]).rc) ∧ w.cell? ⟨b, o + i * 3 + 1, none⟩ = some (.int .i64 (l[i]).len) ∧
    w.cell? ⟨b, o + i * 3 + 2, none⟩ = some (.slice (l[i]).cA (l[i]).crs.length (l[i]).cc) := by
  obtain ⟨b, o, rfl, hc⟩ := h hl
  exact ⟨b, o, rfl, World.block_lt_of_cell? w _ (hc 0 hl).1, hc⟩
theorem Tks.below (h : Tks w A l) (hb : Below w.heap.size w w') : Tks w' A l := fun hl => by
  obtain ⟨b, o, rfl, hlt, hc⟩ := h.at_ hl
  refine ⟨b, o, rfl, fun i hi => ?_⟩
  rw [hb.cell hlt, hb.cell hlt, hb.cell hlt]
  exact hc i hi
theorem TksOk.below (h : TksOk w A l) (hb : Below w.heap.size w w') : TksOk w' A l := ⟨h.tks.below hb, fun e he => (h.crs e he).below hb, h.sized⟩
end
abbrev tkC (x : Tk) : Array Value := #[.int .i64 x.rc, .int .i64 x.len, .slice x.cA x.crs.length x.cc]
abbrev tkV (x : Tk) : Value := .agg #[.int .i64 x.rc, .int .i64 x.len, .slice x.cA x.crs.length x.cc]
abbrev tkZ : Value := .agg #[.int .i64 0, .int .i64 0, .slice none 0 0]
abbrev tkCz : Array Value := #[.int .i64 0, .int .i64 0, .slice none 0 0]
def BoxK (w : World) (p : Nat) (x : Tk) : Prop := w.heap[p]? = some (.cells #[.int .i64 x.rc, .int .i64 x.len, .slice x.cA x.crs.length x.cc] 60 (0, 0))
theorem BoxK.lt {w : World} {p : Nat} {x : Tk} (h : BoxK w p x) : p < w.heap.size := (Array.getElem?_eq_some_iff.1 h).1
theorem BoxK.below {w w' : World} {p : Nat} {x : Tk} (h : BoxK w p x) (hb : Below w.heap.size w w') : BoxK w' p x := (hb.block _ h.lt).trans h
theorem BoxK.alloc {w : World} {p : Nat} {x : Tk} (h : BoxK w p x) (o : Obj) : BoxK (w.alloc o) p x := (Below.heap_alloc w _ _ h.lt).trans h
theorem BoxK.cells {w : World} {p : Nat} {x : Tk} (h : BoxK w p x) : w.cell? ⟨p, 0, none⟩ = some (.int .i64 x.rc) ∧ w.cell? ⟨p, 1, none⟩ = some (.int .i64 x.len) ∧ w.cell? ⟨p, 2, none⟩ = some (.slice x.cA x.crs.length x.cc) := ⟨boxC h rfl, boxC h rfl, boxC h rfl⟩
def tkO (o : Option Tk) : Value := (o.map tkV).getD tkZ
def GivesTk (o : Option Tk) (w : World) (e : Ending) (w' : World) : Prop := e = .returned (.tuple #[tkO o, .bool o.isSome]) ∧ Below w.heap.size w w'
theorem GivesTk.none_ {o : Option Tk} {w w' : World} (h : o = none) (hb : Below w.heap.size w w') : GivesTk o w (.returned (.tuple #[tkZ, .bool false])) w' := by
  subst h; exact ⟨rfl, hb⟩
theorem GivesTk.some_ {o : Option Tk} {w w' : World} {t : Tk} (h : o = some t) (hb : Below w.heap.size w w') : GivesTk o w (.returned (.tuple #[tkV t, .bool true])) w' := by
  subst h; exact ⟨rfl, hb⟩
/-- Three cells of one block written. -/
def setK (w : World) (g : Nat) (t : Tk) : World := ((w.setCell ⟨g, 0, none⟩ (.int .i64 t.rc)).setCell ⟨g, 1, none⟩ (.int .i64 t.len)).setCell ⟨g, 2, none⟩ (.slice t.cA t.crs.length t.cc)
theorem setK_box {w : World} {g : Nat} {v0 v1 v2 : Value} (t : Tk) (h : w.heap[g]? = some (.cells #[v0, v1, v2] 60 (0, 0))) : BoxK (setK w g t) g t := by
  have h0 : (w.setCell ⟨g, 0, none⟩ (.int .i64 t.rc)).heap[g]? = some (.cells #[.int .i64 t.rc, v1, v2] 60 (0, 0)) := heap_setCell_same _ g 0 _ _ (.int .i64 t.rc) h
  have h1 : ((w.setCell ⟨g, 0, none⟩ (.int .i64 t.rc)).setCell ⟨g, 1, none⟩ (.int .i64 t.len)).heap[g]? = some (.cells #[.int .i64 t.rc, .int .i64 t.len, v2] 60 (0, 0)) := heap_setCell_same _ g 1 _ _ (.int .i64 t.len) h0
  have h2 : (((w.setCell ⟨g, 0, none⟩ (.int .i64 t.rc)).setCell ⟨g, 1, none⟩ (.int .i64 t.len)).setCell ⟨g, 2, none⟩ (.slice t.cA t.crs.length t.cc)).heap[g]? = some (.cells #[.int .i64 t.rc, .int .i64 t.len, .slice t.cA t.crs.length t.cc] 60 (0, 0)) := heap_setCell_same _ g 2 _ _ (.slice t.cA t.crs.length t.cc) h1
  exact h2
theorem setK_below {B : Nat} {a w : World} {g : Nat} (t : Tk) (h : Below B a w) (hg : B ≤ g) : Below B a (setK w g t) :=
  ((h.setCell (p := ⟨g, 0, none⟩) hg _).setCell (p := ⟨g, 1, none⟩) hg _).setCell (p := ⟨g, 2, none⟩) hg _
def TkORel (w : World) (T : List Tk) (id : Int) (m : Nat) (i : Value) (wr : World) : Prop :=
  ∃ k : Nat, k + m = T.length ∧ i = .int .i64 k ∧ (∀ j (h : j < T.length), j < k → (T[j]).rc ≠ id) ∧ wr.heap[w.heap.size]? = some (.cells tkCz 60 (0, 0)) ∧ Below w.heap.size w wr

set_option maxRecDepth 100000 in
set_option maxHeartbeats 2000000 in
theorem thingOf_c (A1 : Option Addr) (c1 : Nat) (T : List Th) (A2 : Option Addr) (c2 : Nat) (M : List Mv) (id : Int) (w : World) (hc : CatOk w A1 T A2 M) (hn : T.length ≤ 300) :
    Calls Tryz.prog 30 #[catV A1 c1 T A2 c2 M, .int .i64 id] w (GivesTh (thAt T id) w) := by
  generalize hres : thAt T id = res
  have HR := Lib.hid hres
  clear hres
  go_enter Tryz.func30, Tryz.ntmps30
  go_wp2
  go_loopg [11] T.length (ThRel w T id)
  case atStart =>
    refine ⟨0, by omega, rfl, fun j _ hj => absurd hj (by omega), ?_, ((Below.refl _ _).alloc (Nat.le_refl _) _).alloc (by simp) _⟩
    have := heap_alloc_new (w.alloc (.cells #[.slice A1 T.length c1, .slice A2 M.length c2] 25)) (.cells thCz 54)
    simpa using this
  case round =>
    obtain ⟨k, hk, rfl, hpre, hbx, hbel⟩ := hrel
    have HK := Lib.hid hk
    have HP := Lib.hid hpre
    have HBX := Lib.hid hbx
    have HB := Lib.hid hbel
    have hk1 : k ≤ T.length := by omega
    have hwr : w.heap.size + 1 < wr.heap.size := (Array.getElem?_eq_some_iff.1 hbx).1
    clear hk hpre
    have r0 : wr.cell? ⟨w.heap.size + 1, 0, none⟩ = some (.int .i64 0) := boxC hbx rfl
    have r1 : wr.cell? ⟨w.heap.size + 1, 1, none⟩ = some (.int .i64 0) := boxC hbx rfl
    have r2 : wr.cell? ⟨w.heap.size + 1, 2, none⟩ = some (.string ⟨#[]⟩) := boxC hbx rfl
    have r3 : wr.cell? ⟨w.heap.size + 1, 3, none⟩ = some (.string ⟨#[]⟩) := boxC hbx rfl
    have r4 : wr.cell? ⟨w.heap.size + 1, 4, none⟩ = some (.int .i64 0) := boxC hbx rfl
    have r5 : wr.cell? ⟨w.heap.size + 1, 5, none⟩ = some (.int .i64 0) := boxC hbx rfl
    have r6 : wr.cell? ⟨w.heap.size + 1, 6, none⟩ = some (.slice none 0 0) := boxC hbx rfl
    have fz : ∀ i, wr.frozen? ⟨w.heap.size + 1, i, none⟩ = false := fun i => frozen_of_row wr _ i _ _ hbx
    by_cases hlt : k < T.length
    · obtain ⟨b, o, rfl, hb, hcc⟩ := hc.ths.at_ (by omega)
      obtain ⟨p0, p1, p2, p3, p4, p5, p6⟩ := hcc k hlt
      have q0 := (hbel.cell (p := ⟨b, o + k * 7, none⟩) hb).trans p0
      have q1 := (hbel.cell (p := ⟨b, o + k * 7 + 1, none⟩) hb).trans p1
      have q2 := (hbel.cell (p := ⟨b, o + k * 7 + 2, none⟩) hb).trans p2
      have q3 := (hbel.cell (p := ⟨b, o + k * 7 + 3, none⟩) hb).trans p3
      have q4 := (hbel.cell (p := ⟨b, o + k * 7 + 4, none⟩) hb).trans p4
      have q5 := (hbel.cell (p := ⟨b, o + k * 7 + 5, none⟩) hb).trans p5
      have q6 := (hbel.cell (p := ⟨b, o + k * 7 + 6, none⟩) hb).trans p6
      have hbr : b < wr.heap.size := by omega
      clear hcc p0 p1 p2 p3 p4 p5 p6 hbx hbel
      by_cases he : (T[k]).id = id
      · have heb : ((T[k]).id == id) = true := by simpa using he
        have HS : Hid (res = some T[k]) := by
          show res = some T[k]
          rw [← HR.out, thAt_first hlt he HP.out]
        clear he
        go_wp2
        have HW : Hid (Below w.heap.size w ((set7 wr (w.heap.size + 1) T[k]).alloc (.cells #[.int .i64 (T[k]).id, .int .i64 (T[k]).kind, .string (T[k]).title, .string (T[k]).code, .int .i64 (T[k]).since, .int .i64 (T[k]).parent, .slice (T[k]).pA (T[k]).parts.length (T[k]).pc] 54))) := (set7_below T[k] HB.out (by omega)).alloc (by have := (set7_below T[k] (Below.refl wr.heap.size wr) (g := wr.heap.size) (Nat.le_refl _)).size; have := (set7_below (g := w.heap.size + 1) T[k] HB.out (by omega)).size; omega) _
        have hbt := BoxT.alloc (set7_box T[k] HBX.out) (.cells #[.int .i64 (T[k]).id, .int .i64 (T[k]).kind, .string (T[k]).title, .string (T[k]).code, .int .i64 (T[k]).since, .int .i64 (T[k]).parent, .slice (T[k]).pA (T[k]).parts.length (T[k]).pc] 54)
        unfold set7 at HW hbt
        generalize ((((((((wr.setCell ⟨w.heap.size + 1, 0, none⟩ (.int .i64 (T[k]).id)).setCell ⟨w.heap.size + 1, 1, none⟩ (.int .i64 (T[k]).kind)).setCell ⟨w.heap.size + 1, 2, none⟩ (.string (T[k]).title)).setCell ⟨w.heap.size + 1, 3, none⟩ (.string (T[k]).code)).setCell ⟨w.heap.size + 1, 4, none⟩ (.int .i64 (T[k]).since)).setCell ⟨w.heap.size + 1, 5, none⟩ (.int .i64 (T[k]).parent)).setCell ⟨w.heap.size + 1, 6, none⟩ (.slice (T[k]).pA (T[k]).parts.length (T[k]).pc)).alloc (.cells #[.int .i64 (T[k]).id, .int .i64 (T[k]).kind, .string (T[k]).title, .string (T[k]).code, .int .i64 (T[k]).since, .int .i64 (T[k]).parent, .slice (T[k]).pA (T[k]).parts.length (T[k]).pc] 54)) = WF at *
        obtain ⟨z0, z1, z2, z3, z4, z5, z6⟩ := hbt.cells
        exact bodyPost_ret (v := .tuple #[thV T[k], .bool true]) (by simp [results, Tryz.results30, go_sem, z0, z1, z2, z3, z4, z5, z6]) rfl (GivesTh.some_ HS.out HW.out)
      · have heb : ((T[k]).id == id) = false := by simpa using he
        have HNE := Lib.hid he
        clear he
        go_wp2
        go_roundg (gk - 1)
        case measure => have := HK.out; omega
        case rel =>
          refine ⟨k + 1, by have := HK.out; omega, by go_num, fun j hj hjk => ?_, (Below.heap_alloc wr _ _ hwr).trans HBX.out, HB.out.alloc (by omega) _⟩
          rcases Nat.lt_or_ge j k with h1 | h1
          · exact HP.out j hj h1
          · obtain rfl : j = k := by omega
            exact HNE.out
    · have HS : Hid (res = none) := by
        show res = none
        rw [← HR.out, thAt_all fun j hj => HP.out j hj (by omega)]
      go_wp2
      have HW := Lib.hid (set7_below (g := w.heap.size + 1) (default : Th) HB.out (by omega))
      have hbt := set7_box (default : Th) HBX.out
      change bodyPost _ _ _ _ _ (set7 wr (w.heap.size + 1) default)
      generalize set7 wr (w.heap.size + 1) default = WF at *
      obtain ⟨z0, z1, z2, z3, z4, z5, z6⟩ := hbt.cells
      have z2' : WF.cell? ⟨w.heap.size + 1, 2, none⟩ = some (.string ⟨#[]⟩) := z2
      have z3' : WF.cell? ⟨w.heap.size + 1, 3, none⟩ = some (.string ⟨#[]⟩) := z3
      have z0' : WF.cell? ⟨w.heap.size + 1, 0, none⟩ = some (.int .i64 0) := z0
      have z1' : WF.cell? ⟨w.heap.size + 1, 1, none⟩ = some (.int .i64 0) := z1
      have z4' : WF.cell? ⟨w.heap.size + 1, 4, none⟩ = some (.int .i64 0) := z4
      have z5' : WF.cell? ⟨w.heap.size + 1, 5, none⟩ = some (.int .i64 0) := z5
      have z6' : WF.cell? ⟨w.heap.size + 1, 6, none⟩ = some (.slice none 0 0) := z6
      exact bodyPost_ret (v := .tuple #[thZ, .bool false]) (by simp [results, Tryz.results30, go_sem, z0', z1', z2', z3', z4', z5', z6']) rfl (GivesTh.none_ HS.out HW.out)
set_option maxRecDepth 100000 in
set_option maxHeartbeats 2000000 in
theorem trackOf_c (A : Option Addr) (c : Nat) (T : List Tk) (id : Int) (w : World) (hc : TksOk w A T) (hn : T.length ≤ 300) :
    Calls Tryz.prog 32 #[.slice A T.length c, .int .i64 id] w (GivesTk (tkAt T id) w) := by
  generalize hres : tkAt T id = res
  have HR := Lib.hid hres
  clear hres
  go_enter Tryz.func32, Tryz.ntmps32
  go_wp2
  go_loopg [10] T.length (TkORel w T id)
  case atStart =>
    refine ⟨0, by omega, rfl, fun j _ hj => absurd hj (by omega), heap_alloc_new w (.cells tkCz 60), (Below.refl _ _).alloc (Nat.le_refl _) _⟩
  case round =>
    obtain ⟨k, hk, rfl, hpre, hbx, hbel⟩ := hrel
    have HK := Lib.hid hk
    have HP := Lib.hid hpre
    have HBX := Lib.hid hbx
    have HB := Lib.hid hbel
    have hk1 : k ≤ T.length := by omega
    have hwr : w.heap.size < wr.heap.size := (Array.getElem?_eq_some_iff.1 hbx).1
    clear hk hpre
    have r0 : wr.cell? ⟨w.heap.size, 0, none⟩ = some (.int .i64 0) := boxC hbx rfl
    have r1 : wr.cell? ⟨w.heap.size, 1, none⟩ = some (.int .i64 0) := boxC hbx rfl
    have r2 : wr.cell? ⟨w.heap.size, 2, none⟩ = some (.slice none 0 0) := boxC hbx rfl
    have fz : ∀ i, wr.frozen? ⟨w.heap.size, i, none⟩ = false := fun i => frozen_of_row wr _ i _ _ hbx
    by_cases hlt : k < T.length
    · obtain ⟨b, o, rfl, hb, hcc⟩ := hc.tks.at_ (by omega)
      obtain ⟨p0, p1, p2⟩ := hcc k hlt
      have q0 := (hbel.cell (p := ⟨b, o + k * 3, none⟩) hb).trans p0
      have q1 := (hbel.cell (p := ⟨b, o + k * 3 + 1, none⟩) hb).trans p1
      have q2 := (hbel.cell (p := ⟨b, o + k * 3 + 2, none⟩) hb).trans p2
      have hbr : b < wr.heap.size := by omega
      clear hcc p0 p1 p2 hbx hbel
      by_cases he : (T[k]).rc = id
      · have heb : ((T[k]).rc == id) = true := by simpa using he
        have HS : Hid (res = some T[k]) := by
          show res = some T[k]
          rw [← HR.out, tkAt_first hlt he HP.out]
        clear he
        go_wp2
        have HW : Hid (Below w.heap.size w ((setK wr w.heap.size T[k]).alloc (.cells #[.int .i64 (T[k]).rc, .int .i64 (T[k]).len, .slice (T[k]).cA (T[k]).crs.length (T[k]).cc] 60))) := (setK_below T[k] HB.out (Nat.le_refl _)).alloc (by have := (setK_below (g := w.heap.size) T[k] HB.out (Nat.le_refl _)).size; omega) _
        have hbt := BoxK.alloc (setK_box T[k] HBX.out) (.cells #[.int .i64 (T[k]).rc, .int .i64 (T[k]).len, .slice (T[k]).cA (T[k]).crs.length (T[k]).cc] 60)
        unfold setK at HW hbt
        generalize ((((wr.setCell ⟨w.heap.size, 0, none⟩ (.int .i64 (T[k]).rc)).setCell ⟨w.heap.size, 1, none⟩ (.int .i64 (T[k]).len)).setCell ⟨w.heap.size, 2, none⟩ (.slice (T[k]).cA (T[k]).crs.length (T[k]).cc)).alloc (.cells #[.int .i64 (T[k]).rc, .int .i64 (T[k]).len, .slice (T[k]).cA (T[k]).crs.length (T[k]).cc] 60)) = WF at *
        obtain ⟨z0, z1, z2⟩ := hbt.cells
        exact bodyPost_ret (v := .tuple #[tkV T[k], .bool true]) (by simp [results, Tryz.results32, go_sem, z0, z1, z2]) rfl (GivesTk.some_ HS.out HW.out)
      · have heb : ((T[k]).rc == id) = false := by simpa using he
        have HNE := Lib.hid he
        clear he
        go_wp2
        go_roundg (gk - 1)
        case measure => have := HK.out; omega
        case rel =>
          refine ⟨k + 1, by have := HK.out; omega, by go_num, fun j hj hjk => ?_, (Below.heap_alloc wr _ _ hwr).trans HBX.out, HB.out.alloc (by omega) _⟩
          rcases Nat.lt_or_ge j k with h1 | h1
          · exact HP.out j hj h1
          · obtain rfl : j = k := by omega
            exact HNE.out
    · have HS : Hid (res = none) := by
        show res = none
        rw [← HR.out, tkAt_all fun j hj => HP.out j hj (by omega)]
      go_wp2
      have HW := Lib.hid (setK_below (g := w.heap.size) (default : Tk) HB.out (Nat.le_refl _))
      have hbt := setK_box (default : Tk) HBX.out
      change bodyPost _ _ _ _ _ (setK wr w.heap.size default)
      generalize setK wr w.heap.size default = WF at *
      obtain ⟨z0, z1, z2⟩ := hbt.cells
      have z0' : WF.cell? ⟨w.heap.size, 0, none⟩ = some (.int .i64 0) := z0
      have z1' : WF.cell? ⟨w.heap.size, 1, none⟩ = some (.int .i64 0) := z1
      have z2' : WF.cell? ⟨w.heap.size, 2, none⟩ = some (.slice none 0 0) := z2
      exact bodyPost_ret (v := .tuple #[tkZ, .bool false]) (by simp [results, Tryz.results32, go_sem, z0', z1', z2']) rfl (GivesTk.none_ HS.out HW.out)
end Go.Proofs.YtfninfgohiipjaaGreatDoor

namespace Go.Proofs.YtfninfgohiipjaaGreatDoor
open Go.RowKit Dw

def CtRel (w : World) (T : List Th) (l : List Tk) (r : Nat) (m : Nat) (i : Value) (wr : World) : Prop :=
  ∃ k : Nat, k + m = l.length ∧ i = .int .i64 k ∧ (∀ j, j < k → tkF T l j = 0) ∧ IdxM wr r T ∧ Below w.heap.size w wr
def CtRelR (w : World) (v1 v2 : Value) (T : List Th) (l : List Tk) (m : Nat) (i : Value) (wr : World) : Prop :=
  ∃ k : Nat, k + m = l.length ∧ i = .int .i64 k ∧ (∀ j, j < k → tkF T l j = 0) ∧ CB w wr w.heap.size v1 v2

set_option maxRecDepth 100000 in
set_option maxHeartbeats 2000000 in
theorem CheckTracks_c (A1 : Option Addr) (c1 : Nat) (T : List Th) (A2 : Option Addr) (c2 : Nat) (M : List Mv) (A : Option Addr) (c : Nat) (l : List Tk) (w : World) (hc : CatOk w A1 T A2 M) (hG : GOK w) (hP : POK w) (he : TksOk w A l) :
    Calls Tryz.prog 9 #[catV A1 c1 T A2 c2 M, .slice A l.length c] w (GivesB (.int .i64 (chkT T M l)) w) := by
  generalize hres : chkT T M l = res
  have HR := Lib.hid hres
  have HEM := Lib.hid he
  have HPK := Lib.hid hP
  have hls := he.sized
  have HCB := Lib.hid (CB.new w (.slice A1 T.length c1) (.slice A2 M.length c2))
  clear hres he hP
  go_enter Tryz.func9, Tryz.ntmps9
  go_wp2_with fail
  refine (Check_c A1 c1 T A2 c2 M _ (hc.below HCB.out.bel) (hG.below HCB.out.bel)).mono ?_
  rintro e w2 ⟨rfl, hb2⟩
  have HC2 := Lib.hid (HCB.out.below hb2)
  clear hb2 HCB
  have hw2 := HC2.out.lt
  have d0 := HC2.out.c0
  have d1 := HC2.out.c1
  by_cases hck : chkC twoB T M = 0
  case neg =>
    have hckb : (chkC twoB T M != 0) = true := by simpa using hck
    have HX := Lib.hid (HR.out.symm.trans (chkT_bad hck))
    clear hck
    generalize chkC twoB T M = z at *
    go_wp2
    go_ret
    exact GivesB.mk (vint HX.out.symm) HC2.out.bel
  have HCK := Lib.hid hck
  obtain ⟨hinc, _⟩ := chkC_ok hck
  have HINC := Lib.hid hinc
  have hnT : T.length ≤ 300 := (chkC_len hck).1
  rw [hck]
  clear hck hinc
  by_cases hlg : 300 < l.length
  · have HX := Lib.hid (HR.out.symm.trans (chkT_large HCK.out hlg))
    go_wp2
    go_ret
    exact GivesB.mk (vint HX.out.symm) HC2.out.bel
  have HFST := Lib.hid (HR.out.symm.trans (chkT_first HCK.out hlg))
  have hn : l.length ≤ 300 := by omega
  clear hls
  go_wp2_with fail
  refine (thingsOf_c A1 c1 T A2 c2 M _ (hc.below HC2.out.bel) HINC.out hnT).mono ?_
  rintro e w3 ⟨r, rfl, hr, hix, hb3⟩
  have HIX := Lib.hid hix
  have HC3 := Lib.hid (HC2.out.below hb3)
  clear hb3 HC2 hw2 d0 d1 hr hix
  go_wp2
  clear hlg
  go_loopg [25] l.length (CtRel w T l r)
  case atStart => exact ⟨0, by omega, rfl, fun j hj => absurd hj (by omega), HIX.out, HC3.out.bel⟩
  case round =>
    obtain ⟨k, hk, rfl, hpre, hst⟩ := hrel
    have HK := Lib.hid hk
    have HP := Lib.hid hpre
    have HST := Lib.hid hst
    have hk1 : k ≤ l.length := by omega
    have HBR : Hid (Below w.heap.size w wr) := hst.2
    have HIXR := Lib.hid hst.1
    clear hk hpre hst
    by_cases hlt : k < l.length
    · have heb := HEM.out.below HBR.out
      obtain ⟨b, o, rfl, hb, hcc⟩ := heb.tks.at_ (by omega)
      obtain ⟨q0, q1, q2⟩ := hcc k hlt
      have HER : Hid (∀ z : Int, tkF T l k = z → z ≠ 0 → res = z) := by
        show ∀ z : Int, _
        intro z h1 h2
        rw [HFST.out, firstF_at hlt HP.out (by rw [h1]; exact h2), h1]
      have HNX : Hid (tkF T l k = 0 → ∀ j, j < k + 1 → tkF T l j = 0) := fun h0 j hj => by
        rcases Nat.lt_or_ge j k with h1 | h1
        · exact HP.out j h1
        · obtain rfl : j = k := by omega
          exact h0
      have HTK := Lib.hid (tkF_at (T := T) hlt)
      have HCR := Lib.hid (heb.crs _ (List.getElem_mem hlt))
      have HPV : Hid (0 < k → wr.cell? ⟨b, o + (k - 1) * 3, none⟩ = some (.int .i64 (l.getD (k - 1) default).rc)) := by
        show 0 < k → _
        intro h0
        rw [getTk (l := l) (i := k - 1) (by omega)]
        exact (hcc (k - 1) (by omega)).1
      clear hcc heb
      generalize l.getD (k - 1) default = pv at *
      generalize l[k] = x at *
      have hal : Below wr.heap.size wr (wr.alloc (.cells #[.int .i64 x.rc, .int .i64 x.len, .slice x.cA x.crs.length x.cc] 60)) := (Below.refl _ _).alloc (Nat.le_refl _) _
      have HBX : Hid (BoxK (wr.alloc (.cells #[.int .i64 x.rc, .int .i64 x.len, .slice x.cA x.crs.length x.cc] 60)) wr.heap.size x) := heap_alloc_new _ _
      have HAL := Lib.hid hal
      clear hal
      have HIX1 := Lib.hid (HIXR.out.alloc (.cells #[.int .i64 x.rc, .int .i64 x.len, .slice x.cA x.crs.length x.cc] 60))
      have hlk := run_lookup_map tThs kInt zThing HIX1.out.map x.rc true
      cases hta : thAt T x.rc with
      | none =>
        have HI := Lib.hid (HER.out 9 (by rw [HTK.out, hta]) (by decide))
        rw [hta] at hlk
        clear hta HTK
        have hlk' : (Instr.lookup 50 (.map (some r)) (.int .i64 x.rc) true).run Tryz.prog (wr.alloc (.cells #[.int .i64 x.rc, .int .i64 x.len, .slice x.cA x.crs.length x.cc] 60)) = .ok (.tuple #[thZ, .bool false]) (wr.alloc (.cells #[.int .i64 x.rc, .int .i64 x.len, .slice x.cA x.crs.length x.cc] 60)) := hlk
        clear hlk
        have HW4 : Hid (Below w.heap.size w ((wr.alloc (.cells #[.int .i64 x.rc, .int .i64 x.len, .slice x.cA x.crs.length x.cc] 60)).alloc (.cells #[.int .i64 0, .int .i64 0, .string ⟨#[]⟩, .string ⟨#[]⟩, .int .i64 0, .int .i64 0, .slice none 0 0] 54))) := (below_trans HBR.out HAL.out).alloc (Nat.le_trans HBR.out.size HAL.out.size) _
        go_wp2
        go_ret
        exact GivesB.mk (vint HI.out.symm) HW4.out
      | some t =>
        have HE1 : Hid (tkF T l k = if t.kind ≠ 2 then 6 else if 0 < k ∧ x.rc ≤ pv.rc then 8 else if x.len < 0 ∨ 10000000000000 < x.len then 1 else crsF x.crs) := by
          show tkF T l k = _
          rw [HTK.out, hta]
        rw [hta] at hlk
        have hlk' : (Instr.lookup 50 (.map (some r)) (.int .i64 x.rc) true).run Tryz.prog (wr.alloc (.cells #[.int .i64 x.rc, .int .i64 x.len, .slice x.cA x.crs.length x.cc] 60)) = .ok (.tuple #[thV t, .bool true]) (wr.alloc (.cells #[.int .i64 x.rc, .int .i64 x.len, .slice x.cA x.crs.length x.cc] 60)) := hlk
        clear hlk hta HTK
        have HW4 : Hid (Below w.heap.size w ((wr.alloc (.cells #[.int .i64 x.rc, .int .i64 x.len, .slice x.cA x.crs.length x.cc] 60)).alloc (.cells #[.int .i64 t.id, .int .i64 t.kind, .string t.title, .string t.code, .int .i64 t.since, .int .i64 t.parent, .slice t.pA t.parts.length t.pc] 54))) := (below_trans HBR.out HAL.out).alloc (Nat.le_trans HBR.out.size HAL.out.size) _
        have HB4 : Hid (Below wr.heap.size wr ((wr.alloc (.cells #[.int .i64 x.rc, .int .i64 x.len, .slice x.cA x.crs.length x.cc] 60)).alloc (.cells #[.int .i64 t.id, .int .i64 t.kind, .string t.title, .string t.code, .int .i64 t.since, .int .i64 t.parent, .slice t.pA t.parts.length t.pc] 54))) := HAL.out.alloc HAL.out.size _
        have HX4 := Lib.hid (HBX.out.alloc (.cells #[.int .i64 t.id, .int .i64 t.kind, .string t.title, .string t.code, .int .i64 t.since, .int .i64 t.parent, .slice t.pA t.parts.length t.pc] 54))
        have HT4 : Hid (BoxT ((wr.alloc (.cells #[.int .i64 x.rc, .int .i64 x.len, .slice x.cA x.crs.length x.cc] 60)).alloc (.cells #[.int .i64 t.id, .int .i64 t.kind, .string t.title, .string t.code, .int .i64 t.since, .int .i64 t.parent, .slice t.pA t.parts.length t.pc] 54)) (wr.alloc (.cells #[.int .i64 x.rc, .int .i64 x.len, .slice x.cA x.crs.length x.cc] 60)).heap.size t) := heap_alloc_new _ _
        have HIX4 := Lib.hid (HIX1.out.alloc (.cells #[.int .i64 t.id, .int .i64 t.kind, .string t.title, .string t.code, .int .i64 t.since, .int .i64 t.parent, .slice t.pA t.parts.length t.pc] 54))
        by_cases hk2 : t.kind = 2
        case neg =>
          have hkb : (t.kind != 2) = true := by simpa using hk2
          have HI := Lib.hid (HER.out 6 (by rw [HE1.out, if_pos hk2]) (by decide))
          clear hk2
          go_wp2
          go_ret
          exact GivesB.mk (vint HI.out.symm) HW4.out
        have hkb : (t.kind != 2) = false := by simpa using hk2
        have HE2 := Lib.hid (HE1.out.trans (if_neg (by simpa using hk2)))
        clear HE1 hk2
        go_wp2_with fail
        clear hkb hlk' HIX1 HAL
        have HX5 := HX4.out
        have HTB := HT4.out
        have HPV4 : Hid (0 < k → ((wr.alloc (.cells #[.int .i64 x.rc, .int .i64 x.len, .slice x.cA x.crs.length x.cc] 60)).alloc (.cells #[.int .i64 t.id, .int .i64 t.kind, .string t.title, .string t.code, .int .i64 t.since, .int .i64 t.parent, .slice t.pA t.parts.length t.pc] 54)).cell? ⟨b, o + (k - 1) * 3, none⟩ = some (.int .i64 pv.rc)) := fun h0 => (HB4.out.cell (p := ⟨b, o + (k - 1) * 3, none⟩) hb).trans (HPV.out h0)
        have HCR4 := Lib.hid (HCR.out.below HB4.out)
        have hb4 : b < ((wr.alloc (.cells #[.int .i64 x.rc, .int .i64 x.len, .slice x.cA x.crs.length x.cc] 60)).alloc (.cells #[.int .i64 t.id, .int .i64 t.kind, .string t.title, .string t.code, .int .i64 t.since, .int .i64 t.parent, .slice t.pA t.parts.length t.pc] 54)).heap.size := Nat.lt_of_lt_of_le hb HB4.out.size

        generalize hw4 : ((wr.alloc (.cells #[.int .i64 x.rc, .int .i64 x.len, .slice x.cA x.crs.length x.cc] 60)).alloc (.cells #[.int .i64 t.id, .int .i64 t.kind, .string t.title, .string t.code, .int .i64 t.since, .int .i64 t.parent, .slice t.pA t.parts.length t.pc] 54)) = w4 at *
        clear hw4 HPV HCR HB4 HX4 HT4 hb
        obtain ⟨z0, z1, z2⟩ := HX5.cells
        have hz1 := HX5.lt
        by_cases hord : 0 < k ∧ x.rc ≤ pv.rc
        · have HI := Lib.hid (HER.out 8 (by rw [HE2.out, if_pos hord]) (by decide))
          obtain ⟨h0, hle⟩ := hord
          have hd : decide ((0 : Int) < (k : Int)) = true := by simp; omega
          have hd2 : decide (x.rc ≤ pv.rc) = true := by simpa using hle
          have y0 := HPV4.out h0
          have s0 : IntKind.i64.wrap ((k : Int) - 1) = (k : Int) - 1 := IntWalk.i64_in _ (by omega)
          have s1 : (1 : Int) ≤ (k : Int) := by omega
          have s4 : (0 : Int) ≤ (k : Int) - 1 := by omega
          have s2 : (k : Int) - 1 < (l.length : Int) := by omega
          have s3 : ((k : Int) - 1).toNat = k - 1 := by omega
          clear HX5 HTB
          go_quiet (fail)
          go_wp2
          go_ret
          exact GivesB.mk (vint HI.out.symm) (below_drewN HW4.out _)
        have HE3 := Lib.hid (HE2.out.trans (if_neg hord))
        have hway : (¬ 0 < k) ∨ (0 < k ∧ ¬ x.rc ≤ pv.rc) := by
          by_cases h0 : 0 < k
          · exact .inr ⟨h0, fun h => hord ⟨h0, h⟩⟩
          · exact .inl h0
        clear hord HE2
        rcases hway with h0 | ⟨h0, hle⟩
        · have hd : decide ((0 : Int) < (k : Int)) = false := by simp; omega
          go_quiet (fail)
          clear hd h0
          by_cases hl1 : x.len < 0
          · have HI := Lib.hid (HER.out 1 (by rw [HE3.out, if_pos (.inl hl1)]) (by decide))
            go_wp2
            go_ret
            exact GivesB.mk (vint HI.out.symm) (below_drewN HW4.out _)
          by_cases hl2 : 10000000000000 < x.len
          · have HI := Lib.hid (HER.out 1 (by rw [HE3.out, if_pos (.inr hl2)]) (by decide))
            go_wp2
            go_ret
            exact GivesB.mk (vint HI.out.symm) (below_drewN HW4.out _)
          have HE4 := Lib.hid (HE3.out.trans (if_neg (by omega)))
          clear HE3
          go_wp2_with fail
          refine (Text_c x.cA x.cc x.crs _ (HCR4.out.below (below_drewN (Below.refl _ _) _)) (hG.below (below_drewN HW4.out _)) (HPK.out.below (below_drewN HW4.out _))).mono ?_
          rintro e w6 ⟨s, rfl, hb6⟩
          have HB6 := Lib.hid ((below_drewN HW4.out _).trans (hb6.mono HW4.out.size))
          have HIX6 := Lib.hid ((HIX4.out.below (below_drewN (Below.refl _ _) _)).below hb6)
          clear hb6
          by_cases hcf : crsF x.crs = 0
          case neg =>
            have HI := Lib.hid (HER.out _ HE4.out hcf)
            have hcb : (crsF x.crs != 0) = true := by simpa using hcf
            clear hcf
            generalize crsF x.crs = z at *
            go_wp2
            go_ret
            exact GivesB.mk (vint HI.out.symm) HB6.out
          have HN := Lib.hid (HNX.out (HE4.out.trans hcf))
          rw [hcf]
          clear hcf
          go_wp2
          go_roundg (gk - 1)
          case measure => have := HK.out; omega
          case rel => exact ⟨k + 1, by have := HK.out; omega, by go_num, HN.out, HIX6.out, HB6.out⟩
        · have hd : decide ((0 : Int) < (k : Int)) = true := by simp; omega
          have hd2 : decide (x.rc ≤ pv.rc) = false := by simpa using hle
          have y0 := HPV4.out h0
          have s0 : IntKind.i64.wrap ((k : Int) - 1) = (k : Int) - 1 := IntWalk.i64_in _ (by omega)
          have s1 : (1 : Int) ≤ (k : Int) := by omega
          have s4 : (0 : Int) ≤ (k : Int) - 1 := by omega
          have s2 : (k : Int) - 1 < (l.length : Int) := by omega
          have s3 : ((k : Int) - 1).toNat = k - 1 := by omega
          go_quiet (fail)
          clear hd hd2 y0 s0 s1 s2 s3 s4 h0 hle
          by_cases hl1 : x.len < 0
          · have HI := Lib.hid (HER.out 1 (by rw [HE3.out, if_pos (.inl hl1)]) (by decide))
            go_wp2
            go_ret
            exact GivesB.mk (vint HI.out.symm) (below_drewN HW4.out _)
          by_cases hl2 : 10000000000000 < x.len
          · have HI := Lib.hid (HER.out 1 (by rw [HE3.out, if_pos (.inr hl2)]) (by decide))
            go_wp2
            go_ret
            exact GivesB.mk (vint HI.out.symm) (below_drewN HW4.out _)
          have HE4 := Lib.hid (HE3.out.trans (if_neg (by omega)))
          clear HE3
          go_wp2_with fail
          refine (Text_c x.cA x.cc x.crs _ (HCR4.out.below (below_drewN (Below.refl _ _) _)) (hG.below (below_drewN HW4.out _)) (HPK.out.below (below_drewN HW4.out _))).mono ?_
          rintro e w6 ⟨s, rfl, hb6⟩
          have HB6 := Lib.hid ((below_drewN HW4.out _).trans (hb6.mono HW4.out.size))
          have HIX6 := Lib.hid ((HIX4.out.below (below_drewN (Below.refl _ _) _)).below hb6)
          clear hb6
          by_cases hcf : crsF x.crs = 0
          case neg =>
            have HI := Lib.hid (HER.out _ HE4.out hcf)
            have hcb : (crsF x.crs != 0) = true := by simpa using hcf
            clear hcf
            generalize crsF x.crs = z at *
            go_wp2
            go_ret
            exact GivesB.mk (vint HI.out.symm) HB6.out
          have HN := Lib.hid (HNX.out (HE4.out.trans hcf))
          rw [hcf]
          clear hcf
          go_wp2
          go_roundg (gk - 1)
          case measure => have := HK.out; omega
          case rel => exact ⟨k + 1, by have := HK.out; omega, by go_num, HN.out, HIX6.out, HB6.out⟩
    · have HS : Hid (res = 0) := by
        show res = 0
        rw [HFST.out, firstF_zero fun j hj => HP.out j (by omega)]
      go_wp2
      go_ret
      exact GivesB.mk (vint HS.out.symm) HBR.out

set_option maxRecDepth 100000 in
set_option maxHeartbeats 2000000 in
theorem CheckTracksR_c (A1 : Option Addr) (c1 : Nat) (T : List Th) (A2 : Option Addr) (c2 : Nat) (M : List Mv) (A : Option Addr) (c : Nat) (l : List Tk) (w : World) (hc : CatOk w A1 T A2 M) (hG : GOK w) (hP : POK w) (he : TksOk w A l) (hcap : T.length ≤ c1) :
    Calls Tryz.prog 10 #[catV A1 c1 T A2 c2 M, .slice A l.length c] w (GivesB (.int .i64 (chkT T M l)) w) := by
  generalize hres : chkT T M l = res
  have HR := Lib.hid hres
  have HEM := Lib.hid he
  have HPK := Lib.hid hP
  have hls := he.sized
  have HCB := Lib.hid (CB.new w (.slice A1 T.length c1) (.slice A2 M.length c2))
  clear hres he hP
  go_enter Tryz.func10, Tryz.ntmps10
  go_wp2_with fail
  refine (CheckR_c A1 c1 T A2 c2 M _ (hc.below HCB.out.bel) (hG.below HCB.out.bel) hcap).mono ?_
  rintro e w2 ⟨rfl, hb2⟩
  have HC2 := Lib.hid (HCB.out.below hb2)
  clear hb2 HCB
  have hw2 := HC2.out.lt
  have d0 := HC2.out.c0
  have d1 := HC2.out.c1
  by_cases hck : chkC twoB T M = 0
  case neg =>
    have hckb : (chkC twoB T M != 0) = true := by simpa using hck
    have HX := Lib.hid (HR.out.symm.trans (chkT_bad hck))
    clear hck
    generalize chkC twoB T M = z at *
    go_wp2
    go_ret
    exact GivesB.mk (vint HX.out.symm) HC2.out.bel
  have HCK := Lib.hid hck
  obtain ⟨hinc, _⟩ := chkC_ok hck
  have HINC := Lib.hid hinc
  have hnT : T.length ≤ 300 := (chkC_len hck).1
  rw [hck]
  clear hck hinc
  by_cases hlg : 300 < l.length
  · have HX := Lib.hid (HR.out.symm.trans (chkT_large HCK.out hlg))
    go_wp2
    go_ret
    exact GivesB.mk (vint HX.out.symm) HC2.out.bel
  have HFST := Lib.hid (HR.out.symm.trans (chkT_first HCK.out hlg))
  have hn : l.length ≤ 300 := by omega
  clear hls
  clear hw2 d0 d1
  go_wp2
  clear hlg
  go_loopg [21] l.length (CtRelR w (.slice A1 T.length c1) (.slice A2 M.length c2) T l)
  case atStart => exact ⟨0, by omega, rfl, fun j hj => absurd hj (by omega), HC2.out⟩
  case round =>
    obtain ⟨k, hk, rfl, hpre, hst⟩ := hrel
    have HK := Lib.hid hk
    have HP := Lib.hid hpre
    have HST := Lib.hid hst
    have hk1 : k ≤ l.length := by omega
    have HBR : Hid (Below w.heap.size w wr) := hst.bel
    have HCBR := Lib.hid hst
    have hwl := hst.lt
    have d0 := hst.c0
    have d1 := hst.c1
    clear hk hpre hst
    by_cases hlt : k < l.length
    · have heb := HEM.out.below HBR.out
      obtain ⟨b, o, rfl, hb, hcc⟩ := heb.tks.at_ (by omega)
      obtain ⟨q0, q1, q2⟩ := hcc k hlt
      have HER : Hid (∀ z : Int, tkF T l k = z → z ≠ 0 → res = z) := by
        show ∀ z : Int, _
        intro z h1 h2
        rw [HFST.out, firstF_at hlt HP.out (by rw [h1]; exact h2), h1]
      have HNX : Hid (tkF T l k = 0 → ∀ j, j < k + 1 → tkF T l j = 0) := fun h0 j hj => by
        rcases Nat.lt_or_ge j k with h1 | h1
        · exact HP.out j h1
        · obtain rfl : j = k := by omega
          exact h0
      have HTK := Lib.hid (tkF_at (T := T) hlt)
      have HCR := Lib.hid (heb.crs _ (List.getElem_mem hlt))
      have HPV : Hid (0 < k → wr.cell? ⟨b, o + (k - 1) * 3, none⟩ = some (.int .i64 (l.getD (k - 1) default).rc)) := by
        show 0 < k → _
        intro h0
        rw [getTk (l := l) (i := k - 1) (by omega)]
        exact (hcc (k - 1) (by omega)).1
      clear hcc heb
      generalize l.getD (k - 1) default = pv at *
      generalize l[k] = x at *
      have hal : Below wr.heap.size wr (wr.alloc (.cells #[.int .i64 x.rc, .int .i64 x.len, .slice x.cA x.crs.length x.cc] 60)) := (Below.refl _ _).alloc (Nat.le_refl _) _
      have HBX : Hid (BoxK (wr.alloc (.cells #[.int .i64 x.rc, .int .i64 x.len, .slice x.cA x.crs.length x.cc] 60)) wr.heap.size x) := heap_alloc_new _ _
      have HAL := Lib.hid hal
      clear hal
      have HCB1 := Lib.hid (HCBR.out.alloc (.cells #[.int .i64 x.rc, .int .i64 x.len, .slice x.cA x.crs.length x.cc] 60))
      go_wp2_with fail
      refine (thingOf_c A1 c1 T A2 c2 M x.rc _ (hc.below HCB1.out.bel) hnT).mono ?_
      rintro e w3 ⟨rfl, hb3⟩
      have HC3 := Lib.hid (HCB1.out.below hb3)
      have HX3 := Lib.hid (HBX.out.below hb3)
      have HB3 := Lib.hid (below_trans HAL.out hb3)
      clear hb3 HCB1 HAL HBX d0 d1 hwl q0 q1 q2
      have hwl := HC3.out.lt
      cases hta : thAt T x.rc with
      | none =>
        have HI := Lib.hid (HER.out 9 (by rw [HTK.out, hta]) (by decide))
        clear hta HTK
        simp only [thO, Option.map_none, Option.getD_none, Option.isSome_none]
        have HW4 : Hid (Below w.heap.size w (w3.alloc (.cells #[.int .i64 0, .int .i64 0, .string ⟨#[]⟩, .string ⟨#[]⟩, .int .i64 0, .int .i64 0, .slice none 0 0] 54))) := (HC3.out.alloc _).bel
        go_wp2
        go_ret
        exact GivesB.mk (vint HI.out.symm) HW4.out
      | some t =>
        have HE1 : Hid (tkF T l k = if t.kind ≠ 2 then 6 else if 0 < k ∧ x.rc ≤ pv.rc then 8 else if x.len < 0 ∨ 10000000000000 < x.len then 1 else crsF x.crs) := by
          show tkF T l k = _
          rw [HTK.out, hta]
        clear hta HTK
        simp only [thO, Option.map_some, Option.getD_some, Option.isSome_some]
        have HC4 := Lib.hid (HC3.out.alloc (.cells #[.int .i64 t.id, .int .i64 t.kind, .string t.title, .string t.code, .int .i64 t.since, .int .i64 t.parent, .slice t.pA t.parts.length t.pc] 54))
        have HW4 := Lib.hid HC4.out.bel
        have HB4 : Hid (Below wr.heap.size wr (w3.alloc (.cells #[.int .i64 t.id, .int .i64 t.kind, .string t.title, .string t.code, .int .i64 t.since, .int .i64 t.parent, .slice t.pA t.parts.length t.pc] 54))) := HB3.out.alloc HB3.out.size _
        have HX4 := Lib.hid (HX3.out.alloc (.cells #[.int .i64 t.id, .int .i64 t.kind, .string t.title, .string t.code, .int .i64 t.since, .int .i64 t.parent, .slice t.pA t.parts.length t.pc] 54))
        have HT4 : Hid (BoxT (w3.alloc (.cells #[.int .i64 t.id, .int .i64 t.kind, .string t.title, .string t.code, .int .i64 t.since, .int .i64 t.parent, .slice t.pA t.parts.length t.pc] 54)) w3.heap.size t) := heap_alloc_new _ _
        obtain ⟨z0, z1, z2⟩ := HX3.out.cells
        have hz1 := HX3.out.lt
        by_cases hk2 : t.kind = 2
        case neg =>
          have hkb : (t.kind != 2) = true := by simpa using hk2
          have HI := Lib.hid (HER.out 6 (by rw [HE1.out, if_pos hk2]) (by decide))
          clear hk2
          go_wp2
          go_ret
          exact GivesB.mk (vint HI.out.symm) HW4.out
        have hkb : (t.kind != 2) = false := by simpa using hk2
        have HE2 := Lib.hid (HE1.out.trans (if_neg (by simpa using hk2)))
        clear HE1 hk2
        go_wp2_with fail
        clear hkb HC3 HX3 HB3 z0 z1 z2 hz1 hwl
        have HX5 := HX4.out
        have HTB := HT4.out
        have HPV4 : Hid (0 < k → (w3.alloc (.cells #[.int .i64 t.id, .int .i64 t.kind, .string t.title, .string t.code, .int .i64 t.since, .int .i64 t.parent, .slice t.pA t.parts.length t.pc] 54)).cell? ⟨b, o + (k - 1) * 3, none⟩ = some (.int .i64 pv.rc)) := fun h0 => (HB4.out.cell (p := ⟨b, o + (k - 1) * 3, none⟩) hb).trans (HPV.out h0)
        have HCR4 := Lib.hid (HCR.out.below HB4.out)
        have hb4 : b < (w3.alloc (.cells #[.int .i64 t.id, .int .i64 t.kind, .string t.title, .string t.code, .int .i64 t.since, .int .i64 t.parent, .slice t.pA t.parts.length t.pc] 54)).heap.size := Nat.lt_of_lt_of_le hb HB4.out.size

        generalize hw4 : (w3.alloc (.cells #[.int .i64 t.id, .int .i64 t.kind, .string t.title, .string t.code, .int .i64 t.since, .int .i64 t.parent, .slice t.pA t.parts.length t.pc] 54)) = w4 at *
        clear hw4 HPV HCR HB4 HX4 HT4 hb
        obtain ⟨z0, z1, z2⟩ := HX5.cells
        have hz1 := HX5.lt
        by_cases hord : 0 < k ∧ x.rc ≤ pv.rc
        · have HI := Lib.hid (HER.out 8 (by rw [HE2.out, if_pos hord]) (by decide))
          obtain ⟨h0, hle⟩ := hord
          have hd : decide ((0 : Int) < (k : Int)) = true := by simp; omega
          have hd2 : decide (x.rc ≤ pv.rc) = true := by simpa using hle
          have y0 := HPV4.out h0
          have s0 : IntKind.i64.wrap ((k : Int) - 1) = (k : Int) - 1 := IntWalk.i64_in _ (by omega)
          have s1 : (1 : Int) ≤ (k : Int) := by omega
          have s4 : (0 : Int) ≤ (k : Int) - 1 := by omega
          have s2 : (k : Int) - 1 < (l.length : Int) := by omega
          have s3 : ((k : Int) - 1).toNat = k - 1 := by omega
          clear HX5 HTB
          go_quiet (fail)
          go_wp2
          go_ret
          exact GivesB.mk (vint HI.out.symm) (below_drewN HW4.out _)
        have HE3 := Lib.hid (HE2.out.trans (if_neg hord))
        have hway : (¬ 0 < k) ∨ (0 < k ∧ ¬ x.rc ≤ pv.rc) := by
          by_cases h0 : 0 < k
          · exact .inr ⟨h0, fun h => hord ⟨h0, h⟩⟩
          · exact .inl h0
        clear hord HE2
        rcases hway with h0 | ⟨h0, hle⟩
        · have hd : decide ((0 : Int) < (k : Int)) = false := by simp; omega
          go_quiet (fail)
          clear hd h0
          by_cases hl1 : x.len < 0
          · have HI := Lib.hid (HER.out 1 (by rw [HE3.out, if_pos (.inl hl1)]) (by decide))
            go_wp2
            go_ret
            exact GivesB.mk (vint HI.out.symm) (below_drewN HW4.out _)
          by_cases hl2 : 10000000000000 < x.len
          · have HI := Lib.hid (HER.out 1 (by rw [HE3.out, if_pos (.inr hl2)]) (by decide))
            go_wp2
            go_ret
            exact GivesB.mk (vint HI.out.symm) (below_drewN HW4.out _)
          have HE4 := Lib.hid (HE3.out.trans (if_neg (by omega)))
          clear HE3
          go_wp2_with fail
          refine (CheckCreditsR_c x.cA x.cc x.crs _ (HCR4.out.below (below_drewN (Below.refl _ _) _)) (hG.below (below_drewN HW4.out _))).mono ?_
          rintro e w6 ⟨rfl, hb6⟩
          have HB6 := Lib.hid ((below_drewN HW4.out _).trans (hb6.mono HW4.out.size))
          have HC6 := Lib.hid ((HC4.out.below (below_drewN (Below.refl _ _) _)).below hb6)
          clear hb6
          by_cases hcf : crsF x.crs = 0
          case neg =>
            have HI := Lib.hid (HER.out _ HE4.out hcf)
            have hcb : (crsF x.crs != 0) = true := by simpa using hcf
            clear hcf
            generalize crsF x.crs = z at *
            go_wp2
            go_ret
            exact GivesB.mk (vint HI.out.symm) HB6.out
          have HN := Lib.hid (HNX.out (HE4.out.trans hcf))
          rw [hcf]
          clear hcf
          go_wp2
          go_roundg (gk - 1)
          case measure => have := HK.out; omega
          case rel => exact ⟨k + 1, by have := HK.out; omega, by go_num, HN.out, HC6.out⟩
        · have hd : decide ((0 : Int) < (k : Int)) = true := by simp; omega
          have hd2 : decide (x.rc ≤ pv.rc) = false := by simpa using hle
          have y0 := HPV4.out h0
          have s0 : IntKind.i64.wrap ((k : Int) - 1) = (k : Int) - 1 := IntWalk.i64_in _ (by omega)
          have s1 : (1 : Int) ≤ (k : Int) := by omega
          have s4 : (0 : Int) ≤ (k : Int) - 1 := by omega
          have s2 : (k : Int) - 1 < (l.length : Int) := by omega
          have s3 : ((k : Int) - 1).toNat = k - 1 := by omega
          go_quiet (fail)
          clear hd hd2 y0 s0 s1 s2 s3 s4 h0 hle
          by_cases hl1 : x.len < 0
          · have HI := Lib.hid (HER.out 1 (by rw [HE3.out, if_pos (.inl hl1)]) (by decide))
            go_wp2
            go_ret
            exact GivesB.mk (vint HI.out.symm) (below_drewN HW4.out _)
          by_cases hl2 : 10000000000000 < x.len
          · have HI := Lib.hid (HER.out 1 (by rw [HE3.out, if_pos (.inr hl2)]) (by decide))
            go_wp2
            go_ret
            exact GivesB.mk (vint HI.out.symm) (below_drewN HW4.out _)
          have HE4 := Lib.hid (HE3.out.trans (if_neg (by omega)))
          clear HE3
          go_wp2_with fail
          refine (CheckCreditsR_c x.cA x.cc x.crs _ (HCR4.out.below (below_drewN (Below.refl _ _) _)) (hG.below (below_drewN HW4.out _))).mono ?_
          rintro e w6 ⟨rfl, hb6⟩
          have HB6 := Lib.hid ((below_drewN HW4.out _).trans (hb6.mono HW4.out.size))
          have HC6 := Lib.hid ((HC4.out.below (below_drewN (Below.refl _ _) _)).below hb6)
          clear hb6
          by_cases hcf : crsF x.crs = 0
          case neg =>
            have HI := Lib.hid (HER.out _ HE4.out hcf)
            have hcb : (crsF x.crs != 0) = true := by simpa using hcf
            clear hcf
            generalize crsF x.crs = z at *
            go_wp2
            go_ret
            exact GivesB.mk (vint HI.out.symm) HB6.out
          have HN := Lib.hid (HNX.out (HE4.out.trans hcf))
          rw [hcf]
          clear hcf
          go_wp2
          go_roundg (gk - 1)
          case measure => have := HK.out; omega
          case rel => exact ⟨k + 1, by have := HK.out; omega, by go_num, HN.out, HC6.out⟩
    · have HS : Hid (res = 0) := by
        show res = 0
        rw [HFST.out, firstF_zero fun j hj => HP.out j (by omega)]
      go_wp2
      go_ret
      exact GivesB.mk (vint HS.out.symm) HBR.out
end Go.Proofs.YtfninfgohiipjaaGreatDoor

namespace Go.Proofs.YtfninfgohiipjaaGreatDoor
open Go.RowKit Dw

def NmSz (l : List Cr) : Prop := l.length ≤ 1000 ∧ ∀ c ∈ l, c.role.size ≤ 60 ∧ c.name.size ≤ 60
theorem nmSz_of {l : List Cr} (h : crsF l = 0) : NmSz l := by
  obtain ⟨h1, h2⟩ := crsF_ok h
  refine ⟨h1, fun c hc => ?_⟩
  obtain ⟨f1, f2, _⟩ := crF_ok (h2 c hc)
  exact ⟨(lineB_size f1).2, (lineB_size f2).2⟩
def NrRel (w : World) (l : List Cr) (m : Nat) (out i : Value) (wr : World) : Prop :=
  ∃ k : Nat, k + m = l.length ∧ i = .int .i64 k ∧ out = .string (nmTo l k) ∧ Below w.heap.size w wr

set_option maxRecDepth 100000 in
set_option maxHeartbeats 1000000 in
theorem namedR_c (A : Option Addr) (c : Nat) (l : List Cr) (w : World) (hw : CrsOk w A l) (hs : NmSz l) :
    Calls Tryz.prog 34 #[.slice A l.length c] w (GivesB (.string (nmB l)) w) := by
  have HW := Lib.hid hw
  have HSZ := Lib.hid hs.2
  have hn := hs.1
  clear hw hs
  go_enter Tryz.func34, Tryz.ntmps34
  go_wp2
  go_loopg [3, 8] l.length (NrRel w l)
  case atStart => exact ⟨0, by omega, rfl, rfl, Below.refl _ _⟩
  case round =>
    obtain ⟨k, hk, rfl, rfl, hbr⟩ := hrel
    have HK := Lib.hid hk
    have HBR := Lib.hid hbr
    have hk1 : k ≤ l.length := by omega
    have hzo : (nmTo l k).size ≤ 130000 := by
      have := nmTo_size HSZ.out k hk1
      omega
    clear hk hbr
    by_cases hlt : k < l.length
    · obtain ⟨b, o, rfl, hb, hcc⟩ := (HW.out.crs.below HBR.out).at_ (by omega)
      obtain ⟨q0, q1, q2, q3, q4⟩ := hcc k hlt
      have HPV : Hid (0 < k → wr.cell? ⟨b, o + (k - 1) * 5, none⟩ = some (.string (l.getD (k - 1) default).role)) := by
        show 0 < k → _
        intro h0
        rw [getC (l := l) (i := k - 1) (by omega)]
        exact (hcc (k - 1) (by omega)).1
      have HST : Hid (nmTo l (k + 1) = if 0 < k ∧ (l.getD (k - 1) default).role = (l[k]).role then nmTo l k ++ (⟨#[44, 32]⟩ ++ (l[k]).name)
          else (if 0 < k then nmTo l k ++ ⟨#[10]⟩ else nmTo l k) ++ (((⟨#[32, 32]⟩ ++ (l[k]).role) ++ ⟨#[58, 32]⟩) ++ (l[k]).name)) := by
        show nmTo l (k + 1) = _
        rw [nmTo]
        unfold nmStep
        rw [getC hlt]
      obtain ⟨hzr, hzn⟩ := HSZ.out _ (List.getElem_mem hlt)
      clear hcc
      generalize nmTo l k = out at *
      generalize (l.getD (k - 1) default).role = pr at *
      generalize l[k] = x at *
      have HBX : Hid (BoxC (wr.alloc (.cells #[.string x.role, .string x.person, .string x.name, .slice x.iA x.ins.length x.ic, .int .i64 x.n] 113)) wr.heap.size x) := heap_alloc_new _ _
      have HB1 : Hid (Below wr.heap.size wr (wr.alloc (.cells #[.string x.role, .string x.person, .string x.name, .slice x.iA x.ins.length x.ic, .int .i64 x.n] 113))) := (Below.refl _ _).alloc (Nat.le_refl _) _
      go_wp2_with fail
      generalize hw1 : (wr.alloc (.cells #[.string x.role, .string x.person, .string x.name, .slice x.iA x.ins.length x.ic, .int .i64 x.n] 113)) = w1 at *
      have hb1 : b < w1.heap.size := Nat.lt_of_lt_of_le hb HB1.out.size
      have HBA := Lib.hid (below_trans HBR.out HB1.out)
      have HPW : Hid (0 < k → w1.cell? ⟨b, o + (k - 1) * 5, none⟩ = some (.string pr)) := fun h0 => (HB1.out.cell (p := ⟨b, o + (k - 1) * 5, none⟩) hb).trans (HPV.out h0)
      clear hw1 HPV HB1
      generalize hpp : wr.heap.size = p at *
      clear hpp q0 q1 q2 q3 q4 hb
      obtain ⟨z0, z1, z2, z3, z4⟩ := HBX.out.cells
      have hzl := HBX.out.lt
      by_cases h0 : 0 < k
      · have hd : decide ((0 : Int) < (k : Int)) = true := by simp; omega
        have y0 := HPW.out h0
        have s0 : IntKind.i64.wrap ((k : Int) - 1) = (k : Int) - 1 := IntWalk.i64_in _ (by omega)
        have s1 : (1 : Int) ≤ (k : Int) := by omega
        have s4 : (0 : Int) ≤ (k : Int) - 1 := by omega
        have s2 : (k : Int) - 1 < (l.length : Int) := by omega
        have s3 : ((k : Int) - 1).toNat = k - 1 := by omega
        cases he : (pr.toList == x.role.toList) with
        | true =>
          have HS : Hid (nmTo l (k + 1) = out ++ (⟨#[44, 32]⟩ ++ x.name)) := by
            show _ = _
            rw [HST.out, if_pos ⟨h0, by rw [str_dec] at he; simpa using he⟩]
          clear HST
          go_quiet (fail)
          clear hd y0 s0 s1 s2 s3 s4 he
          go_wp2
          go_roundg (gk - 1)
          case measure => have := HK.out; omega
          case rel => exact ⟨k + 1, by have := HK.out; omega, by go_num, by rw [HS.out], below_drewN HBA.out _⟩
        | false =>
          have HS : Hid (nmTo l (k + 1) = (out ++ ⟨#[10]⟩) ++ (((⟨#[32, 32]⟩ ++ x.role) ++ ⟨#[58, 32]⟩) ++ x.name)) := by
            show _ = _
            rw [HST.out, if_neg (fun h => by rw [str_dec] at he; exact absurd h.2 (by simpa using he)), if_pos h0]
          clear HST
          go_quiet (fail)
          clear y0 s0 s1 s2 s3 s4 he
          go_wp2
          all_goals (try (exfalso; omega))
          go_roundg (gk - 1)
          case measure => have := HK.out; omega
          case rel => exact ⟨k + 1, by have := HK.out; omega, by go_num, by rw [HS.out], below_drewN HBA.out _⟩
      · have hd : decide ((0 : Int) < (k : Int)) = false := by simp; omega
        have HS : Hid (nmTo l (k + 1) = out ++ (((⟨#[32, 32]⟩ ++ x.role) ++ ⟨#[58, 32]⟩) ++ x.name)) := by
          show _ = _
          rw [HST.out, if_neg (fun h => h0 h.1), if_neg h0]
        clear HST
        go_quiet (fail)
        go_wp2
        go_roundg (gk - 1)
        case measure => have := HK.out; omega
        case rel => exact ⟨k + 1, by have := HK.out; omega, by go_num, by rw [HS.out], below_drewN HBA.out _⟩
    · by_cases hl0 : l.length = 0
      · have HS : Hid (nmB l = ⟨#[]⟩) := by show _ = _; unfold nmB; rw [if_pos hl0]
        have hk0 : k = 0 := by omega
        have he : nmTo l k = ⟨#[]⟩ := by rw [hk0]; rfl
        rw [he]
        clear he hk0 hl0 hzo
        go_wp2
        go_ret
        exact GivesB.mk (vstr HS.out.symm) HBR.out
      · have HS : Hid (nmB l = nmTo l k ++ ⟨#[10]⟩) := by
          show _ = _
          unfold nmB
          rw [if_neg hl0, show k = l.length by omega]
        have hne : (nmTo l k).size ≠ 0 := by
          obtain ⟨j, rfl⟩ : ∃ j, k = j + 1 := ⟨k - 1, by omega⟩
          exact nmTo_ne l j
        have he : (nmTo l k).toList.isEmpty = false := isEmpty_of_ne (fun e => hne (by rw [e]; rfl))
        generalize nmTo l k = out at *
        clear hne hl0
        go_wp2
        go_ret
        exact GivesB.mk (vstr HS.out.symm) HBR.out
end Go.Proofs.YtfninfgohiipjaaGreatDoor

namespace Go.Proofs.YtfninfgohiipjaaGreatDoor
open Go.RowKit Dw

theorem elStr : ElemT Tryz.prog 94 9 (.string ⟨#[]⟩) 1 16 := ⟨Tryz.underlying94, by kernel_rfl, rfl, by decide⟩
abbrev encS : ByteArray → List Value := fun s => [.string s]
theorem own_one {w : World} {base : Nat} {s : ByteArray} (h : base ≤ w.heap.size) : OwnL encS 1 (w.alloc (.cells #[.string s] 9)) base 9 (.slice (some ⟨w.heap.size, 0, none⟩) 1 1) [s] :=
  ⟨rfl, .inr ⟨w.heap.size, 1, #[.string s], rfl, h, heap_alloc_new _ _, Nat.le_refl _, by unfold maxLen; omega, rfl, rfl⟩⟩
theorem kept_grown {e : TypeId} {b : Option Nat} {w wr wr' : World} {row : Option Nat} (h : Lib.OthersKept e b w wr) (hg : wr.grownBy wr' row) (hle : w.heap.size ≤ wr.heap.size) (hr : ∀ g, row = some g → w.heap.size ≤ g) : Lib.OthersKept e b w wr' := fun k o hk hb ho => by
  have hkl : k < w.heap.size := (Array.getElem?_eq_some_iff.1 hk).1
  rw [hg.block k (by omega) (fun e => by have := hr k e.symm; omega)]
  exact h k o hk hb ho
theorem kept_bel {e : TypeId} {b : Option Nat} {w wr wr' : World} (h : Lib.OthersKept e b w wr) (hb : Below wr.heap.size wr wr') : Lib.OthersKept e b w wr' := fun k o hk hne ho => by
  have h1 := h k o hk hne ho
  exact (hb.block k (Array.getElem?_eq_some_iff.1 h1).1).trans h1
def GivesNm (B b : Nat) (l : List UInt8) (w : World) (e : Ending) (w' : World) : Prop := e = .returned (.tuple #[]) ∧ Bld B b l w' ∧ Below B w w' ∧ Lib.OthersKept 5 (some b) w w'
/-- What the loops keep: the builder, what lies below it, all other blocks. -/
structure NmS (B b : Nat) (l : List UInt8) (w wr : World) : Prop where
  bld : Bld B b l wr
  bel : Below B w wr
  kept : Lib.OthersKept 5 (some b) w wr
theorem NmS.below {B b : Nat} {l : List UInt8} {w wr wr' : World} (h : NmS B b l w wr) (hB : B ≤ w.heap.size) (hb : Below wr.heap.size wr wr') : NmS B b l w wr' :=
  ⟨h.bld.below hb, h.bel.trans (hb.mono (Nat.le_trans hB h.bel.size)), kept_bel h.kept hb⟩
theorem own_capS {α : Type} {enc : α → List Value} {k : Nat} {w : World} {base : Nat} {e : TypeId} {A : Option Addr} {n c : Nat} {l : List α} (h : OwnL enc k w base e (.slice A n c) l) : n ≤ c ∧ n = l.length := by
  rcases h.2 with ⟨he, hn⟩ | ⟨g', cap, cur, he, hb, hgg, hnc, rest⟩
  · injection he with _ h1 h2
    exact ⟨by omega, by omega⟩
  · injection he with _ h1 h2
    exact ⟨by omega, by omega⟩
theorem own_type {α : Type} {enc : α → List Value} {k : Nat} {w : World} {base : Nat} {e : TypeId} {v : Value} {l : List α} (h : OwnL enc k w base e v l) {g : Nat} (hg : v.ownBlock = some g) : ∃ cur fz, w.heap[g]? = some (.cells cur e fz) := by
  rcases h.2 with ⟨rfl, _⟩ | ⟨g', cap, cur, rfl, _, h3, _⟩
  · cases hg
  · injection hg with hg
    subst hg
    exact ⟨_, _, h3⟩
theorem Bld.grown {B b : Nat} {l : List UInt8} {w w' : World} {row : Option Nat} (h : Bld B b l w) (hg : w.grownBy w' row) (hne : row ≠ some b) (ht : ∀ g, row = some g → ∃ cur fz, w.heap[g]? = some (.cells cur 9 fz)) : Bld B b l w' := by
  have hk : ∀ v : Value, w.ownsRowF B 5 1 v (Lib.byteCells l).length (Lib.byteCells l) → v.ownBlock = none ∨ v.ownBlock ≠ row := fun v h3 => by
    cases hv : v.ownBlock with
    | none => exact .inl rfl
    | some g =>
      refine .inr (fun e => ?_)
      obtain ⟨cur, fz, h4⟩ := ht g e.symm
      rcases h3.2 with ⟨rfl, _⟩ | ⟨g', cap, cur', fz', rfl, _, h5, _⟩
      · cases hv
      · injection hv with hv
        subst hv
        rw [h4] at h5
        injection h5 with h5
        injection h5 with _ h5
        exact absurd h5 (by decide)
  unfold Bld Lib.IsBuilderF Lib.BuilderAtF at *
  rcases h with ⟨h1, v, h2, h3, h4⟩ | ⟨h1, v, h2, h3, h4⟩
  · exact .inl ⟨h1, v, (hg.block _ (Array.getElem?_eq_some_iff.1 h2).1 (fun e => hne e.symm)).trans h2, h3.kept hg (hk v h3), h4⟩
  · exact .inr ⟨h1, v, (hg.block _ (Array.getElem?_eq_some_iff.1 h2).1 (fun e => hne e.symm)).trans h2, h3.kept hg (hk v h3), h4⟩
theorem NmS.grown {B b : Nat} {l : List UInt8} {w wr wr' : World} {v : Value} {xs : List ByteArray} (h : NmS B b l w wr) (hB : B ≤ w.heap.size) (hbw : b < w.heap.size) (hown : OwnL encS 1 wr w.heap.size 9 v xs) (hg : wr.grownBy wr' v.ownBlock) : NmS B b l w wr' :=
  ⟨h.bld.grown hg (fun e => by have := (World.ownsRow.lt hown _ e).1; omega) (fun g e => own_type hown e), h.bel.grown hg (Nat.le_trans hB h.bel.size) (fun k hk => Nat.le_trans hB (World.ownsRow.lt hown _ hk).1), kept_grown h.kept hg h.bel.size (fun g e => (World.ownsRow.lt hown _ e).1)⟩
def GivesWN (B b : Nat) (l : List UInt8) (n : Nat) (w : World) (a : Addr) (v : Value) (e : Ending) (w' : World) : Prop :=
  e = .returned (.tuple #[.int .i64 (n : Int), .nilIface]) ∧ NmS B b l w w' ∧ w'.cell? a = some v
theorem nm_cats (role J : ByteArray) (h1 : role.size ≤ 60) (h2 : J.size ≤ 62000) :
    (∀ W, (Op.stringOp .add ⟨#[32, 32]⟩ role).run Tryz.prog W = .ok (.string (⟨#[32, 32]⟩ ++ role)) W) ∧
    (∀ W, (Op.stringOp .add (⟨#[32, 32]⟩ ++ role) ⟨#[58, 32]⟩).run Tryz.prog W = .ok (.string ((⟨#[32, 32]⟩ ++ role) ++ ⟨#[58, 32]⟩)) W) ∧
    (∀ W, (Op.stringOp .add ((⟨#[32, 32]⟩ ++ role) ++ ⟨#[58, 32]⟩) J).run Tryz.prog W = .ok (.string (((⟨#[32, 32]⟩ ++ role) ++ ⟨#[58, 32]⟩) ++ J)) W) ∧
    (∀ W, (Op.stringOp .add (((⟨#[32, 32]⟩ ++ role) ++ ⟨#[58, 32]⟩) ++ J) ⟨#[10]⟩).run Tryz.prog W = .ok (.string ((((⟨#[32, 32]⟩ ++ role) ++ ⟨#[58, 32]⟩) ++ J) ++ ⟨#[10]⟩)) W) ∧
    ((((⟨#[32, 32]⟩ ++ role) ++ ⟨#[58, 32]⟩) ++ J) ++ ⟨#[10]⟩).size ≤ 62070 := by
  have e1 : (⟨#[32, 32]⟩ : ByteArray).size = 2 := rfl
  have e2 : (⟨#[58, 32]⟩ : ByteArray).size = 2 := rfl
  have e3 : (⟨#[10]⟩ : ByteArray).size = 1 := rfl
  refine ⟨cat_big _ _ ?_, cat_big _ _ ?_, cat_big _ _ ?_, cat_big _ _ ?_, ?_⟩ <;> (simp only [ByteArray.size_append, e1, e2, e3]; omega)
theorem preL_next {l : List Cr} {i k : Nat} {J : ByteArray} (hk : k ≠ 0) (hJ : J.data.toList = Lib.join ((nmsL l i k).map (·.data.toList)) [44, 32])
    (h : (nmTo l k).data.toList = preL l i ++ ([32, 32] ++ (l.getD i default).role.data.toList ++ [58, 32] ++ Lib.join ((nmsL l i k).map (·.data.toList)) [44, 32])) :
    preL l k = preL l i ++ ((((⟨#[32, 32]⟩ ++ (l.getD i default).role) ++ ⟨#[58, 32]⟩) ++ J) ++ ⟨#[10]⟩ : ByteArray).data.toList := by
  unfold preL at *
  rw [if_neg hk, h]
  simp only [data_app, hJ, List.append_assoc]
def NmRel (B b : Nat) (bs : List UInt8) (l : List Cr) (w : World) (m : Nat) (i : Value) (wr : World) : Prop :=
  ∃ k : Nat, k + m = l.length ∧ i = .int .i64 k ∧ Bnd l k ∧ NmS B b (bs ++ preL l k) w wr
def NiRel (B b : Nat) (bs : List UInt8) (l : List Cr) (i : Nat) (w : World) (m : Nat) (kv nv : Value) (wr : World) : Prop :=
  ∃ d : Nat, i + 1 + d + m = l.length ∧ kv = .int .i64 ((i + 1 + d : Nat) : Int) ∧ (∀ j, i < j → j < i + 1 + d → (l.getD j default).role = (l.getD i default).role) ∧ NmS B b (bs ++ preL l i) w wr ∧ OwnL encS 1 wr w.heap.size 9 nv (nmsL l i (i + 1 + d))

set_option maxRecDepth 100000 in
set_option maxHeartbeats 2000000 in
theorem named_c (w0 : World) (B b : Nat) (bs : List UInt8) (A : Option Addr) (c : Nat) (l : List Cr) (w : World) (hw : CrsOk w0 A l) (hs : NmSz l) (h0 : Below w0.heap.size w0 w) (hB0 : w0.heap.size ≤ B) (hb : Bld B b bs w) (hBw : B ≤ w.heap.size) (hbw : b < w.heap.size) (hbs : bs.length ≤ 1000000000) :
    Calls Tryz.prog 27 #[.pointer (some ⟨b, 0, none⟩), .slice A l.length c] w (GivesNm B b (bs ++ (nmB l).data.toList) w) := by
  have HW := Lib.hid hw
  have HSZ := Lib.hid hs.2
  have H0 := Lib.hid h0
  have hn := hs.1
  have HST0 : Hid (NmS B b (bs ++ preL l 0) w w) := by
    show NmS _ _ _ _ _
    have e : bs ++ preL l 0 = bs := by unfold preL; rw [if_pos rfl, List.append_nil]
    rw [e]
    exact ⟨hb, Below.refl _ _, Lib.OthersKept.refl _ _ _⟩
  clear hw hs h0 hb
  go_enter Tryz.func27, Tryz.ntmps27
  go_wp2
  go_loopg [4] l.length (NmRel B b bs l w)
  case atStart => exact ⟨0, by omega, rfl, .inl rfl, HST0.out⟩
  clear HST0
  case round =>
    obtain ⟨i, hi, rfl, hbd, hst⟩ := hrel
    have HI := Lib.hid hi
    have HBD := Lib.hid hbd
    have HST := Lib.hid hst
    have hi1 : i ≤ l.length := by omega
    have hszr : w.heap.size ≤ wr.heap.size := hst.bel.size
    clear hi hbd hst
    by_cases hlt : i < l.length
    · have HBW : Hid (Below w0.heap.size w0 wr) := H0.out.trans (HST.out.bel.mono hB0)
      obtain ⟨b1, o1, rfl, hb1, hcc0⟩ := HW.out.crs.at_ (by omega)
      have HC1 : Hid (∀ W, Below w0.heap.size w0 W → b1 < W.heap.size ∧ ∀ j (h : j < l.length), W.cell? ⟨b1, o1 + j * 5, none⟩ = some (.string (l[j]).role) ∧ W.cell? ⟨b1, o1 + j * 5 + 2, none⟩ = some (.string (l[j]).name)) := fun W hW =>
        ⟨Nat.lt_of_lt_of_le hb1 hW.size, fun j hj => ⟨(hW.cell (p := ⟨b1, o1 + j * 5, none⟩) hb1).trans (hcc0 j hj).1, (hW.cell (p := ⟨b1, o1 + j * 5 + 2, none⟩) hb1).trans (hcc0 j hj).2.2.1⟩⟩
      have hb10 : b1 < B := Nat.lt_of_lt_of_le hb1 hB0
      clear hcc0 hb1
      obtain ⟨hb1, hcc⟩ := HC1.out _ HBW.out
      have q2 := (hcc i hlt).2
      clear hcc
      have HBA : Hid (Below wr.heap.size wr (wr.alloc (.cells #[.string (l[i]).name] 9))) := (Below.refl _ _).alloc (Nat.le_refl _) _
      have HST1 := Lib.hid (HST.out.below hBw HBA.out)
      have HOW1 : Hid (OwnL encS 1 (wr.alloc (.cells #[.string (l[i]).name] 9)) w.heap.size 9 (.slice (some ⟨wr.heap.size, 0, none⟩) 1 1) (nmsL l i (i + 1))) := by
        show OwnL _ _ _ _ _ _ _
        rw [nmsL_one hlt]
        exact own_one hszr
      have hi63 : (i : Int) + 1 ≤ 100000 := by omega
      obtain ⟨g1, hg1⟩ : ∃ g1, g1 = gk := ⟨_, rfl⟩
      subst hg1
      go_wp2
      go_loopg [5, 6] (l.length - (i + 1)) (NiRel B b bs l i w)
      case atStart => exact ⟨0, by omega, by go_num, fun j h1 h2 => absurd h2 (by omega), HST1.out, HOW1.out⟩
      clear HST1 HOW1 HBA q2 hb1 HBW HST hszr
      case round =>
        obtain ⟨d, hd, rfl, hro, hst, hown⟩ := hrel
        have HD := Lib.hid hd
        have HRO := Lib.hid hro
        have HST := Lib.hid hst
        have HOW := Lib.hid hown
        have hszr : w.heap.size ≤ wr.heap.size := hst.bel.size
        have HBW : Hid (Below w0.heap.size w0 wr) := H0.out.trans (hst.bel.mono hB0)
        obtain ⟨hb1, hcc⟩ := HC1.out _ HBW.out
        have p0 := (hcc i hlt).1
        have HGRP := Lib.hid (nm_group hlt HBD.out d (by omega) hro)
        clear hd hro hst hown
        generalize hkk : i + 1 + d = k at *
        have hkl : k ≤ l.length := by have := HD.out; omega
        have hik : i + 1 ≤ k := by omega
        by_cases hlk : k < l.length
        · have q0 := (hcc k hlk).1
          have q2 := (hcc k hlk).2
          clear hcc
          have hd1 : decide (k < l.length) = true := by simpa using hlk
          have s1 : (0 : Int) ≤ (k : Int) := by omega
          have s2 : (k : Int) < (l.length : Int) := by omega
          cases he : ((l[k]).role.toList == (l[i]).role.toList) with
          | true =>
            have HRN : Hid (∀ j, i < j → j < k + 1 → (l.getD j default).role = (l.getD i default).role) := fun j h1 h2 => by
              rcases Nat.lt_or_ge j k with h3 | h3
              · exact HRO.out j h1 (by omega)
              · obtain rfl : j = k := by omega
                rw [getC hlk, getC hlt]
                rw [str_dec] at he
                simpa using he
            have HSN := Lib.hid (nmsL_snoc (i := i) (by omega) hlk)
            have hnl : (nmsL l i k).length = k - i := nmsL_len (by omega) hkl
            go_wp2_with fail
            go_quiet (fail)
            have HST1 := Lib.hid (HST.out.below hBw (below_drewN (Below.refl _ _) nq))
            have HOW1 : Hid (OwnL encS 1 (wr.drewN nq) w.heap.size 9 u6 (nmsL l i k)) := HOW.out.drewN nq
            have q2' : (wr.drewN nq).cell? ⟨b1, o1 + k * 5 + 2, none⟩ = some (.string (l[k]).name) := q2
            have hb1' : b1 < (wr.drewN nq).heap.size := hb1
            have hsz1 : w.heap.size ≤ (wr.drewN nq).heap.size := hszr
            clear HST HOW HGRP HRO p0 q0 q2 hb1 hszr HBW he hd1
            generalize wr.drewN nq = w1 at *
            have HSA := Lib.hid (HST1.out.below hBw ((Below.refl w1.heap.size w1).alloc (Nat.le_refl _) (.cells #[.string (l[k]).name] 9)))
            go_wp2_with (at_builtin; refine wpList_push _ _ _ elStr rfl rfl w.heap.size u6 (nmsL l i k) rfl (HOW1.out.alloc _) w1.heap.size 1 (l[k]).name rfl (heap_alloc_new _ _) rfl (by simp [Value.oneCell']) (by unfold maxLen; omega) (by omega) (by simp; omega) ?_; intro v1 w2 hown1 hg1 hb2)
            have HS2 := Lib.hid (HSA.out.grown hBw hbw (HOW1.out.alloc _) hg1)
            have HO2 : Hid (OwnL encS 1 w2 w.heap.size 9 v1 (nmsL l i (k + 1))) := by
              show OwnL _ _ _ _ _ _ _
              rw [HSN.out]; exact hown1
            clear hown1 hg1 hb2 q2'
            subst hkk
            go_wp2
            go_roundg (gk - 1)
            case measure => have := HD.out; omega
            case rel => exact ⟨d + 1, by have := HD.out; omega, by go_num, HRN.out, HS2.out, HO2.out⟩
          | false =>
            have HBK : Hid (Bnd l k) := .inr (.inr (fun e => by
              have h1 : (l.getD (k - 1) default).role = (l.getD i default).role := by
                by_cases h0 : k - 1 = i
                · rw [h0]
                · exact HRO.out (k - 1) (by omega) (by omega)
              rw [h1, getC hlk, getC hlt] at e
              rw [str_dec] at he
              simp [e] at he))
            go_wp2_with fail
            go_quiet (fail)
            have HST1 := Lib.hid (HST.out.below hBw (below_drewN (Below.refl _ _) nq))
            have HOW1 : Hid (OwnL encS 1 (wr.drewN nq) w.heap.size 9 u6 (nmsL l i k)) := HOW.out.drewN nq
            have p0' : (wr.drewN nq).cell? ⟨b1, o1 + i * 5, none⟩ = some (.string (l[i]).role) := p0
            have hb1' : b1 < (wr.drewN nq).heap.size := hb1
            clear HST HOW p0 q0 q2 hb1 HBW he hd1
            generalize wr.drewN nq = w1 at *
            have p0 := p0'
            have hb1 := hb1'
            clear p0' hb1'
            clear HC1 HRO hszr
            have HBW1 : Hid (Below w0.heap.size w0 w1) := H0.out.trans (HST1.out.bel.mono hB0)
            obtain ⟨A7, c7, hv7, hd7⟩ := HOW1.out.rd1
            have hcp7 := HOW1.out
            subst hv7
            have hc7 := (own_capS hcp7).1
            have hnl : (nmsL l i k).length = k - i := nmsL_len (by omega) hkl
            have HJJ : Hid (∃ J, J = joinB (nmsL l i k) ⟨#[44, 32]⟩) := ⟨_, rfl⟩
            obtain ⟨J, hJ⟩ := HJJ.out
            have hJs : J.size ≤ 62000 := by
              rw [hJ]
              have h1 := joinB_size (xs := nmsL l i k) (sep := ⟨#[44, 32]⟩) (m := 60) (fun s hs => by
                unfold nmsL at hs
                obtain ⟨y, hy, rfl⟩ := List.mem_map.1 hs
                exact (HSZ.out y (List.mem_of_mem_drop (List.mem_of_mem_take hy))).2)
              have h2 : (⟨#[44, 32]⟩ : ByteArray).size = 2 := rfl
              rw [h2, hnl] at h1
              have h3 : (k - i) * (2 + 60) ≤ 1000 * 62 := Nat.mul_le_mul (by omega) (Nat.le_refl _)
              omega
            have hJd : J.data.toList = Lib.join ((nmsL l i k).map (·.data.toList)) [44, 32] := by rw [hJ]; rfl
            have HNXT := Lib.hid (preL_next (by omega) hJd HGRP.out)
            have HJ : Hid (∀ W, BelH w1 W → Calls Tryz.prog 63 #[.slice A7 (nmsL l i k).length c7, .string ⟨#[44, 32]⟩] W (GivesH w1 (.string J))) := fun W hW =>
              (joinB_c A7 c7 (nmsL l i k) ⟨#[44, 32]⟩ W (hd7.below hW.out) hc7 (by omega) (by rw [← hJ]; omega)).mono fun _ _ h => by rw [hJ]; exact GivesB.toH hW h
            rw [getC hlt] at HNXT
            have hrs := (HSZ.out _ (List.getElem_mem hlt)).1
            clear HJJ hJ hJd hd7 hcp7 HGRP HOW1
            generalize (l[i]).role = role at *
            obtain ⟨k1, k2, k3, k4, k5⟩ := nm_cats role J hrs hJs
            have HLT := Lib.hid k5
            generalize htx : ((((⟨#[32, 32]⟩ ++ role) ++ ⟨#[58, 32]⟩) ++ J) ++ ⟨#[10]⟩ : ByteArray) = text at *
            clear htx k5
            have hps : (preL l i).length ≤ 130001 := by
              unfold preL
              split
              · simp
              · have := nmTo_size HSZ.out i hi1
                have e : (nmTo l i).data.toList.length = (nmTo l i).size := by simp
                rw [List.length_append, e]
                simp
                omega
            have HWR : Hid (∀ W, BelH w1 W → Calls Tryz.prog 24 #[.pointer (some ⟨b, 0, none⟩), .string text] W (GivesWN B b (bs ++ preL l k) text.size w ⟨b1, o1 + i * 5, none⟩ (.string role))) := fun W hW => by
              have hS := HST1.out.below hBw hW.out
              have hW0 : Below w0.heap.size w0 W := HBW1.out.trans (hW.out.mono HBW1.out.size)
              refine (write_c B b (bs ++ preL l i) text W hS.bld (by rw [List.length_append]; have := HLT.out; omega) (Nat.le_trans hBw hS.bel.size)).mono fun _ w' ⟨he, h1, h2, h3⟩ => ⟨he, ⟨?_, hS.bel.trans h2, Lib.OthersKept.trans hS.kept h3⟩, ?_⟩
              · rw [List.append_assoc, ← HNXT.out] at h1
                exact h1
              · rw [h2.cell (p := ⟨b1, o1 + i * 5, none⟩) hb10, hW.out.cell (p := ⟨b1, o1 + i * 5, none⟩) hb1]
                exact p0
            have H1 : BelH w1 w1.drew := below_drewN (Below.refl _ _) 1
            have hb2 : ∀ W, BelH w1 W → b1 < W.heap.size := fun W hW => Nat.lt_of_lt_of_le hb1 hW.out.size
            have HBC : Hid (∀ W, BelH w1 W → W.cell? ⟨b1, o1 + i * 5, none⟩ = some (.string role)) := fun W hW => (hW.out.cell (p := ⟨b1, o1 + i * 5, none⟩) hb1).trans p0
            have HB2 := Lib.hid hb2
            clear hb2 hps HLT hJs hrs hnl
            go_wp2_with fail
            go_region_held3 (fun w' => w'.cell? ⟨b1, o1 + i * 5, none⟩ = some (.string role)) (go_keep)
              (first
                | ((go_at_call 63; (with_reducible refine (HJ.out _ (by assumption)).mono ?_); rintro e w3 ⟨rfl, H3⟩; have y3 := HBC.out _ H3; have y4 := HB2.out _ H3))
                | ((go_at_call 24; (with_reducible refine (HWR.out _ (by assumption)).mono ?_); rintro e w6 ⟨rfl, hst6, hc6⟩; have HST6 := Lib.hid hst6; clear hst6)))
            all_goals
              go_wp2
              go_roundg (l.length - k)
              case measure => have := HI.out; omega
              case rel => exact ⟨k, by omega, rfl, HBK.out, HST6.out⟩
        · have hke : k = l.length := by omega
          have hd1 : decide (k < l.length) = false := by simpa using hlk
          have HBK : Hid (Bnd l k) := .inr (.inl hke)
          clear hke
          go_wp2_with fail
          go_quiet (fail)
          have HST1 := Lib.hid (HST.out.below hBw (below_drewN (Below.refl _ _) nq))
          have HOW1 : Hid (OwnL encS 1 (wr.drewN nq) w.heap.size 9 u6 (nmsL l i k)) := HOW.out.drewN nq
          have p0' : (wr.drewN nq).cell? ⟨b1, o1 + i * 5, none⟩ = some (.string (l[i]).role) := p0
          have hb1' : b1 < (wr.drewN nq).heap.size := hb1
          clear HST HOW p0 hcc hb1 HBW hd1
          generalize wr.drewN nq = w1 at *
          have p0 := p0'
          have hb1 := hb1'
          clear p0' hb1'
          clear HC1 HRO hszr
          have HBW1 : Hid (Below w0.heap.size w0 w1) := H0.out.trans (HST1.out.bel.mono hB0)
          obtain ⟨A7, c7, hv7, hd7⟩ := HOW1.out.rd1
          have hcp7 := HOW1.out
          subst hv7
          have hc7 := (own_capS hcp7).1
          have hnl : (nmsL l i k).length = k - i := nmsL_len (by omega) hkl
          have HJJ : Hid (∃ J, J = joinB (nmsL l i k) ⟨#[44, 32]⟩) := ⟨_, rfl⟩
          obtain ⟨J, hJ⟩ := HJJ.out
          have hJs : J.size ≤ 62000 := by
            rw [hJ]
            have h1 := joinB_size (xs := nmsL l i k) (sep := ⟨#[44, 32]⟩) (m := 60) (fun s hs => by
              unfold nmsL at hs
              obtain ⟨y, hy, rfl⟩ := List.mem_map.1 hs
              exact (HSZ.out y (List.mem_of_mem_drop (List.mem_of_mem_take hy))).2)
            have h2 : (⟨#[44, 32]⟩ : ByteArray).size = 2 := rfl
            rw [h2, hnl] at h1
            have h3 : (k - i) * (2 + 60) ≤ 1000 * 62 := Nat.mul_le_mul (by omega) (Nat.le_refl _)
            omega
          have hJd : J.data.toList = Lib.join ((nmsL l i k).map (·.data.toList)) [44, 32] := by rw [hJ]; rfl
          have HNXT := Lib.hid (preL_next (by omega) hJd HGRP.out)
          have HJ : Hid (∀ W, BelH w1 W → Calls Tryz.prog 63 #[.slice A7 (nmsL l i k).length c7, .string ⟨#[44, 32]⟩] W (GivesH w1 (.string J))) := fun W hW =>
            (joinB_c A7 c7 (nmsL l i k) ⟨#[44, 32]⟩ W (hd7.below hW.out) hc7 (by omega) (by rw [← hJ]; omega)).mono fun _ _ h => by rw [hJ]; exact GivesB.toH hW h
          rw [getC hlt] at HNXT
          have hrs := (HSZ.out _ (List.getElem_mem hlt)).1
          clear HJJ hJ hJd hd7 hcp7 HGRP HOW1
          generalize (l[i]).role = role at *
          obtain ⟨k1, k2, k3, k4, k5⟩ := nm_cats role J hrs hJs
          have HLT := Lib.hid k5
          generalize htx : ((((⟨#[32, 32]⟩ ++ role) ++ ⟨#[58, 32]⟩) ++ J) ++ ⟨#[10]⟩ : ByteArray) = text at *
          clear htx k5
          have hps : (preL l i).length ≤ 130001 := by
            unfold preL
            split
            · simp
            · have := nmTo_size HSZ.out i hi1
              have e : (nmTo l i).data.toList.length = (nmTo l i).size := by simp
              rw [List.length_append, e]
              simp
              omega
          have HWR : Hid (∀ W, BelH w1 W → Calls Tryz.prog 24 #[.pointer (some ⟨b, 0, none⟩), .string text] W (GivesWN B b (bs ++ preL l k) text.size w ⟨b1, o1 + i * 5, none⟩ (.string role))) := fun W hW => by
            have hS := HST1.out.below hBw hW.out
            have hW0 : Below w0.heap.size w0 W := HBW1.out.trans (hW.out.mono HBW1.out.size)
            refine (write_c B b (bs ++ preL l i) text W hS.bld (by rw [List.length_append]; have := HLT.out; omega) (Nat.le_trans hBw hS.bel.size)).mono fun _ w' ⟨he, h1, h2, h3⟩ => ⟨he, ⟨?_, hS.bel.trans h2, Lib.OthersKept.trans hS.kept h3⟩, ?_⟩
            · rw [List.append_assoc, ← HNXT.out] at h1
              exact h1
            · rw [h2.cell (p := ⟨b1, o1 + i * 5, none⟩) hb10, hW.out.cell (p := ⟨b1, o1 + i * 5, none⟩) hb1]
              exact p0
          have H1 : BelH w1 w1.drew := below_drewN (Below.refl _ _) 1
          have hb2 : ∀ W, BelH w1 W → b1 < W.heap.size := fun W hW => Nat.lt_of_lt_of_le hb1 hW.out.size
          have HBC : Hid (∀ W, BelH w1 W → W.cell? ⟨b1, o1 + i * 5, none⟩ = some (.string role)) := fun W hW => (hW.out.cell (p := ⟨b1, o1 + i * 5, none⟩) hb1).trans p0
          have HB2 := Lib.hid hb2
          clear hb2 hps HLT hJs hrs hnl
          go_wp2_with fail
          go_region_held3 (fun w' => w'.cell? ⟨b1, o1 + i * 5, none⟩ = some (.string role)) (go_keep)
            (first
              | ((go_at_call 63; (with_reducible refine (HJ.out _ (by assumption)).mono ?_); rintro e w3 ⟨rfl, H3⟩; have y3 := HBC.out _ H3; have y4 := HB2.out _ H3))
              | ((go_at_call 24; (with_reducible refine (HWR.out _ (by assumption)).mono ?_); rintro e w6 ⟨rfl, hst6, hc6⟩; have HST6 := Lib.hid hst6; clear hst6)))
          all_goals
            go_wp2
            go_roundg (l.length - k)
            case measure => have := HI.out; omega
            case rel => exact ⟨k, by omega, rfl, HBK.out, HST6.out⟩
    · have HX : Hid (bs ++ preL l i = bs ++ (nmB l).data.toList) := by
        show _ = _
        rw [nmB_pre, show i = l.length by omega]
      rw [HX.out] at HST
      go_wp2
      go_end0
      exact ⟨rfl, HST.out.bld, HST.out.bel, HST.out.kept⟩
end Go.Proofs.YtfninfgohiipjaaGreatDoor

namespace Go.Proofs.YtfninfgohiipjaaGreatDoor
open Go.RowKit Dw

def headB (T : List Th) (t : Th) : ByteArray :=
  match thAt T t.parent with
  | none => if t.code.toList.isEmpty = true then t.title ++ ⟨#[10]⟩ else (t.title ++ ⟨#[10]⟩) ++ (t.code ++ ⟨#[10]⟩)
  | some u => if (u.title.toList == t.title.toList) = true then (if t.code.toList.isEmpty = true then t.title ++ ⟨#[10]⟩ else (t.title ++ ⟨#[10]⟩) ++ (t.code ++ ⟨#[10]⟩))
    else (if t.code.toList.isEmpty = true then t.title ++ ⟨#[10]⟩ else (t.title ++ ⟨#[10]⟩) ++ (t.code ++ ⟨#[10]⟩)) ++ ((⟨#[111, 102, 32]⟩ ++ u.title) ++ ⟨#[10]⟩)
/-- One line of a label, with its names. -/
def partT (T : List Th) (l : List Tk) (rate : Int) (i : Nat) (n : Int) : List UInt8 :=
  ((itoaB ((i : Int) + 1) ++ ⟨#[46, 32]⟩) ++ ((thAt T n).getD default).title : ByteArray).data.toList ++ match tkAt l n with
    | none => [10]
    | some x => [32] ++ (showB x.len rate).data.toList ++ [10] ++ (nmB x.crs).data.toList
def bodyT (T : List Th) (l : List Tk) (rate : Int) (ps : List Int) : Nat → List UInt8
  | 0 => []
  | k + 1 => bodyT T l rate ps k ++ partT T l rate k (ps.getD k 0)
def lenK (l : List Tk) (n : Int) : Int := ((tkAt l n).getD default).len
def totL (l : List Tk) (ps : List Int) : Nat → Int
  | 0 => 0
  | k + 1 => totL l ps k + lenK l (ps.getD k 0)
def allB (l : List Tk) (ps : List Int) : Nat → Bool
  | 0 => decide (0 < ps.length)
  | k + 1 => allB l ps k && (tkAt l (ps.getD k 0)).isSome
def finP (L : List UInt8) : ByteArray × Int := if 200000 < L.length then (⟨#[]⟩, 2) else (⟨L.toArray⟩, 0)
def labT (T : List Th) (l : List Tk) (t : Th) (rate : Int) : ByteArray × Int :=
  if allB l (ptsOf T t) (ptsOf T t).length = true then
    if 10000000000000 < totL l (ptsOf T t) (ptsOf T t).length then (⟨#[]⟩, 1)
    else finP ((headB T t).data.toList ++ bodyT T l rate (ptsOf T t) (ptsOf T t).length ++ ((⟨#[116, 111, 116, 97, 108, 32]⟩ ++ showB (totL l (ptsOf T t) (ptsOf T t).length) rate) ++ ⟨#[10]⟩ : ByteArray).data.toList)
  else finP ((headB T t).data.toList ++ bodyT T l rate (ptsOf T t) (ptsOf T t).length)
def labP (T : List Th) (M : List Mv) (l : List Tk) (id rate : Int) : ByteArray × Int :=
  if chkT T M l ≠ 0 then (⟨#[]⟩, chkT T M l)
  else match thAt T id with
    | none => (⟨#[]⟩, 9)
    | some t => if t.kind ≠ 3 ∧ t.kind ≠ 4 then (⟨#[]⟩, 6) else if rateB rate = false then (⟨#[]⟩, 1) else labT T l t rate
section
variable {T : List Th} {M : List Mv} {l : List Tk} {id rate : Int}
theorem labP_bad (h : chkT T M l ≠ 0) : labP T M l id rate = (⟨#[]⟩, chkT T M l) := by unfold labP; rw [if_pos h]
theorem labP_none (h : chkT T M l = 0) (ht : thAt T id = none) : labP T M l id rate = (⟨#[]⟩, 9) := by unfold labP; rw [if_neg (by rw [h]; simp), ht]
theorem labP_kind {t : Th} (h : chkT T M l = 0) (ht : thAt T id = some t) (hk : t.kind ≠ 3 ∧ t.kind ≠ 4) : labP T M l id rate = (⟨#[]⟩, 6) := by
  unfold labP; rw [if_neg (by rw [h]; simp), ht]; exact if_pos hk
theorem labP_rate {t : Th} (h : chkT T M l = 0) (ht : thAt T id = some t) (hk : ¬ (t.kind ≠ 3 ∧ t.kind ≠ 4)) (hr : rateB rate = false) : labP T M l id rate = (⟨#[]⟩, 1) := by
  unfold labP; rw [if_neg (by rw [h]; simp), ht]; dsimp only; rw [if_neg hk, if_pos hr]
theorem labP_ok {t : Th} (h : chkT T M l = 0) (ht : thAt T id = some t) (hk : ¬ (t.kind ≠ 3 ∧ t.kind ≠ 4)) (hr : rateB rate = true) : labP T M l id rate = labT T l t rate := by
  unfold labP; rw [if_neg (by rw [h]; simp), ht]; dsimp only; rw [if_neg hk, if_neg (by rw [hr]; simp)]
end

/-- What holds of a right catalogue's releases and editions. -/
theorem thF_text {t : Th} (h : thF twoB t = 0) : t.title.size ≤ 100 ∧ t.code.size ≤ 13 ∧ (t.kind = 3 → t.parent = 0) ∧ (t.kind = 4 → t.parent ≠ 0) := by
  unfold thF at h
  by_cases h1 : t.kind < 1 ∨ 4 < t.kind
  · rw [if_pos h1] at h; cases h
  rw [if_neg h1] at h
  cases h2 : titleB (twoB t.title) t.title with
  | false => rw [if_pos h2] at h; cases h
  | true =>
  rw [if_neg (by rw [h2]; simp)] at h
  by_cases h3 : t.code ≠ emp ∧ codeF t.kind t.code.data.toList ≠ 0
  · rw [if_pos h3] at h; exact absurd h h3.2
  rw [if_neg h3] at h
  by_cases h4 : t.since < 0 ∨ 200000 < t.since
  · rw [if_pos h4] at h; cases h
  rw [if_neg h4] at h
  by_cases h5 : (t.kind = 3 ∧ t.parent ≠ 0) ∨ (t.kind = 4 ∧ t.parent = 0) ∨ (t.kind ≤ 2 ∧ 0 < t.parts.length)
  · rw [if_pos h5] at h; cases h
  have hts : t.title.size ≤ 100 := by
    unfold titleB at h2
    simp only [Bool.and_eq_true, decide_eq_true_eq] at h2
    exact h2.1.1.1.1.2
  refine ⟨hts, ?_, fun e => ?_, fun e e2 => h5 (.inr (.inl ⟨e, e2⟩))⟩
  · by_cases hc : t.code = emp
    · rw [hc]; decide
    · have hcf : codeF t.kind t.code.data.toList = 0 := by
        by_cases e : codeF t.kind t.code.data.toList = 0
        · exact e
        · exact absurd ⟨hc, e⟩ h3
      unfold codeF at hcf
      rw [if_neg h1] at hcf
      by_cases hb : t.code.data.toList = [] ∨ bodyB t.kind t.code.data.toList.dropLast = false ∨ chkB t.kind (t.code.data.toList.getLastD 0) = false
      · rw [if_pos hb] at hcf; cases hcf
      have hb2 : bodyB t.kind t.code.data.toList.dropLast = true := by
        cases e : bodyB t.kind t.code.data.toList.dropLast with
        | true => rfl
        | false => exact absurd (.inr (.inl e)) hb
      have hl : t.code.data.toList.length = t.code.size := by simp
      have hd : t.code.data.toList.dropLast.length ≤ 12 := by
        unfold bodyB at hb2
        split at hb2
        · simp only [Bool.and_eq_true, decide_eq_true_eq] at hb2; omega
        · split at hb2
          · simp only [Bool.and_eq_true, decide_eq_true_eq] at hb2; omega
          · simp only [Bool.and_eq_true, decide_eq_true_eq] at hb2; omega
      rw [List.length_dropLast] at hd
      omega
  · by_cases e2 : t.parent = 0
    · exact e2
    · exact absurd (.inl ⟨e, e2⟩) h5
theorem up_of {T : List Th} {M : List Mv} {t : Th} (h : chkC twoB T M = 0) (ht : t ∈ T) (hk : t.kind = 3 ∨ t.kind = 4) : (thAt T t.parent).isSome = decide (t.kind = 4) := by
  obtain ⟨hinc, hpos, hth, _⟩ := chkC_ok h
  obtain ⟨_, _, f3, f4⟩ := thF_text (hth t ht)
  rcases hk with hk | hk
  · rw [f3 hk, hpos.zero, hk]; rfl
  · have hu : upF T t = 0 := by
      obtain ⟨_, _, _, h2, _⟩ := chkC_ok h
      obtain ⟨i, hi, rfl⟩ := List.getElem_of_mem ht
      have := h2 i hi
      unfold tF2 at this
      rw [getT hi] at this
      by_cases hl : lnkF T T[i] = 0
      · unfold lnkF at hl
        by_cases hu : upF T T[i] = 0
        · exact hu
        · rw [if_pos hu] at hl; exact absurd hl hu
      · rw [if_pos hl] at this; exact absurd this hl
    unfold upF at hu
    rw [if_neg (f4 hk)] at hu
    cases hp : thAt T t.parent with
    | none => rw [hp] at hu; cases hu
    | some u => rw [hk]; rfl
theorem headB_size {T : List Th} {t : Th} (h : ∀ u ∈ T, u.title.size ≤ 100 ∧ u.code.size ≤ 13) (ht : t ∈ T) : (headB T t).size ≤ 300 := by
  have e1 : (⟨#[10]⟩ : ByteArray).size = 1 := rfl
  have e2 : (⟨#[111, 102, 32]⟩ : ByteArray).size = 3 := rfl
  have h1 := h t ht
  unfold headB
  cases hp : thAt T t.parent with
  | none =>
    dsimp only
    split <;> (simp only [ByteArray.size_append, e1]; omega)
  | some u =>
    have h2 := h u (thAt_some hp).1
    dsimp only
    split
    · split <;> (simp only [ByteArray.size_append, e1]; omega)
    · split <;> (simp only [ByteArray.size_append, e1, e2]; omega)
def TkSz (T : List Th) (l : List Tk) : Prop := (∀ u ∈ T, u.title.size ≤ 100 ∧ u.code.size ≤ 13) ∧ ∀ x ∈ l, 0 ≤ x.len ∧ x.len ≤ 10000000000000 ∧ crsF x.crs = 0
theorem tkSz_of {T : List Th} {M : List Mv} {l : List Tk} (h : chkT T M l = 0) : TkSz T l := by
  obtain ⟨h1, _, h3⟩ := chkT_ok h
  refine ⟨fun u hu => ?_, fun x hx => ?_⟩
  · obtain ⟨f1, f2, _⟩ := thF_text ((chkC_ok h1).2.2.1 u hu)
    exact ⟨f1, f2⟩
  · obtain ⟨j, hj, rfl⟩ := List.getElem_of_mem hx
    obtain ⟨_, _, f3, f4, f5⟩ := tkF_ok hj (h3 j hj)
    exact ⟨f3, f4, f5⟩
theorem nmB_size {l : List Cr} (h : crsF l = 0) : (nmB l).size ≤ 130001 := by
  obtain ⟨h1, h2⟩ := crsF_ok h
  have hs : ∀ c ∈ l, c.role.size ≤ 60 ∧ c.name.size ≤ 60 := fun c hc => by
    obtain ⟨f1, f2, _⟩ := crF_ok (h2 c hc)
    exact ⟨(lineB_size f1).2, (lineB_size f2).2⟩
  have := nmTo_size hs l.length (Nat.le_refl _)
  have e2 : (⟨#[10]⟩ : ByteArray).size = 1 := rfl
  unfold nmB
  split
  · show 0 ≤ _; omega
  · simp only [ByteArray.size_append, e2]; omega
theorem len_data' (s : ByteArray) : s.data.toList.length = s.size := by simp
theorem title_size {T : List Th} {l : List Tk} (h : TkSz T l) (n : Int) : ((thAt T n).getD default).title.size ≤ 100 := by
  cases hp : thAt T n with
  | none => show (0 : Nat) ≤ 100; omega
  | some u => exact (h.1 u (thAt_some hp).1).1
theorem partT_len {T : List Th} {l : List Tk} {rate : Int} (h : TkSz T l) (h1 : 1 ≤ rate) (h2 : rate ≤ 1000000) (i : Nat) (hi : i ≤ 1000) (n : Int) : (partT T l rate i n).length ≤ 131000 := by
  have e1 : (⟨#[46, 32]⟩ : ByteArray).size = 2 := rfl
  have h3 := itoaB_size (n := (i : Int) + 1) (by omega) (by omega)
  have h4 := title_size h n
  unfold partT
  rw [List.length_append, len_data']
  simp only [ByteArray.size_append, e1]
  cases hk : tkAt l n with
  | none => simp; omega
  | some x =>
    obtain ⟨f1, f2, f3⟩ := h.2 x (tkAt_some hk).1
    have h5 := showB_size f1 f2 h1 h2
    have h6 := nmB_size f3
    dsimp only
    simp only [List.length_append, len_data', List.length_cons, List.length_nil]
    omega
theorem bodyT_len {T : List Th} {l : List Tk} {rate : Int} {ps : List Int} (h : TkSz T l) (h1 : 1 ≤ rate) (h2 : rate ≤ 1000000) : ∀ k, k ≤ 1000 → (bodyT T l rate ps k).length ≤ k * 131000
  | 0, _ => by simp [bodyT]
  | k + 1, hk => by
    have ih := bodyT_len (ps := ps) h h1 h2 k (by omega)
    have := partT_len h h1 h2 k (by omega) (ps.getD k 0)
    rw [bodyT, List.length_append, Nat.succ_mul]
    omega
theorem lenK_le {T : List Th} {l : List Tk} (h : TkSz T l) (n : Int) : 0 ≤ lenK l n ∧ lenK l n ≤ 10000000000000 := by
  unfold lenK
  cases hk : tkAt l n with
  | none => exact ⟨by decide, by decide⟩
  | some x => exact ⟨(h.2 x (tkAt_some hk).1).1, (h.2 x (tkAt_some hk).1).2.1⟩
theorem totL_le {T : List Th} {l : List Tk} (h : TkSz T l) (ps : List Int) : ∀ k : Nat, 0 ≤ totL l ps k ∧ totL l ps k ≤ k * 10000000000000
  | 0 => ⟨by simp [totL], by simp [totL]⟩
  | k + 1 => by
    have ih := totL_le h ps k
    have := lenK_le h (ps.getD k 0)
    rw [totL]
    omega
end Go.Proofs.YtfninfgohiipjaaGreatDoor

namespace Go.Proofs.YtfninfgohiipjaaGreatDoor
open Go.RowKit Dw

def hd1 (t : Th) : ByteArray := if t.code.toList.isEmpty = true then t.title ++ ⟨#[10]⟩ else (t.title ++ ⟨#[10]⟩) ++ (t.code ++ ⟨#[10]⟩)
theorem headB_none {T : List Th} {t : Th} (h : thAt T t.parent = none) : headB T t = hd1 t := by unfold headB hd1; rw [h]
theorem headB_same {T : List Th} {t u : Th} (h : thAt T t.parent = some u) (e : (u.title.toList == t.title.toList) = true) : headB T t = hd1 t := by
  unfold headB hd1; rw [h]; exact if_pos e
theorem headB_other {T : List Th} {t u : Th} (h : thAt T t.parent = some u) (e : (u.title.toList == t.title.toList) = false) : headB T t = hd1 t ++ ((⟨#[111, 102, 32]⟩ ++ u.title) ++ ⟨#[10]⟩) := by
  unfold headB hd1; rw [h]; exact if_neg (by rw [e]; simp)
def GivesHd (s : ByteArray) (l : List Int) (w : World) (e : Ending) (w' : World) : Prop :=
  ∃ A c, e = .returned (.tuple #[.string s, .slice A l.length c]) ∧ Ints w' A l ∧ Below w.heap.size w w'
theorem GivesHd.mk {s s' : ByteArray} {l l' : List Int} {w w' : World} {A : Option Addr} {c : Nat} (h : s' = s) (hl : l' = l) (hi : Ints w' A l) (hb : Below w.heap.size w w') : GivesHd s' l' w (.returned (.tuple #[.string s, .slice A l.length c])) w' := by
  subst h; subst hl; exact ⟨A, c, rfl, hi, hb⟩
theorem ptsOf_up {T : List Th} {t u : Th} (h : thAt T t.parent = some u) (hk : t.kind = 4) (hp : t.parts.length = 0) : ptsOf T t = u.parts := by
  unfold ptsOf; rw [if_pos ⟨hk, hp⟩, h]; rfl
theorem ptsOf_own {T : List Th} {t : Th} (h : ¬ (t.kind = 4 ∧ t.parts.length = 0)) : ptsOf T t = t.parts := by
  unfold ptsOf; rw [if_neg h]

set_option maxRecDepth 100000 in
set_option maxHeartbeats 1000000 in
theorem headOf_c (A1 : Option Addr) (c1 : Nat) (T : List Th) (A2 : Option Addr) (c2 : Nat) (M : List Mv) (t : Th) (w : World) (hc : CatOk w A1 T A2 M) (hck : chkC twoB T M = 0) (ht : t ∈ T) (hk : t.kind = 3 ∨ t.kind = 4) :
    Calls Tryz.prog 31 #[catV A1 c1 T A2 c2 M, thV t] w (GivesHd (headB T t) (ptsOf T t) w) := by
  have hn : T.length ≤ 300 := (chkC_len hck).1
  have hths := (chkC_ok hck).2.2.1
  obtain ⟨ht1, ht2, _⟩ := thF_text (hths t ht)
  have htp := thF_parts (hths t ht)
  have HTS : Hid (∀ u ∈ T, u.title.size ≤ 100 ∧ u.parts.length ≤ 50) := fun u hu => ⟨(thF_text (hths u hu)).1, thF_parts (hths u hu)⟩
  have HUP := Lib.hid (up_of hck ht hk)
  have HPT := Lib.hid (hc.parts t ht)
  have HCP : Hid (∀ u ∈ T, Ints w u.pA u.parts) := fun u hu => hc.parts u hu
  have HC1 := Lib.hid ((CB.new w (.slice A1 T.length c1) (.slice A2 M.length c2)).alloc (.cells #[.int .i64 t.id, .int .i64 t.kind, .string t.title, .string t.code, .int .i64 t.since, .int .i64 t.parent, .slice t.pA t.parts.length t.pc] 54))
  have HBX : Hid (BoxT ((w.alloc (.cells #[.slice A1 T.length c1, .slice A2 M.length c2] 25)).alloc (.cells #[.int .i64 t.id, .int .i64 t.kind, .string t.title, .string t.code, .int .i64 t.since, .int .i64 t.parent, .slice t.pA t.parts.length t.pc] 54)) (w.heap.size + 1) t) := by
    have := heap_alloc_new (w.alloc (.cells #[.slice A1 T.length c1, .slice A2 M.length c2] 25)) (.cells #[.int .i64 t.id, .int .i64 t.kind, .string t.title, .string t.code, .int .i64 t.since, .int .i64 t.parent, .slice t.pA t.parts.length t.pc] 54)
    rwa [show (w.alloc (.cells #[.slice A1 T.length c1, .slice A2 M.length c2] 25)).heap.size = w.heap.size + 1 by simp] at this
  clear hths hk
  by_cases hce : t.code.toList.isEmpty = true
  case' pos =>
    have HX1 : Hid (hd1 t = t.title ++ ⟨#[10]⟩) := by show hd1 t = _; unfold hd1; rw [if_pos hce]
    have hxs : (t.title ++ ⟨#[10]⟩ : ByteArray).size ≤ 120 := by
      have e1 : (⟨#[10]⟩ : ByteArray).size = 1 := rfl
      rw [ByteArray.size_append]; omega
    go_enter Tryz.func31, Tryz.ntmps31
    go_wp2_with fail
    refine (thingOf_c A1 c1 T A2 c2 M t.parent _ (hc.below HC1.out.bel) hn).mono ?_
    generalize hX : (t.title ++ ⟨#[10]⟩ : ByteArray) = X at *
  case' neg =>
    have hce2 : t.code.toList.isEmpty = false := by simpa using hce
    have HX1 : Hid (hd1 t = (t.title ++ ⟨#[10]⟩) ++ (t.code ++ ⟨#[10]⟩)) := by show hd1 t = _; unfold hd1; rw [if_neg hce]
    have hxs : ((t.title ++ ⟨#[10]⟩) ++ (t.code ++ ⟨#[10]⟩) : ByteArray).size ≤ 120 := by
      have e1 : (⟨#[10]⟩ : ByteArray).size = 1 := rfl
      simp only [ByteArray.size_append, e1]; omega
    clear hce
    go_enter Tryz.func31, Tryz.ntmps31
    go_wp2_with fail
    refine (thingOf_c A1 c1 T A2 c2 M t.parent _ (hc.below HC1.out.bel) hn).mono ?_
    generalize hX : ((t.title ++ ⟨#[10]⟩) ++ (t.code ++ ⟨#[10]⟩) : ByteArray) = X at *
  all_goals
    clear hX
    rintro e w3 ⟨rfl, hb3⟩
    have HC3 := Lib.hid (HC1.out.below hb3)
    have HB3 := Lib.hid (HBX.out.below hb3)
    clear hb3 HC1 HBX
    cases hta : thAt T t.parent with
    | none =>
      have HH := Lib.hid ((headB_none hta).trans HX1.out)
      have HPP : Hid (ptsOf T t = t.parts) := by
        show _ = _
        refine ptsOf_own (fun h => ?_)
        have := HUP.out
        rw [hta, h.1] at this
        cases this
      clear hta
      simp only [thO, Option.map_none, Option.getD_none, Option.isSome_none]
      have HB4 := Lib.hid (HB3.out.alloc (.cells #[.int .i64 0, .int .i64 0, .string ⟨#[]⟩, .string ⟨#[]⟩, .int .i64 0, .int .i64 0, .slice none 0 0] 54))
      have HC4 := Lib.hid (HC3.out.alloc (.cells #[.int .i64 0, .int .i64 0, .string ⟨#[]⟩, .string ⟨#[]⟩, .int .i64 0, .int .i64 0, .slice none 0 0] 54))
      have hw3 : w.heap.size + 1 < w3.heap.size := HB3.out.lt
      obtain ⟨z0, z1, z2, z3, z4, z5, z6⟩ := HB3.out.cells
      go_wp2_with fail
      generalize hw4 : (w3.alloc (.cells #[.int .i64 0, .int .i64 0, .string ⟨#[]⟩, .string ⟨#[]⟩, .int .i64 0, .int .i64 0, .slice none 0 0] 54)) = w4 at *
      clear hw4 z0 z1 z2 z3 z4 z5 z6 HB3 HC3 hw3
      obtain ⟨z0, z1, z2, z3, z4, z5, z6⟩ := HB4.out.cells
      have hw4 := HB4.out.lt
      go_quiet (fail)
      go_wp2
      go_ret2
      exact GivesHd.mk HH.out HPP.out ((HPT.out.below HC4.out.bel).below (below_drewN (Below.refl _ _) _)) (below_drewN HC4.out.bel _)
    | some u =>
      have HUM := Lib.hid (thAt_some hta).1
      obtain ⟨hus, hup⟩ := HTS.out u HUM.out
      have HK4 : Hid (t.kind = 4) := by
        have := HUP.out
        rw [hta] at this
        show t.kind = 4
        simpa using this.symm
      have HTA := Lib.hid hta
      clear hta
      simp only [thO, Option.map_some, Option.getD_some, Option.isSome_some]
      have HB4 := Lib.hid (HB3.out.alloc (.cells #[.int .i64 u.id, .int .i64 u.kind, .string u.title, .string u.code, .int .i64 u.since, .int .i64 u.parent, .slice u.pA u.parts.length u.pc] 54))
      have HC4 := Lib.hid (HC3.out.alloc (.cells #[.int .i64 u.id, .int .i64 u.kind, .string u.title, .string u.code, .int .i64 u.since, .int .i64 u.parent, .slice u.pA u.parts.length u.pc] 54))
      have HU4 : Hid (BoxT (w3.alloc (.cells #[.int .i64 u.id, .int .i64 u.kind, .string u.title, .string u.code, .int .i64 u.since, .int .i64 u.parent, .slice u.pA u.parts.length u.pc] 54)) w3.heap.size u) := heap_alloc_new _ _
      have hw3 : w.heap.size + 1 < w3.heap.size := HB3.out.lt
      obtain ⟨z0, z1, z2, z3, z4, z5, z6⟩ := HB3.out.cells
      have hway : ((u.title.toList == t.title.toList) = true ∨ (u.title.toList == t.title.toList) = false) ∧ (t.parts.length = 0 ∨ ¬ t.parts.length = 0) := ⟨by cases (u.title.toList == t.title.toList) <;> simp, by omega⟩
      rcases hway with ⟨het | het, hp0 | hp0⟩
      · have HH := Lib.hid ((headB_same HTA.out het).trans HX1.out)
        have heb : (u.title.toList != t.title.toList) = false := by rw [bne, het]; rfl
        have HPP : Hid (ptsOf T t = u.parts) := ptsOf_up HTA.out HK4.out hp0
        have hpb : ((t.parts.length : Int) == 0) = true := by simpa using hp0
        clear hp0
        go_wp2_with fail
        generalize hw4 : (w3.alloc (.cells #[.int .i64 u.id, .int .i64 u.kind, .string u.title, .string u.code, .int .i64 u.since, .int .i64 u.parent, .slice u.pA u.parts.length u.pc] 54)) = w4 at *
        clear hw4 z0 z1 z2 z3 z4 z5 z6 HB3 HC3 hw3
        generalize hg4 : w3.heap.size = g4 at *
        clear hg4
        obtain ⟨z0, z1, z2, z3, z4, z5, z6⟩ := HB4.out.cells
        have hw4 := HB4.out.lt
        obtain ⟨y0, y1, y2, y3, y4, y5, y6⟩ := HU4.out.cells
        have hw5 := HU4.out.lt
        go_quiet (fail)
        go_wp2
        go_ret2
        exact GivesHd.mk HH.out HPP.out (((HCP.out u HUM.out).below HC4.out.bel).below (below_drewN (Below.refl _ _) _)) (below_drewN HC4.out.bel _)
      · have HH := Lib.hid ((headB_same HTA.out het).trans HX1.out)
        have heb : (u.title.toList != t.title.toList) = false := by rw [bne, het]; rfl
        have HPP : Hid (ptsOf T t = t.parts) := ptsOf_own (fun h => hp0 h.2)
        have hpb : ((t.parts.length : Int) == 0) = false := by simpa using hp0
        clear hp0
        go_wp2_with fail
        generalize hw4 : (w3.alloc (.cells #[.int .i64 u.id, .int .i64 u.kind, .string u.title, .string u.code, .int .i64 u.since, .int .i64 u.parent, .slice u.pA u.parts.length u.pc] 54)) = w4 at *
        clear hw4 z0 z1 z2 z3 z4 z5 z6 HB3 HC3 hw3
        generalize hg4 : w3.heap.size = g4 at *
        clear hg4
        obtain ⟨z0, z1, z2, z3, z4, z5, z6⟩ := HB4.out.cells
        have hw4 := HB4.out.lt
        obtain ⟨y0, y1, y2, y3, y4, y5, y6⟩ := HU4.out.cells
        have hw5 := HU4.out.lt
        go_quiet (fail)
        go_wp2
        go_ret2
        exact GivesHd.mk HH.out HPP.out ((HPT.out.below HC4.out.bel).below (below_drewN (Below.refl _ _) _)) (below_drewN HC4.out.bel _)
      · have HH := Lib.hid ((headB_other HTA.out het).trans (congrArg (· ++ ((⟨#[111, 102, 32]⟩ ++ u.title) ++ ⟨#[10]⟩)) HX1.out))
        have heb : (u.title.toList != t.title.toList) = true := by rw [bne, het]; rfl
        have HPP : Hid (ptsOf T t = u.parts) := ptsOf_up HTA.out HK4.out hp0
        have hpb : ((t.parts.length : Int) == 0) = true := by simpa using hp0
        clear hp0
        go_wp2_with fail
        generalize hw4 : (w3.alloc (.cells #[.int .i64 u.id, .int .i64 u.kind, .string u.title, .string u.code, .int .i64 u.since, .int .i64 u.parent, .slice u.pA u.parts.length u.pc] 54)) = w4 at *
        clear hw4 z0 z1 z2 z3 z4 z5 z6 HB3 HC3 hw3
        generalize hg4 : w3.heap.size = g4 at *
        clear hg4
        obtain ⟨z0, z1, z2, z3, z4, z5, z6⟩ := HB4.out.cells
        have hw4 := HB4.out.lt
        obtain ⟨y0, y1, y2, y3, y4, y5, y6⟩ := HU4.out.cells
        have hw5 := HU4.out.lt
        go_quiet (fail)
        go_wp2
        go_ret2
        exact GivesHd.mk HH.out HPP.out (((HCP.out u HUM.out).below HC4.out.bel).below (below_drewN (Below.refl _ _) _)) (below_drewN HC4.out.bel _)
      · have HH := Lib.hid ((headB_other HTA.out het).trans (congrArg (· ++ ((⟨#[111, 102, 32]⟩ ++ u.title) ++ ⟨#[10]⟩)) HX1.out))
        have heb : (u.title.toList != t.title.toList) = true := by rw [bne, het]; rfl
        have HPP : Hid (ptsOf T t = t.parts) := ptsOf_own (fun h => hp0 h.2)
        have hpb : ((t.parts.length : Int) == 0) = false := by simpa using hp0
        clear hp0
        go_wp2_with fail
        generalize hw4 : (w3.alloc (.cells #[.int .i64 u.id, .int .i64 u.kind, .string u.title, .string u.code, .int .i64 u.since, .int .i64 u.parent, .slice u.pA u.parts.length u.pc] 54)) = w4 at *
        clear hw4 z0 z1 z2 z3 z4 z5 z6 HB3 HC3 hw3
        generalize hg4 : w3.heap.size = g4 at *
        clear hg4
        obtain ⟨z0, z1, z2, z3, z4, z5, z6⟩ := HB4.out.cells
        have hw4 := HB4.out.lt
        obtain ⟨y0, y1, y2, y3, y4, y5, y6⟩ := HU4.out.cells
        have hw5 := HU4.out.lt
        go_quiet (fail)
        go_wp2
        go_ret2
        exact GivesHd.mk HH.out HPP.out ((HPT.out.below HC4.out.bel).below (below_drewN (Below.refl _ _) _)) (below_drewN HC4.out.bel _)
end Go.Proofs.YtfninfgohiipjaaGreatDoor

namespace Go.Proofs.YtfninfgohiipjaaGreatDoor
open Go.RowKit Dw

theorem Bld.lt {B b : Nat} {l : List UInt8} {w : World} (h : Bld B b l w) : b < w.heap.size := by
  unfold Bld Lib.IsBuilderF at h
  rcases h with h | h
  · exact h.lt
  · exact h.lt
theorem thO_getD (o : Option Th) : thO o = thV (o.getD default) := by cases o <;> rfl
theorem BoxT.kept {w w' : World} {p b : Nat} {x : Th} (h : BoxT w p x) (hk : Lib.OthersKept 5 (some b) w w') (hne : p ≠ b) : BoxT w' p x :=
  hk p _ h (fun e => hne (by injection e)) (fun _ _ e => by injection e with _ e; exact absurd e (by decide))
theorem BoxK.kept {w w' : World} {p b : Nat} {x : Tk} (h : BoxK w p x) (hk : Lib.OthersKept 5 (some b) w w') (hne : p ≠ b) : BoxK w' p x :=
  hk p _ h (fun e => hne (by injection e)) (fun _ _ e => by injection e with _ e; exact absurd e (by decide))
/-- A write into the builder, in the state of the loops. -/
theorem writeS_c {B : Nat} {L : List UInt8} {wB w : World} (s : ByteArray) (h : NmS B B L wB w) (hl : L.length + s.size ≤ 100000000) (hB : B ≤ wB.heap.size) :
    Calls Tryz.prog 24 #[.pointer (some ⟨B, 0, none⟩), .string s] w fun e w' => e = .returned (.tuple #[.int .i64 (s.size : Int), .nilIface]) ∧ NmS B B (L ++ s.data.toList) wB w' ∧ Lib.OthersKept 5 (some B) w w' ∧ w.heap.size ≤ w'.heap.size :=
  (write_c B B L s w h.bld (by omega) (Nat.le_trans hB h.bel.size)).mono fun _ w' ⟨he, h1, h2, h3⟩ => ⟨he, ⟨h1, h.bel.trans h2, Lib.OthersKept.trans h.kept h3⟩, h3, h2.size⟩
def GivesWT (B : Nat) (L : List UInt8) (n : Nat) (wB : World) (p : Nat) (x : Th) (e : Ending) (w' : World) : Prop :=
  e = .returned (.tuple #[.int .i64 (n : Int), .nilIface]) ∧ NmS B B L wB w' ∧ BoxT w' p x
theorem line_cats (a b : ByteArray) (h1 : a.size ≤ 16) (h2 : b.size ≤ 100) :
    (∀ W, (Op.stringOp .add a ⟨#[46, 32]⟩).run Tryz.prog W = .ok (.string (a ++ ⟨#[46, 32]⟩)) W) ∧
    (∀ W, (Op.stringOp .add (a ++ ⟨#[46, 32]⟩) b).run Tryz.prog W = .ok (.string ((a ++ ⟨#[46, 32]⟩) ++ b)) W) ∧ ((a ++ ⟨#[46, 32]⟩) ++ b).size ≤ 120 := by
  have e1 : (⟨#[46, 32]⟩ : ByteArray).size = 2 := rfl
  refine ⟨cat_big _ _ ?_, cat_big _ _ ?_, ?_⟩ <;> (simp only [ByteArray.size_append, e1]; omega)
def LrRel (B : Nat) (hd : List UInt8) (T : List Th) (l : List Tk) (rate : Int) (ps : List Int) (wB : World) (m : Nat) (tv av i : Value) (wr : World) : Prop :=
  ∃ k : Nat, k + m = ps.length ∧ i = .int .i64 k ∧ tv = .int .i64 (totL l ps k) ∧ av = .bool (allB l ps k) ∧ NmS B B (hd ++ bodyT T l rate ps k) wB wr
theorem finP_large {L : List UInt8} (h : 200000 < L.length) : finP L = (⟨#[]⟩, 2) := by unfold finP; rw [if_pos h]
theorem finP_ok {L : List UInt8} (h : ¬ 200000 < L.length) : finP L = (⟨L.toArray⟩, 0) := by unfold finP; rw [if_neg h]
theorem labT_big {T : List Th} {l : List Tk} {t : Th} {rate : Int} (h : allB l (ptsOf T t) (ptsOf T t).length = true) (h2 : 10000000000000 < totL l (ptsOf T t) (ptsOf T t).length) : labT T l t rate = (⟨#[]⟩, 1) := by
  unfold labT; rw [if_pos h, if_pos h2]
theorem labT_all {T : List Th} {l : List Tk} {t : Th} {rate : Int} (h : allB l (ptsOf T t) (ptsOf T t).length = true) (h2 : ¬ 10000000000000 < totL l (ptsOf T t) (ptsOf T t).length) :
    labT T l t rate = finP ((headB T t).data.toList ++ bodyT T l rate (ptsOf T t) (ptsOf T t).length ++ ((⟨#[116, 111, 116, 97, 108, 32]⟩ ++ showB (totL l (ptsOf T t) (ptsOf T t).length) rate) ++ ⟨#[10]⟩ : ByteArray).data.toList) := by
  unfold labT; rw [if_pos h, if_neg h2]
theorem labT_some {T : List Th} {l : List Tk} {t : Th} {rate : Int} (h : allB l (ptsOf T t) (ptsOf T t).length = false) : labT T l t rate = finP ((headB T t).data.toList ++ bodyT T l rate (ptsOf T t) (ptsOf T t).length) := by
  unfold labT; rw [if_neg (by rw [h]; simp)]
theorem ptsOf_len {T : List Th} (h : ∀ u ∈ T, u.parts.length ≤ 50) {t : Th} (ht : t ∈ T) : (ptsOf T t).length ≤ 50 := by
  unfold ptsOf
  split
  · cases hp : thAt T t.parent with
    | none => simp
    | some u => exact h u (thAt_some hp).1
  · exact h t ht
theorem showP_ok {n rate : Int} (h : ¬ 10000000000000 < n) : showP n rate = (showB n rate, 0) := by unfold showP; rw [if_neg h]
theorem showP_big {n rate : Int} (h : 10000000000000 < n) : showP n rate = (⟨#[]⟩, 1) := by unfold showP; rw [if_pos h]

set_option maxRecDepth 100000 in
set_option maxHeartbeats 2000000 in
theorem LabelR_c (A1 : Option Addr) (c1 : Nat) (T : List Th) (A2 : Option Addr) (c2 : Nat) (M : List Mv) (A : Option Addr) (c : Nat) (l : List Tk) (id rate : Int) (w : World) (hc : CatOk w A1 T A2 M) (hG : GOK w) (hP : POK w) (he : TksOk w A l) (hcap : T.length ≤ c1) :
    Calls Tryz.prog 8 #[catV A1 c1 T A2 c2 M, .slice A l.length c, .int .i64 id, .int .i64 rate] w (GivesSP (labP T M l id rate) w) := by
  generalize hres : labP T M l id rate = res
  have HR := Lib.hid hres
  have HEM := Lib.hid he
  have HPK := Lib.hid hP
  have HCB := Lib.hid (CB.new w (.slice A1 T.length c1) (.slice A2 M.length c2))
  clear hres he hP
  go_enter Tryz.func8, Tryz.ntmps8
  go_wp2_with fail
  refine (CheckTracksR_c A1 c1 T A2 c2 M A c l _ (hc.below HCB.out.bel) (hG.below HCB.out.bel) (HPK.out.below HCB.out.bel) (HEM.out.below HCB.out.bel) hcap).mono ?_
  rintro e w2 ⟨rfl, hb2⟩
  have HC2 := Lib.hid (HCB.out.below hb2)
  clear hb2 HCB
  have hw2 := HC2.out.lt
  have d0 := HC2.out.c0
  have d1 := HC2.out.c1
  by_cases hck : chkT T M l = 0
  case neg =>
    have hckb : (chkT T M l != 0) = true := by simpa using hck
    have HX := Lib.hid (HR.out.symm.trans (labP_bad hck))
    clear hck
    generalize chkT T M l = z at *
    go_wp2
    go_ret2
    exact GivesSP.mk HX.out HC2.out.bel
  have HCK := Lib.hid hck
  have HCC := Lib.hid (chkT_ok hck).1
  have hnl := (chkT_ok hck).2.1
  have HTZ := Lib.hid (tkSz_of hck)
  have hnT : T.length ≤ 300 := (chkC_len HCC.out).1
  rw [hck]
  clear hck
  go_wp2_with fail
  refine (thingOf_c A1 c1 T A2 c2 M id _ (hc.below HC2.out.bel) hnT).mono ?_
  rintro e w3 ⟨rfl, hb3⟩
  have HC3 := Lib.hid (HC2.out.below hb3)
  clear hb3 HC2 hw2 d0 d1
  cases hta : thAt T id with
  | none =>
    have HX := Lib.hid (HR.out.symm.trans (labP_none HCK.out hta))
    clear hta
    simp only [thO, Option.map_none, Option.getD_none, Option.isSome_none]
    have HC4 := Lib.hid (HC3.out.alloc (.cells #[.int .i64 0, .int .i64 0, .string ⟨#[]⟩, .string ⟨#[]⟩, .int .i64 0, .int .i64 0, .slice none 0 0] 54))
    go_wp2
    go_ret2
    exact GivesSP.mk HX.out HC4.out.bel
  | some t =>
  have HTA := Lib.hid hta
  have HTM := Lib.hid (thAt_some hta).1
  clear hta
  simp only [thO, Option.map_some, Option.getD_some, Option.isSome_some]
  have HC4 := Lib.hid (HC3.out.alloc (.cells #[.int .i64 t.id, .int .i64 t.kind, .string t.title, .string t.code, .int .i64 t.since, .int .i64 t.parent, .slice t.pA t.parts.length t.pc] 54))
  have HT4 : Hid (BoxT (w3.alloc (.cells #[.int .i64 t.id, .int .i64 t.kind, .string t.title, .string t.code, .int .i64 t.since, .int .i64 t.parent, .slice t.pA t.parts.length t.pc] 54)) w3.heap.size t) := heap_alloc_new _ _
  by_cases hkd : t.kind ≠ 3 ∧ t.kind ≠ 4
  · have HX := Lib.hid (HR.out.symm.trans (labP_kind (rate := rate) HCK.out HTA.out hkd))
    have hk3 : (t.kind != 3) = true := by simpa using hkd.1
    have hk4 : (t.kind != 4) = true := by simpa using hkd.2
    clear hkd
    go_wp2
    go_ret2
    exact GivesSP.mk HX.out HC4.out.bel
  have HKD := Lib.hid hkd
  have hkd34 : t.kind = 3 ∨ t.kind = 4 := by omega
  have HK34 := Lib.hid hkd34
  have hkb : ((t.kind != 3) = false) ∨ ((t.kind != 3) = true ∧ (t.kind != 4) = false) := by
    rcases hkd34 with e | e
    · left; simpa using e
    · right; exact ⟨by simp [e], by simpa using e⟩
  clear hkd hkd34
  cases hrb : rateB rate with
  | false =>
    have HX := Lib.hid (HR.out.symm.trans (labP_rate HCK.out HTA.out HKD.out hrb))
    have hrr : rate < 1 ∨ (¬ rate < 1 ∧ 1000000 < rate) := by
      unfold rateB at hrb
      have : ¬ (1 ≤ rate ∧ rate ≤ 1000000) := by simpa using hrb
      omega
    clear hrb
    rcases hkb with hk3 | ⟨hk3, hk4⟩
    all_goals
      rcases hrr with hrr | ⟨hrr, hrr2⟩
    all_goals
      go_wp2
      go_ret2
      exact GivesSP.mk HX.out HC4.out.bel
  | true =>
  have hrr : 1 ≤ rate ∧ rate ≤ 1000000 := by
    unfold rateB at hrb
    simpa using hrb
  obtain ⟨hr1, hr2⟩ := hrr
  have HRES0 := Lib.hid (HR.out.symm.trans (labP_ok HCK.out HTA.out HKD.out hrb))
  have hr3 : ¬ rate < 1 := by omega
  have hr4 : ¬ 1000000 < rate := by omega
  clear hrb
  have HST4 : Hid (BoxT (w3.alloc (.cells #[.int .i64 t.id, .int .i64 t.kind, .string t.title, .string t.code, .int .i64 t.since, .int .i64 t.parent, .slice t.pA t.parts.length t.pc] 54)) w3.heap.size t ∧ CB w (w3.alloc (.cells #[.int .i64 t.id, .int .i64 t.kind, .string t.title, .string t.code, .int .i64 t.since, .int .i64 t.parent, .slice t.pA t.parts.length t.pc] 54)) w.heap.size (.slice A1 T.length c1) (.slice A2 M.length c2)) := ⟨HT4.out, HC4.out⟩
  have HHC := Lib.hid (headOf_c A1 c1 T A2 c2 M t (w3.alloc (.cells #[.int .i64 t.id, .int .i64 t.kind, .string t.title, .string t.code, .int .i64 t.since, .int .i64 t.parent, .slice t.pA t.parts.length t.pc] 54)) (hc.below HC4.out.bel) HCC.out HTM.out HK34.out)
  have hw3 := HC3.out.lt
  have d0 := HC3.out.c0
  have d1 := HC3.out.c1
  clear HT4 HC4
  rcases hkb with hk3 | ⟨hk3, hk4⟩
  case' inl => (go_wp2_with fail; clear hk3)
  case' inr => (go_wp2_with fail; clear hk3 hk4)
  all_goals
    refine HHC.out.mono ?_
    rintro e w5 ⟨A5, c5, rfl, hi5, hb5⟩
    have HC5 := Lib.hid (HST4.out.2.below hb5)
    have HI5 := Lib.hid hi5
    clear hi5 hb5 HHC HST4 HC3 hw3 d0 d1
    have HPN : Hid ((ptsOf T t).length ≤ 50) := ptsOf_len (fun u hu => thF_parts ((chkC_ok HCC.out).2.2.1 u hu)) HTM.out
    have HHS := Lib.hid (headB_size (t := t) HTZ.out.1 HTM.out)
    have HW5 := Lib.hid HC5.out.bel
    have hw5 : w.heap.size ≤ w5.heap.size := Nat.le_of_lt HC5.out.lt
    have HBL6 : Hid (NmS w5.heap.size w5.heap.size [] (w5.alloc (.cells #[.pointer none, .slice none 0 0] 64)) (w5.alloc (.cells #[.pointer none, .slice none 0 0] 64))) := ⟨Lib.IsBuilderF.of (Lib.fresh_isBuilder 64 5 w5), Below.refl _ _, Lib.OthersKept.refl _ _ _⟩
    have HBW : Hid (Below w5.heap.size w5 (w5.alloc (.cells #[.pointer none, .slice none 0 0] 64))) := (Below.refl _ _).alloc (Nat.le_refl _) _
    have HCF : Hid (∀ W, Below w5.heap.size w5 W → CB w W w.heap.size (.slice A1 T.length c1) (.slice A2 M.length c2)) := fun W hW => HC5.out.below hW
    have hps1 : (ptsOf T t).length ≤ 50 := HPN.out
    have HIF : Hid (∀ W, Below w5.heap.size w5 W → Ints W A5 (ptsOf T t)) := fun W hW => HI5.out.below hW
    have hB6 : w5.heap.size ≤ (w5.alloc (.cells #[.pointer none, .slice none 0 0] 64)).heap.size := by simp
    have hwB : w.heap.size ≤ w5.heap.size := hw5
    clear HI5 HC5 HPN
    have HTT := Lib.hid (fun (a : _) (b : _) => @labT_big T l t rate a b)
    obtain ⟨hd, hhd⟩ : ∃ hd, hd = (headB T t).data.toList := ⟨_, rfl⟩
    have HHL : Hid (hd.length ≤ 300) := by
      show hd.length ≤ 300
      rw [hhd, len_data']; exact HHS.out
    have HR1 : Hid (allB l (ptsOf T t) (ptsOf T t).length = true → 10000000000000 < totL l (ptsOf T t) (ptsOf T t).length → res = (⟨#[]⟩, 1)) := fun a b => HRES0.out.trans (labT_big a b)
    have HR2 : Hid (allB l (ptsOf T t) (ptsOf T t).length = true → ¬ 10000000000000 < totL l (ptsOf T t) (ptsOf T t).length → res = finP (hd ++ bodyT T l rate (ptsOf T t) (ptsOf T t).length ++ ((⟨#[116, 111, 116, 97, 108, 32]⟩ ++ showB (totL l (ptsOf T t) (ptsOf T t).length) rate) ++ ⟨#[10]⟩ : ByteArray).data.toList)) := fun a b => by rw [hhd]; exact HRES0.out.trans (labT_all a b)
    have HR3 : Hid (allB l (ptsOf T t) (ptsOf T t).length = false → res = finP (hd ++ bodyT T l rate (ptsOf T t) (ptsOf T t).length)) := fun a => by rw [hhd]; exact HRES0.out.trans (labT_some a)
    have hhs := HHS.out
    have HHD := Lib.hid hhd
    clear hhd HTT
    generalize headB T t = hB at *
    go_wp2_with fail
    generalize hw6 : (w5.alloc (.cells #[.pointer none, .slice none 0 0] 64)) = w6 at *
    clear hw6
    generalize hBB : w5.heap.size = B at *
    clear hBB
    refine (writeS_c hB HBL6.out (by simp; omega) hB6).mono ?_
    rintro e w7 ⟨rfl, hst7, _, _⟩
    have HST7 : Hid (NmS B B (hd ++ bodyT T l rate (ptsOf T t) 0) w6 w7) := by
      show NmS _ _ _ _ _
      rw [HHD.out]
      rw [List.nil_append] at hst7
      unfold bodyT
      rw [List.append_nil]
      exact hst7
    clear hst7 HBL6 HHD
    generalize hpp : ptsOf T t = ps at *
    clear hpp HK34 HKD HRES0 HTA HTM
    go_wp2
    go_loopg [16, 17, 72] ps.length (LrRel B hd T l rate ps w6)
    case atStart => exact ⟨0, by omega, rfl, rfl, by unfold allB; simp, HST7.out⟩
    clear HST7
    case round =>
      obtain ⟨k, hk, rfl, rfl, rfl, hst⟩ := hrel
      have HK := Lib.hid hk
      have HST := Lib.hid hst
      have hk1 : k ≤ ps.length := by omega
      have HBR : Hid (Below B w5 wr) := HBW.out.trans hst.bel
      have HCR := Lib.hid (HCF.out _ HBR.out)
      have hto := totL_le HTZ.out ps k
      clear hk hst
      by_cases hlt : k < ps.length
      · obtain ⟨b5, o5, rfl, hb5, hcc5⟩ := (HIF.out _ HBR.out).at_ (by omega)
        have q := hcc5 k hlt
        clear hcc5
        have d0 := HCR.out.c0
        have d1 := HCR.out.c1
        have hwl := HCR.out.lt
        have hgd : ps.getD k 0 = ps[k] := by simp [List.getD, hlt]
        have HBN : Hid (bodyT T l rate ps (k + 1) = bodyT T l rate ps k ++ partT T l rate k ps[k]) := by
          show bodyT T l rate ps (k + 1) = _
          rw [bodyT, hgd]
        have HTN : Hid (totL l ps (k + 1) = totL l ps k + lenK l ps[k]) := by
          show totL l ps (k + 1) = _
          rw [totL, hgd]
        have HAN : Hid (allB l ps (k + 1) = (allB l ps k && (tkAt l ps[k]).isSome)) := by
          show allB l ps (k + 1) = _
          rw [allB, hgd]
        have hbl : (bodyT T l rate ps k).length ≤ 7000000 := by
          have := bodyT_len (ps := ps) HTZ.out hr1 hr2 k (by omega)
          omega
        have HHB := Lib.hid hbl
        have hts := title_size HTZ.out ps[k]
        have htt : 0 ≤ totL l ps k ∧ totL l ps k ≤ 500000000000000 := ⟨hto.1, by omega⟩
        clear hgd hto hbl
        generalize ps[k] = n at *
        generalize bodyT T l rate ps k = bk at *
        generalize totL l ps k = tt at *
        generalize allB l ps k = al at *
        obtain ⟨htt0, htt1⟩ := htt
        go_wp2_with fail
        refine (thingOf_c A1 c1 T A2 c2 M n _ (hc.below HCR.out.bel) hnT).mono ?_
        rintro e w3' ⟨rfl, hb3⟩
        have HS3 := Lib.hid (HST.out.below hB6 hb3)
        clear hb3 q d0 d1 hwl hb5 HCR HBR HST HR1 HR2 HR3
        rw [thO_getD]
        have HPT : Hid (partT T l rate k n = ((itoaB ((k : Int) + 1) ++ ⟨#[46, 32]⟩) ++ ((thAt T n).getD default).title : ByteArray).data.toList ++ match tkAt l n with
            | none => [10]
            | some x => [32] ++ (showB x.len rate).data.toList ++ [10] ++ (nmB x.crs).data.toList) := rfl
        generalize (thAt T n).getD default = x at *
        generalize (thAt T n).isSome = bsm at *
        have HS4 := Lib.hid (HS3.out.below hB6 ((Below.refl _ _).alloc (Nat.le_refl _) (.cells #[.int .i64 x.id, .int .i64 x.kind, .string x.title, .string x.code, .int .i64 x.since, .int .i64 x.parent, .slice x.pA x.parts.length x.pc] 54)))
        have HX4 : Hid (BoxT (w3'.alloc (.cells #[.int .i64 x.id, .int .i64 x.kind, .string x.title, .string x.code, .int .i64 x.since, .int .i64 x.parent, .slice x.pA x.parts.length x.pc] 54)) w3'.heap.size x) := heap_alloc_new _ _
        have hpB : B < w3'.heap.size := HS3.out.bld.lt
        go_wp2_with fail
        generalize hw4 : (w3'.alloc (.cells #[.int .i64 x.id, .int .i64 x.kind, .string x.title, .string x.code, .int .i64 x.since, .int .i64 x.parent, .slice x.pA x.parts.length x.pc] 54)) = w4 at *
        generalize hpp : w3'.heap.size = p at *
        clear hw4 hpp HS3
        obtain ⟨it, hit⟩ : ∃ it, it = itoaB ((k : Int) + 1) := ⟨_, rfl⟩
        have his : it.size ≤ 16 := by rw [hit]; exact itoaB_size (by omega) (by omega)
        have HI : Hid (∀ W, BelH w4 W → Calls Tryz.prog 25 #[.int .i64 ((k : Int) + 1)] W (GivesH w4 (.string it))) := fun W hW =>
          (itoa_c ((k : Int) + 1) W (by omega) (by omega) (HPK.out.below ((HCF.out _ (HBW.out.trans (HS4.out.below hB6 hW.out).bel)).bel))).mono fun _ _ h => by rw [hit]; exact GivesB.toH hW h
        rw [← hit] at HPT
        clear hit
        obtain ⟨u1, u2, u3⟩ := line_cats it x.title his hts
        have v1 : IntKind.i64.wrap ((k : Int) + 1) = (k : Int) + 1 := IntWalk.i64_in _ (by omega)
        have HLS := Lib.hid u3
        generalize htx : ((it ++ ⟨#[46, 32]⟩) ++ x.title : ByteArray) = tx at *
        clear htx u3 his hts
        have HWR : Hid (∀ W, BelH w4 W → Calls Tryz.prog 24 #[.pointer (some ⟨B, 0, none⟩), .string tx] W (GivesWT B (hd ++ bk ++ tx.data.toList) tx.size w6 p x)) := fun W hW =>
          (writeS_c tx (HS4.out.below hB6 hW.out) (by have := HHL.out; have := HHB.out; have := HLS.out; rw [List.length_append]; omega) hB6).mono fun _ w' ⟨he, h1, h3, _⟩ => ⟨he, h1, (HX4.out.below hW.out).kept h3 (by omega)⟩
        have HBC : Hid (∀ W, BelH w4 W → W.cell? ⟨p, 2, none⟩ = some (.string x.title) ∧ p < W.heap.size) := fun W hW => ⟨(HX4.out.below hW.out).cells.2.2.1, (HX4.out.below hW.out).lt⟩
        have H1 : BelH w4 w4.drew := below_drewN (Below.refl _ _) 1
        obtain ⟨z0, z1, z2, z3, z4, z5, z6⟩ := HX4.out.cells
        have hzl := HX4.out.lt
        have HTX := Lib.hid HLS.out
        clear HLS
        go_region_held3 (fun w' => w'.cell? ⟨p, 2, none⟩ = some (.string x.title)) (go_keep)
          (first
            | ((go_at_call 25; (with_reducible refine (HI.out _ (by assumption)).mono ?_); rintro e w8 ⟨rfl, H8⟩; obtain ⟨y1, y2⟩ := HBC.out _ H8))
            | ((go_at_call 24; (with_reducible refine (HWR.out _ (by assumption)).mono ?_); rintro e w9 ⟨rfl, hst9, hx9⟩; have HS9 := Lib.hid hst9; have y3 := hx9.cells.2.2.1; have y4 := hx9.lt; clear hst9 hx9)))
        all_goals
          clear u1 u2 v1 z0 z1 z2 z3 z4 z5 z6 hzl HWR HBC HI
          have HC9 := Lib.hid (HCF.out _ (HBW.out.trans HS9.out.bel))
          go_wp2_with fail
          refine (trackOf_c A c l n _ (HEM.out.below HC9.out.bel) hnl).mono ?_
          rintro e w10 ⟨rfl, hb10⟩
          have HS10 := Lib.hid (HS9.out.below hB6 hb10)
          clear hb10 HS9
          cases htk : tkAt l n with
          | none =>
            rw [htk] at HPT HAN
            have HL0 : Hid (lenK l n = 0) := by show lenK l n = 0; unfold lenK; rw [htk]; rfl
            clear htk
            have HS11 := Lib.hid (HS10.out.below hB6 ((Below.refl _ _).alloc (Nat.le_refl _) (.cells #[.int .i64 0, .int .i64 0, .slice none 0 0] 60)))
            simp only [tkO, Option.map_none, Option.getD_none, Option.isSome_none]
            go_wp2_with fail
            refine (writeS_c ⟨#[10]⟩ HS11.out (by have e2 : (⟨#[10]⟩ : ByteArray).size = 1 := rfl; have := HHL.out; have := HHB.out; have := HTX.out; rw [List.length_append, List.length_append, len_data', e2]; omega) hB6).mono ?_
            rintro e w12 ⟨rfl, hst12, _, _⟩
            have HS12 := Lib.hid hst12
            clear hst12 HS11 HS10
            go_wp2
            go_roundg (gk - 1)
            case measure => have := HK.out; omega
            case rel =>
              refine ⟨k + 1, by have := HK.out; omega, by go_num, by rw [HTN.out, HL0.out, Int.add_zero], by rw [HAN.out]; simp, ?_⟩
              rw [HBN.out, HPT.out]
              have := HS12.out
              rw [List.append_assoc, List.append_assoc] at this
              exact this
          | some x2 =>
            have HXM := Lib.hid (tkAt_some htk).1
            obtain ⟨g1, g2, g3⟩ := HTZ.out.2 x2 (tkAt_some htk).1
            rw [htk] at HPT HAN
            have HPT2 : Hid (partT T l rate k n = tx.data.toList ++ ([32] ++ (showB x2.len rate).data.toList ++ [10] ++ (nmB x2.crs).data.toList)) := HPT.out
            clear HPT
            have HL0 : Hid (lenK l n = x2.len) := by show lenK l n = _; unfold lenK; rw [htk]; rfl
            clear htk
            simp only [tkO, Option.map_some, Option.getD_some, Option.isSome_some]
            have HS11 := Lib.hid (HS10.out.below hB6 ((Below.refl _ _).alloc (Nat.le_refl _) (.cells #[.int .i64 x2.rc, .int .i64 x2.len, .slice x2.cA x2.crs.length x2.cc] 60)))
            have HK11 : Hid (BoxK (w10.alloc (.cells #[.int .i64 x2.rc, .int .i64 x2.len, .slice x2.cA x2.crs.length x2.cc] 60)) w10.heap.size x2) := heap_alloc_new _ _
            have HC11 := Lib.hid (HCF.out _ (HBW.out.trans HS11.out.bel))
            have hSH := showR_c x2.len rate (w10.alloc (.cells #[.int .i64 x2.rc, .int .i64 x2.len, .slice x2.cA x2.crs.length x2.cc] 60)) g1 (by omega) hr1 hr2 (HPK.out.below HC11.out.bel)
            rw [showP_ok (by omega)] at hSH
            have HSH := Lib.hid hSH
            have hss := showB_size (rate := rate) g1 g2 hr1 hr2
            have hns := nmB_size g3
            have HNZ := Lib.hid (nmSz_of g3)
            have hqB : B < w10.heap.size := HS10.out.bld.lt
            clear hSH g3
            generalize showB x2.len rate = sh at *
            go_wp2_with fail
            refine HSH.out.mono ?_
            rintro e w12 ⟨rfl, hb12⟩
            have HS12 := Lib.hid (HS11.out.below hB6 hb12)
            have HK12 := Lib.hid (HK11.out.below hb12)
            clear hb12 HSH HS11 HK11 HC11 HS10
            generalize hqq : w10.heap.size = q at *
            clear hqq
            obtain ⟨z0, z1, z2⟩ := HK12.out.cells
            have hzl := HK12.out.lt
            have HC12 := Lib.hid (HCF.out _ (HBW.out.trans HS12.out.bel))
            go_wp2_with fail
            refine (namedR_c x2.cA x2.cc x2.crs _ ((HEM.out.crs x2 HXM.out).below HC12.out.bel) HNZ.out).mono ?_
            rintro e w13 ⟨rfl, hb13⟩
            have HS13 := Lib.hid (HS12.out.below hB6 hb13)
            have HK13 := Lib.hid (HK12.out.below hb13)
            clear hb13 HS12 HK12 HC12 z0 z1 z2 hzl
            generalize nmB x2.crs = nm at *
            go_wp2_with fail
            have hls : (((⟨#[32]⟩ ++ sh) ++ ⟨#[10]⟩) ++ nm : ByteArray).size ≤ 130100 := by
              have e1 : (⟨#[32]⟩ : ByteArray).size = 1 := rfl
              have e2 : (⟨#[10]⟩ : ByteArray).size = 1 := rfl
              simp only [ByteArray.size_append, e1, e2]; omega
            have HPD : Hid ((((⟨#[32]⟩ ++ sh) ++ ⟨#[10]⟩) ++ nm : ByteArray).data.toList = [32] ++ sh.data.toList ++ [10] ++ nm.data.toList) := by
              show _ = _
              simp only [data_app]
            generalize (((⟨#[32]⟩ ++ sh) ++ ⟨#[10]⟩) ++ nm : ByteArray) = ln at *
            refine (writeS_c ln HS13.out (by have := HHL.out; have := HHB.out; have := HTX.out; rw [List.length_append, List.length_append, len_data']; omega) hB6).mono ?_
            rintro e w14 ⟨rfl, hst14, hk14, _⟩
            have HS14 := Lib.hid hst14
            have HK14 := Lib.hid (HK13.out.kept hk14 (by omega))
            clear hst14 hk14 HS13 HK13 hls
            obtain ⟨z0, z1, z2⟩ := HK14.out.cells
            have hzl := HK14.out.lt
            go_wp2
            go_roundg (gk - 1)
            case measure => have := HK.out; omega
            case rel =>
              refine ⟨k + 1, by have := HK.out; omega, by go_num, by rw [HTN.out, HL0.out], by rw [HAN.out]; simp, ?_⟩
              rw [HBN.out, HPT2.out]
              have := HS14.out
              rw [HPD.out, List.append_assoc, List.append_assoc] at this
              exact this
      · have hke : k = ps.length := by omega
        have HKE := Lib.hid hke
        cases hall : allB l ps k with
        | false =>
          have HRES : Hid (res = finP (hd ++ bodyT T l rate ps k)) := by
            show _ = _
            rw [HKE.out] at hall ⊢
            exact HR3.out hall
          clear hall hke HR1 HR2 HR3
          generalize totL l ps k = tt at *
          have HBF := Lib.hid (HBW.out.trans HST.out.bel)
          have HBLD := Lib.hid HST.out.bld
          have HBE : Hid (Below w.heap.size w wr) := HW5.out.trans (HBF.out.mono hw5)
          have HLN := Lib.hid (blen_c B B _ wr HBLD.out)
          have HSR := Lib.hid (bstr_c B B _ wr HBLD.out (Nat.le_trans hB6 HST.out.bel.size))
          have hbl : (hd ++ bodyT T l rate ps k).length ≤ 100000000 := by have := HHL.out; have := bodyT_len (ps := ps) HTZ.out hr1 hr2 k (by omega); rw [List.length_append]; omega
          clear HBLD HBF HST
          generalize (hd ++ bodyT T l rate ps k) = LL at *
          by_cases hbig : 200000 < LL.length
          · have HR2 := Lib.hid (HRES.out.trans (finP_large hbig))
            go_wp2_with fail
            refine HLN.out.mono ?_
            rintro e w8 ⟨rfl, rfl⟩
            go_wp2
            go_ret2
            exact GivesSP.mk HR2.out HBE.out
          · have HR2 := Lib.hid (HRES.out.trans (finP_ok hbig))
            go_wp2_with fail
            refine HLN.out.mono ?_
            rintro e w8 ⟨rfl, rfl⟩
            go_wp2_with fail
            refine HSR.out.mono ?_
            rintro e w9 ⟨rfl, hb9⟩
            have HB9 := Lib.hid (HBE.out.trans (hb9.mono hwB))
            clear hb9
            go_wp2
            go_ret2
            exact GivesSP.mk HR2.out HB9.out
        | true =>
          by_cases htb : 10000000000000 < totL l ps k
          · have HRES : Hid (res = (⟨#[]⟩, 1)) := by
              show _ = _
              rw [HKE.out] at hall htb
              exact HR1.out hall htb
            have hSH := showR_c (totL l ps k) rate wr (by omega) (by omega) hr1 hr2 (HPK.out.below HCR.out.bel)
            rw [showP_big htb] at hSH
            have HSH := Lib.hid hSH
            clear hall hke HR1 HR2 HR3 htb hSH
            generalize totL l ps k = tt at *
            go_wp2_with fail
            refine HSH.out.mono ?_
            rintro e w7 ⟨rfl, hb7⟩
            have HB7 := Lib.hid (below_trans HCR.out.bel hb7)
            clear hb7
            go_wp2
            go_ret2
            exact GivesSP.mk HRES.out HB7.out
          · have hSH := showR_c (totL l ps k) rate wr (by omega) (by omega) hr1 hr2 (HPK.out.below HCR.out.bel)
            rw [showP_ok htb] at hSH
            have HSH := Lib.hid hSH
            have hss := showB_size (rate := rate) hto.1 (by omega) hr1 hr2
            have HRES0 : Hid (res = finP (hd ++ bodyT T l rate ps k ++ ((⟨#[116, 111, 116, 97, 108, 32]⟩ ++ showB (totL l ps k) rate) ++ ⟨#[10]⟩ : ByteArray).data.toList)) := by
              show _ = _
              rw [HKE.out] at hall htb ⊢
              exact HR2.out hall (by omega)
            have htl : ((⟨#[116, 111, 116, 97, 108, 32]⟩ ++ showB (totL l ps k) rate) ++ ⟨#[10]⟩ : ByteArray).size ≤ 100 := by
              have e1 : (⟨#[116, 111, 116, 97, 108, 32]⟩ : ByteArray).size = 6 := rfl
              have e2 : (⟨#[10]⟩ : ByteArray).size = 1 := rfl
              simp only [ByteArray.size_append, e1, e2]; omega
            have HTS := Lib.hid htl
            clear hall hke HR1 HR2 HR3 htb hSH htl
            generalize totL l ps k = tt at *
            generalize showB tt rate = sh at *
            go_wp2_with fail
            refine HSH.out.mono ?_
            rintro e w7' ⟨rfl, hb7⟩
            have HS7 := Lib.hid (HST.out.below hB6 hb7)
            clear hb7
            go_wp2_with fail
            generalize htt : ((⟨#[116, 111, 116, 97, 108, 32]⟩ ++ sh) ++ ⟨#[10]⟩ : ByteArray) = tot at *
            clear htt
            have HRES := HRES0
            refine (writeS_c tot HS7.out (by have := HHL.out; have := bodyT_len (ps := ps) HTZ.out hr1 hr2 k (by omega); have := HTS.out; rw [List.length_append]; omega) hB6).mono ?_
            rintro e w7 ⟨rfl, hst7, _, _⟩
            have HST7 := Lib.hid hst7
            clear hst7 HS7 HST
            have HBF := Lib.hid (HBW.out.trans HST7.out.bel)
            have HBLD := Lib.hid HST7.out.bld
            have HBE : Hid (Below w.heap.size w w7) := HW5.out.trans (HBF.out.mono hw5)
            have HLN := Lib.hid (blen_c B B _ w7 HBLD.out)
            have HSR := Lib.hid (bstr_c B B _ w7 HBLD.out (Nat.le_trans hB6 HST7.out.bel.size))
            have hbl : (hd ++ bodyT T l rate ps k ++ tot.data.toList).length ≤ 100000000 := by have := HHL.out; have := bodyT_len (ps := ps) HTZ.out hr1 hr2 k (by omega); have := HTS.out; rw [List.length_append, List.length_append, len_data']; omega
            clear HBLD HBF HST7
            generalize (hd ++ bodyT T l rate ps k ++ tot.data.toList) = LL at *
            by_cases hbig : 200000 < LL.length
            · have HR2 := Lib.hid (HRES.out.trans (finP_large hbig))
              go_wp2_with fail
              refine HLN.out.mono ?_
              rintro e w8 ⟨rfl, rfl⟩
              go_wp2
              go_ret2
              exact GivesSP.mk HR2.out HBE.out
            · have HR2 := Lib.hid (HRES.out.trans (finP_ok hbig))
              go_wp2_with fail
              refine HLN.out.mono ?_
              rintro e w8 ⟨rfl, rfl⟩
              go_wp2_with fail
              refine HSR.out.mono ?_
              rintro e w9 ⟨rfl, hb9⟩
              have HB9 := Lib.hid (HBE.out.trans (hb9.mono hwB))
              clear hb9
              go_wp2
              go_ret2
              exact GivesSP.mk HR2.out HB9.out
end Go.Proofs.YtfninfgohiipjaaGreatDoor
