/- Reference of chapter 10: found, inside, freeFor. -/
import Derived.Test.YtfninfgohiipjaaGreatDoorLdD
namespace Go.Proofs.YtfninfgohiipjaaGreatDoor
open Go.RowKit Dw

def fdP (T : List Th) (M : List Mv) (id : Int) : Int × Bool := match findN T M (M.length + 1) id with
  | none => (0, false)
  | some n => (n, true)
theorem fdP_none {T : List Th} {M : List Mv} {id : Int} (h : findN T M (M.length + 1) id = none) : fdP T M id = (0, false) := by unfold fdP; rw [h]
theorem fdP_some {T : List Th} {M : List Mv} {id n : Int} (h : findN T M (M.length + 1) id = some n) : fdP T M id = (n, true) := by unfold fdP; rw [h]
def GivesFd (p : Int × Bool) (w : World) (e : Ending) (w' : World) : Prop := e = .returned (.tuple #[.int .i64 p.1, .bool p.2]) ∧ Below w.heap.size w w'
theorem GivesFd.mk {p : Int × Bool} {a : Int} {b : Bool} {w w' : World} (h : p = (a, b)) (hb : Below w.heap.size w w') : GivesFd p w (.returned (.tuple #[.int .i64 a, .bool b])) w' := by
  subst h; exact ⟨rfl, hb⟩
theorem insO_find {T : List Th} {M : List Mv} {id : Int} : insO T M id = none ↔ findN T M (M.length + 1) id = none := by
  constructor
  · intro h
    cases hf : findN T M (M.length + 1) id with
    | none => rfl
    | some n =>
      obtain ⟨t, ht⟩ := findN_there hf
      rw [insO_some hf ht] at h; cases h
  · exact insO_none

set_option maxHeartbeats 400000 in
theorem foundR_c (A1 : Option Addr) (c1 : Nat) (T : List Th) (A2 : Option Addr) (c2 : Nat) (M : List Mv) (id : Int) (w : World) (hc : CatOk w A1 T A2 M) (hG : GOK w) (hcap : T.length ≤ c1) (hck : chkC twoB T M = 0) :
    Calls Tryz.prog 45 #[catV A1 c1 T A2 c2 M, .int .i64 id] w (GivesFd (fdP T M id) w) := by
  have HCK := Lib.hid hck
  clear hck
  have HCB := Lib.hid (CB.new w (.slice A1 T.length c1) (.slice A2 M.length c2))
  go_enter Tryz.func45, Tryz.ntmps45
  go_wp2_with fail
  refine (FindR_c A1 c1 T A2 c2 M id _ (hc.below HCB.out.bel) (hG.below HCB.out.bel) hcap).mono ?_
  rintro e w2 ⟨rfl, hb2⟩
  have HC2 := Lib.hid (HCB.out.below hb2)
  clear hb2
  cases hfd : findN T M (M.length + 1) id with
  | none =>
    have HX := Lib.hid (fdP_none hfd)
    rw [fndF_none HCK.out hfd]
    clear hfd
    go_wp2
    go_ret2
    exact GivesFd.mk HX.out HC2.out.bel
  | some n =>
    have HX := Lib.hid (fdP_some hfd)
    rw [fndF_some HCK.out hfd]
    clear hfd
    go_wp2
    go_ret2
    exact GivesFd.mk HX.out HC2.out.bel

theorem GivesIs.mk {l l' : List Int} {w w' : World} {A : Option Addr} {c : Nat} (h : l' = l) (hi : Ints w' A l) (hb : Below w.heap.size w w') : GivesIs l' w (.returned (.slice A l.length c)) w' := by
  subst h; exact ⟨A, c, rfl, hi, hb⟩
set_option maxHeartbeats 400000 in
theorem inside_c (A1 : Option Addr) (c1 : Nat) (T : List Th) (A2 : Option Addr) (c2 : Nat) (M : List Mv) (id : Int) (w : World) (hc : CatOk w A1 T A2 M) (hG : GOK w) (hcap : T.length ≤ c1) (hck : chkC twoB T M = 0) :
    Calls Tryz.prog 47 #[catV A1 c1 T A2 c2 M, .int .i64 id] w (GivesIs (insL T M id) w) := by
  have HCK := Lib.hid hck
  clear hck
  have HCB := Lib.hid (CB.new w (.slice A1 T.length c1) (.slice A2 M.length c2))
  go_enter Tryz.func47, Tryz.ntmps47
  go_wp2_with fail
  refine (foundR_c A1 c1 T A2 c2 M id _ (hc.below HCB.out.bel) (hG.below HCB.out.bel) hcap HCK.out).mono ?_
  rintro e w2 ⟨rfl, hb2⟩
  have HC2 := Lib.hid (HCB.out.below hb2)
  clear hb2
  have hw2 := HC2.out.lt
  have d0 := HC2.out.c0
  have d1 := HC2.out.c1
  cases hfd : findN T M (M.length + 1) id with
  | none =>
    have HX : Hid (insL T M id = []) := by show insL T M id = []; unfold insL; rw [insO_none hfd]; rfl
    rw [fdP_none hfd]
    clear hfd
    go_wp2
    go_ret
    exact GivesIs.mk (l := []) HX.out Rd1.nil HC2.out.bel
  | some n =>
    obtain ⟨t, ht⟩ := findN_there hfd
    have HX : Hid (insL T M id = witL T n t) := by show insL T M id = _; unfold insL; rw [insO_some hfd ht]; rfl
    have HW := Lib.hid (witF_some HCK.out ht)
    rw [fdP_some hfd]
    clear hfd ht
    go_wp2_with fail
    refine (WithinR_c A1 c1 T A2 c2 M n _ (hc.below HC2.out.bel) (hG.below HC2.out.bel) hcap).mono ?_
    rw [HW.out]
    rintro e w3 ⟨A, c, rfl, hi3, hb3⟩
    have HI := Lib.hid hi3
    have HB := Lib.hid (HC2.out.below hb3).bel
    clear hi3 hb3
    dsimp only
    generalize witL T n t = l at *
    go_wp2
    go_ret
    exact GivesIs.mk HX.out HI.out HB.out

theorem any_swap (L R : List Int) : L.any (memI R) = R.any (memI L) := by
  have key : ∀ A B : List Int, A.any (memI B) = true → B.any (memI A) = true := fun A B h => by
    obtain ⟨x, hx, hm⟩ := List.any_eq_true.1 h
    unfold memI at hm
    obtain ⟨y, hy, he⟩ := List.any_eq_true.1 hm
    have he' : y = x := by simpa using he
    subst he'
    refine List.any_eq_true.2 ⟨y, hy, ?_⟩
    unfold memI
    exact List.any_eq_true.2 ⟨y, hx, by simp⟩
  rw [Bool.eq_iff_iff]
  exact ⟨key L R, key R L⟩
def dayI (R al : List Int) (d t : Int) (k : Nat) : Int := if (al.take k).any (memI R) = true then max d t else d
theorem dayI_yes {R al : List Int} {d t : Int} {k : Nat} (hk : k < al.length) (h : memI R al[k] = true) : dayI R al d t (k + 1) = max (dayI R al d t k) t := by
  unfold dayI
  rw [List.take_succ_eq_append_getElem hk, List.any_append]
  have h1 : ([al[k]] : List Int).any (memI R) = true := by simp [h]
  rw [h1, Bool.or_true, if_pos rfl]
  split <;> omega
theorem dayI_no {R al : List Int} {d t : Int} {k : Nat} (hk : k < al.length) (h : memI R al[k] = false) : dayI R al d t (k + 1) = dayI R al d t k := by
  unfold dayI
  rw [List.take_succ_eq_append_getElem hk, List.any_append]
  have h1 : ([al[k]] : List Int).any (memI R) = false := by simp [h]
  rw [h1, Bool.or_false]
def FfRel (w : World) (v1 v2 : Value) (T : List Th) (M : List Mv) (l : List Em) (p : ByteArray) (R : List Int) (m : Nat) (d i : Value) (wr : World) : Prop :=
  ∃ k : Nat, k + m = l.length ∧ i = .int .i64 k ∧ d = .int .i64 (freeD T M l p R k) ∧ CB w wr w.heap.size v1 v2
def FiRel (w0 : World) (R al : List Int) (dk t : Int) (m : Nat) (d i : Value) (wr : World) : Prop :=
  wr = w0 ∧ ∃ k : Nat, k + m = al.length ∧ i = .int .i64 k ∧ d = .int .i64 (dayI R al dk t k)

set_option maxRecDepth 100000 in
set_option maxHeartbeats 1000000 in
theorem freeFor_c (A1 : Option Addr) (c1 : Nat) (T : List Th) (A2 : Option Addr) (c2 : Nat) (M : List Mv) (A : Option Addr) (c : Nat) (l : List Em) (p : ByteArray) (Ar : Option Addr) (cr : Nat) (R : List Int) (w : World) (hc : CatOk w A1 T A2 M) (hG : GOK w) (he : EmsOk w A l) (hcap : T.length ≤ c1)
    (hck : chkC twoB T M = 0) (hbl : l.length ≤ 100) (hbt : ∀ x ∈ l, x.but.length ≤ 20) (hR : Ints w Ar R) (hRn : R.length ≤ 1000000) :
    Calls Tryz.prog 46 #[catV A1 c1 T A2 c2 M, .slice A l.length c, .string p, .slice Ar R.length cr] w (GivesB (.int .i64 (freeD T M l p R l.length)) w) := by
  have HEM := Lib.hid he
  have HCK := Lib.hid hck
  have HBT := Lib.hid hbt
  have HR := Lib.hid hR
  clear he hck hbt hR
  go_enter Tryz.func46, Tryz.ntmps46
  go_wp2
  go_loopg [9, 16] l.length (FfRel w (.slice A1 T.length c1) (.slice A2 M.length c2) T M l p R)
  case atStart => exact ⟨0, by omega, rfl, by simp [freeD], CB.new _ _ _⟩
  case round =>
    obtain ⟨k, hk, rfl, rfl, hcb⟩ := hrel
    have HK := Lib.hid hk
    have HCB := Lib.hid hcb
    have hk1 : k ≤ l.length := by omega
    clear hk hcb
    by_cases hlt : k < l.length
    · have heb := HEM.out.below HCB.out.bel
      obtain ⟨b, o, rfl, hb, hcc⟩ := heb.ems.at_ (by omega)
      obtain ⟨q0, q1, q2⟩ := hcc k hlt
      have hbw : Below wr.heap.size wr (wr.alloc (.cells #[.int .i64 (l[k]).id, .int .i64 (l[k]).til, .slice (l[k]).bA (l[k]).but.length (l[k]).bc] 96)) := (Below.refl _ _).alloc (Nat.le_refl _) _
      have HC2 := Lib.hid (HCB.out.below hbw)
      have HBX : Hid (BoxE (wr.alloc (.cells #[.int .i64 (l[k]).id, .int .i64 (l[k]).til, .slice (l[k]).bA (l[k]).but.length (l[k]).bc] 96)) wr.heap.size l[k]) := heap_alloc_new _ _
      have HS := Lib.hid ((HEM.out.strs _ (List.getElem_mem hlt)).below HC2.out.bel)
      have HSTP : Hid (freeD T M l p R (k + 1) = if memS (l[k]).but p = false ∧ (insL T M (l[k]).id).any (memI R) = true then max (freeD T M l p R k) (l[k]).til else freeD T M l p R k) := by
        show freeD T M l p R (k + 1) = _
        rw [freeD_snoc hlt, any_swap]
        rfl
      have hn20 := HBT.out _ (List.getElem_mem hlt)
      clear hcc heb hbw
      generalize freeD T M l p R k = dk at *
      go_wp2_with fail
      refine (containsS_c _ _ _ p _ (by omega) HS.out).mono ?_
      rintro e w4 ⟨rfl, hw4⟩
      have hC4 := HC2.out
      have hX4 := HBX.out
      rw [hw4] at hC4 hX4
      have HC4 := Lib.hid hC4
      have HX4 := Lib.hid hX4
      clear hC4 hX4 hw4 HC2 HBX q0 q1 q2 HCB hb HS
      generalize hpp : wr.heap.size = p2 at *
      clear hpp
      cases hm : memS (l[k]).but p with
      | true =>
        have HN : Hid (freeD T M l p R (k + 1) = dk) := by
          show freeD T M l p R (k + 1) = dk
          rw [HSTP.out, if_neg (by rw [hm]; simp)]
        clear hm HSTP
        go_wp2
        go_roundg (gk - 1)
        case measure => have := HK.out; omega
        case rel => exact ⟨k + 1, by have := HK.out; omega, by go_num, by rw [HN.out], HC4.out⟩
      | false =>
        have HSTP2 : Hid (freeD T M l p R (k + 1) = dayI R (insL T M (l[k]).id) dk (l[k]).til (insL T M (l[k]).id).length) := by
          show freeD T M l p R (k + 1) = _
          rw [HSTP.out]
          unfold dayI
          simp only [hm, true_and, List.take_length]
        clear hm HSTP
        obtain ⟨x0, x1, x2⟩ := HX4.out.cells
        have hp2 := HX4.out.lt
        have hw4 := HC4.out.lt
        have d0 := HC4.out.c0
        have d1 := HC4.out.c1
        go_wp2_with fail
        refine (inside_c A1 c1 T A2 c2 M (l[k]).id _ (hc.below HC4.out.bel) (hG.below HC4.out.bel) hcap HCK.out).mono ?_
        rintro e w5 ⟨Ai, ci, rfl, hi5, hb5⟩
        have HC5 := Lib.hid (HC4.out.below hb5)
        have HX5 := Lib.hid (HX4.out.below hb5)
        have HI5 := Lib.hid hi5
        have HR5 := Lib.hid (HR.out.below (HC4.out.below hb5).bel)
        have HLE := Lib.hid (insL_len (M := M) (id := (l[k]).id) HCK.out)
        clear hb5 hi5 x0 x1 x2 hp2 hw4 d0 d1 HC4 HX4
        generalize insL T M (l[k]).id = al at *
        have hln := HLE.out
        obtain ⟨g1, hg1⟩ : ∃ g1, g1 = gk := ⟨_, rfl⟩
        subst hg1
        go_wp2
        go_loopg [9, 29] al.length (FiRel w5 R al dk (l[k]).til)
        case atStart => exact ⟨rfl, 0, by omega, rfl, by simp [dayI]⟩
        case round =>
          obtain ⟨hwr, k2, hk2, rfl, rfl⟩ := hrel
          subst hwr
          have HK2 := Lib.hid hk2
          have hk21 : k2 ≤ al.length := by omega
          clear hk2
          by_cases hlt2 : k2 < al.length
          · obtain ⟨b2, o2, rfl, hb2, hc2⟩ := HI5.out.at_ (by omega)
            have q := hc2 k2 hlt2
            clear hc2
            go_wp2_with fail
            refine (containsI_c _ _ R _ _ hRn HR5.out).mono ?_
            rintro e w6 ⟨rfl, rfl⟩
            obtain ⟨x0, x1, x2⟩ := HX5.out.cells
            have hp2 := HX5.out.lt
            cases ha : memI R al[k2] with
            | true =>
              have HN := Lib.hid (dayI_yes (d := dk) (t := (l[k]).til) hlt2 ha)
              clear ha
              generalize dayI R al dk (l[k]).til k2 = dd at *
              go_wp2
              go_roundg (gk - 1)
              case measure => have := HK2.out; omega
              case rel => exact ⟨rfl, k2 + 1, by have := HK2.out; omega, by go_num, by rw [HN.out]⟩
            | false =>
              have HN := Lib.hid (dayI_no (d := dk) (t := (l[k]).til) hlt2 ha)
              clear ha
              generalize dayI R al dk (l[k]).til k2 = dd at *
              go_wp2
              go_roundg (gk - 1)
              case measure => have := HK2.out; omega
              case rel => exact ⟨rfl, k2 + 1, by have := HK2.out; omega, by go_num, by rw [HN.out]⟩
          · obtain rfl : k2 = al.length := by omega
            rw [← HSTP2.out]
            go_wp2
            go_roundg (g1 - 1)
            case measure => have := HK.out; omega
            case rel => exact ⟨k + 1, by have := HK.out; omega, by go_num, rfl, HC5.out⟩
    · obtain rfl : k = l.length := by omega
      go_wp2
      go_ret
      exact GivesB.mk rfl HCB.out.bel
end Go.Proofs.YtfninfgohiipjaaGreatDoor
