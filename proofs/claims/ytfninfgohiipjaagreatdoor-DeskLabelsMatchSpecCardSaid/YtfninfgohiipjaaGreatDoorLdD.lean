/- Package desk: CheckEmbargoes, free, Free. -/
import Derived.Test.YtfninfgohiipjaaGreatDoorLdC
namespace Go.Proofs.YtfninfgohiipjaaGreatDoor
open Go.RowKit Dw

theorem grown_below {a b c : World} {row : Option Nat} (h : a.grownBy b row) (k : Below b.heap.size b c) : a.grownBy c row :=
  ⟨k.os.trans h.os, k.tape.trans h.tape, k.output.trans h.output, Nat.le_trans h.size k.size, fun i hi hne => (k.block i (Nat.lt_of_lt_of_le hi h.size)).trans (h.block i hi hne)⟩
theorem grown_grown {a b c : World} {row : Option Nat} (h : a.grownBy b row) (k : b.grownBy c row) : a.grownBy c row :=
  ⟨k.os.trans h.os, k.tape.trans h.tape, k.output.trans h.output, Nat.le_trans h.size k.size, fun i hi hne => (k.block i (Nat.lt_of_lt_of_le hi h.size) hne).trans (h.block i hi hne)⟩

theorem onceF_all_le (l : List Int) : (onceF l).length ≤ l.length := by
  have := onceF_le l l.length (Nat.le_refl _)
  rwa [List.take_length] at this
theorem insO_len {T : List Th} {M : List Mv} {id : Int} {l : List Int} (h : chkC twoB T M = 0) (hi : insO T M id = some l) : l.length ≤ 300 := by
  obtain ⟨l1, l2⟩ := chkC_len h
  obtain ⟨_, _, hth, _⟩ := chkC_ok h
  unfold insO at hi
  cases hf : findN T M (M.length + 1) id with
  | none => rw [hf] at hi; cases hi
  | some n =>
    rw [hf] at hi
    obtain ⟨t, ht⟩ := findN_there hf
    simp [ht] at hi
    rw [← hi]
    unfold witL
    split
    · simp
    split
    · have := recsOf_le T n T.length
      omega
    · have h1 := onceF_all_le (ptsOf T t)
      have h2 : (ptsOf T t).length ≤ 50 := by
        unfold ptsOf
        split
        · cases hp : thAt T t.parent with
          | none => simp
          | some q => exact thF_parts (hth q (List.mem_of_find?_eq_some hp))
        · exact thF_parts (hth t (List.mem_of_find?_eq_some ht))
      omega
theorem atP_insL (T : List Th) (M : List Mv) (id : Int) : (atP T M id).1 = insL T M id := by
  unfold atP insL
  cases insO T M id <;> rfl
theorem insL_len {T : List Th} {M : List Mv} {id : Int} (h : chkC twoB T M = 0) : (insL T M id).length ≤ 300 := by
  unfold insL
  cases hi : insO T M id with
  | none => simp
  | some l => exact insO_len h hi

set_option maxHeartbeats 400000 in
theorem CheckEmbargoes_c (A1 : Option Addr) (c1 : Nat) (T : List Th) (A2 : Option Addr) (c2 : Nat) (M : List Mv) (A : Option Addr) (c : Nat) (l : List Em) (w : World) (hc : CatOk w A1 T A2 M) (hG : GOK w) (he : EmsOk w A l) :
    Calls Tryz.prog 14 #[catV A1 c1 T A2 c2 M, .slice A l.length c] w (GivesB (.int .i64 (chkE T M l)) w) := by
  go_enter Tryz.func14, Tryz.ntmps14
  go_wp2_with fail
  refine (newWithins_c w A1 c1 T A2 c2 M _ ((Below.refl _ _).alloc (Nat.le_refl _) _)).mono ?_
  rintro e w1 ⟨g, r, rfl, hs, _⟩
  have HS := Lib.hid hs
  clear hs
  go_wp2_with fail
  refine (checkEm_c w g r A1 c1 T A2 c2 M A c l w1 hc hG he HS.out).mono ?_
  rintro e w2 ⟨rfl, hs2⟩
  have HB := Lib.hid hs2.bel
  clear hs2
  go_wp2
  go_ret
  exact GivesB.mk rfl HB.out

def GivesFr (w0 w : World) (g r : Nat) (v1 v2 : Value) (T : List Th) (M : List Mv) (K : Int → Prop) (l : List Em) (p : ByteArray) (R : List Int) (e : Ending) (w' : World) : Prop :=
  e = .returned (.int .i64 (freeD T M l p R l.length)) ∧ WSt w0 w' g r v1 v2 T M K ∧ w.grownBy w' (some r) ∧ ((∀ x ∈ l, K x.id) → Below w.heap.size w w')
def FrRel (w0 w : World) (g r : Nat) (v1 v2 : Value) (T : List Th) (M : List Mv) (K : Int → Prop) (l : List Em) (p : ByteArray) (R : List Int) (Ar : Option Addr) (m : Nat) (d i : Value) (wr : World) : Prop :=
  ∃ k : Nat, k + m = l.length ∧ i = .int .i64 k ∧ d = .int .i64 (freeD T M l p R k) ∧ WSt w0 wr g r v1 v2 T M K ∧ Ints wr Ar R ∧ w.grownBy wr (some r) ∧ ((∀ x ∈ l, K x.id) → Below w.heap.size w wr)

set_option maxRecDepth 100000 in
set_option maxHeartbeats 1000000 in
theorem free_c (w0 : World) (g r : Nat) (A1 : Option Addr) (c1 : Nat) (T : List Th) (A2 : Option Addr) (c2 : Nat) (M : List Mv) (K : Int → Prop) (A : Option Addr) (c : Nat) (l : List Em) (p : ByteArray) (Ar : Option Addr) (cr : Nat) (R : List Int) (w : World) (hc : CatOk w0 A1 T A2 M) (hG : GOK w0) (he : EmsOk w0 A l)
    (hck : chkC twoB T M = 0) (hbl : l.length ≤ 100) (hbt : ∀ x ∈ l, x.but.length ≤ 20) (hR : Ints w Ar R) (hRn : R.length ≤ 1000000)
    (hst : WSt w0 w g r (.slice A1 T.length c1) (.slice A2 M.length c2) T M K) :
    Calls Tryz.prog 43 #[.pointer (some ⟨g, 0, none⟩), .slice A l.length c, .string p, .slice Ar R.length cr] w (GivesFr w0 w g r (.slice A1 T.length c1) (.slice A2 M.length c2) T M K l p R) := by
  have HST := Lib.hid hst
  have HEM := Lib.hid he
  have HCK := Lib.hid hck
  have HBT := Lib.hid hbt
  have HR := Lib.hid hR
  clear hst he hck hbt hR
  go_enter Tryz.func43, Tryz.ntmps43
  go_wp2
  go_loopg [9, 16] l.length (FrRel w0 w g r (.slice A1 T.length c1) (.slice A2 M.length c2) T M K l p R Ar)
  case atStart => exact ⟨0, by omega, rfl, by simp [freeD], HST.out, HR.out, grownBy_of_below (Below.refl _ _) _, fun _ => Below.refl _ _⟩
  clear HST HR
  case round =>
    obtain ⟨k, hk, rfl, rfl, hst, hR, hgr, hbe⟩ := hrel
    have HK := Lib.hid hk
    have HST := Lib.hid hst
    have HR := Lib.hid hR
    have HGR := Lib.hid hgr
    have HBE := Lib.hid hbe
    have hg0 := hst.lt
    have hk1 : k ≤ l.length := by omega
    clear hk hst hR hgr hbe
    by_cases hlt : k < l.length
    · have heb := HEM.out.below HST.out.bel
      obtain ⟨b, o, rfl, hb, hcc⟩ := heb.ems.at_ (by omega)
      obtain ⟨q0, q1, q2⟩ := hcc k hlt
      have hbw : Below wr.heap.size wr (wr.alloc (.cells #[.int .i64 (l[k]).id, .int .i64 (l[k]).til, .slice (l[k]).bA (l[k]).but.length (l[k]).bc] 96)) := (Below.refl _ _).alloc (Nat.le_refl _) _
      have HBW := Lib.hid hbw
      have HSA := Lib.hid (HST.out.below hbw)
      have HRA := Lib.hid (HR.out.below hbw)
      have HBX : Hid (BoxE (wr.alloc (.cells #[.int .i64 (l[k]).id, .int .i64 (l[k]).til, .slice (l[k]).bA (l[k]).but.length (l[k]).bc] 96)) wr.heap.size l[k]) := heap_alloc_new _ _
      clear hcc heb hbw
      go_wp2_with fail
      refine (at_c w0 g r A1 c1 T A2 c2 M _ (l[k]).id _ hc hG HCK.out HSA.out).mono ?_
      rintro e w2 ⟨A', c', rfl, hi2, hs2, hg2, hk2⟩
      have hBX2 : BoxE w2 wr.heap.size l[k] := (hg2.block _ HBX.out.lt (fun e => by
        injection e with e
        obtain ⟨f, hf, _⟩ := HSA.out.cache
        exact map_cells hf.map (boxC HBX.out (i := 0) rfl) e)).trans HBX.out
      have hR2 : Ints w2 Ar R := by
        obtain ⟨f, hf, _⟩ := HSA.out.cache
        exact Ints.map HRA.out hf.map hg2
      have hbw3 : Below w2.heap.size w2 (w2.alloc (.cells #[.slice A' (atP T M (l[k]).id).1.length c'] 52)) := (Below.refl _ _).alloc (Nat.le_refl _) _
      have HG3 := Lib.hid (grown_below (grown_grown (grown_below HGR.out HBW.out) hg2) hbw3)
      have HB3 : Hid ((∀ x ∈ l, K x.id) → Below w.heap.size w (w2.alloc (.cells #[.slice A' (atP T M (l[k]).id).1.length c'] 52))) := by
        show (∀ x ∈ l, K x.id) → _
        intro hall
        have e2 := hk2 (hall _ (List.getElem_mem hlt))
        subst e2
        exact below_trans (below_trans (HBE.out hall) HBW.out) hbw3
      have HS3 := Lib.hid ((hs2.weak (K' := K) (fun i hi => .inl hi)).below hbw3)
      have HX3 := Lib.hid (hBX2.below hbw3)
      have HR3 := Lib.hid (hR2.below hbw3)
      have HI3 := Lib.hid (hi2.below hbw3)
      have hcell3 : (w2.alloc (.cells #[.slice A' (atP T M (l[k]).id).1.length c'] 52)).cell? ⟨w2.heap.size, 0, none⟩ = some (.slice A' (atP T M (l[k]).id).1.length c') := boxC (heap_alloc_new _ _) rfl
      have HC3 := Lib.hid hcell3
      have HLE : Hid ((atP T M (l[k]).id).1.length ≤ 1000000) := by
        show _ ≤ _
        rw [atP_insL]
        have := insL_len (M := M) (id := (l[k]).id) HCK.out
        omega
      have HSTP : Hid (freeD T M l p R (k + 1) = if memS (l[k]).but p = false ∧ R.any (memI (atP T M (l[k]).id).1) = true then max (freeD T M l p R k) (l[k]).til else freeD T M l p R k) := by
        show freeD T M l p R (k + 1) = _
        rw [freeD_snoc hlt, atP_insL]
        rfl
      have HS := Lib.hid ((HEM.out.strs _ (List.getElem_mem hlt)).below HS3.out.bel)
      obtain ⟨x0, x1, x2⟩ := hBX2.cells
      have hp2 := hBX2.lt
      clear hi2 hs2 hg2 hk2 hBX2 hR2 hbw3 hcell3 HBW HSA HRA HBX HGR HBE HST HR q0 q1 q2 hg0
      generalize (atP T M (l[k]).id).1 = al at *
      generalize (atP T M (l[k]).id).2 = af at *
      generalize freeD T M l p R k = dk at *
      generalize hpp : wr.heap.size = p2 at *
      clear hpp
      have hn20 := HBT.out _ (List.getElem_mem hlt)
      go_wp2_with fail
      refine (containsS_c _ _ _ p _ (by omega) HS.out).mono ?_
      rintro e w4 ⟨rfl, rfl⟩
      have y0 := HX3.out.cells.2.1
      have hp3 := HX3.out.lt
      cases hm : memS (l[k]).but p with
      | true =>
        have HN : Hid (freeD T M l p R (k + 1) = dk) := by
          show freeD T M l p R (k + 1) = dk
          rw [HSTP.out, if_neg (by rw [hm]; simp)]
        clear hm HSTP
        go_wp2
        go_roundg (gk - 1)
        case measure => have := HK.out; omega
        case rel => exact ⟨k + 1, by have := HK.out; omega, by go_num, by rw [HN.out], HS3.out, HR3.out, HG3.out, HB3.out⟩
      | false =>
        have HSTP2 : Hid (freeD T M l p R (k + 1) = if R.any (memI al) = true then max dk (l[k]).til else dk) := by
          show freeD T M l p R (k + 1) = _
          rw [HSTP.out]
          simp only [hm, true_and]
        clear hm HSTP
        go_wp2_with fail
        refine (containsFunc_c _ _ _ _ w2.heap.size R al _ HR3.out HI3.out HC3.out hRn HLE.out).mono ?_
        rintro e w4 ⟨rfl, rfl⟩
        cases ha : R.any (memI al) with
        | false =>
          have HN : Hid (freeD T M l p R (k + 1) = dk) := by
            show freeD T M l p R (k + 1) = dk
            rw [HSTP2.out, if_neg (by rw [ha]; simp)]
          clear ha HSTP2
          go_wp2
          go_roundg (gk - 1)
          case measure => have := HK.out; omega
          case rel => exact ⟨k + 1, by have := HK.out; omega, by go_num, by rw [HN.out], HS3.out, HR3.out, HG3.out, HB3.out⟩
        | true =>
          have HN : Hid (freeD T M l p R (k + 1) = max dk (l[k]).til) := by
            show freeD T M l p R (k + 1) = _
            rw [HSTP2.out, if_pos ha]
          clear ha HSTP2
          go_wp2
          go_roundg (gk - 1)
          case measure => have := HK.out; omega
          case rel => exact ⟨k + 1, by have := HK.out; omega, by go_num, by rw [HN.out], HS3.out, HR3.out, HG3.out, HB3.out⟩
    · obtain rfl : k = l.length := by omega
      go_wp2
      go_ret
      exact ⟨rfl, HST.out, HGR.out, HBE.out⟩

theorem freeF_bad {T : List Th} {M : List Mv} {l : List Em} {p : ByteArray} {id : Int} (h : chkE T M l ≠ 0) : freeF T M l p id = (0, chkE T M l) := by unfold freeF; rw [if_pos h]
theorem freeF_name {T : List Th} {M : List Mv} {l : List Em} {p : ByteArray} {id : Int} (h : chkE T M l = 0) (hn : isNm p = false) : freeF T M l p id = (0, 5) := by unfold freeF; rw [if_neg (by rw [h]; simp), if_pos hn]
theorem freeF_none {T : List Th} {M : List Mv} {l : List Em} {p : ByteArray} {id : Int} (h : chkE T M l = 0) (hn : isNm p = true) (hi : insO T M id = none) : freeF T M l p id = (0, 9) := by unfold freeF; rw [if_neg (by rw [h]; simp), if_neg (by rw [hn]; simp), hi]
theorem freeF_some {T : List Th} {M : List Mv} {l : List Em} {p : ByteArray} {id : Int} {R : List Int} (h : chkE T M l = 0) (hn : isNm p = true) (hi : insO T M id = some R) : freeF T M l p id = (freeD T M l p R l.length, 0) := by unfold freeF; rw [if_neg (by rw [h]; simp), if_neg (by rw [hn]; simp), hi]

set_option maxHeartbeats 1000000 in
theorem Free_c (A1 : Option Addr) (c1 : Nat) (T : List Th) (A2 : Option Addr) (c2 : Nat) (M : List Mv) (A : Option Addr) (c : Nat) (l : List Em) (p : ByteArray) (id : Int) (w : World) (hc : CatOk w A1 T A2 M) (hG : GOK w) (he : EmsOk w A l) (hp : p.size ≤ 9223372036854775807) :
    Calls Tryz.prog 12 #[catV A1 c1 T A2 c2 M, .slice A l.length c, .string p, .int .i64 id] w (GivesP (freeF T M l p id) w) := by
  go_enter Tryz.func12, Tryz.ntmps12
  go_wp2_with fail
  refine (newWithins_c w A1 c1 T A2 c2 M _ ((Below.refl _ _).alloc (Nat.le_refl _) _)).mono ?_
  rintro e w1 ⟨g, r, rfl, hs, _⟩
  have HS := Lib.hid hs
  clear hs
  go_wp2_with fail
  refine (checkEm_c w g r A1 c1 T A2 c2 M A c l w1 hc hG he HS.out).mono ?_
  rintro e w2 ⟨rfl, hs2⟩
  have HS2 := Lib.hid hs2
  clear hs2
  by_cases hck : chkE T M l = 0
  case neg =>
    have hckb : (chkE T M l != 0) = true := by simpa using hck
    have HX := Lib.hid (freeF_bad (p := p) (id := id) hck)
    clear hck
    generalize chkE T M l = z at *
    go_wp2
    go_ret2
    exact GivesP.mk HX.out HS2.out.bel
  have HCK := Lib.hid hck
  rw [hck]
  clear hck
  go_wp2_with fail
  refine (soundIsName_c p _ hp).mono ?_
  rintro e w3 ⟨rfl, hb3⟩
  have HS3 := Lib.hid (HS2.out.below hb3)
  clear hb3
  cases hnm : isNm p with
  | false =>
    have HX := Lib.hid (freeF_name (id := id) HCK.out hnm)
    clear hnm
    go_wp2
    go_ret2
    exact GivesP.mk HX.out HS3.out.bel
  | true =>
    have HNM := Lib.hid hnm
    clear hnm
    go_wp2_with fail
    refine (at_c w g r A1 c1 T A2 c2 M _ id _ hc hG (chkE_ok HCK.out).1 HS3.out).mono ?_
    rintro e w4 ⟨A', c', rfl, hi4, hs4, _, _⟩
    have HS4 := Lib.hid hs4
    have HI4 := Lib.hid hi4
    clear hs4 hi4
    cases hin : insO T M id with
    | none =>
      have HX := Lib.hid (freeF_none HCK.out HNM.out hin)
      rw [atP_none hin]
      clear hin
      go_wp2
      go_ret2
      exact GivesP.mk HX.out HS4.out.bel
    | some R =>
      have HX := Lib.hid (freeF_some HCK.out HNM.out hin)
      have hR : Ints w4 A' R := by have := HI4.out; rw [atP_some hin] at this; exact this
      have HR := Lib.hid hR
      have HRN := Lib.hid (insO_len (chkE_ok HCK.out).1 hin)
      rw [atP_some hin]
      clear hin hR HI4
      dsimp only
      go_wp2_with fail
      refine (free_c w g r A1 c1 T A2 c2 M _ A c l p A' c' R w4 hc hG he (chkE_ok HCK.out).1 (chkE_ok HCK.out).2.1 (fun x hx => ?_) HR.out (Nat.le_trans HRN.out (by decide)) HS4.out).mono ?_
      · obtain ⟨j, hj, rfl⟩ := List.getElem_of_mem hx
        exact (emF_ok hj ((chkE_ok HCK.out).2.2 j hj)).2.2.2.1
      rintro e w5 ⟨rfl, hs5, _, _⟩
      have HS5 := Lib.hid hs5
      clear hs5
      go_wp2
      go_ret2
      exact GivesP.mk HX.out HS5.out.bel
end Go.Proofs.YtfninfgohiipjaaGreatDoor
