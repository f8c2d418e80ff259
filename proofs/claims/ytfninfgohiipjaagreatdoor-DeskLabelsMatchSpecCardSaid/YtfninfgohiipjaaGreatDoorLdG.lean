/- Package desk: thingsOf; the law's own test of one simple thing. -/
import Derived.Test.YtfninfgohiipjaaGreatDoorLdF
import Derived.Lib.QuietBelow
namespace Go.Proofs.YtfninfgohiipjaaGreatDoor
open Go.RowKit Dw

theorem tThs : Tryz.prog.underlying 50 = some (.map 3 54) := Tryz.underlying50
set_option maxHeartbeats 1000000 in
theorem thingsOf_c (A1 : Option Addr) (c1 : Nat) (T : List Th) (A2 : Option Addr) (c2 : Nat) (M : List Mv) (w : World) (hc : CatOk w A1 T A2 M) (hi : IncT T) (hn : T.length ≤ 300) :
    Calls Tryz.prog 22 #[catV A1 c1 T A2 c2 M] w (GivesI T w) := by
  have hmm := @run_makeMap Tryz.prog
  go_enter Tryz.func22, Tryz.ntmps22
  go_wp2
  clear hmm
  go_loopg [10] T.length (IxRel w T (w.heap.size + 1))
  case atStart =>
    refine ⟨0, by omega, rfl, ⟨?_, ?_⟩, ((Below.refl _ _).alloc (Nat.le_refl _) _).alloc (by simp) _⟩
    · have := MapIs.new kI (w.alloc (.cells #[.slice A1 T.length c1, .slice A2 M.length c2] 25))
      rw [show (w.alloc (.cells #[.slice A1 T.length c1, .slice A2 M.length c2] 25)).heap.size = w.heap.size + 1 by simp] at this
      exact this
    · have := MapSz.new (w.alloc (.cells #[.slice A1 T.length c1, .slice A2 M.length c2] 25))
      simpa using this
  case round =>
    obtain ⟨k, hk, rfl, hix, hbel⟩ := hrel
    have HK := Lib.hid hk
    have hk1 : k ≤ T.length := by omega
    have hwr : w.heap.size + 1 < wr.heap.size := hix.lt
    clear hk
    by_cases hlt : k < T.length
    · obtain ⟨b, o, rfl, hb, hcc⟩ := hc.ths.at_ (by omega)
      obtain ⟨p0, p1, p2, p3, p4, p5, p6⟩ := hcc k hlt
      have hbr : b < wr.heap.size := by omega
      have q0 := (hbel.cell (p := ⟨b, o + k * 7, none⟩) hb).trans p0
      have q1 := (hbel.cell (p := ⟨b, o + k * 7 + 1, none⟩) hb).trans p1
      have q2 := (hbel.cell (p := ⟨b, o + k * 7 + 2, none⟩) hb).trans p2
      have q3 := (hbel.cell (p := ⟨b, o + k * 7 + 3, none⟩) hb).trans p3
      have q4 := (hbel.cell (p := ⟨b, o + k * 7 + 4, none⟩) hb).trans p4
      have q5 := (hbel.cell (p := ⟨b, o + k * 7 + 5, none⟩) hb).trans p5
      have q6 := (hbel.cell (p := ⟨b, o + k * 7 + 6, none⟩) hb).trans p6
      have hstep := fun id => IncT.step hi hlt thV id
      have hfr : (fun id => (thAt (T.take k) id).map thV) (T[k]).id = none := by
        show (thAt (T.take k) (T[k]).id).map thV = none
        rw [hi.fresh hlt]; rfl
      have hix2 := hix.alloc (.cells #[.int .i64 (T[k]).id, .int .i64 (T[k]).kind, .string (T[k]).title, .string (T[k]).code, .int .i64 (T[k]).since, .int .i64 (T[k]).parent, .slice (T[k]).pA (T[k]).parts.length (T[k]).pc] 54)
      obtain ⟨w3, hrun, hm3, hs3, hg3, hz3⟩ := run_update_new (P := Tryz.prog) tThs kInt hix2.map hix2.size (T[k]).id (thV T[k]) hfr
      have HX3 : Hid (IdxM w3 (w.heap.size + 1) (T.take (k + 1))) := by
        show IdxM w3 (w.heap.size + 1) (T.take (k + 1))
        refine ⟨?_, ?_⟩
        · have e : (fun k' => if k' = (T[k]).id then some (thV T[k]) else (thAt (T.take k) k').map thV) = fun id => (thAt (T.take (k + 1)) id).map thV := funext hstep
          rw [e] at hm3
          exact hm3
        · have e : (T.take (k + 1)).length = (T.take k).length + 1 := by simp; omega
          rw [e]; exact hs3
      have HB3 := Lib.hid (below_mapU (hbel.alloc (by omega) _) hg3 (by omega) (by simp; omega))
      have hrun' : (Instr.mapUpdate 50 (.map (some (w.heap.size + 1))) (.int .i64 (T[k]).id) (thV T[k])).run Tryz.prog (wr.alloc (.cells #[.int .i64 (T[k]).id, .int .i64 (T[k]).kind, .string (T[k]).title, .string (T[k]).code, .int .i64 (T[k]).since, .int .i64 (T[k]).parent, .slice (T[k]).pA (T[k]).parts.length (T[k]).pc] 54)) = .ok () w3 := hrun
      clear hcc p0 p1 p2 p3 p4 p5 p6 hstep hfr hix2 hm3 hs3 hg3 hz3 hix hbel hrun
      go_wp2
      go_roundg (gk - 1)
      case measure => have := HK.out; omega
      case rel => exact ⟨k + 1, by have := HK.out; omega, by go_num, HX3.out, HB3.out⟩
    · have hix' : IdxM wr (w.heap.size + 1) T := by
        rw [List.take_of_length_le (by omega)] at hix; exact hix
      clear hix
      go_wp2
      go_ret
      exact ⟨_, rfl, by omega, hix', hbel⟩


theorem chkC_nil : chkC twoB [] [] = 0 := by
  unfold chkC
  simp [firstF]
set_option maxHeartbeats 400000 in
theorem worksTracks_c (w : World) (hG : GOK w) : Calls Tryz.prog 9 #[.agg #[.slice none 0 0, .slice none 0 0], .slice (some ⟨w.heap.size, 0, none⟩) 1 1] (w.alloc (.cells #[.int .i64 1, .int .i64 0, .slice none 0 0] 60)) (GivesB (.int .i64 9) (w.alloc (.cells #[.int .i64 1, .int .i64 0, .slice none 0 0] 60))) := by
  have hcell0 : (w.alloc (.cells #[.int .i64 1, .int .i64 0, .slice none 0 0] 60)).cell? ⟨w.heap.size, 0, none⟩ = some (.int .i64 1) := boxC (heap_alloc_new _ _) rfl
  have hcell1 : (w.alloc (.cells #[.int .i64 1, .int .i64 0, .slice none 0 0] 60)).cell? ⟨w.heap.size, 1, none⟩ = some (.int .i64 0) := boxC (heap_alloc_new _ _) rfl
  have hcell2 : (w.alloc (.cells #[.int .i64 1, .int .i64 0, .slice none 0 0] 60)).cell? ⟨w.heap.size, 2, none⟩ = some (.slice none 0 0) := boxC (heap_alloc_new _ _) rfl
  have hsz : w.heap.size < (w.alloc (.cells #[.int .i64 1, .int .i64 0, .slice none 0 0] 60)).heap.size := by simp
  have hG1 : GOK (w.alloc (.cells #[.int .i64 1, .int .i64 0, .slice none 0 0] 60)) := hG.below ((Below.refl _ _).alloc (Nat.le_refl _) _)
  generalize hW : w.alloc (.cells #[.int .i64 1, .int .i64 0, .slice none 0 0] 60) = W at *
  generalize w.heap.size = b at *
  clear hW hG
  have hcat : ∀ W' : World, CatOk W' none [] none [] := fun W' => ⟨fun h => absurd h (by simp), fun t ht => by simp at ht, Rd2.nil, fun t ht => by simp at ht⟩
  have HCAT := Lib.hid hcat
  have HCB := Lib.hid (CB.new W (.slice none 0 0) (.slice none 0 0))
  have HC0 := Lib.hid hcell0
  have HC1 := Lib.hid hcell1
  have HC2 := Lib.hid hcell2
  clear hcat hcell0 hcell1 hcell2
  go_enter Tryz.func9, Tryz.ntmps9
  go_wp2_with fail
  refine (Check_c none 0 [] none 0 [] _ (HCAT.out _) (hG1.below HCB.out.bel)).mono ?_
  rintro e w1 ⟨rfl, hb1⟩
  rw [chkC_nil]
  have HC3 := Lib.hid (HCB.out.below hb1)
  clear hb1 HCB
  have hw1 := HC3.out.lt
  have d0 := HC3.out.c0
  have d1 := HC3.out.c1
  go_wp2_with fail
  refine (thingsOf_c none 0 [] none 0 [] _ (HCAT.out _) (fun i h => absurd h (by simp)) (by simp)).mono ?_
  rintro e w2 ⟨r, rfl, hr, hix, hb2⟩
  have HC4 := Lib.hid (HC3.out.below hb2)
  have hbw : b < w2.heap.size := Nat.lt_of_lt_of_le hsz HC4.out.bel.size
  have q0 := (HC4.out.bel.cell (p := ⟨b, 0, none⟩) hsz).trans HC0.out
  have q1 := (HC4.out.bel.cell (p := ⟨b, 1, none⟩) hsz).trans HC1.out
  have q2 := (HC4.out.bel.cell (p := ⟨b, 2, none⟩) hsz).trans HC2.out
  have hix2 := (hix.alloc (.cells #[.int .i64 1, .int .i64 0, .slice none 0 0] 60))
  have hlk : (Instr.lookup 50 (.map (some r)) (.int .i64 1) true).run Tryz.prog (w2.alloc (.cells #[.int .i64 1, .int .i64 0, .slice none 0 0] 60)) = .ok (.tuple #[thZ, .bool false]) (w2.alloc (.cells #[.int .i64 1, .int .i64 0, .slice none 0 0] 60)) := run_lookup_map tThs kInt zThing hix2.map 1 true
  have hbe : Below W.heap.size W ((w2.alloc (.cells #[.int .i64 1, .int .i64 0, .slice none 0 0] 60)).alloc (.cells #[.int .i64 0, .int .i64 0, .string ⟨#[]⟩, .string ⟨#[]⟩, .int .i64 0, .int .i64 0, .slice none 0 0] 54)) := (HC4.out.bel.alloc HC4.out.bel.size _).alloc (by have := HC4.out.bel.size; simp; omega) _
  have HBE := Lib.hid hbe
  clear hb2 hix hix2 hbe hw1 d0 d1 HC3
  go_wp2
  refine wp_loop_rounds 1 ?_
  rw [rounds_succ]
  go_wp2
  go_ret
  exact GivesB.mk rfl HBE.out

set_option maxHeartbeats 400000 in
theorem works_c (w : World) (hG : GOK w) : Calls Tryz.prog 11 #[] w (GivesB (.bool true) w) := by
  have hal : Below w.heap.size w (w.alloc (.cells #[.int .i64 1, .int .i64 0, .slice none 0 0] 60)) := (Below.refl _ _).alloc (Nat.le_refl _) _
  have HAL := Lib.hid hal
  clear hal
  go_enter Tryz.func11, Tryz.ntmps11
  go_wp2_with fail
  refine (worksTracks_c w hG).mono ?_
  rintro e w2 ⟨rfl, hb2⟩
  have HB := Lib.hid (below_trans HAL.out hb2)
  clear hb2
  go_wp2
  go_ret
  exact GivesB.mk rfl HB.out

set_option maxHeartbeats 1000000 in
theorem lawE_c (A1 : Option Addr) (c1 : Nat) (T : List Th) (A2 : Option Addr) (c2 : Nat) (M : List Mv) (A : Option Addr) (c : Nat) (l : List Em) (p : ByteArray) (id : Int) (w : World) (hc : CatOk w A1 T A2 M) (hG : GOK w) (he : EmsOk w A l) (hcap : T.length ≤ c1) (hp : p.size ≤ 9223372036854775807) :
    Calls Tryz.prog 4 #[catV A1 c1 T A2 c2 M, .slice A l.length c, .string p, .int .i64 id] w (GivesB (.bool true) w) := by
  have HEM := Lib.hid he
  clear he
  have HCB := Lib.hid (CB.new w (.slice A1 T.length c1) (.slice A2 M.length c2))
  go_enter Tryz.func4, Tryz.ntmps4
  go_wp2_with fail
  refine (Free_c A1 c1 T A2 c2 M A c l p id _ (hc.below HCB.out.bel) (hG.below HCB.out.bel) (HEM.out.below HCB.out.bel) hp).mono ?_
  rintro e w2 ⟨rfl, hb2⟩
  have HC2 := Lib.hid (HCB.out.below hb2)
  clear hb2 HCB
  have hw2 := HC2.out.lt
  have d0 := HC2.out.c0
  have d1 := HC2.out.c1
  go_wp2_with fail
  refine (FreeR_c A1 c1 T A2 c2 M A c l p id _ (hc.below HC2.out.bel) (hG.below HC2.out.bel) (HEM.out.below HC2.out.bel) hcap hp).mono ?_
  rintro e w3 ⟨rfl, hb3⟩
  have HC3 := Lib.hid (HC2.out.below hb3)
  clear hb3 HC2 hw2 d0 d1
  have hw3 := HC3.out.lt
  have d0 := HC3.out.c0
  have d1 := HC3.out.c1
  generalize freeF T M l p id = R at *
  obtain ⟨x, f⟩ := R
  dsimp only
  have g0 : ∀ d os, (Sort.grow (redrawn w3 d) os).cell? ⟨w.heap.size, 0, none⟩ = some (.slice A1 T.length c1) := fun d os => cell_regrown d0 d os
  have g1 : ∀ d os, (Sort.grow (redrawn w3 d) os).cell? ⟨w.heap.size, 1, none⟩ = some (.slice A2 M.length c2) := fun d os => cell_regrown d1 d os
  have HK1 : Hid (∀ d os, Calls Tryz.prog 14 #[catV A1 c1 T A2 c2 M, .slice A l.length c] (Sort.grow (redrawn w3 d) os) (GivesB (.int .i64 (chkE T M l)) (Sort.grow (redrawn w3 d) os))) := fun d os =>
    CheckEmbargoes_c A1 c1 T A2 c2 M A c l _ (hc.below (HC3.out.below (below_regrown w3 d os)).bel) (hG.below (HC3.out.below (below_regrown w3 d os)).bel) (HEM.out.below (HC3.out.below (below_regrown w3 d os)).bel)
  have HK2 : Hid (∀ d os, Calls Tryz.prog 15 #[catV A1 c1 T A2 c2 M, .slice A l.length c] (Sort.grow (redrawn w3 d) os) (GivesB (.int .i64 (chkE T M l)) (Sort.grow (redrawn w3 d) os))) := fun d os =>
    CheckEmR_c A1 c1 T A2 c2 M A c l _ (hc.below (HC3.out.below (below_regrown w3 d os)).bel) (hG.below (HC3.out.below (below_regrown w3 d os)).bel) (HEM.out.below (HC3.out.below (below_regrown w3 d os)).bel) hcap
  have HK3 : Hid (∀ d os, Calls Tryz.prog 11 #[] (Sort.grow (redrawn w3 d) os) (GivesB (.bool true) (Sort.grow (redrawn w3 d) os))) := fun d os =>
    works_c _ (hG.below (HC3.out.below (below_regrown w3 d os)).bel)
  generalize chkE T M l = z at *
  go_wp2_with fail
  refine wp_region_quiet_below (by kernel_rfl) (by kernel_rfl) ?_
  repeat (quiet_step (first | exact Calls.regrown_of (HK1.out _ _) | exact Calls.regrown_of (HK2.out _ _) | exact Calls.regrown_of (HK3.out _ _)))
  refine wpQuiet_nil ?_
  intro _ hw'
  obtain ⟨⟨dq, osq⟩, hw''⟩ := hw'
  subst hw''
  have HBB := Lib.hid (HC3.out.below (below_regrown w3 dq osq)).bel
  clear g0 g1
  generalize Sort.grow (redrawn w3 dq) osq = w4 at *
  go_wp2
  go_ret
  exact GivesB.mk rfl HBB.out
end Go.Proofs.YtfninfgohiipjaaGreatDoor
