/- Package right: whole, a thing and what is in it. -/
import Derived.Test.YtnjepmbonhmdnaaDoorWhS
namespace Go.Proofs.YtnjepmbonhmdnaaDoor
open Go.RowKit Dw

theorem tMapS : Tryd.prog.underlying 62 = some (.map 9 24) := Tryd.underlying62
theorem tMapSB : Tryd.prog.underlying 78 = some (.map 9 4) := Tryd.underlying78
theorem zStrs (w : World) : (zeroValue 24).run Tryd.prog w = .ok nilSl w := by kernel_rfl
theorem zBoolW (w : World) : (zeroValue 4).run Tryd.prog w = .ok (.bool false) w := by kernel_rfl

/-- What the map of things seen reads as. -/
def seenF (out : List ByteArray) (x : ByteArray) : Option Value := if memS out x then some (.bool true) else none
theorem seenF_get (out : List ByteArray) (x : ByteArray) : (seenF out x).getD (.bool false) = .bool (memS out x) := by
  unfold seenF; cases memS out x <;> rfl
theorem seenF_snoc (out : List ByteArray) (s : ByteArray) : (fun k => if k = s then some (.bool true) else seenF out k) = seenF (out ++ [s]) := by
  funext k
  have e : memS (out ++ [s]) k = (memS out k || decide (s = k)) := by unfold memS; rw [List.any_append]; simp
  unfold seenF
  rw [e]
  by_cases h : k = s
  · subst h; simp
  · have h' : ¬ s = k := fun e => h e.symm
    rw [if_neg h, decide_eq_false h', Bool.or_false]
theorem seenF_one (s : ByteArray) : (fun k => if k = s then some (Value.bool true) else none) = seenF [s] := seenF_snoc [] s

theorem map_ne_row {κ : Type} [DecidableEq κ] {mk : κ → Value} {w : World} {r : Nat} {F : κ → Option Value} (hm : MapIs mk w r F) {α : Type} {enc : α → List Value} {k base : Nat} {e : TypeId} {v : Value} {l : List α} (ho : OwnL enc k w base e v l) : some r ≠ v.ownBlock := by
  intro h
  obtain ⟨_, cs, hcs⟩ := own_row ho h.symm
  obtain ⟨es, clk, L, hr, _⟩ := hm
  rw [hr] at hcs; cases hcs
theorem MapIs_grown {κ : Type} [DecidableEq κ] {mk : κ → Value} {w w' : World} {r : Nat} {F : κ → Option Value} (hm : MapIs mk w r F) {row : Option Nat} (hg : w.grownBy w' row) (hne : some r ≠ row) : MapIs mk w' r F := hm.keep (hg.block r hm.lt hne)
theorem own_map {κ : Type} [DecidableEq κ] {mk : κ → Value} {w w' : World} {r : Nat} {F : κ → Option Value} (hm : MapIs mk w r F) (hg : w.grownBy w' (some r)) {α : Type} {enc : α → List Value} {k base : Nat} {e : TypeId} {v : Value} {l : List α} (ho : OwnL enc k w base e v l) : OwnL enc k w' base e v l :=
  ho.grown hg (.inr fun e => map_ne_row hm ho e.symm)

theorem own_head {α : Type} {enc : α → List Value} {k : Nat} {w : World} {base : Nat} {e : TypeId} {l : List α} {b o n c : Nat} (h : OwnL enc k w base e (.slice (some ⟨b, o, none⟩) n c) l) : o = 0 ∧ base ≤ b := by
  rcases h.2 with ⟨h1, _⟩ | ⟨g, cap, cur, h1, h2, _⟩
  · cases h1
  · injection h1 with h1
    injection h1 with h1
    injection h1 with h3 h4
    exact ⟨h4, by omega⟩
def WhRel (w : World) (l : List Rg) (s : ByteArray) (m : Nat) (out i : Value) (wr : World) : Prop :=
  ∃ (k : Nat) (L : List ByteArray), k + m = l.length + 2 ∧ i = .int .i64 k ∧ FoundP l s L ∧ bfs l m L k = reach l s ∧ k ≤ L.length ∧ OwnL encS 1 wr (w.heap.size + 1) 9 out L ∧ MapIs Value.string wr w.heap.size (seenF L) ∧ Below w.heap.size w wr
def WhIn (w : World) (p L : List ByteArray) (m : Nat) (out j : Value) (wr : World) : Prop :=
  ∃ k : Nat, k + m = p.length ∧ j = .int .i64 k ∧ OwnL encS 1 wr (w.heap.size + 1) 9 out (addAll L (p.take k)) ∧ MapIs Value.string wr w.heap.size (seenF (addAll L (p.take k))) ∧ Below w.heap.size w wr

set_option maxHeartbeats 2000000 in
theorem whole_c (r B : Nat) (l : List Rg) (s : ByteArray) (w : World) (hn : l.length ≤ 500) (h : InM w r B l) :
    Calls Tryd.prog 36 #[.map (some r), .string s] w (GivesS (sortS (reach l s)) w) := by
  obtain ⟨f, hm, hrows⟩ := h
  have hrl := hm.lt
  have hmm := @run_makeMap Tryd.prog
  obtain ⟨w1, hrun1, hm1, hg1, hs1⟩ := run_update_map (P := Tryd.prog) tMapSB kStr (MapIs.new Value.string w) s (.bool true)
  rw [seenF_one] at hm1
  have hb1 : Below w.heap.size w w1 := below_map ((Below.refl _ _).alloc (Nat.le_refl _) _) hg1 (Nat.le_refl _) (by simp)
  have hsz1 : w1.heap.size = w.heap.size + 1 := by rw [hs1]; simp
  have HM := Lib.hid hm
  have HR := Lib.hid hrows
  have HM1 := Lib.hid hm1
  have HB1 := Lib.hid hb1
  have HSZ := Lib.hid hsz1
  clear hm hrows hm1 hg1 hs1 hb1 hsz1
  go_enter Tryd.func36, Tryd.ntmps36
  go_wp2
  clear hmm hrun1
  go_loopg [6, 7] (l.length + 2) (WhRel w l s)
  case atStart =>
    refine ⟨0, [s], by omega, rfl, FoundP.one l s, rfl, by simp, ?_, HM1.out.alloc _, HB1.out.alloc (by have := HSZ.out; omega) _⟩
    have := own_one w1 s
    rw [HSZ.out] at this ⊢
    exact this
  case round =>
    obtain ⟨g1, hg1⟩ : ∃ g1, g1 = gk := ⟨_, rfl⟩
    subst hg1
    obtain ⟨ki, L, hk, rfl, hF, hbfs, hko, hown, hmap, hbel⟩ := hrel
    have hle := hF.le
    obtain ⟨A6, c6, rfl, hrd⟩ := hown.rd1
    have HK := Lib.hid hk
    have HF := Lib.hid hF
    have HBF := Lib.hid hbfs
    have HMP := Lib.hid hmap
    have HB := Lib.hid hbel
    have hwr : w.heap.size < wr.heap.size := hmap.lt
    have hLn : 0 < L.length := hF.pos
    clear hk hF hbfs hmap hbel HM1 HB1 HSZ
    by_cases hlt : ki < L.length
    · obtain ⟨b6, o6, rfl, hb6, hc6⟩ := hrd.at_ (by omega)
      have hci : wr.cell? ⟨b6, o6 + ki, none⟩ = some (.string L[ki]) := hc6 ki hlt
      have hlk := run_lookup_map tMapS kStr zStrs (HM.out.below HB.out) L[ki] false
      obtain ⟨AP, cp, hv, hrp⟩ := (HR.out.get L[ki]).rd1
      simp only [Bool.false_eq_true, if_false] at hlk
      rw [hv] at hlk
      have hpl := partsOf_le l L[ki]
      have HX : Hid (growS l L L[ki] = addAll L (partsOf l L[ki])) := rfl
      have HP0 : Hid (∀ q, FoundP l s (addAll L ((partsOf l L[ki]).take q))) := fun q => HF.out.take L[ki] q
      generalize hp : partsOf l L[ki] = p at *
      have HP := Lib.hid hp
      have HRP := Lib.hid hrp
      have HO := Lib.hid hown
      clear hp hrp hv hc6 hrd hown
      go_wp2
      go_loopg [6, 28] p.length (WhIn w p L)
      case atStart => exact ⟨0, by omega, rfl, HO.out, HMP.out, HB.out⟩
      case round =>
        obtain ⟨k, hk2, rfl, hown, hmap, hbel⟩ := hrel
        have hcl : (addAll L (p.take k)).length ≤ 501 := by
          have := (HP0.out k).le
          omega
        have HST : Hid (∀ hk : k < p.length, addAll L (p.take (k + 1)) = addNew (addAll L (p.take k)) p[k]) := fun hk => addAll_take hk
        generalize hcur : addAll L (p.take k) = cur at *
        have hwr2 : w.heap.size < wr.heap.size := hmap.lt
        have hk3 : k ≤ p.length := by omega
        have HK2 := Lib.hid hk2
        have HCUR := Lib.hid hcur
        clear hk2 hcur HO HMP HB hci hb6
        by_cases hlt2 : k < p.length
        · obtain ⟨bp, op, rfl, hbp, hcp⟩ := HRP.out.at_ (by omega)
          have hc0 : wr.cell? ⟨bp, op + k, none⟩ = some (.string p[k]) := (hbel.cell hbp).trans (hcp k hlt2)
          have hlk2 := run_lookup_map tMapSB kStr zBoolW hmap p[k] false
          simp only [Bool.false_eq_true, if_false, seenF_get] at hlk2
          have HS1 := Lib.hid (HST.out hlt2)
          clear hcp HST
          generalize p[k] = x at *
          cases hm : memS cur x with
          | true =>
            rw [hm] at hlk2
            have HMM := Lib.hid hm
            have HO := Lib.hid hown
            have HMP := Lib.hid hmap
            have HB := Lib.hid hbel
            clear hm hown hmap hbel
            go_wp2
            go_roundg (gk - 1)
            case measure => have := HK2.out; omega
            case rel =>
              have e : addAll L (p.take (k + 1)) = cur := by rw [HS1.out, addNew_yes HMM.out]
              exact ⟨k + 1, by have := HK2.out; omega, by go_num, by rw [e]; exact HO.out, by rw [e]; exact HMP.out, HB.out⟩
          | false =>
            rw [hm] at hlk2
            have HMM := Lib.hid hm
            obtain ⟨w3, hrun3, hm3, hg3, hs3⟩ := run_update_map (P := Tryd.prog) tMapSB kStr hmap x (.bool true)
            have hown3 := own_map hmap hg3 hown
            have hb3 := below_map hbel hg3 (Nat.le_refl _) (by omega)
            rw [seenF_snoc] at hm3
            have hwr3 : w.heap.size < w3.heap.size := by omega
            have HM3 := Lib.hid hm3
            have HB3 := Lib.hid hb3
            clear hm hown hmap hbel hm3 hg3 hs3 hb3
            go_wp2_with (at_builtin; refine wpList_push _ _ _ elStr rfl rfl (w.heap.size + 1) _ cur rfl (hown3.alloc _) w3.heap.size 1 x rfl (heap_alloc_new _ _) rfl (by simp [Value.oneCell']) (by unfold maxLen; omega) (by omega) (by simp; omega) ?_; intro v4 w4 hown4 hg4 hb4)
            have HO4 := Lib.hid hown4
            have hM4 := HM3.out.alloc (.cells #[.string x] 9)
            have HM4 := Lib.hid (MapIs_grown hM4 hg4 (map_ne_row hM4 (hown3.alloc (.cells #[.string x] 9))))
            have HB4 := Lib.hid ((HB3.out.alloc (by omega) _).trans (hb4.mono (Nat.le_succ _)))
            clear hown3 hown4 hg4 hb4 HM3 HB3 hrun3 hM4
            go_wp2
            go_roundg (gk - 1)
            case measure => have := HK2.out; omega
            case rel =>
              have e : addAll L (p.take (k + 1)) = cur ++ [x] := by rw [HS1.out, addNew_no HMM.out]
              exact ⟨k + 1, by have := HK2.out; omega, by go_num, by rw [e]; exact HO4.out, by rw [e]; exact HM4.out, HB4.out⟩
        · have HO := Lib.hid hown
          have HMP := Lib.hid hmap
          have HB := Lib.hid hbel
          have HE : Hid (growS l L L[ki] = cur) := by
            show growS l L L[ki] = cur
            rw [← HCUR.out, List.take_of_length_le (by omega)]; exact HX.out
          have hcl2 : L.length ≤ cur.length := by rw [← HCUR.out]; exact addAll_len _ _
          obtain ⟨A7, c7, rfl, hrd7⟩ := hown.rd1
          clear hown hmap hbel hrd7
          go_wp2
          go_roundg (g1 - 1)
          case measure => have := HK.out; omega
          case rel =>
            refine ⟨ki + 1, cur, by have := HK.out; omega, by go_num, ?_, ?_, by omega, HO.out, HMP.out, HB.out⟩
            · rw [← HE.out]; exact HF.out.grow _
            · have h1 := HBF.out
              rw [show g1 = (g1 - 1) + 1 by have := HK.out; omega, bfs_step hlt, HE.out] at h1
              exact h1
    · have HRE : Hid (reach l s = L) := by
        show reach l s = L
        rw [← HBF.out]; exact bfs_end hlt
      obtain ⟨b6, o6, rfl, hb6, hc6⟩ := hrd.at_ hLn
      obtain ⟨rfl, hb0⟩ := own_head hown
      have hsort := sortStr_c b6 c6 L (w.heap.size + 1) wr hown (by omega) hLn
      have HS := Lib.hid hsort
      clear hsort hown hrd hc6 HBF HK HF HMP
      go_wp2_with fail
      refine HS.out.mono ?_
      rintro e w2 ⟨rfl, hst, hb2⟩
      have hl2 := sortS_len L
      have HST := Lib.hid hst
      have HB2 := Lib.hid (HB.out.trans (hb2.mono (Nat.le_succ _)))
      clear hst hb2 HS
      go_wp2
      go_ret
      rw [HRE.out]
      exact ⟨_, c6, by rw [hl2]; rfl, HST.out, HB2.out⟩
end Go.Proofs.YtnjepmbonhmdnaaDoor
