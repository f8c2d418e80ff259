/- Package right: checkParts, the error of parts of things. -/
import Derived.Test.YtnjepmbonhmdnaaDoorWhK
import Derived.Test.YtnjepmbonhmdnaaDoorWhD
import Derived.Deep.RegionHeld3
namespace Go.Proofs.YtnjepmbonhmdnaaDoor
open Go.RowKit Dw

theorem tMapC : Tryd.prog.underlying 77 = some (.map 64 4) := Tryd.underlying77
def seenC (l : List Rg) (k : Nat) (p : ByteArray × ByteArray) : Option Value := if (l.take k).any (fun q => sameP q ⟨p.1, p.2⟩) then some (.bool true) else none
theorem seenC_get {l : List Rg} {k : Nat} (hk : k < l.length) : (seenC l k ((l[k]).nm, (l[k]).par)).getD (.bool false) = .bool (twiceP l k) := by
  unfold seenC twiceP
  rw [getD_of hk]
  cases (l.take k).any fun q => sameP q l[k] <;> rfl
theorem seenC_snoc {l : List Rg} {k : Nat} (hk : k < l.length) : (fun p => if p = ((l[k]).nm, (l[k]).par) then some (.bool true) else seenC l k p) = seenC l (k + 1) := by
  funext p
  have e : ((l.take (k + 1)).any fun q => sameP q ⟨p.1, p.2⟩) = (((l.take k).any fun q => sameP q ⟨p.1, p.2⟩) || sameP l[k] ⟨p.1, p.2⟩) := by
    rw [List.take_succ_eq_append_getElem hk, List.any_append]; simp
  unfold seenC
  rw [e]
  obtain ⟨x, y⟩ := p
  by_cases h : (x, y) = ((l[k]).nm, (l[k]).par)
  · rw [if_pos h]
    injection h with h1 h2
    subst h1; subst h2
    simp [sameP]
  · rw [if_neg h]
    have : sameP l[k] ⟨x, y⟩ = false := by
      unfold sameP
      by_cases h1 : (l[k]).nm = x
      · by_cases h2 : (l[k]).par = y
        · exact absurd (by rw [h1, h2]) h
        · simp [h2]
      · simp [h1]
    rw [this, Bool.or_false]

def Sized (l : List Rg) : Prop := ∀ i (h : i < l.length), (l[i]).nm.size ≤ 9223372036854775807 ∧ (l[i]).par.size ≤ 9223372036854775807

def CpRel (w : World) (l : List Rg) (m : Nat) (i : Value) (wr : World) : Prop :=
  ∃ k : Nat, k + m = l.length ∧ i = .int .i64 k ∧ (∀ j, j < k → cnFault l j = none) ∧ MapIs mkC wr w.heap.size (seenC l k) ∧ InM wr (w.heap.size + 1) (w.heap.size + 2) (l.take k) ∧ Below w.heap.size w wr
def CpRel2 (w : World) (l : List Rg) (m : Nat) (i : Value) (wr : World) : Prop :=
  ∃ k : Nat, k + m = l.length ∧ i = .int .i64 k ∧ (∀ j, j < k → loopP l j = false) ∧ InM wr (w.heap.size + 1) (w.heap.size + 2) l ∧ Below w.heap.size w wr

theorem partsOf_next {l : List Rg} {k : Nat} (hk : k < l.length) (x : ByteArray) : (if x = (l[k]).nm then partsOf (l.take k) (l[k]).nm ++ [(l[k]).par] else partsOf (l.take k) x) = partsOf (l.take (k + 1)) x := by
  by_cases h : x = (l[k]).nm
  · rw [if_pos h, h, partsOf_snoc_yes hk rfl]
  · rw [if_neg h, partsOf_snoc_no hk (fun e => h e.symm)]

theorem inM_drew {w : World} {r B : Nat} {l : List Rg} (h : InM w r B l) : InM w.drew r B l := by
  obtain ⟨f, h1, h2⟩ := h
  exact ⟨f, h1.drew, h2.keepT fun _ _ _ => rfl⟩
set_option maxHeartbeats 2000000 in
theorem checkParts_c (A : Option Addr) (c : Nat) (l : List Rg) (w : World) (h : Rgs w A l) (hz : Sized l) :
    Calls Tryd.prog 35 #[.slice A l.length c] w (GivesB (.int .i64 (chkW l)) w) := by
  generalize hres : chkW l = res
  have HR := Lib.hid hres
  clear hres
  by_cases hlen : 500 < l.length
  · go_enter Tryd.func35, Tryd.ntmps35
    go_wp2
    go_ret
    refine GivesB.mk (vint ?_) (Below.refl _ _)
    rw [← HR.out, chkW_large hlen]
  have hn : l.length ≤ 500 := by omega
  have hmm := @run_makeMap Tryd.prog
  have HZ := Lib.hid hz
  clear hz
  go_enter Tryd.func35, Tryd.ntmps35
  go_wp2
  clear hmm
  go_loopg [16] l.length (CpRel w l)
  case atStart =>
    refine ⟨0, by omega, rfl, fun j hj => absurd hj (by omega), ?_, ⟨fun _ => none, ?_, ?_⟩, ?_⟩
    · exact (MapIs.new mkC w).alloc _
    · have := MapIs.new Value.string (w.alloc (.map #[] 0))
      rw [show (w.alloc (.map #[] 0)).heap.size = w.heap.size + 1 by simp] at this
      exact this
    · exact RowsM.nil _ _
    · exact ((Below.refl _ _).alloc (Nat.le_refl _) _).alloc (by simp) _
  case round =>
    obtain ⟨k, hk, rfl, hpre, hmap, hin, hbel⟩ := hrel
    have HK := Lib.hid hk
    have HP := Lib.hid hpre
    have hk1 : k ≤ l.length := by omega
    have hwr : w.heap.size + 1 < wr.heap.size := hin.lt
    clear hk hpre
    by_cases hlt : k < l.length
    · obtain ⟨b, o, rfl, hb, hc⟩ := h.at_ (by omega)
      have hc0 : wr.cell? ⟨b, o + k * 2, none⟩ = some (.string (l[k]).nm) := (hbel.cell hb).trans (hc k hlt).1
      have hc1 : wr.cell? ⟨b, o + k * 2 + 1, none⟩ = some (.string (l[k]).par) := (hbel.cell hb).trans (hc k hlt).2
      have hz1 := (HZ.out k hlt).1
      have hz2 := (HZ.out k hlt).2
      have hbr : b < wr.heap.size := by omega
      have HMP := Lib.hid hmap
      have HIN := Lib.hid hin
      have HB := Lib.hid hbel
      clear hc hmap hin hbel
      have HCN : Hid (cnFault l k = if isNm (l[k]).nm = false ∨ isNm (l[k]).par = false then some 5 else if twiceP l k = true then some 7 else none) := by
        show cnFault l k = _
        unfold cnFault
        rw [getD_of hlt]
      go_wp2_with fail
      refine (isName_c _ _ hz1).mono ?_
      rintro e w2 ⟨rfl, hb2⟩
      have hR := box2 hb2
      have hR0 := box2_0 hR
      have hR1 := box2_1 hR
      have HMP2 := Lib.hid ((HMP.out.alloc _).below hb2)
      have HIN2 := Lib.hid ((HIN.out.alloc _).below hb2)
      have HB2 := Lib.hid ((HB.out.alloc (by omega) _).trans (hb2.mono (by simp; omega)))
      have hs2 : wr.heap.size < w2.heap.size := by have := hb2.size; simp at this; omega
      have HBX := Lib.hid hR
      clear hc0 hc1 HMP HIN HB hb2 hR
      cases hq : isNm (l[k]).nm with
      | false =>
        have hres : res = 5 := by
          rw [← HR.out, chkW_first hlen hlt HP.out (x := 5) (by rw [HCN.out, if_pos (.inl hq)])]
        have HS := Lib.hid hres
        clear hres hq
        go_wp2
        go_ret
        exact GivesB.mk (vint HS.out.symm) HB2.out
      | true =>
        have HQ := Lib.hid hq
        clear hq
        go_wp2_with fail
        refine (isName_c _ _ hz2).mono ?_
        rintro e w3 ⟨rfl, hb3⟩
        have hR : w3.heap[wr.heap.size]? = some (.cells #[.string (l[k]).nm, .string (l[k]).par] 64 (0, 0)) := (hb3.block _ hs2).trans HBX.out
        have hR0 := box2_0 hR
        have hR1 := box2_1 hR
        have HMP3 := Lib.hid (HMP2.out.below hb3)
        have HIN3 := Lib.hid (HIN2.out.below hb3)
        have HB3 := Lib.hid (HB2.out.trans (hb3.mono HB2.out.size))
        have hs3 : wr.heap.size < w3.heap.size := by have := hb3.size; omega
        have HBX3 := Lib.hid hR
        clear HMP2 HIN2 HB2 HBX hb3 hR hs2
        cases hq : isNm (l[k]).par with
        | false =>
          have hres : res = 5 := by
            rw [← HR.out, chkW_first hlen hlt HP.out (x := 5) (by rw [HCN.out, if_pos (.inr hq)])]
          have HS := Lib.hid hres
          clear hres hq
          go_wp2
          go_ret
          exact GivesB.mk (vint HS.out.symm) HB3.out
        | true =>
          have HQ2 := Lib.hid hq
          clear hq
          have hlk : (Instr.lookup 77 (.map (some w.heap.size)) (.agg #[.string (l[k]).nm, .string (l[k]).par]) false).run Tryd.prog w3 = .ok (.bool (twiceP l k)) w3 := by
            have := run_lookup_mapF tMapC kCon zBoolW HMP3.out ((l[k]).nm, (l[k]).par) false
            simp only [Bool.false_eq_true, if_false, seenC_get hlt] at this
            exact this
          cases ht : twiceP l k with
          | true =>
            rw [ht] at hlk
            have hres : res = 7 := by
              rw [← HR.out, chkW_first hlen hlt HP.out (x := 7) (by rw [HCN.out, if_neg (by rw [HQ.out, HQ2.out]; simp), if_pos ht])]
            have HS := Lib.hid hres
            clear hres ht
            go_wp2
            go_ret
            exact GivesB.mk (vint HS.out.symm) HB3.out
          | false =>
            rw [ht] at hlk
            have HF : Hid (cnFault l k = none) := by
              show cnFault l k = none
              rw [HCN.out, if_neg (by rw [HQ.out, HQ2.out]; simp), if_neg (by rw [ht]; simp)]
            obtain ⟨w4, hrun4, hm4, hg4, hs4⟩ := run_update_mapF (P := Tryd.prog) tMapC kCon HMP3.out ((l[k]).nm, (l[k]).par) (.bool true)
            rw [seenC_snoc hlt] at hm4
            have hrun : (Instr.mapUpdate 77 (.map (some w.heap.size)) (.agg #[.string (l[k]).nm, .string (l[k]).par]) (.bool true)).run Tryd.prog w3 = .ok () w4 := hrun4
            clear hrun4 ht
            obtain ⟨f, hmf, hRf⟩ := HIN3.out
            have hne1 : some (w.heap.size + 1) ≠ some w.heap.size := by simp
            have hmf4 := MapIs_grown hmf hg4 hne1
            have hRf4 := hRf.map HMP3.out hg4
            have hbx4 : w4.heap[wr.heap.size]? = some (.cells #[.string (l[k]).nm, .string (l[k]).par] 64 (0, 0)) :=
              (hg4.block _ hs3 (fun e => by injection e with e; omega)).trans HBX3.out
            have hL4 : (partsOf (l.take k) (l[k]).nm).length ≤ 1000 := by
              have h1 := partsOf_le (l.take k) (l[k]).nm
              rw [List.length_take] at h1
              omega
            have HB4 := Lib.hid (below_map HB3.out hg4 (Nat.le_refl _) (by omega))
            have hB4 : w.heap.size + 2 ≤ w4.heap.size := by omega
            have HM4 := Lib.hid hm4
            have hwl : w.heap.size < w4.heap.size := by omega
            clear hmf hRf hg4 hs4 hm4 HIN3 HMP3 HBX3 HB3
            go_wp2
            clear hrun hlk hR0 hR1
            refine region_group (B := w.heap.size + 2) (r := w.heap.size + 1) (R0 := wr.heap.size) (tm := 4) (tb := 6) (d := 35) hmf4 hRf4 hL4 hbx4 hB4 rfl (by kernel_rfl) (by kernel_rfl) (by kernel_rfl) (by kernel_rfl) rfl rfl (by simp) ⟨_, _, _, rfl⟩ ⟨_, _, _, rfl⟩ ⟨_, _, _, rfl⟩ ⟨_, _, _, rfl⟩ ⟨_, _, _, rfl⟩ ⟨_, _, _, rfl⟩ ⟨_, _, _, rfl⟩ ⟨_, _, _, rfl⟩ ⟨_, _, _, rfl⟩ ⟨_, _, _, rfl⟩ ⟨_, _, _, rfl⟩ ⟨_, _, _, rfl⟩ (by kernel_rfl) (by kernel_rfl) (by kernel_rfl) (by kernel_rfl) (by kernel_rfl) (by kernel_rfl) (by kernel_rfl) (by kernel_rfl) (by kernel_rfl) ?_
            intro V w5 vals hin5 hfar hbel5 hvals v9 v10
            have v0 := hvals 0 (by decide)
            have v1 := hvals 1 (by decide)
            have v2 := hvals 2 (by decide)
            have v3 := hvals 3 (by decide)
            have v4 := hvals 4 (by decide)
            have v5 := hvals 5 (by decide)
            have v6 := hvals 6 (by decide)
            have v7 := hvals 7 (by decide)
            have v8 := hvals 8 (by decide)
            simp [putAll, Act.put, v0, v1, v2, v3, v4, v5, v6, v7, v8, v9, v10, List.range_succ, cstG]
            have HM5 : Hid (MapIs mkC w5 w.heap.size (seenC l (k + 1))) := HM4.out.keep (hfar _ hwl (by omega) (fun cs e => by
              obtain ⟨es, clk, L, hr, _⟩ := HM4.out
              rw [hr] at e; cases e))
            have HIN5 : Hid (InM w5 (w.heap.size + 1) (w.heap.size + 2) (l.take (k + 1))) := by
              show InM w5 (w.heap.size + 1) (w.heap.size + 2) (l.take (k + 1))
              obtain ⟨f', h1, h2⟩ := hin5
              exact ⟨f', h1, h2.congr (partsOf_next hlt)⟩
            have HB5 := Lib.hid (HB4.out.trans (hbel5 w.heap.size (by omega) (by omega)))
            generalize (f (l[k]).nm).getD nilSl = vf
            clear v0 v1 v2 v3 v4 v5 v6 v7 v8 v9 v10 hvals hin5 hfar hbel5 HM4 HB4 hmf4 hRf4 hbx4
            go_wp2
            go_roundg (gk - 1)
            case measure => have := HK.out; omega
            case rel =>
              refine ⟨k + 1, by have := HK.out; omega, by go_num, fun j hj => ?_, HM5.out, HIN5.out, HB5.out⟩
              rcases Nat.lt_or_ge j k with h1 | h1
              · exact HP.out j h1
              · obtain rfl : j = k := by omega
                exact HF.out
    · have hF0 : ∀ j, j < l.length → cnFault l j = none := fun j hj => HP.out j (by omega)
      have HF0 := Lib.hid hF0
      have hin' : InM wr (w.heap.size + 1) (w.heap.size + 2) l := by
        rw [List.take_of_length_le (by omega)] at hin; exact hin
      have HIN := Lib.hid hin'
      have HB := Lib.hid hbel
      obtain rfl : k = l.length := by omega
      clear hF0 hin hin' hmap hbel HP HK hk1
      go_wp2
      go_loopg [49] l.length (CpRel2 w l)
      case atStart => exact ⟨0, by omega, rfl, fun j hj => absurd hj (by omega), HIN.out, HB.out⟩
      clear HIN HB hwr hlt
      case round =>
        obtain ⟨k, hk, rfl, hpre, hin, hbel⟩ := hrel
        have HK := Lib.hid hk
        have HP := Lib.hid hpre
        have hk1 : k ≤ l.length := by omega
        have hwr : w.heap.size + 1 < wr.heap.size := hin.lt
        clear hk hpre
        by_cases hlt : k < l.length
        · obtain ⟨b, o, rfl, hb, hc⟩ := h.at_ (by omega)
          have hc0 : wr.cell? ⟨b, o + k * 2, none⟩ = some (.string (l[k]).nm) := (hbel.cell hb).trans (hc k hlt).1
          have hc1 : wr.cell? ⟨b, o + k * 2 + 1, none⟩ = some (.string (l[k]).par) := (hbel.cell hb).trans (hc k hlt).2
          have hbx : (wr.alloc (.cells #[.string (l[k]).nm, .string (l[k]).par] 64)).heap[wr.heap.size]? = some (.cells #[.string (l[k]).nm, .string (l[k]).par] 64 (0, 0)) := heap_alloc_new _ _
          have HLP : Hid (loopP l k = memS (sortS (reach l (l[k]).par)) (l[k]).nm) := by
            show loopP l k = _
            rw [sortS_mem]
            unfold loopP
            rw [getD_of hlt]
          have hrl := reach_le l (l[k]).par
          have hsl := sortS_len (reach l (l[k]).par)
          have hle : (sortS (reach l (l[k]).par)).length ≤ 501 := by omega
          have HIN := Lib.hid (hin.alloc (.cells #[.string (l[k]).nm, .string (l[k]).par] 64))
          have HB := Lib.hid (hbel.alloc (by omega) (.cells #[.string (l[k]).nm, .string (l[k]).par] 64))
          have HBX := Lib.hid hbx
          generalize hso : sortS (reach l (l[k]).par) = so at *
          have HSO := Lib.hid hso
          clear hc hin hbel hbx hrl hsl hso
          go_wp2
          clear hc0 hc1
          go_region_held3 (fun w' => w'.cell? ⟨wr.heap.size, 0, none⟩ = some (.string (l[k]).nm) ∧ w'.cell? ⟨wr.heap.size, 1, none⟩ = some (.string (l[k]).par)) (go_keep)
            (first
              | ((go_at_call 36; refine (whole_c _ (w.heap.size + 2) l _ _ hn (inM_drew HIN.out)).mono ?_; rintro e w2 ⟨A2, c2, rfl, hst, hb2⟩; rw [HSO.out] at hst ⊢; have hx2 := (hb2.block _ (by simp)).trans HBX.out; have hx0 := box2_0 hx2; have hx1 := box2_1 hx2))
              | ((go_at_call 48; refine (containsS_c _ _ so _ _ (by omega) hst).mono ?_; rintro e w3 ⟨rfl, rfl⟩)))
          have HB2 := Lib.hid (HB.out.drew.trans (hb2.mono HB.out.drew.size))
          have HIN2 := Lib.hid ((inM_drew HIN.out).below hb2)
          clear hst hb2 hx2 hx0 hx1 HB HIN HBX HSO
          cases hm : memS so (l[k]).nm with
          | true =>
            have hres : res = 14 := by
              rw [← HR.out, chkW_loop hlen HF0.out hlt (by rw [HLP.out, hm])]
            have HS := Lib.hid hres
            clear hres hm
            go_wp2
            go_ret
            exact GivesB.mk (vint HS.out.symm) HB2.out
          | false =>
            have HM := Lib.hid hm
            clear hm
            go_wp2
            go_roundg (gk - 1)
            case measure => have := HK.out; omega
            case rel =>
              refine ⟨k + 1, by have := HK.out; omega, by go_num, fun j hj => ?_, HIN2.out, HB2.out⟩
              rcases Nat.lt_or_ge j k with h1 | h1
              · exact HP.out j h1
              · obtain rfl : j = k := by omega
                rw [HLP.out, HM.out]
        · have hres : res = 0 := by
            rw [← HR.out, chkW_ok hlen HF0.out (fun j hj => HP.out j (by omega))]
          have HS := Lib.hid hres
          clear hres
          go_wp2
          go_ret
          exact GivesB.mk (vint HS.out.symm) hbel
end Go.Proofs.YtnjepmbonhmdnaaDoor
