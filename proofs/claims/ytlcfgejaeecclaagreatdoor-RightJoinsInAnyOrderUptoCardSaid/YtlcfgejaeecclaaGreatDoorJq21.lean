/- Plain facts about joining lists by key: no program in sight. Package right: whether a set has a leaf; kinds of use. Package right: whether a party is among shares (slices.ContainsFunc at checkShares' literal). -/
import Derived.Lib.Hide
import Derived.Test.YtlcfgejaeecclaaGreatDoorJq18
namespace Go.Proofs.YtlcfgejaeecclaaGreatDoor

/-- Two strictly sorted lists with the same members are one list. -/
theorem sorted_unique {α : Type} {lt : α → α → Prop} (ha : ∀ a b, lt a b → ¬ lt b a) : ∀ {l r : List α}, l.Pairwise lt → r.Pairwise lt → (∀ x, x ∈ l ↔ x ∈ r) → l = r
  | [], [], _, _, _ => rfl
  | [], b :: r, _, _, h => absurd ((h b).2 List.mem_cons_self) (by simp)
  | a :: l, [], _, _, h => absurd ((h a).1 List.mem_cons_self) (by simp)
  | a :: l, b :: r, hl, hr, h => by
    obtain ⟨hl1, hl2⟩ := List.pairwise_cons.1 hl
    obtain ⟨hr1, hr2⟩ := List.pairwise_cons.1 hr
    have e : a = b := by
      rcases List.mem_cons.1 ((h a).1 List.mem_cons_self) with e | e
      · exact e
      · rcases List.mem_cons.1 ((h b).2 List.mem_cons_self) with e2 | e2
        · exact e2.symm
        · exact absurd (hr1 a e) (ha _ _ (hl1 b e2))
    subst e
    have hn1 : ∀ x ∈ l, x ≠ a := fun x hx e => by subst e; exact ha _ _ (hl1 x hx) (hl1 x hx)
    have hn2 : ∀ x ∈ r, x ≠ a := fun x hx e => by subst e; exact ha _ _ (hr1 x hx) (hr1 x hx)
    rw [sorted_unique ha hl2 hr2 fun x => ?_]
    constructor
    · intro hx
      rcases List.mem_cons.1 ((h x).1 (List.mem_cons_of_mem _ hx)) with e | e
      · exact absurd e (hn1 x hx)
      · exact e
    · intro hx
      rcases List.mem_cons.1 ((h x).2 (List.mem_cons_of_mem _ hx)) with e | e
      · exact absurd e (hn2 x hx)
      · exact e
/-- The first of each key. -/
def firsts {α κ : Type} [DecidableEq κ] (key : α → κ) : List α → List α → List α
  | _, [] => []
  | seen, a :: l => if (seen.map key).contains (key a) = true then firsts key seen l else a :: firsts key (a :: seen) l
/-- No two members of a list have one key and are two. -/
def KeyOk {α κ : Type} (key : α → κ) (l : List α) : Prop := ∀ a ∈ l, ∀ b ∈ l, key a = key b → a = b
/-- What is first is of the list and of a key that was not seen; and each member whose key was not seen is there. -/
theorem mem_firsts {α κ : Type} [DecidableEq κ] {key : α → κ} : ∀ {seen l : List α}, KeyOk key l → ∀ x, x ∈ firsts key seen l ↔ x ∈ l ∧ ∀ s ∈ seen, key s ≠ key x
  | seen, [], _, x => by simp [firsts]
  | seen, a :: l, hk, x => by
    have hk' : KeyOk key l := fun u hu v hv e => hk u (List.mem_cons_of_mem _ hu) v (List.mem_cons_of_mem _ hv) e
    unfold firsts
    split
    · next h =>
      rw [mem_firsts hk']
      have h' : ∃ s ∈ seen, key s = key a := by simpa using h
      obtain ⟨s, hs, es⟩ := h'
      constructor
      · exact fun ⟨h1, h2⟩ => ⟨List.mem_cons_of_mem _ h1, h2⟩
      · rintro ⟨h1, h2⟩
        rcases List.mem_cons.1 h1 with rfl | h1
        · exact absurd es (h2 s hs)
        · exact ⟨h1, h2⟩
    · next h =>
      have h' : ∀ s ∈ seen, key s ≠ key a := by simpa using h
      rw [List.mem_cons, mem_firsts hk']
      constructor
      · rintro (rfl | ⟨h1, h2⟩)
        · exact ⟨List.mem_cons_self, h'⟩
        · exact ⟨List.mem_cons_of_mem _ h1, fun s hs => h2 s (List.mem_cons_of_mem _ hs)⟩
      · rintro ⟨h1, h2⟩
        rcases List.mem_cons.1 h1 with rfl | h1
        · exact .inl rfl
        · by_cases e : key a = key x
          · exact .inl (hk x (List.mem_cons_of_mem _ h1) a List.mem_cons_self e.symm)
          · refine .inr ⟨h1, fun s hs => ?_⟩
            rcases List.mem_cons.1 hs with rfl | hs
            · exact e
            · exact h2 s hs
/-- Sorting gives one list, whatever the order before. -/
theorem sort_same {α : Type} {lt : α → α → Prop} (ha : ∀ a b, lt a b → ¬ lt b a) {l r sl sr : List α} (h1 : sl.Perm l) (h2 : sr.Perm r) (s1 : sl.Pairwise lt) (s2 : sr.Pairwise lt) (h : ∀ x, x ∈ l ↔ x ∈ r) : sl = sr :=
  sorted_unique ha s1 s2 fun x => by rw [h1.mem_iff, h2.mem_iff, h]
theorem keyOk_swap {α κ : Type} {key : α → κ} {a b : List α} (h : KeyOk key (a ++ b)) : KeyOk key (b ++ a) := fun x hx y hy e =>
  h x (by rw [List.mem_append] at hx ⊢; exact hx.symm) y (by rw [List.mem_append] at hy ⊢; exact hy.symm) e
/-- Joined in either order: the same members. -/
theorem firsts_swap {α κ : Type} [DecidableEq κ] {key : α → κ} {a b : List α} (h : KeyOk key (a ++ b)) (x : α) : x ∈ firsts key [] (a ++ b) ↔ x ∈ firsts key [] (b ++ a) := by
  rw [mem_firsts h, mem_firsts (keyOk_swap h), List.mem_append, List.mem_append, Or.comm]
/-- Joined once more: nothing new. -/
theorem firsts_again {α κ : Type} [DecidableEq κ] {key : α → κ} {a b s : List α} (h : KeyOk key (a ++ b)) (hs : ∀ x, x ∈ s ↔ x ∈ firsts key [] (a ++ b)) : KeyOk key (s ++ b) ∧ ∀ x, x ∈ firsts key [] (s ++ b) ↔ x ∈ s := by
  have hin : ∀ x, x ∈ s ++ b → x ∈ a ++ b := fun x hx => by
    rcases List.mem_append.1 hx with hx | hx
    · exact ((mem_firsts h x).1 ((hs x).1 hx)).1
    · exact List.mem_append_right _ hx
  have hk : KeyOk key (s ++ b) := fun x hx y hy e => h x (hin x hx) y (hin y hy) e
  refine ⟨hk, fun x => ?_⟩
  rw [mem_firsts hk]
  constructor
  · exact fun hx => (hs x).2 ((mem_firsts h x).2 ⟨hin x hx.1, hx.2⟩)
  · exact fun hx => ⟨List.mem_append_left _ hx, fun _ h0 => by cases h0⟩
end Go.Proofs.YtlcfgejaeecclaaGreatDoor

namespace Go.Proofs.YtlcfgejaeecclaaGreatDoor
open Go.RowKit Dw

/-- A call that answers a place of true in a row of bools, or a number below 0. -/
def GivesPos (M : List Bool) (w : World) (e : Ending) (w' : World) : Prop := ∃ z : Int, e = .returned (.int .i64 z) ∧ decide ((0 : Int) ≤ z) = M.any id ∧ w = w'
def IdxRelB (w : World) (M : List Bool) (m : Nat) (i : Value) (wr : World) : Prop :=
  wr = w ∧ ∃ k : Nat, k + m = M.length ∧ i = .int .i64 k ∧ (M.take k).any id = false
set_option maxHeartbeats 400000 in
theorem indexB_c (A : Option Addr) (c : Nat) (M : List Bool) (w : World) (hn : M.length ≤ 1000000) (h : Rd1 Value.bool w A M) :
    Calls Tryz.prog 200 #[.slice A M.length c, .bool true] w (GivesPos M w) := by
  go_enter Tryz.func200, Tryz.ntmps200
  go_wp2
  go_loopg [8] M.length (IdxRelB w M)
  case atStart => exact ⟨rfl, 0, by omega, rfl, rfl⟩
  case round =>
    obtain ⟨hw, k, hk, rfl, hpre⟩ := hrel
    subst hw
    have HK := Lib.hid hk
    have HP := Lib.hid hpre
    have hk1 : k ≤ M.length := by omega
    clear hk hpre
    by_cases hlt : k < M.length
    · obtain ⟨b, o, rfl, hb, hc⟩ := h.at_ (by omega)
      have hc0 := hc k hlt
      clear hc
      have HE : Hid (M.take (k + 1) = M.take k ++ [M[k]]) := List.take_succ_eq_append_getElem hlt
      have HM : Hid (M[k] = true → M.any id = true) := fun e => List.any_eq_true.2 ⟨M[k], List.getElem_mem hlt, e⟩
      obtain ⟨x, hx⟩ : ∃ x, M[k] = x := ⟨_, rfl⟩
      rw [hx] at hc0 HE HM
      clear hx
      cases x with
      | true =>
        go_wp2
        go_ret
        exact ⟨(k : Int), rfl, by rw [HM.out trivial]; exact decide_eq_true (by omega), rfl⟩
      | false =>
        go_wp2
        go_roundg (gk - 1)
        case measure => have := HK.out; omega
        case rel => exact ⟨rfl, k + 1, by have := HK.out; omega, by go_num, by rw [HE.out, List.any_append, HP.out]; rfl⟩
    · have HA : Hid (M.any id = false) := by
        show _ = _
        have := HP.out
        rwa [List.take_of_length_le (by omega)] at this
      go_wp2
      go_ret
      exact ⟨-1, rfl, by rw [HA.out]; rfl, rfl⟩
set_option maxHeartbeats 400000 in
theorem some_c (A : Option Addr) (c : Nat) (M : List Bool) (w : World) (hn : M.length ≤ 1000000) (h : Rd1 Value.bool w A M) :
    Calls Tryz.prog 150 #[.slice A M.length c] w (Gives (.bool (M.any id)) w) := by
  have hC : ∀ W, Rd1 Value.bool W A M → Calls Tryz.prog 180 #[.slice A M.length c, .bool true] W (Gives (.bool (M.any id)) W) := fun W hW => by
    go_enter Tryz.func180, Tryz.ntmps180
    go_wp2_with fail
    with_reducible refine (indexB_c A c M W hn hW).mono ?_
    rintro e w' ⟨z, rfl, hz, rfl⟩
    have HZ := Lib.hid hz
    clear hz
    go_wp2
    go_ret
    exact Gives.mk (vbool HZ.out) rfl
  have HC := Lib.hid (hC w h)
  clear hC
  go_enter Tryz.func150, Tryz.ntmps150
  go_wp2_with fail
  with_reducible refine HC.out.mono ?_
  rintro e w' ⟨rfl, rfl⟩
  go_wp2
  go_ret
  exact Gives.mk rfl rfl
def UsesRel (w : World) (us l : List ByteArray) (m : Nat) (i : Value) (wr : World) : Prop :=
  (∃ n, wr = w.drewN n) ∧ ∃ k : Nat, k + m = l.length ∧ i = .int .i64 k ∧ ∀ j, j < k → useFault us l j = none
theorem useF_hit {us l : List ByteArray} {k : Nat} {f : Int} (hk : k < l.length) (hp : ∀ j, j < k → useFault us l j = none) (h : useFault us l k = some f) : useF us l = f := by
  unfold useF
  rw [findSome_first hk hp h]
theorem useF_none {us l : List ByteArray} (hp : ∀ j, j < l.length → useFault us l j = none) : useF us l = 0 := by
  unfold useF
  rw [findSome_none hp]
theorem usAt_of {l : List ByteArray} {i : Nat} (h : i < l.length) : usAt l i = l[i] := by simp [usAt, List.getD, h]
set_option maxRecDepth 100000 in
set_option maxHeartbeats 1000000 in
theorem checkUses_c (A A2 : Option Addr) (c c2 : Nat) (us l : List ByteArray) (w : World) (hu : us.length ≤ 1000000) (hn : l.length ≤ 140737488355328) (h : Strs w A us) (h2 : Strs w A2 l) :
    Calls Tryz.prog 151 #[.slice A us.length c, .slice A2 l.length c2] w (GivesD (.int .i64 (useF us l)) w) := by
  have HC := Lib.hid (fun W s (x : Strs W A us) => containsS_c A c us s W hu x)
  go_enter Tryz.func151, Tryz.ntmps151
  go_wp2
  go_loopg [9] l.length (UsesRel w us l)
  case atStart => exact ⟨⟨0, rfl⟩, 0, by omega, rfl, fun j hj => absurd hj (by omega)⟩
  case round =>
    obtain ⟨⟨nd, hw⟩, k, hkm, rfl, hpre⟩ := hrel
    subst hw
    have HM := Lib.hid hkm
    have HP := Lib.hid hpre
    clear hkm hpre
    by_cases hlt : k < l.length
    · obtain ⟨b, o, hA, hb, hc⟩ := h2.at_ (by omega)
      subst hA
      have hc0 := hc k hlt
      have HCL := Lib.hid hc
      clear hc
      have e0 : usAt l k = l[k] := usAt_of hlt
      go_wp2_with fail
      with_reducible refine (HC.out _ _ (h.drewN nd)).mono ?_
      rintro e w' ⟨rfl, rfl⟩
      cases hm : memS us l[k] with
      | false =>
        have HF : Hid (useF us l = 5) := useF_hit hlt HP.out (by unfold useFault; rw [e0, if_pos hm])
        clear hm e0
        go_wp2
        go_ret
        exact GivesD.mk (vint HF.out.symm) ⟨nd, rfl⟩
      | true =>
        rcases Nat.eq_zero_or_pos k with h0 | h0
        · subst h0
          have HF : Hid (useFault us l 0 = none) := by
            show _ = _
            unfold useFault; rw [e0, if_neg (by rw [hm]; simp), if_neg (by omega)]
          clear hm e0
          go_wp2
          go_roundg (gk - 1)
          case measure => have := HM.out; omega
          case rel => exact ⟨⟨nd, rfl⟩, 1, by have := HM.out; omega, by go_num, fun j hj => by
            have e : j = 0 := by omega
            subst e
            exact HF.out⟩
        · have hcp := HCL.out (k - 1) (by omega)
          have hd : decide ((0 : Int) < (k : Int)) = true := by simp; omega
          have e1 : usAt l (k - 1) = l[k - 1]'(by omega) := usAt_of (by omega)
          cases hle : sle l[k] (l[k - 1]'(by omega)) with
          | true =>
            have HF : Hid (useF us l = 8) := useF_hit hlt HP.out (by unfold useFault; rw [e0, e1, if_neg (by rw [hm]; simp), if_pos ⟨h0, hle⟩])
            have hleb := hle
            unfold sle at hleb
            clear hm e0 e1 hle
            go_wp2
            go_ret
            exact GivesD.mk (vint HF.out.symm) ⟨nd, rfl⟩
          | false =>
            have HF : Hid (useFault us l k = none) := by
              show _ = _
              unfold useFault; rw [e0, e1, if_neg (by rw [hm]; simp), if_neg (by rintro ⟨_, h9⟩; rw [hle] at h9; cases h9)]
            have hleb := hle
            unfold sle at hleb
            clear hm e0 e1 hle
            go_wp2
            go_roundg (gk - 1)
            case measure => have := HM.out; omega
            case rel =>
              refine ⟨⟨nd, rfl⟩, k + 1, by have := HM.out; omega, by go_num, fun j hj => ?_⟩
              rcases Nat.lt_or_ge j k with h1 | h1
              · exact HP.out j h1
              · have e : j = k := by omega
                subst e
                exact HF.out
    · have HF : Hid (useF us l = 0) := useF_none fun j hj => HP.out j (by omega)
      go_wp2
      go_ret
      exact GivesD.mk (vint HF.out.symm) ⟨nd, rfl⟩
end Go.Proofs.YtlcfgejaeecclaaGreatDoor

namespace Go.Proofs.YtlcfgejaeecclaaGreatDoor
open Go.RowKit Dw

def ptIs (fr : ByteArray) (s : Sh) : Bool := decide (s.pt = fr)
def ShIx (w : World) (l : List Sh) (fr : ByteArray) (m : Nat) (i : Value) (wr : World) : Prop :=
  Below w.heap.size w wr ∧ ∃ k : Nat, k + m = l.length ∧ i = .int .i64 k ∧ (l.take k).any (ptIs fr) = false
def GivesPosB (t : Bool) (w : World) (e : Ending) (w' : World) : Prop := ∃ z : Int, e = .returned (.int .i64 z) ∧ decide ((0 : Int) ≤ z) = t ∧ Below w.heap.size w w'
set_option maxRecDepth 100000 in
set_option maxHeartbeats 1000000 in
theorem ptIs_c (s : Sh) (p : Nat) (fr : ByteArray) (w : World) (hp : w.cell? ⟨p, 4, none⟩ = some (.string fr)) :
    Calls Tryz.prog 154 #[.agg #[.string s.pt, .string s.nu, .string s.de], .pointer (some ⟨p, 0, none⟩)] w (GivesB (.bool (ptIs fr s)) w) := by
  have hpl : p < w.heap.size := World.block_lt_of_cell? w _ hp
  by_cases h : s.pt = fr
  · have hb := beq_of_eq h
    have hv : ptIs fr s = true := by unfold ptIs; exact decide_eq_true h
    rw [hv]
    have HV := Lib.hid hv
    clear hv h
    go_enter Tryz.func154, Tryz.ntmps154
    go_wp2
    go_ret
    exact GivesB.mk rfl ((Below.refl w.heap.size w).alloc (Nat.le_refl _) _)
  · have hb := beq_of_ne h
    have hv : ptIs fr s = false := by unfold ptIs; exact decide_eq_false h
    rw [hv]
    have HV := Lib.hid hv
    clear hv h
    go_enter Tryz.func154, Tryz.ntmps154
    go_wp2
    go_ret
    exact GivesB.mk rfl ((Below.refl w.heap.size w).alloc (Nat.le_refl _) _)
set_option maxRecDepth 100000 in
set_option maxHeartbeats 1000000 in
theorem indexSh_c (A : Option Addr) (c p : Nat) (l : List Sh) (fr : ByteArray) (w : World) (hn : l.length ≤ 1000000) (h : Shs w A l) (hp : w.cell? ⟨p, 4, none⟩ = some (.string fr)) :
    Calls Tryz.prog 182 #[.slice A l.length c, .func (.func 154) #[] #[.pointer (some ⟨p, 0, none⟩)]] w (GivesPosB (l.any (ptIs fr)) w) := by
  have hpl : p < w.heap.size := World.block_lt_of_cell? w _ hp
  go_enter Tryz.func182, Tryz.ntmps182
  go_wp2
  go_loopg [8] l.length (ShIx w l fr)
  case atStart => exact ⟨Below.refl _ _, 0, by omega, rfl, rfl⟩
  case round =>
    obtain ⟨hbw, k, hk, rfl, hpre⟩ := hrel
    have HK := Lib.hid hk
    have HP := Lib.hid hpre
    have HBW := Lib.hid hbw
    clear hk hpre hbw
    by_cases hlt : k < l.length
    · obtain ⟨b, o, hA, hb, hc⟩ := (h.below HBW.out).at_ (by omega)
      subst hA
      obtain ⟨c0, c1, c2⟩ := hc k hlt
      clear hc
      have HE : Hid (l.take (k + 1) = l.take k ++ [l[k]]) := List.take_succ_eq_append_getElem hlt
      have HM : Hid (ptIs fr l[k] = true → l.any (ptIs fr) = true) := fun e => List.any_eq_true.2 ⟨l[k], List.getElem_mem hlt, e⟩
      have hcall := ptIs_c l[k] p fr wr ((HBW.out.cell (p := ⟨p, 4, none⟩) hpl).trans hp)
      have HCALL := Lib.hid hcall
      clear hcall
      go_wp2_with fail
      with_reducible refine HCALL.out.mono ?_
      rintro e w2 ⟨rfl, hb2⟩
      have HB2 := Lib.hid (below_trans HBW.out hb2)
      clear hb2 HCALL c0 c1 c2
      cases hx : ptIs fr l[k] with
      | true =>
        have HM2 := Lib.hid (HM.out hx)
        clear hx
        go_wp2
        go_ret
        exact ⟨(k : Int), rfl, by rw [HM2.out]; exact decide_eq_true (by omega), HB2.out⟩
      | false =>
        have HX := Lib.hid hx
        clear hx
        go_wp2
        go_roundg (gk - 1)
        case measure => have := HK.out; omega
        case rel => exact ⟨HB2.out, k + 1, by have := HK.out; omega, by go_num, by rw [HE.out, List.any_append, HP.out]; simp [HX.out]⟩
    · have HA : Hid (l.any (ptIs fr) = false) := by
        show _ = _
        have := HP.out
        rwa [List.take_of_length_le (by omega)] at this
      go_wp2
      go_ret
      exact ⟨-1, rfl, by rw [HA.out]; rfl, HBW.out⟩
set_option maxHeartbeats 400000 in
theorem containsSh_c (A : Option Addr) (c p : Nat) (l : List Sh) (fr : ByteArray) (w : World) (hn : l.length ≤ 1000000) (h : Shs w A l) (hp : w.cell? ⟨p, 4, none⟩ = some (.string fr)) :
    Calls Tryz.prog 153 #[.slice A l.length c, .func (.func 154) #[] #[.pointer (some ⟨p, 0, none⟩)]] w (GivesB (.bool (l.any (ptIs fr))) w) := by
  go_enter Tryz.func153, Tryz.ntmps153
  go_wp2_with fail
  refine (indexSh_c A c p l fr w hn h hp).mono ?_
  rintro e w1 ⟨z, rfl, hz, hb⟩
  have HZ := Lib.hid hz
  clear hz
  go_wp2
  go_ret
  exact GivesB.mk (vbool HZ.out) hb
end Go.Proofs.YtlcfgejaeecclaaGreatDoor
