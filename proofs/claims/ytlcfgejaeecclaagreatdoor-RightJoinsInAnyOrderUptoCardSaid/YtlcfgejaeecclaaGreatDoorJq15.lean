/- Package num: gcd. Titles, plainly: what Check of a title answers: no program in sight. Package num: natText. Package num: whole numbers and quotients, from 0 on. -/
import Derived.Test.YtlcfgejaeecclaaGreatDoorJq14
import Derived.Test.YtlcfgejaeecclaaGreatDoorJq01
import Derived.Test.YtlcfgejaeecclaaGreatDoorJq11
import Derived.Test.YtlcfgejaeecclaaGreatDoorJq06
import Derived.Lib.Strings
import Derived.Test.YtlcfgejaeecclaaGreatDoorJq02
namespace Go.Proofs.YtlcfgejaeecclaaGreatDoor
open Go.RowKit Dw

def GcRel (w : World) (G N : Nat) (m : Nat) (av bv : Value) (wr : World) : Prop :=
  ∃ (A : Option Addr) (c : Nat) (A2 : Option Addr) (c2 aa : Nat), av = ntV A c aa ∧ bv = ntV A2 c2 m ∧ Nt wr A c aa ∧ Nt wr A2 c2 m ∧ (words B32 aa).length ≤ N ∧ (words B32 m).length ≤ N ∧ Nat.gcd aa m = G ∧ Below w.heap.size w wr
def GcRel2 (w : World) (G : Nat) (m : Nat) (xv yv : Value) (wr : World) : Prop :=
  ∃ xx : Nat, xv = .int .u64 (xx : Int) ∧ yv = .int .u64 (m : Int) ∧ xx ≤ 18446744073709551615 ∧ m ≤ 18446744073709551615 ∧ Nat.gcd xx m = G ∧ Below w.heap.size w wr
set_option maxRecDepth 100000 in
set_option maxHeartbeats 2000000 in
theorem gcd_c (A A2 : Option Addr) (c c2 a b : Nat) (w : World) (h : Nt w A c a) (h2 : Nt w A2 c2 b) (hn : (words B32 a).length ≤ 400000) (hn2 : (words B32 b).length ≤ 400000) :
    Calls Tryz.prog 195 #[ntV A c a, ntV A2 c2 b] w (GivesN (Nat.gcd a b) w) := by
  go_enter Tryz.func195, Tryz.ntmps195
  go_wp2
  go_loopg [0, 1] b (GcRel w (Nat.gcd a b) 400000)
  case atStart => exact ⟨A, c, A2, c2, a, rfl, rfl, h, h2, hn, hn2, rfl, Below.refl _ _⟩
  case round =>
    clear h h2 hn hn2
    obtain ⟨A3, c3, A4, c4, aa, rfl, rfl, h, h2, hn, hn2, hG, hb⟩ := hrel
    have HG := Lib.hid hG
    have HB := Lib.hid hb
    clear hG hb
    rcases Nat.eq_zero_or_pos gk with h0 | h0
    · subst h0
      go_wp2
      go_ret
      have e : aa = Nat.gcd a b := by rw [← HG.out, Nat.gcd_zero_right]
      rw [← e]
      exact ⟨A3, c3, rfl, h, HB.out⟩
    · have hl : 0 < (words B32 gk).length := by
        rcases Nat.eq_zero_or_pos (words B32 gk).length with e | e
        · have := (words_nil B32_gt (n := gk)).1 (List.eq_nil_of_length_eq_zero e)
          omega
        · exact e
      by_cases hs : (words B32 aa).length ≤ 2 ∧ (words B32 gk).length ≤ 2
      · obtain ⟨hs1, hs2⟩ := hs
        have la := small_lt hs1
        have lb := small_lt hs2
        go_wp2_with fail
        with_reducible refine (small_yes A3 c3 aa _ h hs1).mono ?_
        rintro e w' ⟨rfl, nd, rfl⟩
        go_wp2_with fail
        with_reducible refine (small_yes A4 c4 gk _ (h2.drewN nd) hs2).mono ?_
        rintro e w' ⟨rfl, nd2, rfl⟩
        go_wp2
        have HB2 : Hid (Below w.heap.size w (wr.drewN (nd + nd2))) := below_drewN HB.out _
        obtain ⟨wo, hwo⟩ : ∃ wo : World, wo = wr.drewN (nd + nd2) := ⟨_, rfl⟩
        rw [← hwo] at HB2 ⊢
        clear hwo HB h0 hl
        go_loopg [5, 7] gk (GcRel2 w (Nat.gcd a b))
        case atStart => exact ⟨aa, rfl, rfl, la, lb, HG.out, HB2.out⟩
        case round =>
          clear HG la lb HB2
          obtain ⟨xx, rfl, rfl, hx, hy, hG2, hb2⟩ := hrel
          have HG2 := Lib.hid hG2
          clear hG2
          rcases Nat.eq_zero_or_pos gk with h0 | h0
          · subst h0
            go_wp2_with fail
            have e : xx = Nat.gcd a b := by rw [← HG2.out, Nat.gcd_zero_right]
            have HE := Lib.hid e
            clear e
            with_reducible refine (natOf_c xx _ (by omega)).mono ?_
            rintro e w5 ⟨A5, c5, rfl, h5, hb5⟩
            go_wp2
            go_ret
            rw [← HE.out]
            exact ⟨A5, c5, rfl, h5, below_trans hb2 hb5⟩
          · have hbz : ¬ gk = 0 := by omega
            obtain ⟨r, hr⟩ : ∃ r, xx % gk = r := ⟨_, rfl⟩
            have hrl : r < gk := by rw [← hr]; exact Nat.mod_lt _ h0
            have e2 : (xx : Int).tmod (gk : Int) = (r : Int) := by rw [IntWalk.rem_in _ _ (by omega), ← hr]; exact (Int.natCast_emod xx gk).symm
            have e4 : IntKind.u64.wrap (r : Int) = (r : Int) := IntWalk.u64_in _ (by omega)
            have HR := Lib.hid hr
            clear hr
            go_wp2
            go_quiet (fail)
            clear e2 e4 hbz
            go_wp2
            go_roundg r
            case measure => exact hrl
            case rel => exact ⟨gk, rfl, rfl, hy, by omega, by rw [← HG2.out, ← HR.out, ← gcd_step], below_drewN hb2 _⟩
      · have hsa := fun nd : Nat => small_c A3 c3 aa (wr.drewN nd) (h.drewN nd) (by omega)
        have hsb := fun nd : Nat => small_c A4 c4 gk (wr.drewN nd) (h2.drewN nd) (by omega)
        have hd := fun nd : Nat => Div_c A3 A4 c3 c4 aa gk (wr.drewN nd) (h.drewN nd) (h2.drewN nd) hn h0
        have hsa0 := small_c A3 c3 aa wr h (by omega)
        unfold smV at hsa hsb hsa0
        have HLB : Hid ((words B32 (aa % gk)).length ≤ 400000) := by
          show _ ≤ _
          exact Nat.le_trans (len_le_of_le B32_gt (Nat.le_of_lt (Nat.mod_lt aa h0))) hn2
        have hq : (decide ((words B32 aa).length ≤ 2) && decide ((words B32 gk).length ≤ 2)) = false := by
          rw [← Bool.decide_and]; exact decide_eq_false hs
        generalize decide ((words B32 aa).length ≤ 2) = p1 at *
        generalize decide ((words B32 gk).length ≤ 2) = p2 at *
        generalize (if (words B32 aa).length ≤ 2 then (aa : Int) else 0) = v1 at *
        generalize (if (words B32 gk).length ≤ 2 then (gk : Int) else 0) = v2 at *
        have HSA := Lib.hid hsa
        have HSB := Lib.hid hsb
        have HSA0 := Lib.hid hsa0
        have HD := Lib.hid hd
        clear hsa hsb hsa0 hd hs
        have HQ := Lib.hid hq
        clear hq
        cases p1
        case' true =>
          obtain rfl : p2 = false := by have := HQ.out; simpa using this
        all_goals
          go_wp2_with fail
          with_reducible refine HSA0.out.mono ?_
          rintro e w' ⟨rfl, nd, rfl⟩
          go_wp2_with fail
          with_reducible refine (HSB.out nd).mono ?_
          rintro e w' ⟨rfl, nd2, rfl⟩
          go_wp2_with fail
          with_reducible refine (HD.out (nd + nd2)).mono ?_
          rintro e w6 ⟨A5, c5, A6, c6, rfl, h5, h6, hb6⟩
          have hb7 : Below wr.heap.size wr w6 := (below_drewN (Below.refl wr.heap.size wr) _).trans hb6
          have hn7 := h2.below hb7
          have HB7 := Lib.hid (below_trans HB.out hb7)
          clear hb6 hb7 h5
          go_wp2
          go_roundg (aa % gk)
          case measure => exact Nat.mod_lt _ h0
          case rel => exact ⟨A4, c4, A6, c6, gk, rfl, rfl, hn7, h6, hn2, HLB.out, by rw [← HG.out, ← gcd_step], HB7.out⟩
end Go.Proofs.YtlcfgejaeecclaaGreatDoor

namespace Go.Proofs.YtlcfgejaeecclaaGreatDoor
open Dw

/-- A ratio in lowest terms. -/
def lowP (n d : Nat) : Nat × Nat := (n / Nat.gcd n d, d / Nat.gcd n d)
def addP (p q : Nat × Nat) : Nat × Nat := lowP (p.1 * q.2 + q.1 * p.2) (p.2 * q.2)
def dgB (c : UInt8) : Bool := decide (48 ≤ c.toNat) && decide (c.toNat ≤ 57)
/-- Digits of a whole number without a needless 0. -/
def numB (s : ByteArray) : Bool := s.data.toList.all dgB && (decide (s.size = 1) || decide (1 < s.size) && decide ((s.data.toList.headD 0).toNat ≠ 48))
def negB (s : ByteArray) : Bool := decide (0 < s.size) && decide ((s.data.toList.headD 0).toNat = 45)
def absL (s : ByteArray) : List UInt8 := if negB s = true then s.data.toList.tail else s.data.toList
def absN (s : ByteArray) : ByteArray := ⟨(absL s).toArray⟩
def zeroS : ByteArray := ⟨#[48]⟩
def valS (s : ByteArray) : Nat := decV s.data.toList
/-- What CheckRatio answers. -/
def ratF (nu de : ByteArray) : Int :=
  if numB (absN nu) = false ∨ (negB nu = true ∧ absN nu = zeroS) ∨ numB de = false ∨ de = zeroS then 3
  else if 2000 < (absN nu).size ∨ 2000 < de.size then 2
  else if Nat.gcd (valS (absN nu)) (valS de) = 1 then 0 else 3
def posB (nu : ByteArray) : Bool := !negB nu && decide (valS (absN nu) ≠ 0)

structure Sh where
  pt : ByteArray
  nu : ByteArray
  de : ByteArray
deriving Inhabited
structure De where
  id : ByteArray
  day : Int
  kd : Int
  th : ByteArray
  fr : ByteArray
  to_ : ByteArray
  nu : ByteArray
  de : ByteArray
  ex : Bool
  sb : Bool
  arA : Option Go.Addr
  ar : List Ar
  arc : Nat
  usA : Option Go.Addr
  us : List ByteArray
  usc : Nat
  bg : Int
  en : Int
  shA : Option Go.Addr
  sh : List Sh
  shc : Nat
  ot : ByteArray
deriving Inhabited

def dayB (n : Int) : Bool := decide (0 ≤ n) && decide (n ≤ 200000)
def ptAt (l : List Sh) (i : Nat) : ByteArray := (l.getD i default).pt
/-- What is wrong with share i alone. -/
def shFault (l : List Sh) (i : Nat) : Option Int :=
  if isNm (ptAt l i) = false then some 5
  else if 0 < i ∧ sle (ptAt l i) (ptAt l (i - 1)) = true then some 8
  else if ratF (l.getD i default).nu (l.getD i default).de ≠ 0 then some (ratF (l.getD i default).nu (l.getD i default).de)
  else if posB (l.getD i default).nu = false then some 1 else none
def sumP (l : List Sh) (k : Nat) : Nat × Nat := (l.take k).foldl (fun p s => addP p (valS (absN s.nu), valS s.de)) (0, 1)
/-- What is wrong with the shares, but for the clash with the giver. -/
def shF (kd : Int) (l : List Sh) : Int :=
  if l = [] then 9 else if 20 < l.length then 2 else
  match (List.range l.length).findSome? (shFault l) with
  | some f => f
  | none => if (sumP l l.length).2 < (sumP l l.length).1 ∨ (kd = 5 ∧ (sumP l l.length).1 ≠ (sumP l l.length).2) then 1 else 0
def usAt (l : List ByteArray) (i : Nat) : ByteArray := l.getD i default
def useFault (us l : List ByteArray) (i : Nat) : Option Int :=
  if memS us (usAt l i) = false then some 5 else if 0 < i ∧ sle (usAt l i) (usAt l (i - 1)) = true then some 8 else none
def useF (us l : List ByteArray) : Int := match (List.range l.length).findSome? (useFault us l) with
  | some f => f
  | none => 0
def givesB (k : Int) : Bool := decide (k = 2) || decide (k = 3)
/-- A field that the kind does not use is not zero. -/
def needB (d : De) : Bool :=
  (!(givesB d.kd || decide (d.kd = 1)) && decide (d.th ≠ emp)) || (!(givesB d.kd || decide (d.kd = 5)) && decide (d.fr ≠ emp)) || (!givesB d.kd && decide (d.to_ ≠ emp)) ||
  (!decide (d.kd = 2) && (decide (d.nu ≠ emp) || decide (d.de ≠ emp))) || (!decide (d.kd = 3) && (d.ex || d.sb)) || (!givesB d.kd && (decide (d.ar ≠ []) || decide (d.us ≠ []))) ||
  (!givesB d.kd && decide (d.en ≠ 0)) || (!(decide (d.kd = 1) || decide (d.kd = 5)) && decide (d.sh ≠ [])) || (!decide (d.kd = 4) && decide (d.ot ≠ emp))
/-- What is wrong with the part of an assignment. -/
def parF (d : De) : Int :=
  if d.kd ≠ 2 then 0 else if ratF d.nu d.de ≠ 0 then ratF d.nu d.de else if posB d.nu = false ∨ valS d.de < valS (absN d.nu) then 1 else 0
def giftF (rs : List Rg) (us : List ByteArray) (d : De) : Int :=
  if isNm d.th = false ∨ isNm d.fr = false ∨ isNm d.to_ = false then 5
  else if d.fr = d.to_ then 12
  else if parF d ≠ 0 then parF d
  else if chkA rs d.ar ≠ 0 then chkA rs d.ar
  else if leavesOf rs d.ar = [] ∨ d.us = [] then 9
  else if useF us d.us ≠ 0 then useF us d.us
  else if dayB d.bg = false ∨ dayB d.en = false then 1
  else if d.en ≤ d.bg then 8 else 0
def divF (pre : List De) (d : De) : Int :=
  if (d.kd = 1 ∧ isNm d.th = false) ∨ (d.kd = 5 ∧ isNm d.fr = false) then 5
  else if dayB d.bg = false then 1
  else if shF d.kd d.sh ≠ 0 then shF d.kd d.sh
  else if d.kd = 5 ∧ (d.sh.any fun s => decide (s.pt = d.fr)) = true then 12
  else if (pre.any fun p => decide (p.kd = d.kd) && decide (p.th = d.th) && decide (p.fr = d.fr)) = true then 7 else 0
def endF (pre : List De) (d : De) : Int :=
  if dayB d.bg = false then 1
  else if (pre.any fun p => decide (p.id = d.ot) && givesB p.kd) = false then 9
  else if (pre.any fun p => decide (p.kd = 4) && decide (p.ot = d.ot)) = true then 7 else 0
/-- Deed a stands before deed b. -/
def deLt (a b : De) : Bool := decide (a.day < b.day) || decide (a.day = b.day) && slt a.id b.id
def ordB (pre : List De) (d : De) : Bool := match pre.getLast? with
  | some p => deLt p d
  | none => true
def chkD (rs : List Rg) (us : List ByteArray) (pre : List De) (d : De) : Int :=
  if isNm d.id = false then 5
  else if dayB d.day = false then 1
  else if ordB pre d = false then 8
  else if (pre.any fun p => decide (p.id = d.id)) = true then 7
  else if d.kd < 1 ∨ 5 < d.kd then 4
  else if needB d = true then 3
  else if givesB d.kd = true then giftF rs us d
  else if d.kd = 4 then endF pre d else divF pre d
def deFault (rs : List Rg) (us : List ByteArray) (ds : List De) (k : Nat) : Option Int :=
  if chkD rs us (ds.take k) (ds.getD k default) ≠ 0 then some (chkD rs us (ds.take k) (ds.getD k default)) else none
def unFault (l : List ByteArray) (i : Nat) : Option Int :=
  if isNm (usAt l i) = false then some 5 else if 0 < i ∧ sle (usAt l i) (usAt l (i - 1)) = true then some 8 else none
/-- What Check of a title answers. -/
def chkT (rs : List Rg) (us : List ByteArray) (ds : List De) : Int :=
  if chkR rs ≠ 0 then chkR rs else if us = [] then 9 else if 20 < us.length then 2 else
  match (List.range us.length).findSome? (unFault us) with
  | some f => f
  | none => if 200 < ds.length then 2 else match (List.range ds.length).findSome? (deFault rs us ds) with
    | some f => f
    | none => 0
end Go.Proofs.YtlcfgejaeecclaaGreatDoor

namespace Go.Proofs.YtlcfgejaeecclaaGreatDoor
open Go.RowKit Dw

def encU : Nat → List Value := fun n => [u32V n]
abbrev OwnU (w : World) (B : Nat) (v : Value) (L : List Nat) : Prop := OwnL encU 1 w B 156 v L
theorem ownU_map (L : List Nat) : L.flatMap encU = L.map u32V := flat1 L
theorem OwnU.get {w : World} {B g c n : Nat} {L : List Nat} (h : OwnU w B (.slice (some ⟨g, 0, none⟩) n c) L) (hn : n = L.length) (i : Nat) (hi : i < L.length) : w.cell? ⟨g, i, none⟩ = some (.int .u32 ((L[i] : Nat) : Int)) ∧ w.frozen? ⟨g, i, none⟩ = false := by
  subst hn
  unfold OwnU OwnL at h
  rw [ownU_map] at h
  have h1 := World.ownsRow.cellAt h i (by omega)
  exact ⟨by rw [h1]; simp [hi, u32V], World.ownsRow.frozenAt h i⟩
theorem OwnU.put {w : World} {B g c n : Nat} {L : List Nat} (h : OwnU w B (.slice (some ⟨g, 0, none⟩) n c) L) (hn : n = L.length) (i x : Nat) :
    OwnU (w.setCell ⟨g, i, none⟩ (.int .u32 (x : Int))) B (.slice (some ⟨g, 0, none⟩) n c) (L.set i x) := by
  subst hn
  unfold OwnU OwnL at h ⊢
  rw [ownU_map] at h ⊢
  have h1 := (World.ownsRow.stored h i (.int .u32 (x : Int))).1
  rw [List.map_set, List.length_set]
  exact h1
theorem words_of {L : List Nat} (h : WLt B32 L) (h2 : L = [] ∨ B32 ^ (L.length - 1) ≤ wval B32 L) : L = words B32 (wval B32 L) := by
  rw [← wtrim_words B32_gt h]
  rcases h2 with rfl | h2
  · rfl
  · rcases Nat.eq_zero_or_pos L.length with h0 | h0
    · rw [List.eq_nil_of_length_eq_zero h0]; rfl
    · have e : L.length - 1 < L.length := by omega
      have h3 := wtrim_take_ne (L := L) (k := L.length - 1) e
      rw [show L.length - 1 + 1 = L.length by omega, List.take_length] at h3
      refine (h3 fun h0 => ?_).symm
      have h4 := wval_take (B := B32) (l := L) (i := L.length - 1) e
      rw [h0, show L.length - 1 + 1 = L.length by omega, List.take_length, Nat.mul_zero, Nat.add_zero] at h4
      have h5 := wval_lt (h.take (L.length - 1))
      rw [List.length_take, Nat.min_eq_left (by omega)] at h5
      omega
theorem dgB_of {c : UInt8} (h : dgB c = true) : 48 ≤ c.toNat ∧ c.toNat ≤ 57 := by
  unfold dgB at h
  simpa using h
theorem decV_snoc (l : List UInt8) (c : UInt8) : decV (l ++ [c]) = 10 * decV l + (c.toNat - 48) := by
  rw [decV_append]
  have : decV [c] = c.toNat - 48 := by simp [decV]
  rw [this]; simp; omega
theorem decV_dg {l : List UInt8} (h : l.all dgB = true) : decV l < 10 ^ l.length :=
  decV_lt fun c hc => by have := dgB_of (List.all_eq_true.1 h c hc); omega

theorem last_words {n : Nat} : words B32 n = [] ∨ B32 ^ ((words B32 n).length - 1) ≤ n := by
  rcases Nat.eq_zero_or_pos (words B32 n).length with h0 | h0
  · exact .inl (List.eq_nil_of_length_eq_zero h0)
  · have := wval_ge (B := B32) h0 (words_last B32_gt h0)
    rw [wval_words B32_gt] at this
    exact .inr this
/-- One word of a scaled number. -/
theorem scale_step {L L2 : List Nat} {i cy sc c0 t : Nat} (hi : i < L.length) (hl : L2.length = L.length) (hd : L2.drop i = L.drop i) (ht : t = cy + sc * L[i]) (hV : wval B32 (L2.take i) + B32 ^ i * cy = wval B32 (L.take i) * sc + c0) :
    wval B32 ((L2.set i (t % 4294967296)).take (i + 1)) + B32 ^ (i + 1) * (t / 4294967296) = wval B32 (L.take (i + 1)) * sc + c0 ∧ (L2.set i (t % 4294967296)).drop (i + 1) = L.drop (i + 1) := by
  refine ⟨?_, ?_⟩
  · rw [wval_put (by omega), wval_take hi]
    have e := scale_col (B := B32) (i := i) (o := wval B32 (L2.take i)) ht
    rw [B32_eq] at e ⊢
    rw [B32_eq] at hV
    rw [e, hV, Nat.add_mul, Nat.mul_assoc, Nat.mul_comm L[i] sc]
    omega
  · rw [List.drop_set_of_lt (Nat.lt_succ_self i)]
    have h1 := congrArg (List.drop 1) hd
    rwa [List.drop_drop, List.drop_drop] at h1
theorem scale_words {L2 : List Nat} {n cy N : Nat} (hW : WLt B32 L2) (hl : L2.length = (words B32 n).length) (hV : wval B32 L2 + B32 ^ (words B32 n).length * cy = N) (hn : n ≤ N) (hcy : cy < B32) :
    (cy = 0 → L2 = words B32 N) ∧ (0 < cy → L2 ++ [cy] = words B32 N) := by
  refine ⟨fun h => ?_, fun h => ?_⟩
  · rw [h, Nat.mul_zero, Nat.add_zero] at hV
    rw [← hV]
    refine words_of hW ?_
    rcases last_words (n := n) with e | e
    · rw [e] at hl
      exact .inl (List.eq_nil_of_length_eq_zero hl)
    · rw [hl, hV]
      exact .inr (Nat.le_trans e hn)
  · have e : wval B32 (L2 ++ [cy]) = N := by rw [wval_append, wval_one, hl, hV]
    rw [← e]
    refine words_of (hW.append (WLt.cons hcy WLt.nil)) (.inr ?_)
    rw [wval_append, wval_one]
    have h2 := Nat.mul_le_mul_left (B32 ^ L2.length) h
    rw [Nat.mul_one] at h2
    have e3 : (L2 ++ [cy]).length - 1 = L2.length := by simp
    rw [e3]
    exact Nat.le_trans h2 (Nat.le_add_left _ _)
/-- A round of natText: pre has been read, t is still to come. -/
def NtRel (w : World) (s : ByteArray) (m : Nat) (sv av : Value) (wr : World) : Prop :=
  ∃ (t : ByteArray) (pre : List UInt8) (A : Option Addr) (c : Nat), sv = .string t ∧ m = t.size ∧ pre ++ t.data.toList = s.data.toList ∧ av = ntV A c (decV pre) ∧ OwnU wr w.heap.size (ntV A c (decV pre)) (words B32 (decV pre)) ∧ Below w.heap.size w wr
def NtRel2 (w1 : World) (t : ByteArray) (k : Nat) (m : Nat) (cv scv iv : Value) (wr : World) : Prop :=
  ∃ i : Nat, i + m = k ∧ iv = .int .i64 i ∧ cv = .int .u64 ((decV (t.data.toList.take i) : Nat) : Int) ∧ scv = .int .u64 ((10 ^ i : Nat) : Int) ∧ wr = w1
def NtRel3 (w : World) (A : Option Addr) (c : Nat) (L : List Nat) (c0 sc : Nat) (m : Nat) (cv iv : Value) (wr : World) : Prop :=
  ∃ (i cy : Nat) (L2 : List Nat), i + m = L.length ∧ iv = .int .i64 i ∧ cv = .int .u64 (cy : Int) ∧ cy ≤ 1000000000 ∧ L2.length = L.length ∧ WLt B32 L2 ∧ L2.drop i = L.drop i ∧
    wval B32 (L2.take i) + B32 ^ i * cy = wval B32 (L.take i) * sc + c0 ∧ OwnU wr w.heap.size (.slice A L.length c) L2 ∧ Below w.heap.size w wr
theorem OwnU.nt {w : World} {B c n : Nat} {A : Option Addr} (h : OwnU w B (ntV A c n) (words B32 n)) : Nt w A c n := by
  have hcap : (words B32 n).length ≤ c := by
    rcases h.2 with ⟨h', hn⟩ | ⟨g', cap', cur, h', _, _, hnc, _⟩
    · rw [hn]; exact Nat.zero_le _
    · simp only [ntV, Value.slice.injEq] at h'
      omega
  obtain ⟨A', c', hv, hr⟩ := OwnL.rd1 (f := u32V) h
  simp only [ntV, Value.slice.injEq, true_and] at hv
  obtain ⟨rfl, rfl⟩ := hv
  exact ⟨hr, hcap⟩
theorem data_get' (s : ByteArray) (k : Nat) (h : k < s.size) : s.data.toList[k]'(by simpa using h) = s[k] := rfl
theorem decV_take {t : ByteArray} {i : Nat} (h : i < t.size) : decV (t.data.toList.take (i + 1)) = 10 * decV (t.data.toList.take i) + (t[i].toNat - 48) := by
  rw [List.take_succ_eq_append_getElem (by simpa using h), decV_snoc, data_get' t i h]
set_option maxRecDepth 100000 in
set_option maxHeartbeats 2000000 in
theorem natText_c (s : ByteArray) (w : World) (hd : s.data.toList.all dgB = true) (hs : s.size ≤ 2000) :
    Calls Tryz.prog 144 #[.string s] w (GivesN (valS s) w) := by
  go_enter Tryz.func144, Tryz.ntmps144
  go_wp2
  go_loopg [0, 3] s.size (NtRel w s)
  case atStart => exact ⟨s, [], none, 0, rfl, rfl, rfl, rfl, OwnL.nil encU 1 w w.heap.size 156, Below.refl _ _⟩
  case round =>
    obtain ⟨t, pre, A, c, rfl, hm, hpre, rfl, hown, hbw⟩ := hrel
    have HM := Lib.hid hm
    have HPRE := Lib.hid hpre
    have htd : t.data.toList.all dgB = true := by
      rw [← hpre, List.all_append, Bool.and_eq_true] at hd
      exact hd.2
    have hpd : pre.all dgB = true := by
      rw [← hpre, List.all_append, Bool.and_eq_true] at hd
      exact hd.1
    have hlen : pre.length + t.size ≤ 2000 := by
      have := congrArg List.length hpre
      rw [List.length_append] at this
      have e1 : t.data.toList.length = t.size := by simp
      have e2 : s.data.toList.length = s.size := by simp
      omega
    have HTD := Lib.hid htd
    have HPD := Lib.hid hpd
    have hwl : (words B32 (decV pre)).length ≤ 2000 := by
      have h1 := decV_dg hpd
      have h2 : 10 ^ pre.length ≤ B32 ^ pre.length := Nat.pow_le_pow_left (by decide) _
      have := len_le_of_lt B32_gt (Nat.lt_of_lt_of_le h1 h2)
      omega
    clear hm hpre htd hpd
    rcases Nat.eq_zero_or_pos t.size with h0 | h0
    · go_wp2
      go_ret
      have e : valS s = decV pre := by
        unfold valS
        rw [← HPRE.out, List.eq_nil_of_length_eq_zero (l := t.data.toList) (by simpa using h0), List.append_nil]
      rw [e]
      exact ⟨A, c, rfl, hown.nt, hbw⟩
    · obtain ⟨k, hk⟩ : ∃ k, k = min 9 t.size := ⟨_, rfl⟩
      have hmin : min (9 : Int) (t.size : Int) = (k : Int) := by rw [hk]; omega
      have hk1 : k ≤ 9 := by omega
      have hk2 : k ≤ t.size := by omega
      have hk3 : 1 ≤ k := by omega
      clear hk
      go_wp2
      obtain ⟨wo, hwo⟩ : ∃ wo : World, wo = wr := ⟨_, rfl⟩
      subst hwo
      clear hmin
      go_loopg [5, 6, 16] k (NtRel2 wo t k)
      case atStart => exact ⟨0, by omega, rfl, rfl, rfl, rfl⟩
      case round =>
        obtain ⟨i, him, rfl, rfl, rfl, hw⟩ := hrel
        subst hw
        have HIM := Lib.hid him
        clear him
        obtain ⟨cc, hcc⟩ : ∃ cc, decV (t.data.toList.take i) = cc := ⟨_, rfl⟩
        obtain ⟨sc, hsc⟩ : ∃ sc, 10 ^ i = sc := ⟨_, rfl⟩
        rw [hcc, hsc]
        have hcsc : cc < sc := by
          have h1 := decV_dg (l := t.data.toList.take i) (by
            rw [List.all_eq_true]
            exact fun x hx => List.all_eq_true.1 HTD.out x (List.mem_of_mem_take hx))
          rw [List.length_take] at h1
          have e2 : t.data.toList.length = t.size := by simp
          have e3 : min i t.data.toList.length = i := by have := HIM.out; omega
          rw [e3, hcc, hsc] at h1
          exact h1
        by_cases hlt : i < k
        · have hsc9 : sc ≤ 100000000 := by
            rw [← hsc]
            exact Nat.le_trans (Nat.pow_le_pow_right (by omega) (show i ≤ 8 by omega)) (by decide)
          have hit : i < t.size := by omega
          have hdg := dgB_of (List.all_eq_true.1 HTD.out t[i] (by rw [← data_get' t i hit]; exact List.getElem_mem _))
          obtain ⟨hd1, hd2⟩ := hdg
          have HCC := Lib.hid hcc
          have HSC := Lib.hid hsc
          clear hcc hsc
          go_wp2
          go_roundg (gk - 1)
          case measure => have := HIM.out; omega
          case rel =>
            refine ⟨i + 1, by have := HIM.out; omega, by go_num, ?_, ?_, rfl⟩
            · rw [decV_take hit, HCC.out]
              congr 1
              omega
            · rw [Nat.pow_succ, HSC.out]
              congr 1
              omega
        · obtain rfl : i = k := by have := HIM.out; omega
          have hsc9 : sc ≤ 1000000000 := by
            rw [← hsc]
            exact Nat.le_trans (Nat.pow_le_pow_right (by omega) hk1) (by decide)
          have hsc1 : 1 ≤ sc := by rw [← hsc]; exact Nat.pow_pos (by omega)
          have HNV : Hid (decV (pre ++ t.data.toList.take i) = decV pre * sc + cc) := by
            show _ = _
            have e2 : (t.data.toList.take i).length = i := by rw [List.length_take]; simp; omega
            rw [decV_append, e2, hcc, hsc]
          have HNX : Hid ((pre ++ t.data.toList.take i) ++ (t.extract i t.size).data.toList = s.data.toList) := by
            show _ = _
            rw [List.append_assoc, Lib.extract_data, List.take_of_length_le (l := List.drop i t.data.toList) (by rw [List.length_drop]; simp), List.take_append_drop]
            exact HPRE.out
          have hxs : (t.extract i t.size).size = t.size - i := by simp
          have HXS := Lib.hid hxs
          have hL := words_lt B32_gt (decV pre)
          have HWV := Lib.hid (wval_words B32_gt (decV pre))
          have HLW : Hid (∀ (L2 : List Nat) (cy : Nat), WLt B32 L2 → L2.length = (words B32 (decV pre)).length → wval B32 L2 + B32 ^ (words B32 (decV pre)).length * cy = decV pre * sc + cc → cy < B32 → (cy = 0 → L2 = words B32 (decV pre * sc + cc)) ∧ (0 < cy → L2 ++ [cy] = words B32 (decV pre * sc + cc))) :=
            fun L2 cy h1 h2 h3 h4 => scale_words h1 h2 h3 (Nat.le_trans (Nat.le_mul_of_pos_right _ hsc1) (Nat.le_add_right _ _)) h4
          clear hcc hsc hxs
          unfold ntV at hown ⊢
          obtain ⟨L, hLd⟩ : ∃ L, words B32 (decV pre) = L := ⟨_, rfl⟩
          rw [hLd] at hown hL HWV HLW hwl
          rw [hLd]
          have HLD := Lib.hid hLd
          clear hLd
          go_wp2
          have HBW := Lib.hid hbw
          clear hbw
          go_loopg [5, 35] L.length (NtRel3 w A c L cc sc)
          case atStart => exact ⟨0, cc, L, by omega, rfl, rfl, by omega, rfl, hL, rfl, by simp [wval], hown, HBW.out⟩
          case round =>
            clear hown HBW
            obtain ⟨j, cy, L2, hjm, rfl, rfl, hcy, hl2, hW2, hdr, hV2, hown, hbw⟩ := hrel
            have HJM := Lib.hid hjm
            have HL2 := Lib.hid hl2
            have HDR := Lib.hid hdr
            have HV2 := Lib.hid hV2
            clear hjm hl2 hdr hV2
            by_cases hj : j < L.length
            · have hj2 : j < L2.length := by have := HL2.out; omega
              have e2 : L2[j] = L[j] := by
                have h1 := HDR.out
                rw [List.drop_eq_getElem_cons hj2, List.drop_eq_getElem_cons hj] at h1
                injection h1
              obtain ⟨g, cap', hv, _, hglt⟩ := World.ownsRow.form hown (by omega)
              simp only [Value.slice.injEq] at hv
              obtain ⟨rfl, _, _⟩ := hv
              obtain ⟨hc1, hf1⟩ := OwnU.get hown HL2.out.symm j hj2
              rw [e2] at hc1
              have hx : L[j] < 4294967296 := hL.get j hj
              obtain ⟨p, hp⟩ : ∃ p, p = sc * L[j] := ⟨_, rfl⟩
              have hpB : p ≤ 1000000000 * 4294967295 := by rw [hp]; exact Nat.mul_le_mul hsc9 (by omega)
              have hpe : (sc : Int) * (L[j] : Int) = (p : Int) := by rw [hp]; exact (Int.natCast_mul _ _).symm
              obtain ⟨T, hT⟩ : ∃ T, T = cy + p := ⟨_, rfl⟩
              have hTe : (cy : Int) + (p : Int) = (T : Int) := by rw [hT]; exact (Int.natCast_add _ _).symm
              have hTB : T ≤ 4294967296000000000 := by omega
              have hst := scale_step (t := T) hj HL2.out HDR.out (by rw [hT, hp]) HV2.out
              have HST := Lib.hid hst
              clear hp hT hst e2 hpB
              go_wp2
              go_roundg (gk - 1)
              case measure => have := HJM.out; omega
              case rel =>
                refine ⟨j + 1, T / 4294967296, L2.set j (T % 4294967296), by have := HJM.out; omega, by go_num, rfl, by omega, by rw [List.length_set]; exact HL2.out, hW2.set (modB T) j, HST.out.2, HST.out.1, OwnU.put hown HL2.out.symm j _, hbw.setCell (World.ownsRow.lt hown g (by simp [Value.ownBlock])).1 _⟩
            · obtain rfl : j = L.length := by have := HJM.out; omega
              have hres := HLW.out L2 cy hW2 HL2.out (by
                have h1 := HV2.out
                rw [List.take_of_length_le (by have := HL2.out; omega), List.take_of_length_le (Nat.le_refl _), HWV.out] at h1
                exact h1) (by rw [B32_eq]; omega)
              have HRES := Lib.hid hres
              clear hres
              rcases Nat.eq_zero_or_pos cy with h0 | h0
              · subst h0
                have hlw := HRES.out.1 rfl
                have HLW2 := Lib.hid hlw
                clear hlw
                go_wp2
                go_roundg (t.size - i)
                case measure => have := HM.out; omega
                case rel =>
                  have e := HLW2.out
                  have e2 := HL2.out
                  refine ⟨t.extract i t.size, pre ++ t.data.toList.take i, A, c, rfl, HXS.out.symm, HNX.out, ?_, ?_, hbw⟩
                  · rw [HNV.out]
                    show Value.slice A L.length c = .slice A (words B32 (decV pre * sc + cc)).length c
                    rw [← e, e2]
                  · rw [HNV.out]
                    show OwnU wr w.heap.size (.slice A (words B32 (decV pre * sc + cc)).length c) (words B32 (decV pre * sc + cc))
                    rw [← e, e2]; exact hown
              · have hlw := HRES.out.2 h0
                have HLW2 := Lib.hid hlw
                have hl2 := HL2.out
                clear hlw
                rw [← hl2] at hown hwl ⊢
                go_wp2_with (at_builtin; refine wpList_pushS _ _ _ elNat rfl rfl w.heap.size _ L2 rfl (OwnL.alloc hown _) wr.heap.size 1 cy rfl (heap_alloc_new _ _) rfl (by simp [encU, u32V, Value.oneCell']) (by unfold maxLen; omega) (by omega) (by simp; exact Nat.le_succ_of_le hbw.size) ?_; intro A7 c7 w7 hown7 hg7 hb7 hat7)
                have hbw7 := (hbw.alloc hbw.size _).trans hb7
                go_wp2
                go_roundg (t.size - i)
                case measure => have := HM.out; omega
                case rel =>
                  have e := HLW2.out
                  have e3 : (words B32 (decV pre * sc + cc)).length = L2.length + 1 := by rw [← e]; simp
                  refine ⟨t.extract i t.size, pre ++ t.data.toList.take i, A7, c7, rfl, HXS.out.symm, HNX.out, ?_, ?_, hbw7⟩
                  · rw [HNV.out]
                    show Value.slice A7 (L.length + 1) c7 = .slice A7 (words B32 (decV pre * sc + cc)).length c7
                    rw [e3, HL2.out]
                  · rw [HNV.out]
                    show OwnU w7 w.heap.size (.slice A7 (words B32 (decV pre * sc + cc)).length c7) (words B32 (decV pre * sc + cc))
                    rw [e3, ← e]; exact hown7
end Go.Proofs.YtlcfgejaeecclaaGreatDoor

namespace Go.Proofs.YtlcfgejaeecclaaGreatDoor
open Go.RowKit Dw

abbrev inV (ng : Bool) (A : Option Addr) (c n : Nat) : Value := .agg #[.bool ng, .slice A (words B32 n).length c]
abbrev raV (ng : Bool) (A : Option Addr) (c n : Nat) (A2 : Option Addr) (c2 d : Nat) : Value := .agg #[.bool ng, .slice A (words B32 n).length c, .slice A2 (words B32 d).length c2]
def GivesI (ng : Bool) (n : Nat) (w : World) (e : Ending) (w' : World) : Prop := ∃ A c, e = .returned (inV ng A c n) ∧ Nt w' A c n ∧ Below w.heap.size w w'
def GivesR (ng : Bool) (n d : Nat) (w : World) (e : Ending) (w' : World) : Prop :=
  ∃ A c A2 c2, e = .returned (raV ng A c n A2 c2 d) ∧ Nt w' A c n ∧ Nt w' A2 c2 d ∧ Below w.heap.size w w'

theorem bcellK {W w1 : World} (hb : Below W.heap.size W w1) : (∀ b o, b < W.heap.size → w1.cell? ⟨b, o, none⟩ = W.cell? ⟨b, o, none⟩) ∧ (∀ b o, b < W.heap.size → w1.frozen? ⟨b, o, none⟩ = W.frozen? ⟨b, o, none⟩) :=
  ⟨fun b o h => hb.cell (p := ⟨b, o, none⟩) h, fun b o h => hb.frozen (p := ⟨b, o, none⟩) h⟩
theorem Nt.alloc {w : World} {A : Option Addr} {c n : Nat} (h : Nt w A c n) (o : Obj) : Nt (w.alloc o) A c n := ⟨h.rd.alloc o, h.cap⟩
theorem Nt.drew {w : World} {A : Option Addr} {c n : Nat} (h : Nt w A c n) : Nt w.drew A c n := ⟨h.rd, h.cap⟩
/-- A store into a cell that holds no word leaves a number as it is. -/
theorem Nt.set {w : World} {A : Option Addr} {c n : Nat} {p : Addr} {v : Value} (h : Nt w A c n) (hp : w.cell? p = some v) (hv : ∀ x : Nat, v ≠ u32V x) (u : Value) : Nt (w.setCell p u) A c n := by
  refine ⟨fun hl => ?_, h.cap⟩
  obtain ⟨b, o, rfl, hc⟩ := h.rd hl
  refine ⟨b, o, rfl, fun i hi => ?_⟩
  rw [World.cell?_setCell_other _ _ _ _ (fun e => ?_)]
  · exact hc i hi
  · have h1 := hc i hi
    rw [← e] at h1
    rw [hp] at h1
    injection h1 with h1
    exact hv _ h1
theorem Nt.set2 {w : World} {A : Option Addr} {c n R : Nat} {v0 v1 : Value} (h : Nt w A c n) (h0 : w.cell? ⟨R, 0, none⟩ = some v0) (h1 : w.cell? ⟨R, 1, none⟩ = some v1) (n0 : ∀ x : Nat, v0 ≠ u32V x) (n1 : ∀ x : Nat, v1 ≠ u32V x) (u0 u1 : Value) :
    Nt ((w.setCell ⟨R, 0, none⟩ u0).setCell ⟨R, 1, none⟩ u1) A c n :=
  (h.set h0 n0 u0).set (by rw [World.cell?_setCell_other _ _ _ _ (fun e => by injection e with _ e; exact absurd e (by decide))]; exact h1) n1 u1
theorem Nt.set3 {w : World} {A : Option Addr} {c n R : Nat} {v0 v1 v2 : Value} (h : Nt w A c n) (h0 : w.cell? ⟨R, 0, none⟩ = some v0) (h1 : w.cell? ⟨R, 1, none⟩ = some v1) (h2 : w.cell? ⟨R, 2, none⟩ = some v2) (n0 : ∀ x : Nat, v0 ≠ u32V x) (n1 : ∀ x : Nat, v1 ≠ u32V x) (n2 : ∀ x : Nat, v2 ≠ u32V x) (u0 u1 u2 : Value) :
    Nt (((w.setCell ⟨R, 0, none⟩ u0).setCell ⟨R, 1, none⟩ u1).setCell ⟨R, 2, none⟩ u2) A c n :=
  (h.set2 h0 h1 n0 n1 u0 u1).set (by
    rw [World.cell?_setCell_other _ _ _ _ (fun e => by injection e with _ e; exact absurd e (by decide)), World.cell?_setCell_other _ _ _ _ (fun e => by injection e with _ e; exact absurd e (by decide))]; exact h2) n2 u2
theorem nb_ (b : Bool) (x : Nat) : Value.bool b ≠ u32V x := fun e => by cases e
theorem ns_ (A : Option Addr) (n c x : Nat) : Value.slice A n c ≠ u32V x := fun e => by cases e
set_option maxHeartbeats 1000000 in
theorem IMul_c (A A2 : Option Addr) (c c2 a b : Nat) (w : World) (h : Nt w A c a) (h2 : Nt w A2 c2 b) (hn : (words B32 a).length ≤ 400000) (hm : (words B32 b).length ≤ 400000) :
    Calls Tryz.prog 146 #[inV false A c a, inV false A2 c2 b] w (GivesI false (a * b) w) := by
  go_enter Tryz.func146, Tryz.ntmps146
  go_wp2_with fail
  with_reducible refine (Mul_c A A2 c c2 a b _ (((h.alloc _).alloc _).alloc _) (((h2.alloc _).alloc _).alloc _) hn hm).mono ?_
  rintro e w1 ⟨A5, c5, rfl, h5, hb⟩
  obtain ⟨hc, hf⟩ := bcellK hb
  have hz : w.heap.size + 2 < w1.heap.size := by have := hb.size; simp at this; omega
  have c0 : w1.cell? ⟨w.heap.size + 1 + 1, 0, none⟩ = some (.bool false) := by rw [hc _ _ (by simp)]; go_simp
  have c1 : w1.cell? ⟨w.heap.size + 1 + 1, 1, none⟩ = some (.slice none 0 0) := by rw [hc _ _ (by simp)]; go_simp
  have HB : Hid (Below w.heap.size w w1) := ((((Below.refl w.heap.size w).alloc (Nat.le_refl _) _).alloc (by simp) _).alloc (by simp; omega) _).trans (hb.mono (by simp; omega))
  go_wp2
  refine bodyPost_ret (v := inV false A5 c5 (a * b)) (by simp [results, Tryz.results146, go_sem, hc]) rfl ⟨A5, c5, rfl, ?_, ?_⟩
  · exact h5.set2 c0 c1 (nb_ _) (ns_ _ _ _) _ _
  · exact (HB.out.setCell (by simp; omega) _).setCell (by simp; omega) _
set_option maxHeartbeats 1000000 in
theorem ICmp_c (A A2 : Option Addr) (c c2 a b : Nat) (w : World) (h : Nt w A c a) (h2 : Nt w A2 c2 b) (hn : (words B32 a).length ≤ 400000) :
    Calls Tryz.prog 147 #[inV false A c a, inV false A2 c2 b] w (GivesB (.int .i64 (cmpN a b)) w) := by
  go_enter Tryz.func147, Tryz.ntmps147
  go_wp2_with fail
  with_reducible refine (Cmp_c A A2 c c2 a b _ ((h.alloc _).alloc _) ((h2.alloc _).alloc _) (by omega)).mono ?_
  rintro e w1 ⟨rfl, nd, rfl⟩
  go_wp2
  go_ret
  exact GivesB.mk rfl (below_drewN (((Below.refl w.heap.size w).alloc (Nat.le_refl _) _).alloc (by simp) _) nd)
set_option maxHeartbeats 1000000 in
theorem IAdd_c (A A2 : Option Addr) (c c2 a b : Nat) (w : World) (h : Nt w A c a) (h2 : Nt w A2 c2 b) (hn : (words B32 a).length ≤ 400000) (hm : (words B32 b).length ≤ 400000) :
    Calls Tryz.prog 181 #[inV false A c a, inV false A2 c2 b] w (GivesI false (a + b) w) := by
  have HA := Lib.hid (fun W (q : Nt W A c a) (q2 : Nt W A2 c2 b) => Add_c A A2 c c2 a b W q q2 (by omega) (by omega))
  go_enter Tryz.func181, Tryz.ntmps181
  go_wp2
  go_region_held3 (fun w' => w'.cell? ⟨w.heap.size, 0, none⟩ = some (.bool false) ∧ w'.cell? ⟨w.heap.size, 1, none⟩ = some (.slice A (words B32 a).length c) ∧ w'.cell? ⟨w.heap.size + 1, 1, none⟩ = some (.slice A2 (words B32 b).length c2)) ((refine ⟨?_, ?_, ?_⟩ <;> go_simp))
    (first
      | ((go_at_call 201; (with_reducible refine (HA.out _ (Nt.drew (((h.alloc _).alloc _).alloc _)) (Nt.drew (((h2.alloc _).alloc _).alloc _))).mono ?_); rintro e w1 ⟨A5, c5, rfl, h5, hb⟩; obtain ⟨hc, hf⟩ := bcellK hb; have hz : w.heap.size + 2 < w1.heap.size := by (have := hb.size; simp at this; omega))))
  have c0 : w1.cell? ⟨w.heap.size + 1 + 1, 0, none⟩ = some (.bool false) := by rw [hc _ _ (by simp)]; go_simp
  have c1 : w1.cell? ⟨w.heap.size + 1 + 1, 1, none⟩ = some (.slice none 0 0) := by rw [hc _ _ (by simp)]; go_simp
  have HB : Hid (Below w.heap.size w w1) := (below_drewN ((((Below.refl w.heap.size w).alloc (Nat.le_refl _) _).alloc (by simp) _).alloc (by simp; omega) _) 1).trans (hb.mono (by simp; omega))
  go_wp2
  refine bodyPost_ret (v := inV false A5 c5 (a + b)) (by simp [results, Tryz.results181, go_sem, hc]) rfl ⟨A5, c5, rfl, ?_, ?_⟩
  · exact h5.set2 c0 c1 (nb_ _) (ns_ _ _ _) _ _
  · exact (HB.out.setCell (by simp; omega) _).setCell (by simp; omega) _
/-- The sign of a whole number. -/
def sgnI (ng : Bool) (n : Nat) : Int := if ng = true then -1 else if n = 0 then 0 else 1
theorem ISign_c (ng : Bool) (A : Option Addr) (c n : Nat) (w : World) : Calls Tryz.prog 145 #[inV ng A c n] w (GivesB (.int .i64 (sgnI ng n)) w) := by
  cases ng with
  | true =>
    go_enter Tryz.func145, Tryz.ntmps145
    go_wp2
    go_ret
    exact GivesB.mk rfl ((Below.refl w.heap.size w).alloc (Nat.le_refl _) _)
  | false =>
    by_cases h0 : n = 0
    · subst h0
      go_enter Tryz.func145, Tryz.ntmps145
      go_wp2
      go_ret
      exact GivesB.mk rfl ((Below.refl w.heap.size w).alloc (Nat.le_refl _) _)
    · have hl : 0 < (words B32 n).length := by
        rcases Nat.eq_zero_or_pos (words B32 n).length with e | e
        · exact absurd ((words_nil B32_gt (n := n)).1 (List.eq_nil_of_length_eq_zero e)) h0
        · exact e
      have hr : sgnI false n = 1 := by simp [sgnI, h0]
      rw [hr]
      have HR := Lib.hid hr
      clear hr h0
      go_enter Tryz.func145, Tryz.ntmps145
      go_wp2
      go_ret
      exact GivesB.mk rfl ((Below.refl w.heap.size w).alloc (Nat.le_refl _) _)
theorem RSign_c (ng : Bool) (A A2 : Option Addr) (c c2 n d : Nat) (w : World) : Calls Tryz.prog 110 #[raV ng A c n A2 c2 d] w (GivesB (.int .i64 (sgnI ng n)) w) := by
  go_enter Tryz.func110, Tryz.ntmps110
  go_wp2_with fail
  with_reducible refine (ISign_c ng A c n _).mono ?_
  rintro e w1 ⟨rfl, hb⟩
  go_wp2
  go_ret
  exact GivesB.mk rfl (((Below.refl w.heap.size w).alloc (Nat.le_refl _) _).trans (hb.mono (by simp)))
end Go.Proofs.YtlcfgejaeecclaaGreatDoor
