/- Parts of the proof, joined: Titles, plainly: what Check of a title answers: no program in sight. P. -/
import Derived.Test.YtlcfgejaeecclaaGreatDoorZq03
import Derived.Lib.Strings
set_option maxRecDepth 100000
set_option maxHeartbeats 8000000
namespace Go.Proofs.YtlcfgejaeecclaaGreatDoor
open Dw
def lowP (n d : Nat) : Nat × Nat := (n / Nat.gcd n d, d / Nat.gcd n d)
def addP (p q : Nat × Nat) : Nat × Nat := lowP (p.1 * q.2 + q.1 * p.2) (p.2 * q.2)
def dgB (c : UInt8) : Bool := decide (48 ≤ c.toNat) && decide (c.toNat ≤ 57)
def numB (s : ByteArray) : Bool := s.data.toList.all dgB && (decide (s.size = 1) || decide (1 < s.size) && decide ((s.data.toList.headD 0).toNat ≠ 48))
def negB (s : ByteArray) : Bool := decide (0 < s.size) && decide ((s.data.toList.headD 0).toNat = 45)
def absL (s : ByteArray) : List UInt8 := if negB s = true then s.data.toList.tail else s.data.toList
def absN (s : ByteArray) : ByteArray := ⟨(absL s).toArray⟩
def zeroS : ByteArray := ⟨#[48]⟩
def valS (s : ByteArray) : Nat := decV s.data.toList
def ratF (nu de : ByteArray) : Int :=
 if numB (absN nu) = false ∨ (negB nu = true ∧ absN nu = zeroS) ∨ numB de = false ∨ de = zeroS then 3
 else if 2000 < (absN nu).size ∨ 2000 < de.size then 2
 else if Nat.gcd (valS (absN nu)) (valS de) = 1 then 0 else 3
def posB (nu : ByteArray) : Bool := !negB nu && decide (valS (absN nu) ≠ 0)
structure Sh where
 pt : ByteArray
 nu : ByteArray
 de : ByteArray
deriving Inhabited
structure De where
 id : ByteArray
 day : Int
 kd : Int
 th : ByteArray
 fr : ByteArray
 to_ : ByteArray
 nu : ByteArray
 de : ByteArray
 ex : Bool
 sb : Bool
 arA : Option Go.Addr
 ar : List Ar
 arc : Nat
 usA : Option Go.Addr
 us : List ByteArray
 usc : Nat
 bg : Int
 en : Int
 shA : Option Go.Addr
 sh : List Sh
 shc : Nat
 ot : ByteArray
deriving Inhabited
def dayB (n : Int) : Bool := decide (0 ≤ n) && decide (n ≤ 200000)
def ptAt (l : List Sh) (i : Nat) : ByteArray := (l.getD i default).pt
def shFault (l : List Sh) (i : Nat) : Option Int :=
 if isNm (ptAt l i) = false then some 5
 else if 0 < i ∧ sle (ptAt l i) (ptAt l (i - 1)) = true then some 8
 else if ratF (l.getD i default).nu (l.getD i default).de ≠ 0 then some (ratF (l.getD i default).nu (l.getD i default).de)
 else if posB (l.getD i default).nu = false then some 1 else none
def sumP (l : List Sh) (k : Nat) : Nat × Nat := (l.take k).foldl (fun p s => addP p (valS (absN s.nu), valS s.de)) (0, 1)
def shF (kd : Int) (l : List Sh) : Int :=
 if l = [] then 9 else if 20 < l.length then 2 else
 match (List.range l.length).findSome? (shFault l) with
 | some f => f
 | none => if (sumP l l.length).2 < (sumP l l.length).1 ∨ (kd = 5 ∧ (sumP l l.length).1 ≠ (sumP l l.length).2) then 1 else 0
def usAt (l : List ByteArray) (i : Nat) : ByteArray := l.getD i default
def useFault (us l : List ByteArray) (i : Nat) : Option Int :=
 if memS us (usAt l i) = false then some 5 else if 0 < i ∧ sle (usAt l i) (usAt l (i - 1)) = true then some 8 else none
def useF (us l : List ByteArray) : Int := match (List.range l.length).findSome? (useFault us l) with
 | some f => f
 | none => 0
def givesB (k : Int) : Bool := decide (k = 2) || decide (k = 3)
def needB (d : De) : Bool :=
 (!(givesB d.kd || decide (d.kd = 1)) && decide (d.th ≠ emp)) || (!(givesB d.kd || decide (d.kd = 5)) && decide (d.fr ≠ emp)) || (!givesB d.kd && decide (d.to_ ≠ emp)) ||
 (!decide (d.kd = 2) && (decide (d.nu ≠ emp) || decide (d.de ≠ emp))) || (!decide (d.kd = 3) && (d.ex || d.sb)) || (!givesB d.kd && (decide (d.ar ≠ []) || decide (d.us ≠ []))) ||
 (!givesB d.kd && decide (d.en ≠ 0)) || (!(decide (d.kd = 1) || decide (d.kd = 5)) && decide (d.sh ≠ [])) || (!decide (d.kd = 4) && decide (d.ot ≠ emp))
def parF (d : De) : Int :=
 if d.kd ≠ 2 then 0 else if ratF d.nu d.de ≠ 0 then ratF d.nu d.de else if posB d.nu = false ∨ valS d.de < valS (absN d.nu) then 1 else 0
def giftF (rs : List Rg) (us : List ByteArray) (d : De) : Int :=
 if isNm d.th = false ∨ isNm d.fr = false ∨ isNm d.to_ = false then 5
 else if d.fr = d.to_ then 12
 else if parF d ≠ 0 then parF d
 else if chkA rs d.ar ≠ 0 then chkA rs d.ar
 else if leavesOf rs d.ar = [] ∨ d.us = [] then 9
 else if useF us d.us ≠ 0 then useF us d.us
 else if dayB d.bg = false ∨ dayB d.en = false then 1
 else if d.en ≤ d.bg then 8 else 0
def divF (pre : List De) (d : De) : Int :=
 if (d.kd = 1 ∧ isNm d.th = false) ∨ (d.kd = 5 ∧ isNm d.fr = false) then 5
 else if dayB d.bg = false then 1
 else if shF d.kd d.sh ≠ 0 then shF d.kd d.sh
 else if d.kd = 5 ∧ (d.sh.any fun s => decide (s.pt = d.fr)) = true then 12
 else if (pre.any fun p => decide (p.kd = d.kd) && decide (p.th = d.th) && decide (p.fr = d.fr)) = true then 7 else 0
def endF (pre : List De) (d : De) : Int :=
 if dayB d.bg = false then 1
 else if (pre.any fun p => decide (p.id = d.ot) && givesB p.kd) = false then 9
 else if (pre.any fun p => decide (p.kd = 4) && decide (p.ot = d.ot)) = true then 7 else 0
def deLt (a b : De) : Bool := decide (a.day < b.day) || decide (a.day = b.day) && slt a.id b.id
def ordB (pre : List De) (d : De) : Bool := match pre.getLast? with
 | some p => deLt p d
 | none => true
def chkD (rs : List Rg) (us : List ByteArray) (pre : List De) (d : De) : Int :=
 if isNm d.id = false then 5
 else if dayB d.day = false then 1
 else if ordB pre d = false then 8
 else if (pre.any fun p => decide (p.id = d.id)) = true then 7
 else if d.kd < 1 ∨ 5 < d.kd then 4
 else if needB d = true then 3
 else if givesB d.kd = true then giftF rs us d
 else if d.kd = 4 then endF pre d else divF pre d
def deFault (rs : List Rg) (us : List ByteArray) (ds : List De) (k : Nat) : Option Int :=
 if chkD rs us (ds.take k) (ds.getD k default) ≠ 0 then some (chkD rs us (ds.take k) (ds.getD k default)) else none
def unFault (l : List ByteArray) (i : Nat) : Option Int :=
 if isNm (usAt l i) = false then some 5 else if 0 < i ∧ sle (usAt l i) (usAt l (i - 1)) = true then some 8 else none
def chkT (rs : List Rg) (us : List ByteArray) (ds : List De) : Int :=
 if chkR rs ≠ 0 then chkR rs else if us = [] then 9 else if 20 < us.length then 2 else
 match (List.range us.length).findSome? (unFault us) with
 | some f => f
 | none => if 200 < ds.length then 2 else match (List.range ds.length).findSome? (deFault rs us ds) with
  | some f => f
  | none => 0
open Go.RowKit Dw
def encU : Nat → List Value := fun n => [u32V n]
abbrev OwnU (w : World) (B : Nat) (v : Value) (L : List Nat) : Prop := OwnL encU 1 w B 156 v L
theorem ownU_map (L : List Nat) : L.flatMap encU = L.map u32V := flat1 L
theorem OwnU.get {w : World} {B g c n : Nat} {L : List Nat} (h : OwnU w B (.slice (some ⟨g, 0, none⟩) n c) L) (hn : n = L.length) (i : Nat) (hi : i < L.length) : w.cell? ⟨g, i, none⟩ = some (.int .u32 ((L[i] : Nat) : Int)) ∧ w.frozen? ⟨g, i, none⟩ = false := by
 subst hn
 unfold OwnU OwnL at h
 rw [ownU_map] at h
 have h1 := World.ownsRow.cellAt h i (by omega)
 exact ⟨by rw [h1]; simp [hi, u32V], World.ownsRow.frozenAt h i⟩
theorem OwnU.put {w : World} {B g c n : Nat} {L : List Nat} (h : OwnU w B (.slice (some ⟨g, 0, none⟩) n c) L) (hn : n = L.length) (i x : Nat) :
  OwnU (w.setCell ⟨g, i, none⟩ (.int .u32 (x : Int))) B (.slice (some ⟨g, 0, none⟩) n c) (L.set i x) := by
 subst hn
 unfold OwnU OwnL at h ⊢
 rw [ownU_map] at h ⊢
 have h1 := (World.ownsRow.stored h i (.int .u32 (x : Int))).1
 rw [List.map_set, List.length_set]
 exact h1
theorem words_of {L : List Nat} (h : WLt B32 L) (h2 : L = [] ∨ B32 ^ (L.length - 1) ≤ wval B32 L) : L = words B32 (wval B32 L) := by
 rw [← wtrim_words B32_gt h]
 rcases h2 with rfl | h2
 ·rfl
 ·rcases Nat.eq_zero_or_pos L.length with h0 | h0
  ·rw [List.eq_nil_of_length_eq_zero h0]; rfl
  ·have e : L.length - 1 < L.length := by omega
   have h3 := wtrim_take_ne (L := L) (k := L.length - 1) e
   rw [show L.length - 1 + 1 = L.length by omega, List.take_length] at h3
   refine (h3 fun h0 => ?_).symm
   have h4 := wval_take (B := B32) (l := L) (i := L.length - 1) e
   rw [h0, show L.length - 1 + 1 = L.length by omega, List.take_length, Nat.mul_zero, Nat.add_zero] at h4
   have h5 := wval_lt (h.take (L.length - 1))
   rw [List.length_take, Nat.min_eq_left (by omega)] at h5
   omega
theorem dgB_of {c : UInt8} (h : dgB c = true) : 48 ≤ c.toNat ∧ c.toNat ≤ 57 := by
 unfold dgB at h
 simpa using h
theorem decV_snoc (l : List UInt8) (c : UInt8) : decV (l ++ [c]) = 10 * decV l + (c.toNat - 48) := by
 rw [decV_append]
 have : decV [c] = c.toNat - 48 := by simp [decV]
 rw [this]; simp; omega
theorem decV_dg {l : List UInt8} (h : l.all dgB = true) : decV l < 10 ^ l.length :=
 decV_lt fun c hc => by have := dgB_of (List.all_eq_true.1 h c hc); omega
theorem last_words {n : Nat} : words B32 n = [] ∨ B32 ^ ((words B32 n).length - 1) ≤ n := by
 rcases Nat.eq_zero_or_pos (words B32 n).length with h0 | h0
 ·exact .inl (List.eq_nil_of_length_eq_zero h0)
 ·have := wval_ge (B := B32) h0 (words_last B32_gt h0)
  rw [wval_words B32_gt] at this
  exact .inr this
theorem scale_step {L L2 : List Nat} {i cy sc c0 t : Nat} (hi : i < L.length) (hl : L2.length = L.length) (hd : L2.drop i = L.drop i) (ht : t = cy + sc * L[i]) (hV : wval B32 (L2.take i) + B32 ^ i * cy = wval B32 (L.take i) * sc + c0) :
  wval B32 ((L2.set i (t % 4294967296)).take (i + 1)) + B32 ^ (i + 1) * (t / 4294967296) = wval B32 (L.take (i + 1)) * sc + c0 ∧ (L2.set i (t % 4294967296)).drop (i + 1) = L.drop (i + 1) := by
 refine ⟨?_, ?_⟩
 ·rw [wval_put (by omega), wval_take hi]
  have e := scale_col (B := B32) (i := i) (o := wval B32 (L2.take i)) ht
  rw [B32_eq] at e ⊢
  rw [B32_eq] at hV
  rw [e, hV, Nat.add_mul, Nat.mul_assoc, Nat.mul_comm L[i] sc]
  omega
 ·rw [List.drop_set_of_lt (Nat.lt_succ_self i)]
  have h1 := congrArg (List.drop 1) hd
  rwa [List.drop_drop, List.drop_drop] at h1
theorem scale_words {L2 : List Nat} {n cy N : Nat} (hW : WLt B32 L2) (hl : L2.length = (words B32 n).length) (hV : wval B32 L2 + B32 ^ (words B32 n).length * cy = N) (hn : n ≤ N) (hcy : cy < B32) :
  (cy = 0 → L2 = words B32 N) ∧ (0 < cy → L2 ++ [cy] = words B32 N) := by
 refine ⟨fun h => ?_, fun h => ?_⟩
 ·rw [h, Nat.mul_zero, Nat.add_zero] at hV
  rw [← hV]
  refine words_of hW ?_
  rcases last_words (n := n) with e | e
  ·rw [e] at hl
   exact .inl (List.eq_nil_of_length_eq_zero hl)
  ·rw [hl, hV]
   exact .inr (Nat.le_trans e hn)
 ·have e : wval B32 (L2 ++ [cy]) = N := by rw [wval_append, wval_one, hl, hV]
  rw [← e]
  refine words_of (hW.append (WLt.cons hcy WLt.nil)) (.inr ?_)
  rw [wval_append, wval_one]
  have h2 := Nat.mul_le_mul_left (B32 ^ L2.length) h
  rw [Nat.mul_one] at h2
  have e3 : (L2 ++ [cy]).length - 1 = L2.length := by simp
  rw [e3]
  exact Nat.le_trans h2 (Nat.le_add_left _ _)
def NtRel (w : World) (s : ByteArray) (m : Nat) (sv av : Value) (wr : World) : Prop :=
 ∃ (t : ByteArray) (pre : List UInt8) (A : Option Addr) (c : Nat), sv = .string t ∧ m = t.size ∧ pre ++ t.data.toList = s.data.toList ∧ av = ntV A c (decV pre) ∧ OwnU wr w.heap.size (ntV A c (decV pre)) (words B32 (decV pre)) ∧ Below w.heap.size w wr
def NtRel2 (w1 : World) (t : ByteArray) (k : Nat) (m : Nat) (cv scv iv : Value) (wr : World) : Prop :=
 ∃ i : Nat, i + m = k ∧ iv = .int .i64 i ∧ cv = .int .u64 ((decV (t.data.toList.take i) : Nat) : Int) ∧ scv = .int .u64 ((10 ^ i : Nat) : Int) ∧ wr = w1
def NtRel3 (w : World) (A : Option Addr) (c : Nat) (L : List Nat) (c0 sc : Nat) (m : Nat) (cv iv : Value) (wr : World) : Prop :=
 ∃ (i cy : Nat) (L2 : List Nat), i + m = L.length ∧ iv = .int .i64 i ∧ cv = .int .u64 (cy : Int) ∧ cy ≤ 1000000000 ∧ L2.length = L.length ∧ WLt B32 L2 ∧ L2.drop i = L.drop i ∧
  wval B32 (L2.take i) + B32 ^ i * cy = wval B32 (L.take i) * sc + c0 ∧ OwnU wr w.heap.size (.slice A L.length c) L2 ∧ Below w.heap.size w wr
theorem OwnU.nt {w : World} {B c n : Nat} {A : Option Addr} (h : OwnU w B (ntV A c n) (words B32 n)) : Nt w A c n := by
 have hcap : (words B32 n).length ≤ c := by
  rcases h.2 with ⟨h', hn⟩ | ⟨g', cap', cur, h', _, _, hnc, _⟩
  ·rw [hn]; exact Nat.zero_le _
  ·simp only [ntV, Value.slice.injEq] at h'
   omega
 obtain ⟨A', c', hv, hr⟩ := OwnL.rd1 (f := u32V) h
 simp only [ntV, Value.slice.injEq, true_and] at hv
 obtain ⟨rfl, rfl⟩ := hv
 exact ⟨hr, hcap⟩
theorem data_get' (s : ByteArray) (k : Nat) (h : k < s.size) : s.data.toList[k]'(by simpa using h) = s[k] := rfl
theorem decV_take {t : ByteArray} {i : Nat} (h : i < t.size) : decV (t.data.toList.take (i + 1)) = 10 * decV (t.data.toList.take i) + (t[i].toNat - 48) := by
 rw [List.take_succ_eq_append_getElem (by simpa using h), decV_snoc, data_get' t i h]
theorem natText_c (s : ByteArray) (w : World) (hd : s.data.toList.all dgB = true) (hs : s.size ≤ 2000) :
  Calls Tryz.prog 144 #[.string s] w (GivesN (valS s) w) := by
 go_enter Tryz.func144, Tryz.ntmps144
 go_wp2
 go_loopg [0, 3] s.size (NtRel w s)
 case atStart => exact ⟨s, [], none, 0, rfl, rfl, rfl, rfl, OwnL.nil encU 1 w w.heap.size 156, Below.refl _ _⟩
 case round =>
  obtain ⟨t, pre, A, c, rfl, hm, hpre, rfl, hown, hbw⟩ := hrel
  have HM := zq hm
  have HPRE := zq hpre
  have htd : t.data.toList.all dgB = true := by
   rw [← hpre, List.all_append, Bool.and_eq_true] at hd
   exact hd.2
  have hpd : pre.all dgB = true := by
   rw [← hpre, List.all_append, Bool.and_eq_true] at hd
   exact hd.1
  have hlen : pre.length + t.size ≤ 2000 := by
   have := congrArg List.length hpre
   rw [List.length_append] at this
   have e1 : t.data.toList.length = t.size := by simp
   have e2 : s.data.toList.length = s.size := by simp
   omega
  have HTD := zq htd
  have HPD := zq hpd
  have hwl : (words B32 (decV pre)).length ≤ 2000 := by
   have h1 := decV_dg hpd
   have h2 : 10 ^ pre.length ≤ B32 ^ pre.length := Nat.pow_le_pow_left (by decide) _
   have := len_le_of_lt B32_gt (Nat.lt_of_lt_of_le h1 h2)
   omega
  clear hm hpre htd hpd
  rcases Nat.eq_zero_or_pos t.size with h0 | h0
  ·go_wp2
   go_ret
   have e : valS s = decV pre := by
    unfold valS
    rw [← HPRE.out, List.eq_nil_of_length_eq_zero (l := t.data.toList) (by simpa using h0), List.append_nil]
   rw [e]
   exact ⟨A, c, rfl, hown.nt, hbw⟩
  ·obtain ⟨k, hk⟩ : ∃ k, k = min 9 t.size := ⟨_, rfl⟩
   have hmin : min (9 : Int) (t.size : Int) = (k : Int) := by rw [hk]; omega
   have hk1 : k ≤ 9 := by omega
   have hk2 : k ≤ t.size := by omega
   have hk3 : 1 ≤ k := by omega
   clear hk
   go_wp2
   obtain ⟨wo, hwo⟩ : ∃ wo : World, wo = wr := ⟨_, rfl⟩
   subst hwo
   clear hmin
   go_loopg [5, 6, 16] k (NtRel2 wo t k)
   case atStart => exact ⟨0, by omega, rfl, rfl, rfl, rfl⟩
   case round =>
    obtain ⟨i, him, rfl, rfl, rfl, hw⟩ := hrel
    subst hw
    have HIM := zq him
    clear him
    obtain ⟨cc, hcc⟩ : ∃ cc, decV (t.data.toList.take i) = cc := ⟨_, rfl⟩
    obtain ⟨sc, hsc⟩ : ∃ sc, 10 ^ i = sc := ⟨_, rfl⟩
    rw [hcc, hsc]
    have hcsc : cc < sc := by
     have h1 := decV_dg (l := t.data.toList.take i) (by
      rw [List.all_eq_true]
      exact fun x hx => List.all_eq_true.1 HTD.out x (List.mem_of_mem_take hx))
     rw [List.length_take] at h1
     have e2 : t.data.toList.length = t.size := by simp
     have e3 : min i t.data.toList.length = i := by have := HIM.out; omega
     rw [e3, hcc, hsc] at h1
     exact h1
    by_cases hlt : i < k
    ·have hsc9 : sc ≤ 100000000 := by
      rw [← hsc]
      exact Nat.le_trans (Nat.pow_le_pow_right (by omega) (show i ≤ 8 by omega)) (by decide)
     have hit : i < t.size := by omega
     have hdg := dgB_of (List.all_eq_true.1 HTD.out t[i] (by rw [← data_get' t i hit]; exact List.getElem_mem _))
     obtain ⟨hd1, hd2⟩ := hdg
     have HCC := zq hcc
     have HSC := zq hsc
     clear hcc hsc
     go_wp2
     go_roundg (gk - 1)
     case measure => have := HIM.out; omega
     case rel =>
      refine ⟨i + 1, by have := HIM.out; omega, by go_num, ?_, ?_, rfl⟩
      ·rw [decV_take hit, HCC.out]
       congr 1
       omega
      ·rw [Nat.pow_succ, HSC.out]
       congr 1
       omega
    ·obtain rfl : i = k := by have := HIM.out; omega
     have hsc9 : sc ≤ 1000000000 := by
      rw [← hsc]
      exact Nat.le_trans (Nat.pow_le_pow_right (by omega) hk1) (by decide)
     have hsc1 : 1 ≤ sc := by rw [← hsc]; exact Nat.pow_pos (by omega)
     have HNV : Hid (decV (pre ++ t.data.toList.take i) = decV pre * sc + cc) := by
      show _ = _
      have e2 : (t.data.toList.take i).length = i := by rw [List.length_take]; simp; omega
      rw [decV_append, e2, hcc, hsc]
     have HNX : Hid ((pre ++ t.data.toList.take i) ++ (t.extract i t.size).data.toList = s.data.toList) := by
      show _ = _
      rw [List.append_assoc, Lib.extract_data, List.take_of_length_le (l := List.drop i t.data.toList) (by rw [List.length_drop]; simp), List.take_append_drop]
      exact HPRE.out
     have hxs : (t.extract i t.size).size = t.size - i := by simp
     have HXS := zq hxs
     have hL := words_lt B32_gt (decV pre)
     have HWV := zq (wval_words B32_gt (decV pre))
     have HLW : Hid (∀ (L2 : List Nat) (cy : Nat), WLt B32 L2 → L2.length = (words B32 (decV pre)).length → wval B32 L2 + B32 ^ (words B32 (decV pre)).length * cy = decV pre * sc + cc → cy < B32 → (cy = 0 → L2 = words B32 (decV pre * sc + cc)) ∧ (0 < cy → L2 ++ [cy] = words B32 (decV pre * sc + cc))) :=
      fun L2 cy h1 h2 h3 h4 => scale_words h1 h2 h3 (Nat.le_trans (Nat.le_mul_of_pos_right _ hsc1) (Nat.le_add_right _ _)) h4
     clear hcc hsc hxs
     unfold ntV at hown ⊢
     obtain ⟨L, hLd⟩ : ∃ L, words B32 (decV pre) = L := ⟨_, rfl⟩
     rw [hLd] at hown hL HWV HLW hwl
     rw [hLd]
     have HLD := zq hLd
     clear hLd
     go_wp2
     have HBW := zq hbw
     clear hbw
     go_loopg [5, 35] L.length (NtRel3 w A c L cc sc)
     case atStart => exact ⟨0, cc, L, by omega, rfl, rfl, by omega, rfl, hL, rfl, by simp [wval], hown, HBW.out⟩
     case round =>
      clear hown HBW
      obtain ⟨j, cy, L2, hjm, rfl, rfl, hcy, hl2, hW2, hdr, hV2, hown, hbw⟩ := hrel
      have HJM := zq hjm
      have HL2 := zq hl2
      have HDR := zq hdr
      have HV2 := zq hV2
      clear hjm hl2 hdr hV2
      by_cases hj : j < L.length
      ·have hj2 : j < L2.length := by have := HL2.out; omega
       have e2 : L2[j] = L[j] := by
        have h1 := HDR.out
        rw [List.drop_eq_getElem_cons hj2, List.drop_eq_getElem_cons hj] at h1
        injection h1
       obtain ⟨g, cap', hv, _, hglt⟩ := World.ownsRow.form hown (by omega)
       simp only [Value.slice.injEq] at hv
       obtain ⟨rfl, _, _⟩ := hv
       obtain ⟨hc1, hf1⟩ := OwnU.get hown HL2.out.symm j hj2
       rw [e2] at hc1
       have hx : L[j] < 4294967296 := hL.get j hj
       obtain ⟨p, hp⟩ : ∃ p, p = sc * L[j] := ⟨_, rfl⟩
       have hpB : p ≤ 1000000000 * 4294967295 := by rw [hp]; exact Nat.mul_le_mul hsc9 (by omega)
       have hpe : (sc : Int) * (L[j] : Int) = (p : Int) := by rw [hp]; exact (Int.natCast_mul _ _).symm
       obtain ⟨T, hT⟩ : ∃ T, T = cy + p := ⟨_, rfl⟩
       have hTe : (cy : Int) + (p : Int) = (T : Int) := by rw [hT]; exact (Int.natCast_add _ _).symm
       have hTB : T ≤ 4294967296000000000 := by omega
       have hst := scale_step (t := T) hj HL2.out HDR.out (by rw [hT, hp]) HV2.out
       have HST := zq hst
       clear hp hT hst e2 hpB
       go_wp2
       go_roundg (gk - 1)
       case measure => have := HJM.out; omega
       case rel =>
        refine ⟨j + 1, T / 4294967296, L2.set j (T % 4294967296), by have := HJM.out; omega, by go_num, rfl, by omega, by rw [List.length_set]; exact HL2.out, hW2.set (modB T) j, HST.out.2, HST.out.1, OwnU.put hown HL2.out.symm j _, hbw.setCell (World.ownsRow.lt hown g (by simp [Value.ownBlock])).1 _⟩
      ·obtain rfl : j = L.length := by have := HJM.out; omega
       have hres := HLW.out L2 cy hW2 HL2.out (by
        have h1 := HV2.out
        rw [List.take_of_length_le (by have := HL2.out; omega), List.take_of_length_le (Nat.le_refl _), HWV.out] at h1
        exact h1) (by rw [B32_eq]; omega)
       have HRES := zq hres
       clear hres
       rcases Nat.eq_zero_or_pos cy with h0 | h0
       ·subst h0
        have hlw := HRES.out.1 rfl
        have HLW2 := zq hlw
        clear hlw
        go_wp2
        go_roundg (t.size - i)
        case measure => have := HM.out; omega
        case rel =>
         have e := HLW2.out
         have e2 := HL2.out
         refine ⟨t.extract i t.size, pre ++ t.data.toList.take i, A, c, rfl, HXS.out.symm, HNX.out, ?_, ?_, hbw⟩
         ·rw [HNV.out]
          show Value.slice A L.length c = .slice A (words B32 (decV pre * sc + cc)).length c
          rw [← e, e2]
         ·rw [HNV.out]
          show OwnU wr w.heap.size (.slice A (words B32 (decV pre * sc + cc)).length c) (words B32 (decV pre * sc + cc))
          rw [← e, e2]; exact hown
       ·have hlw := HRES.out.2 h0
        have HLW2 := zq hlw
        have hl2 := HL2.out
        clear hlw
        rw [← hl2] at hown hwl ⊢
        go_wp2_with (at_builtin; refine wpList_pushS _ _ _ elNat rfl rfl w.heap.size _ L2 rfl (OwnL.alloc hown _) wr.heap.size 1 cy rfl (heap_alloc_new _ _) rfl (by simp [encU, u32V, Value.oneCell']) (by unfold maxLen; omega) (by omega) (by simp; exact Nat.le_succ_of_le hbw.size) ?_; intro A7 c7 w7 hown7 hg7 hb7 hat7)
        have hbw7 := (hbw.alloc hbw.size _).trans hb7
        go_wp2
        go_roundg (t.size - i)
        case measure => have := HM.out; omega
        case rel =>
         have e := HLW2.out
         have e3 : (words B32 (decV pre * sc + cc)).length = L2.length + 1 := by rw [← e]; simp
         refine ⟨t.extract i t.size, pre ++ t.data.toList.take i, A7, c7, rfl, HXS.out.symm, HNX.out, ?_, ?_, hbw7⟩
         ·rw [HNV.out]
          show Value.slice A7 (L.length + 1) c7 = .slice A7 (words B32 (decV pre * sc + cc)).length c7
          rw [e3, HL2.out]
         ·rw [HNV.out]
          show OwnU w7 w.heap.size (.slice A7 (words B32 (decV pre * sc + cc)).length c7) (words B32 (decV pre * sc + cc))
          rw [e3, ← e]; exact hown7
def LiesRel (w : World) (l : List Rg) (a : List Ar) (res : Bool) (m : Nat) (name : Value) (wr : World) : Prop :=
 wr = w ∧ ((∃ j, ∃ hj : j < l.length, name = .string (l[j]).nm ∧ upN l m j = none ∧ liesF l a m j = res) ∨ (name = .string emp ∧ res = false))
def LiesRel2 (w : World) (a : List Ar) (nm : ByteArray) (m : Nat) (i : Value) (wr : World) : Prop :=
 wr = w ∧ ∃ k : Nat, k + m = a.length ∧ i = .int .i64 k ∧ ∀ j (h : j < a.length), j < k → (a[j]).rg ≠ nm
theorem lies_c (A A2 : Option Addr) (c c2 : Nat) (l : List Rg) (a : List Ar) (w : World) (g : GoodR l) (h : Rgs w A l) (h2 : Ars w A2 a) (hn2 : a.length ≤ 100) (i : Nat) (hi : i < l.length) :
  Calls Tryz.prog 103 #[.slice A l.length c, .slice A2 a.length c2, .string (l[i]).nm] w (Gives (.bool (lies l a i)) w) := by
 have hn := g.len
 generalize hres : lies l a i = res
 have HR := zq hres
 clear hres
 go_enter Tryz.func103, Tryz.ntmps103
 go_wp2
 go_loopg [2] (l.length + 2) (LiesRel w l a res)
 case atStart => exact ⟨rfl, .inl ⟨i, hi, rfl, g.ends i hi, HR.out⟩⟩
 case round =>
  obtain ⟨hw, hrel⟩ := hrel
  subst hw
  rcases hrel with ⟨j, hj, rfl, hup, hun⟩ | ⟨rfl, hres⟩
  ·have HU := zq hup
   have HN := zq hun
   clear hup hun
   have hne := isEmpty_of_ne (g.nm_ne hj)
   obtain ⟨m, rfl⟩ : ∃ m, gk = m + 1 := by
    cases gk with
    | zero => exact absurd HU.out (by simp [upN])
    | succ m => exact ⟨m, rfl⟩
   go_wp2
   obtain ⟨wo, hwo⟩ : ∃ wo : World, wo = wr := ⟨_, rfl⟩
   subst hwo
   go_loopg [7] a.length (LiesRel2 wo a (l[j]).nm)
   case atStart => exact ⟨rfl, 0, by omega, rfl, fun j _ hj => absurd hj (by omega)⟩
   case round =>
    obtain ⟨hw, k, hk, rfl, hpre⟩ := hrel
    subst hw
    have HK := zq hk
    have HP := zq hpre
    have hk1 : k ≤ a.length := by omega
    clear hk hpre
    by_cases hlt : k < a.length
    ·obtain ⟨b2, o2, rfl, hb2, hc2⟩ := h2.at_ (by omega)
     have hc0 := (hc2 k hlt).1
     have hc1 := (hc2 k hlt).2
     clear hc2
     by_cases hq : (a[k]).rg = (l[j]).nm
     ·have hqb := beq_of_eq hq
      have hf := findA_some hlt hq (fun j hj hjk => HP.out j hj hjk)
      have hres : res = !(a[k]).out := by
       rw [← HN.out, liesF, nmAt_of hj, hf]
      have HS := zq hres
      clear hres hf hq
      go_wp2
      go_ret
      exact Gives.mk (vbool HS.out.symm) rfl
     ·have hqb := beq_of_ne hq
      have HQ := zq hq
      clear hq
      go_wp2
      go_roundg (gk - 1)
      case measure => have := HK.out; omega
      case rel =>
       refine ⟨rfl, k + 1, by have := HK.out; omega, by go_num, fun j hj hjk => ?_⟩
       rcases Nat.lt_or_ge j k with h1 | h1
       ·exact HP.out j hj h1
       ·obtain rfl : j = k := by omega
        exact HQ.out
    ·have hfn : findA a (nmAt l j) = none := findA_none fun t ht => by rw [nmAt_of hj]; exact HP.out t ht (by omega)
     have HF := zq hfn
     clear hfn
     have hix : idxI l (l[j]).nm = (j : Int) := by unfold idxI; rw [g.inc.idx hj]
     have HX := zq hix
     clear hix
     obtain ⟨b, o, rfl, hb, hc⟩ := h.at_ (by omega)
     have hc1 := (hc j hj).2
     clear hc
     go_wp2_with fail
     refine (region_c _ _ _ _ _ hn h).mono ?_
     rintro e w' ⟨rfl, rfl⟩
     rw [HX.out]
     go_wp2
     by_cases hp : (l[j]).par = emp
     ·have hu := up_none hj hp
      go_roundg m
      case measure => omega
      case rel =>
       refine ⟨rfl, .inr ⟨by rw [hp], ?_⟩⟩
       have := HN.out
       rw [liesF, HF.out, hu] at this
       exact this.symm
     ·obtain ⟨j', hj', hu, he⟩ := g.up_some hj hp
      go_roundg m
      case measure => omega
      case rel =>
       refine ⟨rfl, .inl ⟨j', hj', by rw [he], ?_, ?_⟩⟩
       ·have := HU.out
        simpa only [upN, hu] using this
       ·have := HN.out
        rw [liesF, HF.out, hu] at this
        exact this
  ·have HS := zq hres
   clear hres
   have hne := emp_isEmpty
   go_wp2
   go_ret
   exact Gives.mk (vbool HS.out.symm) rfl
def GivesQ (v : Value) (w : World) (e : Ending) (w' : World) : Prop := e = .returned v ∧ ∃ n, w' = w.drewN n
theorem GivesQ.mk {v v' : Value} {w w' : World} (h : v = v') (hw : ∃ n, w' = w.drewN n) : GivesQ v' w (.returned v) w' := ⟨by rw [h], hw⟩
def ChkARel (w : World) (l : List Rg) (a : List Ar) (m : Nat) (i : Value) (wr : World) : Prop :=
 ∃ n, wr = w.drewN n ∧ ∃ k : Nat, k + m = a.length ∧ i = .int .i64 k ∧ ∀ j, j < k → arFault l a j = none
theorem checkAreaR_c (A A2 : Option Addr) (c c2 : Nat) (l : List Rg) (a : List Ar) (w : World) (hn : l.length ≤ 200) (h : Rgs w A l) (h2 : Ars w A2 a) :
  Calls Tryz.prog 121 #[.slice A l.length c, .slice A2 a.length c2] w (GivesQ (.int .i64 (chkA l a)) w) := by
 generalize hres : chkA l a = res
 have HR := zq hres
 clear hres
 by_cases hlen : 100 < a.length
 ·go_enter Tryz.func121, Tryz.ntmps121
  go_wp2
  go_ret
  refine GivesQ.mk (vint ?_) ⟨0, rfl⟩
  rw [← HR.out]; unfold chkA; rw [if_pos hlen]
 ·have hlen2 : a.length ≤ 100 := by omega
  go_enter Tryz.func121, Tryz.ntmps121
  go_wp2
  go_loopg [5] a.length (ChkARel w l a)
  case atStart => exact ⟨0, rfl, 0, by omega, rfl, fun j hj => absurd hj (by omega)⟩
  case round =>
   obtain ⟨n, hw, k, hk, rfl, hpre⟩ := hrel
   subst hw
   have HK := zq hk
   have HP := zq hpre
   have hk1 : k ≤ a.length := by omega
   clear hk hpre
   by_cases hlt : k < a.length
   ·obtain ⟨b2, o2, rfl, hb2, hc2⟩ := h2.at_ (by omega)
    have hc0 := (hc2 k hlt).1
    have hr0 := rgAt_of hlt
    by_cases hq : idx l (a[k]).rg = none
    ·have hix : idxI l (a[k]).rg = -1 := by unfold idxI; rw [hq]
     have hres : res = 5 := by
      rw [← HR.out]; unfold chkA; rw [if_neg hlen, findSome_first hlt HP.out (x := 5) (by unfold arFault; rw [hr0, if_pos hq])]
     have HS := zq hres
     have HX := zq hix
     clear hc2 hr0 hq hres hix
     go_wp2_with fail
     refine (region_c _ _ _ _ _ hn (h.drewN _)).mono ?_
     rintro e w' ⟨rfl, rfl⟩
     rw [HX.out]
     go_wp2
     go_ret
     exact GivesQ.mk (vint HS.out.symm) ⟨_, rfl⟩
    ·obtain ⟨x, hx⟩ := Option.ne_none_iff_exists'.1 hq
     have hix : idxI l (a[k]).rg = (x : Int) := by unfold idxI; rw [hx]
     have HX := zq hix
     have HQ := zq hq
     clear hix hx hq
     by_cases hk0 : 0 < k
     ·have hd : decide ((0 : Int) < (k : Int)) = true := by simp; omega
      have hcp := (hc2 (k - 1) (by omega)).1
      have hr1 := rgAt_of (a := a) (i := k - 1) (by omega)
      by_cases hle : sle (a[k]).rg (a[k - 1]).rg = true
      ·have hleb := hle
       unfold sle at hleb
       have hres : res = 8 := by
        rw [← HR.out]; unfold chkA; rw [if_neg hlen, findSome_first hlt HP.out (x := 8) (by unfold arFault; rw [hr0, hr1, if_neg HQ.out, if_pos ⟨hk0, hle⟩])]
       have HS := zq hres
       clear hc2 hr0 hr1 hres hle
       go_wp2_with fail
       refine (region_c _ _ _ _ _ hn (h.drewN _)).mono ?_
       rintro e w' ⟨rfl, rfl⟩
       rw [HX.out]
       go_wp2
       go_quiet (fail)
       go_wp2
       go_ret
       exact GivesQ.mk (vint HS.out.symm) ⟨_, World.drewN_drewN _ _ _⟩
      ·have hle' : sle (a[k]).rg (a[k - 1]).rg = false := by simpa using hle
       have hleb := hle'
       unfold sle at hleb
       have HF : Hid (arFault l a k = none) := by
        show arFault l a k = none
        unfold arFault; rw [hr0, hr1, if_neg HQ.out, if_neg (fun hh => hle hh.2)]
       clear hc2 hr0 hr1 hle hle'
       go_wp2_with fail
       refine (region_c _ _ _ _ _ hn (h.drewN _)).mono ?_
       rintro e w' ⟨rfl, rfl⟩
       rw [HX.out]
       go_wp2
       go_quiet (fail)
       go_wp2
       go_roundg (gk - 1)
       case measure => have := HK.out; omega
       case rel =>
        refine ⟨_, rfl, k + 1, by have := HK.out; omega, by go_num, fun j hj => ?_⟩
        rcases Nat.lt_or_ge j k with h1 | h1
        ·exact HP.out j h1
        ·obtain rfl : j = k := by omega
         exact HF.out
     ·have hd : decide ((0 : Int) < (k : Int)) = false := by simp; omega
      have HF : Hid (arFault l a k = none) := by
       show arFault l a k = none
       unfold arFault; rw [hr0, if_neg HQ.out, if_neg (by omega)]
      clear hc2 hr0
      go_wp2_with fail
      refine (region_c _ _ _ _ _ hn (h.drewN _)).mono ?_
      rintro e w' ⟨rfl, rfl⟩
      rw [HX.out]
      go_wp2
      go_quiet (fail)
      go_wp2
      go_roundg (gk - 1)
      case measure => have := HK.out; omega
      case rel =>
       refine ⟨_, rfl, k + 1, by have := HK.out; omega, by go_num, fun j hj => ?_⟩
       rcases Nat.lt_or_ge j k with h1 | h1
       ·exact HP.out j h1
       ·obtain rfl : j = k := by omega
        exact HF.out
   ·have hres : res = 0 := by
     rw [← HR.out]; unfold chkA; rw [if_neg hlen, findSome_none (fun j hj => HP.out j (by omega))]
    have HS := zq hres
    clear hres
    go_wp2
    go_ret
    exact GivesQ.mk (vint HS.out.symm) ⟨_, rfl⟩
theorem data_get (s : ByteArray) (k : Nat) (h : k < s.size) : s.data.toList[k]'(by simpa using h) = s[k] := rfl
theorem headD_get (s : ByteArray) (h : 0 < s.size) : s.data.toList.headD 0 = s[0] := by
 rw [← data_get s 0 h, List.headD_eq_head?_getD, List.head?_eq_getElem?]
 simp [h]
def NameRel (w : World) (s : ByteArray) (m : Nat) (i : Value) (wr : World) : Prop :=
 wr = w ∧ ∃ k : Nat, k + m = s.size ∧ i = .int .i64 k ∧ ∀ j (h : j < s.size), j < k → okB s[j] = true
theorem isNm_all {s : ByteArray} (h1 : 1 ≤ s.size) (h2 : s.size ≤ 40) (h3 : 97 ≤ (s[0]'h1).toNat) (h4 : (s[0]'h1).toNat ≤ 122) : isNm s = s.data.toList.all okB := by
 unfold isNm
 rw [headD_get s h1]
 simp [h1, h2, h3, h4]
theorem IsNameR_c (s : ByteArray) (w : World) (hs : s.size ≤ 9223372036854775807) :
  Calls Tryz.prog 38 #[.string s] w (Gives (.bool (isNm s)) w) := by
 generalize hres : isNm s = res
 have HR := zq hres
 clear hres
 by_cases h1 : 1 ≤ s.size
 ·have he : s.toList.isEmpty = false := isEmpty_of_ne (fun e => by rw [e] at h1; exact absurd h1 (by decide))
  by_cases h2 : s.size ≤ 40
  ·by_cases h3 : 97 ≤ (s[0]'h1).toNat
   ·by_cases h4 : (s[0]'h1).toNat ≤ 122
    ·have hall := isNm_all h1 h2 h3 h4
     have HA := zq hall
     clear hall
     go_enter Tryz.func38, Tryz.ntmps38
     go_wp2
     go_loopg [3] s.size (NameRel w s)
     case atStart => exact ⟨rfl, 0, by omega, rfl, fun j _ hj => absurd hj (by omega)⟩
     case round =>
      obtain ⟨hw, k, hk, rfl, hpre⟩ := hrel
      subst hw
      have HK := zq hk
      have HP := zq hpre
      have hk1 : k ≤ s.size := by omega
      clear hk hpre
      by_cases hlt : k < s.size
      ·have hcase : ((97 ≤ s[k].toNat ∧ s[k].toNat ≤ 122) ∨ (48 ≤ s[k].toNat ∧ s[k].toNat ≤ 57) ∨ (45 ≤ s[k].toNat ∧ s[k].toNat ≤ 45)) ∨ ((122 < s[k].toNat ∧ 1 ≤ s.size) ∨ (57 < s[k].toNat ∧ s[k].toNat < 97) ∨ (s[k].toNat < 48 ∧ s[k].toNat ≠ 45)) := by omega
       rcases hcase with hcase | hcase
       ·have hok : okB s[k] = true := by
         unfold okB
         rcases hcase with ⟨a1, a2⟩ | ⟨a1, a2⟩ | ⟨a1, a2⟩
         ·simp [a1, a2]
         ·simp [a1, a2]
         ·have : s[k].toNat = 45 := by omega
          simp [this]
        have HO := zq hok
        clear hok
        have fin : ∀ j (h : j < s.size), j < k + 1 → okB s[j] = true := fun j hj hjk => by
         rcases Nat.lt_or_ge j k with h1 | h1
         ·exact HP.out j hj h1
         ·obtain rfl : j = k := by omega
          exact HO.out
        have HF := zq fin
        clear fin
        rcases hcase with ⟨a1, a2⟩ | ⟨a1, a2⟩ | ⟨a1, a2⟩
        ·go_wp2
         go_roundg (gk - 1)
         case measure => have := HK.out; omega
         case rel => exact ⟨rfl, k + 1, by have := HK.out; omega, by go_num, HF.out⟩
        ·go_wp2
         go_roundg (gk - 1)
         case measure => have := HK.out; omega
         case rel => exact ⟨rfl, k + 1, by have := HK.out; omega, by go_num, HF.out⟩
        ·have hb : ((s[k].toNat : Int) == 45) = true := by rw [beq_iff_eq]; omega
         go_wp2
         go_roundg (gk - 1)
         case measure => have := HK.out; omega
         case rel => exact ⟨rfl, k + 1, by have := HK.out; omega, by go_num, HF.out⟩
       ·have hb : ((s[k].toNat : Int) == 45) = false := by rw [beq_eq_false_iff_ne]; omega
        have hno : okB s[k] = false := by
         unfold okB
         simp
         omega
        have hres : res = false := by
         rw [← HR.out, HA.out, List.all_eq_false]
         exact ⟨s[k], by rw [← data_get s k hlt]; exact List.getElem_mem _, by simp [hno]⟩
        have HS := zq hres
        clear hres hno
        rcases hcase with ⟨a1, a2⟩ | ⟨a1, a2⟩ | ⟨a1, a2⟩
        ·have d1 : decide ((s[k].toNat : Int) ≤ 122) = false := by simp; omega
         have d2 : decide ((s[k].toNat : Int) ≤ 57) = false := by simp; omega
         go_wp2
         go_ret
         exact Gives.mk (vbool HS.out.symm) rfl
        ·have d2 : decide ((s[k].toNat : Int) ≤ 57) = false := by simp; omega
         go_wp2
         go_ret
         exact Gives.mk (vbool HS.out.symm) rfl
        ·go_wp2
         go_ret
         exact Gives.mk (vbool HS.out.symm) rfl
      ·go_wp2
       go_ret
       refine Gives.mk (vbool ?_) rfl
       rw [← HR.out, HA.out, eq_comm, List.all_eq_true]
       intro x hx
       obtain ⟨j, hj, rfl⟩ := List.getElem_of_mem hx
       have hj' : j < s.size := by simpa using hj
       exact HP.out j hj' (by omega)
    ·go_enter Tryz.func38, Tryz.ntmps38
     go_wp2
     go_ret
     refine Gives.mk (vbool ?_) rfl
     rw [← HR.out]
     unfold isNm
     rw [headD_get s h1]
     simp [h4]
   ·go_enter Tryz.func38, Tryz.ntmps38
    go_wp2
    go_ret
    refine Gives.mk (vbool ?_) rfl
    rw [← HR.out]
    unfold isNm
    rw [headD_get s h1]
    simp [h3]
  ·go_enter Tryz.func38, Tryz.ntmps38
   go_wp2
   go_ret
   refine Gives.mk (vbool ?_) rfl
   rw [← HR.out]
   unfold isNm
   simp [h2]
 ·have he : s.toList.isEmpty = true := by
   cases hs : s.toList with
   | nil => rfl
   | cons a l =>
    have := congrArg List.length hs
    rw [toList_eq] at this
    simp at this
    omega
  go_enter Tryz.func38, Tryz.ntmps38
  go_wp2
  go_ret
  refine Gives.mk (vbool ?_) rfl
  rw [← HR.out]
  unfold isNm
  simp [h1]
def ChkR1 (w : World) (l : List Rg) (m : Nat) (i : Value) (wr : World) : Prop :=
 ∃ n, wr = w.drewN n ∧ ∃ k : Nat, k + m = l.length ∧ i = .int .i64 k ∧ ∀ j, j < k → rgFault l j = none
def ChkR2 (w : World) (l : List Rg) (m : Nat) (i : Value) (wr : World) : Prop :=
 ∃ n, wr = w.drewN n ∧ ∃ k : Nat, k + m = l.length ∧ i = .int .i64 k ∧ ∀ j (h : j < l.length), j < k → parBad l l[j] = false
def ChkR3 (w : World) (l : List Rg) (m : Nat) (i : Value) (wr : World) : Prop :=
 ∃ n, wr = w.drewN n ∧ ∃ k : Nat, k + m = l.length ∧ i = .int .i64 k ∧ ∀ j, j < k → ∀ d, 0 < d → d ≤ l.length + 1 → upN l d j ≠ some j
def ChkR4 (w : World) (l : List Rg) (i : Nat) (m : Nat) (at_ n : Value) (wr : World) : Prop :=
 wr = w ∧ ∃ k : Nat, k + m = l.length + 1 ∧ n = .int .i64 k ∧ ∃ j, j < l.length ∧ at_ = .int .i64 j ∧ upN l k i = some j ∧ ∀ d, 0 < d → d ≤ k → upN l d i ≠ some i
theorem parBad_false {l : List Rg} (h : ∀ j (h : j < l.length), parBad l l[j] = false) {i : Nat} (hi : i < l.length) (hp : (l[i]).par ≠ emp) : ∃ j, idx l (l[i]).par = some j := by
 have := h i hi
 unfold parBad at this
 cases hx : idx l (l[i]).par with
 | some j => exact ⟨j, rfl⟩
 | none => rw [hx] at this; simp [hp] at this
theorem chkR_head {l : List Rg} (h1 : l ≠ []) (h2 : ¬ 200 < l.length) : chkR l = match (List.range l.length).findSome? (rgFault l) with
 | some f => f
 | none => if l.any (parBad l) = true then 5 else if EndsR l then 0 else 14 := by
 unfold chkR; rw [if_neg h1, if_neg h2] <;> rfl
theorem chkR_first {l : List Rg} (h1 : l ≠ []) (h2 : ¬ 200 < l.length) {k : Nat} {x : Int} (hk : k < l.length) (hpre : ∀ j, j < k → rgFault l j = none) (h : rgFault l k = some x) : chkR l = x := by
 rw [chkR_head h1 h2, findSome_first hk hpre h]
theorem chkR_par {l : List Rg} (h1 : l ≠ []) (h2 : ¬ 200 < l.length) (hpre : ∀ j, j < l.length → rgFault l j = none) {k : Nat} (hk : k < l.length) (h : parBad l l[k] = true) : chkR l = 5 := by
 rw [chkR_head h1 h2, findSome_none hpre]
 simp only []
 rw [if_pos (List.any_eq_true.2 ⟨l[k], List.getElem_mem hk, h⟩)]
theorem chkR_last {l : List Rg} (h1 : l ≠ []) (h2 : ¬ 200 < l.length) (hpre : ∀ j, j < l.length → rgFault l j = none) (h : ∀ j (h : j < l.length), parBad l l[j] = false) : chkR l = if EndsR l then 0 else 14 := by
 rw [chkR_head h1 h2, findSome_none hpre]
 simp only []
 rw [if_neg]
 intro hh
 obtain ⟨x, hx, hb⟩ := List.any_eq_true.1 hh
 obtain ⟨j, hj, rfl⟩ := List.getElem_of_mem hx
 rw [h j hj] at hb; cases hb
theorem CheckRegionsR_c (A : Option Addr) (c : Nat) (l : List Rg) (w : World) (h : Rgs w A l) (hz : ∀ i (h : i < l.length), (l[i]).nm.size ≤ 9223372036854775807) :
  Calls Tryz.prog 50 #[.slice A l.length c] w (GivesQ (.int .i64 (chkR l)) w) := by
 generalize hres : chkR l = res
 have HR := zq hres
 clear hres
 by_cases h1 : l = []
 ·subst h1
  go_enter Tryz.func50, Tryz.ntmps50
  go_wp2
  go_ret
  refine GivesQ.mk (vint ?_) ⟨0, rfl⟩
  rw [← HR.out]; rfl
 have h1' : 0 < l.length := List.length_pos_iff.2 h1
 have hl0 : ((l.length : Int) == 0) = false := by rw [beq_eq_false_iff_ne]; omega
 by_cases hlen : 200 < l.length
 ·go_enter Tryz.func50, Tryz.ntmps50
  go_wp2
  go_ret
  refine GivesQ.mk (vint ?_) ⟨0, rfl⟩
  rw [← HR.out]; unfold chkR; rw [if_neg h1, if_pos hlen]
 have hn : l.length ≤ 200 := by omega
 obtain ⟨b, o, rfl, hb, hc⟩ := h.at_ h1'
 have HC := zq hc
 have HZ := zq hz
 have H1 := zq h1
 clear hc hz h1
 go_enter Tryz.func50, Tryz.ntmps50
 go_wp2
 go_loopg [3] l.length (ChkR1 w l)
 case atStart => exact ⟨0, rfl, 0, by omega, rfl, fun j hj => absurd hj (by omega)⟩
 case round =>
  obtain ⟨n, hw, k, hk, rfl, hpre⟩ := hrel
  subst hw
  have HK := zq hk
  have HP := zq hpre
  have hk1 : k ≤ l.length := by omega
  clear hk hpre
  by_cases hlt : k < l.length
  ·have hc0 := (HC.out k hlt).1
   have hr0 := nmAt_of hlt
   have hzk := HZ.out k hlt
   by_cases hq : isNm (l[k]).nm = true
   ·by_cases hk0 : 0 < k
    ·have hd : decide ((0 : Int) < (k : Int)) = true := by simp; omega
     have hcp := (HC.out (k - 1) (by omega)).1
     have hr1 := nmAt_of (l := l) (i := k - 1) (by omega)
     by_cases hle : sle (l[k]).nm (l[k - 1]).nm = true
     ·have hleb := hle
      unfold sle at hleb
      have hres : res = 8 := by
       rw [← HR.out, chkR_first H1.out hlen hlt HP.out (x := 8) (by unfold rgFault; rw [hr0, hr1, if_neg (by rw [hq]; simp), if_pos ⟨hk0, hle⟩])]
      have HS := zq hres
      have HQ := zq hq
      clear hr0 hr1 hres hle hq
      go_wp2_with fail
      refine (IsNameR_c _ _ hzk).mono ?_
      rintro e w' ⟨rfl, rfl⟩
      rw [HQ.out]
      go_wp2
      go_quiet (fail)
      go_wp2
      go_ret
      exact GivesQ.mk (vint HS.out.symm) ⟨_, World.drewN_drewN _ _ _⟩
     ·have hle' : sle (l[k]).nm (l[k - 1]).nm = false := by simpa using hle
      have hleb := hle'
      unfold sle at hleb
      have HF : Hid (rgFault l k = none) := by
       show rgFault l k = none
       unfold rgFault; rw [hr0, hr1, if_neg (by rw [hq]; simp), if_neg (fun hh => hle hh.2)]
      have HQ := zq hq
      clear hr0 hr1 hle hle' hq
      go_wp2_with fail
      refine (IsNameR_c _ _ hzk).mono ?_
      rintro e w' ⟨rfl, rfl⟩
      rw [HQ.out]
      go_wp2
      go_quiet (fail)
      go_wp2
      go_roundg (gk - 1)
      case measure => have := HK.out; omega
      case rel =>
       refine ⟨_, rfl, k + 1, by have := HK.out; omega, by go_num, fun j hj => ?_⟩
       rcases Nat.lt_or_ge j k with h1 | h1
       ·exact HP.out j h1
       ·obtain rfl : j = k := by omega
        exact HF.out
    ·have hd : decide ((0 : Int) < (k : Int)) = false := by simp; omega
     have HF : Hid (rgFault l k = none) := by
      show rgFault l k = none
      unfold rgFault; rw [hr0, if_neg (by rw [hq]; simp), if_neg (by omega)]
     have HQ := zq hq
     clear hr0 hq
     go_wp2_with fail
     refine (IsNameR_c _ _ hzk).mono ?_
     rintro e w' ⟨rfl, rfl⟩
     rw [HQ.out]
     go_wp2
     go_quiet (fail)
     go_wp2
     go_roundg (gk - 1)
     case measure => have := HK.out; omega
     case rel =>
      refine ⟨_, rfl, k + 1, by have := HK.out; omega, by go_num, fun j hj => ?_⟩
      rcases Nat.lt_or_ge j k with h1 | h1
      ·exact HP.out j h1
      ·obtain rfl : j = k := by omega
       exact HF.out
   ·have hq' : isNm (l[k]).nm = false := by simpa using hq
    have hres : res = 5 := by
     rw [← HR.out, chkR_first H1.out hlen hlt HP.out (x := 5) (by unfold rgFault; rw [hr0, if_pos hq'])]
    have HS := zq hres
    have HQ := zq hq'
    clear hr0 hres hq hq'
    go_wp2_with fail
    refine (IsNameR_c _ _ hzk).mono ?_
    rintro e w' ⟨rfl, rfl⟩
    rw [HQ.out]
    go_wp2
    go_ret
    exact GivesQ.mk (vint HS.out.symm) ⟨_, rfl⟩
  ·have hF0 : ∀ j, j < l.length → rgFault l j = none := fun j hj => HP.out j (by omega)
   have HF0 := zq hF0
   clear hF0
   go_wp2
   clear HK HP hk1 hlt
   go_loopg [4] l.length (ChkR2 w l)
   case atStart => exact ⟨_, rfl, 0, by omega, rfl, fun j _ hj => absurd hj (by omega)⟩
   case round =>
    obtain ⟨n2, hw, k, hk, rfl, hpre⟩ := hrel
    subst hw
    have HK := zq hk
    have HP := zq hpre
    have hk1 : k ≤ l.length := by omega
    clear hk hpre
    by_cases hlt : k < l.length
    ·have hc0 := (HC.out k hlt).2
     by_cases hp : (l[k]).par = emp
     ·have he := isEmpty_of_eq hp
      have HF : Hid (parBad l l[k] = false) := by
       show parBad l l[k] = false
       simp [parBad, hp]
      clear hp
      go_wp2
      go_roundg (gk - 1)
      case measure => have := HK.out; omega
      case rel =>
       refine ⟨_, rfl, k + 1, by have := HK.out; omega, by go_num, fun j hj hjk => ?_⟩
       rcases Nat.lt_or_ge j k with h1 | h1
       ·exact HP.out j hj h1
       ·obtain rfl : j = k := by omega
        exact HF.out
     ·have he := isEmpty_of_ne hp
      cases hix : idx l (l[k]).par with
      | none =>
       have hi0 : idxI l (l[k]).par = -1 := by unfold idxI; rw [hix]
       have hres : res = 5 := by
        rw [← HR.out]
        exact chkR_par H1.out hlen HF0.out hlt (by simp [parBad, hp, hix])
       have HS := zq hres
       have HX := zq hi0
       clear hres hi0 hix hp
       go_wp2_with fail
       refine (region_c _ _ _ _ _ hn (h.drewN _)).mono ?_
       rintro e w' ⟨rfl, rfl⟩
       rw [HX.out]
       go_wp2
       go_ret
       exact GivesQ.mk (vint HS.out.symm) ⟨_, rfl⟩
      | some x =>
       have hi0 : idxI l (l[k]).par = (x : Int) := by unfold idxI; rw [hix]
       have HF : Hid (parBad l l[k] = false) := by
        show parBad l l[k] = false
        simp [parBad, hix]
       have HX := zq hi0
       clear hi0 hix hp
       go_wp2_with fail
       refine (region_c _ _ _ _ _ hn (h.drewN _)).mono ?_
       rintro e w' ⟨rfl, rfl⟩
       rw [HX.out]
       go_wp2
       go_roundg (gk - 1)
       case measure => have := HK.out; omega
       case rel =>
        refine ⟨_, rfl, k + 1, by have := HK.out; omega, by go_num, fun j hj hjk => ?_⟩
        rcases Nat.lt_or_ge j k with h1 | h1
        ·exact HP.out j hj h1
        ·obtain rfl : j = k := by omega
         exact HF.out
    ·have hP0 : ∀ j (h : j < l.length), parBad l l[j] = false := fun j hj => HP.out j hj (by omega)
     have HP0 := zq hP0
     clear hP0
     go_wp2
     clear HK HP hk1 hlt
     go_loopg [5] l.length (ChkR3 w l)
     case atStart => exact ⟨_, rfl, 0, by omega, rfl, fun j hj => absurd hj (by omega)⟩
     case round =>
      obtain ⟨n3, hw, i, hk, rfl, hpre⟩ := hrel
      subst hw
      have HK := zq hk
      have HP := zq hpre
      have hk1 : i ≤ l.length := by omega
      clear hk hpre
      obtain ⟨g1, hg1⟩ : ∃ g1, g1 = gk := ⟨_, rfl⟩
      subst hg1
      by_cases hlt : i < l.length
      ·go_wp2
       go_loopg [6, 7] (l.length + 1) (ChkR4 (w.drewN n3) l i)
       case atStart => exact ⟨rfl, 0, by omega, rfl, i, hlt, rfl, rfl, fun d h1 h2 => absurd h1 (by omega)⟩
       case round =>
        obtain ⟨hw, k, hk, rfl, j, hj, rfl, hup, hno⟩ := hrel
        subst hw
        have HK4 := zq hk
        have HU := zq hup
        have HN := zq hno
        have hk2 : k ≤ l.length + 1 := by omega
        clear hk hup hno
        by_cases hlt2 : k ≤ l.length
        ·have hc1 := (HC.out j hj).2
         by_cases hp : (l[j]).par = emp
         ·have he := isEmpty_of_eq hp
          have hstop : ∀ d, 0 < d → d ≤ l.length + 1 → upN l d i ≠ some i := fun d h1 h2 => by
           rcases Nat.lt_or_ge k d with h3 | h3
           ·have : upN l (k + 1) i = none := by rw [upN_add, HU.out]; simp [upN, up_none hj hp]
            rw [upN_none_mono this h3]; simp
           ·exact HN.out d h1 h3
          have HS := zq hstop
          clear hstop hp
          go_wp2
          go_roundg (g1 - 1)
          case measure => have := HK.out; omega
          case rel =>
           refine ⟨_, rfl, i + 1, by have := HK.out; omega, by go_num, fun t ht d h1 h2 => ?_⟩
           rcases Nat.lt_or_ge t i with h3 | h3
           ·exact HP.out t h3 d h1 h2
           ·obtain rfl : t = i := by omega
            exact HS.out d h1 h2
         ·have he := isEmpty_of_ne hp
          obtain ⟨j', hx⟩ := parBad_false HP0.out hj hp
          obtain ⟨hj', hnm⟩ := idx_some hx
          have hi0 : idxI l (l[j]).par = (j' : Int) := by unfold idxI; rw [hx]
          have hup' : upN l (k + 1) i = some j' := by
           rw [upN_add, HU.out]; simp [upN, up_of hj, hp, hx]
          have HX := zq hi0
          have HU' := zq hup'
          clear hi0 hup' hx hnm hp
          by_cases hji : j' = i
          ·have hji' : ((j' : Int) == (i : Int)) = true := by rw [beq_iff_eq]; omega
           have hres : res = 14 := by
            rw [← HR.out, chkR_last H1.out hlen HF0.out HP0.out, if_neg]
            rw [not_ends_iff]
            refine twice_of_long hlt (fun hnn => ?_)
            have e : upN l (k + 1) i = some i := by rw [HU'.out, hji]
            have h3 := loop_forever e l.length
            rw [upN_none_mono hnn (by
             have : l.length * 1 ≤ (k + 1) * l.length := by rw [Nat.mul_comm]; exact Nat.mul_le_mul_right _ (by omega)
             omega)] at h3
            cases h3
           have HS := zq hres
           have HJ := zq hji
           clear hres hji
           go_wp2_with fail
           refine (region_c _ _ _ _ _ hn (h.drewN _)).mono ?_
           rintro e w' ⟨rfl, rfl⟩
           rw [HX.out]
           go_wp2
           go_ret
           exact GivesQ.mk (vint HS.out.symm) ⟨_, rfl⟩
          ·have hji' : ((j' : Int) == (i : Int)) = false := by rw [beq_eq_false_iff_ne]; omega
           have HJ := zq hji
           clear hji
           go_wp2_with fail
           refine (region_c _ _ _ _ _ hn (h.drewN _)).mono ?_
           rintro e w' ⟨rfl, rfl⟩
           rw [HX.out]
           go_wp2
           go_roundg (gk - 1)
           case measure => have := HK4.out; omega
           case rel =>
            refine ⟨rfl, k + 1, by have := HK4.out; omega, by go_num, j', hj', rfl, HU'.out, fun d h1 h2 => ?_⟩
            rcases Nat.lt_or_ge k d with h3 | h3
            ·obtain rfl : d = k + 1 := by omega
             rw [HU'.out]
             intro e
             injection e with e
             exact HJ.out e
            ·exact HN.out d h1 h3
        ·have hke : k = l.length + 1 := by omega
         have HKE := zq hke
         clear hke
         go_wp2
         go_roundg (g1 - 1)
         case measure => have := HK.out; omega
         case rel =>
          refine ⟨_, rfl, i + 1, by have := HK.out; omega, by go_num, fun t ht d h1 h2 => ?_⟩
          rcases Nat.lt_or_ge t i with h3 | h3
          ·exact HP.out t h3 d h1 h2
          ·obtain rfl : t = i := by omega
           exact HN.out d h1 (by rw [HKE.out]; exact h2)
      ·have hres : res = 0 := by
        rw [← HR.out, chkR_last H1.out hlen HF0.out HP0.out, if_pos]
        refine Classical.byContradiction fun hh => ?_
        obtain ⟨t, m, ht, hm, hml, e⟩ := not_ends_iff.1 hh
        exact HP.out t (by omega) m hm (by omega) e
       have HS := zq hres
       clear hres
       go_wp2
       go_ret
       exact GivesQ.mk (vint HS.out.symm) ⟨_, rfl⟩
theorem elStr : ElemT Tryz.prog 23 9 (.string ⟨#[]⟩) 1 16 := ⟨Tryz.underlying23, by kernel_rfl, rfl, by decide⟩
abbrev encS : ByteArray → List Value := fun s => [.string s]
def GivesS (l : List ByteArray) (w : World) (e : Ending) (w' : World) : Prop :=
 ∃ A c, e = .returned (.slice A l.length c) ∧ Strs w' A l ∧ Below w.heap.size w w'
def GivesB (v : Value) (w : World) (e : Ending) (w' : World) : Prop := e = .returned v ∧ Below w.heap.size w w'
theorem GivesB.mk {v v' : Value} {w w' : World} (h : v = v') (hw : Below w.heap.size w w') : GivesB v' w (.returned v) w' := ⟨by rw [h], hw⟩
theorem range_filter_succ {p : Nat → Bool} (k : Nat) : (List.range (k + 1)).filter p = (List.range k).filter p ++ (if p k then [k] else []) := by
 rw [List.range_succ, List.filter_append]
 cases h : p k <;> simp [h]
def gath (l : List Rg) (p : Nat → Bool) (k : Nat) : List ByteArray := ((List.range k).filter p).map (nmAt l)
theorem gath_yes {l : List Rg} {p : Nat → Bool} {k : Nat} (h : p k = true) : gath l p (k + 1) = gath l p k ++ [nmAt l k] := by
 unfold gath; rw [range_filter_succ, h]; simp
theorem gath_no {l : List Rg} {p : Nat → Bool} {k : Nat} (h : p k = false) : gath l p (k + 1) = gath l p k := by
 unfold gath; rw [range_filter_succ, h]; simp
theorem gath_le (l : List Rg) (p : Nat → Bool) (k : Nat) : (gath l p k).length ≤ k := by
 unfold gath; rw [List.length_map]
 have := List.length_filter_le p (List.range k)
 simpa using this
def GathRel (w : World) (l : List Rg) (p : Nat → Bool) (m : Nat) (out i : Value) (wr : World) : Prop :=
 ∃ k : Nat, k + m = l.length ∧ i = .int .i64 k ∧ OwnL encS 1 wr w.heap.size 9 out (gath l p k) ∧ Below w.heap.size w wr
def leafP (l : List Rg) (a : List Ar) (i : Nat) : Bool := !isPar l i && lies l a i
theorem gath_leaves (l : List Rg) (a : List Ar) : gath l (leafP l a) l.length = leavesOf l a := by
 unfold gath leavesOf leafIdx
 rw [List.filter_filter]
 congr 1
 apply List.filter_congr
 intro x _
 unfold leafP
 rw [Bool.and_comm]
theorem leaves_c (A A2 : Option Addr) (c c2 : Nat) (l : List Rg) (a : List Ar) (w : World) (g : GoodR l) (h : Rgs w A l) (h2 : Ars w A2 a) (hn2 : a.length ≤ 100) :
  Calls Tryz.prog 122 #[.slice A l.length c, .slice A2 a.length c2] w (GivesS (leavesOf l a) w) := by
 have hn := g.len
 obtain ⟨b, o, rfl, hb, hc⟩ := h.at_ (List.length_pos_iff.2 g.ne)
 have HC := zq hc
 clear hc
 go_enter Tryz.func122, Tryz.ntmps122
 go_wp2
 go_loopg [5, 6] l.length (GathRel w l (leafP l a))
 case atStart => exact ⟨0, by omega, rfl, OwnL.nil _ _ _ _ _, Below.refl _ _⟩
 case round =>
  obtain ⟨k, hk, rfl, hown, hbel⟩ := hrel
  have HK := zq hk
  have hk1 : k ≤ l.length := by omega
  clear hk
  by_cases hlt : k < l.length
  ·have hc0 : wr.cell? ⟨b, o + k * 2, none⟩ = some (.string (l[k]).nm) := (hbel.cell hb).trans (HC.out k hlt).1
   have hwr : w.heap.size ≤ wr.heap.size := hbel.size
   have hbr : b < wr.heap.size := by omega
   have hle := gath_le l (leafP l a) k
   have hlf := leafB_at g hlt
   by_cases hq : isPar l k = true
   ·have hl2 : leafB l (l[k]).nm = false := by rw [hlf, hq]; rfl
    have HL := zq hl2
    have HQ : Hid (leafP l a k = false) := by show leafP l a k = false; simp [leafP, hq]
    clear hlf hl2 hq
    go_wp2_with fail
    refine (IsLeaf_c _ _ _ _ _ hn (h.below hbel)).mono ?_
    rintro e w' ⟨rfl, rfl⟩
    rw [HL.out]
    go_wp2
    go_roundg (gk - 1)
    case measure => have := HK.out; omega
    case rel => exact ⟨k + 1, by have := HK.out; omega, by go_num, by rw [gath_no HQ.out]; exact hown, hbel⟩
   ·have hl2 : leafB l (l[k]).nm = true := by rw [hlf]; simp [hq]
    have HL := zq hl2
    have HQ := zq hq
    clear hlf hl2 hq
    cases hli : lies l a k with
    | false =>
     have HP : Hid (leafP l a k = false) := by show leafP l a k = false; simp [leafP, hli]
     have HI := zq hli
     clear hli
     go_wp2_with fail
     refine (IsLeaf_c _ _ _ _ _ hn (h.below hbel)).mono ?_
     rintro e w' ⟨rfl, rfl⟩
     rw [HL.out]
     go_wp2_with fail
     refine (lies_c _ _ _ _ _ _ _ g (h.below hbel) (h2.below hbel) hn2 k hlt).mono ?_
     rintro e w' ⟨rfl, rfl⟩
     rw [HI.out]
     go_wp2
     go_roundg (gk - 1)
     case measure => have := HK.out; omega
     case rel => exact ⟨k + 1, by have := HK.out; omega, by go_num, by rw [gath_no HP.out]; exact hown, hbel⟩
    | true =>
     have HP : Hid (leafP l a k = true) := by show leafP l a k = true; simp [leafP, hli, HQ.out]
     have HI := zq hli
     clear hli
     go_wp2_with fail
     refine (IsLeaf_c _ _ _ _ _ hn (h.below hbel)).mono ?_
     rintro e w' ⟨rfl, rfl⟩
     rw [HL.out]
     go_wp2_with fail
     refine (lies_c _ _ _ _ _ _ _ g (h.below hbel) (h2.below hbel) hn2 k hlt).mono ?_
     rintro e w' ⟨rfl, rfl⟩
     rw [HI.out]
     go_wp2_with (at_builtin; refine wpList_push _ _ _ elStr rfl rfl w.heap.size _ (gath l (leafP l a) k) rfl (hown.alloc _) wr.heap.size 1 (nmAt l k) rfl (by rw [nmAt_of hlt]; exact heap_alloc_new _ _) rfl (by simp [Value.oneCell']) (by unfold maxLen; omega) (by omega) (by simp; omega) ?_; intro v1 w1 hown1 hg1 hb1)
     have HO := zq hown1
     have hbel1 := (hbel.alloc hwr _).trans hb1
     have HB := zq hbel1
     clear hown hown1 hg1 hb1 hbel hbel1
     go_wp2
     go_roundg (gk - 1)
     case measure => have := HK.out; omega
     case rel => exact ⟨k + 1, by have := HK.out; omega, by go_num, by rw [gath_yes HP.out]; exact HO.out, HB.out⟩
  ·have hke : k = l.length := by omega
   have HKE := zq hke
   clear hke
   obtain ⟨A', c', rfl, hrd⟩ := hown.rd1
   go_wp2
   go_ret
   have e : gath l (leafP l a) k = leavesOf l a := by rw [HKE.out, gath_leaves]
   rw [e] at hrd ⊢
   exact ⟨A', c', rfl, hrd, hbel⟩
theorem leafIdx_lt {l : List Rg} {t : Nat} (h : t < (leafIdx l).length) : (leafIdx l)[t] < l.length := by
 have := List.getElem_mem h
 unfold leafIdx at this
 rw [List.mem_filter, List.mem_range] at this
 exact this.1
end Go.Proofs.YtlcfgejaeecclaaGreatDoor
