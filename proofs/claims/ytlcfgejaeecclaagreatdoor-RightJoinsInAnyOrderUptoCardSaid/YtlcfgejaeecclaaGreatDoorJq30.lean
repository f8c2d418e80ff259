/- Package right: what the program's Check answers is what Check answers (no program walked here). Joining titles, plainly: deeds by their content (no program walked here). Plain facts for the loop of Join: no program walked here. The reference's comparers: words, frames (printed by gen_same.py). -/
import Derived.Test.YtlcfgejaeecclaaGreatDoorJq29
import Derived.Test.YtlcfgejaeecclaaGreatDoorJq20
import Derived.Test.YtlcfgejaeecclaaGreatDoorJq21
namespace Go.Proofs.YtlcfgejaeecclaaGreatDoor
open Go.RowKit Dw

theorem need_fr {d : De} (hk : d.kd = 1) (h : needB d = false) : d.fr = emp := by
  unfold needB at h
  rw [hk] at h
  simp [givesB] at h
  exact h.1.1.1.1.1.1
theorem need_th {d : De} (hk : d.kd = 5) (h : needB d = false) : d.th = emp := by
  unfold needB at h
  rw [hk] at h
  simp [givesB] at h
  exact h.1.1.1.1.1.1
/-- Deeds that stand well, no Id twice. -/
def Gd (pre : List De) : Prop := (∀ q ∈ pre, (1 ≤ q.kd ∧ q.kd ≤ 5) ∧ needB q = false) ∧ pre.Pairwise (fun a b => a.id ≠ b.id)
theorem kN_cons (a : De) (t : List De) (x : ByteArray) : kN (a :: t) x = if a.id = x then a.kd else kN t x := by
  unfold kN
  by_cases h : a.id = x
  · rw [List.find?_cons_of_pos (by simp [sameId, h]), if_pos h]
  · rw [List.find?_cons_of_neg (by simp [sameId, h]), if_neg h]
theorem kN_any : ∀ (pre : List De) (x : ByteArray), pre.Pairwise (fun a b => a.id ≠ b.id) → givesB (kN pre x) = pre.any fun p => decide (p.id = x) && givesB p.kd
  | [], _, _ => rfl
  | a :: t, x, h => by
    rw [List.pairwise_cons] at h
    rw [kN_cons, List.any_cons]
    by_cases e : a.id = x
    · rw [if_pos e]
      have : (t.any fun p => decide (p.id = x) && givesB p.kd) = false := by
        rw [List.any_eq_false]
        intro q hq
        have := h.1 q hq
        simp
        intro e2
        exact absurd (e.trans e2.symm) this
      rw [this]
      simp [e]
    · rw [if_neg e, kN_any t x h.2]
      simp [e]
theorem any_born {pre : List De} {d : De} (hg : ∀ q ∈ pre, (1 ≤ q.kd ∧ q.kd ≤ 5) ∧ needB q = false) (hk : d.kd = 1) (hd : needB d = false) :
    (pre.any fun p => decide (p.kd = d.kd) && decide (p.th = d.th) && decide (p.fr = d.fr)) = bornB pre d.th := by
  unfold bornB
  rw [hk, need_fr hk hd]
  induction pre with
  | nil => rfl
  | cons a t ih =>
    rw [List.any_cons, List.any_cons, ih fun q hq => hg q (by simp [hq])]
    congr 1
    by_cases h : a.kd = 1
    · rw [need_fr h (hg a (by simp)).2]; simp
    · simp [h]
theorem any_gone {pre : List De} {d : De} (hg : ∀ q ∈ pre, (1 ≤ q.kd ∧ q.kd ≤ 5) ∧ needB q = false) (hk : d.kd = 5) (hd : needB d = false) :
    (pre.any fun p => decide (p.kd = d.kd) && decide (p.th = d.th) && decide (p.fr = d.fr)) = goneB pre d.fr := by
  unfold goneB
  rw [hk, need_th hk hd]
  induction pre with
  | nil => rfl
  | cons a t ih =>
    rw [List.any_cons, List.any_cons, ih fun q hq => hg q (by simp [hq])]
    congr 1
    by_cases h : a.kd = 5
    · rw [need_th h (hg a (by simp)).2]; simp
    · simp [h]
theorem progF_chkD {l : List Rg} {us : List ByteArray} {pre : List De} {d : De} (hg : Gd pre) : progF l us pre d = chkD l us pre d := by
  unfold progF chkD
  by_cases h1 : isNm d.id = false
  · rw [if_pos h1, if_pos h1]
  rw [if_neg h1, if_neg h1]
  unfold prog1
  by_cases h2 : dayB d.day = false
  · rw [if_pos h2, if_pos h2]
  rw [if_neg h2, if_neg h2]
  unfold prog2
  by_cases h3 : ordB pre d = false
  · rw [if_pos h3, if_pos h3]
  rw [if_neg h3, if_neg h3]
  unfold prog3
  have e4 : (pre.any fun p => decide (p.id = d.id)) = pre.any (sameId d.id) := rfl
  rw [e4]
  by_cases h4 : pre.any (sameId d.id) = true
  · rw [if_pos h4, if_pos h4]
  rw [if_neg h4, if_neg h4]
  unfold prog4
  by_cases h5 : d.kd < 1 ∨ 5 < d.kd
  · rw [if_pos h5, if_pos h5]
  rw [if_neg h5, if_neg h5]
  unfold prog5
  by_cases h6 : needB d = true
  · rw [if_pos h6, if_pos h6]
  rw [if_neg h6, if_neg h6]
  have hn : needB d = false := by simpa using h6
  have hk : d.kd = 1 ∨ d.kd = 2 ∨ d.kd = 3 ∨ d.kd = 4 ∨ d.kd = 5 := by omega
  unfold prog6 valF
  have tw0 : d.kd ≠ 1 → d.kd ≠ 5 → twB pre d = false := fun a b => by unfold twB; simp [a, b]
  rcases hk with hk | hk | hk | hk | hk
  · have hgv : ¬ givesB d.kd = true := by rw [hk]; decide
    rw [if_neg hgv, if_neg (show ¬ d.kd = 4 by omega), if_neg hgv, if_neg (show ¬ d.kd = 4 by omega)]
    have ht : twB pre d = bornB pre d.th := by unfold twB; rw [hk]; simp
    unfold divV divF
    rw [ht, any_born hg.1 hk hn]
    unfold shFull
    have hk5 : ¬ d.kd = 5 := by omega
    by_cases q1 : (d.kd = 1 ∧ isNm d.th = false) ∨ (d.kd = 5 ∧ isNm d.fr = false)
    · simp [q1]
    · rw [if_neg q1, if_neg q1]
      by_cases q2 : dayB d.bg = false
      · simp [q2]
      · by_cases q3 : shF d.kd d.sh = 0
        · simp [q2, q3, hk5]
        · simp [q2, q3]
  · have hgv : givesB d.kd = true := by rw [hk]; decide
    rw [if_pos hgv, if_pos hgv, tw0 (by omega) (by omega), giftF_two]
    simp
    exact fun h => h.symm
  · have hgv : givesB d.kd = true := by rw [hk]; decide
    rw [if_pos hgv, if_pos hgv, tw0 (by omega) (by omega), giftF_two]
    simp
    exact fun h => h.symm
  · have hgv : ¬ givesB d.kd = true := by rw [hk]; decide
    rw [if_neg hgv, if_pos hk, if_neg hgv, if_pos hk, tw0 (by omega) (by omega)]
    have ha := kN_any pre d.ot hg.2
    unfold endV endF
    rw [← ha]
    have hb : endB pre d.ot = pre.any fun p => decide (p.kd = 4) && decide (p.ot = d.ot) := rfl
    rw [← hb]
    have hgk : (kN pre d.ot ≠ 2 ∧ kN pre d.ot ≠ 3) ↔ givesB (kN pre d.ot) = false := by unfold givesB; simp
    by_cases q2 : dayB d.bg = false
    · simp [q2]
    · by_cases q3 : givesB (kN pre d.ot) = false
      · have := hgk.2 q3
        simp [q2, q3, this]
      · have : ¬ (kN pre d.ot ≠ 2 ∧ kN pre d.ot ≠ 3) := fun h => q3 (hgk.1 h)
        rw [if_neg q2, if_neg q2, if_neg this, if_neg q3]
        cases endB pre d.ot <;> simp
  · have hgv : ¬ givesB d.kd = true := by rw [hk]; decide
    rw [if_neg hgv, if_neg (show ¬ d.kd = 4 by omega), if_neg hgv, if_neg (show ¬ d.kd = 4 by omega)]
    have ht : twB pre d = goneB pre d.fr := by unfold twB; rw [hk]; simp
    unfold divV divF
    rw [ht, any_gone hg.1 hk hn]
    unfold shFull
    by_cases q1 : (d.kd = 1 ∧ isNm d.th = false) ∨ (d.kd = 5 ∧ isNm d.fr = false)
    · simp [q1]
    · rw [if_neg q1, if_neg q1]
      by_cases q2 : dayB d.bg = false
      · simp [q2]
      · by_cases q3 : shF d.kd d.sh = 0
        · by_cases q4 : (d.sh.any fun s => decide (s.pt = d.fr)) = true
          · have q3' : shF 5 d.sh = 0 := by rw [← hk]; exact q3
            rw [if_neg q2, if_neg q2]; simp only [q3', hk, q4]; simp
          · have q3' : shF 5 d.sh = 0 := by rw [← hk]; exact q3
            rw [if_neg q2, if_neg q2]; simp only [q3', hk, q4]; simp
        · simp [q2, q3]
theorem gd_take {rs : List Rg} {us : List ByteArray} {ds : List De} : ∀ (k : Nat), k ≤ ds.length → (∀ j, j < k → peFault rs us ds j = none) → Gd (ds.take k)
  | 0, _, _ => ⟨by simp, by simp⟩
  | k + 1, hk, hp => by
    have ih := gd_take k (by omega) fun j hj => hp j (by omega)
    have h1 := hp k (by omega)
    have hlt : k < ds.length := by omega
    have hgd : ds.getD k default = ds[k] := by simp [List.getD, hlt]
    unfold peFault at h1
    rw [hgd] at h1
    split at h1
    · cases h1
    · next h2 =>
      obtain ⟨a, b, c⟩ := progF_zero (Decidable.not_not.1 h2)
      rw [List.take_succ_eq_append_getElem hlt]
      refine ⟨fun q hq => ?_, ?_⟩
      · rcases List.mem_append.1 hq with hq | hq
        · exact ih.1 q hq
        · rw [List.mem_singleton] at hq
          subst hq
          exact ⟨a, b⟩
      · rw [List.pairwise_append]
        refine ⟨ih.2, by simp, fun x hx y hy => ?_⟩
        rw [List.mem_singleton] at hy
        subst hy
        rw [List.any_eq_false] at c
        have := c x hx
        simpa [sameId] using this
theorem pe_de {rs : List Rg} {us : List ByteArray} {ds : List De} : ∀ (n : Nat), n ≤ ds.length → (List.range n).findSome? (peFault rs us ds) = (List.range n).findSome? (deFault rs us ds)
  | 0, _ => rfl
  | n + 1, hn => by
    rw [List.range_succ, List.findSome?_append, List.findSome?_append, pe_de n (by omega)]
    cases h : (List.range n).findSome? (deFault rs us ds) with
    | some f => rfl
    | none =>
      have hp : ∀ j, j < n → peFault rs us ds j = none := fun j hj => by
        have h2 := pe_de (rs := rs) (us := us) (ds := ds) n (by omega)
        rw [h, List.findSome?_eq_none_iff] at h2
        exact h2 j (List.mem_range.2 hj)
      have hg := gd_take n (by omega) hp
      have e : peFault rs us ds n = deFault rs us ds n := by
        unfold peFault deFault
        rw [progF_chkD hg]
      simp [e]
theorem chkP_chkT (rs : List Rg) (us : List ByteArray) (ds : List De) : chkP rs us ds = chkT rs us ds := by
  unfold chkP chkT
  rw [pe_de ds.length (Nat.le_refl _)]
  rfl
/-- Check of a title answers as said. -/
theorem CheckT_c (RA : Option Addr) (rc : Nat) (rs : List Rg) (UA : Option Addr) (uc : Nat) (us : List ByteArray) (DA : Option Addr) (dc : Nat) (ds : List De) (w : World)
    (hr : Rgs w RA rs) (hu : Strs w UA us) (hd : Des w DA ds) (hz : ∀ i (h : i < rs.length), (rs[i]).nm.size ≤ 9223372036854775807) (hz2 : ∀ i (h : i < us.length), (us[i]).size ≤ 9223372036854775807) :
    Calls Tryz.prog 17 #[.agg (tiC RA rc rs UA uc us DA dc ds)] w (GivesB (.int .i64 (chkT rs us ds)) w) := by
  rw [← chkP_chkT]
  exact Check_c RA rc rs UA uc us DA dc ds w hr hu hd hz hz2
end Go.Proofs.YtlcfgejaeecclaaGreatDoor

namespace Go.Proofs.YtlcfgejaeecclaaGreatDoor
open Dw

/-- A deed's content, wherever its lists lie. -/
def plainD (d : De) : De := { d with arA := none, arc := 0, usA := none, usc := 0, shA := none, shc := 0 }
theorem sameD_iff (d e : De) : SameD d e ↔ plainD d = plainD e := by
  cases d
  cases e
  simp only [SameD, plainD, De.mk.injEq]
  constructor
  · rintro ⟨h1, h2, h3, h4, h5, h6, ⟨h7, h8⟩, h9, h10, h11, h12, h13, h14, h15, h16⟩
    simp_all
  · intro h
    simp_all
theorem plainD_id (d : De) : (plainD d).id = d.id := rfl
theorem plainD_plainD (d : De) : plainD (plainD d) = plainD d := rfl
theorem any_map_plain {f : De → Bool} (hf : ∀ d, f (plainD d) = f d) (l : List De) : (l.map plainD).any f = l.any f := by
  induction l with
  | nil => rfl
  | cons a t ih => rw [List.map_cons, List.any_cons, List.any_cons, ih, hf]
theorem ordB_plain (pre : List De) (d : De) : ordB (pre.map plainD) (plainD d) = ordB pre d := by
  unfold ordB
  rw [List.getLast?_map]
  cases pre.getLast? <;> rfl
theorem chkD_plain (rs : List Rg) (us : List ByteArray) (pre : List De) (d : De) : chkD rs us (pre.map plainD) (plainD d) = chkD rs us pre d := by
  have h1 : (pre.map plainD).any (fun p => decide (p.id = d.id)) = pre.any (fun p => decide (p.id = d.id)) := any_map_plain (fun _ => rfl) pre
  have h2 : (pre.map plainD).any (fun p => decide (p.id = d.ot) && givesB p.kd) = pre.any (fun p => decide (p.id = d.ot) && givesB p.kd) := any_map_plain (fun _ => rfl) pre
  have h3 : (pre.map plainD).any (fun p => decide (p.kd = 4) && decide (p.ot = d.ot)) = pre.any (fun p => decide (p.kd = 4) && decide (p.ot = d.ot)) := any_map_plain (fun _ => rfl) pre
  have h4 : (pre.map plainD).any (fun p => decide (p.kd = d.kd) && decide (p.th = d.th) && decide (p.fr = d.fr)) = pre.any (fun p => decide (p.kd = d.kd) && decide (p.th = d.th) && decide (p.fr = d.fr)) := any_map_plain (fun _ => rfl) pre
  have e1 : endF (pre.map plainD) (plainD d) = endF pre d := by
    unfold endF
    show (if dayB d.bg = false then (1 : Int) else if ((pre.map plainD).any fun p => decide (p.id = d.ot) && givesB p.kd) = false then 9 else if ((pre.map plainD).any fun p => decide (p.kd = 4) && decide (p.ot = d.ot)) = true then 7 else 0) = _
    rw [h2, h3]
  have e2 : divF (pre.map plainD) (plainD d) = divF pre d := by
    unfold divF
    show (if (d.kd = 1 ∧ isNm d.th = false) ∨ (d.kd = 5 ∧ isNm d.fr = false) then (5 : Int) else if dayB d.bg = false then 1 else if shF d.kd d.sh ≠ 0 then shF d.kd d.sh else if d.kd = 5 ∧ (d.sh.any fun s => decide (s.pt = d.fr)) = true then 12
      else if ((pre.map plainD).any fun p => decide (p.kd = d.kd) && decide (p.th = d.th) && decide (p.fr = d.fr)) = true then 7 else 0) = _
    rw [h4]
  unfold chkD
  rw [ordB_plain, e1, e2]
  show (if isNm d.id = false then (5 : Int) else if dayB d.day = false then 1 else if ordB pre d = false then 8 else if ((pre.map plainD).any fun p => decide (p.id = d.id)) = true then 7 else if d.kd < 1 ∨ 5 < d.kd then 4
    else if needB d = true then 3 else if givesB d.kd = true then giftF rs us d else if d.kd = 4 then endF pre d else divF pre d) = _
  rw [h1]
theorem findSome_congr {α : Type} {f g : Nat → Option α} : ∀ (l : List Nat), (∀ k ∈ l, f k = g k) → l.findSome? f = l.findSome? g
  | [], _ => rfl
  | a :: t, h => by
    rw [List.findSome?_cons, List.findSome?_cons, h a (by simp), findSome_congr t fun k hk => h k (by simp [hk])]
/-- Check looks at the contents alone. -/
theorem chkT_plain (rs : List Rg) (us : List ByteArray) (ds : List De) : chkT rs us (ds.map plainD) = chkT rs us ds := by
  unfold chkT
  have e : (List.range (ds.map plainD).length).findSome? (deFault rs us (ds.map plainD)) = (List.range ds.length).findSome? (deFault rs us ds) := by
    rw [List.length_map]
    refine findSome_congr _ fun k hk => ?_
    have hk' := List.mem_range.1 hk
    unfold deFault
    have e1 : (ds.map plainD).getD k default = plainD (ds.getD k default) := by simp [List.getD, hk']
    rw [e1, ← List.map_take, chkD_plain]
  rw [e, List.length_map]
theorem chkT_same {rs : List Rg} {us : List ByteArray} {ds ds2 : List De} (h : ds.map plainD = ds2.map plainD) : chkT rs us ds = chkT rs us ds2 := by
  rw [← chkT_plain rs us ds, h, chkT_plain]
/-- Deeds of two ids stand one way or the other. -/
theorem deLt_total {a b : De} (hid : a.id ≠ b.id) (h : deLt b a = false) : deLt a b = true := by
  unfold deLt at *
  simp only [Bool.or_eq_false_iff, Bool.and_eq_false_iff, decide_eq_false_iff_not, Bool.or_eq_true, Bool.and_eq_true, decide_eq_true_eq] at *
  obtain ⟨h1, h2⟩ := h
  by_cases e : a.day = b.day
  · right
    refine ⟨e, ?_⟩
    have h3 := h2.resolve_left (fun h => h e.symm)
    cases hs : slt a.id b.id with
    | true => rfl
    | false => exact absurd (slt_antisymm hs h3) hid
  · left; omega
theorem deLt_asymm (a b : De) (h : deLt a b = true) : ¬ deLt b a = true := fun k => by
  have := deLt_trans h k
  rw [deLt_irrefl] at this; cases this
theorem strict_of {l : List De} (hn : l.Pairwise fun a b => a.id ≠ b.id) (hs : l.Pairwise fun a b => deLt b a = false) : l.Pairwise fun a b => deLt a b = true :=
  (hn.and hs).imp fun h => deLt_total h.1 h.2
theorem firsts_away {α κ : Type} [DecidableEq κ] {key : α → κ} : ∀ (l seen : List α), ∀ x ∈ firsts key seen l, ∀ s ∈ seen, key s ≠ key x
  | [], _, x, hx => by simp [firsts] at hx
  | a :: l, seen, x, hx => by
    unfold firsts at hx
    split at hx
    · exact firsts_away l seen x hx
    · next h =>
      rcases List.mem_cons.1 hx with rfl | hx
      · intro s hs e
        exact h (by simp; exact ⟨s, hs, e⟩)
      · exact fun s hs => firsts_away l (a :: seen) x hx s (List.mem_cons_of_mem _ hs)
theorem firsts_ids {α κ : Type} [DecidableEq κ] {key : α → κ} : ∀ (l seen : List α), (firsts key seen l).Pairwise fun a b => key a ≠ key b
  | [], _ => by simp [firsts]
  | a :: l, seen => by
    unfold firsts
    split
    · exact firsts_ids l seen
    · exact List.pairwise_cons.2 ⟨fun x hx => firsts_away l (a :: seen) x hx a (by simp), firsts_ids l (a :: seen)⟩
/-- What is joined: the first of each Id, sorted. -/
def Joined (a b S : List De) : Prop := S.Perm (firsts De.id [] (a ++ b)) ∧ S.Pairwise fun x y => deLt y x = false
theorem Joined.strict {a b S : List De} (h : Joined a b S) : S.Pairwise fun x y => deLt x y = true := by
  have hn : S.Pairwise fun x y => x.id ≠ y.id := (h.1.pairwise_iff (fun h e => h e.symm)).2 (firsts_ids (a ++ b) [])
  exact strict_of hn h.2
/-- In whatever order: one list. -/
theorem joined_swap {a b S S' : List De} (hk : KeyOk De.id (a ++ b)) (h : Joined a b S) (h' : Joined b a S') : S' = S :=
  sort_same (lt := fun x y => deLt x y = true) deLt_asymm h'.1 h.1 h'.strict h.strict fun x => (firsts_swap hk x).symm
/-- Once more: the same list. -/
theorem joined_again {a b S S' : List De} (hk : KeyOk De.id (a ++ b)) (h : Joined a b S) (h' : Joined S b S') : KeyOk De.id (S ++ b) ∧ S' = S := by
  obtain ⟨k2, hm⟩ := firsts_again (s := S) hk fun x => h.1.mem_iff
  exact ⟨k2, sort_same (lt := fun x y => deLt x y = true) deLt_asymm h'.1 (List.Perm.refl S) h'.strict h.strict hm⟩
end Go.Proofs.YtlcfgejaeecclaaGreatDoor

namespace Go.Proofs.YtlcfgejaeecclaaGreatDoor
open Go Go.RowKit Dw

theorem firsts_new {α κ : Type} [DecidableEq κ] {key : α → κ} {a : α} : ∀ (l seen : List α), (∀ x ∈ seen ++ l, key x ≠ key a) → firsts key seen (l ++ [a]) = firsts key seen l ++ [a]
  | [], seen, h => by
    have hn : ¬ (seen.map key).contains (key a) = true := by
      simp only [List.contains_iff_mem, List.mem_map, not_exists, not_and]
      exact fun x hx => h x (by simpa using hx)
    simp only [List.nil_append, firsts, if_neg hn]
  | b :: l, seen, h => by
    rw [List.cons_append]
    simp only [firsts]
    split
    · exact firsts_new l seen fun x hx => h x (by simp only [List.mem_append, List.mem_cons] at hx ⊢; rcases hx with hx | hx <;> simp [hx])
    · rw [firsts_new l (b :: seen) fun x hx => h x (by simp only [List.mem_append, List.mem_cons] at hx ⊢; rcases hx with (hx | hx) | hx <;> simp [hx])]
      rfl
theorem firsts_old {α κ : Type} [DecidableEq κ] {key : α → κ} {a : α} : ∀ (l seen : List α), (∃ x ∈ seen ++ l, key x = key a) → firsts key seen (l ++ [a]) = firsts key seen l
  | [], seen, h => by
    have hn : (seen.map key).contains (key a) = true := by
      simp only [List.contains_iff_mem, List.mem_map]
      simpa using h
    simp only [List.nil_append, firsts, if_pos hn]
  | b :: l, seen, h => by
    obtain ⟨x, hx, hk⟩ := h
    rw [List.cons_append]
    simp only [firsts]
    split
    · next hb =>
      refine firsts_old l seen ?_
      simp only [List.contains_iff_mem, List.mem_map] at hb
      obtain ⟨y, hy, hyk⟩ := hb
      simp only [List.mem_append, List.mem_cons] at hx
      rcases hx with hx | rfl | hx
      · exact ⟨x, by simp [hx], hk⟩
      · exact ⟨y, by simp [hy], hyk.trans hk⟩
      · exact ⟨x, by simp [hx], hk⟩
    · rw [firsts_old l (b :: seen) ⟨x, by simp only [List.mem_append, List.mem_cons] at hx ⊢; rcases hx with hx | hx | hx <;> simp [hx], hk⟩]
theorem keyOk_new {α κ : Type} {key : α → κ} [DecidableEq κ] {l : List α} {a : α} (h : KeyOk key l) (hn : ∀ x ∈ l, key x ≠ key a) : KeyOk key (l ++ [a]) := by
  intro x hx y hy e
  simp only [List.mem_append, List.mem_singleton] at hx hy
  rcases hx with hx | rfl <;> rcases hy with hy | rfl
  · exact h x hx y hy e
  · exact absurd e (hn x hx)
  · exact absurd e.symm (hn y hy)
  · rfl
theorem keyOk_old {α κ : Type} {key : α → κ} [DecidableEq κ] {l : List α} {a : α} (h : KeyOk key l) (hn : a ∈ l) : KeyOk key (l ++ [a]) := by
  intro x hx y hy e
  simp only [List.mem_append, List.mem_singleton] at hx hy
  have hx' : x ∈ l := hx.elim id fun e => e ▸ hn
  have hy' : y ∈ l := hy.elim id fun e => e ▸ hn
  exact h x hx' y hy' e
theorem find_id_none {l : List De} {x : ByteArray} (h : l.find? (sameId x) = none) : ∀ q ∈ l, q.id ≠ x := fun q hq e => by
  have := List.find?_eq_none.1 h q hq
  exact this (by simp [sameId, e])
theorem find_id_some {l : List De} {x : ByteArray} {o : De} (h : l.find? (sameId x) = some o) : o ∈ l ∧ o.id = x :=
  ⟨List.mem_of_find?_eq_some h, by simpa [sameId] using List.find?_some h⟩
theorem mp_new {l : List De} {d : De} {f : De → Value} (h : l.find? (sameId d.id) = none) : (fun x => if x = d.id then some (f d) else (l.find? (sameId x)).map f) = fun x => ((l ++ [d]).find? (sameId x)).map f := by
  funext x
  rw [List.find?_append]
  by_cases hx : x = d.id
  · subst hx
    rw [if_pos rfl, h]
    simp [sameId]
  · rw [if_neg hx]
    have : sameId x d = false := by simp [sameId]; exact fun e => hx e.symm
    simp [this]
theorem mp_old {l : List De} {d o : De} {f : De → Value} (h : l.find? (sameId d.id) = some o) : (fun x => (l.find? (sameId x)).map f) = fun x => ((l ++ [d]).find? (sameId x)).map f := by
  funext x
  rw [List.find?_append]
  by_cases hx : x = d.id
  · subst hx
    rw [h]; rfl
  · have : sameId x d = false := by simp [sameId]; exact fun e => hx e.symm
    simp [this]
/-- Two deeds of one Id and other contents: no join. -/
theorem not_keyOk {l : List De} {o d : De} (ho : o ∈ l) (hd : d ∈ l) (hi : o.id = d.id) (h : ¬ SameD o d) : ¬ KeyOk De.id (l.map plainD) := fun k =>
  h ((sameD_iff o d).2 (k (plainD o) (List.mem_map_of_mem ho) (plainD d) (List.mem_map_of_mem hd) hi))
theorem inc_pair {l : List ByteArray} (h : ∀ i (h : i + 1 < l.length), slt l[i] l[i + 1] = true) : l.Pairwise fun a b => slt a b = true := by
  rw [List.pairwise_iff_getElem]
  intro i j hi hj hij
  obtain ⟨d, rfl⟩ : ∃ d, j = i + d + 1 := ⟨j - i - 1, by omega⟩
  induction d with
  | zero => exact h i hj
  | succ d ih => exact slt_trans (ih (by omega) (by omega)) (h (i + d + 1) hj)
theorem uses_len {us l : List ByteArray} (h : useF us l = 0) : l.length ≤ us.length := by
  unfold useF at h
  split at h
  · next f hf =>
    exfalso
    obtain ⟨k, _, hk⟩ := List.exists_of_findSome?_eq_some hf
    unfold useFault at hk
    split at hk
    · cases hk; cases h
    · split at hk
      · cases hk; cases h
      · cases hk
  · next hn =>
    rw [List.findSome?_eq_none_iff] at hn
    have hall : ∀ i (h : i < l.length), l[i] ∈ us ∧ (0 < i → sle l[i] (l[i - 1]'(by omega)) = false) := fun i hi => by
      have := hn i (by simpa using hi)
      have e1 : usAt l i = l[i] := by unfold usAt; rw [List.getD_eq_getElem?_getD, List.getElem?_eq_getElem hi]; rfl
      have e2 : usAt l (i - 1) = l[i - 1] := by unfold usAt; rw [List.getD_eq_getElem?_getD, List.getElem?_eq_getElem (by omega)]; rfl
      unfold useFault at this
      rw [e1, e2] at this
      split at this
      · cases this
      · next h1 =>
        split at this
        · cases this
        · next h2 =>
          refine ⟨memS_true.1 (by simpa using h1), fun hp => ?_⟩
          cases hs : sle l[i] l[i - 1] with
          | false => rfl
          | true => exact absurd ⟨hp, hs⟩ h2
    have hp : l.Pairwise fun a b => slt a b = true := inc_pair fun i hi => slt_of_not_sle ((hall (i + 1) hi).2 (by omega))
    have hnd : l.Nodup := hp.imp fun h => ne_of_slt h
    exact hnd.length_le_of_subset fun x hx => by
      obtain ⟨i, hi, rfl⟩ := List.getElem_of_mem hx
      exact (hall i hi).1
theorem chkA_len {rs : List Rg} {a : List Ar} (h : chkA rs a = 0) : a.length ≤ 100 := by
  unfold chkA at h
  split at h
  · cases h
  · omega
theorem shF_len {k : Int} {l : List Sh} (h : shF k l = 0) : l.length ≤ 20 := by
  unfold shF at h
  split at h
  · cases h
  split at h
  · cases h
  omega
/-- The lists of a right deed are short. -/
theorem chkD_lens {rs : List Rg} {us : List ByteArray} {pre : List De} {d : De} (h : chkD rs us pre d = 0) (hu : us.length ≤ 20) : d.ar.length ≤ 100 ∧ d.us.length ≤ 20 ∧ d.sh.length ≤ 20 := by
  unfold chkD at h
  split at h
  · cases h
  split at h
  · cases h
  split at h
  · cases h
  split at h
  · cases h
  split at h
  · cases h
  split at h
  · cases h
  next hnd =>
  simp only [needB, Bool.not_eq_true, Bool.or_eq_false_iff, Bool.and_eq_false_iff] at hnd
  obtain ⟨⟨⟨⟨⟨_, _⟩, hau⟩, _⟩, hsh⟩, _⟩ := hnd
  split at h
  · next hg =>
    unfold giftF at h
    split at h
    · cases h
    split at h
    · cases h
    split at h
    · next h1 => exact absurd h h1
    split at h
    · next h1 => exact absurd h h1
    next ha =>
    split at h
    · cases h
    split at h
    · next h1 => exact absurd h h1
    next hus =>
    have e1 := chkA_len (by simpa using ha)
    have e2 := uses_len (us := us) (l := d.us) (by simpa using hus)
    have e3 : d.sh = [] := by
      rcases hsh with hs | hs
      · exfalso
        simp only [givesB, Bool.or_eq_true, decide_eq_true_eq] at hg
        simp at hs
        omega
      · simpa using hs
    rw [e3]
    exact ⟨e1, by omega, by simp⟩
  · next hg =>
    have e12 : d.ar = [] ∧ d.us = [] := by
      rcases hau with hs | hs
      · simp at hs; exact absurd hs hg
      · simpa using hs
    rw [e12.1, e12.2]
    refine ⟨by simp, by simp, ?_⟩
    split at h
    · next h4 =>
      have e3 : d.sh = [] := by
        rcases hsh with hs | hs
        · exfalso
          simp at hs
          omega
        · simpa using hs
      rw [e3]; simp
    · unfold divF at h
      split at h
      · cases h
      split at h
      · cases h
      split at h
      · next h1 => exact absurd h h1
      next h1 => exact shF_len (by simpa using h1)
theorem chkT_deeds {rs : List Rg} {us : List ByteArray} {ds : List De} (h : chkT rs us ds = 0) : us.length ≤ 20 ∧ ∀ k (hk : k < ds.length), chkD rs us (ds.take k) ds[k] = 0 := by
  unfold chkT at h
  split at h
  · next h1 => exact absurd h h1
  split at h
  · cases h
  split at h
  · cases h
  next h3 =>
  refine ⟨by omega, fun k hk => ?_⟩
  split at h
  · next f hf =>
    exfalso
    obtain ⟨k, _, hk⟩ := List.exists_of_findSome?_eq_some hf
    unfold unFault at hk
    split at hk
    · cases hk; cases h
    · split at hk
      · cases hk; cases h
      · cases hk
  · split at h
    · cases h
    split at h
    · next f hf =>
      exfalso
      obtain ⟨k, _, hk⟩ := List.exists_of_findSome?_eq_some hf
      unfold deFault at hk
      split at hk
      · next hne => cases hk; exact hne h
      · cases hk
    · next hn =>
      rw [List.findSome?_eq_none_iff] at hn
      have := hn k (by simpa using hk)
      unfold deFault at this
      rw [List.getD_eq_getElem?_getD, List.getElem?_eq_getElem hk] at this
      split at this
      · cases this
      · next h0 => simpa using h0
theorem chkT_lens {rs : List Rg} {us : List ByteArray} {ds : List De} (h : chkT rs us ds = 0) : ∀ d ∈ ds, d.ar.length ≤ 1000000000 ∧ d.us.length ≤ 1000000000 ∧ d.sh.length ≤ 1000000000 := fun d hd => by
  obtain ⟨k, hk, rfl⟩ := List.getElem_of_mem hd
  have := chkD_lens ((chkT_deeds h).2 k hk) (chkT_deeds h).1
  omega
/-- What is wrong: f is Join's fault. -/
def JoinBad (rs : List Rg) (us : List ByteArray) (ds : List De) (rs2 : List Rg) (us2 : List ByteArray) (ds2 : List De) (f : Int) : Prop :=
  (chkT rs us ds ≠ 0 ∧ f = chkT rs us ds) ∨ (chkT rs us ds = 0 ∧ chkT rs2 us2 ds2 ≠ 0 ∧ f = chkT rs2 us2 ds2) ∨
  (chkT rs us ds = 0 ∧ chkT rs2 us2 ds2 = 0 ∧ (rs ≠ rs2 ∨ us ≠ us2) ∧ f = 6) ∨
  (chkT rs us ds = 0 ∧ chkT rs2 us2 ds2 = 0 ∧ (rs = rs2 ∧ us = us2) ∧ ¬ KeyOk De.id (ds.map plainD ++ ds2.map plainD) ∧ f = 12) ∨
  (chkT rs us ds = 0 ∧ chkT rs2 us2 ds2 = 0 ∧ (rs = rs2 ∧ us = us2) ∧ KeyOk De.id (ds.map plainD ++ ds2.map plainD) ∧ ∃ S', Joined (ds.map plainD) (ds2.map plainD) S' ∧ chkT rs us S' ≠ 0 ∧ f = chkT rs us S')
theorem JoinBad.no {rs : List Rg} {us : List ByteArray} {ds : List De} {rs2 : List Rg} {us2 : List ByteArray} {ds2 : List De} {f : Int} (h : JoinBad rs us ds rs2 us2 ds2 f) :
    ¬ (chkT rs us ds = 0 ∧ chkT rs2 us2 ds2 = 0 ∧ rs = rs2 ∧ us = us2 ∧ KeyOk De.id (ds.map plainD ++ ds2.map plainD) ∧ ∀ S', Joined (ds.map plainD) (ds2.map plainD) S' → chkT rs us S' = 0) := fun k => by
  rcases h with h | h | h | h | ⟨_, _, _, _, S', h1, h2, _⟩
  · exact h.1 k.1
  · exact h.2.1 k.2.1
  · exact h.2.2.1.elim (fun h => h k.2.2.1) (fun h => h k.2.2.2.1)
  · exact h.2.2.2.1 k.2.2.2.2.1
  · exact h2 (k.2.2.2.2.2 S' h1)
/-- What Join's fault and title are, by the contents. -/
def JoinP (rs : List Rg) (us : List ByteArray) (ds : List De) (rs2 : List Rg) (us2 : List ByteArray) (ds2 : List De) (f : Int) (R : List Rg) (U : List ByteArray) (S : List De) : Prop :=
  (f ≠ 0 → R = [] ∧ U = [] ∧ S = [] ∧ JoinBad rs us ds rs2 us2 ds2 f) ∧
  (f = 0 → chkT rs us ds = 0 ∧ chkT rs2 us2 ds2 = 0 ∧ rs = rs2 ∧ us = us2 ∧ KeyOk De.id (ds.map plainD ++ ds2.map plainD) ∧ R = rs ∧ U = us ∧ Joined (ds.map plainD) (ds2.map plainD) (S.map plainD) ∧ chkT rs us S = 0)
/-- A call of Join. -/
def GivesJ (rs : List Rg) (us : List ByteArray) (ds : List De) (rs2 : List Rg) (us2 : List ByteArray) (ds2 : List De) (w : World) (e : Ending) (w' : World) : Prop :=
  ∃ RA rc R UA uc U DA dc S f, e = .returned (.tuple #[.agg (tiC RA rc R UA uc U DA dc S), .int .i64 f]) ∧ JoinP rs us ds rs2 us2 ds2 f R U S ∧ Rgs w' RA R ∧ Strs w' UA U ∧ Des w' DA S ∧ Below w.heap.size w w'
theorem GivesJ.bad {rs : List Rg} {us : List ByteArray} {ds : List De} {rs2 : List Rg} {us2 : List ByteArray} {ds2 : List De} {w w' : World} {f : Int} (hf : f ≠ 0)
    (h : JoinBad rs us ds rs2 us2 ds2 f) (hb : Below w.heap.size w w') :
    GivesJ rs us ds rs2 us2 ds2 w (.returned (.tuple #[.agg #[.slice none 0 0, .slice none 0 0, .slice none 0 0], .int .i64 f])) w' :=
  ⟨none, 0, [], none, 0, [], none, 0, [], f, rfl, ⟨fun _ => ⟨rfl, rfl, rfl, h⟩, fun e => absurd e hf⟩, Rd2.nil, Rd1.nil, fun h => absurd h (by simp), hb⟩
theorem chkT_zero {rs : List Rg} {us : List ByteArray} {ds : List De} (h : chkT rs us ds = 0) : chkR rs = 0 ∧ us.length ≤ 20 ∧ ds.length ≤ 200 := by
  unfold chkT at h
  split at h
  · next h1 => exact absurd h h1
  next h1 =>
  split at h
  · cases h
  split at h
  · cases h
  next h3 =>
  split at h
  · next f hf =>
    exfalso
    obtain ⟨k, _, hk⟩ := List.exists_of_findSome?_eq_some hf
    unfold unFault at hk
    split at hk
    · cases hk; cases h
    · split at hk
      · cases hk; cases h
      · cases hk
  · split at h
    · cases h
    · next h4 => exact ⟨by simpa using h1, by omega, by omega⟩
end Go.Proofs.YtlcfgejaeecclaaGreatDoor

namespace Go.Proofs.YtlcfgejaeecclaaGreatDoor
open Go.RowKit Dw

set_option maxHeartbeats 1000000 in
theorem sameWords_c (A A2 : Option Addr) (c c2 : Nat) (L M : List ByteArray) (w : World) (hn : L.length ≤ 140737488355328) (hn2 : M.length ≤ 140737488355328) (h : Strs w A L) (h2 : Strs w A2 M) :
    Calls Tryz.prog 63 #[.slice A L.length c, .slice A2 M.length c2] w (GivesEq (L = M) w) := by
  by_cases hl : L.length = M.length
  · rw [← hl]
    have HL := Lib.hid hl
    clear hl
    go_enter Tryz.func63, Tryz.ntmps63
    go_wp2
    go_loopg [5] L.length (EqRel2 w L M)
    case atStart => exact ⟨0, rfl, 0, by omega, rfl, fun j hj => absurd hj (by omega)⟩
    case round =>
      obtain ⟨q, hw, k, hk, rfl, hpre⟩ := hrel
      subst hw
      have HK := Lib.hid hk
      have HP := Lib.hid hpre
      have hk1 : k ≤ L.length := by omega
      clear hk hpre
      by_cases hlt : k < L.length
      · have hlt2 : k < M.length := by have := HL.out; omega
        obtain ⟨b, o, rfl, hb, hc⟩ := h.at_ (by omega)
        obtain ⟨b2, o2, rfl, hb2, hcm⟩ := h2.at_ (by omega)
        have hc0 := hc k hlt
        have hd0 := hcm k hlt2
        clear hc hcm
        by_cases he : L[k] = M[k]
        · have heb := beq_of_eq he
          have HE := Lib.hid he
          clear he
          go_wp2
          go_quiet (fail)
          go_wp2
          go_roundg (gk - 1)
          case measure => have := HK.out; omega
          case rel =>
            refine ⟨_, rfl, k + 1, by have := HK.out; omega, by go_num, fun j hj => ?_⟩
            rcases Nat.lt_or_ge j k with h1 | h1
            · exact HP.out j h1
            · obtain rfl : j = k := by omega
              rw [List.getElem?_eq_getElem hlt, List.getElem?_eq_getElem (by have := HL.out; omega), HE.out]
        · have heb := beq_of_ne he
          have HE : Hid (¬ L = M) := by
            show ¬ L = M
            intro e
            subst e
            exact he rfl
          clear he
          go_wp2
          go_quiet (fail)
          go_wp2
          go_ret
          exact GivesEq.no HE.out ⟨_, World.drewN_drewN _ _ _⟩
      · go_wp2
        go_ret
        exact GivesEq.yes (same_of HL.out (by omega) HP.out) ⟨_, rfl⟩
  · have HE : Hid (¬ L = M) := by
      show ¬ L = M
      intro e
      subst e
      exact hl rfl
    have hlb : ((L.length : Int) != (M.length : Int)) = true := by simp; omega
    go_enter Tryz.func63, Tryz.ntmps63
    go_wp2
    go_ret
    exact GivesEq.no HE.out ⟨0, rfl⟩
def FrRel (w W : World) (L M : List Rg) (m : Nat) (i : Value) (wr : World) : Prop :=
  ∃ q, wr = W.drewN q ∧ ∃ k : Nat, k + m = L.length ∧ i = .int .i64 k ∧ ∀ j, j < k → L[j]? = M[j]?
set_option maxRecDepth 100000 in
set_option maxHeartbeats 4000000 in
theorem sameFrame_c (RA : Option Addr) (rc : Nat) (rs : List Rg) (UA : Option Addr) (uc : Nat) (us : List ByteArray) (DA : Option Addr) (dc : Nat) (ds : List De)
    (RA2 : Option Addr) (rc2 : Nat) (rs2 : List Rg) (UA2 : Option Addr) (uc2 : Nat) (us2 : List ByteArray) (DA2 : Option Addr) (dc2 : Nat) (ds2 : List De) (w : World)
    (hr : Rgs w RA rs) (hu : Strs w UA us) (hr2 : Rgs w RA2 rs2) (hu2 : Strs w UA2 us2) (hn : rs.length ≤ 140737488355328 ∧ us.length ≤ 140737488355328) (hn2 : rs2.length ≤ 140737488355328 ∧ us2.length ≤ 140737488355328) :
    Calls Tryz.prog 30 #[.agg (tiC RA rc rs UA uc us DA dc ds), .agg (tiC RA2 rc2 rs2 UA2 uc2 us2 DA2 dc2 ds2)] w (GivesQD (rs = rs2 ∧ us = us2) w) := by
  have HX : Hid (Bx ((w.alloc (.cells (tiC RA rc rs UA uc us DA dc ds) 26)).alloc (.cells (tiC RA2 rc2 rs2 UA2 uc2 us2 DA2 dc2 ds2) 26)) w.heap.size (tiC RA rc rs UA uc us DA dc ds) 26) := (Bx.new _ _ _).alloc _
  have HY : Hid (Bx ((w.alloc (.cells (tiC RA rc rs UA uc us DA dc ds) 26)).alloc (.cells (tiC RA2 rc2 rs2 UA2 uc2 us2 DA2 dc2 ds2) 26)) (w.heap.size + 1) (tiC RA2 rc2 rs2 UA2 uc2 us2 DA2 dc2 ds2) 26) := Bx.new1 _ _ _ _
  have HB : Hid (Below w.heap.size w ((w.alloc (.cells (tiC RA rc rs UA uc us DA dc ds) 26)).alloc (.cells (tiC RA2 rc2 rs2 UA2 uc2 us2 DA2 dc2 ds2) 26))) := ((Below.refl w.heap.size w).alloc (Nat.le_refl _) _).alloc (by simp) _
  obtain ⟨W, hW⟩ : ∃ W, W = (w.alloc (.cells (tiC RA rc rs UA uc us DA dc ds) 26)).alloc (.cells (tiC RA2 rc2 rs2 UA2 uc2 us2 DA2 dc2 ds2) 26) := ⟨_, rfl⟩
  rw [← hW] at HX HY HB
  have h := hr.below HB.out
  have h2 := hr2.below HB.out
  have HU := Lib.hid (hu.below HB.out)
  have HU2 := Lib.hid (hu2.below HB.out)
  clear hr hr2 hu hu2
  obtain ⟨hn1, hnu⟩ := hn
  obtain ⟨hn3, hnu2⟩ := hn2
  go_enter Tryz.func30, Tryz.ntmps30
  iterate 13 go_step
  rw [← hW]
  clear hW
  have hsx := HX.out.lt
  have hsy := HY.out.lt
  have x0 := HX.out.cell (i := 0) rfl
  have x1 := HX.out.cell (i := 1) rfl
  have y0 : W.cell? ⟨w.heap.size + 1, 0, none⟩ = some (.slice RA2 rs2.length rc2) := HY.out.cell (i := 0) rfl
  have y1 := HY.out.cell (i := 1) rfl
  clear HX HY
  by_cases hl : rs.length = rs2.length
  case neg =>
    have HE : Hid (¬ (rs = rs2 ∧ us = us2)) := fun e => hl (by rw [e.1])
    have hlb : ((rs.length : Int) != (rs2.length : Int)) = true := by simp; omega
    clear hl
    go_wp2
    go_ret
    exact GivesQD.no HE.out HB.out
  rw [← hl] at y0
  have HL := Lib.hid hl
  clear hl
  go_wp2_with fail
  with_reducible refine (sameWords_c UA UA2 uc uc2 us us2 _ hnu hnu2 HU.out HU2.out).mono ?_
  rintro x wx ⟨r, rfl, hrr, n, rfl⟩
  by_cases hus : us = us2
  case neg =>
    have hrf : r = false := by
      cases hh : r with
      | false => rfl
      | true => exact absurd (hrr.1 hh) hus
    subst hrf
    have HE : Hid (¬ (rs = rs2 ∧ us = us2)) := fun e => hus e.2
    clear hrr hus
    go_wp2
    go_ret
    exact GivesQD.no HE.out (below_drewN HB.out _)
  have hrt : r = true := hrr.2 hus
  subst hrt
  have HUS := Lib.hid hus
  clear hrr hus
  go_wp2
  go_loopg [5] rs.length (FrRel w W rs rs2)
  case atStart => exact ⟨n, rfl, 0, by omega, rfl, fun j hj => absurd hj (by omega)⟩
  case round =>
    obtain ⟨q, hw, k, hk, rfl, hpre⟩ := hrel
    subst hw
    have HK := Lib.hid hk
    have HP := Lib.hid hpre
    have hk1 : k ≤ rs.length := by omega
    clear hk hpre
    by_cases hlt : k < rs.length
    · have hlt2 : k < rs2.length := by have := HL.out; omega
      obtain ⟨b, o, rfl, hb, hc⟩ := h.at_ (by omega)
      obtain ⟨b2, o2, rfl, hb2, hcm⟩ := h2.at_ (by omega)
      have hc0 := (hc k hlt).1
      have hc1 := (hc k hlt).2
      have hd0 := (hcm k hlt2).1
      have hd1 := (hcm k hlt2).2
      clear hc hcm
      by_cases he : rs[k] = rs2[k]
      · have HE := Lib.hid he
        rw [← he] at hd0 hd1
        clear he
        go_wp2
        go_quiet (fail)
        go_wp2
        go_roundg (gk - 1)
        case measure => have := HK.out; omega
        case rel =>
          refine ⟨_, rfl, k + 1, by have := HK.out; omega, by go_num, fun j hj => ?_⟩
          rcases Nat.lt_or_ge j k with h1 | h1
          · exact HP.out j h1
          · obtain rfl : j = k := by omega
            rw [List.getElem?_eq_getElem hlt, List.getElem?_eq_getElem (by have := HL.out; omega), HE.out]
      · have HE : Hid (¬ (rs = rs2 ∧ us = us2)) := fun e => by
          obtain ⟨e, _⟩ := e
          subst e
          exact he rfl
        by_cases h0 : (rs[k]).nm = (rs2[k]).nm
        · have h3 : ¬ (rs[k]).par = (rs2[k]).par := fun e => he (by
            cases hx : rs[k]
            cases hy : rs2[k]
            simp_all)
          have hb := beq_of_ne h3
          rw [← h0] at hd0
          clear he h0 h3
          go_wp2
          go_quiet (fail)
          go_wp2
          go_ret
          exact GivesQD.no HE.out (below_drewN (below_drewN HB.out _) _)
        · have hb := beq_of_ne h0
          clear he h0
          go_wp2
          go_quiet (fail)
          go_wp2
          go_ret
          exact GivesQD.no HE.out (below_drewN (below_drewN HB.out _) _)
    · go_wp2
      go_ret
      exact GivesQD.yes ⟨same_of HL.out (by omega) HP.out, HUS.out⟩ (below_drewN HB.out _)
end Go.Proofs.YtlcfgejaeecclaaGreatDoor
