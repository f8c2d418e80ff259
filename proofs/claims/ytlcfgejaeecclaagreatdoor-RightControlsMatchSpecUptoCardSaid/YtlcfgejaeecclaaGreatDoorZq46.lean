/- Parts of the proof, joined: Who controls, plainly. Package right: a ledger's valid. Package right:. -/
import Derived.Test.YtlcfgejaeecclaaGreatDoorZq45
set_option maxRecDepth 100000
set_option maxHeartbeats 8000000
namespace Go.Proofs.YtlcfgejaeecclaaGreatDoor
open Dw
theorem nmAt_inj {l : List Rg} (g : GoodR l) {i k : Nat} (hi : i < l.length) (hk : k < l.length) (h : nmAt l i = nmAt l k) : i = k := by
 rw [nmAt_of hi, nmAt_of hk] at h
 have h1 := g.inc.idx hi
 rw [h, g.inc.idx hk] at h1
 injection h1 with h1
 exact h1.symm
theorem lmF_some {l : List Rg} (g : GoodR l) : ∀ {k i : Nat}, k ≤ l.length → i < k → isPar l i = false → lmF l k (nmAt l i) = some (.int .i64 ((leafTo l i).length : Int))
 | k + 1, i, hk, hi, hp => by
  unfold lmF
  by_cases he : i = k
  ·subst he
   rw [hp]; simp
  ·have hlt : i < k := by omega
   have ih := lmF_some g (k := k) (by omega) hlt hp
   split
   ·exact ih
   ·rw [if_neg fun h => he (nmAt_inj g (by omega) (by omega) h)]
    exact ih
theorem lmF_none {l : List Rg} {s : ByteArray} : ∀ {k : Nat}, (∀ i, i < k → isPar l i = false → s ≠ nmAt l i) → lmF l k s = none
 | 0, _ => rfl
 | k + 1, h => by
  unfold lmF
  have ih := lmF_none (k := k) fun i hi => h i (by omega)
  split
  ·exact ih
  ·next hp => rw [if_neg (h k (by omega) (by simpa using hp))]; exact ih
theorem leafTo_at {l : List Rg} {i : Nat} (hp : isPar l i = false) : ∀ {k : Nat}, i < k → (leafTo l k)[(leafTo l i).length]? = some i
 | k + 1, hi => by
  have e : leafTo l (k + 1) = leafTo l k ++ (if isPar l k = true then [] else [k]) := by
   unfold leafTo
   rw [List.range_succ, List.filter_append]
   cases hh : isPar l k <;> simp [hh]
  rw [e]
  by_cases he : i = k
  ·subst he
   rw [hp]; simp
  ·have ih := leafTo_at hp (k := k) (by omega)
   rw [List.getElem?_append_left (List.getElem?_eq_some_iff.1 ih).1]
   exact ih
theorem leaf_at {l : List Rg} (g : GoodR l) {s : ByteArray} (h : leafB l s = true) : ∃ (i n : Nat) (hi : i < l.length), (l[i]).nm = s ∧ lmF l l.length s = some (.int .i64 (n : Int)) ∧ (leafIdx l)[n]? = some i := by
 unfold leafB at h
 rw [Bool.and_eq_true] at h
 obtain ⟨h1, h2⟩ := h
 cases hx : idx l s with
 | none => rw [hx] at h1; cases h1
 | some i =>
  obtain ⟨hi, hs⟩ := idx_some hx
  have hp : isPar l i = false := by
   unfold isPar
   rw [nmAt_of hi, hs]
   simpa using h2
  refine ⟨i, (leafTo l i).length, hi, hs, ?_, leafTo_at hp hi⟩
  have := lmF_some g (Nat.le_refl _) hi hp
  rwa [nmAt_of hi, hs] at this
theorem leaf_no {l : List Rg} (g : GoodR l) {s : ByteArray} (h : leafB l s = false) : lmF l l.length s = none := by
 refine lmF_none fun i hi hp he => ?_
 rw [nmAt_of hi] at he
 have := leafB_at g hi
 rw [← he, h, hp] at this
 cases this
def vB (rs : List Rg) (ds : List De) (i : Nat) (use : ByteArray) (day : Int) (d : De) : Bool := decide ((runP ds d).1 ≤ day) && decide (day < (runP ds d).2) && (lies rs d.ar i && memS d.us use)
def licB (rs : List Rg) (ds : List De) (i : Nat) (use : ByteArray) (day : Int) (th p : ByteArray) (x : Bool) (d : De) : Bool := decide (d.kd = 3) && (decide (d.th = th) && (decide (d.fr = p) && ((d.ex == x) && vB rs ds i use day d)))
def licL (ds : List De) (P : De → Bool) (k : Nat) : List Int := ((List.range k).filter fun j => P (ds.getD j default)).map (fun j : Nat => (j : Int))
theorem licL_succ (ds : List De) (P : De → Bool) (k : Nat) : licL ds P (k + 1) = licL ds P k ++ (if P (ds.getD k default) = true then [(k : Int)] else []) := by
 unfold licL
 rw [List.range_succ, List.filter_append, List.map_append]
 congr 1
 by_cases h : P (ds.getD k default) = true
 ·rw [if_pos h, List.filter_cons_of_pos (p := fun j => P (ds.getD j default)) (a := k) h]; rfl
 ·rw [if_neg h, List.filter_cons_of_neg (p := fun j => P (ds.getD j default)) (a := k) h]; rfl
theorem licL_len (ds : List De) (P : De → Bool) (k : Nat) : (licL ds P k).length ≤ k := by
 unfold licL
 rw [List.length_map]
 have := List.length_filter_le (fun j => P (ds.getD j default)) (List.range k)
 simpa using this
theorem filter_head {P : Nat → Bool} : ∀ {n : Nat}, ((List.range n).filter P = [] → ∀ j, j < n → P j = false) ∧ ∀ k t, (List.range n).filter P = k :: t → k < n ∧ P k = true ∧ ∀ j, j < k → P j = false
 | 0 => ⟨fun _ j hj => by omega, fun k t h => by simp at h⟩
 | n + 1 => by
  obtain ⟨h1, h2⟩ := filter_head (P := P) (n := n)
  constructor
  ·intro h j hj
   rw [List.range_succ, List.filter_append, List.append_eq_nil_iff] at h
   rcases Nat.lt_or_ge j n with hh | hh
   ·exact h1 h.1 j hh
   ·obtain rfl : j = n := by omega
    cases hp : P j with
    | false => rfl
    | true => have := h.2; simp [hp] at this
  ·intro k t h
   rw [List.range_succ, List.filter_append] at h
   cases hf : (List.range n).filter P with
   | nil =>
    rw [hf, List.nil_append] at h
    cases hp : P n with
    | false => simp [hp] at h
    | true =>
     simp [hp] at h
     obtain ⟨rfl, rfl⟩ := h
     exact ⟨by omega, hp, h1 hf⟩
   | cons a r =>
    rw [hf, List.cons_append] at h
    injection h with ha hr
    subst ha
    obtain ⟨h3, h4, h5⟩ := h2 a r hf
    exact ⟨by omega, h4, h5⟩
theorem licL_none {ds : List De} {P : De → Bool} (h : licL ds P ds.length = []) : ds.find? P = none := by
 unfold licL at h
 rw [List.map_eq_nil_iff] at h
 have := filter_head.1 h
 rw [List.find?_eq_none]
 intro x hx
 obtain ⟨j, hj, rfl⟩ := List.getElem_of_mem hx
 have h1 := this j hj
 rw [List.getD_eq_getElem?_getD, List.getElem?_eq_getElem hj, Option.getD_some] at h1
 rw [h1]; simp
theorem licL_some {ds : List De} {P : De → Bool} {z : Int} {t : List Int} (h : licL ds P ds.length = z :: t) : ∃ (k : Nat) (hk : k < ds.length), z = (k : Int) ∧ ds.find? P = some ds[k] := by
 unfold licL at h
 cases hf : (List.range ds.length).filter fun j => P (ds.getD j default) with
 | nil => rw [hf] at h; cases h
 | cons k r =>
  rw [hf, List.map_cons] at h
  injection h with h1 _
  obtain ⟨h3, h4, h5⟩ := filter_head.2 k r hf
  refine ⟨k, h3, h1.symm, ?_⟩
  rw [List.find?_eq_some_iff_getElem]
  rw [List.getD_eq_getElem?_getD, List.getElem?_eq_getElem h3, Option.getD_some] at h4
  refine ⟨h4, k, h3, rfl, fun j hj => ?_⟩
  have h6 := h5 j hj
  rw [List.getD_eq_getElem?_getD, List.getElem?_eq_getElem (by omega), Option.getD_some] at h6
  rw [h6]; rfl
def nextP (rs : List Rg) (ds : List De) (i : Nat) (use : ByteArray) (day : Int) (th p : ByteArray) : Option ByteArray := (ds.find? (licB rs ds i use day th p true)).map De.to_
def ctlN (nx : ByteArray → Option ByteArray) : Nat → List ByteArray → ByteArray → ByteArray
 | 0, _, p => p
 | f + 1, seen, p => if memS seen p = true then p else match nx p with
  | none => p
  | some q => ctlN nx f (p :: seen) q
def ctlF (rs : List Rg) (ds : List De) (i : Nat) (use : ByteArray) (day : Int) (th ho : ByteArray) : ByteArray := ctlN (nextP rs ds i use day th) (ds.length + 2) [] ho
def conF (rs : List Rg) (us : List ByteArray) (ds : List De) (th ho pl use : ByteArray) (day : Int) : ByteArray × Int :=
 if chkT rs us ds ≠ 0 then (emp, chkT rs us ds) else if (isNm th && isNm ho) = false then (emp, 5) else if (leafB rs pl && memS us use) = false then (emp, 5) else if dayB day = false then (emp, 1)
 else (ctlF rs ds ((idx rs pl).getD 0) use day th ho, 0)
structure CtlI (nx : ByteArray → Option ByteArray) (ps : List ByteArray) (f : Nat) (seen : List ByteArray) (p r : ByteArray) : Prop where
 eq : ctlN nx f seen p = r
 nd : seen.Nodup
 sub : ∀ s ∈ seen, s ∈ ps
 inp : p ∈ ps
 fu : f + seen.length = ps.length + 1
theorem nodup_len {α : Type} [DecidableEq α] : ∀ {l r : List α}, l.Nodup → (∀ x ∈ l, x ∈ r) → l.length ≤ r.length
 | [], _, _, _ => by simp
 | a :: l, r, hn, hs => by
  obtain ⟨h1, h2⟩ := List.nodup_cons.1 hn
  have ih := nodup_len (l := l) (r := r.erase a) h2 fun x hx => (List.mem_erase_of_ne fun (e : x = a) => h1 (by rw [← e]; exact hx)).2 (hs x (List.mem_cons_of_mem _ hx))
  have ha := hs a List.mem_cons_self
  have := List.length_erase_of_mem ha
  have := List.length_pos_of_mem ha
  simp only [List.length_cons]
  omega
theorem CtlI.pos {nx : ByteArray → Option ByteArray} {ps : List ByteArray} {f : Nat} {seen : List ByteArray} {p r : ByteArray} (h : CtlI nx ps f seen p r) : ∃ g, f = g + 1 := by
 have := nodup_len h.nd h.sub
 have := h.fu
 exact ⟨f - 1, by omega⟩
theorem CtlI.stop {nx : ByteArray → Option ByteArray} {ps : List ByteArray} {f : Nat} {seen : List ByteArray} {p r : ByteArray} (h : CtlI nx ps f seen p r) (hp : memS seen p = true) : r = p := by
 obtain ⟨g, rfl⟩ := h.pos
 rw [← h.eq, ctlN, if_pos hp]
theorem CtlI.none {nx : ByteArray → Option ByteArray} {ps : List ByteArray} {f : Nat} {seen : List ByteArray} {p r : ByteArray} (h : CtlI nx ps f seen p r) (hp : memS seen p = false) (hn : nx p = .none) : r = p := by
 obtain ⟨g, rfl⟩ := h.pos
 rw [← h.eq, ctlN, if_neg (by rw [hp]; simp), hn]
theorem CtlI.next {nx : ByteArray → Option ByteArray} {ps : List ByteArray} {f : Nat} {seen : List ByteArray} {p q r : ByteArray} (h : CtlI nx ps f seen p r) (hp : memS seen p = false) (hn : nx p = some q) (hq : q ∈ ps) : 0 < f ∧ CtlI nx ps (f - 1) (p :: seen) q r := by
 obtain ⟨g, rfl⟩ := h.pos
 refine ⟨by omega, ⟨?_, List.nodup_cons.2 ⟨memS_false.1 hp, h.nd⟩, fun s hs => ?_, hq, ?_⟩⟩
 ·rw [Nat.add_sub_cancel, ← h.eq, ctlN, if_neg (by rw [hp]; simp), hn]
 ·rcases List.mem_cons.1 hs with rfl | hs
  ·exact h.inp
  ·exact h.sub s hs
 ·have := h.fu
  simp only [List.length_cons]
  omega
theorem ctlI_start (rs : List Rg) (ds : List De) (i : Nat) (use : ByteArray) (day : Int) (th ho : ByteArray) : CtlI (nextP rs ds i use day th) (ho :: ds.map De.to_) (ds.length + 2) [] ho (ctlF rs ds i use day th ho) :=
 ⟨rfl, List.nodup_nil, fun s hs => absurd hs (by simp), List.mem_cons_self, by simp⟩
theorem nextP_mem {rs : List Rg} {ds : List De} {i : Nat} {use : ByteArray} {day : Int} {th p q ho : ByteArray} (h : nextP rs ds i use day th p = some q) : q ∈ ho :: ds.map De.to_ := by
 unfold nextP at h
 obtain ⟨d, hd, rfl⟩ := Option.map_eq_some_iff.1 h
 exact List.mem_cons_of_mem _ (List.mem_map_of_mem (List.mem_of_find?_eq_some hd))
open Go.RowKit Dw
abbrev sptC (n : Nat) (use : ByteArray) (day : Int) : Array Value := #[.int .i64 (n : Int), .string use, .int .i64 day]
theorem cell_below {w w' : World} {a : Addr} {v : Value} (hb : Below w.heap.size w w') (h : w.cell? a = some v) : w'.cell? a = some v := by
 rw [hb.cell (block_lt_of_cell h)]
 exact h
theorem in_at {ds : List De} {rs : List Rg} {base : Nat} {w : World} {vi : Value} {ins : List (Value × List Bool)} (h : OwnL eIn 1 w base 130 vi ins) (h5 : ins.map Prod.snd = ds.map (insM rs)) (h6 : ∀ x ∈ ins, InS w x.1 x.2) {j : Nat} (hj : j < ds.length) :
  ∃ b o c x, vi = .slice (some ⟨b, o, none⟩) ds.length c ∧ w.cell? ⟨b, o + j, none⟩ = some x ∧ InS w x (insM rs ds[j]) := by
 have hl : ins.length = ds.length := by have := congrArg List.length h5; simpa using this
 obtain ⟨A, c, rfl, hr⟩ := h.rdk
 obtain ⟨b, o, rfl, hc⟩ := hr (by omega)
 have h0 := flat_at (enc := eIn) (k := 1) (fun _ => rfl) ins j (by omega) 0 (by omega)
 have h1 : (ins[j]'(by omega)).2 = insM rs ds[j] := by
  have e : (ins.map Prod.snd)[j]? = (ds.map (insM rs))[j]? := by rw [h5]
  rw [List.getElem?_map, List.getElem?_map, List.getElem?_eq_getElem (by omega), List.getElem?_eq_getElem hj] at e
  simpa using e
 refine ⟨b, o, c, (ins[j]'(by omega)).1, by rw [hl], ?_, ?_⟩
 ·refine hc _ _ ?_
  rw [Nat.mul_one, Nat.add_zero] at h0
  rw [h0]; rfl
 ·rw [← h1]
  exact h6 _ (List.getElem_mem _)
theorem set_at {rs : List Rg} {d : De} {w : World} {x : Value} {n i : Nat} (hg : givesB d.kd = true) (h : InS w x (insM rs d)) (hn : (leafIdx rs)[n]? = some i) : ∃ go c, x = .slice (some ⟨go, 0, none⟩) (inL rs d.ar).length c ∧ n < (inL rs d.ar).length ∧ go < w.heap.size ∧ w.cell? ⟨go, n, none⟩ = some (.bool (lies rs d.ar i)) := by
 have hm : insM rs d = inL rs d.ar := by unfold insM; rw [if_pos hg]
 rw [hm] at h
 obtain ⟨hn1, hn2⟩ := List.getElem?_eq_some_iff.1 hn
 have hl : n < (inL rs d.ar).length := by unfold inL; rw [List.length_map]; exact hn1
 rcases h with ⟨_, h⟩ | ⟨go, c, rfl, hh⟩
 ·rw [h] at hl; simp at hl
 ·refine ⟨go, c, rfl, hl, lt_of_heap hh, ?_⟩
  rw [cell_of_row _ go n _ _ _ hh, bArr_get _ _ hl]
  have e : (inL rs d.ar)[n]? = some (lies rs d.ar i) := by unfold inL; rw [List.getElem?_map, hn]; rfl
  rw [(List.getElem?_eq_some_iff.1 e).2]
  simp [hl]
theorem runP_gives {ds : List De} {d : De} {day : Int} (h1 : (runP ds d).1 ≤ day) (h2 : day < (runP ds d).2) : givesB d.kd = true := by
 cases hg : givesB d.kd with
 | true => rfl
 | false =>
  exfalso
  unfold runP at h1 h2
  rw [if_neg (by rw [hg]; simp)] at h1 h2
  simp at h1 h2
  omega
theorem valid_c (RA : Option Addr) (rc : Nat) (rs : List Rg) (UA : Option Addr) (uc : Nat) (us : List ByteArray) (DA : Option Addr) (dc : Nat) (ds : List De) (L k n i : Nat) (use : ByteArray) (day : Int) (w : World)
  (hl : LgIs RA rc rs UA uc us DA dc ds w L) (hd : Des w DA ds) (hk : k < ds.length) (hn : (leafIdx rs)[n]? = some i) (hul : (ds[k]).us.length ≤ 1000000) :
  Calls Tryz.prog 102 #[.pointer (some ⟨L, 0, none⟩), .int .i64 (k : Int), .agg (sptC n use day)] w (GivesB (.bool (vB rs ds i use day ds[k])) w) := by
 obtain ⟨b, o, rfl, hb0, hc0⟩ := hd (by omega)
 obtain ⟨hrg, hok⟩ := hc0 k hk
 obtain ⟨d, hdd⟩ : ∃ d, ds[k] = d := ⟨_, rfl⟩
 obtain ⟨r1, r2, g1, g2, AL, cL, vr, vi, ins, base, hlx, _, hrn, hin, hin2, hin3⟩ := hl
 obtain ⟨rb, ro, rcap, hvr, c0, c1⟩ := run_at hrn hk
 obtain ⟨ib, io, icap, x, hvi, ci, hix⟩ := in_at hin hin2 hin3 hk
 subst hvr hvi
 rw [hdd] at hrg hok c0 c1 hix hul ⊢
 generalize hres : vB rs ds i use day d = res
 have HR := zq hres
 have HOK := zq hok
 have HIX := zq hix
 have HLX := zq hlx
 have hbw : Below w.heap.size w (w.alloc (.cells (sptC n use day) 85)) := (Below.refl _ _).alloc (Nat.le_refl _) _
 have HX : Hid (Bx (w.alloc (.cells (sptC n use day) 85)) w.heap.size (sptC n use day) 85) := Bx.new _ _ _
 obtain ⟨W, hW⟩ : ∃ W, W = w.alloc (.cells (sptC n use day) 85) := ⟨_, rfl⟩
 rw [← hW] at HX hbw
 have HB := zq hbw
 have k0 : W.cell? ⟨rb, ro + k * 2, none⟩ = some (.int .i64 (runP ds d).1) := cell_below hbw c0
 have k1 : W.cell? ⟨rb, ro + k * 2 + 1, none⟩ = some (.int .i64 (runP ds d).2) := cell_below hbw c1
 have HCI : Hid (W.cell? ⟨ib, io + k, none⟩ = some x) := cell_below hbw ci
 have HRG : Hid (W.rangeAt b (o + k * 16) (deC d).toList) := fun j v hv => cell_below hbw (hrg j v hv)
 clear hres hok hix hlx hbw hrn hin hin2 hin3 c0 c1 ci hrg hc0 hdd
 have HRR : Hid (W.rangeAt rb (ro + k * 2) [.int .i64 (runP ds d).1, .int .i64 (runP ds d).2]) := fun j v hv => by
  match j, hv with
  | 0, hv => injection hv with hv; subst hv; exact k0
  | 1, hv => injection hv with hv; subst hv; exact k1
 clear k0 k1
 go_enter Tryz.func102, Tryz.ntmps102
 go_upto_region 1 with fail
 rw [← hW]
 clear hW
 have HLW := zq (HLX.out.below HB.out)
 have l9 := HLW.out.cell (i := 9) rfl
 have hsl := HLW.out.lt
 iterate 20 go_step
 refine wp_load_mid _ _ (by rfl) rb (ro + k * 2) (by rfl) [.int .i64 (runP ds d).1, .int .i64 (runP ds d).2] _ HRR.out Tryz.underlying71 rfl (by kernel_rfl) ?_
 clear l9 hsl
 go_upto_region 2 with fail
 obtain ⟨W2, hW2⟩ : ∃ W2, W2 = W.alloc (.cells (spC (runP ds d)) 71) := ⟨_, rfl⟩
 rw [← hW2]
 have hb2 : Below W.heap.size W W2 := by rw [hW2]; exact (Below.refl _ _).alloc (Nat.le_refl _) _
 have HS : Hid (Bx W2 W.heap.size (spC (runP ds d)) 71) := by show Bx _ _ _ _; rw [hW2]; exact Bx.new _ _ _
 have HBW := zq (below_trans HB.out hb2)
 have HX2 := zq (HX.out.below hb2)
 have HL2 := zq (HLW.out.below hb2)
 have CI2 := zq (cell_below hb2 HCI.out)
 have RG2 : Hid (W2.rangeAt b (o + k * 16) (deC d).toList) := fun j v hv => cell_below hb2 (HRG.out j v hv)
 clear hW2 hb2 HX HLW HCI HRG HRR
 have x0 := HX2.out.cell (i := 0) rfl
 have x1 := HX2.out.cell (i := 1) rfl
 have x2 := HX2.out.cell (i := 2) rfl
 have s0 := HS.out.cell (i := 0) rfl
 have s1 := HS.out.cell (i := 1) rfl
 have hsx := HX2.out.lt
 have hss := HS.out.lt
 by_cases h1 : (runP ds d).1 ≤ day
 ·have e1 : decide ((runP ds d).1 ≤ day) = true := decide_eq_true h1
  by_cases h2 : day < (runP ds d).2
  ·have e2 : decide (day < (runP ds d).2) = true := decide_eq_true h2
   have hgv := runP_gives h1 h2
   obtain ⟨go, cg, rfl, hlt, hgw, hcell⟩ := set_at hgv HIX.out hn
   have q0 : W2.cell? ⟨go, n, none⟩ = some (.bool (lies rs d.ar i)) := cell_below HBW.out hcell
   have q1 := CI2.out
   have l10 := HL2.out.cell (i := 10) rfl
   have hsl := HL2.out.lt
   have HR2 : Hid ((lies rs d.ar i && memS d.us use) = res) := by show _ = _; rw [← HR.out]; unfold vB; rw [e1, e2]; rfl
   have hnn : decide (n < (inL rs d.ar).length) = true := decide_eq_true hlt
   clear h1 h2 hgv hcell HR CI2 HIX
   cases hli : lies rs d.ar i with
   | false =>
    rw [hli] at q0
    have HV : Hid (res = false) := by show _ = _; rw [← HR2.out, hli]; rfl
    clear hli HR2
    go_quiet (fail)
    go_wp2
    go_ret
    exact GivesB.mk (vbool HV.out.symm) (below_drewN HBW.out _)
   | true =>
    rw [hli] at q0
    have HV : Hid (res = memS d.us use) := by show _ = _; rw [← HR2.out, hli]; rfl
    have l2 := HL2.out.cell (i := 2) rfl
    have d11 := RG2.out 11 _ rfl
    have hcon : ∀ m, Calls Tryz.prog 65 #[.slice d.usA d.us.length d.usc, .string use] (W2.drewN m) fun e w' => e = .returned (.bool res) ∧ w' = W2.drewN m := fun m =>
     (containsS_c d.usA d.usc d.us use (W2.drewN m) hul (HOK.out.uses.below (below_drewN HBW.out m))).mono fun e w' ⟨h1, h2⟩ => ⟨by rw [h1, HV.out], h2.symm⟩
    have HCON := zq hcon
    clear hli HR2 hcon
    go_quiet ((go_at_call 65; exact Calls.quiet_of_same (HCON.out _)))
    go_wp2
    go_ret
    exact GivesB.mk rfl (below_drewN HBW.out _)
  ·have e2 : decide (day < (runP ds d).2) = false := decide_eq_false h2
   have HV : Hid (res = false) := by show _ = _; rw [← HR.out]; unfold vB; rw [e1, e2]; rfl
   clear h1 h2
   go_quiet (fail)
   go_wp2
   go_ret
   exact GivesB.mk (vbool HV.out.symm) (below_drewN HBW.out _)
 ·have e1 : decide ((runP ds d).1 ≤ day) = false := decide_eq_false h1
  have HV : Hid (res = false) := by show _ = _; rw [← HR.out]; unfold vB; rw [e1]; rfl
  clear h1
  go_quiet (fail)
  go_wp2
  go_ret
  exact GivesB.mk (vbool HV.out.symm) (below_drewN HBW.out _)
def GivesLi (Ls : List Int) (w : World) (e : Ending) (w' : World) : Prop := ∃ v, e = .returned v ∧ OwnL encI 1 w' w.heap.size 3 v Ls ∧ Below w.heap.size w w'
def LiR (W : World) (ds : List De) (P : De → Bool) (m : Nat) (e i : Value) (wr : World) : Prop :=
 ∃ (v : Value) (j : Nat), v = e ∧ j + m = ds.length ∧ i = .int .i64 (j : Nat) ∧ Below W.heap.size W wr ∧ OwnL encI 1 wr W.heap.size 3 v (licL ds P j)
theorem licences_c (RA : Option Addr) (rc : Nat) (rs : List Rg) (UA : Option Addr) (uc : Nat) (us : List ByteArray) (DA : Option Addr) (dc : Nat) (ds : List De) (L n i : Nat) (use : ByteArray) (day : Int) (th p : ByteArray) (x : Bool) (w : World)
  (hl : LgIs RA rc rs UA uc us DA dc ds w L) (hd : Des w DA ds) (hn : (leafIdx rs)[n]? = some i) (hul : ∀ d ∈ ds, d.us.length ≤ 1000000) (hdl : ds.length ≤ 200) :
  Calls Tryz.prog 67 #[.pointer (some ⟨L, 0, none⟩), .string th, .string p, .agg (sptC n use day), .bool x] w (GivesLi (licL ds (licB rs ds i use day th p x) ds.length) w) := by
 have HLG := zq hl
 have HD := zq hd
 have HUL := zq hul
 have hbw : Below w.heap.size w (w.alloc (.cells (sptC n use day) 85)) := (Below.refl _ _).alloc (Nat.le_refl _) _
 have HX : Hid (Bx (w.alloc (.cells (sptC n use day) 85)) w.heap.size (sptC n use day) 85) := Bx.new _ _ _
 obtain ⟨W, hW⟩ : ∃ W, W = w.alloc (.cells (sptC n use day) 85) := ⟨_, rfl⟩
 rw [← hW] at HX hbw
 have HB := zq hbw
 have HLW := zq (hl.below hbw)
 have HDW := zq (hd.below hbw)
 clear hl hd hul hbw
 obtain ⟨r1, r2, g1, g2, AL, cL, vr, vi, ins, base, hlx, _⟩ := HLW.out
 go_enter Tryz.func67, Tryz.ntmps67
 go_upto_region 1 with fail
 rw [← hW]
 clear hW
 have l2 := hlx.cell (i := 2) rfl
 have hsl := hlx.lt
 go_wp2
 go_loopg [11, 20] ds.length (LiR W ds (licB rs ds i use day th p x))
 case atStart => exact ⟨_, 0, rfl, by omega, rfl, Below.refl _ _, OwnL.nil _ _ _ _ _⟩
 clear l2 hsl hlx
 case round =>
  obtain ⟨v, j, rfl, hjm, rfl, hb, ho⟩ := hrel
  have HJ := zq hjm
  have HBW := zq hb
  have HO := zq ho
  have hjl : j ≤ ds.length := by omega
  have hll := licL_len ds (licB rs ds i use day th p x) j
  clear hjm hb ho
  by_cases hlt : j < ds.length
  ·obtain ⟨b, o, hA, hb0, hc0⟩ := HDW.out (by omega)
   subst hA
   obtain ⟨d, hdd⟩ : ∃ d, ds[j] = d := ⟨_, rfl⟩
   have hp := (hc0 j hlt).1
   rw [hdd] at hp
   have hrg : wr.rangeAt b (o + j * 16) (deC d).toList := fun q v hv => (HBW.out.cell (p := ⟨b, o + j * 16 + q, none⟩) hb0).trans (hp q v hv)
   have HS : Hid (licL ds (licB rs ds i use day th p x) (j + 1) = licL ds (licB rs ds i use day th p x) j ++ (if licB rs ds i use day th p x d = true then [(j : Int)] else [])) := by
    show _ = _
    rw [licL_succ, List.getD_eq_getElem?_getD, List.getElem?_eq_getElem hlt, Option.getD_some, hdd]
   have hval := fun (u : World) (hu : Below W.heap.size W u) => valid_c RA rc rs UA uc us (some ⟨b, o, none⟩) dc ds L j n i use day u (HLW.out.below hu) (HDW.out.below hu) hlt hn (HUL.out _ (List.getElem_mem hlt))
   rw [hdd] at hval
   have HVAL := zq hval
   clear hp hc0 hdd hval
   go_upto_region 4 with fail
   iterate 8 go_step
   refine wp_load_mid _ _ (by rfl) b (o + j * 16) (by rfl) (deC d).toList _ hrg Tryz.underlying54 rfl (by kernel_rfl) ?_
   clear hrg
   go_upto_region 5 with fail
   obtain ⟨wd, hwd⟩ : ∃ wd, wd = wr.alloc (.cells (deC d) 54) := ⟨_, rfl⟩
   rw [← hwd]
   have hbd : Below wr.heap.size wr wd := by rw [hwd]; exact (Below.refl _ _).alloc (Nat.le_refl _) _
   have HD1 : Hid (Bx wd wr.heap.size (deC d) 54) := by show Bx _ _ _ _; rw [hwd]; exact Bx.new _ _ _
   have HBD := zq (below_trans HBW.out hbd)
   have HOD := zq (HO.out.below hbd)
   have HXD := zq (HX.out.below HBD.out)
   clear hwd hbd HO HBW
   have d2 := HD1.out.cell (i := 2) rfl
   have d3 := HD1.out.cell (i := 3) rfl
   have d4 := HD1.out.cell (i := 4) rfl
   have d8 := HD1.out.cell (i := 8) rfl
   have hsd := HD1.out.lt
   have x0 := HXD.out.cell (i := 0) rfl
   have x1 := HXD.out.cell (i := 1) rfl
   have x2 := HXD.out.cell (i := 2) rfl
   have hsx := HXD.out.lt
   have HNO : licB rs ds i use day th p x d = false → Hid (OwnL encI 1 wd W.heap.size 3 v (licL ds (licB rs ds i use day th p x) (j + 1))) := fun h => by
    show OwnL _ _ _ _ _ _ _
    rw [HS.out, h, if_neg (by simp), List.append_nil]; exact HOD.out
   by_cases hq : d.kd = 3
   case neg =>
    have e1 : (d.kd == 3) = false := by simpa using hq
    have HN := HNO (by unfold licB; rw [decide_eq_false hq]; rfl)
    clear hq HNO
    go_wp2
    go_roundg (gk - 1)
    case measure => have := HJ.out; omega
    case rel => exact ⟨_, j + 1, rfl, by have := HJ.out; omega, by go_num, HBD.out, HN.out⟩
   have e1 : (d.kd == 3) = true := by simpa using hq
   by_cases ht : d.th = th
   case neg =>
    have q1 := beq_of_ne ht
    have HN := HNO (by unfold licB; rw [decide_eq_false ht]; simp)
    clear hq ht HNO
    go_wp2
    go_roundg (gk - 1)
    case measure => have := HJ.out; omega
    case rel => exact ⟨_, j + 1, rfl, by have := HJ.out; omega, by go_num, HBD.out, HN.out⟩
   have q1 := beq_of_eq ht
   by_cases hf : d.fr = p
   case neg =>
    have q2 := beq_of_ne hf
    have HN := HNO (by unfold licB; rw [decide_eq_false hf]; simp)
    clear hq ht hf HNO
    go_wp2
    go_roundg (gk - 1)
    case measure => have := HJ.out; omega
    case rel => exact ⟨_, j + 1, rfl, by have := HJ.out; omega, by go_num, HBD.out, HN.out⟩
   have q2 := beq_of_eq hf
   cases hx : d.ex == x with
   | false =>
    have HN := HNO (by unfold licB; rw [hx]; simp)
    clear hq ht hf HNO
    go_wp2
    go_roundg (gk - 1)
    case measure => have := HJ.out; omega
    case rel => exact ⟨_, j + 1, rfl, by have := HJ.out; omega, by go_num, HBD.out, HN.out⟩
   | true =>
    have HV : Hid (licB rs ds i use day th p x d = vB rs ds i use day d) := by show _ = _; unfold licB; rw [decide_eq_true hq, decide_eq_true ht, decide_eq_true hf, hx]; rfl
    clear hq ht hf
    go_wp2_with fail
    with_reducible refine (HVAL.out _ HBD.out).mono ?_
    rintro e w3 ⟨rfl, hb3⟩
    have HB3 := zq (below_trans HBD.out hb3)
    have HO3 := zq (HOD.out.below hb3)
    clear hb3 d2 d3 d4 d8 hsd x0 x1 x2 hsx e1 q1 q2 hx HXD HD1 HOD HBD HVAL HNO
    cases hv : vB rs ds i use day d with
    | false =>
     have HN : Hid (OwnL encI 1 w3 W.heap.size 3 v (licL ds (licB rs ds i use day th p x) (j + 1))) := by
      show OwnL _ _ _ _ _ _ _
      rw [HS.out, HV.out, hv, if_neg (by simp), List.append_nil]; exact HO3.out
     clear hv
     go_wp2
     go_roundg (gk - 1)
     case measure => have := HJ.out; omega
     case rel => exact ⟨_, j + 1, rfl, by have := HJ.out; omega, by go_num, HB3.out, HN.out⟩
    | true =>
     have HS2 : Hid (licL ds (licB rs ds i use day th p x) (j + 1) = licL ds (licB rs ds i use day th p x) j ++ [(j : Int)]) := by
      show _ = _
      rw [HS.out, HV.out, hv, if_pos rfl]
     have hW3 : W.heap.size ≤ w3.heap.size := HB3.out.size
     clear hv
     go_wp2_with (at_builtin; refine wpList_push _ _ _ elInt rfl rfl W.heap.size v (licL ds (licB rs ds i use day th p x) j) rfl (HO3.out.alloc _) w3.heap.size 1 (j : Int) rfl (heap_alloc_new _ _) rfl (by simp [Value.oneCell']) (by unfold maxLen; omega) (by omega) (by simp; omega) ?_; intro v1 w4 hown4 hg4 hb4)
     have HO4 : Hid (OwnL encI 1 w4 W.heap.size 3 v1 (licL ds (licB rs ds i use day th p x) (j + 1))) := by show OwnL _ _ _ _ _ _ _; rw [HS2.out]; exact hown4
     have HB4 := zq ((HB3.out.alloc hW3 _).trans hb4)
     clear hown4 hg4 hb4
     go_wp2
     go_roundg (gk - 1)
     case measure => have := HJ.out; omega
     case rel => exact ⟨_, j + 1, rfl, by have := HJ.out; omega, by go_num, HB4.out, HO4.out⟩
  ·have hje : j = ds.length := by omega
   rw [hje] at HO
   go_wp2
   go_ret
   exact ⟨v, rfl, OwnL.base HO.out HB.out.size, below_trans HB.out HBW.out⟩
def seenM (seen : List ByteArray) : ByteArray → Option Value := fun x => if memS seen x = true then some (.bool true) else none
theorem seenM_nil : seenM [] = fun _ => none := by funext x; rfl
theorem seenM_cons (p : ByteArray) (seen : List ByteArray) : seenM (p :: seen) = fun x => if x = p then some (.bool true) else seenM seen x := by
 funext x
 unfold seenM
 by_cases h : x = p
 ·rw [if_pos (memS_true.2 (by rw [h]; exact List.mem_cons_self)), if_pos h]
 ·rw [if_neg h]
  by_cases hm : memS seen x = true
  ·rw [if_pos hm, if_pos (memS_true.2 (List.mem_cons_of_mem _ (memS_true.1 hm)))]
  ·rw [if_neg hm, if_neg fun h2 => ?_]
   rcases List.mem_cons.1 (memS_true.1 h2) with h3 | h3
   ·exact h h3
   ·exact hm (memS_true.2 h3)
theorem tMapSB : Tryz.prog.underlying 108 = some (.map 9 4) := Tryz.underlying108
theorem zBoolS (w : World) : (zeroValue 4).run Tryz.prog w = .ok (.bool false) w := by kernel_rfl
def CtR (W : World) (nx : ByteArray → Option ByteArray) (ps : List ByteArray) (res : ByteArray) (m : Nat) (e : Value) (wr : World) : Prop :=
 ∃ (p : ByteArray) (seen : List ByteArray), e = .string p ∧ Below W.heap.size W wr ∧ W.heap.size < wr.heap.size ∧ MapIs Value.string wr W.heap.size (seenM seen) ∧ CtlI nx ps m seen p res
theorem controls_c (RA : Option Addr) (rc : Nat) (rs : List Rg) (UA : Option Addr) (uc : Nat) (us : List ByteArray) (DA : Option Addr) (dc : Nat) (ds : List De) (L n i : Nat) (use : ByteArray) (day : Int) (th ho : ByteArray) (w : World)
  (hl : LgIs RA rc rs UA uc us DA dc ds w L) (hd : Des w DA ds) (hn : (leafIdx rs)[n]? = some i) (hul : ∀ d ∈ ds, d.us.length ≤ 1000000) (hdl : ds.length ≤ 200) :
  Calls Tryz.prog 37 #[.pointer (some ⟨L, 0, none⟩), .string th, .string ho, .agg (sptC n use day)] w (GivesB (.string (ctlF rs ds i use day th ho)) w) := by
 have HI0 := zq (ctlI_start rs ds i use day th ho)
 generalize ctlF rs ds i use day th ho = res at *
 have hbw : Below w.heap.size w (w.alloc (.cells (sptC n use day) 85)) := (Below.refl _ _).alloc (Nat.le_refl _) _
 have HX : Hid (Bx (w.alloc (.cells (sptC n use day) 85)) w.heap.size (sptC n use day) 85) := Bx.new _ _ _
 obtain ⟨W, hW⟩ : ∃ W, W = w.alloc (.cells (sptC n use day) 85) := ⟨_, rfl⟩
 rw [← hW] at HX hbw
 have HB := zq hbw
 have HLW := zq (hl.below hbw)
 have HDW := zq (hd.below hbw)
 have HUL := zq hul
 clear hl hd hul hbw
 have hmm := @run_makeMap Tryz.prog
 go_enter Tryz.func37, Tryz.ntmps37
 go_upto_region 1 with fail
 rw [← hW]
 clear hW
 go_upto_region 2 with fail
 clear hmm
 have HM0 : Hid (MapIs Value.string (W.alloc (.map #[] 0)) W.heap.size (seenM [])) := by show MapIs _ _ _ _; rw [seenM_nil]; exact MapIs.new Value.string W
 have HBM : Hid (Below W.heap.size W (W.alloc (.map #[] 0))) := (Below.refl _ _).alloc (Nat.le_refl _) _
 go_loopg [2] (ds.length + 2) (CtR W (nextP rs ds i use day th) (ho :: ds.map De.to_) res)
 case atStart => exact ⟨ho, [], rfl, HBM.out, by simp, HM0.out, HI0.out⟩
 clear HM0 HBM HI0
 case round =>
  obtain ⟨p, seen, rfl, hb, hlt0, hm, hi⟩ := hrel
  have HBW := zq hb
  have HM := zq hm
  have HI := zq hi
  clear hb hm hi
  have hlk := run_lookup_map tMapSB kStr zBoolS HM.out p false
  cases hms : memS seen p with
  | true =>
   have HRS := zq (HI.out.stop hms)
   rw [show seenM seen p = some (.bool true) by unfold seenM; rw [if_pos hms]] at hlk
   simp only [Bool.false_eq_true, if_false, Option.getD_some] at hlk
   clear hms
   go_wp2
   go_ret
   exact GivesB.mk (by rw [HRS.out]; rfl) (below_trans HB.out HBW.out)
  | false =>
   rw [show seenM seen p = none by unfold seenM; rw [if_neg (by rw [hms]; simp)]] at hlk
   simp only [Bool.false_eq_true, if_false, Option.getD_none] at hlk
   have HMS := zq hms
   clear hms
   obtain ⟨wu, hup, hmu, hgu, hsu⟩ := run_update_map tMapSB kStr HM.out p (.bool true)
   have HMU : Hid (MapIs Value.string wu W.heap.size (seenM (p :: seen))) := by show MapIs _ _ _ _; rw [seenM_cons]; exact hmu
   have hbu : Below W.heap.size W wu := HBW.out.grown hgu HBW.out.size (fun k hk => by injection hk with hk; rw [← hk]; exact Nat.le_refl _)
   have HBU := zq hbu
   have hltu : W.heap.size < wu.heap.size := Nat.lt_of_lt_of_le hlt0 hgu.size
   have HXU := zq (HX.out.below hbu)
   have HLC := zq (licences_c RA rc rs UA uc us DA dc ds L n i use day th p true wu (HLW.out.below hbu) (HDW.out.below hbu) hn HUL.out hdl)
   obtain ⟨Ls, hLs⟩ : ∃ Ls, Ls = licL ds (licB rs ds i use day th p true) ds.length := ⟨_, rfl⟩
   rw [← hLs] at HLC
   have HLS := zq hLs
   have hll : Ls.length ≤ ds.length := by rw [hLs]; exact licL_len _ _ _
   clear hmu hgu hsu hbu hLs HM HBW
   have x0 := HXU.out.cell (i := 0) rfl
   have x1 := HXU.out.cell (i := 1) rfl
   have x2 := HXU.out.cell (i := 2) rfl
   have hsx := HXU.out.lt
   go_wp2_with fail
   with_reducible refine HLC.out.mono ?_
   rintro e w5 ⟨v, rfl, ho5, hb5⟩
   obtain ⟨A, c, rfl, hrd⟩ := ho5.rdk
   have HRD := zq hrd
   have HB5 := zq (below_trans HBU.out hb5)
   have HM5 := zq (HMU.out.below hb5)
   have hlt5 : W.heap.size < w5.heap.size := Nat.lt_of_lt_of_le hltu hb5.size
   clear ho5 hb5 hrd x0 x1 x2 hsx hup hlk HLC HXU HMU HBU
   cases Ls with
   | nil =>
    have HRS := zq (HI.out.none HMS.out (by show (ds.find? _).map _ = _; rw [licL_none HLS.out.symm]; rfl))
    simp only [List.length_nil]
    go_wp2
    go_ret
    exact GivesB.mk (by rw [HRS.out]; rfl) (below_trans HB.out HB5.out)
   | cons z t =>
    obtain ⟨k, hk, hz, hfd⟩ := licL_some HLS.out.symm
    subst hz
    obtain ⟨d, hdd⟩ : ∃ d, ds[k] = d := ⟨_, rfl⟩
    rw [hdd] at hfd
    have hnx : nextP rs ds i use day th p = some d.to_ := by unfold nextP; rw [hfd]; rfl
    have HNX := zq (HI.out.next HMS.out hnx (nextP_mem hnx))
    obtain ⟨b, o, hA, hb0, hc0⟩ := HDW.out (by omega)
    subst hA
    have hp := (hc0 k hk).1
    rw [hdd] at hp
    have d5 : w5.cell? ⟨b, o + k * 16 + 5, none⟩ = some (.string d.to_) := (HB5.out.cell (p := ⟨b, o + k * 16 + 5, none⟩) hb0).trans (hp 5 _ rfl)
    obtain ⟨b2, o2, rfl, hc2⟩ := HRD.out (by simp)
    have s0 : w5.cell? ⟨b2, o2, none⟩ = some (.int .i64 (k : Int)) := hc2 0 _ rfl
    obtain ⟨r1, r2, g1, g2, AL, cL, vr, vi, ins, base, hlx, _⟩ := HLW.out.below HB5.out
    have l2 := hlx.cell (i := 2) rfl
    have hsl := hlx.lt
    have hpos : 0 < gk := HNX.out.1
    have hln : (((k : Int) :: t).length == 0) = false := by simp
    clear hc0 hp hc2 hlx hfd hnx hdd HRD
    simp only [List.length_cons] at *
    have hln2 : (((t.length + 1 : Nat) : Int) == 0) = false := by simp; omega
    go_wp2
    go_quiet (fail)
    go_wp2
    go_roundg (gk - 1)
    case measure => omega
    case rel => exact ⟨d.to_, p :: seen, rfl, below_drewN HB5.out _, by simpa using hlt5, HM5.out.below (below_drewN (Below.refl _ _) _), HNX.out.2⟩
abbrev zSpot : Array Value := #[.int .i64 0, .string ⟨#[]⟩, .int .i64 0]
def spotF (rs : List Rg) (us : List ByteArray) (pl use : ByteArray) (day : Int) : Int := if (leafB rs pl && memS us use) = false then 5 else if dayB day = false then 1 else 0
def GivesSp (rs : List Rg) (us : List ByteArray) (pl use : ByteArray) (day : Int) (w : World) (e : Ending) (w' : World) : Prop :=
 Below w.heap.size w w' ∧ ((spotF rs us pl use day ≠ 0 ∧ e = .returned (.tuple #[.agg zSpot, .int .i64 (spotF rs us pl use day)])) ∨
  (spotF rs us pl use day = 0 ∧ ∃ n, (leafIdx rs)[n]? = some ((idx rs pl).getD 0) ∧ e = .returned (.tuple #[.agg (sptC n use day), .int .i64 0])))
theorem below_st3 {b g : Nat} {w W : World} (h : Below b w W) (hb : b ≤ g) (u v x : Value) : Below b w (((W.setCell ⟨g, 0, none⟩ u).setCell ⟨g, 1, none⟩ v).setCell ⟨g, 2, none⟩ x) := ((h.setCell hb _).setCell hb _).setCell hb _
theorem leaf_idx {l : List Rg} (g : GoodR l) {s : ByteArray} (h : leafB l s = true) : ∃ n : Nat, lmF l l.length s = some (.int .i64 (n : Int)) ∧ (leafIdx l)[n]? = some ((idx l s).getD 0) ∧ (idx l s).getD 0 < l.length ∧ (l.getD ((idx l s).getD 0) default).nm = s := by
 obtain ⟨i, n, hi, h1, h2, h3⟩ := leaf_at g h
 have hx : idx l s = some i := by rw [← h1]; exact g.inc.idx hi
 refine ⟨n, h2, by rw [hx]; exact h3, by rw [hx]; exact hi, ?_⟩
 rw [hx, Option.getD_some, List.getD_eq_getElem?_getD, List.getElem?_eq_getElem hi]
 exact h1
theorem spot_c (RA : Option Addr) (rc : Nat) (rs : List Rg) (UA : Option Addr) (uc : Nat) (us : List ByteArray) (DA : Option Addr) (dc : Nat) (ds : List De) (L : Nat) (pl use : ByteArray) (day : Int) (w : World)
  (g : GoodR rs) (hl : LgIs RA rc rs UA uc us DA dc ds w L) (hu : Strs w UA us) (hul : us.length ≤ 20) :
  Calls Tryz.prog 36 #[.pointer (some ⟨L, 0, none⟩), .string pl, .string use, .int .i64 day] w (GivesSp rs us pl use day w) := by
 have hbw : Below w.heap.size w (w.alloc (.cells zSpot 85)) := (Below.refl _ _).alloc (Nat.le_refl _) _
 have HX : Hid (Bx (w.alloc (.cells zSpot 85)) w.heap.size zSpot 85) := Bx.new _ _ _
 obtain ⟨W, hW⟩ : ∃ W, W = w.alloc (.cells zSpot 85) := ⟨_, rfl⟩
 rw [← hW] at HX hbw
 have HB := zq hbw
 obtain ⟨r1, r2, g1, g2, AL, cL, vr, vi, ins, base, hlx, hwr, _⟩ := hl.below hbw
 have HUW := zq (hu.below hbw)
 have hlk := run_lookup_map tMap kStr zInt hwr.m2 pl true
 clear hl hu hbw hwr
 go_enter Tryz.func36, Tryz.ntmps36
 go_upto_region 1 with fail
 rw [← hW]
 clear hW
 have l6 := hlx.cell (i := 6) rfl
 have l1 := hlx.cell (i := 1) rfl
 have hsl := hlx.lt
 have x0 := HX.out.cell (i := 0) rfl
 have x1 := HX.out.cell (i := 1) rfl
 have x2 := HX.out.cell (i := 2) rfl
 have f0 := HX.out.frozen 0
 have f1 := HX.out.frozen 1
 have f2 := HX.out.frozen 2
 have hsx := HX.out.lt
 have HCO := zq (containsS_c UA uc us use W (by omega) HUW.out)
 have HDY := zq (isDay_c day W)
 clear hlx
 cases hlb : leafB rs pl with
 | false =>
  have HF : Hid (spotF rs us pl use day = 5) := by show _ = _; unfold spotF; rw [hlb]; rfl
  rw [leaf_no g hlb] at hlk
  simp only [if_true, Option.getD_none, Option.isSome_none] at hlk
  clear hlb
  go_wp2
  refine bodyPost_ret (v := .tuple #[.agg zSpot, .int .i64 5]) ?_ rfl ?_
  ·simp [results, Tryz.results36, go_sem, x0, x1, x2]
  ·exact ⟨below_st3 HB.out (Nat.le_refl _) _ _ _, .inl ⟨by rw [HF.out]; decide, by rw [HF.out]⟩⟩
 | true =>
  obtain ⟨n, hn1, hn2, _⟩ := leaf_idx g hlb
  rw [hn1] at hlk
  simp only [if_true, Option.getD_some, Option.isSome_some] at hlk
  have HN := zq hn2
  have HLB := zq hlb
  clear hn1 hn2 hlb
  go_wp2_with fail
  with_reducible refine HCO.out.mono ?_
  rintro e w1 ⟨rfl, rfl⟩
  cases hmu : memS us use with
  | false =>
   have HF : Hid (spotF rs us pl use day = 5) := by show _ = _; unfold spotF; rw [HLB.out, hmu]; rfl
   clear hmu
   go_wp2
   refine bodyPost_ret (v := .tuple #[.agg zSpot, .int .i64 5]) ?_ rfl ?_
   ·simp [results, Tryz.results36, go_sem, x0, x1, x2]
   ·exact ⟨below_st3 HB.out (Nat.le_refl _) _ _ _, .inl ⟨by rw [HF.out]; decide, by rw [HF.out]⟩⟩
  | true =>
   have HMU := zq hmu
   clear hmu
   go_wp2_with fail
   with_reducible refine HDY.out.mono ?_
   rintro e w2 ⟨rfl, rfl⟩
   cases hdy : dayB day with
   | false =>
    have HF : Hid (spotF rs us pl use day = 1) := by show _ = _; unfold spotF; rw [HLB.out, HMU.out, hdy]; rfl
    clear hdy
    go_wp2
    refine bodyPost_ret (v := .tuple #[.agg zSpot, .int .i64 1]) ?_ rfl ?_
    ·simp [results, Tryz.results36, go_sem, x0, x1, x2]
    ·exact ⟨below_st3 HB.out (Nat.le_refl _) _ _ _, .inl ⟨by rw [HF.out]; decide, by rw [HF.out]⟩⟩
   | true =>
    have HF : Hid (spotF rs us pl use day = 0) := by show _ = _; unfold spotF; rw [HLB.out, HMU.out, hdy]; rfl
    clear hdy
    go_wp2
    refine bodyPost_ret (v := .tuple #[.agg (sptC n use day), .int .i64 0]) ?_ rfl ?_
    ·simp [results, Tryz.results36, go_sem, x0, x1, x2]
    ·exact ⟨below_st3 HB.out (Nat.le_refl _) _ _ _, .inr ⟨HF.out, n, HN.out, rfl⟩⟩
abbrev sfV (p : ByteArray × Int) : Value := .tuple #[.string p.1, .int .i64 p.2]
theorem conF_chk {rs : List Rg} {us : List ByteArray} {ds : List De} {th ho pl use : ByteArray} {day : Int} (h : chkT rs us ds ≠ 0) : conF rs us ds th ho pl use day = (emp, chkT rs us ds) := by unfold conF; rw [if_pos h]
theorem conF_nm {rs : List Rg} {us : List ByteArray} {ds : List De} {th ho pl use : ByteArray} {day : Int} (h : chkT rs us ds = 0) (h2 : (isNm th && isNm ho) = false) : conF rs us ds th ho pl use day = (emp, 5) := by
 unfold conF; rw [if_neg (show ¬ (chkT rs us ds ≠ 0) by rw [h]; simp), if_pos h2]
theorem conF_sp {rs : List Rg} {us : List ByteArray} {ds : List De} {th ho pl use : ByteArray} {day : Int} (h : chkT rs us ds = 0) (h2 : (isNm th && isNm ho) = true) (h3 : spotF rs us pl use day ≠ 0) : conF rs us ds th ho pl use day = (emp, spotF rs us pl use day) := by
 unfold conF
 rw [if_neg (show ¬ (chkT rs us ds ≠ 0) by rw [h]; simp), if_neg (show ¬ ((isNm th && isNm ho) = false) by rw [h2]; simp)]
 unfold spotF at h3 ⊢
 split
 ·rfl
 ·next h4 =>
  rw [if_neg h4] at h3
  split
  ·rfl
  ·next h5 => rw [if_neg h5] at h3; exact absurd rfl h3
theorem conF_ok {rs : List Rg} {us : List ByteArray} {ds : List De} {th ho pl use : ByteArray} {day : Int} (h : chkT rs us ds = 0) (h2 : (isNm th && isNm ho) = true) (h3 : spotF rs us pl use day = 0) : conF rs us ds th ho pl use day = (ctlF rs ds ((idx rs pl).getD 0) use day th ho, 0) := by
 unfold conF
 rw [if_neg (show ¬ (chkT rs us ds ≠ 0) by rw [h]; simp), if_neg (show ¬ ((isNm th && isNm ho) = false) by rw [h2]; simp)]
 unfold spotF at h3
 split
 ·next h4 => rw [if_pos h4] at h3; cases h3
 ·next h4 =>
  rw [if_neg h4] at h3
  split
  ·next h5 => rw [if_pos h5] at h3; cases h3
  ·rfl
theorem short_of {rs : List Rg} {us : List ByteArray} {ds : List De} (h : chkT rs us ds = 0) : ∀ d ∈ ds, d.ar.length ≤ 100 ∧ d.us.length ≤ 20 := fun d hd => by
 obtain ⟨k, hk, rfl⟩ := List.getElem_of_mem hd
 have := chkD_lens ((chkT_deeds h).2 k hk) (chkT_deeds h).1
 exact ⟨this.1, this.2.1⟩
theorem strs2 (W : World) (a b : ByteArray) : Strs (W.alloc (.cells #[.string a, .string b] 9)) (some ⟨W.heap.size, 0, none⟩) [a, b] := fun _ => ⟨W.heap.size, 0, rfl, fun i hi => by
 rw [Nat.zero_add, cell_of_row _ W.heap.size i _ _ _ (heap_alloc_new _ _)]
 match i, hi with
 | 0, _ => rfl
 | 1, _ => rfl⟩
theorem Controls_c (RA : Option Addr) (rc : Nat) (rs : List Rg) (UA : Option Addr) (uc : Nat) (us : List ByteArray) (DA : Option Addr) (dc : Nat) (ds : List De) (th ho pl use : ByteArray) (day : Int) (w : World)
  (hr : Rgs w RA rs) (hu : Strs w UA us) (hd : Des w DA ds) (hz : ∀ i (h : i < rs.length), (rs[i]).nm.size ≤ 9223372036854775807) (hz2 : ∀ i (h : i < us.length), (us[i]).size ≤ 9223372036854775807) (hdc : ds.length ≤ dc)
  (hth : th.size ≤ 9223372036854775807) (hho : ho.size ≤ 9223372036854775807) :
  Calls Tryz.prog 13 #[.agg (tiC RA rc rs UA uc us DA dc ds), .string th, .string ho, .string pl, .string use, .int .i64 day] w (GivesB (sfV (conF rs us ds th ho pl use day)) w) := by
 generalize hres : conF rs us ds th ho pl use day = res
 have HR := zq hres
 clear hres
 have HX : Hid (Bx (w.alloc (.cells (tiC RA rc rs UA uc us DA dc ds) 26)) w.heap.size (tiC RA rc rs UA uc us DA dc ds) 26) := Bx.new _ _ _
 have HB : Hid (Below w.heap.size w (w.alloc (.cells (tiC RA rc rs UA uc us DA dc ds) 26))) := (Below.refl _ _).alloc (Nat.le_refl _) _
 obtain ⟨W, hW⟩ : ∃ W, W = w.alloc (.cells (tiC RA rc rs UA uc us DA dc ds) 26) := ⟨_, rfl⟩
 rw [← hW] at HX HB
 have hba : Below W.heap.size W (W.alloc (.cells #[.string th, .string ho] 9)) := (Below.refl _ _).alloc (Nat.le_refl _) _
 have hbb : Below w.heap.size w (W.alloc (.cells #[.string th, .string ho] 9)) := below_trans HB.out hba
 have HOP : Hid (Calls Tryz.prog 32 #[.agg (tiC RA rc rs UA uc us DA dc ds), .slice (some ⟨W.heap.size, 0, none⟩) 2 2] (W.alloc (.cells #[.string th, .string ho] 9)) (GivesOp (openF rs us ds [th, ho]) RA rc rs UA uc us DA dc ds (W.alloc (.cells #[.string th, .string ho] 9)))) :=
  open_c RA rc rs UA uc us DA dc ds (some ⟨W.heap.size, 0, none⟩) 2 [th, ho] _ (hr.below hbb) (hu.below hbb) (hd.below hbb) hz hz2 (strs2 W th ho) (fun i h => by
   match i, h with
   | 0, _ => exact hth
   | 1, _ => exact hho) (by simp) hdc
 have HBB := zq hbb
 have HDw := zq hd
 have HUw := zq hu
 clear hr hu hd hba hbb
 go_enter Tryz.func13, Tryz.ntmps13
 go_upto_region 1 with fail
 rw [← hW]
 clear hW
 iterate 2 go_step
 refine wp_load_mid _ _ (by rfl) w.heap.size 0 (by rfl) (tiC RA rc rs UA uc us DA dc ds).toList _ (rangeB HX.out) Tryz.underlying26 rfl (by kernel_rfl) ?_
 go_wp2_with fail
 with_reducible refine HOP.out.mono ?_
 rintro e w1 ⟨P, rfl, hb1, hp0, hp1⟩
 have HB1 := zq (below_trans HBB.out hb1)
 have HP0 := zq hp0
 have HP1 := zq hp1
 clear hb1 hp0 hp1 HOP HX HB HBB
 by_cases hc : chkT rs us ds = 0
 case neg =>
  have hof : openF rs us ds [th, ho] = chkT rs us ds := by unfold openF; rw [if_pos hc]
  have hcb : (chkT rs us ds != 0) = true := by simpa using hc
  have HS : Hid (res = (emp, chkT rs us ds)) := by show _ = _; rw [← HR.out, conF_chk hc]
  rw [hof]
  clear hc hof HP0 HP1
  go_wp2
  go_ret2
  exact GivesB.mk (by first | (rw [HS.out]; rfl) | rw [HS.out]) HB1.out
 cases hnm : isNm th && isNm ho with
 | false =>
  have hof : openF rs us ds [th, ho] = 5 := by
   unfold openF
   rw [if_neg (show ¬ (chkT rs us ds ≠ 0) by rw [hc]; simp), if_neg]
   simpa using hnm
  have HS : Hid (res = (emp, 5)) := by show _ = _; rw [← HR.out, conF_nm hc hnm]
  rw [hof]
  clear hc hof HP0 HP1 hnm
  go_wp2
  go_ret2
  exact GivesB.mk (by first | (rw [HS.out]; rfl) | rw [HS.out]) HB1.out
 | true =>
  have hof : openF rs us ds [th, ho] = 0 := by
   unfold openF
   rw [if_neg (show ¬ (chkT rs us ds ≠ 0) by rw [hc]; simp), if_pos]
   simpa using hnm
  have HC := zq hc
  have HNM := zq hnm
  rw [hof]
  obtain ⟨L, rfl, hlg⟩ := HP1.out hof
  obtain ⟨hcr, hul, hdl⟩ := chkT_zero HC.out
  have HSC := zq (spot_c RA rc rs UA uc us DA dc ds L pl use day w1 (good_of hcr) hlg (HUw.out.below HB1.out) hul)
  have HLG := zq hlg
  clear hc hnm hof HP0 HP1 hlg hcr
  go_wp2_with fail
  with_reducible refine HSC.out.mono ?_
  rintro e w2 ⟨hb2, hsp⟩
  have HB2 := zq (below_trans HB1.out hb2)
  have HL2 := zq (HLG.out.below hb2)
  clear hb2 HSC HLG HB1
  rcases hsp with ⟨hs0, rfl⟩ | ⟨hs0, n, hn, rfl⟩
  ·have HS : Hid (res = (emp, spotF rs us pl use day)) := by show _ = _; rw [← HR.out, conF_sp HC.out HNM.out hs0]
   have hcb : (spotF rs us pl use day != 0) = true := by simpa using hs0
   have hba : Below w2.heap.size w2 (w2.alloc (.cells zSpot 85)) := (Below.refl _ _).alloc (Nat.le_refl _) _
   have HB3 := zq (below_trans HB2.out hba)
   clear hs0 hba
   go_wp2
   go_ret2
   exact GivesB.mk (by first | (rw [HS.out]; rfl) | rw [HS.out]) HB3.out
  ·have HS : Hid (res = (ctlF rs ds ((idx rs pl).getD 0) use day th ho, 0)) := by show _ = _; rw [← HR.out, conF_ok HC.out HNM.out hs0]
   have hba : Below w2.heap.size w2 (w2.alloc (.cells (sptC n use day) 85)) := (Below.refl _ _).alloc (Nat.le_refl _) _
   have HX3 : Hid (Bx (w2.alloc (.cells (sptC n use day) 85)) w2.heap.size (sptC n use day) 85) := Bx.new _ _ _
   have HL3 := zq (HL2.out.below hba)
   have HB3 := zq (below_trans HB2.out hba)
   obtain ⟨w3, hw3⟩ : ∃ w3, w3 = w2.alloc (.cells (sptC n use day) 85) := ⟨_, rfl⟩
   rw [← hw3] at HX3 HL3 HB3
   have HCT := zq (controls_c RA rc rs UA uc us DA dc ds L n ((idx rs pl).getD 0) use day th ho w3 HL3.out (HDw.out.below HB3.out) hn (fun d hd => Nat.le_trans (short_of HC.out d hd).2 (by decide)) hdl)
   clear hs0 hba hn
   go_upto_region 5 with fail
   rw [← hw3]
   clear hw3 HL2 HB2
   have x0 := HX3.out.cell (i := 0) rfl
   have x1 := HX3.out.cell (i := 1) rfl
   have x2 := HX3.out.cell (i := 2) rfl
   have hsx := HX3.out.lt
   go_wp2_with fail
   with_reducible refine HCT.out.mono ?_
   rintro e w4 ⟨rfl, hb4⟩
   have HB4 := zq (below_trans HB3.out hb4)
   clear hb4 x0 x1 x2 hsx
   go_wp2
   go_ret2
   exact GivesB.mk (by first | (rw [HS.out]; rfl) | rw [HS.out]) HB4.out
abbrev whrC (pl use : ByteArray) (day : Int) : Array Value := #[.string pl, .string use, .int .i64 day]
theorem validR_c (RA : Option Addr) (rc : Nat) (rs : List Rg) (UA : Option Addr) (uc : Nat) (us : List ByteArray) (DA : Option Addr) (dc : Nat) (ds : List De) (k i : Nat) (pl use : ByteArray) (day : Int) (w : World)
  (hr : Rgs w RA rs) (hd : Des w DA ds) (g : GoodR rs) (hi : i < rs.length) (hpl : (rs[i]).nm = pl) (hk : k < ds.length) (hdl : ds.length ≤ 200) (hoe : OneEnd ds) (hgv : givesB (ds[k]).kd = true) (hul : (ds[k]).us.length ≤ 20) (hal : (ds[k]).ar.length ≤ 100) :
  Calls Tryz.prog 71 #[.agg (tiC RA rc rs UA uc us DA dc ds), .int .i64 (k : Int), .agg (whrC pl use day)] w (GivesB (.bool (vB rs ds i use day ds[k])) w) := by
 obtain ⟨b, o, rfl, hb0, hc0⟩ := hd (by omega)
 obtain ⟨hrg, hok⟩ := hc0 k hk
 have hbw : Below w.heap.size w ((w.alloc (.cells (tiC RA rc rs UA uc us (some ⟨b, o, none⟩) dc ds) 26)).alloc (.cells (whrC pl use day) 91)) := ((Below.refl _ _).alloc (Nat.le_refl _) _).alloc (by simp) _
 have HX : Hid (Bx ((w.alloc (.cells (tiC RA rc rs UA uc us (some ⟨b, o, none⟩) dc ds) 26)).alloc (.cells (whrC pl use day) 91)) w.heap.size (tiC RA rc rs UA uc us (some ⟨b, o, none⟩) dc ds) 26) := (Bx.new _ _ _).alloc _
 have HY : Hid (Bx ((w.alloc (.cells (tiC RA rc rs UA uc us (some ⟨b, o, none⟩) dc ds) 26)).alloc (.cells (whrC pl use day) 91)) (w.heap.size + 1) (whrC pl use day) 91) := Bx.new1 _ _ _ _
 obtain ⟨W, hW⟩ : ∃ W, W = (w.alloc (.cells (tiC RA rc rs UA uc us (some ⟨b, o, none⟩) dc ds) 26)).alloc (.cells (whrC pl use day) 91) := ⟨_, rfl⟩
 rw [← hW] at hbw HX HY
 have HDE := zq (hd.below hbw)
 obtain ⟨d, hdd⟩ : ∃ d, ds[k] = d := ⟨_, rfl⟩
 have HRU := fun (u : World) (hu : Below W.heap.size W u) => runsR_c RA rc rs UA uc us (some ⟨b, o, none⟩) dc ds k u (HDE.out.below hu) hk hdl
 have hrp : runP ds d = cutR d.bg (toP ds d) := by unfold runP; rw [if_pos (by rw [← hdd]; exact hgv)]
 rw [hdd] at hrg hok hul hal ⊢
 simp only [hdd, toR_eq hoe, ← hrp] at HRU
 have HRU := zq HRU
 generalize hres : vB rs ds i use day d = res
 have HR := zq hres
 have HOK := zq (hok.below hbw)
 have HRG : Hid (W.rangeAt b (o + k * 16) (deC d).toList) := fun j v hv => cell_below hbw (hrg j v hv)
 have HB := zq hbw
 have HRR := zq (hr.below hbw)
 have HPL := zq hpl
 have hb1 : b < W.heap.size := Nat.lt_of_lt_of_le hb0 hbw.size
 clear hres hok hrg hbw hr hd hc0 hdd hrp hgv hpl
 go_enter Tryz.func71, Tryz.ntmps71
 go_upto_region 1 with fail
 rw [← hW]
 clear hW
 have t2 := HX.out.cell (i := 2) rfl
 have hst := HX.out.lt
 iterate 14 go_step
 refine wp_load_mid _ _ (by rfl) b (o + k * 16) (by rfl) (deC d).toList _ HRG.out Tryz.underlying54 rfl (by kernel_rfl) ?_
 clear t2 hst
 go_upto_region 2 with fail
 obtain ⟨W2, hW2⟩ : ∃ W2, W2 = W.alloc (.cells (deC d) 54) := ⟨_, rfl⟩
 rw [← hW2]
 have hb2 : Below W.heap.size W W2 := by rw [hW2]; exact (Below.refl _ _).alloc (Nat.le_refl _) _
 have HD : Hid (Bx W2 W.heap.size (deC d) 54) := by show Bx _ _ _ _; rw [hW2]; exact Bx.new _ _ _
 have HX2 := zq (HX.out.below hb2)
 have HY2 := zq (HY.out.below hb2)
 have HB2 := zq hb2
 clear hW2 hb2 HX HY
 iterate 2 go_step
 refine wp_load_mid _ _ (by rfl) w.heap.size 0 (by rfl) (tiC RA rc rs UA uc us (some ⟨b, o, none⟩) dc ds).toList _ (rangeB HX2.out) Tryz.underlying26 rfl (by kernel_rfl) ?_
 go_wp2_with fail
 with_reducible refine (HRU.out _ HB2.out).mono ?_
 rintro e W3 ⟨rfl, hb3⟩
 have HB3 := zq (below_trans HB2.out hb3)
 have HD3 := zq (HD.out.below hb3)
 have HX3 := zq (HX2.out.below hb3)
 have HY3 := zq (HY2.out.below hb3)
 have HHA := zq (has_c d.usA d.usc d.us use W3 (by omega) (HOK.out.uses.below HB3.out))
 have hli := lies_c RA d.arA rc d.arc rs d.ar W3 g (HRR.out.below HB3.out) (HOK.out.ars.below HB3.out) hal i hi
 rw [HPL.out] at hli
 have HLI := zq hli
 clear hb3 hli HD HX2 HY2 HB2 HRU
 have y0 := HY3.out.cell (i := 0) rfl
 have y1 := HY3.out.cell (i := 1) rfl
 have y2 := HY3.out.cell (i := 2) rfl
 have hsy := HY3.out.lt
 have x0 := HX3.out.cell (i := 0) rfl
 have hsx := HX3.out.lt
 have d10 := HD3.out.cell (i := 10) rfl
 have d11 := HD3.out.cell (i := 11) rfl
 have hsd := HD3.out.lt
 have HBZ := zq (below_trans HB.out HB3.out)
 by_cases h1 : (runP ds d).1 ≤ day
 case neg =>
  have e1 : decide ((runP ds d).1 ≤ day) = false := decide_eq_false h1
  have HV : Hid (res = false) := by show _ = _; rw [← HR.out]; unfold vB; rw [e1]; rfl
  clear h1
  go_wp2
  go_ret
  exact GivesB.mk (vbool HV.out.symm) HBZ.out
 have e1 : decide ((runP ds d).1 ≤ day) = true := decide_eq_true h1
 by_cases h2 : day < (runP ds d).2
 case neg =>
  have e2 : decide (day < (runP ds d).2) = false := decide_eq_false h2
  have HV : Hid (res = false) := by show _ = _; rw [← HR.out]; unfold vB; rw [e1, e2]; rfl
  clear h1 h2
  go_wp2
  go_ret
  exact GivesB.mk (vbool HV.out.symm) HBZ.out
 have e2 : decide (day < (runP ds d).2) = true := decide_eq_true h2
 have HR2 : Hid ((lies rs d.ar i && memS d.us use) = res) := by show _ = _; rw [← HR.out]; unfold vB; rw [e1, e2]; rfl
 clear h1 h2 HR
 go_wp2_with fail
 with_reducible refine HHA.out.mono ?_
 rintro e W4 ⟨rfl, rfl⟩
 cases hmu : memS d.us use with
 | false =>
  have HV : Hid (res = false) := by show _ = _; rw [← HR2.out, hmu, Bool.and_false]
  clear hmu
  go_wp2
  go_ret
  exact GivesB.mk (vbool HV.out.symm) HBZ.out
 | true =>
  have HV : Hid (lies rs d.ar i = res) := by show _ = _; rw [← HR2.out, hmu, Bool.and_true]
  clear hmu
  go_wp2_with fail
  with_reducible refine HLI.out.mono ?_
  rintro e W5 ⟨rfl, rfl⟩
  go_wp2
  go_ret
  exact GivesB.mk (vbool HV.out) HBZ.out
end Go.Proofs.YtlcfgejaeecclaaGreatDoor
