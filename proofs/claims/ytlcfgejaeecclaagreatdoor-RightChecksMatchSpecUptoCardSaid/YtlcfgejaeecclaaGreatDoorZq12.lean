/- Package right: what the loop of Check keeps; a new entry of a map, made in two steps. -/
import Derived.Test.YtlcfgejaeecclaaGreatDoorZq11
import Derived.Deep.MidRow
import Derived.Laws.CopyRow
set_option maxRecDepth 100000
set_option maxHeartbeats 8000000
namespace Dw
open Go Go.RowKit
def MapSt {κ : Type} [DecidableEq κ] (mk : κ → Value) (w : World) (r : Nat) (f : κ → Option Value) (n : Nat) : Prop :=
 ∃ (es : Array MapEntry) (clk : Nat) (L : List (κ × Value)), w.heap[r]? = some (.map es clk) ∧ es.toList.map (fun e => (e.key, e.val)) = L.map (fun p => (mk p.1, p.2)) ∧ (∀ k, lookE L k = f k) ∧ es.size = n ∧ ∀ e ∈ es.toList, e.born < clk
section
variable {κ : Type} [DecidableEq κ] {mk : κ → Value} {w w' : World} {r n : Nat} {f : κ → Option Value}
theorem MapSt.is (h : MapSt mk w r f n) : MapIs mk w r f := by
 obtain ⟨es, clk, L, h1, h2, h3, _⟩ := h
 exact ⟨es, clk, L, h1, h2, h3⟩
theorem MapSt.lt (h : MapSt mk w r f n) : r < w.heap.size := h.is.lt
theorem MapSt.keep (h : MapSt mk w r f n) (hk : w'.heap[r]? = w.heap[r]?) : MapSt mk w' r f n := by
 obtain ⟨es, clk, L, hr, rest⟩ := h
 exact ⟨es, clk, L, hk.trans hr, rest⟩
theorem MapSt.below (h : MapSt mk w r f n) (hb : Below w.heap.size w w') : MapSt mk w' r f n := h.keep (hb.block r h.lt)
theorem MapSt.run_len {P : Program} {T K E : TypeId} (hT : P.underlying T = some (.map K E)) (ty : TypeId) (h : MapSt mk w r f n) : (Builtin.len_ #[T] ty #[Value.map (some r)]).run P w = .ok (.int .i64 (n : Int)) w := by
 obtain ⟨es, clk, L, hr, _, _, rfl, _⟩ := h
 have hg : (getObj r).run P w = .ok (.map es clk) w := by simp [getObj, Sem.run, hr]
 simp [Builtin.len_, run_underlying hT, hg, goInt]
end
theorem findIdx_last {es : Array MapEntry} {e : MapEntry} (h : ∀ x ∈ es.toList, x.born < e.born) : (es.push e).findIdx? (fun x => ((x.born : Nat) : Int) == ((e.born : Nat) : Int)) = some es.size := by
 rw [Array.findIdx?_push]
 have hn : es.findIdx? (fun x => ((x.born : Nat) : Int) == ((e.born : Nat) : Int)) = none := by
  rw [Array.findIdx?_eq_none_iff]
  intro x hx
  have := h x (by simpa using hx)
  simp
  omega
 rw [hn]
 simp
section
variable {P : Program} {κ : Type} [DecidableEq κ] {mk : κ → Value} {T K E : TypeId}
theorem run_entry_new (hT : P.underlying T = some (.map K E)) (hK : KeyT P K mk) {z : Value} (hz : ∀ w, (zeroValue E).run P w = .ok z w) {w : World} {r n : Nat} {f : κ → Option Value} (h : MapSt mk w r f n) (k : κ) (hk : f k = none) (v : Value) :
  ∃ (st : Nat) (w1 w2 : World), (Instr.mapEntry T (.map (some r)) (mk k)).run P w = .ok (.tuple #[z, .int .i64 (st : Int)]) w1 ∧ (Instr.entryStore T (.map (some r)) (.int .i64 (st : Int)) v).run P w1 = .ok () w2 ∧
   MapSt mk w2 r (fun k' => if k' = k then some v else f k') (n + 1) ∧ w.grownBy w1 (some r) ∧ w1.heap.size = w.heap.size ∧ w.grownBy w2 (some r) ∧ w2.heap.size = w.heap.size := by
 obtain ⟨es, clk, L, hr, hL, hf, hn, hborn⟩ := h
 have hrl : r < w.heap.size := (Array.getElem?_eq_some_iff.1 hr).1
 obtain ⟨d, hd, hs⟩ := hK.same
 obtain ⟨o, h1, h2, _⟩ := findNow_go hs k es.toList L 0 hL
 rw [hf, hk] at h2
 have ho : o = none := by cases o <;> simp_all
 subst ho
 have hg : (getObj r).run P w = .ok (.map es clk) w := by simp [getObj, Sem.run, hr]
 have hset : ∀ (es' : Array MapEntry) (c' : Nat), (setObj r (.map es' c')).run P w = .ok () { w with heap := w.heap.setIfInBounds r (.map es' c') } := fun es' c' => by simp [setObj, Sem.run, hr]
 have hfk : (Instr.findKey K (mk k) es.toList).run P w = .ok none w := by
  simp [Instr.findKey, run_underlying hd, h1]
 have hgrow : ∀ (es' : Array MapEntry) (c' : Nat), w.grownBy { w with heap := w.heap.setIfInBounds r (.map es' c') } (some r) := fun es' c' =>
  ⟨rfl, rfl, rfl, by simp, fun i hi hne => by simp only [Array.getElem?_setIfInBounds]; rw [if_neg (fun e => hne (by rw [e]))]⟩
 have hget : ∀ (es' : Array MapEntry) (c' : Nat), ({ w with heap := w.heap.setIfInBounds r (.map es' c') } : World).heap[r]? = some (.map es' c') := fun es' c' => by
  simp [hrl]
 have hsz : es.size = L.length := by have := congrArg List.length hL; simpa using this
 refine ⟨clk, { w with heap := w.heap.setIfInBounds r (.map (es.push { key := mk k, val := z, born := clk }) (clk + 1)) }, { w with heap := w.heap.setIfInBounds r (.map (es.push { key := mk k, val := v, born := clk }) (clk + 1)) }, ?_, ?_, ⟨_, _, L ++ [(k, v)], hget _ _, by simp [hL], ?_, by simp [hn], ?_⟩, hgrow _ _, by simp, hgrow _ _, by simp⟩
 ·simp [Instr.mapEntry, run_underlying hT, hg, hK.chk, hfk, hz, hset, goInt]
 ·have hg2 : (getObj r).run P { w with heap := w.heap.setIfInBounds r (.map (es.push { key := mk k, val := z, born := clk }) (clk + 1)) } = .ok (.map (es.push { key := mk k, val := z, born := clk }) (clk + 1)) { w with heap := w.heap.setIfInBounds r (.map (es.push { key := mk k, val := z, born := clk }) (clk + 1)) } := by
   simp [getObj, Sem.run, hrl]
  have hidx := findIdx_last (es := es) (e := { key := mk k, val := z, born := clk }) hborn
  have hmod : (es.push { key := mk k, val := z, born := clk }).modify es.size (fun e => { e with val := v }) = es.push { key := mk k, val := v, born := clk } := by
   apply Array.ext
   ·simp
   ·intro i hi1 hi2
    simp only [Array.getElem_modify, Array.getElem_push]
    by_cases hi : i < es.size
    ·simp [hi, show es.size ≠ i by omega]
    ·simp [show es.size = i by simp at hi2; omega]
  have hset2 : ∀ (es' : Array MapEntry) (c' : Nat), (setObj r (.map es' c')).run P { w with heap := w.heap.setIfInBounds r (.map (es.push { key := mk k, val := z, born := clk }) (clk + 1)) } = .ok () { w with heap := w.heap.setIfInBounds r (.map es' c') } := fun es' c' => by
   simp [setObj, Sem.run, hrl]
  simp only at hidx
  simp [Instr.entryStore, hg2, asInt, asIntOf, hidx, hmod, hset2]
 ·intro k'
  rw [lookE_push (by rw [hf]; exact hk), hf]
 ·intro e he
  simp only [Array.toList_push, List.mem_append, List.mem_singleton] at he
  rcases he with he | rfl
  ·have := hborn e he; omega
  ·simp
end
end Dw
namespace Go.Proofs.YtlcfgejaeecclaaGreatDoor
open Go.RowKit Dw
def sameId (x : ByteArray) (q : De) : Bool := decide (q.id = x)
def kF (pre : List De) (x : ByteArray) : Option Value := (pre.find? (sameId x)).map fun q => Value.int .i64 q.kd
def kN (pre : List De) (x : ByteArray) : Int := match pre.find? (sameId x) with
 | some q => q.kd
 | none => 0
def endB (pre : List De) (x : ByteArray) : Bool := pre.any fun q => decide (q.kd = 4) && decide (q.ot = x)
def bornB (pre : List De) (x : ByteArray) : Bool := pre.any fun q => decide (q.kd = 1) && decide (q.th = x)
def goneB (pre : List De) (x : ByteArray) : Bool := pre.any fun q => decide (q.kd = 5) && decide (q.fr = x)
def fl (b : Bool) : Option Value := if b = true then some (.bool true) else none
theorem fl_get (b : Bool) : (fl b).getD (.bool false) = .bool b := by cases b <;> rfl
theorem kF_get (pre : List De) (x : ByteArray) : (kF pre x).getD (.int .i64 0) = .int .i64 (kN pre x) := by
 unfold kF kN
 cases pre.find? (sameId x) <;> rfl
theorem kF_none {pre : List De} {x : ByteArray} (h : pre.any (sameId x) = false) : kF pre x = none := by
 unfold kF
 have : pre.find? (sameId x) = none := by
  rw [List.find?_eq_none]
  intro q hq hs
  have := List.any_eq_true.2 ⟨q, hq, hs⟩
  rw [h] at this; cases this
 rw [this]; rfl
theorem kN_none {pre : List De} {x : ByteArray} (h : pre.any (sameId x) = false) : kN pre x = 0 := by
 have := kF_get pre x
 rw [kF_none h] at this
 simp at this
 omega
theorem kN_some {pre : List De} {x : ByteArray} (h : pre.any (sameId x) = true) (hg : ∀ q ∈ pre, 1 ≤ q.kd) : 0 < kN pre x := by
 unfold kN
 cases hf : pre.find? (sameId x) with
 | none =>
  rw [List.find?_eq_none] at hf
  obtain ⟨q, hq, hs⟩ := List.any_eq_true.1 h
  exact absurd hs (hf q hq)
 | some q =>
  have := hg q (List.mem_of_find?_eq_some hf)
  show 0 < q.kd
  omega
theorem kF_push {pre : List De} {d : De} (h : pre.any (sameId d.id) = false) : (fun k => if k = d.id then some (Value.int .i64 d.kd) else kF pre k) = kF (pre ++ [d]) := by
 funext k
 unfold kF
 rw [List.find?_append]
 by_cases hk : k = d.id
 ·subst hk
  have : pre.find? (sameId d.id) = none := by
   rw [List.find?_eq_none]
   intro q hq hs
   have := List.any_eq_true.2 ⟨q, hq, hs⟩
   rw [h] at this; cases this
  simp [this, sameId]
 ·rw [if_neg hk]
  have : sameId k d = false := by simp [sameId]; exact fun e => hk e.symm
  simp [this]
theorem fl_push {b c : Bool} {P : Prop} [Decidable P] (h : c = (b || decide P)) : (if P then some (Value.bool true) else fl b) = fl c := by
 subst h
 by_cases hp : P <;> simp [hp, fl]
theorem end_push {pre : List De} {d : De} (hk : d.kd = 4) : (fun k => if k = d.ot then some (Value.bool true) else fl (endB pre k)) = fun k => fl (endB (pre ++ [d]) k) := by
 funext k
 exact fl_push (by unfold endB; rw [List.any_append]; simp [hk, eq_comm])
theorem born_push {pre : List De} {d : De} (hk : d.kd = 1) : (fun k => if k = d.th then some (Value.bool true) else fl (bornB pre k)) = fun k => fl (bornB (pre ++ [d]) k) := by
 funext k
 exact fl_push (by unfold bornB; rw [List.any_append]; simp [hk, eq_comm])
theorem gone_push {pre : List De} {d : De} (hk : d.kd = 5) : (fun k => if k = d.fr then some (Value.bool true) else fl (goneB pre k)) = fun k => fl (goneB (pre ++ [d]) k) := by
 funext k
 exact fl_push (by unfold goneB; rw [List.any_append]; simp [hk, eq_comm])
theorem end_same {pre : List De} {d : De} (hk : d.kd ≠ 4) : (fun k => fl (endB (pre ++ [d]) k)) = fun k => fl (endB pre k) := by
 funext k; unfold endB; rw [List.any_append]; simp [hk]
theorem born_same {pre : List De} {d : De} (hk : d.kd ≠ 1) : (fun k => fl (bornB (pre ++ [d]) k)) = fun k => fl (bornB pre k) := by
 funext k; unfold bornB; rw [List.any_append]; simp [hk]
theorem gone_same {pre : List De} {d : De} (hk : d.kd ≠ 5) : (fun k => fl (goneB (pre ++ [d]) k)) = fun k => fl (goneB pre k) := by
 funext k; unfold goneB; rw [List.any_append]; simp [hk]
structure CS (w0 w : World) (ci : Nat) (A : Option Addr) (c r1 r2 g1 g2 : Nat) (AL : Option Addr) (cL : Nat) (l : List Rg) (uA : Option Addr) (uc : Nat) (us : List ByteArray) (m2 m3 m4 m5 lo hi : Nat) (p : De) (pre : List De) : Prop where
 bel : Below w0.heap.size w0 w
 ck : Bx w ci (ckC A c r1 r2 g1 g2 AL cL l uA uc us m2 m3 m4 m5 p) 110
 rg : Rgs w0 A l
 st : Strs w0 uA us
 far : ∀ w'' : World, (∀ x, lo ≤ x → x < hi → w''.heap[x]? = w.heap[x]?) → Rgs w'' A l → WR w'' A r1 r2 g1 g2 AL l
 hh : hi ≤ w.heap.size
 k2 : MapSt Value.string w m2 (kF pre) pre.length
 k3 : MapIs Value.string w m3 (fun k => fl (endB pre k))
 k4 : MapIs Value.string w m4 (fun k => fl (bornB pre k))
 k5 : MapIs Value.string w m5 (fun k => fl (goneB pre k))
 ou : ∀ x, x = ci ∨ x = m2 ∨ x = m3 ∨ x = m4 ∨ x = m5 → w0.heap.size ≤ x ∧ (x < lo ∨ hi ≤ x)
 ne : m2 ≠ m3 ∧ m2 ≠ m4 ∧ m2 ≠ m5 ∧ m3 ≠ m4 ∧ m3 ≠ m5 ∧ m4 ≠ m5
 la : pre = [] ∨ pre.getLast? = some p
section
variable {w0 w w' : World} {ci : Nat} {A : Option Addr} {c r1 r2 g1 g2 : Nat} {AL : Option Addr} {cL : Nat} {l : List Rg} {uA : Option Addr} {uc : Nat} {us : List ByteArray} {m2 m3 m4 m5 lo hi : Nat} {p : De} {pre : List De}
theorem CS.below (h : CS w0 w ci A c r1 r2 g1 g2 AL cL l uA uc us m2 m3 m4 m5 lo hi p pre) (hb : Below w.heap.size w w') : CS w0 w' ci A c r1 r2 g1 g2 AL cL l uA uc us m2 m3 m4 m5 lo hi p pre :=
 ⟨below_trans h.bel hb, h.ck.below hb, h.rg, h.st, fun w'' hf => h.far w'' fun x h1 h2 => (hf x h1 h2).trans (hb.block x (Nat.lt_of_lt_of_le h2 h.hh)), Nat.le_trans h.hh hb.size, h.k2.below hb, h.k3.below hb, h.k4.below hb, h.k5.below hb, h.ou, h.ne, h.la⟩
theorem CS.wr (h : CS w0 w ci A c r1 r2 g1 g2 AL cL l uA uc us m2 m3 m4 m5 lo hi p pre) : WR w A r1 r2 g1 g2 AL l := h.far w (fun _ _ _ => rfl) (h.rg.below h.bel)
theorem CS.str (h : CS w0 w ci A c r1 r2 g1 g2 AL cL l uA uc us m2 m3 m4 m5 lo hi p pre) : Strs w uA us := h.st.below h.bel
theorem CS.cne (h : CS w0 w ci A c r1 r2 g1 g2 AL cL l uA uc us m2 m3 m4 m5 lo hi p pre) : ci ≠ m2 ∧ ci ≠ m3 ∧ ci ≠ m4 ∧ ci ≠ m5 :=
 ⟨map_ne_cells h.k2.is h.ck, map_ne_cells h.k3 h.ck, map_ne_cells h.k4 h.ck, map_ne_cells h.k5 h.ck⟩
end
def offB (ci m2 m3 m4 m5 x : Nat) : Prop := x ≠ ci ∧ x ≠ m2 ∧ x ≠ m3 ∧ x ≠ m4 ∧ x ≠ m5
theorem CS.next {w0 w w' : World} {ci : Nat} {A : Option Addr} {c r1 r2 g1 g2 : Nat} {AL : Option Addr} {cL : Nat} {l : List Rg} {uA : Option Addr} {uc : Nat} {us : List ByteArray} {m2 m3 m4 m5 lo hi : Nat} {p d : De} {pre : List De}
  (h : CS w0 w ci A c r1 r2 g1 g2 AL cL l uA uc us m2 m3 m4 m5 lo hi p pre) (ho : w'.os = w.os ∧ w'.tape = w.tape ∧ w'.output = w.output ∧ w.heap.size ≤ w'.heap.size)
  (hx : ∀ x, x < w.heap.size → offB ci m2 m3 m4 m5 x → w'.heap[x]? = w.heap[x]?)
  (hc : Bx w' ci (ckC A c r1 r2 g1 g2 AL cL l uA uc us m2 m3 m4 m5 d) 110) (h2 : MapSt Value.string w' m2 (kF (pre ++ [d])) (pre ++ [d]).length)
  (h3 : MapIs Value.string w' m3 (fun k => fl (endB (pre ++ [d]) k))) (h4 : MapIs Value.string w' m4 (fun k => fl (bornB (pre ++ [d]) k))) (h5 : MapIs Value.string w' m5 (fun k => fl (goneB (pre ++ [d]) k))) :
  CS w0 w' ci A c r1 r2 g1 g2 AL cL l uA uc us m2 m3 m4 m5 lo hi d (pre ++ [d]) := by
 have hoff : ∀ x, (x < w0.heap.size ∨ (lo ≤ x ∧ x < hi)) → offB ci m2 m3 m4 m5 x := fun x hx => by
  refine ⟨?_, ?_, ?_, ?_, ?_⟩ <;> (rintro rfl; have := h.ou x (by simp); omega)
 have hb : Below w0.heap.size w w' := ⟨ho.1, ho.2.1, ho.2.2.1, ho.2.2.2, fun k hk => hx k (Nat.lt_of_lt_of_le hk h.bel.size) (hoff k (.inl hk))⟩
 exact ⟨h.bel.trans hb, hc, h.rg, h.st, fun w'' hf => h.far w'' fun x h1 h2 => (hf x h1 h2).trans (hx x (Nat.lt_of_lt_of_le h2 h.hh) (hoff x (.inr ⟨h1, h2⟩))), Nat.le_trans h.hh ho.2.2.2, h2, h3, h4, h5, h.ou, h.ne, .inr (by simp)⟩
theorem grown_refl (w : World) (row : Option Nat) : w.grownBy w row := ⟨rfl, rfl, rfl, Nat.le_refl _, fun _ _ _ => rfl⟩
theorem CS.done {w0 w w12 w13 w14 : World} {ci : Nat} {A : Option Addr} {c r1 r2 g1 g2 : Nat} {AL : Option Addr} {cL : Nat} {l : List Rg} {uA : Option Addr} {uc : Nat} {us : List ByteArray} {m2 m3 m4 m5 lo hi m : Nat} {p d : De} {pre : List De}
  (h : CS w0 w ci A c r1 r2 g1 g2 AL cL l uA uc us m2 m3 m4 m5 lo hi p pre) (hid : pre.any (sameId d.id) = false)
  (hm : MapSt Value.string w12 m2 (fun k => if k = d.id then some (Value.int .i64 d.kd) else kF pre k) (pre.length + 1)) (hg : w.grownBy w12 (some m2)) (hs : w12.heap.size = w.heap.size)
  (hw13 : w13 = w12.setRow ci (ckC A c r1 r2 g1 g2 AL cL l uA uc us m2 m3 m4 m5 d)) (hg14 : w13.grownBy w14 (some m)) (hmm : m = m3 ∨ m = m4 ∨ m = m5)
  (h3 : MapIs Value.string w14 m3 (fun k => fl (endB (pre ++ [d]) k))) (h4 : MapIs Value.string w14 m4 (fun k => fl (bornB (pre ++ [d]) k))) (h5 : MapIs Value.string w14 m5 (fun k => fl (goneB (pre ++ [d]) k))) :
  CS w0 w14 ci A c r1 r2 g1 g2 AL cL l uA uc us m2 m3 m4 m5 lo hi d (pre ++ [d]) := by
 subst hw13
 have hc12 : Bx w12 ci (ckC A c r1 r2 g1 g2 AL cL l uA uc us m2 m3 m4 m5 p) 110 := (hg.block _ h.ck.lt (by simp; exact h.cne.1)).trans h.ck
 have hsz : (w12.setRow ci (ckC A c r1 r2 g1 g2 AL cL l uA uc us m2 m3 m4 m5 d)).heap.size = w.heap.size := by rw [setRow_size, hs]
 have hb : ∀ x, x < w.heap.size → x ≠ m → w14.heap[x]? = (w12.setRow ci (ckC A c r1 r2 g1 g2 AL cL l uA uc us m2 m3 m4 m5 d)).heap[x]? := fun x hx hn => hg14.block x (by rw [hsz]; exact hx) (by simp; exact hn)
 have hcm : ci ≠ m := by
  have := h.cne
  rcases hmm with rfl | rfl | rfl
  ·exact this.2.1
  ·exact this.2.2.1
  ·exact this.2.2.2
 have h2m : m2 ≠ m := by
  have := h.ne
  rcases hmm with rfl | rfl | rfl
  ·exact this.1
  ·exact this.2.1
  ·exact this.2.2.1
 refine h.next ⟨?_, ?_, ?_, ?_⟩ (fun x hx ho => ?_) ?_ ?_ h3 h4 h5
 ·rw [hg14.os, setRow_os, hg.os]
 ·rw [hg14.tape, setRow_tape, hg.tape]
 ·rw [hg14.output, setRow_output, hg.output]
 ·have := hg14.size
  rw [hsz] at this
  exact this
 ·obtain ⟨o1, o2, o3, o4, o5⟩ := ho
  have hxm : x ≠ m := by rcases hmm with rfl | rfl | rfl <;> assumption
  rw [hb x hx hxm, setRow_other _ _ _ _ o1, hg.block x hx (by simp; exact o2)]
 ·exact (hb ci h.ck.lt hcm).trans (setRow_heap _ _ _ _ _ _ hc12)
 ·have hk : MapSt Value.string w14 m2 (fun k => if k = d.id then some (Value.int .i64 d.kd) else kF pre k) (pre.length + 1) :=
   hm.keep ((hb m2 h.k2.lt h2m).trans (setRow_other _ _ _ _ h.cne.1.symm))
  rw [kF_push hid] at hk
  simpa using hk
theorem CS.mid {w0 w w12 : World} {ci : Nat} {A : Option Addr} {c r1 r2 g1 g2 : Nat} {AL : Option Addr} {cL : Nat} {l : List Rg} {uA : Option Addr} {uc : Nat} {us : List ByteArray} {m2 m3 m4 m5 lo hi : Nat} {p : De} {pre : List De}
  (h : CS w0 w ci A c r1 r2 g1 g2 AL cL l uA uc us m2 m3 m4 m5 lo hi p pre) (hg : w.grownBy w12 (some m2)) (X : Array Value) :
  MapIs Value.string (w12.setRow ci X) m3 (fun k => fl (endB pre k)) ∧ MapIs Value.string (w12.setRow ci X) m4 (fun k => fl (bornB pre k)) ∧ MapIs Value.string (w12.setRow ci X) m5 (fun k => fl (goneB pre k)) := by
 have k : ∀ {x : Nat}, x < w.heap.size → x ≠ ci → x ≠ m2 → (w12.setRow ci X).heap[x]? = w.heap[x]? := fun hx h1 h2 => by
  rw [setRow_other _ _ _ _ h1, hg.block _ hx (by simp; exact h2)]
 have hn := h.ne
 have hc := h.cne
 exact ⟨h.k3.keep (k h.k3.lt hc.2.1.symm hn.1.symm), h.k4.keep (k h.k4.lt hc.2.2.1.symm hn.2.1.symm), h.k5.keep (k h.k5.lt hc.2.2.2.symm hn.2.2.1.symm)⟩
theorem run_storeVar_ck (ci : Nat) (A : Option Addr) (c r1 r2 g1 g2 : Nat) (AL : Option Addr) (cL : Nat) (l : List Rg) (uA : Option Addr) (uc : Nat) (us : List ByteArray) (m2 m3 m4 m5 : Nat) (p d : De) (w : World)
  (hg : Bx w ci (ckC A c r1 r2 g1 g2 AL cL l uA uc us m2 m3 m4 m5 p) 110) :
  (storeVar 54 ⟨ci, 11, none⟩ (deV d)).run Tryz.prog w = .ok () (w.setRow ci (ckC A c r1 r2 g1 g2 AL cL l uA uc us m2 m3 m4 m5 d)) := by
 have h := run_storeCells_at Tryz.prog ci 11 110 (deC d).toList 0 _ w hg (by simp) (fun v hv => by simp at hv; rcases hv with h | h | h | h | h | h | h | h | h | h | h | h | h | h | h | h <;> (subst h; rfl))
 have hi : (Tryz.prog.info? 54).map (·.size) = some (deC d).size := by kernel_rfl
 cases hq : Tryz.prog.info? 54 with
 | none => rw [hq] at hi; cases hi
 | some i =>
  have hs : (deC d).size = i.size := by rw [hq] at hi; simpa using hi.symm
  have h3 : (storeCells ⟨ci, 11, none⟩ (deC d).toList 0).run Tryz.prog w = .ok () (w.setRow ci (ckC A c r1 r2 g1 g2 AL cL l uA uc us m2 m3 m4 m5 d)) := h
  show (storeVar 54 ⟨ci, 11, none⟩ (.agg (deC d))).run Tryz.prog w = _
  generalize deC d = dc at *
  generalize w.setRow ci (ckC A c r1 r2 g1 g2 AL cL l uA uc us m2 m3 m4 m5 d) = w2 at *
  simp [storeVar, sizeOf, typeInfo, hq, Value.cells, hs, h3]
theorem wpList_store_var {P : Program} {ops : Array Oper} {rest : List Oper} {o : Oper} {a : Act} {w w2 : World} {Q : Exit → Act → World → Prop} (hgd : o.guard = none) (ty : TypeId) (x y : Operand) (ho : o.op = .store ty x y)
  (ad : Addr) (v : Value) (hx : a.eval x = .pointer (some ad)) (hy : a.eval y = v) (hr : (storeVar ty ad v).run P w = .ok () w2)
  (h : wpList P ops Q rest (a.put o.dst undef) w2) : wpList P ops Q (o :: rest) a w :=
 wpList_plain hgd fun _ hK => by
  unfold Oper.wp execOp
  simp only [ho, hx, hy, Instr.storeAt, Instr.sureAddr, Sem.run_bind, Sem.run_pure, Result.andThen_ok, hr]
  exact hK _ _ h
theorem wp_store_var {P : Program} {o : Oper} {a : Act} {w w2 : World} {K : Act → World → Prop} {Q : Exit → Act → World → Prop} (ty : TypeId) (x y : Operand) (ho : o.op = .store ty x y)
  (ad : Addr) (v : Value) (hx : a.eval x = .pointer (some ad)) (hy : a.eval y = v) (hr : (storeVar ty ad v).run P w = .ok () w2) (h : K (a.put o.dst undef) w2) : o.wp P a w K Q := by
 unfold Oper.wp execOp
 simp only [ho, hx, hy, Instr.storeAt, Instr.sureAddr, Sem.run_bind, Sem.run_pure, Result.andThen_ok, hr]
 exact h
theorem rangeD {w : World} {b : Nat} {d : De} (h : Bx w b (deC d) 54) : w.rangeAt b 0 (deC d).toList := fun j v hv => by
 rw [Nat.zero_add]
 exact h.cell (by rw [← hv, Array.getElem?_toList])
theorem rangeP {w : World} {ci : Nat} {A : Option Addr} {c r1 r2 g1 g2 : Nat} {AL : Option Addr} {cL : Nat} {l : List Rg} {uA : Option Addr} {uc : Nat} {us : List ByteArray} {m2 m3 m4 m5 : Nat} {p : De}
  (h : Bx w ci (ckC A c r1 r2 g1 g2 AL cL l uA uc us m2 m3 m4 m5 p) 110) : w.rangeAt ci 11 (deC p).toList := fun j v hv => by
 refine h.cell ?_
 have e : (ckC A c r1 r2 g1 g2 AL cL l uA uc us m2 m3 m4 m5 p).toList = (ckC A c r1 r2 g1 g2 AL cL l uA uc us m2 m3 m4 m5 p).toList.take 11 ++ (deC p).toList := rfl
 rw [← Array.getElem?_toList, e, List.getElem?_append_right (by simp)]
 rw [← hv]
 congr 1
 simp
theorem yields_deed {ops : Array Oper} {S : World → Prop} {op : Oper} {a : Act} (hw : Region.wanted op (yielded ops a.tmps) = true) (x : Operand) (ho : op.op = .load 54 x) (b o : Nat) (hx : a.eval x = .pointer (some ⟨b, o, none⟩)) (d : De)
  (hS : ∀ w, S w → w.rangeAt b o (deC d).toList) : YieldsIf Tryz.prog ops S op (deV d) a := by
 exact yieldsIf_load_mid hw _ x ho b o hx (deC d).toList _ hS Tryz.underlying54 rfl (by kernel_rfl)
end Go.Proofs.YtlcfgejaeecclaaGreatDoor
