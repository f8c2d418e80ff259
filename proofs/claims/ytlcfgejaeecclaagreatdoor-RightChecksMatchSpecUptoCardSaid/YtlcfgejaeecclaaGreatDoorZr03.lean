/- Package right: writeDeed (printed by gen_wd.py). -/
import Derived.Test.YtlcfgejaeecclaaGreatDoorZr02
set_option maxRecDepth 100000
set_option maxHeartbeats 8000000
namespace Go.Proofs.YtlcfgejaeecclaaGreatDoor
open Go.RowKit Dw
abbrev fldB (k : Int) : Array Value := #[.bool (givesB k || decide (k = 1)), .bool (givesB k || decide (k = 5)), .bool (givesB k), .bool (decide (k = 2)), .bool (decide (k = 3)), .bool (givesB k), .bool (givesB k), .bool (decide (k = 1) || decide (k = 5)), .bool (decide (k = 4))]
theorem fldC_eq {k : Int} (hk : 1 ≤ k ∧ k ≤ 5) : fldC k = fldB k := by
 have h5 : k = 1 ∨ k = 2 ∨ k = 3 ∨ k = 4 ∨ k = 5 := by omega
 rcases h5 with rfl | rfl | rfl | rfl | rfl <;> rfl
theorem strs1 (W : World) (a : ByteArray) : Strs (W.alloc (.cells #[.string a] 9)) (some ⟨W.heap.size, 0, none⟩) [a] := fun _ => ⟨W.heap.size, 0, rfl, fun i hi => by
 rw [Nat.zero_add, cell_of_row _ W.heap.size i _ _ _ (heap_alloc_new _ _)]
 match i, hi with
 | 0, _ => rfl⟩
theorem strs2w (W : World) (a b : ByteArray) : Strs (W.alloc (.cells #[.string a, .string b] 9)) (some ⟨W.heap.size, 0, none⟩) [a, b] := fun _ => ⟨W.heap.size, 0, rfl, fun i hi => by
 rw [Nat.zero_add, cell_of_row _ W.heap.size i _ _ _ (heap_alloc_new _ _)]
 match i, hi with
 | 0, _ => rfl
 | 1, _ => rfl⟩
theorem strs3 (W : World) (a b c : ByteArray) : Strs (W.alloc (.cells #[.string a, .string b, .string c] 9)) (some ⟨W.heap.size, 0, none⟩) [a, b, c] := fun _ => ⟨W.heap.size, 0, rfl, fun i hi => by
 rw [Nat.zero_add, cell_of_row _ W.heap.size i _ _ _ (heap_alloc_new _ _)]
 match i, hi with
 | 0, _ => rfl
 | 1, _ => rfl
 | 2, _ => rfl⟩
structure WdS (w : World) (B b p4 : Nat) (d : De) (l : List UInt8) (W : World) : Prop where
 s : NmS B b l w W
 x2 : Bx W w.heap.size #[.pointer (some ⟨b, 0, none⟩)] 94
 x3 : Bx W (w.heap.size + 1) (deC d) 54
 x4 : Bx W p4 (fldB d.kd) 68
 hB : B ≤ w.heap.size
 hb : b < w.heap.size
 h4 : w.heap.size < p4
section
variable {w W W' : World} {B b p4 : Nat} {d : De} {l l' : List UInt8}
theorem WdS.below (h : WdS w B b p4 d l W) (hb : Below W.heap.size W W') : WdS w B b p4 d l W' :=
 ⟨h.s.below h.hB hb, h.x2.below hb, h.x3.below hb, h.x4.below hb, h.hB, h.hb, h.h4⟩
theorem WdS.line (h : WdS w B b p4 d l W) (hs : NmS B b l' W W') : WdS w B b p4 d l' W' :=
 ⟨h.s.trans hs, hs.box h.x2 (by have := h.hb; omega) (by decide), hs.box h.x3 (by have := h.hb; omega) (by decide), hs.box h.x4 (by have := h.hb; have := h.h4; omega) (by decide), h.hB, h.hb, h.h4⟩
def GivesWd2 (w : World) (B b p4 : Nat) (d : De) (l : List UInt8) (W : World) (e : Ending) (W' : World) : Prop := e = .returned (.tuple #[]) ∧ WdS w B b p4 d l W' ∧ Lib.OthersKept 5 (some b) W W'
theorem kept_box (hk : Lib.OthersKept 5 (some b) W W') {g : Nat} {cs : Array Value} {T : TypeId} (hb : Bx W g cs T) (hg : g ≠ b) (hT : T ≠ 5) : Bx W' g cs T :=
 hk g _ hb (fun e => hg (by injection e)) (fun _ _ e => by injection e with _ e; exact hT e)
theorem GivesWd2.alloc {o : Obj} {e : Ending} (h : GivesWd2 w B b p4 d l (W.alloc o) e W') : GivesWd2 w B b p4 d l W e W' := ⟨h.1, h.2.1, (kept_bel (Lib.OthersKept.refl _ _ _) ((Below.refl _ _).alloc (Nat.le_refl _) o)).trans h.2.2⟩
theorem WdS.call (h : WdS w B b p4 d l W) (yes : Bool) (A : Option Addr) (c : Nat) (ws : List ByteArray) (hws : Strs W A ws) (hc : ws.length ≤ c) (hl : ws.length ≤ 3) (hz : ∀ s ∈ ws, s.size ≤ 4100) (hll : l.length ≤ 1000000000) :
  Calls Tryz.prog 73 #[.bool yes, .slice A ws.length c, .pointer (some ⟨w.heap.size, 0, none⟩)] W (GivesWd2 w B b p4 d (l ++ ifL yes (lnL ws)) W) :=
 (ln_c B b w.heap.size l yes A c ws W h.s.bld (Nat.le_trans h.hB (Nat.le_of_lt h.x2.lt)) h.x2 hws hc hl hz hll (by have := h.hb; omega)).mono fun _ _ ⟨he, hs⟩ => ⟨he, h.line hs, hs.kept⟩
theorem WdS.call1 (h : WdS w B b p4 d l W) (yes : Bool) (s1 : ByteArray) (z1 : s1.size ≤ 4100) (hll : l.length ≤ 1000000000) :
  Calls Tryz.prog 73 #[.bool yes, .slice (some ⟨W.heap.size, 0, none⟩) 1 1, .pointer (some ⟨w.heap.size, 0, none⟩)] (W.alloc (.cells #[.string s1] 9)) (GivesWd2 w B b p4 d (l ++ ifL yes (lnL [s1])) W) :=
 ((h.below ((Below.refl _ _).alloc (Nat.le_refl _) _)).call yes (some ⟨W.heap.size, 0, none⟩) 1 [s1] (strs1 W s1) (by simp) (by simp) (by simpa using z1) hll).mono fun _ _ h => h.alloc
theorem WdS.call2 (h : WdS w B b p4 d l W) (yes : Bool) (s1 s2 : ByteArray) (z1 : s1.size ≤ 4100) (z2 : s2.size ≤ 4100) (hll : l.length ≤ 1000000000) :
  Calls Tryz.prog 73 #[.bool yes, .slice (some ⟨W.heap.size, 0, none⟩) 2 2, .pointer (some ⟨w.heap.size, 0, none⟩)] (W.alloc (.cells #[.string s1, .string s2] 9)) (GivesWd2 w B b p4 d (l ++ ifL yes (lnL [s1, s2])) W) :=
 ((h.below ((Below.refl _ _).alloc (Nat.le_refl _) _)).call yes (some ⟨W.heap.size, 0, none⟩) 2 [s1, s2] (strs2w W s1 s2) (by simp) (by simp) (by
  intro s hs
  simp only [List.mem_cons, List.not_mem_nil, or_false] at hs
  rcases hs with rfl | rfl <;> assumption) hll).mono fun _ _ h => h.alloc
theorem WdS.call3 (h : WdS w B b p4 d l W) (yes : Bool) (s1 s2 s3 : ByteArray) (z1 : s1.size ≤ 4100) (z2 : s2.size ≤ 4100) (z3 : s3.size ≤ 4100) (hll : l.length ≤ 1000000000) :
  Calls Tryz.prog 73 #[.bool yes, .slice (some ⟨W.heap.size, 0, none⟩) 3 3, .pointer (some ⟨w.heap.size, 0, none⟩)] (W.alloc (.cells #[.string s1, .string s2, .string s3] 9)) (GivesWd2 w B b p4 d (l ++ ifL yes (lnL [s1, s2, s3])) W) :=
 ((h.below ((Below.refl _ _).alloc (Nat.le_refl _) _)).call yes (some ⟨W.heap.size, 0, none⟩) 3 [s1, s2, s3] (strs3 W s1 s2 s3) (by simp) (by simp) (by
  intro s hs
  simp only [List.mem_cons, List.not_mem_nil, or_false] at hs
  rcases hs with rfl | rfl | rfl <;> assumption) hll).mono fun _ _ h => h.alloc
end
theorem lnL_len {ws : List ByteArray} (hl : ws.length ≤ 3) (hz : ∀ s ∈ ws, s.size ≤ 4100) : (lnL ws).length ≤ 14000 := by
 have h1 := joinB_size (xs := ws) (sep := spB) (m := 4100) hz
 have h2 : spB.size = 1 := rfl
 rw [h2] at h1
 have h4 : ws.length * (1 + 4100) ≤ 3 * 4101 := Nat.mul_le_mul hl (Nat.le_refl _)
 have h5 : (Lib.join (ws.map (·.data.toList)) [32]).length = (joinB ws spB).size := by
  show _ = (Lib.join (ws.map (·.data.toList)) spB.data.toList).toArray.size
  simp
 unfold lnL
 simp only [List.length_cons, List.length_append, List.length_nil, h5]
 omega
theorem ln1_len (b : Bool) {s1 : ByteArray} (z1 : s1.size ≤ 4100) : (ifL b (lnL [s1])).length ≤ 14000 := Nat.le_trans (ifL_len _ _) (lnL_len (by simp) (by simpa using z1))
theorem ln2_len (b : Bool) {s1 s2 : ByteArray} (z1 : s1.size ≤ 4100) (z2 : s2.size ≤ 4100) : (ifL b (lnL [s1, s2])).length ≤ 14000 := Nat.le_trans (ifL_len _ _) (lnL_len (by simp) (by
  intro s hs
  simp only [List.mem_cons, List.not_mem_nil, or_false] at hs
  rcases hs with rfl | rfl <;> assumption))
theorem ln3_len (b : Bool) {s1 s2 s3 : ByteArray} (z1 : s1.size ≤ 4100) (z2 : s2.size ≤ 4100) (z3 : s3.size ≤ 4100) : (ifL b (lnL [s1, s2, s3])).length ≤ 14000 := Nat.le_trans (ifL_len _ _) (lnL_len (by simp) (by
  intro s hs
  simp only [List.mem_cons, List.not_mem_nil, or_false] at hs
  rcases hs with rfl | rfl | rfl <;> assumption))
theorem rat_size {nu de : ByteArray} (h1 : nu.size ≤ 2001) (h2 : de.size ≤ 2001) : (ratB nu de).size ≤ 4100 := by
 unfold ratB
 have e1 : (⟨#[47]⟩ : ByteArray).size = 1 := rfl
 rw [ByteArray.size_append, ByteArray.size_append, e1]
 omega
theorem itoa_sz {n : Int} (h0 : 0 ≤ n) (h : n ≤ 200000) : (itoaB n).size ≤ 4100 := Nat.le_trans (itoaB_size h0 (by omega)) (by decide)
theorem take_len {α : Type} (f : α → List UInt8) (m n : Nat) (l : List α) (k : Nat) (h : ∀ x ∈ l, (f x).length ≤ m) (hn : l.length ≤ n) : (flatL f (l.take k)).length ≤ n * m := by
 have h1 := flatL_mono f l k
 have h2 := flatL_len f m l h
 have h3 : l.length * m ≤ n * m := Nat.mul_le_mul hn (Nat.le_refl _)
 omega
def WaRel (w : World) (B b p4 : Nat) (d : De) (l : List UInt8) (m : Nat) (i : Value) (wr : World) : Prop :=
 ∃ k : Nat, k + m = d.ar.length ∧ i = .int .i64 (k : Nat) ∧ WdS w B b p4 d (l ++ flatL arL (d.ar.take k)) wr
def WuRel (w : World) (B b p4 : Nat) (d : De) (l : List UInt8) (m : Nat) (i : Value) (wr : World) : Prop :=
 ∃ k : Nat, k + m = d.us.length ∧ i = .int .i64 (k : Nat) ∧ WdS w B b p4 d (l ++ flatL usL (d.us.take k)) wr
def WsRel (w : World) (B b p4 : Nat) (d : De) (l : List UInt8) (m : Nat) (i : Value) (wr : World) : Prop :=
 ∃ k : Nat, k + m = d.sh.length ∧ i = .int .i64 (k : Nat) ∧ WdS w B b p4 d (l ++ flatL shL (d.sh.take k)) wr
theorem head_cats (id iy kd : ByteArray) (h1 : id.size ≤ 40) (h2 : iy.size ≤ 16) (h3 : kd.size ≤ 10) :
  (∀ W, (Op.stringOp .add ⟨#[100, 101, 101, 100, 32]⟩ id).run Tryz.prog W = .ok (.string (⟨#[100, 101, 101, 100, 32]⟩ ++ id)) W) ∧
  (∀ W, (Op.stringOp .add (⟨#[100, 101, 101, 100, 32]⟩ ++ id) ⟨#[32]⟩).run Tryz.prog W = .ok (.string ((⟨#[100, 101, 101, 100, 32]⟩ ++ id) ++ ⟨#[32]⟩)) W) ∧
  (∀ W, (Op.stringOp .add ((⟨#[100, 101, 101, 100, 32]⟩ ++ id) ++ ⟨#[32]⟩) iy).run Tryz.prog W = .ok (.string (((⟨#[100, 101, 101, 100, 32]⟩ ++ id) ++ ⟨#[32]⟩) ++ iy)) W) ∧
  (∀ W, (Op.stringOp .add (((⟨#[100, 101, 101, 100, 32]⟩ ++ id) ++ ⟨#[32]⟩) ++ iy) ⟨#[32]⟩).run Tryz.prog W = .ok (.string ((((⟨#[100, 101, 101, 100, 32]⟩ ++ id) ++ ⟨#[32]⟩) ++ iy) ++ ⟨#[32]⟩)) W) ∧
  (∀ W, (Op.stringOp .add ((((⟨#[100, 101, 101, 100, 32]⟩ ++ id) ++ ⟨#[32]⟩) ++ iy) ++ ⟨#[32]⟩) kd).run Tryz.prog W = .ok (.string (((((⟨#[100, 101, 101, 100, 32]⟩ ++ id) ++ ⟨#[32]⟩) ++ iy) ++ ⟨#[32]⟩) ++ kd)) W) ∧
  (∀ W, (Op.stringOp .add (((((⟨#[100, 101, 101, 100, 32]⟩ ++ id) ++ ⟨#[32]⟩) ++ iy) ++ ⟨#[32]⟩) ++ kd) ⟨#[10]⟩).run Tryz.prog W = .ok (.string ((((((⟨#[100, 101, 101, 100, 32]⟩ ++ id) ++ ⟨#[32]⟩) ++ iy) ++ ⟨#[32]⟩) ++ kd) ++ ⟨#[10]⟩)) W) ∧
  ((((((⟨#[100, 101, 101, 100, 32]⟩ ++ id) ++ ⟨#[32]⟩) ++ iy) ++ ⟨#[32]⟩) ++ kd) ++ ⟨#[10]⟩ : ByteArray).size ≤ 100 := by
 have e1 : (⟨#[100, 101, 101, 100, 32]⟩ : ByteArray).size = 5 := rfl
 have e2 : (⟨#[32]⟩ : ByteArray).size = 1 := rfl
 have e3 : (⟨#[10]⟩ : ByteArray).size = 1 := rfl
 refine ⟨cat_big _ _ ?_, cat_big _ _ ?_, cat_big _ _ ?_, cat_big _ _ ?_, cat_big _ _ ?_, cat_big _ _ ?_, ?_⟩ <;> (simp only [ByteArray.size_append, e1, e2, e3]; omega)
theorem kdS_size (k : Int) : (kdS k).size ≤ 10 := by
 unfold kdS
 split
 ·decide
 split
 ·decide
 split
 ·decide
 split
 ·decide
 ·decide
def GivesWr2 (w : World) (B b p4 : Nat) (d : De) (l : List UInt8) (n : Nat) (e : Ending) (W' : World) : Prop := e = .returned (.tuple #[.int .i64 (n : Int), .nilIface]) ∧ WdS w B b p4 d l W'
theorem WdS.write {w W : World} {B b p4 : Nat} {d : De} {l : List UInt8} (h : WdS w B b p4 d l W) (s : ByteArray) (hs : s.size ≤ 1000000) (hl : l.length ≤ 1000000000) :
  Calls Tryz.prog 41 #[.pointer (some ⟨b, 0, none⟩), .string s] W (GivesWr2 w B b p4 d (l ++ s.data.toList) s.size) :=
 (writeS_c B b l s W W ⟨h.s.bld, Below.refl _ _, Lib.OthersKept.refl _ _ _⟩ (by omega) (Nat.le_trans h.hB (Nat.le_of_lt h.x2.lt))).mono fun _ _ ⟨he, hk⟩ => ⟨he, h.line hk⟩
theorem headL_len {d : De} (hz : DSz d) : (headL d).length ≤ 100 := by
 have h1 := itoaB_size hz.day.1 (by have := hz.day.2; omega)
 have h2 := kdS_size d.kd
 have h3 := hz.id
 have e : (headL d).length = 5 + d.id.size + 1 + (itoaB d.day).size + 1 + (kdS d.kd).size + 1 := by
  unfold headL
  simp only [List.length_append, List.length_cons, List.length_nil, ← Lib.size_eq]
 omega
theorem head_eq (d : De) {iy kd : ByteArray} (h1 : iy = itoaB d.day) (h2 : kd = kdS d.kd) : ((((((⟨#[100, 101, 101, 100, 32]⟩ ++ d.id) ++ ⟨#[32]⟩) ++ iy) ++ ⟨#[32]⟩) ++ kd) ++ ⟨#[10]⟩ : ByteArray).data.toList = headL d := by
 unfold headL
 rw [h1, h2]
 simp only [data_app]
theorem writeDeed_c (w0 : World) (B b : Nat) (l : List UInt8) (d : De) (w : World) (hd : DeOk w0 d) (hz : DSz d) (hP : POK w0) (h0 : Below w0.heap.size w0 w) (hB0 : w0.heap.size ≤ B) (hb : Bld B b l w) (hBw : B ≤ w.heap.size) (hbw : b < w.heap.size) (hl : l.length ≤ 600000) :
  Calls Tryz.prog 42 #[.pointer (some ⟨b, 0, none⟩), deV d] w (GivesLn B b (l ++ deedL d) w) := by
 have HD := zq hd
 have HZ := zq hz
 have HPK := zq hP
 have H0 := zq h0
 obtain ⟨W2, hW2⟩ : ∃ W, W = (w.alloc (.cells #[.pointer (some ⟨b, 0, none⟩)] 94)).alloc (.cells (deC d) 54) := ⟨_, rfl⟩
 have HB2 : Hid (Below w.heap.size w W2) := by
  show Below _ _ _
  rw [hW2]
  exact ((Below.refl _ _).alloc (Nat.le_refl _) _).alloc (by simp) _
 have HX2 : Hid (Bx W2 w.heap.size #[.pointer (some ⟨b, 0, none⟩)] 94) := by
  show Bx _ _ _ _
  rw [hW2]
  exact (Bx.new _ _ _).alloc _
 have HX3 : Hid (Bx W2 (w.heap.size + 1) (deC d) 54) := by
  show Bx _ _ _ _
  rw [hW2]
  exact Bx.new1 _ _ _ _
 have HBL := zq (hb.below HB2.out)
 have HFL := zq (fun W => fieldsOf_c d.kd W hz.kd)
 rw [fldC_eq hz.kd] at HFL
 have x2 := HX3.out.cell (i := 2) rfl
 have xl := HX3.out.lt
 clear hd hP h0 hb
 go_enter Tryz.func42, Tryz.ntmps42
 go_upto_region 1 with fail
 rw [← hW2]
 clear hW2
 go_wp2_with fail
 with_reducible refine (HFL.out _).mono ?_
 rintro e w3 ⟨rfl, hb3⟩
 have hws : w.heap.size < w3.heap.size := Nat.lt_of_lt_of_le HX2.out.lt hb3.size
 have hba : Below w3.heap.size w3 (w3.alloc (.cells (fldB d.kd) 68)) := (Below.refl _ _).alloc (Nat.le_refl _) _
 have HS0 : Hid (WdS w B b w3.heap.size d l (w3.alloc (.cells (fldB d.kd) 68))) :=
  have hbb := below_trans (below_trans HB2.out hb3) hba
  ⟨⟨((HBL.out.below hb3).below hba), hbb.mono hBw, kept_bel (Lib.OthersKept.refl _ _ _) hbb⟩, (HX2.out.below hb3).below hba, (HX3.out.below hb3).below hba, Bx.new _ _ _, hBw, hbw, hws⟩
 obtain ⟨p4, hp4⟩ : ∃ p, p = w3.heap.size := ⟨_, rfl⟩
 obtain ⟨W4, hW4⟩ : ∃ W, W = w3.alloc (.cells (fldB d.kd) 68) := ⟨_, rfl⟩
 rw [← hW4, ← hp4] at HS0
 clear hb3 hba x2 xl HB2 HX2 HX3 HBL HFL
 go_upto_region 3 with fail
 rw [← hW4, ← hp4]
 clear hW4 hp4 hws
 go_cut [] (fun wx => WdS w B b p4 d (l ++ headL d) wx)
 case first =>
  obtain ⟨iy, hiy⟩ : ∃ iy, iy = itoaB d.day := ⟨_, rfl⟩
  obtain ⟨kd, hkd⟩ : ∃ kd, kd = kdS d.kd := ⟨_, rfl⟩
  have hiz : iy.size ≤ 16 := by rw [hiy]; exact itoaB_size hz.day.1 (by have := hz.day.2; omega)
  have hkz : kd.size ≤ 10 := by rw [hkd]; exact kdS_size _
  obtain ⟨c1, c2, c3, c4, c5, c6, cz⟩ := head_cats d.id iy kd hz.id hiz hkz
  have HE := zq (head_eq d hiy hkd)
  have HBW : Hid (Below w0.heap.size w0 W4) := H0.out.trans (HS0.out.s.bel.mono hB0)
  have HI : Hid (∀ W', BelH W4 W' → Calls Tryz.prog 75 #[.int .i64 d.day] W' (GivesH W4 (.string iy))) := fun W' hW =>
   (itoa_c d.day W' (by have := hz.day.1; omega) (by have := hz.day.2; omega) (HPK.out.below (below_trans HBW.out hW.out))).mono fun _ _ h => by rw [hiy]; exact GivesB.toH hW h
  have HWD : Hid (∀ W', Calls Tryz.prog 76 #[.int .i64 d.kd] W' (Gives (.string kd) W')) := fun W' => by rw [hkd]; exact word_c d.kd W' HZ.out.kd
  generalize hln : ((((((⟨#[100, 101, 101, 100, 32]⟩ ++ d.id) ++ ⟨#[32]⟩) ++ iy) ++ ⟨#[32]⟩) ++ kd) ++ ⟨#[10]⟩ : ByteArray) = ln at *
  have HWR : Hid (∀ W', BelH W4 W' → Calls Tryz.prog 41 #[.pointer (some ⟨b, 0, none⟩), .string ln] W' (GivesWr2 w B b p4 d (l ++ headL d) ln.size)) := fun W' hW => by
   have h := (HS0.out.below hW.out).write ln (by omega) (by omega)
   rw [HE.out] at h
   exact h
  have HBC : Hid (∀ W', BelH W4 W' → W'.cell? ⟨w.heap.size, 0, none⟩ = some (.pointer (some ⟨b, 0, none⟩)) ∧ W'.cell? ⟨w.heap.size + 1, 0, none⟩ = some (.string d.id) ∧ W'.cell? ⟨w.heap.size + 1, 1, none⟩ = some (.int .i64 d.day) ∧ W'.cell? ⟨w.heap.size + 1, 2, none⟩ = some (.int .i64 d.kd)) := fun W' hW =>
   ⟨(HS0.out.below hW.out).x2.cell (i := 0) rfl, (HS0.out.below hW.out).x3.cell (i := 0) rfl, (HS0.out.below hW.out).x3.cell (i := 1) rfl, (HS0.out.below hW.out).x3.cell (i := 2) rfl⟩
  have HBX : Hid (∀ l W', WdS w B b p4 d l W' → W'.cell? ⟨w.heap.size, 0, none⟩ = some (.pointer (some ⟨b, 0, none⟩)) ∧ W'.cell? ⟨w.heap.size + 1, 0, none⟩ = some (.string d.id) ∧ W'.cell? ⟨w.heap.size + 1, 1, none⟩ = some (.int .i64 d.day) ∧ W'.cell? ⟨w.heap.size + 1, 2, none⟩ = some (.int .i64 d.kd)) := fun l W' h =>
   ⟨h.x2.cell (i := 0) rfl, h.x3.cell (i := 0) rfl, h.x3.cell (i := 1) rfl, h.x3.cell (i := 2) rfl⟩
  have H1 : BelH W4 W4.drew := below_drewN (Below.refl _ _) 1
  obtain ⟨y0, y1, y2, y3⟩ := HBC.out _ H1
  clear hln hiy hkd hiz hkz cz HS0
  go_region_held3 (fun w' => (w'.cell? ⟨w.heap.size, 0, none⟩ = some (.pointer (some ⟨b, 0, none⟩)) ∧ w'.cell? ⟨w.heap.size + 1, 0, none⟩ = some (.string d.id)) ∧ w'.cell? ⟨w.heap.size + 1, 1, none⟩ = some (.int .i64 d.day) ∧ w'.cell? ⟨w.heap.size + 1, 2, none⟩ = some (.int .i64 d.kd)) (go_keep)
   (first
    | ((go_at_call 76; (with_reducible refine (HWD.out _).mono ?_); rintro e w5 ⟨rfl, rfl⟩))
    | ((go_at_call 41; (with_reducible refine (HWR.out _ (by assumption)).mono ?_); rintro e w6 ⟨rfl, hs6⟩; have HS6 := zq hs6; obtain ⟨z0, z1, z2, z3⟩ := HBX.out _ _ hs6; clear hs6))
    | ((go_at_call 75; (with_reducible refine (HI.out _ (by assumption)).mono ?_); rintro e w5 ⟨rfl, H5⟩; obtain ⟨z0, z1, z2, z3⟩ := HBC.out _ H5)))
  all_goals
   go_wp2_with fail
   go_meet
   exact HS6.out
 case rest =>
  have HS1 := zq hcut
  clear hcut HS0
  have HL1 : Hid ((l ++ headL d).length ≤ 600000 + 1 * 2000000) := by
   show _ ≤ _
   rw [List.length_append]
   have := headL_len hz
   omega
  obtain ⟨l1, hl1⟩ : ∃ q, q = l ++ headL d := ⟨_, rfl⟩
  rw [← hl1] at HS1 HL1
  have HQ1 := zq hl1
  clear hl1
  have zt := hz.th
  have zf := hz.fr
  have zo := hz.to_
  have zn := hz.nu
  have zd := hz.de
  have zot := hz.ot
  have zal := hz.arl
  have zul := hz.usl
  have zsl := hz.shl
  go_upto_region 4 with fail
  have xa := HS1.out.x4.cell (i := 0) rfl
  have xb := HS1.out.x3.cell (i := 3) rfl
  have x3l := HS1.out.x3.lt
  have x4l := HS1.out.x4.lt
  go_wp2_with fail
  with_reducible refine (HS1.out.call2 (givesB d.kd || decide (d.kd = 1)) wThing d.th (by decide) (by omega) (by have := HL1.out; omega)).mono ?_
  rintro e w2 ⟨rfl, hs, hk⟩
  have HS2 := zq hs
  have HL2 : Hid ((l1 ++ ifL (givesB d.kd || decide (d.kd = 1)) (lnL [wThing, d.th])).length ≤ 600000 + 2 * 2000000) := by
   show _ ≤ _
   rw [List.length_append]
   have := HL1.out
   have := ln2_len (givesB d.kd || decide (d.kd = 1)) (show (wThing).size ≤ 4100 from by decide) (show (d.th).size ≤ 4100 from by omega)
   omega
  clear hs hk HS1 xa xb x3l x4l
  obtain ⟨l2, hl2⟩ : ∃ q, q = l1 ++ ifL (givesB d.kd || decide (d.kd = 1)) (lnL [wThing, d.th]) := ⟨_, rfl⟩
  rw [← hl2] at HS2 HL2
  have HQ2 := zq hl2
  clear hl2
  go_upto_region 5 with fail
  have xa := HS2.out.x4.cell (i := 1) rfl
  have xb := HS2.out.x3.cell (i := 4) rfl
  have x3l := HS2.out.x3.lt
  have x4l := HS2.out.x4.lt
  go_wp2_with fail
  with_reducible refine (HS2.out.call2 (givesB d.kd || decide (d.kd = 5)) wFrom d.fr (by decide) (by omega) (by have := HL2.out; omega)).mono ?_
  rintro e w3 ⟨rfl, hs, hk⟩
  have HS3 := zq hs
  have HL3 : Hid ((l2 ++ ifL (givesB d.kd || decide (d.kd = 5)) (lnL [wFrom, d.fr])).length ≤ 600000 + 3 * 2000000) := by
   show _ ≤ _
   rw [List.length_append]
   have := HL2.out
   have := ln2_len (givesB d.kd || decide (d.kd = 5)) (show (wFrom).size ≤ 4100 from by decide) (show (d.fr).size ≤ 4100 from by omega)
   omega
  clear hs hk HS2 xa xb x3l x4l
  obtain ⟨l3, hl3⟩ : ∃ q, q = l2 ++ ifL (givesB d.kd || decide (d.kd = 5)) (lnL [wFrom, d.fr]) := ⟨_, rfl⟩
  rw [← hl3] at HS3 HL3
  have HQ3 := zq hl3
  clear hl3
  go_upto_region 6 with fail
  have xa : _ = some (Value.bool (givesB d.kd)) := HS3.out.x4.cell (i := 2) rfl
  have xb := HS3.out.x3.cell (i := 5) rfl
  have x3l := HS3.out.x3.lt
  have x4l := HS3.out.x4.lt
  go_wp2_with fail
  with_reducible refine (HS3.out.call2 (givesB d.kd) wTo d.to_ (by decide) (by omega) (by have := HL3.out; omega)).mono ?_
  rintro e w4 ⟨rfl, hs, hk⟩
  have HS4 := zq hs
  have HL4 : Hid ((l3 ++ ifL (givesB d.kd) (lnL [wTo, d.to_])).length ≤ 600000 + 4 * 2000000) := by
   show _ ≤ _
   rw [List.length_append]
   have := HL3.out
   have := ln2_len (givesB d.kd) (show (wTo).size ≤ 4100 from by decide) (show (d.to_).size ≤ 4100 from by omega)
   omega
  clear hs hk HS3 xa xb x3l x4l
  obtain ⟨l4, hl4⟩ : ∃ q, q = l3 ++ ifL (givesB d.kd) (lnL [wTo, d.to_]) := ⟨_, rfl⟩
  rw [← hl4] at HS4 HL4
  have HQ4 := zq hl4
  clear hl4
  have ce1 : (⟨#[47]⟩ : ByteArray).size = 1 := rfl
  have ca1 := cat_big d.nu ⟨#[47]⟩ (by rw [ce1]; omega)
  have ca2 := cat_big (d.nu ++ ⟨#[47]⟩) d.de (by rw [ByteArray.size_append, ce1]; omega)
  have zr := rat_size hz.nu hz.de
  go_upto_region 7 with fail
  have xa := HS4.out.x4.cell (i := 3) rfl
  have xb := HS4.out.x3.cell (i := 6) rfl
  have xc := HS4.out.x3.cell (i := 7) rfl
  have x3l := HS4.out.x3.lt
  have x4l := HS4.out.x4.lt
  go_wp2_with fail
  with_reducible refine (HS4.out.call2 (decide (d.kd = 2)) wPart (ratB d.nu d.de) (by decide) (zr) (by have := HL4.out; omega)).mono ?_
  rintro e w5 ⟨rfl, hs, hk⟩
  have HS5 := zq hs
  have HL5 : Hid ((l4 ++ ifL (decide (d.kd = 2)) (lnL [wPart, ratB d.nu d.de])).length ≤ 600000 + 5 * 2000000) := by
   show _ ≤ _
   rw [List.length_append]
   have := HL4.out
   have := ln2_len (decide (d.kd = 2)) (show (wPart).size ≤ 4100 from by decide) (show (ratB d.nu d.de).size ≤ 4100 from zr)
   omega
  clear hs hk HS4 xa xb xc x3l x4l
  obtain ⟨l5, hl5⟩ : ∃ q, q = l4 ++ ifL (decide (d.kd = 2)) (lnL [wPart, ratB d.nu d.de]) := ⟨_, rfl⟩
  rw [← hl5] at HS5 HL5
  have HQ5 := zq hl5
  clear hl5
  clear ca1 ca2 ce1
  go_upto_region 8 with fail
  have xb : _ = some (Value.bool d.ex) := HS5.out.x3.cell (i := 8) rfl
  have x3l := HS5.out.x3.lt
  go_wp2_with fail
  with_reducible refine (HS5.out.call1 d.ex wExcl (by decide) (by have := HL5.out; omega)).mono ?_
  rintro e w6 ⟨rfl, hs, hk⟩
  have HS6 := zq hs
  have HL6 : Hid ((l5 ++ ifL d.ex (lnL [wExcl])).length ≤ 600000 + 6 * 2000000) := by
   show _ ≤ _
   rw [List.length_append]
   have := HL5.out
   have := ln1_len d.ex (show (wExcl).size ≤ 4100 from by decide)
   omega
  clear hs hk HS5 xb x3l
  obtain ⟨l6, hl6⟩ : ∃ q, q = l5 ++ ifL d.ex (lnL [wExcl]) := ⟨_, rfl⟩
  rw [← hl6] at HS6 HL6
  have HQ6 := zq hl6
  clear hl6
  go_upto_region 9 with fail
  have xb : _ = some (Value.bool d.sb) := HS6.out.x3.cell (i := 9) rfl
  have x3l := HS6.out.x3.lt
  go_wp2_with fail
  with_reducible refine (HS6.out.call1 d.sb wSub (by decide) (by have := HL6.out; omega)).mono ?_
  rintro e w7 ⟨rfl, hs, hk⟩
  have HS7 := zq hs
  have HL7 : Hid ((l6 ++ ifL d.sb (lnL [wSub])).length ≤ 600000 + 7 * 2000000) := by
   show _ ≤ _
   rw [List.length_append]
   have := HL6.out
   have := ln1_len d.sb (show (wSub).size ≤ 4100 from by decide)
   omega
  clear hs hk HS6 xb x3l
  obtain ⟨l7, hl7⟩ : ∃ q, q = l6 ++ ifL d.sb (lnL [wSub]) := ⟨_, rfl⟩
  rw [← hl7] at HS7 HL7
  have HQ7 := zq hl7
  clear hl7
  go_upto_region 10 with fail
  have xb := HS7.out.x3.cell (i := 10) rfl
  have xbl := HS7.out.x3.lt
  go_wp2
  clear xb xbl
  go_loopg [79] d.ar.length (WaRel w B b p4 d l7)
  case atStart => exact ⟨0, by omega, rfl, by simpa [flatL] using HS7.out⟩
  clear HS7
  case round =>
   obtain ⟨k, hkm, rfl, hs⟩ := hrel
   have HKM := zq hkm
   have HS := zq hs
   have hkl : k ≤ d.ar.length := by omega
   have HBW : Hid (Below w0.heap.size w0 wr) := H0.out.trans (HS.out.s.bel.mono hB0)
   have HLK : Hid ((l7 ++ flatL arL (d.ar.take k)).length ≤ 600000 + 7 * 2000000 + 100 * 14000) := by
    show _ ≤ _
    rw [List.length_append]
    have h1 := HL7.out
    have h2 := take_len arL 14000 100 d.ar k (fun a ha => ln2_len true (s1 := if a.out = true then wOut else wIn) (s2 := a.rg) (by split <;> decide) (by have := hz.ar a ha; omega)) hz.arl
    omega
   clear hkm hs
   by_cases hlt : k < d.ar.length
   ·obtain ⟨b1, o1, hA, hb0, hcc⟩ := (HD.out.ars.below HBW.out).at_ (by omega)
    have hq := hcc k hlt
    have HT : Hid (flatL arL (d.ar.take (k + 1)) = flatL arL (d.ar.take k) ++ arL d.ar[k]) := flatL_take arL d.ar hlt
    have hm := hz.ar _ (List.getElem_mem hlt)
    rw [hA]
    have HA := zq hA
    generalize d.ar[k] = a at *
    obtain ⟨lk, hlk⟩ : ∃ q, q = l7 ++ flatL arL (d.ar.take k) := ⟨_, rfl⟩
    rw [← hlk] at HS HLK
    have HLE : Hid (l7 ++ flatL arL (d.ar.take (k + 1)) = lk ++ arL a) := by show _ = _; rw [HT.out, ← List.append_assoc, ← hlk]
    clear hcc hA HT hlk
    obtain ⟨q0, q1⟩ := hq
    obtain ⟨W1, hW1⟩ : ∃ W, W = wr.alloc (.cells #[.string a.rg, .bool a.out] 63) := ⟨_, rfl⟩
    have hb1 : Below wr.heap.size wr W1 := by rw [hW1]; exact (Below.refl _ _).alloc (Nat.le_refl _) _
    have HXR : Hid (Bx W1 wr.heap.size #[.string a.rg, .bool a.out] 63) := by show Bx _ _ _ _; rw [hW1]; exact Bx.new _ _ _
    have HS1 := zq (HS.out.below hb1)
    have hgb : wr.heap.size ≠ b := by have := HS.out.hb; have := HS.out.s.bel.size; have := HS.out.x2.lt; omega
    clear hb1
    go_upto_region 13 with fail
    rw [← hW1]
    clear hW1 q0 q1 hb0
    have p0 := HXR.out.cell (i := 0) rfl
    have p1 : _ = some (Value.bool a.out) := HXR.out.cell (i := 1) rfl
    have ps := HXR.out.lt
    go_wp2_with fail
    with_reducible refine (HS1.out.call2 (!a.out) wIn a.rg (by decide) (by omega) (by have := HLK.out; omega)).mono ?_
    rintro e w5 ⟨rfl, hs5, hk5⟩
    have HS5 := zq hs5
    have HX5 := zq (kept_box hk5 HXR.out hgb (by decide))
    clear hs5 hk5 p0 p1 ps HXR HS1
    have p0 := HX5.out.cell (i := 0) rfl
    have p1 : _ = some (Value.bool a.out) := HX5.out.cell (i := 1) rfl
    have ps := HX5.out.lt
    have hll : (lk ++ ifL (!a.out) (lnL [wIn, a.rg])).length ≤ 1000000000 := by
     rw [List.length_append]
     have := HLK.out
     have := ln2_len (!a.out) (s1 := wIn) (s2 := a.rg) (by decide) (by omega)
     omega
    go_wp2_with fail
    with_reducible refine (HS5.out.call2 a.out wOut a.rg (by decide) (by omega) hll).mono ?_
    rintro e w6 ⟨rfl, hs6, hk6⟩
    rw [List.append_assoc, arL_two] at hs6
    have HSE := zq hs6
    clear hs6 hk6 p0 p1 ps HX5 HS5 hll
    go_wp2
    rw [← HA.out]
    go_roundg (gk - 1)
    case measure => have := HKM.out; omega
    case rel => exact ⟨k + 1, by have := HKM.out; omega, by go_num, by rw [HLE.out]; exact HSE.out⟩
   ·have hke : d.ar.length ≤ k := by omega
    rw [flatL_all arL d.ar hke] at HS HLK
    obtain ⟨l8, hl8⟩ : ∃ q, q = l7 ++ flatL arL d.ar := ⟨_, rfl⟩
    rw [← hl8] at HS HLK
    have HS8 := zq HS.out
    have HL8 : Hid (l8.length ≤ 600000 + 8 * 2000000) := by show _ ≤ _; have := HLK.out; omega
    have HQ8 := zq hl8
    clear hl8 HS HLK HKM HBW
    go_upto_region 16 with fail
    have xb := HS8.out.x3.cell (i := 11) rfl
    have xbl := HS8.out.x3.lt
    go_wp2
    clear xb xbl
    go_loopg [102] d.us.length (WuRel w B b p4 d l8)
    case atStart => exact ⟨0, by omega, rfl, by simpa [flatL] using HS8.out⟩
    clear HS8
    case round =>
     obtain ⟨k, hkm, rfl, hs⟩ := hrel
     have HKM := zq hkm
     have HS := zq hs
     have hkl : k ≤ d.us.length := by omega
     have HBW : Hid (Below w0.heap.size w0 wr) := H0.out.trans (HS.out.s.bel.mono hB0)
     have HLK : Hid ((l8 ++ flatL usL (d.us.take k)).length ≤ 600000 + 8 * 2000000 + 20 * 14000) := by
      show _ ≤ _
      rw [List.length_append]
      have h1 := HL8.out
      have h2 := take_len usL 14000 20 d.us k (fun a ha => ln2_len true (s1 := wFor) (s2 := a) (by decide) (by have := hz.us a ha; omega)) hz.usl
      omega
     clear hkm hs
     by_cases hlt : k < d.us.length
     ·obtain ⟨b1, o1, hA, hb0, hcc⟩ := (HD.out.uses.below HBW.out).at_ (by omega)
      have hq := hcc k hlt
      have HT : Hid (flatL usL (d.us.take (k + 1)) = flatL usL (d.us.take k) ++ usL d.us[k]) := flatL_take usL d.us hlt
      have hm := hz.us _ (List.getElem_mem hlt)
      rw [hA]
      have HA := zq hA
      generalize d.us[k] = a at *
      obtain ⟨lk, hlk⟩ : ∃ q, q = l8 ++ flatL usL (d.us.take k) := ⟨_, rfl⟩
      rw [← hlk] at HS HLK
      have HLE : Hid (l8 ++ flatL usL (d.us.take (k + 1)) = lk ++ usL a) := by show _ = _; rw [HT.out, ← List.append_assoc, ← hlk]
      clear hcc hA HT hlk
      go_wp2_with fail
      with_reducible refine (HS.out.call2 true wFor a (by decide) (by omega) (by have := HLK.out; omega)).mono ?_
      rintro e w6 ⟨rfl, hs6, hk6⟩
      have HSE := zq hs6
      clear hs6 hk6 hq hb0
      go_wp2
      rw [← HA.out]
      go_roundg (gk - 1)
      case measure => have := HKM.out; omega
      case rel => exact ⟨k + 1, by have := HKM.out; omega, by go_num, by rw [HLE.out]; exact HSE.out⟩
     ·have hke : d.us.length ≤ k := by omega
      rw [flatL_all usL d.us hke] at HS HLK
      obtain ⟨l9, hl9⟩ : ∃ q, q = l8 ++ flatL usL d.us := ⟨_, rfl⟩
      rw [← hl9] at HS HLK
      have HS9 := zq HS.out
      have HL9 : Hid (l9.length ≤ 600000 + 9 * 2000000) := by show _ ≤ _; have := HLK.out; omega
      have HQ9 := zq hl9
      clear hl9 HS HLK HKM HBW
      go_upto_region 21 with fail
      have xb := HS9.out.x3.cell (i := 12) rfl
      have x3l := HS9.out.x3.lt
      go_wp2_with fail
      with_reducible refine (itoa_c d.bg _ (by have := hz.bg.1; omega) (by have := hz.bg.2; omega) (HPK.out.below (H0.out.trans (HS9.out.s.bel.mono hB0)))).mono ?_
      rintro e wi ⟨rfl, hbi⟩
      have HS9b := zq (HS9.out.below hbi)
      clear hbi
      go_wp2_with fail
      with_reducible refine (HS9b.out.call2 true wBegin (itoaB d.bg) (by decide) (itoa_sz hz.bg.1 hz.bg.2) (by have := HL9.out; omega)).mono ?_
      rintro e w10 ⟨rfl, hs, hk⟩
      have HS10 := zq hs
      have HL10 : Hid ((l9 ++ ifL true (lnL [wBegin, itoaB d.bg])).length ≤ 600000 + 10 * 2000000) := by
       show _ ≤ _
       rw [List.length_append]
       have := HL9.out
       have := ln2_len true (show (wBegin).size ≤ 4100 from by decide) (show (itoaB d.bg).size ≤ 4100 from itoa_sz hz.bg.1 hz.bg.2)
       omega
      clear hs hk HS9 xb x3l HS9b
      obtain ⟨l10, hl10⟩ : ∃ q, q = l9 ++ ifL true (lnL [wBegin, itoaB d.bg]) := ⟨_, rfl⟩
      rw [← hl10] at HS10 HL10
      have HQ10 := zq hl10
      clear hl10
      go_upto_region 22 with fail
      go_cut [] (fun wx => WdS w B b p4 d (l10 ++ ifL (givesB d.kd) (lnL [wEnd, itoaB d.en])) wx)
      case first =>
       obtain ⟨it, hit⟩ : ∃ it, it = itoaB d.en := ⟨_, rfl⟩
       have hiz : it.size ≤ 4100 := by rw [hit]; exact itoa_sz hz.en.1 hz.en.2
       have HBW : Hid (Below w0.heap.size w0 w10) := H0.out.trans (HS10.out.s.bel.mono hB0)
       have HI : Hid (∀ W', BelH w10 W' → Calls Tryz.prog 75 #[.int .i64 d.en] W' (GivesH w10 (.string it))) := fun W' hW =>
        (itoa_c d.en W' (by have := hz.en.1; omega) (by have := hz.en.2; omega) (HPK.out.below (below_trans HBW.out hW.out))).mono fun _ _ h => by rw [hit]; exact GivesB.toH hW h
       have HLN : Hid (∀ W', BelH w10 W' → Calls Tryz.prog 73 #[.bool (givesB d.kd), .slice (some ⟨W'.heap.size, 0, none⟩) 2 2, .pointer (some ⟨w.heap.size, 0, none⟩)] (W'.alloc (.cells #[.string wEnd, .string it] 9)) (GivesWd2 w B b p4 d (l10 ++ ifL (givesB d.kd) (lnL [wEnd, it])) W')) := fun W' hW =>
        (HS10.out.below hW.out).call2 (givesB d.kd) wEnd it (by decide) hiz (by have := HL10.out; omega)
       have HBX : Hid (∀ l W', WdS w B b p4 d l W' → W'.cell? ⟨p4, 6, none⟩ = some (.bool (givesB d.kd)) ∧ W'.cell? ⟨w.heap.size + 1, 13, none⟩ = some (.int .i64 d.en)) := fun l W' h =>
        ⟨h.x4.cell (i := 6) rfl, h.x3.cell (i := 13) rfl⟩
       have HBC : Hid (∀ W', BelH w10 W' → W'.cell? ⟨p4, 6, none⟩ = some (.bool (givesB d.kd)) ∧ W'.cell? ⟨w.heap.size + 1, 13, none⟩ = some (.int .i64 d.en)) := fun W' hW => HBX.out _ _ (HS10.out.below hW.out)
       have H1 : BelH w10 w10.drew := below_drewN (Below.refl _ _) 1
       obtain ⟨y0, y1⟩ := HBC.out _ H1
       have yl := HS10.out.x4.lt
       have ym := HS10.out.x3.lt
       have HIT := zq hit
       clear hit hiz HS10
       go_region_held3 (fun w' => w'.cell? ⟨p4, 6, none⟩ = some (.bool (givesB d.kd)) ∧ w'.cell? ⟨w.heap.size + 1, 13, none⟩ = some (.int .i64 d.en)) (go_keep)
        (first
         | ((go_at_call 75; (with_reducible refine (HI.out _ (by assumption)).mono ?_); rintro e w5 ⟨rfl, H5⟩; obtain ⟨z0, z1⟩ := HBC.out _ H5; have zl5 := Nat.lt_of_lt_of_le yl H5.out.size; have zm5 := Nat.lt_of_lt_of_le ym H5.out.size))
         | ((go_at_call 73; (with_reducible refine (HLN.out _ (by assumption)).mono ?_); rintro e w6 ⟨rfl, hs6, hk6⟩; have HS6 := zq hs6; obtain ⟨z0, z1⟩ := HBX.out _ _ hs6; clear hs6 hk6)))
       all_goals
        go_wp2_with fail
        go_meet
        rw [← HIT.out]
        exact HS6.out
      case rest =>
       have HS11 := zq hcut
       clear hcut HS10
       have HL11 : Hid ((l10 ++ ifL (givesB d.kd) (lnL [wEnd, itoaB d.en])).length ≤ 600000 + 11 * 2000000) := by
        show _ ≤ _
        rw [List.length_append]
        have := HL10.out
        have := ln2_len (givesB d.kd) (s1 := wEnd) (s2 := itoaB d.en) (by decide) (itoa_sz hz.en.1 hz.en.2)
        omega
       obtain ⟨l11, hl11⟩ : ∃ q, q = l10 ++ ifL (givesB d.kd) (lnL [wEnd, itoaB d.en]) := ⟨_, rfl⟩
       rw [← hl11] at HS11 HL11
       have HQ11 := zq hl11
       clear hl11
       go_upto_region 23 with fail
       have xb := HS11.out.x3.cell (i := 14) rfl
       have xbl := HS11.out.x3.lt
       go_wp2
       clear xb xbl
       go_loopg [128] d.sh.length (WsRel w B b p4 d l11)
       case atStart => exact ⟨0, by omega, rfl, by simpa [flatL] using HS11.out⟩
       clear HS11
       case round =>
        obtain ⟨k, hkm, rfl, hs⟩ := hrel
        have HKM := zq hkm
        have HS := zq hs
        have hkl : k ≤ d.sh.length := by omega
        have HBW : Hid (Below w0.heap.size w0 wr) := H0.out.trans (HS.out.s.bel.mono hB0)
        have HLK : Hid ((l11 ++ flatL shL (d.sh.take k)).length ≤ 600000 + 11 * 2000000 + 20 * 14000) := by
         show _ ≤ _
         rw [List.length_append]
         have h1 := HL11.out
         have h2 := take_len shL 14000 20 d.sh k (fun a ha => ln3_len true (s1 := wShare) (s2 := a.pt) (s3 := ratB a.nu a.de) (by decide) (by have := (hz.sh a ha).1; omega) (rat_size (hz.sh a ha).2.1 (hz.sh a ha).2.2)) hz.shl
         omega
        clear hkm hs
        by_cases hlt : k < d.sh.length
        ·obtain ⟨b1, o1, hA, hb0, hcc⟩ := (HD.out.shs.below HBW.out).at_ (by omega)
         have hq := hcc k hlt
         have HT : Hid (flatL shL (d.sh.take (k + 1)) = flatL shL (d.sh.take k) ++ shL d.sh[k]) := flatL_take shL d.sh hlt
         have hm := hz.sh _ (List.getElem_mem hlt)
         rw [hA]
         have HA := zq hA
         generalize d.sh[k] = a at *
         obtain ⟨lk, hlk⟩ : ∃ q, q = l11 ++ flatL shL (d.sh.take k) := ⟨_, rfl⟩
         rw [← hlk] at HS HLK
         have HLE : Hid (l11 ++ flatL shL (d.sh.take (k + 1)) = lk ++ shL a) := by show _ = _; rw [HT.out, ← List.append_assoc, ← hlk]
         clear hcc hA HT hlk
         obtain ⟨q0, q1, q2⟩ := hq
         obtain ⟨m0, m1, m2⟩ := hm
         obtain ⟨W1, hW1⟩ : ∃ W, W = wr.alloc (.cells #[.string a.pt, .string a.nu, .string a.de] 118) := ⟨_, rfl⟩
         have hb1 : Below wr.heap.size wr W1 := by rw [hW1]; exact (Below.refl _ _).alloc (Nat.le_refl _) _
         have HXR : Hid (Bx W1 wr.heap.size #[.string a.pt, .string a.nu, .string a.de] 118) := by show Bx _ _ _ _; rw [hW1]; exact Bx.new _ _ _
         have HS1 := zq (HS.out.below hb1)
         clear hb1
         go_upto_region 26 with fail
         rw [← hW1]
         clear hW1 q0 q1 q2 hb0
         have p0 := HXR.out.cell (i := 0) rfl
         have p1 := HXR.out.cell (i := 1) rfl
         have p2 := HXR.out.cell (i := 2) rfl
         have ps := HXR.out.lt
         have ce1 : (⟨#[47]⟩ : ByteArray).size = 1 := rfl
         have ca1 := cat_big a.nu ⟨#[47]⟩ (by rw [ce1]; omega)
         have ca2 := cat_big (a.nu ++ ⟨#[47]⟩) a.de (by rw [ByteArray.size_append, ce1]; omega)
         go_wp2_with fail
         with_reducible refine (HS1.out.call3 true wShare a.pt (ratB a.nu a.de) (by decide) (by omega) (rat_size m1 m2) (by have := HLK.out; omega)).mono ?_
         rintro e w6 ⟨rfl, hs6, hk6⟩
         have HSE := zq hs6
         clear hs6 hk6 p0 p1 p2 ps HXR HS1 ca1 ca2 ce1
         go_wp2
         rw [← HA.out]
         go_roundg (gk - 1)
         case measure => have := HKM.out; omega
         case rel => exact ⟨k + 1, by have := HKM.out; omega, by go_num, by rw [HLE.out]; exact HSE.out⟩
        ·have hke : d.sh.length ≤ k := by omega
         rw [flatL_all shL d.sh hke] at HS HLK
         obtain ⟨l12, hl12⟩ : ∃ q, q = l11 ++ flatL shL d.sh := ⟨_, rfl⟩
         rw [← hl12] at HS HLK
         have HS12 := zq HS.out
         have HL12 : Hid (l12.length ≤ 600000 + 12 * 2000000) := by show _ ≤ _; have := HLK.out; omega
         have HQ12 := zq hl12
         clear hl12 HS HLK HKM HBW
         go_upto_region 28 with fail
         have xa := HS12.out.x4.cell (i := 8) rfl
         have xb := HS12.out.x3.cell (i := 15) rfl
         have x3l := HS12.out.x3.lt
         have x4l := HS12.out.x4.lt
         go_wp2_with fail
         with_reducible refine (HS12.out.call2 (decide (d.kd = 4)) wEnds d.ot (by decide) (by omega) (by have := HL12.out; omega)).mono ?_
         rintro e w13 ⟨rfl, hs, hk⟩
         have HS13 := zq hs
         have HL13 : Hid ((l12 ++ ifL (decide (d.kd = 4)) (lnL [wEnds, d.ot])).length ≤ 600000 + 13 * 2000000) := by
          show _ ≤ _
          rw [List.length_append]
          have := HL12.out
          have := ln2_len (decide (d.kd = 4)) (show (wEnds).size ≤ 4100 from by decide) (show (d.ot).size ≤ 4100 from by omega)
          omega
         clear hs hk HS12 xa xb x3l x4l
         obtain ⟨l13, hl13⟩ : ∃ q, q = l12 ++ ifL (decide (d.kd = 4)) (lnL [wEnds, d.ot]) := ⟨_, rfl⟩
         rw [← hl13] at HS13 HL13
         have HQ13 := zq hl13
         clear hl13
         go_wp2
         go_end0
         have he : l13 = l ++ deedL d := by
          rw [HQ13.out, HQ12.out, HQ11.out, HQ10.out, HQ9.out, HQ8.out, HQ7.out, HQ6.out, HQ5.out, HQ4.out, HQ3.out, HQ2.out, HQ1.out]
          unfold deedL preA midA endA
          simp only [List.append_assoc, ifL_true]
         refine ⟨rfl, ?_⟩
         rw [← he]
         exact HS13.out.s
end Go.Proofs.YtlcfgejaeecclaaGreatDoor
