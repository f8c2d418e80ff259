/- Parts of the proof, joined: Plain facts about parts of things: no program in sight. DERIVED: THE S. -/
import Derived.Ground.SlsfProg
import Derived.Shelf.SlSortCmp.NoneTotal
import Derived.Shelf.SlGeneric
import Derived.Shelf.SlSortCmp.WholeK
import Derived.Test.YtlcfgejaeecclaaGreatDoorZq18
import Derived.Test.YtlcfgejaeecclaaGreatDoorZq19
set_option maxRecDepth 100000
set_option maxHeartbeats 8000000
namespace Dw
theorem slt_list (a b : ByteArray) : slt a b = decide (a.toList < b.toList) := by unfold slt; rw [bytesLess_eq]
theorem sge_trans {a b c : ByteArray} (h : slt b a = false) (k : slt c b = false) : slt c a = false := by
 rw [slt_list] at *
 simp only [decide_eq_false_iff_not, List.not_lt] at *
 exact List.le_trans h k
theorem slt_asymm {a b : ByteArray} (h : slt a b = true) : slt b a = false := by
 cases hb : slt b a with
 | false => rfl
 | true => exact absurd (slt_trans h hb) (by rw [slt_irrefl]; simp)
theorem slt_antisymm {a b : ByteArray} (h : slt a b = false) (k : slt b a = false) : a = b := by
 rw [slt_list] at *
 simp only [decide_eq_false_iff_not, List.not_lt] at *
 exact toList_inj (List.le_antisymm k h)
end Dw
namespace Go.Proofs
open Go.Shelf
def Tryz.sortE27_ren : Go.Shelf.Ren := ⟨fun | 6 => 27 | 15 => 58 | 14 => 57 | 28 => 95 | 29 => 96 | 20 => 87 | 21 => 88 | 22 => 89 | 23 => 90 | 24 => 91 | 25 => 92 | 26 => 93 | 27 => 94 | 46 => 125 | 47 => 126 | 48 => 127 | 49 => 128 | 50 => 129 | 57 => 165 | n => n, fun | 22 => 24 | 24 => 54 | 25 => 59 | 3 => 3 | 39 => 123 | 0 => 0 | 53 => 156 | 55 => 158 | 4 => 4 | 46 => 150 | 45 => 149 | 50 => 132 | 5 => 5 | 9 => 9 | 66 => 188 | 70 => 192 | 76 => 222 | 77 => 82 | n => n, fun | n => n⟩
theorem Tryz.sortE27 : Go.Proofs.SlLaysF0.n6 Tryz.prog Tryz.sortE27_ren := {
 mixed := by kernel_rfl
 f6 := ⟨Tryz.f27.name, by decide, Tryz.func27.trans (congrArg some (by kernel_rfl))⟩
 f14 := ⟨Tryz.f57.name, by decide, Tryz.func57.trans (congrArg some (by kernel_rfl))⟩
 f15 := Tryz.func58.trans (congrArg some (by kernel_rfl))
 f20 := ⟨Tryz.f87.name, by decide, Tryz.func87.trans (congrArg some (by kernel_rfl))⟩
 f21 := ⟨Tryz.f88.name, by decide, Tryz.func88.trans (congrArg some (by kernel_rfl))⟩
 f22 := ⟨Tryz.f89.name, by decide, Tryz.func89.trans (congrArg some (by kernel_rfl))⟩
 f23 := ⟨Tryz.f90.name, by decide, Tryz.func90.trans (congrArg some (by kernel_rfl))⟩
 f24 := ⟨Tryz.f91.name, by decide, Tryz.func91.trans (congrArg some (by kernel_rfl))⟩
 f25 := ⟨Tryz.f92.name, by decide, Tryz.func92.trans (congrArg some (by kernel_rfl))⟩
 f26 := ⟨Tryz.f93.name, by decide, Tryz.func93.trans (congrArg some (by kernel_rfl))⟩
 f27 := ⟨Tryz.f94.name, by decide, Tryz.func94.trans (congrArg some (by kernel_rfl))⟩
 f28 := Tryz.func95.trans (congrArg some (by kernel_rfl))
 f29 := Tryz.func96.trans (congrArg some (by kernel_rfl))
 f46 := ⟨Tryz.f125.name, by decide, Tryz.func125.trans (congrArg some (by kernel_rfl))⟩
 f47 := Tryz.func126.trans (congrArg some (by kernel_rfl))
 f48 := Tryz.func127.trans (congrArg some (by kernel_rfl))
 f49 := ⟨Tryz.f128.name, by decide, Tryz.func128.trans (congrArg some (by kernel_rfl))⟩
 f50 := ⟨Tryz.f129.name, by decide, Tryz.func129.trans (congrArg some (by kernel_rfl))⟩
 f57 := ⟨Tryz.f165.name, by decide, Tryz.func165.trans (congrArg some (by kernel_rfl))⟩
 t0 := Tryz.underlying0
 a0 := Tryz.isAgg0
 z0 := Tryz.sizeOf0
 v0 := Tryz.zeroValue0
 t3 := Tryz.underlying3
 a3 := Tryz.isAgg3
 z3 := Tryz.sizeOf3
 v3 := Tryz.zeroValue3
 t4 := Tryz.underlying4
 a4 := Tryz.isAgg4
 z4 := Tryz.sizeOf4
 v4 := Tryz.zeroValue4
 t5 := Tryz.underlying5
 a5 := Tryz.isAgg5
 z5 := Tryz.sizeOf5
 v5 := Tryz.zeroValue5
 t9 := Tryz.underlying9
 a9 := Tryz.isAgg9
 z9 := Tryz.sizeOf9
 v9 := Tryz.zeroValue9
 t22 := Tryz.underlying24
 a22 := Tryz.isAgg24
 z22 := Tryz.sizeOf24
 v22 := Tryz.zeroValue24
 t25 := Tryz.underlying59
 a25 := Tryz.isAgg59
 z25 := Tryz.sizeOf59
 v25 := Tryz.zeroValue59
 t39 := Tryz.underlying123
 a39 := Tryz.isAgg123
 z39 := Tryz.sizeOf123
 v39 := Tryz.zeroValue123
 t45 := Tryz.underlying149
 a45 := Tryz.isAgg149
 z45 := Tryz.sizeOf149
 v45 := Tryz.zeroValue149
 t46 := Tryz.underlying150
 a46 := Tryz.isAgg150
 z46 := Tryz.sizeOf150
 v46 := Tryz.zeroValue150
 t50 := Tryz.underlying132
 a50 := Tryz.isAgg132
 z50 := Tryz.sizeOf132
 v50 := Tryz.zeroValue132
 t53 := Tryz.underlying156
 a53 := Tryz.isAgg156
 z53 := Tryz.sizeOf156
 v53 := Tryz.zeroValue156
 t55 := Tryz.underlying158
 a55 := Tryz.isAgg158
 z55 := Tryz.sizeOf158
 v55 := Tryz.zeroValue158
 t66 := Tryz.underlying188
 a66 := Tryz.isAgg188
 z66 := Tryz.sizeOf188
 v66 := Tryz.zeroValue188
 t70 := Tryz.underlying192
 a70 := Tryz.isAgg192
 z70 := Tryz.sizeOf192
 v70 := Tryz.zeroValue192
 t76 := Tryz.underlying222
 a76 := Tryz.isAgg222
 z76 := Tryz.sizeOf222
 v76 := Tryz.zeroValue222
 t77 := Tryz.underlying82
 a77 := Tryz.isAgg82
 z77 := Tryz.sizeOf82
 v77 := Tryz.zeroValue82 }
end Go.Proofs
namespace Go.Proofs.YtlcfgejaeecclaaGreatDoor
open Go.Shelf Go.RowKit Go.Lib Go.Sort Dw
theorem lt_deCmp (x y : De) : ltOf deCmp x y = deLt x y := deCmp_lt x y
theorem deLt_irrefl (x : De) : deLt x x = false := by unfold deLt; rw [slt_irrefl]; simp
theorem deLt_trans {x y z : De} (h1 : deLt x y = true) (h2 : deLt y z = true) : deLt x z = true := by
 unfold deLt at *
 simp only [Bool.or_eq_true, Bool.and_eq_true, decide_eq_true_eq] at *
 rcases h1 with h1 | ⟨h1, k1⟩ <;> rcases h2 with h2 | ⟨h2, k2⟩
 ·left; omega
 ·left; omega
 ·left; omega
 ·right; exact ⟨by omega, slt_trans k1 k2⟩
theorem deLt_ntrans {x y z : De} (h1 : deLt x y = false) (h2 : deLt y z = false) : deLt x z = false := by
 unfold deLt at *
 simp only [Bool.or_eq_false_iff, Bool.and_eq_false_iff, decide_eq_false_iff_not] at *
 obtain ⟨a1, b1⟩ := h1
 obtain ⟨a2, b2⟩ := h2
 refine ⟨by omega, ?_⟩
 by_cases e : x.day = z.day
 ·right
  have e1 : x.day = y.day := by omega
  have e2 : y.day = z.day := by omega
  exact sge_trans (b2.resolve_left (fun h => h e2)) (b1.resolve_left (fun h => h e1))
 ·exact .inl e
theorem swoE : SWO (ltOf deCmp) where
 irrefl x := by rw [lt_deCmp]; exact deLt_irrefl x
 trans x y z h1 h2 := by rw [lt_deCmp] at *; exact deLt_trans h1 h2
 ntrans x y z h1 h2 := by rw [lt_deCmp] at *; exact deLt_ntrans h1 h2
def encE (d : De) : List Value := (deC d).toList
theorem compareDeeds_g (a b : De) (w : World) : Calls Tryz.prog 28 #[deV a, deV b] w fun e w' => e = .returned (.int .i64 (deCmp a b)) ∧ ∃ q os', w' = grow (w.drewN q) os' := by
 have HX : Hid (Bx ((w.alloc (.cells (deC a) 54)).alloc (.cells (deC b) 54)) w.heap.size (deC a) 54) := (Bx.new _ _ _).alloc _
 have HY : Hid (Bx ((w.alloc (.cells (deC a) 54)).alloc (.cells (deC b) 54)) (w.heap.size + 1) (deC b) 54) := Bx.new1 _ _ _ _
 have hG : ∀ Z : Obj, (((w.alloc (.cells (deC a) 54)).alloc (.cells (deC b) 54)).alloc Z).drew = grow (w.drewN 1) #[.cells (deC a) 54, .cells (deC b) 54, Z] := fun Z => by
  rw [alloc_eq_grow, alloc_eq_grow, alloc_eq_grow, grow_grow, grow_grow]; rfl
 obtain ⟨W, hW⟩ : ∃ W, W = (w.alloc (.cells (deC a) 54)).alloc (.cells (deC b) 54) := ⟨_, rfl⟩
 rw [← hW] at HX HY hG
 have HG := zq hG
 clear hG
 generalize hres : deCmp a b = res
 unfold deCmp at hres
 have HR := zq hres
 clear hres
 have HC := zq (fun W' => cmpI_c a.day b.day W')
 have HS := zq (fun W' => compareS_c a.id b.id W')
 go_enter Tryz.func28, Tryz.ntmps28
 go_wp2_with fail
 rw [← hW]
 clear hW
 have x0 := HX.out.cell (i := 0) rfl
 have x1 := HX.out.cell (i := 1) rfl
 have y0 := HY.out.cell (i := 0) rfl
 have y1 := HY.out.cell (i := 1) rfl
 generalize cmpI a.day b.day = z1 at *
 generalize cfS a.id b.id = z2 at *
 have ho : ∀ W' : World, Calls Tryz.prog 59 #[.slice (some ⟨W'.heap.size, 0, none⟩) 2 2] (W'.alloc (.cells #[.int .i64 z1, .int .i64 z2] 3)).drew (Gives (.int .i64 (orI [z1, z2])) (W'.alloc (.cells #[.int .i64 z1, .int .i64 z2] 3)).drew) :=
  fun W' => cmpOr_c (some ⟨W'.heap.size, 0, none⟩) 2 [z1, z2] _ (by simp) (Rd1.drew (ints_twoR W' z1 z2 _))
 have HO := zq ho
 clear ho
 refine wp_region_still_tail 10 (by kernel_rfl) (by kernel_rfl) ?_
 simp only [List.take_succ_cons, List.take_zero, List.drop_succ_cons, List.drop_zero]
 iterate 4 still_step
 still_call ((HC.out _).mono (fun _ _ h => ⟨h.1, h.2.symm⟩))
 iterate 4 still_step
 still_call ((HS.out _).mono (fun _ _ h => ⟨h.1, h.2.symm⟩))
 refine wpStill_nil ?_
 change wpList _ _ _ _ _ W.drew
 clear x0 x1 y0 y1 HC HS
 go_wp2_with fail
 with_reducible refine (HO.out W).mono ?_
 rintro e w3 ⟨rfl, rfl⟩
 go_wp2
 go_ret
 exact ⟨by rw [← HR.out]; rfl, 1, _, HG.out _⟩
theorem cmpLaysE (blk off size : Nat) (w : World) : CmpLays Tryz.prog 28 #[] encE 16 deCmp blk off size w :=
 fun _ _ _ _ x y => compareDeeds_g x y _
def GivesSrt (g : Nat) (L : List De) (w : World) (e : Ending) (w' : World) : Prop :=
 e = .returned (.tuple #[]) ∧ ∃ S : List De, S.Perm L ∧ S.Pairwise (fun a b => deLt b a = false) ∧ HoldsK encE 16 w' g 0 S.toArray ∧ (w'.os = w.os ∧ w'.tape = w.tape ∧ w'.output = w.output ∧ w.heap.size ≤ w'.heap.size) ∧ ∀ x, x < w.heap.size → x ≠ g → w'.heap[x]? = w.heap[x]?
theorem oneE (x : De) : ∀ v ∈ encE x, v.oneCell' = true := by simp [encE, Value.oneCell']
theorem sortE_c (g c : Nat) (L : List De) (w : World) (hH : HoldsK encE 16 w g 0 L.toArray) (hgl : g < w.heap.size) (hl : L.length ≤ 1000000) :
  Calls Tryz.prog 27 #[.slice (some ⟨g, 0, none⟩) L.length c, .func (.func 28) #[] #[]] w (GivesSrt g L w) := by
 have eg : ∀ args w, (callFunc 28 args).run Tryz.prog w = .ok (.enter 28 args) w := enters_of Tryz.func28 (by kernel_rfl) rfl
 have hS := AnyQ.slices_SortFunc Tryz.sortE27 16 Tryz.isAgg54 Tryz.sizeOf54 encE (fun _ => rfl) oneE deCmp swoE 28 #[] g 0 c L.toArray w eg (cmpLaysE g 0 L.toArray.size w) hH hgl (by simp; omega)
 change Calls Tryz.prog 27 _ _ _ at hS
 rw [List.size_toArray] at hS
 refine hS.mono fun e w' ⟨he, d', n, os, hp, hs, hw⟩ => ⟨he, d'.toList, ?_, ?_, ?_, ?_, ?_⟩
 ·have h := hp.2.2
  rw [Array.extract_eq_self_of_le (by rw [hp.1]; simp), Array.extract_eq_self_of_le (by simp)] at h
  simpa using h
 ·rw [List.pairwise_iff_getElem]
  intro i j hi hj hij
  have hsz : d'.size = L.length := by rw [hp.1]; simp
  have h := hs i j (Nat.zero_le _) hij (by simp at hj; omega)
  rw [lt_deCmp] at h
  have hj' : j < d'.size := by simpa using hj
  have hi' : i < d'.size := by simpa using hi
  rw [getElem!_pos d' j hj', getElem!_pos d' i hi'] at h
  simpa using h
 ·have hh := holdsK_sortWorldK_c (enc := encE) (k := 16) (w := w) (blk := g) (off := 0) L.toArray d' n os hH hgl hp.1
  rw [hw]
  simpa using hh
 ·rw [hw]
  refine ⟨rfl, rfl, rfl, ?_⟩
  unfold sortWorldK
  rw [size_grow]
  have hz : (putRowK encE 16 (Sort.ahead w n) g 0 d').heap.size = w.heap.size := size_putRowK _ _ _ _ _ _
  omega
 ·intro x hx hne
  rw [hw]
  unfold sortWorldK
  have hz : (putRowK encE 16 (Sort.ahead w n) g 0 d').heap.size = w.heap.size := size_putRowK _ _ _ _ _ _
  rw [heap_grow_old _ _ (by omega)]
  show ((Sort.ahead w n).heap.modify g _)[x]? = _
  rw [Array.getElem?_modify, if_neg (fun e => hne e.symm)]
  rfl
end Go.Proofs.YtlcfgejaeecclaaGreatDoor
namespace Go.Proofs.YtlcfgejaeecclaaGreatDoor
theorem sorted_unique {α : Type} {lt : α → α → Prop} (ha : ∀ a b, lt a b → ¬ lt b a) : ∀ {l r : List α}, l.Pairwise lt → r.Pairwise lt → (∀ x, x ∈ l ↔ x ∈ r) → l = r
 | [], [], _, _, _ => rfl
 | [], b :: r, _, _, h => absurd ((h b).2 List.mem_cons_self) (by simp)
 | a :: l, [], _, _, h => absurd ((h a).1 List.mem_cons_self) (by simp)
 | a :: l, b :: r, hl, hr, h => by
  obtain ⟨hl1, hl2⟩ := List.pairwise_cons.1 hl
  obtain ⟨hr1, hr2⟩ := List.pairwise_cons.1 hr
  have e : a = b := by
   rcases List.mem_cons.1 ((h a).1 List.mem_cons_self) with e | e
   ·exact e
   ·rcases List.mem_cons.1 ((h b).2 List.mem_cons_self) with e2 | e2
    ·exact e2.symm
    ·exact absurd (hr1 a e) (ha _ _ (hl1 b e2))
  subst e
  have hn1 : ∀ x ∈ l, x ≠ a := fun x hx e => by subst e; exact ha _ _ (hl1 x hx) (hl1 x hx)
  have hn2 : ∀ x ∈ r, x ≠ a := fun x hx e => by subst e; exact ha _ _ (hr1 x hx) (hr1 x hx)
  rw [sorted_unique ha hl2 hr2 fun x => ?_]
  constructor
  ·intro hx
   rcases List.mem_cons.1 ((h x).1 (List.mem_cons_of_mem _ hx)) with e | e
   ·exact absurd e (hn1 x hx)
   ·exact e
  ·intro hx
   rcases List.mem_cons.1 ((h x).2 (List.mem_cons_of_mem _ hx)) with e | e
   ·exact absurd e (hn2 x hx)
   ·exact e
def firsts {α κ : Type} [DecidableEq κ] (key : α → κ) : List α → List α → List α
 | _, [] => []
 | seen, a :: l => if (seen.map key).contains (key a) = true then firsts key seen l else a :: firsts key (a :: seen) l
def KeyOk {α κ : Type} (key : α → κ) (l : List α) : Prop := ∀ a ∈ l, ∀ b ∈ l, key a = key b → a = b
theorem mem_firsts {α κ : Type} [DecidableEq κ] {key : α → κ} : ∀ {seen l : List α}, KeyOk key l → ∀ x, x ∈ firsts key seen l ↔ x ∈ l ∧ ∀ s ∈ seen, key s ≠ key x
 | seen, [], _, x => by simp [firsts]
 | seen, a :: l, hk, x => by
  have hk' : KeyOk key l := fun u hu v hv e => hk u (List.mem_cons_of_mem _ hu) v (List.mem_cons_of_mem _ hv) e
  unfold firsts
  split
  ·next h =>
   rw [mem_firsts hk']
   have h' : ∃ s ∈ seen, key s = key a := by simpa using h
   obtain ⟨s, hs, es⟩ := h'
   constructor
   ·exact fun ⟨h1, h2⟩ => ⟨List.mem_cons_of_mem _ h1, h2⟩
   ·rintro ⟨h1, h2⟩
    rcases List.mem_cons.1 h1 with rfl | h1
    ·exact absurd es (h2 s hs)
    ·exact ⟨h1, h2⟩
  ·next h =>
   have h' : ∀ s ∈ seen, key s ≠ key a := by simpa using h
   rw [List.mem_cons, mem_firsts hk']
   constructor
   ·rintro (rfl | ⟨h1, h2⟩)
    ·exact ⟨List.mem_cons_self, h'⟩
    ·exact ⟨List.mem_cons_of_mem _ h1, fun s hs => h2 s (List.mem_cons_of_mem _ hs)⟩
   ·rintro ⟨h1, h2⟩
    rcases List.mem_cons.1 h1 with rfl | h1
    ·exact .inl rfl
    ·by_cases e : key a = key x
     ·exact .inl (hk x (List.mem_cons_of_mem _ h1) a List.mem_cons_self e.symm)
     ·refine .inr ⟨h1, fun s hs => ?_⟩
      rcases List.mem_cons.1 hs with rfl | hs
      ·exact e
      ·exact h2 s hs
theorem sort_same {α : Type} {lt : α → α → Prop} (ha : ∀ a b, lt a b → ¬ lt b a) {l r sl sr : List α} (h1 : sl.Perm l) (h2 : sr.Perm r) (s1 : sl.Pairwise lt) (s2 : sr.Pairwise lt) (h : ∀ x, x ∈ l ↔ x ∈ r) : sl = sr :=
 sorted_unique ha s1 s2 fun x => by rw [h1.mem_iff, h2.mem_iff, h]
open Go.RowKit Dw
theorem need_fr {d : De} (hk : d.kd = 1) (h : needB d = false) : d.fr = emp := by
 unfold needB at h
 rw [hk] at h
 simp [givesB] at h
 exact h.1.1.1.1.1.1
theorem need_th {d : De} (hk : d.kd = 5) (h : needB d = false) : d.th = emp := by
 unfold needB at h
 rw [hk] at h
 simp [givesB] at h
 exact h.1.1.1.1.1.1
def Gd (pre : List De) : Prop := (∀ q ∈ pre, (1 ≤ q.kd ∧ q.kd ≤ 5) ∧ needB q = false) ∧ pre.Pairwise (fun a b => a.id ≠ b.id)
theorem kN_cons (a : De) (t : List De) (x : ByteArray) : kN (a :: t) x = if a.id = x then a.kd else kN t x := by
 unfold kN
 by_cases h : a.id = x
 ·rw [List.find?_cons_of_pos (by simp [sameId, h]), if_pos h]
 ·rw [List.find?_cons_of_neg (by simp [sameId, h]), if_neg h]
theorem kN_any : ∀ (pre : List De) (x : ByteArray), pre.Pairwise (fun a b => a.id ≠ b.id) → givesB (kN pre x) = pre.any fun p => decide (p.id = x) && givesB p.kd
 | [], _, _ => rfl
 | a :: t, x, h => by
  rw [List.pairwise_cons] at h
  rw [kN_cons, List.any_cons]
  by_cases e : a.id = x
  ·rw [if_pos e]
   have : (t.any fun p => decide (p.id = x) && givesB p.kd) = false := by
    rw [List.any_eq_false]
    intro q hq
    have := h.1 q hq
    simp
    intro e2
    exact absurd (e.trans e2.symm) this
   rw [this]
   simp [e]
  ·rw [if_neg e, kN_any t x h.2]
   simp [e]
theorem any_born {pre : List De} {d : De} (hg : ∀ q ∈ pre, (1 ≤ q.kd ∧ q.kd ≤ 5) ∧ needB q = false) (hk : d.kd = 1) (hd : needB d = false) :
  (pre.any fun p => decide (p.kd = d.kd) && decide (p.th = d.th) && decide (p.fr = d.fr)) = bornB pre d.th := by
 unfold bornB
 rw [hk, need_fr hk hd]
 induction pre with
 | nil => rfl
 | cons a t ih =>
  rw [List.any_cons, List.any_cons, ih fun q hq => hg q (by simp [hq])]
  congr 1
  by_cases h : a.kd = 1
  ·rw [need_fr h (hg a (by simp)).2]; simp
  ·simp [h]
theorem any_gone {pre : List De} {d : De} (hg : ∀ q ∈ pre, (1 ≤ q.kd ∧ q.kd ≤ 5) ∧ needB q = false) (hk : d.kd = 5) (hd : needB d = false) :
  (pre.any fun p => decide (p.kd = d.kd) && decide (p.th = d.th) && decide (p.fr = d.fr)) = goneB pre d.fr := by
 unfold goneB
 rw [hk, need_th hk hd]
 induction pre with
 | nil => rfl
 | cons a t ih =>
  rw [List.any_cons, List.any_cons, ih fun q hq => hg q (by simp [hq])]
  congr 1
  by_cases h : a.kd = 5
  ·rw [need_th h (hg a (by simp)).2]; simp
  ·simp [h]
theorem progF_chkD {l : List Rg} {us : List ByteArray} {pre : List De} {d : De} (hg : Gd pre) : progF l us pre d = chkD l us pre d := by
 unfold progF chkD
 by_cases h1 : isNm d.id = false
 ·rw [if_pos h1, if_pos h1]
 rw [if_neg h1, if_neg h1]
 unfold prog1
 by_cases h2 : dayB d.day = false
 ·rw [if_pos h2, if_pos h2]
 rw [if_neg h2, if_neg h2]
 unfold prog2
 by_cases h3 : ordB pre d = false
 ·rw [if_pos h3, if_pos h3]
 rw [if_neg h3, if_neg h3]
 unfold prog3
 have e4 : (pre.any fun p => decide (p.id = d.id)) = pre.any (sameId d.id) := rfl
 rw [e4]
 by_cases h4 : pre.any (sameId d.id) = true
 ·rw [if_pos h4, if_pos h4]
 rw [if_neg h4, if_neg h4]
 unfold prog4
 by_cases h5 : d.kd < 1 ∨ 5 < d.kd
 ·rw [if_pos h5, if_pos h5]
 rw [if_neg h5, if_neg h5]
 unfold prog5
 by_cases h6 : needB d = true
 ·rw [if_pos h6, if_pos h6]
 rw [if_neg h6, if_neg h6]
 have hn : needB d = false := by simpa using h6
 have hk : d.kd = 1 ∨ d.kd = 2 ∨ d.kd = 3 ∨ d.kd = 4 ∨ d.kd = 5 := by omega
 unfold prog6 valF
 have tw0 : d.kd ≠ 1 → d.kd ≠ 5 → twB pre d = false := fun a b => by unfold twB; simp [a, b]
 rcases hk with hk | hk | hk | hk | hk
 ·have hgv : ¬ givesB d.kd = true := by rw [hk]; decide
  rw [if_neg hgv, if_neg (show ¬ d.kd = 4 by omega), if_neg hgv, if_neg (show ¬ d.kd = 4 by omega)]
  have ht : twB pre d = bornB pre d.th := by unfold twB; rw [hk]; simp
  unfold divV divF
  rw [ht, any_born hg.1 hk hn]
  unfold shFull
  have hk5 : ¬ d.kd = 5 := by omega
  by_cases q1 : (d.kd = 1 ∧ isNm d.th = false) ∨ (d.kd = 5 ∧ isNm d.fr = false)
  ·simp [q1]
  ·rw [if_neg q1, if_neg q1]
   by_cases q2 : dayB d.bg = false
   ·simp [q2]
   ·by_cases q3 : shF d.kd d.sh = 0
    ·simp [q2, q3, hk5]
    ·simp [q2, q3]
 ·have hgv : givesB d.kd = true := by rw [hk]; decide
  rw [if_pos hgv, if_pos hgv, tw0 (by omega) (by omega), giftF_two]
  simp
  exact fun h => h.symm
 ·have hgv : givesB d.kd = true := by rw [hk]; decide
  rw [if_pos hgv, if_pos hgv, tw0 (by omega) (by omega), giftF_two]
  simp
  exact fun h => h.symm
 ·have hgv : ¬ givesB d.kd = true := by rw [hk]; decide
  rw [if_neg hgv, if_pos hk, if_neg hgv, if_pos hk, tw0 (by omega) (by omega)]
  have ha := kN_any pre d.ot hg.2
  unfold endV endF
  rw [← ha]
  have hb : endB pre d.ot = pre.any fun p => decide (p.kd = 4) && decide (p.ot = d.ot) := rfl
  rw [← hb]
  have hgk : (kN pre d.ot ≠ 2 ∧ kN pre d.ot ≠ 3) ↔ givesB (kN pre d.ot) = false := by unfold givesB; simp
  by_cases q2 : dayB d.bg = false
  ·simp [q2]
  ·by_cases q3 : givesB (kN pre d.ot) = false
   ·have := hgk.2 q3
    simp [q2, q3, this]
   ·have : ¬ (kN pre d.ot ≠ 2 ∧ kN pre d.ot ≠ 3) := fun h => q3 (hgk.1 h)
    rw [if_neg q2, if_neg q2, if_neg this, if_neg q3]
    cases endB pre d.ot <;> simp
 ·have hgv : ¬ givesB d.kd = true := by rw [hk]; decide
  rw [if_neg hgv, if_neg (show ¬ d.kd = 4 by omega), if_neg hgv, if_neg (show ¬ d.kd = 4 by omega)]
  have ht : twB pre d = goneB pre d.fr := by unfold twB; rw [hk]; simp
  unfold divV divF
  rw [ht, any_gone hg.1 hk hn]
  unfold shFull
  by_cases q1 : (d.kd = 1 ∧ isNm d.th = false) ∨ (d.kd = 5 ∧ isNm d.fr = false)
  ·simp [q1]
  ·rw [if_neg q1, if_neg q1]
   by_cases q2 : dayB d.bg = false
   ·simp [q2]
   ·by_cases q3 : shF d.kd d.sh = 0
    ·by_cases q4 : (d.sh.any fun s => decide (s.pt = d.fr)) = true
     ·have q3' : shF 5 d.sh = 0 := by rw [← hk]; exact q3
      rw [if_neg q2, if_neg q2]; simp only [q3', hk, q4]; simp
     ·have q3' : shF 5 d.sh = 0 := by rw [← hk]; exact q3
      rw [if_neg q2, if_neg q2]; simp only [q3', hk, q4]; simp
    ·simp [q2, q3]
theorem gd_take {rs : List Rg} {us : List ByteArray} {ds : List De} : ∀ (k : Nat), k ≤ ds.length → (∀ j, j < k → peFault rs us ds j = none) → Gd (ds.take k)
 | 0, _, _ => ⟨by simp, by simp⟩
 | k + 1, hk, hp => by
  have ih := gd_take k (by omega) fun j hj => hp j (by omega)
  have h1 := hp k (by omega)
  have hlt : k < ds.length := by omega
  have hgd : ds.getD k default = ds[k] := by simp [List.getD, hlt]
  unfold peFault at h1
  rw [hgd] at h1
  split at h1
  ·cases h1
  ·next h2 =>
   obtain ⟨a, b, c⟩ := progF_zero (Decidable.not_not.1 h2)
   rw [List.take_succ_eq_append_getElem hlt]
   refine ⟨fun q hq => ?_, ?_⟩
   ·rcases List.mem_append.1 hq with hq | hq
    ·exact ih.1 q hq
    ·rw [List.mem_singleton] at hq
     subst hq
     exact ⟨a, b⟩
   ·rw [List.pairwise_append]
    refine ⟨ih.2, by simp, fun x hx y hy => ?_⟩
    rw [List.mem_singleton] at hy
    subst hy
    rw [List.any_eq_false] at c
    have := c x hx
    simpa [sameId] using this
theorem pe_de {rs : List Rg} {us : List ByteArray} {ds : List De} : ∀ (n : Nat), n ≤ ds.length → (List.range n).findSome? (peFault rs us ds) = (List.range n).findSome? (deFault rs us ds)
 | 0, _ => rfl
 | n + 1, hn => by
  rw [List.range_succ, List.findSome?_append, List.findSome?_append, pe_de n (by omega)]
  cases h : (List.range n).findSome? (deFault rs us ds) with
  | some f => rfl
  | none =>
   have hp : ∀ j, j < n → peFault rs us ds j = none := fun j hj => by
    have h2 := pe_de (rs := rs) (us := us) (ds := ds) n (by omega)
    rw [h, List.findSome?_eq_none_iff] at h2
    exact h2 j (List.mem_range.2 hj)
   have hg := gd_take n (by omega) hp
   have e : peFault rs us ds n = deFault rs us ds n := by
    unfold peFault deFault
    rw [progF_chkD hg]
   simp [e]
theorem chkP_chkT (rs : List Rg) (us : List ByteArray) (ds : List De) : chkP rs us ds = chkT rs us ds := by
 unfold chkP chkT
 rw [pe_de ds.length (Nat.le_refl _)]
 rfl
theorem CheckT_c (RA : Option Addr) (rc : Nat) (rs : List Rg) (UA : Option Addr) (uc : Nat) (us : List ByteArray) (DA : Option Addr) (dc : Nat) (ds : List De) (w : World)
  (hr : Rgs w RA rs) (hu : Strs w UA us) (hd : Des w DA ds) (hz : ∀ i (h : i < rs.length), (rs[i]).nm.size ≤ 9223372036854775807) (hz2 : ∀ i (h : i < us.length), (us[i]).size ≤ 9223372036854775807) :
  Calls Tryz.prog 17 #[.agg (tiC RA rc rs UA uc us DA dc ds)] w (GivesB (.int .i64 (chkT rs us ds)) w) := by
 rw [← chkP_chkT]
 exact Check_c RA rc rs UA uc us DA dc ds w hr hu hd hz hz2
end Go.Proofs.YtlcfgejaeecclaaGreatDoor
namespace Go.Proofs.YtlcfgejaeecclaaGreatDoor
open Dw
def plainD (d : De) : De := { d with arA := none, arc := 0, usA := none, usc := 0, shA := none, shc := 0 }
theorem sameD_iff (d e : De) : SameD d e ↔ plainD d = plainD e := by
 cases d
 cases e
 simp only [SameD, plainD, De.mk.injEq]
 constructor
 ·rintro ⟨h1, h2, h3, h4, h5, h6, ⟨h7, h8⟩, h9, h10, h11, h12, h13, h14, h15, h16⟩
  simp_all
 ·intro h
  simp_all
theorem any_map_plain {f : De → Bool} (hf : ∀ d, f (plainD d) = f d) (l : List De) : (l.map plainD).any f = l.any f := by
 induction l with
 | nil => rfl
 | cons a t ih => rw [List.map_cons, List.any_cons, List.any_cons, ih, hf]
theorem ordB_plain (pre : List De) (d : De) : ordB (pre.map plainD) (plainD d) = ordB pre d := by
 unfold ordB
 rw [List.getLast?_map]
 cases pre.getLast? <;> rfl
theorem chkD_plain (rs : List Rg) (us : List ByteArray) (pre : List De) (d : De) : chkD rs us (pre.map plainD) (plainD d) = chkD rs us pre d := by
 have h1 : (pre.map plainD).any (fun p => decide (p.id = d.id)) = pre.any (fun p => decide (p.id = d.id)) := any_map_plain (fun _ => rfl) pre
 have h2 : (pre.map plainD).any (fun p => decide (p.id = d.ot) && givesB p.kd) = pre.any (fun p => decide (p.id = d.ot) && givesB p.kd) := any_map_plain (fun _ => rfl) pre
 have h3 : (pre.map plainD).any (fun p => decide (p.kd = 4) && decide (p.ot = d.ot)) = pre.any (fun p => decide (p.kd = 4) && decide (p.ot = d.ot)) := any_map_plain (fun _ => rfl) pre
 have h4 : (pre.map plainD).any (fun p => decide (p.kd = d.kd) && decide (p.th = d.th) && decide (p.fr = d.fr)) = pre.any (fun p => decide (p.kd = d.kd) && decide (p.th = d.th) && decide (p.fr = d.fr)) := any_map_plain (fun _ => rfl) pre
 have e1 : endF (pre.map plainD) (plainD d) = endF pre d := by
  unfold endF
  show (if dayB d.bg = false then (1 : Int) else if ((pre.map plainD).any fun p => decide (p.id = d.ot) && givesB p.kd) = false then 9 else if ((pre.map plainD).any fun p => decide (p.kd = 4) && decide (p.ot = d.ot)) = true then 7 else 0) = _
  rw [h2, h3]
 have e2 : divF (pre.map plainD) (plainD d) = divF pre d := by
  unfold divF
  show (if (d.kd = 1 ∧ isNm d.th = false) ∨ (d.kd = 5 ∧ isNm d.fr = false) then (5 : Int) else if dayB d.bg = false then 1 else if shF d.kd d.sh ≠ 0 then shF d.kd d.sh else if d.kd = 5 ∧ (d.sh.any fun s => decide (s.pt = d.fr)) = true then 12
   else if ((pre.map plainD).any fun p => decide (p.kd = d.kd) && decide (p.th = d.th) && decide (p.fr = d.fr)) = true then 7 else 0) = _
  rw [h4]
 unfold chkD
 rw [ordB_plain, e1, e2]
 show (if isNm d.id = false then (5 : Int) else if dayB d.day = false then 1 else if ordB pre d = false then 8 else if ((pre.map plainD).any fun p => decide (p.id = d.id)) = true then 7 else if d.kd < 1 ∨ 5 < d.kd then 4
  else if needB d = true then 3 else if givesB d.kd = true then giftF rs us d else if d.kd = 4 then endF pre d else divF pre d) = _
 rw [h1]
theorem findSome_congr {α : Type} {f g : Nat → Option α} : ∀ (l : List Nat), (∀ k ∈ l, f k = g k) → l.findSome? f = l.findSome? g
 | [], _ => rfl
 | a :: t, h => by
  rw [List.findSome?_cons, List.findSome?_cons, h a (by simp), findSome_congr t fun k hk => h k (by simp [hk])]
theorem chkT_plain (rs : List Rg) (us : List ByteArray) (ds : List De) : chkT rs us (ds.map plainD) = chkT rs us ds := by
 unfold chkT
 have e : (List.range (ds.map plainD).length).findSome? (deFault rs us (ds.map plainD)) = (List.range ds.length).findSome? (deFault rs us ds) := by
  rw [List.length_map]
  refine findSome_congr _ fun k hk => ?_
  have hk' := List.mem_range.1 hk
  unfold deFault
  have e1 : (ds.map plainD).getD k default = plainD (ds.getD k default) := by simp [List.getD, hk']
  rw [e1, ← List.map_take, chkD_plain]
 rw [e, List.length_map]
theorem deLt_total {a b : De} (hid : a.id ≠ b.id) (h : deLt b a = false) : deLt a b = true := by
 unfold deLt at *
 simp only [Bool.or_eq_false_iff, Bool.and_eq_false_iff, decide_eq_false_iff_not, Bool.or_eq_true, Bool.and_eq_true, decide_eq_true_eq] at *
 obtain ⟨h1, h2⟩ := h
 by_cases e : a.day = b.day
 ·right
  refine ⟨e, ?_⟩
  have h3 := h2.resolve_left (fun h => h e.symm)
  cases hs : slt a.id b.id with
  | true => rfl
  | false => exact absurd (slt_antisymm hs h3) hid
 ·left; omega
theorem deLt_asymm (a b : De) (h : deLt a b = true) : ¬ deLt b a = true := fun k => by
 have := deLt_trans h k
 rw [deLt_irrefl] at this; cases this
theorem strict_of {l : List De} (hn : l.Pairwise fun a b => a.id ≠ b.id) (hs : l.Pairwise fun a b => deLt b a = false) : l.Pairwise fun a b => deLt a b = true :=
 (hn.and hs).imp fun h => deLt_total h.1 h.2
theorem firsts_away {α κ : Type} [DecidableEq κ] {key : α → κ} : ∀ (l seen : List α), ∀ x ∈ firsts key seen l, ∀ s ∈ seen, key s ≠ key x
 | [], _, x, hx => by simp [firsts] at hx
 | a :: l, seen, x, hx => by
  unfold firsts at hx
  split at hx
  ·exact firsts_away l seen x hx
  ·next h =>
   rcases List.mem_cons.1 hx with rfl | hx
   ·intro s hs e
    exact h (by simp; exact ⟨s, hs, e⟩)
   ·exact fun s hs => firsts_away l (a :: seen) x hx s (List.mem_cons_of_mem _ hs)
theorem firsts_ids {α κ : Type} [DecidableEq κ] {key : α → κ} : ∀ (l seen : List α), (firsts key seen l).Pairwise fun a b => key a ≠ key b
 | [], _ => by simp [firsts]
 | a :: l, seen => by
  unfold firsts
  split
  ·exact firsts_ids l seen
  ·exact List.pairwise_cons.2 ⟨fun x hx => firsts_away l (a :: seen) x hx a (by simp), firsts_ids l (a :: seen)⟩
def Joined (a b S : List De) : Prop := S.Perm (firsts De.id [] (a ++ b)) ∧ S.Pairwise fun x y => deLt y x = false
theorem Joined.strict {a b S : List De} (h : Joined a b S) : S.Pairwise fun x y => deLt x y = true := by
 have hn : S.Pairwise fun x y => x.id ≠ y.id := (h.1.pairwise_iff (fun h e => h e.symm)).2 (firsts_ids (a ++ b) [])
 exact strict_of hn h.2
theorem inc_pair {l : List ByteArray} (h : ∀ i (h : i + 1 < l.length), slt l[i] l[i + 1] = true) : l.Pairwise fun a b => slt a b = true := by
 rw [List.pairwise_iff_getElem]
 intro i j hi hj hij
 obtain ⟨d, rfl⟩ : ∃ d, j = i + d + 1 := ⟨j - i - 1, by omega⟩
 induction d with
 | zero => exact h i hj
 | succ d ih => exact slt_trans (ih (by omega) (by omega)) (h (i + d + 1) hj)
theorem uses_len {us l : List ByteArray} (h : useF us l = 0) : l.length ≤ us.length := by
 unfold useF at h
 split at h
 ·next f hf =>
  exfalso
  obtain ⟨k, _, hk⟩ := List.exists_of_findSome?_eq_some hf
  unfold useFault at hk
  split at hk
  ·cases hk; cases h
  ·split at hk
   ·cases hk; cases h
   ·cases hk
 ·next hn =>
  rw [List.findSome?_eq_none_iff] at hn
  have hall : ∀ i (h : i < l.length), l[i] ∈ us ∧ (0 < i → sle l[i] (l[i - 1]'(by omega)) = false) := fun i hi => by
   have := hn i (by simpa using hi)
   have e1 : usAt l i = l[i] := by unfold usAt; rw [List.getD_eq_getElem?_getD, List.getElem?_eq_getElem hi]; rfl
   have e2 : usAt l (i - 1) = l[i - 1] := by unfold usAt; rw [List.getD_eq_getElem?_getD, List.getElem?_eq_getElem (by omega)]; rfl
   unfold useFault at this
   rw [e1, e2] at this
   split at this
   ·cases this
   ·next h1 =>
    split at this
    ·cases this
    ·next h2 =>
     refine ⟨memS_true.1 (by simpa using h1), fun hp => ?_⟩
     cases hs : sle l[i] l[i - 1] with
     | false => rfl
     | true => exact absurd ⟨hp, hs⟩ h2
  have hp : l.Pairwise fun a b => slt a b = true := inc_pair fun i hi => slt_of_not_sle ((hall (i + 1) hi).2 (by omega))
  have hnd : l.Nodup := hp.imp fun h => ne_of_slt h
  exact hnd.length_le_of_subset fun x hx => by
   obtain ⟨i, hi, rfl⟩ := List.getElem_of_mem hx
   exact (hall i hi).1
theorem chkA_len {rs : List Rg} {a : List Ar} (h : chkA rs a = 0) : a.length ≤ 100 := by
 unfold chkA at h
 split at h
 ·cases h
 ·omega
theorem shF_len {k : Int} {l : List Sh} (h : shF k l = 0) : l.length ≤ 20 := by
 unfold shF at h
 split at h
 ·cases h
 split at h
 ·cases h
 omega
theorem chkD_lens {rs : List Rg} {us : List ByteArray} {pre : List De} {d : De} (h : chkD rs us pre d = 0) (hu : us.length ≤ 20) : d.ar.length ≤ 100 ∧ d.us.length ≤ 20 ∧ d.sh.length ≤ 20 := by
 unfold chkD at h
 split at h
 ·cases h
 split at h
 ·cases h
 split at h
 ·cases h
 split at h
 ·cases h
 split at h
 ·cases h
 split at h
 ·cases h
 next hnd =>
 simp only [needB, Bool.not_eq_true, Bool.or_eq_false_iff, Bool.and_eq_false_iff] at hnd
 obtain ⟨⟨⟨⟨⟨_, _⟩, hau⟩, _⟩, hsh⟩, _⟩ := hnd
 split at h
 ·next hg =>
  unfold giftF at h
  split at h
  ·cases h
  split at h
  ·cases h
  split at h
  ·next h1 => exact absurd h h1
  split at h
  ·next h1 => exact absurd h h1
  next ha =>
  split at h
  ·cases h
  split at h
  ·next h1 => exact absurd h h1
  next hus =>
  have e1 := chkA_len (by simpa using ha)
  have e2 := uses_len (us := us) (l := d.us) (by simpa using hus)
  have e3 : d.sh = [] := by
   rcases hsh with hs | hs
   ·exfalso
    simp only [givesB, Bool.or_eq_true, decide_eq_true_eq] at hg
    simp at hs
    omega
   ·simpa using hs
  rw [e3]
  exact ⟨e1, by omega, by simp⟩
 ·next hg =>
  have e12 : d.ar = [] ∧ d.us = [] := by
   rcases hau with hs | hs
   ·simp at hs; exact absurd hs hg
   ·simpa using hs
  rw [e12.1, e12.2]
  refine ⟨by simp, by simp, ?_⟩
  split at h
  ·next h4 =>
   have e3 : d.sh = [] := by
    rcases hsh with hs | hs
    ·exfalso
     simp at hs
     omega
    ·simpa using hs
   rw [e3]; simp
  ·unfold divF at h
   split at h
   ·cases h
   split at h
   ·cases h
   split at h
   ·next h1 => exact absurd h h1
   next h1 => exact shF_len (by simpa using h1)
theorem chkT_deeds {rs : List Rg} {us : List ByteArray} {ds : List De} (h : chkT rs us ds = 0) : us.length ≤ 20 ∧ ∀ k (hk : k < ds.length), chkD rs us (ds.take k) ds[k] = 0 := by
 unfold chkT at h
 split at h
 ·next h1 => exact absurd h h1
 split at h
 ·cases h
 split at h
 ·cases h
 next h3 =>
 refine ⟨by omega, fun k hk => ?_⟩
 split at h
 ·next f hf =>
  exfalso
  obtain ⟨k, _, hk⟩ := List.exists_of_findSome?_eq_some hf
  unfold unFault at hk
  split at hk
  ·cases hk; cases h
  ·split at hk
   ·cases hk; cases h
   ·cases hk
 ·split at h
  ·cases h
  split at h
  ·next f hf =>
   exfalso
   obtain ⟨k, _, hk⟩ := List.exists_of_findSome?_eq_some hf
   unfold deFault at hk
   split at hk
   ·next hne => cases hk; exact hne h
   ·cases hk
  ·next hn =>
   rw [List.findSome?_eq_none_iff] at hn
   have := hn k (by simpa using hk)
   unfold deFault at this
   rw [List.getD_eq_getElem?_getD, List.getElem?_eq_getElem hk] at this
   split at this
   ·cases this
   ·next h0 => simpa using h0
theorem chkT_zero {rs : List Rg} {us : List ByteArray} {ds : List De} (h : chkT rs us ds = 0) : chkR rs = 0 ∧ us.length ≤ 20 ∧ ds.length ≤ 200 := by
 unfold chkT at h
 split at h
 ·next h1 => exact absurd h h1
 next h1 =>
 split at h
 ·cases h
 split at h
 ·cases h
 next h3 =>
 split at h
 ·next f hf =>
  exfalso
  obtain ⟨k, _, hk⟩ := List.exists_of_findSome?_eq_some hf
  unfold unFault at hk
  split at hk
  ·cases hk; cases h
  ·split at hk
   ·cases hk; cases h
   ·cases hk
 ·split at h
  ·cases h
  ·next h4 => exact ⟨by simpa using h1, by omega, by omega⟩
open Go Go.RowKit Dw
theorem firsts_new {α κ : Type} [DecidableEq κ] {key : α → κ} {a : α} : ∀ (l seen : List α), (∀ x ∈ seen ++ l, key x ≠ key a) → firsts key seen (l ++ [a]) = firsts key seen l ++ [a]
 | [], seen, h => by
  have hn : ¬ (seen.map key).contains (key a) = true := by
   simp only [List.contains_iff_mem, List.mem_map, not_exists, not_and]
   exact fun x hx => h x (by simpa using hx)
  simp only [List.nil_append, firsts, if_neg hn]
 | b :: l, seen, h => by
  rw [List.cons_append]
  simp only [firsts]
  split
  ·exact firsts_new l seen fun x hx => h x (by simp only [List.mem_append, List.mem_cons] at hx ⊢; rcases hx with hx | hx <;> simp [hx])
  ·rw [firsts_new l (b :: seen) fun x hx => h x (by simp only [List.mem_append, List.mem_cons] at hx ⊢; rcases hx with (hx | hx) | hx <;> simp [hx])]
   rfl
theorem firsts_old {α κ : Type} [DecidableEq κ] {key : α → κ} {a : α} : ∀ (l seen : List α), (∃ x ∈ seen ++ l, key x = key a) → firsts key seen (l ++ [a]) = firsts key seen l
 | [], seen, h => by
  have hn : (seen.map key).contains (key a) = true := by
   simp only [List.contains_iff_mem, List.mem_map]
   simpa using h
  simp only [List.nil_append, firsts, if_pos hn]
 | b :: l, seen, h => by
  obtain ⟨x, hx, hk⟩ := h
  rw [List.cons_append]
  simp only [firsts]
  split
  ·next hb =>
   refine firsts_old l seen ?_
   simp only [List.contains_iff_mem, List.mem_map] at hb
   obtain ⟨y, hy, hyk⟩ := hb
   simp only [List.mem_append, List.mem_cons] at hx
   rcases hx with hx | rfl | hx
   ·exact ⟨x, by simp [hx], hk⟩
   ·exact ⟨y, by simp [hy], hyk.trans hk⟩
   ·exact ⟨x, by simp [hx], hk⟩
  ·rw [firsts_old l (b :: seen) ⟨x, by simp only [List.mem_append, List.mem_cons] at hx ⊢; rcases hx with hx | hx | hx <;> simp [hx], hk⟩]
theorem keyOk_new {α κ : Type} {key : α → κ} [DecidableEq κ] {l : List α} {a : α} (h : KeyOk key l) (hn : ∀ x ∈ l, key x ≠ key a) : KeyOk key (l ++ [a]) := by
 intro x hx y hy e
 simp only [List.mem_append, List.mem_singleton] at hx hy
 rcases hx with hx | rfl <;> rcases hy with hy | rfl
 ·exact h x hx y hy e
 ·exact absurd e (hn x hx)
 ·exact absurd e.symm (hn y hy)
 ·rfl
theorem keyOk_old {α κ : Type} {key : α → κ} [DecidableEq κ] {l : List α} {a : α} (h : KeyOk key l) (hn : a ∈ l) : KeyOk key (l ++ [a]) := by
 intro x hx y hy e
 simp only [List.mem_append, List.mem_singleton] at hx hy
 have hx' : x ∈ l := hx.elim id fun e => e ▸ hn
 have hy' : y ∈ l := hy.elim id fun e => e ▸ hn
 exact h x hx' y hy' e
theorem find_id_none {l : List De} {x : ByteArray} (h : l.find? (sameId x) = none) : ∀ q ∈ l, q.id ≠ x := fun q hq e => by
 have := List.find?_eq_none.1 h q hq
 exact this (by simp [sameId, e])
theorem find_id_some {l : List De} {x : ByteArray} {o : De} (h : l.find? (sameId x) = some o) : o ∈ l ∧ o.id = x :=
 ⟨List.mem_of_find?_eq_some h, by simpa [sameId] using List.find?_some h⟩
theorem mp_new {l : List De} {d : De} {f : De → Value} (h : l.find? (sameId d.id) = none) : (fun x => if x = d.id then some (f d) else (l.find? (sameId x)).map f) = fun x => ((l ++ [d]).find? (sameId x)).map f := by
 funext x
 rw [List.find?_append]
 by_cases hx : x = d.id
 ·subst hx
  rw [if_pos rfl, h]
  simp [sameId]
 ·rw [if_neg hx]
  have : sameId x d = false := by simp [sameId]; exact fun e => hx e.symm
  simp [this]
theorem mp_old {l : List De} {d o : De} {f : De → Value} (h : l.find? (sameId d.id) = some o) : (fun x => (l.find? (sameId x)).map f) = fun x => ((l ++ [d]).find? (sameId x)).map f := by
 funext x
 rw [List.find?_append]
 by_cases hx : x = d.id
 ·subst hx
  rw [h]; rfl
 ·have : sameId x d = false := by simp [sameId]; exact fun e => hx e.symm
  simp [this]
theorem not_keyOk {l : List De} {o d : De} (ho : o ∈ l) (hd : d ∈ l) (hi : o.id = d.id) (h : ¬ SameD o d) : ¬ KeyOk De.id (l.map plainD) := fun k =>
 h ((sameD_iff o d).2 (k (plainD o) (List.mem_map_of_mem ho) (plainD d) (List.mem_map_of_mem hd) hi))
theorem chkT_lens {rs : List Rg} {us : List ByteArray} {ds : List De} (h : chkT rs us ds = 0) : ∀ d ∈ ds, d.ar.length ≤ 1000000000 ∧ d.us.length ≤ 1000000000 ∧ d.sh.length ≤ 1000000000 := fun d hd => by
 obtain ⟨k, hk, rfl⟩ := List.getElem_of_mem hd
 have := chkD_lens ((chkT_deeds h).2 k hk) (chkT_deeds h).1
 omega
def JoinBad (rs : List Rg) (us : List ByteArray) (ds : List De) (rs2 : List Rg) (us2 : List ByteArray) (ds2 : List De) (f : Int) : Prop :=
 (chkT rs us ds ≠ 0 ∧ f = chkT rs us ds) ∨ (chkT rs us ds = 0 ∧ chkT rs2 us2 ds2 ≠ 0 ∧ f = chkT rs2 us2 ds2) ∨
 (chkT rs us ds = 0 ∧ chkT rs2 us2 ds2 = 0 ∧ (rs ≠ rs2 ∨ us ≠ us2) ∧ f = 6) ∨
 (chkT rs us ds = 0 ∧ chkT rs2 us2 ds2 = 0 ∧ (rs = rs2 ∧ us = us2) ∧ ¬ KeyOk De.id (ds.map plainD ++ ds2.map plainD) ∧ f = 12) ∨
 (chkT rs us ds = 0 ∧ chkT rs2 us2 ds2 = 0 ∧ (rs = rs2 ∧ us = us2) ∧ KeyOk De.id (ds.map plainD ++ ds2.map plainD) ∧ ∃ S', Joined (ds.map plainD) (ds2.map plainD) S' ∧ chkT rs us S' ≠ 0 ∧ f = chkT rs us S')
theorem JoinBad.no {rs : List Rg} {us : List ByteArray} {ds : List De} {rs2 : List Rg} {us2 : List ByteArray} {ds2 : List De} {f : Int} (h : JoinBad rs us ds rs2 us2 ds2 f) :
  ¬ (chkT rs us ds = 0 ∧ chkT rs2 us2 ds2 = 0 ∧ rs = rs2 ∧ us = us2 ∧ KeyOk De.id (ds.map plainD ++ ds2.map plainD) ∧ ∀ S', Joined (ds.map plainD) (ds2.map plainD) S' → chkT rs us S' = 0) := fun k => by
 rcases h with h | h | h | h | ⟨_, _, _, _, S', h1, h2, _⟩
 ·exact h.1 k.1
 ·exact h.2.1 k.2.1
 ·exact h.2.2.1.elim (fun h => h k.2.2.1) (fun h => h k.2.2.2.1)
 ·exact h.2.2.2.1 k.2.2.2.2.1
 ·exact h2 (k.2.2.2.2.2 S' h1)
def JoinP (rs : List Rg) (us : List ByteArray) (ds : List De) (rs2 : List Rg) (us2 : List ByteArray) (ds2 : List De) (f : Int) (R : List Rg) (U : List ByteArray) (S : List De) : Prop :=
 (f ≠ 0 → R = [] ∧ U = [] ∧ S = [] ∧ JoinBad rs us ds rs2 us2 ds2 f) ∧
 (f = 0 → chkT rs us ds = 0 ∧ chkT rs2 us2 ds2 = 0 ∧ rs = rs2 ∧ us = us2 ∧ KeyOk De.id (ds.map plainD ++ ds2.map plainD) ∧ R = rs ∧ U = us ∧ Joined (ds.map plainD) (ds2.map plainD) (S.map plainD) ∧ chkT rs us S = 0)
def GivesJ (rs : List Rg) (us : List ByteArray) (ds : List De) (rs2 : List Rg) (us2 : List ByteArray) (ds2 : List De) (w : World) (e : Ending) (w' : World) : Prop :=
 ∃ RA rc R UA uc U DA dc S f, e = .returned (.tuple #[.agg (tiC RA rc R UA uc U DA dc S), .int .i64 f]) ∧ JoinP rs us ds rs2 us2 ds2 f R U S ∧ Rgs w' RA R ∧ Strs w' UA U ∧ Des w' DA S ∧ Below w.heap.size w w'
theorem GivesJ.bad {rs : List Rg} {us : List ByteArray} {ds : List De} {rs2 : List Rg} {us2 : List ByteArray} {ds2 : List De} {w w' : World} {f : Int} (hf : f ≠ 0)
  (h : JoinBad rs us ds rs2 us2 ds2 f) (hb : Below w.heap.size w w') :
  GivesJ rs us ds rs2 us2 ds2 w (.returned (.tuple #[.agg #[.slice none 0 0, .slice none 0 0, .slice none 0 0], .int .i64 f])) w' :=
 ⟨none, 0, [], none, 0, [], none, 0, [], f, rfl, ⟨fun _ => ⟨rfl, rfl, rfl, h⟩, fun e => absurd e hf⟩, Rd2.nil, Rd1.nil, fun h => absurd h (by simp), hb⟩
end Go.Proofs.YtlcfgejaeecclaaGreatDoor
