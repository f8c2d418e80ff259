/- slices.SortFunc over names with strings.Compare: by the contracts of the shelf. -/
import Derived.Test.YtnjepmbonhmdnaaDoorWhR
import Derived.Test.YtnjepmbonhmdnaaDoorSortPlain
import Derived.Shelf.GgSortFunc.Compose
namespace Go.Proofs.YtnjepmbonhmdnaaDoor
open Go.Shelf Go.RowKit Go.Lib Go.Sort Dw

def cfS (x y : ByteArray) : Int := Lib.compareBytes x.data.toList y.data.toList
theorem compare_less : ∀ (a b : List UInt8), decide (Lib.compareBytes a b < 0) = Op.bytesLess a b
  | [], [] => by simp [Lib.compareBytes, Op.bytesLess]
  | [], _ :: _ => by simp [Lib.compareBytes, Op.bytesLess]
  | _ :: _, [] => by simp [Lib.compareBytes, Op.bytesLess]
  | a :: x, b :: y => by
    have ih := compare_less x y
    rw [Lib.compareBytes, Op.bytesLess]
    by_cases h1 : a < b
    · simp [h1]
    · by_cases h2 : b < a
      · have h3 : ¬ a = b := fun e => by subst e; exact h1 h2
        simp [h1, h2, h3]
      · have h3 : a = b := UInt8.le_antisymm (UInt8.not_lt.1 h2) (UInt8.not_lt.1 h1)
        subst h3
        simp only [h1, if_false]
        rw [ih]
        simp
theorem lt_cfS (x y : ByteArray) : ltOf cfS x y = slt x y := by
  unfold ltOf cfS slt
  rw [compare_less, Dw.toList_eq, Dw.toList_eq]
theorem swoS : SWO (ltOf cfS) where
  irrefl x := by rw [lt_cfS]; exact slt_irrefl x
  trans x y z h1 h2 := by rw [lt_cfS] at *; exact slt_trans h1 h2
  ntrans x y z h1 h2 := by rw [lt_cfS] at *; exact sge_trans h2 h1
theorem totS (x y : ByteArray) (h1 : ltOf cfS x y = false) (h2 : ltOf cfS y x = false) : x = y := by
  rw [lt_cfS] at *; exact slt_antisymm h1 h2
theorem mergeS : (fun x y : ByteArray => !ltOf cfS y x) = fun x y => !slt y x := by
  funext x y; rw [lt_cfS]

theorem compare_c (x y : ByteArray) (w : World) : Calls Tryd.prog 50 #[.string x, .string y] w fun e w' => e = .returned (.int .i64 (cfS x y)) ∧ ∃ q, w' = w.drewN q := by
  have h := Any.strings_Compare Tryd.lays106 x y w
  change Calls Tryd.prog 50 _ _ _ at h
  exact h.mono fun _ _ ⟨he, hw⟩ => ⟨he, 0, hw⟩
theorem cmpReadsS (blk off size : Nat) (w : World) : CmpReads Tryd.prog 50 #[] Value.string cfS blk off size w := fun _ _ _ _ x y => compare_c x y _

theorem below_sortWorld {α : Type} [Inhabited α] (enc : α → Value) {w : World} {blk B : Nat} (off n : Nat) (d : Array α) (os : Array Obj) (hB : B ≤ blk) (hb : blk < w.heap.size) : Below B w (sortWorld enc w blk off n d os) := by
  have hp : Below B w (putRow enc (Sort.ahead w n) blk off d) :=
    ⟨rfl, rfl, rfl, by rw [size_putRow]; exact Nat.le_refl _, fun i hi => by
      show ((Sort.ahead w n).heap.modify blk _)[i]? = _
      rw [Array.getElem?_modify, if_neg (by omega)]
      rfl⟩
  refine ⟨hp.os, hp.tape, hp.output, ?_, fun i hi => ?_⟩
  · unfold sortWorld
    rw [size_grow]
    exact Nat.le_trans hp.size (Nat.le_add_right _ _)
  · unfold sortWorld
    rw [heap_grow_old _ _ (by have := hp.size; omega)]
    exact hp.block i hi

theorem sortStr_c (g cap : Nat) (L : List ByteArray) (base : Nat) (w : World) (hown : OwnL encS 1 w base 9 (.slice (some ⟨g, 0, none⟩) L.length cap) L) (hl : L.length ≤ 1000000) (h0 : 0 < L.length) :
    Calls Tryd.prog 49 #[.slice (some ⟨g, 0, none⟩) L.length cap, .func (.func 50) #[] #[]] w fun e w' => e = .returned (.tuple #[]) ∧ Strs w' (some ⟨g, 0, none⟩) (sortS L) ∧ Below base w w' := by
  have eg : ∀ args w, (callFunc 50 args).run Tryd.prog w = .ok (.enter 50 args) w := enters_of Tryd.func50 (by kernel_rfl) rfl
  obtain ⟨hbase, cs, hcs⟩ := own_row hown (g := g) rfl
  have hgl : g < w.heap.size := (Array.getElem?_eq_some_iff.1 hcs).1
  obtain ⟨A', c', he, hrd⟩ := hown.rd1
  injection he with hA _ _
  subst hA
  obtain ⟨b, o, e2, hc⟩ := hrd h0
  injection e2 with e2
  injection e2 with e3 e4 _
  subst e3
  subst e4
  have hH : Holds Value.string w g 0 L.toArray := fun j hj => by
    have hj' : j < L.length := by simpa using hj
    refine ⟨?_, frozen_of_row w g _ cs _ hcs⟩
    rw [hc j hj']
    simp [hj']
  have hS := Any.slices_SortFunc_total Tryd.sortS49 Value.string (fun _ => rfl) cfS swoS 50 #[] g 0 cap L.toArray w eg (cmpReadsS g 0 L.toArray.size w).lays hH hgl (by simp; omega) totS
  rw [mergeS] at hS
  change Calls Tryd.prog 49 _ _ _ at hS
  rw [List.size_toArray] at hS
  refine hS.mono fun e w' ⟨he, n, os, hw⟩ => ⟨he, ?_, ?_⟩
  · have hh := holds_sortWorld Value.string w g 0 n L.toArray (sortS L).toArray os hgl hH (by simp [sortS_len])
    have hw' : w' = sortWorld Value.string w g 0 n (sortS L).toArray os := hw
    rw [hw']
    refine fun hp => ⟨g, 0, rfl, fun i hi => ?_⟩
    have := (hh i (by simpa using hi)).1
    rw [this]
    simp [hi]
  · rw [hw]; exact below_sortWorld _ _ _ _ _ hbase hgl
end Go.Proofs.YtnjepmbonhmdnaaDoor
