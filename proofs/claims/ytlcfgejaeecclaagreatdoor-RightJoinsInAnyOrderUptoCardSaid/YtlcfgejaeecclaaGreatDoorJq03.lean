/- DERIVED: THE SHELF's CONTRACTS AT THIS DUMP, IN PLAIN WORDS (tools/lay-plain.mjs out of 'YtlcfgejaeecclaaGreatDoorTrimLay.lean', which tools/lay-shelf.mjs wrote): THE SAME DECLARATIONS UNDER THE SAME NAMES: 'import', 'namespace', 'open', 'def', 'theorem' AND NOTHING ELSE: no command of the shelf's: FOR A HAND-IN. Each laying: the table of numbers ('.._ren') and one theorem, a field a fact of the dump's own or the kernel's comparison; each contract: ONE APPLICATION. Walks over package right (places): the names. Words for maps: a map that reads as a function from keys to values. -/
import Derived.Test.YtlcfgejaeecclaaGreatDoorProg
import Derived.Ground.NamesProg
import Derived.Shelf.Small.Wraps
import Derived.Shelf.Small.Strs
import Derived.Shelf.Strings.SlTrimAscii
import Derived.Test.YtlcfgejaeecclaaGreatDoorJq02
import Derived.Test.YtlcfgejaeecclaaGreatDoorJq01
namespace Go.Proofs
open Go.Shelf
def Tryz.lays160_ren : Go.Shelf.Ren := ⟨fun | 160 => 107 | 232 => 134 | 231 => 133 | 227 => 135 | 234 => 137 | 233 => 136 | 236 => 139 | 235 => 138 | 228 => 171 | 271 => 174 | 151 => 173 | 197 => 172 | 120 => 193 | 152 => 192 | 260 => 191 | 137 => 208 | 119 => 209 | 224 => 210 | 225 => 211 | 217 => 221 | 266 => 225 | n => n, fun | 9 => 9 | 4 => 4 | 3 => 3 | 5 => 5 | 117 => 200 | 116 => 199 | 0 => 0 | 124 => 203 | 21 => 21 | 105 => 230 | 46 => 123 | 119 => 258 | 139 => 261 | 138 => 260 | n => n, fun | 3 => 2 | 4 => 3 | n => n⟩
theorem Tryz.lays160 : Go.Proofs.Lays.n160 Tryz.prog Tryz.lays160_ren := {
  mixed := by kernel_rfl
  f119 := Tryz.func209.trans (congrArg some (by kernel_rfl))
  f120 := Tryz.func193.trans (congrArg some (by kernel_rfl))
  f137 := Tryz.func208.trans (congrArg some (by kernel_rfl))
  f151 := Tryz.func173.trans (congrArg some (by kernel_rfl))
  f152 := Tryz.func192.trans (congrArg some (by kernel_rfl))
  f160 := Tryz.func107.trans (congrArg some (by kernel_rfl))
  f197 := Tryz.func172.trans (congrArg some (by kernel_rfl))
  f217 := Tryz.func221.trans (congrArg some (by kernel_rfl))
  f224 := Tryz.func210.trans (congrArg some (by kernel_rfl))
  f225 := Tryz.func211.trans (congrArg some (by kernel_rfl))
  f227 := Tryz.func135.trans (congrArg some (by kernel_rfl))
  f228 := Tryz.func171.trans (congrArg some (by kernel_rfl))
  f231 := Tryz.func133.trans (congrArg some (by kernel_rfl))
  f232 := Tryz.func134.trans (congrArg some (by kernel_rfl))
  f233 := Tryz.func136.trans (congrArg some (by kernel_rfl))
  f234 := Tryz.func137.trans (congrArg some (by kernel_rfl))
  f235 := Tryz.func138.trans (congrArg some (by kernel_rfl))
  f236 := Tryz.func139.trans (congrArg some (by kernel_rfl))
  f260 := Tryz.func191.trans (congrArg some (by kernel_rfl))
  f266 := Tryz.func225.trans (congrArg some (by kernel_rfl))
  f271 := Tryz.func174.trans (congrArg some (by kernel_rfl))
  t0 := Tryz.underlying0
  a0 := Tryz.isAgg0
  z0 := Tryz.sizeOf0
  v0 := Tryz.zeroValue0
  t3 := Tryz.underlying3
  a3 := Tryz.isAgg3
  z3 := Tryz.sizeOf3
  v3 := Tryz.zeroValue3
  t4 := Tryz.underlying4
  a4 := Tryz.isAgg4
  z4 := Tryz.sizeOf4
  v4 := Tryz.zeroValue4
  t5 := Tryz.underlying5
  a5 := Tryz.isAgg5
  z5 := Tryz.sizeOf5
  v5 := Tryz.zeroValue5
  t9 := Tryz.underlying9
  a9 := Tryz.isAgg9
  z9 := Tryz.sizeOf9
  v9 := Tryz.zeroValue9
  t21 := Tryz.underlying21
  a21 := Tryz.isAgg21
  z21 := Tryz.sizeOf21
  v21 := Tryz.zeroValue21
  t46 := Tryz.underlying123
  a46 := Tryz.isAgg123
  z46 := Tryz.sizeOf123
  v46 := Tryz.zeroValue123
  t105 := Tryz.underlying230
  a105 := Tryz.isAgg230
  z105 := Tryz.sizeOf230
  v105 := Tryz.zeroValue230
  t116 := Tryz.underlying199
  a116 := Tryz.isAgg199
  z116 := Tryz.sizeOf199
  t117 := Tryz.underlying200
  a117 := Tryz.isAgg200
  z117 := Tryz.sizeOf200
  v117 := Tryz.zeroValue200
  t119 := Tryz.underlying258
  a119 := Tryz.isAgg258
  z119 := Tryz.sizeOf258
  t124 := Tryz.underlying203
  a124 := Tryz.isAgg203
  z124 := Tryz.sizeOf203
  v124 := Tryz.zeroValue203
  t138 := Tryz.underlying260
  a138 := Tryz.isAgg260
  z138 := Tryz.sizeOf260
  v138 := Tryz.zeroValue260
  t139 := Tryz.underlying261
  a139 := Tryz.isAgg261
  z139 := Tryz.sizeOf261
  v139 := Tryz.zeroValue261
  g3 := by kernel_rfl
  g4 := by kernel_rfl }
def Tryz.lays103_ren : Go.Shelf.Ren := ⟨fun | 103 => 140 | 210 => 175 | 206 => 194 | n => n, fun | 9 => 9 | 4 => 4 | 24 => 204 | 3 => 3 | n => n, fun | n => n⟩
theorem Tryz.lays103 : Go.Proofs.Lays.n103 Tryz.prog Tryz.lays103_ren := {
  mixed := by kernel_rfl
  f103 := Tryz.func140.trans (congrArg some (by kernel_rfl))
  f206 := Tryz.func194.trans (congrArg some (by kernel_rfl))
  f210 := Tryz.func175.trans (congrArg some (by kernel_rfl))
  t3 := Tryz.underlying3
  a3 := Tryz.isAgg3
  z3 := Tryz.sizeOf3
  v3 := Tryz.zeroValue3
  t4 := Tryz.underlying4
  a4 := Tryz.isAgg4
  z4 := Tryz.sizeOf4
  v4 := Tryz.zeroValue4
  t9 := Tryz.underlying9
  a9 := Tryz.isAgg9
  z9 := Tryz.sizeOf9
  v9 := Tryz.zeroValue9
  t24 := Tryz.underlying204
  a24 := Tryz.isAgg204
  z24 := Tryz.sizeOf204
  v24 := Tryz.zeroValue204 }
def Tryz.lays106_ren : Go.Shelf.Ren := ⟨fun | 106 => 61 | 213 => 98 | 265 => 130 | n => n, fun | 9 => 9 | 3 => 3 | n => n, fun | n => n⟩
theorem Tryz.lays106 : Go.Proofs.Lays.n106 Tryz.prog Tryz.lays106_ren := {
  mixed := by kernel_rfl
  f106 := Tryz.func61.trans (congrArg some (by kernel_rfl))
  f213 := Tryz.func98.trans (congrArg some (by kernel_rfl))
  f265 := Tryz.func130.trans (congrArg some (by kernel_rfl))
  t3 := Tryz.underlying3
  a3 := Tryz.isAgg3
  z3 := Tryz.sizeOf3
  v3 := Tryz.zeroValue3
  t9 := Tryz.underlying9
  a9 := Tryz.isAgg9
  z9 := Tryz.sizeOf9
  v9 := Tryz.zeroValue9 }
end Go.Proofs

namespace Go.Proofs.YtlcfgejaeecclaaGreatDoor
open Go.RowKit Dw

def cutset : ByteArray := ⟨#[97, 98, 99, 100, 101, 102, 103, 104, 105, 106, 107, 108, 109, 110, 111, 112, 113, 114, 115, 116, 117, 118, 119, 120, 121, 122, 48, 49, 50, 51, 52, 53, 54, 55, 56, 57, 45]⟩
theorem cut_okB (c : UInt8) : cutset.data.toList.contains c = okB c := by
  have h : ∀ n : Nat, n < 256 → cutset.data.toList.contains (UInt8.ofNat n) = okB (UInt8.ofNat n) := by decide +kernel
  have := h c.toNat c.toNat_lt
  simpa using this
theorem dropWhile_mem {p : UInt8 → Bool} : ∀ {l : List UInt8} {b : UInt8}, b ∈ l → p b = false → b ∈ l.dropWhile p
  | [], _, h, _ => by simp at h
  | a :: t, b, h, hb => by
    rw [List.dropWhile_cons]
    cases ha : p a with
    | false => simpa using h
    | true =>
      simp only [if_true]
      rcases List.mem_cons.1 h with rfl | h
      · rw [ha] at hb; cases hb
      · exact dropWhile_mem h hb
theorem dropWhile_all {p : UInt8 → Bool} : ∀ {l : List UInt8}, l.all p = true → l.dropWhile p = []
  | [], _ => rfl
  | a :: t, h => by
    rw [List.all_cons, Bool.and_eq_true] at h
    rw [List.dropWhile_cons, h.1]
    simpa using dropWhile_all h.2
theorem trim_empty (l : List UInt8) : (Lib.trimS l cutset.data.toList).isEmpty = l.all okB := by
  have hp : (fun b => cutset.data.toList.contains b) = okB := funext cut_okB
  cases ha : l.all okB with
  | true =>
    have : Lib.trimS l cutset.data.toList = [] := by
      unfold Lib.trimS Lib.trimLeftS Lib.trimRightS
      rw [hp, dropWhile_all (l := l.reverse) (by rw [List.all_reverse]; exact ha)]
      rfl
    rw [this]; rfl
  | false =>
    obtain ⟨b, hb, hn⟩ := List.all_eq_false.1 ha
    have hn' : okB b = false := by simpa using hn
    have : b ∈ Lib.trimS l cutset.data.toList := by
      unfold Lib.trimS Lib.trimLeftS Lib.trimRightS
      rw [hp]
      exact dropWhile_mem (List.mem_reverse.2 (dropWhile_mem (List.mem_reverse.2 hb) hn')) hn'
    cases hs : Lib.trimS l cutset.data.toList with
    | nil => rw [hs] at this; simp at this
    | cons a t => rfl

theorem trimS_c (s : ByteArray) (w : World) (hs : s.size ≤ 9223372036854775807) :
    Calls Tryz.prog 107 #[.string s, .string cutset] w (GivesB (.string ⟨(Lib.trimS s.data.toList cutset.data.toList).toArray⟩) w) :=
  Any.strings_Trim_laid Tryz.lays160 (by kernel_rfl) s cutset w hs (by decide) (ascii_of_all (by decide +kernel))

set_option maxHeartbeats 800000 in
theorem soundIsName_c (s : ByteArray) (w : World) (hs : s.size ≤ 9223372036854775807) :
    Calls Tryz.prog 79 #[.string s] w (GivesB (.bool (isNm s)) w) := by
  generalize hres : isNm s = res
  have HR := Lib.hid hres
  clear hres
  by_cases h1 : 1 ≤ s.size
  · by_cases h2 : s.size ≤ 40
    · by_cases h3 : 97 ≤ (s[0]'h1).toNat
      · by_cases h4 : (s[0]'h1).toNat ≤ 122
        · have hall : (⟨(Lib.trimS s.data.toList cutset.data.toList).toArray⟩ : ByteArray).toList.isEmpty = res := by
            rw [← HR.out, isNm_all h1 h2 h3 h4, ByteArray.toList_mk, trim_empty]
          have hcon := trimS_c s w hs
          generalize (⟨(Lib.trimS s.data.toList cutset.data.toList).toArray⟩ : ByteArray) = r at hall hcon
          have HC := Lib.hid hcon
          have HA := Lib.hid hall
          clear hcon hall
          go_enter Tryz.func79, Tryz.ntmps79
          go_wp2_with fail
          refine HC.out.mono ?_
          rintro e w' ⟨rfl, hB⟩
          go_wp2
          go_ret
          exact GivesB.mk (vbool HA.out) hB
        · have hres : res = false := by
            rw [← HR.out]
            unfold isNm
            rw [headD_get s h1]
            simp [h4]
          have HS := Lib.hid hres
          clear hres
          go_enter Tryz.func79, Tryz.ntmps79
          go_wp2_with fail
          go_ret
          exact GivesB.mk (vbool HS.out.symm) (Below.refl _ _)
      · have hres : res = false := by
          rw [← HR.out]
          unfold isNm
          rw [headD_get s h1]
          simp [h3]
        have HS := Lib.hid hres
        clear hres
        go_enter Tryz.func79, Tryz.ntmps79
        go_wp2_with fail
        go_ret
        exact GivesB.mk (vbool HS.out.symm) (Below.refl _ _)
    · have hres : res = false := by
        rw [← HR.out]
        unfold isNm
        simp [h2]
      have HS := Lib.hid hres
      clear hres
      go_enter Tryz.func79, Tryz.ntmps79
      go_wp2_with fail
      go_ret
      exact GivesB.mk (vbool HS.out.symm) (Below.refl _ _)
  · have hres : res = false := by
      rw [← HR.out]
      unfold isNm
      simp [h1]
    have HS := Lib.hid hres
    clear hres
    go_enter Tryz.func79, Tryz.ntmps79
    go_wp2_with fail
    go_ret
    exact GivesB.mk (vbool HS.out.symm) (Below.refl _ _)

theorem isName_c (s : ByteArray) (w : World) (hs : s.size ≤ 9223372036854775807) :
    Calls Tryz.prog 47 #[.string s] w (GivesB (.bool (isNm s)) w) := by
  go_enter Tryz.func47, Tryz.ntmps47
  go_wp2_with fail
  refine (soundIsName_c s w hs).mono ?_
  rintro e w' ⟨rfl, hB⟩
  go_wp2
  go_ret
  exact GivesB.mk rfl hB
end Go.Proofs.YtlcfgejaeecclaaGreatDoor

namespace Dw
open Go Go.RowKit

/-- What is asked of a key's type: keys are made by mk and are told apart by looking. -/
structure KeyT (P : Program) (K : TypeId) {κ : Type} [DecidableEq κ] (mk : κ → Value) : Prop where
  same : ∃ d, P.underlying K = some d ∧ ∀ a b, Instr.sameNow d (mk a) (mk b) = some (decide (a = b))
  bits : ∀ a, Instr.sameBits 10000 (mk a) (mk a) = true
  chk : ∀ (b : Bool) (a : κ) (w : World), (Instr.checkKey b 10000 K (mk a)).run P w = .ok () w

def lookE {κ : Type} [DecidableEq κ] (es : List (κ × Value)) (k : κ) : Option Value := (es.find? fun e => decide (k = e.1)).map (·.2)

/-- Block r is a map that reads as f. -/
def MapIs {κ : Type} [DecidableEq κ] (mk : κ → Value) (w : World) (r : Nat) (f : κ → Option Value) : Prop :=
  ∃ (es : Array MapEntry) (clk : Nat) (L : List (κ × Value)), w.heap[r]? = some (.map es clk) ∧ es.toList.map (fun e => (e.key, e.val)) = L.map (fun p => (mk p.1, p.2)) ∧ ∀ k, lookE L k = f k

section
variable {κ : Type} [DecidableEq κ] {mk : κ → Value} {w w' : World} {r : Nat} {f : κ → Option Value}
theorem MapIs.lt (h : MapIs mk w r f) : r < w.heap.size := by
  obtain ⟨es, clk, L, hr, _⟩ := h
  exact (Array.getElem?_eq_some_iff.1 hr).1
theorem MapIs.keep (h : MapIs mk w r f) (hk : w'.heap[r]? = w.heap[r]?) : MapIs mk w' r f := by
  obtain ⟨es, clk, L, hr, rest⟩ := h
  exact ⟨es, clk, L, hk.trans hr, rest⟩
theorem MapIs.below (h : MapIs mk w r f) (hb : Below w.heap.size w w') : MapIs mk w' r f := h.keep (hb.block r h.lt)
theorem MapIs.alloc (h : MapIs mk w r f) (o : Obj) : MapIs mk (w.alloc o) r f := h.keep (Below.heap_alloc w o r h.lt)
theorem MapIs.drewN (h : MapIs mk w r f) (n : Nat) : MapIs mk (w.drewN n) r f := h
theorem MapIs.drew (h : MapIs mk w r f) : MapIs mk w.drew r f := h
theorem MapIs.new (mk : κ → Value) (w : World) : MapIs mk (w.alloc (.map #[] 0)) w.heap.size (fun _ => none) :=
  ⟨#[], 0, [], heap_alloc_new w _, rfl, fun _ => rfl⟩
theorem MapIs.setCell (h : MapIs mk w r f) {a : Addr} (ha : r ≠ a.block) (u : Value) : MapIs mk (w.setCell a u) r f := h.keep (heap_setCell_other w a r u ha)
end

theorem findNow_go {κ : Type} [DecidableEq κ] {mk : κ → Value} {d : TypeDesc} (hs : ∀ a b, Instr.sameNow d (mk a) (mk b) = some (decide (a = b))) (k : κ) :
    ∀ (es : List MapEntry) (L : List (κ × Value)) (i : Nat), es.map (fun e => (e.key, e.val)) = L.map (fun p => (mk p.1, p.2)) →
      ∃ o, Instr.findNow d (mk k) es i = some o ∧ o.map (·.2) = lookE L k ∧
        (∀ j v, o = some (j, v) → i ≤ j ∧ j - i < L.length ∧ (L[j - i]?).map (·.1) = some k ∧ ∀ t, t < j - i → (L[t]?).map (·.1) ≠ some k) := by
  intro es
  induction es with
  | nil =>
    intro L i h
    cases L with
    | nil => exact ⟨none, rfl, rfl, fun j v h => by cases h⟩
    | cons a t => simp at h
  | cons e es ih =>
    intro L i h
    cases L with
    | nil => simp at h
    | cons a t =>
      simp only [List.map_cons, List.cons.injEq, Prod.mk.injEq] at h
      obtain ⟨⟨hk, hv⟩, ht⟩ := h
      unfold Instr.findNow
      rw [hk, hs]
      by_cases he : k = a.1
      · refine ⟨some (i, e.val), by simp [he], ?_, ?_⟩
        · simp [lookE, he, hv]
        · intro j v hj
          simp only [Option.some.injEq, Prod.mk.injEq] at hj
          obtain ⟨rfl, rfl⟩ := hj
          simp [he]
      · obtain ⟨o, h1, h2, h3⟩ := ih t (i + 1) ht
        refine ⟨o, by simpa [he] using h1, ?_, ?_⟩
        · rw [h2]; simp [lookE, he]
        · intro j v hj
          obtain ⟨h4, h5, h6, h7⟩ := h3 j v hj
          have e1 : j - i = (j - (i + 1)) + 1 := by omega
          refine ⟨by omega, by simp; omega, by rw [e1]; simpa using h6, fun s hs => ?_⟩
          cases s with
          | zero => simp; exact fun hh => he hh.symm
          | succ s => simpa using h7 s (by omega)

section
variable {P : Program} {κ : Type} [DecidableEq κ] {mk : κ → Value} {T K E : TypeId}

theorem run_lookup_map (hT : P.underlying T = some (.map K E)) (hK : KeyT P K mk) {z : Value} (hz : ∀ w, (zeroValue E).run P w = .ok z w) {w : World} {r : Nat} {f : κ → Option Value} (h : MapIs mk w r f) (k : κ) (ok : Bool) :
    (Instr.lookup T (.map (some r)) (mk k) ok).run P w = .ok (if ok then .tuple #[(f k).getD z, .bool (f k).isSome] else (f k).getD z) w := by
  obtain ⟨es, clk, L, hr, hL, hf⟩ := h
  obtain ⟨d, hd, hs⟩ := hK.same
  obtain ⟨o, h1, h2, _⟩ := findNow_go hs k es.toList L 0 hL
  have hg : (getObj r).run P w = .ok (.map es clk) w := by simp [getObj, Sem.run, hr]
  have hfk : (Instr.findKey K (mk k) es.toList).run P w = .ok o w := by
    simp [Instr.findKey, run_underlying hd, h1]
  rw [hf] at h2
  cases o with
  | none =>
    have : f k = none := by simpa using h2.symm
    simp [Instr.lookup, run_underlying hT, hg, hK.chk, hfk, hz, this]
  | some p =>
    obtain ⟨i, v⟩ := p
    have : f k = some v := by simpa using h2.symm
    simp [Instr.lookup, run_underlying hT, hg, hK.chk, hfk, this]

theorem chk_string (hK : P.underlying K = some .string) (b : Bool) (a : ByteArray) (w : World) (n : Nat) : (Instr.checkKey b (n + 1) K (.string a)).run P w = .ok () w := by
  simp [Instr.checkKey, run_underlying hK]
theorem chk_int (hK : P.underlying K = some (.int .i64)) (b : Bool) (a : Int) (w : World) (n : Nat) : (Instr.checkKey b (n + 1) K (.int .i64 a)).run P w = .ok () w := by
  simp [Instr.checkKey, run_underlying hK]
theorem keyT_string (hK : P.underlying K = some .string) : KeyT P K Value.string where
  same := ⟨_, hK, fun a b => by
    simp only [Instr.sameNow, Option.some.injEq]
    rw [beq_toListBytes, Bool.eq_iff_iff]
    constructor
    · intro h
      have h' : a.toList = b.toList := by simpa using h
      rw [ByteArray.toList_eq, ByteArray.toList_eq] at h'
      simpa using ByteArray.ext (Array.toList_inj.1 h')
    · intro h
      have : a = b := by simpa using h
      subst this; simp⟩
  bits a := by
    simp only [Instr.sameBits]
    rw [beq_toListBytes]; simp
  chk b a w := chk_string hK b a w 9999
theorem keyT_int (hK : P.underlying K = some (.int .i64)) : KeyT P K (fun n : Int => Value.int .i64 n) where
  same := ⟨_, hK, fun a b => by simp only [Instr.sameNow, if_true, Option.some.injEq]; rfl⟩
  bits a := by simp [Instr.sameBits]
  chk b a w := chk_int hK b a w 9999

theorem lookE_set {L : List (κ × Value)} {j : Nat} {k : κ} {v : Value} (hj : j < L.length) (hk : (L[j]?).map (·.1) = some k) (hmin : ∀ t, t < j → (L[t]?).map (·.1) ≠ some k) :
    ∀ k', lookE (L.modify j fun _ => (k, v)) k' = if k' = k then some v else lookE L k' := by
  induction L generalizing j with
  | nil => simp at hj
  | cons a t ih =>
    intro k'
    cases j with
    | zero =>
      have ha : a.1 = k := by simpa using hk
      by_cases h : k' = k
      · subst h; simp [lookE]
      · simp [lookE, h, ha]
    | succ j =>
      have ha : a.1 ≠ k := by
        have := hmin 0 (by omega)
        simpa using this
      have := ih (j := j) (by simpa using hj) (by simpa using hk) (fun s hs => by simpa using hmin (s + 1) (by omega)) k'
      by_cases h : k' = a.1
      · subst h; simp [lookE, ha]
      · simp only [List.modify_succ_cons]
        unfold lookE at this ⊢
        rw [List.find?_cons_of_neg (by simpa using h), List.find?_cons_of_neg (by simpa using h)]
        exact this
theorem lookE_push {L : List (κ × Value)} {k : κ} {v : Value} (h : lookE L k = none) : ∀ k', lookE (L ++ [(k, v)]) k' = if k' = k then some v else lookE L k' := by
  intro k'
  unfold lookE at *
  rw [List.find?_append]
  by_cases hk : k' = k
  · subst hk
    have : L.find? (fun e => decide (k' = e.1)) = none := by simpa using h
    simp [this]
  · simp only [List.find?_cons, hk, decide_false, List.find?_nil, if_false]
    cases L.find? (fun e => decide (k' = e.1)) <;> rfl

theorem run_update_map (hT : P.underlying T = some (.map K E)) (hK : KeyT P K mk) {w : World} {r : Nat} {f : κ → Option Value} (h : MapIs mk w r f) (k : κ) (v : Value) :
    ∃ w', (Instr.mapUpdate T (.map (some r)) (mk k) v).run P w = .ok () w' ∧ MapIs mk w' r (fun k' => if k' = k then some v else f k') ∧ w.grownBy w' (some r) ∧ w'.heap.size = w.heap.size := by
  obtain ⟨es, clk, L, hr, hL, hf⟩ := h
  have hrl : r < w.heap.size := (Array.getElem?_eq_some_iff.1 hr).1
  obtain ⟨d, hd, hs⟩ := hK.same
  obtain ⟨o, h1, h2, h3⟩ := findNow_go hs k es.toList L 0 hL
  have hg : (getObj r).run P w = .ok (.map es clk) w := by simp [getObj, Sem.run, hr]
  have hset : ∀ (es' : Array MapEntry) (c' : Nat), (setObj r (.map es' c')).run P w = .ok () { w with heap := w.heap.setIfInBounds r (.map es' c') } := fun es' c' => by simp [setObj, Sem.run, hr]
  have hfk : (Instr.findKey K (mk k) es.toList).run P w = .ok o w := by
    simp [Instr.findKey, run_underlying hd, h1]
  have hgrow : ∀ (es' : Array MapEntry) (c' : Nat), w.grownBy { w with heap := w.heap.setIfInBounds r (.map es' c') } (some r) := fun es' c' =>
    ⟨rfl, rfl, rfl, by simp, fun i hi hne => by simp only [Array.getElem?_setIfInBounds]; rw [if_neg (fun e => hne (by rw [e]))]⟩
  have hget : ∀ (es' : Array MapEntry) (c' : Nat), ({ w with heap := w.heap.setIfInBounds r (.map es' c') } : World).heap[r]? = some (.map es' c') := fun es' c' => by
    simp [hrl]
  rw [hf] at h2
  have hlen : es.size = L.length := by have := congrArg List.length hL; simpa using this
  cases o with
  | none =>
    have hn : f k = none := by simpa using h2.symm
    refine ⟨_, ?_, ⟨_, _, L ++ [(k, v)], hget (es.push { key := mk k, val := v, born := clk }) (clk + 1), ?_, ?_⟩, hgrow _ _, by simp⟩
    · simp [Instr.mapUpdate, run_underlying hT, hg, hK.chk, hfk, hset]
    · simp [hL]
    · intro k'
      rw [lookE_push (by rw [hf]; exact hn), hf]
  | some p =>
    obtain ⟨i, v0⟩ := p
    obtain ⟨_, h5, h6, h7⟩ := h3 i v0 rfl
    simp only [Nat.sub_zero] at h5 h6 h7
    have hi : i < es.size := by omega
    have hkey : es[i].key = mk k := by
      have e1 : (es.toList.map fun e => (e.key, e.val))[i]? = (L.map fun p => (mk p.1, p.2))[i]? := by rw [hL]
      rw [List.getElem?_map, List.getElem?_map, List.getElem?_eq_getElem h5, List.getElem?_eq_getElem (by simpa using hi)] at e1
      rw [List.getElem?_eq_getElem h5] at h6
      simp only [Option.map_some, Option.some.injEq, Prod.mk.injEq] at e1 h6
      rw [← h6]; simpa using e1.1
    have hstay : ∀ x, (Instr.keyThatStays (mk k) (mk k)).run P x = .ok (mk k) x := fun x => by
      simp [Instr.keyThatStays, hK.bits]
    refine ⟨_, ?_, ⟨_, _, L.modify i fun _ => (k, v), hget (es.modify i fun e => { e with key := mk k, val := v }) clk, ?_, ?_⟩, hgrow _ _, by simp⟩
    · simp [Instr.mapUpdate, run_underlying hT, hg, hK.chk, hfk, hi, hkey, hstay, hset]
    · apply List.ext_getElem?
      intro n
      have e1 : (es.toList.map fun e => (e.key, e.val))[n]? = (L.map fun p => (mk p.1, p.2))[n]? := by rw [hL]
      rw [List.getElem?_map, List.getElem?_map] at e1
      rw [List.getElem?_map, List.getElem?_map, List.getElem?_modify, Array.toList_modify, List.getElem?_modify]
      by_cases hn : i = n
      · subst hn
        rw [List.getElem?_eq_getElem h5, List.getElem?_eq_getElem (by simpa using hi)]
        simp
      · simp only [hn, if_false]
        cases hx : es.toList[n]? <;> cases hy : L[n]? <;> simp_all
    · intro k'
      rw [lookE_set h5 h6 h7, hf]
end
end Dw
