/- Parts of the proof, joined: DERIVED: THE SHELF's CONTRACTS AT THIS DUMP, IN PLAIN WORDS (tools/lay. -/
import Derived.Shelf.Strings.Builder1
import Derived.Shelf.Strings.OnBuilder
import Derived.Shelf.Strings.BuilderF
import Derived.Shelf.Strings.BuilderK
import Derived.Shelf.LaysM
import Derived.Shelf.Strconv.Itoa3
import Derived.Lib.ItoaNum
import Derived.Lib.Join
import Derived.Laws.IdiomStrings
import Derived.Lib.QuietBelow
import Derived.Test.YtlcfgejaeecclaaGreatDoorZq20
set_option maxRecDepth 100000
set_option maxHeartbeats 8000000
namespace Go.Proofs
open Go.Shelf
def Tryz.lays170_ren : Go.Shelf.Ren := ⟨fun | 170 => 43 | n => n, fun | 70 => 94 | 3 => 3 | 0 => 0 | 72 => 97 | 37 => 95 | 5 => 5 | n => n, fun | n => n⟩
theorem Tryz.lays170 : Go.Proofs.Lays.n170 Tryz.prog Tryz.lays170_ren := {
 mixed := by kernel_rfl
 f170 := Tryz.func43.trans (congrArg some (by kernel_rfl))
 t0 := Tryz.underlying0
 a0 := Tryz.isAgg0
 z0 := Tryz.sizeOf0
 v0 := Tryz.zeroValue0
 t3 := Tryz.underlying3
 a3 := Tryz.isAgg3
 z3 := Tryz.sizeOf3
 v3 := Tryz.zeroValue3
 t37 := Tryz.underlying95
 a37 := Tryz.isAgg95
 z37 := Tryz.sizeOf95
 v37 := Tryz.zeroValue95
 t70 := Tryz.underlying94
 a70 := Tryz.isAgg94
 z70 := Tryz.sizeOf94
 v70 := Tryz.zeroValue94
 t72 := Tryz.underlying97
 a72 := Tryz.isAgg97
 z72 := Tryz.sizeOf97
 v72 := Tryz.zeroValue97 }
def Tryz.lays169_ren : Go.Shelf.Ren := ⟨fun | 169 => 44 | n => n, fun | 70 => 94 | 9 => 9 | 0 => 0 | 72 => 97 | 37 => 95 | 127 => 140 | 3 => 3 | 5 => 5 | n => n, fun | n => n⟩
theorem Tryz.lays169 : Go.Proofs.Lays.n169 Tryz.prog Tryz.lays169_ren := {
 mixed := by kernel_rfl
 f169 := Tryz.func44.trans (congrArg some (by kernel_rfl))
 t0 := Tryz.underlying0
 a0 := Tryz.isAgg0
 z0 := Tryz.sizeOf0
 v0 := Tryz.zeroValue0
 t3 := Tryz.underlying3
 a3 := Tryz.isAgg3
 z3 := Tryz.sizeOf3
 v3 := Tryz.zeroValue3
 t9 := Tryz.underlying9
 a9 := Tryz.isAgg9
 z9 := Tryz.sizeOf9
 v9 := Tryz.zeroValue9
 t37 := Tryz.underlying95
 a37 := Tryz.isAgg95
 z37 := Tryz.sizeOf95
 v37 := Tryz.zeroValue95
 t70 := Tryz.underlying94
 a70 := Tryz.isAgg94
 z70 := Tryz.sizeOf94
 v70 := Tryz.zeroValue94
 t72 := Tryz.underlying97
 a72 := Tryz.isAgg97
 z72 := Tryz.sizeOf97
 v72 := Tryz.zeroValue97
 t127 := Tryz.underlying140
 a127 := Tryz.isAgg140
 z127 := Tryz.sizeOf140
 v127 := Tryz.zeroValue140 }
theorem Tryz.Builder_Extra_169 : Builder.Extra Tryz.prog Tryz.lays169_ren := {
 sizeBuilder := by kernel_rfl
 liesBuilder := by kernel_rfl
 t5 := Tryz.underlying5
 a5 := Tryz.isAgg5
 z5 := Tryz.sizeOf5
 v5 := Tryz.zeroValue5
 infoByte := by kernel_rfl
 cellsByte := by kernel_rfl
 sizeByte := by kernel_rfl
 neB5 := by decide }
def Tryz.lays156_ren : Go.Shelf.Ren := ⟨fun | 156 => 74 | 165 => 105 | 166 => 41 | 169 => 44 | 240 => 72 | 241 => 131 | 276 => 104 | 277 => 166 | n => n, fun | 31 => 23 | 9 => 9 | 3 => 3 | 4 => 4 | 0 => 0 | 20 => 20 | 72 => 97 | 76 => 100 | 70 => 94 | 37 => 95 | 75 => 99 | 127 => 140 | 164 => 165 | 5 => 5 | 80 => 104 | n => n, fun | n => n⟩
theorem Tryz.lays156 : Go.Proofs.Lays.n156 Tryz.prog Tryz.lays156_ren := {
 mixed := by kernel_rfl
 f156 := Tryz.func74.trans (congrArg some (by kernel_rfl))
 f165 := Tryz.func105.trans (congrArg some (by kernel_rfl))
 f166 := Tryz.func41.trans (congrArg some (by kernel_rfl))
 f169 := Tryz.func44.trans (congrArg some (by kernel_rfl))
 f240 := Tryz.func72.trans (congrArg some (by kernel_rfl))
 f241 := Tryz.func131.trans (congrArg some (by kernel_rfl))
 f276 := Tryz.func104.trans (congrArg some (by kernel_rfl))
 f277 := Tryz.func166.trans (congrArg some (by kernel_rfl))
 t0 := Tryz.underlying0
 a0 := Tryz.isAgg0
 z0 := Tryz.sizeOf0
 v0 := Tryz.zeroValue0
 t3 := Tryz.underlying3
 a3 := Tryz.isAgg3
 z3 := Tryz.sizeOf3
 v3 := Tryz.zeroValue3
 t4 := Tryz.underlying4
 a4 := Tryz.isAgg4
 z4 := Tryz.sizeOf4
 v4 := Tryz.zeroValue4
 t9 := Tryz.underlying9
 a9 := Tryz.isAgg9
 z9 := Tryz.sizeOf9
 v9 := Tryz.zeroValue9
 t20 := Tryz.underlying20
 a20 := Tryz.isAgg20
 z20 := Tryz.sizeOf20
 v20 := Tryz.zeroValue20
 t31 := Tryz.underlying23
 a31 := Tryz.isAgg23
 z31 := Tryz.sizeOf23
 v31 := Tryz.zeroValue23
 t37 := Tryz.underlying95
 a37 := Tryz.isAgg95
 z37 := Tryz.sizeOf95
 v37 := Tryz.zeroValue95
 t70 := Tryz.underlying94
 a70 := Tryz.isAgg94
 z70 := Tryz.sizeOf94
 v70 := Tryz.zeroValue94
 t72 := Tryz.underlying97
 a72 := Tryz.isAgg97
 z72 := Tryz.sizeOf97
 v72 := Tryz.zeroValue97
 t75 := Tryz.underlying99
 a75 := Tryz.isAgg99
 z75 := Tryz.sizeOf99
 v75 := Tryz.zeroValue99
 t76 := Tryz.underlying100
 a76 := Tryz.isAgg100
 z76 := Tryz.sizeOf100
 v76 := Tryz.zeroValue100
 t127 := Tryz.underlying140
 a127 := Tryz.isAgg140
 z127 := Tryz.sizeOf140
 v127 := Tryz.zeroValue140
 t164 := Tryz.underlying165
 a164 := Tryz.isAgg165
 z164 := Tryz.sizeOf165
 v164 := Tryz.zeroValue165 }
theorem Tryz.Builder_Extra_156 : Builder.Extra Tryz.prog Tryz.lays156_ren := {
 sizeBuilder := by kernel_rfl
 liesBuilder := by kernel_rfl
 t5 := Tryz.underlying5
 a5 := Tryz.isAgg5
 z5 := Tryz.sizeOf5
 v5 := Tryz.zeroValue5
 infoByte := by kernel_rfl
 cellsByte := by kernel_rfl
 sizeByte := by kernel_rfl
 neB5 := by decide }
def Tryz.laysM171_ren : Go.Shelf.Ren := ⟨fun | 171 => 75 | 243 => 106 | 246 => 132 | 283 => 167 | 284 => 168 | 285 => 169 | 286 => 170 | 129 => 96 | 317 => 187 | 318 => 188 | 319 => 189 | 320 => 190 | 337 => 206 | 338 => 207 | n => n, fun | 3 => 3 | 9 => 9 | 2 => 2 | 4 => 4 | 171 => 225 | 0 => 0 | 53 => 158 | 37 => 95 | 5 => 5 | 173 => 227 | 212 => 244 | 51 => 156 | 20 => 20 | 213 => 245 | 46 => 123 | 232 => 273 | 233 => 274 | n => n, fun | 17 => 1 | 18 => 4 | 19 => 5 | n => n⟩
theorem Tryz.laysM171 : Go.Proofs.LaysM.n171 Tryz.prog Tryz.laysM171_ren := {
 mixed := by kernel_rfl
 f129 := Tryz.func96.trans (congrArg some (by kernel_rfl))
 f171 := Tryz.func75.trans (congrArg some (by kernel_rfl))
 f243 := Tryz.func106.trans (congrArg some (by kernel_rfl))
 f246 := Tryz.func132.trans (congrArg some (by kernel_rfl))
 f283 := Tryz.func167.trans (congrArg some (by kernel_rfl))
 f284 := Tryz.func168.trans (congrArg some (by kernel_rfl))
 f285 := Tryz.func169.trans (congrArg some (by kernel_rfl))
 f286 := Tryz.func170.trans (congrArg some (by kernel_rfl))
 f317 := Tryz.func187.trans (congrArg some (by kernel_rfl))
 f318 := Tryz.func188.trans (congrArg some (by kernel_rfl))
 f319 := Tryz.func189.trans (congrArg some (by kernel_rfl))
 f320 := Tryz.func190.trans (congrArg some (by kernel_rfl))
 f337 := Tryz.func206.trans (congrArg some (by kernel_rfl))
 f338 := Tryz.func207.trans (congrArg some (by kernel_rfl))
 t0 := Tryz.underlying0
 a0 := Tryz.isAgg0
 z0 := Tryz.sizeOf0
 v0 := Tryz.zeroValue0
 t2 := Tryz.underlying2
 a2 := Tryz.isAgg2
 z2 := Tryz.sizeOf2
 v2 := Tryz.zeroValue2
 t3 := Tryz.underlying3
 a3 := Tryz.isAgg3
 z3 := Tryz.sizeOf3
 v3 := Tryz.zeroValue3
 t4 := Tryz.underlying4
 a4 := Tryz.isAgg4
 z4 := Tryz.sizeOf4
 v4 := Tryz.zeroValue4
 t5 := Tryz.underlying5
 a5 := Tryz.isAgg5
 z5 := Tryz.sizeOf5
 v5 := Tryz.zeroValue5
 t9 := Tryz.underlying9
 a9 := Tryz.isAgg9
 z9 := Tryz.sizeOf9
 v9 := Tryz.zeroValue9
 t20 := Tryz.underlying20
 a20 := Tryz.isAgg20
 z20 := Tryz.sizeOf20
 v20 := Tryz.zeroValue20
 t37 := Tryz.underlying95
 a37 := Tryz.isAgg95
 z37 := Tryz.sizeOf95
 v37 := Tryz.zeroValue95
 t46 := Tryz.underlying123
 a46 := Tryz.isAgg123
 z46 := Tryz.sizeOf123
 v46 := Tryz.zeroValue123
 t51 := Tryz.underlying156
 a51 := Tryz.isAgg156
 z51 := Tryz.sizeOf156
 v51 := Tryz.zeroValue156
 t53 := Tryz.underlying158
 a53 := Tryz.isAgg158
 z53 := Tryz.sizeOf158
 v53 := Tryz.zeroValue158
 t171 := Tryz.underlying225
 a171 := Tryz.isAgg225
 z171 := Tryz.sizeOf225
 v171 := Tryz.zeroValue225
 t173 := Tryz.underlying227
 a173 := Tryz.isAgg227
 z173 := Tryz.sizeOf227
 v173 := Tryz.zeroValue227
 t212 := Tryz.underlying244
 a212 := Tryz.isAgg244
 z212 := Tryz.sizeOf244
 v212 := Tryz.zeroValue244
 t213 := Tryz.underlying245
 a213 := Tryz.isAgg245
 z213 := Tryz.sizeOf245
 t232 := Tryz.underlying273
 a232 := Tryz.isAgg273
 z232 := Tryz.sizeOf273
 v232 := Tryz.zeroValue273
 t233 := Tryz.underlying274
 a233 := Tryz.isAgg274
 z233 := Tryz.sizeOf274
 v233 := Tryz.zeroValue274
 g17 := by kernel_rfl
 g18 := by kernel_rfl
 g19 := by kernel_rfl
 i0 := by kernel_rfl
 i2 := by kernel_rfl
 i3 := by kernel_rfl
 i4 := by kernel_rfl
 i5 := by kernel_rfl
 i9 := by kernel_rfl
 i20 := by kernel_rfl
 i37 := by kernel_rfl
 i46 := by kernel_rfl
 i51 := by kernel_rfl
 i53 := by kernel_rfl
 i171 := by kernel_rfl
 i173 := by kernel_rfl
 i212 := by kernel_rfl
 i232 := by kernel_rfl
 i233 := by kernel_rfl
 m17 := by kernel_rfl
 m18 := by kernel_rfl
 m19 := by kernel_rfl }
def Tryz.lays171_ren : Go.Shelf.Ren := ⟨fun | 171 => 75 | 243 => 106 | 246 => 132 | 283 => 167 | 284 => 168 | 285 => 169 | 286 => 170 | 129 => 96 | 317 => 187 | 318 => 188 | 319 => 189 | 320 => 190 | 337 => 206 | 338 => 207 | n => n, fun | 3 => 3 | 9 => 9 | 2 => 2 | 4 => 4 | 171 => 225 | 0 => 0 | 53 => 158 | 37 => 95 | 5 => 5 | 173 => 227 | 212 => 244 | 51 => 156 | 20 => 20 | 213 => 245 | 46 => 123 | 232 => 273 | 233 => 274 | n => n, fun | 17 => 1 | 18 => 4 | 19 => 5 | n => n⟩
theorem Tryz.lays171 : Go.Proofs.Lays.n171 Tryz.prog Tryz.lays171_ren := {
 mixed := by kernel_rfl
 f129 := Tryz.func96.trans (congrArg some (by kernel_rfl))
 f171 := Tryz.func75.trans (congrArg some (by kernel_rfl))
 f243 := Tryz.func106.trans (congrArg some (by kernel_rfl))
 f246 := Tryz.func132.trans (congrArg some (by kernel_rfl))
 f283 := Tryz.func167.trans (congrArg some (by kernel_rfl))
 f284 := Tryz.func168.trans (congrArg some (by kernel_rfl))
 f285 := Tryz.func169.trans (congrArg some (by kernel_rfl))
 f286 := Tryz.func170.trans (congrArg some (by kernel_rfl))
 f317 := Tryz.func187.trans (congrArg some (by kernel_rfl))
 f318 := Tryz.func188.trans (congrArg some (by kernel_rfl))
 f319 := Tryz.func189.trans (congrArg some (by kernel_rfl))
 f320 := Tryz.func190.trans (congrArg some (by kernel_rfl))
 f337 := Tryz.func206.trans (congrArg some (by kernel_rfl))
 f338 := Tryz.func207.trans (congrArg some (by kernel_rfl))
 t0 := Tryz.underlying0
 a0 := Tryz.isAgg0
 z0 := Tryz.sizeOf0
 v0 := Tryz.zeroValue0
 t2 := Tryz.underlying2
 a2 := Tryz.isAgg2
 z2 := Tryz.sizeOf2
 v2 := Tryz.zeroValue2
 t3 := Tryz.underlying3
 a3 := Tryz.isAgg3
 z3 := Tryz.sizeOf3
 v3 := Tryz.zeroValue3
 t4 := Tryz.underlying4
 a4 := Tryz.isAgg4
 z4 := Tryz.sizeOf4
 v4 := Tryz.zeroValue4
 t5 := Tryz.underlying5
 a5 := Tryz.isAgg5
 z5 := Tryz.sizeOf5
 v5 := Tryz.zeroValue5
 t9 := Tryz.underlying9
 a9 := Tryz.isAgg9
 z9 := Tryz.sizeOf9
 v9 := Tryz.zeroValue9
 t20 := Tryz.underlying20
 a20 := Tryz.isAgg20
 z20 := Tryz.sizeOf20
 v20 := Tryz.zeroValue20
 t37 := Tryz.underlying95
 a37 := Tryz.isAgg95
 z37 := Tryz.sizeOf95
 v37 := Tryz.zeroValue95
 t46 := Tryz.underlying123
 a46 := Tryz.isAgg123
 z46 := Tryz.sizeOf123
 v46 := Tryz.zeroValue123
 t51 := Tryz.underlying156
 a51 := Tryz.isAgg156
 z51 := Tryz.sizeOf156
 v51 := Tryz.zeroValue156
 t53 := Tryz.underlying158
 a53 := Tryz.isAgg158
 z53 := Tryz.sizeOf158
 v53 := Tryz.zeroValue158
 t171 := Tryz.underlying225
 a171 := Tryz.isAgg225
 z171 := Tryz.sizeOf225
 v171 := Tryz.zeroValue225
 t173 := Tryz.underlying227
 a173 := Tryz.isAgg227
 z173 := Tryz.sizeOf227
 v173 := Tryz.zeroValue227
 t212 := Tryz.underlying244
 a212 := Tryz.isAgg244
 z212 := Tryz.sizeOf244
 v212 := Tryz.zeroValue244
 t213 := Tryz.underlying245
 a213 := Tryz.isAgg245
 z213 := Tryz.sizeOf245
 t232 := Tryz.underlying273
 a232 := Tryz.isAgg273
 z232 := Tryz.sizeOf273
 v232 := Tryz.zeroValue273
 t233 := Tryz.underlying274
 a233 := Tryz.isAgg274
 z233 := Tryz.sizeOf274
 v233 := Tryz.zeroValue274
 g17 := by kernel_rfl
 g18 := by kernel_rfl
 g19 := by kernel_rfl }
end Go.Proofs
namespace Go.Proofs.YtlcfgejaeecclaaGreatDoor
open Go.RowKit Dw
def itoaB (n : Int) : ByteArray := ⟨(Lib.itoa n).toArray⟩
theorem dec_size (u : Nat) (k : Nat) (h : u < 10 ^ k) (h1 : 1 ≤ k) : (Lib.decDigits u).length ≤ k := by
 induction u using Nat.strongRecOn generalizing k with
 | _ u ih =>
  rw [Lib.decDigits]
  by_cases hu : u < 10
  ·rw [dif_pos hu]; simpa using h1
  ·rw [dif_neg hu, List.length_append]
   have hk : 2 ≤ k := by
    rcases Nat.lt_or_ge k 2 with h2 | h2
    ·have : k = 1 := by omega
     subst this
     omega
    ·exact h2
   have := ih (u / 10) (by omega) (k - 1) (by
    have e : 10 ^ k = 10 ^ (k - 1) * 10 := by rw [← Nat.pow_succ]; congr 1; omega
    rw [e] at h
    exact Nat.div_lt_of_lt_mul (by rwa [Nat.mul_comm])) (by omega)
   simp only [List.length_cons, List.length_nil]
   omega
theorem itoaB_size {n : Int} (h0 : 0 ≤ n) (h : n < 10000000000000000) : (itoaB n).size ≤ 16 := by
 unfold itoaB Lib.itoa
 rw [if_neg (by omega)]
 have := dec_size n.toNat 16 (by omega) (by omega)
 show (Lib.decDigits n.toNat).toArray.size ≤ 16
 simpa using this
theorem data_app (a b : ByteArray) : (a ++ b).data.toList = a.data.toList ++ b.data.toList := by simp [ByteArray.data_append]
theorem join_snoc (xs : List (List UInt8)) (x sep : List UInt8) (h : xs ≠ []) : Lib.join (xs ++ [x]) sep = Lib.join xs sep ++ (sep ++ x) := by
 cases xs with
 | nil => exact absurd rfl h
 | cons a r =>
  rw [List.cons_append, Lib.join_cons, Lib.join_cons]
  unfold Lib.joinTail
  simp
def POK (w : World) : Prop := Lib.TabIs Tryz.prog w "internal/strconv.uint64pow10" .u64 Lib.pow10Tab
theorem POK.below {w w' : World} (h : POK w) (hb : Below w.heap.size w w') : POK w' := by
 unfold POK Lib.TabIs World.var? at *
 have hg : Tryz.prog.globalNamed "internal/strconv.uint64pow10" = some 1 := by kernel_rfl
 rw [hg] at h ⊢
 simp only [Option.bind_some] at h ⊢
 have hlt : 1 < w.heap.size := by
  rcases Nat.lt_or_ge 1 w.heap.size with h1 | h1
  ·exact h1
  ·rw [Array.getElem?_eq_none h1] at h; cases h
 rw [hb.block _ hlt]
 exact h
theorem itoa_c (n : Int) (w : World) (h0 : -9223372036854775808 ≤ n) (h1 : n ≤ 9223372036854775807) (hP : POK w) : Calls Tryz.prog 75 #[.int .i64 n] w (GivesB (.string (itoaB n)) w) :=
 (Any.strconv_Itoa Tryz.laysM171 n h0 h1 w hP).mono fun _ _ ⟨he, k, os, hw⟩ => ⟨he, by rw [hw]; exact below_regrown w (w.drawn + k) os⟩
def Bld (B b : Nat) (l : List UInt8) (w : World) : Prop := Lib.IsBuilderF 97 5 B b (Lib.byteCells l) w
def GivesWr (B b : Nat) (l : List UInt8) (n : Nat) (w : World) (e : Ending) (w' : World) : Prop :=
 e = .returned (.tuple #[.int .i64 (n : Int), .nilIface]) ∧ Bld B b l w' ∧ Below B w w' ∧ Lib.OthersKept 5 (some b) w w'
theorem byteCells_app (l m : List UInt8) : Lib.byteCells (l ++ m) = Lib.byteCells l ++ Lib.byteCells m := by unfold Lib.byteCells; rw [List.map_append]
theorem write_c (B b : Nat) (l : List UInt8) (s : ByteArray) (w : World) (h : Bld B b l w) (hl : l.length + s.size ≤ 140737488355328) (hB : B ≤ w.heap.size) :
  Calls Tryz.prog 41 #[.pointer (some ⟨b, 0, none⟩), .string s] w (GivesWr B b (l ++ s.data.toList) s.size w) :=
 (Any.Builder_WriteString_k { Tryz.lays156 with } Tryz.Builder_Extra_156 B b (Lib.byteCells l) s w h (by rw [Lib.byteCells_length]; exact hl) hB).mono fun _ _ ⟨he, hb, hbl, hk⟩ => ⟨he, by
  show Lib.IsBuilderF _ _ _ _ _ _
  rw [byteCells_app]
  exact .inr hb, hbl, hk⟩
theorem bstr_c (B b : Nat) (l : List UInt8) (w : World) (h : Bld B b l w) (hB : B ≤ w.heap.size) :
  Calls Tryz.prog 44 #[.pointer (some ⟨b, 0, none⟩)] w fun e w' => e = .returned (.string ⟨l.toArray⟩) ∧ Below B w w' :=
 (Any.Builder_String_any_f Tryz.lays169 Tryz.Builder_Extra_169 B b l w h hB).mono fun _ _ ⟨he, _, hb⟩ => ⟨he, hb⟩
theorem blen_c (B b : Nat) (l : List UInt8) (w : World) (h : Bld B b l w) :
  Calls Tryz.prog 43 #[.pointer (some ⟨b, 0, none⟩)] w (Gives (.int .i64 (l.length : Int)) w) :=
 (Any.Builder_Len_f Tryz.lays170 B b (Lib.byteCells l) w h).mono fun _ _ ⟨he, hw⟩ => ⟨by rw [he, Lib.byteCells_length], hw.symm⟩
theorem join_c (A : Option Addr) (c : Nat) (xs : List ByteArray) (sep : ByteArray) (w : World) (h : Strs w A xs) (hc : xs.length ≤ c) (hN : xs.length ≤ 140737488355328)
  (hlen : (Lib.join (xs.map (·.data.toList)) sep.data.toList).length ≤ 140737488355328) :
  Calls Tryz.prog 74 #[.slice A xs.length c, .string sep] w (GivesB (.string ⟨(Lib.join (xs.map (·.data.toList)) sep.data.toList).toArray⟩) w) := by
 rcases Nat.eq_zero_or_pos xs.length with h0 | h0
 ·have hx : xs = [] := List.eq_nil_of_length_eq_zero h0
  subst hx
  exact (Any.strings_Join_none Tryz.lays156 Tryz.Builder_Extra_156 A c sep w).mono fun _ _ ⟨he, hw⟩ => ⟨he, hw ▸ Below.refl _ _⟩
 ·obtain ⟨b, o, rfl, hb, hcc⟩ := h.at_ h0
  exact Any.strings_Join Tryz.lays156 Tryz.Builder_Extra_156 b o c xs sep w (fun j x hj => by
   obtain ⟨hj', hx⟩ := List.getElem?_eq_some_iff.1 hj
   rw [← hx]
   exact hcc j hj') hb hN hc hlen
theorem size_of_toArray (l : List UInt8) : (⟨l.toArray⟩ : ByteArray).size = l.length := by
 show l.toArray.size = l.length
 simp
theorem tail_len (sep : List UInt8) : ∀ (r : List (List UInt8)) (m : Nat), (∀ x ∈ r, x.length ≤ m) → (Lib.joinTail sep r).length ≤ r.length * (sep.length + m)
 | [], _, _ => by simp [Lib.joinTail]
 | x :: r, m, h => by
  have h1 := tail_len sep r m (fun y hy => h y (List.mem_cons_of_mem _ hy))
  have h2 := h x (List.mem_cons_self ..)
  have e : (Lib.joinTail sep (x :: r)).length = sep.length + x.length + (Lib.joinTail sep r).length := by
   unfold Lib.joinTail; simp; omega
  rw [e, List.length_cons, Nat.succ_mul]
  omega
theorem join_len (sep : List UInt8) (xs : List (List UInt8)) (m : Nat) (h : ∀ x ∈ xs, x.length ≤ m) : (Lib.join xs sep).length ≤ xs.length * (sep.length + m) := by
 cases xs with
 | nil => simp [Lib.join_nil]
 | cons x r =>
  rw [Lib.join_cons, List.length_append, List.length_cons, Nat.succ_mul]
  have h1 := tail_len sep r m (fun y hy => h y (List.mem_cons_of_mem _ hy))
  have h2 := h x (List.mem_cons_self ..)
  omega
def joinB (xs : List ByteArray) (sep : ByteArray) : ByteArray := ⟨(Lib.join (xs.map (·.data.toList)) sep.data.toList).toArray⟩
theorem joinB_size {xs : List ByteArray} {sep : ByteArray} {m : Nat} (h : ∀ x ∈ xs, x.size ≤ m) : (joinB xs sep).size ≤ xs.length * (sep.size + m) := by
 have h1 := join_len sep.data.toList (xs.map (·.data.toList)) m (fun x hx => by
  obtain ⟨y, hy, rfl⟩ := List.mem_map.1 hx
  have := h y hy
  simpa using this)
 show (Lib.join (xs.map (·.data.toList)) sep.data.toList).toArray.size ≤ _
 simpa using h1
theorem joinB_c (A : Option Addr) (c : Nat) (xs : List ByteArray) (sep : ByteArray) (w : World) (h : Strs w A xs) (hc : xs.length ≤ c) (hN : xs.length ≤ 140737488355328) (hlen : (joinB xs sep).size ≤ 140737488355328) :
  Calls Tryz.prog 74 #[.slice A xs.length c, .string sep] w (GivesB (.string (joinB xs sep)) w) :=
 join_c A c xs sep w h hc hN (by
  have : (Lib.join (xs.map (·.data.toList)) sep.data.toList).toArray.size ≤ 140737488355328 := hlen
  simpa using this)
theorem cat_big (a b : ByteArray) (h : a.size + b.size ≤ 1000000000) : ∀ W, (Op.stringOp .add a b).run Tryz.prog W = .ok (.string (a ++ b)) W := fun W => run_string_add_sum W _ _ (by omega)
theorem Bld.below {B b : Nat} {l : List UInt8} {w w' : World} (h : Bld B b l w) (hb : Below w.heap.size w w') : Bld B b l w' := by
 unfold Bld Lib.IsBuilderF Lib.BuilderAtF at *
 rcases h with ⟨h1, v, h2, h3, h4⟩ | ⟨h1, v, h2, h3, h4⟩
 ·exact .inl ⟨h1, v, (hb.block _ (Array.getElem?_eq_some_iff.1 h2).1).trans h2, h3.kept (grownBy_of_below hb none) (by cases hv : v.ownBlock with
  | none => exact .inl rfl
  | some g => exact .inr (by simp)), h4⟩
 ·exact .inr ⟨h1, v, (hb.block _ (Array.getElem?_eq_some_iff.1 h2).1).trans h2, h3.kept (grownBy_of_below hb none) (by cases hv : v.ownBlock with
  | none => exact .inl rfl
  | some g => exact .inr (by simp)), h4⟩
end Go.Proofs.YtlcfgejaeecclaaGreatDoor
namespace Go.Proofs.YtlcfgejaeecclaaGreatDoor
open Dw
abbrev spB : ByteArray := ⟨#[32]⟩
def lnL (ws : List ByteArray) : List UInt8 := 32 :: 32 :: (Lib.join (ws.map (·.data.toList)) [32] ++ [10])
def ifL (b : Bool) (l : List UInt8) : List UInt8 := if b = true then l else []
abbrev wThing : ByteArray := ⟨#[116, 104, 105, 110, 103]⟩
abbrev wFrom : ByteArray := ⟨#[102, 114, 111, 109]⟩
abbrev wTo : ByteArray := ⟨#[116, 111]⟩
abbrev wPart : ByteArray := ⟨#[112, 97, 114, 116]⟩
abbrev wExcl : ByteArray := ⟨#[101, 120, 99, 108, 117, 115, 105, 118, 101]⟩
abbrev wSub : ByteArray := ⟨#[115, 117, 98]⟩
abbrev wIn : ByteArray := ⟨#[105, 110]⟩
abbrev wOut : ByteArray := ⟨#[111, 117, 116]⟩
abbrev wFor : ByteArray := ⟨#[102, 111, 114]⟩
abbrev wBegin : ByteArray := ⟨#[98, 101, 103, 105, 110]⟩
abbrev wEnd : ByteArray := ⟨#[101, 110, 100]⟩
abbrev wShare : ByteArray := ⟨#[115, 104, 97, 114, 101]⟩
abbrev wEnds : ByteArray := ⟨#[101, 110, 100, 115]⟩
def kdS (k : Int) : ByteArray :=
 if k = 1 then ⟨#[111, 114, 105, 103, 105, 110]⟩ else if k = 2 then ⟨#[97, 115, 115, 105, 103, 110]⟩ else if k = 3 then ⟨#[108, 105, 99, 101, 110, 99, 101]⟩
 else if k = 4 then ⟨#[101, 110, 100]⟩ else ⟨#[112, 97, 115, 115]⟩
abbrev ratB (nu de : ByteArray) : ByteArray := (nu ++ ⟨#[47]⟩) ++ de
def headL (d : De) : List UInt8 := (⟨#[100, 101, 101, 100, 32]⟩ : ByteArray).data.toList ++ d.id.data.toList ++ [32] ++ (itoaB d.day).data.toList ++ [32] ++ (kdS d.kd).data.toList ++ [10]
def arL (a : Ar) : List UInt8 := lnL [if a.out = true then wOut else wIn, a.rg]
def usL (u : ByteArray) : List UInt8 := lnL [wFor, u]
def shL (s : Sh) : List UInt8 := lnL [wShare, s.pt, ratB s.nu s.de]
def flatL {α : Type} (f : α → List UInt8) (l : List α) : List UInt8 := (l.map f).flatten
def preA (d : De) : List UInt8 :=
 headL d ++ ifL (givesB d.kd || decide (d.kd = 1)) (lnL [wThing, d.th]) ++ ifL (givesB d.kd || decide (d.kd = 5)) (lnL [wFrom, d.fr]) ++ ifL (givesB d.kd) (lnL [wTo, d.to_])
  ++ ifL (decide (d.kd = 2)) (lnL [wPart, ratB d.nu d.de]) ++ ifL d.ex (lnL [wExcl]) ++ ifL d.sb (lnL [wSub])
def midA (d : De) : List UInt8 := lnL [wBegin, itoaB d.bg] ++ ifL (givesB d.kd) (lnL [wEnd, itoaB d.en])
def endA (d : De) : List UInt8 := ifL (decide (d.kd = 4)) (lnL [wEnds, d.ot])
def deedL (d : De) : List UInt8 := preA d ++ flatL arL d.ar ++ flatL usL d.us ++ midA d ++ flatL shL d.sh ++ endA d
def regL (r : Rg) : List UInt8 := (⟨#[114, 101, 103, 105, 111, 110, 32]⟩ : ByteArray).data.toList ++ r.nm.data.toList ++ [32] ++ (if r.par = emp then [45] else r.par.data.toList) ++ [10]
def useL (u : ByteArray) : List UInt8 := (⟨#[117, 115, 101, 32]⟩ : ByteArray).data.toList ++ u.data.toList ++ [10]
def txtL (rs : List Rg) (us : List ByteArray) (ds : List De) : List UInt8 := flatL regL rs ++ flatL useL us ++ flatL deedL ds
def txF (rs : List Rg) (us : List ByteArray) (ds : List De) : ByteArray × Int :=
 if chkT rs us ds ≠ 0 then (emp, chkT rs us ds) else if 500000 < (txtL rs us ds).length then (emp, 2) else (⟨(txtL rs us ds).toArray⟩, 0)
theorem flatL_nil {α : Type} (f : α → List UInt8) : flatL f [] = [] := rfl
theorem flatL_snoc {α : Type} (f : α → List UInt8) (l : List α) (x : α) : flatL f (l ++ [x]) = flatL f l ++ f x := by simp [flatL]
theorem flatL_take {α : Type} (f : α → List UInt8) (l : List α) {k : Nat} (hk : k < l.length) : flatL f (l.take (k + 1)) = flatL f (l.take k) ++ f l[k] := by
 rw [List.take_succ_eq_append_getElem hk, flatL_snoc]
theorem flatL_all {α : Type} (f : α → List UInt8) (l : List α) {k : Nat} (hk : l.length ≤ k) : flatL f (l.take k) = flatL f l := by rw [List.take_of_length_le hk]
theorem flatL_len {α : Type} (f : α → List UInt8) (m : Nat) : ∀ (l : List α), (∀ x ∈ l, (f x).length ≤ m) → (flatL f l).length ≤ l.length * m
 | [], _ => by simp [flatL]
 | x :: r, h => by
  have h1 := flatL_len f m r fun y hy => h y (List.mem_cons_of_mem _ hy)
  have h2 := h x List.mem_cons_self
  have e : (flatL f (x :: r)).length = (f x).length + (flatL f r).length := by simp [flatL]
  rw [e, List.length_cons, Nat.succ_mul]
  omega
theorem flatL_mono {α : Type} (f : α → List UInt8) (l : List α) (k : Nat) : (flatL f (l.take k)).length ≤ (flatL f l).length := by
 have : flatL f l = flatL f (l.take k) ++ flatL f (l.drop k) := by unfold flatL; rw [← List.flatten_append, ← List.map_append, List.take_append_drop]
 rw [this, List.length_append]
 omega
theorem ifL_true (l : List UInt8) : ifL true l = l := rfl
theorem ifL_false (l : List UInt8) : ifL false l = [] := rfl
theorem ifL_len (b : Bool) (l : List UInt8) : (ifL b l).length ≤ l.length := by cases b <;> simp [ifL]
theorem arL_two (a : Ar) : ifL (!a.out) (lnL [wIn, a.rg]) ++ ifL a.out (lnL [wOut, a.rg]) = arL a := by
 unfold arL
 cases a.out <;> simp [ifL]
structure DSz (d : De) : Prop where
 id : d.id.size ≤ 40
 day : 0 ≤ d.day ∧ d.day ≤ 200000
 kd : 1 ≤ d.kd ∧ d.kd ≤ 5
 th : d.th.size ≤ 40
 fr : d.fr.size ≤ 40
 to_ : d.to_.size ≤ 40
 nu : d.nu.size ≤ 2001
 de : d.de.size ≤ 2001
 arl : d.ar.length ≤ 100
 ar : ∀ a ∈ d.ar, a.rg.size ≤ 40
 usl : d.us.length ≤ 20
 us : ∀ u ∈ d.us, u.size ≤ 40
 bg : 0 ≤ d.bg ∧ d.bg ≤ 200000
 en : 0 ≤ d.en ∧ d.en ≤ 200000
 shl : d.sh.length ≤ 20
 sh : ∀ s ∈ d.sh, s.pt.size ≤ 40 ∧ s.nu.size ≤ 2001 ∧ s.de.size ≤ 2001
 ot : d.ot.size ≤ 40
theorem emp_size : emp.size ≤ 40 := by decide
theorem isNm_sizeT {s : ByteArray} (h : isNm s = true) : 1 ≤ s.size ∧ s.size ≤ 40 := by
 unfold isNm at h
 simp only [Bool.and_eq_true, decide_eq_true_eq] at h
 exact ⟨h.1.1.1.1, h.1.1.1.2⟩
theorem nm_size {s : ByteArray} (h : isNm s = true) : s.size ≤ 40 := (isNm_sizeT h).2
theorem day_of {n : Int} (h : dayB n = true) : 0 ≤ n ∧ n ≤ 200000 := by unfold dayB at h; simpa using h
theorem absN_size_le (s : ByteArray) : s.size ≤ (absN s).size + 1 := by
 show s.size ≤ (absL s).toArray.size + 1
 have e : s.data.toList.length = s.size := Array.length_toList
 unfold absL
 split
 ·rw [List.size_toArray, List.length_tail]; omega
 ·rw [List.size_toArray]; omega
theorem ratF_size {nu de : ByteArray} (h : ratF nu de = 0) : nu.size ≤ 2001 ∧ de.size ≤ 2001 := by
 have h1 := ratF_zero h
 have h2 := absN_size_le nu
 omega
theorem area_size {rs : List Rg} {a : List Ar} (hr : ∀ i (h : i < rs.length), isNm (rs[i]).nm = true) (h : chkA rs a = 0) : ∀ x ∈ a, x.rg.size ≤ 40 := by
 unfold chkA at h
 split at h
 ·cases h
 split at h
 ·next f hf =>
  exfalso
  obtain ⟨k, _, hk⟩ := List.exists_of_findSome?_eq_some hf
  unfold arFault at hk
  split at hk
  ·cases hk; cases h
  ·split at hk
   ·cases hk; cases h
   ·cases hk
 next hn =>
 rw [List.findSome?_eq_none_iff] at hn
 intro x hx
 obtain ⟨k, hk, rfl⟩ := List.getElem_of_mem hx
 have := hn k (by simpa using hk)
 unfold arFault at this
 rw [rgAt_of hk] at this
 split at this
 ·cases this
 next h1 =>
 cases hi : idx rs (a[k]).rg with
 | none => exact absurd hi h1
 | some j =>
  obtain ⟨hj, he⟩ := idx_some hi
  rw [← he]
  exact nm_size (hr j hj)
theorem uses_size {us l : List ByteArray} (hu : ∀ u ∈ us, u.size ≤ 40) (h : useF us l = 0) : ∀ u ∈ l, u.size ≤ 40 := by
 unfold useF at h
 split at h
 ·next f hf =>
  exfalso
  obtain ⟨k, _, hk⟩ := List.exists_of_findSome?_eq_some hf
  unfold useFault at hk
  split at hk
  ·cases hk; cases h
  ·split at hk
   ·cases hk; cases h
   ·cases hk
 next hn =>
 rw [List.findSome?_eq_none_iff] at hn
 intro x hx
 obtain ⟨k, hk, rfl⟩ := List.getElem_of_mem hx
 have := hn k (by simpa using hk)
 have e1 : usAt l k = l[k] := by unfold usAt; rw [List.getD_eq_getElem?_getD, List.getElem?_eq_getElem hk]; rfl
 unfold useFault at this
 rw [e1] at this
 split at this
 ·cases this
 next h1 => exact hu _ (memS_true.1 (by simpa using h1))
theorem shs_size {k : Int} {l : List Sh} (h : shF k l = 0) : ∀ s ∈ l, s.pt.size ≤ 40 ∧ s.nu.size ≤ 2001 ∧ s.de.size ≤ 2001 := by
 unfold shF at h
 split at h
 ·cases h
 split at h
 ·cases h
 have key : ∀ i f, shFault l i = some f → f ≠ 0 := fun i f hf => by
  unfold shFault at hf
  split at hf
  ·cases hf; simp
  ·split at hf
   ·cases hf; simp
   ·split at hf
    ·next h1 => cases hf; exact h1
    ·split at hf
     ·cases hf; simp
     ·cases hf
 split at h
 ·next f hf =>
  exfalso
  obtain ⟨i, _, hi⟩ := List.exists_of_findSome?_eq_some hf
  exact key i f hi h
 next hn =>
 rw [List.findSome?_eq_none_iff] at hn
 intro x hx
 obtain ⟨i, hi, rfl⟩ := List.getElem_of_mem hx
 have := hn i (by simpa using hi)
 unfold shFault at this
 rw [ptAt_of hi, shD_of hi] at this
 split at this
 ·cases this
 next h1 =>
 split at this
 ·cases this
 split at this
 ·cases this
 next h3 => exact ⟨nm_size (by simpa using h1), ratF_size (by simpa using h3)⟩
theorem chkD_size {rs : List Rg} {us : List ByteArray} {pre : List De} {d : De} (h : chkD rs us pre d = 0) (hul : us.length ≤ 20) (hr : ∀ i (h : i < rs.length), isNm (rs[i]).nm = true) (hu : ∀ u ∈ us, u.size ≤ 40)
  (hp : ∀ p ∈ pre, p.id.size ≤ 40) : DSz d := by
 obtain ⟨l1, l2, l3⟩ := chkD_lens h hul
 unfold chkD at h
 split at h
 ·cases h
 next h1 =>
 split at h
 ·cases h
 next h2 =>
 split at h
 ·cases h
 split at h
 ·cases h
 split at h
 ·cases h
 next h5 =>
 split at h
 ·cases h
 next hnd =>
 have hid : d.id.size ≤ 40 := nm_size (by simpa using h1)
 have hday := day_of (n := d.day) (by simpa using h2)
 have hkd : 1 ≤ d.kd ∧ d.kd ≤ 5 := by omega
 simp only [needB, Bool.not_eq_true, Bool.or_eq_false_iff, Bool.and_eq_false_iff] at hnd
 obtain ⟨⟨⟨⟨⟨⟨⟨⟨n1, n2⟩, n3⟩, n4⟩, n5⟩, n6⟩, n7⟩, n8⟩, n9⟩ := hnd
 have e1 : givesB d.kd = false → d.kd ≠ 1 → d.th = emp := fun a b => by rcases n1 with n | n <;> simp_all
 have e2 : givesB d.kd = false → d.kd ≠ 5 → d.fr = emp := fun a b => by rcases n2 with n | n <;> simp_all
 have e3 : givesB d.kd = false → d.to_ = emp := fun a => by rcases n3 with n | n <;> simp_all
 have e4 : d.kd ≠ 2 → d.nu = emp ∧ d.de = emp := fun a => by rcases n4 with n | n <;> simp_all
 have e6 : givesB d.kd = false → d.ar = [] ∧ d.us = [] := fun a => by rcases n6 with n | n <;> simp_all
 have e7 : givesB d.kd = false → d.en = 0 := fun a => by rcases n7 with n | n <;> simp_all
 have e8 : d.kd ≠ 1 → d.kd ≠ 5 → d.sh = [] := fun a b => by rcases n8 with n | n <;> simp_all
 have e9 : d.kd ≠ 4 → d.ot = emp := fun a => by rcases n9 with n | n <;> simp_all
 have z := emp_size
 have z2 : emp.size ≤ 2001 := by decide
 split at h
 ·next hg =>
  have hk : d.kd = 2 ∨ d.kd = 3 := by unfold givesB at hg; simpa using hg
  unfold giftF at h
  split at h
  ·cases h
  next g1 =>
  split at h
  ·cases h
  split at h
  ·next h1 => exact absurd h h1
  next g3 =>
  split at h
  ·next h1 => exact absurd h h1
  next g4 =>
  split at h
  ·cases h
  split at h
  ·next h1 => exact absurd h h1
  next g6 =>
  split at h
  ·cases h
  next g7 =>
  have s1 : d.th.size ≤ 40 := nm_size (by cases hh : isNm d.th with | true => rfl | false => exact absurd (.inl hh) g1)
  have s2 : d.fr.size ≤ 40 := nm_size (by cases hh : isNm d.fr with | true => rfl | false => exact absurd (.inr (.inl hh)) g1)
  have s3 : d.to_.size ≤ 40 := nm_size (by cases hh : isNm d.to_ with | true => rfl | false => exact absurd (.inr (.inr hh)) g1)
  have s4 : 0 ≤ d.bg ∧ d.bg ≤ 200000 := day_of (by cases hh : dayB d.bg with | true => rfl | false => exact absurd (.inl hh) g7)
  have s5 : 0 ≤ d.en ∧ d.en ≤ 200000 := day_of (by cases hh : dayB d.en with | true => rfl | false => exact absurd (.inr hh) g7)
  have s6 : d.nu.size ≤ 2001 ∧ d.de.size ≤ 2001 := by
   by_cases h2 : d.kd = 2
   ·have g3' : parF d = 0 := by simpa using g3
    unfold parF at g3'
    rw [if_neg (by rw [h2]; simp)] at g3'
    split at g3'
    ·next h1 => exact absurd g3' h1
    ·next h1 => exact ratF_size (by simpa using h1)
   ·obtain ⟨a, b⟩ := e4 h2
    rw [a, b]
    exact ⟨z2, z2⟩
  have s7 : d.sh = [] := e8 (by omega) (by omega)
  exact ⟨hid, hday, hkd, s1, s2, s3, s6.1, s6.2, l1, area_size hr (by simpa using g4), l2, uses_size hu (by simpa using g6), s4, s5, l3, by rw [s7]; simp, by rw [e9 (by omega)]; exact z⟩
 ·next hg =>
  have hg' : givesB d.kd = false := by simpa using hg
  have hk : ¬ (d.kd = 2 ∨ d.kd = 3) := fun hh => by apply hg; unfold givesB; simpa using hh
  obtain ⟨a6, b6⟩ := e6 hg'
  obtain ⟨a4, b4⟩ := e4 (by omega)
  split at h
  ·next h4 =>
   unfold endF at h
   split at h
   ·cases h
   next g1 =>
   split at h
   ·cases h
   next g2 =>
   have s9 : d.ot.size ≤ 40 := by
    rw [Bool.not_eq_false, List.any_eq_true] at g2
    obtain ⟨p, hpp, hq⟩ := g2
    simp only [Bool.and_eq_true, decide_eq_true_eq] at hq
    rw [← hq.1]
    exact hp p hpp
   exact ⟨hid, hday, hkd, by rw [e1 hg' (by omega)]; exact z, by rw [e2 hg' (by omega)]; exact z, by rw [e3 hg']; exact z, by rw [a4]; exact z2, by rw [b4]; exact z2, l1, by rw [a6]; simp, l2, by rw [b6]; simp,
    day_of (by simpa using g1), by rw [e7 hg']; omega, l3, by rw [e8 (by omega) (by omega)]; simp, s9⟩
  ·next h4 =>
   unfold divF at h
   split at h
   ·cases h
   next g1 =>
   split at h
   ·cases h
   next g2 =>
   split at h
   ·next h1 => exact absurd h h1
   next g3 =>
   have s1 : d.th.size ≤ 40 := by
    by_cases h1 : d.kd = 1
    ·exact nm_size (by cases hh : isNm d.th with | true => rfl | false => exact absurd (.inl ⟨h1, hh⟩) g1)
    ·rw [e1 hg' h1]; exact z
   have s2 : d.fr.size ≤ 40 := by
    by_cases h1 : d.kd = 5
    ·exact nm_size (by cases hh : isNm d.fr with | true => rfl | false => exact absurd (.inr ⟨h1, hh⟩) g1)
    ·rw [e2 hg' h1]; exact z
   exact ⟨hid, hday, hkd, s1, s2, by rw [e3 hg']; exact z, by rw [a4]; exact z2, by rw [b4]; exact z2, l1, by rw [a6]; simp, l2, by rw [b6]; simp,
    day_of (by simpa using g2), by rw [e7 hg']; omega, l3, shs_size (by simpa using g3), by rw [e9 h4]; exact z⟩
theorem uses_nm {rs : List Rg} {us : List ByteArray} {ds : List De} (h : chkT rs us ds = 0) : ∀ u ∈ us, isNm u = true := by
 unfold chkT at h
 split at h
 ·next h1 => exact absurd h h1
 split at h
 ·cases h
 split at h
 ·cases h
 split at h
 ·next f hf =>
  exfalso
  obtain ⟨k, _, hk⟩ := List.exists_of_findSome?_eq_some hf
  unfold unFault at hk
  split at hk
  ·cases hk; cases h
  ·split at hk
   ·cases hk; cases h
   ·cases hk
 ·next hn =>
  rw [List.findSome?_eq_none_iff] at hn
  intro x hx
  obtain ⟨k, hk, rfl⟩ := List.getElem_of_mem hx
  have := hn k (by simpa using hk)
  have e1 : usAt us k = us[k] := by unfold usAt; rw [List.getD_eq_getElem?_getD, List.getElem?_eq_getElem hk]; rfl
  unfold unFault at this
  rw [e1] at this
  split at this
  ·cases this
  next h1 => simpa using h1
theorem chkD_id {rs : List Rg} {us : List ByteArray} {pre : List De} {d : De} (h : chkD rs us pre d = 0) : isNm d.id = true := by
 unfold chkD at h
 split at h
 ·cases h
 next h1 => simpa using h1
theorem chkT_size {rs : List Rg} {us : List ByteArray} {ds : List De} (h : chkT rs us ds = 0) :
  (rs.length ≤ 200 ∧ ∀ r ∈ rs, r.nm.size ≤ 40 ∧ r.par.size ≤ 40) ∧ (us.length ≤ 20 ∧ ∀ u ∈ us, u.size ≤ 40) ∧ (ds.length ≤ 200 ∧ ∀ d ∈ ds, DSz d) := by
 obtain ⟨h1, h2, h3⟩ := chkT_zero h
 have hg := good_of h1
 have hu := uses_nm h
 have hd := (chkT_deeds h).2
 refine ⟨⟨hg.len, fun r hr => ?_⟩, ⟨h2, fun u hu' => nm_size (hu u hu')⟩, ⟨h3, fun d hd' => ?_⟩⟩
 ·obtain ⟨i, hi, rfl⟩ := List.getElem_of_mem hr
  refine ⟨nm_size (hg.nm i hi), ?_⟩
  by_cases hp : (rs[i]).par = emp
  ·rw [hp]; exact emp_size
  ·obtain ⟨j, hj⟩ := hg.par i hi hp
   obtain ⟨hj', he⟩ := idx_some hj
   rw [← he]
   exact nm_size (hg.nm j hj')
 ·obtain ⟨k, hk, rfl⟩ := List.getElem_of_mem hd'
  refine chkD_size (hd k hk) h2 hg.nm (fun u hu' => nm_size (hu u hu')) fun p hp => ?_
  rw [List.mem_take_iff_getElem] at hp
  obtain ⟨j, hj, rfl⟩ := hp
  exact nm_size (chkD_id (hd j (by omega)))
end Go.Proofs.YtlcfgejaeecclaaGreatDoor
