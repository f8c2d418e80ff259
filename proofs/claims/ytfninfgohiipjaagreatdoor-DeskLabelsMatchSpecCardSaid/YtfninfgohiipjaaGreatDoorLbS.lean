/- Strings: what the library's functions give here. -/
import Derived.Test.YtfninfgohiipjaaGreatDoorLbA
import Derived.Test.YtfninfgohiipjaaGreatDoorStrPlain
namespace Go.Proofs.YtfninfgohiipjaaGreatDoor
open Go.RowKit Dw

def digS : ByteArray := ⟨#[48, 49, 50, 51, 52, 53, 54, 55, 56, 57]⟩
def sgnS : ByteArray := ⟨#[48, 49, 50, 51, 52, 53, 54, 55, 56, 57, 65, 66, 67, 68, 69, 70, 71, 72, 73, 74, 75, 76, 77, 78, 79, 80, 81, 82, 83, 84, 85, 86, 87, 88, 89, 90]⟩
def namS : ByteArray := ⟨#[97, 98, 99, 100, 101, 102, 103, 104, 105, 106, 107, 108, 109, 110, 111, 112, 113, 114, 115, 116, 117, 118, 119, 120, 121, 122, 48, 49, 50, 51, 52, 53, 54, 55, 56, 57, 45]⟩
theorem byte_all {P : UInt8 → Prop} (h : ∀ n : Nat, n < 256 → P (UInt8.ofNat n)) (c : UInt8) : P c := by
  have := h c.toNat c.toNat_lt
  simpa using this
theorem dig_ok (c : UInt8) : digS.data.toList.contains c = digB c := byte_all (P := fun c => digS.data.toList.contains c = digB c) (by decide +kernel) c
theorem sgn_ok (c : UInt8) : sgnS.data.toList.contains c = sgnB c := byte_all (P := fun c => sgnS.data.toList.contains c = sgnB c) (by decide +kernel) c
theorem nam_ok (c : UInt8) : namS.data.toList.contains c = okB c := byte_all (P := fun c => namS.data.toList.contains c = okB c) (by decide +kernel) c
theorem dropWhile_mem {p : UInt8 → Bool} : ∀ {l : List UInt8} {b : UInt8}, b ∈ l → p b = false → b ∈ l.dropWhile p
  | [], _, h, _ => by simp at h
  | a :: t, b, h, hb => by
    rw [List.dropWhile_cons]
    cases ha : p a with
    | false => simpa using h
    | true =>
      simp only [if_true]
      rcases List.mem_cons.1 h with rfl | h
      · rw [ha] at hb; cases hb
      · exact dropWhile_mem h hb
theorem dropWhile_all {p : UInt8 → Bool} : ∀ {l : List UInt8}, l.all p = true → l.dropWhile p = []
  | [], _ => rfl
  | a :: t, h => by
    rw [List.all_cons, Bool.and_eq_true] at h
    rw [List.dropWhile_cons, h.1]
    simpa using dropWhile_all h.2
theorem trim_empty {cut : List UInt8} {p : UInt8 → Bool} (h : ∀ c, cut.contains c = p c) (l : List UInt8) : (Lib.trimS l cut).isEmpty = l.all p := by
  have hp : (fun b => cut.contains b) = p := funext h
  cases ha : l.all p with
  | true =>
    have : Lib.trimS l cut = [] := by
      unfold Lib.trimS Lib.trimLeftS Lib.trimRightS
      rw [hp, dropWhile_all (l := l.reverse) (by rw [List.all_reverse]; exact ha)]
      rfl
    rw [this]; rfl
  | false =>
    obtain ⟨b, hb, hn⟩ := List.all_eq_false.1 ha
    have hn' : p b = false := by simpa using hn
    have : b ∈ Lib.trimS l cut := by
      unfold Lib.trimS Lib.trimLeftS Lib.trimRightS
      rw [hp]
      exact dropWhile_mem (List.mem_reverse.2 (dropWhile_mem (List.mem_reverse.2 hb) hn')) hn'
    cases hs : Lib.trimS l cut with
    | nil => rw [hs] at this; simp at this
    | cons a t => rfl
/-- strings.Trim leaves nothing just if all bytes are in the cutset. -/
def GivesTrim (p : UInt8 → Bool) (s : ByteArray) (w : World) (e : Ending) (w' : World) : Prop := ∃ r : ByteArray, e = .returned (.string r) ∧ r.toList.isEmpty = s.data.toList.all p ∧ Below w.heap.size w w'
theorem trim_any {cut : ByteArray} {p : UInt8 → Bool} (h : ∀ c, cut.data.toList.contains c = p c) (hc : cut.size < 4294967281) (ha : ∀ (j : Nat) (b : UInt8), cut.data.toList[j]? = some b → b.toNat < 128) (s : ByteArray) (w : World) (hs : s.size ≤ 9223372036854775807) :
    Calls Tryz.prog 77 #[.string s, .string cut] w (GivesTrim p s w) :=
  (Any.strings_Trim_laid Tryz.lays160 (by kernel_rfl) s cut w hs hc ha).mono fun e w' ⟨he, hb⟩ => ⟨_, he, by rw [ByteArray.toList_mk, trim_empty h], hb⟩
theorem trimD_c (s : ByteArray) (w : World) (hs : s.size ≤ 9223372036854775807) : Calls Tryz.prog 77 #[.string s, .string digS] w (GivesTrim digB s w) :=
  trim_any dig_ok (by decide) (ascii_of_all (by decide +kernel)) s w hs
theorem trimS_c (s : ByteArray) (w : World) (hs : s.size ≤ 9223372036854775807) : Calls Tryz.prog 77 #[.string s, .string sgnS] w (GivesTrim sgnB s w) :=
  trim_any sgn_ok (by decide) (ascii_of_all (by decide +kernel)) s w hs
theorem trimN_c (s : ByteArray) (w : World) (hs : s.size ≤ 9223372036854775807) : Calls Tryz.prog 77 #[.string s, .string namS] w (GivesTrim okB s w) :=
  trim_any nam_ok (by decide) (ascii_of_all (by decide +kernel)) s w hs

/-- The one variable of the library that a search reads. -/
def GOK (w : World) : Prop := ∃ m : Int, w.cell? ⟨0, 0, none⟩ = some (.int .i64 m)
theorem GOK.below {w w' : World} (h : GOK w) (hb : Below w.heap.size w w') : GOK w' := by
  obtain ⟨m, hm⟩ := h
  exact ⟨m, (hb.cell (World.block_lt_of_cell? w _ hm)).trans hm⟩
def twoB (s : ByteArray) : Bool := Lib.contains s.data.toList [32, 32]
theorem contains2_c (s : ByteArray) (w : World) (hs : s.size ≤ 100) (hG : GOK w) : Calls Tryz.prog 141 #[.string s, .string ⟨#[32, 32]⟩] w (Gives (.bool (twoB s)) w) := by
  obtain ⟨m, hm⟩ := hG
  have h := Any.strings_Contains Tryz.lays144 s ⟨#[32, 32]⟩ m w (by omega) hm
  change Calls Tryz.prog 141 _ _ _ at h
  exact h.mono fun _ _ ⟨he, hw⟩ => ⟨he, hw.symm⟩
theorem indexByte_c (t : ByteArray) (c : UInt8) (w : World) : Calls Tryz.prog 143 #[.string t, .int .u8 (c.toNat : Int)] w (Gives (.int .i64 (Lib.indexByte t.data.toList c)) w) := by
  have h := Any.strings_IndexByte Tryz.lays137 t (c.toNat : Int) w
  change Calls Tryz.prog 143 _ _ _ at h
  have e : ((c.toNat : Int)).toNat.toUInt8 = c := by simp
  rw [e] at h
  exact h.mono fun _ _ ⟨he, hw⟩ => ⟨he, hw.symm⟩
theorem hasPrefix_c (s p : ByteArray) (w : World) : Calls Tryz.prog 166 #[.string s, .string p] w (Gives (.bool (Lib.hasPrefix s.data.toList p.data.toList)) w) := by
  have h := Any.strings_HasPrefix Tryz.lays99 s p w
  change Calls Tryz.prog 166 _ _ _ at h
  exact h.mono fun _ _ ⟨he, hw⟩ => ⟨he, hw.symm⟩
/-- Where a sign stands among the signs. -/
theorem idx_sgn (c : UInt8) : Lib.indexByte sgnS.data.toList c = if sgnB c then sval c else -1 :=
  byte_all (P := fun c => Lib.indexByte sgnS.data.toList c = if sgnB c then sval c else -1) (by decide +kernel) c
theorem idx_dig (c : UInt8) : Lib.indexByte digS.data.toList c = if digB c then sval c else -1 :=
  byte_all (P := fun c => Lib.indexByte digS.data.toList c = if digB c then sval c else -1) (by decide +kernel) c
end Go.Proofs.YtfninfgohiipjaaGreatDoor
