/- Walks over package right (places): the names. -/
import Derived.Test.YtnjepmbonhmdnaaDoorRefE
import Derived.Test.YtnjepmbonhmdnaaDoorTrimPlain
namespace Go.Proofs.YtnjepmbonhmdnaaDoor
open Go.RowKit Dw

def cutset : ByteArray := ⟨#[97, 98, 99, 100, 101, 102, 103, 104, 105, 106, 107, 108, 109, 110, 111, 112, 113, 114, 115, 116, 117, 118, 119, 120, 121, 122, 48, 49, 50, 51, 52, 53, 54, 55, 56, 57, 45]⟩
theorem cut_okB (c : UInt8) : cutset.data.toList.contains c = okB c := by
  have h : ∀ n : Nat, n < 256 → cutset.data.toList.contains (UInt8.ofNat n) = okB (UInt8.ofNat n) := by decide +kernel
  have := h c.toNat c.toNat_lt
  simpa using this
theorem dropWhile_mem {p : UInt8 → Bool} : ∀ {l : List UInt8} {b : UInt8}, b ∈ l → p b = false → b ∈ l.dropWhile p
  | [], _, h, _ => by simp at h
  | a :: t, b, h, hb => by
    rw [List.dropWhile_cons]
    cases ha : p a with
    | false => simpa using h
    | true =>
      simp only [if_true]
      rcases List.mem_cons.1 h with rfl | h
      · rw [ha] at hb; cases hb
      · exact dropWhile_mem h hb
theorem dropWhile_all {p : UInt8 → Bool} : ∀ {l : List UInt8}, l.all p = true → l.dropWhile p = []
  | [], _ => rfl
  | a :: t, h => by
    rw [List.all_cons, Bool.and_eq_true] at h
    rw [List.dropWhile_cons, h.1]
    simpa using dropWhile_all h.2
theorem trim_empty (l : List UInt8) : (Lib.trimS l cutset.data.toList).isEmpty = l.all okB := by
  have hp : (fun b => cutset.data.toList.contains b) = okB := funext cut_okB
  cases ha : l.all okB with
  | true =>
    have : Lib.trimS l cutset.data.toList = [] := by
      unfold Lib.trimS Lib.trimLeftS Lib.trimRightS
      rw [hp, dropWhile_all (l := l.reverse) (by rw [List.all_reverse]; exact ha)]
      rfl
    rw [this]; rfl
  | false =>
    obtain ⟨b, hb, hn⟩ := List.all_eq_false.1 ha
    have hn' : okB b = false := by simpa using hn
    have : b ∈ Lib.trimS l cutset.data.toList := by
      unfold Lib.trimS Lib.trimLeftS Lib.trimRightS
      rw [hp]
      exact dropWhile_mem (List.mem_reverse.2 (dropWhile_mem (List.mem_reverse.2 hb) hn')) hn'
    cases hs : Lib.trimS l cutset.data.toList with
    | nil => rw [hs] at this; simp at this
    | cons a t => rfl

theorem trim_c (s : ByteArray) (w : World) (hs : s.size ≤ 9223372036854775807) :
    Calls Tryd.prog 51 #[.string s, .string cutset] w (GivesB (.string ⟨(Lib.trimS s.data.toList cutset.data.toList).toArray⟩) w) :=
  Any.strings_Trim_laid Tryd.lays160 (by kernel_rfl) s cutset w hs (by decide) (ascii_of_all (by decide +kernel))

set_option maxHeartbeats 800000 in
theorem soundIsName_c (s : ByteArray) (w : World) (hs : s.size ≤ 9223372036854775807) :
    Calls Tryd.prog 44 #[.string s] w (GivesB (.bool (isNm s)) w) := by
  generalize hres : isNm s = res
  have HR := Lib.hid hres
  clear hres
  by_cases h1 : 1 ≤ s.size
  · by_cases h2 : s.size ≤ 40
    · by_cases h3 : 97 ≤ (s[0]'h1).toNat
      · by_cases h4 : (s[0]'h1).toNat ≤ 122
        · have hall : (⟨(Lib.trimS s.data.toList cutset.data.toList).toArray⟩ : ByteArray).toList.isEmpty = res := by
            rw [← HR.out, isNm_all h1 h2 h3 h4, ByteArray.toList_mk, trim_empty]
          have hcon := trim_c s w hs
          generalize (⟨(Lib.trimS s.data.toList cutset.data.toList).toArray⟩ : ByteArray) = r at hall hcon
          have HC := Lib.hid hcon
          have HA := Lib.hid hall
          clear hcon hall
          go_enter Tryd.func44, Tryd.ntmps44
          go_wp2_with fail
          refine HC.out.mono ?_
          rintro e w' ⟨rfl, hB⟩
          go_wp2
          go_ret
          exact GivesB.mk (vbool HA.out) hB
        · have hres : res = false := by
            rw [← HR.out]
            unfold isNm
            rw [headD_get s h1]
            simp [h4]
          have HS := Lib.hid hres
          clear hres
          go_enter Tryd.func44, Tryd.ntmps44
          go_wp2_with fail
          go_ret
          exact GivesB.mk (vbool HS.out.symm) (Below.refl _ _)
      · have hres : res = false := by
          rw [← HR.out]
          unfold isNm
          rw [headD_get s h1]
          simp [h3]
        have HS := Lib.hid hres
        clear hres
        go_enter Tryd.func44, Tryd.ntmps44
        go_wp2_with fail
        go_ret
        exact GivesB.mk (vbool HS.out.symm) (Below.refl _ _)
    · have hres : res = false := by
        rw [← HR.out]
        unfold isNm
        simp [h2]
      have HS := Lib.hid hres
      clear hres
      go_enter Tryd.func44, Tryd.ntmps44
      go_wp2_with fail
      go_ret
      exact GivesB.mk (vbool HS.out.symm) (Below.refl _ _)
  · have hres : res = false := by
      rw [← HR.out]
      unfold isNm
      simp [h1]
    have HS := Lib.hid hres
    clear hres
    go_enter Tryd.func44, Tryd.ntmps44
    go_wp2_with fail
    go_ret
    exact GivesB.mk (vbool HS.out.symm) (Below.refl _ _)

theorem isName_c (s : ByteArray) (w : World) (hs : s.size ≤ 9223372036854775807) :
    Calls Tryd.prog 26 #[.string s] w (GivesB (.bool (isNm s)) w) := by
  go_enter Tryd.func26, Tryd.ntmps26
  go_wp2_with fail
  refine (soundIsName_c s w hs).mono ?_
  rintro e w' ⟨rfl, hB⟩
  go_wp2
  go_ret
  exact GivesB.mk rfl hB
end Go.Proofs.YtnjepmbonhmdnaaDoor
