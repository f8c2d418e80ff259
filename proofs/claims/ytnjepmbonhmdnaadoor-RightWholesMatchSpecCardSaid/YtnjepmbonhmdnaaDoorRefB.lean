/- Walks over the reference of chapter 7 (places): around, lies, checkArea. -/
import Derived.Test.YtnjepmbonhmdnaaDoorRefA
namespace Go.Proofs.YtnjepmbonhmdnaaDoor
open Go.RowKit Dw

def AroundRel (w : World) (l : List Rg) (k : Nat) (res : Bool) (m : Nat) (name : Value) (wr : World) : Prop :=
  wr = w ∧ ((∃ j, ∃ hj : j < l.length, name = .string (l[j]).nm ∧ upN l m j = none ∧ underF l m j k = res) ∨ (name = .string emp ∧ res = false))

set_option maxHeartbeats 400000 in
theorem around_c (A : Option Addr) (c : Nat) (l : List Rg) (w : World) (g : GoodR l) (h : Rgs w A l) (i k : Nat) (hi : i < l.length) (hk : k < l.length) :
    Calls Tryd.prog 67 #[.slice A l.length c, .string (l[k]).nm, .string (l[i]).nm] w (Gives (.bool (under l i k)) w) := by
  have hn := g.len
  generalize hres : under l i k = res
  have HR := Lib.hid hres
  clear hres
  go_enter Tryd.func67, Tryd.ntmps67
  go_wp2
  go_loopg [2] (l.length + 2) (AroundRel w l k res)
  case atStart => exact ⟨rfl, .inl ⟨i, hi, rfl, g.ends i hi, HR.out⟩⟩
  case round =>
    obtain ⟨hw, hrel⟩ := hrel
    subst hw
    rcases hrel with ⟨j, hj, rfl, hup, hun⟩ | ⟨rfl, hres⟩
    · have HU := Lib.hid hup
      have HN := Lib.hid hun
      clear hup hun
      have hne := isEmpty_of_ne (g.nm_ne hj)
      obtain ⟨m, rfl⟩ : ∃ m, gk = m + 1 := by
        cases gk with
        | zero => exact absurd HU.out (by simp [upN])
        | succ m => exact ⟨m, rfl⟩
      by_cases hq : j = k
      · subst hq
        have hqb := str_refl (l[j]).nm
        have hres : res = true := by
          rw [← HN.out]; simp [underF]
        have HS := Lib.hid hres
        clear hres
        go_wp2
        go_ret
        exact Gives.mk (vbool HS.out.symm) rfl
      · have hqb := beq_of_ne (fun e => hq (g.nm_inj hj hk e))
        have hix : idxI l (l[j]).nm = (j : Int) := by unfold idxI; rw [g.inc.idx hj]
        have HX := Lib.hid hix
        clear hix
        obtain ⟨b, o, rfl, hb, hc⟩ := h.at_ (by omega)
        have hc1 := (hc j hj).2
        clear hc
        go_wp2_with fail
        refine (region_c _ _ _ _ _ hn h).mono ?_
        rintro e w' ⟨rfl, rfl⟩
        rw [HX.out]
        go_wp2
        by_cases hp : (l[j]).par = emp
        · have hu := up_none hj hp
          go_roundg m
          case measure => omega
          case rel =>
            refine ⟨rfl, .inr ⟨by rw [hp], ?_⟩⟩
            have := HN.out
            simp only [underF, hu] at this
            simp [← this, hq]
        · obtain ⟨j', hj', hu, he⟩ := g.up_some hj hp
          go_roundg m
          case measure => omega
          case rel =>
            refine ⟨rfl, .inl ⟨j', hj', by rw [he], ?_, ?_⟩⟩
            · have := HU.out
              simpa only [upN, hu] using this
            · have := HN.out
              simp only [underF, hu] at this
              simpa [hq] using this
    · have HS := Lib.hid hres
      clear hres
      have hne := emp_isEmpty
      go_wp2
      go_ret
      exact Gives.mk (vbool HS.out.symm) rfl

def LiesRel (w : World) (l : List Rg) (a : List Ar) (res : Bool) (m : Nat) (name : Value) (wr : World) : Prop :=
  wr = w ∧ ((∃ j, ∃ hj : j < l.length, name = .string (l[j]).nm ∧ upN l m j = none ∧ liesF l a m j = res) ∨ (name = .string emp ∧ res = false))
def LiesRel2 (w : World) (a : List Ar) (nm : ByteArray) (m : Nat) (i : Value) (wr : World) : Prop :=
  wr = w ∧ ∃ k : Nat, k + m = a.length ∧ i = .int .i64 k ∧ ∀ j (h : j < a.length), j < k → (a[j]).rg ≠ nm

set_option maxHeartbeats 800000 in
theorem lies_c (A A2 : Option Addr) (c c2 : Nat) (l : List Rg) (a : List Ar) (w : World) (g : GoodR l) (h : Rgs w A l) (h2 : Ars w A2 a) (hn2 : a.length ≤ 100) (i : Nat) (hi : i < l.length) :
    Calls Tryd.prog 43 #[.slice A l.length c, .slice A2 a.length c2, .string (l[i]).nm] w (Gives (.bool (lies l a i)) w) := by
  have hn := g.len
  generalize hres : lies l a i = res
  have HR := Lib.hid hres
  clear hres
  go_enter Tryd.func43, Tryd.ntmps43
  go_wp2
  go_loopg [2] (l.length + 2) (LiesRel w l a res)
  case atStart => exact ⟨rfl, .inl ⟨i, hi, rfl, g.ends i hi, HR.out⟩⟩
  case round =>
    obtain ⟨hw, hrel⟩ := hrel
    subst hw
    rcases hrel with ⟨j, hj, rfl, hup, hun⟩ | ⟨rfl, hres⟩
    · have HU := Lib.hid hup
      have HN := Lib.hid hun
      clear hup hun
      have hne := isEmpty_of_ne (g.nm_ne hj)
      obtain ⟨m, rfl⟩ : ∃ m, gk = m + 1 := by
        cases gk with
        | zero => exact absurd HU.out (by simp [upN])
        | succ m => exact ⟨m, rfl⟩
      go_wp2
      obtain ⟨wo, hwo⟩ : ∃ wo : World, wo = wr := ⟨_, rfl⟩
      subst hwo
      go_loopg [7] a.length (LiesRel2 wo a (l[j]).nm)
      case atStart => exact ⟨rfl, 0, by omega, rfl, fun j _ hj => absurd hj (by omega)⟩
      case round =>
        obtain ⟨hw, k, hk, rfl, hpre⟩ := hrel
        subst hw
        have HK := Lib.hid hk
        have HP := Lib.hid hpre
        have hk1 : k ≤ a.length := by omega
        clear hk hpre
        by_cases hlt : k < a.length
        · obtain ⟨b2, o2, rfl, hb2, hc2⟩ := h2.at_ (by omega)
          have hc0 := (hc2 k hlt).1
          have hc1 := (hc2 k hlt).2
          clear hc2
          by_cases hq : (a[k]).rg = (l[j]).nm
          · have hqb := beq_of_eq hq
            have hf := findA_some hlt hq (fun j hj hjk => HP.out j hj hjk)
            have hres : res = !(a[k]).out := by
              rw [← HN.out, liesF, nmAt_of hj, hf]
            have HS := Lib.hid hres
            clear hres hf hq
            go_wp2
            go_ret
            exact Gives.mk (vbool HS.out.symm) rfl
          · have hqb := beq_of_ne hq
            have HQ := Lib.hid hq
            clear hq
            go_wp2
            go_roundg (gk - 1)
            case measure => have := HK.out; omega
            case rel =>
              refine ⟨rfl, k + 1, by have := HK.out; omega, by go_num, fun j hj hjk => ?_⟩
              rcases Nat.lt_or_ge j k with h1 | h1
              · exact HP.out j hj h1
              · obtain rfl : j = k := by omega
                exact HQ.out
        · have hfn : findA a (nmAt l j) = none := findA_none fun t ht => by rw [nmAt_of hj]; exact HP.out t ht (by omega)
          have HF := Lib.hid hfn
          clear hfn
          have hix : idxI l (l[j]).nm = (j : Int) := by unfold idxI; rw [g.inc.idx hj]
          have HX := Lib.hid hix
          clear hix
          obtain ⟨b, o, rfl, hb, hc⟩ := h.at_ (by omega)
          have hc1 := (hc j hj).2
          clear hc
          go_wp2_with fail
          refine (region_c _ _ _ _ _ hn h).mono ?_
          rintro e w' ⟨rfl, rfl⟩
          rw [HX.out]
          go_wp2
          by_cases hp : (l[j]).par = emp
          · have hu := up_none hj hp
            go_roundg m
            case measure => omega
            case rel =>
              refine ⟨rfl, .inr ⟨by rw [hp], ?_⟩⟩
              have := HN.out
              rw [liesF, HF.out, hu] at this
              exact this.symm
          · obtain ⟨j', hj', hu, he⟩ := g.up_some hj hp
            go_roundg m
            case measure => omega
            case rel =>
              refine ⟨rfl, .inl ⟨j', hj', by rw [he], ?_, ?_⟩⟩
              · have := HU.out
                simpa only [upN, hu] using this
              · have := HN.out
                rw [liesF, HF.out, hu] at this
                exact this
    · have HS := Lib.hid hres
      clear hres
      have hne := emp_isEmpty
      go_wp2
      go_ret
      exact Gives.mk (vbool HS.out.symm) rfl
end Go.Proofs.YtnjepmbonhmdnaaDoor
