/- Package right: Whole. -/
import Derived.Test.YtnjepmbonhmdnaaDoorWhC
import Derived.Test.YtnjepmbonhmdnaaDoorRefG
namespace Go.Proofs.YtnjepmbonhmdnaaDoor
open Go.RowKit Dw

def WlRel (w : World) (l : List Rg) (r : Nat) (m : Nat) (i : Value) (wr : World) : Prop :=
  ∃ k : Nat, k + m = l.length ∧ i = .int .i64 k ∧ InM wr r (r + 1) (l.take k) ∧ Below w.heap.size w wr

set_option maxHeartbeats 2000000 in
theorem Whole_c (A : Option Addr) (c : Nat) (l : List Rg) (s : ByteArray) (w : World) (h : Rgs w A l) (hz : Sized l) (hs : s.size ≤ 9223372036854775807) :
    Calls Tryd.prog 21 #[.slice A l.length c, .string s] w (GivesS2 (wholeS l s) w) := by
  generalize hres : wholeS l s = res
  have HR := Lib.hid hres
  clear hres
  unfold wholeS at HR
  by_cases hC : chkW l = 0
  · have hn := chkW_len hC
    have HC := Lib.hid hC
    clear hC
    go_enter Tryd.func21, Tryd.ntmps21
    go_wp2_with fail
    refine (checkParts_c _ _ _ _ h hz).mono ?_
    rintro e w1 ⟨rfl, hb1⟩
    rw [HC.out]
    go_wp2_with fail
    refine (isName_c _ _ hs).mono ?_
    rintro e w2 ⟨rfl, hb2⟩
    have hB2 := below_trans hb1 hb2
    clear hb1 hb2 hz
    cases hq : isNm s with
    | false =>
      have hres : res = ([], 5) := by
        have := HR.out
        rw [if_neg (by rw [HC.out]; simp), if_pos hq] at this
        exact this.symm
      have HS := Lib.hid hres
      clear hres hq
      go_wp2
      go_ret2
      exact GivesS2.err HS.out hB2
    | true =>
      have hres : res = (sortS (reach l s), 0) := by
        have := HR.out
        rw [if_neg (by rw [HC.out]; simp), if_neg (by rw [hq]; simp)] at this
        exact this.symm
      have HS := Lib.hid hres
      have HB2 := Lib.hid hB2
      have hle2 : w.heap.size ≤ w2.heap.size := hB2.size
      clear hres hq hB2
      have hmm := @run_makeMap Tryd.prog
      go_wp2
      clear hmm
      go_loopg [21] l.length (WlRel w l w2.heap.size)
      case atStart =>
        refine ⟨0, by omega, rfl, ⟨fun _ => none, MapIs.new Value.string w2, RowsM.nil _ _⟩, HB2.out.alloc hle2 _⟩
      case round =>
        obtain ⟨k, hk, rfl, hin, hbel⟩ := hrel
        have HK := Lib.hid hk
        have hk1 : k ≤ l.length := by omega
        have hwr : w2.heap.size < wr.heap.size := hin.lt
        clear hk
        by_cases hlt : k < l.length
        · obtain ⟨b, o, rfl, hb, hc⟩ := h.at_ (by omega)
          have hc0 : wr.cell? ⟨b, o + k * 2, none⟩ = some (.string (l[k]).nm) := (hbel.cell hb).trans (hc k hlt).1
          have hc1 : wr.cell? ⟨b, o + k * 2 + 1, none⟩ = some (.string (l[k]).par) := (hbel.cell hb).trans (hc k hlt).2
          have hbr : b < wr.heap.size := by omega
          obtain ⟨f, hmf, hRf⟩ := hin.alloc (.cells #[.string (l[k]).nm, .string (l[k]).par] 64)
          have hbx : (wr.alloc (.cells #[.string (l[k]).nm, .string (l[k]).par] 64)).heap[wr.heap.size]? = some (.cells #[.string (l[k]).nm, .string (l[k]).par] 64 (0, 0)) := heap_alloc_new _ _
          have hL4 : (partsOf (l.take k) (l[k]).nm).length ≤ 1000 := by
            have h1 := partsOf_le (l.take k) (l[k]).nm
            rw [List.length_take] at h1
            omega
          have HB4 := Lib.hid (hbel.alloc (by omega) (.cells #[.string (l[k]).nm, .string (l[k]).par] 64))
          have hB4 : w2.heap.size + 1 ≤ (wr.alloc (.cells #[.string (l[k]).nm, .string (l[k]).par] 64)).heap.size := by simp; omega
          clear hc hin hbel HB2
          go_wp2
          refine region_group (B := w2.heap.size + 1) (r := w2.heap.size) (R0 := wr.heap.size) (tm := 7) (tb := 9) (d := 25) hmf hRf hL4 hbx hB4 rfl (by kernel_rfl) (by kernel_rfl) (by kernel_rfl) (by kernel_rfl) rfl rfl (by simp) ⟨_, _, _, rfl⟩ ⟨_, _, _, rfl⟩ ⟨_, _, _, rfl⟩ ⟨_, _, _, rfl⟩ ⟨_, _, _, rfl⟩ ⟨_, _, _, rfl⟩ ⟨_, _, _, rfl⟩ ⟨_, _, _, rfl⟩ ⟨_, _, _, rfl⟩ ⟨_, _, _, rfl⟩ ⟨_, _, _, rfl⟩ ⟨_, _, _, rfl⟩ (by kernel_rfl) (by kernel_rfl) (by kernel_rfl) (by kernel_rfl) (by kernel_rfl) (by kernel_rfl) (by kernel_rfl) (by kernel_rfl) (by kernel_rfl) ?_
          intro V w5 vals hin5 hfar hbel5 hvals v9 v10
          have v0 := hvals 0 (by decide)
          have v1 := hvals 1 (by decide)
          have v2 := hvals 2 (by decide)
          have v3 := hvals 3 (by decide)
          have v4 := hvals 4 (by decide)
          have v5 := hvals 5 (by decide)
          have v6 := hvals 6 (by decide)
          have v7 := hvals 7 (by decide)
          have v8 := hvals 8 (by decide)
          simp [putAll, Act.put, v0, v1, v2, v3, v4, v5, v6, v7, v8, v9, v10, List.range_succ, cstG]
          have HIN5 : Hid (InM w5 w2.heap.size (w2.heap.size + 1) (l.take (k + 1))) := by
            show InM w5 w2.heap.size (w2.heap.size + 1) (l.take (k + 1))
            obtain ⟨f', h1, h2⟩ := hin5
            exact ⟨f', h1, h2.congr (partsOf_next hlt)⟩
          have HB5 := Lib.hid (HB4.out.trans (hbel5 w.heap.size (by omega) (by omega)))
          generalize (f (l[k]).nm).getD nilSl = vf
          clear v0 v1 v2 v3 v4 v5 v6 v7 v8 v9 v10 hvals hin5 hfar hbel5 HB4 hmf hRf hbx hc0 hc1
          go_wp2
          go_roundg (gk - 1)
          case measure => have := HK.out; omega
          case rel => exact ⟨k + 1, by have := HK.out; omega, by go_num, HIN5.out, HB5.out⟩
        · have hin' : InM wr w2.heap.size (w2.heap.size + 1) l := by
            rw [List.take_of_length_le (by omega)] at hin; exact hin
          clear hin
          go_wp2_with fail
          refine (whole_c _ _ l s _ hn hin').mono ?_
          rintro e w3 ⟨A3, c3, rfl, hst, hb3⟩
          have hB3 := below_trans hbel hb3
          clear hin' hb3 hbel
          go_wp2
          go_ret2
          exact GivesS2.ok HS.out hst hB3
  · have hCb : (chkW l != 0) = true := by simpa using hC
    have hres : res = ([], chkW l) := by
      have := HR.out
      rw [if_pos hC] at this
      exact this.symm
    have HS := Lib.hid hres
    clear hres hC HR
    go_enter Tryd.func21, Tryd.ntmps21
    go_wp2_with fail
    refine (checkParts_c _ _ _ _ h hz).mono ?_
    rintro e w1 ⟨rfl, hb1⟩
    go_wp2
    go_ret2
    exact GivesS2.err HS.out hb1
end Go.Proofs.YtnjepmbonhmdnaaDoor
