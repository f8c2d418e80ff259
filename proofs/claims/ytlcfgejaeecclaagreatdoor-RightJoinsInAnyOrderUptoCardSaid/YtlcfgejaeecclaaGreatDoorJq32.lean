/- slices.Clone at regions, strings, areas, shares (printed by gen_clone.py). -/
import Derived.Test.YtlcfgejaeecclaaGreatDoorJq31
import Derived.Lib.SliceRun
namespace Go.Proofs.YtlcfgejaeecclaaGreatDoor
open Go.RowKit Dw

theorem RdK.of3 {w : World} {A : Option Addr} {l : List Sh} (h : Shs w A l) : RdK (fun x : Sh => [Value.string x.pt, .string x.nu, .string x.de]) w A l := fun hl => by
  obtain ⟨b, o, rfl, hc⟩ := h hl
  refine ⟨b, o, rfl, flat_cells (k := 3) (fun _ => rfl) l o fun i hi c v hv => ?_⟩
  match c, hv with
  | 0, hv => simp at hv; subst hv; exact (hc i hi).1
  | 1, hv => simp at hv; subst hv; exact (hc i hi).2.1
  | 2, hv => simp at hv; subst hv; exact (hc i hi).2.2
/-- A copy that is the call's own (or of no elements). -/
def GivesCl {α : Type} (enc : α → List Value) (k : Nat) (e : TypeId) (L : List α) (w : World) (en : Ending) (w' : World) : Prop :=
  ∃ A c, en = .returned (.slice A L.length c) ∧ Below w.heap.size w w' ∧ (L = [] ∨ OwnL enc k w' w.heap.size e (.slice A L.length c) L)
theorem own_slice {α : Type} {enc : α → List Value} {k : Nat} {w : World} {base : Nat} {e : TypeId} {v : Value} {l : List α} (h : OwnL enc k w base e v l) : ∃ A c, v = .slice A l.length c := by
  obtain ⟨A, c, he, _⟩ := OwnL.rdk h
  exact ⟨A, c, he⟩
theorem elKR : ElemT Tryz.prog 22 43 (.agg #[.string ⟨#[]⟩, .string ⟨#[]⟩]) 2 32 := ⟨Tryz.underlying22, by kernel_rfl, rfl, by decide⟩
set_option maxRecDepth 100000 in
set_option maxHeartbeats 1000000 in
theorem cloneR_c (A : Option Addr) (c : Nat) (L : List Rg) (w : World) (hn : L.length ≤ 1000000000) (h : Rgs w A L) :
    Calls Tryz.prog 22 #[.slice A L.length c] w (GivesCl (fun x => [.string x.nm, .string x.par]) 2 43 L w) := by
  have hr : RdK (fun x => [.string x.nm, .string x.par]) w A L := RdK.of2 h
  cases A with
  | none =>
    have hL : L = [] := by
      rcases Nat.eq_zero_or_pos L.length with h0 | h0
      · exact List.eq_nil_of_length_eq_zero h0
      · obtain ⟨b, o, h1, _⟩ := hr h0
        cases h1
    subst hL
    have hq : ∀ (W : World) (x : Nat), (binOp .eql 22 (.slice none x c) (.slice none 0 0)).run Tryz.prog W = .ok (.bool true) W := fun W x => Lib.run_eql_slice_nil W _ _ none x c 0 0 Tryz.underlying22
    go_enter Tryz.func22, Tryz.ntmps22
    go_wp2
    go_ret
    exact ⟨none, 0, rfl, Below.refl _ _, .inl rfl⟩
  | some ad =>
    have hr2 : RdK (fun x => [.string x.nm, .string x.par]) (w.alloc (.cells #[] 43)) (some ad) L := fun hl => by
      obtain ⟨b, o, h1, hc⟩ := hr hl
      refine ⟨b, o, h1, fun j v hv => ?_⟩
      have h2 := hc j v hv
      rw [World.cell?_alloc_lt _ _ _ (World.block_lt_of_cell? w _ h2)]
      exact h2
    have HR := Lib.hid hr2
    have HB : Hid (Below w.heap.size w (w.alloc (.cells #[] 43))) := (Below.refl _ _).alloc (Nat.le_refl _) _
    have hown : OwnL (fun x => [.string x.nm, .string x.par]) 2 (w.alloc (.cells #[] 43)) w.heap.size 43 (.slice (some ⟨w.heap.size, 0, none⟩) 0 0) ([] : List Rg) := World.ownsRow_made w #[] 0 (Nat.le_refl _) (Nat.zero_le _) rfl
    have HO := Lib.hid hown
    clear hr hr2 hown h
    have hq : ∀ (W : World), (binOp .eql 22 (.slice (some ad) L.length c) (.slice none 0 0)).run Tryz.prog W = .ok (.bool false) W := fun W => Lib.run_eql_slice_nil W _ _ (some ad) L.length c 0 0 Tryz.underlying22
    go_enter Tryz.func22, Tryz.ntmps22
    go_wp2_with (at_builtin; refine wpList_pushK (k := 2) (enc := (fun x => [.string x.nm, .string x.par])) (fun _ => rfl) (by simp [Value.oneCell']) _ _ _ elKR rfl rfl w.heap.size _ [] rfl HO.out (some ad) _ c L rfl rfl HR.out (.inl (by simp)) (by unfold maxLen; simp; omega) (by simp; omega) (by simp) ?_)
    rintro v' w' ho' hg' hb' _
    have HB2 := Lib.hid (HB.out.trans hb')
    have HO2 := Lib.hid ho'
    obtain ⟨A', c', hv⟩ := own_slice HO2.out
    clear ho' hg' hb' HR HO HB
    subst hv
    go_wp2
    go_ret
    exact ⟨A', c', rfl, HB2.out, .inr HO2.out⟩
theorem elKS : ElemT Tryz.prog 23 9 (.string ⟨#[]⟩) 1 16 := ⟨Tryz.underlying23, by kernel_rfl, rfl, by decide⟩
set_option maxRecDepth 100000 in
set_option maxHeartbeats 1000000 in
theorem cloneS_c (A : Option Addr) (c : Nat) (L : List ByteArray) (w : World) (hn : L.length ≤ 1000000000) (h : Strs w A L) :
    Calls Tryz.prog 23 #[.slice A L.length c] w (GivesCl (fun x => [.string x]) 1 9 L w) := by
  have hr : RdK (fun x => [.string x]) w A L := RdK.of1 h
  cases A with
  | none =>
    have hL : L = [] := by
      rcases Nat.eq_zero_or_pos L.length with h0 | h0
      · exact List.eq_nil_of_length_eq_zero h0
      · obtain ⟨b, o, h1, _⟩ := hr h0
        cases h1
    subst hL
    have hq : ∀ (W : World) (x : Nat), (binOp .eql 23 (.slice none x c) (.slice none 0 0)).run Tryz.prog W = .ok (.bool true) W := fun W x => Lib.run_eql_slice_nil W _ _ none x c 0 0 Tryz.underlying23
    go_enter Tryz.func23, Tryz.ntmps23
    go_wp2
    go_ret
    exact ⟨none, 0, rfl, Below.refl _ _, .inl rfl⟩
  | some ad =>
    have hr2 : RdK (fun x => [.string x]) (w.alloc (.cells #[] 9)) (some ad) L := fun hl => by
      obtain ⟨b, o, h1, hc⟩ := hr hl
      refine ⟨b, o, h1, fun j v hv => ?_⟩
      have h2 := hc j v hv
      rw [World.cell?_alloc_lt _ _ _ (World.block_lt_of_cell? w _ h2)]
      exact h2
    have HR := Lib.hid hr2
    have HB : Hid (Below w.heap.size w (w.alloc (.cells #[] 9))) := (Below.refl _ _).alloc (Nat.le_refl _) _
    have hown : OwnL (fun x => [.string x]) 1 (w.alloc (.cells #[] 9)) w.heap.size 9 (.slice (some ⟨w.heap.size, 0, none⟩) 0 0) ([] : List ByteArray) := World.ownsRow_made w #[] 0 (Nat.le_refl _) (Nat.zero_le _) rfl
    have HO := Lib.hid hown
    clear hr hr2 hown h
    have hq : ∀ (W : World), (binOp .eql 23 (.slice (some ad) L.length c) (.slice none 0 0)).run Tryz.prog W = .ok (.bool false) W := fun W => Lib.run_eql_slice_nil W _ _ (some ad) L.length c 0 0 Tryz.underlying23
    go_enter Tryz.func23, Tryz.ntmps23
    go_wp2_with (at_builtin; refine wpList_pushK (k := 1) (enc := (fun x => [.string x])) (fun _ => rfl) (by simp [Value.oneCell']) _ _ _ elKS rfl rfl w.heap.size _ [] rfl HO.out (some ad) _ c L rfl rfl HR.out (.inl (by simp)) (by unfold maxLen; simp; omega) (by simp; omega) (by simp) ?_)
    rintro v' w' ho' hg' hb' _
    have HB2 := Lib.hid (HB.out.trans hb')
    have HO2 := Lib.hid ho'
    obtain ⟨A', c', hv⟩ := own_slice HO2.out
    clear ho' hg' hb' HR HO HB
    subst hv
    go_wp2
    go_ret
    exact ⟨A', c', rfl, HB2.out, .inr HO2.out⟩
theorem elKA : ElemT Tryz.prog 51 63 (.agg #[.string ⟨#[]⟩, .bool false]) 2 24 := ⟨Tryz.underlying51, by kernel_rfl, rfl, by decide⟩
set_option maxRecDepth 100000 in
set_option maxHeartbeats 1000000 in
theorem cloneA_c (A : Option Addr) (c : Nat) (L : List Ar) (w : World) (hn : L.length ≤ 1000000000) (h : Ars w A L) :
    Calls Tryz.prog 55 #[.slice A L.length c] w (GivesCl (fun x => [.string x.rg, .bool x.out]) 2 63 L w) := by
  have hr : RdK (fun x => [.string x.rg, .bool x.out]) w A L := RdK.of2 h
  cases A with
  | none =>
    have hL : L = [] := by
      rcases Nat.eq_zero_or_pos L.length with h0 | h0
      · exact List.eq_nil_of_length_eq_zero h0
      · obtain ⟨b, o, h1, _⟩ := hr h0
        cases h1
    subst hL
    have hq : ∀ (W : World) (x : Nat), (binOp .eql 51 (.slice none x c) (.slice none 0 0)).run Tryz.prog W = .ok (.bool true) W := fun W x => Lib.run_eql_slice_nil W _ _ none x c 0 0 Tryz.underlying51
    go_enter Tryz.func55, Tryz.ntmps55
    go_wp2
    go_ret
    exact ⟨none, 0, rfl, Below.refl _ _, .inl rfl⟩
  | some ad =>
    have hr2 : RdK (fun x => [.string x.rg, .bool x.out]) (w.alloc (.cells #[] 63)) (some ad) L := fun hl => by
      obtain ⟨b, o, h1, hc⟩ := hr hl
      refine ⟨b, o, h1, fun j v hv => ?_⟩
      have h2 := hc j v hv
      rw [World.cell?_alloc_lt _ _ _ (World.block_lt_of_cell? w _ h2)]
      exact h2
    have HR := Lib.hid hr2
    have HB : Hid (Below w.heap.size w (w.alloc (.cells #[] 63))) := (Below.refl _ _).alloc (Nat.le_refl _) _
    have hown : OwnL (fun x => [.string x.rg, .bool x.out]) 2 (w.alloc (.cells #[] 63)) w.heap.size 63 (.slice (some ⟨w.heap.size, 0, none⟩) 0 0) ([] : List Ar) := World.ownsRow_made w #[] 0 (Nat.le_refl _) (Nat.zero_le _) rfl
    have HO := Lib.hid hown
    clear hr hr2 hown h
    have hq : ∀ (W : World), (binOp .eql 51 (.slice (some ad) L.length c) (.slice none 0 0)).run Tryz.prog W = .ok (.bool false) W := fun W => Lib.run_eql_slice_nil W _ _ (some ad) L.length c 0 0 Tryz.underlying51
    go_enter Tryz.func55, Tryz.ntmps55
    go_wp2_with (at_builtin; refine wpList_pushK (k := 2) (enc := (fun x => [.string x.rg, .bool x.out])) (fun _ => rfl) (by simp [Value.oneCell']) _ _ _ elKA rfl rfl w.heap.size _ [] rfl HO.out (some ad) _ c L rfl rfl HR.out (.inl (by simp)) (by unfold maxLen; simp; omega) (by simp; omega) (by simp) ?_)
    rintro v' w' ho' hg' hb' _
    have HB2 := Lib.hid (HB.out.trans hb')
    have HO2 := Lib.hid ho'
    obtain ⟨A', c', hv⟩ := own_slice HO2.out
    clear ho' hg' hb' HR HO HB
    subst hv
    go_wp2
    go_ret
    exact ⟨A', c', rfl, HB2.out, .inr HO2.out⟩
theorem elKH : ElemT Tryz.prog 52 118 (.agg #[.string ⟨#[]⟩, .string ⟨#[]⟩, .string ⟨#[]⟩]) 3 48 := ⟨Tryz.underlying52, by kernel_rfl, rfl, by decide⟩
set_option maxRecDepth 100000 in
set_option maxHeartbeats 1000000 in
theorem cloneH_c (A : Option Addr) (c : Nat) (L : List Sh) (w : World) (hn : L.length ≤ 1000000000) (h : Shs w A L) :
    Calls Tryz.prog 56 #[.slice A L.length c] w (GivesCl (fun x => [.string x.pt, .string x.nu, .string x.de]) 3 118 L w) := by
  have hr : RdK (fun x => [.string x.pt, .string x.nu, .string x.de]) w A L := RdK.of3 h
  cases A with
  | none =>
    have hL : L = [] := by
      rcases Nat.eq_zero_or_pos L.length with h0 | h0
      · exact List.eq_nil_of_length_eq_zero h0
      · obtain ⟨b, o, h1, _⟩ := hr h0
        cases h1
    subst hL
    have hq : ∀ (W : World) (x : Nat), (binOp .eql 52 (.slice none x c) (.slice none 0 0)).run Tryz.prog W = .ok (.bool true) W := fun W x => Lib.run_eql_slice_nil W _ _ none x c 0 0 Tryz.underlying52
    go_enter Tryz.func56, Tryz.ntmps56
    go_wp2
    go_ret
    exact ⟨none, 0, rfl, Below.refl _ _, .inl rfl⟩
  | some ad =>
    have hr2 : RdK (fun x => [.string x.pt, .string x.nu, .string x.de]) (w.alloc (.cells #[] 118)) (some ad) L := fun hl => by
      obtain ⟨b, o, h1, hc⟩ := hr hl
      refine ⟨b, o, h1, fun j v hv => ?_⟩
      have h2 := hc j v hv
      rw [World.cell?_alloc_lt _ _ _ (World.block_lt_of_cell? w _ h2)]
      exact h2
    have HR := Lib.hid hr2
    have HB : Hid (Below w.heap.size w (w.alloc (.cells #[] 118))) := (Below.refl _ _).alloc (Nat.le_refl _) _
    have hown : OwnL (fun x => [.string x.pt, .string x.nu, .string x.de]) 3 (w.alloc (.cells #[] 118)) w.heap.size 118 (.slice (some ⟨w.heap.size, 0, none⟩) 0 0) ([] : List Sh) := World.ownsRow_made w #[] 0 (Nat.le_refl _) (Nat.zero_le _) rfl
    have HO := Lib.hid hown
    clear hr hr2 hown h
    have hq : ∀ (W : World), (binOp .eql 52 (.slice (some ad) L.length c) (.slice none 0 0)).run Tryz.prog W = .ok (.bool false) W := fun W => Lib.run_eql_slice_nil W _ _ (some ad) L.length c 0 0 Tryz.underlying52
    go_enter Tryz.func56, Tryz.ntmps56
    go_wp2_with (at_builtin; refine wpList_pushK (k := 3) (enc := (fun x => [.string x.pt, .string x.nu, .string x.de])) (fun _ => rfl) (by simp [Value.oneCell']) _ _ _ elKH rfl rfl w.heap.size _ [] rfl HO.out (some ad) _ c L rfl rfl HR.out (.inl (by simp)) (by unfold maxLen; simp; omega) (by simp; omega) (by simp) ?_)
    rintro v' w' ho' hg' hb' _
    have HB2 := Lib.hid (HB.out.trans hb')
    have HO2 := Lib.hid ho'
    obtain ⟨A', c', hv⟩ := own_slice HO2.out
    clear ho' hg' hb' HR HO HB
    subst hv
    go_wp2
    go_ret
    exact ⟨A', c', rfl, HB2.out, .inr HO2.out⟩
end Go.Proofs.YtlcfgejaeecclaaGreatDoor
