/- Walks over the reference of chapter 7 (parts of things): reached. -/
import Derived.Test.YtnjepmbonhmdnaaDoorWhM
import Derived.Outline
namespace Go.Proofs.YtnjepmbonhmdnaaDoor
open Go.RowKit Dw

theorem addN (b o j : Nat) : (Addr.mk b o none).add j = ⟨b, o + j, none⟩ := by
  unfold Addr.add; split <;> simp_all
/-- append of many names to a slice of the call's own, the source nil or not. -/
theorem wpList_pushL {P : Program} {α : Type} {f : α → Value} (hf : ∀ x, (f x).oneCell' = true) {ops : Array Oper} {rest : List Oper} {o : Oper} {a : Act} {w : World} {Q : Exit → Act → World → Prop}
    {e : TypeId} {z : Value} {bytes : Nat} (s x : Operand) (t : TypeId) (hT : ElemT P t e z 1 bytes) (hgd : o.guard = none) (ho : o.op = .call { callee := .builtin .append, args := #[s, x], argTypes := #[t, t] })
    (base : Nat) (v : Value) (l : List α) (hs : a.eval s = v) (hown : OwnL (fun x => [f x]) 1 w base e v l)
    (A : Option Addr) (m cp : Nat) (ys : List α) (hm : m = ys.length) (hx : a.eval x = .slice A m cp) (hr : Rd1 f w A ys)
    (hlen : l.length + ys.length ≤ maxLen) (hbytes : (l.length + ys.length) * bytes ≤ 140737488355328) (hbase : base ≤ w.heap.size)
    (h : ∀ v' w', OwnL (fun x => [f x]) 1 w' base e v' (l ++ ys) → w.grownBy w' v.ownBlock → Below base w w' → (v'.ownBlock = v.ownBlock ∨ v'.ownBlock = some w.heap.size) → wpList P ops Q rest (a.put o.dst v') w') : wpList P ops Q (o :: rest) a w := by
  obtain ⟨i, hi, hz0, hz1, hz2⟩ := info_parts hT.info
  subst hm
  have hfin : ∀ v' w', w'.ownsRow base e 1 v' (l.length + ys.length) (l.flatMap (fun x => [f x]) ++ ys.map f) → OwnL (fun x => [f x]) 1 w' base e v' (l ++ ys) := fun v' w' h1 => by
    unfold OwnL
    rw [List.length_append, List.flatMap_append, flat1 ys]
    exact h1
  have hbel : ∀ w', w.grownBy w' v.ownBlock → Below base w w' := fun w' hg => (Below.refl _ _).grown hg hbase fun j hj => (World.ownsRow.lt hown j hj).1
  cases A with
  | none =>
    have hy : ys = [] := by
      rcases Nat.eq_zero_or_pos ys.length with h0 | h0
      · exact List.eq_nil_of_length_eq_zero h0
      · obtain ⟨b, o, h1, _⟩ := hr h0
        cases h1
    subst hy
    refine wpList_plain hgd fun _ hK => ?_
    have hrun : (Builtin.append_ #[t, t] o.type #[v, .slice none 0 cp]).run P w = .ok v w := by
      rcases hown.2 with ⟨rfl, _⟩ | ⟨g, cap, cur, rfl, _, _, hnc, _⟩
      · simp [Builtin.append_, run_underlying hT.ty, sizeOf, typeInfo, hi, Builtin.lenOf, Builtin.firstCells]
      · simp [Builtin.append_, run_underlying hT.ty, sizeOf, typeInfo, hi, Builtin.lenOf, Builtin.firstCells, hnc, storeCells]
    unfold Oper.wp execOp
    simp only [List.length_nil] at hx
    simp only [ho, resolve, invoke, builtin, Sem.run_bind, Sem.run_pure, Result.andThen_ok, List.map_toArray, List.map_cons, List.map_nil, hs, hx, hrun]
    exact hK _ _ (h v w (by simpa using hown) (World.grownBy.refl w _) (hbel w (World.grownBy.refl w _)) (.inl rfl))
  | some ad =>
    refine wpList_append_own_at _ hgd s x t ho base e i z 1 bytes hT.ty hi hz0 hz1 hz2 hT.zs hT.pos v l.length _ hs hown ad ys.length cp (ys.map f) hx (by simp) ?_ ?_ hlen hbytes hbase ?_
    · intro j u hj
      rw [List.getElem?_map] at hj
      have hjl : j < ys.length := by
        refine Nat.lt_of_not_ge fun hge => ?_
        rw [List.getElem?_eq_none hge] at hj; cases hj
      obtain ⟨b, o, h1, hc⟩ := hr (by omega)
      injection h1 with h1
      subst h1
      rw [List.getElem?_eq_getElem hjl] at hj
      simp only [Option.map_some, Option.some.injEq] at hj
      rw [← hj, addN]
      exact hc j hjl
    · intro u hu
      obtain ⟨y, _, rfl⟩ := List.mem_map.1 hu
      exact hf y
    · intro v' w' h1 h2 _ h4
      exact h v' w' (hfin v' w' h1) h2 (hbel w' h2) h4

theorem hasQ (A : Option Addr) (c : Nat) (l : List ByteArray) (s : ByteArray) (w : World) (hn : l.length ≤ 1000000) (h : Strs w A l) :
    Calls Tryd.prog 37 #[.slice A l.length c, .string s] w fun e w' => e = .returned (.bool (memS l s)) ∧ w' = w :=
  (has_c A c l s w hn h).mono fun _ _ ⟨a, b⟩ => ⟨a, b.symm⟩

def RchRel (w : World) (l : List Rg) (s : ByteArray) (m : Nat) (found i : Value) (wr : World) : Prop :=
  ∃ (k : Nat) (out : List ByteArray), k + m = l.length + 2 ∧ i = .int .i64 k ∧ FoundP l s out ∧ bfs l m out k = reach l s ∧ k ≤ out.length ∧ OwnL encS 1 wr w.heap.size 9 found out ∧ Below w.heap.size w wr
def RchIn (w : World) (l : List Rg) (out : List ByteArray) (x : ByteArray) (m : Nat) (found j : Value) (wr : World) : Prop :=
  ∃ k : Nat, k + m = l.length ∧ j = .int .i64 k ∧ OwnL encS 1 wr w.heap.size 9 found (addAll out (partsOf (l.take k) x)) ∧ Below w.heap.size w wr
def InsRel (w : World) (F : List ByteArray) (AF : Option Addr) (m : Nat) (out i : Value) (wr : World) : Prop :=
  ∃ k : Nat, k + m = F.length ∧ i = .int .i64 k ∧ OwnL encS 1 wr w.heap.size 9 out (insAll (F.take k)) ∧ Strs wr AF F ∧ Below w.heap.size w wr

def PosRel (w0 : World) (x : ByteArray) (cur : List ByteArray) (m : Nat) (j : Value) (wr : World) : Prop :=
  (∃ n, wr = w0.drewN n) ∧ j = .int .i64 m ∧ m ≤ cur.length ∧ insAt x cur m = insAt x cur cur.length
theorem ownL_cap {α : Type} {enc : α → List Value} {k : Nat} {w : World} {base : Nat} {e : TypeId} {l : List α} {A : Option Addr} {n c : Nat} (h : OwnL enc k w base e (.slice A n c) l) : l.length ≤ c := by
  rcases h.2 with ⟨h1, h2⟩ | ⟨g, cap, cur, h1, _, _, hnc, _⟩
  · rw [h2]; exact Nat.zero_le _
  · injection h1 with _ _ h1
    omega
theorem ownL_base {α : Type} {enc : α → List Value} {k : Nat} {w : World} {base base' : Nat} {e : TypeId} {v : Value} {l : List α} (h : OwnL enc k w base e v l) (hb : base' ≤ base) : OwnL enc k w base' e v l := by
  refine ⟨h.1, ?_⟩
  rcases h.2 with hn | ⟨g, cap, cur, h1, h2, rest⟩
  · exact .inl hn
  · exact .inr ⟨g, cap, cur, h1, by omega, rest⟩
theorem rd1_cutTo {α : Type} {f : α → Value} {w : World} {A : Option Addr} {l : List α} (h : Rd1 f w A l) (k : Nat) : Rd1 f w A (l.take k) := fun hl => by
  have hk : 0 < l.length := by rw [List.length_take] at hl; omega
  obtain ⟨b, o, rfl, hc⟩ := h hk
  refine ⟨b, o, rfl, fun i hi => ?_⟩
  rw [List.getElem_take]
  exact hc i (by rw [List.length_take] at hi; omega)
theorem rd1_cutFrom {α : Type} {f : α → Value} {w : World} {A : Option Addr} {l : List α} (h : Rd1 f w A l) {k c : Nat} (hc : l.length ≤ c) : Rd1 f w (if c = k then A else A.map (·.add k)) (l.drop k) := fun hl => by
  have hk : k < l.length := by rw [List.length_drop] at hl; omega
  obtain ⟨b, o, rfl, hcl⟩ := h (by omega)
  rw [if_neg (by omega)]
  refine ⟨b, o + k, by simp only [Option.map_some, addN], fun i hi => ?_⟩
  rw [List.getElem_drop, Nat.add_assoc]
  exact hcl (k + i) (by rw [List.length_drop] at hi; omega)
theorem elemS : Tryd.prog.underlying 24 = some (.slice (Tryd.prog.elem 24)) := by kernel_rfl
theorem run_cutTo (A : Option Addr) (n c k : Nat) (hk : k ≤ c) (W : World) : (Instr.slice 24 (.slice A n c) none (some (.int .i64 (k : Int))) none).run Tryd.prog W = .ok (.slice A k c) W := by
  have h0 : (0 : Int) ≤ (k : Int) ∧ (k : Int) ≤ (c : Int) := by omega
  rw [run_slice_h (ht := elemS) (kh := .i64) (h := (k : Int)) (h0 := h0.1) (h2 := h0.2)]
  have hs : (sizeOf (Tryd.prog.elem 24)).run Tryd.prog W = .ok 1 W := by kernel_rfl
  rw [hs]
  have : (A.map fun x => x.add 0) = A := by cases A <;> simp [Addr.add]
  simp [sliced, Result.andThen, this]
theorem run_cutFrom (A : Option Addr) (n c k : Nat) (hk : k ≤ n) (W : World) : (Instr.slice 24 (.slice A n c) (some (.int .i64 (k : Int))) none none).run Tryd.prog W = .ok (.slice (if c = k then A else A.map (·.add k)) (n - k) (c - k)) W := by
  have h0 : (0 : Int) ≤ (k : Int) ∧ (k : Int) ≤ (n : Int) := by omega
  rw [run_slice_l (ht := elemS) (kl := .i64) (l := (k : Int)) (h0 := h0.1) (h1 := h0.2)]
  have hs : (sizeOf (Tryd.prog.elem 24)).run Tryd.prog W = .ok 1 W := by kernel_rfl
  rw [hs]
  simp [sliced, Result.andThen]
theorem not_sle_of_slt {x y : ByteArray} (h : slt x y = true) : Op.bytesLess y.toList x.toList = false ∧ (y.toList == x.toList) = false :=
  ⟨slt_asymm h, beq_of_ne fun e => ne_of_slt h e.symm⟩
theorem sle_of_not_slt {x y : ByteArray} (h : slt x y = false) : Op.bytesLess y.toList x.toList = true ∨ (Op.bytesLess y.toList x.toList = false ∧ (y.toList == x.toList) = true) := by
  cases hb : Op.bytesLess y.toList x.toList with
  | true => exact .inl rfl
  | false => exact .inr ⟨rfl, beq_of_eq (slt_antisymm hb h)⟩
theorem own_one (w : World) (s : ByteArray) : OwnL encS 1 (w.alloc (.cells #[.string s] 9)) w.heap.size 9 (.slice (some ⟨w.heap.size, 0, none⟩) 1 1) [s] :=
  ⟨by simp, .inr ⟨w.heap.size, 1, #[.string s], rfl, Nat.le_refl _, heap_alloc_new _ _, by simp, by simp [maxLen], by simp, by simp⟩⟩

set_option maxHeartbeats 2000000 in
theorem reached_c (A : Option Addr) (c : Nat) (l : List Rg) (s : ByteArray) (w : World) (hn : l.length ≤ 500) (h : Rgs w A l) :
    Calls Tryd.prog 38 #[.slice A l.length c, .string s] w (GivesS (sortS (reach l s)) w) := by
  go_enter Tryd.func38, Tryd.ntmps38
  go_wp2
  go_loopg [5, 6] (l.length + 2) (RchRel w l s)
  case atStart => exact ⟨0, [s], by omega, rfl, FoundP.one l s, rfl, by simp, own_one w s, (Below.refl _ _).alloc (Nat.le_refl _) _⟩
  case round =>
    obtain ⟨g1, hg1⟩ : ∃ g1, g1 = gk := ⟨_, rfl⟩
    subst hg1
    obtain ⟨ki, out, hk, rfl, hF, hbfs, hko, hown, hbel⟩ := hrel
    have hle := hF.le
    obtain ⟨A5, c5, rfl, hrd⟩ := hown.rd1
    have HK := Lib.hid hk
    have HF := Lib.hid hF
    have HBF := Lib.hid hbfs
    have HO := Lib.hid hown
    have HB := Lib.hid hbel
    have HRD5 := Lib.hid hrd
    have hwr : w.heap.size ≤ wr.heap.size := hbel.size
    clear hk hF hbfs hown hbel hrd
    by_cases hlt : ki < out.length
    · go_wp2
      go_loopg [5, 7] l.length (RchIn w l out out[ki])
      case atStart => exact ⟨0, by omega, rfl, HO.out, HB.out⟩
      case round =>
        obtain ⟨k, hk2, rfl, hown, hbel⟩ := hrel
        have hcl : (addAll out (partsOf (l.take k) out[ki])).length ≤ 501 := by
          have := (HF.out.takeL out[ki] k).le
          omega
        have hkic : ki < (addAll out (partsOf (l.take k) out[ki])).length := Nat.lt_of_lt_of_le hlt (addAll_len _ _)
        have hx : (addAll out (partsOf (l.take k) out[ki]))[ki] = out[ki] := addAll_get hlt
        have HST : Hid (∀ hk : k < l.length, addAll out (partsOf (l.take (k + 1)) out[ki]) = if (l[k]).nm = out[ki] then addNew (addAll out (partsOf (l.take k) out[ki])) (l[k]).par else addAll out (partsOf (l.take k) out[ki])) := by
          show ∀ hk : k < l.length, _ = _
          intro hk
          by_cases e : (l[k]).nm = out[ki]
          · rw [if_pos e, partsOf_snoc_yes hk e, addAll_snoc]
          · rw [if_neg e, partsOf_snoc_no hk e]
        generalize hcur : addAll out (partsOf (l.take k) out[ki]) = cur at *
        generalize hxo : out[ki] = x at *
        have HXO := Lib.hid hxo
        clear hxo
        obtain ⟨A6, c6, rfl, hrd⟩ := hown.rd1
        obtain ⟨b6, o6, rfl, hb6, hc6⟩ := hrd.at_ (by omega)
        have hci : wr.cell? ⟨b6, o6 + ki, none⟩ = some (.string x) := by rw [← hx]; exact hc6 ki hkic
        have hwr2 : w.heap.size ≤ wr.heap.size := hbel.size
        have hk3 : k ≤ l.length := by omega
        have HK2 := Lib.hid hk2
        have HCUR := Lib.hid hcur
        have HRD := Lib.hid hrd
        clear hk2 hx hcur hc6 hrd HO HB
        by_cases hlt2 : k < l.length
        · obtain ⟨b, o, rfl, hb, hc⟩ := h.at_ (by omega)
          have hc0 : wr.cell? ⟨b, o + k * 2, none⟩ = some (.string (l[k]).nm) := (hbel.cell hb).trans (hc k hlt2).1
          have hc1 : wr.cell? ⟨b, o + k * 2 + 1, none⟩ = some (.string (l[k]).par) := (hbel.cell hb).trans (hc k hlt2).2
          have HS1 := Lib.hid (HST.out hlt2)
          clear HST hc
          by_cases hq : (l[k]).nm = x
          · have hqb := beq_of_eq hq
            have HQ := Lib.hid hq
            clear hq
            cases hm : memS cur (l[k]).par with
            | true =>
              have hcon : ∀ n, Calls Tryd.prog 37 #[.slice (some ⟨b6, o6, none⟩) cur.length c6, .string (l[k]).par] (wr.drewN n) fun e w' => e = .returned (.bool true) ∧ w' = wr.drewN n := fun n => by
                have := hasQ _ c6 cur (l[k]).par (wr.drewN n) (by omega) (HRD.out.drewN n)
                rw [hm] at this; exact this
              have HCON := Lib.hid hcon
              have HM := Lib.hid hm
              have HO := Lib.hid hown
              have HB := Lib.hid hbel
              clear hcon hm hown hbel
              go_wp2
              go_quiet ((go_at_call 37; exact Calls.quiet_of_same (HCON.out _)))
              go_wp2
              go_roundg (gk - 1)
              case measure => have := HK2.out; omega
              case rel => exact ⟨k + 1, by have := HK2.out; omega, by go_num, by rw [HS1.out, if_pos HQ.out, addNew_yes HM.out]; exact HO.out, below_drewN HB.out _⟩
            | false =>
              have hcon : ∀ n, Calls Tryd.prog 37 #[.slice (some ⟨b6, o6, none⟩) cur.length c6, .string (l[k]).par] (wr.drewN n) fun e w' => e = .returned (.bool false) ∧ w' = wr.drewN n := fun n => by
                have := hasQ _ c6 cur (l[k]).par (wr.drewN n) (by omega) (HRD.out.drewN n)
                rw [hm] at this; exact this
              have HCON := Lib.hid hcon
              have HM := Lib.hid hm
              clear hcon hm
              go_wp2
              go_quiet ((go_at_call 37; exact Calls.quiet_of_same (HCON.out _)))
              go_wp2_with (at_builtin; refine wpList_push _ _ _ elStr rfl rfl w.heap.size _ cur rfl ((hown.alloc _).drewN _) wr.heap.size 1 (l[k]).par rfl (heap_alloc_new _ _) rfl (by simp [Value.oneCell']) (by unfold maxLen; omega) (by omega) (by simp; omega) ?_; intro v1 w1 hown1 hg1 hb1)
              have HO := Lib.hid hown1
              have hbel1 := (below_drewN (hbel.alloc hwr2 _) _).trans hb1
              have HB := Lib.hid hbel1
              clear hown hown1 hg1 hb1 hbel hbel1
              go_wp2
              go_roundg (gk - 1)
              case measure => have := HK2.out; omega
              case rel => exact ⟨k + 1, by have := HK2.out; omega, by go_num, by rw [HS1.out, if_pos HQ.out, addNew_no HM.out]; exact HO.out, HB.out⟩
          · have hqb := beq_of_ne hq
            have HQ := Lib.hid hq
            have HO := Lib.hid hown
            have HB := Lib.hid hbel
            clear hq hown hbel
            go_wp2
            go_quiet (fail)
            go_wp2
            go_roundg (gk - 1)
            case measure => have := HK2.out; omega
            case rel => exact ⟨k + 1, by have := HK2.out; omega, by go_num, by rw [HS1.out, if_neg HQ.out]; exact HO.out, below_drewN HB.out _⟩
        · have HO := Lib.hid hown
          have HB := Lib.hid hbel
          have HE : Hid (growS l out x = cur) := by
            show growS l out x = cur
            rw [← HCUR.out, List.take_of_length_le (by omega)]; rfl
          clear hown hbel
          go_wp2
          go_roundg (g1 - 1)
          case measure => have := HK.out; omega
          case rel =>
            refine ⟨ki + 1, cur, by have := HK.out; omega, by go_num, ?_, ?_, by omega, HO.out, HB.out⟩
            · rw [← HE.out]; exact HF.out.grow x
            · have h1 := HBF.out
              rw [show g1 = (g1 - 1) + 1 by have := HK.out; omega, bfs_step hlt, HXO.out, HE.out] at h1
              exact h1
    · have HR : Hid (reach l s = out) := by
        show reach l s = out
        rw [← HBF.out]; exact bfs_end hlt
      clear HBF HK
      have hol : out.length ≤ 501 := by omega
      clear hko hle HF
      go_wp2
      go_loopg [8, 9] out.length (InsRel w out A5)
      case atStart => exact ⟨0, by omega, rfl, OwnL.nil _ _ _ _ _, HRD5.out, HB.out⟩
      clear hlt HO HB hwr HRD5
      case round =>
        obtain ⟨g2, hg2⟩ : ∃ g2, g2 = gk := ⟨_, rfl⟩
        subst hg2
        obtain ⟨k, hk, rfl, hown, hF, hbel⟩ := hrel
        have hil : (insAll (out.take k)).length ≤ 501 := by
          unfold insAll; rw [insAll_len, List.length_take]; simp; omega
        have HST : Hid (∀ hk : k < out.length, insAll (out.take (k + 1)) = insS (insAll (out.take k)) out[k]) := fun hk => insAll_take hk
        generalize hcur : insAll (out.take k) = cur at *
        obtain ⟨A8, c8, rfl, hrd⟩ := hown.rd1
        have hwr2 : w.heap.size ≤ wr.heap.size := hbel.size
        have hk1 : k ≤ out.length := by omega
        have HK := Lib.hid hk
        have HCUR := Lib.hid hcur
        have HB := Lib.hid hbel
        have HOF := Lib.hid hF
        clear hk hcur hbel hF
        by_cases hlt : k < out.length
        · obtain ⟨b5, o5, rfl, hb5, hc5⟩ := HOF.out.at_ (by omega)
          have hck : wr.cell? ⟨b5, o5 + k, none⟩ = some (.string out[k]) := hc5 k hlt
          have hcc := ownL_cap hown
          have HS1 := Lib.hid (HST.out hlt)
          generalize out[k] = x at *
          obtain ⟨wo, hwo⟩ : ∃ wo : World, wo = wr := ⟨_, rfl⟩
          subst hwo
          clear hc5 HST
          go_wp2
          go_loopg [10] cur.length (PosRel wo x cur)
          case atStart => exact ⟨⟨0, rfl⟩, rfl, Nat.le_refl _, rfl⟩
          case round =>
            obtain ⟨⟨n, hw⟩, rfl, hgl, hat⟩ := hrel
            subst hw
            have HAT := Lib.hid hat
            clear hat
            by_cases hgo : 0 < gk ∧ slt x (cur.getD (gk - 1) emp) = true
            · obtain ⟨h0, hsl⟩ := hgo
              obtain ⟨b8, o8, rfl, hb8, hc8⟩ := hrd.at_ (by omega)
              have hq : gk - 1 < cur.length := by omega
              rw [List.getD_eq_getElem?_getD, List.getElem?_eq_getElem hq, Option.getD_some] at hsl
              have hcq : wo.cell? ⟨b8, o8 + (gk - 1), none⟩ = some (.string cur[gk - 1]) := hc8 (gk - 1) hq
              have hd : decide ((0 : Int) < (gk : Int)) = true := by simp; omega
              obtain ⟨hl1, hl2⟩ := not_sle_of_slt hsl
              have HSL := Lib.hid hsl
              clear hc8 hsl
              go_wp2
              go_quiet (fail)
              go_wp2
              go_roundg (gk - 1)
              case measure => omega
              case rel =>
                refine ⟨⟨_, rfl⟩, by go_num, by omega, ?_⟩
                rw [← HAT.out]
                obtain ⟨q, rfl⟩ : ∃ q, gk = q + 1 := ⟨gk - 1, by omega⟩
                rw [insAt, if_pos]
                · rfl
                · rw [List.getD_eq_getElem?_getD, List.getElem?_eq_getElem (by omega)]; exact HSL.out
            · have HIP : Hid (insAt x cur cur.length = gk) := by
                show insAt x cur cur.length = gk
                rw [← HAT.out]
                cases hg : gk with
                | zero => rfl
                | succ q =>
                  rw [insAt, if_neg]
                  intro e
                  exact hgo ⟨by omega, by rw [hg]; exact e⟩
              have hcut := fun W => run_cutTo A8 cur.length c8 gk (by omega) W
              have hrest := rd1_cutFrom (k := gk) hrd hcc
              have hcut2 := fun W => run_cutFrom A8 cur.length c8 gk hgl W
              generalize (if c8 = gk then A8 else A8.map (·.add gk)) = AF at *
              have HREST := Lib.hid hrest
              have HCT := Lib.hid (rd1_cutTo hrd gk)
              have hstop : ¬ 0 < gk ∨ (0 < gk ∧ ∃ b8 o8, A8 = some ⟨b8, o8, none⟩ ∧ ∃ y : ByteArray, wo.cell? ⟨b8, o8 + (gk - 1), none⟩ = some (.string y) ∧ (Op.bytesLess y.toList x.toList = true ∨ (Op.bytesLess y.toList x.toList = false ∧ (y.toList == x.toList) = true))) := by
                by_cases h0 : 0 < gk
                · right
                  refine ⟨h0, ?_⟩
                  obtain ⟨b8, o8, e8, hb8, hc8⟩ := hrd.at_ (by omega)
                  have hq : gk - 1 < cur.length := by omega
                  refine ⟨b8, o8, e8, cur[gk - 1], hc8 _ hq, sle_of_not_slt ?_⟩
                  cases hs : slt x cur[gk - 1] with
                  | false => rfl
                  | true =>
                    exfalso
                    exact hgo ⟨h0, by rw [List.getD_eq_getElem?_getD, List.getElem?_eq_getElem hq]; exact hs⟩
                · exact .inl h0
              clear hgo hrd hrest HAT
              rcases hstop with h0 | ⟨h0, b8, o8, rfl, y, hcy, hl1 | ⟨hl1, hl2⟩⟩
              all_goals first | have hd : decide ((0 : Int) < (gk : Int)) = true := by (simp; omega) | have hd : decide ((0 : Int) < (gk : Int)) = false := by (simp; omega)
              all_goals
                go_wp2
                go_quiet (fail)
                go_wp2_with (first
                  | (at_builtin; refine wpList_pushL (f := Value.string) (fun _ => rfl) (.tmp 78) (.tmp 81) _ elStr rfl rfl wo.heap.size _ [] rfl (OwnL.nil _ _ _ _ _) _ gk c8 (cur.take gk) (by rw [List.length_take]; omega) rfl HCT.out (by unfold maxLen; simp; omega) (by simp; omega) (Nat.le_refl _) ?_; intro v1 w1 hown1 hg1 hb1 hat1; have hck1 : w1.cell? ⟨b5, o5 + k, none⟩ = some (.string x) := (hb1.cell hb5).trans hck; have hz1 : wo.heap.size ≤ w1.heap.size := hb1.size; have HB01 := Lib.hid ((below_drewN (Below.refl wo.heap.size wo) _).trans hb1); clear hg1 hat1 hb1 hck)
                  | (at_builtin; refine wpList_push (.tmp 83) (.tmp 88) _ elStr rfl rfl wo.heap.size _ ([] ++ cur.take gk) rfl (hown1.alloc _) w1.heap.size 1 x rfl (heap_alloc_new _ _) rfl (by simp [Value.oneCell']) (by unfold maxLen; simp; omega) (by simp; omega) (by simp; omega) ?_; intro v2 w2 hown2 hg2 hb2; have HB02 := Lib.hid ((HB01.out.alloc hz1 _).trans hb2); have hrd2 : Strs w2 AF (cur.drop gk) := HREST.out.below HB02.out; have hz2 : wo.heap.size ≤ w2.heap.size := HB02.out.size; clear hown1 hg2 hb2 hck1)
                  | (at_builtin; refine wpList_pushL (f := Value.string) (fun _ => rfl) (.tmp 90) (.tmp 93) _ elStr rfl rfl wo.heap.size _ ([] ++ cur.take gk ++ [x]) rfl hown2 AF (cur.length - gk) (c8 - gk) (cur.drop gk) (by rw [List.length_drop]) rfl hrd2 (by unfold maxLen; simp; omega) (by simp; omega) hz2 ?_; intro v3 w3 hown3 hg3 hb3 hat3; have HB03 := Lib.hid (HB02.out.trans hb3); have HO3 := Lib.hid hown3; clear hown2 hown3 hg3 hat3 hb3 hrd2))
                go_roundg (g2 - 1)
                case measure => have := HK.out; omega
                case rel =>
                  refine ⟨k + 1, by have := HK.out; omega, by go_num, ?_, HOF.out.below HB03.out, HB.out.trans (HB03.out.mono hwr2)⟩
                  rw [HS1.out]
                  have e : insS cur x = [] ++ cur.take gk ++ [x] ++ cur.drop gk := by
                    unfold insS; rw [HIP.out]; simp
                  rw [e]
                  exact ownL_base HO3.out hwr2
        · go_wp2
          go_ret
          have e : cur = sortS out := by rw [← HCUR.out, List.take_of_length_le (by omega), insAll_sortS]
          rw [HR.out, ← e]
          exact ⟨A8, c8, rfl, hrd, HB.out⟩
end Go.Proofs.YtnjepmbonhmdnaaDoor
