/- Package shelf: what a thing uses. -/
import Derived.Test.YtfninfgohiipjaaGreatDoorLbY
namespace Go.Proofs.YtfninfgohiipjaaGreatDoor
open Go.RowKit Dw

theorem look2 {w : World} {r : Nat} {T : List Th} (h : IdxM w r T) (id : Int) : (Instr.lookup 117 (.map (some r)) (.int .i64 id) true).run Tryz.prog w = .ok (.tuple #[((thAt T id).map thV).getD thZ, .bool ((thAt T id).map thV).isSome]) w := by
  have := run_lookup_map tIdx kInt zThing h.map id true
  simpa using this
theorem look1 {w : World} {r : Nat} {T : List Th} (h : IdxM w r T) (id : Int) : (Instr.lookup 117 (.map (some r)) (.int .i64 id) false).run Tryz.prog w = .ok (((thAt T id).map thV).getD thZ) w := by
  have := run_lookup_map tIdx kInt zThing h.map id false
  simpa using this
theorem BoxT.alloc {w : World} {g : Nat} {t : Th} (h : BoxT w g t) (o : Obj) : BoxT (w.alloc o) g t := (Below.heap_alloc w o g h.lt).trans h
theorem fldZ (W : World) : (Instr.field 54 thZ 5).run Tryz.prog W = .ok (.int .i64 0) W := by kernel_rfl
theorem fldV (x : Th) (W : World) : (Instr.field 54 (thV x) 5).run Tryz.prog W = .ok (.int .i64 x.parent) W := by kernel_rfl
theorem partF_none {T : List Th} {id : Int} {l : List Int} (h : thAt T id = none) : partF T (id :: l) = 9 := by rw [partF, h]
theorem partF_bad {T : List Th} {id : Int} {l : List Int} {x : Th} (h : thAt T id = some x) (hk : x.kind ≠ 2) : partF T (id :: l) = 6 := by rw [partF, h]; simp [hk]
theorem partF_ok {T : List Th} {id : Int} {l : List Int} {x : Th} (h : thAt T id = some x) (hk : x.kind = 2) : partF T (id :: l) = partF T l := by rw [partF, h]; simp [hk]

def PtRel (w : World) (r : Nat) (T : List Th) (t : Th) (m : Nat) (i : Value) (wr : World) : Prop :=
  ∃ k : Nat, k + m = t.parts.length ∧ i = .int .i64 k ∧ partF T (t.parts.drop k) = partF T t.parts ∧ BoxT wr w.heap.size t ∧ IdxM wr r T ∧ Below w.heap.size w wr
def LpRel (T : List Th) (t : Th) (w0 : World) (m : Nat) (at_ i : Value) (wr : World) : Prop :=
  w0 = wr ∧ ∃ k : Nat, k + m = T.length ∧ i = .int .i64 k ∧ at_ = .int .i64 (parN T k t.parent) ∧ ∀ j, j < k → parN T j t.parent ≠ t.id

theorem upF_none {T : List Th} {t : Th} (h0 : t.parent ≠ 0) (h : thAt T t.parent = none) : upF T t = 9 := by unfold upF; rw [if_neg h0, h]
theorem upF_some {T : List Th} {t p : Th} (h0 : t.parent ≠ 0) (h : thAt T t.parent = some p) : upF T t = if p.kind ≠ (if t.kind = 4 then 3 else 1) then 6 else 0 := by unfold upF; rw [if_neg h0, h]

set_option maxRecDepth 100000 in
set_option maxHeartbeats 2000000 in
theorem checkLinks_c (r : Nat) (T : List Th) (t : Th) (w : World) (hx : IdxM w r T) (hp : Ints w t.pA t.parts) (hn : T.length ≤ 300) (hpl : t.parts.length ≤ 9223372036854775807) :
    Calls Tryz.prog 69 #[.map (some r), thV t] w (GivesB (.int .i64 (lnkF T t)) w) := by
  generalize hres : lnkF T t = res
  have HR := Lib.hid hres
  clear hres
  unfold lnkF at HR
  have HBX : Hid (BoxT (w.alloc (.cells #[.int .i64 t.id, .int .i64 t.kind, .string t.title, .string t.code, .int .i64 t.since, .int .i64 t.parent, .slice t.pA t.parts.length t.pc] 54)) w.heap.size t) := heap_alloc_new _ _
  have HBB : Hid (Below w.heap.size w (w.alloc (.cells #[.int .i64 t.id, .int .i64 t.kind, .string t.title, .string t.code, .int .i64 t.since, .int .i64 t.parent, .slice t.pA t.parts.length t.pc] 54))) := (Below.refl _ _).alloc (Nat.le_refl _) _
  have HX := Lib.hid (hx.alloc (.cells #[.int .i64 t.id, .int .i64 t.kind, .string t.title, .string t.code, .int .i64 t.since, .int .i64 t.parent, .slice t.pA t.parts.length t.pc] 54))
  have hlk := look2 HX.out t.parent
  clear hx
  by_cases h0 : t.parent = 0
  case' pos =>
    have hb0 : (t.parent != 0) = false := by simpa using h0
    have HU : Hid (upF T t = 0) := by show upF T t = 0; unfold upF; rw [if_pos h0]
    clear hlk h0
    go_enter Tryz.func69, Tryz.ntmps69
    go_wp2
  case' neg =>
    have hb0 : (t.parent != 0) = true := by simpa using h0
    rcases hta : thAt T t.parent with _ | p
    · rw [hta] at hlk
      have hlk' : (Instr.lookup 117 (.map (some r)) (.int .i64 t.parent) true).run Tryz.prog (w.alloc (.cells #[.int .i64 t.id, .int .i64 t.kind, .string t.title, .string t.code, .int .i64 t.since, .int .i64 t.parent, .slice t.pA t.parts.length t.pc] 54)) = .ok (.tuple #[thZ, .bool false]) (w.alloc (.cells #[.int .i64 t.id, .int .i64 t.kind, .string t.title, .string t.code, .int .i64 t.since, .int .i64 t.parent, .slice t.pA t.parts.length t.pc] 54)) := hlk
      have HS : Hid (res = 9) := by
        show res = 9
        rw [← HR.out, upF_none h0 hta]; rfl
      clear hlk hta h0
      by_cases h4 : t.kind = 4
      · have h4b : (t.kind == 4) = true := by simpa using h4
        clear h4
        go_enter Tryz.func69, Tryz.ntmps69
        go_wp2
        go_ret
        exact GivesB.mk (vint HS.out.symm) (HBB.out.alloc (by simp) _)
      · have h4b : (t.kind == 4) = false := by simpa using h4
        clear h4
        go_enter Tryz.func69, Tryz.ntmps69
        go_wp2
        go_ret
        exact GivesB.mk (vint HS.out.symm) (HBB.out.alloc (by simp) _)
    rw [hta] at hlk
    have hlk' : (Instr.lookup 117 (.map (some r)) (.int .i64 t.parent) true).run Tryz.prog (w.alloc (.cells #[.int .i64 t.id, .int .i64 t.kind, .string t.title, .string t.code, .int .i64 t.since, .int .i64 t.parent, .slice t.pA t.parts.length t.pc] 54)) = .ok (.tuple #[thV p, .bool true]) (w.alloc (.cells #[.int .i64 t.id, .int .i64 t.kind, .string t.title, .string t.code, .int .i64 t.since, .int .i64 t.parent, .slice t.pA t.parts.length t.pc] 54)) := hlk
    have HUP := Lib.hid (upF_some h0 hta)
    have hi2 := Lib.hid (HBX.out.alloc (.cells #[.int .i64 p.id, .int .i64 p.kind, .string p.title, .string p.code, .int .i64 p.since, .int .i64 p.parent, .slice p.pA p.parts.length p.pc] 54))
    have hi3 := Lib.hid (HBB.out.alloc (by simp) (.cells #[.int .i64 p.id, .int .i64 p.kind, .string p.title, .string p.code, .int .i64 p.since, .int .i64 p.parent, .slice p.pA p.parts.length p.pc] 54))
    have hi4 := Lib.hid (HX.out.alloc (.cells #[.int .i64 p.id, .int .i64 p.kind, .string p.title, .string p.code, .int .i64 p.since, .int .i64 p.parent, .slice p.pA p.parts.length p.pc] 54))
    clear hlk hta h0 HBX HBB HX
    have HBX := hi2
    have HBB := hi3
    have HX := hi4
    clear hi2 hi3 hi4
    by_cases h4 : t.kind = 4
    case' pos =>
      have h4b : (t.kind == 4) = true := by simpa using h4
      have hu := HUP.out
      rw [if_pos h4] at hu
      clear h4 HUP
      by_cases hpk : p.kind = 3
      case neg =>
        have hpb : (p.kind != 3) = true := by simpa using hpk
        rw [if_pos hpk] at hu
        have HS : Hid (res = 6) := by show res = 6; rw [← HR.out, hu]; rfl
        clear hpk hu
        go_enter Tryz.func69, Tryz.ntmps69
        go_wp2
        go_ret
        exact GivesB.mk (vint HS.out.symm) HBB.out
      have hpb : (p.kind != 3) = false := by simpa using hpk
      rw [if_neg (by intro h; exact h hpk)] at hu
      have HU := Lib.hid hu
      clear hu hpk
      go_enter Tryz.func69, Tryz.ntmps69
      go_wp2
    case' neg =>
      have h4b : (t.kind == 4) = false := by simpa using h4
      have hu := HUP.out
      rw [if_neg h4] at hu
      clear h4 HUP
      by_cases hpk : p.kind = 1
      case neg =>
        have hpb : (p.kind != 1) = true := by simpa using hpk
        rw [if_pos hpk] at hu
        have HS : Hid (res = 6) := by show res = 6; rw [← HR.out, hu]; rfl
        clear hpk hu
        go_enter Tryz.func69, Tryz.ntmps69
        go_wp2
        go_ret
        exact GivesB.mk (vint HS.out.symm) HBB.out
      have hpb : (p.kind != 1) = false := by simpa using hpk
      rw [if_neg (by intro h; exact h hpk)] at hu
      have HU := Lib.hid hu
      clear hu hpk
      go_enter Tryz.func69, Tryz.ntmps69
      go_wp2
  all_goals
    have hr1 := HR.out
    rw [if_neg (by rw [HU.out]; simp)] at hr1
    have HR1 := Lib.hid hr1
    clear hr1 HU
    go_loopg [35] t.parts.length (PtRel w r T t)
    case atStart => exact ⟨0, by omega, rfl, rfl, HBX.out, HX.out, HBB.out⟩
    case round =>
      obtain ⟨k, hk, rfl, hpf, hbx, hix, hbel⟩ := hrel
      obtain ⟨q0, q1, q2, q3, q4, q5, q6⟩ := hbx.cells
      have HK := Lib.hid hk
      have HPF := Lib.hid hpf
      have HBX2 := Lib.hid hbx
      have HX2 := Lib.hid hix
      have HB2 := Lib.hid hbel
      have hk1 : k ≤ t.parts.length := by omega
      have hwr : w.heap.size < wr.heap.size := hbx.lt
      clear hk hpf hbx hix hbel HBX HX HBB
      by_cases hlt : k < t.parts.length
      · obtain ⟨b, o, hA, hb, hcc⟩ := hp.at_ (by omega)
        have hcl : wr.cell? ⟨b, o + k, none⟩ = some (.int .i64 t.parts[k]) := (HB2.out.cell hb).trans (hcc k hlt)
        have hidx : ∀ W, (Instr.indexAt 52 (.slice t.pA t.parts.length t.pc) (.int .i64 (k : Int))).run Tryz.prog W = .ok (.pointer (some ⟨b, o + k, none⟩)) W := fun W => by
          rw [hA]
          have hi : (0 : Int) ≤ (k : Int) ∧ (k : Int) < (t.parts.length : Int) := by omega
          simp [go_sem, hi]
        have hlk := look2 HX2.out t.parts[k]
        have HDR : Hid (t.parts.drop k = t.parts[k] :: t.parts.drop (k + 1)) := List.drop_eq_getElem_cons hlt
        clear hA hcc
        cases hta : thAt T t.parts[k] with
        | none =>
          rw [hta] at hlk
          have hlk' : (Instr.lookup 117 (.map (some r)) (.int .i64 t.parts[k]) true).run Tryz.prog wr = .ok (.tuple #[thZ, .bool false]) wr := hlk
          have HS : Hid (res = 9) := by
            show res = 9
            rw [← HR1.out, ← HPF.out, HDR.out, partF_none hta]; rfl
          clear hlk hta
          go_wp2
          go_ret
          exact GivesB.mk (vint HS.out.symm) (HB2.out.alloc (by omega) _)
        | some x =>
          rw [hta] at hlk
          have hlk' : (Instr.lookup 117 (.map (some r)) (.int .i64 t.parts[k]) true).run Tryz.prog wr = .ok (.tuple #[thV x, .bool true]) wr := hlk
          by_cases hx2 : x.kind = 2
          · have hxb : (x.kind != 2) = false := by simpa using hx2
            have HPO : Hid (partF T (t.parts.drop (k + 1)) = partF T t.parts) := by
              show partF T (t.parts.drop (k + 1)) = partF T t.parts
              rw [← HPF.out, HDR.out, partF_ok hta hx2]
            clear hlk hta hx2
            go_wp2
            go_roundg (gk - 1)
            case measure => have := HK.out; omega
            case rel => exact ⟨k + 1, by have := HK.out; omega, by go_num, HPO.out, HBX2.out.alloc _, HX2.out.alloc _, HB2.out.alloc (by omega) _⟩
          · have hxb : (x.kind != 2) = true := by simpa using hx2
            have HS : Hid (res = 6) := by
              show res = 6
              rw [← HR1.out, ← HPF.out, HDR.out, partF_bad hta hx2]; rfl
            clear hlk hta hx2
            go_wp2
            go_ret
            exact GivesB.mk (vint HS.out.symm) (HB2.out.alloc (by omega) _)
      · have hr2 := HR1.out
        rw [← HPF.out, List.drop_of_length_le (by omega), partF] at hr2
        have hr3 : (if loopT T t = true then (14 : Int) else 0) = res := hr2
        have HR2 := Lib.hid hr3
        have hlen : ∀ ty, (Builtin.len_ #[117] ty #[.map (some r)]).run Tryz.prog wr = .ok (.int .i64 (T.length : Int)) wr := fun ty => Dw.run_len_map tIdx ty HX2.out.size
        clear hr2 hr3 HK HPF hk1
        obtain ⟨wo, hwo⟩ : ∃ wo : World, wo = wr := ⟨_, rfl⟩
        subst hwo
        go_wp2
        go_loopg [12, 55] T.length (LpRel T t wo)
        case atStart => exact ⟨rfl, 0, by omega, rfl, rfl, fun j hj => absurd hj (by omega)⟩
        clear hlen hlt
        case round =>
          obtain ⟨hw, k, hk, rfl, rfl, hpre⟩ := hrel
          subst hw
          have HK := Lib.hid hk
          have HP := Lib.hid hpre
          have hk1 : k ≤ T.length := by omega
          clear hk hpre
          by_cases hlt : k < T.length
          · by_cases he : parN T k t.parent = t.id
            · have heb : (parN T k t.parent == t.id) = true := by simpa using he
              have HS : Hid (res = 14) := by
                show res = 14
                rw [← HR2.out, if_pos (loopT_yes hlt he)]
              clear he
              generalize parN T k t.parent = at0 at *
              go_wp2
              go_ret
              exact GivesB.mk (vint HS.out.symm) HB2.out
            · have heb : (parN T k t.parent == t.id) = false := by simpa using he
              have HNE := Lib.hid he
              have HNX := Lib.hid (parN_succ T k t.parent)
              have hlk := look1 HX2.out (parN T k t.parent)
              clear he
              generalize hat0 : parN T k t.parent = at0 at *
              have HAT := Lib.hid hat0
              clear hat0
              cases hta : thAt T at0 with
              | none =>
                rw [hta] at hlk
                have hlk' : (Instr.lookup 117 (.map (some r)) (.int .i64 at0) false).run Tryz.prog wo = .ok thZ wo := hlk
                have HPO := Lib.hid (parOf_none hta)
                have hfd := fldZ wo
                clear hlk hta
                go_wp2
                go_roundg (gk - 1)
                case measure => have := HK.out; omega
                case rel =>
                  refine ⟨rfl, k + 1, by have := HK.out; omega, by go_num, vint (by rw [HNX.out, HPO.out]), fun j hj => ?_⟩
                  rcases Nat.lt_or_ge j k with h1 | h1
                  · exact HP.out j h1
                  · obtain rfl : j = k := by omega
                    rw [HAT.out]
                    exact HNE.out
              | some x =>
                rw [hta] at hlk
                have hlk' : (Instr.lookup 117 (.map (some r)) (.int .i64 at0) false).run Tryz.prog wo = .ok (thV x) wo := hlk
                have HPO := Lib.hid (parOf_some hta)
                have hfd := fldV x wo
                clear hlk hta
                go_wp2
                go_roundg (gk - 1)
                case measure => have := HK.out; omega
                case rel =>
                  refine ⟨rfl, k + 1, by have := HK.out; omega, by go_num, vint (by rw [HNX.out, HPO.out]), fun j hj => ?_⟩
                  rcases Nat.lt_or_ge j k with h1 | h1
                  · exact HP.out j h1
                  · obtain rfl : j = k := by omega
                    rw [HAT.out]
                    exact HNE.out
          · have HS : Hid (res = 0) := by
              show res = 0
              rw [← HR2.out, if_neg (by rw [loopT_no fun i hi => HP.out i (by omega)]; simp)]
            go_wp2
            go_ret
            exact GivesB.mk (vint HS.out.symm) HB2.out
end Go.Proofs.YtfninfgohiipjaaGreatDoor
