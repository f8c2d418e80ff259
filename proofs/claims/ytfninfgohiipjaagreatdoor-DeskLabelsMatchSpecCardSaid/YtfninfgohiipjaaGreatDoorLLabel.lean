/- The row of DeskLabelsMatchSpec: the law's contract, and the card. -/
import Derived.Test.YtfninfgohiipjaaGreatDoorLLbRow
import Derived.Stop.LaidErr
import Derived.Lib.LaidTab
import Derived.Test.YtfninfgohiipjaaGreatDoorLfU
import Derived.Test.YtfninfgohiipjaaGreatDoorLfW
namespace Go.Proofs.YtfninfgohiipjaaGreatDoor
open Go.ChangeShapes Go.WideShapes Go.ChangeAt Go.RowKit Go.Deep Go.Joins Dw
section
variable {H : Type} {enc : TypeId × Value → H} {W : World}
set_option maxRecDepth 100000 in
theorem open_crs {n : Nat} {v : Value} {y : DataW H × List MemPlace} (h : DataW.trod enc Tryz.prog W 0 (fun _ => true) true n 58 [v] = some y) :
    ∃ (A : Option Addr) (c : Nat) (l : List Cr), v = .slice A l.length c ∧ CrsOk W A l := by
  obtain ⟨A, len, c, rfl, _, hlen, hT⟩ := open_structs Tryz.underlying58 Tryz.underlying113 (by kernel_rfl) (by kernel_rfl) (by decide) h
  by_cases hz : 0 < len
  · obtain ⟨b, o, rfl, hall⟩ := hT hz
    obtain ⟨l, rfl, hp⟩ := list_choose (n := len) (P := fun i (t : Cr) => (W.cell? ⟨b, o + i * 5, none⟩ = some (.string t.role) ∧ W.cell? ⟨b, o + i * 5 + 1, none⟩ = some (.string t.person) ∧
        W.cell? ⟨b, o + i * 5 + 2, none⟩ = some (.string t.name) ∧ W.cell? ⟨b, o + i * 5 + 3, none⟩ = some (.slice t.iA t.ins.length t.ic) ∧ W.cell? ⟨b, o + i * 5 + 4, none⟩ = some (.int .i64 t.n)) ∧ Strs W t.iA t.ins ∧ CrSz t) fun i hi => by
      obtain ⟨u0, z0, n0, q0, r0⟩ := hall i hi 0 _ rfl
      obtain ⟨u1, z1, n1, q1, r1⟩ := hall i hi 1 _ rfl
      obtain ⟨u2, z2, n2, q2, r2⟩ := hall i hi 2 _ rfl
      obtain ⟨u3, z3, n3, q3, r3⟩ := hall i hi 3 _ rfl
      obtain ⟨u4, z4, n4, q4, r4⟩ := hall i hi 4 _ rfl
      obtain ⟨x0, rfl, s0⟩ := str_of Tryz.underlying9 r0
      obtain ⟨x1, rfl, s1⟩ := str_of Tryz.underlying9 r1
      obtain ⟨x2, rfl, s2⟩ := str_of Tryz.underlying9 r2
      obtain ⟨x4, rfl, _⟩ := int_of Tryz.underlying3 r4
      obtain ⟨bA, bc, but, rfl, hI, hcp, hpl, hs⟩ := open_ones (f := Value.string) (g := fun s : ByteArray => s.size ≤ 9223372036854775807) Tryz.underlying94 (by kernel_rfl) (fun _ _ _ hh => str_of Tryz.underlying9 hh) r3
      exact ⟨⟨x0, x1, x2, but, x4, bA, bc⟩, ⟨q0, q1, q2, q3, q4⟩, hI, s0, s1, s2, hpl, hcp, hs⟩
    refine ⟨_, c, l, rfl, ⟨fun _ => ⟨b, o, rfl, fun i hi => (hp i hi).1⟩, fun t ht => ?_, hlen, fun t ht => ?_⟩⟩
    · obtain ⟨i, hi, rfl⟩ := List.getElem_of_mem ht
      exact (hp i hi).2.1
    · obtain ⟨i, hi, rfl⟩ := List.getElem_of_mem ht
      exact (hp i hi).2.2
  · obtain rfl : len = 0 := by omega
    exact ⟨A, c, [], rfl, ⟨(fun h => absurd h (by simp)), (fun t ht => by cases ht), by simp, (fun t ht => by cases ht)⟩⟩
set_option maxRecDepth 100000 in
theorem open_tks {v : Value} {d : DataW H} {p : List MemPlace} {r : Reach} {b0 : Nat} (hok : Value.okWide Tryz.prog W r b0 26 v) (h : DataW.Trod enc Tryz.prog W 0 (fun _ => true) true 26 v d p) :
    ∃ (A : Option Addr) (c : Nat) (l : List Tk), v = .slice A l.length c ∧ TksOk W A l := by
  obtain ⟨a0, len0, cap0, rfl⟩ := okWide_slice Tryz.underlying26 hok
  obtain ⟨fuel, hf⟩ := h
  obtain ⟨A, len, c, e, _, hlen, hT⟩ := open_structs Tryz.underlying26 Tryz.underlying60 (by kernel_rfl) (by kernel_rfl) (by decide) (v := .slice a0 len0 cap0) (by simpa [Value.cells] using hf)
  rw [e]
  by_cases hz : 0 < len
  · obtain ⟨b, o, rfl, hall⟩ := hT hz
    obtain ⟨l, rfl, hp⟩ := list_choose (n := len) (P := fun i (t : Tk) => (W.cell? ⟨b, o + i * 3, none⟩ = some (.int .i64 t.rc) ∧ W.cell? ⟨b, o + i * 3 + 1, none⟩ = some (.int .i64 t.len) ∧
        W.cell? ⟨b, o + i * 3 + 2, none⟩ = some (.slice t.cA t.crs.length t.cc)) ∧ CrsOk W t.cA t.crs) fun i hi => by
      obtain ⟨u0, z0, n0, q0, r0⟩ := hall i hi 0 _ rfl
      obtain ⟨u1, z1, n1, q1, r1⟩ := hall i hi 1 _ rfl
      obtain ⟨u2, z2, n2, q2, r2⟩ := hall i hi 2 _ rfl
      obtain ⟨x0, rfl, _⟩ := int_of Tryz.underlying3 r0
      obtain ⟨x1, rfl, _⟩ := int_of Tryz.underlying3 r1
      obtain ⟨bA, bc, cl, rfl, hI⟩ := open_crs r2
      exact ⟨⟨x0, x1, cl, bA, bc⟩, ⟨q0, q1, q2⟩, hI⟩
    refine ⟨_, c, l, rfl, ⟨fun _ => ⟨b, o, rfl, fun i hi => (hp i hi).1⟩, fun t ht => ?_, hlen⟩⟩
    obtain ⟨i, hi, rfl⟩ := List.getElem_of_mem ht
    exact (hp i hi).2
  · obtain rfl : len = 0 := by omega
    exact ⟨A, c, [], rfl, ⟨(fun h => absurd h (by simp)), (fun t ht => by cases ht), by simp⟩⟩
end
end Go.Proofs.YtfninfgohiipjaaGreatDoor
namespace Go.Proofs.YtfninfgohiipjaaGreatDoor
open Go.RowKit Dw
theorem Label_c (A1 : Option Addr) (c1 : Nat) (T : List Th) (A2 : Option Addr) (c2 : Nat) (M : List Mv) (A : Option Addr) (c : Nat) (l : List Tk) (id rate : Int) (w : World) (hc : CatOk w A1 T A2 M) (hG : GOK w) (hP : POK w) (he : TksOk w A l) :
    Calls Tryz.prog 7 #[catV A1 c1 T A2 c2 M, .slice A l.length c, .int .i64 id, .int .i64 rate] w (GivesSP (labP T M l id rate) w) := by
  by_cases h : ∀ t, thAt T id = some t → t.kind = 3
  · exact l3.Label_3 A1 c1 T A2 c2 M A c l id rate w hc hG hP he (Lib.hid h)
  · refine l4.Label_4 A1 c1 T A2 c2 M A c l id rate w hc hG hP he (Lib.hid fun t ht h3 => h fun u hu => ?_)
    obtain rfl : t = u := Option.some.inj (ht.symm.trans hu)
    exact h3
theorem lawL_c (A1 : Option Addr) (c1 : Nat) (T : List Th) (A2 : Option Addr) (c2 : Nat) (M : List Mv) (A : Option Addr) (c : Nat) (l : List Tk) (id rate : Int) (w : World) (hc : CatOk w A1 T A2 M) (hG : GOK w) (hP : POK w) (he : TksOk w A l) (hcap : T.length ≤ c1) :
    Calls Tryz.prog 3 #[catV A1 c1 T A2 c2 M, .slice A l.length c, .int .i64 id, .int .i64 rate] w (GivesB (.bool true) w) :=
  lawL_of A1 c1 T A2 c2 M A c l id rate w hc hG hP he hcap (Lib.hid fun w' h1 h2 h3 h4 => Label_c A1 c1 T A2 c2 M A c l id rate w' h1 h2 h3 h4)
end Go.Proofs.YtfninfgohiipjaaGreatDoor
namespace Go.Proofs.YtfninfgohiipjaaGreatDoor.label
open Go.ChangeShapes Go.WideShapes Go.ChangeAt Go.RowKit Go.Deep Dw
theorem pok_of {W : World} (h : laidMetH Tryz.prog Rows.deskLabelsMatchSpecRow.laid W) : POK W := by
  have h' : laidMet Tryz.prog Rows.deskLabelsMatchSpecRow.laid W := h
  exact Lib.tabIs_of_head (g := 1) (t := 195) (e := 172) (n := 20) (by kernel_rfl) (by kernel_rfl) (by kernel_rfl) (by kernel_rfl) (by kernel_rfl) (by kernel_rfl) (laidMet.tail (laidMet.tail h'))
set_option maxRecDepth 100000 in
theorem contract (H : Type) (enc : TypeId × Value → H) (W : World) (base : Nat) (args : Array Value) (ds gs : List (DataW H)) (before : List MemPlace)
    (hval : ∀ (j : Nat) t v, Tryz.f3.params[j]? = some t → args[j]? = some v → Value.okWide Tryz.prog W .any base t v)
    (hW : DataW.Whole enc Tryz.prog Tryz.f3.params.toList Rows.deskLabelsMatchSpecSpec.vars false W args.toList ds gs before) (hlaid : laidMetH Tryz.prog Rows.deskLabelsMatchSpecRow.laid W) (hsh : W.ShapedOpen Tryz.prog) :
    Calls Tryz.prog 3 args W fun e W' => ∃ v, e = .returned v ∧ Rows.deskLabelsMatchSpecSpec.post enc Tryz.prog Tryz.f3 false true false false W args v W' := by
  have hW' := hW
  obtain ⟨p, q, hA0, hV, rfl, hfz, hnd⟩ := hW
  have hA : DataW.TrodAll enc Tryz.prog W 0 (fun _ => true) true Tryz.f3.params.toList args.toList ds p := hA0
  rw [Tryz.params3] at hA hval
  obtain ⟨v0, vs0, d0, ds0, p0, q0, hargs, rfl, rfl, h0, r0⟩ := trodAll_cons hA
  obtain ⟨v1, vs1, d1, ds1, p1, q1, rfl, rfl, rfl, h1, r1⟩ := trodAll_cons r0
  obtain ⟨v2, vs2, d2, ds2, p2, q2, rfl, rfl, rfl, h2, r2⟩ := trodAll_cons r1
  obtain ⟨v3, vs3, d3, ds3, p3, q3, rfl, rfl, rfl, h3, r3⟩ := trodAll_cons r2
  obtain ⟨rfl, rfl, rfl⟩ := trodAll_nil r3
  obtain rfl : args = #[v0, v1, v2, v3] := by cases args; simp_all
  obtain ⟨rfl, rfl⟩ := trodVars_none hV
  obtain ⟨A1, c1, T, A2, c2, M, rfl, hc, hcap⟩ := open_cat (hval 0 _ v0 rfl rfl) h0
  obtain ⟨A, c, l, rfl, he⟩ := open_tks (hval 1 _ v1 rfl rfl) h1
  obtain ⟨n2, rfl, hn2, hm2⟩ := open_i (hval 2 _ v2 rfl rfl) h2
  obtain ⟨n3, rfl, hn3, hm3⟩ := open_i (hval 3 _ v3 rfl rfl) h3
  refine (lawL_c A1 c1 T A2 c2 M A c l n2 n3 W hc (gok_of hsh) (pok_of hlaid) he hcap).mono fun e W' ⟨he, hbl⟩ => ?_
  subst he
  exact ⟨_, rfl, law_post (tb := 4) hW' rfl (by kernel_rfl) Tryz.underlying4 (by rw [Tryz.params3]; decide) ⟨rfl, rfl, rfl⟩ hbl⟩
theorem card : Rows.DeskLabelsMatchSpecCardSaid := card_of contract
end Go.Proofs.YtfninfgohiipjaaGreatDoor.label
