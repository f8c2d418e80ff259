/- Label of package desk. -/
import Derived.Test.YtfninfgohiipjaaGreatDoorLgT
import Derived.Deep.DeepCutAuto
namespace Go.Proofs.YtfninfgohiipjaaGreatDoor.l3
open Go.RowKit Dw

theorem tTks : Tryz.prog.underlying 57 = some (.map 3 60) := Tryz.underlying57
theorem zTrack (w : World) : (zeroValue 60).run Tryz.prog w = .ok tkZ w := by kernel_rfl
abbrev KdM (w : World) (r : Nat) (l : List Tk) : Prop := MapIs kI w r (fun n => (tkAt l n).map tkV)
theorem tkO_getD (o : Option Tk) : tkO o = tkV (o.getD default) := by cases o <;> rfl
theorem fldT (x : Th) (W : World) : (Instr.field 54 (.agg #[.int .i64 x.id, .int .i64 x.kind, .string x.title, .string x.code, .int .i64 x.since, .int .i64 x.parent, .slice x.pA x.parts.length x.pc]) 2).run Tryz.prog W = .ok (.string x.title) W := by kernel_rfl
def KxRel (w0 : World) (r : Nat) (l : List Tk) (m : Nat) (i : Value) (wr : World) : Prop :=
  ∃ k : Nat, k + m = l.length ∧ i = .int .i64 k ∧ KdM wr r (l.take k) ∧ Below w0.heap.size w0 wr
theorem hd_cat (a b : ByteArray) (h : a.size + b.size ≤ 1000) : (a ++ b).size ≤ 1000 := by rw [ByteArray.size_append]; omega
theorem head_eq {T : List Th} {t : Th} : (headB T t).data.toList = (t.title ++ ⟨#[10]⟩ : ByteArray).data.toList ++ (if t.code.toList.isEmpty = true then [] else (t.code ++ ⟨#[10]⟩ : ByteArray).data.toList) ++
    (match thAt T t.parent with
      | none => []
      | some u => if (u.title.toList == t.title.toList) = true then [] else ((⟨#[111, 102, 32]⟩ ++ u.title) ++ ⟨#[10]⟩ : ByteArray).data.toList) := by
  unfold headB
  cases thAt T t.parent with
  | none =>
    dsimp only
    split <;> simp
  | some u =>
    dsimp only
    split <;> split <;> simp
/-- What the head's code and title leave in the builder. -/
def cdL (t : Th) : List UInt8 := (t.title ++ ⟨#[10]⟩ : ByteArray).data.toList ++ (if t.code.toList.isEmpty = true then [] else (t.code ++ ⟨#[10]⟩ : ByteArray).data.toList)
theorem cdL_len {t : Th} (h1 : t.title.size ≤ 100) (h2 : t.code.size ≤ 13) : (cdL t).length ≤ 120 := by
  have e1 : (⟨#[10]⟩ : ByteArray).size = 1 := rfl
  unfold cdL
  split
  · simp only [List.length_append, len_data', ByteArray.size_append, e1, List.length_nil]; omega
  · simp only [List.length_append, len_data', ByteArray.size_append, e1]; omega
theorem partT_of {T : List Th} {l : List Tk} {rate : Int} {i : Nat} {n : Int} {x : Tk} {bk : Bool} (h1 : x = (tkAt l n).getD default) (h2 : bk = (tkAt l n).isSome) :
    partT T l rate i n = ((itoaB ((i : Int) + 1) ++ ⟨#[46, 32]⟩) ++ ((thAt T n).getD default).title : ByteArray).data.toList ++ ((if bk = true then [32] ++ (showB x.len rate).data.toList else []) ++ [10] ++ (nmB x.crs).data.toList) := by
  subst h1; subst h2
  unfold partT
  congr 1
  cases tkAt l n with
  | none => rfl
  | some x => simp
def GivesWL (B : Nat) (L : List UInt8) (n : Nat) (wB : World) (e : Ending) (w' : World) : Prop :=
  e = .returned (.tuple #[.int .i64 (n : Int), .nilIface]) ∧ NmS B B L wB w'

set_option maxRecDepth 100000 in
set_option maxHeartbeats 12000000 in
theorem Label_3 (A1 : Option Addr) (c1 : Nat) (T : List Th) (A2 : Option Addr) (c2 : Nat) (M : List Mv) (A : Option Addr) (c : Nat) (l : List Tk) (id rate : Int) (w : World) (hc : CatOk w A1 T A2 M) (hG : GOK w) (hP : POK w) (he : TksOk w A l) (hway : Hid (∀ t, thAt T id = some t → t.kind = 3)) :
    Calls Tryz.prog 7 #[catV A1 c1 T A2 c2 M, .slice A l.length c, .int .i64 id, .int .i64 rate] w (GivesSP (labP T M l id rate) w) := by
  generalize hres : labP T M l id rate = res
  have HR := Lib.hid hres
  have HEM := Lib.hid he
  have HPK := Lib.hid hP
  have HCB := Lib.hid (CB.new w (.slice A1 T.length c1) (.slice A2 M.length c2))
  have hmm := @run_makeMap Tryz.prog
  clear hres he hP
  go_enter Tryz.func7, Tryz.ntmps7
  go_wp2_with fail
  refine (CheckTracks_c A1 c1 T A2 c2 M A c l _ (hc.below HCB.out.bel) (hG.below HCB.out.bel) (HPK.out.below HCB.out.bel) (HEM.out.below HCB.out.bel)).mono ?_
  rintro e w2 ⟨rfl, hb2⟩
  have HC2 := Lib.hid (HCB.out.below hb2)
  clear hb2 HCB
  have hw2 := HC2.out.lt
  have d0 := HC2.out.c0
  have d1 := HC2.out.c1
  by_cases hck : chkT T M l = 0
  case neg =>
    have hckb : (chkT T M l != 0) = true := by simpa using hck
    have HX := Lib.hid (HR.out.symm.trans (labP_bad hck))
    clear hck
    generalize chkT T M l = z at *
    go_wp2
    go_ret2
    exact GivesSP.mk HX.out HC2.out.bel
  have HCK := Lib.hid hck
  have HCC := Lib.hid (chkT_ok hck).1
  have hnl := (chkT_ok hck).2.1
  have HTZ := Lib.hid (tkSz_of hck)
  have HINK := Lib.hid (chkT_inc hck)
  have hnT : T.length ≤ 300 := (chkC_len HCC.out).1
  rw [hck]
  clear hck
  go_wp2_with fail
  refine (thingsOf_c A1 c1 T A2 c2 M _ (hc.below HC2.out.bel) (chkC_ok HCC.out).1 hnT).mono ?_
  rintro e w3 ⟨r, rfl, hr, hix, hb3⟩
  have HIX3 := Lib.hid hix
  have HC3 := Lib.hid (HC2.out.below hb3)
  clear hb3 HC2 hw2 d0 d1 hr hix
  have hlk := run_lookup_map tThs kInt zThing HIX3.out.map id true
  cases hta : thAt T id with
  | none =>
    have HX := Lib.hid (HR.out.symm.trans (labP_none HCK.out hta))
    rw [hta] at hlk
    have hlk' : (Instr.lookup 50 (.map (some r)) (.int .i64 id) true).run Tryz.prog w3 = .ok (.tuple #[thZ, .bool false]) w3 := hlk
    clear hlk hta
    have HC4 := Lib.hid (HC3.out.alloc (.cells #[.int .i64 0, .int .i64 0, .string ⟨#[]⟩, .string ⟨#[]⟩, .int .i64 0, .int .i64 0, .slice none 0 0] 54))
    go_wp2
    go_ret2
    exact GivesSP.mk HX.out HC4.out.bel
  | some t =>
  have HTA := Lib.hid hta
  have HWY := Lib.hid (hway.out t hta)
  clear hway
  have HTM := Lib.hid (thAt_some hta).1
  rw [hta] at hlk
  have hlk' : (Instr.lookup 50 (.map (some r)) (.int .i64 id) true).run Tryz.prog w3 = .ok (.tuple #[thV t, .bool true]) w3 := hlk
  clear hlk hta
  have HC4 := Lib.hid (HC3.out.alloc (.cells #[.int .i64 t.id, .int .i64 t.kind, .string t.title, .string t.code, .int .i64 t.since, .int .i64 t.parent, .slice t.pA t.parts.length t.pc] 54))
  have HT4 : Hid (BoxT (w3.alloc (.cells #[.int .i64 t.id, .int .i64 t.kind, .string t.title, .string t.code, .int .i64 t.since, .int .i64 t.parent, .slice t.pA t.parts.length t.pc] 54)) w3.heap.size t) := heap_alloc_new _ _
  have HIX4 := Lib.hid (HIX3.out.alloc (.cells #[.int .i64 t.id, .int .i64 t.kind, .string t.title, .string t.code, .int .i64 t.since, .int .i64 t.parent, .slice t.pA t.parts.length t.pc] 54))
  by_cases hkd : t.kind ≠ 3 ∧ t.kind ≠ 4
  · have HX := Lib.hid (HR.out.symm.trans (labP_kind (rate := rate) HCK.out HTA.out hkd))
    have hk3 : (t.kind != 3) = true := by simpa using hkd.1
    have hk4 : (t.kind != 4) = true := by simpa using hkd.2
    clear hkd
    go_wp2
    go_ret2
    exact GivesSP.mk HX.out HC4.out.bel
  have HKD := Lib.hid hkd
  have hkd34 : t.kind = 3 ∨ t.kind = 4 := by omega
  have HK34 := Lib.hid hkd34
  clear hkd
  cases hrb : rateB rate with
  | false =>
    have HX := Lib.hid (HR.out.symm.trans (labP_rate HCK.out HTA.out HKD.out hrb))
    have hkb : ((t.kind != 3) = false) ∨ ((t.kind != 3) = true ∧ (t.kind != 4) = false) := by
      rcases hkd34 with e | e
      · left; simpa using e
      · right; exact ⟨by simp [e], by simpa using e⟩
    have HRB := Lib.hid hrb
    clear hrb hkd34
    rcases hkb with hk3 | ⟨hk3, hk4⟩
    all_goals
      go_wp2_with fail
      refine (isRate_c rate _).mono ?_
      rintro e w5 ⟨rfl, rfl⟩
      rw [HRB.out]
      go_wp2
      go_ret2
      exact GivesSP.mk HX.out HC4.out.bel
  | true =>
  have hrr : 1 ≤ rate ∧ rate ≤ 1000000 := by
    have := hrb
    unfold rateB at this
    simpa using this
  obtain ⟨hr1, hr2⟩ := hrr
  have HRES0 := Lib.hid (HR.out.symm.trans (labP_ok HCK.out HTA.out HKD.out hrb))
  have HRB := Lib.hid hrb
  clear hrb hlk'
  have HLK3 : Hid ((Instr.lookup 50 (.map (some r)) (.int .i64 id) true).run Tryz.prog w3 = .ok (.tuple #[thV t, .bool true]) w3) := by
    show _ = _
    have := run_lookup_map tThs kInt zThing HIX3.out.map id true
    rw [HTA.out] at this
    exact this
  have hlk3 := HLK3.out
  have hlkp : (Instr.lookup 50 (.map (some r)) (.int .i64 t.parent) false).run Tryz.prog (w3.alloc (.cells #[.int .i64 t.id, .int .i64 t.kind, .string t.title, .string t.code, .int .i64 t.since, .int .i64 t.parent, .slice t.pA t.parts.length t.pc] 54)) = .ok (thV ((thAt T t.parent).getD default)) (w3.alloc (.cells #[.int .i64 t.id, .int .i64 t.kind, .string t.title, .string t.code, .int .i64 t.since, .int .i64 t.parent, .slice t.pA t.parts.length t.pc] 54)) := by
    have := run_lookup_map tThs kInt zThing HIX4.out.map t.parent false
    rw [← thO_getD]
    exact this
  have HUP := Lib.hid (up_of HCC.out HTM.out HK34.out)
  have HHD : Hid ((headB T t).data.toList = cdL t ++ (if t.kind = 4 then (if (((thAt T t.parent).getD default).title.toList == t.title.toList) = true then [] else ((⟨#[111, 102, 32]⟩ ++ ((thAt T t.parent).getD default).title) ++ ⟨#[10]⟩ : ByteArray).data.toList) else [])) := by
    show _ = _
    rw [head_eq]
    unfold cdL
    congr 1
    have := HUP.out
    cases hp : thAt T t.parent with
    | none =>
      rw [hp] at this
      have h4 : ¬ t.kind = 4 := fun e => by rw [e] at this; cases this
      rw [if_neg h4]
    | some u =>
      rw [hp] at this
      have h4 : t.kind = 4 := by simpa using this.symm
      rw [if_pos h4]
      rfl
  have HPTS : Hid (t.kind = 4 → t.parts.length = 0 → ptsOf T t = ((thAt T t.parent).getD default).parts) := fun h4 h0 => by
    have := HUP.out
    rw [h4] at this
    obtain ⟨u, hu⟩ := Option.isSome_iff_exists.1 (this.trans (by decide))
    rw [ptsOf_up hu h4 h0, hu]; rfl
  have HPTI : Hid (Ints w ((thAt T t.parent).getD default).pA ((thAt T t.parent).getD default).parts) := by
    show Rd1 _ _ _ _
    cases hp : thAt T t.parent with
    | none => exact Rd1.nil
    | some u => exact hc.parts u (thAt_some hp).1
  have HPTO := Lib.hid (hc.parts t HTM.out)
  have HUZ : Hid (((thAt T t.parent).getD default).title.size ≤ 100 ∧ t.title.size ≤ 100 ∧ t.code.size ≤ 13) := ⟨title_size HTZ.out t.parent, (HTZ.out.1 t HTM.out).1, (HTZ.out.1 t HTM.out).2⟩
  have HPN : Hid ((ptsOf T t).length ≤ 50) := ptsOf_len (fun u hu => thF_parts ((chkC_ok HCC.out).2.2.1 u hu)) HTM.out
  generalize (thAt T t.parent).getD default = u at *
  have HT5 := Lib.hid (HT4.out.alloc (.cells #[.int .i64 u.id, .int .i64 u.kind, .string u.title, .string u.code, .int .i64 u.since, .int .i64 u.parent, .slice u.pA u.parts.length u.pc] 54))
  have HU5 : Hid (BoxT ((w3.alloc (.cells #[.int .i64 t.id, .int .i64 t.kind, .string t.title, .string t.code, .int .i64 t.since, .int .i64 t.parent, .slice t.pA t.parts.length t.pc] 54)).alloc (.cells #[.int .i64 u.id, .int .i64 u.kind, .string u.title, .string u.code, .int .i64 u.since, .int .i64 u.parent, .slice u.pA u.parts.length u.pc] 54)) (w3.heap.size + 1) u) := by
    have := heap_alloc_new (w3.alloc (.cells #[.int .i64 t.id, .int .i64 t.kind, .string t.title, .string t.code, .int .i64 t.since, .int .i64 t.parent, .slice t.pA t.parts.length t.pc] 54)) (.cells #[.int .i64 u.id, .int .i64 u.kind, .string u.title, .string u.code, .int .i64 u.since, .int .i64 u.parent, .slice u.pA u.parts.length u.pc] 54)
    rwa [show (w3.alloc (.cells #[.int .i64 t.id, .int .i64 t.kind, .string t.title, .string t.code, .int .i64 t.since, .int .i64 t.parent, .slice t.pA t.parts.length t.pc] 54)).heap.size = w3.heap.size + 1 by simp] at this
  have HIX5 := Lib.hid (HIX4.out.alloc (.cells #[.int .i64 u.id, .int .i64 u.kind, .string u.title, .string u.code, .int .i64 u.since, .int .i64 u.parent, .slice u.pA u.parts.length u.pc] 54))
  have HW5 := Lib.hid (HC4.out.alloc (.cells #[.int .i64 u.id, .int .i64 u.kind, .string u.title, .string u.code, .int .i64 u.since, .int .i64 u.parent, .slice u.pA u.parts.length u.pc] 54)).bel
  have HSZ5 : Hid (((w3.alloc (.cells #[.int .i64 t.id, .int .i64 t.kind, .string t.title, .string t.code, .int .i64 t.since, .int .i64 t.parent, .slice t.pA t.parts.length t.pc] 54)).alloc (.cells #[.int .i64 u.id, .int .i64 u.kind, .string u.title, .string u.code, .int .i64 u.since, .int .i64 u.parent, .slice u.pA u.parts.length u.pc] 54)).heap.size = w3.heap.size + 1 + 1) := by show _ = _; simp
  have HM6 : Hid (KdM (((w3.alloc (.cells #[.int .i64 t.id, .int .i64 t.kind, .string t.title, .string t.code, .int .i64 t.since, .int .i64 t.parent, .slice t.pA t.parts.length t.pc] 54)).alloc (.cells #[.int .i64 u.id, .int .i64 u.kind, .string u.title, .string u.code, .int .i64 u.since, .int .i64 u.parent, .slice u.pA u.parts.length u.pc] 54)).alloc (.map #[] 0)) (w3.heap.size + 1 + 1) []) := by
    have := MapIs.new kI ((w3.alloc (.cells #[.int .i64 t.id, .int .i64 t.kind, .string t.title, .string t.code, .int .i64 t.since, .int .i64 t.parent, .slice t.pA t.parts.length t.pc] 54)).alloc (.cells #[.int .i64 u.id, .int .i64 u.kind, .string u.title, .string u.code, .int .i64 u.since, .int .i64 u.parent, .slice u.pA u.parts.length u.pc] 54))
    rw [HSZ5.out] at this
    exact this
  have hway : (t.kind = 3 ∧ (t.kind != 3) = false ∧ (t.kind == 4) = false) ∨ (t.kind = 4 ∧ (t.kind != 3) = true ∧ (t.kind != 4) = false ∧ (t.kind == 4) = true ∧ t.parts.length = 0 ∧ ((t.parts.length : Int) == 0) = true) ∨
      (t.kind = 4 ∧ (t.kind != 3) = true ∧ (t.kind != 4) = false ∧ (t.kind == 4) = true ∧ ¬ t.parts.length = 0 ∧ ((t.parts.length : Int) == 0) = false) := by
    rcases hkd34 with e | e
    · left; exact ⟨e, by simp [e], by simp [e]⟩
    · right
      by_cases h0 : t.parts.length = 0
      · left; exact ⟨e, by simp [e], by simp [e], by simp [e], h0, by simp [h0]⟩
      · right; exact ⟨e, by simp [e], by simp [e], by simp [e], h0, by simpa using h0⟩
  have hw3 : w.heap.size < w3.heap.size := HC3.out.lt
  clear hkd34 HC3 HC4 HT4 HIX3 HIX4 HR HKD HTA HLK3
  rcases hway with ⟨hk, e1, hkb⟩ | ⟨hk, e1, e2, hkb, h0, e4⟩ | ⟨hk, e1, e2, hkb, h0, e4⟩
  case' inl =>
    clear HWY
    have HPP : Hid (ptsOf T t = t.parts) := ptsOf_own (fun h => by omega)
    have HPI := HPTO
    have HHK : Hid ((headB T t).data.toList = cdL t ++ []) := by show _ = _; rw [HHD.out, if_neg (by omega)]
    clear hk
    go_wp2_with fail
    refine (isRate_c rate _).mono ?_
    rintro e w5' ⟨rfl, rfl⟩
    rw [HRB.out]
    go_wp2
    clear e1 hlk3 hlkp
    generalize hw5 : ((w3.alloc (.cells #[.int .i64 t.id, .int .i64 t.kind, .string t.title, .string t.code, .int .i64 t.since, .int .i64 t.parent, .slice t.pA t.parts.length t.pc] 54)).alloc (.cells #[.int .i64 u.id, .int .i64 u.kind, .string u.title, .string u.code, .int .i64 u.since, .int .i64 u.parent, .slice u.pA u.parts.length u.pc] 54)) = w5 at *
    clear hw5
    generalize t.parts = ps at *
    generalize t.pA = A5 at *
    generalize t.pc = c5 at *
  case inr.inl => exact absurd HWY.out (by omega)
  case inr.inr => exact absurd HWY.out (by omega)
  all_goals
    clear hmm HPTO HPTI HPTS HHD HUP HK34
    have hps1 : ps.length ≤ 50 := by have := HPN.out; rw [HPP.out] at this; exact this
    have HRES1 := HRES0
    generalize hp3 : w3.heap.size = p3 at *
    clear hp3
    have HKI : Hid (ptsOf T t = ps) := HPP
    clear HPN HPP
    have HHH : Hid (∃ h, h = (headB T t).data.toList) := ⟨_, rfl⟩
    obtain ⟨hd, hhd⟩ := HHH.out
    have HHL : Hid (hd.length ≤ 300) := by
      show hd.length ≤ 300
      rw [hhd, len_data']; exact headB_size HTZ.out.1 HTM.out
    have HHD : Hid (hd = _) := hhd.trans HHK.out
    have HR1 : Hid (allB l ps ps.length = true → 10000000000000 < totL l ps ps.length → res = (⟨#[]⟩, 1)) := fun a b => by
      have := HKI.out
      subst this
      exact HRES0.out.trans (labT_big a b)
    have HR2 : Hid (allB l ps ps.length = true → ¬ 10000000000000 < totL l ps ps.length → res = finP (hd ++ bodyT T l rate ps ps.length ++ ((⟨#[116, 111, 116, 97, 108, 32]⟩ ++ showB (totL l ps ps.length) rate) ++ ⟨#[10]⟩ : ByteArray).data.toList)) := fun a b => by
      have := HKI.out
      subst this
      rw [hhd]; exact HRES0.out.trans (labT_all a b)
    have HR3 : Hid (allB l ps ps.length = false → res = finP (hd ++ bodyT T l rate ps ps.length)) := fun a => by
      have := HKI.out
      subst this
      rw [hhd]; exact HRES0.out.trans (labT_some a)
    clear hhd HHH HHK HKI HRES0 HRES1
    generalize hr2 : p3 + 1 + 1 = r2 at *
    clear hr2
    go_loopg [79] l.length (KxRel w5 r2 l)
    case atStart => exact ⟨0, by omega, rfl, HM6.out, (Below.refl _ _).alloc (Nat.le_refl _) _⟩
    clear HM6
    case round =>
      obtain ⟨k, hk, rfl, hmap, hbr⟩ := hrel
      have HK := Lib.hid hk
      have HBR := Lib.hid hbr
      have hk1 : k ≤ l.length := by omega
      by_cases hlt : k < l.length
      · have hsz := hbr.size
        obtain ⟨b, o, rfl, hb, hcc⟩ := (HEM.out.tks.below (HW5.out.trans (hbr.mono HW5.out.size))).at_ (by omega)
        obtain ⟨q0, q1, q2⟩ := hcc k hlt
        have hstep := fun n => IncK.step HINK.out hlt n
        have hm2 := MapIs.alloc hmap (.cells #[.int .i64 (l[k]).rc, .int .i64 (l[k]).len, .slice (l[k]).cA (l[k]).crs.length (l[k]).cc] 60)
        obtain ⟨w7, hrun, hm7, hg7, hs7⟩ := run_update_map (P := Tryz.prog) tTks kInt hm2 (l[k]).rc (tkV l[k])
        have HM7 : Hid (KdM w7 r2 (l.take (k + 1))) := by
          show MapIs _ _ _ _
          have e : (fun n => if n = (l[k]).rc then some (tkV l[k]) else (tkAt (l.take k) n).map tkV) = fun n => (tkAt (l.take (k + 1)) n).map tkV := funext fun n => by
            rw [← hstep n]
            by_cases en : n = (l[k]).rc
            · rw [if_pos en, if_pos en]; rfl
            · rw [if_neg en, if_neg en]
          rw [e] at hm7
          exact hm7
        have HB7 := Lib.hid (below_mapU (hbr.alloc hbr.size (.cells #[.int .i64 (l[k]).rc, .int .i64 (l[k]).len, .slice (l[k]).cA (l[k]).crs.length (l[k]).cc] 60)) hg7 (Nat.le_of_eq HSZ5.out) (by simp; omega))
        have hrun' : (Instr.mapUpdate 57 (.map (some r2)) (.int .i64 (l[k]).rc) (tkV l[k])).run Tryz.prog (wr.alloc (.cells #[.int .i64 (l[k]).rc, .int .i64 (l[k]).len, .slice (l[k]).cA (l[k]).crs.length (l[k]).cc] 60)) = .ok () w7 := hrun
        clear hk hmap hbr hcc hstep hm2 hm7 hg7 hs7 hrun hsz
        go_wp2
        go_roundg (gk - 1)
        case measure => have := HK.out; omega
        case rel => exact ⟨k + 1, by have := HK.out; omega, by go_num, HM7.out, HB7.out⟩
      · have HKD : Hid (KdM wr r2 l) := by
          show MapIs _ _ _ _
          rw [List.take_of_length_le (by omega)] at hmap
          exact hmap
        clear hk hmap hbr HK
        have HT7 := Lib.hid (HT5.out.below HBR.out)
        have HU7 := Lib.hid (HU5.out.below HBR.out)
        have HIX7 := Lib.hid (HIX5.out.below HBR.out)
        have HW7 : Hid (Below w.heap.size w wr) := HW5.out.trans (HBR.out.mono HW5.out.size)
        clear HT5 HU5 HIX5 HW5 HBR HSZ5
        have HBL8 : Hid (NmS wr.heap.size wr.heap.size [] (wr.alloc (.cells #[.pointer none, .slice none 0 0] 64)) (wr.alloc (.cells #[.pointer none, .slice none 0 0] 64))) := ⟨Lib.IsBuilderF.of (Lib.fresh_isBuilder 64 5 wr), Below.refl _ _, Lib.OthersKept.refl _ _ _⟩
        have HBW : Hid (Below wr.heap.size wr (wr.alloc (.cells #[.pointer none, .slice none 0 0] 64))) := (Below.refl _ _).alloc (Nat.le_refl _) _
        have HAF : Hid (∀ W, Below wr.heap.size wr W → BoxT W p3 t ∧ BoxT W (p3 + 1) u ∧ IdxM W r T ∧ KdM W r2 l ∧ Ints W A5 ps ∧ Below w.heap.size w W) := fun W hW =>
          ⟨HT7.out.below hW, HU7.out.below hW, HIX7.out.below hW, HKD.out.below hW, (HPI.out.below HW7.out).below hW, below_trans HW7.out hW⟩
        have hB6 : wr.heap.size ≤ (wr.alloc (.cells #[.pointer none, .slice none 0 0] 64)).heap.size := by simp
        have hwB : w.heap.size ≤ wr.heap.size := HW7.out.size
        have hw5 : w.heap.size ≤ wr.heap.size := HW7.out.size
        have HT8 := Lib.hid (HAF.out _ HBW.out).1
        obtain ⟨z0, z1, z2, z3, z4, z5, z6⟩ := HT7.out.cells
        have hzl := HT7.out.lt
        obtain ⟨uz1, uz2, uz3⟩ := HUZ.out
        generalize hwr : wr = w7 at *
        clear hwr HT7 HU7 HIX7 HKD
        go_wp2_with fail
        generalize hw8 : (w7.alloc (.cells #[.pointer none, .slice none 0 0] 64)) = w8 at *
        clear hw8 z0 z1 z2 z3 z4 z5 z6 hzl HT8
        generalize hBB : w7.heap.size = B at *
        clear hBB
        have htls : (t.title ++ ⟨#[10]⟩ : ByteArray).size ≤ 101 := by
          have e1 : (⟨#[10]⟩ : ByteArray).size = 1 := rfl
          rw [ByteArray.size_append, e1]; omega
        obtain ⟨tl, htl⟩ : ∃ tl, tl = (t.title ++ ⟨#[10]⟩ : ByteArray) := ⟨_, rfl⟩
        rw [← htl] at htls ⊢
        have HTL := Lib.hid htl
        have HLS := Lib.hid htls
        clear htl htls
        have HWS := Lib.hid (writeS_c tl HBL8.out (by have := HLS.out; rw [List.length_nil]; omega) hB6)
        with_reducible refine HWS.out.mono ?_
        rintro e w9 ⟨rfl, hst9, _, _⟩
        rw [List.nil_append, HTL.out] at hst9
        have HS9 := Lib.hid hst9
        clear hst9 HBL8 hk1 hlt HTL HLS HWS
        obtain ⟨hT9, _⟩ := HAF.out _ (HBW.out.trans HS9.out.bel)
        have HT9 := Lib.hid hT9
        clear hT9
        obtain ⟨z0, z1, z2, z3, z4, z5, z6⟩ := HT9.out.cells
        have hzl := HT9.out.lt
        have HW7 : Hid (Below w.heap.size w w7) := HW7
        go_upto_if 94 with fail
        go_cut [] (fun wx => NmS B B (cdL t) w8 wx)
        case first =>
          by_cases hce : t.code.toList.isEmpty = true
          · have HC : Hid (cdL t = (t.title ++ ⟨#[10]⟩ : ByteArray).data.toList) := by show _ = _; unfold cdL; rw [if_pos hce, List.append_nil]
            have hce3 : t.code.toList = [] := by simpa using hce
            have hce4 : (!t.code.toList.isEmpty) = false := by rw [hce]; rfl
            rw [hce4]
            go_wp2_with fail
            go_meet
            rw [HC.out]; exact HS9.out
          · have hce2 : t.code.toList.isEmpty = false := by simpa using hce
            have HC : Hid (cdL t = (t.title ++ ⟨#[10]⟩ : ByteArray).data.toList ++ (t.code ++ ⟨#[10]⟩ : ByteArray).data.toList) := by show _ = _; unfold cdL; rw [if_neg hce]
            have hce3 : ¬ t.code.toList = [] := by simpa using hce
            have hce4 : (!t.code.toList.isEmpty) = true := by rw [hce2]; rfl
            rw [hce4]
            clear hce
            go_wp2_with fail
            have htcs : (t.code ++ ⟨#[10]⟩ : ByteArray).size ≤ 20 := by
              have e1 : (⟨#[10]⟩ : ByteArray).size = 1 := rfl
              rw [ByteArray.size_append, e1]; omega
            have htts : (t.title ++ ⟨#[10]⟩ : ByteArray).size ≤ 101 := by
              have e1 : (⟨#[10]⟩ : ByteArray).size = 1 := rfl
              rw [ByteArray.size_append, e1]; omega
            obtain ⟨tc, htc⟩ : ∃ tc, tc = (t.code ++ ⟨#[10]⟩ : ByteArray) := ⟨_, rfl⟩
            rw [← htc] at htcs ⊢
            have HWS := Lib.hid (writeS_c tc HS9.out (by rw [len_data']; omega) hB6)
            with_reducible refine HWS.out.mono ?_
            rintro e w10 ⟨rfl, hst10, _, _⟩
            rw [htc] at hst10
            have HS10 := Lib.hid hst10
            clear hst10 htc HWS
            go_wp2_with fail
            go_meet
            rw [HC.out]; exact HS10.out
        case rest =>
          have HS10 := Lib.hid hcut
          clear hcut HS9 HT9 z0 z1 z2 z3 z4 z5 z6 hzl
          obtain ⟨hT10, hU10, _⟩ := HAF.out _ (HBW.out.trans HS10.out.bel)
          have HT10 := Lib.hid hT10
          have HU10 := Lib.hid hU10
          clear hT10 hU10
          obtain ⟨z0, z1, z2, z3, z4, z5, z6⟩ := HT10.out.cells
          obtain ⟨y0, y1, y2, y3, y4, y5, y6⟩ := HU10.out.cells
          have hzl := HT10.out.lt
          have hyl := HU10.out.lt
          have HCD := Lib.hid (cdL_len uz2 uz3)
          go_upto_if 108 with fail
          go_cut [] (fun wx => NmS B B hd w8 wx)
          case first =>
            first
              | (go_wp2_with fail
                 go_meet
                 rw [HHD.out, List.append_nil]
                 exact HS10.out)
              | (cases het : (u.title.toList == t.title.toList) with
                 | true =>
                   have hne : (t.title.toList != u.title.toList) = false := by
                     have : u.title.toList = t.title.toList := by simpa using het
                     simp [this]
                   have hne4 : (!(t.title.toList == u.title.toList)) = false := hne
                   have HD : Hid (hd = cdL t) := by show hd = _; rw [HHD.out, if_pos het, List.append_nil]
                   clear het
                   rw [hne4]
                   go_wp2_with fail
                   go_meet
                   rw [HD.out]; exact HS10.out
                 | false =>
                   have hne : (t.title.toList != u.title.toList) = true := by
                     have : ¬ u.title.toList = t.title.toList := by simpa using het
                     simp only [bne_iff_ne, ne_eq]
                     exact fun e => this e.symm
                   have hne4 : (!(t.title.toList == u.title.toList)) = true := hne
                   have HD : Hid (hd = cdL t ++ ((⟨#[111, 102, 32]⟩ ++ u.title) ++ ⟨#[10]⟩ : ByteArray).data.toList) := by show hd = _; rw [HHD.out, if_neg (by rw [het]; simp)]
                   clear het
                   rw [hne4]
                   go_wp2_with fail
                   have htcs : ((⟨#[111, 102, 32]⟩ ++ u.title) ++ ⟨#[10]⟩ : ByteArray).size ≤ 110 := by
                     have e1 : (⟨#[10]⟩ : ByteArray).size = 1 := rfl
                     have e2 : (⟨#[111, 102, 32]⟩ : ByteArray).size = 3 := rfl
                     rw [ByteArray.size_append, ByteArray.size_append, e1, e2]; omega
                   obtain ⟨tc, htc⟩ : ∃ tc, tc = ((⟨#[111, 102, 32]⟩ ++ u.title) ++ ⟨#[10]⟩ : ByteArray) := ⟨_, rfl⟩
                   rw [← htc] at htcs ⊢
                   have HWS := Lib.hid (writeS_c tc HS10.out (by have := HCD.out; omega) hB6)
                   with_reducible refine HWS.out.mono ?_
                   rintro e w11 ⟨rfl, hst11, _, _⟩
                   rw [htc] at hst11
                   have HS11 := Lib.hid hst11
                   clear hst11 htc HWS
                   go_wp2_with fail
                   go_meet
                   rw [HD.out]; exact HS11.out)
          case rest =>
            have HS11 := Lib.hid hcut
            clear hcut HS10 HT10 HU10 z0 z1 z2 z3 z4 z5 z6 hzl y0 y1 y2 y3 y4 y5 y6 hyl HHD HCD hkb
            have HW5 := HW7
            go_wp2
            go_loopg [20, 21, 119] ps.length (LrRel B hd T l rate ps w8)
            case atStart => exact ⟨0, by omega, rfl, rfl, by unfold allB; simp, by unfold bodyT; rw [List.append_nil]; exact HS11.out⟩
            clear HS11
            case round =>
              obtain ⟨k, hk, rfl, rfl, rfl, hst⟩ := hrel
              have HK := Lib.hid hk
              have HST := Lib.hid hst
              have hk1 : k ≤ ps.length := by omega
              have HBR : Hid (Below B w7 wr) := HBW.out.trans hst.bel
              have HCW := Lib.hid (HAF.out _ HBR.out).2.2.2.2.2
              have hto := totL_le HTZ.out ps k
              clear hk hst
              by_cases hlt : k < ps.length
              · obtain ⟨b5, o5, rfl, hb5, hcc5⟩ := (HAF.out _ HBR.out).2.2.2.2.1.at_ (by omega)
                have q := hcc5 k hlt
                clear hcc5
                have hgd : ps.getD k 0 = ps[k] := by simp [List.getD, hlt]
                have HBN : Hid (bodyT T l rate ps (k + 1) = bodyT T l rate ps k ++ partT T l rate k ps[k]) := by
                  show bodyT T l rate ps (k + 1) = _
                  rw [bodyT, hgd]
                have HTN : Hid (totL l ps (k + 1) = totL l ps k + lenK l ps[k]) := by
                  show totL l ps (k + 1) = _
                  rw [totL, hgd]
                have HAN : Hid (allB l ps (k + 1) = (allB l ps k && (tkAt l ps[k]).isSome)) := by
                  show allB l ps (k + 1) = _
                  rw [allB, hgd]
                have hbl : (bodyT T l rate ps k).length ≤ 7000000 := by
                  have := bodyT_len (ps := ps) HTZ.out hr1 hr2 k (by omega)
                  omega
                have HHB := Lib.hid hbl
                have hts := title_size HTZ.out ps[k]
                have htt : 0 ≤ totL l ps k ∧ totL l ps k ≤ 500000000000000 := ⟨hto.1, by omega⟩
                clear hgd hto hbl
                generalize ps[k] = n at *
                generalize bodyT T l rate ps k = bk at *
                generalize totL l ps k = tt at *
                generalize allB l ps k = al at *
                obtain ⟨htt0, htt1⟩ := htt
                have HLK : Hid (∀ W, Below B w7 W → (Instr.lookup 50 (.map (some r)) (.int .i64 n) false).run Tryz.prog W = .ok (thV ((thAt T n).getD default)) W) := fun W hW => by
                  have := run_lookup_map tThs kInt zThing (HAF.out W hW).2.2.1.map n false
                  rw [← thO_getD]; exact this
                have HLT : Hid (∀ W, Below B w7 W → (Instr.lookup 57 (.map (some r2)) (.int .i64 n) true).run Tryz.prog W = .ok (.tuple #[tkV ((tkAt l n).getD default), .bool (tkAt l n).isSome]) W) := fun W hW => by
                  have := run_lookup_map tTks kInt zTrack (HAF.out W hW).2.2.2.1 n true
                  simp only [Option.isSome_map, if_true] at this
                  rw [← tkO_getD]; exact this
                have HCA : Hid (crsF ((tkAt l n).getD default).crs = 0 ∧ CrsOk w ((tkAt l n).getD default).cA ((tkAt l n).getD default).crs) := by
                  show _ ∧ _
                  cases htk : tkAt l n with
                  | none => exact ⟨rfl, ⟨fun h => absurd h (Nat.lt_irrefl 0), fun c hc => absurd (show c ∈ ([] : List Cr) from hc) (by simp), ⟨Nat.zero_le _, fun c hc => absurd (show c ∈ ([] : List Cr) from hc) (by simp)⟩⟩⟩
                  | some x => exact ⟨(HTZ.out.2 x (tkAt_some htk).1).2.2, HEM.out.crs x (tkAt_some htk).1⟩
                have hlk := lenK_le HTZ.out n
                have HLN : Hid (lenK l n = ((tkAt l n).getD default).len) := rfl
                have HPT := Lib.hid (partT_of (T := T) (rate := rate) (i := k) (n := n) (x := (tkAt l n).getD default) rfl rfl)
                rw [HLN.out] at hlk
                generalize (thAt T n).getD default = x at *
                generalize (tkAt l n).getD default = x2 at *
                generalize (tkAt l n).isSome = bkn at *
                obtain ⟨g1, g2⟩ := hlk
                go_wp2_with fail
                obtain ⟨it, hit⟩ : ∃ it, it = itoaB ((k : Int) + 1) := ⟨_, rfl⟩
                have his : it.size ≤ 16 := by rw [hit]; exact itoaB_size (by omega) (by omega)
                have HI : Hid (∀ W, BelH wr W → Calls Tryz.prog 25 #[.int .i64 ((k : Int) + 1)] W (GivesH wr (.string it))) := fun W hW =>
                  (itoa_c ((k : Int) + 1) W (by omega) (by omega) (HPK.out.below (below_trans HCW.out hW.out))).mono fun _ _ h => by rw [hit]; exact GivesB.toH hW h
                rw [← hit] at HPT
                clear hit
                obtain ⟨u1, u2, u3⟩ := line_cats it x.title his hts
                have v1 : IntKind.i64.wrap ((k : Int) + 1) = (k : Int) + 1 := IntWalk.i64_in _ (by omega)
                have HTX := Lib.hid u3
                generalize htx : ((it ++ ⟨#[46, 32]⟩) ++ x.title : ByteArray) = tx at *
                clear htx u3 his hts
                have HWR : Hid (∀ W, BelH wr W → Calls Tryz.prog 24 #[.pointer (some ⟨B, 0, none⟩), .string tx] W (GivesWL B (hd ++ bk ++ tx.data.toList) tx.size w8)) := fun W hW =>
                  (writeS_c tx (HST.out.below hB6 hW.out) (by have := HHL.out; have := HHB.out; have := HTX.out; rw [List.length_append]; omega) hB6).mono fun _ w' ⟨he, h1, _, _⟩ => ⟨he, h1⟩
                have HLW : Hid (∀ W, BelH wr W → (Instr.lookup 50 (.map (some r)) (.int .i64 n) false).run Tryz.prog W = .ok (.agg #[.int .i64 x.id, .int .i64 x.kind, .string x.title, .string x.code, .int .i64 x.since, .int .i64 x.parent, .slice x.pA x.parts.length x.pc]) W) := fun W hW => HLK.out W (HBW.out.trans (HST.out.below hB6 hW.out).bel)
                have HLX : Hid (∀ W, Below B w7 W → (Instr.lookup 50 (.map (some r)) (.int .i64 n) false).run Tryz.prog W = .ok (.agg #[.int .i64 x.id, .int .i64 x.kind, .string x.title, .string x.code, .int .i64 x.since, .int .i64 x.parent, .slice x.pA x.parts.length x.pc]) W) := HLK.out
                have H0 : BelH wr wr := Below.refl _ _
                have H1 : BelH wr wr.drew := below_drewN (Below.refl _ _) 1
                have y0 := HLW.out _ H0
                have y1 := HLW.out _ H1
                have f0 := fldT x wr
                have f1 := fldT x wr.drew
                go_region_held3 (fun w' => ((Instr.lookup 50 (.map (some r)) (.int .i64 n) false).run Tryz.prog w' = .ok (.agg #[.int .i64 x.id, .int .i64 x.kind, .string x.title, .string x.code, .int .i64 x.since, .int .i64 x.parent, .slice x.pA x.parts.length x.pc]) w') ∧ ((Instr.field 54 (.agg #[.int .i64 x.id, .int .i64 x.kind, .string x.title, .string x.code, .int .i64 x.since, .int .i64 x.parent, .slice x.pA x.parts.length x.pc]) 2).run Tryz.prog w' = .ok (.string x.title) w')) (go_keep)
                  (first
                    | ((go_at_call 25; (with_reducible refine (HI.out _ (by assumption)).mono ?_); rintro e w9' ⟨rfl, H8⟩; have y2 := HLW.out _ H8; have f2 := fldT x w9'))
                    | ((go_at_call 24; (with_reducible refine (HWR.out _ (by assumption)).mono ?_); rintro e w9 ⟨rfl, hst9⟩; have HS9 := Lib.hid hst9; have y3 := HLX.out _ (HBW.out.trans HS9.out.bel); have f3 := fldT x w9; clear hst9)))
                all_goals
                  clear u1 u2 v1 HWR HLW HI H0 H1 y0 y1 f0 f1
                  have hlt2 := HLT.out _ (HBW.out.trans HS9.out.bel)
                  have HS10 := Lib.hid (HS9.out.below hB6 ((Below.refl _ _).alloc (Nat.le_refl _) (.cells #[.int .i64 x2.rc, .int .i64 x2.len, .slice x2.cA x2.crs.length x2.cc] 60)))
                  have HK10 : Hid (BoxK (w9.alloc (.cells #[.int .i64 x2.rc, .int .i64 x2.len, .slice x2.cA x2.crs.length x2.cc] 60)) w9.heap.size x2) := heap_alloc_new _ _
                  have hqB : B < w9.heap.size := HS9.out.bld.lt
                  cases bkn
                  case' true =>
                    have HC10 := Lib.hid (HAF.out _ (HBW.out.trans HS10.out.bel)).2.2.2.2.2
                    have hSH := show_c x2.len rate (w9.alloc (.cells #[.int .i64 x2.rc, .int .i64 x2.len, .slice x2.cA x2.crs.length x2.cc] 60)) g1 (by omega) hr1 hr2 (HPK.out.below HC10.out)
                    rw [showP_ok (by omega)] at hSH
                    have HSH := Lib.hid hSH
                    have hss := showB_size (rate := rate) g1 g2 hr1 hr2
                    have HPT2 : Hid (partT T l rate k n = tx.data.toList ++ ([32] ++ (showB x2.len rate).data.toList ++ [10] ++ (nmB x2.crs).data.toList)) := HPT.out
                    clear hSH HPT
                    generalize showB x2.len rate = sh at *
                    go_wp2_with fail
                    refine HSH.out.mono ?_
                    rintro e w11 ⟨rfl, hb11⟩
                    have HS11 := Lib.hid (HS10.out.below hB6 hb11)
                    have HK11 := Lib.hid (HK10.out.below hb11)
                    clear hb11 HSH HS10 HK10 HC10 HS9 hlt2
                    generalize hqq : w9.heap.size = q at *
                    clear hqq
                    go_wp2_with fail
                    have hms : (⟨#[32]⟩ ++ sh : ByteArray).size ≤ 50 := by
                      have e1 : (⟨#[32]⟩ : ByteArray).size = 1 := rfl
                      rw [ByteArray.size_append, e1]; omega
                    obtain ⟨ms, hmse⟩ : ∃ ms, ms = (⟨#[32]⟩ ++ sh : ByteArray) := ⟨_, rfl⟩
                    rw [← hmse] at hms ⊢
                    have HWS := Lib.hid (writeS_c ms HS11.out (by have := HHL.out; have := HHB.out; have := HTX.out; rw [List.length_append, List.length_append, len_data']; omega) hB6)
                    with_reducible refine HWS.out.mono ?_
                    rintro e w12 ⟨rfl, hst12, hk12, _⟩
                    obtain ⟨mid, hmid⟩ : ∃ mid, mid = ms.data.toList := ⟨_, rfl⟩
                    have HML : Hid (mid.length ≤ 50) := by
                      show mid.length ≤ 50
                      rw [hmid, len_data']; exact hms
                    have HPM : Hid (partT T l rate k n = tx.data.toList ++ (mid ++ [10] ++ (nmB x2.crs).data.toList)) := by
                      show _ = _
                      rw [HPT2.out, hmid, hmse, data_app]
                    have HSQ : Hid (NmS B B (hd ++ bk ++ tx.data.toList ++ mid) w8 w12) := by
                      show NmS _ _ _ _ _
                      rw [hmid]; exact hst12
                    have HKQ := Lib.hid (HK11.out.kept hk12 (by omega))
                    clear hst12 hk12 HS11 HK11 HPT2 hmid hss hmse hms HWS
                    go_wp2_with fail
                    generalize hwq : w12 = wq at *
                    clear hwq
                  case' false =>
                    obtain ⟨mid, hmid⟩ : ∃ mid : List UInt8, mid = [] := ⟨_, rfl⟩
                    have HML : Hid (mid.length ≤ 50) := by show mid.length ≤ 50; rw [hmid]; simp
                    have HPM : Hid (partT T l rate k n = tx.data.toList ++ (mid ++ [10] ++ (nmB x2.crs).data.toList)) := by
                      show _ = _
                      rw [hmid]; exact HPT.out
                    have HSQ : Hid (NmS B B (hd ++ bk ++ tx.data.toList ++ mid) w8 (w9.alloc (.cells #[.int .i64 x2.rc, .int .i64 x2.len, .slice x2.cA x2.crs.length x2.cc] 60))) := by
                      show NmS _ _ _ _ _
                      rw [hmid, List.append_nil]; exact HS10.out
                    have HKQ := HK10
                    clear HPT HS10 HK10 HS9 hmid
                    go_wp2_with fail
                    generalize hwq : (w9.alloc (.cells #[.int .i64 x2.rc, .int .i64 x2.len, .slice x2.cA x2.crs.length x2.cc] 60)) = wq at *
                    generalize hqq : w9.heap.size = q at *
                    clear hwq hqq
                  all_goals
                    refine (writeS_c ⟨#[10]⟩ HSQ.out (by have e2 : (⟨#[10]⟩ : ByteArray).size = 1 := rfl; have := HHL.out; have := HHB.out; have := HTX.out; have := HML.out; rw [List.length_append, List.length_append, List.length_append, len_data', e2]; omega) hB6).mono ?_
                    rintro e w13 ⟨rfl, hst13, hk13, _⟩
                    have HS13 := Lib.hid hst13
                    have HK13 := Lib.hid (HKQ.out.kept hk13 (by omega))
                    clear hst13 hk13 HSQ HKQ
                    obtain ⟨z0, z1, z2⟩ := HK13.out.cells
                    have hzl := HK13.out.lt
                    have HC13 := Lib.hid (HAF.out _ (HBW.out.trans HS13.out.bel)).2.2.2.2.2
                    go_wp2_with fail
                    refine (named_c w B B _ x2.cA x2.cc x2.crs _ HCA.out.2 (nmSz_of HCA.out.1) HC13.out hwB HS13.out.bld (Nat.le_trans hB6 HS13.out.bel.size) HS13.out.bld.lt (by have := HHL.out; have := HHB.out; have := HTX.out; have := HML.out; simp only [List.length_append, len_data', List.length_cons, List.length_nil]; omega)).mono ?_
                    rintro e w14 ⟨rfl, hbl14, hb14, hk14⟩
                    have HS14 : Hid (NmS B B (hd ++ bk ++ tx.data.toList ++ mid ++ (⟨#[10]⟩ : ByteArray).data.toList ++ (nmB x2.crs).data.toList) w8 w14) := ⟨hbl14, HS13.out.bel.trans hb14, Lib.OthersKept.trans HS13.out.kept hk14⟩
                    have HK14 := Lib.hid (HK13.out.kept hk14 (by omega))
                    clear hbl14 hb14 hk14 HS13 HK13 HC13 z0 z1 z2 hzl
                    obtain ⟨z0, z1, z2⟩ := HK14.out.cells
                    have hzl := HK14.out.lt
                    have HSF : Hid (NmS B B (hd ++ bodyT T l rate ps (k + 1)) w8 w14) := by
                      show NmS _ _ _ _ _
                      rw [HBN.out, HPM.out]
                      have := HS14.out
                      rw [List.append_assoc, List.append_assoc, List.append_assoc, List.append_assoc] at this
                      rw [List.append_assoc]
                      exact this
                    cases al
                    all_goals
                      go_wp2
                      go_roundg (gk - 1)
                      case measure => have := HK.out; omega
                      case rel => exact ⟨k + 1, by have := HK.out; omega, by go_num, by rw [HTN.out, HLN.out], by rw [HAN.out]; rfl, HSF.out⟩
              · have hke : k = ps.length := by omega
                have HKE := Lib.hid hke
                cases hall : allB l ps k with
                | false =>
                  have HRES : Hid (res = finP (hd ++ bodyT T l rate ps k)) := by
                    show _ = _
                    rw [HKE.out] at hall ⊢
                    exact HR3.out hall
                  clear hall hke HR1 HR2 HR3
                  generalize totL l ps k = tt at *
                  have HBF := Lib.hid (HBW.out.trans HST.out.bel)
                  have HBLD := Lib.hid HST.out.bld
                  have HBE : Hid (Below w.heap.size w wr) := HW5.out.trans (HBF.out.mono hw5)
                  have HLN := Lib.hid (blen_c B B _ wr HBLD.out)
                  have HSR := Lib.hid (bstr_c B B _ wr HBLD.out (Nat.le_trans hB6 HST.out.bel.size))
                  have hbl : (hd ++ bodyT T l rate ps k).length ≤ 100000000 := by have := HHL.out; have := bodyT_len (ps := ps) HTZ.out hr1 hr2 k (by omega); rw [List.length_append]; omega
                  clear HBLD HBF HST
                  generalize (hd ++ bodyT T l rate ps k) = LL at *
                  by_cases hbig : 200000 < LL.length
                  · have HR2 := Lib.hid (HRES.out.trans (finP_large hbig))
                    go_wp2_with fail
                    refine HLN.out.mono ?_
                    rintro e w8 ⟨rfl, rfl⟩
                    go_wp2
                    go_ret2
                    exact GivesSP.mk HR2.out HBE.out
                  · have HR2 := Lib.hid (HRES.out.trans (finP_ok hbig))
                    go_wp2_with fail
                    refine HLN.out.mono ?_
                    rintro e w8 ⟨rfl, rfl⟩
                    go_wp2_with fail
                    refine HSR.out.mono ?_
                    rintro e w9 ⟨rfl, hb9⟩
                    have HB9 := Lib.hid (HBE.out.trans (hb9.mono hwB))
                    clear hb9
                    go_wp2
                    go_ret2
                    exact GivesSP.mk HR2.out HB9.out
                | true =>
                  by_cases htb : 10000000000000 < totL l ps k
                  · have HRES : Hid (res = (⟨#[]⟩, 1)) := by
                      show _ = _
                      rw [HKE.out] at hall htb
                      exact HR1.out hall htb
                    have hSH := show_c (totL l ps k) rate wr (by omega) (by omega) hr1 hr2 (HPK.out.below HCW.out)
                    rw [showP_big htb] at hSH
                    have HSH := Lib.hid hSH
                    clear hall hke HR1 HR2 HR3 htb hSH
                    generalize totL l ps k = tt at *
                    go_wp2_with fail
                    refine HSH.out.mono ?_
                    rintro e w7 ⟨rfl, hb7⟩
                    have HB7 := Lib.hid (below_trans HCW.out hb7)
                    clear hb7
                    go_wp2
                    go_ret2
                    exact GivesSP.mk HRES.out HB7.out
                  · have hSH := show_c (totL l ps k) rate wr (by omega) (by omega) hr1 hr2 (HPK.out.below HCW.out)
                    rw [showP_ok htb] at hSH
                    have HSH := Lib.hid hSH
                    have hss := showB_size (rate := rate) hto.1 (by omega) hr1 hr2
                    have HRES0 : Hid (res = finP (hd ++ bodyT T l rate ps k ++ ((⟨#[116, 111, 116, 97, 108, 32]⟩ ++ showB (totL l ps k) rate) ++ ⟨#[10]⟩ : ByteArray).data.toList)) := by
                      show _ = _
                      rw [HKE.out] at hall htb ⊢
                      exact HR2.out hall (by omega)
                    have htl : ((⟨#[116, 111, 116, 97, 108, 32]⟩ ++ showB (totL l ps k) rate) ++ ⟨#[10]⟩ : ByteArray).size ≤ 100 := by
                      have e1 : (⟨#[116, 111, 116, 97, 108, 32]⟩ : ByteArray).size = 6 := rfl
                      have e2 : (⟨#[10]⟩ : ByteArray).size = 1 := rfl
                      simp only [ByteArray.size_append, e1, e2]; omega
                    have HTS := Lib.hid htl
                    clear hall hke HR1 HR2 HR3 htb hSH htl
                    generalize totL l ps k = tt at *
                    generalize showB tt rate = sh at *
                    go_wp2_with fail
                    refine HSH.out.mono ?_
                    rintro e w7' ⟨rfl, hb7⟩
                    have HS7 := Lib.hid (HST.out.below hB6 hb7)
                    clear hb7
                    go_wp2_with fail
                    generalize htt : ((⟨#[116, 111, 116, 97, 108, 32]⟩ ++ sh) ++ ⟨#[10]⟩ : ByteArray) = tot at *
                    clear htt
                    have HRES := HRES0
                    refine (writeS_c tot HS7.out (by have := HHL.out; have := bodyT_len (ps := ps) HTZ.out hr1 hr2 k (by omega); have := HTS.out; rw [List.length_append]; omega) hB6).mono ?_
                    rintro e w7 ⟨rfl, hst7, _, _⟩
                    have HST7 := Lib.hid hst7
                    clear hst7 HS7 HST
                    have HBF := Lib.hid (HBW.out.trans HST7.out.bel)
                    have HBLD := Lib.hid HST7.out.bld
                    have HBE : Hid (Below w.heap.size w w7) := HW5.out.trans (HBF.out.mono hw5)
                    have HLN := Lib.hid (blen_c B B _ w7 HBLD.out)
                    have HSR := Lib.hid (bstr_c B B _ w7 HBLD.out (Nat.le_trans hB6 HST7.out.bel.size))
                    have hbl : (hd ++ bodyT T l rate ps k ++ tot.data.toList).length ≤ 100000000 := by have := HHL.out; have := bodyT_len (ps := ps) HTZ.out hr1 hr2 k (by omega); have := HTS.out; rw [List.length_append, List.length_append, len_data']; omega
                    clear HBLD HBF HST7
                    generalize (hd ++ bodyT T l rate ps k ++ tot.data.toList) = LL at *
                    by_cases hbig : 200000 < LL.length
                    · have HR2 := Lib.hid (HRES.out.trans (finP_large hbig))
                      go_wp2_with fail
                      refine HLN.out.mono ?_
                      rintro e w8 ⟨rfl, rfl⟩
                      go_wp2
                      go_ret2
                      exact GivesSP.mk HR2.out HBE.out
                    · have HR2 := Lib.hid (HRES.out.trans (finP_ok hbig))
                      go_wp2_with fail
                      refine HLN.out.mono ?_
                      rintro e w8 ⟨rfl, rfl⟩
                      go_wp2_with fail
                      refine HSR.out.mono ?_
                      rintro e w9 ⟨rfl, hb9⟩
                      have HB9 := Lib.hid (HBE.out.trans (hb9.mono hwB))
                      clear hb9
                      go_wp2
                      go_ret2
                      exact GivesSP.mk HR2.out HB9.out
end Go.Proofs.YtfninfgohiipjaaGreatDoor.l3
