/- Package desk: Deliver. slices.Contains and slices.Equal over deliveries; the reference's Below and WasAsked. The law DeskDeliveriesStay as a call. Rows: asks opened. -/
import Derived.Test.YtfninfgohiipjaaGreatDoorLeA
import Derived.Deep.RegionHeld3
import Derived.Test.YtfninfgohiipjaaGreatDoorDelPlain
import Derived.Laws.StructEq
import Derived.Test.YtfninfgohiipjaaGreatDoorLrA
namespace Go.Proofs.YtfninfgohiipjaaGreatDoor
open Go.RowKit Dw

theorem wp_wish (w : World) : (zeroValue 4).run Tryz.prog w = .ok (.bool false) w := zBool w
theorem allD_len {T : List Th} {M : List Mv} {l : List Em} {ak : List Ak} (h : chkC twoB T M = 0) (k : Nat) (hk : ak.length ≤ 500) : (allD (frD T M l) (insL T M) (ak.take k)).length ≤ 150000 := by
  have := addsA_len (fr := frD T M l) (ins := insL T M) (B := 300) (fun id => insL_len h) (ak.take k) []
  have h2 : (ak.take k).length ≤ 500 := by simp; omega
  unfold allD
  simp at this
  have h3 : (ak.take k).length * 300 ≤ 500 * 300 := Nat.mul_le_mul_right _ h2
  simp at h3
  omega
theorem insL_some {T : List Th} {M : List Mv} {id : Int} {L : List Int} (h : insO T M id = some L) : insL T M id = L := by unfold insL; rw [h]; rfl

set_option maxRecDepth 100000 in
set_option maxHeartbeats 2000000 in
theorem Deliver_c (A1 : Option Addr) (c1 : Nat) (T : List Th) (A2 : Option Addr) (c2 : Nat) (M : List Mv) (A : Option Addr) (c : Nat) (l : List Em) (A3 : Option Addr) (c3 : Nat) (ak : List Ak) (upto : Int) (w : World) (hc : CatOk w A1 T A2 M) (hG : GOK w) (he : EmsOk w A l) (ha : AksOk w A3 ak) :
    Calls Tryz.prog 16 #[catV A1 c1 T A2 c2 M, .slice A l.length c, .slice A3 ak.length c3, .int .i64 upto] w (GivesD (delF T M l ak upto) w) := by
  have hmm := @run_makeMap Tryz.prog
  have HMM := Lib.hid hmm
  clear hmm
  go_enter Tryz.func16, Tryz.ntmps16
  go_wp2_with fail
  refine (newWithins_c w A1 c1 T A2 c2 M _ ((Below.refl _ _).alloc (Nat.le_refl _) _)).mono ?_
  rintro e w1 ⟨g, r, rfl, hs, _⟩
  have HS := Lib.hid hs
  clear hs
  go_wp2_with fail
  refine (checkEm_c w g r A1 c1 T A2 c2 M A c l w1 hc hG he HS.out).mono ?_
  rintro e w2 ⟨rfl, hs2⟩
  have HS2 := Lib.hid hs2
  clear hs2
  by_cases hck : chkE T M l = 0
  case neg =>
    have hckb : (chkE T M l != 0) = true := by simpa using hck
    have HX := Lib.hid (delF_bad (ak := ak) (upto := upto) hck)
    clear hck
    generalize chkE T M l = z at *
    go_wp2
    go_ret2
    exact GivesD.err HX.out HS2.out.bel
  have HCK := Lib.hid hck
  have hCC := (chkE_ok hck).1
  have HCC := Lib.hid hCC
  rw [hck]
  clear hck hCC
  go_wp2_with fail
  refine (checkAs_c w g r A1 c1 T A2 c2 M _ A3 c3 ak w2 hc hG HCC.out ha HS2.out).mono ?_
  rintro e w3 ⟨rfl, hs3⟩
  have HS3 := Lib.hid hs3
  clear hs3 HS2 HS
  by_cases hca : chkAs T M ak = 0
  case neg =>
    have hckb : (chkAs T M ak != 0) = true := by simpa using hca
    have HX := Lib.hid (delF_asks (upto := upto) HCK.out hca)
    clear hca
    generalize chkAs T M ak = z at *
    go_wp2
    go_ret2
    exact GivesD.err HX.out HS3.out.bel
  have HCA := Lib.hid hca
  rw [hca]
  clear hca
  by_cases hu : upto < 0
  · have HX := Lib.hid (delF_upto HCK.out HCA.out (.inl hu))
    go_wp2
    go_ret2
    exact GivesD.err HX.out HS3.out.bel
  by_cases hu2 : 200000 < upto
  · have HX := Lib.hid (delF_upto HCK.out HCA.out (.inr hu2))
    go_wp2
    go_ret2
    exact GivesD.err HX.out HS3.out.bel
  have HX := Lib.hid (delF_ok HCK.out HCA.out (by omega : ¬ (upto < 0 ∨ 200000 < upto)))
  have hmm := HMM.out
  have hn5 := (chkAs_ok HCA.out).1
  have HKE : Hid (∀ x ∈ l, (fun k => (chkE T M l = 0 ∧ idsTo l l.length k) ∨ chkAs T M ak = 0 ∧ idsA ak ak.length k) x.id) := by
    show ∀ x ∈ l, _
    intro x hx
    obtain ⟨j, hj, rfl⟩ := List.getElem_of_mem hx
    exact .inl ⟨HCK.out, j, hj, hj, rfl⟩
  have HKA : Hid (∀ x ∈ ak, (fun k => (chkE T M l = 0 ∧ idsTo l l.length k) ∨ chkAs T M ak = 0 ∧ idsA ak ak.length k) x.id) := by
    show ∀ x ∈ ak, _
    intro x hx
    obtain ⟨j, hj, rfl⟩ := List.getElem_of_mem hx
    exact .inr ⟨HCA.out, j, hj, hj, rfl⟩
  generalize hKK : (fun k => (chkE T M l = 0 ∧ idsTo l l.length k) ∨ chkAs T M ak = 0 ∧ idsA ak ak.length k) = KK at *
  clear hKK
  have HLEN : Hid (∀ k, (allD (frD T M l) (insL T M) (ak.take k)).length ≤ 150000) := fun k => allD_len HCC.out k hn5
  go_wp2
  clear hmm
  go_loopg [14, 46] ak.length (DvRel w3 (frD T M l) (insL T M) ak upto)
  case atStart => exact ⟨0, by omega, rfl, ⟨(Below.refl _ _).alloc (Nat.le_refl _) _, MapIs.new mkW _, OwnL.nil _ _ _ _ _⟩⟩
  case round =>
    obtain ⟨k, hk, rfl, hdv⟩ := hrel
    have HK := Lib.hid hk
    have HDV := Lib.hid hdv
    have hk1 : k ≤ ak.length := by omega
    have hlt0 := hdv.lt
    clear hk hdv
    by_cases hlt : k < ak.length
    · have hab := (ha.below HS3.out.bel).below HDV.out.bel
      obtain ⟨b, o, rfl, hb, hcc⟩ := hab.aks.at_ (by omega)
      obtain ⟨q0, q1, q2⟩ := hcc k hlt
      clear hcc hab
      have HDA := Lib.hid (HDV.out.alloc (.cells #[.int .i64 (ak[k]).day, .string (ak[k]).party, .int .i64 (ak[k]).id] 100))
      have HBX : Hid (BoxA (wr.alloc (.cells #[.int .i64 (ak[k]).day, .string (ak[k]).party, .int .i64 (ak[k]).id] 100)) wr.heap.size ak[k]) := heap_alloc_new _ _
      go_wp2_with fail
      refine (atK_c w w3 g r (.slice A1 T.length c1) (.slice A2 M.length c2) T M KK (ak[k]).id _ HS3.out HDA.out.bel (HKA.out _ (List.getElem_mem hlt))).mono ?_
      rintro e w4 ⟨rfl, A', c', L, hin, rfl, hL⟩
      have HLL := Lib.hid (insL_some hin)
      have hLn := insO_len HCC.out hin
      have HL := Lib.hid hL
      clear hin hL q0 q1 q2
      generalize hpp : wr.heap.size = p at *
      generalize wr.alloc (.cells #[.int .i64 (ak[k]).day, .string (ak[k]).party, .int .i64 (ak[k]).id] 100) = wa at *
      clear hpp HDV
      obtain ⟨g1, hg1⟩ : ∃ g1, g1 = gk := ⟨_, rfl⟩
      subst hg1
      go_wp2
      go_loopg [14, 59] L.length (DiRel w3 (frD T M l) ak[k] p L (allD (frD T M l) (insL T M) (ak.take k)) upto)
      case atStart => exact ⟨0, by omega, rfl, HBX.out, HDA.out⟩
      clear HDA HBX
      case round =>
        obtain ⟨k2, hk2, rfl, hbx, hdv⟩ := hrel
        have HK2 := Lib.hid hk2
        have HB2 := Lib.hid hbx
        have HD2 := Lib.hid hdv
        have hk21 : k2 ≤ L.length := by omega
        clear hk2 hbx hdv
        have hltw := HD2.out.lt
        have hpw := HB2.out.lt
        by_cases hlt2 : k2 < L.length
        · obtain ⟨b2, o2, rfl, hb2, hc2⟩ := (HL.out.below HD2.out.bel).at_ (by omega)
          have q := hc2 k2 hlt2
          clear hc2
          obtain ⟨x0, x1, x2⟩ := HB2.out.cells
          have HACC := Lib.hid (addD_snoc (fr := frD T M l) (a := ak[k]) hlt2 (allD (frD T M l) (insL T M) (ak.take k)))
          have HLN : Hid (((L.take k2).foldl (addD (frD T M l) ak[k]) (allD (frD T M l) (insL T M) (ak.take k))).length ≤ 160000) := by
            show _ ≤ _
            have h1 := addsD_len (fr := frD T M l) (a := ak[k]) (L.take k2) (allD (frD T M l) (insL T M) (ak.take k))
            have h2 := HLEN.out k
            have h3 : (L.take k2).length ≤ 300 := by simp; omega
            omega
          generalize (L.take k2).foldl (addD (frD T M l) ak[k]) (allD (frD T M l) (insL T M) (ak.take k)) = acc at *
          generalize L[k2] = n at *
          have hw1 : Below wr.heap.size wr (wr.alloc (.cells #[.string (ak[k]).party, .int .i64 n] 102)) := (Below.refl _ _).alloc (Nat.le_refl _) _
          have HD3 := Lib.hid (HD2.out.below hw1)
          have HB3 := Lib.hid (HB2.out.below hw1)
          have hlk : (Instr.lookup 98 (.map (some w3.heap.size)) (.agg #[.string (ak[k]).party, .int .i64 n]) false).run Tryz.prog (wr.alloc (.cells #[.string (ak[k]).party, .int .i64 n] 102)) = .ok (.bool (hasD acc (ak[k]).party n)) (wr.alloc (.cells #[.string (ak[k]).party, .int .i64 n] 102)) := by
            have := run_lookup_mapF tWish kWish zBool HD3.out.seen ((ak[k]).party, n) false
            rw [seenD_get] at this
            exact this
          clear hw1
          cases hq : hasD acc (ak[k]).party n with
          | true =>
            rw [hq] at hlk
            have HA2 : Hid ((L.take (k2 + 1)).foldl (addD (frD T M l) ak[k]) (allD (frD T M l) (insL T M) (ak.take k)) = acc) := by
              show _ = _
              rw [HACC.out]
              unfold addD
              rw [if_pos hq]
            clear hq HACC
            go_wp2
            go_roundg (gk - 1)
            case measure => have := HK2.out; omega
            case rel => exact ⟨k2 + 1, by have := HK2.out; omega, by go_num, HB3.out, by rw [HA2.out]; exact HD3.out⟩
          | false =>
            rw [hq] at hlk
            have HA2 : Hid ((L.take (k2 + 1)).foldl (addD (frD T M l) ak[k]) (allD (frD T M l) (insL T M) (ak.take k)) = acc ++ [⟨max (ak[k]).day (frD T M l (ak[k]).party n), (ak[k]).party, n⟩]) := by
              show _ = _
              rw [HACC.out]
              unfold addD
              rw [if_neg (by rw [hq]; simp)]
            clear hq HACC
            obtain ⟨w5, hrun, hm5, hg5, hz5⟩ := run_update_mapF (P := Tryz.prog) tWish kWish HD3.out.seen ((ak[k]).party, n) (.bool true)
            have hrun' : (Instr.mapUpdate 98 (.map (some w3.heap.size)) (.agg #[.string (ak[k]).party, .int .i64 n]) (.bool true)).run Tryz.prog (wr.alloc (.cells #[.string (ak[k]).party, .int .i64 n] 102)) = .ok () w5 := hrun
            rw [seenD_snoc acc (max (ak[k]).day (frD T M l (ak[k]).party n))] at hm5
            have hb5 : Below w3.heap.size w3 w5 := below_mapU HD3.out.bel hg5 (Nat.le_refl _) HD3.out.bel.size
            have ho5 : OwnL encD 3 w5 (w3.heap.size + 1) 44 u14 (acc.filter fun d => decide (d.day ≤ upto)) := HD3.out.own.grown hg5 (.inr fun e => by
              have := (World.ownsRow.lt HD3.out.own _ e).1
              omega)
            have hx5 : BoxA w5 p ak[k] := (hg5.block _ HB3.out.lt (fun e => by
              injection e with e
              exact map_cells HD3.out.seen (boxC HB3.out (i := 0) rfl) e)).trans HB3.out
            have HM5 := Lib.hid hm5
            have HB5 := Lib.hid hb5
            have HO5 := Lib.hid ho5
            have HX5 := Lib.hid hx5
            have HWS := Lib.hid (HS3.out.below hb5)
            clear hrun hm5 hg5 hz5 hb5 ho5 hx5
            go_wp2_with fail
            clear hrun' hlk x0 x1 x2 q
            obtain ⟨x0, x1, x2⟩ := HX5.out.cells
            have hp5 := HX5.out.lt
            go_region_held3 (fun w' => w'.cell? ⟨p, 0, none⟩ = some (.int .i64 (ak[k]).day) ∧ w'.cell? ⟨p, 1, none⟩ = some (.string (ak[k]).party)) (go_keep)
              (first
                | ((go_at_call 43; refine (freeOne_c w g r A1 c1 T A2 c2 M KK A c l (ak[k]).party n _ w5 hc hG he HCK.out HKE.out HWS.out).mono ?_; rintro e w6 ⟨rfl, hb6⟩; have HB6 := Lib.hid hb6; have z0 := (HX5.out.below hb6).cells.1; have z1 := (HX5.out.below hb6).cells.2.1; clear hb6)))
            have HB7 := Lib.hid (HB5.out.trans (HB6.out.mono HB5.out.size))
            have HM7 := Lib.hid (HM5.out.below HB6.out)
            have HO7 := Lib.hid (HO5.out.below HB6.out)
            have HX7 := Lib.hid (HX5.out.below HB6.out)
            have hp7 := HX7.out.lt
            clear x0 x1 x2 hp5 HM5 HB5 HO5 HX5 HWS HB6 HD3 HB3 HD2 HB2
            have hlenf : (acc.filter fun d => decide (d.day ≤ upto)).length ≤ 160000 := Nat.le_trans (List.length_filter_le _ _) HLN.out
            by_cases hday : max (ak[k]).day (frD T M l (ak[k]).party n) ≤ upto
            · have HFL : Hid ((acc ++ [(⟨max (ak[k]).day (frD T M l (ak[k]).party n), (ak[k]).party, n⟩ : Dl)]).filter (fun d => decide (d.day ≤ upto)) = (acc.filter fun d => decide (d.day ≤ upto)) ++ [⟨max (ak[k]).day (frD T M l (ak[k]).party n), (ak[k]).party, n⟩]) := by
                show _ = _
                rw [List.filter_append, List.filter_cons_of_pos (by simpa using hday)]; rfl
              generalize frD T M l (ak[k]).party n = fd at *
              have hbz := HB7.out.size
              go_wp2_with (at_builtin; refine wpList_push _ _ _ elDl rfl rfl (w3.heap.size + 1) _ (acc.filter fun d => decide (d.day ≤ upto)) rfl (HO7.out.alloc _) w6.heap.size 1 ⟨max (ak[k]).day fd, (ak[k]).party, n⟩ rfl (heap_alloc_new _ _) rfl (by simp [Value.oneCell']) (by unfold maxLen; omega) (by omega) (by have := HM7.out.lt; simp; omega) ?_; intro v1 w8 hown8 hg8 hb8)
              have hxa := HX7.out.below ((Below.refl w6.heap.size w6).alloc (Nat.le_refl _) (.cells #[.int .i64 (max (ak[k]).day fd), .string (ak[k]).party, .int .i64 n] 44))
              have hx8 : BoxA w8 p ak[k] := (hg8.block _ hxa.lt (hxa.ne_own (HO7.out.alloc _))).trans hxa
              have hd8 : DvS w3 w8 (acc ++ [(⟨max (ak[k]).day fd, (ak[k]).party, n⟩ : Dl)]) upto v1 := by
                refine ⟨(HB7.out.alloc hbz _).trans (hb8.mono (by omega)), (HM7.out.alloc _).keep (hb8.block _ (by omega)), ?_⟩
                rw [HFL.out]; exact hown8
              have HX8 := Lib.hid hx8
              have HD8 := Lib.hid hd8
              clear hxa hx8 hd8 hown8 hg8 hb8 z0 z1 hp7 hbz
              go_wp2
              go_roundg (gk - 1)
              case measure => have := HK2.out; omega
              case rel => exact ⟨k2 + 1, by have := HK2.out; omega, by go_num, HX8.out, by rw [HA2.out]; exact HD8.out⟩
            · have HD8 : Hid (DvS w3 w6 (acc ++ [(⟨max (ak[k]).day (frD T M l (ak[k]).party n), (ak[k]).party, n⟩ : Dl)]) upto u14) := by
                show DvS w3 w6 _ upto u14
                refine ⟨HB7.out, HM7.out, ?_⟩
                rw [List.filter_append, List.filter_cons_of_neg (by simpa using hday), List.filter_nil, List.append_nil]
                exact HO7.out
              generalize frD T M l (ak[k]).party n = fd at *
              go_wp2
              go_roundg (gk - 1)
              case measure => have := HK2.out; omega
              case rel => exact ⟨k2 + 1, by have := HK2.out; omega, by go_num, HX7.out, by rw [HA2.out]; exact HD8.out⟩
        · have HA3 : Hid ((L.take k2).foldl (addD (frD T M l) ak[k]) (allD (frD T M l) (insL T M) (ak.take k)) = allD (frD T M l) (insL T M) (ak.take (k + 1))) := by
            show _ = _
            have e : L.take k2 = L := List.take_of_length_le (by omega)
            rw [allD_snoc hlt, HLL.out, e]
          go_wp2
          go_roundg (g1 - 1)
          case measure => have := HK.out; omega
          case rel => exact ⟨k + 1, by have := HK.out; omega, by go_num, by rw [← HA3.out]; exact HD2.out⟩
    · have hLN : ((allD (frD T M l) (insL T M) (ak.take k)).filter fun d => decide (d.day ≤ upto)).length ≤ 1000000 := Nat.le_trans (List.length_filter_le _ _) (Nat.le_trans (HLEN.out k) (by decide))
      have HLN := Lib.hid hLN
      have HFIN : Hid (delL T M l ak upto = srtD ((allD (frD T M l) (insL T M) (ak.take k)).filter fun d => decide (d.day ≤ upto))) := by
        show _ = _
        unfold delL
        rw [List.take_of_length_le (by omega)]
      have HOW := Lib.hid HDV.out.own
      clear hLN
      generalize ((allD (frD T M l) (insL T M) (ak.take k)).filter fun d => decide (d.day ≤ upto)) = LL at *
      obtain ⟨A9, c9, hv9, _⟩ := own_form HOW.out
      subst hv9
      go_wp2_with fail
      refine (sortD_c (.slice A9 LL.length c9) LL (w3.heap.size + 1) _ HOW.out HLN.out).mono ?_
      rintro e w5 ⟨rfl, A', c', hv, hcap, hd, hb⟩
      injection hv with h1 _ h2
      subst h1
      subst h2
      have HD := Lib.hid hd
      have HBF := Lib.hid (HS3.out.bel.trans ((HDV.out.bel.trans (hb.mono (by omega))).mono HS3.out.bel.size))
      have HCP := Lib.hid hcap
      clear hd hb hcap HDV HOW
      go_wp2
      go_ret2
      exact GivesD.mk HX.out (by rw [HFIN.out, srtD_len]) (by rw [HFIN.out]; exact HD.out) HBF.out HCP.out
end Go.Proofs.YtfninfgohiipjaaGreatDoor

namespace Go.Proofs.YtfninfgohiipjaaGreatDoor
open Go.Shelf Go.RowKit Go.Lib Dw

def eqDl (x y : Dl) : Bool := x.day == y.day && (x.party.toList == y.party.toList && x.rc == y.rc)
theorem eqDl_iff {x y : Dl} : eqDl x y = true ↔ x = y := by
  unfold eqDl
  constructor
  · intro h
    simp only [Bool.and_eq_true, beq_iff_eq] at h
    exact Dl.ext' h.1 (Dw.toList_inj h.2.1) h.2.2
  · rintro rfl; simp
theorem eqlD : EqlAt Tryz.prog 44 (fun x => .agg (encD x).toArray) eqDl := by
  refine ⟨fun x y w => ?_, GuardAt.agg _ (by kernel_rfl)⟩
  have u9 := Tryz.underlying9
  have a9 := Tryz.isAgg9
  have z9 := Tryz.sizeOf9
  have u3 := Tryz.underlying3
  have a3 := Tryz.isAgg3
  have z3 := Tryz.sizeOf3
  have hS : Tryz.prog.underlying 44 = some (.struct (Tryz.prog.fieldsOf 44)) := by kernel_rfl
  have hp : Tryz.prog.stoodInHeld 44 = false := by kernel_rfl
  simp only [encD]
  rw [run_eql_struct, show (10000 : Nat) = 9999 + 1 from rfl, run_equalIn_agg w 9999 44 _ _ hS hp]
  simp only [Program.fieldsOf, Tryz.underlying44]
  unfold eqDl
  go_simp
  cases h1 : x.day == y.day <;> cases h2 : x.party.toList == y.party.toList <;> cases h3 : x.rc == y.rc <;> simp_all
theorem neqlD : NeqAt Tryz.prog 44 (fun x => .agg (encD x).toArray) eqDl := by
  refine ⟨fun x y w => ?_, GuardAt.agg _ (by kernel_rfl)⟩
  have u9 := Tryz.underlying9
  have a9 := Tryz.isAgg9
  have z9 := Tryz.sizeOf9
  have u3 := Tryz.underlying3
  have a3 := Tryz.isAgg3
  have z3 := Tryz.sizeOf3
  have hS : Tryz.prog.underlying 44 = some (.struct (Tryz.prog.fieldsOf 44)) := by kernel_rfl
  have hp : Tryz.prog.stoodInHeld 44 = false := by kernel_rfl
  simp only [encD]
  rw [run_neq_struct, show (10000 : Nat) = 9999 + 1 from rfl, run_equalIn_agg w 9999 44 _ _ hS hp]
  simp only [Program.fieldsOf, Tryz.underlying44]
  unfold eqDl
  go_simp
  cases h1 : x.day == y.day <;> cases h2 : x.party.toList == y.party.toList <;> cases h3 : x.rc == y.rc <;> simp_all
theorem cellsD {w : World} {b o : Nat} {L : List Dl} (hc : ∀ i (h : i < L.length), w.cell? ⟨b, o + i * 3, none⟩ = some (.int .i64 (L[i]).day) ∧ w.cell? ⟨b, o + i * 3 + 1, none⟩ = some (.string (L[i]).party) ∧ w.cell? ⟨b, o + i * 3 + 2, none⟩ = some (.int .i64 (L[i]).rc)) :
    ∀ j, j < L.length → ∀ i v, (encD L[j]!)[i]? = some v → w.cell? ⟨b, o + j * 3 + i, none⟩ = some v := fun j hj i v hv => by
  obtain ⟨h0, h1, h2⟩ := hc j hj
  rw [getElem!_pos L j hj] at hv
  match i, hv with
  | 0, hv => simp at hv; rw [← hv]; exact h0
  | 1, hv => simp at hv; rw [← hv]; exact h1
  | 2, hv => simp at hv; rw [← hv]; exact h2
  | i + 3, hv => simp at hv
theorem containsD_c (A : Option Addr) (c : Nat) (L : List Dl) (x : Dl) (w : World) (hL : Dls w A L) (hn : L.length ≤ 1000000) (hx : x ∈ L) :
    Calls Tryz.prog 18 #[.slice A L.length c, .agg #[.int .i64 x.day, .string x.party, .int .i64 x.rc]] w (GivesB (.bool true) w) := by
  have h0 : 0 < L.length := List.length_pos_of_mem hx
  obtain ⟨b, o, rfl, _, hc⟩ := hL.at_ h0
  have hS := AnyQ.slices_Contains Tryz.contD18 3 Tryz.isAgg44 Tryz.sizeOf44 encD (fun _ => rfl) eqDl eqlD b o L.length c L x w (Nat.le_refl _) (by omega) (cellsD hc)
  change Calls Tryz.prog 18 _ _ _ at hS
  refine hS.mono fun e w' ⟨he, hb⟩ => ⟨?_, hb⟩
  have : (L.take L.length).any (fun y => eqDl x y) = true := by
    rw [List.take_length]
    exact List.any_eq_true.2 ⟨x, hx, eqDl_iff.2 rfl⟩
  rw [he, this]
theorem allEq_self : ∀ L : List Dl, Lib.allEq eqDl L L = true
  | [] => rfl
  | x :: L => by rw [Lib.allEq, eqDl_iff.2 rfl, allEq_self L]; rfl
theorem equalD_c (A B : Option Addr) (c d : Nat) (L : List Dl) (w : World) (hA : Dls w A L) (hB : Dls w B L) (hn : L.length ≤ 1000000) :
    Calls Tryz.prog 20 #[.slice A L.length c, .slice B L.length d] w (GivesB (.bool true) w) := by
  rcases Nat.eq_zero_or_pos L.length with h0 | h0
  · have hn : L = [] := List.length_eq_zero_iff.1 h0
    subst hn
    go_enter Tryz.func20, Tryz.ntmps20
    go_wp2
    refine wp_loop_rounds 1 ?_
    rw [rounds_succ]
    go_wp2
    go_ret
    exact GivesB.mk rfl (Below.refl _ _)
  · obtain ⟨b, o, rfl, _, hc⟩ := hA.at_ h0
    obtain ⟨b2, o2, rfl, _, hc2⟩ := hB.at_ h0
    have hS := AnyQ.slices_Equal Tryz.eqD20 3 Tryz.isAgg44 Tryz.sizeOf44 encD (fun _ => rfl) eqDl neqlD b o L.length c b2 o2 L.length d L L w (Nat.le_refl _) (Nat.le_refl _) (by omega) (by omega) (cellsD hc) (cellsD hc2)
    change Calls Tryz.prog 20 _ _ _ at hS
    refine hS.mono fun e w' ⟨he, q, hq⟩ => ⟨?_, by rw [hq]; exact below_drewN (Below.refl _ _) q⟩
    rw [he, List.take_length, allEq_self]

def belF (x n : Int) : Int := if x.tmod n < 0 then x.tmod n + n else x.tmod n
theorem belF_in {x n : Int} (h : 0 < n) : 0 ≤ belF x n ∧ belF x n < n := by
  unfold belF
  have h1 := Int.tmod_lt_of_pos x h
  have h2 := Int.lt_tmod_of_pos x h
  split <;> omega
theorem BelowR_c (x n : Int) (w : World) (h : 0 < n) (h2 : n ≤ 9223372036854775807) :
    Calls Tryz.prog 17 #[.int .i64 x, .int .i64 n] w (Gives (.int .i64 (belF x n)) w) := by
  have h0 : ¬ n = 0 := by omega
  have h1 := Int.tmod_lt_of_pos x h
  have h3 := Int.lt_tmod_of_pos x h
  by_cases hc : x.tmod n < 0
  · have HS : Hid (belF x n = x.tmod n + n) := by show belF x n = _; unfold belF; rw [if_pos hc]
    go_enter Tryz.func17, Tryz.ntmps17
    go_wp2
    go_ret
    exact Gives.mk (vint (by rw [HS.out])) rfl
  · have HS : Hid (belF x n = x.tmod n) := by show belF x n = _; unfold belF; rw [if_neg hc]
    go_enter Tryz.func17, Tryz.ntmps17
    go_wp2
    go_ret
    exact Gives.mk (vint (by rw [HS.out])) rfl

def wasB (T : List Th) (M : List Mv) (ak : List Ak) (d : Dl) : Bool := ak.any fun a => decide (a.party = d.party) && (decide (a.day ≤ d.day) && memI (insL T M a.id) d.rc)
def wasP (T : List Th) (M : List Mv) (d : Dl) (a : Ak) : Bool := decide (a.party = d.party) && (decide (a.day ≤ d.day) && memI (insL T M a.id) d.rc)
theorem wasB_at {T : List Th} {M : List Mv} {ak : List Ak} {d : Dl} {k : Nat} (hk : k < ak.length) (h : wasP T M d ak[k] = true) : wasB T M ak d = true := List.any_eq_true.2 ⟨ak[k], List.getElem_mem hk, h⟩
theorem wasB_no {T : List Th} {M : List Mv} {ak : List Ak} {d : Dl} (h : ∀ j (hj : j < ak.length), wasP T M d ak[j] = false) : wasB T M ak d = false := by
  unfold wasB
  rw [List.any_eq_false]
  intro x hx
  obtain ⟨j, hj, rfl⟩ := List.getElem_of_mem hx
  have := h j hj
  unfold wasP at this
  rw [this]; simp
def BoxD (w : World) (p : Nat) (x : Dl) : Prop := w.heap[p]? = some (.cells #[.int .i64 x.day, .string x.party, .int .i64 x.rc] 44 (0, 0))
theorem BoxD.lt {w : World} {p : Nat} {x : Dl} (h : BoxD w p x) : p < w.heap.size := (Array.getElem?_eq_some_iff.1 h).1
theorem BoxD.below {w w' : World} {p : Nat} {x : Dl} (h : BoxD w p x) (hb : Below w.heap.size w w') : BoxD w' p x := (hb.block _ h.lt).trans h
theorem BoxD.cells {w : World} {p : Nat} {x : Dl} (h : BoxD w p x) : w.cell? ⟨p, 0, none⟩ = some (.int .i64 x.day) ∧ w.cell? ⟨p, 1, none⟩ = some (.string x.party) ∧ w.cell? ⟨p, 2, none⟩ = some (.int .i64 x.rc) := ⟨boxC h rfl, boxC h rfl, boxC h rfl⟩
def WaRel (w : World) (v1 v2 : Value) (T : List Th) (M : List Mv) (ak : List Ak) (d : Dl) (m : Nat) (i : Value) (wr : World) : Prop :=
  ∃ k : Nat, k + m = ak.length ∧ i = .int .i64 k ∧ (∀ j (hj : j < ak.length), j < k → wasP T M d ak[j] = false) ∧ CB w wr w.heap.size v1 v2 ∧ BoxD wr (w.heap.size + 1) d

set_option maxRecDepth 100000 in
set_option maxHeartbeats 1000000 in
theorem WasAsked_c (A1 : Option Addr) (c1 : Nat) (T : List Th) (A2 : Option Addr) (c2 : Nat) (M : List Mv) (A : Option Addr) (c : Nat) (ak : List Ak) (d : Dl) (w : World) (hc : CatOk w A1 T A2 M) (hG : GOK w) (he : AksOk w A ak) (hcap : T.length ≤ c1) (hck : chkC twoB T M = 0) :
    Calls Tryz.prog 19 #[catV A1 c1 T A2 c2 M, .slice A ak.length c, .agg #[.int .i64 d.day, .string d.party, .int .i64 d.rc]] w (GivesB (.bool (wasB T M ak d)) w) := by
  generalize hres : wasB T M ak d = res
  have HR := Lib.hid hres
  have HEM := Lib.hid he
  have HCK := Lib.hid hck
  have hls := he.sized.1
  clear hres he hck
  have hcb0 := (CB.new w (.slice A1 T.length c1) (.slice A2 M.length c2)).alloc (.cells #[.int .i64 d.day, .string d.party, .int .i64 d.rc] 44)
  have HCB := Lib.hid hcb0
  have hbd : BoxD ((w.alloc (.cells #[.slice A1 T.length c1, .slice A2 M.length c2] 25)).alloc (.cells #[.int .i64 d.day, .string d.party, .int .i64 d.rc] 44)) (w.heap.size + 1) d := by
    have := heap_alloc_new (w.alloc (.cells #[.slice A1 T.length c1, .slice A2 M.length c2] 25)) (.cells #[.int .i64 d.day, .string d.party, .int .i64 d.rc] 44)
    rwa [show (w.alloc (.cells #[.slice A1 T.length c1, .slice A2 M.length c2] 25)).heap.size = w.heap.size + 1 by simp] at this
  have HBD := Lib.hid hbd
  clear hcb0 hbd
  go_enter Tryz.func19, Tryz.ntmps19
  go_wp2
  go_loopg [11] ak.length (WaRel w (.slice A1 T.length c1) (.slice A2 M.length c2) T M ak d)
  case atStart => exact ⟨0, by omega, rfl, fun j _ hj => absurd hj (by omega), HCB.out, HBD.out⟩
  clear HCB HBD
  case round =>
    obtain ⟨k, hk, rfl, hpre, hcb, hbd⟩ := hrel
    have HK := Lib.hid hk
    have HP := Lib.hid hpre
    have HCB := Lib.hid hcb
    have HBD := Lib.hid hbd
    have hk1 : k ≤ ak.length := by omega
    clear hk hpre hcb hbd
    by_cases hlt : k < ak.length
    · have heb := HEM.out.below HCB.out.bel
      obtain ⟨b, o, rfl, hb, hcc⟩ := heb.aks.at_ (by omega)
      obtain ⟨q0, q1, q2⟩ := hcc k hlt
      have HYES : Hid (wasP T M d ak[k] = true → res = true) := fun h => by rw [← HR.out, wasB_at hlt h]
      have HNO : Hid (wasP T M d ak[k] = false → ∀ j (hj : j < ak.length), j < k + 1 → wasP T M d ak[j] = false) := fun h j hj hjk => by
        rcases Nat.lt_or_ge j k with h1 | h1
        · exact HP.out j hj h1
        · obtain rfl : j = k := by omega
          exact h
      have hal : Below wr.heap.size wr (wr.alloc (.cells #[.int .i64 (ak[k]).day, .string (ak[k]).party, .int .i64 (ak[k]).id] 100)) := (Below.refl _ _).alloc (Nat.le_refl _) _
      have HC2 := Lib.hid (HCB.out.below hal)
      have HD2 := Lib.hid (HBD.out.below hal)
      have HBX : Hid (BoxA (wr.alloc (.cells #[.int .i64 (ak[k]).day, .string (ak[k]).party, .int .i64 (ak[k]).id] 100)) wr.heap.size ak[k]) := heap_alloc_new _ _
      clear hcc heb hal
      go_wp2_with fail
      generalize hpp : wr.heap.size = p at *
      generalize hww : wr.alloc (.cells #[.int .i64 (ak[k]).day, .string (ak[k]).party, .int .i64 (ak[k]).id] 100) = w2 at *
      clear hpp hww q0 q1 q2 HCB HBD
      obtain ⟨x0, x1, x2⟩ := HBX.out.cells
      obtain ⟨y0, y1, y2⟩ := HD2.out.cells
      have d0 := HC2.out.c0
      have d1 := HC2.out.c1
      have hp2 := HBX.out.lt
      have hq2 := HD2.out.lt
      have hw2 := HC2.out.lt
      cases hpe : decide ((ak[k]).party = d.party) with
      | false =>
        have hpb : ((ak[k]).party.toList == d.party.toList) = false := by rw [str_dec]; exact hpe
        have HNP := Lib.hid (HNO.out (by unfold wasP; rw [hpe]; rfl))
        clear hpe HYES HNO
        go_big_quiet (fail)
        have HC3 := Lib.hid (HC2.out.drewN nq)
        have HD3 : Hid (BoxD (w2.drewN nq) (w.heap.size + 1) d) := HD2.out
        generalize w2.drewN nq = w3 at *
        clear x0 x1 x2 y0 y1 y2 d0 d1
        go_wp2
        go_roundg (gk - 1)
        case measure => have := HK.out; omega
        case rel => exact ⟨k + 1, by have := HK.out; omega, by go_num, HNP.out, HC3.out, HD3.out⟩
      | true =>
        have hpb : ((ak[k]).party.toList == d.party.toList) = true := by rw [str_dec]; exact hpe
        by_cases hdy : (ak[k]).day ≤ d.day
        · have HWP : Hid (wasP T M d ak[k] = memI (insL T M (ak[k]).id) d.rc) := by
            show wasP T M d ak[k] = _
            unfold wasP
            rw [hpe]; simp [hdy]
          clear hpe
          have HC5 := Lib.hid (HC2.out.drewN 1)
          have HD5 : Hid (BoxD (w2.drewN 1) (w.heap.size + 1) d) := HD2.out
          have HX5 : Hid (BoxA (w2.drewN 1) p ak[k]) := HBX.out
          have HIL := Lib.hid (insL_len (M := M) (id := (ak[k]).id) HCK.out)
          go_region_held3 (fun w' => (w'.cell? ⟨w.heap.size, 0, none⟩ = some (.slice A1 T.length c1) ∧ w'.cell? ⟨w.heap.size, 1, none⟩ = some (.slice A2 M.length c2)) ∧ (w'.cell? ⟨p, 0, none⟩ = some (.int .i64 (ak[k]).day) ∧ w'.cell? ⟨p, 1, none⟩ = some (.string (ak[k]).party) ∧ w'.cell? ⟨p, 2, none⟩ = some (.int .i64 (ak[k]).id)) ∧ (w'.cell? ⟨w.heap.size + 1, 0, none⟩ = some (.int .i64 d.day) ∧ w'.cell? ⟨w.heap.size + 1, 1, none⟩ = some (.string d.party) ∧ w'.cell? ⟨w.heap.size + 1, 2, none⟩ = some (.int .i64 d.rc))) (go_keep)
            (first
              | ((go_at_call 47; refine (inside_c A1 c1 T A2 c2 M (ak[k]).id _ (hc.below HC5.out.bel) (hG.below HC5.out.bel) hcap HCK.out).mono ?_; rintro e w5 ⟨A', c', rfl, hi5, hb5⟩; have HC6 := Lib.hid (HC5.out.below hb5); have HD6 := Lib.hid (HD5.out.below hb5); have HX6 := Lib.hid (HX5.out.below hb5); have HI5 := Lib.hid hi5; have hx0 := HC6.out.c0; have hx1 := HC6.out.c1; have hx2 := HD6.out.cells; have hx3 := HX6.out.cells; clear hb5 hi5))
              | ((go_at_call 55; refine (containsI_c A' c' (insL T M (ak[k]).id) d.rc _ (Nat.le_trans HIL.out (by decide)) HI5.out).mono ?_; rintro e w6 ⟨rfl, rfl⟩)))
          clear x0 x1 x2 y0 y1 y2 d0 d1 hx0 hx1 hx2 hx3 HIL
          cases hm : memI (insL T M (ak[k]).id) d.rc with
          | true =>
            have HS := Lib.hid (HYES.out (HWP.out.trans hm))
            clear hm HWP HYES HNO
            go_wp2
            go_ret
            exact GivesB.mk (vbool HS.out.symm) HC6.out.bel
          | false =>
            have HNP := Lib.hid (HNO.out (HWP.out.trans hm))
            clear hm HWP HYES HNO
            go_wp2
            go_roundg (gk - 1)
            case measure => have := HK.out; omega
            case rel => exact ⟨k + 1, by have := HK.out; omega, by go_num, HNP.out, HC6.out, HD6.out⟩
        · have HNP := Lib.hid (HNO.out (by unfold wasP; simp [hdy]))
          have hdb : decide ((ak[k]).day ≤ d.day) = false := by simpa using hdy
          clear hpe HYES HNO
          go_big_quiet (fail)
          have HC3 := Lib.hid (HC2.out.drewN nq)
          have HD3 : Hid (BoxD (w2.drewN nq) (w.heap.size + 1) d) := HD2.out
          generalize w2.drewN nq = w3 at *
          clear x0 x1 x2 y0 y1 y2 d0 d1
          go_wp2
          go_roundg (gk - 1)
          case measure => have := HK.out; omega
          case rel => exact ⟨k + 1, by have := HK.out; omega, by go_num, HNP.out, HC3.out, HD3.out⟩
    · have HS : Hid (res = false) := by
        show res = false
        rw [← HR.out, wasB_no fun j hj => HP.out j hj (by omega)]
      go_wp2
      go_ret
      exact GivesB.mk (vbool HS.out.symm) HCB.out.bel
end Go.Proofs.YtfninfgohiipjaaGreatDoor

namespace Go.Proofs.YtfninfgohiipjaaGreatDoor
open Go.RowKit Dw

theorem partF_mem {T : List Th} : ∀ {l : List Int}, partF T l = 0 → ∀ n ∈ l, ∃ t, thAt T n = some t ∧ t.kind = 2
  | [], _, n, hn => by cases hn
  | id :: l, h, n, hn => by
    unfold partF at h
    cases ht : thAt T id with
    | none => rw [ht] at h; cases h
    | some x =>
      rw [ht] at h
      dsimp only at h
      by_cases hk : x.kind = 2
      · rw [if_neg (by simpa using hk)] at h
        rcases List.mem_cons.1 hn with rfl | hn
        · exact ⟨x, ht, hk⟩
        · exact partF_mem h n hn
      · rw [if_pos (by simpa using hk)] at h; cases h
theorem onceF_mem (l : List Int) : ∀ k, k ≤ l.length → ∀ n ∈ onceF (l.take k), n ∈ l
  | 0, _, n, hn => by simp [onceF] at hn
  | k + 1, hk, n, hn => by
    rw [onceF_snoc l (by omega)] at hn
    by_cases h : memI (onceF (l.take k)) l[k] = true
    · rw [if_pos h] at hn
      exact onceF_mem l k (by omega) n hn
    · rw [if_neg h] at hn
      rcases List.mem_append.1 hn with hn | hn
      · exact onceF_mem l k (by omega) n hn
      · simp only [List.mem_singleton] at hn
        subst hn
        exact List.getElem_mem _
theorem lnk_parts {T : List Th} {M : List Mv} (h : chkC twoB T M = 0) {t : Th} (ht : t ∈ T) : partF T t.parts = 0 := by
  obtain ⟨_, _, _, h2, _⟩ := chkC_ok h
  obtain ⟨i, hi, rfl⟩ := List.getElem_of_mem ht
  have := h2 i hi
  unfold tF2 at this
  rw [getT hi] at this
  by_cases hl : lnkF T T[i] = 0
  · unfold lnkF at hl
    by_cases hu : upF T T[i] = 0
    · rw [if_neg (by simpa using hu)] at hl
      by_cases hp : partF T (T[i]).parts = 0
      · exact hp
      · rw [if_pos hp] at hl; exact absurd hl hp
    · rw [if_pos hu] at hl; exact absurd hl hu
  · rw [if_pos hl] at this; exact absurd this hl
theorem ins_kind {T : List Th} {M : List Mv} {id n : Int} (h : chkC twoB T M = 0) (hn : n ∈ insL T M id) : ∃ t, thAt T n = some t ∧ t.kind = 2 := by
  obtain ⟨hinc, _⟩ := chkC_ok h
  unfold insL at hn
  cases hi : insO T M id with
  | none => rw [hi] at hn; cases hn
  | some L =>
    rw [hi] at hn
    have hn : n ∈ L := hn
    unfold insO at hi
    cases hf : findN T M (M.length + 1) id with
    | none => rw [hf] at hi; cases hi
    | some m =>
      rw [hf] at hi
      obtain ⟨t, ht⟩ := findN_there hf
      simp [ht] at hi
      rw [← hi] at hn
      unfold witL at hn
      by_cases h2 : t.kind = 2
      · rw [if_pos h2] at hn
        simp only [List.mem_singleton] at hn
        subst hn
        exact ⟨t, ht, h2⟩
      rw [if_neg h2] at hn
      by_cases h1 : t.kind = 1
      · rw [if_pos h1] at hn
        unfold recsOf at hn
        obtain ⟨x, hx, rfl⟩ := List.mem_map.1 hn
        obtain ⟨hxt, hxp⟩ := List.mem_filter.1 hx
        have hxT := List.mem_of_mem_take hxt
        obtain ⟨i, hi', rfl⟩ := List.getElem_of_mem hxT
        refine ⟨T[i], hinc.at_ hi', ?_⟩
        unfold recP2 at hxp
        simp at hxp
        exact hxp.1
      rw [if_neg h1] at hn
      have hp : n ∈ ptsOf T t := by
        have := onceF_mem (ptsOf T t) (ptsOf T t).length (Nat.le_refl _) n
        rw [List.take_length] at this
        exact this hn
      unfold ptsOf at hp
      split at hp
      · cases hq : thAt T t.parent with
        | none => rw [hq] at hp; cases hp
        | some q =>
          rw [hq] at hp
          exact partF_mem (lnk_parts h (thAt_some hq).1) n hp
      · exact partF_mem (lnk_parts h (thAt_some ht).1) n hp
theorem ins_rec {T : List Th} {M : List Mv} {id n : Int} (h : chkC twoB T M = 0) (hn : n ∈ insL T M id) : insO T M n = some [n] := by
  obtain ⟨t, ht, hk⟩ := ins_kind h hn
  have hf : findN T M (M.length + 1) n = some n := by
    rw [findN, if_pos (by rw [ht]; rfl)]
  rw [insO_some hf ht]
  unfold witL
  rw [if_pos hk]

/-- What holds of each delivery. -/
theorem del_facts {T : List Th} {M : List Mv} {l : List Em} {ak : List Ak} {upto : Int} {x : Dl} (h : chkE T M l = 0) (h2 : chkAs T M ak = 0) (hx : x ∈ delL T M l ak upto) :
    freeF T M l x.party x.rc = (frD T M l x.party x.rc, 0) ∧ frD T M l x.party x.rc ≤ x.day ∧ x.day ≤ upto ∧ wasB T M ak x = true ∧ isNm x.party = true := by
  obtain ⟨hx1, hx2⟩ := delL_mem.1 hx
  obtain ⟨a, ha, hp, hr, hd⟩ := allD_from hx1
  obtain ⟨j, hj, rfl⟩ := List.getElem_of_mem ha
  obtain ⟨_, _, hnm, _⟩ := asF_ok hj ((chkAs_ok h2).2 j hj)
  have hin := ins_rec (chkE_ok h).1 hr
  refine ⟨?_, ?_, hx2, ?_, by rw [hp]; exact hnm⟩
  · rw [freeF_some h (by rw [hp]; exact hnm) hin]; rfl
  · rw [hd, hp]; exact Int.le_max_right _ _
  · refine List.any_eq_true.2 ⟨ak[j], ha, ?_⟩
    have h3 : (ak[j]).day ≤ x.day := by rw [hd]; exact Int.le_max_left _ _
    have h4 : memI (insL T M (ak[j]).id) x.rc = true := by unfold memI; exact List.any_eq_true.2 ⟨x.rc, hr, by simp⟩
    simp [hp, h3, h4]
theorem delL_len {T : List Th} {M : List Mv} {l : List Em} {ak : List Ak} {upto : Int} (h : chkC twoB T M = 0) (hk : ak.length ≤ 500) : (delL T M l ak upto).length ≤ 150000 := by
  have := allD_len (l := l) (ak := ak) h ak.length hk
  rw [List.take_length] at this
  unfold delL
  rw [srtD_len]
  exact Nat.le_trans (List.length_filter_le _ _) this
theorem Dls.take {w : World} {A : Option Addr} {l : List Dl} (h : Dls w A l) (k : Nat) : Dls w A (l.take k) := fun hl => by
  have hl' : 0 < l.length := by simp at hl; omega
  obtain ⟨b, o, rfl, hc⟩ := h hl'
  refine ⟨b, o, rfl, fun i hi => ?_⟩
  have hi' : i < l.length := by simp at hi; omega
  have := hc i hi'
  simpa using this
theorem run_cut {P : Program} {t : TypeId} (ht : P.underlying t = some (.slice (P.elem t))) {sz : Nat} (hs : ∀ w, (Go.sizeOf (P.elem t)).run P w = .ok sz w) (a : Option Addr) (len cap j : Nat) (hj : j ≤ cap) (w : World) :
    (Instr.sliceAt t (.slice a len cap) none (some (.int .i64 (j : Int))) none).run P w = .ok (.slice a j cap) w := by
  rw [run_sliceAt_slice w t _ _ _ _ ht, run_slice_h w t a len cap ht .i64 (j : Int) (by omega) (by omega), hs]
  simp only [Result.andThen, sliced]
  have e : (if cap = 0 then a else a.map (·.add (0 * sz))) = a := by
    split
    · rfl
    · cases a with
      | none => rfl
      | some p => simp [Addr.add]
  rw [e]; simp

def SvRel (w3 : World) (n : Nat) (m : Nat) (i : Value) (wr : World) : Prop := ∃ k : Nat, k + m = n ∧ i = .int .i64 k ∧ Below w3.heap.size w3 wr

set_option maxRecDepth 100000 in
set_option maxHeartbeats 2000000 in
theorem lawS_c (A1 : Option Addr) (c1 : Nat) (T : List Th) (A2 : Option Addr) (c2 : Nat) (M : List Mv) (A : Option Addr) (c : Nat) (l : List Em) (A3 : Option Addr) (c3 : Nat) (ak : List Ak) (kk upto later : Int) (w : World) (hc : CatOk w A1 T A2 M) (hG : GOK w) (he : EmsOk w A l) (ha : AksOk w A3 ak) (hcap : T.length ≤ c1) (hcap3 : ak.length ≤ c3) :
    Calls Tryz.prog 5 #[catV A1 c1 T A2 c2 M, .slice A l.length c, .slice A3 ak.length c3, .int .i64 kk, .int .i64 upto, .int .i64 later] w (GivesB (.bool true) w) := by
  have HEM := Lib.hid he
  have HAK := Lib.hid ha
  have HCB := Lib.hid (CB.new w (.slice A1 T.length c1) (.slice A2 M.length c2))
  clear he ha
  go_enter Tryz.func5, Tryz.ntmps5
  go_wp2_with fail
  refine (Deliver_c A1 c1 T A2 c2 M A c l A3 c3 ak upto _ (hc.below HCB.out.bel) (hG.below HCB.out.bel) (HEM.out.below HCB.out.bel) (HAK.out.below HCB.out.bel)).mono ?_
  rintro e w2 ⟨A4, c4, rfl, hd4, hb2, hcap4⟩
  have HC2 := Lib.hid (HCB.out.below hb2)
  clear hb2 HCB
  by_cases hok : (delF T M l ak upto).2 = 0
  case neg =>
    have hnil := delF_nil hok
    have hz : ((delF T M l ak upto).2 != 0) = true := by simpa using hok
    have HW := Lib.hid (works_c w2 (hG.below HC2.out.bel))
    rw [hnil]
    clear hok hnil hd4 hcap4
    generalize (delF T M l ak upto).2 = z at *
    simp only [List.length_nil]
    go_wp2_with fail
    refine HW.out.mono ?_
    rintro e w3 ⟨rfl, hb3⟩
    have HB := Lib.hid (HC2.out.below hb3).bel
    clear hb3
    go_wp2
    go_ret
    exact GivesB.mk rfl HB.out
  obtain ⟨h1, h2, h3⟩ := delF_inv hok
  have HE := Lib.hid h1
  have HA := Lib.hid h2
  rw [delF_ok h1 h2 h3] at hd4 hcap4 ⊢
  dsimp only at hd4 hcap4 ⊢
  have hn5 := (chkAs_ok h2).1
  have HCK := Lib.hid (chkE_ok h1).1
  have hn4 := delL_len (l := l) (upto := upto) HCK.out hn5
  have HD4 := Lib.hid hd4
  have HCP4 := Lib.hid hcap4
  clear hok h1 h2 hd4 hcap4
  have hbel := belF_in (x := kk) (n := (ak.length : Int) + 1) (by omega)
  go_wp2_with fail
  refine (BelowR_c kk ((ak.length : Int) + 1) _ (by omega) (by omega)).mono ?_
  rintro e w3 ⟨rfl, rfl⟩
  obtain ⟨j, hj⟩ : ∃ j : Nat, belF kk ((ak.length : Int) + 1) = (j : Int) := ⟨(belF kk ((ak.length : Int) + 1)).toNat, by omega⟩
  rw [hj] at hbel ⊢
  have hjl : j ≤ ak.length := by omega
  clear hj hbel
  have hsl := run_cut (P := Tryz.prog) (t := 38) Tryz.underlying38 Tryz.sizeOf100 A3 ak.length c3 j (by omega)
  have hlk : (ak.take j).length = j := by simp; omega
  have HLK := Lib.hid hlk
  clear hlk
  have hw2 := HC2.out.lt
  have d0 := HC2.out.c0
  have d1 := HC2.out.c1
  have HDV : Hid (∀ W, Below w.heap.size w W → Calls Tryz.prog 16 #[catV A1 c1 T A2 c2 M, .slice A l.length c, .slice A3 j c3, .int .i64 upto] W (GivesD (delL T M l (ak.take j) upto, 0) W)) := fun W hW => by
    have := Deliver_c A1 c1 T A2 c2 M A c l A3 c3 (ak.take j) upto W (hc.below hW) (hG.below hW) (HEM.out.below hW) ((HAK.out.below hW).take j)
    rw [delF_ok HE.out (chkAs_take j HA.out) h3, HLK.out] at this
    exact this
  go_wp2_with fail
  have HC5 := Lib.hid (HC2.out.drewN 1)
  go_region_held3 (fun w' => w'.cell? ⟨w.heap.size, 0, none⟩ = some (.slice A1 T.length c1) ∧ w'.cell? ⟨w.heap.size, 1, none⟩ = some (.slice A2 M.length c2)) (go_keep)
    (first
      | ((go_at_call 16; refine (HDV.out _ HC5.out.bel).mono ?_; rintro e w5 ⟨A5, c5, rfl, hd5, hb5, _⟩; have HC6 := Lib.hid (HC5.out.below hb5); have HD5 := Lib.hid hd5; have HB5 := Lib.hid hb5; have hx0 := HC6.out.c0; have hx1 := HC6.out.c1; clear hb5 hd5)))
  have hn5' : (delL T M l (ak.take j) upto).length ≤ 150000 := delL_len HCK.out (by simp; omega)
  have HSUB : Hid (∀ x ∈ delL T M l (ak.take j) upto, x ∈ delL T M l ak upto) := fun x hx => delL_take j hx
  have HFAC : Hid (∀ x ∈ delL T M l ak upto, freeF T M l x.party x.rc = (frD T M l x.party x.rc, 0) ∧ frD T M l x.party x.rc ≤ x.day ∧ x.day ≤ upto ∧ wasB T M ak x = true ∧ isNm x.party = true) := fun x hx => del_facts HE.out HA.out hx
  have HDL : Hid (upto ≤ later → ¬ 200000 < later → ∀ W, Below w.heap.size w W → Calls Tryz.prog 16 #[catV A1 c1 T A2 c2 M, .slice A l.length c, .slice A3 ak.length c3, .int .i64 later] W (GivesD (delL T M l ak later, 0) W)) := fun g1 g2 W hW => by
    have := Deliver_c A1 c1 T A2 c2 M A c l A3 c3 ak later W (hc.below hW) (hG.below hW) (HEM.out.below hW) (HAK.out.below hW)
    rw [delF_ok HE.out HA.out (by omega)] at this
    exact this
  have HPRE : Hid (upto ≤ later → delL T M l ak upto <+: delL T M l ak later) := fun g1 => delL_later g1
  have HLL : Hid ((delL T M l ak later).length ≤ 150000) := delL_len HCK.out hn5
  have HD6 := Lib.hid ((HD4.out.below (below_drewN (Below.refl _ _) 1)).below HB5.out)
  have HW := Lib.hid (works_c w5 (hG.below HC6.out.bel))
  clear hsl d0 d1 hw2 HC2 HC5 HB5 HD4 HDV HLK
  generalize delL T M l (ak.take j) upto = S5 at *
  generalize delL T M l ak upto = S4 at *
  generalize delL T M l ak later = S9 at *
  go_wp2_with fail
  refine HW.out.mono ?_
  rintro e w6 ⟨rfl, hb6⟩
  have HC7 := Lib.hid (HC6.out.below hb6)
  have HD7 := Lib.hid (HD6.out.below hb6)
  have HS7 := Lib.hid (HD5.out.below hb6)
  clear hb6 hx0 hx1 HC6 HD6 HD5 HW
  go_wp2
  go_loopg [62] S5.length (SvRel w6 S5.length)
  case atStart => exact ⟨0, by omega, rfl, Below.refl _ _⟩
  case round =>
    obtain ⟨k, hk, rfl, hbr⟩ := hrel
    have HK := Lib.hid hk
    have HBR := Lib.hid hbr
    have hk1 : k ≤ S5.length := by omega
    clear hk hbr
    by_cases hlt : k < S5.length
    · obtain ⟨b, o, rfl, hb, hcc⟩ := (HS7.out.below HBR.out).at_ (by omega)
      obtain ⟨q0, q1, q2⟩ := hcc k hlt
      have HMEM := Lib.hid (HSUB.out _ (List.getElem_mem hlt))
      have hal : Below wr.heap.size wr (wr.alloc (.cells #[.int .i64 (S5[k]).day, .string (S5[k]).party, .int .i64 (S5[k]).rc] 44)) := (Below.refl _ _).alloc (Nat.le_refl _) _
      have HBA := Lib.hid (below_trans HBR.out hal)
      clear hcc hal
      go_wp2_with fail
      refine (containsD_c A4 c4 S4 S5[k] _ (HD7.out.below HBA.out) (by omega) HMEM.out).mono ?_
      rintro e w7 ⟨rfl, hb7⟩
      have HBN := Lib.hid (below_trans HBA.out hb7)
      clear hb7 q0 q1 q2
      go_wp2
      go_roundg (gk - 1)
      case measure => have := HK.out; omega
      case rel => exact ⟨k + 1, by have := HK.out; omega, by go_num, HBN.out⟩
    · have HC8 := Lib.hid (HC7.out.below HBR.out)
      have HD8 := Lib.hid (HD7.out.below HBR.out)
      clear HC7 HD7 HS7 HBR HSUB
      generalize hww : wr = w8 at *
      clear hww
      go_wp2
      go_loopg [73] S4.length (SvRel w8 S4.length)
      case atStart => exact ⟨0, by omega, rfl, Below.refl _ _⟩
      case round =>
        obtain ⟨k2, hk2, rfl, hbr⟩ := hrel
        have HK2 := Lib.hid hk2
        have HBR := Lib.hid hbr
        have hk21 : k2 ≤ S4.length := by omega
        clear hk2 hbr
        by_cases hlt2 : k2 < S4.length
        · obtain ⟨b, o, rfl, hb, hcc⟩ := (HD8.out.below HBR.out).at_ (by omega)
          obtain ⟨q0, q1, q2⟩ := hcc k2 hlt2
          obtain ⟨f1, f2, f3, f4, f5⟩ := HFAC.out _ (List.getElem_mem hlt2)
          have HF1 := Lib.hid f1
          have HF4 := Lib.hid f4
          have hsz : (S4[k2]).party.size ≤ 9223372036854775807 := by have := (isNm_size f5).2; omega
          have hal : Below wr.heap.size wr (wr.alloc (.cells #[.int .i64 (S4[k2]).day, .string (S4[k2]).party, .int .i64 (S4[k2]).rc] 44)) := (Below.refl _ _).alloc (Nat.le_refl _) _
          have HBA := Lib.hid (below_trans HBR.out hal)
          have HCA := Lib.hid (HC8.out.below HBA.out)
          have HBX : Hid (BoxD (wr.alloc (.cells #[.int .i64 (S4[k2]).day, .string (S4[k2]).party, .int .i64 (S4[k2]).rc] 44)) wr.heap.size S4[k2]) := heap_alloc_new _ _
          have e0 := (HC8.out.below HBR.out).c0
          have e1 := (HC8.out.below HBR.out).c1
          have ez := (HC8.out.below HBR.out).lt
          clear hcc hal f1 f4 f5
          go_wp2_with fail
          refine (Free_c A1 c1 T A2 c2 M A c l (S4[k2]).party (S4[k2]).rc _ (hc.below HCA.out.bel) (hG.below HCA.out.bel) (HEM.out.below HCA.out.bel) hsz).mono ?_
          rintro e w9 ⟨rfl, hb9⟩
          rw [HF1.out]
          have HC9 := Lib.hid (HCA.out.below hb9)
          have HX9 := Lib.hid (HBX.out.below hb9)
          have HB9 := Lib.hid (below_trans HBA.out hb9)
          clear hb9 q0 q1 q2 HCA HBX HBA HBR e0 e1 ez
          generalize hpp : wr.heap.size = p at *
          clear hpp
          generalize frD T M l (S4[k2]).party (S4[k2]).rc = fd at *
          obtain ⟨x0, x1, x2⟩ := HX9.out.cells
          have e0 := HC9.out.c0
          have e1 := HC9.out.c1
          have ez := HC9.out.lt
          have hp9 := HX9.out.lt
          have t1 : decide ((S4[k2]).day < fd) = false := by simp; omega
          have t2 : decide (upto < (S4[k2]).day) = false := by simp; omega
          go_wp2_with fail
          refine (WasAsked_c A1 c1 T A2 c2 M A3 c3 ak S4[k2] _ (hc.below HC9.out.bel) (hG.below HC9.out.bel) (HAK.out.below HC9.out.bel) hcap HCK.out).mono ?_
          rw [HF4.out]
          rintro e w10 ⟨rfl, hb10⟩
          have HBN := Lib.hid (below_trans HB9.out hb10)
          clear hb10
          go_wp2
          go_roundg (gk - 1)
          case measure => have := HK2.out; omega
          case rel => exact ⟨k2 + 1, by have := HK2.out; omega, by go_num, HBN.out⟩
        · have HC9 := Lib.hid (HC8.out.below HBR.out)
          have HD9 := Lib.hid (HD8.out.below HBR.out)
          by_cases g1 : later < upto
          · go_wp2
            go_ret
            exact GivesB.mk rfl HC9.out.bel
          by_cases g2 : 200000 < later
          · go_wp2
            go_ret
            exact GivesB.mk rfl HC9.out.bel
          have e0 := HC9.out.c0
          have e1 := HC9.out.c1
          have ez := HC9.out.lt
          go_wp2_with fail
          refine (HDL.out (by omega) g2 _ HC9.out.bel).mono ?_
          rintro e w10 ⟨A9, c9, rfl, hd9, hb9, hcap9⟩
          have HB9 := Lib.hid (HC9.out.below hb9).bel
          have HE4 := Lib.hid (HD9.out.below hb9)
          have hpre := HPRE.out (by omega)
          have hpl := hpre.length_le
          have hE9 : Dls w10 A9 S4 := by
            have := hd9.take S4.length
            rwa [← List.prefix_iff_eq_take.1 hpre] at this
          have HE9 := Lib.hid hE9
          have hsl := run_cut (P := Tryz.prog) (t := 39) Tryz.underlying39 Tryz.sizeOf44 A9 S9.length c9 S4.length (by have : S9.length ≤ c9 := hcap9; omega)
          clear hd9 hb9 hpre hE9 e0 e1 ez HC9 HD9 HC8 HD8
          dsimp only
          have t1 : decide (S4.length ≤ S9.length) = true := by simpa using hpl
          go_wp2_with fail
          refine (equalD_c A9 A4 c9 c4 S4 _ HE9.out HE4.out (by omega)).mono ?_
          rintro e w11 ⟨rfl, hb11⟩
          have HBF := Lib.hid (below_trans HB9.out hb11)
          clear hb11
          go_wp2
          go_ret
          exact GivesB.mk rfl HBF.out
end Go.Proofs.YtfninfgohiipjaaGreatDoor

namespace Go.Proofs.YtfninfgohiipjaaGreatDoor
open Go.ChangeShapes Go.WideShapes Go.ChangeAt Go.RowKit Go.Deep Go.Joins Dw
section
variable {H : Type} {enc : TypeId × Value → H} {W : World}
set_option maxRecDepth 100000 in
theorem open_aks {v : Value} {d : DataW H} {p : List MemPlace} {r : Reach} {b0 : Nat} (hok : Value.okWide Tryz.prog W r b0 38 v) (h : DataW.Trod enc Tryz.prog W 0 (fun _ => true) true 38 v d p) :
    ∃ (A : Option Addr) (c : Nat) (l : List Ak), v = .slice A l.length c ∧ AksOk W A l ∧ l.length ≤ c := by
  obtain ⟨a0, len0, cap0, rfl⟩ := okWide_slice Tryz.underlying38 hok
  obtain ⟨fuel, hf⟩ := h
  obtain ⟨A, len, c, e, hlc, hlen, hT⟩ := open_structs Tryz.underlying38 Tryz.underlying100 (by kernel_rfl) (by kernel_rfl) (by decide) (v := .slice a0 len0 cap0) (by simpa [Value.cells] using hf)
  rw [e]
  by_cases hz : 0 < len
  · obtain ⟨b, o, rfl, hall⟩ := hT hz
    obtain ⟨l, rfl, hp⟩ := list_choose (n := len) (P := fun i (t : Ak) => (W.cell? ⟨b, o + i * 3, none⟩ = some (.int .i64 t.day) ∧ W.cell? ⟨b, o + i * 3 + 1, none⟩ = some (.string t.party) ∧
        W.cell? ⟨b, o + i * 3 + 2, none⟩ = some (.int .i64 t.id)) ∧ t.party.size ≤ 9223372036854775807) fun i hi => by
      obtain ⟨u0, z0, n0, q0, r0⟩ := hall i hi 0 _ rfl
      obtain ⟨u1, z1, n1, q1, r1⟩ := hall i hi 1 _ rfl
      obtain ⟨u2, z2, n2, q2, r2⟩ := hall i hi 2 _ rfl
      obtain ⟨x0, rfl, _⟩ := int_of Tryz.underlying3 r0
      obtain ⟨x1, rfl, s1⟩ := str_of Tryz.underlying9 r1
      obtain ⟨x2, rfl, _⟩ := int_of Tryz.underlying3 r2
      exact ⟨⟨x0, x1, x2⟩, ⟨q0, q1, q2⟩, s1⟩
    refine ⟨_, c, l, rfl, ⟨fun _ => ⟨b, o, rfl, fun i hi => (hp i hi).1⟩, hlen, fun t ht => ?_⟩, hlc⟩
    obtain ⟨i, hi, rfl⟩ := List.getElem_of_mem ht
    exact (hp i hi).2
  · obtain rfl : len = 0 := by omega
    exact ⟨A, c, [], rfl, ⟨(fun h => absurd h (by simp)), by simp, (fun t ht => by cases ht)⟩, by simp⟩
end
end Go.Proofs.YtfninfgohiipjaaGreatDoor
