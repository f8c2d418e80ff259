/- Walks over the reference of chapter 7 (places): plain, combined and the exported functions. -/
import Derived.Test.YtnjepmbonhmdnaaDoorRefE
namespace Go.Proofs.YtnjepmbonhmdnaaDoor
open Go.RowKit Dw

theorem underF_up {l : List Rg} {k k' : Nat} (hk : up l k = some k') : ∀ (f i : Nat), upN l f i = none → underF l f i k = true → underF l f i k' = true
  | 0, _, _, h => by simp [underF] at h
  | f + 1, i, hd, h => by
    by_cases e : i = k
    · subst e
      rw [upN, hk] at hd
      rw [underF, hk]
      cases f with
      | zero => simp [upN] at hd
      | succ f => simp [underF]
    · rw [underF] at h ⊢
      cases hu : up l i with
      | none => rw [hu] at h; simp [e] at h
      | some j =>
        rw [upN, hu] at hd
        rw [hu] at h
        have h' : underF l f j k = true := by simpa [e] using h
        have := underF_up hk f j hd h'
        simp [this]
theorem under_up {l : List Rg} (g : GoodR l) {i k k' : Nat} (hi : i < l.length) (hk : up l k = some k') (h : under l i k = true) : under l i k' = true :=
  underF_up hk _ _ (g.ends i hi) h
theorem fullP_up {l : List Rg} (g : GoodR l) {S : Nat → Bool} {k k' : Nat} (hk : up l k = some k') (h : fullP l S k' = true) : fullP l S k = true := by
  unfold fullP at *
  rw [List.all_eq_true] at *
  intro i hi
  have h1 := h i hi
  cases hu : under l i k with
  | false => simp
  | true =>
    have hil : i < l.length := by unfold leafIdx at hi; exact List.mem_range.1 (List.mem_filter.1 hi).1
    rw [under_up g hil hk hu] at h1
    simpa using h1

def topF (l : List Rg) (S : Nat → Bool) : Nat → Nat → Bool
  | 0, _ => true
  | f + 1, j => !fullP l S j && match up l j with
    | some j' => topF l S f j'
    | none => true
theorem topF_eq {l : List Rg} (g : GoodR l) {S : Nat → Bool} : ∀ (f j : Nat), upN l f j = none → topF l S f j = !fullP l S j
  | 0, _, h => by simp [upN] at h
  | f + 1, j, h => by
    rw [topF]
    cases hf : fullP l S j with
    | true => simp
    | false =>
      cases hu : up l j with
      | none => simp
      | some j' =>
        rw [upN, hu] at h
        have := topF_eq g (S := S) f j' h
        have hf' : fullP l S j' = false := by
          cases hx : fullP l S j' with
          | false => rfl
          | true => rw [fullP_up g hu hx] at hf; cases hf
        rw [hf'] at this
        simpa using this

def gathA (l : List Rg) (p : Nat → Bool) (k : Nat) : List Ar := ((List.range k).filter p).map fun i => ⟨nmAt l i, false⟩
theorem gathA_yes {l : List Rg} {p : Nat → Bool} {k : Nat} (h : p k = true) : gathA l p (k + 1) = gathA l p k ++ [⟨nmAt l k, false⟩] := by
  unfold gathA; rw [range_filter_succ, h]; simp
theorem gathA_no {l : List Rg} {p : Nat → Bool} {k : Nat} (h : p k = false) : gathA l p (k + 1) = gathA l p k := by
  unfold gathA; rw [range_filter_succ, h]; simp
theorem gathA_le (l : List Rg) (p : Nat → Bool) (k : Nat) : (gathA l p k).length ≤ k := by
  unfold gathA; rw [List.length_map]
  have := List.length_filter_le p (List.range k)
  simpa using this

def PlainRel (w : World) (l : List Rg) (p : Nat → Bool) (m : Nat) (out i : Value) (wr : World) : Prop :=
  ∃ k : Nat, k + m = l.length ∧ i = .int .i64 k ∧ OwnL encA 2 wr w.heap.size 34 out (gathA l p k) ∧ Below w.heap.size w wr
def PlainRel2 (w : World) (l : List Rg) (S : Nat → Bool) (T : Bool) (m : Nat) (top at_ : Value) (wr : World) : Prop :=
  Below w.heap.size w wr ∧ ∃ t : Bool, top = .bool t ∧ ((∃ j, ∃ hj : j < l.length, at_ = .string (l[j]).nm ∧ upN l m j = none ∧ (t && topF l S m j) = T) ∨ (at_ = .string emp ∧ t = T))

set_option maxHeartbeats 1000000 in
theorem plainR_c (A A2 : Option Addr) (c c2 : Nat) (l : List Rg) (S : List ByteArray) (w : World) (g : GoodR l) (h : Rgs w A l) (h2 : Strs w A2 S) (hn2 : S.length ≤ 200) :
    Calls Tryd.prog 47 #[.slice A l.length c, .slice A2 S.length c2] w (GivesA (plainOf l (setP l S)) w) := by
  have hn := g.len
  obtain ⟨b, o, rfl, hb, hc⟩ := h.at_ (List.length_pos_iff.2 g.ne)
  have HC := Lib.hid hc
  clear hc
  go_enter Tryd.func47, Tryd.ntmps47
  go_wp2
  go_loopg [5, 6] l.length (PlainRel w l (plainTop l (setP l S)))
  case atStart => exact ⟨0, by omega, rfl, OwnL.nil _ _ _ _ _, Below.refl _ _⟩
  case round =>
    obtain ⟨k, hk, rfl, hown, hbel⟩ := hrel
    have HK := Lib.hid hk
    have hk1 : k ≤ l.length := by omega
    clear hk
    obtain ⟨g1, hg1⟩ : ∃ g1, g1 = gk := ⟨_, rfl⟩
    subst hg1
    obtain ⟨w0, hw0⟩ : ∃ w0 : World, w0 = wr := ⟨_, rfl⟩
    subst hw0
    by_cases hlt : k < l.length
    · have hc0 : w0.cell? ⟨b, o + k * 2, none⟩ = some (.string (l[k]).nm) := (hbel.cell hb).trans (HC.out k hlt).1
      have hwr : w.heap.size ≤ w0.heap.size := hbel.size
      have hbr : b < w0.heap.size := by omega
      have hle := gathA_le l (plainTop l (setP l S)) k
      cases hf : fullP l (setP l S) k with
      | false =>
        have HF := Lib.hid hf
        clear hf
        go_wp2_with fail
        refine (full_c _ _ _ _ _ _ _ g (h.below hbel) (h2.below hbel) hn2 k hlt).mono ?_
        rintro e w1 ⟨rfl, hb1⟩
        rw [HF.out]
        have HO := Lib.hid (hown.below hb1)
        have HB := Lib.hid (below_trans hbel hb1)
        clear hown hbel hb1 hc0 hbr
        go_wp2
        go_roundg (g1 - 1)
        case measure => have := HK.out; omega
        case rel => exact ⟨k + 1, by have := HK.out; omega, by go_num, by rw [gathA_no (by simp [plainTop, HF.out])]; exact HO.out, HB.out⟩
      | true =>
        have HF := Lib.hid hf
        clear hf
        go_wp2_with fail
        refine (full_c _ _ _ _ _ _ _ g (h.below hbel) (h2.below hbel) hn2 k hlt).mono ?_
        rintro e w1 ⟨rfl, hb1⟩
        rw [HF.out]
        have hown1 := hown.below hb1
        have hbel1 := below_trans hbel hb1
        clear hown hbel hb1 hc0 hbr hwr
        have hc1 : w1.cell? ⟨b, o + k * 2 + 1, none⟩ = some (.string (l[k]).par) := (hbel1.cell hb).trans (HC.out k hlt).2
        have hwr : w.heap.size ≤ w1.heap.size := hbel1.size
        have HO := Lib.hid hown1
        have HB := Lib.hid hbel1
        obtain ⟨T, hT⟩ : ∃ T : Bool, T = match up l k with | some j => topF l (setP l S) (l.length + 2) j | none => true := ⟨_, rfl⟩
        have HT := Lib.hid hT
        clear hT hown1 hbel1
        go_wp2
        go_loopg [7, 8] (l.length + 2) (PlainRel2 w1 l (setP l S) T)
        case atStart =>
          refine ⟨Below.refl _ _, true, rfl, ?_⟩
          have := HT.out
          by_cases hp : (l[k]).par = emp
          · rw [up_none hlt hp] at this
            exact .inr ⟨by rw [hp], this.symm⟩
          · obtain ⟨j', hj', hu, he⟩ := g.up_some hlt hp
            rw [hu] at this
            exact .inl ⟨j', hj', by rw [he], g.ends j' hj', by rw [this]; rfl⟩
        case round =>
          obtain ⟨hbi, t, rfl, hrel⟩ := hrel
          have hwi : w1.heap.size ≤ wr.heap.size := hbi.size
          have hbel := below_trans HB.out hbi
          rcases hrel with ⟨j, hj, rfl, hup, htop⟩ | ⟨rfl, htop⟩
          · have HU := Lib.hid hup
            have HN := Lib.hid htop
            clear hup htop
            have hne := isEmpty_of_ne (g.nm_ne hj)
            have hix : idxI l (l[j]).nm = (j : Int) := by unfold idxI; rw [g.inc.idx hj]
            have HX := Lib.hid hix
            clear hix
            obtain ⟨m, rfl⟩ : ∃ m, gk = m + 1 := by
              cases gk with
              | zero => exact absurd HU.out (by simp [upN])
              | succ m => exact ⟨m, rfl⟩
            have hstep : ∀ t' : Bool, t' = (t && !fullP l (setP l S) j) → ((∃ j', ∃ hj' : j' < l.length, Value.string (l[j]).par = .string (l[j']).nm ∧ upN l m j' = none ∧ (t' && topF l (setP l S) m j') = T) ∨ (Value.string (l[j]).par = .string emp ∧ t' = T)) := by
              intro t' ht'
              have h1 := HN.out
              have h2 := HU.out
              rw [topF] at h1
              rw [upN] at h2
              by_cases hp : (l[j]).par = emp
              · rw [up_none hj hp] at h1
                refine .inr ⟨by rw [hp], ?_⟩
                rw [ht', ← h1]; simp
              · obtain ⟨j', hj', hu, he⟩ := g.up_some hj hp
                rw [hu] at h1 h2
                refine .inl ⟨j', hj', by rw [he], h2, ?_⟩
                rw [ht', ← h1, Bool.and_assoc]
            have HS := Lib.hid hstep
            clear hstep
            cases t with
            | false =>
              have hcj : wr.cell? ⟨b, o + j * 2 + 1, none⟩ = some (.string (l[j]).par) := (hbel.cell hb).trans (HC.out j hj).2
              go_wp2_with fail
              refine (region_c _ _ _ _ _ hn (h.below hbel)).mono ?_
              rintro e w' ⟨rfl, rfl⟩
              rw [HX.out]
              go_wp2
              go_roundg m
              case measure => omega
              case rel => exact ⟨hbi, false, rfl, HS.out false (by simp)⟩
            | true =>
              cases hf : fullP l (setP l S) j with
              | false =>
                have HF2 := Lib.hid hf
                clear hf
                go_wp2_with fail
                refine (full_c _ _ _ _ _ _ _ g (h.below hbel) (h2.below hbel) hn2 j hj).mono ?_
                rintro e w2 ⟨rfl, hb2⟩
                rw [HF2.out]
                have hbel2 := below_trans hbel hb2
                have HBI := Lib.hid (below_trans hbi hb2)
                clear hb2 hbel hbi
                have hcj : w2.cell? ⟨b, o + j * 2 + 1, none⟩ = some (.string (l[j]).par) := (hbel2.cell hb).trans (HC.out j hj).2
                go_wp2_with fail
                refine (region_c _ _ _ _ _ hn (h.below hbel2)).mono ?_
                rintro e w' ⟨rfl, rfl⟩
                rw [HX.out]
                clear hbel2
                go_wp2
                go_roundg m
                case measure => omega
                case rel => exact ⟨HBI.out, true, rfl, HS.out true (by simp [HF2.out])⟩
              | true =>
                have HF2 := Lib.hid hf
                clear hf
                go_wp2_with fail
                refine (full_c _ _ _ _ _ _ _ g (h.below hbel) (h2.below hbel) hn2 j hj).mono ?_
                rintro e w2 ⟨rfl, hb2⟩
                rw [HF2.out]
                have hbel2 := below_trans hbel hb2
                have HBI := Lib.hid (below_trans hbi hb2)
                clear hb2 hbel hbi
                have hcj : w2.cell? ⟨b, o + j * 2 + 1, none⟩ = some (.string (l[j]).par) := (hbel2.cell hb).trans (HC.out j hj).2
                go_wp2_with fail
                refine (region_c _ _ _ _ _ hn (h.below hbel2)).mono ?_
                rintro e w' ⟨rfl, rfl⟩
                rw [HX.out]
                clear hbel2
                go_wp2
                go_roundg m
                case measure => omega
                case rel => exact ⟨HBI.out, false, rfl, HS.out false (by simp [HF2.out])⟩
          · have hne := emp_isEmpty
            have hpt : plainTop l (setP l S) k = T := by
              unfold plainTop
              rw [HF.out, HT.out]
              cases hu : up l k with
              | none => rfl
              | some j => simp [topF_eq g _ _ (g.ends j (up_lt hu).2)]
            have HP := Lib.hid hpt
            have hown2 := HO.out.below hbi
            have hwr2 : w.heap.size ≤ wr.heap.size := hbel.size
            cases T with
            | false =>
              subst htop
              have HO2 := Lib.hid hown2
              have HB2 := Lib.hid hbel
              clear hpt hown2 hbel hbi
              go_wp2
              go_roundg (g1 - 1)
              case measure => have := HK.out; omega
              case rel => exact ⟨k + 1, by have := HK.out; omega, by go_num, by rw [gathA_no HP.out]; exact HO2.out, HB2.out⟩
            | true =>
              subst htop
              clear hpt hbi
              have hck : wr.cell? ⟨b, o + k * 2, none⟩ = some (.string (l[k]).nm) := (hbel.cell hb).trans (HC.out k hlt).1
              have hbr : b < wr.heap.size := by omega
              go_wp2_with (at_builtin; refine wpList_push _ _ _ elAr rfl rfl w.heap.size _ (gathA l (plainTop l (setP l S)) k) rfl (hown2.alloc _) wr.heap.size 1 ⟨nmAt l k, false⟩ rfl (by rw [nmAt_of hlt]; exact heap_alloc_new _ _) rfl (by simp [Value.oneCell']) (by unfold maxLen; omega) (by omega) (by simp; omega) ?_; intro v1 w3 hown3 hg3 hb3)
              have HO3 := Lib.hid hown3
              have HB3 := Lib.hid ((hbel.alloc hwr2 _).trans hb3)
              clear hown2 hown3 hg3 hb3 hbel
              go_wp2
              go_roundg (g1 - 1)
              case measure => have := HK.out; omega
              case rel => exact ⟨k + 1, by have := HK.out; omega, by go_num, by rw [gathA_yes HP.out]; exact HO3.out, HB3.out⟩
    · have hke : k = l.length := by omega
      have HKE := Lib.hid hke
      clear hke
      obtain ⟨A', c', rfl, hrd⟩ := hown.rd2
      go_wp2
      go_ret
      have e : gathA l (plainTop l (setP l S)) k = plainOf l (setP l S) := by rw [HKE.out]; rfl
      rw [e] at hrd ⊢
      exact ⟨A', c', rfl, hrd, hbel⟩
end Go.Proofs.YtnjepmbonhmdnaaDoor
