/- Parts of the proof, joined: The reference's numbers: divide, common. DERIVED: THE SHELF's CONTRACT. -/
import Derived.Test.YtlcfgejaeecclaaGreatDoorZq21
import Derived.Shelf.Strconv.Atoi
set_option maxRecDepth 100000
set_option maxHeartbeats 8000000
namespace Go.Proofs.YtlcfgejaeecclaaGreatDoor
open Go.RowKit Dw
theorem own_one (w : World) (base n : Nat) (hb : base ≤ w.heap.size) : OwnI (w.alloc (.cells #[.int .i64 (n : Int)] 3)) base (.slice (some ⟨w.heap.size, 0, none⟩) 1 1) [n] :=
 ⟨rfl, .inr ⟨w.heap.size, 1, _, rfl, hb, heap_alloc_new _ _, Nat.le_refl _, by unfold maxLen; omega, rfl, rfl⟩⟩
theorem cmpN_le {a b : Nat} (h : a ≤ b) : decide (cmpN a b ≤ 0) = true := by
 rcases Nat.lt_or_ge a b with h1 | h1
 ·rw [cmpN_lt h1]; rfl
 ·rw [cmpN_eq (by omega)]; rfl
theorem cmpN_nle {a b : Nat} (h : ¬ a ≤ b) : decide (cmpN a b ≤ 0) = false := by rw [cmpN_gt (by omega)]; rfl
def DivLRel (w : World) (g : Nat) (l : List Nat) (b : Nat) (m : Nat) (rv iv : Value) (wr : World) : Prop :=
 ∃ (L : List Nat) (R : Nat) (A : Option Addr) (c : Nat) (z : Int), m ≤ l.length ∧ z = (m : Int) - 1 ∧ iv = .int .i64 z ∧ rv = lmV A c R ∧ Lt wr A c R ∧ ArrI wr g L ∧ L.length = l.length ∧ WLt BT L ∧
  R = wval BT (l.drop m) % b ∧ wval BT (L.drop m) = wval BT (l.drop m) / b ∧ Below w.heap.size w wr ∧ w.heap.size ≤ g
def BsRel (w : World) (q : Nat) (m : Nat) (lv hv : Value) (wr : World) : Prop :=
 ∃ lo hi : Nat, lv = .int .i64 (lo : Int) ∧ hv = .int .i64 (hi : Int) ∧ lo ≤ q ∧ q ≤ hi ∧ hi ≤ 9999 ∧ hi = lo + m ∧ Below w.heap.size w wr
theorem lms_some {w : World} {A : Option Addr} {l : List Nat} (h : Lms w A l) : A ≠ none ∨ l = [] := by
 rcases Nat.eq_zero_or_pos l.length with h0 | h0
 ·exact .inr (List.length_eq_zero_iff.1 h0)
 ·obtain ⟨b, o, rfl, _⟩ := h h0
  exact .inl (by simp)
theorem divL_c (A A2 : Option Addr) (c c2 a b : Nat) (w : World) (h : Lms w A (words BT a)) (h2 : Lms w A2 (words BT b)) (hn : (words BT a).length ≤ 200000) (hm : (words BT b).length ≤ 200000) (hb0 : 0 < b) :
  Calls Tryz.prog 183 #[lmV A c a, lmV A2 c2 b] w (fun e w' => ∃ A3 c3 A4 c4, e = .returned (.tuple #[lmV A3 c3 (a / b), lmV A4 c4 (a % b)]) ∧ Lt w' A3 c3 (a / b) ∧ Lt w' A4 c4 (a % b) ∧ Below w.heap.size w w') := by
 have hmk : ∀ w : World, (Instr.makeSlice 73 (.int .i64 (((words BT a).length : Nat) : Int)) (.int .i64 (((words BT a).length : Nat) : Int))).run Tryz.prog w =
   .ok (.slice (some ⟨w.heap.size, 0, none⟩) (words BT a).length (words BT a).length) (w.alloc (.cells (Array.replicate (words BT a).length (.int .i64 0)) 3)) :=
  mk_ints (words BT a).length (by omega)
 obtain ⟨l, hl⟩ : ∃ l, l = words BT a := ⟨_, rfl⟩
 have ea : lmV A c a = .slice A l.length c := by rw [hl]
 rw [ea]
 rw [← hl] at h hn hmk
 have hlw : WLt BT l := by rw [hl]; exact words_lt BT_gt a
 have HL : Hid (wval BT l = a) := by show _ = _; rw [hl]; exact wval_words BT_gt a
 clear hl ea
 go_enter Tryz.func183, Tryz.ntmps183
 go_wp2
 clear hmk
 have hnew := ArrI.new w l.length
 have hbel : Below w.heap.size w (w.alloc (.cells (Array.replicate l.length (.int .i64 0)) 3)) := (Below.refl _ _).alloc (Nat.le_refl _) _
 obtain ⟨g, hg⟩ : ∃ g, g = w.heap.size := ⟨_, rfl⟩
 rw [← hg] at hnew
 obtain ⟨w1, hw1⟩ : ∃ w1, w1 = w.alloc (.cells (Array.replicate l.length (.int .i64 0)) 3) := ⟨_, rfl⟩
 rw [← hw1] at hnew hbel
 rw [← hg, ← hw1]
 have HG := zq hg
 have HB := zq hbel
 clear hg hbel hw1
 go_loopg [7, 8] l.length (DivLRel w g l b)
 case atStart =>
  refine ⟨List.replicate l.length 0, 0, none, 0, (l.length : Int) - 1, Nat.le_refl _, rfl, by go_num, rfl, ⟨Rd1.nil, Nat.zero_le _⟩, hnew, by simp, WLt.zeros BT_pos _, ?_, ?_, HB.out, by rw [HG.out]; exact Nat.le_refl _⟩
  ·rw [List.drop_of_length_le (Nat.le_refl _)]; simp [wval]
  ·rw [List.drop_of_length_le (Nat.le_refl _), List.drop_of_length_le (by simp)]; simp [wval]
 case round =>
  obtain ⟨L, R, A3, c3, z, hml, hz, rfl, rfl, hR, hA, hLl, hLw, hRv, hLv, hbw, hwg⟩ := hrel
  have HRV := zq hRv
  have HLV := zq hLv
  have HLL := zq hLl
  have HRB : Hid (R < b) := by show R < b; rw [hRv]; exact Nat.mod_lt _ hb0
  have hRl : (words BT R).length ≤ 200000 := by have := len_le_of_le BT_gt (Nat.le_of_lt HRB.out); omega
  clear hRv hLv hLl
  rcases Nat.eq_zero_or_pos gk with h0 | h0
  ·subst h0
   obtain rfl : z = -1 := hz
   have e1 : wval BT L = a / b := by have := HLV.out; rwa [List.drop_zero, List.drop_zero, HL.out] at this
   have e2 : R = a % b := by have := HRV.out; rwa [List.drop_zero, HL.out] at this
   have HE2 := zq e2
   have hll := HLL.out
   have HT := zq (trimL_n (some ⟨g, 0, none⟩) l.length L wr wr (by omega) (by omega) hA.rd hLw (Below.refl _ _) e1)
   rw [hll] at HT
   clear e1 e2 hll
   go_wp2_with fail
   with_reducible refine HT.out.mono ?_
   rintro e w2 ⟨A5, c5, rfl, h5, hb5⟩
   have HB5 := zq (below_trans hbw hb5)
   have HR5 := zq (hR.below hb5)
   have H5 := zq h5
   clear hb5 h5 HT hbw hR
   go_wp2
   go_ret2
   refine ⟨A5, c5, A3, c3, ?_, H5.out, ?_, HB5.out⟩
   ·rw [← HE2.out]; rfl
   ·rw [← HE2.out]; exact HR5.out
  ·obtain ⟨j, rfl⟩ : ∃ j, gk = j + 1 := ⟨gk - 1, by omega⟩
   obtain rfl : z = (j : Int) := by omega
   clear hz
   have hj : j < l.length := by omega
   obtain ⟨q0, o0, hA0, hq0, hcl⟩ := (h.below hbw).at_ (by omega)
   subst hA0
   have hc0 := hcl j hj
   have hx : l[j] < 10000 := hlw.get j hj
   clear hcl
   obtain ⟨V, hV⟩ : ∃ V, V = l[j] + BT * R := ⟨_, rfl⟩
   have HVL : Hid (V < b * BT) := by show V < b * BT; rw [hV]; exact next_lt HRB.out (by rw [BT_eq]; exact hx)
   obtain ⟨q, hq⟩ : ∃ q, q = V / b := ⟨_, rfl⟩
   have hq9 : q ≤ 9999 := by
    have := quot_lt (B := BT) (u := V) (v := b) HVL.out
    rw [← hq, BT_eq] at this
    omega
   have HV := zq hV
   have HQ := zq hq
   clear hV hq
   go_wp2_with (at_builtin; refine wpList_pushK (k := 1) (enc := encLm) (fun _ => rfl) (fun _ _ h => by simp at h; subst h; rfl) _ _ _ elI rfl rfl wr.heap.size _ [l[j]] rfl (own_one wr wr.heap.size l[j] (Nat.le_refl _)) A3 _ c3 (words BT R) rfl rfl (RdK.of1 (Rd1.alloc hR.rd _)) (lms_some hR.rd) (by unfold maxLen; simp; omega) (by simp; omega) (by simp) ?_; intro v7 w7 hown7 hg7 hb7 _)
   have hb8 := ((Below.refl wr.heap.size wr).alloc (Nat.le_refl _) (.cells #[.int .i64 ((l[j] : Nat) : Int)] 3)).trans hb7
   obtain ⟨A7, c7, rfl⟩ := own_slice' hown7
   have hcap := own_capI hown7
   have hT2 := trimL_x A7 c7 ([l[j]] ++ words BT R) w7 (by simp; omega) hcap.1 (own_lms hown7) (WLt.append (WLt.cons (by rw [BT_eq]; exact hx) WLt.nil) (words_lt BT_gt R)) (n := V) (by rw [wval_append, wval_one, wval_words BT_gt, HV.out]; simp)
   have HT := zq hT2.1
   have H8 := zq hT2.2
   have hgs := hA.lt
   have HAN : Hid (∀ x o, A7 = some ⟨x, o, none⟩ → x ≠ g) := fun x o e => by
    have h1 := (World.ownsRow.lt hown7 x (by rw [e]; rfl)).1
    omega
   have hlen7 : ([l[j]] ++ words BT R).length = 1 + (words BT R).length := by simp; omega
   clear hown7 hg7 hb7 hc0 hcap hT2 hgs
   go_wp2_with fail
   with_reducible refine HT.out.mono ?_
   rintro e w7 ⟨rfl, rfl⟩
   clear HT hlen7
   have HBW7 := zq (below_trans hbw hb8)
   have HA7 := zq (hA.below hb8)
   have hVl : (words BT V).length ≤ 200001 := by
    have h9 : V < BT ^ ((words BT b).length + 1) := by
     refine Nat.lt_of_lt_of_le HVL.out ?_
     rw [Nat.pow_succ]
     exact Nat.mul_le_mul_right _ (Nat.le_of_lt (words_len BT_gt b))
    have := len_le_of_lt BT_gt h9
    omega
   clear hb8 hA hR hbw
   go_wp2
   go_loopg [10, 11] 9999 (BsRel w7 q)
   case atStart => exact ⟨0, 9999, rfl, rfl, by omega, hq9, by omega, by omega, Below.refl _ _⟩
   case round =>
    obtain ⟨lo, hi, rfl, rfl, hlo, hhi, hh9, hlh, hbs⟩ := hrel
    have HBS := zq hbs
    have HLH := zq hlh
    clear hbs hlh
    by_cases hlt : lo < hi
    ·obtain ⟨md, hmd⟩ : ∃ md, md = (lo + hi + 1) / 2 := ⟨_, rfl⟩
     have hmdi : ((lo : Int) + (hi : Int) + 1) / 2 = (md : Int) := by rw [hmd]; omega
     have hm9 : md ≤ 9999 := by omega
     have hm1 : lo < md ∧ md ≤ hi := by omega
     have HMD := zq hmd
     clear hmd
     go_wp2_with fail
     with_reducible refine (smallL_c A2 c2 b md wr ((h2.below HBW7.out).below HBS.out) (by omega) hm9).mono ?_
     rintro e w9 ⟨A9, c9, rfl, h9, hb9⟩
     have HBS9 := zq (below_trans HBS.out hb9)
     have hl9 : (words BT (b * md)).length ≤ 1000000 := by
      have h10 : b * md < BT ^ ((words BT b).length + 1) := by
       have e1 := words_len BT_gt b
       have e2 : b * md ≤ b * BT := Nat.mul_le_mul_left _ (by rw [BT_eq]; omega)
       have e3 : b * BT < BT ^ (words BT b).length * BT := Nat.mul_lt_mul_of_pos_right e1 BT_pos
       rw [Nat.pow_succ]; omega
      have := len_le_of_lt BT_gt h10
      omega
     have H9 := zq h9
     clear hb9 h9
     go_wp2_with fail
     with_reducible refine (cmpL_c A9 A7 c9 c7 (b * md) V w9 H9.out.rd (H8.out.rd.below HBS9.out) hl9).mono ?_
     rintro e w10 ⟨rfl, nd, rfl⟩
     clear hl9 H9
     by_cases hc : b * md ≤ V
     ·have hcb := cmpN_le hc
      have hmq : md ≤ q := by rw [HQ.out]; exact (Nat.le_div_iff_mul_le hb0).2 (by rw [Nat.mul_comm]; exact hc)
      clear hc
      go_wp2
      go_roundg (hi - md)
      case measure => have := HLH.out; omega
      case rel => exact ⟨md, hi, rfl, rfl, hmq, hhi, hh9, by omega, below_drewN HBS9.out _⟩
     ·have hcb := cmpN_nle hc
      have hmq : q < md := by rw [HQ.out]; exact (Nat.div_lt_iff_lt_mul hb0).2 (by rw [Nat.mul_comm]; omega)
      clear hc
      go_wp2
      go_roundg (md - 1 - lo)
      case measure => have := HLH.out; omega
      case rel => exact ⟨lo, md - 1, rfl, by go_num, hlo, by omega, by omega, by omega, below_drewN HBS9.out _⟩
    ·obtain rfl : lo = q := by omega
     have HA := zq (HA7.out.below HBS.out)
     have hcg := HA.out.cell j (by have := HLL.out; omega)
     have hfg := HA.out.frozen j
     have hsg := HA.out.lt
     have hll := HLL.out
     have HBV := zq (below_trans HBW7.out HBS.out)
     have HBE := zq (HBV.out.setCell (p := ⟨g, j, none⟩) hwg (.int .i64 (lo : Int)))
     have HAE := zq (HA.out.set j lo)
     have HVE : Hid (Lms (wr.setCell ⟨g, j, none⟩ (.int .i64 (lo : Int))) A7 (words BT V)) := lms_set (H8.out.rd.below HBS.out) HAN.out _
     have hlV : b * lo ≤ V := by rw [HQ.out]; exact Nat.mul_div_le V b
     have HLV2 := zq hlV
     clear hhi hh9 HLH hlV
     obtain ⟨wS, hwS⟩ : ∃ wS, wS = wr.setCell ⟨g, j, none⟩ (.int .i64 (lo : Int)) := ⟨_, rfl⟩
     rw [← hwS] at HBE HAE HVE
     go_wp2_with fail
     rw [← hwS]
     clear hcg hfg hsg hll hwS hlt
     with_reducible refine (smallL_c A2 c2 b lo wS (h2.below HBE.out) (by omega) hq9).mono ?_
     rintro e w9 ⟨A9, c9, rfl, h9, hb9⟩
     have H9 := zq h9
     have HB9 := zq hb9
     clear h9 hb9
     go_wp2_with fail
     with_reducible refine (lessL_c A7 A9 c7 c9 V (b * lo) w9 (HVE.out.below HB9.out) H9.out.rd (by omega) HLV2.out).mono ?_
     rintro e w10 ⟨A10, c10, rfl, h10, hb10⟩
     have HBX := zq (below_trans HB9.out hb10)
     have H10 := zq h10
     clear h10 hb10 H9 HB9
     go_wp2
     go_roundg j
     case measure => omega
     case rel =>
      have e1 := wval_drop (B := BT) hj
      have e2 := div_next (B := BT) (r := R) (v := b) (x := l[j]) hb0 (wval BT (L.drop (j + 1)))
      have e3 : wval BT (l.drop (j + 1)) = wval BT (L.drop (j + 1)) * b + R := by
       rw [HLV.out, HRV.out, Nat.mul_comm]; exact (Nat.div_add_mod _ _).symm
      rw [← e3, ← e1, ← HV.out] at e2
      have hjL : j < L.length := by have := HLL.out; omega
      refine ⟨L.set j lo, V - b * lo, A10, c10, _, by omega, rfl, by go_num, rfl, H10.out, HAE.out.below HBX.out, by rw [List.length_set]; exact HLL.out, hLw.set (by rw [BT_eq]; omega) j, ?_, ?_, below_trans HBE.out HBX.out, hwg⟩
      ·rw [e2.2]
       have := Nat.div_add_mod V b
       rw [← HQ.out] at this
       omega
      ·rw [drop_set_pred L j lo hjL, e2.1]
       show lo + BT * _ = _
       rw [← HQ.out]; omega
def ComRel (w : World) (a b : Nat) (m : Nat) (v0 v1 : Value) (wr : World) : Prop :=
 ∃ (x y : Nat) (A : Option Addr) (c : Nat) (A2 : Option Addr) (c2 : Nat), y = m ∧ v0 = lmV A c x ∧ v1 = lmV A2 c2 y ∧ Lt wr A c x ∧ Lt wr A2 c2 y ∧ Nat.gcd x y = Nat.gcd a b ∧ (words BT x).length ≤ 200000 ∧ (words BT y).length ≤ 200000 ∧ Below w.heap.size w wr
theorem commonL_c (A A2 : Option Addr) (c c2 a b : Nat) (w : World) (h : Lt w A c a) (h2 : Lt w A2 c2 b) (hn : (words BT a).length ≤ 200000) (hm : (words BT b).length ≤ 200000) :
  Calls Tryz.prog 157 #[lmV A c a, lmV A2 c2 b] w (GivesLm (Nat.gcd a b) w) := by
 go_enter Tryz.func157, Tryz.ntmps157
 go_wp2
 go_loopg [0, 1] b (ComRel w a b)
 case atStart => exact ⟨a, b, A, c, A2, c2, rfl, rfl, rfl, h, h2, rfl, hn, hm, Below.refl _ _⟩
 case round =>
  obtain ⟨x, y, A3, c3, A4, c4, hy, rfl, rfl, h3, h4, hg, hl1, hl2, hbw⟩ := hrel
  have HG := zq hg
  have HB := zq hbw
  have HY := zq hy
  clear hg hbw hy
  rcases Nat.eq_zero_or_pos y with h0 | h0
  ·subst h0
   have hz : (words BT 0).length = 0 := rfl
   have HGE : Hid (x = Nat.gcd a b) := by show _ = _; rw [← HG.out, Nat.gcd_zero_right]
   unfold lmV
   rw [hz]
   go_wp2
   go_ret
   exact ⟨A3, c3, by rw [← HGE.out]; rfl, by rw [← HGE.out]; exact h3, HB.out⟩
  ·have hp : 0 < (words BT y).length := by
    refine Nat.pos_of_ne_zero fun e => ?_
    have := (words_nil BT_gt (n := y)).1 (List.eq_nil_of_length_eq_zero e)
    omega
   have hr : (words BT (x % y)).length ≤ 200000 := by have := len_le_of_le BT_gt (Nat.le_of_lt (Nat.mod_lt x h0)); omega
   go_wp2_with fail
   with_reducible refine (divL_c A3 A4 c3 c4 x y wr h3.rd h4.rd hl1 hl2 h0).mono ?_
   rintro e w2 ⟨A5, c5, A6, c6, rfl, h5, h6, hb2⟩
   have HB2 := zq (below_trans HB.out hb2)
   have H4 := zq (h4.below hb2)
   have H6 := zq h6
   clear hb2 h5 h6 h3 h4 hp
   go_wp2
   go_roundg (x % y)
   case measure => have := Nat.mod_lt x h0; have := HY.out; omega
   case rel => exact ⟨y, x % y, A4, c4, A6, c6, rfl, rfl, rfl, H4.out, H6.out, by rw [← HG.out]; exact gcd_step.symm, hl2, hr, HB2.out⟩
end Go.Proofs.YtlcfgejaeecclaaGreatDoor
namespace Go.Proofs
open Go.Shelf
def Tryz.lays172_ren : Go.Shelf.Ren := ⟨fun | 172 => 184 | 244 => 204 | 245 => 205 | 247 => 216 | 279 => 217 | 280 => 218 | 281 => 219 | 282 => 220 | 287 => 222 | 316 => 223 | 171 => 75 | 205 => 224 | 321 => 226 | 322 => 227 | 243 => 106 | 246 => 132 | 283 => 167 | 284 => 168 | 285 => 169 | 286 => 170 | 129 => 96 | 317 => 187 | 318 => 188 | 319 => 189 | 320 => 190 | 337 => 206 | 338 => 207 | n => n, fun | 9 => 9 | 3 => 3 | 75 => 99 | 76 => 100 | 4 => 4 | 5 => 5 | 167 => 267 | 37 => 95 | 0 => 0 | 85 => 268 | 2 => 2 | 168 => 270 | 53 => 158 | 175 => 275 | 46 => 123 | 210 => 279 | 127 => 140 | 145 => 284 | 143 => 282 | 21 => 21 | 171 => 225 | 173 => 227 | 212 => 244 | 51 => 156 | 20 => 20 | 213 => 245 | 232 => 273 | 233 => 274 | 80 => 104 | n => n, fun | 15 => 6 | 16 => 7 | 17 => 1 | 18 => 4 | 19 => 5 | n => n⟩
theorem Tryz.lays172 : Go.Proofs.Lays.n172 Tryz.prog Tryz.lays172_ren := {
 mixed := by kernel_rfl
 f129 := Tryz.func96.trans (congrArg some (by kernel_rfl))
 f171 := Tryz.func75.trans (congrArg some (by kernel_rfl))
 f172 := Tryz.func184.trans (congrArg some (by kernel_rfl))
 f205 := Tryz.func224.trans (congrArg some (by kernel_rfl))
 f243 := Tryz.func106.trans (congrArg some (by kernel_rfl))
 f244 := Tryz.func204.trans (congrArg some (by kernel_rfl))
 f245 := Tryz.func205.trans (congrArg some (by kernel_rfl))
 f246 := Tryz.func132.trans (congrArg some (by kernel_rfl))
 f247 := Tryz.func216.trans (congrArg some (by kernel_rfl))
 f279 := Tryz.func217.trans (congrArg some (by kernel_rfl))
 f280 := Tryz.func218.trans (congrArg some (by kernel_rfl))
 f281 := Tryz.func219.trans (congrArg some (by kernel_rfl))
 f282 := Tryz.func220.trans (congrArg some (by kernel_rfl))
 f283 := Tryz.func167.trans (congrArg some (by kernel_rfl))
 f284 := Tryz.func168.trans (congrArg some (by kernel_rfl))
 f285 := Tryz.func169.trans (congrArg some (by kernel_rfl))
 f286 := Tryz.func170.trans (congrArg some (by kernel_rfl))
 f287 := Tryz.func222.trans (congrArg some (by kernel_rfl))
 f316 := Tryz.func223.trans (congrArg some (by kernel_rfl))
 f317 := Tryz.func187.trans (congrArg some (by kernel_rfl))
 f318 := Tryz.func188.trans (congrArg some (by kernel_rfl))
 f319 := Tryz.func189.trans (congrArg some (by kernel_rfl))
 f320 := Tryz.func190.trans (congrArg some (by kernel_rfl))
 f321 := Tryz.func226.trans (congrArg some (by kernel_rfl))
 f322 := Tryz.func227.trans (congrArg some (by kernel_rfl))
 f337 := Tryz.func206.trans (congrArg some (by kernel_rfl))
 f338 := Tryz.func207.trans (congrArg some (by kernel_rfl))
 t0 := Tryz.underlying0
 a0 := Tryz.isAgg0
 z0 := Tryz.sizeOf0
 v0 := Tryz.zeroValue0
 t2 := Tryz.underlying2
 a2 := Tryz.isAgg2
 z2 := Tryz.sizeOf2
 v2 := Tryz.zeroValue2
 t3 := Tryz.underlying3
 a3 := Tryz.isAgg3
 z3 := Tryz.sizeOf3
 v3 := Tryz.zeroValue3
 t4 := Tryz.underlying4
 a4 := Tryz.isAgg4
 z4 := Tryz.sizeOf4
 v4 := Tryz.zeroValue4
 t5 := Tryz.underlying5
 a5 := Tryz.isAgg5
 z5 := Tryz.sizeOf5
 v5 := Tryz.zeroValue5
 t9 := Tryz.underlying9
 a9 := Tryz.isAgg9
 z9 := Tryz.sizeOf9
 v9 := Tryz.zeroValue9
 t20 := Tryz.underlying20
 a20 := Tryz.isAgg20
 z20 := Tryz.sizeOf20
 v20 := Tryz.zeroValue20
 t21 := Tryz.underlying21
 a21 := Tryz.isAgg21
 z21 := Tryz.sizeOf21
 v21 := Tryz.zeroValue21
 t37 := Tryz.underlying95
 a37 := Tryz.isAgg95
 z37 := Tryz.sizeOf95
 v37 := Tryz.zeroValue95
 t46 := Tryz.underlying123
 a46 := Tryz.isAgg123
 z46 := Tryz.sizeOf123
 v46 := Tryz.zeroValue123
 t51 := Tryz.underlying156
 a51 := Tryz.isAgg156
 z51 := Tryz.sizeOf156
 v51 := Tryz.zeroValue156
 t53 := Tryz.underlying158
 a53 := Tryz.isAgg158
 z53 := Tryz.sizeOf158
 v53 := Tryz.zeroValue158
 t75 := Tryz.underlying99
 a75 := Tryz.isAgg99
 z75 := Tryz.sizeOf99
 v75 := Tryz.zeroValue99
 t76 := Tryz.underlying100
 a76 := Tryz.isAgg100
 z76 := Tryz.sizeOf100
 v76 := Tryz.zeroValue100
 t85 := Tryz.underlying268
 a85 := Tryz.isAgg268
 z85 := Tryz.sizeOf268
 v85 := Tryz.zeroValue268
 t127 := Tryz.underlying140
 a127 := Tryz.isAgg140
 z127 := Tryz.sizeOf140
 v127 := Tryz.zeroValue140
 t143 := Tryz.underlying282
 a143 := Tryz.isAgg282
 z143 := Tryz.sizeOf282
 v143 := Tryz.zeroValue282
 t145 := Tryz.underlying284
 a145 := Tryz.isAgg284
 z145 := Tryz.sizeOf284
 v145 := Tryz.zeroValue284
 t167 := Tryz.underlying267
 a167 := Tryz.isAgg267
 z167 := Tryz.sizeOf267
 v167 := Tryz.zeroValue267
 t168 := Tryz.underlying270
 a168 := Tryz.isAgg270
 z168 := Tryz.sizeOf270
 v168 := Tryz.zeroValue270
 t171 := Tryz.underlying225
 a171 := Tryz.isAgg225
 z171 := Tryz.sizeOf225
 v171 := Tryz.zeroValue225
 t173 := Tryz.underlying227
 a173 := Tryz.isAgg227
 z173 := Tryz.sizeOf227
 v173 := Tryz.zeroValue227
 t175 := Tryz.underlying275
 a175 := Tryz.isAgg275
 z175 := Tryz.sizeOf275
 v175 := Tryz.zeroValue275
 t210 := Tryz.underlying279
 a210 := Tryz.isAgg279
 z210 := Tryz.sizeOf279
 v210 := Tryz.zeroValue279
 t212 := Tryz.underlying244
 a212 := Tryz.isAgg244
 z212 := Tryz.sizeOf244
 v212 := Tryz.zeroValue244
 t213 := Tryz.underlying245
 a213 := Tryz.isAgg245
 z213 := Tryz.sizeOf245
 t232 := Tryz.underlying273
 a232 := Tryz.isAgg273
 z232 := Tryz.sizeOf273
 v232 := Tryz.zeroValue273
 t233 := Tryz.underlying274
 a233 := Tryz.isAgg274
 z233 := Tryz.sizeOf274
 v233 := Tryz.zeroValue274
 g15 := by kernel_rfl
 g16 := by kernel_rfl
 g17 := by kernel_rfl
 g18 := by kernel_rfl
 g19 := by kernel_rfl }
end Go.Proofs
namespace Go.Proofs.YtlcfgejaeecclaaGreatDoor
open Go.Shelf Go.RowKit Go.Lib Dw
theorem dgB_iff (c : UInt8) : dgB c = true ↔ 48 ≤ c.toNat ∧ c.toNat ≤ 57 := by unfold dgB; simp
theorem decFrom_dec : ∀ (l : List UInt8) (n : Nat), l.all dgB = true → Lib.decFrom n l = some (l.foldl (fun n c => 10 * n + (c.toNat - 48)) n)
 | [], n, _ => rfl
 | c :: l, n, h => by
  simp only [List.all_cons, Bool.and_eq_true] at h
  have hd : Lib.digitVal c = some (c.toNat - 48) := by unfold Lib.digitVal; rw [if_pos ((dgB_iff c).1 h.1)]
  unfold Lib.decFrom
  rw [hd]
  show Lib.decFrom (n * 10 + (c.toNat - 48)) l = _
  rw [decFrom_dec l _ h.2, List.foldl_cons, Nat.mul_comm n 10]
theorem atoi_dec {l : List UInt8} (hl : l ≠ []) (h : l.all dgB = true) : Lib.atoi l = some ((decV l : Nat) : Int) := by
 cases l with
 | nil => exact absurd rfl hl
 | cons c l =>
  have hc : 48 ≤ c.toNat ∧ c.toNat ≤ 57 := by
   simp only [List.all_cons, Bool.and_eq_true] at h
   exact (dgB_iff c).1 h.1
  have e1 : (c == 45) = false := by
   rw [beq_eq_false_iff_ne]; intro e; rw [e] at hc; have h2 := hc.1; simp at h2
  have e2 : (c == 43) = false := by
   rw [beq_eq_false_iff_ne]; intro e; rw [e] at hc; have h2 := hc.1; simp at h2
  show (if (c == 45) = true then _ else if (c == 43) = true then _ else (Lib.decNat (c :: l)).map fun (m : Nat) => (m : Int)) = _
  rw [e1, e2]
  have e3 : Lib.decNat (c :: l) = some (decV (c :: l)) := decFrom_dec (c :: l) 0 h
  simp [e3]
theorem below_bytes (w : World) (e : TypeId) (t : ByteArray) : Below w.heap.size w (Lib.bytesWorld w e t) :=
 ⟨rfl, rfl, rfl, by simp [Lib.bytesWorld, World.freeze, World.alloc, World.drew, -World.alloc_eq, -World.drew_eq], fun k hk => Lib.bytesWorld_at_old w e t k hk⟩
theorem atoi_c (s : ByteArray) (w : World) (h0 : 0 < s.size) (h1 : s.size ≤ 18) (h : s.data.toList.all dgB = true) :
  Calls Tryz.prog 184 #[.string s] w (GivesB (.tuple #[.int .i64 ((decV s.data.toList : Nat) : Int), .nilIface]) w) := by
 have hn : s.data.toList ≠ [] := fun e => by
  have := Lib.size_eq s
  rw [e, List.length_nil] at this
  omega
 have hA := Any.strconv_Atoi Tryz.lays172 s _ h1 (atoi_dec hn h) w
 change Calls Tryz.prog 184 _ _ _ at hA
 refine hA.mono fun e w' ⟨he, t, hw⟩ => ⟨he, ?_⟩
 rw [hw]
 exact below_bytes w _ t
theorem len_data (s : ByteArray) : s.data.toList.length = s.size := (Lib.size_eq s).symm
def LmbRel (w : World) (l : List UInt8) (m : Nat) (sv ov : Value) (wr : World) : Prop :=
 ∃ (t : ByteArray) (out : List Nat), t.size = m ∧ sv = .string t ∧ t.data.toList.all dgB = true ∧ WLt BT out ∧ out.length + t.size ≤ l.length ∧ decV l = decV t.data.toList * BT ^ out.length + wval BT out ∧ OwnI wr w.heap.size ov out ∧ Below w.heap.size w wr
theorem limbsL_c (s : ByteArray) (w : World) (hd : s.data.toList.all dgB = true) (hs : s.size ≤ 400000) : Calls Tryz.prog 158 #[.string s] w (GivesLm (decV s.data.toList) w) := by
 have hsl := len_data s
 go_enter Tryz.func158, Tryz.ntmps158
 go_wp2
 go_loopg [0, 3] s.size (LmbRel w s.data.toList)
 case atStart => exact ⟨s, [], rfl, rfl, hd, WLt.nil, by simp [hsl], by simp [wval], OwnL.nil _ _ _ _ _, Below.refl _ _⟩
 case round =>
  obtain ⟨t, out, hm, rfl, htd, how, hol, hv, hown, hbw⟩ := hrel
  have HTD := zq htd
  have HW := zq how
  have HV := zq hv
  have HB := zq hbw
  have htl := len_data t
  have HM := zq hm
  clear htd how hv hbw hm
  rcases Nat.eq_zero_or_pos t.size with h0 | h0
  ·have htn : t.data.toList = [] := List.length_eq_zero_iff.1 (by omega)
   have HE : Hid (wval BT out = decV s.data.toList) := by
    show _ = _
    have := HV.out
    rw [htn] at this
    rw [this]; simp [decV]
   obtain ⟨A9, c9, rfl⟩ := own_slice' hown
   have HT := zq (trimL_n A9 c9 out wr w (by omega) (own_capI hown).1 (own_lms hown) HW.out HB.out HE.out)
   go_wp2_with fail
   with_reducible refine HT.out.mono ?_
   rintro e w7 ⟨A7, c7, rfl, hl7, hb7⟩
   have HL7 := zq hl7
   have HB7 := zq hb7
   clear hl7 hb7 HT
   go_wp2
   go_ret
   exact ⟨A7, c7, rfl, HL7.out, HB7.out⟩
  ·obtain ⟨k, hk⟩ : ∃ k, k = t.size - 4 := ⟨_, rfl⟩
   have hki : max (0 : Int) ((t.size : Int) - 4) = (k : Int) := by omega
   have hk2 : k < t.size ∧ t.size ≤ k + 4 := by omega
   have HK := zq hk
   clear hk
   have hxl : (t.extract k t.size).data.toList = t.data.toList.drop k := by
    rw [Lib.extract_data, List.take_of_length_le (by rw [List.length_drop, htl]; omega)]
   have hyl : (t.extract 0 k).data.toList = t.data.toList.take k := by
    rw [Lib.extract_data, List.drop_zero, Nat.sub_zero]
   have hxs : (t.extract k t.size).size = t.size - k := by rw [← len_data, hxl, List.length_drop, htl]
   have hys : (t.extract 0 k).size = k := by rw [← len_data, hyl, List.length_take, htl]; omega
   have HXL := zq hxl
   have HYL := zq hyl
   obtain ⟨x, hx⟩ : ∃ x, x = decV (t.data.toList.drop k) := ⟨_, rfl⟩
   have hxB : x < 10000 := by
    have h1 := decV_lt (l := t.data.toList.drop k) (fun c hc => by
     have := List.all_eq_true.1 HTD.out c (List.mem_of_mem_drop hc)
     have := (dgB_iff c).1 this
     omega)
    rw [← hx, List.length_drop, htl] at h1
    have h2 : (10 : Nat) ^ (t.size - k) ≤ 10 ^ 4 := Nat.pow_le_pow_right (by decide) (by omega)
    have h3 : (10 : Nat) ^ 4 = 10000 := by decide
    omega
   have HA := zq (atoi_c (t.extract k t.size) wr (by omega) (by omega) (by rw [hxl, List.all_eq_true]; exact fun c hc => List.all_eq_true.1 HTD.out c (List.mem_of_mem_drop hc)))
   rw [hxl, ← hx] at HA
   have HC : Hid (decV t.data.toList = decV (t.data.toList.take k) * 10 ^ (t.size - k) + x) := by
    show _ = _
    rw [hx, ← htl]; exact decV_cut _ k
   clear hxl hyl hx
   go_wp2_with fail
   with_reducible refine HA.out.mono ?_
   rintro e w2 ⟨rfl, hb2⟩
   have HO2 := zq (hown.below hb2)
   have HB2 := zq (below_trans HB.out hb2)
   clear HA hb2 hown HB
   go_wp2_with (at_builtin; refine wpList_pushS _ _ _ elI rfl rfl w.heap.size _ out rfl (OwnL.alloc HO2.out _) w2.heap.size 1 x rfl (heap_alloc_new _ _) rfl (by simp [Value.oneCell']) (by unfold maxLen; omega) (by omega) (by simp; exact Nat.le_succ_of_le HB2.out.size) ?_; intro A7 c7 w7 hown7 hg7 hb7 hat7)
   have HB7 := zq ((HB2.out.alloc HB2.out.size _).trans hb7)
   have HN7 := zq hown7
   clear hown7 hg7 hb7 hat7 HO2 HB2
   go_wp2
   go_roundg k
   case measure => have := HM.out; omega
   case rel =>
    refine ⟨t.extract 0 k, out ++ [x], hys, rfl, ?_, HW.out.append (WLt.cons (by rw [BT_eq]; omega) WLt.nil), by rw [List.length_append, List.length_singleton, hys]; omega, ?_, HN7.out, HB7.out⟩
    ·rw [HYL.out, List.all_eq_true]; exact fun c hc => List.all_eq_true.1 HTD.out c (List.mem_of_mem_take hc)
    ·rw [HYL.out, List.length_append, List.length_singleton, wval_append, wval_one, HV.out, HC.out]
     have e1 : decV (t.data.toList.take k) * 10 ^ (t.size - k) = decV (t.data.toList.take k) * BT := by
      rcases Nat.eq_zero_or_pos k with h1 | h1
      ·subst h1; simp [decV]
      ·have := HK.out
       rw [show t.size - k = 4 by omega]; rfl
     rw [e1, Nat.add_mul, Nat.pow_succ, Nat.mul_assoc, Nat.mul_comm BT, Nat.mul_comm x]
     omega
end Go.Proofs.YtlcfgejaeecclaaGreatDoor
namespace Go.Proofs.YtlcfgejaeecclaaGreatDoor
open Go.RowKit Dw
abbrev zNum : Array Value := #[.bool false, .slice none 0 0, .slice none 0 0]
abbrev nuC (ng : Bool) (A : Option Addr) (c n : Nat) (A2 : Option Addr) (c2 d : Nat) : Array Value := #[.bool ng, .slice A (words BT n).length c, .slice A2 (words BT d).length c2]
abbrev nuV (ng : Bool) (A : Option Addr) (c n : Nat) (A2 : Option Addr) (c2 d : Nat) : Value := .agg (nuC ng A c n A2 c2 d)
def GivesNum (ng : Bool) (n d : Nat) (w : World) (e : Ending) (w' : World) : Prop := ∃ A c A2 c2, e = .returned (nuV ng A c n A2 c2 d) ∧ Lt w' A c n ∧ Lt w' A2 c2 d ∧ Below w.heap.size w w'
theorem lms_ne {w : World} {A : Option Addr} {l : List Nat} (h : Lms w A l) (hl : 0 < l.length) {R : Nat} {cs : Array Value} {T : TypeId} (hb : Bx w R cs T) (hc : ∀ (i : Nat) (n : Int), cs[i]? ≠ some (Value.int .i64 n)) : ∀ b o, A = some ⟨b, o, none⟩ → b ≠ R := fun b o e1 e2 => by
 subst e2
 obtain ⟨b', o', e3, hcl⟩ := h hl
 rw [e1] at e3
 injection e3 with e3
 injection e3 with e4 e5 _
 subst e4 e5
 have h1 := hcl 0 hl
 rw [cell_of_row w b _ _ _ _ hb] at h1
 exact hc _ _ h1
theorem Lms.setR {w : World} {A : Option Addr} {l : List Nat} (h : Lms w A l) {R : Nat} {cs : Array Value} {T : TypeId} (hb : Bx w R cs T) (hc : ∀ (i : Nat) (n : Int), cs[i]? ≠ some (Value.int .i64 n)) (i : Nat) (u : Value) : Lms (w.setCell ⟨R, i, none⟩ u) A l := fun hl =>
 lms_set h (lms_ne h hl hb hc) u hl
theorem zNum_no : ∀ (i : Nat) (n : Int), zNum[i]? ≠ some (Value.int .i64 n) := fun i n h => by
 match i, h with
 | 0, h => simp [zNum] at h
 | 1, h => simp [zNum] at h
 | 2, h => simp [zNum] at h
 | i + 3, h => simp [zNum] at h
theorem Bx.set0 {w : World} {R : Nat} {a b c : Value} {T : TypeId} (h : Bx w R #[a, b, c] T) (u : Value) : Bx (w.setCell ⟨R, 0, none⟩ u) R #[u, b, c] T := heap_setCell_same w R 0 _ _ u h
theorem Bx.set1 {w : World} {R : Nat} {a b c : Value} {T : TypeId} (h : Bx w R #[a, b, c] T) (u : Value) : Bx (w.setCell ⟨R, 1, none⟩ u) R #[a, u, c] T := heap_setCell_same w R 1 _ _ u h
theorem no3 {a b c : Value} (ha : ∀ n, a ≠ .int .i64 n) (hb : ∀ n, b ≠ .int .i64 n) (hc : ∀ n, c ≠ .int .i64 n) : ∀ (i : Nat) (n : Int), (#[a, b, c] : Array Value)[i]? ≠ some (Value.int .i64 n) := fun i n h => by
 match i, h with
 | 0, h => simp at h; exact ha n h
 | 1, h => simp at h; exact hb n h
 | 2, h => simp at h; exact hc n h
 | i + 3, h => simp at h
theorem Lt.setR {w : World} {A : Option Addr} {c n R : Nat} {T : TypeId} (h : Lt w A c n) (hb : Bx w R zNum T) (ng : Bool) (A1 : Option Addr) (n1 c1 : Nat) (v : Value) : Lt (((w.setCell ⟨R, 0, none⟩ (.bool ng)).setCell ⟨R, 1, none⟩ (.slice A1 n1 c1)).setCell ⟨R, 2, none⟩ v) A c n := by
 refine ⟨?_, h.cap⟩
 have k0 := h.rd.setR hb zNum_no 0 (.bool ng)
 have b1 := Bx.set0 hb (.bool ng)
 have k1 := k0.setR b1 (no3 (by simp) (by simp) (by simp)) 1 (.slice A1 n1 c1)
 have b2 := Bx.set1 b1 (.slice A1 n1 c1)
 exact k1.setR b2 (no3 (by simp) (by simp) (by simp)) 2 v
theorem below_box {w0 w : World} {R : Nat} (h : Below w0.heap.size w0 w) (hR : w0.heap.size ≤ R) (a b c : Value) : Below w0.heap.size w0 (((w.setCell ⟨R, 0, none⟩ a).setCell ⟨R, 1, none⟩ b).setCell ⟨R, 2, none⟩ c) :=
 ((h.setCell (p := ⟨R, 0, none⟩) hR a).setCell (p := ⟨R, 1, none⟩) hR b).setCell (p := ⟨R, 2, none⟩) hR c
theorem words_oneT : words BT 1 = [1] := by decide +kernel
theorem lt_oneT (w : World) : Lt (w.alloc (.cells #[.int .i64 1] 3)) (some ⟨w.heap.size, 0, none⟩) 1 1 :=
 ⟨by rw [words_oneT]; exact lms_one w 1, by rw [words_oneT]; exact Nat.le_refl _⟩
theorem cmp1_c (A : Option Addr) (c a : Nat) (w : World) (h : Lms w A (words BT a)) (hn : (words BT a).length ≤ 1000000) :
  Calls Tryz.prog 156 #[lmV A c a, .slice (some ⟨w.heap.size, 0, none⟩) 1 1] (w.alloc (.cells #[.int .i64 1] 3)) (GivesD (.int .i64 (cmpN a 1)) (w.alloc (.cells #[.int .i64 1] 3))) :=
 cmpL_c A (some ⟨w.heap.size, 0, none⟩) c 1 a 1 _ (Rd1.alloc h _) (lt_oneT w).rd hn
theorem pos_lenT {n : Nat} (h : 0 < n) : 0 < (words BT n).length := by
 refine Nat.pos_of_ne_zero fun e => ?_
 have := (words_nil BT_gt (n := n)).1 (List.eq_nil_of_length_eq_zero e)
 omega
theorem lowP_zeroT (d : Nat) (h : 0 < d) : lowP 0 d = (0, 1) := by unfold lowP; rw [Nat.gcd_zero_left, Nat.div_self h, Nat.zero_div]
theorem lowest_c (ng : Bool) (A A2 : Option Addr) (c c2 n d : Nat) (w : World) (h : Lt w A c n) (h2 : Lt w A2 c2 d) (hd0 : 0 < d) (hn : (words BT n).length ≤ 200000) (hm : (words BT d).length ≤ 200000) :
  Calls Tryz.prog 160 #[.bool ng, lmV A c n, lmV A2 c2 d] w (GivesNum (ng && decide (n ≠ 0)) (lowP n d).1 (lowP n d).2 w) := by
 have HB0 : Hid (Below w.heap.size w (w.alloc (.cells zNum 180))) := (Below.refl w.heap.size w).alloc (Nat.le_refl _) _
 have HZ0 : Hid (Bx (w.alloc (.cells zNum 180)) w.heap.size zNum 180) := Bx.new _ _ _
 have HA0 := zq (h.below HB0.out)
 have HD0 := zq (h2.below HB0.out)
 rcases Nat.eq_zero_or_pos n with h0 | h0
 ·subst h0
  have e1 : (ng && decide (0 ≠ 0)) = false := by simp
  rw [lowP_zeroT d hd0, e1]
  unfold lmV
  have hz : (words BT 0).length = 0 := rfl
  have hz1 : (words BT 1).length = 1 := by rw [words_oneT]; rfl
  rw [hz]
  go_enter Tryz.func160, Tryz.ntmps160
  go_wp2
  refine bodyPost_ret (v := nuV false none 0 0 (some ⟨w.heap.size + 1, 0, none⟩) 1 1) (by simp [results, Tryz.results160, go_sem, hz, hz1]) rfl ⟨none, 0, _, 1, rfl, ⟨Rd1.nil, Nat.zero_le _⟩, ?_, ((Below.refl w.heap.size w).alloc (Nat.le_refl _) _).alloc (by simp) _⟩
  have := lt_oneT (w.alloc (.cells #[.bool false, .slice none 0 0, .slice (some ⟨w.heap.size + 1, 0, none⟩) 1 1] 180))
  simpa using this
 ·have hl := pos_lenT h0
  have hlb : (((words BT n).length : Int) == 0) = false := by simp; intro e; rw [e] at hl; simp at hl
  have e1 : (ng && decide (n ≠ 0)) = ng := by simp; omega
  rw [e1]
  have hg0 : 0 < Nat.gcd n d := Nat.gcd_pos_of_pos_right n hd0
  have hgl : (words BT (Nat.gcd n d)).length ≤ 200000 := Nat.le_trans (len_le_of_le BT_gt (Nat.gcd_le_right n hd0)) hm
  have HLP : Hid (lowP n d = (n / Nat.gcd n d, d / Nat.gcd n d)) := rfl
  rw [HLP.out]
  have HC := zq (commonL_c A A2 c c2 n d _ HA0.out HD0.out hn hm)
  obtain ⟨G, hG⟩ : ∃ G, Nat.gcd n d = G := ⟨_, rfl⟩
  rw [hG] at hg0 hgl HC ⊢
  clear hG HLP e1
  obtain ⟨W, hW⟩ : ∃ W, W = w.alloc (.cells zNum 180) := ⟨_, rfl⟩
  rw [← hW] at HC HA0 HD0 HZ0 HB0
  unfold lmV at HC ⊢
  go_enter Tryz.func160, Tryz.ntmps160
  go_wp2_with fail
  rw [← hW]
  clear hW
  with_reducible refine HC.out.mono ?_
  rintro e w1 ⟨A5, c5, rfl, h5, hb5⟩
  have HB1 := zq (below_trans HB0.out hb5)
  have HZ1 := zq (HZ0.out.below hb5)
  have HA1 := zq (HA0.out.below hb5)
  have HD1 := zq (HD0.out.below hb5)
  have H5 := zq h5
  clear hb5 h5 HC HA0 HD0 HZ0 HB0 hlb
  go_wp2_with fail
  with_reducible refine (cmp1_c A5 c5 G w1 H5.out.rd (by omega)).mono ?_
  rintro e w2 ⟨rfl, nd, rfl⟩
  have hba : Below w1.heap.size w1 ((w1.alloc (.cells #[.int .i64 1] 3)).drewN nd) := below_drewN ((Below.refl w1.heap.size w1).alloc (Nat.le_refl _) _) nd
  have HB2 := zq (below_trans HB1.out hba)
  have HZ2 := zq (HZ1.out.below hba)
  have HA2 := zq (HA1.out.below hba)
  have HD2 := zq (HD1.out.below hba)
  have H52 := zq (H5.out.below hba)
  clear hba HB1 HZ1 HA1 HD1 H5
  obtain ⟨w2, hw2⟩ : ∃ w2, w2 = (w1.alloc (.cells #[.int .i64 1] 3)).drewN nd := ⟨_, rfl⟩
  rw [← hw2] at HB2 HZ2 HA2 HD2 H52 ⊢
  clear hw2
  by_cases h1 : G = 1
  ·have hcb : (cmpN G 1 == 0) = true := by rw [h1]; rfl
   have HG1 := zq h1
   have z0 := HZ2.out.cell (i := 0) rfl
   have z1 := HZ2.out.cell (i := 1) rfl
   have z2 := HZ2.out.cell (i := 2) rfl
   have f0 := HZ2.out.frozen
   have hsz := HZ2.out.lt
   clear h1
   go_wp2
   rw [HG1.out, Nat.div_one, Nat.div_one]
   refine bodyPost_ret (v := nuV ng A c n A2 c2 d) (by simp [results, Tryz.results160, go_sem, z0, z1, z2]) rfl ⟨A, c, A2, c2, rfl, HA2.out.setR HZ2.out _ _ _ _ _, HD2.out.setR HZ2.out _ _ _ _ _, below_box HB2.out (Nat.le_refl _) _ _ _⟩
  ·have hcb : (cmpN G 1 == 0) = false := by rw [cmpN_gt (by omega)]; rfl
   clear h1
   go_wp2_with fail
   with_reducible refine (divL_c A A5 c c5 n G w2 HA2.out.rd H52.out.rd hn hgl hg0).mono ?_
   rintro e w3 ⟨A6, c6, A7, c7, rfl, h6, _, hb3⟩
   have HB3 := zq (below_trans HB2.out hb3)
   have HZ3 := zq (HZ2.out.below hb3)
   have HD3 := zq (HD2.out.below hb3)
   have H53 := zq (H52.out.below hb3)
   have H6 := zq h6
   clear hb3 h6 HB2 HZ2 HD2 H52 HA2 hcb
   go_wp2_with fail
   with_reducible refine (divL_c A2 A5 c2 c5 d G w3 HD3.out.rd H53.out.rd hm hgl hg0).mono ?_
   rintro e w4 ⟨A8, c8, A9, c9, rfl, h8, _, hb4⟩
   have HB4 := zq (below_trans HB3.out hb4)
   have HZ4 := zq (HZ3.out.below hb4)
   have H64 := zq (H6.out.below hb4)
   have H8 := zq h8
   clear hb4 h8 HB3 HZ3 HD3 H53 H6
   have z0 := HZ4.out.cell (i := 0) rfl
   have z1 := HZ4.out.cell (i := 1) rfl
   have z2 := HZ4.out.cell (i := 2) rfl
   have f0 := HZ4.out.frozen
   have hsz := HZ4.out.lt
   go_wp2
   refine bodyPost_ret (v := nuV ng A6 c6 (n / G) A8 c8 (d / G)) (by simp [results, Tryz.results160, go_sem, z0, z1, z2]) rfl ⟨A6, c6, A8, c8, rfl, H64.out.setR HZ4.out _ _ _ _ _, H8.out.setR HZ4.out _ _ _ _ _, below_box HB4.out (Nat.le_refl _) _ _ _⟩
theorem smallF_0 (w : World) : Calls Tryz.prog 167 #[.int .i64 0] w (Gives (.string ⟨#[48]⟩) w) := by
 go_enter Tryz.func167, Tryz.ntmps167
 go_wp2
 go_ret
 exact Gives.mk (by rfl) rfl
theorem fmtI_0 (w : World) : Calls Tryz.prog 186 #[.int .u64 0, .int .i64 10] w (Gives (.string ⟨#[48]⟩) w) := by
 go_enter Tryz.func186, Tryz.ntmps186
 go_wp2_with fail
 with_reducible refine (smallF_0 w).mono ?_
 rintro e w1 ⟨rfl, rfl⟩
 go_wp2
 go_ret
 exact Gives.mk rfl rfl
theorem fmt_0 (w : World) : Calls Tryz.prog 161 #[.int .u64 0, .int .i64 10] w (Gives (.string ⟨#[48]⟩) w) := by
 go_enter Tryz.func161, Tryz.ntmps161
 go_wp2_with fail
 with_reducible refine (fmtI_0 w).mono ?_
 rintro e w1 ⟨rfl, rfl⟩
 go_wp2
 go_ret
 exact Gives.mk rfl rfl
theorem Int_0 (w : World) : Calls Tryz.prog 120 #[.int .i64 0] w (GivesNum false 0 1 w) := by
 have HB0 : Hid (Below w.heap.size w (w.alloc (.cells zNum 180))) := (Below.refl w.heap.size w).alloc (Nat.le_refl _) _
 have HZ0 : Hid (Bx (w.alloc (.cells zNum 180)) w.heap.size zNum 180) := Bx.new _ _ _
 go_enter Tryz.func120, Tryz.ntmps120
 go_wp2_with fail
 with_reducible refine (fmt_0 _).mono ?_
 rintro e w1 ⟨rfl, rfl⟩
 have HL := zq (limbsL_c ⟨#[48]⟩ (w.alloc (.cells zNum 180)) (by decide) (by decide))
 have hd : decV (⟨#[48]⟩ : ByteArray).data.toList = 0 := by decide
 rw [hd] at HL
 clear hd
 go_wp2_with fail
 with_reducible refine HL.out.mono ?_
 rintro e w1 ⟨A1, c1, rfl, h1, hb1⟩
 have hba : Below w1.heap.size w1 (w1.alloc (.cells #[.int .i64 1] 3)) := (Below.refl w1.heap.size w1).alloc (Nat.le_refl _) _
 have HB1 := zq (below_trans (below_trans HB0.out hb1) hba)
 have HZ1 := zq ((HZ0.out.below hb1).below hba)
 have HW : Hid (Calls Tryz.prog 160 #[.bool false, lmV A1 c1 0, .slice (some ⟨w1.heap.size, 0, none⟩) 1 1] (w1.alloc (.cells #[.int .i64 1] 3)) (GivesNum false 0 1 (w1.alloc (.cells #[.int .i64 1] 3)))) :=
  lowest_c false A1 (some ⟨w1.heap.size, 0, none⟩) c1 1 0 1 _ (h1.below hba) (lt_oneT w1) (by omega) (by decide +kernel) (by decide +kernel)
 clear hb1 h1 hba HB0 HZ0 HL
 go_wp2_with fail
 with_reducible refine HW.out.mono ?_
 rintro e w2 ⟨A2, c2, A3, c3, rfl, h2, h3, hb2⟩
 have HB2 := zq (below_trans HB1.out hb2)
 have HZ2 := zq (HZ1.out.below hb2)
 have H2 := zq h2
 have H3 := zq h3
 clear hb2 h2 h3 HB1 HZ1 HW
 have z0 := HZ2.out.cell (i := 0) rfl
 have z1 := HZ2.out.cell (i := 1) rfl
 have z2 := HZ2.out.cell (i := 2) rfl
 have f0 := HZ2.out.frozen
 have hsz := HZ2.out.lt
 go_wp2
 refine bodyPost_ret (v := nuV false A2 c2 0 A3 c3 1) (by simp [results, Tryz.results120, go_sem, z0, z1, z2]) rfl ⟨A2, c2, A3, c3, rfl, H2.out.setR HZ2.out _ _ _ _ _, H3.out.setR HZ2.out _ _ _ _ _, below_box HB2.out (Nat.le_refl _) _ _ _⟩
theorem smallF_1 (w : World) : Calls Tryz.prog 167 #[.int .i64 1] w (Gives (.string ⟨#[49]⟩) w) := by
 go_enter Tryz.func167, Tryz.ntmps167
 go_wp2
 go_ret
 exact Gives.mk (by rfl) rfl
theorem fmtI_1 (w : World) : Calls Tryz.prog 186 #[.int .u64 1, .int .i64 10] w (Gives (.string ⟨#[49]⟩) w) := by
 go_enter Tryz.func186, Tryz.ntmps186
 go_wp2_with fail
 with_reducible refine (smallF_1 w).mono ?_
 rintro e w1 ⟨rfl, rfl⟩
 go_wp2
 go_ret
 exact Gives.mk rfl rfl
theorem fmt_1 (w : World) : Calls Tryz.prog 161 #[.int .u64 1, .int .i64 10] w (Gives (.string ⟨#[49]⟩) w) := by
 go_enter Tryz.func161, Tryz.ntmps161
 go_wp2_with fail
 with_reducible refine (fmtI_1 w).mono ?_
 rintro e w1 ⟨rfl, rfl⟩
 go_wp2
 go_ret
 exact Gives.mk rfl rfl
theorem Int_1 (w : World) : Calls Tryz.prog 120 #[.int .i64 1] w (GivesNum false 1 1 w) := by
 have HB0 : Hid (Below w.heap.size w (w.alloc (.cells zNum 180))) := (Below.refl w.heap.size w).alloc (Nat.le_refl _) _
 have HZ0 : Hid (Bx (w.alloc (.cells zNum 180)) w.heap.size zNum 180) := Bx.new _ _ _
 go_enter Tryz.func120, Tryz.ntmps120
 go_wp2_with fail
 with_reducible refine (fmt_1 _).mono ?_
 rintro e w1 ⟨rfl, rfl⟩
 have HL := zq (limbsL_c ⟨#[49]⟩ (w.alloc (.cells zNum 180)) (by decide) (by decide))
 have hd : decV (⟨#[49]⟩ : ByteArray).data.toList = 1 := by decide
 rw [hd] at HL
 clear hd
 go_wp2_with fail
 with_reducible refine HL.out.mono ?_
 rintro e w1 ⟨A1, c1, rfl, h1, hb1⟩
 have hba : Below w1.heap.size w1 (w1.alloc (.cells #[.int .i64 1] 3)) := (Below.refl w1.heap.size w1).alloc (Nat.le_refl _) _
 have HB1 := zq (below_trans (below_trans HB0.out hb1) hba)
 have HZ1 := zq ((HZ0.out.below hb1).below hba)
 have HW : Hid (Calls Tryz.prog 160 #[.bool false, lmV A1 c1 1, .slice (some ⟨w1.heap.size, 0, none⟩) 1 1] (w1.alloc (.cells #[.int .i64 1] 3)) (GivesNum false 1 1 (w1.alloc (.cells #[.int .i64 1] 3)))) :=
  lowest_c false A1 (some ⟨w1.heap.size, 0, none⟩) c1 1 1 1 _ (h1.below hba) (lt_oneT w1) (by omega) (by decide +kernel) (by decide +kernel)
 clear hb1 h1 hba HB0 HZ0 HL
 go_wp2_with fail
 with_reducible refine HW.out.mono ?_
 rintro e w2 ⟨A2, c2, A3, c3, rfl, h2, h3, hb2⟩
 have HB2 := zq (below_trans HB1.out hb2)
 have HZ2 := zq (HZ1.out.below hb2)
 have H2 := zq h2
 have H3 := zq h3
 clear hb2 h2 h3 HB1 HZ1 HW
 have z0 := HZ2.out.cell (i := 0) rfl
 have z1 := HZ2.out.cell (i := 1) rfl
 have z2 := HZ2.out.cell (i := 2) rfl
 have f0 := HZ2.out.frozen
 have hsz := HZ2.out.lt
 go_wp2
 refine bodyPost_ret (v := nuV false A2 c2 1 A3 c3 1) (by simp [results, Tryz.results120, go_sem, z0, z1, z2]) rfl ⟨A2, c2, A3, c3, rfl, H2.out.setR HZ2.out _ _ _ _ _, H3.out.setR HZ2.out _ _ _ _ _, below_box HB2.out (Nat.le_refl _) _ _ _⟩
theorem isZero_c (ng : Bool) (A A2 : Option Addr) (c c2 n d : Nat) (w : World) : Calls Tryz.prog 118 #[nuV ng A c n A2 c2 d] w (GivesB (.bool (decide (n = 0))) w) := by
 have hb : (((words BT n).length : Int) == 0) = decide (n = 0) := by
  rcases Nat.eq_zero_or_pos n with h0 | h0
  ·subst h0; rfl
  ·have := pos_lenT h0
   have h1 : decide (n = 0) = false := by simp; omega
   rw [h1]; simp; intro e; rw [e] at this; simp at this
 have HB0 : Hid (Below w.heap.size w (w.alloc (.cells (nuC ng A c n A2 c2 d) 180))) := (Below.refl w.heap.size w).alloc (Nat.le_refl _) _
 go_enter Tryz.func118, Tryz.ntmps118
 go_wp2
 go_ret
 exact GivesB.mk rfl HB0.out
def GivesMi (ng : Bool) (A : Option Addr) (c n : Nat) (A2 : Option Addr) (c2 d : Nat) (w : World) (e : Ending) (w' : World) : Prop := e = .returned (nuV (!ng && decide (n ≠ 0)) A c n A2 c2 d) ∧ Below w.heap.size w w'
theorem minus_c (ng : Bool) (A A2 : Option Addr) (c c2 n d : Nat) (w : World) : Calls Tryz.prog 159 #[nuV ng A c n A2 c2 d] w (GivesMi ng A c n A2 c2 d w) := by
 have HB0 : Hid (Below w.heap.size w ((w.alloc (.cells (nuC ng A c n A2 c2 d) 180)).alloc (.cells #[.bool (!ng && decide (n ≠ 0)), .slice A (words BT n).length c, .slice A2 (words BT d).length c2] 180))) := ((Below.refl w.heap.size w).alloc (Nat.le_refl _) _).alloc (by simp) _
 cases ng with
 | true =>
  go_enter Tryz.func159, Tryz.ntmps159
  go_wp2
  refine bodyPost_ret (v := nuV false A c n A2 c2 d) (by simp [results, Tryz.results159, go_sem]) rfl ⟨rfl, ?_⟩
  exact HB0.out
 | false =>
  rcases Nat.eq_zero_or_pos n with h0 | h0
  ·subst h0
   have hz : (words BT 0).length = 0 := rfl
   unfold nuV nuC
   rw [hz]
   go_enter Tryz.func159, Tryz.ntmps159
   go_wp2
   refine bodyPost_ret (v := nuV false A c 0 A2 c2 d) (by simp [results, Tryz.results159, go_sem, hz]) rfl ⟨rfl, ?_⟩
   exact HB0.out
  ·have hl := pos_lenT h0
   have hn : decide (n ≠ 0) = true := by simp; omega
   rw [hn] at HB0
   go_enter Tryz.func159, Tryz.ntmps159
   go_wp2
   refine bodyPost_ret (v := nuV true A c n A2 c2 d) (by simp [results, Tryz.results159, go_sem]) rfl ⟨by rw [hn]; rfl, ?_⟩
   exact HB0.out
theorem len_mulT (a b : Nat) : (words BT (a * b)).length ≤ (words BT a).length + (words BT b).length := by
 refine len_le_of_lt BT_gt ?_
 rw [Nat.pow_add]
 have h1 := words_len BT_gt a
 have h2 := words_len BT_gt b
 exact Nat.lt_of_le_of_lt (Nat.mul_le_mul_left a (Nat.le_of_lt h2)) (Nat.mul_lt_mul_of_pos_right h1 (Nat.pow_pos BT_pos))
theorem len_addT (a b : Nat) : (words BT (a + b)).length ≤ max (words BT a).length (words BT b).length + 1 := by
 refine len_le_of_lt BT_gt ?_
 have h1 := words_len BT_gt a
 have h2 := words_len BT_gt b
 have h3 : BT ^ (words BT a).length ≤ BT ^ max (words BT a).length (words BT b).length := Nat.pow_le_pow_right BT_pos (Nat.le_max_left _ _)
 have h4 : BT ^ (words BT b).length ≤ BT ^ max (words BT a).length (words BT b).length := Nat.pow_le_pow_right BT_pos (Nat.le_max_right _ _)
 rw [Nat.pow_succ]
 have h5 := Nat.mul_le_mul_left (BT ^ max (words BT a).length (words BT b).length) (show 2 ≤ BT by decide)
 omega
def plusN (ng : Bool) (n d : Nat) (ng2 : Bool) (m e : Nat) : Bool × Nat × Nat :=
 if ng = ng2 then (ng && decide (n * e + m * d ≠ 0), lowP (n * e + m * d) (d * e))
 else if m * d ≤ n * e then (ng && decide (n * e - m * d ≠ 0), lowP (n * e - m * d) (d * e))
 else (ng2 && decide (m * d - n * e ≠ 0), lowP (m * d - n * e) (d * e))
theorem cmpN_ge {a b : Nat} (h : b ≤ a) : decide (0 ≤ cmpN a b) = true := by
 rcases Nat.lt_or_ge b a with h1 | h1
 ·rw [cmpN_gt h1]; rfl
 ·rw [cmpN_eq (by omega)]; rfl
theorem cmpN_nge {a b : Nat} (h : ¬ b ≤ a) : decide (0 ≤ cmpN a b) = false := by rw [cmpN_lt (by omega)]; rfl
theorem plus_c (ng ng2 : Bool) (A A2 A3 A4 : Option Addr) (c c2 c3 c4 n d m e : Nat) (w : World) (h : Lt w A c n) (h2 : Lt w A2 c2 d) (h3 : Lt w A3 c3 m) (h4 : Lt w A4 c4 e)
  (hn : (words BT n).length ≤ 50000) (hd : (words BT d).length ≤ 50000) (hm : (words BT m).length ≤ 50000) (he : (words BT e).length ≤ 50000) (hd0 : 0 < d) (he0 : 0 < e) :
  Calls Tryz.prog 124 #[nuV ng A c n A2 c2 d, nuV ng2 A3 c3 m A4 c4 e] w (GivesNum (plusN ng n d ng2 m e).1 (plusN ng n d ng2 m e).2.1 (plusN ng n d ng2 m e).2.2 w) := by
 have HM1 := zq (fun W (x : Lt W A c n) (y : Lt W A4 c4 e) => timesL_c A A4 c c4 n e W x.rd y.rd (by omega) (by omega))
 have HM2 := zq (fun W (x : Lt W A3 c3 m) (y : Lt W A2 c2 d) => timesL_c A3 A2 c3 c2 m d W x.rd y.rd (by omega) (by omega))
 have HM3 := zq (fun W (x : Lt W A2 c2 d) (y : Lt W A4 c4 e) => timesL_c A2 A4 c2 c4 d e W x.rd y.rd (by omega) (by omega))
 have hl1 : (words BT (n * e)).length ≤ 100000 := Nat.le_trans (len_mulT n e) (by omega)
 have hl2 : (words BT (m * d)).length ≤ 100000 := Nat.le_trans (len_mulT m d) (by omega)
 have hl3 : (words BT (d * e)).length ≤ 100000 := Nat.le_trans (len_mulT d e) (by omega)
 have hr0 : 0 < d * e := Nat.mul_pos hd0 he0
 have HP : Hid (plusN ng n d ng2 m e = if ng = ng2 then (ng && decide (n * e + m * d ≠ 0), lowP (n * e + m * d) (d * e)) else if m * d ≤ n * e then (ng && decide (n * e - m * d ≠ 0), lowP (n * e - m * d) (d * e)) else (ng2 && decide (m * d - n * e ≠ 0), lowP (m * d - n * e) (d * e))) := rfl
 obtain ⟨res, hres⟩ : ∃ res, res = plusN ng n d ng2 m e := ⟨_, rfl⟩
 rw [← hres] at HP ⊢
 clear hres
 obtain ⟨p, hp⟩ : ∃ p, n * e = p := ⟨_, rfl⟩
 obtain ⟨q, hq⟩ : ∃ q, m * d = q := ⟨_, rfl⟩
 obtain ⟨r, hr⟩ : ∃ r, d * e = r := ⟨_, rfl⟩
 rw [hp] at HM1 hl1 HP
 rw [hq] at HM2 hl2 HP
 rw [hr] at HM3 hl3 hr0 HP
 clear hp hq hr hn hd hm he hd0 he0
 have HX0 : Hid (Bx (((w.alloc (.cells (nuC ng A c n A2 c2 d) 180)).alloc (.cells (nuC ng2 A3 c3 m A4 c4 e) 180)).alloc (.cells zNum 180)) w.heap.size (nuC ng A c n A2 c2 d) 180) := ((Bx.new _ _ _).alloc _).alloc _
 have HY0 : Hid (Bx (((w.alloc (.cells (nuC ng A c n A2 c2 d) 180)).alloc (.cells (nuC ng2 A3 c3 m A4 c4 e) 180)).alloc (.cells zNum 180)) (w.heap.size + 1) (nuC ng2 A3 c3 m A4 c4 e) 180) := (Bx.new1 _ _ _ _).alloc _
 have HZ0 : Hid (Bx (((w.alloc (.cells (nuC ng A c n A2 c2 d) 180)).alloc (.cells (nuC ng2 A3 c3 m A4 c4 e) 180)).alloc (.cells zNum 180)) (w.heap.size + 1 + 1) zNum 180) := Bx.new2 _ _ _ _ _
 have HB0 : Hid (Below w.heap.size w (((w.alloc (.cells (nuC ng A c n A2 c2 d) 180)).alloc (.cells (nuC ng2 A3 c3 m A4 c4 e) 180)).alloc (.cells zNum 180))) := (((Below.refl w.heap.size w).alloc (Nat.le_refl _) _).alloc (by simp) _).alloc (by simp; omega) _
 obtain ⟨W, hW⟩ : ∃ W, W = (((w.alloc (.cells (nuC ng A c n A2 c2 d) 180)).alloc (.cells (nuC ng2 A3 c3 m A4 c4 e) 180)).alloc (.cells zNum 180)) := ⟨_, rfl⟩
 rw [← hW] at HX0 HY0 HZ0 HB0
 have g1 := zq (h.below HB0.out)
 have g2 := zq (h2.below HB0.out)
 have g3 := zq (h3.below HB0.out)
 have g4 := zq (h4.below HB0.out)
 clear h h2 h3 h4
 go_enter Tryz.func124, Tryz.ntmps124
 go_upto_region 1 with fail
 rw [← hW]
 clear hW
 have a0 := HX0.out.cell (i := 0) rfl
 have a1 := HX0.out.cell (i := 1) rfl
 have a2 := HX0.out.cell (i := 2) rfl
 have b0 := HY0.out.cell (i := 0) rfl
 have b1 := HY0.out.cell (i := 1) rfl
 have b2 := HY0.out.cell (i := 2) rfl
 go_region_held3 (fun w' => (w'.cell? ⟨w.heap.size, 0, none⟩ = some (.bool ng) ∧ w'.cell? ⟨w.heap.size, 1, none⟩ = some (.slice A (words BT n).length c) ∧ w'.cell? ⟨w.heap.size, 2, none⟩ = some (.slice A2 (words BT d).length c2)) ∧ (w'.cell? ⟨w.heap.size + 1, 0, none⟩ = some (.bool ng2) ∧ w'.cell? ⟨w.heap.size + 1, 1, none⟩ = some (.slice A3 (words BT m).length c3) ∧ w'.cell? ⟨w.heap.size + 1, 2, none⟩ = some (.slice A4 (words BT e).length c4)))
  ((refine ⟨⟨?_, ?_, ?_⟩, ?_, ?_, ?_⟩ <;> first | with_reducible assumption | go_simp))
  (first
   | ((go_at_call 162; (with_reducible refine (HM1.out W.drew (g1.out.drew) (g4.out.drew)).mono ?_); rintro x w1 ⟨A5, c5, rfl, h5, hb⟩; have HB1 := zq ((below_drewN HB0.out 1).trans (hb.mono HB0.out.size)); have HX1 := zq ((HX0.out.drew).below hb); have HY1 := zq ((HY0.out.drew).below hb); have HZ1 := zq ((HZ0.out.drew).below hb); have g21 := zq ((g2.out.drew).below hb); have g31 := zq ((g3.out.drew).below hb); have g41 := zq ((g4.out.drew).below hb); have H5 := zq h5; clear h5 hb; clear a0 a1 a2 b0 b1 b2; have a0 := HX1.out.cell (i := 0) rfl; have a1 := HX1.out.cell (i := 1) rfl; have a2 := HX1.out.cell (i := 2) rfl; have b0 := HY1.out.cell (i := 0) rfl; have b1 := HY1.out.cell (i := 1) rfl; have b2 := HY1.out.cell (i := 2) rfl))
   | ((go_at_call 162; (with_reducible refine (HM2.out w1 g31.out g21.out).mono ?_); rintro x w2 ⟨A6, c6, rfl, h6, hb⟩; have HB2 := zq (below_trans HB1.out hb); have HX2 := zq (HX1.out.below hb); have HY2 := zq (HY1.out.below hb); have HZ2 := zq (HZ1.out.below hb); have g22 := zq (g21.out.below hb); have g42 := zq (g41.out.below hb); have H52 := zq (H5.out.below hb); have H6 := zq h6; clear h6 hb; clear a0 a1 a2 b0 b1 b2; have a0 := HX2.out.cell (i := 0) rfl; have a1 := HX2.out.cell (i := 1) rfl; have a2 := HX2.out.cell (i := 2) rfl; have b0 := HY2.out.cell (i := 0) rfl; have b1 := HY2.out.cell (i := 1) rfl; have b2 := HY2.out.cell (i := 2) rfl))
   | ((go_at_call 162; (with_reducible refine (HM3.out w2 g22.out g42.out).mono ?_); rintro x w3 ⟨A7, c7, rfl, h7, hb⟩; have HB3 := zq (below_trans HB2.out hb); have HX3 := zq (HX2.out.below hb); have HY3 := zq (HY2.out.below hb); have HZ3 := zq (HZ2.out.below hb); have H53 := zq (H52.out.below hb); have H63 := zq (H6.out.below hb); have H7 := zq h7; clear h7 hb; clear a0 a1 a2 b0 b1 b2; have a0 := HX3.out.cell (i := 0) rfl; have a1 := HX3.out.cell (i := 1) rfl; have a2 := HX3.out.cell (i := 2) rfl; have b0 := HY3.out.cell (i := 0) rfl; have b1 := HY3.out.cell (i := 1) rfl; have b2 := HY3.out.cell (i := 2) rfl)))
 clear HB0 HB1 HB2 HX0 HX1 HX2 HY0 HY1 HY2 HZ0 HZ1 HZ2 g1 g2 g3 g4 g21 g31 g41 g22 g42 H5 H52 H6 HM1 HM2 HM3
 by_cases hs : ng = ng2
 ·have hsb : (ng == ng2) = true := by simpa using hs
  have HR : Hid (res = (ng && decide (p + q ≠ 0), lowP (p + q) r)) := by show _ = _; rw [HP.out, if_pos hs]
  have hre := HR.out
  clear hs HP HR
  subst hre
  have hla := len_addT p q
  have HA := zq (fun W (x : Lt W A5 c5 p) (y : Lt W A6 c6 q) => addL_c A5 A6 c5 c6 p q W x.rd y.rd (by omega) (by omega))
  have HW := zq (fun A8 c8 W (x : Lt W A8 c8 (p + q)) (y : Lt W A7 c7 r) => lowest_c ng A8 A7 c8 c7 (p + q) r W x y hr0 (by omega) (by omega))
  clear hla hl1 hl2 hl3 hr0
  generalize p + q = pq at *
  go_upto_region 3 with fail
  go_region_held3 (fun w' => (w'.cell? ⟨w.heap.size, 0, none⟩ = some (.bool ng) ∧ w'.cell? ⟨w.heap.size, 1, none⟩ = some (.slice A (words BT n).length c) ∧ w'.cell? ⟨w.heap.size, 2, none⟩ = some (.slice A2 (words BT d).length c2)) ∧ (w'.cell? ⟨w.heap.size + 1, 0, none⟩ = some (.bool ng2) ∧ w'.cell? ⟨w.heap.size + 1, 1, none⟩ = some (.slice A3 (words BT m).length c3) ∧ w'.cell? ⟨w.heap.size + 1, 2, none⟩ = some (.slice A4 (words BT e).length c4)))
   ((refine ⟨⟨?_, ?_, ?_⟩, ?_, ?_, ?_⟩ <;> first | with_reducible assumption | go_simp))
   (first
    | ((go_at_call 163; (with_reducible refine (HA.out w3.drew (H53.out.drew) (H63.out.drew)).mono ?_); rintro x w5 ⟨A8, c8, rfl, h8, hb⟩; have HB5 := zq ((below_drewN HB3.out 1).trans (hb.mono HB3.out.size)); have HX5 := zq ((HX3.out.drew).below hb); have HY5 := zq ((HY3.out.drew).below hb); have HZ5 := zq ((HZ3.out.drew).below hb); have H75 := zq ((H7.out.drew).below hb); have H8 := zq h8; clear h8 hb; clear a0 a1 a2 b0 b1 b2; have a0 := HX5.out.cell (i := 0) rfl; have a1 := HX5.out.cell (i := 1) rfl; have a2 := HX5.out.cell (i := 2) rfl; have b0 := HY5.out.cell (i := 0) rfl; have b1 := HY5.out.cell (i := 1) rfl; have b2 := HY5.out.cell (i := 2) rfl))
    | ((go_at_call 160; (with_reducible refine (HW.out _ _ w5 H8.out H75.out).mono ?_); rintro x w6 ⟨A9, c9, A10, c10, rfl, h9, h10, hb⟩; have HB6 := zq (below_trans HB5.out hb); have HX6 := zq (HX5.out.below hb); have HY6 := zq (HY5.out.below hb); have HZ6 := zq (HZ5.out.below hb); have H9 := zq h9; have H10 := zq h10; clear h9 h10 hb; clear a0 a1 a2 b0 b1 b2; have a0 := HX6.out.cell (i := 0) rfl; have a1 := HX6.out.cell (i := 1) rfl; have a2 := HX6.out.cell (i := 2) rfl; have b0 := HY6.out.cell (i := 0) rfl; have b1 := HY6.out.cell (i := 1) rfl; have b2 := HY6.out.cell (i := 2) rfl; have r0 := HZ6.out.cell (i := 0) rfl; have r1 := HZ6.out.cell (i := 1) rfl; have r2 := HZ6.out.cell (i := 2) rfl; have rf := HZ6.out.frozen; have rs := HZ6.out.lt; have rn : ¬ (w.heap.size = w.heap.size + 1 + 1) := (by omega); have rm : ¬ (w.heap.size + 1 = w.heap.size + 1 + 1) := (by omega))))
  go_wp2
  refine bodyPost_ret (v := nuV (ng && decide (pq ≠ 0)) A9 c9 (lowP pq r).1 A10 c10 (lowP pq r).2) (by simp [results, Tryz.results124, go_sem, r0, r1, r2]) rfl ⟨A9, c9, A10, c10, rfl, H9.out.setR HZ6.out _ _ _ _ _, H10.out.setR HZ6.out _ _ _ _ _, below_box HB6.out (by omega) _ _ _⟩
 ·have hsb : (ng == ng2) = false := by simpa using hs
  go_upto_region 4 with fail
  go_wp2_with fail
  with_reducible refine (cmpL_c A5 A6 c5 c6 p q w3 H53.out.rd H63.out.rd (by omega)).mono ?_
  rintro x w4 ⟨rfl, nd, rfl⟩
  have HX4 := zq (HX3.out.drewN nd)
  have HY4 := zq (HY3.out.drewN nd)
  have HZ4 := zq (HZ3.out.drewN nd)
  have HB4 := zq (below_drewN HB3.out nd)
  have H54 := zq (H53.out.drewN nd)
  have H64 := zq (H63.out.drewN nd)
  have H74 := zq (H7.out.drewN nd)
  clear HX3 HY3 HZ3 HB3 H53 H63 H7
  clear a0 a1 a2 b0 b1 b2
  obtain ⟨w4, hw4⟩ : ∃ w4, w4 = w3.drewN nd := ⟨_, rfl⟩
  rw [← hw4] at HX4 HY4 HZ4 HB4 H54 H64 H74 ⊢
  clear hw4
  have a0 := HX4.out.cell (i := 0) rfl
  have a1 := HX4.out.cell (i := 1) rfl
  have a2 := HX4.out.cell (i := 2) rfl
  have b0 := HY4.out.cell (i := 0) rfl
  have b1 := HY4.out.cell (i := 1) rfl
  have b2 := HY4.out.cell (i := 2) rfl
  by_cases hc : q ≤ p
  ·have hcb := cmpN_ge hc
   have HR : Hid (res = (ng && decide (p - q ≠ 0), lowP (p - q) r)) := by show _ = _; rw [HP.out, if_neg hs, if_pos hc]
   have hre := HR.out
   have HA := zq (fun W (x : Lt W A5 c5 p) (y : Lt W A6 c6 q) => lessL_c A5 A6 c5 c6 p q W x.rd y.rd (by omega) hc)
   have hla := len_le_of_le BT_gt (Nat.sub_le p q)
   have HW := zq (fun A8 c8 W (x : Lt W A8 c8 (p - q)) (y : Lt W A7 c7 r) => lowest_c ng A8 A7 c8 c7 (p - q) r W x y hr0 (by omega) (by omega))
   clear hla hl1 hl2 hl3 hr0 hs HP HR hc
   subst hre
   generalize p - q = pq at *
   go_upto_region 5 with fail
   go_region_held3 (fun w' => (w'.cell? ⟨w.heap.size, 0, none⟩ = some (.bool ng) ∧ w'.cell? ⟨w.heap.size, 1, none⟩ = some (.slice A (words BT n).length c) ∧ w'.cell? ⟨w.heap.size, 2, none⟩ = some (.slice A2 (words BT d).length c2)) ∧ (w'.cell? ⟨w.heap.size + 1, 0, none⟩ = some (.bool ng2) ∧ w'.cell? ⟨w.heap.size + 1, 1, none⟩ = some (.slice A3 (words BT m).length c3) ∧ w'.cell? ⟨w.heap.size + 1, 2, none⟩ = some (.slice A4 (words BT e).length c4)))
    ((refine ⟨⟨?_, ?_, ?_⟩, ?_, ?_, ?_⟩ <;> first | with_reducible assumption | go_simp))
    (first
     | ((go_at_call 164; (with_reducible refine (HA.out w4.drew (H54.out.drew) (H64.out.drew)).mono ?_); rintro x w5 ⟨A8, c8, rfl, h8, hb⟩; have HB5 := zq ((below_drewN HB4.out 1).trans (hb.mono HB4.out.size)); have HX5 := zq ((HX4.out.drew).below hb); have HY5 := zq ((HY4.out.drew).below hb); have HZ5 := zq ((HZ4.out.drew).below hb); have H75 := zq ((H74.out.drew).below hb); have H8 := zq h8; clear h8 hb; clear a0 a1 a2 b0 b1 b2; have a0 := HX5.out.cell (i := 0) rfl; have a1 := HX5.out.cell (i := 1) rfl; have a2 := HX5.out.cell (i := 2) rfl; have b0 := HY5.out.cell (i := 0) rfl; have b1 := HY5.out.cell (i := 1) rfl; have b2 := HY5.out.cell (i := 2) rfl))
     | ((go_at_call 160; (with_reducible refine (HW.out _ _ w5 H8.out H75.out).mono ?_); rintro x w6 ⟨A9, c9, A10, c10, rfl, h9, h10, hb⟩; have HB6 := zq (below_trans HB5.out hb); have HX6 := zq (HX5.out.below hb); have HY6 := zq (HY5.out.below hb); have HZ6 := zq (HZ5.out.below hb); have H9 := zq h9; have H10 := zq h10; clear h9 h10 hb; clear a0 a1 a2 b0 b1 b2; have a0 := HX6.out.cell (i := 0) rfl; have a1 := HX6.out.cell (i := 1) rfl; have a2 := HX6.out.cell (i := 2) rfl; have b0 := HY6.out.cell (i := 0) rfl; have b1 := HY6.out.cell (i := 1) rfl; have b2 := HY6.out.cell (i := 2) rfl; have r0 := HZ6.out.cell (i := 0) rfl; have r1 := HZ6.out.cell (i := 1) rfl; have r2 := HZ6.out.cell (i := 2) rfl; have rf := HZ6.out.frozen; have rs := HZ6.out.lt; have rn : ¬ (w.heap.size = w.heap.size + 1 + 1) := (by omega); have rm : ¬ (w.heap.size + 1 = w.heap.size + 1 + 1) := (by omega))))
   go_wp2
   refine bodyPost_ret (v := nuV (ng && decide (pq ≠ 0)) A9 c9 (lowP pq r).1 A10 c10 (lowP pq r).2) (by simp [results, Tryz.results124, go_sem, r0, r1, r2]) rfl ⟨A9, c9, A10, c10, rfl, H9.out.setR HZ6.out _ _ _ _ _, H10.out.setR HZ6.out _ _ _ _ _, below_box HB6.out (by omega) _ _ _⟩
  ·have hcb := cmpN_nge hc
   have HR : Hid (res = (ng2 && decide (q - p ≠ 0), lowP (q - p) r)) := by show _ = _; rw [HP.out, if_neg hs, if_neg hc]
   have hre := HR.out
   have HA := zq (fun W (x : Lt W A6 c6 q) (y : Lt W A5 c5 p) => lessL_c A6 A5 c6 c5 q p W x.rd y.rd (by omega) (by omega))
   have hla := len_le_of_le BT_gt (Nat.sub_le q p)
   have HW := zq (fun A8 c8 W (x : Lt W A8 c8 (q - p)) (y : Lt W A7 c7 r) => lowest_c ng2 A8 A7 c8 c7 (q - p) r W x y hr0 (by omega) (by omega))
   clear hla hl1 hl2 hl3 hr0 hs HP HR hc
   subst hre
   generalize q - p = pq at *
   go_upto_region 6 with fail
   go_region_held3 (fun w' => (w'.cell? ⟨w.heap.size, 0, none⟩ = some (.bool ng) ∧ w'.cell? ⟨w.heap.size, 1, none⟩ = some (.slice A (words BT n).length c) ∧ w'.cell? ⟨w.heap.size, 2, none⟩ = some (.slice A2 (words BT d).length c2)) ∧ (w'.cell? ⟨w.heap.size + 1, 0, none⟩ = some (.bool ng2) ∧ w'.cell? ⟨w.heap.size + 1, 1, none⟩ = some (.slice A3 (words BT m).length c3) ∧ w'.cell? ⟨w.heap.size + 1, 2, none⟩ = some (.slice A4 (words BT e).length c4)))
    ((refine ⟨⟨?_, ?_, ?_⟩, ?_, ?_, ?_⟩ <;> first | with_reducible assumption | go_simp))
    (first
     | ((go_at_call 164; (with_reducible refine (HA.out w4.drew (H64.out.drew) (H54.out.drew)).mono ?_); rintro x w5 ⟨A8, c8, rfl, h8, hb⟩; have HB5 := zq ((below_drewN HB4.out 1).trans (hb.mono HB4.out.size)); have HX5 := zq ((HX4.out.drew).below hb); have HY5 := zq ((HY4.out.drew).below hb); have HZ5 := zq ((HZ4.out.drew).below hb); have H75 := zq ((H74.out.drew).below hb); have H8 := zq h8; clear h8 hb; clear a0 a1 a2 b0 b1 b2; have a0 := HX5.out.cell (i := 0) rfl; have a1 := HX5.out.cell (i := 1) rfl; have a2 := HX5.out.cell (i := 2) rfl; have b0 := HY5.out.cell (i := 0) rfl; have b1 := HY5.out.cell (i := 1) rfl; have b2 := HY5.out.cell (i := 2) rfl))
     | ((go_at_call 160; (with_reducible refine (HW.out _ _ w5 H8.out H75.out).mono ?_); rintro x w6 ⟨A9, c9, A10, c10, rfl, h9, h10, hb⟩; have HB6 := zq (below_trans HB5.out hb); have HX6 := zq (HX5.out.below hb); have HY6 := zq (HY5.out.below hb); have HZ6 := zq (HZ5.out.below hb); have H9 := zq h9; have H10 := zq h10; clear h9 h10 hb; clear a0 a1 a2 b0 b1 b2; have a0 := HX6.out.cell (i := 0) rfl; have a1 := HX6.out.cell (i := 1) rfl; have a2 := HX6.out.cell (i := 2) rfl; have b0 := HY6.out.cell (i := 0) rfl; have b1 := HY6.out.cell (i := 1) rfl; have b2 := HY6.out.cell (i := 2) rfl; have r0 := HZ6.out.cell (i := 0) rfl; have r1 := HZ6.out.cell (i := 1) rfl; have r2 := HZ6.out.cell (i := 2) rfl; have rf := HZ6.out.frozen; have rs := HZ6.out.lt; have rn : ¬ (w.heap.size = w.heap.size + 1 + 1) := (by omega); have rm : ¬ (w.heap.size + 1 = w.heap.size + 1 + 1) := (by omega))))
   go_wp2
   refine bodyPost_ret (v := nuV (ng2 && decide (pq ≠ 0)) A9 c9 (lowP pq r).1 A10 c10 (lowP pq r).2) (by simp [results, Tryz.results124, go_sem, r0, r1, r2]) rfl ⟨A9, c9, A10, c10, rfl, H9.out.setR HZ6.out _ _ _ _ _, H10.out.setR HZ6.out _ _ _ _ _, below_box HB6.out (by omega) _ _ _⟩
end Go.Proofs.YtlcfgejaeecclaaGreatDoor
