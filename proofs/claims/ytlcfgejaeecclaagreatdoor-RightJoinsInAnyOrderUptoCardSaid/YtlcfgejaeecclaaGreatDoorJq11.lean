/- Plain facts about numbers as lists of words, the lowest one first: no program in sight. Plain facts about numbers as words, part 2: comparing, trimming, one digit of a quotient: no program in sight. Plain facts about numbers as words, part 3: shifts, long division: no program in sight. Package num: words in memory; trim. Package num: small, natOf, One, Cmp. -/
import Derived.Lib.Hide
import Derived.Test.YtlcfgejaeecclaaGreatDoorJq01
import Derived.Laws.BitsAllLaws
namespace Go.Proofs.YtlcfgejaeecclaaGreatDoor

/-- What a list of words of base B stands for. -/
def wval (B : Nat) : List Nat → Nat
  | [] => 0
  | a :: l => a + B * wval B l
/-- Each word is below the base. -/
def WLt (B : Nat) (l : List Nat) : Prop := ∀ x ∈ l, x < B
/-- Without the zeros at the end. -/
def wtrim : List Nat → List Nat
  | [] => []
  | a :: l => if wtrim l = [] ∧ a = 0 then [] else a :: wtrim l
/-- The words of a number. -/
def wordsF (B : Nat) : Nat → Nat → List Nat
  | 0, _ => []
  | f + 1, n => if n = 0 then [] else n % B :: wordsF B f (n / B)
def words (B n : Nat) : List Nat := wordsF B n n

theorem WLt.tail {B a : Nat} {l : List Nat} (h : WLt B (a :: l)) : WLt B l := fun x hx => h x (List.mem_cons_of_mem _ hx)
theorem WLt.head {B a : Nat} {l : List Nat} (h : WLt B (a :: l)) : a < B := h a List.mem_cons_self
theorem WLt.nil {B : Nat} : WLt B [] := fun _ hx => by cases hx
theorem WLt.cons {B a : Nat} {l : List Nat} (h : a < B) (hl : WLt B l) : WLt B (a :: l) := fun x hx => by
  rcases List.mem_cons.1 hx with rfl | hx
  · exact h
  · exact hl x hx
theorem wval_append (B : Nat) : ∀ l r : List Nat, wval B (l ++ r) = wval B l + B ^ l.length * wval B r
  | [], r => by simp [wval]
  | a :: l, r => by
    rw [List.cons_append, wval, wval, wval_append B l r, List.length_cons, Nat.pow_succ, Nat.mul_add, Nat.mul_comm (B ^ l.length) B, Nat.mul_assoc]
    omega
theorem wval_lt {B : Nat} : ∀ {l : List Nat}, WLt B l → wval B l < B ^ l.length
  | [], _ => by simp [wval]
  | a :: l, h => by
    have h1 := wval_lt h.tail
    have h2 := h.head
    rw [wval, List.length_cons, Nat.pow_succ, Nat.mul_comm]
    calc a + wval B l * B < B + wval B l * B := by omega
      _ = (wval B l + 1) * B := by rw [Nat.add_mul, Nat.one_mul, Nat.add_comm]
      _ ≤ B ^ l.length * B := Nat.mul_le_mul_right _ h1
theorem wval_trim (B : Nat) : ∀ l : List Nat, wval B (wtrim l) = wval B l
  | [] => rfl
  | a :: l => by
    rw [wtrim]
    split
    · next h =>
      have := wval_trim B l
      rw [h.1] at this
      have e : wval B l = 0 := this.symm
      show wval B [] = a + B * wval B l
      rw [h.2, e]; rfl
    · rw [wval, wval, wval_trim B l]
theorem wval_zero {B : Nat} : ∀ {l : List Nat}, WLt B l → wval B l = 0 → wtrim l = []
  | [], _, _ => rfl
  | a :: l, h, e => by
    have hB : 0 < B := Nat.lt_of_le_of_lt (Nat.zero_le _) h.head
    rw [wval] at e
    have h1 : a = 0 := by omega
    have h2 : B * wval B l = 0 := by omega
    have h3 : wval B l = 0 := by
      rcases Nat.mul_eq_zero.1 h2 with h | h
      · omega
      · exact h
    rw [wtrim, if_pos ⟨wval_zero h.tail h3, h1⟩]
theorem wtrim_eq {B : Nat} : ∀ {l r : List Nat}, WLt B l → WLt B r → wval B l = wval B r → wtrim l = wtrim r
  | [], r, _, hr, e => (wval_zero hr e.symm).symm
  | a :: l, [], hl, _, e => wval_zero hl e
  | a :: l, b :: r, hl, hr, e => by
    have h1 := hl.head
    have h2 := hr.head
    rw [wval, wval] at e
    have e1 : a = b := by
      have := congrArg (· % B) e
      simp only [Nat.add_mul_mod_self_left] at this
      rwa [Nat.mod_eq_of_lt h1, Nat.mod_eq_of_lt h2] at this
    have e2 : wval B l = wval B r := by
      have h3 : B * wval B l = B * wval B r := by omega
      exact Nat.eq_of_mul_eq_mul_left (by omega) h3
    rw [wtrim, wtrim, wtrim_eq hl.tail hr.tail e2, e1]
theorem wordsF_ok {B : Nat} (hB : 1 < B) : ∀ f n : Nat, n ≤ f → wval B (wordsF B f n) = n ∧ WLt B (wordsF B f n) ∧ wtrim (wordsF B f n) = wordsF B f n
  | 0, n, h => by
    obtain rfl : n = 0 := by omega
    exact ⟨rfl, WLt.nil, rfl⟩
  | f + 1, n, h => by
    rw [wordsF]
    split
    · next h0 => subst h0; exact ⟨rfl, WLt.nil, rfl⟩
    · next h0 =>
      have hlt : n / B < n := Nat.div_lt_self (by omega) hB
      obtain ⟨h1, h2, h3⟩ := wordsF_ok hB f (n / B) (by omega)
      refine ⟨?_, WLt.cons (Nat.mod_lt _ (by omega)) h2, ?_⟩
      · rw [wval, h1]; exact Nat.mod_add_div n B
      · rw [wtrim, if_neg, h3]
        rintro ⟨e1, e2⟩
        rw [h3] at e1
        have e3 : n / B = 0 := by rw [← h1, e1]; rfl
        have := Nat.mod_add_div n B
        rw [e2, e3] at this
        omega
theorem wval_words {B : Nat} (hB : 1 < B) (n : Nat) : wval B (words B n) = n := (wordsF_ok hB n n (Nat.le_refl _)).1
theorem words_lt {B : Nat} (hB : 1 < B) (n : Nat) : WLt B (words B n) := (wordsF_ok hB n n (Nat.le_refl _)).2.1
theorem words_trim {B : Nat} (hB : 1 < B) (n : Nat) : wtrim (words B n) = words B n := (wordsF_ok hB n n (Nat.le_refl _)).2.2
/-- What trim leaves are the words of what the list stands for. -/
theorem wtrim_words {B : Nat} (hB : 1 < B) {l : List Nat} (h : WLt B l) : wtrim l = words B (wval B l) := by
  rw [← words_trim hB (wval B l)]
  exact wtrim_eq h (words_lt hB _) (wval_words hB _).symm
theorem words_inj {B : Nat} (hB : 1 < B) {m n : Nat} (h : words B m = words B n) : m = n := by rw [← wval_words hB m, h, wval_words hB n]
theorem words_nil {B : Nat} (hB : 1 < B) {n : Nat} : words B n = [] ↔ n = 0 :=
  ⟨fun h => by rw [← wval_words hB n, h]; rfl, fun h => by subst h; rfl⟩
theorem words_len {B : Nat} (hB : 1 < B) (n : Nat) : n < B ^ (words B n).length := by
  have := wval_lt (words_lt hB n)
  rwa [wval_words hB] at this
/-- A digit of a quotient: the first guess is not below it. -/
theorem digit_le {B q u v top v1 n : Nat} (h : q * v ≤ u) (hv : v1 * B ^ n ≤ v) (hu : u < (top + 1) * B ^ n) (h1 : 0 < v1) : q ≤ top / v1 := by
  rw [Nat.le_div_iff_mul_le h1]
  have h2 : q * v1 * B ^ n < (top + 1) * B ^ n := by
    calc q * v1 * B ^ n = q * (v1 * B ^ n) := by rw [Nat.mul_assoc]
      _ ≤ q * v := Nat.mul_le_mul_left _ hv
      _ ≤ u := h
      _ < _ := hu
  have := Nat.lt_of_mul_lt_mul_right h2
  omega
theorem wval_one (B a : Nat) : wval B [a] = a := by simp [wval]
/-- One word more of a list. -/
theorem wval_take {B i : Nat} {l : List Nat} (hi : i < l.length) : wval B (l.take (i + 1)) = wval B (l.take i) + B ^ i * l[i] := by
  rw [List.take_succ_eq_append_getElem hi, wval_append, wval_one, List.length_take, Nat.min_eq_left (Nat.le_of_lt hi)]
theorem wval_drop {B i : Nat} {l : List Nat} (hi : i < l.length) : wval B (l.drop i) = l[i] + B * wval B (l.drop (i + 1)) := by
  rw [List.drop_eq_getElem_cons hi, wval]
theorem wval_split (B i : Nat) (l : List Nat) (hi : i ≤ l.length) : wval B l = wval B (l.take i) + B ^ i * wval B (l.drop i) := by
  have := wval_append B (l.take i) (l.drop i)
  rw [List.take_append_drop, List.length_take, Nat.min_eq_left hi] at this
  exact this
/-- A column of an addition: what stood so far, the sum of the column, its word and its carry. -/
theorem add_col {B i x y o c a b s : Nat} (h : o + B ^ i * c = x + y) (hs : s = c + a + b) : (o + B ^ i * (s % B)) + B ^ (i + 1) * (s / B) = (x + B ^ i * a) + (y + B ^ i * b) := by
  have h1 : B ^ i * (s % B) + B ^ (i + 1) * (s / B) = B ^ i * s := by
    rw [Nat.pow_succ, Nat.mul_assoc, ← Nat.mul_add, Nat.mod_add_div]
  have h2 : B ^ i * s = B ^ i * c + B ^ i * a + B ^ i * b := by rw [hs, Nat.mul_add, Nat.mul_add]
  omega
/-- The next part of a dividend is again less than the divisor times the base. -/
theorem next_lt {B r v x : Nat} (hr : r < v) (hx : x < B) : x + B * r < v * B := by
  calc x + B * r < B + B * r := by omega
    _ = (r + 1) * B := by rw [Nat.add_mul, Nat.one_mul, Nat.mul_comm B r, Nat.add_comm]
    _ ≤ v * B := Nat.mul_le_mul_right _ hr
theorem quot_lt {B u v : Nat} (h : u < v * B) : u / v < B := by
  have hv : 0 < v := by
    rcases Nat.eq_zero_or_pos v with e | e
    · subst e; simp at h
    · exact e
  exact (Nat.div_lt_iff_lt_mul hv).2 (by rw [Nat.mul_comm]; exact h)
/-- A quotient's digits, one after the other. -/
theorem div_next {B r v x : Nat} (hv : 0 < v) (q : Nat) : (x + B * (q * v + r)) / v = B * q + (x + B * r) / v ∧ (x + B * (q * v + r)) % v = (x + B * r) % v := by
  have e : x + B * (q * v + r) = x + B * r + v * (B * q) := by
    rw [Nat.mul_add, ← Nat.mul_assoc, Nat.mul_comm v]; omega
  rw [e, Nat.add_mul_div_left _ _ hv, Nat.add_mul_mod_self_left]
  exact ⟨by omega, rfl⟩
/-- A column of a subtraction, over the whole numbers (the carry is 0 or -1). -/
theorem sub_col {B i : Nat} {x y o c a b s : Int} (h : o + (B : Int) ^ i * c = x - y) (hs : s = c + a - b) :
    (o + (B : Int) ^ i * (s % (B : Int))) + (B : Int) ^ (i + 1) * (s / (B : Int)) = (x + (B : Int) ^ i * a) - (y + (B : Int) ^ i * b) := by
  have h1 : (B : Int) ^ i * (s % (B : Int)) + (B : Int) ^ (i + 1) * (s / (B : Int)) = (B : Int) ^ i * s := by
    rw [Int.pow_succ, Int.mul_assoc, ← Int.mul_add, Int.emod_add_mul_ediv]
  have h2 : (B : Int) ^ i * s = (B : Int) ^ i * c + (B : Int) ^ i * a - (B : Int) ^ i * b := by rw [hs, Int.mul_sub, Int.mul_add]
  omega
/-- Euclid's algorithm, as both packages run it, is the library's gcd. -/
theorem gcd_step {a b : Nat} : Nat.gcd a b = Nat.gcd b (a % b) := by
  rw [Nat.gcd_comm, Nat.gcd_rec, Nat.gcd_comm]
/-- What decimal digits stand for. -/
def decV (l : List UInt8) : Nat := l.foldl (fun n c => 10 * n + (c.toNat - 48)) 0
theorem decV_from (l : List UInt8) : ∀ n : Nat, l.foldl (fun n c => 10 * n + (c.toNat - 48)) n = n * 10 ^ l.length + decV l := by
  induction l with
  | nil => intro n; simp [decV]
  | cons c l ih =>
    intro n
    have e : decV (c :: l) = l.foldl (fun n c => 10 * n + (c.toNat - 48)) (10 * 0 + (c.toNat - 48)) := rfl
    rw [List.foldl_cons, ih, e, ih, List.length_cons, Nat.pow_succ, Nat.add_mul]
    have h1 : 10 * n * 10 ^ l.length = n * (10 ^ l.length * 10) := by
      rw [Nat.mul_comm 10 n, Nat.mul_assoc, Nat.mul_comm 10]
    rw [h1, Nat.mul_zero, Nat.zero_add]
    omega
theorem decV_append (l r : List UInt8) : decV (l ++ r) = decV l * 10 ^ r.length + decV r := by
  unfold decV
  rw [List.foldl_append]
  exact decV_from r _
/-- Digits in two parts: the front one stands for more (package num reads from the front, the reference from the end). -/
theorem decV_cut (l : List UInt8) (k : Nat) : decV l = decV (l.take k) * 10 ^ (l.length - k) + decV (l.drop k) := by
  have := decV_append (l.take k) (l.drop k)
  rw [List.take_append_drop, List.length_drop] at this
  exact this
theorem decV_lt {l : List UInt8} (h : ∀ c ∈ l, c.toNat - 48 < 10) : decV l < 10 ^ l.length := by
  induction l with
  | nil => simp [decV]
  | cons c l ih =>
    have e : decV (c :: l) = l.foldl (fun n c => 10 * n + (c.toNat - 48)) (10 * 0 + (c.toNat - 48)) := rfl
    have h1 := ih fun x hx => h x (List.mem_cons_of_mem _ hx)
    have h2 := h c List.mem_cons_self
    rw [e, decV_from, List.length_cons, Nat.pow_succ]
    calc (10 * 0 + (c.toNat - 48)) * 10 ^ l.length + decV l < (10 * 0 + (c.toNat - 48)) * 10 ^ l.length + 10 ^ l.length := by omega
      _ = (c.toNat - 48 + 1) * 10 ^ l.length := by rw [Nat.mul_zero, Nat.zero_add, Nat.add_mul, Nat.one_mul]
      _ ≤ 10 * 10 ^ l.length := Nat.mul_le_mul_right _ h2
      _ = 10 ^ l.length * 10 := Nat.mul_comm _ _
/-- A word times a scale, and a carry: one column of reading (natText). -/
theorem scale_col {B i m o c a s : Nat} (hs : s = c + m * a) : o + B ^ i * (s % B) + B ^ (i + 1) * (s / B) = o + B ^ i * c + B ^ i * (m * a) := by
  have h1 : B ^ i * (s % B) + B ^ (i + 1) * (s / B) = B ^ i * s := by
    rw [Nat.pow_succ, Nat.mul_assoc, ← Nat.mul_add, Nat.mod_add_div]
  have h2 : B ^ i * s = B ^ i * c + B ^ i * (m * a) := by rw [hs, Nat.mul_add]
  omega
end Go.Proofs.YtlcfgejaeecclaaGreatDoor

namespace Go.Proofs.YtlcfgejaeecclaaGreatDoor

theorem wtrim_zero : ∀ l : List Nat, wtrim (l ++ [0]) = wtrim l
  | [] => by simp [wtrim]
  | a :: l => by rw [List.cons_append, wtrim, wtrim, wtrim_zero l]
theorem wtrim_ne {a : Nat} (h : a ≠ 0) : ∀ l : List Nat, wtrim (l ++ [a]) = l ++ [a]
  | [] => by simp [wtrim, h]
  | b :: l => by
    rw [List.cons_append, wtrim, wtrim_ne h l, if_neg]
    rintro ⟨e, _⟩
    simp at e
theorem wtrim_take_zero {L : List Nat} {k : Nat} (hk : k < L.length) (h : L[k] = 0) : wtrim (L.take (k + 1)) = wtrim (L.take k) := by
  rw [List.take_succ_eq_append_getElem hk, h, wtrim_zero]
theorem wtrim_take_ne {L : List Nat} {k : Nat} (hk : k < L.length) (h : L[k] ≠ 0) : wtrim (L.take (k + 1)) = L.take (k + 1) := by
  rw [List.take_succ_eq_append_getElem hk, wtrim_ne h]
theorem wtrim_len (L : List Nat) : (wtrim L).length ≤ L.length := by
  induction L with
  | nil => simp [wtrim]
  | cons a l ih =>
    rw [wtrim]
    split <;> simp <;> omega
/-- A trimmed list is a first part of the list. -/
theorem wtrim_prefix : ∀ L : List Nat, wtrim L = L.take (wtrim L).length
  | [] => by simp [wtrim]
  | a :: l => by
    rw [wtrim]
    split
    · simp
    · rw [List.length_cons, List.take_succ_cons, ← wtrim_prefix l]
/-- A trimmed list does not end in 0. -/
theorem wtrim_last : ∀ {L : List Nat}, wtrim L = L → ∀ (h : L ≠ []), L.getLast h ≠ 0
  | [], _, h => absurd rfl h
  | [a], e, _ => by
    intro h0
    have h1 : a = 0 := by simpa using h0
    subst h1
    simp [wtrim] at e
  | a :: b :: l, e, _ => by
    rw [wtrim] at e
    split at e
    · cases e
    · injection e with _ e
      rw [List.getLast_cons (by simp)]
      exact wtrim_last e (by simp)

section
variable {B : Nat}
theorem words_last (hB : 1 < B) {n : Nat} (h : 0 < (words B n).length) : (words B n)[(words B n).length - 1] ≠ 0 := by
  have h0 : words B n ≠ [] := fun e => by rw [e] at h; simp at h
  have := wtrim_last (words_trim hB n) h0
  rwa [List.getLast_eq_getElem] at this
theorem wval_ge {l : List Nat} (h : 0 < l.length) (h0 : l[l.length - 1] ≠ 0) : B ^ (l.length - 1) ≤ wval B l := by
  have e : l.length - 1 < l.length := by omega
  have h1 := wval_take (B := B) e
  rw [show l.length - 1 + 1 = l.length by omega, List.take_length] at h1
  rw [h1]
  have : 1 ≤ l[l.length - 1] := by omega
  have h2 := Nat.mul_le_mul_left (B ^ (l.length - 1)) this
  omega
/-- Fewer words: less. -/
theorem lt_of_len (hB : 1 < B) {a b : Nat} (h : (words B a).length < (words B b).length) : a < b := by
  have h1 := words_len hB a
  have h2 := wval_ge (B := B) (l := words B b) (by omega) (words_last hB (by omega))
  rw [wval_words hB] at h2
  have h3 : B ^ (words B a).length ≤ B ^ ((words B b).length - 1) := Nat.pow_le_pow_right (by omega) (by omega)
  omega
theorem len_le_of_lt (hB : 1 < B) {a k : Nat} (h : a < B ^ k) : (words B a).length ≤ k := by
  rcases Nat.lt_or_ge k (words B a).length with h1 | h1
  · have h2 := wval_ge (B := B) (l := words B a) (by omega) (words_last hB (by omega))
    rw [wval_words hB] at h2
    have h3 : B ^ k ≤ B ^ ((words B a).length - 1) := Nat.pow_le_pow_right (by omega) (by omega)
    omega
  · exact h1
theorem len_le_of_le (hB : 1 < B) {a b : Nat} (h : a ≤ b) : (words B a).length ≤ (words B b).length :=
  len_le_of_lt hB (Nat.lt_of_le_of_lt h (words_len hB b))
/-- The first word that differs, from the top, decides. -/
theorem wval_lt_of {l r : List Nat} (hl : WLt B l) (e : l.length = r.length) {i : Nat} (hi : i < l.length) (hi' : i < r.length)
    (hd : l.drop (i + 1) = r.drop (i + 1)) (h : l[i] < r[i]) : wval B l < wval B r := by
  have h1 := wval_split B i l (by omega)
  have h2 := wval_split B i r (by omega)
  rw [wval_drop hi] at h1
  rw [wval_drop hi', ← hd] at h2
  have h3 : wval B (l.take i) < B ^ (l.take i).length := wval_lt fun x hx => hl x (List.mem_of_mem_take hx)
  rw [List.length_take, Nat.min_eq_left (by omega)] at h3
  have h4 : B ^ i * (l[i] + 1) ≤ B ^ i * r[i] := Nat.mul_le_mul_left _ h
  rw [h1, h2, Nat.mul_add, Nat.mul_add]
  rw [Nat.mul_add, Nat.mul_one] at h4
  omega
end
/-- How two numbers compare. -/
def cmpN (a b : Nat) : Int := if a < b then -1 else if a = b then 0 else 1
theorem cmpN_lt {a b : Nat} (h : a < b) : cmpN a b = -1 := by rw [cmpN, if_pos h]
theorem cmpN_gt {a b : Nat} (h : b < a) : cmpN a b = 1 := by rw [cmpN, if_neg (by omega), if_neg (by omega)]
theorem cmpN_eq {a b : Nat} (h : a = b) : cmpN a b = 0 := by rw [cmpN, if_neg (by omega), if_pos h]
/-- One word of u - q * v: what has been taken so far stands for U - q V, but for what is still to be carried. -/
theorem step_col {B i : Nat} {W U V q u v w c lo hi b b' : Int} (h : W = U - q * V + (B : Int) ^ i * (c + b)) (hC : c + q * v = lo + B * hi) (hw : w = u - lo - b + B * b') :
    W + (B : Int) ^ i * w = (U + (B : Int) ^ i * u) - q * (V + (B : Int) ^ i * v) + (B : Int) ^ (i + 1) * (hi + b') := by
  have h1 : (B : Int) ^ i * w = (B : Int) ^ i * u - (B : Int) ^ i * lo - (B : Int) ^ i * b + (B : Int) ^ i * (B * b') := by
    rw [hw, Int.mul_add, Int.mul_sub, Int.mul_sub]
  have h2 : (B : Int) ^ i * (c + b) = (B : Int) ^ i * c + (B : Int) ^ i * b := Int.mul_add ..
  have h3 : q * (V + (B : Int) ^ i * v) = q * V + (B : Int) ^ i * (q * v) := by
    rw [Int.mul_add, Int.mul_left_comm]
  have h4 : (B : Int) ^ (i + 1) * (hi + b') = (B : Int) ^ i * (B * hi) + (B : Int) ^ i * (B * b') := by
    rw [Int.pow_succ, Int.mul_assoc, Int.mul_add, Int.mul_add]
  have h5 : (B : Int) ^ i * c + (B : Int) ^ i * (q * v) = (B : Int) ^ i * lo + (B : Int) ^ i * (B * hi) := by
    rw [← Int.mul_add, ← Int.mul_add, hC]
  omega
end Go.Proofs.YtlcfgejaeecclaaGreatDoor

namespace Go.Proofs.YtlcfgejaeecclaaGreatDoor

/-- Setting one word of a list. -/
theorem wval_set (B : Nat) : ∀ (l : List Nat) (i : Nat) (x : Nat) (h : i < l.length), wval B (l.set i x) + B ^ i * l[i] = wval B l + B ^ i * x
  | [], i, x, h => absurd h (by simp)
  | a :: l, 0, x, _ => by simp [wval]; omega
  | a :: l, i + 1, x, h => by
    have ih := wval_set B l i x (by simpa using h)
    have e1 : B ^ (i + 1) * l[i]'(by simpa using h) = B * (B ^ i * l[i]'(by simpa using h)) := by rw [Nat.pow_succ, Nat.mul_comm (B ^ i) B, Nat.mul_assoc]
    have e2 : B ^ (i + 1) * x = B * (B ^ i * x) := by rw [Nat.pow_succ, Nat.mul_comm (B ^ i) B, Nat.mul_assoc]
    rw [List.set_cons_succ, wval, wval, List.getElem_cons_succ, e1, e2]
    have h2 := congrArg (B * ·) ih
    simp only [Nat.mul_add] at h2
    omega
theorem take_set_succ {α : Type} (l : List α) (k : Nat) (x : α) (h : k < l.length) : (l.set k x).take (k + 1) = l.take k ++ [x] := by
  rw [List.take_succ_eq_append_getElem (by simpa using h), List.take_set_of_le (Nat.le_refl k)]
  simp
theorem drop_set_pred {α : Type} (l : List α) (k : Nat) (x : α) (h : k < l.length) : (l.set k x).drop k = x :: l.drop (k + 1) := by
  rw [List.drop_eq_getElem_cons (by simpa using h), List.drop_set_of_lt (Nat.lt_succ_self k)]
  simp
theorem WLt.set {B : Nat} {l : List Nat} (h : WLt B l) {x : Nat} (hx : x < B) (i : Nat) : WLt B (l.set i x) := fun y hy => by
  rcases List.mem_or_eq_of_mem_set hy with h1 | h1
  · exact h y h1
  · rw [h1]; exact hx
theorem WLt.take {B : Nat} {l : List Nat} (h : WLt B l) (k : Nat) : WLt B (l.take k) := fun y hy => h y (List.mem_of_mem_take hy)
theorem WLt.drop {B : Nat} {l : List Nat} (h : WLt B l) (k : Nat) : WLt B (l.drop k) := fun y hy => h y (List.mem_of_mem_drop hy)
theorem WLt.append {B : Nat} {l r : List Nat} (h : WLt B l) (k : WLt B r) : WLt B (l ++ r) := fun y hy => by
  rcases List.mem_append.1 hy with h1 | h1
  · exact h y h1
  · exact k y h1
theorem WLt.get {B : Nat} {l : List Nat} (h : WLt B l) (i : Nat) (hi : i < l.length) : l[i] < B := h _ (List.getElem_mem hi)
theorem WLt.zeros {B : Nat} (hB : 0 < B) (n : Nat) : WLt B (List.replicate n 0) := fun y hy => by
  rw [List.eq_of_mem_replicate hy]; exact hB
theorem wval_zeros (B n : Nat) : wval B (List.replicate n 0) = 0 := by
  induction n with
  | zero => rfl
  | succ n ih => rw [List.replicate_succ, wval, ih]; simp
theorem wval_drop_zero {B : Nat} {l : List Nat} {k n : Nat} (h : wval B (l.drop k) < B ^ n) (hk : k + n ≤ l.length) : wval B (l.drop (k + n)) = 0 := by
  have e := wval_split B n (l.drop k) (by rw [List.length_drop]; omega)
  rw [List.drop_drop] at e
  rcases Nat.eq_zero_or_pos (wval B (l.drop (k + n))) with h0 | h0
  · exact h0
  · have : B ^ n * 1 ≤ B ^ n * wval B (l.drop (k + n)) := Nat.mul_le_mul_left _ h0
    omega
/-- A column of a shift to the right: what has been made so far. -/
theorem shr_col {B i s R T u0 x y r : Nat} (hB : 0 < B) (hs : 0 < s) (hd : s ∣ B) (hx : x < B) (h : s * R + u0 = T + B ^ i * (x % s)) (hr : r = (x + B * y) / s % B) :
    s * (R + B ^ i * r) + u0 = (T + B ^ i * x) + B ^ (i + 1) * (y % s) := by
  obtain ⟨m, rfl⟩ := hd
  have hm : 0 < m := by
    rcases Nat.eq_zero_or_pos m with e | e
    · subst e; simp at hB
    · exact e
  have e1 : (x + s * m * y) / s = x / s + m * y := by rw [Nat.mul_assoc, Nat.add_mul_div_left _ _ hs]
  have e2 : x / s < m := (Nat.div_lt_iff_lt_mul hs).2 (by rw [Nat.mul_comm]; exact hx)
  have e3 : m * y = m * (y % s) + s * m * (y / s) := by
    conv => lhs; rw [← Nat.mod_add_div y s]
    rw [Nat.mul_add, ← Nat.mul_assoc, Nat.mul_comm m s]
  have e4 : x / s + m * (y % s) < s * m := by
    have : m * (y % s) ≤ m * (s - 1) := Nat.mul_le_mul_left _ (by have := Nat.mod_lt y hs; omega)
    have h2 : m * (s - 1) + m = s * m := by
      rw [← Nat.mul_succ, Nat.mul_comm]; congr 1; omega
    omega
  have e5 : r = x / s + m * (y % s) := by
    rw [hr, e1, e3, ← Nat.add_assoc, Nat.add_mul_mod_self_left, Nat.mod_eq_of_lt e4]
  have e6 : s * r + x % s = x + s * m * (y % s) := by
    rw [e5, Nat.mul_add]
    have := Nat.mod_add_div x s
    rw [← Nat.mul_assoc]
    omega
  have h7 : s * (R + (s * m) ^ i * r) = s * R + (s * m) ^ i * (s * r) := by rw [Nat.mul_add, Nat.mul_left_comm]
  have h8 := congrArg ((s * m) ^ i * ·) e6
  simp only [Nat.mul_add] at h8
  have h9 : (s * m) ^ (i + 1) * (y % s) = (s * m) ^ i * (s * m * (y % s)) := by rw [Nat.pow_succ, Nat.mul_assoc]
  rw [h7, h9]
  omega
/-- A window of a list is replaced. -/
theorem wval_window {B : Nat} {l W : List Nat} {j n : Nat} (hl : j + n ≤ l.length) (hW : W.length = n) (h0 : wval B (l.drop (j + n)) = 0) :
    wval B ((l.take j ++ W ++ l.drop (j + n)).drop j) = wval B W := by
  have h1 : (l.take j).length = j := by rw [List.length_take]; omega
  rw [List.append_assoc, List.drop_append_of_le_length (by omega), List.drop_of_length_le (by omega), List.nil_append, wval_append, h0]
  simp
end Go.Proofs.YtlcfgejaeecclaaGreatDoor

namespace Go.Proofs.YtlcfgejaeecclaaGreatDoor
open Go.RowKit Dw

def B32 : Nat := 4294967296
theorem B32_gt : 1 < B32 := by decide
theorem B32_pos : 0 < B32 := by decide
theorem B32_eq : B32 = 4294967296 := rfl
def u32V : Nat → Value := fun n => Value.int .u32 (n : Int)
theorem u32V_eq (n : Nat) : u32V n = Value.int .u32 (n : Int) := rfl
abbrev Wds := Rd1 u32V
/-- A number in memory: its words. -/
structure Nt (w : World) (A : Option Addr) (c n : Nat) : Prop where
  rd : Wds w A (words B32 n)
  cap : (words B32 n).length ≤ c
abbrev ntV (A : Option Addr) (c n : Nat) : Value := .slice A (words B32 n).length c
theorem Nt.below {w w' : World} {A : Option Addr} {c n : Nat} (h : Nt w A c n) (hb : Below w.heap.size w w') : Nt w' A c n := ⟨h.rd.below hb, h.cap⟩
theorem Nt.drewN {w : World} {A : Option Addr} {c n : Nat} (h : Nt w A c n) (k : Nat) : Nt (w.drewN k) A c n := ⟨h.rd.drewN k, h.cap⟩
/-- A call that answers a number. -/
def GivesN (n : Nat) (w : World) (e : Ending) (w' : World) : Prop := ∃ A c, e = .returned (ntV A c n) ∧ Nt w' A c n ∧ Below w.heap.size w w'
/-- A call that answers v and draws. -/
def GivesD (v : Value) (w : World) (e : Ending) (w' : World) : Prop := e = .returned v ∧ ∃ n, w' = w.drewN n
theorem GivesD.mk {v v' : Value} {w w' : World} (h : v = v') (hw : ∃ n, w' = w.drewN n) : GivesD v' w (.returned v) w' := ⟨by rw [h], hw⟩

/-- A block of words. -/
def ArrU (w : World) (g : Nat) (L : List Nat) : Prop := w.heap[g]? = some (.cells (L.map u32V).toArray 156 (0, 0))
section
variable {w w' : World} {g : Nat} {L : List Nat}
theorem ArrU.lt (h : ArrU w g L) : g < w.heap.size := (Array.getElem?_eq_some_iff.1 h).1
theorem ArrU.cell (h : ArrU w g L) (i : Nat) (hi : i < L.length) : w.cell? ⟨g, i, none⟩ = some (.int .u32 ((L[i] : Nat) : Int)) := by
  rw [cell_of_row w g i _ _ _ h]; simp [hi, u32V]
theorem ArrU.frozen (h : ArrU w g L) (i : Nat) : w.frozen? ⟨g, i, none⟩ = false := frozen_of_row w g i _ _ h
theorem ArrU.set (h : ArrU w g L) (i x : Nat) : ArrU (w.setCell ⟨g, i, none⟩ (.int .u32 (x : Int))) g (L.set i x) := by
  have h1 : (w.setCell ⟨g, i, none⟩ (.int .u32 (x : Int))).heap[g]? = some (.cells ((L.map u32V).toArray.setIfInBounds i (.int .u32 (x : Int))) 156 (0, 0)) := by
    unfold ArrU at h
    simp [World.setCell, Array.getElem?_modify, h]
  unfold ArrU
  rw [h1, List.setIfInBounds_toArray, List.map_set]
  rfl
theorem ArrU.rd (h : ArrU w g L) (k : Nat) : Wds w (some ⟨g, 0, none⟩) (L.take k) := fun _ => ⟨g, 0, rfl, fun i hi => by
  have hi' : i < L.length := by rw [List.length_take] at hi; omega
  rw [Nat.zero_add, h.cell i hi', List.getElem_take]; rfl⟩
theorem ArrU.drewN (h : ArrU w g L) (n : Nat) : ArrU (w.drewN n) g L := h
theorem ArrU.alloc (h : ArrU w g L) (o : Obj) : ArrU (w.alloc o) g L := (Below.heap_alloc w o g h.lt).trans h
theorem ArrU.below (h : ArrU w g L) (hb : Below w.heap.size w w') : ArrU w' g L := (hb.block g h.lt).trans h
theorem ArrU.far (h : ArrU w g L) {p : Addr} (hp : g ≠ p.block) (u : Value) : ArrU (w.setCell p u) g L := (Below.heap_setCell w p u g hp).trans h
theorem ArrU.new (w : World) (n : Nat) : ArrU (w.alloc (.cells (Array.replicate n (.int .u32 0)) 156)) w.heap.size (List.replicate n 0) := by
  unfold ArrU
  rw [heap_alloc_new]
  congr 2
  apply Array.toList_inj.1
  simp [u32V]
end
theorem run_makeN1 {P : Program} (t e : TypeId) {z : Value} {bytes : Nat} (hT : ElemT P t e z 1 bytes) (n : Nat) (hb : bytes * n ≤ 281474976710656) (h63 : n ≤ 9223372036854775807) (hz : z.cells = #[z]) (w : World) :
    (Instr.makeSlice t (.int .i64 (n : Int)) (.int .i64 (n : Int))).run P w = .ok (.slice (some ⟨w.heap.size, 0, none⟩) n n) (w.alloc (.cells (Array.replicate n z) e)) := by
  obtain ⟨i, hi, hz0, hz1, hz2⟩ := info_parts hT.info
  have hb' : (i.bytes : Int) * (n : Int) ≤ 281474976710656 := by
    rw [hz2]
    have h : ((bytes * n : Nat) : Int) ≤ 281474976710656 := by omega
    rwa [Int.natCast_mul] at h
  have hr := run_make (P := P) w t e i z hT.ty hi hz0 .i64 .i64 n n (by omega) (by omega) hb' (by omega)
  simp only [Int.toNat_natCast] at hr
  rw [hz1, hz, Nat.mul_one] at hr
  have e1 : madeCells #[z] n = Array.replicate n z := by
    apply Array.toList_inj.1
    rw [toList_madeCells_one, Array.toList_replicate]
  rw [e1] at hr
  exact hr
theorem elNat : ElemT Tryz.prog 171 156 (.int .u32 0) 1 4 := ⟨Tryz.underlying171, by kernel_rfl, rfl, by decide⟩
theorem mk_nat (n : Nat) (h : n ≤ 1000000) (w : World) : (Instr.makeSlice 171 (.int .i64 (n : Int)) (.int .i64 (n : Int))).run Tryz.prog w = .ok (.slice (some ⟨w.heap.size, 0, none⟩) n n) (w.alloc (.cells (Array.replicate n (.int .u32 0)) 156)) :=
  run_makeN1 _ _ elNat n (by omega) (by omega) rfl w

def TrimRel (w : World) (A : Option Addr) (c : Nat) (L : List Nat) (m : Nat) (a : Value) (wr : World) : Prop :=
  wr = w ∧ ∃ k : Nat, k = m ∧ k ≤ L.length ∧ a = .slice A k c ∧ wtrim (L.take k) = wtrim L
set_option maxHeartbeats 400000 in
theorem trim_c (A : Option Addr) (c : Nat) (L : List Nat) (w : World) (hn : L.length ≤ 1000000) (hc : L.length ≤ c) (h : Wds w A L) :
    Calls Tryz.prog 199 #[.slice A L.length c] w (Gives (.slice A (wtrim L).length c) w) := by
  go_enter Tryz.func199, Tryz.ntmps199
  go_wp2
  go_loopg [0] L.length (TrimRel w A c L)
  case atStart => exact ⟨rfl, L.length, rfl, Nat.le_refl _, rfl, by rw [List.take_length]⟩
  case round =>
    obtain ⟨hw, k, hm, hk, rfl, ht⟩ := hrel
    subst hw
    have HM := Lib.hid hm
    have HT := Lib.hid ht
    clear hm ht
    rcases Nat.eq_zero_or_pos k with h0 | h0
    · subst h0
      go_wp2
      go_ret
      refine Gives.mk ?_ rfl
      rw [← HT.out]; rfl
    · obtain ⟨j, rfl⟩ : ∃ j, k = j + 1 := ⟨k - 1, by omega⟩
      obtain ⟨b, o, rfl, hb, hcl⟩ := h.at_ (by omega)
      have hj : j < L.length := by omega
      have hc0 := hcl j hj
      rw [u32V_eq] at hc0
      clear hcl
      by_cases hz : L[j] = 0
      · have HZ := Lib.hid hz
        rw [hz] at hc0
        clear hz
        go_wp2
        go_roundg (gk - 1)
        case measure => have := HM.out; omega
        case rel => exact ⟨rfl, j, by have := HM.out; omega, by omega, by simp, by rw [← HT.out, wtrim_take_zero hj HZ.out]⟩
      · have hzb : (((L[j] : Nat) : Int) == 0) = false := by simpa using hz
        have HZ := Lib.hid hz
        clear hz
        go_wp2
        go_ret
        refine Gives.mk ?_ rfl
        have e := HT.out
        rw [wtrim_take_ne hj HZ.out] at e
        have e2 := congrArg List.length e
        rw [List.length_take, Nat.min_eq_left hk] at e2
        rw [← e2]
        rfl

/-- What trim leaves is the number. -/
theorem trim_n (A : Option Addr) (c : Nat) (L : List Nat) (w w0 : World) (hn : L.length ≤ 1000000) (hc : L.length ≤ c) (h : Wds w A L) (hl : WLt B32 L) (hb : Below w0.heap.size w0 w) {n : Nat} (hv : wval B32 L = n) :
    Calls Tryz.prog 199 #[.slice A L.length c] w (GivesN n w0) := by
  have e : wtrim L = words B32 n := by rw [wtrim_words B32_gt hl, hv]
  refine (trim_c A c L w hn hc h).mono ?_
  rintro _ _ ⟨rfl, rfl⟩
  refine ⟨A, c, by rw [e], ⟨?_, ?_⟩, hb⟩
  · rw [← e]
    intro hp
    obtain ⟨b, o, rfl, hlt, hcl⟩ := h.at_ (by have := wtrim_len L; omega)
    refine ⟨b, o, rfl, fun i hi => ?_⟩
    have hi' : i < L.length := by have := wtrim_len L; omega
    rw [hcl i hi']
    have : (wtrim L)[i] = L[i] := by
      have h1 := wtrim_prefix L
      rw [List.getElem_of_eq h1 hi, List.getElem_take]
    rw [this]
  · rw [← e]; have := wtrim_len L; omega
end Go.Proofs.YtlcfgejaeecclaaGreatDoor

namespace Go.Proofs.YtlcfgejaeecclaaGreatDoor
open Go.RowKit Dw

theorem or_u64n (x y : Nat) (hx : x < 4294967296) : y * 4294967296 ||| x = x + 4294967296 * y := by
  have := Nat.two_pow_add_eq_or_of_lt (i := 32) (b := x) (by omega) y
  rw [Nat.mul_comm y, show (4294967296 : Nat) = 2 ^ 32 from rfl, ← this, Nat.add_comm]
theorem or_u64 (x y : Nat) (hx : x < 4294967296) (hy : y < 4294967296) : bits .or .u64 (x : Int) ((y : Int) * 4294967296) = (x : Int) + 4294967296 * (y : Int) := by
  have e : (y : Int) * 4294967296 = ((y * 4294967296 : Nat) : Int) := by rw [Int.natCast_mul]; rfl
  rw [e, u64_or_nat x (y * 4294967296) (by omega) (by omega), Nat.or_comm, or_u64n x y hx]
  omega
theorem or_u64' (x y : Nat) (hx : x < 4294967296) (hy : y < 4294967296) : bits .or .u64 ((y : Int) * 4294967296) (x : Int) = (x : Int) + 4294967296 * (y : Int) := by
  have e : (y : Int) * 4294967296 = ((y * 4294967296 : Nat) : Int) := by rw [Int.natCast_mul]; rfl
  rw [e, u64_or_nat (y * 4294967296) x (by omega) (by omega), or_u64n x y hx]
  omega
set_option maxHeartbeats 400000 in
theorem small_l (A : Option Addr) (c : Nat) (L : List Nat) (w : World) (h : Wds w A L) (hl : WLt B32 L) (hn : L.length ≤ 1000000) :
    Calls Tryz.prog 197 #[.slice A L.length c] w (GivesD (.tuple #[.int .u64 (if L.length ≤ 2 then ((wval B32 L : Nat) : Int) else 0), .bool (decide (L.length ≤ 2))]) w) := by
  match L, h, hl, hn with
  | [], _, _, _ =>
    go_enter Tryz.func197, Tryz.ntmps197
    go_wp2
    go_ret2
    exact GivesD.mk rfl ⟨0, rfl⟩
  | [x], h, hl, _ =>
    obtain ⟨b, o, rfl, hb, hcl⟩ := h.at_ (by simp)
    have hx := hl.head
    rw [B32_eq] at hx
    have hc0 := hcl 0 (by simp)
    rw [u32V_eq] at hc0
    simp only [List.getElem_cons_zero, Nat.add_zero] at hc0
    clear hcl
    go_enter Tryz.func197, Tryz.ntmps197
    go_wp2
    go_ret2
    exact GivesD.mk (by simp [wval]) ⟨0, rfl⟩
  | [x, y], h, hl, _ =>
    obtain ⟨b, o, rfl, hb, hcl⟩ := h.at_ (by simp)
    have hx := hl.head
    have hy := hl.tail.head
    rw [B32_eq] at hx hy
    have hc0 := hcl 0 (by simp)
    have hc1 := hcl 1 (by simp)
    rw [u32V_eq] at hc0 hc1
    simp only [List.getElem_cons_zero, List.getElem_cons_succ, Nat.add_zero] at hc0 hc1
    clear hcl
    go_enter Tryz.func197, Tryz.ntmps197
    go_wp2
    go_quiet (fail)
    go_wp2
    go_ret2
    refine GivesD.mk ?_ ⟨_, rfl⟩
    simp only [wval]
    simp [or_u64 x y hx hy, B32_eq]
  | x :: y :: z :: l, h, hl, hn =>
    have hk : (x :: y :: z :: l).length = l.length + 3 := rfl
    have e0 : ¬ l.length + 3 ≤ 2 := by omega
    rw [hk] at hn ⊢
    clear hk
    go_enter Tryz.func197, Tryz.ntmps197
    go_wp2
    go_ret2
    exact GivesD.mk rfl ⟨0, rfl⟩
/-- What small answers. -/
def smV (n : Nat) : Value := .tuple #[.int .u64 (if (words B32 n).length ≤ 2 then (n : Int) else 0), .bool (decide ((words B32 n).length ≤ 2))]
theorem small_c (A : Option Addr) (c n : Nat) (w : World) (h : Nt w A c n) (hn : (words B32 n).length ≤ 1000000) : Calls Tryz.prog 197 #[ntV A c n] w (GivesD (smV n) w) := by
  have := small_l A c (words B32 n) w h.rd (words_lt B32_gt n) hn
  rw [wval_words B32_gt] at this
  exact this
/-- The words of a number of 64 bits. -/
theorem wval2 (n : Nat) (h : n < 18446744073709551616) : wval B32 [n % 4294967296, n / 4294967296] = n ∧ WLt B32 [n % 4294967296, n / 4294967296] := by
  refine ⟨?_, WLt.cons ?_ (WLt.cons ?_ WLt.nil)⟩
  · simp [wval, B32_eq]; omega
  · rw [B32_eq]; omega
  · rw [B32_eq]; omega
theorem wds_new (w : World) (cs : Array Value) (L : List Nat) (h : cs.toList = L.map u32V) : Wds (w.alloc (.cells cs 156)) (some ⟨w.heap.size, 0, none⟩) L := by
  intro _
  refine ⟨w.heap.size, 0, rfl, fun i hi => ?_⟩
  rw [cell_of_row _ _ _ _ _ _ (heap_alloc_new w _), ← Array.getElem?_toList, h]
  simp [hi]
theorem GivesN.mono {n : Nat} {w w2 : World} {e : Ending} {w' : World} (h : GivesN n w2 e w') (hb : Below w.heap.size w w2) : GivesN n w e w' := by
  obtain ⟨A, c, he, hn, h2⟩ := h
  exact ⟨A, c, he, hn, hb.trans (h2.mono hb.size)⟩
theorem trim2 (n : Nat) (w : World) (h : n < 18446744073709551616) : Calls Tryz.prog 199 #[.slice (some ⟨w.heap.size, 0, none⟩) 2 2]
    (w.alloc (.cells #[.int .u32 ((n : Int) % 4294967296), .int .u32 ((n : Int) / 4294967296)] 156)) (GivesN n w) :=
  trim_n _ 2 [n % 4294967296, n / 4294967296] _ w (by simp) (by simp) (wds_new w _ _ (by simp [u32V])) (wval2 n h).2 ((Below.refl _ _).alloc (Nat.le_refl _) _) (wval2 n h).1
set_option maxHeartbeats 400000 in
theorem natOf_c (n : Nat) (w : World) (h : n < 18446744073709551616) : Calls Tryz.prog 179 #[.int .u64 (n : Int)] w (GivesN n w) := by
  go_enter Tryz.func179, Tryz.ntmps179
  go_wp2_with fail
  with_reducible refine (trim2 n w h).mono ?_
  rintro e w' ⟨A, c, rfl, hn, hb⟩
  go_wp2
  go_ret
  exact ⟨A, c, rfl, hn, hb⟩
theorem one_words : words B32 1 = [1] := by decide +kernel
theorem Nt.one (w : World) : Nt (w.alloc (.cells #[.int .u32 1] 156)) (some ⟨w.heap.size, 0, none⟩) 1 1 :=
  ⟨by rw [one_words]; exact wds_new w _ _ rfl, by rw [one_words]; decide⟩
set_option maxHeartbeats 400000 in
theorem One_c (w : World) : Calls Tryz.prog 149 #[] w (GivesN 1 w) := by
  go_enter Tryz.func149, Tryz.ntmps149
  go_wp2
  go_ret
  exact ⟨_, 1, by unfold ntV; rw [one_words]; rfl, Nt.one w, (Below.refl _ _).alloc (Nat.le_refl _) _⟩

def CmpRel (w : World) (l r : List Nat) (m : Nat) (i : Value) (wr : World) : Prop :=
  (∃ n, wr = w.drewN n) ∧ m ≤ l.length ∧ (∃ z : Int, z = (m : Int) - 1 ∧ i = .int .i64 z) ∧ l.drop m = r.drop m
set_option maxHeartbeats 400000 in
theorem Cmp_l (A A2 : Option Addr) (c c2 : Nat) (l r : List Nat) (w : World) (h : Wds w A l) (h2 : Wds w A2 r) (hl : WLt B32 l) (hr : WLt B32 r) (hn : l.length ≤ 1000000) (he : l.length = r.length) :
    Calls Tryz.prog 177 #[.slice A l.length c, .slice A2 l.length c2] w (GivesD (.int .i64 (cmpN (wval B32 l) (wval B32 r))) w) := by
  have HE := Lib.hid he
  clear he
  go_enter Tryz.func177, Tryz.ntmps177
  go_wp2
  go_loopg [5] l.length (CmpRel w l r)
  case atStart => exact ⟨⟨0, rfl⟩, Nat.le_refl _, ⟨_, rfl, rfl⟩, by rw [List.drop_of_length_le (Nat.le_refl _), List.drop_of_length_le (by rw [HE.out]; omega)]⟩
  case round =>
    obtain ⟨⟨nd, hw⟩, hk, ⟨z, hz, rfl⟩, hd⟩ := hrel
    subst hw
    have HD := Lib.hid hd
    clear hd
    rcases Nat.eq_zero_or_pos gk with h0 | h0
    · subst h0
      obtain rfl : z = -1 := hz
      go_wp2
      go_ret
      refine GivesD.mk ?_ ⟨_, rfl⟩
      have e : l = r := by simpa using HD.out
      rw [e, cmpN_eq rfl]
      rfl
    · obtain ⟨j, rfl⟩ : ∃ j, gk = j + 1 := ⟨gk - 1, by omega⟩
      obtain rfl : z = (j : Int) := by omega
      clear hz
      have hjr : j < r.length := by have := HE.out; omega
      obtain ⟨b, o, rfl, hb, hcl⟩ := h.at_ (by omega)
      obtain ⟨b2, o2, rfl, hb2, hcl2⟩ := h2.at_ (by omega)
      have hc0 := hcl j (by omega)
      have hc1 := hcl2 j hjr
      rw [u32V_eq] at hc0 hc1
      clear hcl hcl2
      have hx : l[j] < B32 := hl.get j (by omega)
      have hy : r[j] < B32 := hr.get j hjr
      by_cases hq : l[j] = r[j]
      · have hqb : (((l[j] : Nat) : Int) != ((r[j] : Nat) : Int)) = false := by simp [hq]
        have HQ := Lib.hid hq
        clear hq
        go_wp2
        go_quiet (fail)
        go_wp2
        go_roundg j
        case measure => omega
        case rel =>
          refine ⟨⟨_, rfl⟩, by omega, ⟨_, rfl, rfl⟩, ?_⟩
          rw [List.drop_eq_getElem_cons (by omega), List.drop_eq_getElem_cons hjr, HQ.out, HD.out]
      · have hqb : (((l[j] : Nat) : Int) != ((r[j] : Nat) : Int)) = true := by simp; omega
        by_cases hlt : l[j] < r[j]
        · have hltb : decide (l[j] < r[j]) = true := decide_eq_true hlt
          have HQ := Lib.hid hlt
          clear hq hlt
          go_wp2
          go_quiet (fail)
          go_wp2
          go_quiet (fail)
          go_wp2
          go_ret
          refine GivesD.mk ?_ (by rw [World.drewN_drewN, World.drewN_drewN]; exact ⟨_, rfl⟩)
          rw [cmpN_lt (wval_lt_of hl HE.out (by omega) hjr HD.out HQ.out)]
          rfl
        · have hltb : decide (l[j] < r[j]) = false := decide_eq_false hlt
          have HQ := Lib.hid (show r[j] < l[j] by omega)
          clear hq hlt
          go_wp2
          go_quiet (fail)
          go_wp2
          go_quiet (fail)
          go_wp2
          go_ret
          refine GivesD.mk ?_ (by rw [World.drewN_drewN, World.drewN_drewN]; exact ⟨_, rfl⟩)
          rw [cmpN_gt (wval_lt_of hr HE.out.symm hjr (by omega) HD.out.symm HQ.out)]
          rfl
set_option maxHeartbeats 400000 in
theorem Cmp_len (A A2 : Option Addr) (c c2 n m : Nat) (w : World) (hne : n ≠ m) :
    Calls Tryz.prog 177 #[.slice A n c, .slice A2 m c2] w (GivesD (.int .i64 (cmpN n m)) w) := by
  have hnb : ((n : Int) != (m : Int)) = true := by simp; omega
  rcases Nat.lt_or_ge n m with hlt | hge
  · have hltb : decide (n < m) = true := decide_eq_true hlt
    have hv : cmpN n m = -1 := cmpN_lt hlt
    rw [hv]
    have HV := Lib.hid hv
    clear hv
    go_enter Tryz.func177, Tryz.ntmps177
    go_wp2
    go_ret
    exact GivesD.mk rfl ⟨0, rfl⟩
  · have hltb : decide (n < m) = false := decide_eq_false (by omega)
    have hv : cmpN n m = 1 := cmpN_gt (by omega)
    rw [hv]
    have HV := Lib.hid hv
    clear hv
    go_enter Tryz.func177, Tryz.ntmps177
    go_wp2
    go_ret
    exact GivesD.mk rfl ⟨0, rfl⟩
theorem Cmp_c (A A2 : Option Addr) (c c2 a b : Nat) (w : World) (h : Nt w A c a) (h2 : Nt w A2 c2 b) (hn : (words B32 a).length ≤ 1000000) :
    Calls Tryz.prog 177 #[ntV A c a, ntV A2 c2 b] w (GivesD (.int .i64 (cmpN a b)) w) := by
  by_cases he : (words B32 a).length = (words B32 b).length
  · have := Cmp_l A A2 c c2 (words B32 a) (words B32 b) w h.rd h2.rd (words_lt B32_gt a) (words_lt B32_gt b) hn he
    rw [wval_words B32_gt, wval_words B32_gt] at this
    unfold ntV
    rw [← he]
    exact this
  · have := Cmp_len A A2 c c2 _ _ w he
    have e : cmpN (words B32 a).length (words B32 b).length = cmpN a b := by
      rcases Nat.lt_or_ge (words B32 a).length (words B32 b).length with h1 | h1
      · rw [cmpN_lt h1, cmpN_lt (lt_of_len B32_gt h1)]
      · rw [cmpN_gt (by omega), cmpN_gt (lt_of_len B32_gt (by omega))]
    rw [e] at this
    exact this
end Go.Proofs.YtlcfgejaeecclaaGreatDoor
