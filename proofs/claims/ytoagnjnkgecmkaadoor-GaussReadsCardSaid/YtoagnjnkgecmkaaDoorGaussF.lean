/- Whole numbers below 2^53 in absolute value are exact as double floats: reading, sums, products, signs, and back to integers. -/
import Derived.Test.YtoagnjnkgecmkaaDoorGaussA
import Derived.Laws.ComplexArith
namespace Go.Proofs.YtoagnjnkgecmkaaDoor.HF
open Ieee

/-- The datum stands for the whole number n. -/
def IsV (d : Datum) (n : Int) : Prop := ∃ (s : Bool) (m k : Nat), d = .number s m (-(k : Int)) ∧ signed s m 0 = n * 2 ^ k

theorem signed_eq (s : Bool) (m u : Nat) : signed s m u = (if s then -1 else 1) * (m : Int) * 2 ^ u := by
  unfold signed
  rw [Nat.shiftLeft_eq]
  cases s <;> simp [Int.natCast_mul, Int.natCast_pow, Int.neg_mul]

theorem signed_abs (s : Bool) (m : Nat) (n : Int) (k : Nat) (h : signed s m 0 = n * 2 ^ k) : m = n.natAbs * 2 ^ k := by
  have h1 : (signed s m 0).natAbs = m := by rw [signed_eq]; cases s <;> simp
  rw [h] at h1
  rw [← h1, Int.natAbs_mul, Int.natAbs_pow]
  rfl

theorem lp : double.leastPlace = -1074 := by rfl
theorem bin : double.binade = 4503599627370496 := by rfl
theorem infr : double.infRung = 9218868437227405312 := by rfl
theorem sw : double.signWeight = 9223372036854775808 := by rfl
theorem fb : double.fractionBits = 52 := by rfl

theorem cut_exact (neg : Bool) (q drop : Nat) : Toward.even.cut neg (q * 2 ^ drop) drop = q := by
  unfold Toward.cut
  by_cases hq : q = 0
  · subst hq; simp
  · have hl : drop ≤ (q * 2 ^ drop).log2 := by
      rw [Nat.le_log2 (by have := Nat.pow_pos (n := drop) (show 0 < 2 by decide); exact Nat.mul_ne_zero hq (by omega))]
      exact Nat.le_mul_of_pos_left _ (by omega)
    have hg : 1 <<< min drop ((q * 2 ^ drop).log2 + 2) = 2 ^ drop := by
      rw [Nat.shiftLeft_eq, Nat.min_eq_left (by omega)]; simp
    have hp : 0 < 2 ^ drop := Nat.pow_pos (by decide)
    simp only [hg]
    rw [Nat.mul_div_cancel _ hp, Nat.mul_mod_left]
    simp

theorem cut_zero (neg : Bool) (q drop : Nat) : Toward.zero.cut neg (q * 2 ^ drop) drop = q := by
  unfold Toward.cut
  by_cases hq : q = 0
  · subst hq; simp
  · have hl : drop ≤ (q * 2 ^ drop).log2 := by
      rw [Nat.le_log2 (by have := Nat.pow_pos (n := drop) (show 0 < 2 by decide); exact Nat.mul_ne_zero hq (by omega))]
      exact Nat.le_mul_of_pos_left _ (by omega)
    have hg : 1 <<< min drop ((q * 2 ^ drop).log2 + 2) = 2 ^ drop := by
      rw [Nat.shiftLeft_eq, Nat.min_eq_left (by omega)]; simp
    have hp : 0 < 2 ^ drop := Nat.pow_pos (by decide)
    simp only [hg]
    rw [Nat.mul_div_cancel _ hp]
    simp

theorem read_word_zero (s : Bool) : double.read (double.word s 0) = .number s 0 (-1074) := by
  cases s <;> decide +kernel

theorem read_word (s : Bool) (r : Nat) (h0 : double.binade ≤ r) (h1 : r < double.infRung) :
    double.read (double.word s r) = .number s (double.binade + r % double.binade) (double.leastPlace + (r / double.binade - 1 : Nat)) := by
  unfold Format.read Format.word
  rw [bin, infr, lp, sw] at *
  have hm : (if s then 9223372036854775808 + r else r) % 9223372036854775808 = r := by cases s <;> simp <;> omega
  have hd : ((if s then 9223372036854775808 + r else r) / 9223372036854775808 % 2 == 1) = s := by cases s <;> simp <;> omega
  simp only [hm, hd]
  rw [if_neg (by omega), if_pos h1]

theorem log2_mul (q k : Nat) (h : q ≠ 0) : (q * 2 ^ k).log2 = q.log2 + k := by
  have hp : 0 < 2 ^ k := Nat.pow_pos (by decide)
  have hne : q * 2 ^ k ≠ 0 := Nat.mul_ne_zero h (by omega)
  rw [Nat.log2_eq_iff hne]
  have h1 : 2 ^ q.log2 ≤ q := Nat.log2_self_le h
  have h2 : q < 2 ^ (q.log2 + 1) := Nat.lt_log2_self
  constructor
  · rw [Nat.pow_add]; exact Nat.mul_le_mul_right _ h1
  · rw [show q.log2 + k + 1 = (q.log2 + 1) + k by omega, Nat.pow_add (n := k)]; exact Nat.mul_lt_mul_of_pos_right h2 hp

theorem nearest_exact (s : Bool) (q k : Nat) (hq : q ≠ 0) (hb : q < 2 ^ 53) :
    double.nearest s (q * 2 ^ k) (-(k : Int)) = double.word s ((q.log2 + 1022) * 4503599627370496 + q * 2 ^ (52 - q.log2)) := by
  have hp : 0 < 2 ^ k := Nat.pow_pos (by decide)
  have hne : q * 2 ^ k ≠ 0 := Nat.mul_ne_zero hq (by omega)
  have hL : q.log2 ≤ 52 := by have := (Nat.log2_lt hq).2 hb; omega
  unfold Format.nearest
  rw [if_neg hne, log2_mul q k hq, lp, fb, bin, infr]
  have hlast : max (-(k : Int) + ((q.log2 + k : Nat) : Int) - ((52 : Nat) : Int)) (-1074) = (q.log2 : Int) - 52 := by omega
  simp only [hlast]
  have hk1 : ((q.log2 : Int) - 52 - -1074).toNat = q.log2 + 1022 := by omega
  rw [hk1]
  have hkept : Toward.even.cut s ((q * 2 ^ k) <<< (-(k : Int) - ((q.log2 : Int) - 52)).toNat) ((q.log2 : Int) - 52 - -(k : Int)).toNat = q * 2 ^ (52 - q.log2) := by
    by_cases hc : k ≤ 52 - q.log2
    · have e1 : (-(k : Int) - ((q.log2 : Int) - 52)).toNat = 52 - q.log2 - k := by omega
      have e2 : ((q.log2 : Int) - 52 - -(k : Int)).toNat = 0 := by omega
      rw [e1, e2, Nat.shiftLeft_eq, Nat.mul_assoc, ← Nat.pow_add, show k + (52 - q.log2 - k) = 52 - q.log2 by omega]
      have := cut_exact s (q * 2 ^ (52 - q.log2)) 0
      simpa using this
    · have e1 : (-(k : Int) - ((q.log2 : Int) - 52)).toNat = 0 := by omega
      have e2 : ((q.log2 : Int) - 52 - -(k : Int)).toNat = k - (52 - q.log2) := by omega
      rw [e1, e2, Nat.shiftLeft_eq]
      have e3 : q * 2 ^ k * 2 ^ 0 = (q * 2 ^ (52 - q.log2)) * 2 ^ (k - (52 - q.log2)) := by
        rw [Nat.mul_assoc, Nat.mul_assoc, ← Nat.pow_add, ← Nat.pow_add]; congr 2; omega
      rw [e3, cut_exact]
  rw [hkept]
  have hup : q * 2 ^ (52 - q.log2) < 2 ^ 53 := by
    have h2 : q < 2 ^ (q.log2 + 1) := Nat.lt_log2_self
    calc q * 2 ^ (52 - q.log2) < 2 ^ (q.log2 + 1) * 2 ^ (52 - q.log2) := Nat.mul_lt_mul_of_pos_right h2 (Nat.pow_pos (by decide))
      _ = 2 ^ 53 := by rw [← Nat.pow_add]; congr 1; omega
  rw [Nat.min_eq_left (by omega)]

theorem read_at (s : Bool) (K L : Nat) (hL : L ≤ 52) (h0 : 4503599627370496 ≤ K) (h1 : K < 9007199254740992) :
    double.read (double.word s ((L + 1022) * 4503599627370496 + K)) = .number s K (-((52 - L : Nat) : Int)) := by
  rw [read_word s _ (by rw [bin]; omega) (by rw [infr]; omega)]
  rw [bin, lp]
  have e1 : 4503599627370496 + ((L + 1022) * 4503599627370496 + K) % 4503599627370496 = K := by omega
  have e2 : ((L + 1022) * 4503599627370496 + K) / 4503599627370496 - 1 = L + 1022 := by omega
  have e3 : (-1074 : Int) + ((L + 1022 : Nat) : Int) = -((52 - L : Nat) : Int) := by omega
  rw [e1, e2, e3]

theorem read_nearest (s : Bool) (q k : Nat) (hq : q ≠ 0) (hb : q < 2 ^ 53) :
    double.read (double.nearest s (q * 2 ^ k) (-(k : Int))) = .number s (q * 2 ^ (52 - q.log2)) (-((52 - q.log2 : Nat) : Int)) := by
  have hL : q.log2 ≤ 52 := by have := (Nat.log2_lt hq).2 hb; omega
  have hup : q * 2 ^ (52 - q.log2) < 2 ^ 53 := by
    have h2 : q < 2 ^ (q.log2 + 1) := Nat.lt_log2_self
    calc q * 2 ^ (52 - q.log2) < 2 ^ (q.log2 + 1) * 2 ^ (52 - q.log2) := Nat.mul_lt_mul_of_pos_right h2 (Nat.pow_pos (by decide))
      _ = 2 ^ 53 := by rw [← Nat.pow_add]; congr 1; omega
  have hlo : 2 ^ 52 ≤ q * 2 ^ (52 - q.log2) := by
    have h1 : 2 ^ q.log2 ≤ q := Nat.log2_self_le hq
    calc 2 ^ 52 = 2 ^ q.log2 * 2 ^ (52 - q.log2) := by rw [← Nat.pow_add]; congr 1; omega
      _ ≤ _ := Nat.mul_le_mul_right _ h1
  rw [nearest_exact s q k hq hb]
  exact read_at s _ _ hL (by omega) (by omega)

/-- A datum that stands for a whole number below 2^53 is written without loss. -/
theorem write_read (d : Datum) (n : Int) (h : IsV d n) (hb : n.natAbs < 2 ^ 53) : IsV (double.read (double.write d)) n := by
  obtain ⟨s, m, k, rfl, he⟩ := h
  have hm := signed_abs s m n k he
  by_cases hn : n.natAbs = 0
  · have hn0 : n = 0 := by omega
    subst hn0
    simp at hm; subst hm
    have : double.write (.number s 0 (-(k : Int))) = double.word s 0 := by simp [Format.write, Format.nearest]
    rw [this, read_word_zero]
    refine ⟨s, 0, 1074, rfl, ?_⟩
    rw [signed_eq, Int.zero_mul]; cases s <;> rfl
  · have : double.write (.number s m (-(k : Int))) = double.nearest s (n.natAbs * 2 ^ k) (-(k : Int)) := by rw [hm]; rfl
    rw [this, read_nearest s _ k hn hb]
    refine ⟨s, _, _, rfl, ?_⟩
    rw [signed_eq] at he ⊢
    have hp : (2 : Int) ^ k ≠ 0 := by exact Int.ne_of_gt (Int.pow_pos (by decide))
    have hs : (if s then -1 else 1) * (n.natAbs : Int) = n := by
      rw [hm, Int.natCast_mul, Int.natCast_pow] at he
      refine Int.eq_of_mul_eq_mul_right hp ?_
      rw [← he, Int.pow_zero, Int.mul_one, Int.mul_assoc]
      rfl
    rw [Int.natCast_mul, Int.natCast_pow, Int.pow_zero, Int.mul_one, ← Int.mul_assoc, hs]
    rfl

theorem sum_isV (d e : Datum) (a b : Int) (ha : IsV d a) (hb : IsV e b) : ∃ c, d.sum e = some c ∧ IsV c (a + b) := by
  obtain ⟨s, m, i, rfl, h1⟩ := ha
  obtain ⟨t, n, j, rfl, h2⟩ := hb
  have hmin : min (-(i : Int)) (-(j : Int)) = -((max i j : Nat) : Int) := by omega
  have htot : signed s m (-(i : Int) - min (-(i : Int)) (-(j : Int))).toNat + signed t n (-(j : Int) - min (-(i : Int)) (-(j : Int))).toNat = (a + b) * 2 ^ (max i j) := by
    rw [hmin]
    have e1 : (-(i : Int) - -((max i j : Nat) : Int)).toNat = max i j - i := by omega
    have e2 : (-(j : Int) - -((max i j : Nat) : Int)).toNat = max i j - j := by omega
    rw [e1, e2, signed_eq, signed_eq]
    rw [signed_eq, Int.pow_zero, Int.mul_one] at h1 h2
    rw [h1, h2, Int.mul_assoc, Int.mul_assoc, ← Int.pow_add, ← Int.pow_add, Int.add_mul]
    congr 3 <;> omega
  unfold Datum.sum
  simp only [htot]
  refine ⟨_, rfl, ?_⟩
  rw [hmin]
  refine ⟨_, _, max i j, rfl, ?_⟩
  generalize (a + b) * 2 ^ (max i j) = T
  rw [signed_eq, Int.pow_zero, Int.mul_one]
  by_cases hT : T = 0
  · subst hT; simp
  · rw [if_neg hT]
    by_cases hl : T < 0
    · simp [hl]; omega
    · simp [hl]; omega

theorem product_isV (d e : Datum) (a b : Int) (ha : IsV d a) (hb : IsV e b) : ∃ c, d.product e = some c ∧ IsV c (a * b) := by
  obtain ⟨s, m, i, rfl, h1⟩ := ha
  obtain ⟨t, n, j, rfl, h2⟩ := hb
  refine ⟨_, rfl, ?_⟩
  refine ⟨s ^^ t, m * n, i + j, by congr 1; omega, ?_⟩
  rw [signed_eq, Int.pow_zero, Int.mul_one] at h1 h2 ⊢
  have : a * b * 2 ^ (i + j) = (a * 2 ^ i) * (b * 2 ^ j) := by
    rw [Int.pow_add]; ac_rfl
  rw [this, ← h1, ← h2]
  cases s <;> cases t <;> simp [Int.natCast_mul, Int.neg_mul, Int.mul_neg]

theorem opposite_isV (d : Datum) (a : Int) (ha : IsV d a) : IsV d.opposite (-a) := by
  obtain ⟨s, m, i, rfl, h1⟩ := ha
  refine ⟨!s, m, i, rfl, ?_⟩
  rw [signed_eq, Int.pow_zero, Int.mul_one] at h1 ⊢
  rw [Int.neg_mul, ← h1]
  cases s <;> simp

theorem toInt_isV (d : Datum) (a : Int) (ha : IsV d a) : d.toInt .zero = some a := by
  obtain ⟨s, m, i, rfl, h1⟩ := ha
  have hm := signed_abs s m a i h1
  have e1 : (-(i : Int)).toNat = 0 := by omega
  have e2 : (- -(i : Int)).toNat = i := by omega
  unfold Datum.toInt Datum.integral
  simp only [e1, e2]
  have hc : Toward.zero.cut s (m <<< 0) i = a.natAbs := by
    rw [Nat.shiftLeft_zero, hm, cut_zero]
  rw [hc]
  rw [signed_eq, Int.pow_zero, Int.mul_one] at h1 ⊢
  rw [hm, Int.natCast_mul, Int.natCast_pow, ← Int.mul_assoc] at h1
  have hp : (2 : Int) ^ i ≠ 0 := by exact Int.ne_of_gt (Int.pow_pos (by decide))
  exact congrArg some (Int.eq_of_mul_eq_mul_right hp h1)

/-- The word of a double is that of the whole number n. -/
structure W (x : Nat) (n : Int) : Prop where
  val : IsV (double.read x) n
  lt : x < 18446744073709551616

theorem w_write (d : Datum) (n : Int) (h : IsV d n) (hb : n.natAbs < 9007199254740992) : W (double.write d) n :=
  ⟨write_read d n h hb, by have := double.write_lt d; exact this⟩

theorem w_of (n : Int) (hb : n.natAbs < 9007199254740992) : W (floatOfInt .f64 n) n := by
  refine w_write _ n ⟨n < 0, n.natAbs, 0, rfl, ?_⟩ hb
  rw [signed_eq]
  by_cases h : n < 0 <;> simp [h] <;> omega

theorem w_add (x y : Nat) (a b : Int) (hx : W x a) (hy : W y b) (hb : (a + b).natAbs < 9007199254740992) :
    ∃ z, floatBits .add .f64 x y = some z ∧ W z (a + b) := by
  obtain ⟨c, hc, hv⟩ := sum_isV _ _ a b hx.val hy.val
  refine ⟨double.write c, ?_, w_write c _ hv hb⟩
  show (((double.read x).sum (double.read y)).map double.write) = _
  rw [hc]; rfl

theorem w_sub (x y : Nat) (a b : Int) (hx : W x a) (hy : W y b) (hb : (a - b).natAbs < 9007199254740992) :
    ∃ z, floatBits .sub .f64 x y = some z ∧ W z (a - b) := by
  obtain ⟨c, hc, hv⟩ := sum_isV _ _ a (-b) hx.val (opposite_isV _ _ hy.val)
  rw [← Int.sub_eq_add_neg] at hv
  refine ⟨double.write c, ?_, w_write c _ hv hb⟩
  show (((double.read x).sum (double.read y).opposite).map double.write) = _
  rw [hc]; rfl

theorem w_mul (x y : Nat) (a b : Int) (hx : W x a) (hy : W y b) (hb : (a * b).natAbs < 9007199254740992) :
    ∃ z, floatBits .mul .f64 x y = some z ∧ W z (a * b) := by
  obtain ⟨c, hc, hv⟩ := product_isV _ _ a b hx.val hy.val
  refine ⟨double.write c, ?_, w_write c _ hv hb⟩
  show (((double.read x).product (double.read y)).map double.write) = _
  rw [hc]; rfl

theorem xor_top (x : Nat) (h : x < 18446744073709551616) : x ^^^ 9223372036854775808 = if x < 9223372036854775808 then x + 9223372036854775808 else x - 9223372036854775808 := by
  have hxor : ∀ y, y < 2 ^ 63 → y ^^^ 2 ^ 63 = y + 2 ^ 63 := by
    intro y hy
    have h1 : y ^^^ 2 ^ 63 = y ||| 2 ^ 63 := by
      apply Nat.eq_of_testBit_eq
      intro i
      rw [Nat.testBit_xor, Nat.testBit_or, Nat.testBit_two_pow]
      by_cases hi : 63 = i
      · subst hi; rw [Nat.testBit_lt_two_pow hy]; simp
      · simp [hi]
    rw [h1, Nat.or_comm]
    have := Nat.two_pow_add_eq_or_of_lt hy 1
    rw [Nat.mul_one] at this
    omega
  by_cases hx : x < 9223372036854775808
  · rw [if_pos hx]; exact hxor x hx
  · rw [if_neg hx]
    have e : x = (x - 9223372036854775808) ^^^ 9223372036854775808 := by
      have := hxor (x - 9223372036854775808) (by omega)
      have h2 : (x - 9223372036854775808) ^^^ 9223372036854775808 = (x - 9223372036854775808) + 9223372036854775808 := this
      omega
    rw [e, Nat.xor_assoc, Nat.xor_self, Nat.xor_zero]
    omega

theorem read_neg (x : Nat) (h : x < 18446744073709551616) : double.read (Op.negFloat .f64 x) = (double.read x).opposite := by
  have e : Op.negFloat .f64 x = x ^^^ 9223372036854775808 := rfl
  rw [e, xor_top x h]
  unfold Format.read
  rw [sw, bin, infr, lp]
  by_cases hx : x < 9223372036854775808
  · rw [if_pos hx]
    have h1 : (x + 9223372036854775808) % 9223372036854775808 = x := by omega
    have h2 : x % 9223372036854775808 = x := by omega
    have h3 : ((x + 9223372036854775808) / 9223372036854775808 % 2 == 1) = true := by simp; omega
    have h4 : (x / 9223372036854775808 % 2 == 1) = false := by simp; omega
    simp only [h1, h2, h3, h4]
    repeat' split
    all_goals rfl
  · rw [if_neg hx]
    have h1 : (x - 9223372036854775808) % 9223372036854775808 = x - 9223372036854775808 := by omega
    have h2 : x % 9223372036854775808 = x - 9223372036854775808 := by omega
    have h3 : ((x - 9223372036854775808) / 9223372036854775808 % 2 == 1) = false := by simp; omega
    have h4 : (x / 9223372036854775808 % 2 == 1) = true := by simp; omega
    simp only [h1, h2, h3, h4]
    repeat' split
    all_goals rfl

theorem w_neg (x : Nat) (a : Int) (hx : W x a) : W (Op.negFloat .f64 x) (-a) := by
  refine ⟨by rw [read_neg x hx.lt]; exact opposite_isV _ _ hx.val, ?_⟩
  have e : Op.negFloat .f64 x = x ^^^ 9223372036854775808 := rfl
  have := hx.lt
  rw [e, xor_top x hx.lt]
  split <;> omega

theorem w_int (x : Nat) (a : Int) (hx : W x a) (h0 : -9223372036854775808 ≤ a) (h1 : a ≤ 9223372036854775807) : floatToIntVal .f64 x .i64 = some a := by
  unfold floatToIntVal
  have : (FloatKind.decode .f64 x).toInt .zero = some a := toInt_isV _ _ hx.val
  rw [this]
  simp only
  have h2 : IntKind.i64.min = -9223372036854775808 := by decide
  have h3 : IntKind.i64.max = 9223372036854775807 := by decide
  rw [if_pos ⟨by omega, by omega⟩]
end Go.Proofs.YtoagnjnkgecmkaaDoor.HF
