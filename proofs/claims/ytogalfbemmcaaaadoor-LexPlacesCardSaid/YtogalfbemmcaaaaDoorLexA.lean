/- Tokens, part A: plain: kinds of bytes, runs, blanks, places. -/
import Derived.Test.YtogalfbemmcaaaaDoorNumK
namespace Go.Proofs.YtogalfbemmcaaaaDoor
open Go.RowKit

/-- A byte's kind: 1 a small letter, 2 a great one, 3 a digit, 0 another one. -/
def kdi (b : Int) : Int := if (97 ≤ b ∧ b ≤ 122) ∨ b = 95 then 1 else if 65 ≤ b ∧ b ≤ 90 then 2 else if 48 ≤ b ∧ b ≤ 57 then 3 else 0
def inB (b : Int) : Bool := decide (0 < kdi b)
def dgB (b : Int) : Bool := decide (kdi b = 3)
def smB (b : Int) : Bool := decide (kdi b = 1)
def grB (b : Int) : Bool := decide (kdi b = 2)
def nlB (b : Int) : Bool := !(b == 10)
/-- How many bytes from a place on are such. -/
def rn (p : Int → Bool) (s : List UInt8) (i : Nat) : Nat := ((s.drop i).takeWhile fun c => p c.toNat).length
theorem drop_at' (l : List UInt8) (k : Nat) (h : k < l.length) : l.drop k = l[k] :: l.drop (k + 1) := List.drop_eq_getElem_cons h
theorem rn_yes {p : Int → Bool} {s : List UInt8} {i : Nat} (h : i < s.length) (hp : p (bt s i) = true) : rn p s i = rn p s (i + 1) + 1 := by
  unfold rn
  rw [drop_at' s i h, List.takeWhile_cons, ← bt_eq s i h, if_pos hp]; rfl
theorem rn_no {p : Int → Bool} {s : List UInt8} {i : Nat} (h : i < s.length) (hp : p (bt s i) = false) : rn p s i = 0 := by
  unfold rn
  rw [drop_at' s i h, List.takeWhile_cons, ← bt_eq s i h, if_neg (by rw [hp]; decide)]; rfl
theorem rn_end {p : Int → Bool} {s : List UInt8} {i : Nat} (h : s.length ≤ i) : rn p s i = 0 := by
  unfold rn; rw [List.drop_eq_nil_of_le h]; rfl
theorem rn_le {p : Int → Bool} {s : List UInt8} {i : Nat} (h : i ≤ s.length) : i + rn p s i ≤ s.length := by
  unfold rn
  have := (List.takeWhile_sublist (l := s.drop i) (p := fun c => p c.toNat)).length_le
  rw [List.length_drop] at this
  omega
theorem rn_in' {p : Int → Bool} {s : List UInt8} (k : Nat) : ∀ {i : Nat}, k < rn p s i → i + k < s.length ∧ p (bt s (i + k)) = true := by
  induction k with
  | zero =>
    intro i h
    by_cases hi : i < s.length
    · by_cases hq : p (bt s i) = true
      · exact ⟨hi, hq⟩
      · rw [rn_no hi (by simpa using hq)] at h; omega
    · rw [rn_end (by omega)] at h; omega
  | succ k ih =>
    intro i h
    by_cases hi : i < s.length
    · by_cases hq : p (bt s i) = true
      · rw [rn_yes hi hq] at h
        have := ih (i := i + 1) (by omega)
        rw [show i + (k + 1) = i + 1 + k by omega]; exact this
      · rw [rn_no hi (by simpa using hq)] at h; omega
    · rw [rn_end (by omega)] at h; omega
theorem rn_in {p : Int → Bool} {s : List UInt8} {i j : Nat} (h1 : i ≤ j) (h2 : j < i + rn p s i) : j < s.length ∧ p (bt s j) = true := by
  obtain ⟨k, rfl⟩ := Nat.exists_eq_add_of_le h1
  exact rn_in' k (by omega)
theorem rn_stop {p : Int → Bool} {s : List UInt8} {i : Nat} (h : i + rn p s i < s.length) : p (bt s (i + rn p s i)) = false := by
  generalize hn : rn p s i = n at *
  induction n generalizing i with
  | zero =>
    cases hq : p (bt s (i + 0))
    · rfl
    · rw [Nat.add_zero] at hq; rw [rn_yes (by omega) hq] at hn; omega
  | succ n ih =>
    cases hq : p (bt s i)
    · rw [rn_no (by omega) hq] at hn; omega
    · rw [rn_yes (by omega) hq] at hn
      have := ih (i := i + 1) (by omega) (by omega)
      rw [show i + (n + 1) = i + 1 + n by omega]; exact this

/-- Behind a byte: are we in a note? -/
def skG (b : Int) (note : Bool) : Bool := (note || b == 35) && !(b == 10)
def skP (b : Int) (note : Bool) : Bool := note || b == 32 || b == 9 || b == 13 || b == 10
/-- How many bytes stand between tokens. -/
def sk : Bool → List UInt8 → Nat
  | _, [] => 0
  | note, c :: t => if skP c.toNat (skG c.toNat note) then sk (skG c.toNat note) t + 1 else 0
def ski (note : Bool) (s : List UInt8) (i : Nat) : Nat := sk note (s.drop i)
theorem ski_end {s : List UInt8} {i : Nat} (h : s.length ≤ i) (note : Bool) : ski note s i = 0 := by
  unfold ski; rw [List.drop_eq_nil_of_le h]; rfl
theorem ski_at {s : List UInt8} {i : Nat} (h : i < s.length) (note : Bool) : ski note s i = if skP (bt s i) (skG (bt s i) note) then ski (skG (bt s i) note) s (i + 1) + 1 else 0 := by
  unfold ski
  rw [drop_at' s i h, sk, ← bt_eq s i h]
theorem ski_le {s : List UInt8} {i : Nat} (note : Bool) (h : i ≤ s.length) : i + ski note s i ≤ s.length := by
  have : ∀ (l : List UInt8) (note : Bool), sk note l ≤ l.length := by
    intro l
    induction l with
    | nil => intro note; simp [sk]
    | cons c t ih =>
      intro note
      rw [sk]
      split
      · have := ih (skG c.toNat note); simp; omega
      · simp
  have := this (s.drop i) note
  rw [List.length_drop] at this
  unfold ski; omega
/-- A note goes on to the line's end. -/
theorem ski_note {s : List UInt8} {i : Nat} (h : i ≤ s.length) : ski true s i = rn nlB s i + ski false s (i + rn nlB s i) := by
  generalize hn : rn nlB s i = n
  induction n generalizing i with
  | zero =>
    rw [Nat.add_zero, Nat.zero_add]
    by_cases hi : i < s.length
    · rw [ski_at hi, ski_at hi]
      cases hq : nlB (bt s i)
      · have : bt s i = 10 := by simpa [nlB] using hq
        rw [this]; rfl
      · rw [rn_yes hi hq] at hn; omega
    · rw [ski_end (by omega), ski_end (by omega)]
  | succ n ih =>
    have hi : i < s.length := by
      by_cases hi : i < s.length
      · exact hi
      · rw [rn_end (by omega)] at hn; omega
    cases hq : nlB (bt s i)
    · rw [rn_no hi hq] at hn; omega
    · rw [rn_yes hi hq] at hn
      have hne : (bt s i == 10) = false := by simpa [nlB] using hq
      rw [ski_at hi]
      simp only [skG, skP, hne, Bool.true_or, Bool.not_false, Bool.and_true, if_true]
      rw [ih (i := i + 1) (by omega) (by omega), show i + (n + 1) = i + 1 + n by omega]
      omega
theorem ski_hash {s : List UInt8} {i : Nat} (h : i < s.length) (hb : bt s i = 35) : ski false s i = rn nlB s i + ski false s (i + rn nlB s i) := by
  rw [← ski_note (by omega), ski_at h, ski_at h, hb]; rfl
theorem ski_blank {s : List UInt8} {i : Nat} (h : i < s.length) (hb : bt s i = 10 ∨ bt s i = 32 ∨ bt s i = 9 ∨ bt s i = 13) : ski false s i = ski false s (i + 1) + 1 := by
  rw [ski_at h]
  rcases hb with hb | hb | hb | hb <;> rw [hb] <;> rfl
theorem ski_none {s : List UInt8} {i : Nat} (h : i < s.length) (hb : bt s i ≠ 10 ∧ bt s i ≠ 32 ∧ bt s i ≠ 9 ∧ bt s i ≠ 13 ∧ bt s i ≠ 35) : ski false s i = 0 := by
  rw [ski_at h]
  obtain ⟨h1, h2, h3, h4, h5⟩ := hb
  simp [skG, skP, h1, h2, h3, h4, h5]

/-- A place, behind a byte. -/
def ad (p : Int × Int) (b : Int) : Int × Int := if b = 10 then (p.1 + 1, 1) else (p.1, p.2 + 1)
def adv (p : Int × Int) (l : List UInt8) : Int × Int := l.foldl (fun p c => ad p c.toNat) p
def sub (s : List UInt8) (i j : Nat) : List UInt8 := (s.take j).drop i
theorem sub_snoc (s : List UInt8) {i j : Nat} (hi : i ≤ j) (hj : j < s.length) : sub s i (j + 1) = sub s i j ++ [s[j]] := by
  unfold sub
  rw [List.take_succ_eq_append_getElem hj, List.drop_append_of_le_length (by rw [List.length_take]; omega)]
theorem sub_same (s : List UInt8) (i : Nat) : sub s i i = [] := by
  unfold sub; exact List.drop_eq_nil_of_le (by rw [List.length_take]; omega)
theorem sub_len (s : List UInt8) {i j : Nat} (hj : j ≤ s.length) : (sub s i j).length = j - i := by
  unfold sub; rw [List.length_drop, List.length_take]; omega
theorem sub_sub (s : List UInt8) {i j k : Nat} (h1 : i ≤ j) (h2 : j ≤ k) (h3 : k ≤ s.length) : sub s i k = sub s i j ++ sub s j k := by
  obtain ⟨m, rfl⟩ := Nat.exists_eq_add_of_le h2
  induction m with
  | zero => rw [Nat.add_zero, sub_same, List.append_nil]
  | succ m ih =>
    rw [show j + (m + 1) = (j + m) + 1 by omega, sub_snoc s (by omega) (by omega), sub_snoc s (i := j) (by omega) (by omega), ih (by omega) (by omega), List.append_assoc]
theorem adv_snoc (p : Int × Int) (s : List UInt8) {i j : Nat} (hi : i ≤ j) (hj : j < s.length) : adv p (sub s i (j + 1)) = ad (adv p (sub s i j)) (bt s j) := by
  rw [sub_snoc s hi hj, adv, List.foldl_append, ← adv, bt_eq s j hj]; rfl
theorem adv_app (p : Int × Int) (l m : List UInt8) : adv p (l ++ m) = adv (adv p l) m := by unfold adv; rw [List.foldl_append]
theorem adv_nil (p : Int × Int) : adv p [] = p := rfl
/-- Over bytes none of which is a line feed. -/
theorem adv_flat (p : Int × Int) (s : List UInt8) {i n : Nat} (hn : i + n ≤ s.length) (h : ∀ j, i ≤ j → j < i + n → bt s j ≠ 10) : adv p (sub s i (i + n)) = (p.1, p.2 + n) := by
  induction n with
  | zero => rw [Nat.add_zero, sub_same, adv_nil]; simp
  | succ n ih =>
    rw [show i + (n + 1) = (i + n) + 1 by omega, adv_snoc p s (by omega) (by omega), ih (by omega) (fun j h1 h2 => h j h1 (by omega)), ad, if_neg (h _ (by omega) (by omega))]
    simp; omega
theorem adv_bd (p : Int × Int) (l : List UInt8) (h1 : 0 ≤ p.1) (h2 : 0 ≤ p.2) : 0 ≤ (adv p l).1 ∧ (adv p l).1 ≤ p.1 + l.length ∧ 0 ≤ (adv p l).2 ∧ (adv p l).2 ≤ max p.2 1 + l.length := by
  induction l generalizing p with
  | nil => simp [adv]; omega
  | cons c t ih =>
    have hc : adv p (c :: t) = adv (ad p c.toNat) t := rfl
    have hb : 0 ≤ (ad p c.toNat).1 ∧ (ad p c.toNat).1 ≤ p.1 + 1 ∧ 0 ≤ (ad p c.toNat).2 ∧ max (ad p c.toNat).2 1 ≤ max p.2 1 + 1 := by
      unfold ad; split <;> simp <;> omega
    obtain ⟨i1, i2, i3, i4⟩ := ih (ad p c.toNat) hb.1 hb.2.2.1
    rw [hc]
    simp only [List.length_cons]
    refine ⟨i1, by omega, i3, by omega⟩
end Go.Proofs.YtogalfbemmcaaaaDoor
