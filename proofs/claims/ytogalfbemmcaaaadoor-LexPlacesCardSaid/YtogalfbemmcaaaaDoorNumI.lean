/- Walks of numbers and their texts, part I: the reference's reading of numbers. -/
import Derived.Test.YtogalfbemmcaaaaDoorNumH
namespace Go.Proofs.YtogalfbemmcaaaaDoor
open Go.RowKit
attribute [local go_sem] B_mk B_size B_toList B_extract B_append B_get

/-! ### Digits: which numbers are greater -/
theorem vald_cons_gen (l : List UInt8) (a : Nat) : l.foldl (fun n (c : UInt8) => 10 * n + (c.toNat - 48)) a = a * 10 ^ l.length + vald l := by
  induction l generalizing a with
  | nil => simp [vald]
  | cons c l ih =>
    simp only [List.foldl_cons, vald, List.length_cons]
    rw [ih, ih (10 * 0 + (c.toNat - 48))]
    rw [Nat.pow_succ, Nat.add_mul, Nat.mul_zero, Nat.zero_add, Nat.add_assoc]
    congr 1
    rw [Nat.mul_comm 10 a, Nat.mul_assoc, Nat.mul_comm 10]
theorem vald_cons (c : UInt8) (l : List UInt8) : vald (c :: l) = (c.toNat - 48) * 10 ^ l.length + vald l := by
  show (c :: l).foldl _ 0 = _
  rw [List.foldl_cons, vald_cons_gen]; simp
theorem vald_lt (l : List UInt8) (h : l.all isDig = true) : vald l < 10 ^ l.length := by
  induction l with
  | nil => simp [vald]
  | cons c l ih =>
    simp only [List.all_cons, Bool.and_eq_true] at h
    have := ih h.2
    have hc : c.toNat - 48 ≤ 9 := by have := h.1; simp [isDig] at this; omega
    rw [vald_cons, List.length_cons, Nat.pow_succ]
    have : (c.toNat - 48) * 10 ^ l.length ≤ 9 * 10 ^ l.length := Nat.mul_le_mul_right _ hc
    omega
theorem less_iff (a b : List UInt8) (hl : a.length = b.length) (ha : a.all isDig = true) (hb : b.all isDig = true) : Op.bytesLess a b = true ↔ vald a < vald b := by
  induction a generalizing b with
  | nil =>
    cases b with
    | nil => simp [Op.bytesLess, vald]
    | cons _ _ => simp at hl
  | cons x a ih =>
    cases b with
    | nil => simp at hl
    | cons y b =>
      simp only [List.all_cons, Bool.and_eq_true] at ha hb
      simp only [List.length_cons, Nat.add_right_cancel_iff] at hl
      have hx : 48 ≤ x.toNat ∧ x.toNat ≤ 57 := by have := ha.1; simpa [isDig] using this
      have hy : 48 ≤ y.toNat ∧ y.toNat ≤ 57 := by have := hb.1; simpa [isDig] using this
      have ih' := ih b hl ha.2 hb.2
      have l1 := vald_lt a ha.2
      have l2 := vald_lt b hb.2
      rw [vald_cons, vald_cons, hl]
      rw [hl] at l1
      simp only [Op.bytesLess, Bool.or_eq_true, decide_eq_true_eq, Bool.and_eq_true, beq_iff_eq, ih', UInt8.lt_iff_toNat_lt]
      generalize 10 ^ b.length = P at *
      obtain ⟨p, hp⟩ : ∃ p, x.toNat = 48 + p := ⟨x.toNat - 48, by omega⟩
      obtain ⟨q, hq⟩ : ∃ q, y.toNat = 48 + q := ⟨y.toNat - 48, by omega⟩
      rw [← UInt8.toNat_inj, hp, hq, Nat.add_sub_cancel_left, Nat.add_sub_cancel_left]
      constructor
      · rintro (h | ⟨h, h'⟩)
        · have : (p + 1) * P ≤ q * P := Nat.mul_le_mul_right _ (by omega)
          rw [Nat.add_mul] at this; omega
        · have : p = q := by omega
          subst this; omega
      · intro h
        by_cases hpq : p < q
        · left; omega
        · right
          by_cases hqp : q < p
          · have : (q + 1) * P ≤ p * P := Nat.mul_le_mul_right _ (by omega)
            rw [Nat.add_mul] at this; omega
          · have : p = q := by omega
            subst this; exact ⟨rfl, by omega⟩
theorem vald_ge (l : List UInt8) (hne : l ≠ []) (h : l.all isDig = true) (h0 : l.head? ≠ some 48) : 10 ^ (l.length - 1) ≤ vald l := by
  cases l with
  | nil => exact absurd rfl hne
  | cons c l =>
    simp only [List.all_cons, Bool.and_eq_true] at h
    have hc : 48 ≤ c.toNat ∧ c.toNat ≤ 57 := by have := h.1; simpa [isDig] using this
    have hne : c.toNat ≠ 48 := fun e => h0 (by simp; exact UInt8.toNat_inj.1 (by simpa using e))
    rw [vald_cons, List.length_cons, Nat.add_sub_cancel]
    have : 1 * 10 ^ l.length ≤ (c.toNat - 48) * 10 ^ l.length := Nat.mul_le_mul_right _ (by omega)
    omega

def most7 : List UInt8 := [57, 50, 50, 51, 51, 55, 50, 48, 51, 54, 56, 53, 52, 55, 55, 53, 56, 48, 55]
def most8 : List UInt8 := [57, 50, 50, 51, 51, 55, 50, 48, 51, 54, 56, 53, 52, 55, 55, 53, 56, 48, 56]
theorem most7_v : vald most7 = 9223372036854775807 := by decide +kernel
theorem most8_v : vald most8 = 9223372036854775808 := by decide +kernel
/-- The digits are a number above the most. -/
def overM (m d : List UInt8) : Bool := decide (19 < d.length) || (decide (d.length = 19) && (!Op.bytesLess d m && !(d == m)))
theorem over_iff (m d : List UInt8) (hm : m.length = 19) (hmd : m.all isDig = true) (hv : 1000000000000000000 ≤ vald m) (hv2 : vald m < 10000000000000000000) (hne : d ≠ []) (h : d.all isDig = true) (h0 : d.head? ≠ some 48) : overM m d = true ↔ vald m < vald d := by
  have hge := vald_ge d hne h h0
  have hlt := vald_lt d h
  unfold overM
  by_cases h1 : 19 < d.length
  · have : 10 ^ 19 ≤ 10 ^ (d.length - 1) := Nat.pow_le_pow_right (by decide) (by omega)
    simp [h1]; omega
  · by_cases h2 : d.length = 19
    · have hl := less_iff d m (by omega) h hmd
      have hl2 := less_iff m d (by omega) hmd h
      have he : d = m ↔ vald d = vald m := by
        constructor
        · rintro rfl; rfl
        · intro hv
          have a1 : ¬ Op.bytesLess d m = true := by rw [hl]; omega
          have a2 : ¬ Op.bytesLess m d = true := by rw [hl2]; omega
          have tri : ∀ (a b : List UInt8), a.length = b.length → ¬ Op.bytesLess a b = true → ¬ Op.bytesLess b a = true → a = b := by
            intro a
            induction a with
            | nil => intro b hb _ _; cases b with | nil => rfl | cons _ _ => simp at hb
            | cons x a ih =>
              intro b hb c1 c2
              cases b with
              | nil => simp at hb
              | cons y b =>
                simp only [Op.bytesLess, Bool.or_eq_true, decide_eq_true_eq, Bool.and_eq_true, beq_iff_eq, not_or, UInt8.lt_iff_toNat_lt] at c1 c2
                have hxy : x = y := UInt8.toNat_inj.1 (by omega)
                subst hxy
                rw [ih b (by simpa using hb) (fun h => c1.2 ⟨rfl, h⟩) (fun h => c2.2 ⟨rfl, h⟩)]
          exact tri d m (by omega) a1 a2
      have e : (!Op.bytesLess d m && !(d == m)) = true ↔ vald m < vald d := by
        rw [Bool.and_eq_true, Bool.not_eq_true', Bool.not_eq_true']
        rw [← Bool.not_eq_true, hl, beq_eq_false_iff_ne, ne_eq, he]
        omega
      simp only [h2, decide_true, Bool.true_and]
      simpa using e
    · have : 10 ^ d.length ≤ 10 ^ 18 := Nat.pow_le_pow_right (by decide) (by omega)
      simp [h1, h2]; omega
end Go.Proofs.YtogalfbemmcaaaaDoor
