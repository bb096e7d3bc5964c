/- The gauss seat, part T: a number's text is read as the number: plain lists of bytes. -/
import Derived.Test.YtoagnjnkgecmkaaDoorGaussQ
namespace Go.Proofs.YtoagnjnkgecmkaaDoor
open Go.RowKit

theorem dg_dig (m : Nat) (h : m < 10) : isDig (dg m) = true ∧ (dg m).toNat = 48 + m := by
  have : (dg m).toNat = 48 + m := by simp [dg]; omega
  refine ⟨?_, this⟩
  simp [isDig, this]; omega
theorem dgo_spec (k : Nat) : ∀ (m : Nat) (t : List UInt8), 0 < k → m < 10 ^ k → ∃ d, dgo k m t = d ++ t ∧ d.all isDig = true ∧ vald d = m ∧ d ≠ [] ∧ (m ≠ 0 → d.head? ≠ some 48) ∧ (m = 0 → d = [48]) := by
  induction k with
  | zero => intro m t h; omega
  | succ k ih =>
    intro m t _ hm
    rw [dgo]
    by_cases h10 : m < 10
    · rw [if_pos h10]
      obtain ⟨h1, h2⟩ := dg_dig m h10
      refine ⟨[dg m], rfl, by simp [h1], ?_, by simp, fun h0 => ?_, fun h0 => by subst h0; rfl⟩
      · rw [vald_cons, h2]; simp [vald]
      · simp only [List.head?_cons, ne_eq, Option.some.injEq]
        intro e
        rw [e] at h2
        have : (48 : UInt8).toNat = 48 := rfl
        omega
    · rw [if_neg h10]
      have hk : 0 < k := by
        cases k with
        | zero => simp at hm; omega
        | succ k => omega
      obtain ⟨d, e1, e2, e3, e4, e5, e6⟩ := ih (m / 10) (dg (m % 10) :: t) hk (by rw [Nat.pow_succ] at hm; omega)
      obtain ⟨h1, h2⟩ := dg_dig (m % 10) (by omega)
      refine ⟨d ++ [dg (m % 10)], by rw [e1]; simp, by rw [List.all_append, e2]; simp [h1], ?_, by simp, fun _ => ?_, fun h0 => by omega⟩
      · rw [vald_snoc, e3, h2]; omega
      · have := e5 (by omega)
        cases d with
        | nil => exact absurd rfl e4
        | cons x d => simpa using this
theorem dec_spec (m : Nat) (h : m ≤ 9223372036854775808) : (dec m).all isDig = true ∧ vald (dec m) = m ∧ dec m ≠ [] ∧ (m ≠ 0 → (dec m).head? ≠ some 48) ∧ (m = 0 → dec m = [48]) := by
  obtain ⟨d, e1, e2, e3, e4, e5, e6⟩ := dgo_spec 20 m [] (by omega) (by omega)
  rw [List.append_nil] at e1
  unfold dec
  rw [e1]
  exact ⟨e2, e3, e4, e5, e6⟩
theorem pv_txt (n : Int) (h0 : -8388608 ≤ n) (h1 : n ≤ 8388607) : pv (txt n) = (n, 0) := by
  obtain ⟨d1, d2, d3, d4, d5⟩ := dec_spec n.natAbs (by omega)
  unfold txt
  by_cases hn : n < 0
  · rw [if_pos hn]
    have hd : ¬ (dec n.natAbs = [] ∨ (dec n.natAbs).head? = some 48) := by
      rintro (h | h)
      · exact d3 h
      · exact d4 (by omega) h
    simp only [pv, if_true, if_neg hd]
    unfold digV
    rw [if_pos d1, if_pos rfl, if_pos (by omega), d2]
    congr 1; omega
  · rw [if_neg hn]
    have hv : digV false (dec n.natAbs) = (n, 0) := by
      unfold digV
      rw [if_pos d1, if_neg (by decide), if_pos (by omega), d2]
      congr 1; omega
    generalize dec n.natAbs = d at *
    cases d with
    | nil => exact absurd rfl d3
    | cons c t =>
      have hc : isDig c = true := by simp only [List.all_cons, Bool.and_eq_true] at d1; exact d1.1
      have h45 : ¬ c = 45 := by intro e; subst e; revert hc; decide
      have h48 : ¬ (c = 48 ∧ t ≠ []) := by
        rintro ⟨rfl, ht⟩
        by_cases hz : n.natAbs = 0
        · have := d5 hz
          simp at this
          exact ht this
        · exact d4 hz rfl
      simp only [pv, if_neg h45, if_neg h48]
      exact hv

theorem digits_no_sign (d : List UInt8) (h : d.all isDig = true) (i : Nat) (hi : i < d.length) : 48 ≤ bt d i ∧ bt d i ≤ 57 := dig_bt h hi
theorem bt_app_l (x y : List UInt8) (i : Nat) (h : i < x.length) : bt (x ++ y) i = bt x i := by
  simp [bt, List.getElem?_append_left h]
theorem bt_app_r (x y : List UInt8) (i : Nat) : bt (x ++ y) (x.length + i) = bt y i := by
  simp [bt, List.getElem?_append_right]
theorem lsu_at (l : List UInt8) (j : Nat) (hs : bt l j = 43 ∨ bt l j = 45) : ∀ k, (∀ i, j < i → i < j + 1 + k → ¬ (bt l i = 43 ∨ bt l i = 45)) → lsu l (j + 1 + k) = j := by
  intro k
  induction k with
  | zero => intro _; rw [Nat.add_zero, lsu, if_pos hs]
  | succ k ih =>
    intro h
    rw [show j + 1 + (k + 1) = (j + 1 + k) + 1 by omega, lsu, if_neg (h (j + 1 + k) (by omega) (by omega))]
    exact ih (fun i h1 h2 => h i h1 (by omega))
theorem lastSign_mid (x : List UInt8) (c : UInt8) (d : List UInt8) (hc : c = 43 ∨ c = 45) (hd : d.all isDig = true) : lastSign (x ++ c :: d) = x.length := by
  have e : (x ++ c :: d).length = x.length + 1 + d.length := by simp; omega
  unfold lastSign
  rw [e]
  refine lsu_at _ _ ?_ _ (fun i h1 h2 => ?_)
  · have := bt_app_r x (c :: d) 0
    rw [Nat.add_zero] at this
    rw [this, bt_zero]
    rcases hc with rfl | rfl
    · left; rfl
    · right; rfl
  · obtain ⟨i', rfl⟩ : ∃ i', i = x.length + (i' + 1) := ⟨i - x.length - 1, by omega⟩
    rw [bt_app_r, bt_succ]
    have := dig_bt hd (k := i') (by omega)
    omega

theorem txt_bytes (n : Int) (h0 : -8388608 ≤ n) (h1 : n ≤ 8388607) (i : Nat) (hi : i < (txt n).length) : bt (txt n) i < 128 := by
  obtain ⟨d1, _⟩ := dec_spec n.natAbs (by omega)
  unfold txt at hi ⊢
  by_cases hn : n < 0
  · rw [if_pos hn] at hi ⊢
    cases i with
    | zero => rw [bt_zero]; decide
    | succ i =>
      rw [bt_succ]
      have := dig_bt d1 (k := i) (by simpa using hi)
      omega
  · rw [if_neg hn] at hi ⊢
    have := dig_bt d1 hi
    omega
/-- A text's body. -/
def gbody (x y : Int) : List UInt8 := txt x ++ (if y < 0 then [] else [43]) ++ txt y
theorem gbody_spec (x y : Int) (x0 : -8388608 ≤ x) (x1 : x ≤ 8388607) (y0 : -8388608 ≤ y) (y1 : y ≤ 8388607) :
    lastSign (gbody x y) = (txt x).length ∧ 1 ≤ (txt x).length ∧ (gbody x y).take (txt x).length = txt x ∧ second (gbody x y) (txt x).length = txt y := by
  obtain ⟨d1, _, d3, _⟩ := dec_spec x.natAbs (by omega)
  obtain ⟨e1, _⟩ := dec_spec y.natAbs (by omega)
  have hlen : 1 ≤ (txt x).length := by
    unfold txt
    have := List.length_pos_iff.2 d3
    split <;> simp <;> omega
  by_cases hy : y < 0
  · have e : gbody x y = txt x ++ 45 :: dec y.natAbs := by simp [gbody, txt, hy]
    have h45 : bt (txt x ++ 45 :: dec y.natAbs) (txt x).length = 45 := by
      have := bt_app_r (txt x) (45 :: dec y.natAbs) 0
      rw [Nat.add_zero] at this
      rw [this]; rfl
    rw [e]
    refine ⟨lastSign_mid _ _ _ (Or.inr rfl) e1, hlen, by simp, ?_⟩
    unfold second
    rw [if_neg (by omega)]
    simp [txt, hy]
  · have e : gbody x y = txt x ++ 43 :: dec y.natAbs := by simp [gbody, txt, hy]
    have h43 : bt (txt x ++ 43 :: dec y.natAbs) (txt x).length = 43 := by
      have := bt_app_r (txt x) (43 :: dec y.natAbs) 0
      rw [Nat.add_zero] at this
      rw [this]; rfl
    rw [e]
    refine ⟨lastSign_mid _ _ _ (Or.inl rfl) e1, hlen, by simp, ?_⟩
    unfold second
    rw [if_pos h43]
    simp [txt, hy, List.drop_append]
theorem gtxt_body (a b : Int) : gtxt a b = gbody (P24 a) (P24 b) ++ [105] := by simp [gtxt, gbody]
theorem gp_gtxt (a b : Int) : gp (gtxt a b) = (P24 a, P24 b, 0) := by
  have ha := p24_bd a
  have hb := p24_bd b
  obtain ⟨h1, h2, h3, h4⟩ := gbody_spec (P24 a) (P24 b) (by omega) (by omega) (by omega) (by omega)
  rw [gtxt_body, gp_yes, h1, if_neg (by omega), Int.toNat_natCast, h3, h4, pv_txt _ (by omega) (by omega), pv_txt _ (by omega) (by omega)]
  have i1 : P24 (P24 a) = P24 a := by unfold P24; omega
  have i2 : P24 (P24 b) = P24 b := by unfold P24; omega
  simp [pairUp, i1, i2]
theorem la_gtxt (a b : Int) : LA (gtxt a b).dropLast := by
  have ha := p24_bd a
  have hb := p24_bd b
  have la := txt_len (P24 a)
  have lb := txt_len (P24 b)
  rw [gtxt_body, List.dropLast_concat]
  have hl : (gbody (P24 a) (P24 b)).length ≤ 43 := by unfold gbody; split <;> simp <;> omega
  refine la_ascii _ (by omega) (fun i hi => ?_)
  have hx := txt_bytes (P24 a) (by omega) (by omega)
  have hy := txt_bytes (P24 b) (by omega) (by omega)
  unfold gbody at hi ⊢
  by_cases h1 : i < (txt (P24 a)).length
  · rw [List.append_assoc, bt_app_l _ _ _ h1]; exact hx i h1
  · obtain ⟨j, rfl⟩ : ∃ j, i = (txt (P24 a)).length + j := ⟨i - (txt (P24 a)).length, by omega⟩
    rw [List.append_assoc, bt_app_r]
    by_cases hn : P24 b < 0
    · simp only [hn, if_true, List.nil_append] at hi ⊢
      exact hy j (by simp at hi; omega)
    · simp only [hn, if_false] at hi ⊢
      cases j with
      | zero => show bt (43 :: txt (P24 b)) 0 < 128; rw [bt_zero]; decide
      | succ j =>
        show bt (43 :: txt (P24 b)) (j + 1) < 128
        rw [bt_succ]; exact hy j (by simp at hi; omega)
theorem gparse_gtxt (a b : Int) (w : World) : Calls Tryd.prog 26 #[.string (B (gtxt a b))] w fun e w' => e = .returned (.tuple #[cv (P24 a) (P24 b), .int .i64 0]) ∧ Below w.heap.size w w' := by
  have la := txt_len (P24 a)
  have lb := txt_len (P24 b)
  have h := gparse_any (gtxt a b) (by rw [gtxt_body]; unfold gbody; split <;> simp <;> omega) w ((la_gtxt a b).at w)
  rw [gp_gtxt] at h
  exact h
end Go.Proofs.YtoagnjnkgecmkaaDoor
