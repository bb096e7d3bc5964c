/- The cmd seat, part A: commands out of lines, as plain lists of bytes. -/
import Derived.Test.YtbgigkfdenkfiaaDoorNumM
namespace Go.Proofs.YtbgigkfdenkfiaaDoor
open Go.RowKit

theorem dg_dig (m : Nat) (h : m < 10) : isDig (dg m) = true ∧ (dg m).toNat = 48 + m := by
  have : (dg m).toNat = 48 + m := by simp [dg]; omega
  refine ⟨?_, this⟩
  simp [isDig, this]; omega
theorem dgo_spec (k : Nat) : ∀ (m : Nat) (t : List UInt8), 0 < k → m < 10 ^ k → ∃ d, dgo k m t = d ++ t ∧ d.all isDig = true ∧ vald d = m ∧ d ≠ [] ∧ (m ≠ 0 → d.head? ≠ some 48) ∧ (m = 0 → d = [48]) := by
  induction k with
  | zero => intro m t h; omega
  | succ k ih =>
    intro m t _ hm
    rw [dgo]
    by_cases h10 : m < 10
    · rw [if_pos h10]
      obtain ⟨h1, h2⟩ := dg_dig m h10
      refine ⟨[dg m], rfl, by simp [h1], ?_, by simp, fun h0 => ?_, fun h0 => by subst h0; rfl⟩
      · rw [vald_cons, h2]; simp [vald]
      · simp only [List.head?_cons, ne_eq, Option.some.injEq]
        intro e
        rw [e] at h2
        have : (48 : UInt8).toNat = 48 := rfl
        omega
    · rw [if_neg h10]
      have hk : 0 < k := by
        cases k with
        | zero => simp at hm; omega
        | succ k => omega
      obtain ⟨d, e1, e2, e3, e4, e5, e6⟩ := ih (m / 10) (dg (m % 10) :: t) hk (by rw [Nat.pow_succ] at hm; omega)
      obtain ⟨h1, h2⟩ := dg_dig (m % 10) (by omega)
      refine ⟨d ++ [dg (m % 10)], by rw [e1]; simp, by rw [List.all_append, e2]; simp [h1], ?_, by simp, fun _ => ?_, fun h0 => by omega⟩
      · rw [vald_snoc, e3, h2]; omega
      · have := e5 (by omega)
        cases d with
        | nil => exact absurd rfl e4
        | cons x d => simpa using this
theorem dec_spec (m : Nat) (h : m ≤ 9223372036854775808) : (dec m).all isDig = true ∧ vald (dec m) = m ∧ dec m ≠ [] ∧ (m ≠ 0 → (dec m).head? ≠ some 48) ∧ (m = 0 → dec m = [48]) := by
  obtain ⟨d, e1, e2, e3, e4, e5, e6⟩ := dgo_spec 20 m [] (by omega) (by omega)
  rw [List.append_nil] at e1
  unfold dec
  rw [e1]
  exact ⟨e2, e3, e4, e5, e6⟩
theorem pv_txt (n : Int) (h0 : -8388608 ≤ n) (h1 : n ≤ 8388607) : pv (txt n) = (n, 0) := by
  obtain ⟨d1, d2, d3, d4, d5⟩ := dec_spec n.natAbs (by omega)
  unfold txt
  by_cases hn : n < 0
  · rw [if_pos hn]
    have hd : ¬ (dec n.natAbs = [] ∨ (dec n.natAbs).head? = some 48) := by
      rintro (h | h)
      · exact d3 h
      · exact d4 (by omega) h
    simp only [pv, if_true, if_neg hd]
    unfold digV
    rw [if_pos d1, if_pos rfl, if_pos (by omega), d2]
    congr 1; omega
  · rw [if_neg hn]
    have hv : digV false (dec n.natAbs) = (n, 0) := by
      unfold digV
      rw [if_pos d1, if_neg (by decide), if_pos (by omega), d2]
      congr 1; omega
    generalize dec n.natAbs = d at *
    cases d with
    | nil => exact absurd rfl d3
    | cons c t =>
      have hc : isDig c = true := by simp only [List.all_cons, Bool.and_eq_true] at d1; exact d1.1
      have h45 : ¬ c = 45 := by intro e; subst e; revert hc; decide
      have h48 : ¬ (c = 48 ∧ t ≠ []) := by
        rintro ⟨rfl, ht⟩
        by_cases hz : n.natAbs = 0
        · have := d5 hz
          simp at this
          exact ht this
        · exact d4 hz rfl
      simp only [pv, if_neg h45, if_neg h48]
      exact hv


/-! ### Blanks -/
def bl (c : UInt8) : Bool := c == 32 || c == 9
def nb (c : UInt8) : Bool := !bl c
def trimL (l : List UInt8) : List UInt8 := l.dropWhile bl
def trimR (l : List UInt8) : List UInt8 := (l.reverse.dropWhile bl).reverse
def trim (l : List UInt8) : List UInt8 := trimL (trimR l)
theorem bl_iff (c : UInt8) : bl c = true ↔ (c.toNat = 32 ∨ c.toNat = 9) := by
  unfold bl
  rw [Bool.or_eq_true, beq_iff_eq, beq_iff_eq]
  constructor
  · rintro (h | h) <;> rw [h] <;> decide
  · rintro (h | h)
    · left; exact UInt8.toNat_inj.1 (by simpa using h)
    · right; exact UInt8.toNat_inj.1 (by simpa using h)
theorem snoc_ind {motive : List UInt8 → Prop} (nil : motive []) (append_singleton : ∀ l c, motive l → motive (l ++ [c])) (l : List UInt8) : motive l := by
  have h : ∀ m : List UInt8, motive m.reverse := by
    intro m
    induction m with
    | nil => exact nil
    | cons c m ih => rw [List.reverse_cons]; exact append_singleton _ _ ih
  have := h l.reverse
  rwa [List.reverse_reverse] at this
theorem trimR_snoc (l : List UInt8) (c : UInt8) : trimR (l ++ [c]) = if bl c then trimR l else l ++ [c] := by
  unfold trimR
  rw [List.reverse_append, List.reverse_cons, List.reverse_nil, List.nil_append, List.singleton_append, List.dropWhile_cons]
  split <;> simp
theorem trimL_cons (l : List UInt8) (c : UInt8) : trimL (c :: l) = if bl c then trimL l else c :: l := by
  unfold trimL; rw [List.dropWhile_cons]
theorem trimR_nil : trimR [] = [] := rfl
theorem trimL_nil : trimL [] = [] := rfl
/-- Nothing but blanks was taken off at the end. -/
theorem trimR_split (l : List UInt8) : ∃ z, l = trimR l ++ z ∧ z.all bl = true := by
  refine ⟨(l.reverse.takeWhile bl).reverse, ?_, ?_⟩
  · unfold trimR
    rw [← List.reverse_append, List.takeWhile_append_dropWhile, List.reverse_reverse]
  · rw [List.all_reverse]; exact List.all_takeWhile
theorem trimL_split (l : List UInt8) : ∃ z, l = z ++ trimL l ∧ z.all bl = true :=
  ⟨l.takeWhile bl, (List.takeWhile_append_dropWhile).symm, List.all_takeWhile⟩
/-- It ends with no blank. -/
def RT (l : List UInt8) : Prop := ∀ c, l.getLast? = some c → bl c = false
def LT (l : List UInt8) : Prop := ∀ c, l.head? = some c → bl c = false
theorem rt_nil : RT [] := by intro c h; simp at h
theorem rt_snoc (l : List UInt8) (c : UInt8) : RT (l ++ [c]) ↔ bl c = false := by
  unfold RT; simp
theorem snoc_cases (l : List UInt8) : l = [] ∨ ∃ t c, l = t ++ [c] := by
  rcases List.eq_nil_or_concat l with h | ⟨t, c, h⟩
  · exact Or.inl h
  · exact Or.inr ⟨t, c, by simpa using h⟩
theorem rt_trimR (l : List UInt8) : RT (trimR l) := by
  induction l using snoc_ind with
  | nil => exact rt_nil
  | append_singleton l c ih =>
    rw [trimR_snoc]
    by_cases h : bl c = true
    · rw [if_pos h]; exact ih
    · rw [if_neg h, rt_snoc]; simpa using h
theorem trimR_of_rt {l : List UInt8} (h : RT l) : trimR l = l := by
  rcases snoc_cases l with rfl | ⟨t, c, rfl⟩
  · rfl
  · rw [trimR_snoc, if_neg (by rw [(rt_snoc t c).1 h]; decide)]
theorem rt_suffix {z l : List UInt8} (h : RT (z ++ l)) : RT l := by
  rcases snoc_cases l with rfl | ⟨t, c, rfl⟩
  · exact rt_nil
  · rw [← List.append_assoc, rt_snoc] at h; rw [rt_snoc]; exact h
theorem lt_trimL (l : List UInt8) : LT (trimL l) := by
  induction l with
  | nil => intro c h; simp [trimL] at h
  | cons c l ih =>
    rw [trimL_cons]
    by_cases h : bl c = true
    · rw [if_pos h]; exact ih
    · rw [if_neg h]; intro d hd; simp at hd; subst hd; simpa using h
theorem trimL_of_lt {l : List UInt8} (h : LT l) : trimL l = l := by
  cases l with
  | nil => rfl
  | cons c l => rw [trimL_cons, if_neg (by rw [h c rfl]; decide)]
theorem rt_trimL {l : List UInt8} (h : RT l) : RT (trimL l) := by
  obtain ⟨z, e, _⟩ := trimL_split l
  rw [e] at h
  exact rt_suffix h
theorem rt_trim (l : List UInt8) : RT (trim l) := rt_trimL (rt_trimR l)
theorem lt_trim (l : List UInt8) : LT (trim l) := lt_trimL _
theorem rt_dropW {p : UInt8 → Bool} {l : List UInt8} (h : RT l) : RT (l.dropWhile p) := by
  rw [← List.takeWhile_append_dropWhile (p := p) (l := l)] at h
  exact rt_suffix h
theorem trimL_app_bl {z : List UInt8} (l : List UInt8) (h : z.all bl = true) : trimL (z ++ l) = trimL l := by
  induction z with
  | nil => rfl
  | cons c z ih =>
    simp only [List.all_cons, Bool.and_eq_true] at h
    rw [List.cons_append, trimL_cons, if_pos h.1]; exact ih h.2
theorem trimR_app_bl {z : List UInt8} (l : List UInt8) (h : z.all bl = true) : trimR (l ++ z) = trimR l := by
  induction z using snoc_ind with
  | nil => simp
  | append_singleton z c ih =>
    simp only [List.all_append, List.all_cons, List.all_nil, Bool.and_true, Bool.and_eq_true] at h
    rw [← List.append_assoc, trimR_snoc, if_pos h.2]; exact ih h.1
theorem trimR_bl {z : List UInt8} (h : z.all bl = true) : trimR z = [] := by
  have := trimR_app_bl [] h
  rw [List.nil_append] at this
  exact this
theorem trimR_app_ne {z : List UInt8} (l : List UInt8) (hl : trimR l ≠ []) : trimR (z ++ l) = z ++ trimR l := by
  induction l using snoc_ind with
  | nil => exact absurd rfl hl
  | append_singleton l c ih =>
    rw [← List.append_assoc, trimR_snoc, trimR_snoc]
    rw [trimR_snoc] at hl
    by_cases h : bl c = true
    · rw [if_pos h] at hl ⊢; rw [if_pos h]; exact ih hl
    · rw [if_neg h, if_neg h, List.append_assoc]
theorem lt_head {l : List UInt8} (h : LT l) (hne : l ≠ []) : trimR l ≠ [] := by
  obtain ⟨z, e, hz⟩ := trimR_split l
  intro h0
  rw [h0, List.nil_append] at e
  cases l with
  | nil => exact hne rfl
  | cons c l =>
    subst e
    simp only [List.all_cons, Bool.and_eq_true] at hz
    rw [h c rfl] at hz
    exact absurd hz.1 (by decide)
/-- It does not matter which end is trimmed first. -/
theorem trim_comm (l : List UInt8) : trimR (trimL l) = trim l := by
  unfold trim
  obtain ⟨z, e, hz⟩ := trimL_split l
  by_cases h : trimL l = []
  · rw [h, List.append_nil] at e
    rw [h, e, trimR_bl hz]; rfl
  · have hne := lt_head (lt_trimL l) h
    have h2 : trimR l = z ++ trimR (trimL l) := by
      conv => lhs; rw [e]
      exact trimR_app_ne _ hne
    rw [h2, trimL_app_bl _ hz]
    refine (trimL_of_lt ?_).symm
    have h3 := lt_trimL l
    generalize trimL l = t at *
    obtain ⟨y, ey, hy⟩ := trimR_split t
    intro c hc
    cases ht : trimR t with
    | nil => exact absurd ht hne
    | cons d u =>
      rw [ht] at hc ey
      simp at hc
      subst hc
      exact h3 d (by rw [ey]; rfl)
theorem trim_of {l : List UInt8} (h1 : LT l) (h2 : RT l) : trim l = l := by
  unfold trim; rw [trimR_of_rt h2, trimL_of_lt h1]
theorem trim_app_bl {y z : List UInt8} (l : List UInt8) (hy : y.all bl = true) (hz : z.all bl = true) : trim (y ++ l ++ z) = trim l := by
  unfold trim
  rw [trimR_app_bl _ hz]
  show trim (y ++ l) = trim l
  rw [← trim_comm, ← trim_comm, trimL_app_bl _ hy]
theorem trim_trim (l : List UInt8) : trim (trim l) = trim l := trim_of (lt_trim l) (rt_trim l)
theorem trim_len (l : List UInt8) : (trim l).length ≤ l.length := by
  obtain ⟨z, e, _⟩ := trimR_split l
  obtain ⟨y, e2, _⟩ := trimL_split (trimR l)
  have h1 := congrArg List.length e
  have h2 := congrArg List.length e2
  simp only [List.length_append] at h1 h2
  unfold trim; omega
theorem trimL_len (l : List UInt8) : (trimL l).length ≤ l.length := by
  obtain ⟨z, e, _⟩ := trimL_split l
  have h1 := congrArg List.length e
  simp only [List.length_append] at h1; omega

/-! ### Words -/
def wd (l : List UInt8) : List UInt8 := l.takeWhile nb
def rs (l : List UInt8) : List UInt8 := trimL (l.dropWhile nb)
theorem rs_rt {l : List UInt8} (h : RT l) : RT (rs l) := rt_trimL (rt_dropW h)
/-- What is behind a word of a text that ends with no blank is trimmed. -/
theorem rs_trim {l : List UInt8} (h : RT l) : trim (l.dropWhile nb) = rs l := by
  unfold trim rs
  rw [trimR_of_rt (rt_dropW h)]
theorem wd_all {l : List UInt8} (h : l.dropWhile nb = []) : wd l = l := by
  have := List.takeWhile_append_dropWhile (p := nb) (l := l)
  rw [h, List.append_nil] at this
  exact this
theorem dropW_head {l : List UInt8} {c : UInt8} (h : (l.dropWhile nb).head? = some c) : bl c = true := by
  induction l with
  | nil => simp at h
  | cons d l ih =>
    rw [List.dropWhile_cons] at h
    by_cases hd : nb d = true
    · rw [if_pos hd] at h; exact ih h
    · rw [if_neg hd] at h; simp at h; subst h; simpa [nb] using hd
theorem dropW_mem {l : List UInt8} (h : l.dropWhile nb ≠ []) : ∃ c ∈ l, bl c = true := by
  cases e : l.dropWhile nb with
  | nil => exact absurd e h
  | cons c t =>
    refine ⟨c, ?_, dropW_head (l := l) (by rw [e]; rfl)⟩
    rw [← List.takeWhile_append_dropWhile (p := nb) (l := l), e]; simp
/-- Behind a blank of a text that ends with none there is something. -/
theorem rs_ne {l : List UInt8} (hr : RT l) (h : l.dropWhile nb ≠ []) : rs l ≠ [] := by
  intro h0
  have hd := rt_dropW (p := nb) hr
  obtain ⟨z, e, hz⟩ := trimL_split (l.dropWhile nb)
  unfold rs at h0
  rw [h0, List.append_nil] at e
  rw [e] at hd h
  rcases snoc_cases z with rfl | ⟨t, c, rfl⟩
  · exact h rfl
  · rw [rt_snoc] at hd
    simp [hd] at hz
theorem wd_rs_app (a b : List UInt8) (c : UInt8) (ha : a.all nb = true) (hc : bl c = true) (hb : LT b) : wd (a ++ c :: b) = a ∧ rs (a ++ c :: b) = b := by
  have hcn : nb c = false := by simp [nb, hc]
  unfold wd rs
  induction a with
  | nil =>
    simp only [List.nil_append, List.takeWhile_cons, List.dropWhile_cons, hcn]
    refine ⟨by simp, ?_⟩
    simp only [Bool.false_eq_true, if_false]
    rw [trimL_cons, if_pos hc, trimL_of_lt hb]
  | cons d a ih =>
    simp only [List.all_cons, Bool.and_eq_true] at ha
    simp only [List.cons_append, List.takeWhile_cons, List.dropWhile_cons, ha.1, if_true]
    have := ih ha.2
    rw [this.1]; exact ⟨rfl, this.2⟩
theorem wd_rs_all (a : List UInt8) (ha : a.all nb = true) : wd a = a ∧ rs a = [] := by
  have h : a.dropWhile nb = [] := by
    induction a with
    | nil => rfl
    | cons d a ih =>
      simp only [List.all_cons, Bool.and_eq_true] at ha
      rw [List.dropWhile_cons, if_pos ha.1]; exact ih ha.2
  exact ⟨wd_all h, by unfold rs; rw [h]; rfl⟩

/-! ### Numbers -/
/-- A number that a word is; -1. -/
def numOf (l : List UInt8) : Int := if (pv l).2 = 0 ∧ 0 ≤ (pv l).1 ∧ (pv l).1 ≤ 1048576 then (pv l).1 else -1
theorem numOf_nil : numOf [] = -1 := by decide
theorem digV_bl (neg : Bool) (l : List UInt8) (h : ∃ c ∈ l, bl c = true) : digV neg l = (0, 2) := by
  have hn : ¬ (l.all isDig = true) := by
    rw [List.all_eq_true]
    intro hall
    obtain ⟨c, hc, hb⟩ := h
    have := hall c hc
    rw [bl_iff] at hb
    simp [isDig] at this
    omega
  unfold digV; rw [if_neg hn]
theorem numOf_bl (l : List UInt8) (h : ∃ c ∈ l, bl c = true) : numOf l = -1 := by
  have e : (pv l).2 = 2 := by
    cases l with
    | nil => rfl
    | cons c d =>
      simp only [pv]
      split
      · split
        · rfl
        · rename_i hc _
          rw [digV_bl _ d]
          obtain ⟨x, hx, hb⟩ := h
          rcases List.mem_cons.1 hx with rfl | hx
          · subst hc; exact absurd hb (by decide)
          · exact ⟨x, hx, hb⟩
      · split
        · rfl
        · rw [digV_bl _ _ h]
  unfold numOf
  rw [if_neg (by rw [e]; omega)]
theorem numOf_txt (n : Int) (h0 : 0 ≤ n) (h1 : n ≤ 1048576) : numOf (txt n) = n := by
  unfold numOf
  rw [pv_txt n (by omega) (by omega), if_pos ⟨rfl, h0, h1⟩]
theorem txt_nb (n : Int) (h0 : 0 ≤ n) (h1 : n ≤ 1048576) : (txt n).all nb = true ∧ (txt n).length ≤ 20 ∧ txt n ≠ [] ∧ (10 : UInt8) ∉ txt n := by
  obtain ⟨d1, d2, d3, d4, d5⟩ := dec_spec n.natAbs (by omega)
  unfold txt
  rw [if_neg (by omega)]
  have hd : ∀ c ∈ dec n.natAbs, 48 ≤ c.toNat := by
    intro c hc
    have := List.all_eq_true.1 d1 c hc
    simp [isDig] at this; omega
  refine ⟨?_, ?_, d3, ?_⟩
  · rw [List.all_eq_true]
    intro c hc
    have h := hd c hc
    have : ¬ bl c = true := by rw [bl_iff]; omega
    simpa [nb] using this
  · have hv := vald_ge (dec n.natAbs) d3 d1
    by_cases hz : n.natAbs = 0
    · rw [d5 hz]; simp
    · have := hv (d4 hz)
      rw [d2] at this
      by_cases hl : (dec n.natAbs).length ≤ 20
      · exact hl
      · exfalso
        have h2 : 10 ^ 20 ≤ 10 ^ ((dec n.natAbs).length - 1) := Nat.pow_le_pow_right (by decide) (by omega)
        omega
  · intro hm
    have := hd 10 hm
    revert this; decide

/-! ### The words of the commands -/
def WS : List (List UInt8) := [[], [115, 116, 101, 112], [110, 101, 120, 116], [102, 105, 110, 105, 115, 104], [99, 111, 110, 116, 105, 110, 117, 101], [114, 115, 116, 101, 112], [114, 110, 101, 120, 116], [114, 102, 105, 110, 105, 115, 104], [114, 99, 111, 110, 116, 105, 110, 117, 101], [103, 111, 116, 111], [98, 114, 101, 97, 107], [119, 97, 116, 99, 104], [100, 101, 108, 101, 116, 101], [119, 104, 101, 114, 101], [112, 114, 105, 110, 116], [118, 97, 114, 115], [111, 117, 116], [116, 105, 109, 101], [109, 97, 114, 107, 115]]
def ws (k : Nat) : List UInt8 := WS.getD k []
/-- The last kind below a bound whose word is this. -/
def kd (f : List UInt8) : Nat → Nat
  | 0 => 0
  | i + 1 => if 0 < i ∧ ws i = f then i else kd f i
def kindOf (f : List UInt8) : Nat := kd f 19
theorem kd_le (f : List UInt8) : ∀ i, kd f (i + 1) ≤ i
  | 0 => by simp [kd]
  | i + 1 => by
    rw [kd]; split
    · omega
    · have := kd_le f i; omega
theorem kindOf_le (f : List UInt8) : kindOf f ≤ 18 := kd_le f 18
theorem ws_ne (i : Nat) (h0 : 0 < i) (h : i < 19) : ws i ≠ [] := by
  have : ∀ i : Fin 19, 0 < i.val → ws i.val ≠ [] := by decide
  exact this ⟨i, h⟩ h0
theorem kd_cond (f : List UInt8) (i : Nat) (h : i < 19) : (ws i = f ∧ f ≠ []) ↔ (0 < i ∧ ws i = f) := by
  constructor
  · rintro ⟨h1, h2⟩
    refine ⟨?_, h1⟩
    cases i with
    | zero => exact absurd h1.symm h2
    | succ i => omega
  · rintro ⟨h1, h2⟩
    exact ⟨h2, by rw [← h2]; exact ws_ne i h1 h⟩
theorem kindOf_ws (k : Nat) (h0 : 0 < k) (h : k < 19) : kindOf (ws k) = k := by
  have : ∀ i : Fin 19, 0 < i.val → kindOf (ws i.val) = i.val := by decide +kernel
  exact this ⟨k, h⟩ h0
theorem ws_nb (k : Nat) (h0 : 0 < k) (h : k < 19) : (ws k).all nb = true ∧ ws k ≠ [] ∧ (ws k).length ≤ 9 ∧ (10 : UInt8) ∉ ws k := by
  have : ∀ i : Fin 19, 0 < i.val → (ws i.val).all nb = true ∧ ws i.val ≠ [] ∧ (ws i.val).length ≤ 9 ∧ (10 : UInt8) ∉ ws i.val := by decide +kernel
  exact this ⟨k, h⟩ h0

/-! ### Lines -/
abbrev C3 := Nat × Int × List UInt8
def bad : C3 := (0, 0, [])
def ifw : List UInt8 := [105, 102]
/-- Behind a break's number. -/
def cbrk (n : Int) (m : List UInt8) : C3 :=
  if n < 1 then bad else if m = [] then (10, n, []) else if wd m = ifw ∧ rs m ≠ [] then (10, n, rs m) else bad
/-- A command out of its kind and what is behind the word. -/
def ck (k : Nat) (r : List UInt8) : C3 :=
  if k = 0 then bad
  else if k = 9 ∨ k = 12 then (if numOf r < 0 then bad else (k, numOf r, []))
  else if k = 10 then cbrk (numOf (wd r)) (rs r)
  else if k = 11 ∨ k = 14 then (if r = [] then bad else (k, 0, r))
  else if r = [] then (k, 0, []) else bad
def cp (l : List UInt8) : C3 :=
  if 1000 < l.length ∨ (10 : UInt8) ∈ l then bad else ck (kindOf (wd (trim l))) (rs (trim l))
/-- May a command be? -/
def tx (t : List UInt8) : Bool := decide (1 ≤ t.length ∧ t.length ≤ 900 ∧ (10 : UInt8) ∉ t ∧ trim t = t)
def cmay (k : Nat) (n : Int) (t : List UInt8) : Bool :=
  if k = 9 ∨ k = 12 then decide (0 ≤ n ∧ n ≤ 1048576 ∧ t = [])
  else if k = 10 then decide (1 ≤ n ∧ n ≤ 1048576 ∧ (t = [] ∨ tx t = true))
  else if k = 11 ∨ k = 14 then decide (n = 0 ∧ tx t = true)
  else decide (1 ≤ k ∧ k ≤ 18 ∧ n = 0 ∧ t = [])
def ctail (k : Nat) (n : Int) (t : List UInt8) : List UInt8 :=
  (if k = 9 ∨ k = 10 ∨ k = 12 then 32 :: txt n else []) ++ (if k = 10 ∧ t ≠ [] then [32, 105, 102] else []) ++ (if t ≠ [] then 32 :: t else [])
def ctext (k : Nat) (n : Int) (t : List UInt8) : List UInt8 := ws k ++ ctail k n t
theorem lt_of_tx {t : List UInt8} (h : trim t = t) : LT t ∧ RT t := by
  rw [← h]; exact ⟨lt_trim t, rt_trim t⟩
theorem lt_nb {a : List UInt8} (b : List UInt8) (hne : a ≠ []) (h : a.all nb = true) : LT (a ++ b) := by
  intro c hc
  cases a with
  | nil => exact absurd rfl hne
  | cons d a =>
    simp at hc; subst hc
    simp only [List.all_cons, Bool.and_eq_true] at h
    simpa [nb] using h.1
theorem rt_nb {a : List UInt8} (b : List UInt8) (hne : a ≠ []) (h : a.all nb = true) : RT (b ++ a) := by
  intro c hc
  rcases snoc_cases a with rfl | ⟨d, x, rfl⟩
  · exact absurd rfl hne
  · rw [← List.append_assoc] at hc
    simp at hc; subst hc
    simp at h
    simpa [nb] using h.2
theorem rt_app {t : List UInt8} (a : List UInt8) (hne : t ≠ []) (h : RT t) : RT (a ++ t) := by
  intro c hc
  rcases snoc_cases t with rfl | ⟨d, x, rfl⟩
  · exact absurd rfl hne
  · rw [← List.append_assoc] at hc
    simp at hc; subst hc
    exact (rt_snoc d _).1 h
theorem lt_app {t : List UInt8} (a : List UInt8) (hne : t ≠ []) (h : LT t) : LT (t ++ a) := by
  intro c hc
  cases t with
  | nil => exact absurd rfl hne
  | cons d t => exact h c (by simpa using hc)
theorem cp_app (k : Nat) (h0 : 0 < k) (h : k < 19) (b : List UInt8) (hl : LT b) (hr : RT b) (hne : b ≠ []) (hb : b.length ≤ 990) (hf : (10 : UInt8) ∉ b) : cp (ws k ++ 32 :: b) = ck k b := by
  obtain ⟨w1, w2, w3, w4⟩ := ws_nb k h0 h
  have hLT : LT (ws k ++ 32 :: b) := lt_nb _ w2 w1
  have hRT : RT (ws k ++ 32 :: b) := by
    rw [show ws k ++ 32 :: b = (ws k ++ [32]) ++ b by simp]; exact rt_app _ hne hr
  unfold cp
  rw [if_neg (by
    rintro (hx | hx)
    · simp only [List.length_append, List.length_cons] at hx; omega
    · rcases List.mem_append.1 hx with hx | hx
      · exact w4 hx
      · rcases List.mem_cons.1 hx with hx | hx
        · exact absurd hx (by decide)
        · exact hf hx), trim_of hLT hRT]
  obtain ⟨e1, e2⟩ := wd_rs_app (ws k) b 32 w1 (by decide) hl
  rw [e1, e2, kindOf_ws k h0 h]
theorem cp_ws (k : Nat) (h0 : 0 < k) (h : k < 19) : cp (ws k) = ck k [] := by
  obtain ⟨w1, w2, w3, w4⟩ := ws_nb k h0 h
  have hLT : LT (ws k) := by have := lt_nb [] w2 w1; rwa [List.append_nil] at this
  have hRT : RT (ws k) := rt_nb [] w2 w1
  unfold cp
  rw [if_neg (by
    rintro (hx | hx)
    · omega
    · exact w4 hx), trim_of hLT hRT]
  obtain ⟨e1, e2⟩ := wd_rs_all (ws k) w1
  rw [e1, e2, kindOf_ws k h0 h]
theorem tx_iff (t : List UInt8) : tx t = true ↔ 1 ≤ t.length ∧ t.length ≤ 900 ∧ (10 : UInt8) ∉ t ∧ trim t = t := by unfold tx; rw [decide_eq_true_iff]
/-- What may be is written as a line that is read as it. -/
theorem cp_ctext (k : Nat) (n : Int) (t : List UInt8) (h : cmay k n t = true) : cp (ctext k n t) = (k, n, t) := by
  unfold cmay at h
  unfold ctext ctail
  by_cases h9 : k = 9 ∨ k = 12
  · rw [if_pos h9, decide_eq_true_iff] at h
    obtain ⟨n0, n1, rfl⟩ := h
    obtain ⟨t1, t2, t3, t4⟩ := txt_nb n n0 n1
    rw [if_pos (by omega), if_neg (by omega), if_neg (by simp), List.append_nil, List.append_nil]
    rw [cp_app k (by omega) (by omega) (txt n) (by have := lt_nb [] t3 t1; rwa [List.append_nil] at this) (rt_nb [] t3 t1) t3 (by omega) t4]
    unfold ck
    rw [if_neg (by omega), if_pos h9, numOf_txt n n0 n1, if_neg (by omega)]
  · rw [if_neg h9] at h
    by_cases h10 : k = 10
    · subst h10
      rw [if_pos rfl, decide_eq_true_iff] at h
      obtain ⟨n0, n1, ht⟩ := h
      obtain ⟨t1, t2, t3, t4⟩ := txt_nb n (by omega) n1
      have hLn : ∀ b, LT (txt n ++ b) := fun b => lt_nb b t3 t1
      rw [if_pos (by omega)]
      by_cases hnil : t = []
      · subst hnil
        rw [if_neg (by simp), if_neg (by simp), List.append_nil, List.append_nil]
        rw [cp_app 10 (by omega) (by omega) (txt n) (by have := hLn []; rwa [List.append_nil] at this) (rt_nb [] t3 t1) t3 (by omega) t4]
        obtain ⟨e1, e2⟩ := wd_rs_all (txt n) t1
        unfold ck cbrk
        rw [if_neg (by omega), if_neg (by omega), if_pos rfl, e1, e2, numOf_txt n (by omega) n1, if_neg (by omega), if_pos rfl]
      · rcases ht with ht | ht
        · exact absurd ht hnil
        · rw [tx_iff] at ht
          obtain ⟨_, l2, l3, l4⟩ := ht
          obtain ⟨hL, hR⟩ := lt_of_tx l4
          rw [if_pos ⟨rfl, hnil⟩, if_pos hnil]
          rw [show (32 :: txt n ++ [32, 105, 102] ++ 32 :: t) = 32 :: (txt n ++ 32 :: (ifw ++ 32 :: t)) by simp [ifw]]
          have hif : wd (ifw ++ 32 :: t) = ifw ∧ rs (ifw ++ 32 :: t) = t := wd_rs_app ifw t 32 (by decide) (by decide) hL
          have hLi : LT (ifw ++ 32 :: t) := lt_nb _ (by decide) (by decide)
          obtain ⟨e1, e2⟩ := wd_rs_app (txt n) (ifw ++ 32 :: t) 32 t1 (by decide) hLi
          rw [cp_app 10 (by omega) (by omega) _ (hLn _) (by rw [show txt n ++ 32 :: (ifw ++ 32 :: t) = (txt n ++ 32 :: ifw ++ [32]) ++ t by simp]; exact rt_app _ hnil hR) (by simp) (by simp [ifw]; omega) (by
            intro hm
            rcases List.mem_append.1 hm with hm | hm
            · exact t4 hm
            · simp [ifw] at hm; exact l3 hm)]
          unfold ck cbrk
          rw [if_neg (by omega), if_neg (by omega), if_pos rfl, e1, e2, numOf_txt n (by omega) n1, if_neg (by omega), if_neg (by simp), if_pos ⟨hif.1, by rw [hif.2]; exact hnil⟩, hif.2]
    · rw [if_neg h10] at h
      by_cases h11 : k = 11 ∨ k = 14
      · rw [if_pos h11, decide_eq_true_iff, tx_iff] at h
        obtain ⟨rfl, l1, l2, l3, l4⟩ := h
        obtain ⟨hL, hR⟩ := lt_of_tx l4
        have hnil : t ≠ [] := by intro e; subst e; simp at l1
        rw [if_neg (by omega), if_neg (by omega), if_pos hnil, List.nil_append, List.nil_append]
        rw [cp_app k (by omega) (by omega) t hL hR hnil (by omega) l3]
        unfold ck
        rw [if_neg (by omega), if_neg h9, if_neg h10, if_pos h11, if_neg hnil]
      · rw [if_neg h11, decide_eq_true_iff] at h
        obtain ⟨k0, k1, rfl, rfl⟩ := h
        rw [if_neg (by omega), if_neg (by omega), if_neg (by simp), List.append_nil, List.append_nil, List.append_nil]
        rw [cp_ws k (by omega) (by omega)]
        unfold ck
        rw [if_neg (by omega), if_neg h9, if_neg h10, if_neg h11, if_pos rfl]
theorem ctext_len (k : Nat) (n : Int) (t : List UInt8) (h : cmay k n t = true) : (ctext k n t).length ≤ 1000 := by
  have hc := cp_ctext k n t h
  by_cases hl : (ctext k n t).length ≤ 1000
  · exact hl
  · unfold cp at hc
    rw [if_pos (Or.inl (by omega))] at hc
    unfold bad at hc
    injection hc with h1 h2
    subst h1
    unfold cmay at h
    simp at h
/-- Blanks at the ends play no part. -/
theorem cp_blanks (y z l : List UInt8) (hy : y.all bl = true) (hz : z.all bl = true) (h : (y ++ l ++ z).length ≤ 1000) : cp (y ++ l ++ z) = cp l := by
  have hn : ∀ x : List UInt8, x.all bl = true → (10 : UInt8) ∉ x := by
    intro x hx hm
    have := List.all_eq_true.1 hx 10 hm
    revert this; decide
  unfold cp
  rw [trim_app_bl l hy hz]
  have hl : l.length ≤ 1000 := by simp only [List.length_append] at h; omega
  have e : (1000 < (y ++ l ++ z).length ∨ (10 : UInt8) ∈ y ++ l ++ z) ↔ (1000 < l.length ∨ (10 : UInt8) ∈ l) := by
    constructor
    · rintro (a | a)
      · omega
      · right
        rcases List.mem_append.1 a with a | a
        · rcases List.mem_append.1 a with a | a
          · exact absurd a (hn y hy)
          · exact a
        · exact absurd a (hn z hz)
    · rintro (a | a)
      · omega
      · right; simp [a]
  by_cases hb : 1000 < l.length ∨ (10 : UInt8) ∈ l
  · rw [if_pos hb, if_pos (e.2 hb)]
  · rw [if_neg hb, if_neg (fun x => hb (e.1 x))]
end Go.Proofs.YtbgigkfdenkfiaaDoor
