/- The gauss seat, part Y: what the document's answer reads is what gauss.Parse reads, and what is read has just this text: plain lists of bytes. -/
import Derived.Test.YtoagnjnkgecmkaaDoorGaussT
namespace Go.Proofs.YtoagnjnkgecmkaaDoor
open Go.RowKit

/-- A text that is read as a number has this form. -/
theorem pv_form (l : List UInt8) (h : (pv l).2 ≠ 2) : ∃ d, d ≠ [] ∧ d.all isDig = true ∧ ((l = d ∧ pv l = digV false d ∧ ¬ (d.head? = some 48 ∧ 1 < d.length)) ∨ (l = 45 :: d ∧ pv l = digV true d ∧ d.head? ≠ some 48)) := by
  have hd : ∀ n d, (digV n d).2 ≠ 2 → d.all isDig = true := by
    intro n d h2
    rw [← Bool.not_eq_false]
    intro hf
    unfold digV at h2
    simp [hf] at h2
  match l with
  | [] => simp [pv] at h
  | c :: d =>
    by_cases hc : c = 45
    · subst hc
      by_cases h1 : d = [] ∨ d.head? = some 48
      · simp [pv, h1] at h
      · have e : pv (45 :: d) = digV true d := by simp only [pv, if_true, if_neg h1]
        rw [e] at h
        exact ⟨d, fun h2 => h1 (Or.inl h2), hd _ _ h, Or.inr ⟨rfl, e, fun h2 => h1 (Or.inr h2)⟩⟩
    · by_cases h1 : c = 48 ∧ d ≠ []
      · simp [pv, h1] at h
      · have e : pv (c :: d) = digV false (c :: d) := by simp only [pv, if_neg hc, if_neg h1]
        rw [e] at h
        refine ⟨c :: d, by simp, hd _ _ h, Or.inl ⟨rfl, e, ?_⟩⟩
        rintro ⟨h2, h3⟩
        refine h1 ⟨by simpa using h2, ?_⟩
        rintro rfl
        simp at h3

theorem vald_inj : ∀ (a b : List UInt8), a.length = b.length → a.all isDig = true → b.all isDig = true → vald a = vald b → a = b
  | [], [], _, _, _, _ => rfl
  | [], _ :: _, h, _, _, _ => by simp at h
  | _ :: _, [], h, _, _, _ => by simp at h
  | x :: a, y :: b, h, ha, hb, hv => by
    have hl : a.length = b.length := by simpa using h
    simp only [List.all_cons, Bool.and_eq_true] at ha hb
    rw [vald_cons, vald_cons, hl] at hv
    have la := vald_lt a ha.2
    have lb := vald_lt b hb.2
    rw [hl] at la
    have hx : x.toNat - 48 = y.toNat - 48 := by
      have h1 : ((x.toNat - 48) * 10 ^ b.length + vald a) / 10 ^ b.length = x.toNat - 48 := by
        rw [Nat.mul_comm, Nat.mul_add_div (by omega), Nat.div_eq_of_lt la]; omega
      have h2 : ((y.toNat - 48) * 10 ^ b.length + vald b) / 10 ^ b.length = y.toNat - 48 := by
        rw [Nat.mul_comm, Nat.mul_add_div (by omega), Nat.div_eq_of_lt lb]; omega
      rw [← h1, ← h2, hv]
    have hx1 := ha.1
    have hy1 := hb.1
    simp only [isDig, Bool.and_eq_true, decide_eq_true_eq] at hx1 hy1
    have hxy : x = y := UInt8.toNat_inj.1 (by omega)
    rw [hx] at hv
    rw [hxy, vald_inj a b hl ha.2 hb.2 (by omega)]

theorem dec_canon (d : List UInt8) (hne : d ≠ []) (hd : d.all isDig = true) (hz : ¬ (d.head? = some 48 ∧ 1 < d.length)) (hv : vald d ≤ 9223372036854775808) : dec (vald d) = d := by
  obtain ⟨e1, e2, e3, e4, e5⟩ := dec_spec (vald d) hv
  by_cases h48 : d.head? = some 48
  · have h1 : d.length = 1 := by
      have := List.length_pos_iff.2 hne
      have : ¬ 1 < d.length := fun h => hz ⟨h48, h⟩
      omega
    match d, h1 with
    | [c], _ =>
      have : c = 48 := by simpa using h48
      subst this
      exact e5 rfl
  · have hv0 : vald d ≠ 0 := by
      have := vald_ge d hne hd h48
      have : 0 < 10 ^ (d.length - 1) := Nat.pow_pos (by omega)
      omega
    refine vald_inj _ _ ?_ e1 hd e2
    have a1 := vald_ge d hne hd h48
    have a2 := vald_lt d hd
    have b1 := vald_ge (dec (vald d)) e3 e1 (e4 hv0)
    have b2 := vald_lt (dec (vald d)) e1
    rw [e2] at b1 b2
    have l1 := List.length_pos_iff.2 hne
    have l2 := List.length_pos_iff.2 e3
    have c1 : d.length - 1 < (dec (vald d)).length := (Nat.pow_lt_pow_iff_right (by omega : 1 < 10)).1 (Nat.lt_of_le_of_lt a1 b2)
    have c2 : (dec (vald d)).length - 1 < d.length := (Nat.pow_lt_pow_iff_right (by omega : 1 < 10)).1 (Nat.lt_of_le_of_lt b1 a2)
    omega

/-- What is read as a number is its text. -/
theorem pv_canon (l : List UInt8) (n : Int) (h : pv l = (n, 0)) : txt n = l := by
  obtain ⟨d, h1, h2, h3⟩ := pv_form l (by rw [h]; simp)
  rcases h3 with ⟨rfl, h4, h5⟩ | ⟨rfl, h4, h5⟩
  · rw [h] at h4
    unfold digV at h4
    rw [if_pos h2, if_neg (by decide)] at h4
    split at h4
    · rename_i hv
      simp only [Prod.mk.injEq, and_true] at h4
      subst h4
      unfold txt
      rw [if_neg (by omega), Int.natAbs_natCast]
      exact dec_canon l h1 h2 h5 (by omega)
    · simp at h4
  · rw [h] at h4
    unfold digV at h4
    rw [if_pos h2, if_pos rfl] at h4
    split at h4
    · rename_i hv
      simp only [Prod.mk.injEq, and_true] at h4
      subst h4
      have hv0 : 0 < vald d := by
        have := vald_ge d h1 h2 h5
        have : 0 < 10 ^ (d.length - 1) := Nat.pow_pos (by omega)
        omega
      unfold txt
      rw [if_pos (by omega), Int.natAbs_neg, Int.natAbs_natCast, dec_canon d h1 h2 (fun h6 => h5 h6.1) hv]
    · simp at h4

/-- Where digits end. -/
def ek (l : List UInt8) (i : Nat) : Nat := i + ((l.drop i).takeWhile isDig).length
theorem ek_mid (x : List UInt8) (d : List UInt8) (c : UInt8) (t : List UInt8) (hd : d.all isDig = true) (hc : isDig c = false) : ek (x ++ (d ++ c :: t)) x.length = x.length + d.length := by
  unfold ek
  rw [List.drop_left]
  congr 2
  rw [List.takeWhile_append_of_pos (by simpa [List.all_eq_true] using hd), List.takeWhile_cons, hc]
  simp
theorem ek_split (l : List UInt8) (i : Nat) : ∃ d t, l.drop i = d ++ t ∧ d.all isDig = true ∧ ek l i = i + d.length ∧ (∀ c u, t = c :: u → isDig c = false) := by
  refine ⟨(l.drop i).takeWhile isDig, (l.drop i).dropWhile isDig, by rw [List.takeWhile_append_dropWhile], List.all_takeWhile, rfl, fun c u h => ?_⟩
  have := List.head?_dropWhile_not isDig (l.drop i)
  rw [h] at this
  simpa using this

/-- The document's answer. -/
def rgp (l : List UInt8) : Int × Int × Int :=
  if l.length ≤ ek l (if bt l 0 = 45 then 1 else 0) ∨ ¬ (bt l (ek l (if bt l 0 = 45 then 1 else 0)) = 43 ∨ bt l (ek l (if bt l 0 = 45 then 1 else 0)) = 45) then (0, 0, 2)
  else if ek l (ek l (if bt l 0 = 45 then 1 else 0) + 1) + 1 ≠ l.length ∨ bt l (ek l (ek l (if bt l 0 = 45 then 1 else 0) + 1)) ≠ 105 then (0, 0, 2)
  else pairUp (pv (l.take (ek l (if bt l 0 = 45 then 1 else 0))))
    (pv ((l.take (ek l (ek l (if bt l 0 = 45 then 1 else 0) + 1))).drop (if bt l (ek l (if bt l 0 = 45 then 1 else 0)) = 43 then ek l (if bt l 0 = 45 then 1 else 0) + 1 else ek l (if bt l 0 = 45 then 1 else 0))))

theorem gp_shape (x : List UInt8) (c : UInt8) (d : List UInt8) (hc : c = 43 ∨ c = 45) (hd : d.all isDig = true) :
    gp (x ++ c :: d ++ [105]) = pairUp (pv x) (pv (if c = 43 then d else c :: d)) := by
  have hs := lastSign_mid x c d hc hd
  rw [gp_yes, hs]
  by_cases hx : x.length = 0
  · obtain rfl : x = [] := List.eq_nil_of_length_eq_zero hx
    rw [if_pos (by simp)]
    simp [pairUp, pv]
  · rw [if_neg (by omega), Int.toNat_natCast]
    have e1 : (x ++ c :: d).take x.length = x := by simp
    have e2 : bt (x ++ c :: d) x.length = c.toNat := by
      have := bt_app_r x (c :: d) 0
      rw [Nat.add_zero] at this
      rw [this, bt_zero]
    have e3 : second (x ++ c :: d) x.length = if c = 43 then d else c :: d := by
      unfold second
      rw [e2]
      rcases hc with rfl | rfl
      · rw [if_pos (show (((43 : UInt8).toNat : Int)) = 43 from rfl), if_pos rfl]; simp [List.drop_append]
      · rw [if_neg (by decide), if_neg (by decide)]; simp
    rw [e1, e3]

theorem neg_dig : isDig 45 = false := by decide
theorem plus_dig : isDig 43 = false := by decide
theorem i_dig : isDig 105 = false := by decide
theorem sign_dig (c : UInt8) (h : c = 43 ∨ c = 45) : isDig c = false := by rcases h with rfl | rfl <;> decide

/-- What begins a text of two numbers. -/
def lead (l : List UInt8) : Nat := if bt l 0 = 45 then 1 else 0
theorem rgp_shape (n : Bool) (dx : List UInt8) (c : UInt8) (d : List UInt8) (hx : dx.all isDig = true) (hc : c = 43 ∨ c = 45) (hd : d.all isDig = true) (hn : n = false → dx ≠ []) :
    rgp (((if n then [45] else []) ++ dx) ++ c :: d ++ [105]) = pairUp (pv ((if n then [45] else []) ++ dx)) (pv (if c = 43 then d else c :: d)) := by
  obtain ⟨m, hm⟩ : ∃ m : List UInt8, (if n = true then [45] else []) = m := ⟨_, rfl⟩
  have el : (m ++ dx) ++ c :: d ++ [105] = m ++ (dx ++ c :: (d ++ [105])) := by simp
  have el2 : (m ++ dx) ++ c :: d ++ [105] = (m ++ dx ++ [c]) ++ (d ++ 105 :: []) := by simp
  have h0 : (if bt ((m ++ dx) ++ c :: d ++ [105]) 0 = 45 then 1 else 0) = m.length := by
    cases n
    · simp only [if_false, Bool.false_eq_true] at hm
      subst hm
      match dx, hn rfl with
      | y :: t, _ =>
        simp only [List.all_cons, Bool.and_eq_true, isDig, decide_eq_true_eq] at hx
        show (if bt (y :: _) 0 = 45 then 1 else 0) = 0
        rw [bt_zero, if_neg (by omega)]
    · simp only [if_true] at hm
      subst hm
      rfl
  have k1 : ek ((m ++ dx) ++ c :: d ++ [105]) m.length = m.length + dx.length := by
    rw [el]; exact ek_mid m dx c _ hx (sign_dig c hc)
  have k2 : ek ((m ++ dx) ++ c :: d ++ [105]) (m.length + dx.length + 1) = m.length + dx.length + 1 + d.length := by
    rw [el2]
    have e : (m ++ dx ++ [c]).length = m.length + dx.length + 1 := by simp; omega
    have := ek_mid (m ++ dx ++ [c]) d 105 [] hd i_dig
    rw [e] at this
    exact this
  have b1 : bt ((m ++ dx) ++ c :: d ++ [105]) (m.length + dx.length) = c.toNat := by
    have := bt_app_r (m ++ dx) (c :: d ++ [105]) 0
    rw [Nat.add_zero, List.length_append] at this
    rw [List.append_assoc, this]
    rfl
  have b2 : bt ((m ++ dx) ++ c :: d ++ [105]) (m.length + dx.length + 1 + d.length) = 105 := by
    have := bt_app_r ((m ++ dx) ++ c :: d) [105] 0
    have e : ((m ++ dx) ++ c :: d).length = m.length + dx.length + 1 + d.length := by simp; omega
    rw [Nat.add_zero, e] at this
    rw [this]; rfl
  have ln : ((m ++ dx) ++ c :: d ++ [105]).length = m.length + dx.length + 1 + d.length + 1 := by simp; omega
  have t1 : ((m ++ dx) ++ c :: d ++ [105]).take (m.length + dx.length) = m ++ dx := by
    rw [List.append_assoc, ← List.length_append, List.take_left]
  have t2 : ((m ++ dx) ++ c :: d ++ [105]).take (m.length + dx.length + 1 + d.length) = (m ++ dx) ++ c :: d := by
    have e : ((m ++ dx) ++ c :: d).length = m.length + dx.length + 1 + d.length := by simp; omega
    rw [← e, List.take_left]
  rw [hm]
  unfold rgp
  rw [h0, k1, k2, b1, b2, ln, t1, t2]
  rw [if_neg (by rcases hc with rfl | rfl <;> simp <;> omega), if_neg (by simp)]
  have e : (m ++ dx ++ [c]).length = m.length + dx.length + 1 := by simp; omega
  have d1 := List.drop_left (l₁ := m ++ dx ++ [c]) (l₂ := d)
  rw [e] at d1
  have d2 := List.drop_left (l₁ := m ++ dx) (l₂ := c :: d)
  rw [List.length_append] at d2
  rcases hc with rfl | rfl
  · rw [if_pos (show (((43 : UInt8).toNat : Int)) = 43 from rfl), if_pos rfl]
    have : m ++ dx ++ 43 :: d = m ++ dx ++ [43] ++ d := by simp
    rw [this, d1]
  · rw [if_neg (by decide), if_neg (by decide), d2]

theorem bt_ne {c : UInt8} {n : Nat} (h : (c.toNat : Int) = n) (hn : n < 256) : c = UInt8.ofNat n := UInt8.toNat_inj.1 (by
  rw [UInt8.toNat_ofNat', Nat.mod_eq_of_lt hn]; omega)
/-- What passes the document's tests has this shape. -/
theorem rgp_cases (l : List UInt8) : rgp l = (0, 0, 2) ∨ ∃ (n : Bool) (dx : List UInt8) (c : UInt8) (d : List UInt8) (q : Int × Int), rgp l = pairUp (pv ((if n then [45] else []) ++ dx)) q ∧ dx.all isDig = true ∧ (c = 43 ∨ c = 45) ∧ d.all isDig = true ∧ l = ((if n then [45] else []) ++ dx) ++ c :: d ++ [105] := by
  by_cases h1 : l.length ≤ ek l (if bt l 0 = 45 then 1 else 0) ∨ ¬ (bt l (ek l (if bt l 0 = 45 then 1 else 0)) = 43 ∨ bt l (ek l (if bt l 0 = 45 then 1 else 0)) = 45)
  · left; unfold rgp; rw [if_pos h1]
  by_cases h2 : ek l (ek l (if bt l 0 = 45 then 1 else 0) + 1) + 1 ≠ l.length ∨ bt l (ek l (ek l (if bt l 0 = 45 then 1 else 0) + 1)) ≠ 105
  · left; unfold rgp; rw [if_neg h1, if_pos h2]
  right
  obtain ⟨i, hi⟩ : ∃ i : Nat, (if bt l 0 = 45 then 1 else 0) = i := ⟨_, rfl⟩
  rw [hi] at h1 h2
  have g1 : ek l i < l.length := by omega
  have g2 : bt l (ek l i) = 43 ∨ bt l (ek l i) = 45 := by
    by_cases h : bt l (ek l i) = 43 ∨ bt l (ek l i) = 45
    · exact h
    · exact absurd (Or.inr h) h1
  have g3 : ek l (ek l i + 1) + 1 = l.length := by omega
  have g4 : bt l (ek l (ek l i + 1)) = 105 := by omega
  have hil : i ≤ l.length := by unfold ek at g1; omega
  obtain ⟨dx, t, e1, e2, e3, _⟩ := ek_split l i
  obtain ⟨d, u, f1, f2, f3, _⟩ := ek_split l (ek l i + 1)
  obtain ⟨k, hk⟩ : ∃ k, ek l i = k := ⟨_, rfl⟩
  rw [hk] at f1 f3 g1 g2 g3 g4 e3
  have hm : l.take i = if decide (i = 1) then [45] else [] := by
    by_cases h0 : bt l 0 = 45
    · rw [if_pos h0] at hi
      subst hi
      match l, hil with
      | y :: t, _ =>
        rw [bt_zero] at h0
        have : y = 45 := bt_ne (n := 45) h0 (by omega)
        subst this
        simp
    · rw [if_neg h0] at hi
      subst hi
      simp
  have hc : l[k]? = some l[k] := List.getElem?_eq_getElem g1
  have hbk := bt_eq l k g1
  have tk : l.take k = l.take i ++ dx := by
    rw [e3, List.take_add, e1, List.take_left]
  have hu : u = [105] := by
    have hl := congrArg List.length f1
    rw [List.length_drop, List.length_append] at hl
    have hu1 : u.length = 1 := by omega
    match u, hu1 with
    | [y], _ =>
      have hb := bt_app_r (l.take (k + 1) ++ d) [y] 0
      have e5 : (l.take (k + 1) ++ d).length = k + 1 + d.length := by simp; omega
      rw [List.append_assoc, ← f1, List.take_append_drop, Nat.add_zero, e5, ← f3, g4, bt_zero] at hb
      rw [bt_ne (n := 105) hb.symm (by omega)]
      rfl
  refine ⟨decide (i = 1), dx, l[k], d, pv ((l.take (ek l (k + 1))).drop (if bt l k = 43 then k + 1 else k)), ?_, e2, ?_, f2, ?_⟩
  · have r1 : rgp l = pairUp (pv (l.take k)) (pv ((l.take (ek l (k + 1))).drop (if bt l k = 43 then k + 1 else k))) := by
      unfold rgp
      rw [hi, hk, if_neg (fun h => h.elim (fun h => by omega) (fun h => h g2)), if_neg (fun h => h.elim (fun h => by omega) (fun h => h g4))]
    rw [r1, tk, hm]
  · rw [hbk] at g2
    rcases g2 with g | g
    · left; exact bt_ne (n := 43) g (by omega)
    · right; exact bt_ne (n := 45) g (by omega)
  · rw [← hm, ← tk]
    rw [hu] at f1
    have := List.take_append_drop (k + 1) l
    rw [f1, List.take_succ_eq_append_getElem g1] at this
    exact this.symm.trans (by rw [List.append_assoc, List.append_assoc]; rfl)

theorem gp_none (l : List UInt8) (h : ¬ ∃ (n : Bool) (dx : List UInt8) (c : UInt8) (d : List UInt8), dx ≠ [] ∧ dx.all isDig = true ∧ (c = 43 ∨ c = 45) ∧ d.all isDig = true ∧ l = ((if n then [45] else []) ++ dx) ++ c :: d ++ [105]) : gp l = (0, 0, 2) := by
  by_cases hl : l.getLast? = some 105
  rotate_left
  · exact gp_no l hl
  obtain ⟨b, rfl⟩ : ∃ b, l = b ++ [105] := by
    refine ⟨l.dropLast, ?_⟩
    cases l with
    | nil => simp at hl
    | cons x t =>
      have hd := List.dropLast_concat_getLast (l := x :: t) (by simp)
      rw [List.getLast?_eq_some_getLast (by simp)] at hl
      rw [Option.some.inj hl] at hd
      exact hd.symm
  rw [gp_yes]
  by_cases hs : lastSign b < 1
  · rw [if_pos hs]
  rw [if_neg hs]
  rcases lsu_spec b b.length with ⟨h1, _⟩ | ⟨j, h1, h2, h3, h4⟩
  · exfalso; unfold lastSign at hs; omega
  have hj : lastSign b = j := h1
  rw [hj, Int.toNat_natCast]
  by_cases p2 : (pv (b.take j)).2 = 2
  · simp [pairUp, p2]
  by_cases q2 : (pv (second b j)).2 = 2
  · simp [pairUp, q2]
  exfalso
  apply h
  obtain ⟨dx, x1, x2, x3⟩ := pv_form _ p2
  obtain ⟨d, y1, y2, y3⟩ := pv_form _ q2
  have hx : ∃ n : Bool, b.take j = (if n then [45] else []) ++ dx := by
    rcases x3 with ⟨h5, _⟩ | ⟨h5, _⟩
    · exact ⟨false, h5⟩
    · exact ⟨true, h5⟩
  obtain ⟨n, hn⟩ := hx
  have hb : b = b.take j ++ b[j] :: b.drop (j + 1) := by
    rw [← List.drop_eq_getElem_cons h2, List.take_append_drop]
  have hbj := bt_eq b j h2
  have hsm := second_minus b j h2 h4
  unfold second at y3 hsm
  rcases h3 with g | g
  · have hc : b[j] = 43 := bt_ne (n := 43) (by rw [← hbj, g]; rfl) (by omega)
    rw [if_pos g] at y3 hsm
    have hd : b.drop (j + 1) = d := by
      rcases y3 with ⟨h5, _⟩ | ⟨h5, _⟩
      · exact h5
      · exfalso
        have := hsm g
        rw [h5] at this
        simp [Lib.hasPrefix] at this
    exact ⟨n, dx, 43, d, x1, x2, Or.inl rfl, y2, by rw [hc, hd, hn] at hb; rw [← hb]⟩
  · have hc : b[j] = 45 := bt_ne (n := 45) (by rw [← hbj, g]; rfl) (by omega)
    rw [if_neg (by omega), List.drop_eq_getElem_cons h2, hc] at y3
    have hd : b.drop (j + 1) = d := by
      rcases y3 with ⟨h5, _⟩ | ⟨h5, _⟩
      · exfalso
        rw [← h5] at y2
        simp [neg_dig] at y2
      · simpa using h5
    exact ⟨n, dx, 45, d, x1, x2, Or.inr rfl, y2, by rw [hc, hd, hn] at hb; rw [← hb]⟩

/-- The document's answer is gauss.Parse's. -/
theorem rgp_eq (l : List UInt8) : rgp l = gp l := by
  by_cases h : ∃ (n : Bool) (dx : List UInt8) (c : UInt8) (d : List UInt8), dx ≠ [] ∧ dx.all isDig = true ∧ (c = 43 ∨ c = 45) ∧ d.all isDig = true ∧ l = ((if n then [45] else []) ++ dx) ++ c :: d ++ [105]
  · obtain ⟨n, dx, c, d, h1, h2, h3, h4, rfl⟩ := h
    rw [rgp_shape n dx c d h2 h3 h4 (fun _ => h1), gp_shape _ c d h3 h4]
  · rw [gp_none l h]
    rcases rgp_cases l with h1 | ⟨n, dx, c, d, q, h1, h2, h3, h4, h5⟩
    · exact h1
    · by_cases hd : dx = []
      · subst hd
        rw [h1]
        cases n <;> simp [pairUp, pv]
      · exact absurd ⟨n, dx, c, d, hd, h2, h3, h4, h5⟩ h

/-- What is read has just this text. -/
theorem gtxt_gp (l : List UInt8) (x y : Int) (h : gp l = (x, y, 0)) : gtxt x y = l := by
  by_cases hs : ∃ (n : Bool) (dx : List UInt8) (c : UInt8) (d : List UInt8), dx ≠ [] ∧ dx.all isDig = true ∧ (c = 43 ∨ c = 45) ∧ d.all isDig = true ∧ l = ((if n then [45] else []) ++ dx) ++ c :: d ++ [105]
  rotate_left
  · rw [gp_none l hs] at h
    simp at h
  obtain ⟨n, dx, c, d, h1, h2, h3, h4, rfl⟩ := hs
  rw [gp_shape _ c d h3 h4] at h
  generalize hm : (if n then [45] else []) ++ dx = m at h ⊢
  have key : ∀ p q : Int × Int, pairUp p q = (x, y, 0) → p.2 = 0 ∧ q.2 = 0 ∧ p.1 = P24 p.1 ∧ q.1 = P24 q.1 ∧ p.1 = x ∧ q.1 = y := by
    intro p q hpq
    unfold pairUp at hpq
    split at hpq
    · simp at hpq
    split at hpq
    · simp at hpq
    rename_i g1 g2
    simp only [Prod.mk.injEq, and_true] at hpq
    exact ⟨Classical.byContradiction fun e => g2 (Or.inl e), Classical.byContradiction fun e => g2 (Or.inr (Or.inl e)), Classical.byContradiction fun e => g2 (Or.inr (Or.inr (Or.inl e))), Classical.byContradiction fun e => g2 (Or.inr (Or.inr (Or.inr e))), hpq.1, hpq.2⟩
  obtain ⟨e1, e2, e3, e4, rfl, rfl⟩ := key _ _ h
  have t1 := pv_canon m (pv m).1 (by rw [← e1])
  have t2 := pv_canon (if c = 43 then d else c :: d) (pv (if c = 43 then d else c :: d)).1 (by rw [← e2])
  unfold gtxt
  rw [← e3, ← e4, t1, t2]
  have sg : (pv (if c = 43 then d else c :: d)).1 < 0 ↔ c = 45 := by
    constructor
    · intro hlt
      rcases h3 with rfl | rfl
      · exfalso
        rw [if_pos rfl] at hlt t2
        unfold txt at t2
        rw [if_pos hlt] at t2
        rw [← t2] at h4
        simp [neg_dig] at h4
      · rfl
    · intro hc
      subst hc
      rw [if_neg (by decide)] at t2 ⊢
      unfold txt at t2
      by_cases hlt : (pv (45 :: d)).1 < 0
      · exact hlt
      · rw [if_neg hlt] at t2
        have hd := (dec_spec (pv (45 :: d)).1.natAbs (by rw [if_neg (by decide)] at e4; have := p24_bd (pv (45 :: d)).1; omega)).1
        rw [t2] at hd
        simp [neg_dig] at hd
  rcases h3 with rfl | rfl
  · rw [if_neg (by rw [sg]; decide), if_pos rfl]; simp
  · rw [if_pos (sg.2 rfl), if_neg (by decide)]; simp
end Go.Proofs.YtoagnjnkgecmkaaDoor
