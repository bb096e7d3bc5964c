/- Tokens, part M: literals, one token, all tokens: plain. -/
import Derived.Test.YtogalfbemmcaaaaDoorLexL
namespace Go.Proofs.YtogalfbemmcaaaaDoor
open Go.RowKit

/-- A hexadecimal digit's value; below 0: it is none. -/
def hx (b : Int) : Int := if 48 ≤ b ∧ b ≤ 57 then b - 48 else if 97 ≤ b ∧ b ≤ 102 then b - 87 else if 65 ≤ b ∧ b ≤ 70 then b - 55 else -1
def ub (n : Int) : UInt8 := UInt8.ofNat n.toNat
/-- A literal, from a place within it on: its bytes, where it ends. -/
def rdA : Nat → List UInt8 → Nat → List UInt8 → Option (List UInt8 × Nat)
  | 0, _, _, _ => none
  | n + 1, s, i, acc =>
    if s.length ≤ i ∨ bt s i < 32 ∨ 126 < bt s i then none
    else if bt s i = 34 then some (acc, i + 1)
    else if bt s i ≠ 92 then rdA n s (i + 1) (acc ++ [ub (bt s i)])
    else if s.length ≤ i + 1 then none
    else if bt s (i + 1) = 34 ∨ bt s (i + 1) = 92 then rdA n s (i + 2) (acc ++ [ub (bt s (i + 1))])
    else if bt s (i + 1) = 110 then rdA n s (i + 2) (acc ++ [10])
    else if bt s (i + 1) = 116 then rdA n s (i + 2) (acc ++ [9])
    else if bt s (i + 1) = 120 then
      if i + 3 < s.length ∧ 0 ≤ hx (bt s (i + 2)) ∧ 0 ≤ hx (bt s (i + 3)) then rdA n s (i + 4) (acc ++ [ub (16 * hx (bt s (i + 2)) + hx (bt s (i + 3)))]) else none
    else none
/-- The literal that a text begins with: its bytes, how many the text's are. -/
def rdq (s : List UInt8) : Option (List UInt8 × Nat) := if s.length = 0 ∨ bt s 0 ≠ 34 then none else rdA s.length s 1 []
theorem hx_pr {b : Int} (h : 0 ≤ hx b) : 32 ≤ b ∧ b ≤ 126 := by
  unfold hx at h; split at h
  · omega
  · split at h
    · omega
    · split at h <;> omega
theorem rdA_some : ∀ (n : Nat) {s : List UInt8} {i : Nat} {acc t : List UInt8} {e : Nat}, rdA n s i acc = some (t, e) → i < e ∧ e ≤ s.length ∧ ∀ j, i ≤ j → j < e → bt s j ≠ 10
  | 0, s, i, acc, t, e, h => by cases h
  | n + 1, s, i, acc, t, e, h => by
    have two : ∀ {a : Nat} {x : List UInt8}, 32 ≤ bt s i → i < s.length → (∀ j, i < j → j < a → bt s j ≠ 10) → i < a → rdA n s a x = some (t, e) → i < e ∧ e ≤ s.length ∧ ∀ j, i ≤ j → j < e → bt s j ≠ 10 := by
      intro a x h1 h2 h3 h4 h5
      obtain ⟨r1, r2, r3⟩ := rdA_some n h5
      refine ⟨by omega, r2, fun j j1 j2 => ?_⟩
      rcases Nat.lt_or_ge j a with ha | ha
      · by_cases hj : j = i
        · subst hj; omega
        · exact h3 j (by omega) ha
      · exact r3 j ha j2
    rw [rdA] at h
    split at h
    · cases h
    · rename_i h0
      have h0' : i < s.length ∧ 32 ≤ bt s i := by omega
      split at h
      · cases h; exact ⟨by omega, by omega, fun j j1 j2 => by rw [show j = i by omega]; omega⟩
      · split at h
        · exact two h0'.2 h0'.1 (fun j j1 j2 => by omega) (by omega) h
        · split at h
          · cases h
          · split at h
            · exact two h0'.2 h0'.1 (fun j j1 j2 => by rw [show j = i + 1 by omega]; omega) (by omega) h
            · split at h
              · exact two h0'.2 h0'.1 (fun j j1 j2 => by rw [show j = i + 1 by omega]; omega) (by omega) h
              · split at h
                · exact two h0'.2 h0'.1 (fun j j1 j2 => by rw [show j = i + 1 by omega]; omega) (by omega) h
                · split at h
                  · split at h
                    · rename_i hx3
                      have e2 := hx_pr hx3.2.1
                      have e3 := hx_pr hx3.2.2
                      exact two h0'.2 h0'.1 (fun j j1 j2 => by
                        rcases (by omega : j = i + 1 ∨ j = i + 2 ∨ j = i + 3) with rfl | rfl | rfl <;> omega) (by omega) h
                    · cases h
                  · cases h
theorem bt_take (s : List UInt8) (e j : Nat) (h : j < e) : bt (s.take e) j = bt s j := by
  unfold bt; simp [List.getD_eq_getElem?_getD, h]
theorem rdA_take : ∀ (n : Nat) {s : List UInt8} {i : Nat} {acc t : List UInt8} {e : Nat}, rdA n s i acc = some (t, e) → rdA n (s.take e) i acc = some (t, e)
  | 0, s, i, acc, t, e, h => by cases h
  | n + 1, s, i, acc, t, e, h => by
    obtain ⟨a1, a2, _⟩ := rdA_some (n + 1) h
    have hl : (s.take e).length = e := by rw [List.length_take]; omega
    have b0 : bt (s.take e) i = bt s i := bt_take s e i a1
    rw [rdA] at h ⊢
    rw [hl, b0]
    split at h
    · cases h
    · rename_i h0
      rw [if_neg (by omega)]
      split at h
      · rename_i h1; rw [if_pos h1]; exact h
      · rename_i h1
        rw [if_neg h1]
        split at h
        · rename_i h2; rw [if_pos h2]; exact rdA_take n h
        · rename_i h2
          rw [if_neg h2]
          split at h
          · cases h
          · rename_i h3
            split at h
            · rename_i h4
              have := (rdA_some n h).1
              rw [if_neg (by omega), bt_take s e (i + 1) (by omega), if_pos h4]; exact rdA_take n h
            · rename_i h4
              split at h
              · rename_i h5
                have := (rdA_some n h).1
                rw [if_neg (by omega), bt_take s e (i + 1) (by omega), if_neg h4, if_pos h5]; exact rdA_take n h
              · rename_i h5
                split at h
                · rename_i h6
                  have := (rdA_some n h).1
                  rw [if_neg (by omega), bt_take s e (i + 1) (by omega), if_neg h4, if_neg h5, if_pos h6]; exact rdA_take n h
                · rename_i h6
                  split at h
                  · rename_i h7
                    split at h
                    · rename_i h8
                      have := (rdA_some n h).1
                      rw [if_neg (by omega), bt_take s e (i + 1) (by omega), if_neg h4, if_neg h5, if_neg h6, if_pos h7, bt_take s e (i + 2) (by omega), bt_take s e (i + 3) (by omega), if_pos ⟨by omega, h8.2⟩]; exact rdA_take n h
                    · cases h
                  · cases h
theorem rdA_fuel : ∀ (n m : Nat) {s : List UInt8} {i : Nat} {acc : List UInt8}, s.length < n + i → s.length < m + i → rdA n s i acc = rdA m s i acc
  | 0, 0, s, i, acc, _, _ => rfl
  | 0, m + 1, s, i, acc, h, _ => by rw [rdA, rdA, if_pos (.inl (by omega))]
  | n + 1, 0, s, i, acc, _, h => by rw [rdA, rdA, if_pos (.inl (by omega))]
  | n + 1, m + 1, s, i, acc, h1, h2 => by
    rw [rdA, rdA, rdA_fuel n m (by omega) (by omega), rdA_fuel n m (i := i + 2) (by omega) (by omega), rdA_fuel n m (i := i + 2) (acc := acc ++ [10]) (by omega) (by omega), rdA_fuel n m (i := i + 2) (acc := acc ++ [9]) (by omega) (by omega), rdA_fuel n m (i := i + 4) (by omega) (by omega)]
theorem rdq_some {s t : List UInt8} {e : Nat} (h : rdq s = some (t, e)) : 1 < e ∧ e ≤ s.length ∧ ∀ j, j < e → bt s j ≠ 10 := by
  unfold rdq at h
  split at h
  · cases h
  · obtain ⟨r1, r2, r3⟩ := rdA_some _ h
    refine ⟨r1, r2, fun j hj => ?_⟩
    by_cases h0 : j = 0
    · subst h0; omega
    · exact r3 j (by omega) hj
/-- What is read is a literal by itself. -/
theorem rdq_take {s t : List UInt8} {e : Nat} (h : rdq s = some (t, e)) : rdq (s.take e) = some (t, e) := by
  obtain ⟨r1, r2, _⟩ := rdq_some h
  unfold rdq at h ⊢
  have hl : (s.take e).length = e := by rw [List.length_take]; omega
  split at h
  · cases h
  · rename_i h0
    rw [hl, bt_take s e 0 (by omega), if_neg (by omega), rdA_fuel e s.length (by omega) (by omega)]
    exact rdA_take _ h

/-- One token: the fault, the kind, the text, the number, where it ends. -/
structure Tk1 where
  f : Int
  k : Int
  x : List UInt8
  n : Int
  e : Nat
def one (s : List UInt8) (i : Nat) : Tk1 :=
  if kdi (bt s i) = 1 ∨ kdi (bt s i) = 2 then ⟨0, nameK (bt s i) (sub s i (i + rn inB s i)), sub s i (i + rn inB s i), 0, i + rn inB s i⟩
  else if kdi (bt s i) = 3 then ⟨(nm s i).1, (nm s i).2.1, [], (nm s i).2.2.1, (nm s i).2.2.2⟩
  else if bt s i = 34 then (match rdq (s.drop i) with | some (t, n) => ⟨0, 5, t, 0, i + n⟩ | none => ⟨4, 0, [], 0, 0⟩)
  else if sg (s.drop i) = [] then ⟨4, 0, [], 0, 0⟩ else ⟨0, 7, sg (s.drop i), 0, i + (sg (s.drop i)).length⟩
/-- A token. -/
structure Tok where
  k : Int
  l : Int
  c : Int
  n : Int
  x : List UInt8
  deriving DecidableEq
def Tok.cs (t : Tok) : List Value := [.int .u8 t.k, .int .i64 t.l, .int .i64 t.c, .int .i64 t.n, .string (B t.x)]
def tcs (l : List Tok) : List Value := l.flatMap Tok.cs
theorem tcs_len (l : List Tok) : (tcs l).length = l.length * 5 := by
  induction l with
  | nil => rfl
  | cons a l ih => rw [tcs, List.flatMap_cons, List.length_append, ← tcs, ih]; simp [Tok.cs]; omega
theorem tcs_app (l m : List Tok) : tcs (l ++ m) = tcs l ++ tcs m := by simp [tcs]
theorem tcs_one (t : Tok) : tcs [t] = t.cs := by simp [tcs]
def lexA : Nat → List UInt8 → Nat → Int × Int → List Tok → (Int × Int × Int) × List Tok
  | 0, _, _, _, acc => ((0, 0, 0), acc)
  | m + 1, s, i, p, acc =>
    if s.length ≤ i + ski false s i then ((0, 0, 0), acc ++ [⟨8, (adv p (sub s i (i + ski false s i))).1, (adv p (sub s i (i + ski false s i))).2, 0, []⟩])
    else if (one s (i + ski false s i)).f = 0 then
      lexA m s (one s (i + ski false s i)).e (adv p (sub s i (one s (i + ski false s i)).e))
        (acc ++ [⟨(one s (i + ski false s i)).k, (adv p (sub s i (i + ski false s i))).1, (adv p (sub s i (i + ski false s i))).2, (one s (i + ski false s i)).n, (one s (i + ski false s i)).x⟩])
    else (((one s (i + ski false s i)).f, (adv p (sub s i (i + ski false s i))).1, (adv p (sub s i (i + ski false s i))).2), [])
def lexAll (s : List UInt8) : (Int × Int × Int) × List Tok := lexA (s.length + 1) s 0 (1, 1) []
theorem kdi10 : kdi 10 = 0 := by decide
theorem find_nl {f : List UInt8 → Bool} {x : List UInt8} (h : allSigns.find? f = some x) : ∀ j, j < x.length → bt x j ≠ 10 := by
  have hm := List.mem_of_find?_eq_some h
  have hall : allSigns.all (fun x => decide (∀ j, j < x.length → bt x j ≠ 10)) = true := by decide +kernel
  simpa using List.all_eq_true.1 hall x hm
theorem bt_app_left (a b : List UInt8) {j : Nat} (h : j < a.length) : bt (a ++ b) j = bt a j := by
  unfold bt; simp [List.getD_eq_getElem?_getD, List.getElem?_append_left h]
theorem sg_ok {s : List UInt8} {i : Nat} (h : sg (s.drop i) ≠ []) : i + (sg (s.drop i)).length ≤ s.length ∧ ∀ j, i ≤ j → j < i + (sg (s.drop i)).length → bt s j ≠ 10 := by
  unfold sg at h ⊢
  cases hf : allSigns.find? (fun p => p.isPrefixOf (s.drop i)) with
  | none => rw [hf] at h; exact absurd rfl h
  | some x =>
    have h1 := (find_mem hf).2.2
    have h2 := find_nl hf
    obtain ⟨t, ht⟩ := List.isPrefixOf_iff_prefix.1 h1
    have hl := congrArg List.length ht
    rw [List.length_append, List.length_drop] at hl
    have hp := (find_mem hf).1
    have hp' : 0 < x.length := List.length_pos_iff.2 hp
    simp only [Option.getD_some]
    refine ⟨by omega, fun j j1 j2 => ?_⟩
    have := h2 (j - i) (by omega)
    rw [← bt_app_left x t (by omega), ht, bt_drop, show i + (j - i) = j by omega] at this
    exact this
theorem nfin_ok {k most : Int} {d : List UInt8} {e : Nat} (h : (nfin k most d e).1 = 0) : (nfin k most d e).2.2.2 = e := by
  unfold nfin at h ⊢
  split
  · rfl
  · rename_i h1; rw [if_neg h1] at h; exact absurd h (by decide)
theorem one_ok {s : List UInt8} {i : Nat} (hi : i < s.length) (h : (one s i).f = 0) : i < (one s i).e ∧ (one s i).e ≤ s.length ∧ ∀ j, i ≤ j → j < (one s i).e → bt s j ≠ 10 := by
  have flat : ∀ {p : Int → Bool}, p 10 = false → ∀ j, i ≤ j → j < i + rn p s i → bt s j ≠ 10 := fun hp j j1 j2 e => by
    have := (rn_in j1 j2).2
    rw [e, hp] at this; cases this
  unfold one at h ⊢
  split
  · rename_i hk
    have hin : inB (bt s i) = true := by simp only [inB, decide_eq_true_eq]; omega
    have := rn_yes (p := inB) hi hin
    exact ⟨by simp only; omega, rn_le (by omega), flat (by decide)⟩
  · rename_i h1
    rw [if_neg h1] at h
    split
    · rename_i h2
      rw [if_pos h2] at h
      have hdg : dgB (bt s i) = true := by simp only [dgB, decide_eq_true_eq]; exact h2
      have hy := rn_yes (p := dgB) hi hdg
      have hle := rn_le (p := dgB) (s := s) (i := i) (by omega)
      have hfl := flat (p := dgB) (by decide)
      simp only at h ⊢
      unfold nm at h ⊢
      split
      · rename_i h3
        rw [if_pos h3] at h
        rw [nfin_ok h]
        exact ⟨by omega, hle, hfl⟩
      · rename_i h3
        rw [if_neg h3] at h
        split
        · rename_i h4
          rw [if_pos h4] at h
          rw [nfin_ok h]
          have hlt : i + rn dgB s i < s.length := by
            by_cases hq : i + rn dgB s i < s.length
            · exact hq
            · exact absurd (rn_end (by omega)) h3
          refine ⟨by omega, by omega, fun j j1 j2 => ?_⟩
          by_cases hj : j = i + rn dgB s i
          · subst hj; omega
          · exact hfl j j1 (by omega)
        · rename_i h4
          rw [if_neg h4] at h; exact absurd h (by decide)
    · rename_i h2
      rw [if_neg h2] at h
      split
      · rename_i h3
        rw [if_pos h3] at h
        cases hq : rdq (s.drop i) with
        | none => rw [hq] at h; simp at h
        | some r =>
          obtain ⟨t, n⟩ := r
          obtain ⟨r1, r2, r3⟩ := rdq_some hq
          rw [List.length_drop] at r2
          refine ⟨by simp only; omega, by simp only; omega, fun j j1 j2 => ?_⟩
          have := r3 (j - i) (by simp only at j2; omega)
          rw [bt_drop, show i + (j - i) = j by omega] at this
          exact this
      · rename_i h3
        rw [if_neg h3] at h
        split
        · rename_i h4; rw [if_pos h4] at h; exact absurd h (by decide)
        · rename_i h4
          obtain ⟨r1, r2⟩ := sg_ok h4
          have : 0 < (sg (s.drop i)).length := List.length_pos_iff.2 h4
          exact ⟨by simp only; omega, r1, r2⟩
/-- The place behind a token. -/
theorem one_adv {s : List UInt8} {i j : Nat} (p : Int × Int) (hij : i ≤ j) (hj : j < s.length) (h : (one s j).f = 0) :
    adv p (sub s i (one s j).e) = ((adv p (sub s i j)).1, (adv p (sub s i j)).2 + ((one s j).e : Int) - j) := by
  obtain ⟨h1, h2, h3⟩ := one_ok hj h
  rw [sub_sub s hij (Nat.le_of_lt h1) h2, adv_app]
  obtain ⟨n, hn⟩ := Nat.exists_eq_add_of_le (Nat.le_of_lt h1)
  rw [hn] at h2 h3 ⊢
  rw [adv_flat _ s h2 h3]
  simp; omega
end Go.Proofs.YtogalfbemmcaaaaDoor
