/- Tokens, part ZG: notes and blanks play no part: all tokens. -/
import Derived.Test.YtogalfbemmcaaaaDoorLexZF
namespace Go.Proofs.YtogalfbemmcaaaaDoor
open Go.RowKit

theorem sk_stop : ∀ (u : List UInt8) (g : Bool), sk g u < u.length → bt u (sk g u) ≠ 10
  | [], g, h => by simp at h
  | c :: r, g, h => by
    rw [sk_cons] at h ⊢
    split
    · rename_i hp
      rw [if_pos hp] at h
      have := sk_stop r (skG c.toNat g) (by simp at h; omega)
      exact this
    · rename_i hp
      show (c.toNat : Int) ≠ 10
      intro e
      rw [e] at hp
      exact hp (by simp [skP])
/-- A token without its place. -/
def kx (t : Tok) : Int × Int × List UInt8 := (t.k, t.n, t.x)
theorem nlW_pos (note u : List UInt8) : 0 < (nlW note u).length := by
  unfold nlW nlE; simp; omega
theorem lexA_T {note : List UInt8} (hn : ∀ c ∈ note, c ≠ 10) : ∀ (m : Nat) {s t : List UInt8} {i i' : Nat} {p p' : Int × Int} {acc acc' : List Tok} {m' : Nat} {b : List UInt8}, i ≤ s.length → i' ≤ t.length → t.drop i' = b ++ nlW note (s.drop i) → (∀ c ∈ b, c = 32 ∨ c = 9) → acc'.map kx = acc.map kx →
    s.length < m + i → t.length < m' + i' → (lexA m s i p acc).1.1 = 0 → (lexA m' t i' p' acc').1.1 = 0 ∧ (lexA m' t i' p' acc').2.map kx = (lexA m s i p acc).2.map kx
  | 0, s, t, i, i', p, p', acc, acc', m', b, hi, hi', hw, hb, ha, hm, hm', h => by omega
  | m + 1, s, t, i, i', p, p', acc, acc', m', b, hi, hi', hw, hb, ha, hm, hm', h => by
    obtain ⟨m', rfl⟩ : ∃ q, m' = q + 1 := ⟨m' - 1, by omega⟩
    have hst : ski false t i' = b.length + sk false (nlW note (s.drop i)) := by unfold ski; rw [hw, sk_blank hb]
    have hlen := congrArg List.length hw
    rw [List.length_drop, List.length_append] at hlen
    have hsl : (s.drop i).length = s.length - i := List.length_drop
    have hsk : ski false s i = sk false (s.drop i) := rfl
    rw [lexA] at h
    rw [lexA, lexA]
    rcases sk_T hn (s.drop i) false with ⟨h1, h2⟩ | ⟨h1, h2⟩
    · have hj : i + ski false s i < s.length := by omega
      have h10 : bt s (i + ski false s i) ≠ 10 := by
        have := sk_stop (s.drop i) false h1
        rw [bt_drop] at this
        exact this
      have hw' : t.drop (i' + ski false t i') = nlW note (s.drop (i + ski false s i)) := by
        rw [hst, h2, ← Nat.add_assoc, ← List.drop_drop, ← List.drop_drop, hw, List.drop_left, nlW_drop, List.drop_drop, hsk]
      have hj' : i' + ski false t i' < t.length := by
        have := congrArg List.length hw'
        rw [List.length_drop] at this
        have := nlW_pos note (s.drop (i + ski false s i))
        omega
      rw [if_neg (by omega)] at h
      rw [if_neg (show ¬ t.length ≤ i' + ski false t i' by omega), if_neg (show ¬ s.length ≤ i + ski false s i by omega)]
      split at h
      · rename_i hf
        obtain ⟨o1, o2, _⟩ := one_ok hj hf
        obtain ⟨e1, e2, e3, e4, e5, e6⟩ := one_T hj hw' h10 hf
        have hle : (one t (i' + ski false t i')).e ≤ t.length := by
          have := congrArg List.length e6
          rw [List.length_drop] at this
          have := nlW_pos note (s.drop (one s (i + ski false s i)).e)
          omega
        rw [if_pos e1, if_pos hf]
        exact lexA_T hn m (b := []) o2 hle e6 (fun c hc => by cases hc) (by simp [ha, kx, e2, e3, e4]) (by omega) (by omega) h
      · rename_i hf
        exact absurd h hf
    · have hj : s.length ≤ i + ski false s i := by omega
      have hj' : t.length ≤ i' + ski false t i' := by rw [hst, h2]; omega
      rw [if_pos hj, if_pos hj']
      exact ⟨rfl, by simp [ha, kx]⟩
/-- The tokens of a text, and of the text with notes and blanks. -/
theorem lex_notes {note s : List UInt8} (hn : ∀ c ∈ note, c ≠ 10) (h : (lexAll s).1.1 = 0) : (lexAll ([32, 9] ++ nlT note s ++ nlE note)).1.1 = 0 ∧ (lexAll ([32, 9] ++ nlT note s ++ nlE note)).2.map kx = (lexAll s).2.map kx := by
  unfold lexAll at h ⊢
  refine lexA_T hn (s.length + 1) (b := [32, 9]) (by omega) (by omega) (by simp [nlW]) (fun c hc => by simpa using hc) rfl (by omega) (by omega) h
end Go.Proofs.YtogalfbemmcaaaaDoor
