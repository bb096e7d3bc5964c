/- Tokens, part ZF: notes and blanks play no part: plain. -/
import Derived.Test.YtogalfbemmcaaaaDoorLexM
namespace Go.Proofs.YtogalfbemmcaaaaDoor
open Go.RowKit

/-- Each line feed with a note ahead of it, and blanks behind. -/
def nlG (note : List UInt8) (c : UInt8) : List UInt8 := if c = 10 then 32 :: 35 :: (note ++ [10, 32, 9]) else [c]
def nlT (note u : List UInt8) : List UInt8 := u.flatMap (nlG note)
def nlE (note : List UInt8) : List UInt8 := 32 :: 35 :: note
def nlW (note u : List UInt8) : List UInt8 := nlT note u ++ nlE note
theorem nlW_nil (note : List UInt8) : nlW note [] = nlE note := rfl
theorem nlW_nl (note r : List UInt8) : nlW note (10 :: r) = 32 :: 35 :: (note ++ 10 :: 32 :: 9 :: nlW note r) := by
  simp [nlW, nlT, nlG]
theorem nlW_no (note r : List UInt8) {c : UInt8} (h : c ≠ 10) : nlW note (c :: r) = c :: nlW note r := by
  simp [nlW, nlT, nlG, h]
theorem u8_10 {c : UInt8} : (c.toNat : Int) = 10 ↔ c = 10 := by
  constructor
  · intro h; exact UInt8.toNat_inj.1 (by have : c.toNat = 10 := by omega
                                         simpa using this)
  · rintro rfl; rfl
theorem sk_cons (g : Bool) (c : UInt8) (t : List UInt8) : sk g (c :: t) = if skP c.toNat (skG c.toNat g) then sk (skG c.toNat g) t + 1 else 0 := rfl
theorem sk_note {note : List UInt8} (hn : ∀ c ∈ note, c ≠ 10) (w : List UInt8) : sk true (note ++ w) = note.length + sk true w := by
  induction note with
  | nil => simp
  | cons c r ih =>
    have h1 : (c.toNat : Int) ≠ 10 := fun h => hn c (by simp) (u8_10.1 h)
    have h2 : skG c.toNat true = true := by simp [skG, h1]
    rw [List.cons_append, sk_cons, h2, if_pos (by simp [skP]), ih (fun d hd => hn d (by simp [hd]))]
    simp; omega
theorem sk_head (g : Bool) (note w : List UInt8) : sk g (32 :: 35 :: w) = 2 + sk true w := by
  rw [sk_cons, sk_cons]
  cases g
  · rw [show skG (UInt8.toNat 32) false = false from by decide, if_pos (by decide), show skG (UInt8.toNat 35) false = true from by decide, if_pos (by decide)]; omega
  · rw [show skG (UInt8.toNat 32) true = true from by decide, if_pos (by decide), show skG (UInt8.toNat 35) true = true from by decide, if_pos (by decide)]; omega
theorem sk_end {note : List UInt8} (hn : ∀ c ∈ note, c ≠ 10) (g : Bool) : sk g (nlE note) = (nlE note).length := by
  unfold nlE
  rw [sk_head g note, ← List.append_nil note, sk_note hn]
  simp [sk]; omega
theorem sk_nl {note : List UInt8} (hn : ∀ c ∈ note, c ≠ 10) (g : Bool) (w : List UInt8) : sk g (32 :: 35 :: (note ++ 10 :: 32 :: 9 :: w)) = (nlG note 10).length + sk false w := by
  rw [sk_head g note, sk_note hn, sk_cons, show skG (UInt8.toNat 10) true = false from by decide, if_pos (by decide), sk_cons, show skG (UInt8.toNat 32) false = false from by decide, if_pos (by decide), sk_cons, show skG (UInt8.toNat 9) false = false from by decide, if_pos (by decide)]
  simp [nlG]; omega
theorem sk_10 (g : Bool) (r : List UInt8) : sk g (10 :: r) = sk false r + 1 := by
  rw [sk_cons, show skG (UInt8.toNat 10) g = false from by cases g <;> decide, if_pos (by decide)]
/-- What is skipped: the same bytes, changed; at the end, all. -/
theorem sk_T {note : List UInt8} (hn : ∀ c ∈ note, c ≠ 10) : ∀ (u : List UInt8) (g : Bool), (sk g u < u.length ∧ sk g (nlW note u) = (nlT note (u.take (sk g u))).length) ∨ (sk g u = u.length ∧ sk g (nlW note u) = (nlW note u).length)
  | [], g => .inr ⟨rfl, sk_end hn g⟩
  | c :: r, g => by
    by_cases hc : c = 10
    · subst hc
      rw [nlW_nl, sk_nl hn, sk_10]
      rcases sk_T hn r false with ⟨h1, h2⟩ | ⟨h1, h2⟩
      · refine .inl ⟨by first | (simp; done) | (simp; omega), ?_⟩
        rw [h2, List.take_succ_cons]
        simp [nlT, nlG]; omega
      · refine .inr ⟨by first | (simp; done) | (simp; omega), ?_⟩
        rw [h2]; simp [nlG]; omega
    · rw [nlW_no _ _ hc, sk_cons, sk_cons]
      split
      · rcases sk_T hn r (skG c.toNat g) with ⟨h1, h2⟩ | ⟨h1, h2⟩
        · refine .inl ⟨by first | (simp; done) | (simp; omega), ?_⟩
          rw [h2, List.take_succ_cons]
          simp [nlT, nlG, hc]
        · refine .inr ⟨by first | (simp; done) | (simp; omega), by rw [h2]; simp⟩
      · exact .inl ⟨by simp, by simp [nlT]⟩
theorem sk_blank {b : List UInt8} (hb : ∀ c ∈ b, c = 32 ∨ c = 9) (w : List UInt8) : sk false (b ++ w) = b.length + sk false w := by
  induction b with
  | nil => simp
  | cons c r ih =>
    rw [List.cons_append, sk_cons]
    rcases hb c (by simp) with rfl | rfl
    · rw [show skG (UInt8.toNat 32) false = false from by decide, if_pos (by decide), ih (fun d hd => hb d (by simp [hd]))]; simp; omega
    · rw [show skG (UInt8.toNat 9) false = false from by decide, if_pos (by decide), ih (fun d hd => hb d (by simp [hd]))]; simp; omega
theorem nlT_app (note u v : List UInt8) : nlT note (u ++ v) = nlT note u ++ nlT note v := by simp [nlT]
theorem nlW_drop (note u : List UInt8) (n : Nat) : (nlW note u).drop (nlT note (u.take n)).length = nlW note (u.drop n) := by
  have : nlW note u = nlT note (u.take n) ++ nlW note (u.drop n) := by
    unfold nlW; rw [← List.append_assoc, ← nlT_app, List.take_append_drop]
  rw [this, List.drop_left]
/-- Runs are the same. -/
theorem tw_T {note : List UInt8} {p : UInt8 → Bool} (h10 : p 10 = false) (h32 : p 32 = false) : ∀ u : List UInt8, (nlW note u).takeWhile p = u.takeWhile p
  | [] => by rw [nlW_nil, nlE, List.takeWhile_cons, h32]; rfl
  | c :: r => by
    by_cases hc : c = 10
    · subst hc; rw [nlW_nl]; simp [List.takeWhile_cons, h32, h10]
    · rw [nlW_no _ _ hc, List.takeWhile_cons, List.takeWhile_cons, tw_T h10 h32 r]
/-- Bytes without a line feed are the same. -/
theorem take_T {note : List UInt8} : ∀ (n : Nat) (u : List UInt8), n ≤ u.length → (∀ c ∈ u.take n, c ≠ 10) → (nlW note u).take n = u.take n ∧ (nlW note u).drop n = nlW note (u.drop n)
  | 0, u, _, _ => ⟨by simp, by simp⟩
  | n + 1, [], h, _ => by simp at h
  | n + 1, c :: r, h, hc => by
    have h1 : c ≠ 10 := hc c (by simp)
    obtain ⟨i1, i2⟩ := take_T (note := note) n r (by simpa using h) (fun d hd => hc d (by simp [hd]))
    rw [nlW_no _ _ h1]
    exact ⟨by simp [i1], by simp [i2]⟩
theorem pre_T {note : List UInt8} : ∀ (p u : List UInt8), (∀ c ∈ p, c ≠ 10 ∧ c ≠ 32) → p.isPrefixOf (nlW note u) = p.isPrefixOf u
  | [], u, _ => by simp
  | a :: p, [], hp => by
    have := (hp a (by simp)).2
    rw [nlW_nil, nlE]
    simp [List.isPrefixOf, this]
  | a :: p, c :: r, hp => by
    obtain ⟨h1, h2⟩ := hp a (by simp)
    by_cases hc : c = 10
    · subst hc; rw [nlW_nl]
      have e1 : (a == 10) = false := by simpa using h1
      have e2 : (a == 32) = false := by simpa using h2
      simp [List.isPrefixOf, e1, e2]
    · rw [nlW_no _ _ hc]
      simp only [List.isPrefixOf]
      rw [pre_T p r (fun d hd => hp d (by simp [hd]))]
theorem find_congr {α : Type} {f g : α → Bool} : ∀ {l : List α}, (∀ x ∈ l, f x = g x) → l.find? f = l.find? g
  | [], _ => rfl
  | a :: l, h => by rw [List.find?_cons, List.find?_cons, h a (by simp), find_congr (fun x hx => h x (by simp [hx]))]
theorem sg_T (note u : List UInt8) : sg (nlW note u) = sg u := by
  unfold sg
  rw [find_congr fun p hp => pre_T p u (fun c hc => ?_)]
  have hall : allSigns.all (fun p => p.all fun c => decide (c ≠ 10) && decide (c ≠ 32)) = true := by decide
  have := List.all_eq_true.1 (List.all_eq_true.1 hall p hp) c hc
  simpa [Bool.and_eq_true] using this
/-- A literal that is whole is read from a longer text, too. -/
theorem bt_app (u v : List UInt8) {j : Nat} (h : j < u.length) : bt (u ++ v) j = bt u j := bt_app_left u v h
theorem rdA_app : ∀ (n : Nat) {u v : List UInt8} {i : Nat} {acc t : List UInt8} {e : Nat}, rdA n u i acc = some (t, e) → rdA n (u ++ v) i acc = some (t, e)
  | 0, u, v, i, acc, t, e, h => by cases h
  | n + 1, u, v, i, acc, t, e, h => by
    have hl : (u ++ v).length = u.length + v.length := List.length_append
    rw [rdA] at h ⊢
    split at h
    · cases h
    · rename_i h0
      have b0 : bt (u ++ v) i = bt u i := bt_app u v (by omega)
      rw [b0, if_neg (by omega)]
      split at h
      · rename_i h1; rw [if_pos h1]; exact h
      · rename_i h1
        rw [if_neg h1]
        split at h
        · rename_i h2; rw [if_pos h2]; exact rdA_app n h
        · rename_i h2
          rw [if_neg h2]
          split at h
          · cases h
          · rename_i h3
            rw [if_neg (by omega), bt_app u v (j := i + 1) (by omega)]
            split at h
            · rename_i h4; rw [if_pos h4]; exact rdA_app n h
            · rename_i h4
              rw [if_neg h4]
              split at h
              · rename_i h5; rw [if_pos h5]; exact rdA_app n h
              · rename_i h5
                rw [if_neg h5]
                split at h
                · rename_i h6; rw [if_pos h6]; exact rdA_app n h
                · rename_i h6
                  rw [if_neg h6]
                  split at h
                  · rename_i h7
                    rw [if_pos h7]
                    split at h
                    · rename_i h8
                      rw [bt_app u v (j := i + 2) (by omega), bt_app u v (j := i + 3) (by omega), if_pos ⟨by omega, h8.2⟩]; exact rdA_app n h
                    · cases h
                  · cases h
theorem rdq_app {u v t : List UInt8} {e : Nat} (h : rdq u = some (t, e)) : rdq (u ++ v) = some (t, e) := by
  have hl : (u ++ v).length = u.length + v.length := List.length_append
  unfold rdq at h ⊢
  split at h
  · cases h
  · rename_i h0
    rw [bt_app u v (by omega), if_neg (by omega), hl]
    rw [rdA_fuel u.length (u.length + v.length) (by omega) (by omega)] at h
    exact rdA_app _ h
/-- A token whose bytes are followed by a changed text: the same. -/
theorem one_T {note s t : List UInt8} {j j' : Nat} (hj : j < s.length) (hw : t.drop j' = nlW note (s.drop j)) (h10 : bt s j ≠ 10) (hf : (one s j).f = 0) :
    (one t j').f = 0 ∧ (one t j').k = (one s j).k ∧ (one t j').n = (one s j).n ∧ (one t j').x = (one s j).x ∧ (one t j').e + j = (one s j).e + j' ∧ t.drop (one t j').e = nlW note (s.drop (one s j).e) := by
  obtain ⟨o1, o2, o3⟩ := one_ok hj hf
  -- bytes ahead of a line feed
  have bytes : ∀ n, j + n ≤ (one s j).e → (t.drop j').take n = (s.drop j).take n ∧ t.drop (j' + n) = nlW note (s.drop (j + n)) := by
    intro n hn
    have := take_T (note := note) n (s.drop j) (by rw [List.length_drop]; omega) (fun c hc => by
      obtain ⟨k, hk⟩ := List.getElem?_of_mem hc
      have hkl : k < n := by
        have := (List.getElem?_eq_some_iff.1 hk).1
        rw [List.length_take] at this; omega
      rw [List.getElem?_take, if_pos hkl, List.getElem?_drop] at hk
      have hb := o3 (j + k) (by omega) (by omega)
      have hjk := (List.getElem?_eq_some_iff.1 hk).1
      rw [bt_eq s (j + k) hjk, (List.getElem?_eq_some_iff.1 hk).2] at hb
      exact fun e => hb (u8_10.2 e))
    rw [hw]
    refine ⟨this.1, ?_⟩
    rw [← List.drop_drop, hw, this.2, List.drop_drop]
  have at_ : ∀ a, j + a ≤ (one s j).e → j + a < s.length → bt s (j + a) ≠ 10 → bt t (j' + a) = bt s (j + a) := by
    intro a ha hl hb
    have h2 := (bytes a ha).2
    rw [List.drop_eq_getElem_cons hl, nlW_no _ _ (fun e => hb (by rw [bt_eq s _ hl]; exact u8_10.2 e))] at h2
    have h3 := bt_drop t (j' + a) 0
    rw [h2] at h3
    have h4 : bt t (j' + a) = bt (s[j + a] :: nlW note (s.drop (j + a + 1))) 0 := h3.symm
    rw [h4, bt_eq s _ hl]; rfl
  have rn_ : ∀ (p : Int → Bool), p 10 = false → p 32 = false → ∀ a, j + a ≤ (one s j).e → rn p t (j' + a) = rn p s (j + a) := by
    intro p p10 p32 a ha
    unfold rn
    rw [(bytes a ha).2, tw_T (p := fun c => p c.toNat) p10 p32]
  have sub_ : ∀ n, j + n ≤ (one s j).e → sub t j' (j' + n) = sub s j (j + n) := by
    intro n hn
    have := (bytes n hn).1
    unfold sub
    rw [List.drop_take, List.drop_take, show j' + n - j' = n by omega, show j + n - j = n by omega]
    exact this
  have b0 := at_ 0 (by omega) hj h10
  rw [Nat.add_zero, Nat.add_zero] at b0
  -- it suffices to know where it ends
  suffices h : (one t j').f = 0 ∧ (one t j').k = (one s j).k ∧ (one t j').n = (one s j).n ∧ (one t j').x = (one s j).x ∧ (one t j').e + j = (one s j).e + j' by
    obtain ⟨h1, h2, h3, h4, h5⟩ := h
    refine ⟨h1, h2, h3, h4, h5, ?_⟩
    have := (bytes ((one s j).e - j) (by omega)).2
    rw [show j' + ((one s j).e - j) = (one t j').e by omega, show j + ((one s j).e - j) = (one s j).e by omega] at this
    exact this
  have rin := rn_ inB (by decide) (by decide) 0 (by omega)
  rw [Nat.add_zero, Nat.add_zero] at rin
  by_cases k12 : kdi (bt s j) = 1 ∨ kdi (bt s j) = 2
  · have e1 : one s j = ⟨0, nameK (bt s j) (sub s j (j + rn inB s j)), sub s j (j + rn inB s j), 0, j + rn inB s j⟩ := by unfold one; rw [if_pos k12]
    have e2 : one t j' = ⟨0, nameK (bt t j') (sub t j' (j' + rn inB t j')), sub t j' (j' + rn inB t j'), 0, j' + rn inB t j'⟩ := by unfold one; rw [if_pos (by rw [b0]; exact k12)]
    have hs := sub_ (rn inB s j) (by rw [e1]; exact Nat.le_refl _)
    rw [rin, hs, b0] at e2
    rw [e1, e2]
    exact ⟨rfl, rfl, rfl, rfl, by simp only; omega⟩
  by_cases k3 : kdi (bt s j) = 3
  · have e1 : one s j = ⟨(nm s j).1, (nm s j).2.1, [], (nm s j).2.2.1, (nm s j).2.2.2⟩ := by unfold one; rw [if_neg k12, if_pos k3]
    have e2 : one t j' = ⟨(nm t j').1, (nm t j').2.1, [], (nm t j').2.2.1, (nm t j').2.2.2⟩ := by unfold one; rw [if_neg (by rw [b0]; exact k12), if_pos (by rw [b0]; exact k3)]
    have rdg := rn_ dgB (by decide) (by decide) 0 (by omega)
    rw [Nat.add_zero, Nat.add_zero] at rdg
    have hnf : (nm s j).1 = 0 := by rw [e1] at hf; exact hf
    have hle : j + rn dgB s j ≤ (one s j).e := by
      rw [e1]; simp only
      unfold nm at hnf ⊢
      split
      · rename_i h; rw [if_pos h] at hnf; rw [nfin_ok hnf]; exact Nat.le_refl _
      · rename_i h
        rw [if_neg h] at hnf
        split
        · rename_i h2; rw [if_pos h2] at hnf; rw [nfin_ok hnf]; omega
        · rename_i h2; rw [if_neg h2] at hnf; exact absurd hnf (by decide)
    have hsd := sub_ (rn dgB s j) hle
    have hri := rn_ inB (by decide) (by decide) (rn dgB s j) hle
    have key : (nm t j').1 = 0 ∧ (nm t j').2.1 = (nm s j).2.1 ∧ (nm t j').2.2.1 = (nm s j).2.2.1 ∧ (nm t j').2.2.2 + j = (nm s j).2.2.2 + j' := by
      have ht : nm t j' = if rn inB s (j + rn dgB s j) = 0 then nfin 3 9223372036854775807 (sub s j (j + rn dgB s j)) (j' + rn dgB s j)
          else if rn inB s (j + rn dgB s j) = 1 ∧ bt t (j' + rn dgB s j) = 105 then nfin 4 8388607 (sub s j (j + rn dgB s j)) (j' + rn dgB s j + 1) else (4, 0, 0, 0) := by
        unfold nm; rw [rdg, hri, hsd]
      have fin : ∀ kk most d (a b : Nat), a + j = b + j' → (nfin kk most d b).1 = 0 → (nfin kk most d a).1 = 0 ∧ (nfin kk most d a).2.1 = (nfin kk most d b).2.1 ∧ (nfin kk most d a).2.2.1 = (nfin kk most d b).2.2.1 ∧ (nfin kk most d a).2.2.2 + j = (nfin kk most d b).2.2.2 + j' := by
        intro kk most d a b hab h0
        unfold nfin at h0 ⊢
        split
        · exact ⟨rfl, rfl, rfl, hab⟩
        · rename_i h; rw [if_neg h] at h0; exact absurd h0 (by decide)
      rw [ht]
      unfold nm at hnf ⊢
      split
      · rename_i h
        rw [if_pos h] at hnf
        exact fin _ _ _ _ _ (by omega) hnf
      · rename_i h
        rw [if_neg h] at hnf
        by_cases h2 : rn inB s (j + rn dgB s j) = 1 ∧ bt s (j + rn dgB s j) = 105
        · have hl : j + rn dgB s j < s.length := by
            by_cases hq : j + rn dgB s j < s.length
            · exact hq
            · exact absurd (rn_end (by omega)) h
          have hb := at_ (rn dgB s j) hle hl (by omega)
          rw [if_pos h2] at hnf ⊢
          rw [if_pos ⟨h2.1, by rw [hb]; exact h2.2⟩]
          exact fin _ _ _ _ _ (by omega) hnf
        · rw [if_neg h2] at hnf; exact absurd hnf (by decide)
    rw [e1, e2]
    exact ⟨key.1, key.2.1, key.2.2.1, rfl, key.2.2.2⟩
  by_cases h34 : bt s j = 34
  · cases hq : rdq (s.drop j) with
    | none =>
      unfold one at hf
      rw [if_neg k12, if_neg k3, if_pos h34, hq] at hf
      simp at hf
    | some r =>
      obtain ⟨x, n⟩ := r
      have e1 : one s j = ⟨0, 5, x, 0, j + n⟩ := by unfold one; rw [if_neg k12, if_neg k3, if_pos h34, hq]
      have hn := (bytes n (by rw [e1]; exact Nat.le_refl _)).1
      have hr := rdq_app (v := (t.drop j').drop n) (rdq_take hq)
      rw [← hn, List.take_append_drop] at hr
      have e2 : one t j' = ⟨0, 5, x, 0, j' + n⟩ := by
        unfold one; rw [if_neg (by rw [b0]; exact k12), if_neg (by rw [b0]; exact k3), if_pos (by rw [b0]; exact h34), hr]
      rw [e1, e2]
      exact ⟨rfl, rfl, rfl, rfl, by simp only; omega⟩
  · have hsg : sg (t.drop j') = sg (s.drop j) := by rw [hw, sg_T]
    by_cases hs0 : sg (s.drop j) = []
    · unfold one at hf
      rw [if_neg k12, if_neg k3, if_neg h34, if_pos hs0] at hf
      simp at hf
    · have e1 : one s j = ⟨0, 7, sg (s.drop j), 0, j + (sg (s.drop j)).length⟩ := by unfold one; rw [if_neg k12, if_neg k3, if_neg h34, if_neg hs0]
      have e2 : one t j' = ⟨0, 7, sg (s.drop j), 0, j' + (sg (s.drop j)).length⟩ := by
        unfold one; rw [if_neg (by rw [b0]; exact k12), if_neg (by rw [b0]; exact k3), if_neg (by rw [b0]; exact h34), hsg, if_neg hs0]
      rw [e1, e2]
      exact ⟨rfl, rfl, rfl, rfl, by simp only; omega⟩
end Go.Proofs.YtogalfbemmcaaaaDoor
