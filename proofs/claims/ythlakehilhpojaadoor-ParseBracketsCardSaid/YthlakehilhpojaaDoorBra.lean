/- The law hindcastlaw06.ParseBrackets: the statement, out of its walk: it answers true whatever it is handed, and what it was handed reads as before. (Texts joined: ParZA, ParZC, ParZB, Card, Laid, LawBrackets.) -/
import Derived.Test.YthlakehilhpojaaDoorPlg
namespace Go.Proofs.YthlakehilhpojaaDoor
open Go.RowKit
theorem u8_10 {c : UInt8} : (c.toNat : Int) = 10 ↔ c = 10 := by
  constructor
  · intro h
    have h' : c.toNat = 10 := by omega
    exact UInt8.toNat_inj.1 (by simpa using h')
  · rintro rfl; rfl
theorem take_G {W : List UInt8 → List UInt8} (hWc : ∀ c r, c ≠ 10 → W (c :: r) = c :: W r) : ∀ (n : Nat) (u : List UInt8), n ≤ u.length → (∀ c ∈ u.take n, c ≠ 10) → (W u).take n = u.take n ∧ (W u).drop n = W (u.drop n)
  | 0, u, _, _ => ⟨by simp, by simp⟩
  | n + 1, [], h, _ => by simp at h
  | n + 1, c :: r, h, hc => by
    have h1 : c ≠ 10 := hc c (by simp)
    obtain ⟨i1, i2⟩ := take_G hWc n r (by simpa using h) (fun d hd => hc d (by simp [hd]))
    rw [hWc _ _ h1]
    exact ⟨by simp [i1], by simp [i2]⟩
/-- A literal that is whole is read from a longer text, too. -/
theorem bt_app (u v : List UInt8) {j : Nat} (h : j < u.length) : bt (u ++ v) j = bt u j := bt_app_left u v h
theorem rdA_app : ∀ (n : Nat) {u v : List UInt8} {i : Nat} {acc t : List UInt8} {e : Nat}, rdA n u i acc = some (t, e) → rdA n (u ++ v) i acc = some (t, e)
  | 0, u, v, i, acc, t, e, h => by cases h
  | n + 1, u, v, i, acc, t, e, h => by
    have hl : (u ++ v).length = u.length + v.length := List.length_append
    rw [rdA] at h ⊢
    split at h
    · cases h
    · rename_i h0
      have b0 : bt (u ++ v) i = bt u i := bt_app u v (by omega)
      rw [b0, if_neg (by omega)]
      split at h
      · rename_i h1; rw [if_pos h1]; exact h
      · rename_i h1
        rw [if_neg h1]
        split at h
        · rename_i h2; rw [if_pos h2]; exact rdA_app n h
        · rename_i h2
          rw [if_neg h2]
          split at h
          · cases h
          · rename_i h3
            rw [if_neg (by omega), bt_app u v (j := i + 1) (by omega)]
            split at h
            · rename_i h4; rw [if_pos h4]; exact rdA_app n h
            · rename_i h4
              rw [if_neg h4]
              split at h
              · rename_i h5; rw [if_pos h5]; exact rdA_app n h
              · rename_i h5
                rw [if_neg h5]
                split at h
                · rename_i h6; rw [if_pos h6]; exact rdA_app n h
                · rename_i h6
                  rw [if_neg h6]
                  split at h
                  · rename_i h7
                    rw [if_pos h7]
                    split at h
                    · rename_i h8
                      rw [bt_app u v (j := i + 2) (by omega), bt_app u v (j := i + 3) (by omega), if_pos ⟨by omega, h8.2⟩]; exact rdA_app n h
                    · cases h
                  · cases h
theorem rdq_app {u v t : List UInt8} {e : Nat} (h : rdq u = some (t, e)) : rdq (u ++ v) = some (t, e) := by
  have hl : (u ++ v).length = u.length + v.length := List.length_append
  unfold rdq at h ⊢
  split at h
  · cases h
  · rename_i h0
    rw [bt_app u v (by omega), if_neg (by omega), hl]
    rw [rdA_fuel u.length (u.length + v.length) (by omega) (by omega)] at h
    exact rdA_app _ h
/-- A token whose bytes are followed by a changed text: the same. -/
theorem one_G {W : List UInt8 → List UInt8} (hWc : ∀ c r, c ≠ 10 → W (c :: r) = c :: W r) (tw : ∀ p : UInt8 → Bool, p 10 = false → p 32 = false → ∀ u, (W u).takeWhile p = u.takeWhile p) (hsgW : ∀ u, sg (W u) = sg u) {s t : List UInt8} {j j' : Nat} (hj : j < s.length) (hw : t.drop j' = W (s.drop j)) (h10 : bt s j ≠ 10) (hf : (one s j).f = 0) :
    (one t j').f = 0 ∧ (one t j').k = (one s j).k ∧ (one t j').n = (one s j).n ∧ (one t j').x = (one s j).x ∧ (one t j').e + j = (one s j).e + j' ∧ t.drop (one t j').e = W (s.drop (one s j).e) := by
  obtain ⟨o1, o2, o3⟩ := one_ok hj hf
  -- bytes ahead of a line feed
  have bytes : ∀ n, j + n ≤ (one s j).e → (t.drop j').take n = (s.drop j).take n ∧ t.drop (j' + n) = W (s.drop (j + n)) := by
    intro n hn
    have := take_G hWc n (s.drop j) (by rw [List.length_drop]; omega) (fun c hc => by
      obtain ⟨k, hk⟩ := List.getElem?_of_mem hc
      have hkl : k < n := by
        have := (List.getElem?_eq_some_iff.1 hk).1
        rw [List.length_take] at this; omega
      rw [List.getElem?_take, if_pos hkl, List.getElem?_drop] at hk
      have hb := o3 (j + k) (by omega) (by omega)
      have hjk := (List.getElem?_eq_some_iff.1 hk).1
      rw [bt_eq s (j + k) hjk, (List.getElem?_eq_some_iff.1 hk).2] at hb
      exact fun e => hb (u8_10.2 e))
    rw [hw]
    refine ⟨this.1, ?_⟩
    rw [← List.drop_drop, hw, this.2, List.drop_drop]
  have at_ : ∀ a, j + a ≤ (one s j).e → j + a < s.length → bt s (j + a) ≠ 10 → bt t (j' + a) = bt s (j + a) := by
    intro a ha hl hb
    have h2 := (bytes a ha).2
    rw [List.drop_eq_getElem_cons hl, hWc _ _ (fun e => hb (by rw [bt_eq s _ hl]; exact u8_10.2 e))] at h2
    have h3 := bt_drop t (j' + a) 0
    rw [h2] at h3
    have h4 : bt t (j' + a) = bt (s[j + a] :: W (s.drop (j + a + 1))) 0 := h3.symm
    rw [h4, bt_eq s _ hl]; rfl
  have rn_ : ∀ (p : Int → Bool), p 10 = false → p 32 = false → ∀ a, j + a ≤ (one s j).e → rn p t (j' + a) = rn p s (j + a) := by
    intro p p10 p32 a ha
    unfold rn
    rw [(bytes a ha).2, tw (fun c => p c.toNat) p10 p32]
  have sub_ : ∀ n, j + n ≤ (one s j).e → sub t j' (j' + n) = sub s j (j + n) := by
    intro n hn
    have := (bytes n hn).1
    unfold sub
    rw [List.drop_take, List.drop_take, show j' + n - j' = n by omega, show j + n - j = n by omega]
    exact this
  have b0 := at_ 0 (by omega) hj h10
  rw [Nat.add_zero, Nat.add_zero] at b0
  -- it suffices to know where it ends
  suffices h : (one t j').f = 0 ∧ (one t j').k = (one s j).k ∧ (one t j').n = (one s j).n ∧ (one t j').x = (one s j).x ∧ (one t j').e + j = (one s j).e + j' by
    obtain ⟨h1, h2, h3, h4, h5⟩ := h
    refine ⟨h1, h2, h3, h4, h5, ?_⟩
    have := (bytes ((one s j).e - j) (by omega)).2
    rw [show j' + ((one s j).e - j) = (one t j').e by omega, show j + ((one s j).e - j) = (one s j).e by omega] at this
    exact this
  have rin := rn_ inB (by decide) (by decide) 0 (by omega)
  rw [Nat.add_zero, Nat.add_zero] at rin
  by_cases k12 : kdi (bt s j) = 1 ∨ kdi (bt s j) = 2
  · have e1 : one s j = ⟨0, nameK (bt s j) (sub s j (j + rn inB s j)), sub s j (j + rn inB s j), 0, j + rn inB s j⟩ := by unfold one; rw [if_pos k12]
    have e2 : one t j' = ⟨0, nameK (bt t j') (sub t j' (j' + rn inB t j')), sub t j' (j' + rn inB t j'), 0, j' + rn inB t j'⟩ := by unfold one; rw [if_pos (by rw [b0]; exact k12)]
    have hs := sub_ (rn inB s j) (by rw [e1]; exact Nat.le_refl _)
    rw [rin, hs, b0] at e2
    rw [e1, e2]
    exact ⟨rfl, rfl, rfl, rfl, by simp only; omega⟩
  by_cases k3 : kdi (bt s j) = 3
  · have e1 : one s j = ⟨(nm s j).1, (nm s j).2.1, [], (nm s j).2.2.1, (nm s j).2.2.2⟩ := by unfold one; rw [if_neg k12, if_pos k3]
    have e2 : one t j' = ⟨(nm t j').1, (nm t j').2.1, [], (nm t j').2.2.1, (nm t j').2.2.2⟩ := by unfold one; rw [if_neg (by rw [b0]; exact k12), if_pos (by rw [b0]; exact k3)]
    have rdg := rn_ dgB (by decide) (by decide) 0 (by omega)
    rw [Nat.add_zero, Nat.add_zero] at rdg
    have hnf : (nm s j).1 = 0 := by rw [e1] at hf; exact hf
    have hle : j + rn dgB s j ≤ (one s j).e := by
      rw [e1]; simp only
      unfold nm at hnf ⊢
      split
      · rename_i h; rw [if_pos h] at hnf; rw [nfin_ok hnf]; exact Nat.le_refl _
      · rename_i h
        rw [if_neg h] at hnf
        split
        · rename_i h2; rw [if_pos h2] at hnf; rw [nfin_ok hnf]; omega
        · rename_i h2; rw [if_neg h2] at hnf; exact absurd hnf (by decide)
    have hsd := sub_ (rn dgB s j) hle
    have hri := rn_ inB (by decide) (by decide) (rn dgB s j) hle
    have key : (nm t j').1 = 0 ∧ (nm t j').2.1 = (nm s j).2.1 ∧ (nm t j').2.2.1 = (nm s j).2.2.1 ∧ (nm t j').2.2.2 + j = (nm s j).2.2.2 + j' := by
      have ht : nm t j' = if rn inB s (j + rn dgB s j) = 0 then nfin 3 9223372036854775807 (sub s j (j + rn dgB s j)) (j' + rn dgB s j)
          else if rn inB s (j + rn dgB s j) = 1 ∧ bt t (j' + rn dgB s j) = 105 then nfin 4 8388607 (sub s j (j + rn dgB s j)) (j' + rn dgB s j + 1) else (4, 0, 0, 0) := by
        unfold nm; rw [rdg, hri, hsd]
      have fin : ∀ kk most d (a b : Nat), a + j = b + j' → (nfin kk most d b).1 = 0 → (nfin kk most d a).1 = 0 ∧ (nfin kk most d a).2.1 = (nfin kk most d b).2.1 ∧ (nfin kk most d a).2.2.1 = (nfin kk most d b).2.2.1 ∧ (nfin kk most d a).2.2.2 + j = (nfin kk most d b).2.2.2 + j' := by
        intro kk most d a b hab h0
        unfold nfin at h0 ⊢
        split
        · exact ⟨rfl, rfl, rfl, hab⟩
        · rename_i h; rw [if_neg h] at h0; exact absurd h0 (by decide)
      rw [ht]
      unfold nm at hnf ⊢
      split
      · rename_i h
        rw [if_pos h] at hnf
        exact fin _ _ _ _ _ (by omega) hnf
      · rename_i h
        rw [if_neg h] at hnf
        by_cases h2 : rn inB s (j + rn dgB s j) = 1 ∧ bt s (j + rn dgB s j) = 105
        · have hl : j + rn dgB s j < s.length := by
            by_cases hq : j + rn dgB s j < s.length
            · exact hq
            · exact absurd (rn_end (by omega)) h
          have hb := at_ (rn dgB s j) hle hl (by omega)
          rw [if_pos h2] at hnf ⊢
          rw [if_pos ⟨h2.1, by rw [hb]; exact h2.2⟩]
          exact fin _ _ _ _ _ (by omega) hnf
        · rw [if_neg h2] at hnf; exact absurd hnf (by decide)
    rw [e1, e2]
    exact ⟨key.1, key.2.1, key.2.2.1, rfl, key.2.2.2⟩
  by_cases h34 : bt s j = 34
  · cases hq : rdq (s.drop j) with
    | none =>
      unfold one at hf
      rw [if_neg k12, if_neg k3, if_pos h34, hq] at hf
      simp at hf
    | some r =>
      obtain ⟨x, n⟩ := r
      have e1 : one s j = ⟨0, 5, x, 0, j + n⟩ := by unfold one; rw [if_neg k12, if_neg k3, if_pos h34, hq]
      have hn := (bytes n (by rw [e1]; exact Nat.le_refl _)).1
      have hr := rdq_app (v := (t.drop j').drop n) (rdq_take hq)
      rw [← hn, List.take_append_drop] at hr
      have e2 : one t j' = ⟨0, 5, x, 0, j' + n⟩ := by
        unfold one; rw [if_neg (by rw [b0]; exact k12), if_neg (by rw [b0]; exact k3), if_pos (by rw [b0]; exact h34), hr]
      rw [e1, e2]
      exact ⟨rfl, rfl, rfl, rfl, by simp only; omega⟩
  · have hsg : sg (t.drop j') = sg (s.drop j) := by rw [hw, hsgW]
    by_cases hs0 : sg (s.drop j) = []
    · unfold one at hf
      rw [if_neg k12, if_neg k3, if_neg h34, if_pos hs0] at hf
      simp at hf
    · have e1 : one s j = ⟨0, 7, sg (s.drop j), 0, j + (sg (s.drop j)).length⟩ := by unfold one; rw [if_neg k12, if_neg k3, if_neg h34, if_neg hs0]
      have e2 : one t j' = ⟨0, 7, sg (s.drop j), 0, j' + (sg (s.drop j)).length⟩ := by
        unfold one; rw [if_neg (by rw [b0]; exact k12), if_neg (by rw [b0]; exact k3), if_neg (by rw [b0]; exact h34), hsg, if_neg hs0]
      rw [e1, e2]
      exact ⟨rfl, rfl, rfl, rfl, by simp only; omega⟩
theorem lexA_zero : ∀ (m : Nat) (s : List UInt8) (i : Nat) (p : Int × Int) (acc : List Tok), (lexA m s i p acc).1.1 = 0 → (lexA m s i p acc).1 = (0, 0, 0)
  | 0, _, _, _, _, _ => rfl
  | m + 1, s, i, p, acc, h => by
    rw [lexA] at h ⊢
    split
    · rfl
    · rename_i h1
      rw [if_neg h1] at h
      split
      · rename_i h2; rw [if_pos h2] at h; exact lexA_zero m s _ _ _ h
      · rename_i h2; rw [if_neg h2] at h; exact absurd h h2
theorem lexAll_zero {s : List UInt8} (h : (lexAll s).1.1 = 0) : lexA (s.length + 1) s 0 (1, 1) [] = ((0, 0, 0), (lexAll s).2) := Prod.ext (lexA_zero _ _ _ _ _ h) rfl
theorem find_congr {α : Type} {f g : α → Bool} : ∀ {l : List α}, (∀ x ∈ l, f x = g x) → l.find? f = l.find? g
  | [], _ => rfl
  | a :: l, h => by rw [List.find?_cons, List.find?_cons, h a (by simp), find_congr (fun x hx => h x (by simp [hx]))]
theorem pre_nl {v : List UInt8} : ∀ (p u : List UInt8), (∀ c ∈ p, c ≠ 10) → p.isPrefixOf (u ++ 10 :: v) = p.isPrefixOf u
  | [], u, _ => by simp
  | a :: p, [], hp => by
    have := hp a (by simp)
    simp [List.isPrefixOf, this]
  | a :: p, c :: r, hp => by
    simp only [List.cons_append, List.isPrefixOf]
    rw [pre_nl p r (fun d hd => hp d (by simp [hd]))]
theorem sg_nl (v u : List UInt8) : sg (u ++ 10 :: v) = sg u := by
  unfold sg
  rw [find_congr fun p hp => pre_nl p u (fun c hc => ?_)]
  have hall : allSigns.all (fun p => p.all fun c => decide (c ≠ 10)) = true := by decide
  have := List.all_eq_true.1 (List.all_eq_true.1 hall p hp) c hc
  simpa using this
theorem tw_nl {v : List UInt8} (p : UInt8 → Bool) (h10 : p 10 = false) : ∀ u : List UInt8, (u ++ 10 :: v).takeWhile p = u.takeWhile p
  | [] => by simp [List.takeWhile_cons, h10]
  | c :: r => by rw [List.cons_append, List.takeWhile_cons, List.takeWhile_cons, tw_nl p h10 r]
theorem sk_c (g : Bool) (c : UInt8) (t : List UInt8) : sk g (c :: t) = if skP c.toNat (skG c.toNat g) then sk (skG c.toNat g) t + 1 else 0 := rfl
/-- Blanks, where a line feed and more stand behind. -/
theorem sk_nl2 {v : List UInt8} : ∀ (u : List UInt8) (g : Bool), (sk g u < u.length ∧ sk g (u ++ 10 :: v) = sk g u) ∨ (sk g u = u.length ∧ sk g (u ++ 10 :: v) = u.length + 1 + sk false v)
  | [], g => by
    right
    refine ⟨rfl, ?_⟩
    rw [List.nil_append, sk_c]
    have h1 : skG (10 : UInt8).toNat g = false := by simp [skG]
    rw [h1]
    have h2 : skP (10 : UInt8).toNat false = true := by decide
    rw [h2]; simp; omega
  | c :: r, g => by
    rw [List.cons_append, sk_c, sk_c]
    split
    · rcases sk_nl2 r (skG c.toNat g) with ⟨h1, h2⟩ | ⟨h1, h2⟩
      · left; exact ⟨by simp; omega, by rw [h2]⟩
      · right; exact ⟨by simp; omega, by rw [h2]; simp; omega⟩
    · left; exact ⟨by simp, rfl⟩
/-- A token but its place. -/
def bare (t : Tok) : Int × Int × List UInt8 := (t.k, t.n, t.x)
def wrapS (s : List UInt8) : List UInt8 := 40 :: (s ++ [10, 41])
theorem wrap_drop (s : List UInt8) {i : Nat} (h : i ≤ s.length) : (wrapS s).drop (i + 1) = s.drop i ++ [10, 41] := by
  unfold wrapS; rw [List.drop_succ_cons, List.drop_append_of_le_length h]
theorem wrap_len (s : List UInt8) : (wrapS s).length = s.length + 3 := by simp [wrapS]
theorem drop_bt' {s : List UInt8} {i : Nat} {c : UInt8} {r : List UInt8} (h : s.drop i = c :: r) : i < s.length ∧ bt s i = (c.toNat : Int) := by
  have hi : i < s.length := by
    cases Nat.lt_or_ge i s.length with
    | inl h' => exact h'
    | inr h' => rw [List.drop_eq_nil_of_le h'] at h; cases h
  refine ⟨hi, ?_⟩
  have : s[i]? = some c := by rw [← List.head?_drop, h]; rfl
  unfold bt; rw [List.getD_eq_getElem?_getD, this]; rfl
/-- A round bracket is a token by itself. -/
theorem one_br {s r : List UInt8} {i : Nat} {c : UInt8} (hc : c = 40 ∨ c = 41) (hd : s.drop i = c :: r) : i < s.length ∧ ski false s i = 0 ∧ one s i = ⟨0, 7, [c], 0, i + 1⟩ := by
  obtain ⟨hi, hb⟩ := drop_bt' hd
  have hsg : sg (c :: r) = [c] := by rcases hc with rfl | rfl <;> simp [sg, allSigns, List.isPrefixOf]
  have hcn : (c.toNat : Int) = 40 ∨ (c.toNat : Int) = 41 := by rcases hc with rfl | rfl <;> simp
  have hk0 : kdi (c.toNat : Int) = 0 := by rcases hcn with h | h <;> rw [h] <;> decide
  refine ⟨hi, ski_none hi (by omega), ?_⟩
  unfold one
  rw [hb, hk0, if_neg (by omega), if_neg (by omega), if_neg (by omega), hd, hsg]
  simp
/-- The tokens of a text in brackets. -/
theorem lexA_wrap (s : List UInt8) : ∀ (m i : Nat) (p : Int × Int) (acc R : List Tok), i ≤ s.length → lexA m s i p acc = ((0, 0, 0), R) → s.length < m + i →
    ∃ l0 e, R = acc ++ l0 ++ [e] ∧ e.k = 8 ∧ (∀ t ∈ l0, t.k ≠ 8) ∧ ∀ (m2 : Nat) (p2 : Int × Int) (acc2 : List Tok), m + 2 ≤ m2 →
      ∃ l0' c' e', lexA m2 (wrapS s) (i + 1) p2 acc2 = ((0, 0, 0), acc2 ++ l0' ++ [c', e']) ∧ l0'.map bare = l0.map bare ∧ bare c' = (7, 0, [41]) ∧ e'.k = 8
  | 0, i, p, acc, R, hi, h, hm => by omega
  | m + 1, i, p, acc, R, hi, h, hm => by
    have hW := wrap_drop s hi
    have hwl := wrap_len s
    have hski : ski false (wrapS s) (i + 1) = sk false (s.drop i ++ 10 :: [41]) := by unfold ski; rw [hW]
    have hle := ski_le false hi
    rw [lexA] at h
    split at h
    · rename_i he
      have hR : R = acc ++ [_] := (Prod.mk.inj h).2.symm
      refine ⟨[], _, by rw [hR, List.append_nil], rfl, fun _ h => (by cases h), fun m2 p2 acc2 hm2 => ?_⟩
      have hse : sk false (s.drop i) = (s.drop i).length := by
        have : ski false s i = sk false (s.drop i) := rfl
        rw [List.length_drop]; omega
      have h2 : ski false (wrapS s) (i + 1) = s.length - i + 1 := by
        rw [hski]
        rcases sk_nl2 (v := [41]) (s.drop i) false with ⟨h1, _⟩ | ⟨_, h1⟩
        · omega
        · rw [h1, List.length_drop]; rfl
      have hj : i + 1 + ski false (wrapS s) (i + 1) = s.length + 2 := by rw [h2]; omega
      have hd : (wrapS s).drop (s.length + 2) = 41 :: [] := by
        rw [show s.length + 2 = (s.length + 1) + 1 by omega, ← List.drop_drop, wrap_drop s (Nat.le_refl _)]; simp
      obtain ⟨b1, _, b3⟩ := one_br (.inr rfl) hd
      obtain ⟨m3, rfl⟩ : ∃ m3, m2 = m3 + 1 + 1 := ⟨m2 - 2, by omega⟩
      rw [lexA, hj, if_neg (by omega), b3]
      simp only [if_true]
      rw [lexA, ski_end (by omega), Nat.add_zero, if_pos (by omega)]
      refine ⟨[], _, _, by rw [List.append_nil, List.append_assoc]; rfl, rfl, rfl, rfl⟩
    · rename_i he
      split at h
      · rename_i hf
        have hjl : i + ski false s i < s.length := by omega
        have hj2 : ski false (wrapS s) (i + 1) = ski false s i := by
          rw [hski]
          rcases sk_nl2 (v := [41]) (s.drop i) false with ⟨_, h1⟩ | ⟨h1, _⟩
          · exact h1
          · exfalso
            have : ski false s i = sk false (s.drop i) := rfl
            rw [List.length_drop] at h1; omega
        generalize hj : i + ski false s i = j at *
        have hj3 : i + 1 + ski false (wrapS s) (i + 1) = j + 1 := by rw [hj2]; omega
        obtain ⟨o1, o2, _⟩ := one_ok hjl hf
        have hb10 : bt s j ≠ 10 := by
          intro h10
          unfold one at hf
          rw [h10, kdi10, if_neg (by omega), if_neg (by omega), if_neg (by omega)] at hf
          have : sg (s.drop j) = [] := by
            rw [List.drop_eq_getElem_cons hjl]
            have : s[j] = 10 := by rw [bt_eq s j hjl] at h10; exact u8_10.1 h10
            rw [this]
            unfold sg
            have : (allSigns.find? fun p => p.isPrefixOf (10 :: s.drop (j + 1))) = none := by
              rw [List.find?_eq_none]
              intro p hp
              have hall : allSigns.all (fun p => match p with | [] => false | a :: _ => decide (a ≠ 10)) = true := by decide
              have := List.all_eq_true.1 hall p hp
              cases p with
              | nil => cases this
              | cons a p =>
                have h1 : a ≠ 10 := by simpa using this
                simp [List.isPrefixOf, h1]
            rw [this]; rfl
          rw [if_pos this] at hf
          exact absurd hf (by decide)
        obtain ⟨q1, q2, q3, q4, q5, _⟩ := one_G (W := fun u => u ++ [10, 41]) (fun _ _ _ => rfl) (fun p h10 _ u => tw_nl p h10 u) (fun u => sg_nl [41] u) (t := wrapS s) (j' := j + 1) hjl (wrap_drop s (by omega)) hb10 hf
        have hk8 := one_k hf
        obtain ⟨l0, e, hR, he8, hl8, hall⟩ := lexA_wrap s m (one s j).e _ _ _ o2 h (by omega)
        refine ⟨⟨(one s j).k, (adv p (sub s i j)).1, (adv p (sub s i j)).2, (one s j).n, (one s j).x⟩ :: l0, e, by rw [hR]; simp, he8, fun t ht => ?_, fun m2 p2 acc2 hm2 => ?_⟩
        · rcases List.mem_cons.1 ht with rfl | ht
          · exact hk8
          · exact hl8 t ht
        obtain ⟨m3, rfl⟩ : ∃ m3, m2 = m3 + 1 := ⟨m2 - 1, by omega⟩
        rw [lexA, hj3, if_neg (by omega), q1]
        simp only [if_true]
        have he2 : (one (wrapS s) (j + 1)).e = (one s j).e + 1 := by omega
        rw [he2]
        obtain ⟨l0', c', e', r1, r2, r3, r4⟩ := hall m3 (adv p2 (sub (wrapS s) (i + 1) ((one s j).e + 1))) (acc2 ++ [⟨(one (wrapS s) (j + 1)).k, (adv p2 (sub (wrapS s) (i + 1) (j + 1))).1, (adv p2 (sub (wrapS s) (i + 1) (j + 1))).2, (one (wrapS s) (j + 1)).n, (one (wrapS s) (j + 1)).x⟩]) (by omega)
        refine ⟨_ :: l0', c', e', by rw [r1]; simp only [List.append_assoc, List.singleton_append, List.cons_append]; rfl, ?_, r3, r4⟩
        rw [List.map_cons, List.map_cons, r2]
        congr 1
        simp only [bare, q2, q3, q4]
      · rename_i hf
        have := (Prod.mk.inj (Prod.mk.inj h).1).1
        exact absurd this hf
/-- The tokens of a text, and of the text in brackets. -/
theorem lex_wrap {s : List UInt8} (h : (lexAll s).1.1 = 0) : ∃ l0 e o l0' c' e', (lexAll s).2 = l0 ++ [e] ∧ e.k = 8 ∧ (∀ t ∈ l0, t.k ≠ 8) ∧ lexAll (wrapS s) = ((0, 0, 0), o :: (l0' ++ [c', e'])) ∧ l0'.map bare = l0.map bare ∧ bare o = (7, 0, [40]) ∧ bare c' = (7, 0, [41]) ∧ e'.k = 8 := by
  have hz : lexA (s.length + 1) s 0 (1, 1) [] = ((0, 0, 0), (lexAll s).2) := by
    have P := lexAll_zero h
    exact P
  obtain ⟨l0, e, h1, h2, h3, h4⟩ := lexA_wrap s (s.length + 1) 0 (1, 1) [] _ (Nat.zero_le _) hz (by omega)
  have hd : (wrapS s).drop 0 = 40 :: (s ++ [10, 41]) := rfl
  obtain ⟨b1, b2, b3⟩ := one_br (.inl rfl) hd
  have hwl := wrap_len s
  obtain ⟨l0', c', e', r1, r2, r3, r4⟩ := h4 (s.length + 3) (adv (1, 1) (sub (wrapS s) 0 1)) [⟨7, (adv (1, 1) (sub (wrapS s) 0 0)).1, (adv (1, 1) (sub (wrapS s) 0 0)).2, 0, [40]⟩] (by omega)
  refine ⟨l0, e, ⟨7, (adv (1, 1) (sub (wrapS s) 0 0)).1, (adv (1, 1) (sub (wrapS s) 0 0)).2, 0, [40]⟩, l0', c', e', by rw [h1]; rfl, h2, h3, ?_, r2, rfl, r3, r4⟩
  unfold lexAll
  rw [hwl, lexA, b2, if_neg (by omega), b3]
  simp only [if_true, List.nil_append]
  rw [r1]; rfl
end Go.Proofs.YthlakehilhpojaaDoor
namespace Go.Proofs.YthlakehilhpojaaDoor
open Go.RowKit
mutual
/-- A tree without its places. -/
def Tr.strip : Tr → Tr
  | .nd k _ _ n x ks => .nd k 0 0 n x (Tr.strips ks)
def Tr.strips : List Tr → List Tr
  | [] => []
  | t :: ts => t.strip :: Tr.strips ts
end
theorem strip_nd (k : Int) (t : Tok) (n : Int) (x : List UInt8) (ks : List Tr) : (nd k t n x ks).strip = .nd k 0 0 n x (Tr.strips ks) := rfl
theorem strips_app : ∀ a b : List Tr, Tr.strips (a ++ b) = Tr.strips a ++ Tr.strips b
  | [], b => rfl
  | t :: a, b => by simp [Tr.strips, strips_app a b]
theorem strip_k (t : Tr) : t.strip.k = t.k := by cases t; rfl
/-- The tokens within brackets, and those of the whole. -/
structure Brk (L M : List Tok) : Prop where
  l : LW L
  m : LW M
  len : M.length = L.length + 2
  alike : ∀ a, a + 1 < L.length → bare (M.getD (a + 1) ⟨8, 0, 0, 0, []⟩) = bare (L.getD a ⟨8, 0, 0, 0, []⟩) ∧ (L.getD a ⟨8, 0, 0, 0, []⟩).k ≠ 8
  last : (L.getD (L.length - 1) ⟨8, 0, 0, 0, []⟩).k = 8
  shut : bare (M.getD L.length ⟨8, 0, 0, 0, []⟩) = (7, 0, [41])
/-- The parser within brackets: one token further on, one deeper. -/
structure Rel (L : List Tok) (p p' : PS) : Prop where
  a : p'.a = p.a + 1
  d : p'.d = p.d + 1
  f : p.bad = false
  f' : p'.bad = false
  lt : p.a < L.length
section
variable {L M : List Tok}
theorem Rel.tok (B : Brk L M) {p p' : PS} (R : Rel L p p') : (p.a + 1 < L.length ∧ bare (tk M p') = bare (tk L p) ∧ (tk L p).k ≠ 8) ∨ (p.a + 1 = L.length ∧ (tk L p).k = 8 ∧ bare (tk M p') = (7, 0, [41])) := by
  have := R.lt
  by_cases h : p.a + 1 < L.length
  · left
    obtain ⟨h1, h2⟩ := B.alike p.a h
    refine ⟨h, ?_, h2⟩
    unfold tk; rw [R.a]; exact h1
  · right
    have e : p.a = L.length - 1 := by omega
    refine ⟨by omega, ?_, ?_⟩
    · unfold tk; rw [e]; exact B.last
    · unfold tk; rw [R.a, show p.a + 1 = L.length by omega]; exact B.shut
theorem bare_inj {a b : Tok} (h : bare a = bare b) : a.k = b.k ∧ a.n = b.n ∧ a.x = b.x := by
  simp only [bare, Prod.mk.injEq] at h; exact h
theorem Rel.is (B : Brk L M) {p p' : PS} (R : Rel L p p') {s : List UInt8} (hs : s ≠ [41] ∨ p.a + 1 < L.length) : pIs M s p' = pIs L s p := by
  unfold pIs
  rw [R.f, R.f']
  rcases R.tok B with ⟨_, h2, _⟩ | ⟨h1, h2, h3⟩
  · obtain ⟨e1, _, e3⟩ := bare_inj h2
    rw [e1, e3]
  · have hs' := hs.resolve_right (by omega)
    simp only [bare, Prod.mk.injEq] at h3
    rw [h2, h3.1, h3.2.2]
    have : ([41] == s) = false := by simpa using fun e => hs' e.symm
    simp [this]
theorem Rel.is_t (B : Brk L M) {p p' : PS} (R : Rel L p p') {s : List UInt8} (h : pIs L s p = true) : pIs M s p' = true := by
  have h8 := (is_k h).2
  rcases R.tok B with ⟨h1, _, _⟩ | ⟨_, h2, _⟩
  · rw [R.is B (.inr h1)]; exact h
  · exact absurd h2 h8
theorem Rel.lt' (B : Brk L M) {p p' : PS} (R : Rel L p p') (h : (tk L p).k ≠ 8) : p.a + 1 < L.length ∧ (tk M p').k = (tk L p).k ∧ (tk M p').n = (tk L p).n ∧ (tk M p').x = (tk L p).x := by
  rcases R.tok B with ⟨h1, h2, _⟩ | ⟨_, h2, _⟩
  · exact ⟨h1, bare_inj h2⟩
  · exact absurd h2 h
theorem Rel.pass (B : Brk L M) {p p' : PS} (R : Rel L p p') (h : (tk L p).k ≠ 8) : Rel L (pPass L p) (pPass M p') := by
  obtain ⟨h1, h2, _⟩ := R.lt' B h
  unfold pPass
  rw [if_neg h, if_neg (by rw [h2]; exact h)]
  exact ⟨by simp only; rw [R.a], R.d, R.f, R.f', h1⟩
theorem Rel.must (B : Brk L M) {p p' : PS} (R : Rel L p p') {s : List UInt8} (h : (pMust L s p).bad = false) : Rel L (pMust L s p) (pMust M s p') := by
  obtain ⟨h1, h2, _⟩ := good_must h
  rw [h2]
  have : pMust M s p' = pPass M p' := by unfold pMust; rw [R.is_t B h1, if_pos rfl]
  rw [this]
  exact R.pass B (is_k h1).2
/-- Read alike, or too deep. -/
def Too (q : PS) : Prop := q.f.1 = 6
theorem Too.bad {q : PS} (h : Too q) : q.bad = true := by unfold PS.bad; rw [h]; rfl
theorem Too.adv {p q : PS} {e : Int} (h : Too p) (A : Adv M p q e) : Too q := by unfold Too; rw [A.b h.bad]; exact h
theorem Rel.open (B : Brk L M) {p p' : PS} (R : Rel L p p') {s : List UInt8} (h : (pOpen L s p).bad = false) : Rel L (pOpen L s p) (pOpen M s p') ∨ Too (pOpen M s p') := by
  obtain ⟨h1, h2, h3, _⟩ := good_open h
  have hi := R.is_t B h1
  by_cases hd : p'.d = 40
  · right
    unfold pOpen
    have c : (pIs M s p' && p'.d == 40) = true := by rw [hi, hd]; rfl
    simp only [c, if_true]
    have hb : (pFail M 6 p').f.1 = 6 := by unfold pFail; rw [R.f']; rfl
    have := Too.adv (M := M) (show Too (pFail M 6 p') from hb) (adv_must B.m s (pFail M 6 p'))
    exact this
  · left
    have e : pOpen M s p' = { pPass M p' with d := (pPass M p').d + 1 } := by
      unfold pOpen
      have c : ¬ (pIs M s p' && p'.d == 40) = true := by simp [hd]
      simp only [if_neg c]
      have : pMust M s p' = pPass M p' := by unfold pMust; rw [hi, if_pos rfl]
      rw [this]
    rw [h3, e]
    have Q := R.pass B (is_k h1).2
    exact ⟨Q.a, by simp only; rw [Q.d], Q.f, Q.f', Q.lt⟩
theorem Rel.shut (B : Brk L M) {p p' : PS} (R : Rel L p p') {s : List UInt8} (h : (pShut L s p).bad = false) : Rel L (pShut L s p) (pShut M s p') := by
  have h' : (pMust L s p).bad = false := h
  have Q := R.must B h'
  exact ⟨Q.a, by show (pMust M s p').d - 1 = (pMust L s p).d - 1 + 1; rw [Q.d]; omega, Q.f, Q.f', Q.lt⟩
theorem Rel.word (B : Brk L M) {p p' : PS} (R : Rel L p p') {k : Int} (hk : k ≠ 8) (h : (pWord L k p).bad = false) : Rel L (pWord L k p) (pWord M k p') ∧ (tk M p').x = (tk L p).x := by
  obtain ⟨_, h2, h3, _⟩ := good_word hk h
  obtain ⟨_, e1, _, e3⟩ := R.lt' B (by omega)
  rw [h3]
  have : pWord M k p' = pPass M p' := by unfold pWord; rw [R.f', e1, h2]; simp
  rw [this]
  exact ⟨R.pass B (by omega), e3⟩
/-- What comes of it. -/
def Sm (L : List Tok) (q q' : PS) (t t' : Tr) : Prop := (Rel L q q' ∧ t'.strip = t.strip) ∨ Too q'
theorem sim_kind (B : Brk L M) : ∀ (n m : Nat) (p p' : PS) (t t' : Tr) (q q' : PS), Rel L p p' → pKind L n p = some (t, q) → q.bad = false → pKind M m p' = some (t', q') → Sm L q q' t t'
  | 0, _, _, _, _, _, _, _, _, h, _, _ => by cases h
  | _ + 1, 0, _, _, _, _, _, _, _, _, _, h => by cases h
  | n + 1, m + 1, p, p', t, t', q, q', R, h, hq, h' => by
    rw [pKind] at h h'
    rw [R.f] at h
    rw [R.f'] at h'
    simp only [Bool.false_eq_true, if_false] at h h'
    rw [R.is B (.inl (by decide)), R.is B (.inl (by decide)), R.is B (.inl (by decide)), R.is B (.inl (by decide)), R.is B (.inl (by decide))] at h'
    have leaf : ∀ {k : Int} {s : List UInt8}, pIs L s p = true → some (nd k (tk L p) 0 [] [], pPass L p) = some (t, q) → some (nd k (tk M p') 0 [] [], pPass M p') = some (t', q') → Sm L q q' t t' := by
      intro k s c h h'
      cases h; cases h'
      exact .inl ⟨R.pass B (is_k c).2, rfl⟩
    by_cases c : pIs L wInt p = true
    · rw [if_pos c] at h h'; exact leaf c h h'
    rw [if_neg c] at h h'; clear c
    by_cases c : pIs L wBool p = true
    · rw [if_pos c] at h h'; exact leaf c h h'
    rw [if_neg c] at h h'; clear c
    by_cases c : pIs L wStr p = true
    · rw [if_pos c] at h h'; exact leaf c h h'
    rw [if_neg c] at h h'; clear c
    by_cases c : pIs L wComp p = true
    · rw [if_pos c] at h h'; exact leaf c h h'
    rw [if_neg c] at h h'; clear c
    by_cases c : (tk L p).k = 2
    · obtain ⟨_, e1, _, e3⟩ := R.lt' B (by omega)
      rw [if_pos c] at h
      rw [if_pos (by rw [e1]; exact c)] at h'
      cases h; cases h'
      exact .inl ⟨R.pass B (by omega), by rw [strip_nd, strip_nd, e3]⟩
    rw [if_neg c] at h
    by_cases c9 : pIs L [91] p = true
    · obtain ⟨_, e1, _⟩ := R.lt' B (is_k c9).2
      rw [if_pos c9] at h
      rw [if_neg (by rw [e1]; exact c), if_pos c9] at h'
      simp only [Option.map_eq_some_iff] at h h'
      obtain ⟨⟨x, r⟩, h1, h2⟩ := h
      obtain ⟨⟨x', r'⟩, h1', h2'⟩ := h'
      cases h2; cases h2'
      have hr := bad_back (adv_shut B.l [93] r) hq
      have ho := bad_back (adv_kind B.l n _ h1) hr
      rcases R.open B ho with R1 | T
      · rcases sim_kind B n m _ _ _ _ _ _ R1 h1 hr h1' with ⟨R2, e⟩ | T
        · exact .inl ⟨R2.shut B hq, by rw [strip_nd, strip_nd]; simp only [Tr.strips]; rw [e]⟩
        · exact .inr (T.adv (adv_shut B.m [93] r'))
      · exact .inr ((T.adv (adv_kind B.m m _ h1')).adv (adv_shut B.m [93] r'))
    · rw [if_neg c9] at h
      cases h
      exact (no_fail (by decide) hq).elim
def SimE (L M : List Tok) (n : Nat) : Prop :=
  (∀ m lvl p p' t t' q q', Rel L p p' → pBin L n lvl p = some (t, q) → q.bad = false → pBin M m lvl p' = some (t', q') → Sm L q q' t t') ∧
  (∀ m lvl x x' p p' t t' q q', Rel L p p' → x'.strip = x.strip → pBinL L n lvl x p = some (t, q) → q.bad = false → pBinL M m lvl x' p' = some (t', q') → Sm L q q' t t') ∧
  (∀ m p p' t t' q q', Rel L p p' → pUn L n p = some (t, q) → q.bad = false → pUn M m p' = some (t', q') → Sm L q q' t t') ∧
  (∀ m x x' p p' t t' q q', Rel L p p' → x'.strip = x.strip → pPost L n x p = some (t, q) → q.bad = false → pPost M m x' p' = some (t', q') → Sm L q q' t t') ∧
  (∀ m p p' t t' q q', Rel L p p' → pAtom L n p = some (t, q) → q.bad = false → pAtom M m p' = some (t', q') → Sm L q q' t t') ∧
  (∀ m f a a' p p' t t' q q', Rel L p p' → Tr.strips a' = Tr.strips a → pArgs L n f a p = some (t, q) → q.bad = false → pArgs M m f a' p' = some (t', q') → (Rel L q q' ∧ Tr.strips t' = Tr.strips t) ∨ Too q')
theorem Rel.op (B : Brk L M) {p p' : PS} (R : Rel L p p') (lvl : Nat) : pOp M lvl p' = pOp L lvl p := by
  unfold pOp
  rw [R.f, R.f']
  rcases R.tok B with ⟨_, h2, _⟩ | ⟨h1, h2, h3⟩
  · obtain ⟨e1, _, e3⟩ := bare_inj h2
    rw [e1, e3]
  · simp only [bare, Prod.mk.injEq] at h3
    rw [h2, h3.1, h3.2.2]
    have : opTab [41] = (0, 0) := by decide
    rw [this]
    simp
theorem simE (B : Brk L M) : ∀ n, SimE L M n
  | 0 => ⟨fun _ _ _ _ _ _ _ _ _ h => (by cases h), fun _ _ _ _ _ _ _ _ _ _ _ _ h => (by cases h), fun _ _ _ _ _ _ _ _ h => (by cases h), fun _ _ _ _ _ _ _ _ _ _ _ h => (by cases h), fun _ _ _ _ _ _ _ _ h => (by cases h), fun _ _ _ _ _ _ _ _ _ _ _ _ h => (by cases h)⟩
  | n + 1 => by
    obtain ⟨i1, i2, i3, i4, i5, i6⟩ := simE B n
    obtain ⟨a1, a2, a3, a4, a5, a6⟩ := advE B.l n
    refine ⟨fun m lvl p p' t t' q q' R h hq h' => ?_, fun m lvl x x' p p' t t' q q' R hx h hq h' => ?_, fun m p p' t t' q q' R h hq h' => ?_, fun m x x' p p' t t' q q' R hx h hq h' => ?_, fun m p p' t t' q q' R h hq h' => ?_, fun m f a a' p p' t t' q q' R ha h hq h' => ?_⟩ <;> (cases m with | zero => cases h' | succ m => ?_) <;> obtain ⟨b1, b2, b3, b4, b5, b6⟩ := advE B.m m
    · rw [pBin] at h h'
      split at h
      · rename_i c
        rw [if_pos c] at h'
        exact i3 m _ _ _ _ _ _ R h hq h'
      · rename_i c
        rw [if_neg c] at h'
        simp only [Option.bind_eq_some_iff] at h h'
        obtain ⟨⟨y, r⟩, h1, h2⟩ := h
        obtain ⟨⟨y', r'⟩, h1', h2'⟩ := h'
        rcases i1 m _ _ _ _ _ _ _ R h1 (bad_back (a2 _ _ _ _ _ h2) hq) h1' with ⟨R1, e⟩ | T
        · exact i2 m _ _ _ _ _ _ _ _ _ R1 e h2 hq h2'
        · exact .inr (T.adv (b2 _ _ _ _ _ h2'))
    · rw [pBinL] at h h'
      rw [R.op B lvl] at h'
      split at h
      · rename_i c
        rw [if_pos c] at h'
        cases h; cases h'
        exact .inl ⟨R, hx⟩
      · rename_i c
        rw [if_neg c] at h'
        simp only [Option.bind_eq_some_iff] at h h'
        obtain ⟨⟨y, r⟩, h1, h2⟩ := h
        obtain ⟨⟨y', r'⟩, h1', h2'⟩ := h'
        have c8 := (op_bad c).2
        have R0 := R.pass B c8
        dsimp only at h2 h2'
        have hr : r.bad = false := by
          split at h2
          · cases h2; exact hq
          · exact bad_back (a2 _ _ _ _ _ h2) hq
        rcases i1 m _ _ _ _ _ _ _ R0 h1 hr h1' with ⟨R1, e⟩ | T
        · have en : (nd 31 (tk M p') (pOp L lvl p) [] [x', y']).strip = (nd 31 (tk L p) (pOp L lvl p) [] [x, y]).strip := by
            rw [strip_nd, strip_nd]; simp only [Tr.strips]; rw [hx, e]
          split at h2
          · rename_i c3
            rw [if_pos c3] at h2'
            cases h2; cases h2'
            exact .inl ⟨R1, en⟩
          · rename_i c3
            rw [if_neg c3] at h2'
            exact i2 m _ _ _ _ _ _ _ _ _ R1 en h2 hq h2'
        · right
          split at h2'
          · cases h2'; exact T
          · exact T.adv (b2 _ _ _ _ _ h2')
    · rw [pUn] at h h'
      rw [R.is B (.inl (by decide)), R.is B (.inl (by decide))] at h'
      have un : ∀ {s : List UInt8} {k : Int}, pIs L s p = true → (pUn L n (pOpen L (tk L p).x p)).map (fun r => (nd 30 (tk L p) k [] [r.1], { r.2 with d := r.2.d - 1 })) = some (t, q) →
          (pUn M m (pOpen M (tk M p').x p')).map (fun r => (nd 30 (tk M p') k [] [r.1], { r.2 with d := r.2.d - 1 })) = some (t', q') → Sm L q q' t t' := by
        intro s k c h h'
        simp only [Option.map_eq_some_iff] at h h'
        obtain ⟨⟨y, r⟩, h1, h2⟩ := h
        obtain ⟨⟨y', r'⟩, h1', h2'⟩ := h'
        cases h2; cases h2'
        obtain ⟨_, _, _, e3⟩ := R.lt' B (is_k c).2
        rw [e3] at h1'
        have hr : r.bad = false := hq
        rcases R.open B (bad_back (a3 _ _ _ h1) hr) with R1 | T
        · rcases i3 m _ _ _ _ _ _ R1 h1 hr h1' with ⟨R2, e⟩ | T
          · exact .inl ⟨⟨R2.a, by simp only; rw [R2.d]; omega, R2.f, R2.f', R2.lt⟩, by rw [strip_nd, strip_nd]; simp only [Tr.strips]; rw [e]⟩
          · exact .inr T
        · have T2 : Too r' := T.adv (b3 _ _ _ h1')
          exact .inr T2
      by_cases c : pIs L [45] p = true
      · rw [if_pos c] at h h'; exact un c h h'
      rw [if_neg c] at h h'; clear c
      by_cases c : pIs L [33] p = true
      · rw [if_pos c] at h h'; exact un c h h'
      rw [if_neg c] at h h'
      simp only [Option.bind_eq_some_iff] at h h'
      obtain ⟨⟨y, r⟩, h1, h2⟩ := h
      obtain ⟨⟨y', r'⟩, h1', h2'⟩ := h'
      rcases i5 m _ _ _ _ _ _ R h1 (bad_back (a4 _ _ _ _ h2) hq) h1' with ⟨R1, e⟩ | T
      · exact i4 m _ _ _ _ _ _ _ _ R1 e h2 hq h2'
      · exact .inr (T.adv (b4 _ _ _ _ h2'))
    · rw [pPost] at h h'
      rw [R.is B (.inl (by decide)), R.is B (.inl (by decide))] at h'
      by_cases c : pIs L [91] p = true
      · rw [if_pos c] at h h'
        simp only [Option.bind_eq_some_iff] at h h'
        obtain ⟨⟨y, r⟩, h1, h2⟩ := h
        obtain ⟨⟨y', r'⟩, h1', h2'⟩ := h'
        have hs := bad_back (a4 _ _ _ _ h2) hq
        have hr := bad_back (adv_shut B.l [93] r) hs
        rcases R.open B (bad_back (a1 _ _ _ _ h1) hr) with R1 | T
        · rcases i1 m _ _ _ _ _ _ _ R1 h1 hr h1' with ⟨R2, e⟩ | T
          · exact i4 m _ _ _ _ _ _ _ _ (R2.shut B hs) (by rw [strip_nd, strip_nd]; simp only [Tr.strips]; rw [e, hx]) h2 hq h2'
          · exact .inr ((T.adv (adv_shut B.m [93] r')).adv (b4 _ _ _ _ h2'))
        · exact .inr (((T.adv (b1 _ _ _ _ h1')).adv (adv_shut B.m [93] r')).adv (b4 _ _ _ _ h2'))
      rw [if_neg c] at h h'; clear c
      by_cases c : pIs L [46] p = true
      · rw [if_pos c] at h h'
        have hw := bad_back (a4 _ _ _ _ h) hq
        obtain ⟨R1, ex⟩ := (R.pass B (is_k c).2).word B (by decide) hw
        exact i4 m _ _ _ _ _ _ _ _ R1 (by rw [strip_nd, strip_nd]; simp only [Tr.strips]; rw [hx, ex]) h hq h'
      · rw [if_neg c] at h h'
        cases h; cases h'
        exact .inl ⟨R, hx⟩
    · rw [pAtom] at h h'
      rw [R.f] at h
      rw [R.f'] at h'
      simp only [Bool.false_eq_true, if_false] at h h'
      rcases R.tok B with ⟨hlt, _, h8⟩ | ⟨_, h8, _⟩
      rotate_left
      · -- the end
        have no : ∀ s, pIs L s p = false := fun s => by unfold pIs; rw [h8]; simp
        rw [h8] at h
        simp only [no, Bool.false_eq_true, if_false, show ¬ (8 : Int) = 3 by decide, show ¬ (8 : Int) = 4 by decide, show ¬ (8 : Int) = 5 by decide, show ¬ (8 : Int) = 1 by decide] at h
        cases h
        exact (no_fail (by decide) hq).elim
      obtain ⟨_, e1, e2, e3⟩ := R.lt' B h8
      have R0 := R.pass B h8
      rw [e1, e2, e3, R.is B (.inl (by decide)), R.is B (.inl (by decide)), R.is B (.inl (by decide)), R.is B (.inl (by decide)), R.is B (.inl (by decide)), R0.is B (.inl (by decide))] at h'
      have leaf : ∀ {k k' : Int} {x : List UInt8}, some (nd k (tk L p) k' x [], pPass L p) = some (t, q) → some (nd k (tk M p') k' x [], pPass M p') = some (t', q') → Sm L q q' t t' := by
        intro k k' x h h'
        cases h; cases h'
        exact .inl ⟨R0, rfl⟩
      by_cases c : (tk L p).k = 3
      · rw [if_pos c] at h h'; exact leaf h h'
      rw [if_neg c] at h h'; clear c
      by_cases c : (tk L p).k = 4
      · rw [if_pos c] at h h'; exact leaf h h'
      rw [if_neg c] at h h'; clear c
      by_cases c : (tk L p).k = 5
      · rw [if_pos c] at h h'; exact leaf h h'
      rw [if_neg c] at h h'; clear c
      by_cases c : pIs L wTrue p = true
      · rw [if_pos c] at h h'; exact leaf h h'
      rw [if_neg c] at h h'; clear c
      by_cases c : pIs L wFalse p = true
      · rw [if_pos c] at h h'; exact leaf h h'
      rw [if_neg c] at h h'; clear c
      by_cases c : pIs L wNil p = true
      · rw [if_pos c] at h h'; exact leaf h h'
      rw [if_neg c] at h h'; clear c
      by_cases c : (tk L p).k = 1
      · rw [if_pos c] at h h'
        by_cases c2 : pIs L [40] (pPass L p) = true
        · rw [if_pos c2] at h h'
          simp only [Option.map_eq_some_iff] at h h'
          obtain ⟨⟨y, r⟩, h1, h2⟩ := h
          obtain ⟨⟨y', r'⟩, h1', h2'⟩ := h'
          cases h2; cases h2'
          have hr := bad_back (adv_shut B.l [41] r) hq
          rcases R0.open B (bad_back (a6 _ _ _ _ _ h1) hr) with R1 | T
          · rcases i6 m _ _ _ _ _ _ _ _ _ R1 rfl h1 hr h1' with ⟨R2, e⟩ | T
            · exact .inl ⟨R2.shut B hq, by rw [strip_nd, strip_nd, e]⟩
            · exact .inr (T.adv (adv_shut B.m [41] r'))
          · exact .inr ((T.adv (b6 _ _ _ _ _ h1')).adv (adv_shut B.m [41] r'))
        · rw [if_neg c2] at h h'
          exact leaf h h'
      rw [if_neg c] at h h'; clear c
      by_cases c : pIs L [40] p = true
      · rw [if_pos c] at h h'
        simp only [Option.map_eq_some_iff] at h h'
        obtain ⟨⟨y, r⟩, h1, h2⟩ := h
        obtain ⟨⟨y', r'⟩, h1', h2'⟩ := h'
        cases h2; cases h2'
        have hr := bad_back (adv_shut B.l [41] r) hq
        rcases R.open B (bad_back (a1 _ _ _ _ h1) hr) with R1 | T
        · rcases i1 m _ _ _ _ _ _ _ R1 h1 hr h1' with ⟨R2, e⟩ | T
          · exact .inl ⟨R2.shut B hq, e⟩
          · exact .inr (T.adv (adv_shut B.m [41] r'))
        · exact .inr ((T.adv (b1 _ _ _ _ h1')).adv (adv_shut B.m [41] r'))
      rw [if_neg c] at h h'; clear c
      by_cases c : pIs L wMake p = true
      · rw [if_pos c] at h h'
        simp only [Option.bind_eq_some_iff] at h h'
        obtain ⟨⟨y, r⟩, h1, h2⟩ := h
        obtain ⟨⟨y', r'⟩, h1', h2'⟩ := h'
        dsimp only at h2 h2'
        have hr : r.bad = false := by
          split at h2
          · simp only [Option.map_eq_some_iff] at h2
            obtain ⟨⟨z, u⟩, h3, h4⟩ := h2
            cases h4
            exact bad_back (adv_open B.l [40] r) (bad_back (a1 _ _ _ _ h3) (bad_back (adv_shut B.l [41] u) hq))
          · cases h2
            exact bad_back (adv_open B.l [40] r) (bad_back (adv_shut B.l [41] _) hq)
        have hh := bad_back (adv_kind B.l n _ h1) hr
        have Rh : Rel L (pHead L p) (pHead M p') := by
          unfold pHead at hh ⊢
          have c0 : ¬ (!((tk L (pPass L p)).k == 2) && !pIs L [91] (pPass L p)) = true := by
            intro c0; rw [if_pos c0] at hh; exact no_fail (by decide) hh
          rw [if_neg c0]
          have h8' : (tk L (pPass L p)).k ≠ 8 := by
            intro e
            apply c0
            have : pIs L [91] (pPass L p) = false := by unfold pIs; rw [e]; simp
            rw [e, this]; rfl
          obtain ⟨_, f1, _⟩ := R0.lt' B h8'
          rw [f1, R0.is B (.inl (by decide)), if_neg c0]
          exact R0
        have bad' : Too r' → Too q' := by
          intro T
          split at h2'
          · simp only [Option.map_eq_some_iff] at h2'
            obtain ⟨⟨z, u⟩, h3, h4⟩ := h2'
            cases h4
            exact ((T.adv (adv_open B.m [40] r')).adv (b1 _ _ _ _ h3)).adv (adv_shut B.m [41] u)
          · cases h2'
            exact (T.adv (adv_open B.m [40] r')).adv (adv_shut B.m [41] _)
        rcases sim_kind B n m _ _ _ _ _ _ Rh h1 hr h1' with ⟨R2, e⟩ | T
        · have ek : y'.k = y.k := by rw [← strip_k, e, strip_k]
          rw [ek] at h2'
          split at h2
          · rename_i c20
            rw [if_pos c20] at h2'
            simp only [Option.map_eq_some_iff] at h2 h2'
            obtain ⟨⟨z, u⟩, h3, h4⟩ := h2
            obtain ⟨⟨z', u'⟩, h3', h4'⟩ := h2'
            cases h4; cases h4'
            have hu := bad_back (adv_shut B.l [41] u) hq
            rcases R2.open B (bad_back (a1 _ _ _ _ h3) hu) with R3 | T
            · rcases i1 m _ _ _ _ _ _ _ R3 h3 hu h3' with ⟨R4, e4⟩ | T
              · exact .inl ⟨R4.shut B hq, by rw [strip_nd, strip_nd]; simp only [Tr.strips]; rw [e, e4]⟩
              · exact .inr (T.adv (adv_shut B.m [41] u'))
            · exact .inr ((T.adv (b1 _ _ _ _ h3')).adv (adv_shut B.m [41] u'))
          · rename_i c20
            rw [if_neg c20] at h2'
            cases h2; cases h2'
            rcases R2.open B (bad_back (adv_shut B.l [41] _) hq) with R3 | T
            · exact .inl ⟨R3.shut B hq, by rw [strip_nd, strip_nd]; simp only [Tr.strips]; rw [e]⟩
            · exact .inr (T.adv (adv_shut B.m [41] _))
        · exact .inr (bad' T)
      rw [if_neg c] at h
      cases h
      exact (no_fail (by decide) hq).elim
    · rw [pArgs] at h h'
      rw [R.f] at h
      rw [R.f'] at h'
      simp only [Bool.false_or] at h h'
      by_cases c : pIs L [41] p = true
      · rw [if_pos c] at h
        rw [if_pos (R.is_t B c)] at h'
        cases h; cases h'
        exact .inl ⟨R, ha⟩
      · rw [if_neg c] at h
        simp only [Option.bind_eq_some_iff] at h
        obtain ⟨⟨y, r⟩, h1, h2⟩ := h
        have hr := bad_back (a6 _ _ _ _ _ h2) hq
        have hlt : p.a + 1 < L.length := by
          rcases R.tok B with ⟨hlt, _⟩ | ⟨he, h8, _⟩
          · exact hlt
          · exfalso
            have h0 : Adv L p (if f = true then p else pMust L [44] p) 0 := by
              split
              · exact Adv.refl p
              · exact adv_must B.l _ p
            have hc := ((redE B.l n).1 _ _ _ _ h1).1.cnt hr
            have hn : 1 ≤ y.n := by cases y; simp [Tr.n, Tr.nods]
            have hv := (a1 _ _ _ _ h1).v (h0.v R.lt)
            have := h0.a
            omega
        have c' : ¬ pIs M [41] p' = true := by rw [R.is B (.inr hlt)]; exact c
        rw [if_neg c'] at h'
        simp only [Option.bind_eq_some_iff] at h'
        obtain ⟨⟨y', r'⟩, h1', h2'⟩ := h'
        have R0 : Rel L (if f = true then p else pMust L [44] p) (if f = true then p' else pMust M [44] p') := by
          have hb := bad_back (a1 _ _ _ _ h1) hr
          split
          · exact R
          · rename_i hf
            rw [if_neg hf] at hb
            exact R.must B hb
        rcases i1 m _ _ _ _ _ _ _ R0 h1 hr h1' with ⟨R1, e⟩ | T
        · exact i6 m _ _ _ _ _ _ _ _ _ R1 (by rw [strips_app, strips_app, ha]; simp only [Tr.strips]; rw [e]) h2 hq h2'
        · exact .inr (T.adv (b6 _ _ _ _ _ h2'))
/-- What comes of the brackets. -/
def BR (L : List Tok) (t : Tr) (u : Tr) (q : PS) : Prop := Too q ∨ (u.strip = t.strip ∧ q.a = L.length + 1 ∧ q.bad = false)
theorem end_z (B : Brk L M) {q : PS} (h : q.a = L.length + 1) : (tk M q).k = 8 := by
  have := B.m.last
  rw [B.len, show L.length + 2 - 1 = L.length + 1 by omega] at this
  unfold tk; rw [h]; exact this
theorem BR.post (B : Brk L M) {t x u : Tr} {n : Nat} {p q : PS} (h : BR L t x p) (h2 : pPost M n x p = some (u, q)) : BR L t u q := by
  rcases h with T | ⟨e, ha, hb⟩
  · exact .inl (T.adv ((advE B.m n).2.2.2.1 _ _ _ _ h2))
  · have h8 := end_z B ha
    have no : ∀ s, pIs M s p = false := fun s => by unfold pIs; rw [h8]; simp
    cases n with
    | zero => cases h2
    | succ n =>
      rw [pPost, no, no] at h2
      cases h2
      exact .inr ⟨e, ha, hb⟩
theorem BR.binl (B : Brk L M) {t x u : Tr} {n lvl : Nat} {p q : PS} (h : BR L t x p) (h2 : pBinL M n lvl x p = some (u, q)) : BR L t u q := by
  rcases h with T | ⟨e, ha, hb⟩
  · exact .inl (T.adv ((advE B.m n).2.1 _ _ _ _ _ h2))
  · have h8 := end_z B ha
    cases n with
    | zero => cases h2
    | succ n =>
      rw [pBinL, if_pos (by unfold pOp; rw [h8]; simp)] at h2
      cases h2
      exact .inr ⟨e, ha, hb⟩
/-- The brackets are taken. -/
theorem brk_run (B : Brk L M) (ho : bare (M.getD 0 ⟨8, 0, 0, 0, []⟩) = (7, 0, [40])) {F : Nat} {t : Tr} {r : PS} (hL : pBin L F 1 ⟨0, 0, (0, 0, 0)⟩ = some (t, r)) (hr : r.bad = false) (he : (tk L r).k = 8) :
    ∀ n, (∀ lvl u q, pBin M n lvl ⟨0, 0, (0, 0, 0)⟩ = some (u, q) → BR L t u q) ∧ (∀ u q, pUn M n ⟨0, 0, (0, 0, 0)⟩ = some (u, q) → BR L t u q) ∧ (∀ u q, pAtom M n ⟨0, 0, (0, 0, 0)⟩ = some (u, q) → BR L t u q)
  | 0 => ⟨fun _ _ _ h => (by cases h), fun _ _ h => (by cases h), fun _ _ h => (by cases h)⟩
  | n + 1 => by
    obtain ⟨i1, i2, i3⟩ := brk_run B ho hL hr he n
    have hpos := B.l.pos
    have ht : bare (tk M ⟨0, 0, (0, 0, 0)⟩) = (7, 0, [40]) := ho
    simp only [bare, Prod.mk.injEq] at ht
    obtain ⟨k7, _, x40⟩ := ht
    have w : ∀ s, pIs M s ⟨0, 0, (0, 0, 0)⟩ = ([40] == s) := fun s => by
      unfold pIs; rw [k7, x40]; rfl
    refine ⟨fun lvl u q h => ?_, fun u q h => ?_, fun u q h => ?_⟩
    · rw [pBin] at h
      split at h
      · exact i2 u q h
      · simp only [Option.bind_eq_some_iff] at h
        obtain ⟨⟨y, v⟩, h1, h2⟩ := h
        exact (i1 _ y v h1).binl B h2
    · rw [pUn, w, w] at h
      simp only [show (([40] : List UInt8) == [45]) = false by decide, show (([40] : List UInt8) == [33]) = false by decide, Bool.false_eq_true, if_false, Option.bind_eq_some_iff] at h
      obtain ⟨⟨y, v⟩, h1, h2⟩ := h
      exact (i3 y v h1).post B h2
    · rw [pAtom, w, w, w, w, k7] at h
      simp only [show (⟨0, 0, (0, 0, 0)⟩ : PS).bad = false by rfl, show (([40] : List UInt8) == wTrue) = false by decide, show (([40] : List UInt8) == wFalse) = false by decide, show (([40] : List UInt8) == wNil) = false by decide, show (([40] : List UInt8) == [40]) = true by decide, Bool.false_eq_true, if_false, if_true,
        show ¬ (7 : Int) = 3 by decide, show ¬ (7 : Int) = 4 by decide, show ¬ (7 : Int) = 5 by decide, show ¬ (7 : Int) = 1 by decide, Option.map_eq_some_iff] at h
      obtain ⟨⟨y, v⟩, h1, h2⟩ := h
      cases h2
      have hp : pOpen M [40] ⟨0, 0, (0, 0, 0)⟩ = ⟨1, 1, (0, 0, 0)⟩ := by
        have c : (pIs M [40] ⟨0, 0, (0, 0, 0)⟩ && (⟨0, 0, (0, 0, 0)⟩ : PS).d == 40) = false := by rw [w]; rfl
        have hm : pMust M [40] ⟨0, 0, (0, 0, 0)⟩ = ⟨1, 0, (0, 0, 0)⟩ := by
          unfold pMust; rw [w, if_pos (by decide)]; unfold pPass; rw [k7]; rfl
        unfold pOpen
        simp only [c, Bool.false_eq_true, if_false, hm]
        rfl
      rw [hp] at h1
      have R : Rel L ⟨0, 0, (0, 0, 0)⟩ ⟨1, 1, (0, 0, 0)⟩ := ⟨rfl, rfl, rfl, rfl, hpos⟩
      rcases (simE B F).1 n 1 _ _ _ _ _ _ R hL hr h1 with ⟨R2, e⟩ | T
      · have hv : r.a = L.length - 1 := by
          rcases R2.tok B with ⟨_, _, h8⟩ | ⟨h1, _, _⟩
          · exact absurd he h8
          · omega
        have hs : bare (tk M v) = (7, 0, [41]) := by
          rcases R2.tok B with ⟨_, _, h8⟩ | ⟨_, _, h3⟩
          · exact absurd he h8
          · exact h3
        simp only [bare, Prod.mk.injEq] at hs
        have hi : pIs M [41] v = true := by unfold pIs; rw [R2.f', hs.1, hs.2.2]; rfl
        right
        have hm : pMust M [41] v = pPass M v := by unfold pMust; rw [if_pos hi]
        have hp : pPass M v = { v with a := v.a + 1 } := by unfold pPass; rw [if_neg (by rw [hs.1]; decide)]
        refine ⟨e, ?_, ?_⟩
        · unfold pShut
          rw [hm, hp]
          have ha := R2.a
          simp only; omega
        · unfold pShut
          rw [hm, hp]
          exact R2.f'
      · exact .inl (T.adv (adv_shut B.m [41] v))
end
mutual
theorem Tr.strip_szs : ∀ t : Tr, t.strip.sz = t.sz
  | .nd _ _ _ _ _ ks => Tr.strips_szs ks
theorem Tr.strips_szs : ∀ ks : List Tr, Tr.szs (Tr.strips ks) = Tr.szs ks
  | [] => rfl
  | t :: ks => by simp only [Tr.strips, Tr.szs]; rw [Tr.strip_szs t, Tr.strips_szs ks]
end
/-- A node without its place. -/
def Nod.bare (x : Nod) : Nod := ⟨x.k, 0, 0, x.z, x.n, x.x⟩
mutual
theorem Tr.strip_nods : ∀ t : Tr, t.strip.nods = t.nods.map Nod.bare
  | .nd k l c n x ks => by
    simp only [Tr.strip, Tr.nods, List.map_cons]
    rw [Tr.strips_nods ks, Tr.strips_szs ks]; rfl
theorem Tr.strips_nods : ∀ ks : List Tr, Tr.nodss (Tr.strips ks) = (Tr.nodss ks).map Nod.bare
  | [] => rfl
  | t :: ks => by simp only [Tr.strips, Tr.nodss, List.map_append]; rw [Tr.strip_nods t, Tr.strips_nods ks]
end
/-- AN EXPRESSION IN ROUND BRACKETS. -/
theorem brackets_tree {s : List UInt8} {f g : Int × Int × Int} {t u : Tr} (h : parseT false s = some (f, t)) (hf : f.1 = 0) (h' : parseT false (wrapS s) = some (g, u)) : g.1 = 6 ∨ (g.1 = 0 ∧ u.nods.map Nod.bare = t.nods.map Nod.bare) := by
  obtain ⟨hl0, _⟩ := parse_red h hf
  obtain ⟨l0, e, o, l0', c', e', q1, q2, q3, q4, q5, q6, q7, q8⟩ := lex_wrap hl0
  have T := toks_of hl0
  have T' := toks_of (s := wrapS s) (by rw [q4])
  have hlen : l0'.length = l0.length := by have := congrArg List.length q5; simpa using this
  have B : Brk (lexAll s).2 (lexAll (wrapS s)).2 := by
    refine ⟨T.lw, T'.lw, by rw [q1, q4]; simp; omega, fun a ha => ?_, T.lw.last, ?_⟩
    · rw [q1] at ha ⊢
      rw [q4]
      have hal : a < l0.length := by simpa using ha
      have hal' : a < l0'.length := by omega
      simp only [List.getD_cons_succ]
      rw [List.getD_eq_getElem?_getD, List.getD_eq_getElem?_getD, List.getElem?_append_left hal', List.getElem?_append_left hal, List.getElem?_eq_getElem hal', List.getElem?_eq_getElem hal]
      refine ⟨?_, q3 _ (List.getElem_mem hal)⟩
      have e1 : (l0'.map bare)[a]? = (l0.map bare)[a]? := by rw [q5]
      rw [List.getElem?_map, List.getElem?_map, List.getElem?_eq_getElem hal', List.getElem?_eq_getElem hal] at e1
      exact Option.some.inj e1
    · rw [q1, q4]
      have : (l0 ++ [e]).length = l0'.length + 1 := by simp; omega
      rw [this, List.getD_cons_succ, List.getD_eq_getElem?_getD, List.getElem?_append_right (Nat.le_refl _), Nat.sub_self]
      exact q7
  have ho : bare ((lexAll (wrapS s)).2.getD 0 ⟨8, 0, 0, 0, []⟩) = (7, 0, [40]) := by rw [q4]; exact q6
  unfold parseT at h h'
  rw [if_neg (by rw [hl0]; decide)] at h
  rw [if_neg (by rw [q4]; simp)] at h'
  simp only [Bool.false_eq_true, if_false, Option.map_eq_some_iff] at h h'
  obtain ⟨⟨t1, r⟩, h1, h2⟩ := h
  obtain ⟨⟨u1, v⟩, h1', h2'⟩ := h'
  cases h2; cases h2'
  dsimp only at hf ⊢
  have hr : (tk (lexAll s).2 r).k = 8 ∧ r.bad = false := by
    unfold endP at hf
    split at hf
    · rename_i h8; exact ⟨h8, by unfold PS.bad; rw [hf]; rfl⟩
    · exfalso
      have hb := bad_fail (L := (lexAll s).2) (e := 5) (by decide) r
      unfold PS.bad at hb
      rw [hf] at hb; cases hb
  rcases (brk_run B ho h1 hr.2 hr.1 _).1 1 u1 v h1' with T | ⟨e1, e2, e3⟩
  · left
    unfold endP
    split
    · exact T
    · unfold pFail; rw [if_pos T.bad]; exact T
  · right
    have h8 := end_z B e2
    unfold endP
    rw [if_pos h8]
    refine ⟨by unfold PS.bad at e3; simpa using e3, ?_⟩
    rw [← Tr.strip_nods, ← Tr.strip_nods, e1]
end Go.Proofs.YthlakehilhpojaaDoor
namespace Go.Proofs.YthlakehilhpojaaDoor
open Go.RowKit
attribute [local go_sem] says_tt says_ff th_need th_ite th_call th_callK th_load th_store says_ret says_again BE.den IE.den SE.den LE.den AE.den CE.den PE.den VE.den KV.val Got.den Got.cnt exI allI exL allL Ctx.push Ctx.heap Ctx.cut Ctx.bare Ctx.mark Inc.blank List.getD_cons_zero List.getD_cons_succ List.cons_append List.nil_append List.append_nil List.map_cons List.map_nil List.replicate_zero List.replicate_succ specOf ltB_t leB_t ltB_f leB_f slc_val slc_nil slc_inj pt_val pt_nil hle_noHeap hle_refl hread_set hwrite_set set_same set_set noHeap_at B_inj ones_nil and_assoc
def fm_nsame : Fm := (.ite (.not (.eqI (.cnt (.x 0)) (.cnt (.x 1))))
  (.ret (.p (.one (.b (.c false)))))
  (.loop 0 ⟨[(.c 0)], [(.c false)], [], [], [], []⟩
  (.ite (.lt (.x 0) (.cnt (.x 0)))
  (.load (.c true) (.el (.x 0) (.x 0) 6 0) 1 [(.i .u8 (.x 1))] ⟨1, 0, 0, 0, 0, 0⟩
  (.load (.c true) (.el (.x 1) (.x 0) 6 0) 1 [(.i .u8 (.x 2))] ⟨1, 0, 0, 0, 0, 0⟩
  (.load (.eqI (.x 1) (.x 2)) (.el (.x 0) (.x 0) 6 3) 1 [(.i .i64 (.x 3))] ⟨1, 0, 0, 0, 0, 0⟩
  (.load (.eqI (.x 1) (.x 2)) (.el (.x 1) (.x 0) 6 3) 1 [(.i .i64 (.x 4))] ⟨1, 0, 0, 0, 0, 0⟩
  (.load (.not (.or (.not (.eqI (.x 1) (.x 2))) (.not (.eqI (.x 3) (.x 4))))) (.el (.x 0) (.x 0) 6 4) 1 [(.i .i64 (.x 5))] ⟨1, 0, 0, 0, 0, 0⟩
  (.load (.not (.or (.not (.eqI (.x 1) (.x 2))) (.not (.eqI (.x 3) (.x 4))))) (.el (.x 1) (.x 0) 6 4) 1 [(.i .i64 (.x 6))] ⟨1, 0, 0, 0, 0, 0⟩
  (.load (.not (.or (.or (.not (.eqI (.x 1) (.x 2))) (.not (.eqI (.x 3) (.x 4)))) (.not (.eqI (.x 5) (.x 6))))) (.el (.x 0) (.x 0) 6 5) 1 [(.s (.x 0))] ⟨0, 0, 1, 0, 0, 0⟩
  (.load (.not (.or (.or (.not (.eqI (.x 1) (.x 2))) (.not (.eqI (.x 3) (.x 4)))) (.not (.eqI (.x 5) (.x 6))))) (.el (.x 1) (.x 0) 6 5) 1 [(.s (.x 1))] ⟨0, 0, 1, 0, 0, 0⟩
  (.need (.c true) (.and (.and (.le (.c 0) (.x 0)) (.lt (.x 0) (.cnt (.x 0)))) (.nns (.x 0)))
  (.need (.c true) (.nns (.x 0))
  (.need (.c true) (.and (.and (.le (.c 0) (.x 0)) (.lt (.x 0) (.cnt (.x 1)))) (.nns (.x 1)))
  (.need (.c true) (.nns (.x 1))
  (.need (.eqI (.x 1) (.x 2)) (.and (.and (.le (.c 0) (.x 0)) (.lt (.x 0) (.cnt (.x 0)))) (.nns (.x 0)))
  (.need (.eqI (.x 1) (.x 2)) (.nns (.x 0))
  (.need (.eqI (.x 1) (.x 2)) (.and (.and (.le (.c 0) (.x 0)) (.lt (.x 0) (.cnt (.x 1)))) (.nns (.x 1)))
  (.need (.eqI (.x 1) (.x 2)) (.nns (.x 1))
  (.need (.not (.or (.not (.eqI (.x 1) (.x 2))) (.not (.eqI (.x 3) (.x 4))))) (.and (.and (.le (.c 0) (.x 0)) (.lt (.x 0) (.cnt (.x 0)))) (.nns (.x 0)))
  (.need (.not (.or (.not (.eqI (.x 1) (.x 2))) (.not (.eqI (.x 3) (.x 4))))) (.nns (.x 0))
  (.need (.not (.or (.not (.eqI (.x 1) (.x 2))) (.not (.eqI (.x 3) (.x 4))))) (.and (.and (.le (.c 0) (.x 0)) (.lt (.x 0) (.cnt (.x 1)))) (.nns (.x 1)))
  (.need (.not (.or (.not (.eqI (.x 1) (.x 2))) (.not (.eqI (.x 3) (.x 4))))) (.nns (.x 1))
  (.need (.not (.or (.or (.not (.eqI (.x 1) (.x 2))) (.not (.eqI (.x 3) (.x 4)))) (.not (.eqI (.x 5) (.x 6))))) (.and (.and (.le (.c 0) (.x 0)) (.lt (.x 0) (.cnt (.x 0)))) (.nns (.x 0)))
  (.need (.not (.or (.or (.not (.eqI (.x 1) (.x 2))) (.not (.eqI (.x 3) (.x 4)))) (.not (.eqI (.x 5) (.x 6))))) (.nns (.x 0))
  (.need (.not (.or (.or (.not (.eqI (.x 1) (.x 2))) (.not (.eqI (.x 3) (.x 4)))) (.not (.eqI (.x 5) (.x 6))))) (.and (.and (.le (.c 0) (.x 0)) (.lt (.x 0) (.cnt (.x 1)))) (.nns (.x 1)))
  (.need (.not (.or (.or (.not (.eqI (.x 1) (.x 2))) (.not (.eqI (.x 3) (.x 4)))) (.not (.eqI (.x 5) (.x 6))))) (.nns (.x 1))
  (.ite (.or (.or (.or (.not (.eqI (.x 1) (.x 2))) (.not (.eqI (.x 3) (.x 4)))) (.not (.eqI (.x 5) (.x 6)))) (.not (.eqS (.x 0) (.x 1))))
  (.ret (.p (.one (.b (.c false)))))
  (.need (.c true) (.and (.le (.c (-9223372036854775808)) (.add (.x 0) (.c 1))) (.le (.add (.x 0) (.c 1)) (.c 9223372036854775807)))
  (.again 0 ⟨0, 0, 0, 0, 2, 0⟩ ⟨1, 1, 0, 0, 2, 0⟩ ⟨[(.add (.x 0) (.c 1))], [(.x 0)], [], [], [], []⟩)))))))))))))))))))))))))))
  (.ret (.p (.one (.b (.c true))))))))
theorem gen_nsame : genFn ⟨true, []⟩ Tryd.prog (fun l => ([⟨[4, 13], [14, 15, 5, 16, 17, 18, 19, 20, 21, 22, 23, 24, 25, 26, 27, 28, 29, 30, 31, 32, 33, 34, 35, 36, 37, 38, 39, 40, 41, 42, 43, 44, 45, 46, 47, 48, 49, 50, 51, 52, 53, 54, 55, 56, 57, 58, 59, 60, 61, 62, 63, 64, 65, 66], []⟩] : List LAnn).getD l ⟨[], [], []⟩) Tryd.f10 = fm_nsame := by kernel_rfl
theorem ps_nsame : freshPs Tryd.prog .zero Tryd.f10.params.toList = some ([(.one (.sl (.x 0))), (.one (.sl (.x 1)))], ⟨0, 0, 0, 0, 2, 0⟩) := by kernel_rfl
def fm_lbrk : Fm := (.ite (.lt (.c 1000) (.len (.x 0)))
  (.call (.c true) false 6 [] (.p (.one (.b (.x 0)))) ⟨0, 1, 0, 0, 0, 0⟩
  (.ret (.p (.one (.b (.x 0))))))
  (.call (.c true) false 9 [(.one (.s (.x 0)))] (.tup [(.one (.sl (.x 0))), (.agg [(.i .i64 (.x 0)), (.i .i64 (.x 1)), (.i .i64 (.x 2))])]) ⟨3, 0, 0, 0, 1, 0⟩
  (.need (.c true) (.le (.add (.len (.c [40])) (.len (.x 0))) (.c 9223372036854775807))
  (.need (.c true) (.le (.add (.len (.app (.c [40]) (.x 0))) (.len (.c [10, 41]))) (.c 9223372036854775807))
  (.call (.c true) false 9 [(.one (.s (.app (.app (.c [40]) (.x 0)) (.c [10, 41]))))] (.tup [(.one (.sl (.x 1))), (.agg [(.i .i64 (.x 3)), (.i .i64 (.x 4)), (.i .i64 (.x 5))])]) ⟨3, 0, 0, 0, 1, 0⟩
  (.ite (.or (.eqI (.x 3) (.c 6)) (.eqI (.x 3) (.c 3)))
  (.call (.eqI (.cnt (.x 1)) (.c 0)) false 6 [] (.p (.one (.b (.x 0)))) ⟨0, 1, 0, 0, 0, 0⟩
  (.ret (.p (.one (.b (.and (.eqI (.cnt (.x 1)) (.c 0)) (.x 0)))))))
  (.ite (.not (.eqI (.x 0) (.c 0)))
  (.call (.c true) false 6 [] (.p (.one (.b (.x 0)))) ⟨0, 1, 0, 0, 0, 0⟩
  (.ret (.p (.one (.b (.x 0))))))
  (.call (.eqI (.x 3) (.c 0)) false 10 [(.one (.sl (.x 0))), (.one (.sl (.x 1)))] (.p (.one (.b (.x 0)))) ⟨0, 1, 0, 0, 0, 0⟩
  (.call (.and (.eqI (.x 3) (.c 0)) (.x 0)) false 6 [] (.p (.one (.b (.x 1)))) ⟨0, 1, 0, 0, 0, 0⟩
  (.ret (.p (.one (.b (.and (.and (.eqI (.x 3) (.c 0)) (.x 0)) (.x 1)))))))))))))))
theorem gen_lbrk : genFn ⟨true, []⟩ Tryd.prog (fun l => ([] : List LAnn).getD l ⟨[], [], []⟩) Tryd.f4 = fm_lbrk := by kernel_rfl
theorem ps_lbrk : freshPs Tryd.prog .zero Tryd.f4.params.toList = some ([(.one (.s (.x 0)))], ⟨0, 0, 1, 0, 0, 0⟩) := by kernel_rfl
def nsInv (s1 s2 : Slc) (l : List Nod) (h : Hp) : Nat → Ctx → Prop := fun _ C => ∃ (j : Nat) (y : Bool), C = ⟨[j], [y], [], [], [s1, s2], [], h, noM⟩ ∧ j ≤ l.length
set_option maxHeartbeats 4000000 in
/-- Rows that are the same but for places. -/
def ctNSame : Ct Tryd.prog where
  f := 10
  spec := fun args h φ => ∃ s1 s2 l m, args = [s1.val, s2.val] ∧ NS h s1 l ∧ NS h s2 m ∧ l.length ≤ 1000000 ∧ l.map Nod.bare = m.map Nod.bare ∧ φ (.bool true) h
  ok := by
    rintro args h φ w ⟨s1, s2, l, m, rfl, t1, t2, hl, he, hφ⟩ hH
    have n1 := t1.1
    have n2 := t2.1
    have hlm : l.length = m.length := by have := congrArg List.length he; simpa using this
    refine by_fm Tryd.func10 gen_nsame ps_nsame [] φ (nsInv s1 s2 l h) (fun _ C => ((l.length : Int) - C.i.getD 0 0).toNat) ⟨[], [], [], [], [s1, s2], [], h, noM⟩ ⟨rfl, rfl, rfl, rfl, rfl, rfl⟩ ones_nil ?_ w hH rfl
    generalize hE : (⟨specOf _, _, _, _⟩ : Env) = E
    have ep : E.post = φ := by rw [← hE]
    have ei : E.inv = (nsInv s1 s2 l h) := by rw [← hE]
    have em : E.meas = (fun _ C => ((l.length : Int) - C.i.getD 0 0).toNat) := by rw [← hE]
    clear hE
    unfold fm_nsame
    rw [th_ite, if_neg (by simp [go_sem]; omega)]
    rw [then_step]
    refine loop_intro (by rw [ei]; exact ⟨0, false, rfl, Nat.zero_le _⟩) ?_
    rw [ei, em]
    rintro i' bb ss v ll pp hh M ⟨j, y, hC, hj⟩ hM
    cases hC
    have hM' : M 0 = ((l.length : Int) - j).toNat := hM
    by_cases hjl : j < l.length
    · have hjm : j < m.length := by omega
      obtain ⟨b1, c1, T1, r1, rfl, k1⟩ := t1.slc hjl
      obtain ⟨b2, c2, T2, r2, rfl, k2⟩ := t2.slc hjm
      have e : l[j].bare = m[j].bare := by
        have e1 : (l.map Nod.bare)[j]? = (m.map Nod.bare)[j]? := by rw [he]
        rw [List.getElem?_map, List.getElem?_map, List.getElem?_eq_getElem hjl, List.getElem?_eq_getElem hjm] at e1
        exact Option.some.inj e1
      simp only [Nod.bare, Nod.mk.injEq, true_and] at e
      obtain ⟨ek, ez, en, ex⟩ := e
      have hjz : (j : Int) < l.length := by omega
      have hjz2 : (j : Int) < m.length := by omega
      have p0 : hread h (some (b1, j * 6 + 0)) 1 = some [.int .u8 l[j].k] := NS.read k1 hjl (off := 0) (n := 1) (by decide)
      have p3 : hread h (some (b1, j * 6 + 3)) 1 = some [.int .i64 (l[j].z : Nat)] := NS.read k1 hjl (off := 3) (n := 1) (by decide)
      have p4 : hread h (some (b1, j * 6 + 4)) 1 = some [.int .i64 l[j].n] := NS.read k1 hjl (off := 4) (n := 1) (by decide)
      have p5 : hread h (some (b1, j * 6 + 5)) 1 = some [.string (B l[j].x)] := NS.read k1 hjl (off := 5) (n := 1) (by decide)
      have q0 : hread h (some (b2, j * 6 + 0)) 1 = some [.int .u8 l[j].k] := by rw [ek]; exact NS.read k2 hjm (off := 0) (n := 1) (by decide)
      have q3 : hread h (some (b2, j * 6 + 3)) 1 = some [.int .i64 (l[j].z : Nat)] := by rw [ez]; exact NS.read k2 hjm (off := 3) (n := 1) (by decide)
      have q4 : hread h (some (b2, j * 6 + 4)) 1 = some [.int .i64 l[j].n] := by rw [en]; exact NS.read k2 hjm (off := 4) (n := 1) (by decide)
      have q5 : hread h (some (b2, j * 6 + 5)) 1 = some [.string (B l[j].x)] := by rw [ex]; exact NS.read k2 hjm (off := 5) (n := 1) (by decide)
      rw [th_ite, if_pos (by simp [go_sem]; omega)]
      rw [then_step, th_load, if_pos (by rfl)]
      refine (exI_iff _ _).2 ⟨⟨[l[j].k], [], [], [], [], []⟩, rfl, ones_nil, by simpa [go_sem] using p0, ?_⟩
      rw [then_step, th_load, if_pos (by rfl)]
      refine (exI_iff _ _).2 ⟨⟨[l[j].k], [], [], [], [], []⟩, rfl, ones_nil, by simpa [go_sem] using q0, ?_⟩
      rw [then_step, th_load, if_pos (by simp [go_sem])]
      refine (exI_iff _ _).2 ⟨⟨[(l[j].z : Nat)], [], [], [], [], []⟩, rfl, ones_nil, by simpa [go_sem] using p3, ?_⟩
      rw [then_step, th_load, if_pos (by simp [go_sem])]
      refine (exI_iff _ _).2 ⟨⟨[(l[j].z : Nat)], [], [], [], [], []⟩, rfl, ones_nil, by simpa [go_sem] using q3, ?_⟩
      rw [then_step, th_load, if_pos (by simp [go_sem])]
      refine (exI_iff _ _).2 ⟨⟨[l[j].n], [], [], [], [], []⟩, rfl, ones_nil, by simpa [go_sem] using p4, ?_⟩
      rw [then_step, th_load, if_pos (by simp [go_sem])]
      refine (exI_iff _ _).2 ⟨⟨[l[j].n], [], [], [], [], []⟩, rfl, ones_nil, by simpa [go_sem] using q4, ?_⟩
      rw [then_step, th_load, if_pos (by simp [go_sem])]
      refine (exI_iff _ _).2 ⟨⟨[], [], [l[j].x], [], [], []⟩, rfl, ones_nil, by simpa [go_sem] using p5, ?_⟩
      rw [then_step, th_load, if_pos (by simp [go_sem])]
      refine (exI_iff _ _).2 ⟨⟨[], [], [l[j].x], [], [], []⟩, rfl, ones_nil, by simpa [go_sem] using q5, ?_⟩
      iterate 16 (rw [then_step, th_need]; refine ⟨by simp [go_sem, hjz, hjz2], ?_⟩)
      rw [then_step, th_ite, if_neg (by simp [go_sem])]
      rw [then_step, th_need]
      refine ⟨by simp [go_sem]; omega, ?_⟩
      rw [then_step, says_again, ei, em]
      refine ⟨⟨j + 1, y, by simp [go_sem], by omega⟩, ?_⟩
      simp [go_sem]
      omega
    · rw [th_ite, if_neg (by simp [go_sem]; omega)]
      simp only [then_step]; simp [go_sem, ep]
      exact hφ
set_option maxHeartbeats 4000000 in
theorem law_brackets_l (s : List UInt8) (w : World) : Calls Tryd.prog 4 #[.string (B s)] w fun e w' => e = .returned (.bool true) ∧ Below w.heap.size w w' := by
  refine by_fm0 Tryd.func4 gen_lbrk ps_lbrk [ctAwake06, ctPExpr, ctNSame] _ noInv noMeas ⟨[], [], [s], [], [], [], noHeap, noM⟩ rfl ⟨rfl, rfl, rfl, rfl, rfl, rfl⟩ ones_nil ?_ w rfl
  generalize hE : (⟨specOf _, _, _, _⟩ : Env) = E
  have s_a : E.spec 6 = ctAwake06.spec := by rw [← hE]; rfl
  have s_p : E.spec 9 = ctPExpr.spec := by rw [← hE]; rfl
  have s_s : E.spec 10 = ctNSame.spec := by rw [← hE]; rfl
  have ep : E.post = fun v _ => v = .bool true := by rw [← hE]
  clear hE
  unfold fm_lbrk
  by_cases hlen : 1000 < s.length
  · rw [th_ite, if_pos (by simp [go_sem]; omega)]
    rw [then_step, th_call, if_pos (by rfl), s_a]
    refine ⟨rfl, ?_⟩
    simp [go_sem]
    simp only [then_step]; simp [go_sem, ep]
  rw [th_ite, if_neg (by simp [go_sem]; omega)]
  obtain ⟨⟨f, t⟩, hft⟩ := parse_some false s
  obtain ⟨⟨g, u⟩, hgu⟩ := parse_some false (wrapS s)
  have hwl := wrap_len s
  rw [then_step, th_call, if_pos (by rfl), s_p]
  refine ⟨s, rfl, ?_⟩
  unfold parseS
  rw [if_neg (by omega)]
  intro f' t' hft'
  rw [hft] at hft'
  cases hft'
  -- the second reading, from whatever was known
  have second : ∀ (k : Hp) (sl : Slc) (c1 c2 c3 : Int), (c1 = 0 → NS k sl t.nods ∧ f.1 = 0) → (f.1 = 0 → c1 = 0) → Then E fm_lbrk.e.k ⟨[c1, c2, c3], [], [s], [], [sl], [], k, noM⟩ := by
    intro k sl c1 c2 c3 hk hk2
    have late : ∀ (k2 : Hp) (sl2 : Slc) (d1 d2 d3 : Int), d1 = g.1 → ¬ (d1 = 6 ∨ d1 = 3) → (c1 = 0 → d1 = 0 → NS k2 sl t.nods ∧ NS k2 sl2 u.nods) → Then E fm_lbrk.e.k.k.k.k ⟨[c1, c2, c3, d1, d2, d3], [], [s], [], [sl, sl2], [], k2, noM⟩ := by
      intro k2 sl2 d1 d2 d3 hd hg hns
      unfold fm_lbrk
      simp only [Fm.k, Fm.e]
      rw [then_step, th_ite, if_neg (by simp [go_sem]; exact not_or.1 hg)]
      by_cases hf : c1 = 0
      · rw [then_step, th_ite, if_neg (by simp [go_sem]; exact hf)]
        obtain ⟨_, hf1⟩ := hk hf
        rcases brackets_tree hft hf1 hgu with h6 | ⟨hg0, he⟩
        · exact absurd (.inl (hd.trans h6)) hg
        have hd0 : d1 = 0 := hd.trans hg0
        obtain ⟨N1, N2⟩ := hns hf hd0
        obtain ⟨_, htn, _⟩ := parse_red hft hf1
        rw [then_step, th_call, if_pos (by simp [go_sem]; exact hd0), s_s]
        refine ⟨sl, sl2, t.nods, u.nods, rfl, N1, N2, ?_, he.symm, ?_⟩
        · show t.n ≤ _
          omega
        simp [go_sem]
        rw [then_step, th_call, if_pos (by simp [go_sem]; exact hd0), s_a]
        refine ⟨rfl, ?_⟩
        simp [go_sem]
        simp only [then_step]; simp [go_sem, ep, hd0]
      · rw [then_step, th_ite, if_pos (by simp [go_sem]; exact hf)]
        rw [then_step, th_call, if_pos (by rfl), s_a]
        refine ⟨rfl, ?_⟩
        simp [go_sem]
        simp only [then_step]; simp [go_sem, ep]
    unfold fm_lbrk at late ⊢
    simp only [Fm.k, Fm.e] at late ⊢
    rw [then_step, th_need]
    refine ⟨by simp [go_sem]; omega, ?_⟩
    rw [then_step, th_need]
    refine ⟨by simp [go_sem]; omega, ?_⟩
    rw [then_step, th_call, if_pos (by rfl), s_p]
    refine ⟨wrapS s, by simp [go_sem, wrapS], ?_⟩
    unfold parseS
    rw [if_neg (by omega)]
    intro g' u' hgu'
    rw [hgu] at hgu'
    cases hgu'
    by_cases hg0 : g.1 = 0
    · rw [if_pos hg0]
      intro sl2 k2 hk2' ho hn
      simp [go_sem, fltv]
      exact late k2 sl2 0 0 0 hg0.symm (by simp) fun hf _ => ⟨(hk hf).1.le hk2', NS.of_own ho hn⟩
    · rw [if_neg hg0]
      simp [go_sem, fltv]
      by_cases h63 : g.1 = 6 ∨ g.1 = 3
      · rw [then_step, th_ite, if_pos (by simp [go_sem]; exact h63)]
        rw [then_step, th_call, if_pos (by simp [go_sem]), s_a]
        refine ⟨rfl, ?_⟩
        simp [go_sem]
        simp only [then_step]; simp [go_sem, ep]
      · exact late _ ⟨none, 0, 0⟩ _ _ _ rfl h63 fun _ h => absurd h hg0
  unfold fm_lbrk at second
  simp only [Fm.k, Fm.e] at second
  by_cases hf : f.1 = 0
  · rw [if_pos hf]
    intro sl k hk ho hn
    simp [go_sem, fltv]
    exact second k sl 0 0 0 (fun _ => ⟨NS.of_own ho hn, hf⟩) (fun _ => rfl)
  · rw [if_neg hf]
    simp [go_sem, fltv]
    exact second noHeap ⟨none, 0, 0⟩ _ _ _ (fun h => absurd h hf) id
theorem law_brackets (s : ByteArray) (w : World) : Calls Tryd.prog 4 #[.string s] w fun e w' => e = .returned (.bool true) ∧ Below w.heap.size w w' := by
  rw [string_B s]; exact law_brackets_l _ w
end Go.Proofs.YthlakehilhpojaaDoor
namespace Go.Proofs.YthlakehilhpojaaDoor
open Go.ChangeShapes Go.WideShapes Go.ChangeAt Go.RowKit

theorem own : ownKnob Tryd.prog.godebug = none := by kernel_rfl
theorem laidOutB : laidOutB Tryd.prog = true := by kernel_rfl

/-- Arguments below a world's end read again as they did. -/
theorem all_stay {H : Type} {enc : TypeId × Value → H} {W W' : World} (hb : Below W.heap.size W W') :
    ∀ (ts : List TypeId) (vs : List Value) (ds : List (DataW H)) (ps : List MemPlace), (∀ t ∈ ts, Tryd.prog.readableRec t = true ∧ t < Tryd.prog.types.size) → (∀ x ∈ ps, x.block < W.heap.size) →
    DataW.TrodAll enc Tryd.prog W 0 (fun _ => true) true ts vs ds ps → DataW.TrodAll enc Tryd.prog W' 0 (fun b => decide (b < W.heap.size)) true ts vs ds ps := by
  intro ts
  induction ts with
  | nil =>
    intro vs ds ps _ _ h
    obtain ⟨rfl, rfl, rfl⟩ := trodAll_nil h
    exact trodAll_mk0
  | cons t ts ih =>
    intro vs ds ps ht hp h
    obtain ⟨v, vs', d, ds', p, q, rfl, rfl, rfl, h1, h2⟩ := trodAll_cons h
    have h3 := ht t (by simp)
    exact trodAll_cons_mk (Below.trod laidOutB h3.1 h3.2 h1 hb (fun x hx => hp x (by simp [hx]))) (ih vs' ds' q (fun u hu => ht u (by simp [hu])) (fun x hx => hp x (by simp [hx])) h2)

/-- A LAW's END: it answers true, and below the world's end nothing has turned. -/
theorem law_end {H : Type} {enc : TypeId × Value → H} {s : ChangeSpec} {f : Func} {W W' : World} {args : Array Value} {ds gs : List (DataW H)} {before : List MemPlace}
    (hv : s.vars = []) (hres : f.resultTypes.toList = [4]) (hs1 : f.resultTypes.size = 1) (hts : ∀ t ∈ f.params.toList, Tryd.prog.readableRec t = true ∧ t < Tryd.prog.types.size)
    (hfn : s.fn H ds = { results := [.lit (.bool true)], args := ds })
    (hW : DataW.Whole enc Tryd.prog f.params.toList s.vars false W args.toList ds gs before) (hb : Below W.heap.size W W') :
    s.post enc Tryd.prog f false true false false W args (.bool true) W' := by
  have hW0 := hW
  have hlt := hW.lt
  obtain ⟨p, q, hA, hV, hpq, hfz, hnd⟩ := hW
  rw [hv] at hV
  obtain ⟨rfl, rfl⟩ := trodVars_none hV
  rw [List.append_nil] at hpq
  subst hpq
  have e : s.fn H (ds ++ []) = { results := [.lit (.bool true)], args := ds } := by rw [List.append_nil]; exact hfn
  refine ⟨ds, [], before, [], before, [], hW0, ?_, ?_, ?_, hb.frame _, fun h => by cases h⟩
  · rw [e, hres, hs1]
    exact trodAll_mk1 (shut_bool Tryd.underlying4 true)
  · rw [e]
    exact all_stay hb _ _ _ _ hts hlt hA
  · rw [e, hv]; rfl
end Go.Proofs.YthlakehilhpojaaDoor
namespace Go.Proofs.YthlakehilhpojaaDoor
open Go.ChangeShapes Go.WideShapes Go.ChangeAt Go.RowKit

def firstCells : Array Value := (Lib.firstTab.map (Value.int .u8)).toArray
def acceptCells : Array Value := #[.int .u8 128, .int .u8 191, .int .u8 160, .int .u8 191, .int .u8 128, .int .u8 159, .int .u8 144, .int .u8 191, .int .u8 128, .int .u8 143, .int .u8 0, .int .u8 0, .int .u8 0, .int .u8 0, .int .u8 0, .int .u8 0, .int .u8 0, .int .u8 0, .int .u8 0, .int .u8 0, .int .u8 0, .int .u8 0, .int .u8 0, .int .u8 0, .int .u8 0, .int .u8 0, .int .u8 0, .int .u8 0, .int .u8 0, .int .u8 0, .int .u8 0, .int .u8 0]
def putCells (c : Array Value) : Obj → Obj
  | .cells _ t frozen => .cells c t frozen
  | o => o
noncomputable def laidWorld (os : Os) : World :=
  { World.holding Tryd.prog os ⟨#[], #[], []⟩ with heap := ((World.holding Tryd.prog os ⟨#[], #[], []⟩).heap.modify 0 (putCells firstCells)).modify 1 (putCells acceptCells) }
end Go.Proofs.YthlakehilhpojaaDoor
namespace Go.Proofs.YthlakehilhpojaaDoor.parseBrackets
open Go.ChangeShapes Go.WideShapes Go.ChangeAt Go.RowKit Go.Joins
open Go.ChangeMaps (open_string)

theorem param_types : ∀ t ∈ Tryd.f4.params.toList, Tryd.prog.readableRec t = true ∧ t < Tryd.prog.types.size := by
  rw [Tryd.params4]
  intro t ht
  have hm : t ∈ [9] := by simpa using ht
  have hall : ([9].all fun u => Tryd.prog.readableRec u && decide (u < Tryd.prog.types.size)) = true := by kernel_rfl
  have := List.all_eq_true.1 hall t hm
  simpa using this

set_option maxRecDepth 100000 in
theorem contract (H : Type) (enc : TypeId × Value → H) (W : World) (base : Nat) (args : Array Value) (ds gs : List (DataW H)) (before : List MemPlace)
    (hval : ∀ (j : Nat) t v, Tryd.f4.params[j]? = some t → args[j]? = some v → Value.okWide Tryd.prog W .any base t v)
    (hW : DataW.Whole enc Tryd.prog Tryd.f4.params.toList Rows.parseBracketsSpec.vars false W args.toList ds gs before) (_hL : laidMetH Tryd.prog Rows.parseBracketsRow.laid W) :
    Calls Tryd.prog 4 args W fun e W' => ∃ v, e = .returned v ∧ Rows.parseBracketsSpec.post enc Tryd.prog Tryd.f4 false true false false W args v W' := by
  have hW' := hW
  obtain ⟨p, q, hA0, hV, rfl, hfz, hnd⟩ := hW
  have hA : DataW.TrodAll enc Tryd.prog W 0 (fun _ => true) true Tryd.f4.params.toList args.toList ds p := hA0
  rw [Tryd.params4] at hA hval
  obtain ⟨v0, vs0, d0, ds0, p0, q0, hargs, rfl, rfl, h0, r0⟩ := trodAll_cons hA
  obtain ⟨rfl, rfl, rfl⟩ := trodAll_nil r0
  obtain rfl : args = #[v0] := by cases args; simp_all
  obtain ⟨x0, rfl, rfl, rfl, w0⟩ := open_string Tryd.underlying9 (hval 0 9 v0 rfl rfl) h0
  refine (law_brackets x0 W).mono fun e W' ⟨he, hb⟩ => ?_
  subst he
  exact ⟨_, rfl, law_end rfl (by kernel_rfl) (by kernel_rfl) param_types rfl hW' hb⟩

theorem laid_met (os : Os) : laidMet Tryd.prog Rows.parseBracketsRow.laid ((laidWorld os).forCall (fun _ _ => 0) ⟨#[], #[.string ⟨#[]⟩], []⟩).memory :=
  laidMet_of_run' 8 (by kernel_rfl) (by kernel_rfl)
theorem reads (os : Os) {H : Type} (enc : TypeId × Value → H) : ∃ places, DataW.whole enc Tryd.prog ((laidWorld os).forCall (fun _ _ => 0) ⟨#[], #[.string ⟨#[]⟩], []⟩).memory Tryd.f4.params.toList Rows.parseBracketsSpec.vars false (#[.string ⟨#[]⟩] : Array Value).toList 8 = some ([.lit (.string [])], [], places) :=
  ⟨[], by kernel_rfl⟩

set_option maxRecDepth 100000 in
theorem lifted (os : Os) (started : os.Started) (H : Type) (enc : TypeId × Value → H) (F : Stop.Interp) :
    ReturnsInHanded {} Tryd.checked os 4 .any ((OpenSpec.ofChange Rows.parseBracketsSpec).preRow enc Tryd.prog Tryd.f4 Rows.parseBracketsRow.domain false Rows.parseBracketsRow.laid) (((OpenSpec.ofChange Rows.parseBracketsSpec).at F).post enc Tryd.prog Tryd.f4 false true false false) := by
  obtain ⟨places, hx⟩ := reads os enc
  refine returnsInHanded_of_row (C := Tryd.checked) (s := OpenSpec.ofChange Rows.parseBracketsSpec) own started (by kernel_rfl) Tryd.func4
    (witness_row_at (enc := enc) (C := Tryd.checked) false (laidWorld os) #[.string ⟨#[]⟩] rfl (by kernel_rfl) (by kernel_rfl) (by kernel_rfl)
      (OpenSpec.preRow_of_cond 8 hx (by kernel_rfl) (fun k hk => by cases hk) (by kernel_rfl) (laid_met os))) ?_
  intro W base args ds gs before hval hW _ _ _ hL _ _
  exact contract H enc W base args ds gs before hval hW hL

theorem said : Rows.ParseBracketsSaid :=
  OpenClaim.holds_of_cond 4 Tryd.f4 rfl rfl rfl rfl rfl rfl rfl ⟨rfl, rfl, rfl, rfl, rfl⟩ rfl rfl rfl rfl rfl (by kernel_rfl) Tryd.func4 (by kernel_rfl)
    (of_decide_eq_true (by kernel_rfl)) (by unfold Func.isWrapper; first | (rw [if_pos (by decide +kernel)]; kernel_rfl) | (rw [if_neg (by decide +kernel)]; exact ⟨rfl, rfl⟩))
    (fun os started H enc _ F => by rw [OpenClaim.pre_eq_preRow]; exact lifted os started H enc F)

theorem plain (f : FuncId) (fn : Func) (hf : Tryd.pinned.checked.prog.funcNamed "hindcast/hindcastlaw06.ParseBrackets" = some f) (hfn : Tryd.pinned.checked.prog.funcs[f]? = some fn) :
    false = Tryd.pinned.checked.prog.looks [] ∧ ∀ (j : Nat) t, fn.params[j]? = some t → Tryd.pinned.checked.prog.wantsStandIn t = false := by
  obtain rfl : f = 4 := Option.some.inj ((show Tryd.prog.funcNamed "hindcast/hindcastlaw06.ParseBrackets" = some 4 by kernel_rfl).symm.trans hf) |>.symm
  obtain rfl : fn = Tryd.f4 := (Option.some.inj (Tryd.func4.symm.trans hfn)).symm
  refine ⟨by kernel_rfl, fun j t ht => ?_⟩
  rw [Tryd.params4] at ht
  have hm : t ∈ [9] := by simpa using Array.mem_of_getElem? ht
  have hall : ([9].all fun u => !Tryd.prog.wantsStandIn u) = true := by kernel_rfl
  exact (show Tryd.prog.wantsStandIn t = false by simpa using List.all_eq_true.1 hall t hm)

/-- THE CARD. -/
theorem card : Rows.ParseBracketsCardSaid :=
  Claim7.holds_tied_plain_at .later [] _ _ _ _ said (fun _ h => by cases h) (by kernel_rfl) (fun _ h => by cases h) parseBrackets_row_tie rfl ⟨rfl, rfl⟩ (by kernel_rfl) rfl plain (by kernel_rfl)
end Go.Proofs.YthlakehilhpojaaDoor.parseBrackets
