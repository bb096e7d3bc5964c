/- The law hindcastlaw06.ParseDeep: the statement, out of its walk: it answers true whatever it is handed, and what it was handed reads as before. (Texts joined: ParY, ParZ, Card, Laid, LawDeep.) -/
import Derived.Test.YthlakehilhpojaaDoorPlg
namespace Go.Proofs.YthlakehilhpojaaDoor
open Go.RowKit
def deepS (k : Nat) : List UInt8 := List.replicate k 40 ++ 120 :: List.replicate k 41
def tokAt (k a : Nat) : Tok := if a < k then ⟨7, 1, (a : Int) + 1, 0, [40]⟩ else if a = k then ⟨1, 1, (a : Int) + 1, 0, [120]⟩ else if a ≤ 2 * k then ⟨7, 1, (a : Int) + 1, 0, [41]⟩ else ⟨8, 1, (a : Int) + 1, 0, []⟩
theorem deepS_len (k : Nat) : (deepS k).length = 2 * k + 1 := by simp [deepS]; omega
theorem deep_drop (k i : Nat) (h : i < 2 * k + 1) : ∃ r, (deepS k).drop i = (if i < k then 40 else if i = k then 120 else 41) :: r ∧ (i = k → r = List.replicate k 41) := by
  by_cases h1 : i < k
  · refine ⟨List.replicate (k - i - 1) 40 ++ 120 :: List.replicate k 41, ?_, fun e => by omega⟩
    rw [if_pos h1, deepS, List.drop_append_of_le_length (by simp; omega), List.drop_replicate]
    obtain ⟨m, hm⟩ : ∃ m, k - i = m + 1 := ⟨k - i - 1, by omega⟩
    rw [hm, List.replicate_succ]; rfl
  · rw [if_neg h1]
    by_cases h2 : i = k
    · subst h2
      refine ⟨List.replicate i 41, ?_, fun _ => rfl⟩
      rw [if_pos rfl, deepS, List.drop_left' (by simp)]
    · rw [if_neg h2]
      obtain ⟨j, rfl⟩ : ∃ j, i = k + (1 + j) := ⟨i - k - 1, by omega⟩
      refine ⟨List.replicate (k - j - 1) 41, ?_, fun e => by omega⟩
      rw [deepS, ← List.drop_drop, List.drop_left' (by simp), Nat.add_comm 1 j, List.drop_succ_cons, List.drop_replicate]
      obtain ⟨m, hm⟩ : ∃ m, k - j = m + 1 := ⟨k - j - 1, by omega⟩
      rw [hm, List.replicate_succ]; rfl
theorem drop_bt {s : List UInt8} {i : Nat} {c : UInt8} {r : List UInt8} (h : s.drop i = c :: r) : i < s.length ∧ bt s i = (c.toNat : Int) := by
  have hi : i < s.length := by
    cases Nat.lt_or_ge i s.length with
    | inl h' => exact h'
    | inr h' => rw [List.drop_eq_nil_of_le h'] at h; cases h
  refine ⟨hi, ?_⟩
  have : s[i]? = some c := by rw [← List.head?_drop, h]; rfl
  unfold bt; rw [List.getD_eq_getElem?_getD, this]; rfl
theorem deep_one (k i : Nat) (h : i < 2 * k + 1) : ski false (deepS k) i = 0 ∧ one (deepS k) i = ⟨0, (tokAt k i).k, (tokAt k i).x, 0, i + 1⟩ ∧ bt (deepS k) i ≠ 10 := by
  obtain ⟨r, hd, hr⟩ := deep_drop k i h
  obtain ⟨hi, hb⟩ := drop_bt hd
  have sgn : ∀ c : UInt8, (c = 40 ∨ c = 41) → (deepS k).drop i = c :: r → ski false (deepS k) i = 0 ∧ one (deepS k) i = ⟨0, 7, [c], 0, i + 1⟩ ∧ bt (deepS k) i ≠ 10 := by
    intro c hc hd
    obtain ⟨_, hb⟩ := drop_bt hd
    have hsg : sg (c :: r) = [c] := by rcases hc with rfl | rfl <;> simp [sg, allSigns, List.isPrefixOf]
    have hcn : (c.toNat : Int) = 40 ∨ (c.toNat : Int) = 41 := by rcases hc with rfl | rfl <;> simp
    have hk0 : kdi (c.toNat : Int) = 0 := by rcases hcn with h | h <;> rw [h] <;> decide
    refine ⟨ski_none hi (by omega), ?_, by omega⟩
    unfold one
    rw [hb, hk0, if_neg (by omega), if_neg (by omega), if_neg (by omega), hd, hsg]
    simp
  unfold tokAt
  by_cases h1 : i < k
  · simp only [h1, if_true] at hd ⊢
    exact sgn 40 (.inl rfl) hd
  · simp only [if_neg h1] at hd ⊢
    by_cases h2 : i = k
    · simp only [if_pos h2] at hd ⊢
      obtain ⟨_, hb⟩ := drop_bt hd
      have hb : bt (deepS k) i = 120 := hb
      refine ⟨ski_none hi (by omega), ?_, by omega⟩
      have hrn : rn inB (deepS k) i = 1 := by
        unfold rn
        rw [hd, hr h2]
        rw [List.takeWhile_cons]
        have : inB ((120 : UInt8).toNat : Int) = true := by decide
        rw [this]
        simp only [if_true]
        cases k with
        | zero => rfl
        | succ k => rw [List.replicate_succ, List.takeWhile_cons]; rfl
      have hsub : sub (deepS k) i (i + 1) = [120] := by
        unfold sub
        rw [List.drop_take, hd]; simp
      unfold one
      rw [hrn, hsub, hb, if_pos (by decide)]
      congr 1
    · simp only [if_neg h2] at hd ⊢
      rw [if_pos (by omega)]
      exact sgn 41 (.inr rfl) hd
theorem deep_lexA (k : Nat) : ∀ (m i : Nat), m + i = 2 * k + 2 → 0 < m → lexA m (deepS k) i (1, (i : Int) + 1) ((List.range i).map (tokAt k)) = ((0, 0, 0), (List.range (2 * k + 2)).map (tokAt k))
  | 0, _, _, h => by omega
  | m + 1, i, h, _ => by
    have hl := deepS_len k
    rw [lexA]
    by_cases he : i = 2 * k + 1
    · have hs : ski false (deepS k) i = 0 := ski_end (by omega) false
      rw [hs, Nat.add_zero, if_pos (by omega), sub_same, adv_nil]
      have : tokAt k i = ⟨8, 1, (i : Int) + 1, 0, []⟩ := by unfold tokAt; rw [if_neg (by omega), if_neg (by omega), if_neg (by omega)]
      rw [show 2 * k + 2 = i + 1 by omega, List.range_succ, List.map_append, List.map_cons, List.map_nil, this]
    · obtain ⟨h1, h2, h3⟩ := deep_one k i (by omega)
      rw [h1, Nat.add_zero, if_neg (by omega), h2]
      simp only [if_true, sub_same, adv_nil]
      have ha : adv (1, (i : Int) + 1) (sub (deepS k) i (i + 1)) = (1, ((i + 1 : Nat) : Int) + 1) := by
        have := adv_flat (1, (i : Int) + 1) (deepS k) (i := i) (n := 1) (by omega) (fun j hj1 hj2 => by have e : j = i := (by omega); rw [e]; exact h3)
        rw [this]; simp
      rw [ha]
      have ht : (⟨(tokAt k i).k, 1, (i : Int) + 1, 0, (tokAt k i).x⟩ : Tok) = tokAt k i := by
        unfold tokAt
        split
        · rfl
        · split
          · rfl
          · split <;> rfl
      rw [ht]
      have := deep_lexA k m (i + 1) (by omega) (by omega)
      rw [List.range_succ, List.map_append] at this
      exact this
theorem deep_lex (k : Nat) : lexAll (deepS k) = ((0, 0, 0), (List.range (2 * k + 2)).map (tokAt k)) := by
  unfold lexAll
  rw [deepS_len]
  exact deep_lexA k (2 * k + 2) 0 (by omega) (by omega)
section
variable {k : Nat}
def DL (k : Nat) : List Tok := (List.range (2 * k + 2)).map (tokAt k)
theorem dl_tk {p : PS} (h : p.a < 2 * k + 2) : tk (DL k) p = tokAt k p.a := by
  unfold tk DL
  rw [List.getD_eq_getElem?_getD, List.getElem?_map, List.getElem?_range h]; rfl
def fz : Int × Int × Int := (0, 0, 0)
/-- What comes of the brackets from a place on. -/
def DR (k i : Nat) (t : Tr) (q : PS) : Prop := if 40 < k then q.f = (6, 1, 41) else t = .nd 26 1 ((k : Int) + 1) 0 [120] [] ∧ q = ⟨2 * k + 1 - i, (i : Int), fz⟩
theorem bad_z (a : Nat) (d : Int) : (⟨a, d, fz⟩ : PS).bad = false := rfl
/-- Behind the brackets nothing goes on. -/
theorem stop_z {a : Nat} {d : Int} (h1 : k < a) (h2 : a < 2 * k + 2) : (∀ lvl, pOp (DL k) lvl ⟨a, d, fz⟩ = 0) ∧ pIs (DL k) [91] ⟨a, d, fz⟩ = false ∧ pIs (DL k) [46] ⟨a, d, fz⟩ = false := by
  have ht : tk (DL k) ⟨a, d, fz⟩ = tokAt k a := dl_tk h2
  unfold pOp pIs
  rw [ht, bad_z]
  unfold tokAt
  rw [if_neg (by omega), if_neg (by omega)]
  split
  · refine ⟨fun lvl => ?_, rfl, rfl⟩
    have : opTab [41] = (0, 0) := by decide
    simp only [this]
    split
    · rfl
    · split <;> rfl
  · exact ⟨fun lvl => by simp, rfl, rfl⟩
theorem DR.bad {i : Nat} {t : Tr} {q : PS} (hk : 40 < k) (h : DR k i t q) : q.bad = true := by
  unfold DR at h; rw [if_pos hk] at h
  unfold PS.bad; rw [h]; rfl
/-- Behind an expression that was read. -/
theorem DR.post (H : LW (DL k)) {i n : Nat} (hi : i ≤ k) {x t : Tr} {p q : PS} (h : DR k i x p) (h2 : pPost (DL k) n x p = some (t, q)) : DR k i t q := by
  by_cases hk : 40 < k
  · have A := (advE H n).2.2.2.1 _ _ _ _ h2
    have hb := h.bad hk
    unfold DR at h ⊢
    rw [if_pos hk] at h ⊢
    rw [A.b hb, h]
  · unfold DR at h
    rw [if_neg hk] at h
    obtain ⟨rfl, rfl⟩ := h
    obtain ⟨_, s2, s3⟩ := stop_z (k := k) (a := 2 * k + 1 - i) (d := (i : Int)) (by omega) (by omega)
    cases n with
    | zero => cases h2
    | succ n =>
      rw [pPost, s2, s3] at h2
      cases h2
      unfold DR; rw [if_neg hk]; exact ⟨rfl, rfl⟩
theorem DR.binl (H : LW (DL k)) {i n lvl : Nat} (hi : i ≤ k) {x t : Tr} {p q : PS} (h : DR k i x p) (h2 : pBinL (DL k) n lvl x p = some (t, q)) : DR k i t q := by
  by_cases hk : 40 < k
  · have A := (advE H n).2.1 _ _ _ _ _ h2
    have hb := h.bad hk
    unfold DR at h ⊢
    rw [if_pos hk] at h ⊢
    rw [A.b hb, h]
  · unfold DR at h
    rw [if_neg hk] at h
    obtain ⟨rfl, rfl⟩ := h
    obtain ⟨s1, _, _⟩ := stop_z (k := k) (a := 2 * k + 1 - i) (d := (i : Int)) (by omega) (by omega)
    cases n with
    | zero => cases h2
    | succ n =>
      rw [pBinL, if_pos (s1 lvl)] at h2
      cases h2
      unfold DR; rw [if_neg hk]; exact ⟨rfl, rfl⟩
theorem deep_run (H : LW (DL k)) : ∀ n, (∀ lvl i t q, i ≤ k → i ≤ 40 → pBin (DL k) n lvl ⟨i, (i : Int), fz⟩ = some (t, q) → DR k i t q) ∧ (∀ i t q, i ≤ k → i ≤ 40 → pUn (DL k) n ⟨i, (i : Int), fz⟩ = some (t, q) → DR k i t q) ∧ (∀ i t q, i ≤ k → i ≤ 40 → pAtom (DL k) n ⟨i, (i : Int), fz⟩ = some (t, q) → DR k i t q)
  | 0 => ⟨fun _ _ _ _ _ _ h => (by cases h), fun _ _ _ _ _ h => (by cases h), fun _ _ _ _ _ h => (by cases h)⟩
  | n + 1 => by
    obtain ⟨i1, i2, i3⟩ := deep_run H n
    refine ⟨fun lvl i t q hi h40 h => ?_, fun i t q hi h40 h => ?_, fun i t q hi h40 h => ?_⟩
    · rw [pBin] at h
      split at h
      · exact i2 i t q hi h40 h
      · simp only [Option.bind_eq_some_iff] at h
        obtain ⟨⟨y, r⟩, h1, h2⟩ := h
        exact (i1 _ i y r hi h40 h1).binl H hi h2
    · have ht : tk (DL k) ⟨i, (i : Int), fz⟩ = tokAt k i := dl_tk (by simp only; omega)
      have no : ∀ c : UInt8, c ≠ 40 → pIs (DL k) [c] ⟨i, (i : Int), fz⟩ = false := by
        intro c hc
        unfold pIs
        rw [ht, bad_z]
        unfold tokAt
        by_cases hik : i < k
        · rw [if_pos hik]; simpa using fun e => hc e.symm
        · rw [if_neg hik, if_pos (by omega)]; simp
      rw [pUn, no 45 (by decide), no 33 (by decide)] at h
      simp only [Bool.false_eq_true, if_false, Option.bind_eq_some_iff] at h
      obtain ⟨⟨y, r⟩, h1, h2⟩ := h
      exact (i3 i y r hi h40 h1).post H hi h2
    · have ht : tk (DL k) ⟨i, (i : Int), fz⟩ = tokAt k i := dl_tk (by simp only; omega)
      rw [pAtom] at h
      by_cases hik : i < k
      · have htk : tokAt k i = ⟨7, 1, (i : Int) + 1, 0, [40]⟩ := by unfold tokAt; rw [if_pos hik]
        have w : ∀ s, s ≠ [40] → pIs (DL k) s ⟨i, (i : Int), fz⟩ = false := by
          intro s hs
          unfold pIs; rw [ht, htk, bad_z]; simpa using fun e => hs e.symm
        have w40 : pIs (DL k) [40] ⟨i, (i : Int), fz⟩ = true := by unfold pIs; rw [ht, htk, bad_z]; rfl
        rw [bad_z, ht, htk, w wTrue (by decide), w wFalse (by decide), w wNil (by decide), w40] at h
        simp only [Bool.false_eq_true, if_false, if_true, show ¬ (7 : Int) = 3 by decide, show ¬ (7 : Int) = 4 by decide, show ¬ (7 : Int) = 5 by decide, show ¬ (7 : Int) = 1 by decide, Option.map_eq_some_iff] at h
        obtain ⟨⟨y, r⟩, h1, h2⟩ := h
        cases h2
        by_cases hd : i = 40
        · -- too deep
          have ho : (pOpen (DL k) [40] ⟨i, (i : Int), fz⟩).f = (6, 1, 41) := by
            unfold pOpen
            have c : (pIs (DL k) [40] ⟨i, (i : Int), fz⟩ && (⟨i, (i : Int), fz⟩ : PS).d == 40) = true := by rw [w40, hd]; rfl
            simp only [c, if_true]
            have e : pFail (DL k) 6 ⟨i, (i : Int), fz⟩ = ⟨i, (i : Int), (6, 1, 41)⟩ := by
              unfold pFail; rw [bad_z, ht, htk, hd]; rfl
            rw [e]
            unfold pMust
            rw [bad_is rfl]
            show (pFail (DL k) 5 ⟨i, (i : Int), (6, 1, 41)⟩).f = _
            unfold pFail
            rw [if_pos (by rfl)]
          have hb : (pOpen (DL k) [40] ⟨i, (i : Int), fz⟩).bad = true := by unfold PS.bad; rw [ho]; rfl
          have A := (advE H n).1 _ _ _ _ h1
          have hr : r.f = (6, 1, 41) := (A.b hb).trans ho
          have hrb : r.bad = true := by unfold PS.bad; rw [hr]; rfl
          unfold DR
          rw [if_pos (by omega)]
          exact ((adv_shut H [41] r).b hrb).trans hr
        · have ho : pOpen (DL k) [40] ⟨i, (i : Int), fz⟩ = ⟨i + 1, ((i + 1 : Nat) : Int), fz⟩ := by
            unfold pOpen
            have c : (pIs (DL k) [40] ⟨i, (i : Int), fz⟩ && (⟨i, (i : Int), fz⟩ : PS).d == 40) = false := by rw [w40]; simp; omega
            simp only [c, Bool.false_eq_true, if_false]
            have e : pMust (DL k) [40] ⟨i, (i : Int), fz⟩ = ⟨i + 1, (i : Int), fz⟩ := by
              unfold pMust; rw [w40, if_pos rfl]; unfold pPass; rw [ht, htk, if_neg (by simp)]
            rw [e]; simp
          rw [ho] at h1
          have R := i1 1 (i + 1) y r (by omega) (by omega) h1
          unfold DR at R ⊢
          by_cases hk : 40 < k
          · rw [if_pos hk] at R ⊢
            have hrb : r.bad = true := by unfold PS.bad; rw [R]; rfl
            exact ((adv_shut H [41] r).b hrb).trans R
          · rw [if_neg hk] at R ⊢
            obtain ⟨rfl, rfl⟩ := R
            refine ⟨rfl, ?_⟩
            have ht2 : tk (DL k) ⟨2 * k + 1 - (i + 1), ((i + 1 : Nat) : Int), fz⟩ = tokAt k (2 * k + 1 - (i + 1)) := dl_tk (by simp only; omega)
            have htk2 : tokAt k (2 * k + 1 - (i + 1)) = ⟨7, 1, ((2 * k + 1 - (i + 1) : Nat) : Int) + 1, 0, [41]⟩ := by unfold tokAt; rw [if_neg (by omega), if_neg (by omega), if_pos (by omega)]
            have w41 : pIs (DL k) [41] ⟨2 * k + 1 - (i + 1), ((i + 1 : Nat) : Int), fz⟩ = true := by unfold pIs; rw [ht2, htk2, bad_z]; rfl
            unfold pShut pMust
            rw [w41, if_pos rfl]
            unfold pPass
            rw [ht2, htk2, if_neg (by simp)]
            simp only [PS.mk.injEq]
            exact ⟨by omega, by omega, trivial⟩
      · obtain rfl : i = k := by omega
        have htk : tokAt i i = ⟨1, 1, (i : Int) + 1, 0, [120]⟩ := by unfold tokAt; rw [if_neg (by omega), if_pos rfl]
        have w : ∀ s, pIs (DL i) s ⟨i, (i : Int), fz⟩ = false := by
          intro s
          unfold pIs; rw [ht, htk, bad_z]; simp
        have hp : pPass (DL i) ⟨i, (i : Int), fz⟩ = ⟨i + 1, (i : Int), fz⟩ := by unfold pPass; rw [ht, htk, if_neg (by simp)]
        have ht2 : tk (DL i) ⟨i + 1, (i : Int), fz⟩ = tokAt i (i + 1) := dl_tk (by simp only; omega)
        have w2 : pIs (DL i) [40] ⟨i + 1, (i : Int), fz⟩ = false := by
          unfold pIs; rw [ht2, bad_z]; unfold tokAt
          rw [if_neg (by omega), if_neg (by omega)]
          split <;> rfl
        rw [bad_z, w wTrue, w wFalse, w wNil, hp, w2, ht, htk] at h
        simp only [Bool.false_eq_true, if_false, if_true, show ¬ (1 : Int) = 3 by decide, show ¬ (1 : Int) = 4 by decide, show ¬ (1 : Int) = 5 by decide] at h
        cases h
        unfold DR
        rw [if_neg (by omega)]
        refine ⟨rfl, ?_⟩
        simp only [PS.mk.injEq]
        exact ⟨by omega, trivial, trivial⟩
end
theorem deep_tree (k : Nat) : ∃ f t, parseT false (deepS k) = some (f, t) ∧ (if 40 < k then f = (6, 1, 41) else f = (0, 0, 0) ∧ t = .nd 26 1 ((k : Int) + 1) 0 [120] []) := by
  obtain ⟨⟨f, t⟩, hft⟩ := parse_some false (deepS k)
  refine ⟨f, t, hft, ?_⟩
  have hl := deep_lex k
  have T := toks_of (s := deepS k) (by rw [hl])
  have H : LW (DL k) := by have := T.lw; rw [hl] at this; exact this
  unfold parseT at hft
  rw [hl] at hft
  simp only [ne_eq, not_true_eq_false, if_false, Bool.false_eq_true, Option.map_eq_some_iff] at hft
  obtain ⟨⟨t', q⟩, h1, h2⟩ := hft
  cases h2
  have R := (deep_run H _).1 1 0 t' q (Nat.zero_le _) (by omega) h1
  unfold DR at R
  by_cases hk : 40 < k
  · rw [if_pos hk] at R ⊢
    have hb : q.bad = true := by unfold PS.bad; rw [R]; rfl
    show (endP (DL k) q).f = _
    unfold endP
    split
    · exact R
    · unfold pFail; rw [if_pos hb]; exact R
  · rw [if_neg hk] at R ⊢
    obtain ⟨rfl, rfl⟩ := R
    refine ⟨?_, rfl⟩
    show (endP (DL k) _).f = _
    unfold endP
    have ht : tk (DL k) ⟨2 * k + 1 - 0, ((0 : Nat) : Int), fz⟩ = tokAt k (2 * k + 1 - 0) := dl_tk (by simp only; omega)
    have h8 : (tokAt k (2 * k + 1 - 0)).k = 8 := by unfold tokAt; rw [if_neg (by omega), if_neg (by omega), if_neg (by omega)]
    rw [ht, if_pos h8]
    rfl
end Go.Proofs.YthlakehilhpojaaDoor
namespace Go.Proofs.YthlakehilhpojaaDoor
open Go.RowKit
attribute [local go_sem] says_tt says_ff th_need th_ite th_call th_callK th_load th_store says_ret says_again BE.den IE.den SE.den LE.den AE.den CE.den PE.den VE.den KV.val Got.den Got.cnt exI allI exL allL Ctx.push Ctx.heap Ctx.cut Ctx.bare Ctx.mark Inc.blank List.getD_cons_zero List.getD_cons_succ List.cons_append List.nil_append List.append_nil List.map_cons List.map_nil List.replicate_zero List.replicate_succ specOf ltB_t leB_t ltB_f leB_f slc_val slc_nil slc_inj pt_val pt_nil hle_noHeap hle_refl hread_set hwrite_set set_same set_set noHeap_at B_inj ones_nil and_assoc
def fm_ldeep : Fm := (.need (.c true) (.not (.eqI (.c 100) (.c 0)))
  (.loop 0 ⟨[(.c 0)], [], [(.c [120])], [], [], []⟩
  (.ite (.lt (.x 1) (.rem (.wr .i64 (.x 0)) (.c 100)))
  (.need (.c true) (.le (.add (.len (.c [40])) (.len (.x 0))) (.c 9223372036854775807))
  (.need (.c true) (.le (.add (.len (.app (.c [40]) (.x 0))) (.len (.c [41]))) (.c 9223372036854775807))
  (.need (.c true) (.and (.le (.c (-9223372036854775808)) (.add (.x 1) (.c 1))) (.le (.add (.x 1) (.c 1)) (.c 9223372036854775807)))
  (.again 0 ⟨1, 0, 0, 0, 0, 0⟩ ⟨2, 0, 1, 0, 0, 0⟩ ⟨[(.add (.x 1) (.c 1))], [], [(.app (.app (.c [40]) (.x 0)) (.c [41]))], [], [], []⟩))))
  (.call (.c true) false 9 [(.one (.s (.x 0)))] (.tup [(.one (.sl (.x 0))), (.agg [(.i .i64 (.x 2)), (.i .i64 (.x 3)), (.i .i64 (.x 4))])]) ⟨3, 0, 0, 0, 1, 0⟩
  (.ite (.lt (.c 40) (.rem (.wr .i64 (.x 0)) (.c 100)))
  (.call (.and (.eqI (.cnt (.x 0)) (.c 0)) (.and (.eqI (.x 2) (.c 6)) (.and (.eqI (.x 3) (.c 1)) (.eqI (.x 4) (.c 41))))) false 6 [] (.p (.one (.b (.x 0)))) ⟨0, 1, 0, 0, 0, 0⟩
  (.ret (.p (.one (.b (.and (.and (.eqI (.cnt (.x 0)) (.c 0)) (.and (.eqI (.x 2) (.c 6)) (.and (.eqI (.x 3) (.c 1)) (.eqI (.x 4) (.c 41))))) (.x 0)))))))
  (.need (.and (.eqI (.x 2) (.c 0)) (.eqI (.cnt (.x 0)) (.c 1))) (.and (.and (.le (.c 0) (.c 0)) (.lt (.c 0) (.cnt (.x 0)))) (.nns (.x 0)))
  (.need (.and (.eqI (.x 2) (.c 0)) (.eqI (.cnt (.x 0)) (.c 1))) (.nns (.x 0))
  (.load (.and (.eqI (.x 2) (.c 0)) (.eqI (.cnt (.x 0)) (.c 1))) (.el (.x 0) (.c 0) 6 0) 1 [(.i .u8 (.x 5))] ⟨1, 0, 0, 0, 0, 0⟩
  (.need (.and (.and (.eqI (.x 2) (.c 0)) (.eqI (.cnt (.x 0)) (.c 1))) (.eqI (.x 5) (.c 26))) (.and (.and (.le (.c 0) (.c 0)) (.lt (.c 0) (.cnt (.x 0)))) (.nns (.x 0)))
  (.need (.and (.and (.eqI (.x 2) (.c 0)) (.eqI (.cnt (.x 0)) (.c 1))) (.eqI (.x 5) (.c 26))) (.nns (.x 0))
  (.load (.and (.and (.eqI (.x 2) (.c 0)) (.eqI (.cnt (.x 0)) (.c 1))) (.eqI (.x 5) (.c 26))) (.el (.x 0) (.c 0) 6 2) 1 [(.i .i64 (.x 6))] ⟨1, 0, 0, 0, 0, 0⟩
  (.need (.and (.and (.eqI (.x 2) (.c 0)) (.eqI (.cnt (.x 0)) (.c 1))) (.eqI (.x 5) (.c 26))) (.and (.le (.c (-9223372036854775808)) (.add (.rem (.wr .i64 (.x 0)) (.c 100)) (.c 1))) (.le (.add (.rem (.wr .i64 (.x 0)) (.c 100)) (.c 1)) (.c 9223372036854775807)))
  (.call (.and (.and (.and (.eqI (.x 2) (.c 0)) (.eqI (.cnt (.x 0)) (.c 1))) (.eqI (.x 5) (.c 26))) (.eqI (.x 6) (.add (.rem (.wr .i64 (.x 0)) (.c 100)) (.c 1)))) false 6 [] (.p (.one (.b (.x 0)))) ⟨0, 1, 0, 0, 0, 0⟩
  (.ret (.p (.one (.b (.and (.and (.and (.and (.eqI (.x 2) (.c 0)) (.eqI (.cnt (.x 0)) (.c 1))) (.eqI (.x 5) (.c 26))) (.eqI (.x 6) (.add (.rem (.wr .i64 (.x 0)) (.c 100)) (.c 1)))) (.x 0)))))))))))))))))))
theorem gen_ldeep : genFn ⟨true, []⟩ Tryd.prog (fun l => ([⟨[4, 5], [11, 12, 13, 16, 17, 18, 14, 15], []⟩] : List LAnn).getD l ⟨[], [], []⟩) Tryd.f5 = fm_ldeep := by kernel_rfl
theorem ps_ldeep : freshPs Tryd.prog .zero Tryd.f5.params.toList = some ([(.one (.i .u8 (.x 0)))], ⟨1, 0, 0, 0, 0, 0⟩) := by kernel_rfl
theorem u8_lo {n : Int} (h : (Lit.int .u8 n).wf = true) : 0 ≤ n := by
  simp [Lit.wf, IntKind.min, IntKind.signed] at h; exact h.1
theorem u8_hi {n : Int} (h : (Lit.int .u8 n).wf = true) : n ≤ 255 := by
  simp [Lit.wf, IntKind.max, IntKind.signed, IntKind.bits] at h; omega
theorem deepS_succ (k : Nat) : 40 :: (deepS k ++ [41]) = deepS (k + 1) := by
  unfold deepS
  rw [List.replicate_succ, List.cons_append, List.append_assoc, List.cons_append]
  congr 2
  rw [← List.replicate_succ']
def deepInv (n : Int) (k : Nat) : Nat → Ctx → Prop := fun _ C => ∃ (j : Nat) (h : Hp), C = ⟨[n, (j : Nat)], [], [deepS j], [], [], [], h, noM⟩ ∧ j ≤ k
set_option maxHeartbeats 4000000 in
theorem law_deep (n : Int) (h0 : 0 ≤ n) (h1 : n ≤ 255) (w : World) : Calls Tryd.prog 5 #[.int .u8 n] w fun e w' => e = .returned (.bool true) ∧ Below w.heap.size w w' := by
  obtain ⟨k, hk⟩ : ∃ k : Nat, (k : Int) = n % 100 := ⟨(n % 100).toNat, by omega⟩
  have hk100 : k < 100 := by omega
  have hrem : Int.tmod (IntKind.i64.wrap n) 100 = k := by
    rw [show IntKind.i64.wrap n = n by rw [IntKind.wrap_i64]; omega]
    rw [Int.tmod_eq_emod_of_nonneg h0]; omega
  obtain ⟨f, t, hft, hft2⟩ := deep_tree k
  refine by_fm0 Tryd.func5 gen_ldeep ps_ldeep [ctAwake06, ctPExpr] _ (deepInv n k) (fun _ C => ((k : Int) - C.i.getD 1 0).toNat) ⟨[n], [], [], [], [], [], noHeap, noM⟩ rfl ⟨rfl, rfl, rfl, rfl, rfl, rfl⟩ ones_nil ?_ w rfl
  generalize hE : (⟨specOf _, _, _, _⟩ : Env) = E
  have s_a : E.spec 6 = ctAwake06.spec := by rw [← hE]; rfl
  have s_p : E.spec 9 = ctPExpr.spec := by rw [← hE]; rfl
  have ep : E.post = fun v _ => v = .bool true := by rw [← hE]
  have ei : E.inv = deepInv n k := by rw [← hE]
  have em : E.meas = (fun _ C => ((k : Int) - C.i.getD 1 0).toNat) := by rw [← hE]
  clear hE
  unfold fm_ldeep
  rw [th_need]
  refine ⟨by simp [go_sem], ?_⟩
  rw [then_step]
  refine loop_intro ?_ ?_
  · rw [ei]
    exact ⟨0, noHeap, by simp [go_sem, deepS], Nat.zero_le _⟩
  rw [ei, em]
  rintro i' bb ss v ll pp hh M ⟨j, hp, hC, hj⟩ hM
  cases hC
  have hM' : M 0 = ((k : Int) - j).toNat := hM
  clear hM
  have hdl := deepS_len j
  by_cases hjk : j < k
  · rw [th_ite, if_pos (by simp [go_sem, hrem]; omega)]
    rw [then_step, th_need]
    refine ⟨by simp [go_sem]; omega, ?_⟩
    rw [then_step, th_need]
    refine ⟨by simp [go_sem]; omega, ?_⟩
    rw [then_step, th_need]
    refine ⟨by simp [go_sem]; omega, ?_⟩
    rw [then_step, says_again, ei, em]
    refine ⟨⟨j + 1, hh, by simp [go_sem, ← deepS_succ], by omega⟩, ?_⟩
    simp [go_sem]
    omega
  obtain rfl : j = k := by omega
  rw [th_ite, if_neg (by simp [go_sem, hrem])]
  rw [then_step, th_call, if_pos (by rfl), s_p]
  refine ⟨deepS j, rfl, ?_⟩
  unfold parseS
  rw [if_neg (by omega)]
  intro f' t' hft'
  rw [hft] at hft'
  cases hft'
  by_cases h40 : 40 < j
  · rw [if_pos h40] at hft2
    subst hft2
    rw [if_neg (by decide)]
    simp [go_sem, fltv]
    rw [then_step, th_ite, if_pos (by simp [go_sem, hrem]; omega)]
    rw [then_step, th_call, if_pos (by simp [go_sem]), s_a]
    refine ⟨rfl, ?_⟩
    simp [go_sem]
    simp only [then_step]; simp [go_sem, ep]
  · rw [if_neg h40] at hft2
    obtain ⟨rfl, rfl⟩ := hft2
    rw [if_pos rfl]
    intro sl k2 hk2 ho hn
    have hn1 : sl.n = 1 := hn
    have hNS : NS k2 sl [⟨26, 1, (j : Int) + 1, 0, 0, [120]⟩] := NS.of_own ho hn1
    obtain ⟨b, c, T, r, rfl, hb⟩ := hNS.slc (j := 0) (by simp)
    have r0 : hread k2 (some (b, 0 * 6 + 0)) 1 = some [.int .u8 26] := NS.read hb (j := 0) (by simp) (off := 0) (n := 1) (by decide)
    have r2 : hread k2 (some (b, 0 * 6 + 2)) 1 = some [.int .i64 ((j : Int) + 1)] := NS.read hb (j := 0) (by simp) (off := 2) (n := 1) (by decide)
    simp [go_sem, fltv]
    rw [then_step, th_ite, if_neg (by simp [go_sem, hrem]; omega)]
    rw [then_step, th_need]
    refine ⟨by simp [go_sem], ?_⟩
    rw [then_step, th_need]
    refine ⟨by simp [go_sem], ?_⟩
    rw [then_step, th_load, if_pos (by simp [go_sem])]
    refine (exI_iff _ _).2 ⟨⟨[26], [], [], [], [], []⟩, rfl, ones_nil, by simpa [go_sem] using r0, ?_⟩
    rw [then_step, th_need]
    refine ⟨by simp [go_sem], ?_⟩
    rw [then_step, th_need]
    refine ⟨by simp [go_sem], ?_⟩
    rw [then_step, th_load, if_pos (by simp [go_sem])]
    refine (exI_iff _ _).2 ⟨⟨[(j : Int) + 1], [], [], [], [], []⟩, rfl, ones_nil, by simpa [go_sem] using r2, ?_⟩
    rw [then_step, th_need]
    refine ⟨by simp [go_sem, hrem]; omega, ?_⟩
    rw [then_step, th_call, if_pos (by simp [go_sem, hrem]), s_a]
    refine ⟨rfl, ?_⟩
    simp [go_sem]
    simp only [then_step]; simp [go_sem, ep, hrem]
end Go.Proofs.YthlakehilhpojaaDoor
namespace Go.Proofs.YthlakehilhpojaaDoor
open Go.ChangeShapes Go.WideShapes Go.ChangeAt Go.RowKit

theorem own : ownKnob Tryd.prog.godebug = none := by kernel_rfl
theorem laidOutB : laidOutB Tryd.prog = true := by kernel_rfl

/-- Arguments below a world's end read again as they did. -/
theorem all_stay {H : Type} {enc : TypeId × Value → H} {W W' : World} (hb : Below W.heap.size W W') :
    ∀ (ts : List TypeId) (vs : List Value) (ds : List (DataW H)) (ps : List MemPlace), (∀ t ∈ ts, Tryd.prog.readableRec t = true ∧ t < Tryd.prog.types.size) → (∀ x ∈ ps, x.block < W.heap.size) →
    DataW.TrodAll enc Tryd.prog W 0 (fun _ => true) true ts vs ds ps → DataW.TrodAll enc Tryd.prog W' 0 (fun b => decide (b < W.heap.size)) true ts vs ds ps := by
  intro ts
  induction ts with
  | nil =>
    intro vs ds ps _ _ h
    obtain ⟨rfl, rfl, rfl⟩ := trodAll_nil h
    exact trodAll_mk0
  | cons t ts ih =>
    intro vs ds ps ht hp h
    obtain ⟨v, vs', d, ds', p, q, rfl, rfl, rfl, h1, h2⟩ := trodAll_cons h
    have h3 := ht t (by simp)
    exact trodAll_cons_mk (Below.trod laidOutB h3.1 h3.2 h1 hb (fun x hx => hp x (by simp [hx]))) (ih vs' ds' q (fun u hu => ht u (by simp [hu])) (fun x hx => hp x (by simp [hx])) h2)

/-- A LAW's END: it answers true, and below the world's end nothing has turned. -/
theorem law_end {H : Type} {enc : TypeId × Value → H} {s : ChangeSpec} {f : Func} {W W' : World} {args : Array Value} {ds gs : List (DataW H)} {before : List MemPlace}
    (hv : s.vars = []) (hres : f.resultTypes.toList = [4]) (hs1 : f.resultTypes.size = 1) (hts : ∀ t ∈ f.params.toList, Tryd.prog.readableRec t = true ∧ t < Tryd.prog.types.size)
    (hfn : s.fn H ds = { results := [.lit (.bool true)], args := ds })
    (hW : DataW.Whole enc Tryd.prog f.params.toList s.vars false W args.toList ds gs before) (hb : Below W.heap.size W W') :
    s.post enc Tryd.prog f false true false false W args (.bool true) W' := by
  have hW0 := hW
  have hlt := hW.lt
  obtain ⟨p, q, hA, hV, hpq, hfz, hnd⟩ := hW
  rw [hv] at hV
  obtain ⟨rfl, rfl⟩ := trodVars_none hV
  rw [List.append_nil] at hpq
  subst hpq
  have e : s.fn H (ds ++ []) = { results := [.lit (.bool true)], args := ds } := by rw [List.append_nil]; exact hfn
  refine ⟨ds, [], before, [], before, [], hW0, ?_, ?_, ?_, hb.frame _, fun h => by cases h⟩
  · rw [e, hres, hs1]
    exact trodAll_mk1 (shut_bool Tryd.underlying4 true)
  · rw [e]
    exact all_stay hb _ _ _ _ hts hlt hA
  · rw [e, hv]; rfl
end Go.Proofs.YthlakehilhpojaaDoor
namespace Go.Proofs.YthlakehilhpojaaDoor
open Go.ChangeShapes Go.WideShapes Go.ChangeAt Go.RowKit

def firstCells : Array Value := (Lib.firstTab.map (Value.int .u8)).toArray
def acceptCells : Array Value := #[.int .u8 128, .int .u8 191, .int .u8 160, .int .u8 191, .int .u8 128, .int .u8 159, .int .u8 144, .int .u8 191, .int .u8 128, .int .u8 143, .int .u8 0, .int .u8 0, .int .u8 0, .int .u8 0, .int .u8 0, .int .u8 0, .int .u8 0, .int .u8 0, .int .u8 0, .int .u8 0, .int .u8 0, .int .u8 0, .int .u8 0, .int .u8 0, .int .u8 0, .int .u8 0, .int .u8 0, .int .u8 0, .int .u8 0, .int .u8 0, .int .u8 0, .int .u8 0]
def putCells (c : Array Value) : Obj → Obj
  | .cells _ t frozen => .cells c t frozen
  | o => o
noncomputable def laidWorld (os : Os) : World :=
  { World.holding Tryd.prog os ⟨#[], #[], []⟩ with heap := ((World.holding Tryd.prog os ⟨#[], #[], []⟩).heap.modify 0 (putCells firstCells)).modify 1 (putCells acceptCells) }
end Go.Proofs.YthlakehilhpojaaDoor
namespace Go.Proofs.YthlakehilhpojaaDoor.parseDeep
open Go.ChangeShapes Go.WideShapes Go.ChangeAt Go.RowKit Go.Joins
open Go.ChangeMaps (open_string)

theorem param_types : ∀ t ∈ Tryd.f5.params.toList, Tryd.prog.readableRec t = true ∧ t < Tryd.prog.types.size := by
  rw [Tryd.params5]
  intro t ht
  have hm : t ∈ [5] := by simpa using ht
  have hall : ([5].all fun u => Tryd.prog.readableRec u && decide (u < Tryd.prog.types.size)) = true := by kernel_rfl
  have := List.all_eq_true.1 hall t hm
  simpa using this

set_option maxRecDepth 100000 in
theorem contract (H : Type) (enc : TypeId × Value → H) (W : World) (base : Nat) (args : Array Value) (ds gs : List (DataW H)) (before : List MemPlace)
    (hval : ∀ (j : Nat) t v, Tryd.f5.params[j]? = some t → args[j]? = some v → Value.okWide Tryd.prog W .any base t v)
    (hW : DataW.Whole enc Tryd.prog Tryd.f5.params.toList Rows.parseDeepSpec.vars false W args.toList ds gs before) (_hL : laidMetH Tryd.prog Rows.parseDeepRow.laid W) :
    Calls Tryd.prog 5 args W fun e W' => ∃ v, e = .returned v ∧ Rows.parseDeepSpec.post enc Tryd.prog Tryd.f5 false true false false W args v W' := by
  have hW' := hW
  obtain ⟨p, q, hA0, hV, rfl, hfz, hnd⟩ := hW
  have hA : DataW.TrodAll enc Tryd.prog W 0 (fun _ => true) true Tryd.f5.params.toList args.toList ds p := hA0
  rw [Tryd.params5] at hA hval
  obtain ⟨v0, vs0, d0, ds0, p0, q0, hargs, rfl, rfl, h0, r0⟩ := trodAll_cons hA
  obtain ⟨rfl, rfl, rfl⟩ := trodAll_nil r0
  obtain rfl : args = #[v0] := by cases args; simp_all
  obtain ⟨x0, rfl, rfl, rfl, w0⟩ := open_int Tryd.underlying5 (hval 0 5 v0 rfl rfl) h0
  refine (law_deep x0 (u8_lo w0) (u8_hi w0) W).mono fun e W' ⟨he, hb⟩ => ?_
  subst he
  exact ⟨_, rfl, law_end rfl (by kernel_rfl) (by kernel_rfl) param_types rfl hW' hb⟩

theorem laid_met (os : Os) : laidMet Tryd.prog Rows.parseDeepRow.laid ((laidWorld os).forCall (fun _ _ => 0) ⟨#[], #[.int .u8 0], []⟩).memory :=
  laidMet_of_run' 8 (by kernel_rfl) (by kernel_rfl)
theorem reads (os : Os) {H : Type} (enc : TypeId × Value → H) : ∃ places, DataW.whole enc Tryd.prog ((laidWorld os).forCall (fun _ _ => 0) ⟨#[], #[.int .u8 0], []⟩).memory Tryd.f5.params.toList Rows.parseDeepSpec.vars false (#[.int .u8 0] : Array Value).toList 8 = some ([.lit (.int .u8 0)], [], places) :=
  ⟨[], by kernel_rfl⟩

set_option maxRecDepth 100000 in
theorem lifted (os : Os) (started : os.Started) (H : Type) (enc : TypeId × Value → H) (F : Stop.Interp) :
    ReturnsInHanded {} Tryd.checked os 5 .any ((OpenSpec.ofChange Rows.parseDeepSpec).preRow enc Tryd.prog Tryd.f5 Rows.parseDeepRow.domain false Rows.parseDeepRow.laid) (((OpenSpec.ofChange Rows.parseDeepSpec).at F).post enc Tryd.prog Tryd.f5 false true false false) := by
  obtain ⟨places, hx⟩ := reads os enc
  refine returnsInHanded_of_row (C := Tryd.checked) (s := OpenSpec.ofChange Rows.parseDeepSpec) own started (by kernel_rfl) Tryd.func5
    (witness_row_at (enc := enc) (C := Tryd.checked) false (laidWorld os) #[.int .u8 0] rfl (by kernel_rfl) (by kernel_rfl) (by kernel_rfl)
      (OpenSpec.preRow_of_cond 8 hx (by kernel_rfl) (fun k hk => by cases hk) (by kernel_rfl) (laid_met os))) ?_
  intro W base args ds gs before hval hW _ _ _ hL _ _
  exact contract H enc W base args ds gs before hval hW hL

theorem said : Rows.ParseDeepSaid :=
  OpenClaim.holds_of_cond 5 Tryd.f5 rfl rfl rfl rfl rfl rfl rfl ⟨rfl, rfl, rfl, rfl, rfl⟩ rfl rfl rfl rfl rfl (by kernel_rfl) Tryd.func5 (by kernel_rfl)
    (of_decide_eq_true (by kernel_rfl)) (by unfold Func.isWrapper; first | (rw [if_pos (by decide +kernel)]; kernel_rfl) | (rw [if_neg (by decide +kernel)]; exact ⟨rfl, rfl⟩))
    (fun os started H enc _ F => by rw [OpenClaim.pre_eq_preRow]; exact lifted os started H enc F)

theorem plain (f : FuncId) (fn : Func) (hf : Tryd.pinned.checked.prog.funcNamed "hindcast/hindcastlaw06.ParseDeep" = some f) (hfn : Tryd.pinned.checked.prog.funcs[f]? = some fn) :
    false = Tryd.pinned.checked.prog.looks [] ∧ ∀ (j : Nat) t, fn.params[j]? = some t → Tryd.pinned.checked.prog.wantsStandIn t = false := by
  obtain rfl : f = 5 := Option.some.inj ((show Tryd.prog.funcNamed "hindcast/hindcastlaw06.ParseDeep" = some 5 by kernel_rfl).symm.trans hf) |>.symm
  obtain rfl : fn = Tryd.f5 := (Option.some.inj (Tryd.func5.symm.trans hfn)).symm
  refine ⟨by kernel_rfl, fun j t ht => ?_⟩
  rw [Tryd.params5] at ht
  have hm : t ∈ [5] := by simpa using Array.mem_of_getElem? ht
  have hall : ([5].all fun u => !Tryd.prog.wantsStandIn u) = true := by kernel_rfl
  exact (show Tryd.prog.wantsStandIn t = false by simpa using List.all_eq_true.1 hall t hm)

/-- THE CARD. -/
theorem card : Rows.ParseDeepCardSaid :=
  Claim7.holds_tied_plain_at .later [] _ _ _ _ said (fun _ h => by cases h) (by kernel_rfl) (fun _ h => by cases h) parseDeep_row_tie rfl ⟨rfl, rfl⟩ (by kernel_rfl) rfl plain (by kernel_rfl)
end Go.Proofs.YthlakehilhpojaaDoor.parseDeep
