/- The law hindcastlaw07.PrettyTerms: the statement, out of its walk: it answers true whatever it is handed, and what it was handed reads as before. (Texts joined: PreK, PreL, TreZA, Card, Laid, LawTerms.) -/
import Derived.Test.YtllbpdllkkcajaaGreatDoorPti
namespace Go.Proofs.YtllbpdllkkcajaaGreatDoor
open Go.RowKit
/-- A tree that was read at a level. -/
structure Gd (L : List Tok) (lvl : Nat) (p : PS) (t : Tr) (q : PS) : Prop where
  wf : WfE t
  dep : (brd (decide (t.lv < lvl)) (dp t) : Int) + p.d ≤ 40
  wt : wN t + wT L p.a ≤ wT L q.a
/-- One that stands behind another one. -/
structure GdX (L : List Tok) (lvl : Nat) (p : PS) (x t : Tr) (q : PS) : Prop where
  wf : WfE t
  dep : (brd (decide (t.lv < lvl)) (dp t) : Int) + p.d ≤ 40
  wt : wN t + wT L p.a ≤ wT L q.a + wN x
structure GdS (L : List Tok) (p : PS) (a l : List Tr) (q : PS) : Prop where
  wf : WfEs l
  dep : (dps l : Int) + p.d ≤ 40
  wt : wS l + wT L p.a ≤ wT L q.a + wS a
def GdE (L : List Tok) (n : Nat) : Prop :=
  (∀ lvl p t q, pBin L n lvl p = some (t, q) → q.bad = false → p.d ≤ 40 → 1 ≤ lvl → lvl ≤ 7 → Gd L lvl p t q) ∧
  (∀ lvl x p t q, pBinL L n lvl x p = some (t, q) → q.bad = false → 1 ≤ lvl → lvl ≤ 6 → WfE x → (brd (decide (x.lv < lft lvl)) (dp x) : Int) + p.d ≤ 40 → GdX L lvl p x t q) ∧
  (∀ p t q, pUn L n p = some (t, q) → q.bad = false → p.d ≤ 40 → Gd L 7 p t q) ∧
  (∀ x p t q, pPost L n x p = some (t, q) → q.bad = false → WfE x → (brd (decide (x.lv < 8)) (dp x) : Int) + p.d ≤ 40 → GdX L 8 p x t q) ∧
  (∀ p t q, pAtom L n p = some (t, q) → q.bad = false → p.d ≤ 40 → Gd L 8 p t q) ∧
  (∀ f acc p l q, pArgs L n f acc p = some (l, q) → q.bad = false → WfEs acc → (dps acc : Int) + p.d ≤ 40 → GdS L p acc l q)
theorem wf_app : ∀ {a : List Tr} {t : Tr}, WfEs a → WfE t → WfEs (a ++ [t])
  | [], t, _, h => .cons t [] h .nil
  | a :: bs, t, h, ht => by
    cases h with
    | cons _ _ h1 h2 => exact .cons a (bs ++ [t]) h1 (wf_app h2 ht)
theorem dps_app : ∀ (a : List Tr) (t : Tr), dps (a ++ [t]) = max (dps a) (dp t)
  | [], t => by simp [dps]
  | a :: bs, t => by
    rw [List.cons_append, dps, dps, dps_app bs t]; omega
theorem no_is {L : List Tok} {p : PS} {s : List UInt8} (h6 : (tk L p).k ≠ 6) (h7 : (tk L p).k ≠ 7) : pIs L s p = false := by
  unfold pIs; simp [h6, h7]
theorem kind19 {L : List Tok} {n : Nat} {p : PS} {t : Tr} {q : PS} (k2 : (tk L p).k = 2) (h : pKind L n p = some (t, q)) (hb : p.bad = false) : t.k = 19 := by
  cases n with
  | zero => cases h
  | succ n =>
    have no : ∀ s, pIs L s p = false := fun s => no_is (by omega) (by omega)
    rw [pKind, if_neg (by rw [hb]; decide), no, if_neg (by decide), no, if_neg (by decide), no, if_neg (by decide), no, if_neg (by decide), if_pos k2] at h
    cases h; rfl
theorem kind20 {L : List Tok} {n : Nat} {p : PS} {t : Tr} {q : PS} (c : pIs L [91] p = true) (h : pKind L n p = some (t, q)) : t.k = 20 := by
  cases n with
  | zero => cases h
  | succ n =>
    have hb := c
    have hx : (tk L p).x = [91] := by
      unfold pIs at c
      simp only [Bool.and_eq_true, beq_iff_eq] at c
      exact c.2
    have hk := (is_k c).2
    have hk2 : ¬ (tk L p).k = 2 := by
      unfold pIs at c
      simp only [Bool.and_eq_true, Bool.or_eq_true, beq_iff_eq] at c
      omega
    have hbad : p.bad = false := by
      unfold pIs at c
      simp only [Bool.and_eq_true, Bool.not_eq_true'] at c
      exact c.1.1
    have no : ∀ s : List UInt8, s ≠ [91] → pIs L s p = false := fun s hs => by
      unfold pIs
      rw [hx, Bool.and_eq_false_iff]
      right
      rw [beq_eq_false_iff_ne]
      exact fun e => hs e.symm
    rw [pKind, if_neg (by rw [hbad]; decide), no wInt (by decide), if_neg (by decide), no wBool (by decide), if_neg (by decide), no wStr (by decide), if_neg (by decide), no wComp (by decide), if_neg (by decide), if_neg hk2, if_pos c] at h
    simp only [Option.map_eq_some_iff] at h
    obtain ⟨x, _, he⟩ := h
    cases he; rfl
set_option maxHeartbeats 1000000 in
theorem gdE {L : List Tok} (H : LW L) (F : TF L) : ∀ n, GdE L n
  | 0 => ⟨fun _ _ _ _ h => (by cases h), fun _ _ _ _ _ h => (by cases h), fun _ _ _ h => (by cases h), fun _ _ _ _ h => (by cases h), fun _ _ _ h => (by cases h), fun _ _ _ _ _ h => (by cases h)⟩
  | n + 1 => by
    obtain ⟨i1, i2, i3, i4, i5, i6⟩ := gdE H F n
    obtain ⟨a1, a2, a3, a4, a5, a6⟩ := advE H n
    refine ⟨fun lvl p t q h hq hd l1 l7 => ?_, fun lvl x p t q h hq l1 l6 wx dx => ?_, fun p t q h hq hd => ?_, fun x p t q h hq wx dx => ?_, fun p t q h hq hd => ?_, fun f acc p l q h hq wa da => ?_⟩
    · rw [pBin] at h
      split at h
      · obtain rfl : lvl = 7 := by omega
        exact i3 _ _ _ h hq hd
      · simp only [Option.bind_eq_some_iff] at h
        obtain ⟨⟨y, r⟩, h1, h2⟩ := h
        have hr : r.bad = false := bad_back (a2 _ _ _ _ _ h2) hq
        have G := i1 _ _ _ _ h1 hr hd (by omega) (by omega)
        have A := a1 _ _ _ _ h1
        have hdr : r.d = p.d := by have := A.d; omega
        have hl : lft lvl ≤ lvl + 1 := by unfold lft; split <;> omega
        have dy : (brd (decide (y.lv < lft lvl)) (dp y) : Int) + r.d ≤ 40 := by
          have := brd_mono y.lv hl (dp y)
          have := G.dep
          omega
        have S := i2 _ _ _ _ _ h2 hq l1 (by omega) G.wf dy
        exact ⟨S.wf, by have := S.dep; dsimp only at *; omega, by have := S.wt; have := G.wt; dsimp only at *; omega⟩
    · rw [pBinL] at h
      have hl : lvl ≤ lft lvl := by unfold lft; split <;> omega
      split at h
      · cases h
        exact ⟨wx, by have := brd_mono x.lv hl (dp x); omega, by omega⟩
      · rename_i c
        obtain ⟨o1, o2, o3⟩ := pOp_ok c
        have h8 : (tk L p).k ≠ 8 := by omega
        simp only [Option.bind_eq_some_iff] at h
        obtain ⟨⟨y, r⟩, h1, h2⟩ := h
        have hr : r.bad = false := by
          split at h2
          · cases h2; exact hq
          · exact bad_back (a2 _ _ _ _ _ h2) hq
        have Ap := adv_pass H p
        have hdp : (pPass L p).d = p.d := by have := Ap.d; omega
        have hd40 : p.d ≤ 40 := by omega
        have G := i1 _ _ _ _ h1 hr (by omega) (by omega) (by omega)
        have A := a1 _ _ _ _ h1
        have hdr : r.d = p.d := by have := A.d; omega
        have hw := G.wt
        rw [good_pass h8, wT_pass h8] at hw
        have hlv : (nd 31 (tk L p) (pOp L lvl p) [] [x, y]).lv = lvl := by
          unfold nd
          simp only [Tr.lv, if_true]
          exact o2
        have key : WfE (nd 31 (tk L p) (pOp L lvl p) [] [x, y]) ∧ ((dp (nd 31 (tk L p) (pOp L lvl p) [] [x, y]) : Nat) : Int) + p.d ≤ 40 ∧ wN (nd 31 (tk L p) (pOp L lvl p) [] [x, y]) + wT L p.a ≤ wT L r.a + wN x := by
          refine ⟨.bin _ _ _ o1 x y wx G.wf, ?_, ?_⟩
          · have e : dp (nd 31 (tk L p) (pOp L lvl p) [] [x, y]) = max (brd (decide (x.lv < lft lvl)) (dp x)) (brd (decide (y.lv < lvl + 1)) (dp y)) := by
              unfold nd; rw [dp_bin, o2]
            rw [e]
            have := G.dep
            omega
          · rw [wN_nd, wS_cons, wS_cons, wS_nil, wX_nil]
            have := wX_ge (tk L p).x
            dsimp only at *; omega
        split at h2
        · cases h2
          exact ⟨key.1, by dsimp only at *; rw [brd_same (by omega)]; exact key.2.1, key.2.2⟩
        · rename_i c34
          have hlf : lft lvl = lvl := by unfold lft; rw [if_neg c34]
          have S := i2 _ _ _ _ _ h2 hq l1 l6 key.1 (by dsimp only; rw [hlf, brd_same (Nat.le_of_eq hlv.symm)]; have := key.2.1; omega)
          exact ⟨S.wf, by have := S.dep; dsimp only at *; omega, by have := S.wt; have := key.2.2; dsimp only at *; omega⟩
    · have un : ∀ {s : List UInt8} {m : Int}, (m = 12 ∨ m = 13) → pIs L s p = true → (pUn L n (pOpen L (tk L p).x p)).map (fun r => (nd 30 (tk L p) m [] [r.1], { r.2 with d := r.2.d - 1 })) = some (t, q) → Gd L 7 p t q := by
        intro s m hm c h
        simp only [Option.map_eq_some_iff] at h
        obtain ⟨⟨y, r⟩, h1, h2⟩ := h
        cases h2
        have hr : r.bad = false := hq
        have A := a3 _ _ _ h1
        have Ao := adv_open H (tk L p).x p
        obtain ⟨_, _, _, g4⟩ := good_open (bad_back A hr)
        have hdo := Ao.d
        have G := i3 _ _ _ h1 hr (by
          obtain ⟨_, g2, _, _⟩ := good_open (bad_back A hr)
          omega)
        have h8 := (is_k c).2
        have hw := G.wt
        rw [g4, wT_pass h8] at hw
        have hlv : (nd 30 (tk L p) m [] [y]).lv = 7 := by unfold nd; simp [Tr.lv]
        refine ⟨.un _ _ _ hm y G.wf, ?_, ?_⟩
        · dsimp only
          rw [brd_same (Nat.le_of_eq hlv.symm)]
          have e : dp (nd 30 (tk L p) m [] [y]) = brd (decide (y.lv < 7)) (dp y) + 1 := by unfold nd; rw [dp_un]
          rw [e]
          have := G.dep
          omega
        · rw [wN_nd, wS_cons, wS_nil, wX_nil]
          have := wX_ge (tk L p).x
          show _ ≤ wT L r.a
          dsimp only at *; omega
      rw [pUn] at h
      split at h
      · exact un (.inl rfl) (by assumption) h
      · split at h
        · exact un (.inr rfl) (by assumption) h
        · simp only [Option.bind_eq_some_iff] at h
          obtain ⟨⟨y, r⟩, h1, h2⟩ := h
          have hr : r.bad = false := bad_back (a4 _ _ _ _ h2) hq
          have G := i5 _ _ _ h1 hr hd
          have A := a5 _ _ _ h1
          have hdr : r.d = p.d := by have := A.d; omega
          have S := i4 _ _ _ _ h2 hq G.wf (by have := G.dep; dsimp only at *; omega)
          have := brd_mono t.lv (show 7 ≤ 8 by omega) (dp t)
          exact ⟨S.wf, by have := S.dep; dsimp only at *; omega, by have := S.wt; have := G.wt; dsimp only at *; omega⟩
    · rw [pPost] at h
      split at h
      · rename_i c
        simp only [Option.bind_eq_some_iff] at h
        obtain ⟨⟨y, r⟩, h1, h2⟩ := h
        have hs : (pShut L [93] r).bad = false := bad_back (a4 _ _ _ _ h2) hq
        have As := adv_shut H [93] r
        have hr : r.bad = false := bad_back As hs
        have A := a1 _ _ _ _ h1
        have Ao := adv_open H [91] p
        obtain ⟨_, o2, _, o4⟩ := good_open (bad_back A hr)
        have h8 := (is_k c).2
        have hdo := Ao.d
        have hda := A.d
        have hds := As.d
        have G := i1 _ _ _ _ h1 hr (by omega) (by omega) (by omega)
        have hw := G.wt
        rw [o4, wT_pass h8] at hw
        have hw2 : wT L r.a ≤ wT L (pShut L [93] r).a := wT_le L As.a
        have hdy : (dp y : Int) + 1 + p.d ≤ 40 := by
          have := G.dep
          have e : brd (decide (y.lv < 1)) (dp y) = dp y := brd_same lv_pos _
          rw [e] at this; omega
        have wn : WfE (nd 28 (tk L p) 0 [] [x, y]) := .index _ _ x y wx G.wf
        have e : dp (nd 28 (tk L p) 0 [] [x, y]) = max (brd (decide (x.lv < 8)) (dp x)) (dp y + 1) := by unfold nd; rw [dp_index]
        have S := i4 _ _ _ _ h2 hq wn (by
          rw [brd_same (by unfold nd; simp [Tr.lv]), e]
          dsimp only at *; omega)
        refine ⟨S.wf, by have := S.dep; dsimp only at *; omega, ?_⟩
        have := S.wt
        rw [wN_nd, wS_cons, wS_cons, wS_nil, wX_nil] at this
        have := wX_ge (tk L p).x
        dsimp only at *; omega
      · split at h
        · rename_i c
          have hs : (pWord L 1 (pPass L p)).bad = false := bad_back (a4 _ _ _ _ h) hq
          obtain ⟨w1, w2, w3, w4⟩ := good_word (by decide) hs
          have h8 := (is_k c).2
          have h81 : (tk L (pPass L p)).k ≠ 8 := by omega
          have Ap := adv_pass H p
          have Aw := adv_word H 1 (pPass L p)
          have hdp := Ap.d
          have hdw := Aw.d
          have wn : WfE (nd 29 (tk L p) 0 (tk L (pPass L p)).x [x]) := .dot _ _ _ ((F _).1 w2) x wx
          have e : dp (nd 29 (tk L p) 0 (tk L (pPass L p)).x [x]) = brd (decide (x.lv < 8)) (dp x) := by unfold nd; rw [dp_dot]
          have S := i4 _ _ _ _ h hq wn (by
            rw [brd_same (by unfold nd; simp [Tr.lv]), e]
            omega)
          refine ⟨S.wf, by have := S.dep; omega, ?_⟩
          have hS := S.wt
          rw [w4, wT_pass h81, good_pass h8, wT_pass h8, wN_nd, wS_cons, wS_nil] at hS
          omega
        · cases h; exact ⟨wx, dx, by omega⟩
    · rw [pAtom] at h
      have leaf : ∀ {k m : Int} {x : List UInt8}, WfE (nd k (tk L p) m x []) → dp (nd k (tk L p) m x []) = 0 → (nd k (tk L p) m x []).lv = 8 → (tk L p).k ≠ 8 → x.length ≤ (tk L p).x.length → Gd L 8 p (nd k (tk L p) m x []) (pPass L p) := by
        intro k m x hw hdp hlv h8 hx
        refine ⟨hw, by rw [brd_same (by omega), hdp]; omega, ?_⟩
        rw [wN_nd, wS_nil, good_pass h8, wT_pass h8]
        unfold wX; omega
      by_cases c : p.bad = true
      · rw [if_pos c] at h; cases h; rw [c] at hq; cases hq
      rw [if_neg c] at h; clear c
      by_cases c : (tk L p).k = 3
      · rw [if_pos c] at h; cases h
        exact leaf (.int _ _ _ ((F p).2.2.1 c)) rfl rfl (by omega) (by simp)
      rw [if_neg c] at h; clear c
      by_cases c : (tk L p).k = 4
      · rw [if_pos c] at h; cases h
        exact leaf (.comp _ _ _ ((F p).2.2.2 c)) rfl rfl (by omega) (by simp)
      rw [if_neg c] at h; clear c
      by_cases c : (tk L p).k = 5
      · rw [if_pos c] at h; cases h
        exact leaf (.str _ _ _) rfl rfl (by omega) (by simp)
      rw [if_neg c] at h; clear c
      by_cases c : pIs L wTrue p = true
      · rw [if_pos c] at h; cases h
        exact leaf (.bool _ _ _ (.inr rfl)) rfl rfl (is_k c).2 (by simp)
      rw [if_neg c] at h; clear c
      by_cases c : pIs L wFalse p = true
      · rw [if_pos c] at h; cases h
        exact leaf (.bool _ _ _ (.inl rfl)) rfl rfl (is_k c).2 (by simp)
      rw [if_neg c] at h; clear c
      by_cases c : pIs L wNil p = true
      · rw [if_pos c] at h; cases h
        exact leaf (.nil _ _) rfl rfl (is_k c).2 (by simp)
      rw [if_neg c] at h; clear c
      by_cases c : (tk L p).k = 1
      · rw [if_pos c] at h
        have h8 : (tk L p).k ≠ 8 := by omega
        by_cases c2 : pIs L [40] (pPass L p) = true
        · rw [if_pos c2] at h
          simp only [Option.map_eq_some_iff] at h
          obtain ⟨⟨y, r⟩, h1, h2⟩ := h
          cases h2
          have As := adv_shut H [41] r
          have hr : r.bad = false := bad_back As hq
          have A := a6 _ _ _ _ _ h1
          have Ao := adv_open H [40] (pPass L p)
          have Ap := adv_pass H p
          obtain ⟨_, o2, _, o4⟩ := good_open (bad_back A hr)
          have hdo := Ao.d
          have hdp := Ap.d
          have h82 := (is_k c2).2
          have S := i6 _ _ _ _ _ h1 hr .nil (by have : dps [] = 0 := rfl; omega)
          have hw := S.wt
          rw [o4, wT_pass h82, good_pass h8, wT_pass h8, wS_nil] at hw
          have hw2 : wT L r.a ≤ wT L (pShut L [41] r).a := wT_le L As.a
          have e : dp (nd 27 (tk L p) 0 (tk L p).x y) = dps y + 1 := by unfold nd; rw [dp_call]
          refine ⟨.call _ _ _ ((F p).1 c) y S.wf, ?_, ?_⟩
          · rw [brd_same (by unfold nd; simp [Tr.lv]), e]
            have := S.dep
            omega
          · rw [wN_nd]
            dsimp only at *; omega
        · rw [if_neg c2] at h; cases h
          exact leaf (.name _ _ _ ((F p).1 c)) rfl rfl h8 (Nat.le_refl _)
      rw [if_neg c] at h; clear c
      by_cases c : pIs L [40] p = true
      · rw [if_pos c] at h
        simp only [Option.map_eq_some_iff] at h
        obtain ⟨⟨y, r⟩, h1, h2⟩ := h
        cases h2
        have As := adv_shut H [41] r
        have hr : r.bad = false := bad_back As hq
        have A := a1 _ _ _ _ h1
        have Ao := adv_open H [40] p
        obtain ⟨_, o2, _, o4⟩ := good_open (bad_back A hr)
        have hdo := Ao.d
        have G := i1 _ _ _ _ h1 hr (by omega) (by omega) (by omega)
        have hw := G.wt
        rw [o4, wT_pass (is_k c).2] at hw
        have hw2 : wT L r.a ≤ wT L (pShut L [41] r).a := wT_le L As.a
        refine ⟨G.wf, ?_, ?_⟩
        · have hG := G.dep
          have e : brd (decide (y.lv < 1)) (dp y) = dp y := brd_same lv_pos _
          rw [e] at hG
          have := brd_le (decide (y.lv < 8)) (dp y)
          dsimp only at *; omega
        · dsimp only at *; omega
      rw [if_neg c] at h; clear c
      by_cases c : pIs L wMake p = true
      · rw [if_pos c] at h
        have h8 := (is_k c).2
        simp only [Option.bind_eq_some_iff] at h
        obtain ⟨⟨y, r⟩, h1, h2⟩ := h
        have Ap := adv_pass H p
        have h0 : Adv L (pPass L p) (pHead L p) 0 := by
          unfold pHead; split
          · exact adv_fail 5 _
          · exact Adv.refl _
        have Ak := adv_kind H n _ h1
        have hhead : (pHead L p).bad = false → (pHead L p).a = p.a + 1 ∧ (tk L (pPass L p)).k = 2 ∨ pIs L [91] (pPass L p) = true := by
          intro hh
          unfold pHead at hh ⊢
          split at hh
          · exact (no_fail (by decide) hh).elim
          · rename_i hc
            rw [if_neg hc]
            simp only [Bool.and_eq_true, Bool.not_eq_true', beq_eq_false_iff_ne, not_and, ne_eq, Bool.not_eq_false] at hc
            by_cases k2 : (tk L (pPass L p)).k = 2
            · exact .inl ⟨good_pass h8, k2⟩
            · exact .inr (hc k2)
        have ha : (pHead L p).bad = false → (pHead L p).a = p.a + 1 := by
          unfold pHead; split
          · exact fun h => (no_fail (by decide) h).elim
          · exact fun _ => good_pass h8
        have hdp := Ap.d
        have hd0 := h0.d
        have hdk := Ak.d
        dsimp only at h2
        split at h2
        · rename_i k20
          simp only [Option.map_eq_some_iff] at h2
          obtain ⟨⟨z, u⟩, h3, h4⟩ := h2
          cases h4
          have As := adv_shut H [41] u
          have hu : u.bad = false := bad_back As hq
          have A := a1 _ _ _ _ h3
          have hob := bad_back A hu
          have Ao := adv_open H [40] r
          obtain ⟨o1, o2, _, o4⟩ := good_open hob
          have hr := bad_back Ao hob
          have hh := bad_back Ak hr
          have hdo := Ao.d
          obtain ⟨K1, K2, K3, _⟩ := gd_kind H F n _ h1 hr (by omega)
          have G := i1 _ _ _ _ h3 hu (by dsimp only at *; omega) (by omega) (by omega)
          have hw := G.wt
          rw [o4, wT_pass (is_k o1).2] at hw
          rw [ha hh, wT_pass h8] at K3
          have hw2 : wT L u.a ≤ wT L (pShut L [41] u).a := wT_le L As.a
          have wn : WfE (nd 32 (tk L p) 0 [] [y, z]) := by
            cases K1 with
            | word k _ _ hk => exact absurd k20 (by show ¬ k = 20; omega)
            | big _ _ _ _ => exact absurd k20 (by show ¬ (19 : Int) = 20; decide)
            | list l' c' t' ht => exact .makes _ _ l' c' t' ht z G.wf
          have e : dp (nd 32 (tk L p) 0 [] [y, z]) = max (kdp y) (dp z + 1) := by unfold nd; rw [dp_make]; simp [dps]
          refine ⟨wn, ?_, ?_⟩
          · rw [brd_same (by unfold nd; simp [Tr.lv]), e]
            have hG := G.dep
            have e : brd (decide (z.lv < 1)) (dp z) = dp z := brd_same lv_pos _
            rw [e] at hG
            dsimp only at *; omega
          · rw [wN_nd, wS_cons, wS_cons, wS_nil, wX_nil]
            have := wX_ge (tk L p).x
            dsimp only at *; omega
        · rename_i k20
          cases h2
          have As := adv_shut H [41] (pOpen L [40] r)
          have hob := bad_back As hq
          have Ao := adv_open H [40] r
          obtain ⟨o1, o2, _, o4⟩ := good_open hob
          have hr := bad_back Ao hob
          have hh := bad_back Ak hr
          have hdo := Ao.d
          obtain ⟨K1, K2, K3, _⟩ := gd_kind H F n _ h1 hr (by omega)
          rw [ha hh, wT_pass h8] at K3
          have hw2 : wT L r.a ≤ wT L (pShut L [41] (pOpen L [40] r)).a := wT_le L (Nat.le_trans Ao.a As.a)
          have hy19 : y.k = 19 := by
            rcases hhead hh with ⟨_, k2⟩ | c91
            · have hph : pHead L p = pPass L p := by unfold pHead; rw [k2]; rfl
              rw [hph] at h1
              exact kind19 k2 h1 (by rw [← hph]; exact hh)
            · exfalso
              have hph : pHead L p = pPass L p := by unfold pHead; rw [c91]; simp
              rw [hph] at h1
              exact k20 (kind20 c91 h1)
          have wn : WfE (nd 32 (tk L p) 0 [] [y]) := by
            cases K1 with
            | word k _ _ hk => exact absurd hy19 (by show ¬ k = 19; omega)
            | big l' c' x' hx' => exact .make _ _ l' c' x' hx'
            | list l' c' t' ht => exact absurd hy19 (by show ¬ (20 : Int) = 19; decide)
          have e : dp (nd 32 (tk L p) 0 [] [y]) = max (kdp y) 1 := by unfold nd; rw [dp_make]; simp [dps]
          refine ⟨wn, ?_, ?_⟩
          · rw [brd_same (by unfold nd; simp [Tr.lv]), e]
            dsimp only at *; omega
          · rw [wN_nd, wS_cons, wS_nil, wX_nil]
            have := wX_ge (tk L p).x
            dsimp only at *; omega
      rw [if_neg c] at h
      cases h; exact (no_fail (by decide) hq).elim
    · rw [pArgs] at h
      split at h
      · cases h; exact ⟨wa, da, by omega⟩
      · simp only [Option.bind_eq_some_iff] at h
        obtain ⟨⟨y, r⟩, h1, h2⟩ := h
        have h0 : Adv L p (if f = true then p else pMust L [44] p) 0 := by
          split
          · exact Adv.refl p
          · exact adv_must H _ p
        have hr : r.bad = false := bad_back (a6 _ _ _ _ _ h2) hq
        have A := a1 _ _ _ _ h1
        have hd0 := h0.d
        have hda := A.d
        have G := i1 _ _ _ _ h1 hr (by omega) (by omega) (by omega)
        have hG := G.dep
        have e : brd (decide (y.lv < 1)) (dp y) = dp y := brd_same lv_pos _
        rw [e] at hG
        have hw0 := wT_le L h0.a
        have S := i6 _ _ _ _ _ h2 hq (wf_app wa G.wf) (by rw [dps_app]; dsimp only at *; omega)
        refine ⟨S.wf, by have := S.dep; dsimp only at *; omega, ?_⟩
        have hS := S.wt
        have hw := G.wt
        rw [wS_app, wS_cons, wS_nil] at hS
        dsimp only at *; omega
end Go.Proofs.YtllbpdllkkcajaaGreatDoor
namespace Go.Proofs.YtllbpdllkkcajaaGreatDoor
open Go.RowKit
theorem sub_tw (p : Int → Bool) (s : List UInt8) (i : Nat) : sub s i (i + rn p s i) = (s.drop i).takeWhile fun c => p c.toNat := by
  unfold sub rn
  rw [List.drop_take, Nat.add_sub_cancel_left]
  exact (List.prefix_iff_eq_take.1 (List.takeWhile_prefix _)).symm
theorem tw_all {p : UInt8 → Bool} : ∀ {l : List UInt8} {c : UInt8}, c ∈ l.takeWhile p → p c = true
  | [], c, h => by simp at h
  | a :: l, c, h => by
    rw [List.takeWhile_cons] at h
    split at h
    · rename_i ha
      rcases List.mem_cons.1 h with rfl | h
      · exact ha
      · exact tw_all h
    · simp at h
theorem strip_all : ∀ {d : List UInt8}, (∀ c ∈ d, isDig c = true) → ∀ c ∈ strip d, isDig c = true
  | [], h => h
  | [a], h => h
  | a :: b :: d, h => by
    rw [strip]
    split
    · exact strip_all fun c hc => h c (by simp [List.mem_cons] at hc ⊢; exact .inr hc)
    · exact h
theorem pv_pos {d : List UInt8} (h : ∀ c ∈ d, isDig c = true) : 0 ≤ (pv d).1 := by
  have hdv : ∀ d, 0 ≤ (digV false d).1 := by
    intro d
    unfold digV
    split
    · simp only [Bool.false_eq_true, if_false]
      split
      · simp
      · decide
    · decide
  cases d with
  | nil => decide
  | cons c d =>
    have hc := h c (by simp)
    have h45 : ¬ c = 45 := by intro e; subst e; revert hc; decide
    simp only [pv, if_neg h45]
    split
    · decide
    · exact hdv _
theorem dg_isDig {c : UInt8} (h : dgB c.toNat = true) : isDig c = true := by
  unfold dgB kdi at h
  rw [decide_eq_true_eq] at h
  unfold isDig
  have := c.toNat_lt
  simp only [Bool.and_eq_true, decide_eq_true_eq]
  split at h
  · omega
  · split at h
    · omega
    · split at h
      · omega
      · omega
theorem one_facts {s : List UInt8} {j : Nat} (hj : j < s.length) (hf : (one s j).f = 0) :
    ((one s j).k = 1 → NameL (one s j).x) ∧ ((one s j).k = 2 → GreatL (one s j).x) ∧ ((one s j).k = 3 → 0 ≤ (one s j).n ∧ (one s j).n ≤ 9223372036854775807) ∧ ((one s j).k = 4 → 0 ≤ (one s j).n ∧ (one s j).n ≤ 8388607) := by
  unfold one at hf ⊢
  by_cases h1 : kdi (bt s j) = 1 ∨ kdi (bt s j) = 2
  · rw [if_pos h1] at hf ⊢
    have hin : inB (bt s j) = true := by simp only [inB, decide_eq_true_eq]; omega
    have hr := rn_yes (p := inB) hj hin
    have hle := rn_le (p := inB) (s := s) (i := j) (by omega)
    have hb : bt (sub s j (j + rn inB s j)) 0 = bt s j := bt_sub s j _ (by omega) hle
    have hall : ∀ c ∈ sub s j (j + rn inB s j), inB c.toNat = true := fun c hc => by
      rw [sub_tw] at hc
      exact tw_all (p := fun c => inB c.toNat) hc
    simp only
    unfold nameK
    refine ⟨fun h => ?_, fun h => ?_, fun h => ?_, fun h => ?_⟩
    · split at h
      · omega
      · rename_i h2
        split at h
        · omega
        · rename_i hw
          exact ⟨by rw [hb]; omega, hall, by simpa using hw⟩
    · split at h
      · rename_i h2
        exact ⟨by rw [hb]; exact h2, hall⟩
      · split at h <;> omega
    · split at h
      · omega
      · split at h <;> omega
    · split at h
      · omega
      · split at h <;> omega
  rw [if_neg h1] at hf ⊢
  by_cases h3 : kdi (bt s j) = 3
  · rw [if_pos h3] at hf ⊢
    have hd : ∀ c ∈ strip (sub s j (j + rn dgB s j)), isDig c = true := strip_all fun c hc => by
      rw [sub_tw] at hc
      exact dg_isDig (tw_all (p := fun c => dgB c.toNat) hc)
    have hp := pv_pos hd
    simp only at hf ⊢
    unfold nm at hf ⊢
    split
    · rename_i h4
      rw [if_pos h4] at hf
      unfold nfin at hf ⊢
      split
      · rename_i h5
        exact ⟨fun h => by simp at h, fun h => by simp at h, fun _ => ⟨hp, h5.2⟩, fun h => by simp at h⟩
      · exact ⟨fun h => by simp at h, fun h => by simp at h, fun h => by simp at h, fun h => by simp at h⟩
    · split
      · unfold nfin
        split
        · rename_i h5
          exact ⟨fun h => by simp at h, fun h => by simp at h, fun h => by simp at h, fun _ => ⟨hp, h5.2⟩⟩
        · exact ⟨fun h => by simp at h, fun h => by simp at h, fun h => by simp at h, fun h => by simp at h⟩
      · exact ⟨fun h => by simp at h, fun h => by simp at h, fun h => by simp at h, fun h => by simp at h⟩
  rw [if_neg h3] at hf ⊢
  split
  · cases rdq (s.drop j) with
    | none => exact ⟨fun h => by simp at h, fun h => by simp at h, fun h => by simp at h, fun h => by simp at h⟩
    | some r => exact ⟨fun h => by simp at h, fun h => by simp at h, fun h => by simp at h, fun h => by simp at h⟩
  · split
    · exact ⟨fun h => by simp at h, fun h => by simp at h, fun h => by simp at h, fun h => by simp at h⟩
    · exact ⟨fun h => by simp at h, fun h => by simp at h, fun h => by simp at h, fun h => by simp at h⟩
theorem tf_of {s : List UInt8} {L : List Tok} (T : Toks s L) : TF L := by
  intro p
  by_cases hlt : p.a < L.length
  · have e : tk L p = L[p.a] := by
      unfold tk
      rw [List.getD_eq_getElem?_getD, List.getElem?_eq_getElem hlt]; rfl
    rw [e]
    rcases T.tok _ (List.getElem_mem hlt) with h8 | ⟨j, hj, hf, hk, hn, hx, _⟩
    · rw [h8]; exact ⟨fun h => by omega, fun h => by omega, fun h => by omega, fun h => by omega⟩
    · rw [hk, hn, hx]; exact one_facts hj hf
  · have e : tk L p = ⟨8, 0, 0, 0, []⟩ := by
      unfold tk
      rw [List.getD_eq_getElem?_getD, List.getElem?_eq_none (by omega)]; rfl
    rw [e]
    exact ⟨fun h => by simp at h, fun h => by simp at h, fun h => by simp at h, fun h => by simp at h⟩
/-- A literal is no shorter than what it is. -/
theorem rdA_len : ∀ (n : Nat) {s : List UInt8} {i : Nat} {acc t : List UInt8} {e : Nat}, rdA n s i acc = some (t, e) → t.length + i ≤ e + acc.length
  | 0, s, i, acc, t, e, h => by cases h
  | n + 1, s, i, acc, t, e, h => by
    rw [rdA] at h
    split at h
    · cases h
    split at h
    · cases h; omega
    split at h
    · have := rdA_len n h; simp at this; omega
    split at h
    · cases h
    split at h
    · have := rdA_len n h; simp at this; omega
    split at h
    · have := rdA_len n h; simp at this; omega
    split at h
    · have := rdA_len n h; simp at this; omega
    split at h
    · split at h
      · have := rdA_len n h; simp at this; omega
      · cases h
    · cases h
theorem one_len {s : List UInt8} {j : Nat} (hj : j < s.length) (hf : (one s j).f = 0) : (one s j).x.length + j ≤ (one s j).e := by
  have hle := (one_ok hj hf).1
  unfold one at hf hle ⊢
  by_cases h1 : kdi (bt s j) = 1 ∨ kdi (bt s j) = 2
  · rw [if_pos h1]
    simp only
    rw [sub_tw]
    unfold rn
    omega
  rw [if_neg h1] at hf hle ⊢
  by_cases h3 : kdi (bt s j) = 3
  · rw [if_pos h3] at hf hle ⊢
    simp only [List.length_nil] at hle ⊢
    omega
  rw [if_neg h3] at hf hle ⊢
  by_cases h34 : bt s j = 34
  · rw [if_pos h34] at hf hle ⊢
    cases hq : rdq (s.drop j) with
    | none => rw [hq] at hf; simp at hf
    | some r =>
      obtain ⟨t, n⟩ := r
      unfold rdq at hq
      split at hq
      · cases hq
      · have := rdA_len _ hq
        simp only
        simp at this
        omega
  · rw [if_neg h34] at hf hle ⊢
    split
    · rename_i h; rw [if_pos h] at hf; simp at hf
    · simp only; omega
theorem pls_sum {s : List UInt8} : ∀ {l : List Tok} {i : Nat}, Pls s i l → (l.dropLast.map fun t => t.x.length).sum + i ≤ s.length
  | [], _, h => by cases h
  | t :: l, i, ⟨h1, h2, h3⟩ => by
    rcases h3 with ⟨h4, h5, rfl⟩ | ⟨h4, h5, h6, h7, h8, h9, h10, h11⟩
    · simp; omega
    · have := pls_sum h11
      have := one_len h4 h5
      rw [List.dropLast_cons_of_ne_nil h10, List.map_cons, List.sum_cons, h8]
      omega
theorem sum_wX : ∀ l : List Tok, (l.map fun t => wX t.x).sum = 23 * l.length + 4 * (l.map fun t => t.x.length).sum
  | [] => rfl
  | t :: l => by rw [List.map_cons, List.sum_cons, List.map_cons, List.sum_cons, sum_wX l, List.length_cons]; unfold wX; omega
theorem wT_bound {s : List UInt8} (h : (lexAll s).1.1 = 0) {a : Nat} (ha : a < (lexAll s).2.length) : wT (lexAll s).2 a ≤ 27 * s.length := by
  have hs := pls_sum (lexAll_pls h)
  have hlen := (toks_of h).len
  generalize (lexAll s).2 = L at *
  refine Nat.le_trans (wT_le L (show a ≤ L.length - 1 by omega)) ?_
  unfold wT
  rw [← List.dropLast_eq_take, sum_wX, List.length_dropLast]
  omega
/-- So many digits at most. -/
theorem dec_len {m k : Nat} (h : m < 10 ^ k) (hk : 1 ≤ k) (hm : m ≤ 9223372036854775808) : (dec m).length ≤ k := by
  obtain ⟨d1, d2, d3, d4, d5⟩ := dec_spec m hm
  by_cases h0 : m = 0
  · rw [d5 h0]; exact hk
  · have := vald_ge (dec m) d3 d1 (d4 h0)
    rw [d2] at this
    by_cases hl : (dec m).length ≤ k
    · exact hl
    · exfalso
      have : 10 ^ k ≤ 10 ^ ((dec m).length - 1) := Nat.pow_le_pow_right (by decide) (by omega)
      omega
theorem fm_len4 (x : List UInt8) : (x.flatMap qb).length ≤ 4 * x.length := by
  induction x with
  | nil => simp
  | cons c x ih =>
    rw [List.flatMap_cons, List.length_append, List.length_cons]
    have : (qb c).length ≤ 4 := by
      unfold qb
      split
      · simp
      · split
        · simp
        · split
          · simp
          · split <;> simp
    omega
theorem brk_len (b : Bool) (s : List UInt8) : (brk b s).length ≤ s.length + 2 := by unfold brk; split <;> simp
theorem ktx_len {t : Tr} (w : WfK t) : (ktx t).length + 4 ≤ wN t := by
  induction w with
  | word k l c hk =>
    obtain ⟨k1, k2⟩ := hk
    rcases (by omega : k = 15 ∨ k = 16 ∨ k = 17 ∨ k = 18) with rfl | rfl | rfl | rfl <;> simp [ktx, wN, wS, wX, wInt, wBool, wStr, wComp]
  | big l c x hx =>
    show x.length + 4 ≤ wX x + wS []
    unfold wX; omega
  | list l c t _ ih =>
    have e : ktx (.nd 20 l c 0 [] [t]) = 91 :: (ktx t ++ [93]) := by simp [ktx]
    rw [e]
    show _ ≤ wX [] + (wN t + wS [])
    rw [wX_nil, wS_nil]
    simp; omega
/-- A tree's text is no longer than it weighs. -/
theorem tx_len {t : Tr} (w : WfE t) : (tx t).length + 4 ≤ wN t := by
  refine WfE.rec (motive_1 := fun t _ => (tx t).length + 4 ≤ wN t) (motive_2 := fun ts _ => (txs ts).length ≤ wS ts ∧ (txr ts).length ≤ wS ts) ?_ ?_ ?_ ?_ ?_ ?_ ?_ ?_ ?_ ?_ ?_ ?_ ?_ ?_ ?_ w
  · intro l c n h
    show (txt n).length + 4 ≤ 23
    have := dec_len (m := n.natAbs) (k := 19) (by omega) (by decide) (by omega)
    unfold txt
    rw [if_neg (by omega)]
    omega
  · intro l c n h
    have e : tx (.nd 22 l c n [] []) = txt n ++ [105] := by rw [tx.eq_def]; simp
    rw [e]
    show _ ≤ 23
    have := dec_len (m := n.natAbs) (k := 7) (by omega) (by decide) (by omega)
    unfold txt
    rw [if_neg (by omega)]
    simp; omega
  · intro l c x
    have e : tx (.nd 23 l c 0 x []) = quo x := by rw [tx.eq_def]; simp
    rw [e]
    show _ ≤ wX x
    have := fm_len4 x
    unfold quo wX
    rw [List.length_cons, List.length_append, List.length_singleton]
    omega
  · intro l c n h
    rcases h with rfl | rfl <;> simp [tx, wN, wS, wX, wTrue, wFalse]
  · intro l c; simp [tx, wN, wS, wX, wNil]
  · intro l c x h
    rw [tx_name]
    show _ ≤ wX x
    unfold wX; omega
  · intro l c x h ks _ ih
    rw [tx_call]
    show _ ≤ wX x + wS ks
    unfold wX
    have := ih.2
    simp; omega
  · intro l c a b _ _ ia ib
    rw [tx_index]
    show _ ≤ wX [] + (wN a + (wN b + wS []))
    rw [wX_nil, wS_nil]
    have := brk_len (decide (a.lv < 8)) (tx a)
    simp; omega
  · intro l c x _ a _ ia
    rw [tx_dot]
    show _ ≤ wX x + (wN a + wS [])
    rw [wS_nil]
    unfold wX
    have := brk_len (decide (a.lv < 8)) (tx a)
    simp; omega
  · intro l c n _ a _ ia
    rw [tx_un]
    show _ ≤ wX [] + (wN a + wS [])
    rw [wX_nil, wS_nil]
    have := brk_len (decide (a.lv < 7)) (tx a)
    simp; omega
  · intro l c n _ a b _ _ ia ib
    rw [tx_bin]
    show _ ≤ wX [] + (wN a + (wN b + wS []))
    rw [wX_nil, wS_nil]
    have h1 := brk_len (decide (a.lv < lft (sgn n).2)) (tx a)
    have h2 := brk_len (decide (b.lv < (sgn n).2 + 1)) (tx b)
    have h3 : (sgn n).1.length ≤ 2 := by
      rcases sgn_mem n with h | ⟨c, e, _⟩ | ⟨c, e, _⟩
      · revert h
        generalize (sgn n).1 = x
        intro h
        simp only [List.mem_cons, List.not_mem_nil, or_false] at h
        rcases h with rfl | rfl | rfl | rfl | rfl | rfl <;> decide
      · rw [e]; simp
      · rw [e]; simp
    simp; omega
  · intro l c l' c' x hx
    rw [tx_make]
    have e1 : ktx (.nd 19 l' c' 0 x []) = x := by simp [ktx]
    have e2 : txr [] = [] := rfl
    have e3 : wMake.length = 4 := rfl
    rw [e1, e2]
    show _ ≤ wX [] + (wX x + wS [] + wS [])
    rw [wX_nil, wS_nil]
    unfold wX
    simp [e3]; omega
  · intro l c l' c' t wt b _ ib
    rw [tx_make]
    have h1 := ktx_len (.list l' c' t wt)
    have e2 : txr [b] = tx b := by simp [txr, txs]
    have e3 : wMake.length = 4 := rfl
    rw [e2]
    show _ ≤ wX [] + (wN (.nd 20 l' c' 0 [] [t]) + (wN b + wS []))
    rw [wX_nil, wS_nil]
    simp [e3]; omega
  · exact ⟨Nat.le_refl _, Nat.le_refl _⟩
  · intro t ts _ _ it its
    have e1 : txs (t :: ts) = 44 :: 32 :: (tx t ++ txs ts) := by simp [txs]
    have e2 : txr (t :: ts) = tx t ++ txs ts := by simp [txr]
    rw [e1, e2, wS_cons]
    have := its.1
    refine ⟨?_, ?_⟩
    · simp; omega
    · simp; omega
/-- An expression that was read from a text: written, it is read again. -/
theorem round_expr {s : List UInt8} {f : Int × Int × Int} {t : Tr} (h : parseT false s = some (f, t)) (hf : f.1 = 0) (hs : s.length ≤ 2000) :
    WfE t ∧ (tx t).length ≤ 65536 ∧ ∃ t' f', parseT false (tx t) = some (f', t') ∧ f'.1 = 0 ∧ t'.bare = t.bare := by
  have hl0 := (parse_red h hf).1
  have T := toks_of hl0
  have F := tf_of T
  have e := h
  unfold parseT at e
  rw [if_neg (by simpa using hl0)] at e
  simp only [Option.map_eq_some_iff] at e
  obtain ⟨⟨t0, q⟩, h1, h2⟩ := e
  cases h2
  have h1 : pBin (lexAll s).2 (fuelOf (lexAll s).2) 1 p0 = some (t0, q) := h1
  have hq : q.bad = false := by
    unfold endP at hf
    split at hf
    · unfold PS.bad; rw [hf]; rfl
    · exfalso
      have := bad_fail (L := (lexAll s).2) (e := 5) (by decide) q
      unfold PS.bad at this
      rw [hf] at this
      exact absurd this (by decide)
  have G := (gdE T.lw F _).1 _ _ _ _ h1 hq (by decide) (by decide) (by decide)
  have A := (advE T.lw _).1 _ _ _ _ h1
  have hw : wN t0 ≤ 27 * s.length := by
    have := G.wt
    have := wT_bound hl0 (A.v T.lw.pos)
    omega
  have hlen : (tx t0).length ≤ 65536 := by have := tx_len G.wf; omega
  refine ⟨G.wf, hlen, ?_⟩
  obtain ⟨L, hL, hp⟩ := lx_all (s := tx t0) (T := to t0 ++ [(8, 0, [])]) (by
    have := lx_expr G.wf (u := []) (T := [(8, 0, [])]) (fun c r e => by cases e) lx_nil
    simpa using this)
  have hT : HasT L 0 (to t0 ++ [(8, 0, [])]) := hp
  have hd : (dp t0 : Int) + 0 ≤ 40 := by
    have hG := G.dep
    have e : brd (decide (t0.lv < 1)) (dp t0) = dp t0 := brd_same lv_pos _
    have e2 : p0.d = 0 := rfl
    rw [e, e2] at hG
    exact hG
  obtain ⟨t', hb, hE⟩ := (xp_all G.wf L 0 0 _ hT hd).2.1 1 (by decide) (by decide) lv_pos ⟨8, 0, [], [], rfl, .inl rfl⟩
  obtain ⟨⟨f', u⟩, hpu⟩ := parse_some false (tx t0)
  have hpu' := hpu
  unfold parseT at hpu
  have hl1 : (lexAll (tx t0)).1.1 = 0 := by rw [hL]
  rw [if_neg (by simpa using hl1), hL] at hpu
  simp only [Option.map_eq_some_iff] at hpu
  obtain ⟨⟨t2, q2⟩, h3, h4⟩ := hpu
  have h3 : pBin L (fuelOf L) 1 p0 = some (t2, q2) := h3
  have he := ev_eq (fun n m r hnm hh => (monoE hnm).1 1 p0 r hh) hE h3
  cases he
  cases h4
  refine ⟨t', _, hpu', ?_, hb⟩
  have hk : (tk L (gs (0 + (to t0).length) 0)).k = 8 := (hT.app.hd).1
  unfold endP
  rw [if_pos hk]
  rfl
end Go.Proofs.YtllbpdllkkcajaaGreatDoor
namespace Go.Proofs.YtllbpdllkkcajaaGreatDoor
open Go.RowKit
attribute [local go_sem] says_tt says_ff th_need th_ite th_call th_callK th_load th_store says_ret says_again BE.den IE.den SE.den LE.den AE.den CE.den PE.den VE.den KV.val Got.den Got.cnt exI allI exL allL Ctx.push Ctx.heap Ctx.cut Ctx.bare Ctx.mark Inc.blank List.getD_cons_zero List.getD_cons_succ List.cons_append List.nil_append List.append_nil List.map_cons List.map_nil List.replicate_zero List.replicate_succ specOf specL dynId ltB_t leB_t ltB_f leB_f slc_val slc_nil slc_inj pt_val pt_nil hle_noHeap hle_refl hread_set hwrite_set set_same set_set noHeap_at B_inj ones_nil and_assoc
def fm_again07 : Fm := (.call (.c true) false 8 [(.one (.s (.x 0)))] (.tup [(.one (.sl (.x 0))), (.agg [(.i .i64 (.x 0)), (.i .i64 (.x 1)), (.i .i64 (.x 2))])]) ⟨3, 0, 0, 0, 1, 0⟩
  (.call (.c true) false 9 [(.one (.sl (.x 0)))] (.tup [(.one (.s (.x 1))), (.one (.i .i64 (.x 3)))]) ⟨1, 0, 1, 0, 0, 0⟩
  (.ret (.p (.one (.s (.x 1)))))))
theorem gen_again07 : genFn ⟨true, []⟩ Tryz.prog (fun l => ([] : List LAnn).getD l ⟨[], [], []⟩) Tryz.f20 = fm_again07 := by kernel_rfl
theorem ps_again07 : freshPs Tryz.prog .zero Tryz.f20.params.toList = some ([(.one (.s (.x 0)))], ⟨0, 0, 1, 0, 0, 0⟩) := by kernel_rfl
def fm_awake07 : Fm := (.call (.c true) false 20 [(.one (.s (.c [40, 97, 43, 98, 41, 42, 40, 99, 41])))] (.p (.one (.s (.x 0)))) ⟨0, 0, 1, 0, 0, 0⟩
  (.call (.eqS (.x 0) (.c [40, 97, 32, 43, 32, 98, 41, 32, 42, 32, 99])) false 20 [(.one (.s (.c [97, 45, 40, 98, 45, 99, 41, 45, 100])))] (.p (.one (.s (.x 1)))) ⟨0, 0, 1, 0, 0, 0⟩
  (.call (.and (.eqS (.x 0) (.c [40, 97, 32, 43, 32, 98, 41, 32, 42, 32, 99])) (.eqS (.x 1) (.c [97, 32, 45, 32, 40, 98, 32, 45, 32, 99, 41, 32, 45, 32, 100]))) false 20 [(.one (.s (.c [45, 40, 45, 120, 41])))] (.p (.one (.s (.x 2)))) ⟨0, 0, 1, 0, 0, 0⟩
  (.ret (.p (.one (.b (.and (.and (.eqS (.x 0) (.c [40, 97, 32, 43, 32, 98, 41, 32, 42, 32, 99])) (.eqS (.x 1) (.c [97, 32, 45, 32, 40, 98, 32, 45, 32, 99, 41, 32, 45, 32, 100]))) (.eqS (.x 2) (.c [45, 45, 120]))))))))))
theorem gen_awake07 : genFn ⟨true, []⟩ Tryz.prog (fun l => ([] : List LAnn).getD l ⟨[], [], []⟩) Tryz.f7 = fm_awake07 := by kernel_rfl
theorem ps_awake07 : freshPs Tryz.prog .zero Tryz.f7.params.toList = some ([], ⟨0, 0, 0, 0, 0, 0⟩) := by kernel_rfl
def fm_lterms : Fm := (.ite (.lt (.c 2000) (.len (.x 0)))
  (.call (.c true) false 7 [] (.p (.one (.b (.x 0)))) ⟨0, 1, 0, 0, 0, 0⟩
  (.ret (.p (.one (.b (.x 0))))))
  (.call (.c true) false 8 [(.one (.s (.x 0)))] (.tup [(.one (.sl (.x 0))), (.agg [(.i .i64 (.x 0)), (.i .i64 (.x 1)), (.i .i64 (.x 2))])]) ⟨3, 0, 0, 0, 1, 0⟩
  (.ite (.not (.eqI (.x 0) (.c 0)))
  (.call (.c true) false 7 [] (.p (.one (.b (.x 0)))) ⟨0, 1, 0, 0, 0, 0⟩
  (.ret (.p (.one (.b (.x 0))))))
  (.call (.c true) false 9 [(.one (.sl (.x 0)))] (.tup [(.one (.s (.x 1))), (.one (.i .i64 (.x 3)))]) ⟨1, 0, 1, 0, 0, 0⟩
  (.call (.c true) false 8 [(.one (.s (.x 1)))] (.tup [(.one (.sl (.x 1))), (.agg [(.i .i64 (.x 4)), (.i .i64 (.x 5)), (.i .i64 (.x 6))])]) ⟨3, 0, 0, 0, 1, 0⟩
  (.call (.c true) false 9 [(.one (.sl (.x 1)))] (.tup [(.one (.s (.x 2))), (.one (.i .i64 (.x 7)))]) ⟨1, 0, 1, 0, 0, 0⟩
  (.call (.and (.eqI (.x 3) (.c 0)) (.eqI (.x 4) (.c 0))) false 10 [(.one (.sl (.x 0))), (.one (.sl (.x 1)))] (.p (.one (.b (.x 0)))) ⟨0, 1, 0, 0, 0, 0⟩
  (.call (.and (.and (.and (.and (.eqI (.x 3) (.c 0)) (.eqI (.x 4) (.c 0))) (.x 0)) (.eqI (.x 7) (.c 0))) (.eqS (.x 2) (.x 1))) false 7 [] (.p (.one (.b (.x 1)))) ⟨0, 1, 0, 0, 0, 0⟩
  (.ret (.p (.one (.b (.and (.and (.and (.and (.and (.eqI (.x 3) (.c 0)) (.eqI (.x 4) (.c 0))) (.x 0)) (.eqI (.x 7) (.c 0))) (.eqS (.x 2) (.x 1))) (.x 1))))))))))))))
theorem gen_lterms : genFn ⟨true, []⟩ Tryz.prog (fun l => ([] : List LAnn).getD l ⟨[], [], []⟩) Tryz.f3 = fm_lterms := by kernel_rfl
theorem ps_lterms : freshPs Tryz.prog .zero Tryz.f3.params.toList = some ([(.one (.s (.x 0)))], ⟨0, 0, 1, 0, 0, 0⟩) := by kernel_rfl
theorem ct_law (c : Ct Tryz.prog) {args : List Value} {r : Value} (h : c.spec args (fun _ => none) (fun v _ => v = r)) (w : World) : Calls Tryz.prog c.f args.toArray w fun e w' => e = .returned r ∧ Below w.heap.size w w' := by
  refine (c.ok args (fun _ => none) _ w h (fun b o h => by cases h)).mono ?_
  rintro e w' ⟨v, k, rfl, rfl, _, F⟩
  exact ⟨rfl, F.os, F.tape, F.output, F.size, fun i hi => F.block i hi rfl⟩
theorem NG.of_nods {h : Hp} {sl : Slc} {t : Tr} {T : TypeId} (ho : OwnS h sl (ncs t.nods) T 6) : NG h sl t.gs := by
  rw [← gcs_nod] at ho
  exact Rows.of_own ho
theorem tree_n {s : List UInt8} {f : Int × Int × Int} {t : Tr} (h : parseT false s = some (f, t)) (hf : f.1 = 0) : t.n ≤ s.length + 1 := (parse_red h hf).2.1
set_option maxHeartbeats 2000000 in
def ctAgain07 : Ct Tryz.prog where
  f := 20
  spec := fun args h φ => ∃ s t, args = [.string (B s)] ∧ s.length ≤ 2000 ∧ (∃ f, parseT false s = some (f, t) ∧ f.1 = 0) ∧ φ (.string (B (tx t))) h
  ok := by
    rintro args h φ w ⟨s, t, rfl, hs, ⟨f, hft, hf⟩, hφ⟩ hH
    obtain ⟨W, hlen, _⟩ := round_expr hft hf hs
    have htn := tree_n hft hf
    have hgl := gs_len t
    refine ct_forget (by_fm Tryz.func20 gen_again07 ps_again07 [ctPExpr, ctYExprs] (fun v k => ∃ k', HLe k' k ∧ φ v k') (noInv) (noMeas) ⟨[], [], [s], [], [], [], h, noM⟩ ⟨rfl, rfl, rfl, rfl, rfl, rfl⟩ ones_nil ?_ w hH rfl)
    generalize hE : (⟨specOf _, _, _, _⟩ : Env) = E
    have s_ctPExpr : E.spec 8 = (ctPExpr).spec := by rw [← hE]; rfl
    have s_ctYExprs : E.spec 9 = (ctYExprs).spec := by rw [← hE]; rfl
    have ep : E.post = (fun v k => ∃ k', HLe k' k ∧ φ v k') := by rw [← hE]
    clear hE
    unfold fm_again07
    rw [th_call, if_pos (by rfl), s_ctPExpr]
    refine ⟨s, rfl, ?_⟩
    unfold parseS
    rw [if_neg (by omega)]
    intro f' t' hft'
    rw [hft] at hft'
    cases hft'
    rw [if_pos hf]
    intro sl k hle ho hn
    have hle' : HLe h k := hle
    refine ⟨fun h => (by cases h), (exI_iff _ _).2 ⟨⟨[0, 0, 0], [], [], [], [sl], []⟩, rfl, ones_nil, rfl, ?_⟩⟩
    rw [then_step, th_call, if_pos (by rfl), s_ctYExprs]
    refine ⟨sl, t.gs, rfl, NG.of_nods ho, by omega, .inr ⟨t, rfl, .inr ⟨may_expr W, W, by omega, ?_⟩⟩⟩
    refine ⟨fun h => (by cases h), (exI_iff _ _).2 ⟨⟨[0], [], [tx t], [], [], []⟩, rfl, ones_nil, rfl, ?_⟩⟩
    rw [then_step, says_ret, ep]
    exact ⟨h, hle', hφ⟩
def A1 : List UInt8 := [40, 97, 43, 98, 41, 42, 40, 99, 41]
def A2 : List UInt8 := [97, 45, 40, 98, 45, 99, 41, 45, 100]
def A3 : List UInt8 := [45, 40, 45, 120, 41]
set_option maxRecDepth 100000 in
theorem ag1 : (parseT false A1).map (fun r => (r.1, tx r.2)) = some ((0, 0, 0), [40, 97, 32, 43, 32, 98, 41, 32, 42, 32, 99]) := by decide +kernel
set_option maxRecDepth 100000 in
theorem ag2 : (parseT false A2).map (fun r => (r.1, tx r.2)) = some ((0, 0, 0), [97, 32, 45, 32, 40, 98, 32, 45, 32, 99, 41, 32, 45, 32, 100]) := by decide +kernel
set_option maxRecDepth 100000 in
theorem ag3 : (parseT false A3).map (fun r => (r.1, tx r.2)) = some ((0, 0, 0), [45, 45, 120]) := by decide +kernel
theorem ag_of {s : List UInt8} {u : List UInt8} (h : (parseT false s).map (fun r => (r.1, tx r.2)) = some ((0, 0, 0), u)) : ∃ t, (∃ f, parseT false s = some (f, t) ∧ f.1 = 0) ∧ tx t = u := by
  obtain ⟨⟨f, t⟩, h1, h2⟩ := Option.map_eq_some_iff.1 h
  obtain ⟨h3, h4⟩ := Prod.mk.inj h2
  exact ⟨t, ⟨f, h1, by rw [show f = (0, 0, 0) from h3]⟩, h4⟩
set_option maxHeartbeats 2000000 in
def ctAwake07 : Ct Tryz.prog where
  f := 7
  spec := fun args h φ => args = [] ∧ φ (.bool true) h
  ok := by
    rintro args h φ w ⟨rfl, hφ⟩ hH
    obtain ⟨t1, p1, e1⟩ := ag_of ag1
    obtain ⟨t2, p2, e2⟩ := ag_of ag2
    obtain ⟨t3, p3, e3⟩ := ag_of ag3
    refine by_fm Tryz.func7 gen_awake07 ps_awake07 [ctAgain07] φ (noInv) (noMeas) ⟨[], [], [], [], [], [], h, noM⟩ ⟨rfl, rfl, rfl, rfl, rfl, rfl⟩ ones_nil ?_ w hH rfl
    generalize hE : (⟨specOf _, _, _, _⟩ : Env) = E
    have s_ctAgain07 : E.spec 20 = (ctAgain07).spec := by rw [← hE]; rfl
    have ep : E.post = φ := by rw [← hE]
    clear hE
    unfold fm_awake07
    rw [th_call, if_pos (by rfl), s_ctAgain07]
    refine ⟨A1, t1, rfl, by decide, p1, ?_⟩
    rw [e1]
    refine ⟨fun h => (by cases h), (exI_iff _ _).2 ⟨⟨[], [], [[40, 97, 32, 43, 32, 98, 41, 32, 42, 32, 99]], [], [], []⟩, rfl, ones_nil, rfl, ?_⟩⟩
    rw [then_step, th_call, if_pos (by rfl), s_ctAgain07]
    refine ⟨A2, t2, rfl, by decide, p2, ?_⟩
    rw [e2]
    refine ⟨fun h => (by cases h), (exI_iff _ _).2 ⟨⟨[], [], [[97, 32, 45, 32, 40, 98, 32, 45, 32, 99, 41, 32, 45, 32, 100]], [], [], []⟩, rfl, ones_nil, rfl, ?_⟩⟩
    rw [then_step, th_call, if_pos (by rfl), s_ctAgain07]
    refine ⟨A3, t3, rfl, by decide, p3, ?_⟩
    rw [e3]
    refine ⟨fun h => (by cases h), (exI_iff _ _).2 ⟨⟨[], [], [[45, 45, 120]], [], [], []⟩, rfl, ones_nil, rfl, ?_⟩⟩
    rw [then_step, says_ret, ep]
    exact hφ
set_option maxHeartbeats 4000000 in
def ctTerms : Ct Tryz.prog where
  f := 3
  spec := fun args h φ => ∃ s, args = [.string (B s)] ∧ φ (.bool true) h
  ok := by
    rintro args h φ w ⟨s, rfl, hφ⟩ hH
    refine ct_forget (by_fm Tryz.func3 gen_lterms ps_lterms [ctAwake07, ctPExpr, ctYExprs, ctSame05] (fun v k => ∃ k', HLe k' k ∧ φ v k') (noInv) (noMeas) ⟨[], [], [s], [], [], [], h, noM⟩ ⟨rfl, rfl, rfl, rfl, rfl, rfl⟩ ones_nil ?_ w hH rfl)
    generalize hE : (⟨specOf _, _, _, _⟩ : Env) = E
    have s_ctAwake07 : E.spec 7 = (ctAwake07).spec := by rw [← hE]; rfl
    have s_ctPExpr : E.spec 8 = (ctPExpr).spec := by rw [← hE]; rfl
    have s_ctYExprs : E.spec 9 = (ctYExprs).spec := by rw [← hE]; rfl
    have s_ctSame05 : E.spec 10 = (ctSame05).spec := by rw [← hE]; rfl
    have ep : E.post = (fun v k => ∃ k', HLe k' k ∧ φ v k') := by rw [← hE]
    clear hE
    unfold fm_lterms
    by_cases hs : 2000 < s.length
    · rw [th_ite, if_pos (by simp [go_sem]; omega)]
      rw [then_step, th_call, if_pos (by rfl), s_ctAwake07]
      refine ⟨rfl, ?_⟩
      refine ⟨fun h => (by cases h), (exI_iff _ _).2 ⟨⟨[], [true], [], [], [], []⟩, rfl, ones_nil, rfl, ?_⟩⟩
      rw [then_step, says_ret, ep]
      exact ⟨h, fun _ _ h => h, hφ⟩
    rw [th_ite, if_neg (by simp [go_sem]; omega)]
    rw [then_step, th_call, if_pos (by rfl), s_ctPExpr]
    refine ⟨s, rfl, ?_⟩
    unfold parseS
    rw [if_neg (by omega)]
    intro f t hft
    by_cases hf : f.1 = 0
    rotate_left
    · rw [if_neg hf]
      refine ⟨fun h => (by cases h), (exI_iff _ _).2 ⟨⟨[f.1, f.2.1, f.2.2], [], [], [], [⟨none, 0, 0⟩], []⟩, rfl, ones_nil, rfl, ?_⟩⟩
      rw [then_step, th_ite, if_pos (by simpa [go_sem] using hf)]
      rw [then_step, th_call, if_pos (by rfl), s_ctAwake07]
      refine ⟨rfl, ?_⟩
      refine ⟨fun h => (by cases h), (exI_iff _ _).2 ⟨⟨[], [true], [], [], [], []⟩, rfl, ones_nil, rfl, ?_⟩⟩
      rw [then_step, says_ret, ep]
      exact ⟨h, fun _ _ h => h, hφ⟩
    rw [if_pos hf]
    intro sl k hle ho hn
    have hle' : HLe h k := hle
    obtain ⟨W, hlen, t', f', hft', hf', hbare⟩ := round_expr hft hf (by omega)
    have W' := wfE_bare W t' hbare
    have htx := tx_of_bare hbare
    have htn := tree_n hft hf
    have htn' := tree_n hft' hf'
    have hgl := gs_len t
    have hgl' := gs_len t'
    refine ⟨fun h => (by cases h), (exI_iff _ _).2 ⟨⟨[0, 0, 0], [], [], [], [sl], []⟩, rfl, ones_nil, rfl, ?_⟩⟩
    rw [then_step, th_ite, if_neg (by simp [go_sem])]
    rw [then_step, th_call, if_pos (by rfl), s_ctYExprs]
    refine ⟨sl, t.gs, rfl, NG.of_nods ho, by omega, .inr ⟨t, rfl, .inr ⟨may_expr W, W, by omega, ?_⟩⟩⟩
    refine ⟨fun h => (by cases h), (exI_iff _ _).2 ⟨⟨[0], [], [tx t], [], [], []⟩, rfl, ones_nil, rfl, ?_⟩⟩
    rw [then_step, th_call, if_pos (by rfl), s_ctPExpr]
    refine ⟨tx t, rfl, ?_⟩
    unfold parseS
    rw [if_neg (by omega)]
    intro f2 t2 hft2
    rw [hft'] at hft2
    cases hft2
    rw [if_pos hf']
    intro sl2 k2 hle2 ho2 hn2
    have hle2' : HLe k k2 := hle2
    refine ⟨fun h => (by cases h), (exI_iff _ _).2 ⟨⟨[0, 0, 0], [], [], [], [sl2], []⟩, rfl, ones_nil, rfl, ?_⟩⟩
    rw [then_step, th_call, if_pos (by rfl), s_ctYExprs]
    refine ⟨sl2, t'.gs, rfl, NG.of_nods ho2, by omega, .inr ⟨t', rfl, .inr ⟨may_expr W', W', by rw [htx]; omega, ?_⟩⟩⟩
    rw [htx]
    refine ⟨fun h => (by cases h), (exI_iff _ _).2 ⟨⟨[0], [], [tx t], [], [], []⟩, rfl, ones_nil, rfl, ?_⟩⟩
    rw [then_step, th_call, if_pos (by rfl), s_ctSame05]
    refine ⟨sl, sl2, t.gs, t'.gs, rfl, (NG.of_nods ho).le hle2', NG.of_nods ho2, by omega, ?_⟩
    rw [same_of_bare hbare.symm]
    refine ⟨fun h => (by cases h), (exI_iff _ _).2 ⟨⟨[], [true], [], [], [], []⟩, rfl, ones_nil, rfl, ?_⟩⟩
    rw [then_step, th_call, if_pos (by simp [go_sem]), s_ctAwake07]
    refine ⟨rfl, ?_⟩
    refine ⟨fun h => (by cases h), (exI_iff _ _).2 ⟨⟨[], [true], [], [], [], []⟩, rfl, ones_nil, rfl, ?_⟩⟩
    rw [then_step, says_ret, ep]
    refine ⟨h, HLe.trans hle' hle2', ?_⟩
    simpa [go_sem] using hφ
theorem law_terms_l (s : List UInt8) (w : World) : Calls Tryz.prog 3 #[.string (B s)] w fun e w' => e = .returned (.bool true) ∧ Below w.heap.size w w' :=
  ct_law ctTerms (args := [.string (B s)]) ⟨s, rfl, rfl⟩ w
theorem law_terms (s : ByteArray) (w : World) : Calls Tryz.prog 3 #[.string s] w fun e w' => e = .returned (.bool true) ∧ Below w.heap.size w w' := by
  rw [string_B s]
  exact law_terms_l _ w
end Go.Proofs.YtllbpdllkkcajaaGreatDoor
namespace Go.Proofs.YtllbpdllkkcajaaGreatDoor
open Go.ChangeShapes Go.WideShapes Go.ChangeAt Go.RowKit
theorem own : ownKnob Tryz.prog.godebug = none := by kernel_rfl
theorem laidOutB : laidOutB Tryz.prog = true := by kernel_rfl
/-- Arguments below a world's end read again as they did. -/
theorem all_stay {H : Type} {enc : TypeId × Value → H} {W W' : World} (hb : Below W.heap.size W W') :
    ∀ (ts : List TypeId) (vs : List Value) (ds : List (DataW H)) (ps : List MemPlace), (∀ t ∈ ts, Tryz.prog.readableRec t = true ∧ t < Tryz.prog.types.size) → (∀ x ∈ ps, x.block < W.heap.size) →
    DataW.TrodAll enc Tryz.prog W 0 (fun _ => true) true ts vs ds ps → DataW.TrodAll enc Tryz.prog W' 0 (fun b => decide (b < W.heap.size)) true ts vs ds ps := by
  intro ts
  induction ts with
  | nil =>
    intro vs ds ps _ _ h
    obtain ⟨rfl, rfl, rfl⟩ := trodAll_nil h
    exact trodAll_mk0
  | cons t ts ih =>
    intro vs ds ps ht hp h
    obtain ⟨v, vs', d, ds', p, q, rfl, rfl, rfl, h1, h2⟩ := trodAll_cons h
    have h3 := ht t (by simp)
    exact trodAll_cons_mk (Below.trod laidOutB h3.1 h3.2 h1 hb (fun x hx => hp x (by simp [hx]))) (ih vs' ds' q (fun u hu => ht u (by simp [hu])) (fun x hx => hp x (by simp [hx])) h2)
/-- A LAW's END: it answers true, and below the world's end nothing has turned. -/
theorem law_end {H : Type} {enc : TypeId × Value → H} {s : ChangeSpec} {f : Func} {W W' : World} {args : Array Value} {ds gs : List (DataW H)} {before : List MemPlace}
    (hv : s.vars = []) (hres : f.resultTypes.toList = [4]) (hs1 : f.resultTypes.size = 1) (hts : ∀ t ∈ f.params.toList, Tryz.prog.readableRec t = true ∧ t < Tryz.prog.types.size)
    (hfn : s.fn H ds = { results := [.lit (.bool true)], args := ds })
    (hW : DataW.Whole enc Tryz.prog f.params.toList s.vars false W args.toList ds gs before) (hb : Below W.heap.size W W') :
    s.post enc Tryz.prog f false true false false W args (.bool true) W' := by
  have hW0 := hW
  have hlt := hW.lt
  obtain ⟨p, q, hA, hV, hpq, hfz, hnd⟩ := hW
  rw [hv] at hV
  obtain ⟨rfl, rfl⟩ := trodVars_none hV
  rw [List.append_nil] at hpq
  subst hpq
  have e : s.fn H (ds ++ []) = { results := [.lit (.bool true)], args := ds } := by rw [List.append_nil]; exact hfn
  refine ⟨ds, [], before, [], before, [], hW0, ?_, ?_, ?_, hb.frame _, fun h => by cases h⟩
  · rw [e, hres, hs1]
    exact trodAll_mk1 (shut_bool Tryz.underlying4 true)
  · rw [e]
    exact all_stay hb _ _ _ _ hts hlt hA
  · rw [e, hv]; rfl
end Go.Proofs.YtllbpdllkkcajaaGreatDoor
namespace Go.Proofs.YtllbpdllkkcajaaGreatDoor
open Go.ChangeShapes Go.WideShapes Go.ChangeAt Go.RowKit
def firstCells : Array Value := (Lib.firstTab.map (Value.int .u8)).toArray
def acceptCells : Array Value := #[.int .u8 128, .int .u8 191, .int .u8 160, .int .u8 191, .int .u8 128, .int .u8 159, .int .u8 144, .int .u8 191, .int .u8 128, .int .u8 143, .int .u8 0, .int .u8 0, .int .u8 0, .int .u8 0, .int .u8 0, .int .u8 0, .int .u8 0, .int .u8 0, .int .u8 0, .int .u8 0, .int .u8 0, .int .u8 0, .int .u8 0, .int .u8 0, .int .u8 0, .int .u8 0, .int .u8 0, .int .u8 0, .int .u8 0, .int .u8 0, .int .u8 0, .int .u8 0]
def putCells (c : Array Value) : Obj → Obj
  | .cells _ t frozen => .cells c t frozen
  | o => o
noncomputable def laidWorld (os : Os) : World :=
  { World.holding Tryz.prog os ⟨#[], #[], []⟩ with heap := ((World.holding Tryz.prog os ⟨#[], #[], []⟩).heap.modify 0 (putCells firstCells)).modify 1 (putCells acceptCells) }
end Go.Proofs.YtllbpdllkkcajaaGreatDoor
namespace Go.Proofs.YtllbpdllkkcajaaGreatDoor.prettyTerms
open Go.ChangeShapes Go.WideShapes Go.ChangeAt Go.RowKit Go.Joins
open Go.ChangeMaps (open_string)
theorem param_types : ∀ t ∈ Tryz.f3.params.toList, Tryz.prog.readableRec t = true ∧ t < Tryz.prog.types.size := by
  rw [Tryz.params3]
  intro t ht
  have hm : t ∈ [9] := by simpa using ht
  have hall : ([9].all fun u => Tryz.prog.readableRec u && decide (u < Tryz.prog.types.size)) = true := by kernel_rfl
  have := List.all_eq_true.1 hall t hm
  simpa using this
set_option maxRecDepth 100000 in
theorem contract (H : Type) (enc : TypeId × Value → H) (W : World) (base : Nat) (args : Array Value) (ds gs : List (DataW H)) (before : List MemPlace)
    (hval : ∀ (j : Nat) t v, Tryz.f3.params[j]? = some t → args[j]? = some v → Value.okWide Tryz.prog W .any base t v)
    (hW : DataW.Whole enc Tryz.prog Tryz.f3.params.toList Rows.prettyTermsSpec.vars false W args.toList ds gs before) (_hL : laidMetH Tryz.prog Rows.prettyTermsRow.laid W) :
    Calls Tryz.prog 3 args W fun e W' => ∃ v, e = .returned v ∧ Rows.prettyTermsSpec.post enc Tryz.prog Tryz.f3 false true false false W args v W' := by
  have hW' := hW
  obtain ⟨p, q, hA0, hV, rfl, hfz, hnd⟩ := hW
  have hA : DataW.TrodAll enc Tryz.prog W 0 (fun _ => true) true Tryz.f3.params.toList args.toList ds p := hA0
  rw [Tryz.params3] at hA hval
  obtain ⟨v0, vs0, d0, ds0, p0, q0, hargs, rfl, rfl, h0, r0⟩ := trodAll_cons hA
  obtain ⟨rfl, rfl, rfl⟩ := trodAll_nil r0
  obtain rfl : args = #[v0] := by cases args; simp_all
  obtain ⟨x0, rfl, rfl, rfl, w0⟩ := open_string Tryz.underlying9 (hval 0 9 v0 rfl rfl) h0
  refine (law_terms x0 W).mono fun e W' ⟨he, hb⟩ => ?_
  subst he
  exact ⟨_, rfl, law_end rfl (by kernel_rfl) (by kernel_rfl) param_types rfl hW' hb⟩
theorem laid_met (os : Os) : laidMet Tryz.prog Rows.prettyTermsRow.laid ((laidWorld os).forCall (fun _ _ => 0) ⟨#[], #[.string ⟨#[]⟩], []⟩).memory :=
  laidMet_of_run' 8 (by kernel_rfl) (by kernel_rfl)
theorem reads (os : Os) {H : Type} (enc : TypeId × Value → H) : ∃ places, DataW.whole enc Tryz.prog ((laidWorld os).forCall (fun _ _ => 0) ⟨#[], #[.string ⟨#[]⟩], []⟩).memory Tryz.f3.params.toList Rows.prettyTermsSpec.vars false (#[.string ⟨#[]⟩] : Array Value).toList 8 = some ([.lit (.string [])], [], places) :=
  ⟨[], by kernel_rfl⟩
set_option maxRecDepth 100000 in
theorem lifted (os : Os) (started : os.Started) (H : Type) (enc : TypeId × Value → H) (F : Stop.Interp) :
    ReturnsInHanded {} Tryz.checked os 3 .any ((OpenSpec.ofChange Rows.prettyTermsSpec).preRow enc Tryz.prog Tryz.f3 Rows.prettyTermsRow.domain false Rows.prettyTermsRow.laid) (((OpenSpec.ofChange Rows.prettyTermsSpec).at F).post enc Tryz.prog Tryz.f3 false true false false) := by
  obtain ⟨places, hx⟩ := reads os enc
  refine returnsInHanded_of_row (C := Tryz.checked) (s := OpenSpec.ofChange Rows.prettyTermsSpec) own started (by kernel_rfl) Tryz.func3
    (witness_row_at (enc := enc) (C := Tryz.checked) false (laidWorld os) #[.string ⟨#[]⟩] rfl (by kernel_rfl) (by kernel_rfl) (by kernel_rfl)
      (OpenSpec.preRow_of_cond 8 hx (by kernel_rfl) (fun k hk => by cases hk) (by kernel_rfl) (laid_met os))) ?_
  intro W base args ds gs before hval hW _ _ _ hL _ _
  exact contract H enc W base args ds gs before hval hW hL
theorem said : Rows.PrettyTermsSaid :=
  OpenClaim.holds_of_cond 3 Tryz.f3 rfl rfl rfl rfl rfl rfl rfl ⟨rfl, rfl, rfl, rfl, rfl⟩ rfl rfl rfl rfl rfl (by kernel_rfl) Tryz.func3 (by kernel_rfl)
    (of_decide_eq_true (by kernel_rfl)) (by unfold Func.isWrapper; first | (rw [if_pos (by decide +kernel)]; kernel_rfl) | (rw [if_neg (by decide +kernel)]; exact ⟨rfl, rfl⟩))
    (fun os started H enc _ F => by rw [OpenClaim.pre_eq_preRow]; exact lifted os started H enc F)
theorem plain (f : FuncId) (fn : Func) (hf : Tryz.pinned.checked.prog.funcNamed "hindcast/hindcastlaw07.PrettyTerms" = some f) (hfn : Tryz.pinned.checked.prog.funcs[f]? = some fn) :
    false = Tryz.pinned.checked.prog.looks [] ∧ ∀ (j : Nat) t, fn.params[j]? = some t → Tryz.pinned.checked.prog.wantsStandIn t = false := by
  obtain rfl : f = 3 := Option.some.inj ((show Tryz.prog.funcNamed "hindcast/hindcastlaw07.PrettyTerms" = some 3 by kernel_rfl).symm.trans hf) |>.symm
  obtain rfl : fn = Tryz.f3 := (Option.some.inj (Tryz.func3.symm.trans hfn)).symm
  refine ⟨by kernel_rfl, fun j t ht => ?_⟩
  rw [Tryz.params3] at ht
  have hm : t ∈ [9] := by simpa using Array.mem_of_getElem? ht
  have hall : ([9].all fun u => !Tryz.prog.wantsStandIn u) = true := by kernel_rfl
  exact (show Tryz.prog.wantsStandIn t = false by simpa using List.all_eq_true.1 hall t hm)
/-- THE CARD. -/
theorem card : Rows.PrettyTermsCardSaid :=
  Claim7.holds_tied_plain_at .later [] _ _ _ _ said (fun _ h => by cases h) (by kernel_rfl) (fun _ h => by cases h) prettyTerms_row_tie rfl ⟨rfl, rfl⟩ (by kernel_rfl) rfl plain (by kernel_rfl)
end Go.Proofs.YtllbpdllkkcajaaGreatDoor.prettyTerms
