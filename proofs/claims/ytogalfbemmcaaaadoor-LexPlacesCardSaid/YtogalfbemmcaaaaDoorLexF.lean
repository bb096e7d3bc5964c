/- Tokens, part F: blanks. -/
import Derived.Test.YtogalfbemmcaaaaDoorLexE
namespace Go.Proofs.YtogalfbemmcaaaaDoor
open Go.RowKit
attribute [local go_sem] says_tt says_ff says_need says_ite says_call says_load says_store says_mk says_new says_mks says_str says_ret says_again says_app BE.den IE.den SE.den LE.den AE.den CE.den PE.den VE.den KV.val Got.den Got.cnt exI allI exL allL Ctx.push Ctx.heap Ctx.cut Ctx.bare Ctx.mark Inc.blank List.getD_cons_zero List.getD_cons_succ List.cons_append List.nil_append List.append_nil List.map_cons List.map_nil List.replicate_zero List.replicate_succ specOf ltB_t leB_t ltB_f leB_f slc_val slc_nil slc_inj pt_val pt_nil hle_noHeap hle_refl hread_set hwrite_set set_same set_set noHeap_at B_inj ones_nil and_assoc
def skipInv (s : List UInt8) (a : Nat) (p : Int × Int) (T b : Nat) (h : Hp) (_ : Nat) (C : Ctx) : Prop :=
  ∃ k : Nat, C = ⟨[], [], [], [], [], [some (b, 0)], h.set b ⟨rc s k (adv p (sub s a k)).1 (adv p (sub s a k)).2, T⟩, noM⟩ ∧ a ≤ k ∧ k ≤ s.length ∧ ski false s a = (k - a) + ski false s k
set_option maxHeartbeats 8000000 in
def ctSkip : Ct Tryd.prog where
  f := 16
  spec := fun args h φ => ∃ b s, ∃ a : Nat, ∃ p : Int × Int, ∃ T, args = [.pointer (some ⟨b, 0, none⟩)] ∧ h b = some ⟨rc s a p.1 p.2, T⟩ ∧ a ≤ s.length ∧ s.length ≤ 100000 ∧ 0 ≤ p.1 ∧ p.1 ≤ 100000 ∧ 0 ≤ p.2 ∧ p.2 ≤ 100000 ∧
    φ (.tuple #[]) (h.set b ⟨rc s (a + ski false s a : Nat) (adv p (sub s a (a + ski false s a))).1 (adv p (sub s a (a + ski false s a))).2, T⟩)
  ok := by
    rintro args h φ w ⟨b, s, a, p, T, rfl, hb, ha, hs, p1, p2, p3, p4, hφ⟩ hH
    obtain ⟨h, rfl⟩ : ∃ h', h = Hp.set h' b ⟨rc s a p.1 p.2, T⟩ := ⟨h, set_self hb⟩
    rw [set_set] at hφ
    refine by_fm Tryd.func16 gen_skip ps_skip [ctPass, ctRun] φ (skipInv s a p T b h) (fun _ C => (s.length - atOf C.h b).toNat) ⟨[], [], [], [], [], [some (b, 0)], h.set b ⟨rc s a p.1 p.2, T⟩, noM⟩ ⟨rfl, rfl, rfl, rfl, rfl, rfl⟩ ones_nil ?_ w hH rfl
    refine loop_intro ⟨a, by rw [sub_same, adv_nil]; rfl, Nat.le_refl _, ha, by omega⟩ ?_
    rintro i bb ss v ll pp hh M ⟨k, hC, h1, h2, h3⟩ hM
    cases hC
    simp only [atOf_set] at hM
    have hbd := adv_bd p (sub s a k) p1 p3
    rw [sub_len s h2] at hbd
    generalize hq : adv p (sub s a k) = q at *
    obtain ⟨L, Co⟩ := q
    simp only at hbd hM ⊢
    have hq' : ∀ (n : Nat) (x L' C' : Int), x = (k : Int) + n → k + n ≤ s.length → 0 < n → adv p (sub s a (k + n)) = (L', C') → ski false s k = n + ski false s (k + n) →
        skipInv s a p T b h 0 ⟨[], [], [], [], [], [some (b, 0)], h.set b ⟨[.string (B s), .int .i64 x, .int .i64 L', .int .i64 C'], T⟩, noM⟩ ∧ ((s.length : Int) - atOf (h.set b ⟨[.string (B s), .int .i64 x, .int .i64 L', .int .i64 C'], T⟩) b).toNat < M 0 := by
      intro n x L' C' hx hn hn0 he hsk
      have e : ([.string (B s), .int .i64 x, .int .i64 L', .int .i64 C'] : List Value) = rc s ((k + n : Nat) : Int) L' C' := by rw [hx]; rfl
      rw [e]
      refine ⟨⟨k + n, by rw [he], by omega, hn, by omega⟩, ?_⟩
      rw [atOf_set, hM]
      omega
    have done : ski false s k = 0 → φ (.tuple #[]) (h.set b ⟨[.string (B s), .int .i64 k, .int .i64 L, .int .i64 Co], T⟩) := by
      intro h0
      rw [h0] at h3
      have e : a + ski false s a = k := by omega
      rw [e, hq] at hφ
      exact hφ
    by_cases hk : k < s.length
    · have hne : ¬ ((k : Int) = s.length) := by omega
      have hlt : (k : Int) < s.length := by omega
      rcases (by omega : bt s k = 10 ∨ bt s k = 32 ∨ bt s k = 9 ∨ bt s k = 13 ∨ bt s k = 35 ∨ (bt s k ≠ 10 ∧ bt s k ≠ 32 ∧ bt s k ≠ 9 ∧ bt s k ≠ 13 ∧ bt s k ≠ 35)) with hb | hb | hb | hb | hb | hb
      · have ha' := hq' 1 (k + 1) (L + 1) 1 (by omega) (by omega) (by omega) (by rw [adv_snoc p s h1 hk, hq, ad, if_pos hb]) (by rw [ski_blank hk (.inl hb)]; omega)
        simp [go_sem, rc, ctPass, hne, hlt, hb]
        (repeat' apply And.intro) <;> first | omega | exact ha'.1 | exact ha'.2
      · have ha' := hq' 1 (k + 1) L (Co + 1) (by omega) (by omega) (by omega) (by rw [adv_snoc p s h1 hk, hq, ad, if_neg (by omega)]) (by rw [ski_blank hk (.inr (.inl hb))]; omega)
        simp [go_sem, rc, ctPass, hne, hlt, hb]
        (repeat' apply And.intro) <;> first | omega | exact ha'.1 | exact ha'.2
      · have ha' := hq' 1 (k + 1) L (Co + 1) (by omega) (by omega) (by omega) (by rw [adv_snoc p s h1 hk, hq, ad, if_neg (by omega)]) (by rw [ski_blank hk (.inr (.inr (.inl hb)))]; omega)
        simp [go_sem, rc, ctPass, hne, hlt, hb]
        (repeat' apply And.intro) <;> first | omega | exact ha'.1 | exact ha'.2
      · have ha' := hq' 1 (k + 1) L (Co + 1) (by omega) (by omega) (by omega) (by rw [adv_snoc p s h1 hk, hq, ad, if_neg (by omega)]) (by rw [ski_blank hk (.inr (.inr (.inr hb)))]; omega)
        simp [go_sem, rc, ctPass, hne, hlt, hb]
        (repeat' apply And.intro) <;> first | omega | exact ha'.1 | exact ha'.2
      · have hle := rn_le (p := nlB) (s := s) (i := k) (by omega)
        have hpos : 0 < rn nlB s k := by rw [rn_yes hk (by rw [hb]; rfl)]; omega
        have ha' := hq' (rn nlB s k) (k + rn nlB s k) L (Co + rn nlB s k) (by omega) hle hpos (by
          rw [sub_sub s h1 (Nat.le_add_right k _) hle, adv_app, hq, adv_flat _ s hle (fun j h1 h2 => by
            have := (rn_in (p := nlB) h1 h2).2
            simpa [nlB] using this)]) (by rw [ski_hash hk hb])
        simp [go_sem, rc, ctPass, ctRun, runSpec, hne, hlt, hb]
        (repeat' apply And.intro) <;> first | omega | exact ha'.1 | exact ha'.2
      · obtain ⟨b1, b2, b3, b4, b5⟩ := hb
        have hd := done (ski_none hk ⟨b1, b2, b3, b4, b5⟩)
        simp [go_sem, rc, hne, hlt, b1, b2, b3, b4, b5]
        (repeat' apply And.intro) <;> first | omega | exact hd
    · have heq : (k : Int) = s.length := by omega
      have hd := done (ski_end (by omega) _)
      simp [go_sem, rc, ← heq]
      exact hd
end Go.Proofs.YtogalfbemmcaaaaDoor
