/- Tokens, part O: rows of tokens in memory; whether two are the same. -/
import Derived.Test.YtogalfbemmcaaaaDoorLexM
namespace Go.Proofs.YtogalfbemmcaaaaDoor
open Go.RowKit
attribute [local go_sem] says_tt says_ff th_need th_ite th_call th_load th_store th_mk th_new th_mks th_str says_ret says_again says_app BE.den IE.den SE.den LE.den AE.den CE.den PE.den VE.den KV.val Got.den Got.cnt exI allI exL allL Ctx.push Ctx.heap Ctx.cut Ctx.bare Ctx.mark Inc.blank List.getD_cons_zero List.getD_cons_succ List.cons_append List.nil_append List.append_nil List.map_cons List.map_nil List.replicate_zero List.replicate_succ specOf ltB_t leB_t ltB_f leB_f slc_val slc_nil slc_inj pt_val pt_nil hle_noHeap hle_refl hread_set hwrite_set set_same set_set noHeap_at B_inj ones_nil and_assoc
def fm_same : Fm := (.ite (.not (.eqI (.cnt (.x 0)) (.cnt (.x 1))))
  (.ret (.p (.one (.b (.c false)))))
  (.loop 0 ⟨[(.c 0)], [(.c false)], [], [], [], []⟩
  (.ite (.lt (.x 0) (.cnt (.x 0)))
  (.load (.c true) (.el (.x 0) (.x 0) 5 0) 5 [(.i .u8 (.x 1)), (.i .i64 (.x 2)), (.i .i64 (.x 3)), (.i .i64 (.x 4)), (.s (.x 0))] ⟨4, 0, 1, 0, 0, 0⟩
  (.load (.c true) (.el (.x 1) (.x 0) 5 0) 5 [(.i .u8 (.x 5)), (.i .i64 (.x 6)), (.i .i64 (.x 7)), (.i .i64 (.x 8)), (.s (.x 1))] ⟨4, 0, 1, 0, 0, 0⟩
  (.need (.c true) (.and (.and (.le (.c 0) (.x 0)) (.lt (.x 0) (.cnt (.x 0)))) (.nns (.x 0)))
  (.need (.c true) (.and (.and (.le (.c 0) (.x 0)) (.lt (.x 0) (.cnt (.x 1)))) (.nns (.x 1)))
  (.ite (.not (.and (.eqI (.x 1) (.x 5)) (.and (.eqI (.x 2) (.x 6)) (.and (.eqI (.x 3) (.x 7)) (.and (.eqI (.x 4) (.x 8)) (.eqS (.x 0) (.x 1)))))))
  (.ret (.p (.one (.b (.c false)))))
  (.need (.c true) (.and (.le (.c (-9223372036854775808)) (.add (.x 0) (.c 1))) (.le (.add (.x 0) (.c 1)) (.c 9223372036854775807)))
  (.again 0 ⟨0, 0, 0, 0, 2, 0⟩ ⟨1, 1, 0, 0, 2, 0⟩ ⟨[(.add (.x 0) (.c 1))], [(.x 0)], [], [], [], []⟩)))))))
  (.ret (.p (.one (.b (.c true))))))))
theorem gen_same : genFn ⟨true, []⟩ Tryd.prog (fun l => ([⟨[4, 13], [14, 15, 5, 16, 17, 18, 19, 20, 21, 22, 23, 24, 25], []⟩] : List LAnn).getD l ⟨[], [], []⟩) Tryd.f11 = fm_same := by kernel_rfl
theorem ps_same : freshPs Tryd.prog .zero Tryd.f11.params.toList = some ([(.one (.sl (.x 0))), (.one (.sl (.x 1)))], ⟨0, 0, 0, 0, 2, 0⟩) := by kernel_rfl
theorem tcs_drop (l : List Tok) (j : Nat) : (tcs l).drop (j * 5) = tcs (l.drop j) := by
  induction l generalizing j with
  | nil => simp [tcs]
  | cons a l ih =>
    cases j with
    | zero => simp
    | succ j =>
      have : tcs (a :: l) = a.cs ++ tcs l := by simp [tcs]
      rw [this, show (j + 1) * 5 = a.cs.length + j * 5 by simp [Tok.cs]; omega, List.drop_append, List.drop_succ_cons, ← ih]
      simp
/-- A row of tokens. -/
def TS (h : Hp) (sl : Slc) (l : List Tok) : Prop := sl.n = l.length ∧ (l = [] ∨ ∃ b c T r, sl = ⟨some (b, 0), l.length, c⟩ ∧ h b = some ⟨tcs l ++ r, T⟩)
theorem TS.of_own {h : Hp} {sl : Slc} {l : List Tok} {T : TypeId} (ho : OwnS h sl (tcs l) T 5) (hn : sl.n = l.length) : TS h sl l := by
  refine ⟨hn, ?_⟩
  rcases ho with ⟨_, hx⟩ | ⟨b, o, h1, h2, _, h4, h5, _, h7⟩
  · left
    cases l with
    | nil => rfl
    | cons a l => have := congrArg List.length hx; rw [tcs_len] at this; simp at this
  · right
    obtain ⟨cs, T'⟩ := o
    refine ⟨b, sl.c, T', cs.drop (sl.n * 5), ?_, ?_⟩
    · rw [← hn, ← h1]
    · rw [h2, h7]; simp only [List.take_append_drop]
theorem TS.le {h k : Hp} {sl : Slc} {l : List Tok} (ht : TS h sl l) (hl : HLe h k) : TS k sl l := by
  refine ⟨ht.1, ?_⟩
  rcases ht.2 with h0 | ⟨b, c, T, r, h1, h2⟩
  · exact .inl h0
  · exact .inr ⟨b, c, T, r, h1, hl _ _ h2⟩
theorem TS.read {h : Hp} {b : Nat} {l : List Tok} {r : List Value} {T : TypeId} (hb : h b = some ⟨tcs l ++ r, T⟩) {j : Nat} (hj : j < l.length) :
    hread h (some (b, j * 5)) 5 = some [.int .u8 l[j].k, .int .i64 l[j].l, .int .i64 l[j].c, .int .i64 l[j].n, .string (B l[j].x)] := by
  have hlen := tcs_len l
  rw [hread_of hb, if_pos (by simp only [List.length_append]; omega)]
  simp only
  rw [List.drop_append_of_le_length (by omega), tcs_drop, List.drop_eq_getElem_cons hj]
  rw [tcs, List.flatMap_cons]
  rfl
theorem TS.slc {h : Hp} {sl : Slc} {l : List Tok} (ht : TS h sl l) {j : Nat} (hj : j < l.length) : ∃ b c T r, sl = ⟨some (b, 0), l.length, c⟩ ∧ h b = some ⟨tcs l ++ r, T⟩ := by
  rcases ht.2 with rfl | ht
  · simp at hj
  · exact ht
theorem tok_eq (a b : Tok) : a = b ↔ a.k = b.k ∧ a.l = b.l ∧ a.c = b.c ∧ a.n = b.n ∧ a.x = b.x := by
  cases a; cases b; simp
def sameInv (s1 s2 : Slc) (l m : List Tok) (h : Hp) (_ : Nat) (C : Ctx) : Prop := ∃ (j : Nat) (y : Bool), C = ⟨[j], [y], [], [], [s1, s2], [], h, noM⟩ ∧ l.length = m.length ∧ j ≤ l.length ∧ l.take j = m.take j
set_option maxHeartbeats 4000000 in
def ctSame : Ct Tryd.prog where
  f := 11
  spec := fun args h φ => ∃ s1 s2 l m, args = [s1.val, s2.val] ∧ TS h s1 l ∧ TS h s2 m ∧ l.length ≤ 1000000 ∧ φ (.bool (decide (l = m))) h
  ok := by
    rintro args h φ w ⟨s1, s2, l, m, rfl, t1, t2, hl, hφ⟩ hH
    have n1 := t1.1
    have n2 := t2.1
    refine by_fm Tryd.func11 gen_same ps_same [] φ (sameInv s1 s2 l m h) (fun _ C => (l.length - C.i.getD 0 0).toNat) ⟨[], [], [], [], [s1, s2], [], h, noM⟩ ⟨rfl, rfl, rfl, rfl, rfl, rfl⟩ ones_nil ?_ w hH rfl
    unfold fm_same
    by_cases hn : l.length = m.length
    · simp only [th_ite]
      have hnz : (s1.n : Int) = s2.n := by omega
      simp [go_sem, hnz]
      simp only [then_step]
      refine loop_intro ⟨0, false, rfl, hn, by omega, rfl⟩ ?_
      rintro i bb ss v ll pp hh M ⟨j, y, hC, h2, h3, h4⟩ hM
      cases hC
      have hM' : M 0 = ((l.length : Int) - j).toNat := hM
      by_cases hj : j < l.length
      · obtain ⟨b1, c1, T1, r1, rfl, k1⟩ := t1.slc hj
        obtain ⟨b2, c2, T2, r2, rfl, k2⟩ := t2.slc (hn ▸ hj)
        have hjz : (j : Int) < l.length := by omega
        have hjm : (j : Int) < m.length := by omega
        have q1 := TS.read k1 hj
        have q2 := TS.read k2 (hn ▸ hj)
        rw [← then_step]
        by_cases he : l[j] = m[j]'(hn ▸ hj)
        · have h5 : l.take (j + 1) = m.take (j + 1) := by
            rw [List.take_succ_eq_append_getElem hj, List.take_succ_eq_append_getElem (hn ▸ hj), h4, he]
          iterate 90 (first | (simp only [then_step]; simp [go_sem, hjz, hjm, q1, q2, he]) | skip)
          (repeat' apply And.intro) <;> first | omega | exact ⟨j + 1, y, by simp, hn, by omega, h5⟩
        · have h6 : decide (l = m) = false := by
            rw [decide_eq_false_iff_not]; rintro rfl; exact he rfl
          rw [h6] at hφ
          rw [tok_eq] at he
          generalize l[j] = x at *
          generalize m[j]'(hn ▸ hj) = x' at *
          iterate 90 (first | (simp only [then_step]; simp [go_sem, hjz, hjm, q1, q2]) | skip)
          rw [if_pos (Classical.byContradiction fun hc => he (by simp only [not_or, Classical.not_not] at hc; exact hc))]
          exact hφ
      · have hjz : ¬ ((j : Int) < l.length) := by omega
        have h6 : decide (l = m) = true := by
          rw [decide_eq_true_eq, ← List.take_of_length_le (l := l) (i := j) (by omega), ← List.take_of_length_le (l := m) (i := j) (by omega), h4]
        rw [h6] at hφ
        rw [← then_step]
        iterate 90 (first | (simp only [then_step]; simp [go_sem, hjz, n1, hφ]) | skip)
    · have hnz : ¬ (s1.n : Int) = s2.n := by omega
      have h6 : decide (l = m) = false := by
        rw [decide_eq_false_iff_not]; rintro rfl; exact hn rfl
      rw [h6] at hφ
      rw [← then_step]
      iterate 90 (first | (simp only [then_step]; simp [go_sem, hnz, hφ]) | skip)
end Go.Proofs.YtogalfbemmcaaaaDoor
