/- Tokens, part ZD: places rise, and each token's bytes stand at its place. -/
import Derived.Test.YtogalfbemmcaaaaDoorLexZC
namespace Go.Proofs.YtogalfbemmcaaaaDoor
open Go.RowKit
attribute [local go_sem] says_tt says_ff th_need th_ite th_call th_load th_store th_mk th_new th_mks th_str says_ret says_again says_app BE.den IE.den SE.den LE.den AE.den CE.den PE.den VE.den KV.val Got.den Got.cnt exI allI exL allL Ctx.push Ctx.heap Ctx.cut Ctx.bare Ctx.mark Inc.blank List.getD_cons_zero List.getD_cons_succ List.cons_append List.nil_append List.append_nil List.map_cons List.map_nil List.replicate_zero List.replicate_succ specOf ltB_t leB_t ltB_f leB_f slc_val slc_nil slc_inj pt_val pt_nil hle_noHeap hle_refl hread_set hwrite_set set_same set_set noHeap_at B_inj ones_nil and_assoc
def fm_lplaces : Fm := (.ite (.lt (.c 2000) (.len (.x 0)))
  (.call (.c true) false 8 [] (.p (.one (.b (.x 0)))) ⟨0, 1, 0, 0, 0, 0⟩
  (.ret (.p (.one (.b (.x 0))))))
  (.call (.c true) false 9 [(.one (.s (.x 0)))] (.tup [(.one (.sl (.x 0))), (.agg [(.i .i64 (.x 0)), (.i .i64 (.x 1)), (.i .i64 (.x 2))])]) ⟨3, 0, 0, 0, 1, 0⟩
  (.ite (.not (.eqI (.x 0) (.c 0)))
  (.call (.eqI (.cnt (.x 0)) (.c 0)) false 8 [] (.p (.one (.b (.x 0)))) ⟨0, 1, 0, 0, 0, 0⟩
  (.ret (.p (.one (.b (.and (.eqI (.cnt (.x 0)) (.c 0)) (.x 0)))))))
  (.ite (.eqI (.cnt (.x 0)) (.c 0))
  (.ret (.p (.one (.b (.c false)))))
  (.loop 0 ⟨[(.c 0), (.c 1), (.c 1), (.c 0)], [(.c false)], [], [], [], []⟩
  (.ite (.lt (.x 6) (.cnt (.x 0)))
  (.loop 1 ⟨[(.x 3), (.x 4), (.x 5)], [], [], [], [], []⟩
  (.need (.lt (.x 7) (.len (.x 0))) (.and (.and (.le (.c 0) (.x 6)) (.lt (.x 6) (.cnt (.x 0)))) (.nns (.x 0)))
  (.need (.lt (.x 7) (.len (.x 0))) (.nns (.x 0))
  (.load (.lt (.x 7) (.len (.x 0))) (.el (.x 0) (.x 6) 5 1) 1 [(.i .i64 (.x 10))] ⟨1, 0, 0, 0, 0, 0⟩
  (.need (.and (.lt (.x 7) (.len (.x 0))) (.not (.lt (.x 8) (.x 10)))) (.and (.and (.le (.c 0) (.x 6)) (.lt (.x 6) (.cnt (.x 0)))) (.nns (.x 0)))
  (.need (.and (.lt (.x 7) (.len (.x 0))) (.not (.lt (.x 8) (.x 10)))) (.nns (.x 0))
  (.load (.and (.lt (.x 7) (.len (.x 0))) (.not (.lt (.x 8) (.x 10)))) (.el (.x 0) (.x 6) 5 1) 1 [(.i .i64 (.x 11))] ⟨1, 0, 0, 0, 0, 0⟩
  (.need (.and (.lt (.x 7) (.len (.x 0))) (.and (.not (.lt (.x 8) (.x 10))) (.eqI (.x 8) (.x 11)))) (.and (.and (.le (.c 0) (.x 6)) (.lt (.x 6) (.cnt (.x 0)))) (.nns (.x 0)))
  (.need (.and (.lt (.x 7) (.len (.x 0))) (.and (.not (.lt (.x 8) (.x 10))) (.eqI (.x 8) (.x 11)))) (.nns (.x 0))
  (.load (.and (.lt (.x 7) (.len (.x 0))) (.and (.not (.lt (.x 8) (.x 10))) (.eqI (.x 8) (.x 11)))) (.el (.x 0) (.x 6) 5 2) 1 [(.i .i64 (.x 12))] ⟨1, 0, 0, 0, 0, 0⟩
  (.ite (.and (.lt (.x 7) (.len (.x 0))) (.or (.lt (.x 8) (.x 10)) (.and (.eqI (.x 8) (.x 11)) (.lt (.x 9) (.x 12)))))
  (.need (.c true) (.and (.le (.c (-9223372036854775808)) (.add (.x 9) (.c 1))) (.le (.add (.x 9) (.c 1)) (.c 9223372036854775807)))
  (.need (.c true) (.and (.le (.c 0) (.x 7)) (.lt (.x 7) (.len (.x 0))))
  (.ite (.eqI (.at (.x 0) (.x 7)) (.c 10))
  (.need (.c true) (.and (.le (.c (-9223372036854775808)) (.add (.x 8) (.c 1))) (.le (.add (.x 8) (.c 1)) (.c 9223372036854775807)))
  (.need (.c true) (.and (.le (.c (-9223372036854775808)) (.add (.x 7) (.c 1))) (.le (.add (.x 7) (.c 1)) (.c 9223372036854775807)))
  (.again 1 ⟨7, 1, 1, 0, 1, 0⟩ ⟨10, 1, 1, 0, 1, 0⟩ ⟨[(.add (.x 7) (.c 1)), (.add (.x 8) (.c 1)), (.c 1)], [], [], [], [], []⟩)))
  (.need (.c true) (.and (.le (.c (-9223372036854775808)) (.add (.x 7) (.c 1))) (.le (.add (.x 7) (.c 1)) (.c 9223372036854775807)))
  (.again 1 ⟨7, 1, 1, 0, 1, 0⟩ ⟨10, 1, 1, 0, 1, 0⟩ ⟨[(.add (.x 7) (.c 1)), (.x 8), (.add (.x 9) (.c 1))], [], [], [], [], []⟩)))))
  (.need (.c true) (.and (.and (.le (.c 0) (.x 6)) (.lt (.x 6) (.cnt (.x 0)))) (.nns (.x 0)))
  (.need (.c true) (.nns (.x 0))
  (.load (.c true) (.el (.x 0) (.x 6) 5 1) 1 [(.i .i64 (.x 13))] ⟨1, 0, 0, 0, 0, 0⟩
  (.need (.eqI (.x 8) (.x 13)) (.and (.and (.le (.c 0) (.x 6)) (.lt (.x 6) (.cnt (.x 0)))) (.nns (.x 0)))
  (.need (.eqI (.x 8) (.x 13)) (.nns (.x 0))
  (.load (.eqI (.x 8) (.x 13)) (.el (.x 0) (.x 6) 5 2) 1 [(.i .i64 (.x 14))] ⟨1, 0, 0, 0, 0, 0⟩
  (.need (.not (.or (.not (.eqI (.x 8) (.x 13))) (.not (.eqI (.x 9) (.x 14))))) (.and (.le (.c (-9223372036854775808)) (.sub (.cnt (.x 0)) (.c 1))) (.le (.sub (.cnt (.x 0)) (.c 1)) (.c 9223372036854775807)))
  (.need (.not (.or (.not (.eqI (.x 8) (.x 13))) (.not (.eqI (.x 9) (.x 14))))) (.and (.and (.le (.c 0) (.x 6)) (.lt (.x 6) (.cnt (.x 0)))) (.nns (.x 0)))
  (.need (.not (.or (.not (.eqI (.x 8) (.x 13))) (.not (.eqI (.x 9) (.x 14))))) (.nns (.x 0))
  (.load (.not (.or (.not (.eqI (.x 8) (.x 13))) (.not (.eqI (.x 9) (.x 14))))) (.el (.x 0) (.x 6) 5 0) 1 [(.i .u8 (.x 15))] ⟨1, 0, 0, 0, 0, 0⟩
  (.ite (.or (.or (.not (.eqI (.x 8) (.x 13))) (.not (.eqI (.x 9) (.x 14)))) (.not (.eqB (.eqI (.x 6) (.sub (.cnt (.x 0)) (.c 1))) (.eqI (.x 15) (.c 8)))))
  (.ret (.p (.one (.b (.c false)))))
  (.need (.c true) (.and (.and (.le (.c 0) (.x 6)) (.lt (.x 6) (.cnt (.x 0)))) (.nns (.x 0)))
  (.need (.c true) (.nns (.x 0))
  (.load (.c true) (.el (.x 0) (.x 6) 5 0) 1 [(.i .u8 (.x 16))] ⟨1, 0, 0, 0, 0, 0⟩
  (.ite (.eqI (.x 16) (.c 8))
  (.call (.eqI (.x 7) (.len (.x 0))) false 8 [] (.p (.one (.b (.x 1)))) ⟨0, 1, 0, 0, 0, 0⟩
  (.ret (.p (.one (.b (.and (.eqI (.x 7) (.len (.x 0))) (.x 1)))))))
  (.call (.c true) false 13 [(.one (.s (.x 0))), (.one (.i .i64 (.x 7)))] (.tup [(.agg [(.i .u8 (.x 17)), (.i .i64 (.x 18)), (.i .i64 (.x 19)), (.i .i64 (.x 20)), (.s (.x 1))]), (.one (.i .i64 (.x 21))), (.one (.i .i64 (.x 22)))]) ⟨6, 0, 1, 0, 0, 0⟩
  (.load (.eqI (.x 22) (.c 0)) (.el (.x 0) (.x 6) 5 0) 1 [(.i .u8 (.x 23))] ⟨1, 0, 0, 0, 0, 0⟩
  (.load (.not (.or (.not (.eqI (.x 22) (.c 0))) (.not (.eqI (.x 17) (.x 23))))) (.el (.x 0) (.x 6) 5 4) 1 [(.s (.x 2))] ⟨0, 0, 1, 0, 0, 0⟩
  (.load (.not (.or (.or (.not (.eqI (.x 22) (.c 0))) (.not (.eqI (.x 17) (.x 23)))) (.not (.eqS (.x 1) (.x 2))))) (.el (.x 0) (.x 6) 5 3) 1 [(.i .i64 (.x 24))] ⟨1, 0, 0, 0, 0, 0⟩
  (.need (.eqI (.x 22) (.c 0)) (.and (.and (.le (.c 0) (.x 6)) (.lt (.x 6) (.cnt (.x 0)))) (.nns (.x 0)))
  (.need (.eqI (.x 22) (.c 0)) (.nns (.x 0))
  (.need (.not (.or (.not (.eqI (.x 22) (.c 0))) (.not (.eqI (.x 17) (.x 23))))) (.and (.and (.le (.c 0) (.x 6)) (.lt (.x 6) (.cnt (.x 0)))) (.nns (.x 0)))
  (.need (.not (.or (.not (.eqI (.x 22) (.c 0))) (.not (.eqI (.x 17) (.x 23))))) (.nns (.x 0))
  (.need (.not (.or (.or (.not (.eqI (.x 22) (.c 0))) (.not (.eqI (.x 17) (.x 23)))) (.not (.eqS (.x 1) (.x 2))))) (.and (.and (.le (.c 0) (.x 6)) (.lt (.x 6) (.cnt (.x 0)))) (.nns (.x 0)))
  (.need (.not (.or (.or (.not (.eqI (.x 22) (.c 0))) (.not (.eqI (.x 17) (.x 23)))) (.not (.eqS (.x 1) (.x 2))))) (.nns (.x 0))
  (.ite (.or (.or (.or (.not (.eqI (.x 22) (.c 0))) (.not (.eqI (.x 17) (.x 23)))) (.not (.eqS (.x 1) (.x 2)))) (.not (.eqI (.x 20) (.x 24))))
  (.ret (.p (.one (.b (.c false)))))
  (.need (.c true) (.and (.le (.c (-9223372036854775808)) (.add (.x 6) (.c 1))) (.le (.add (.x 6) (.c 1)) (.c 9223372036854775807)))
  (.again 0 ⟨3, 0, 1, 0, 1, 0⟩ ⟨7, 1, 1, 0, 1, 0⟩ ⟨[(.x 7), (.x 8), (.x 9), (.add (.x 6) (.c 1))], [(.x 0)], [], [], [], []⟩)))))))))))))))))))))))))))))))))))))))
  (.ret (.p (.one (.b (.c false)))))))))))
theorem gen_lplaces : genFn ⟨true, []⟩ Tryd.prog (fun l => ([⟨[7, 6, 5, 2, 8], [33, 34, 35, 36, 39, 40, 41, 42, 43, 44, 45, 46, 47, 48, 49, 50, 51, 52, 53, 54, 55, 56, 57, 58, 59, 60, 61, 62, 63, 64, 65, 66, 67, 68, 69, 70, 71, 72, 73, 74, 75, 76, 77, 78, 79, 80, 81, 82, 83, 84, 85, 86, 87, 88, 89, 90, 91, 92, 93, 94, 95, 96, 97, 98, 99, 100, 101, 102, 103, 104, 105, 106, 107, 108, 109, 110, 111, 112, 113, 114, 115, 116, 117, 118, 119, 120, 121, 122, 124, 125, 126, 123, 127, 128, 129, 9, 10, 11, 130, 131, 132, 133, 134, 135, 136, 137, 138, 139, 140, 141, 142, 143, 144, 145, 146, 147, 148, 149, 150, 151, 152, 153, 154, 155, 156, 157, 158, 159, 160, 161, 37, 38], [9]⟩, ⟨[7, 6, 5], [39, 40, 41, 42, 43, 44, 45, 46, 47, 48, 49, 50, 51, 52, 53, 54, 55, 56, 57, 58, 59, 60, 61, 62, 63, 64, 65, 66, 67, 68, 69, 70, 71, 72, 73, 74, 75, 76, 77, 78, 79], []⟩] : List LAnn).getD l ⟨[], [], []⟩) Tryd.f6 = fm_lplaces := by kernel_rfl
theorem ps_lplaces : freshPs Tryd.prog .zero Tryd.f6.params.toList = some ([(.one (.s (.x 0)))], ⟨0, 0, 1, 0, 0, 0⟩) := by kernel_rfl
/-- Tokens, as they stand from a place on. -/
def Pls (s : List UInt8) : Nat → List Tok → Prop
  | _, [] => False
  | i, t :: l => i + ski false s i ≤ s.length ∧ (t.l, t.c) = pl s (i + ski false s i) ∧
    ((i + ski false s i = s.length ∧ t.k = 8 ∧ l = []) ∨
      (i + ski false s i < s.length ∧ (one s (i + ski false s i)).f = 0 ∧ t.k = (one s (i + ski false s i)).k ∧ t.n = (one s (i + ski false s i)).n ∧ t.x = (one s (i + ski false s i)).x ∧ t.k ≠ 8 ∧ l ≠ [] ∧ Pls s (one s (i + ski false s i)).e l))
theorem nfin_k {k most : Int} {d : List UInt8} {e : Nat} (h : (nfin k most d e).1 = 0) : (nfin k most d e).2.1 = k := by
  unfold nfin at h ⊢
  split
  · rfl
  · rename_i h1; rw [if_neg h1] at h; exact absurd h (by decide)
theorem one_k {s : List UInt8} {i : Nat} (h : (one s i).f = 0) : (one s i).k ≠ 8 := by
  unfold one at h ⊢
  split
  · simp only; unfold nameK; split
    · decide
    · split <;> decide
  · rename_i h1
    rw [if_neg h1] at h
    split
    · rename_i h2
      rw [if_pos h2] at h
      simp only at h ⊢
      unfold nm at h ⊢
      split
      · rename_i h3; rw [if_pos h3] at h; rw [nfin_k h]; decide
      · rename_i h3
        rw [if_neg h3] at h
        split
        · rename_i h4; rw [if_pos h4] at h; rw [nfin_k h]; decide
        · rename_i h4; rw [if_neg h4] at h; exact absurd h (by decide)
    · rename_i h2
      rw [if_neg h2] at h
      split
      · rename_i h3
        rw [if_pos h3] at h
        cases hq : rdq (s.drop i) with
        | none => rw [hq] at h; simp at h
        | some r => simp
      · rename_i h3
        rw [if_neg h3] at h
        split
        · rename_i h4; rw [if_pos h4] at h; simp at h
        · simp
theorem lexA_pls : ∀ (m : Nat) (s : List UInt8) (i : Nat) (acc : List Tok), i ≤ s.length → s.length < m + i → (lexA m s i (pl s i) acc).1.1 = 0 → ∃ l, (lexA m s i (pl s i) acc).2 = acc ++ l ∧ Pls s i l
  | 0, s, i, acc, hi, hm, _ => by omega
  | m + 1, s, i, acc, hi, hm, h => by
    have hj := ski_le (s := s) (i := i) false hi
    rw [lexA] at h ⊢
    rw [pl_add (Nat.le_add_right i _) hj] at h ⊢
    split
    · rename_i h1
      exact ⟨[_], rfl, hj, rfl, .inl ⟨by omega, rfl, rfl⟩⟩
    · rename_i h1
      rw [if_neg h1] at h
      split
      · rename_i h2
        rw [if_pos h2] at h
        obtain ⟨o1, o2, _⟩ := one_ok (by omega) h2
        rw [pl_add (by omega) o2] at h ⊢
        obtain ⟨l, hl, hp⟩ := lexA_pls m s _ _ o2 (by omega) h
        refine ⟨_ :: l, by rw [hl]; simp; rfl, hj, rfl, .inr ⟨by omega, h2, rfl, rfl, rfl, one_k h2, ?_, hp⟩⟩
        rintro rfl
        exact hp
      · rename_i h2
        rw [if_neg h2] at h
        exact absurd h h2
theorem pl_step {s : List UInt8} {j : Nat} (hj : j < s.length) : pl s (j + 1) = ad (pl s j) (bt s j) := by
  unfold pl; exact adv_snoc (1, 1) s (Nat.zero_le j) hj
theorem pl_lt {s : List UInt8} {p : Nat} : ∀ {j : Nat}, p < j → j ≤ s.length → (pl s p).1 < (pl s j).1 ∨ ((pl s p).1 = (pl s j).1 ∧ (pl s p).2 < (pl s j).2)
  | 0, h, _ => by omega
  | j + 1, h, hj => by
    rw [pl_step (by omega)]
    have hs : (pl s j).1 < (ad (pl s j) (bt s j)).1 ∨ ((pl s j).1 = (ad (pl s j) (bt s j)).1 ∧ (pl s j).2 < (ad (pl s j) (bt s j)).2) := by
      unfold ad; split
      · left; simp; omega
      · right; simp; omega
    by_cases e : p = j
    · subst e; exact hs
    · have := pl_lt (s := s) (p := p) (j := j) (by omega) (by omega)
      omega
theorem hread_sub {h : Hp} {b o n : Nat} {cs : List Value} (hr : hread h (some (b, o)) n = some cs) {k m : Nat} (hk : k + m ≤ n) : hread h (some (b, o + k)) m = some ((cs.drop k).take m) := by
  unfold hread at hr ⊢
  simp only at hr ⊢
  cases hb : h b with
  | none => rw [hb] at hr; cases hr
  | some x =>
    rw [hb] at hr
    simp only at hr ⊢
    split at hr
    · rename_i hle
      cases hr
      rw [if_pos (by omega), List.drop_take, List.take_take, List.drop_drop, Nat.min_eq_left (by omega)]
    · cases hr
end Go.Proofs.YtogalfbemmcaaaaDoor
