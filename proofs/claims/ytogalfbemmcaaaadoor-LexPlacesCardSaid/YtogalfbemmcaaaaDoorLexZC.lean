/- Tokens, part ZC: the tokens of whatever text are the document's. -/
import Derived.Test.YtogalfbemmcaaaaDoorLexZB
import Derived.Test.YtogalfbemmcaaaaDoorLexV
namespace Go.Proofs.YtogalfbemmcaaaaDoor
open Go.RowKit
attribute [local go_sem] says_tt says_ff th_need th_ite th_call th_load th_store th_mk th_new th_mks th_str says_ret says_again says_app BE.den IE.den SE.den LE.den AE.den CE.den PE.den VE.den KV.val Got.den Got.cnt exI allI exL allL Ctx.push Ctx.heap Ctx.cut Ctx.bare Ctx.mark Inc.blank List.getD_cons_zero List.getD_cons_succ List.cons_append List.nil_append List.append_nil List.map_cons List.map_nil List.replicate_zero List.replicate_succ specOf ltB_t leB_t ltB_f leB_f slc_val slc_nil slc_inj pt_val pt_nil hle_noHeap hle_refl hread_set hwrite_set set_same set_set noHeap_at B_inj ones_nil and_assoc
def fm_ltokens : Fm := (.ite (.lt (.c 3000) (.len (.x 0)))
  (.call (.c true) false 8 [] (.p (.one (.b (.x 0)))) ⟨0, 1, 0, 0, 0, 0⟩
  (.ret (.p (.one (.b (.x 0))))))
  (.call (.c true) false 9 [(.one (.s (.x 0)))] (.tup [(.one (.sl (.x 0))), (.agg [(.i .i64 (.x 0)), (.i .i64 (.x 1)), (.i .i64 (.x 2))])]) ⟨3, 0, 0, 0, 1, 0⟩
  (.call (.c true) false 10 [(.one (.s (.x 0)))] (.tup [(.one (.sl (.x 1))), (.agg [(.i .i64 (.x 3)), (.i .i64 (.x 4)), (.i .i64 (.x 5))])]) ⟨3, 0, 0, 0, 1, 0⟩
  (.call (.c true) false 11 [(.one (.sl (.x 0))), (.one (.sl (.x 1)))] (.p (.one (.b (.x 0)))) ⟨0, 1, 0, 0, 0, 0⟩
  (.call (.and (.x 0) (.and (.eqI (.x 0) (.x 3)) (.and (.eqI (.x 1) (.x 4)) (.eqI (.x 2) (.x 5))))) false 8 [] (.p (.one (.b (.x 1)))) ⟨0, 1, 0, 0, 0, 0⟩
  (.ret (.p (.one (.b (.and (.and (.x 0) (.and (.eqI (.x 0) (.x 3)) (.and (.eqI (.x 1) (.x 4)) (.eqI (.x 2) (.x 5))))) (.x 1)))))))))))
theorem gen_ltokens : genFn ⟨true, []⟩ Tryd.prog (fun l => ([] : List LAnn).getD l ⟨[], [], []⟩) Tryd.f3 = fm_ltokens := by kernel_rfl
theorem ps_ltokens : freshPs Tryd.prog .zero Tryd.f3.params.toList = some ([(.one (.s (.x 0)))], ⟨0, 0, 1, 0, 0, 0⟩) := by kernel_rfl
theorem TS.nil {h : Hp} {sl : Slc} (hn : sl.n = 0) : TS h sl [] := ⟨hn, .inl rfl⟩
theorem lexA_len : ∀ (m : Nat) (s : List UInt8) (i : Nat) (p : Int × Int) (acc : List Tok), (lexA m s i p acc).2.length ≤ acc.length + m
  | 0, _, _, _, _ => Nat.le_refl _
  | m + 1, s, i, p, acc => by
    rw [lexA]
    split
    · simp
    · split
      · refine Nat.le_trans (lexA_len m _ _ _ _) ?_
        simp; omega
      · simp
set_option maxHeartbeats 2000000 in
theorem law_tokens_l (s : List UInt8) (w : World) : Calls Tryd.prog 3 #[.string (B s)] w fun e w' => e = .returned (.bool true) ∧ Below w.heap.size w w' := by
  refine by_fm0 Tryd.func3 gen_ltokens ps_ltokens [ctAwake, ctTokens, ctRTokens, ctSame] _ noInv noMeas ⟨[], [], [s], [], [], [], noHeap, noM⟩ rfl ⟨rfl, rfl, rfl, rfl, rfl, rfl⟩ ones_nil ?_ w rfl
  generalize hE : (⟨specOf _, _, _, _⟩ : Env) = E
  have s1 : E.spec 8 = ctAwake.spec := by rw [← hE]; rfl
  have s2 : E.spec 9 = ctTokens.spec := by rw [← hE]; rfl
  have s3 : E.spec 10 = ctRTokens.spec := by rw [← hE]; rfl
  have s4 : E.spec 11 = ctSame.spec := by rw [← hE]; rfl
  have ep : E.post = fun v _ => v = .bool true := by rw [← hE]
  clear hE
  unfold fm_ltokens
  rw [th_ite]
  by_cases hl : 3000 < s.length
  · rw [if_pos (by simp [go_sem]; omega), then_step]
    rw [th_call, if_pos (by rfl), s1]
    refine ⟨rfl, (fun h => by cases h), ?_⟩
    simp [go_sem]
    simp only [then_step]; simp [go_sem, ep]
  rw [if_neg (by simp [go_sem]; omega), then_step]
  -- behind the two
  have fin : ∀ {s' s'' : Slc} {k : Hp} {a b c : Int} {l : List Tok}, TS k s' l → TS k s'' l → l.length ≤ 1000000 → (fm_ltokens.e.k.k).says E ⟨[a, b, c, a, b, c], [], [s], [], [s', s''], [], k, noM⟩ := by
    intro s' s'' k a b c l t1 t2 hlen
    simp only [fm_ltokens, Fm.k, Fm.e]
    rw [th_call, if_pos (by rfl), s4]
    refine ⟨s', s'', l, l, rfl, t1, t2, hlen, (fun h => by cases h), ?_⟩
    simp [go_sem]
    iterate 2 (try simp only [then_step]; try simp [go_sem, ep, s1, ctAwake])
  rw [th_call, if_pos (by rfl), s2]
  refine ⟨s, rfl, ?_⟩
  rw [if_neg (by omega)]
  by_cases hf : (lexAll s).1.1 = 0
  · rw [if_pos hf]
    intro sl k hle hown hn
    refine ⟨(fun h => by cases h), ?_⟩
    simp [go_sem]
    rw [then_step, th_call, if_pos (by rfl), s3]
    refine ⟨s, rfl, by omega, ?_⟩
    rw [if_neg (by omega), if_pos hf]
    intro sl2 k2 hle2 ht2
    refine ⟨(fun h => by cases h), ?_⟩
    simp [go_sem]
    have hlen : (lexAll s).2.length ≤ 1000000 := by
      have := lexA_len (s.length + 1) s 0 (1, 1) []
      unfold lexAll; simp at this; omega
    exact fin ((TS.of_own hown hn).le hle2) ht2 hlen
  · rw [if_neg hf]
    refine ⟨(fun h => by cases h), ?_⟩
    simp [go_sem]
    rw [then_step, th_call, if_pos (by rfl), s3]
    refine ⟨s, rfl, by omega, ?_⟩
    rw [if_neg (by omega), if_neg hf]
    intro sl2 hn2
    refine ⟨(fun h => by cases h), ?_⟩
    simp [go_sem]
    exact fin (TS.nil rfl) (TS.nil hn2) (by simp)
theorem law_tokens (s : ByteArray) (w : World) : Calls Tryd.prog 3 #[.string s] w fun e w' => e = .returned (.bool true) ∧ Below w.heap.size w w' := by
  rw [string_B s]; exact law_tokens_l _ w
end Go.Proofs.YtogalfbemmcaaaaDoor
