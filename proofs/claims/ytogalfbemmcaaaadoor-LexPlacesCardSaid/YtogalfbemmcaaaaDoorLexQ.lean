/- Tokens, part Q: texts without literals; the document's examples; the words. -/
import Derived.Test.YtogalfbemmcaaaaDoorLexO
import Derived.Test.YtogalfbemmcaaaaDoorLexP
namespace Go.Proofs.YtogalfbemmcaaaaDoor
open Go.RowKit
attribute [local go_sem] says_tt says_ff th_need th_ite th_call th_load th_store th_mk th_new th_mks th_str says_ret says_again says_app BE.den IE.den SE.den LE.den AE.den CE.den PE.den VE.den KV.val Got.den Got.cnt exI allI exL allL Ctx.push Ctx.heap Ctx.cut Ctx.bare Ctx.mark Inc.blank List.getD_cons_zero List.getD_cons_succ List.cons_append List.nil_append List.append_nil List.map_cons List.map_nil List.replicate_zero List.replicate_succ specOf ltB_t leB_t ltB_f leB_f slc_val slc_nil slc_inj pt_val pt_nil hle_noHeap hle_refl hread_set hwrite_set set_same set_set noHeap_at B_inj ones_nil and_assoc
def fm_awake : Fm := (.call (.c true) false 9 [(.one (.s (.c [120, 49, 32, 60, 61, 32, 51, 105, 32, 35, 32, 110, 111, 116, 101])))] (.tup [(.one (.sl (.x 0))), (.agg [(.i .i64 (.x 0)), (.i .i64 (.x 1)), (.i .i64 (.x 2))])]) ⟨3, 0, 0, 0, 1, 0⟩
  (.call (.c true) false 9 [(.one (.s (.c [49, 50, 97])))] (.tup [(.one (.sl (.x 1))), (.agg [(.i .i64 (.x 3)), (.i .i64 (.x 4)), (.i .i64 (.x 5))])]) ⟨3, 0, 0, 0, 1, 0⟩
  (.mk [(.i .u8 (.c 1)), (.i .i64 (.c 1)), (.i .i64 (.c 1)), (.i .i64 (.c 0)), (.s (.c [120, 49])), (.i .u8 (.c 7)), (.i .i64 (.c 1)), (.i .i64 (.c 4)), (.i .i64 (.c 0)), (.s (.c [60, 61])), (.i .u8 (.c 4)), (.i .i64 (.c 1)), (.i .i64 (.c 7)), (.i .i64 (.c 3)), (.s (.c [])), (.i .u8 (.c 8)), (.i .i64 (.c 1)), (.i .i64 (.c 16)), (.i .i64 (.c 0)), (.s (.c []))] 33 4
  (.call (.eqI (.x 0) (.c 0)) false 11 [(.one (.sl (.x 0))), (.one (.sl (.x 2)))] (.p (.one (.b (.x 0)))) ⟨0, 1, 0, 0, 0, 0⟩
  (.ret (.p (.one (.b (.and (.and (.eqI (.x 0) (.c 0)) (.x 0)) (.and (.eqI (.x 3) (.c 4)) (.and (.eqI (.x 4) (.c 1)) (.eqI (.x 5) (.c 1)))))))))))))
theorem gen_awake : genFn ⟨true, []⟩ Tryd.prog (fun l => ([] : List LAnn).getD l ⟨[], [], []⟩) Tryd.f8 = fm_awake := by kernel_rfl
theorem ps_awake : freshPs Tryd.prog .zero Tryd.f8.params.toList = some ([], ⟨0, 0, 0, 0, 0, 0⟩) := by kernel_rfl
def fm_lwords : Fm := (.call (.lt (.c 100) (.len (.x 0))) false 8 [] (.p (.one (.b (.x 0)))) ⟨0, 1, 0, 0, 0, 0⟩
  (.call (.not (.and (.lt (.c 100) (.len (.x 0))) (.x 0))) false 14 [(.one (.s (.x 0)))] (.p (.one (.b (.x 1)))) ⟨0, 1, 0, 0, 0, 0⟩
  (.call (.not (.and (.lt (.c 100) (.len (.x 0))) (.x 0))) false 15 [(.one (.s (.x 0)))] (.p (.one (.b (.x 2)))) ⟨0, 1, 0, 0, 0, 0⟩
  (.call (.and (.not (.and (.lt (.c 100) (.len (.x 0))) (.x 0))) (.eqB (.x 1) (.x 2))) false 8 [] (.p (.one (.b (.x 3)))) ⟨0, 1, 0, 0, 0, 0⟩
  (.ret (.p (.one (.b (.or (.and (.lt (.c 100) (.len (.x 0))) (.x 0)) (.and (.eqB (.x 1) (.x 2)) (.x 3)))))))))))
theorem gen_lwords : genFn ⟨true, []⟩ Tryd.prog (fun l => ([] : List LAnn).getD l ⟨[], [], []⟩) Tryd.f7 = fm_lwords := by kernel_rfl
theorem ps_lwords : freshPs Tryd.prog .zero Tryd.f7.params.toList = some ([(.one (.s (.x 0)))], ⟨0, 0, 1, 0, 0, 0⟩) := by kernel_rfl
def ctNoLit : Ct Tryd.prog where
  f := 22
  spec := fun _ _ _ => False
  ok := fun _ _ _ _ h => h.elim
/-- Tokens of a text without literals. -/
def ctTokN : Ct Tryd.prog where
  f := 9
  spec := fun args h φ => ∃ s, args = [.string (B s)] ∧ (∀ c ∈ s, c ≠ 34) ∧
    (if 65536 < s.length then φ (.tuple #[.slice none 0 0, .agg #[.int .i64 3, .int .i64 0, .int .i64 0]]) h
      else if (lexAll s).1.1 = 0 then ∀ sl k, HLe h k → OwnS k sl (tcs (lexAll s).2) TK 5 → sl.n = (lexAll s).2.length → φ (.tuple #[sl.val, .agg #[.int .i64 0, .int .i64 0, .int .i64 0]]) k
      else φ (.tuple #[.slice none 0 0, .agg #[.int .i64 (lexAll s).1.1, .int .i64 (lexAll s).1.2.1, .int .i64 (lexAll s).1.2.2]]) h)
  ok := by
    rintro args h φ w ⟨s, rfl, hg, hφ⟩ hH
    refine tokens_ok ctNoLit rfl (fun s => ∀ c ∈ s, c ≠ 34) ?_ s hg h φ w hφ hH
    intro b k l c n x s a L Co T h φ hg _ ha h34
    exfalso
    rw [bt_eq s a ha] at h34
    have h35 : s[a].toNat = 34 := by omega
    exact hg s[a] (List.getElem_mem ha) (UInt8.toNat_inj.1 (by simpa using h35))
def T1 : List Tok := [⟨1, 1, 1, 0, [120, 49]⟩, ⟨7, 1, 4, 0, [60, 61]⟩, ⟨4, 1, 7, 3, []⟩, ⟨8, 1, 16, 0, []⟩]
theorem lex1 : lexAll [120, 49, 32, 60, 61, 32, 51, 105, 32, 35, 32, 110, 111, 116, 101] = ((0, 0, 0), T1) := by decide +kernel
theorem lex2 : lexAll [49, 50, 97] = ((4, 1, 1), []) := by decide +kernel
set_option maxRecDepth 100000 in
def ctAwake : Ct Tryd.prog where
  f := 8
  spec := fun args h φ => args = [] ∧ φ (.bool true) h
  ok := by
    rintro args h φ w ⟨rfl, hφ⟩ hH
    refine ct_forget (by_fm Tryd.func8 gen_awake ps_awake [ctTokN, ctSame] (fun v k => ∃ k', HLe k' k ∧ φ v k') noInv noMeas ⟨[], [], [], [], [], [], h, noM⟩ ⟨rfl, rfl, rfl, rfl, rfl, rfl⟩ ones_nil ?_ w hH rfl)
    generalize hE : (⟨specOf _, _, _, _⟩ : Env) = E
    have s1 : E.spec 9 = ctTokN.spec := by rw [← hE]; rfl
    have s2 : E.spec 11 = ctSame.spec := by rw [← hE]; rfl
    have ep : E.post = fun v k => ∃ k', HLe k' k ∧ φ v k' := by rw [← hE]
    clear hE
    unfold fm_awake
    rw [th_call, if_pos (by rfl), s1]
    refine ⟨[120, 49, 32, 60, 61, 32, 51, 105, 32, 35, 32, 110, 111, 116, 101], rfl, by decide, ?_⟩
    rw [if_neg (by decide), lex1, if_pos rfl]
    intro sl k hle hown hn
    simp [go_sem]
    rw [then_step, th_call, if_pos (by rfl), s1]
    refine ⟨[49, 50, 97], rfl, by decide, ?_⟩
    rw [if_neg (by decide), lex2, if_neg (by decide)]
    simp [go_sem]
    simp only [then_step, th_mk]
    intro b hb
    rw [th_call, if_pos (by rfl), s2]
    refine ⟨sl, ⟨some (b, 0), 4, 4⟩, T1, T1, rfl, (TS.of_own hown hn).le (hle_set hb _), ⟨rfl, .inr ⟨b, 4, TK, [], rfl, set_same _ _ _⟩⟩, by decide, ?_⟩
    simp [go_sem]
    simp only [then_step]
    simp [go_sem, ep]
    exact ⟨h, fun c o hc => hle_set hb _ c o (hle c o hc), hφ⟩
theorem law_words_l (s : List UInt8) (w : World) : Calls Tryd.prog 7 #[.string (B s)] w fun e w' => e = .returned (.bool true) ∧ Below w.heap.size w w' := by
  refine by_fm0 Tryd.func7 gen_lwords ps_lwords [ctAwake, ctWord, ctRWord] _ noInv noMeas ⟨[], [], [s], [], [], [], noHeap, noM⟩ rfl ⟨rfl, rfl, rfl, rfl, rfl, rfl⟩ ones_nil ?_ w rfl
  rw [← then_step]; unfold fm_lwords
  by_cases h1 : (100 : Int) < s.length
  · iterate 90 (first | (simp only [then_step]; simp [go_sem, h1, ctAwake, ctWord, ctRWord]) | skip)
  · iterate 90 (first | (simp only [then_step]; simp [go_sem, h1, ctAwake, ctWord, ctRWord]) | skip)
theorem law_words (s : ByteArray) (w : World) : Calls Tryd.prog 7 #[.string s] w fun e w' => e = .returned (.bool true) ∧ Below w.heap.size w w' := by
  rw [string_B s]; exact law_words_l _ w
end Go.Proofs.YtogalfbemmcaaaaDoor
