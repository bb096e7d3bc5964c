/- Tokens, part R: texts that are as long as may be, and longer. -/
import Derived.Test.YtogalfbemmcaaaaDoorLexQ
namespace Go.Proofs.YtogalfbemmcaaaaDoor
open Go.RowKit
attribute [local go_sem] says_tt says_ff th_need th_ite th_call th_load th_store th_mk th_new th_mks th_str says_ret says_again says_app BE.den IE.den SE.den LE.den AE.den CE.den PE.den VE.den KV.val Got.den Got.cnt exI allI exL allL Ctx.push Ctx.heap Ctx.cut Ctx.bare Ctx.mark Inc.blank List.getD_cons_zero List.getD_cons_succ List.cons_append List.nil_append List.append_nil List.map_cons List.map_nil List.replicate_zero List.replicate_succ specOf ltB_t leB_t ltB_f leB_f slc_val slc_nil slc_inj pt_val pt_nil hle_noHeap hle_refl hread_set hwrite_set set_same set_set noHeap_at B_inj ones_nil and_assoc
def fm_llong : Fm := (.need (.c true) (.and (.le (.c (-9223372036854775808)) (.add (.c 65536) (.wr .i64 (.x 0)))) (.le (.add (.c 65536) (.wr .i64 (.x 0))) (.c 9223372036854775807)))
  (.mks (.add (.c 65536) (.wr .i64 (.x 0))) (.i .u8 (.c 0)) 5
  (.loop 0 ⟨[(.c 0)], [], [], [], [], []⟩
  (.ite (.lt (.x 1) (.cnt (.x 0)))
  (.need (.c true) (.and (.and (.le (.c 0) (.x 1)) (.lt (.x 1) (.cnt (.x 0)))) (.nns (.x 0)))
  (.store (.el (.x 0) (.x 1) 1 0) [(.i .u8 (.c 32))]
  (.need (.c true) (.and (.le (.c (-9223372036854775808)) (.add (.x 1) (.c 1))) (.le (.add (.x 1) (.c 1)) (.c 9223372036854775807)))
  (.again 0 ⟨1, 0, 0, 0, 1, 0⟩ ⟨2, 0, 0, 0, 1, 0⟩ ⟨[(.add (.x 1) (.c 1))], [], [], [], [], []⟩))))
  (.str (.x 0)
  (.call (.c true) false 9 [(.one (.s (.x 0)))] (.tup [(.one (.sl (.x 1))), (.agg [(.i .i64 (.x 2)), (.i .i64 (.x 3)), (.i .i64 (.x 4))])]) ⟨3, 0, 0, 0, 1, 0⟩
  (.ite (.lt (.c 0) (.x 0))
  (.call (.and (.eqI (.cnt (.x 1)) (.c 0)) (.and (.eqI (.x 2) (.c 3)) (.and (.eqI (.x 3) (.c 0)) (.eqI (.x 4) (.c 0))))) false 8 [] (.p (.one (.b (.x 0)))) ⟨0, 1, 0, 0, 0, 0⟩
  (.ret (.p (.one (.b (.and (.and (.eqI (.cnt (.x 1)) (.c 0)) (.and (.eqI (.x 2) (.c 3)) (.and (.eqI (.x 3) (.c 0)) (.eqI (.x 4) (.c 0))))) (.x 0)))))))
  (.need (.and (.eqI (.cnt (.x 1)) (.c 1)) (.eqI (.x 2) (.c 0))) (.and (.and (.le (.c 0) (.c 0)) (.lt (.c 0) (.cnt (.x 1)))) (.nns (.x 1)))
  (.need (.and (.eqI (.cnt (.x 1)) (.c 1)) (.eqI (.x 2) (.c 0))) (.nns (.x 1))
  (.load (.and (.eqI (.cnt (.x 1)) (.c 1)) (.eqI (.x 2) (.c 0))) (.el (.x 1) (.c 0) 5 0) 1 [(.i .u8 (.x 5))] ⟨1, 0, 0, 0, 0, 0⟩
  (.need (.and (.and (.eqI (.cnt (.x 1)) (.c 1)) (.eqI (.x 2) (.c 0))) (.eqI (.x 5) (.c 8))) (.and (.and (.le (.c 0) (.c 0)) (.lt (.c 0) (.cnt (.x 1)))) (.nns (.x 1)))
  (.need (.and (.and (.eqI (.cnt (.x 1)) (.c 1)) (.eqI (.x 2) (.c 0))) (.eqI (.x 5) (.c 8))) (.nns (.x 1))
  (.load (.and (.and (.eqI (.cnt (.x 1)) (.c 1)) (.eqI (.x 2) (.c 0))) (.eqI (.x 5) (.c 8))) (.el (.x 1) (.c 0) 5 2) 1 [(.i .i64 (.x 6))] ⟨1, 0, 0, 0, 0, 0⟩
  (.call (.and (.and (.and (.eqI (.cnt (.x 1)) (.c 1)) (.eqI (.x 2) (.c 0))) (.eqI (.x 5) (.c 8))) (.eqI (.x 6) (.c 65537))) false 8 [] (.p (.one (.b (.x 0)))) ⟨0, 1, 0, 0, 0, 0⟩
  (.ret (.p (.one (.b (.and (.and (.and (.and (.eqI (.cnt (.x 1)) (.c 1)) (.eqI (.x 2) (.c 0))) (.eqI (.x 5) (.c 8))) (.eqI (.x 6) (.c 65537))) (.x 0))))))))))))))))))))
theorem gen_llong : genFn ⟨true, []⟩ Tryd.prog (fun l => ([⟨[13], [14, 15, 4, 16, 17, 18, 19], [10]⟩] : List LAnn).getD l ⟨[], [], []⟩) Tryd.f4 = fm_llong := by kernel_rfl
theorem ps_llong : freshPs Tryd.prog .zero Tryd.f4.params.toList = some ([(.one (.i .u8 (.x 0)))], ⟨1, 0, 0, 0, 0, 0⟩) := by kernel_rfl
theorem u8_lo {n : Int} (h : (Lit.int .u8 n).wf = true) : 0 ≤ n := by
  simp [Lit.wf, IntKind.min, IntKind.signed] at h; exact h.1
theorem u8_hi {n : Int} (h : (Lit.int .u8 n).wf = true) : n ≤ 255 := by
  simp [Lit.wf, IntKind.max, IntKind.signed, IntKind.bits] at h; omega
theorem sk_blanks (N : Nat) : sk false (List.replicate N 32) = N := by
  induction N with
  | zero => rfl
  | succ N ih => rw [List.replicate_succ, sk, if_pos (by decide), show skG (UInt8.toNat 32) false = false from by decide, ih]
theorem bt_blanks (N j : Nat) : bt (List.replicate N 32) j ≠ 10 := by
  unfold bt
  rw [List.getD_eq_getElem?_getD, List.getElem?_replicate]
  split <;> decide
theorem lex_blanks (N : Nat) : lexAll (List.replicate N 32) = ((0, 0, 0), [⟨8, 1, N + 1, 0, []⟩]) := by
  have hs : ski false (List.replicate N 32) 0 = N := by unfold ski; rw [List.drop_zero, sk_blanks]
  have ha := adv_flat (1, 1) (List.replicate N 32) (i := 0) (n := N) (by simp) (fun j _ _ => bt_blanks N j)
  rw [lexAll, lexA, hs, if_pos (by simp), ha]
  simp; omega
/-- The bytes that are blank so far. -/
def bk (N k : Nat) : List Value := List.replicate k (.int .u8 32) ++ List.replicate (N - k) (.int .u8 0)
theorem bk_len {N k : Nat} (h : k ≤ N) : (bk N k).length = N := by simp [bk]; omega
theorem bk_step {N k : Nat} (h : k < N) : (bk N k).take k ++ [.int .u8 32] ++ (bk N k).drop (k + 1) = bk N (k + 1) := by
  unfold bk
  rw [List.take_append_of_le_length (by simp), List.take_of_length_le (by simp), show N - k = (N - (k + 1)) + 1 by omega, List.replicate_succ (n := N - (k + 1)), List.drop_append]
  simp [List.replicate_succ']
theorem bk_step' {N k : Nat} (h : k < N) : (bk N k).take k ++ Value.int .u8 32 :: (bk N k).drop (k + 1) = bk N (k + 1) := by rw [← bk_step h]; simp
def longInv (n : Int) (N b : Nat) (_ : Nat) (C : Ctx) : Prop := ∃ k : Nat, C = ⟨[n, k], [], [], [], [⟨some (b, 0), N, N⟩], [], Hp.set noHeap b ⟨bk N k, 5⟩, noM⟩ ∧ k ≤ N
def bOf (C : Ctx) : Nat := (((C.l.getD 0 ⟨none, 0, 0⟩).a).getD (0, 0)).1
def longI (n : Int) (N : Nat) (o : Nat) (C : Ctx) : Prop := ∃ b, longInv n N b o C
set_option maxRecDepth 100000 in
set_option maxHeartbeats 2000000 in
theorem law_long (n : Int) (n0 : 0 ≤ n) (n1 : n ≤ 255) (w : World) : Calls Tryd.prog 4 #[.int .u8 n] w fun e w' => e = .returned (.bool true) ∧ Below w.heap.size w w' := by
  obtain ⟨N, hN⟩ : ∃ N : Nat, N = (65536 + n).toNat := ⟨_, rfl⟩
  refine by_fm0 Tryd.func4 gen_llong ps_llong [ctTokN, ctAwake] _ (longI n N) (fun _ C => ((N : Int) - C.i.getD 1 0).toNat) ⟨[n], [], [], [], [], [], noHeap, noM⟩ rfl ⟨rfl, rfl, rfl, rfl, rfl, rfl⟩ ones_nil ?_ w rfl
  generalize hE : (⟨specOf _, _, _, _⟩ : Env) = E
  have s1 : E.spec 9 = ctTokN.spec := by rw [← hE]; rfl
  have s2 : E.spec 8 = ctAwake.spec := by rw [← hE]; rfl
  have ep : E.post = fun v _ => v = .bool true := by rw [← hE]
  have ei : E.inv = longI n N := by rw [← hE]
  have em : E.meas = fun _ C => ((N : Int) - C.i.getD 1 0).toNat := by rw [← hE]
  clear hE
  have hw : IntKind.i64.wrap n = n := by rw [IntKind.wrap_i64]; omega
  have hNn : (65536 + n) = N := by omega
  rw [← then_step]; unfold fm_llong
  simp only [then_step]; simp [go_sem, hw, hNn]
  simp only [then_step, th_mks]
  have hd : IE.den ⟨[n], [], [], [], [], [], noHeap, noM⟩ (.add (.c 65536) (.wr .i64 (.x 0))) = N := by simp [go_sem, hw]; omega
  refine ⟨by omega, by omega, ?_⟩
  simp only [hd, Int.toNat_natCast]
  refine ⟨by omega, fun b _ => ?_⟩
  refine loop_intro ?_ ?_
  · rw [ei]
    refine ⟨b, 0, ?_, by omega⟩
    simp [go_sem, bk, Ctx.push, Got.den, Ctx.heap, Ctx.bare]
  · rw [ei, em]
    rintro i bb ss v ll pp hh M ⟨b, k, hC, hk⟩ hM
    cases hC
    have hM' : M 0 = ((N : Int) - k).toNat := hM
    by_cases hlt : k < N
    · have hz : (k : Int) < N := by omega
      rw [← then_step]
      iterate 2 (simp only [then_step]; simp [go_sem, hz])
      simp only [then_step, th_store]
      refine ⟨_, hwrite_set _ _ _ _ _ |>.trans (if_pos ?_), ?_⟩
      · simp [bk_len hk, go_sem]; omega
      simp [go_sem]
      rw [bk_step' hlt]
      simp only [then_step]; simp [go_sem, ei, em]
      (repeat' apply And.intro) <;> first | omega | exact ⟨b, k + 1, rfl, by omega⟩
    · have hz : ¬ (k : Int) < N := by omega
      have hkN : k = N := by omega
      subst hkN
      have hbk : bk k k = List.replicate k (.int .u8 32) := by simp [bk]
      rw [← then_step]
      iterate 1 (simp only [then_step]; simp [go_sem, hz])
      simp only [then_step, th_str]
      refine ⟨List.replicate k 32, .inr ?_, ?_⟩
      · simp [go_sem, hbk]
      simp [go_sem]
      rw [s1]
      refine ⟨List.replicate k 32, rfl, by simp, ?_⟩
      rw [List.length_replicate, lex_blanks]
      by_cases hn : n = 0
      · have hk0 : k = 65536 := by omega
        rw [if_neg (by omega), if_pos rfl]
        intro sl h' hle hown hsn
        have hTS := TS.of_own hown hsn
        obtain ⟨b2, c2, T2, r2, rfl, k2⟩ := hTS.slc (j := 0) (Nat.succ_pos _)
        have q1 : hread h' (some (b2, 0)) 1 = some [.int .u8 8] := by
          rw [hread_of k2, if_pos (by simp [tcs_len]; omega)]; rfl
        have q2 : hread h' (some (b2, 2)) 1 = some [.int .i64 65537] := by
          rw [hread_of k2, if_pos (by simp [tcs_len]; omega), hk0]; rfl
        refine ⟨_, _, _, _, rfl, ?_⟩
        subst hn
        iterate 12 (try simp only [then_step]; try simp [go_sem, ep, s2, ctAwake, q1, q2])
      · rw [if_pos (by omega)]
        have h0n : 0 < n := by omega
        refine ⟨_, _, _, ⟨none, 0, 0⟩, rfl, ?_⟩
        iterate 4 (try simp only [then_step]; try simp [go_sem, ep, s2, ctAwake, h0n])
end Go.Proofs.YtogalfbemmcaaaaDoor
