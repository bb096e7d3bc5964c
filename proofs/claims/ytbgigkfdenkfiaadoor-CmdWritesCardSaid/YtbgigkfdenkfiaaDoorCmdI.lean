/- The cmd seat, part I: the texts; the examples. -/
import Derived.Test.YtbgigkfdenkfiaaDoorCmdH
namespace Go.Proofs.YtbgigkfdenkfiaaDoor
open Go.RowKit
attribute [local go_sem] Fm.says BE.den IE.den SE.den LE.den AE.den CE.den PE.den VE.den KV.val Got.den Got.cnt exI allI exL allL Ctx.push Ctx.heap Ctx.cut Ctx.bare Ctx.mark Inc.blank List.getD_cons_zero List.getD_cons_succ List.cons_append List.nil_append List.append_nil List.map_cons List.map_nil List.replicate_zero List.replicate_succ specOf ltB_t leB_t ltB_f leB_f slc_val slc_nil slc_inj pt_val pt_nil hle_noHeap hle_refl hread_set noHeap_at B_inj ones_nil and_assoc
def fm_text : Fm := (.call (.c true) false 9 [(.agg [(.i .u8 (.x 0)), (.i .i64 (.x 1)), (.s (.x 0))])] (.p (.one (.b (.x 0)))) ⟨0, 1, 0, 0, 0, 0⟩
  (.ite (.not (.x 0))
  (.ret (.p (.one (.s (.c [])))))
  (.call (.c true) false 16 [] (.p (.one (.sl (.x 0)))) ⟨0, 0, 0, 0, 1, 0⟩
  (.need (.c true) (.and (.and (.le (.c 0) (.x 0)) (.lt (.x 0) (.cnt (.x 0)))) (.nns (.x 0)))
  (.load (.c true) (.el (.x 0) (.x 0) 1 0) 1 [(.s (.x 1))] ⟨0, 0, 1, 0, 0, 0⟩
  (.call (.c true) false 17 [(.one (.i .u8 (.x 0)))] (.p (.one (.b (.x 1)))) ⟨0, 1, 0, 0, 0, 0⟩
  (.ite (.x 1)
  (.call (.c true) false 25 [(.one (.i .i64 (.x 1)))] (.p (.one (.s (.x 2)))) ⟨0, 0, 1, 0, 0, 0⟩
  (.need (.c true) (.le (.add (.len (.c [32])) (.len (.x 2))) (.c 9223372036854775807))
  (.need (.c true) (.le (.add (.len (.x 1)) (.len (.app (.c [32]) (.x 2)))) (.c 9223372036854775807))
  (.ite (.and (.eqI (.x 0) (.c 10)) (.not (.eqS (.x 0) (.c []))))
  (.need (.c true) (.le (.add (.len (.app (.x 1) (.app (.c [32]) (.x 2)))) (.len (.c [32, 105, 102]))) (.c 9223372036854775807))
  (.ite (.not (.eqS (.x 0) (.c [])))
  (.need (.c true) (.le (.add (.len (.c [32])) (.len (.x 0))) (.c 9223372036854775807))
  (.need (.c true) (.le (.add (.len (.app (.app (.x 1) (.app (.c [32]) (.x 2))) (.c [32, 105, 102]))) (.len (.app (.c [32]) (.x 0)))) (.c 9223372036854775807))
  (.ret (.p (.one (.s (.app (.app (.app (.x 1) (.app (.c [32]) (.x 2))) (.c [32, 105, 102])) (.app (.c [32]) (.x 0)))))))))
  (.ret (.p (.one (.s (.app (.app (.x 1) (.app (.c [32]) (.x 2))) (.c [32, 105, 102]))))))))
  (.ite (.not (.eqS (.x 0) (.c [])))
  (.need (.c true) (.le (.add (.len (.c [32])) (.len (.x 0))) (.c 9223372036854775807))
  (.need (.c true) (.le (.add (.len (.app (.x 1) (.app (.c [32]) (.x 2)))) (.len (.app (.c [32]) (.x 0)))) (.c 9223372036854775807))
  (.ret (.p (.one (.s (.app (.app (.x 1) (.app (.c [32]) (.x 2))) (.app (.c [32]) (.x 0)))))))))
  (.ret (.p (.one (.s (.app (.x 1) (.app (.c [32]) (.x 2))))))))))))
  (.ite (.and (.eqI (.x 0) (.c 10)) (.not (.eqS (.x 0) (.c []))))
  (.need (.c true) (.le (.add (.len (.x 1)) (.len (.c [32, 105, 102]))) (.c 9223372036854775807))
  (.ite (.not (.eqS (.x 0) (.c [])))
  (.need (.c true) (.le (.add (.len (.c [32])) (.len (.x 0))) (.c 9223372036854775807))
  (.need (.c true) (.le (.add (.len (.app (.x 1) (.c [32, 105, 102]))) (.len (.app (.c [32]) (.x 0)))) (.c 9223372036854775807))
  (.ret (.p (.one (.s (.app (.app (.x 1) (.c [32, 105, 102])) (.app (.c [32]) (.x 0)))))))))
  (.ret (.p (.one (.s (.app (.x 1) (.c [32, 105, 102]))))))))
  (.ite (.not (.eqS (.x 0) (.c [])))
  (.need (.c true) (.le (.add (.len (.c [32])) (.len (.x 0))) (.c 9223372036854775807))
  (.need (.c true) (.le (.add (.len (.x 1)) (.len (.app (.c [32]) (.x 0)))) (.c 9223372036854775807))
  (.ret (.p (.one (.s (.app (.x 1) (.app (.c [32]) (.x 0)))))))))
  (.ret (.p (.one (.s (.x 1))))))))))))))
theorem gen_text : genFn ⟨true, []⟩ Tryd.prog (fun l => ([] : List LAnn).getD l ⟨[], [], []⟩) Tryd.f10 = fm_text := by kernel_rfl
theorem ps_text : freshPs Tryd.prog .zero Tryd.f10.params.toList = some ([(.agg [(.i .u8 (.x 0)), (.i .i64 (.x 1)), (.s (.x 0))])], ⟨2, 0, 1, 0, 0, 0⟩) := by kernel_rfl
def fm_rtext : Fm := (.call (.c true) false 23 [] (.p (.one (.sl (.x 0)))) ⟨0, 0, 0, 0, 1, 0⟩
  (.need (.c true) (.and (.and (.le (.c 0) (.x 0)) (.lt (.x 0) (.cnt (.x 0)))) (.nns (.x 0)))
  (.load (.c true) (.el (.x 0) (.x 0) 1 0) 1 [(.s (.x 1))] ⟨0, 0, 1, 0, 0, 0⟩
  (.ite (.or (.or (.eqI (.x 0) (.c 9)) (.eqI (.x 0) (.c 10))) (.eqI (.x 0) (.c 12)))
  (.call (.c true) false 26 [(.one (.i .i64 (.x 1)))] (.p (.one (.s (.x 2)))) ⟨0, 0, 1, 0, 0, 0⟩
  (.need (.c true) (.le (.add (.len (.c [32])) (.len (.x 2))) (.c 9223372036854775807))
  (.need (.c true) (.le (.add (.len (.x 1)) (.len (.app (.c [32]) (.x 2)))) (.c 9223372036854775807))
  (.ite (.and (.eqI (.x 0) (.c 10)) (.not (.eqS (.x 0) (.c []))))
  (.need (.c true) (.le (.add (.len (.app (.x 1) (.app (.c [32]) (.x 2)))) (.len (.c [32, 105, 102]))) (.c 9223372036854775807))
  (.ite (.not (.eqS (.x 0) (.c [])))
  (.need (.c true) (.le (.add (.len (.c [32])) (.len (.x 0))) (.c 9223372036854775807))
  (.need (.c true) (.le (.add (.len (.app (.app (.x 1) (.app (.c [32]) (.x 2))) (.c [32, 105, 102]))) (.len (.app (.c [32]) (.x 0)))) (.c 9223372036854775807))
  (.ret (.p (.one (.s (.app (.app (.app (.x 1) (.app (.c [32]) (.x 2))) (.c [32, 105, 102])) (.app (.c [32]) (.x 0)))))))))
  (.ret (.p (.one (.s (.app (.app (.x 1) (.app (.c [32]) (.x 2))) (.c [32, 105, 102]))))))))
  (.ite (.not (.eqS (.x 0) (.c [])))
  (.need (.c true) (.le (.add (.len (.c [32])) (.len (.x 0))) (.c 9223372036854775807))
  (.need (.c true) (.le (.add (.len (.app (.x 1) (.app (.c [32]) (.x 2)))) (.len (.app (.c [32]) (.x 0)))) (.c 9223372036854775807))
  (.ret (.p (.one (.s (.app (.app (.x 1) (.app (.c [32]) (.x 2))) (.app (.c [32]) (.x 0)))))))))
  (.ret (.p (.one (.s (.app (.x 1) (.app (.c [32]) (.x 2))))))))))))
  (.ite (.and (.eqI (.x 0) (.c 10)) (.not (.eqS (.x 0) (.c []))))
  (.need (.c true) (.le (.add (.len (.x 1)) (.len (.c [32, 105, 102]))) (.c 9223372036854775807))
  (.ite (.not (.eqS (.x 0) (.c [])))
  (.need (.c true) (.le (.add (.len (.c [32])) (.len (.x 0))) (.c 9223372036854775807))
  (.need (.c true) (.le (.add (.len (.app (.x 1) (.c [32, 105, 102]))) (.len (.app (.c [32]) (.x 0)))) (.c 9223372036854775807))
  (.ret (.p (.one (.s (.app (.app (.x 1) (.c [32, 105, 102])) (.app (.c [32]) (.x 0)))))))))
  (.ret (.p (.one (.s (.app (.x 1) (.c [32, 105, 102]))))))))
  (.ite (.not (.eqS (.x 0) (.c [])))
  (.need (.c true) (.le (.add (.len (.c [32])) (.len (.x 0))) (.c 9223372036854775807))
  (.need (.c true) (.le (.add (.len (.x 1)) (.len (.app (.c [32]) (.x 0)))) (.c 9223372036854775807))
  (.ret (.p (.one (.s (.app (.x 1) (.app (.c [32]) (.x 0)))))))))
  (.ret (.p (.one (.s (.x 1)))))))))))
theorem gen_rtext : genFn ⟨true, []⟩ Tryd.prog (fun l => ([] : List LAnn).getD l ⟨[], [], []⟩) Tryd.f12 = fm_rtext := by kernel_rfl
theorem ps_rtext : freshPs Tryd.prog .zero Tryd.f12.params.toList = some ([(.agg [(.i .u8 (.x 0)), (.i .i64 (.x 1)), (.s (.x 0))])], ⟨2, 0, 1, 0, 0, 0⟩) := by kernel_rfl
def fm_awake : Fm := (.call (.c true) false 7 [(.one (.s (.c [32, 32, 98, 114, 101, 97, 107, 32, 49, 50, 32, 105, 102, 32, 32, 97, 32, 62, 32, 51, 32])))] (.p (.agg [(.i .u8 (.x 0)), (.i .i64 (.x 1)), (.s (.x 0))])) ⟨2, 0, 1, 0, 0, 0⟩
  (.call (.and (.eqI (.x 0) (.c 10)) (.and (.eqI (.x 1) (.c 12)) (.eqS (.x 0) (.c [97, 32, 62, 32, 51])))) false 7 [(.one (.s (.c [103, 111, 116, 111, 32, 48, 55])))] (.p (.agg [(.i .u8 (.x 2)), (.i .i64 (.x 3)), (.s (.x 1))])) ⟨2, 0, 1, 0, 0, 0⟩
  (.ret (.p (.one (.b (.and (.and (.eqI (.x 0) (.c 10)) (.and (.eqI (.x 1) (.c 12)) (.eqS (.x 0) (.c [97, 32, 62, 32, 51])))) (.and (.eqI (.x 2) (.c 0)) (.and (.eqI (.x 3) (.c 0)) (.eqS (.x 1) (.c [])))))))))))
theorem gen_awake : genFn ⟨true, []⟩ Tryd.prog (fun l => ([] : List LAnn).getD l ⟨[], [], []⟩) Tryd.f6 = fm_awake := by kernel_rfl
theorem ps_awake : freshPs Tryd.prog .zero Tryd.f6.params.toList = some ([], ⟨0, 0, 0, 0, 0, 0⟩) := by kernel_rfl

theorem dec_len (m : Nat) : (dec m).length ≤ 20 := by
  have hg : ∀ (k m : Nat) (t : List UInt8), (dgo k m t).length ≤ k + t.length := by
    intro k
    induction k with
    | zero => intro m t; simp [dgo]
    | succ k ih =>
      intro m t
      rw [dgo]
      split
      · simp; omega
      · have := ih (m / 10) (dg (m % 10) :: t)
        simp at this ⊢; omega
  have := hg 20 m []
  simpa [dec] using this
theorem txt_len (n : Int) : (txt n).length ≤ 21 := by
  have := dec_len n.natAbs
  unfold txt; split <;> simp <;> omega

theorem wsCells_at (k : Nat) (h : k < 19) : (wsCells.drop k).take 1 = [.string (B (ws k))] := by
  unfold wsCells
  rw [List.drop_eq_getElem_cons (by simpa using h)]
  simp
theorem wsCells_len : wsCells.length = 19 := by rfl
theorem numbered_b (k : Nat) : ((k : Int) == 9 || (k : Int) == 10 || (k : Int) == 12) = decide (k = 9 ∨ k = 10 ∨ k = 12) := by
  rw [Bool.eq_iff_iff]; simp; omega
set_option maxHeartbeats 4000000 in
theorem ctext_any (k : Nat) (n : Int) (t : List UInt8) (hl : t.length < 1000000) (hn0 : -9223372036854775808 ≤ n) (hn1 : n ≤ 9223372036854775807) (w : World) :
    Calls Tryd.prog 10 #[.agg #[.int .u8 k, .int .i64 n, .string (B t)]] w fun e w' => e = .returned (.string (B (if cmay k n t = true then ctext k n t else []))) ∧ Below w.heap.size w w' := by
  have htn := txt_len n
  have hws : k < 19 → (ws k).length ≤ 9 := fun h => by
    by_cases h0 : k = 0
    · subst h0; decide
    · exact (ws_nb k (by omega) h).2.2.1
  refine by_fm0 Tryd.func10 gen_text ps_text [ctMay, ctWords, ctNumbered, ctNText] _ noInv noMeas ⟨[k, n], [], [t], [], [], [], noHeap, noM⟩ rfl ⟨rfl, rfl, rfl, rfl, rfl, rfl⟩ ones_nil ?_ w rfl
  by_cases hm : cmay k n t = true
  · have hk : k < 19 := by
      unfold cmay at hm
      split at hm
      · omega
      · split at hm
        · omega
        · split at hm
          · omega
          · have := of_decide_eq_true hm; omega
    have hwl := hws hk
    rcases (by omega : k = 9 ∨ k = 10 ∨ k = 12 ∨ (k ≠ 9 ∧ k ≠ 10 ∧ k ≠ 12)) with rfl | rfl | rfl | ⟨k9, k10, k12⟩
    all_goals
      by_cases ht : t = []
      · subst ht
        simp [fm_text, go_sem, ctMay, ctWords, ctNumbered, ctNText, hm, hn0, hn1, wsCells_at, wsCells_len, hk, numbered_b, ctext, ctail, *]
        try omega
      · simp [fm_text, go_sem, ctMay, ctWords, ctNumbered, ctNText, hl, hm, hn0, hn1, wsCells_at, wsCells_len, hk, numbered_b, ctext, ctail, *]
        try omega
  · simp [fm_text, go_sem, ctMay, ctWords, ctNumbered, ctNText, hl, hm]
set_option maxHeartbeats 4000000 in
theorem rctext_any (k : Nat) (n : Int) (t : List UInt8) (hl : t.length < 1000000) (hn0 : -9223372036854775808 ≤ n) (hn1 : n ≤ 9223372036854775807) (hk : k < 19) (w : World) :
    Calls Tryd.prog 12 #[.agg #[.int .u8 k, .int .i64 n, .string (B t)]] w fun e w' => e = .returned (.string (B (ctext k n t))) ∧ Below w.heap.size w w' := by
  have htn := txt_len n
  have hwl : (ws k).length ≤ 9 := by
    by_cases h0 : k = 0
    · subst h0; decide
    · exact (ws_nb k (by omega) hk).2.2.1
  refine by_fm0 Tryd.func12 gen_rtext ps_rtext [ctRWords, ctRNText] _ noInv noMeas ⟨[k, n], [], [t], [], [], [], noHeap, noM⟩ rfl ⟨rfl, rfl, rfl, rfl, rfl, rfl⟩ ones_nil ?_ w rfl
  rcases (by omega : k = 9 ∨ k = 10 ∨ k = 12 ∨ (k ≠ 9 ∧ k ≠ 10 ∧ k ≠ 12)) with rfl | rfl | rfl | ⟨k9, k10, k12⟩
  all_goals
    by_cases ht : t = []
    · subst ht
      simp [fm_rtext, go_sem, ctRWords, ctRNText, hn0, hn1, wsCells_at, wsCells_len, hk, ctext, ctail, *]
      try omega
    · simp [fm_rtext, go_sem, ctRWords, ctRNText, hl, hn0, hn1, wsCells_at, wsCells_len, hk, ctext, ctail, *]
      try omega
theorem awake_any (w : World) : Calls Tryd.prog 6 #[] w fun e w' => e = .returned (.bool true) ∧ Below w.heap.size w w' := by
  refine by_fm0 Tryd.func6 gen_awake ps_awake [ctParse] _ noInv noMeas ⟨[], [], [], [], [], [], noHeap, noM⟩ rfl ⟨rfl, rfl, rfl, rfl, rfl, rfl⟩ ones_nil ?_ w rfl
  have h1 : cp [32, 32, 98, 114, 101, 97, 107, 32, 49, 50, 32, 105, 102, 32, 32, 97, 32, 62, 32, 51, 32] = (10, 12, [97, 32, 62, 32, 51]) := by decide
  have h2 : cp [103, 111, 116, 111, 32, 48, 55] = bad := by decide
  simp [fm_awake, go_sem, ctParse, h1, h2, cmdv, bad]
end Go.Proofs.YtbgigkfdenkfiaaDoor
