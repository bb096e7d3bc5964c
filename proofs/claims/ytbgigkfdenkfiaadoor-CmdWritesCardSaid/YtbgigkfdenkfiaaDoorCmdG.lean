/- The cmd seat, part G: which commands may be. -/
import Derived.Test.YtbgigkfdenkfiaaDoorCmdF
import Derived.Test.YtbgigkfdenkfiaaDoorEngU
namespace Go.Proofs.YtbgigkfdenkfiaaDoor
open Go.RowKit
attribute [local go_sem] Fm.says BE.den IE.den SE.den LE.den AE.den CE.den PE.den VE.den KV.val Got.den Got.cnt exI allI exL allL Ctx.push Ctx.heap Ctx.cut Ctx.bare Ctx.mark Inc.blank List.getD_cons_zero List.getD_cons_succ List.cons_append List.nil_append List.append_nil List.map_cons List.map_nil List.replicate_zero List.replicate_succ specOf ltB_t leB_t ltB_f leB_f slc_val slc_nil slc_inj pt_val pt_nil hle_noHeap hle_refl hread_set noHeap_at B_inj ones_nil and_assoc
def fm_may : Fm := (.ite (.or (.lt (.x 0) (.c 1)) (.lt (.c 18) (.x 0)))
  (.ret (.p (.one (.b (.c false)))))
  (.call (.c true) false 17 [(.one (.i .u8 (.x 0)))] (.p (.one (.b (.x 0)))) ⟨0, 1, 0, 0, 0, 0⟩
  (.ite (.x 0)
  (.ite (.eqI (.x 0) (.c 10))
  (.ite (.or (.lt (.x 1) (.c 1)) (.lt (.c 1048576) (.x 1)))
  (.ret (.p (.one (.b (.c false)))))
  (.ite (.eqS (.x 0) (.c []))
  (.call (.c true) false 19 [(.one (.i .u8 (.x 0)))] (.p (.one (.b (.x 1)))) ⟨0, 1, 0, 0, 0, 0⟩
  (.ret (.p (.one (.b (.not (.x 1)))))))
  (.call (.c true) false 19 [(.one (.i .u8 (.x 0)))] (.p (.one (.b (.x 1)))) ⟨0, 1, 0, 0, 0, 0⟩
  (.ite (.and (.not (.x 1)) (.not (.eqI (.x 0) (.c 10))))
  (.ret (.p (.one (.b (.c false)))))
  (.call (.le (.len (.x 0)) (.c 900)) false 13 [(.one (.s (.x 0))), (.one (.s (.c [10])))] (.p (.one (.b (.x 2)))) ⟨0, 1, 0, 0, 0, 0⟩
  (.call (.and (.le (.len (.x 0)) (.c 900)) (.not (.x 2))) false 15 [(.one (.s (.x 0))), (.one (.s (.c [32, 9])))] (.p (.one (.s (.x 1)))) ⟨0, 0, 1, 0, 0, 0⟩
  (.ret (.p (.one (.b (.and (.and (.le (.len (.x 0)) (.c 900)) (.not (.x 2))) (.eqS (.x 1) (.x 0)))))))))))))
  (.ite (.or (.lt (.x 1) (.c 0)) (.lt (.c 1048576) (.x 1)))
  (.ret (.p (.one (.b (.c false)))))
  (.ite (.eqS (.x 0) (.c []))
  (.call (.c true) false 19 [(.one (.i .u8 (.x 0)))] (.p (.one (.b (.x 1)))) ⟨0, 1, 0, 0, 0, 0⟩
  (.ret (.p (.one (.b (.not (.x 1)))))))
  (.call (.c true) false 19 [(.one (.i .u8 (.x 0)))] (.p (.one (.b (.x 1)))) ⟨0, 1, 0, 0, 0, 0⟩
  (.ite (.and (.not (.x 1)) (.not (.eqI (.x 0) (.c 10))))
  (.ret (.p (.one (.b (.c false)))))
  (.call (.le (.len (.x 0)) (.c 900)) false 13 [(.one (.s (.x 0))), (.one (.s (.c [10])))] (.p (.one (.b (.x 2)))) ⟨0, 1, 0, 0, 0, 0⟩
  (.call (.and (.le (.len (.x 0)) (.c 900)) (.not (.x 2))) false 15 [(.one (.s (.x 0))), (.one (.s (.c [32, 9])))] (.p (.one (.s (.x 1)))) ⟨0, 0, 1, 0, 0, 0⟩
  (.ret (.p (.one (.b (.and (.and (.le (.len (.x 0)) (.c 900)) (.not (.x 2))) (.eqS (.x 1) (.x 0))))))))))))))
  (.ite (.eqI (.x 0) (.c 10))
  (.ite (.or (.lt (.x 1) (.c 1)) (.lt (.c 0) (.x 1)))
  (.ret (.p (.one (.b (.c false)))))
  (.ite (.eqS (.x 0) (.c []))
  (.call (.c true) false 19 [(.one (.i .u8 (.x 0)))] (.p (.one (.b (.x 1)))) ⟨0, 1, 0, 0, 0, 0⟩
  (.ret (.p (.one (.b (.not (.x 1)))))))
  (.call (.c true) false 19 [(.one (.i .u8 (.x 0)))] (.p (.one (.b (.x 1)))) ⟨0, 1, 0, 0, 0, 0⟩
  (.ite (.and (.not (.x 1)) (.not (.eqI (.x 0) (.c 10))))
  (.ret (.p (.one (.b (.c false)))))
  (.call (.le (.len (.x 0)) (.c 900)) false 13 [(.one (.s (.x 0))), (.one (.s (.c [10])))] (.p (.one (.b (.x 2)))) ⟨0, 1, 0, 0, 0, 0⟩
  (.call (.and (.le (.len (.x 0)) (.c 900)) (.not (.x 2))) false 15 [(.one (.s (.x 0))), (.one (.s (.c [32, 9])))] (.p (.one (.s (.x 1)))) ⟨0, 0, 1, 0, 0, 0⟩
  (.ret (.p (.one (.b (.and (.and (.le (.len (.x 0)) (.c 900)) (.not (.x 2))) (.eqS (.x 1) (.x 0)))))))))))))
  (.ite (.or (.lt (.x 1) (.c 0)) (.lt (.c 0) (.x 1)))
  (.ret (.p (.one (.b (.c false)))))
  (.ite (.eqS (.x 0) (.c []))
  (.call (.c true) false 19 [(.one (.i .u8 (.x 0)))] (.p (.one (.b (.x 1)))) ⟨0, 1, 0, 0, 0, 0⟩
  (.ret (.p (.one (.b (.not (.x 1)))))))
  (.call (.c true) false 19 [(.one (.i .u8 (.x 0)))] (.p (.one (.b (.x 1)))) ⟨0, 1, 0, 0, 0, 0⟩
  (.ite (.and (.not (.x 1)) (.not (.eqI (.x 0) (.c 10))))
  (.ret (.p (.one (.b (.c false)))))
  (.call (.le (.len (.x 0)) (.c 900)) false 13 [(.one (.s (.x 0))), (.one (.s (.c [10])))] (.p (.one (.b (.x 2)))) ⟨0, 1, 0, 0, 0, 0⟩
  (.call (.and (.le (.len (.x 0)) (.c 900)) (.not (.x 2))) false 15 [(.one (.s (.x 0))), (.one (.s (.c [32, 9])))] (.p (.one (.s (.x 1)))) ⟨0, 0, 1, 0, 0, 0⟩
  (.ret (.p (.one (.b (.and (.and (.le (.len (.x 0)) (.c 900)) (.not (.x 2))) (.eqS (.x 1) (.x 0)))))))))))))))))
theorem gen_may : genFn ⟨true, []⟩ Tryd.prog (fun l => ([] : List LAnn).getD l ⟨[], [], []⟩) Tryd.f9 = fm_may := by kernel_rfl
theorem ps_may : freshPs Tryd.prog .zero Tryd.f9.params.toList = some ([(.agg [(.i .u8 (.x 0)), (.i .i64 (.x 1)), (.s (.x 0))])], ⟨2, 0, 1, 0, 0, 0⟩) := by kernel_rfl

def ctNumbered : Ct Tryd.prog where
  f := 17
  spec := fun args h φ => ∃ k : Int, args = [.int .u8 k] ∧ φ (.bool (k == 9 || k == 10 || k == 12)) h
  ok := by rintro args h φ w ⟨k, rfl, hφ⟩ hH; exact ct_same (numbered_any k w) hφ hH
def ctTexted : Ct Tryd.prog where
  f := 19
  spec := fun args h φ => ∃ k : Int, args = [.int .u8 k] ∧ φ (.bool (k == 11 || k == 14)) h
  ok := by rintro args h φ w ⟨k, rfl, hφ⟩ hH; exact ct_same (texted_any k w) hφ hH
def ctContainsNl : Ct Tryd.prog where
  f := 13
  spec := fun args h φ => ∃ l : List UInt8, args = [.string (B l), .string (B [10])] ∧ φ (.bool (decide ((10 : UInt8) ∈ l))) h
  ok := by rintro args h φ w ⟨k, rfl, hφ⟩ hH; exact ct_same ((contains_nl k w).mono fun _ _ h => ⟨h.1, h.2.symm⟩) hφ hH
def ctTrim : Ct Tryd.prog where
  f := 15
  spec := fun args h φ => ∃ l : List UInt8, args = [.string (B l), .string (B [32, 9])] ∧ l.length < 1000000 ∧ φ (.string (B (trim l))) h
  ok := by rintro args h φ w ⟨k, rfl, hk, hφ⟩ hH; exact ct_value (strim k hk w) hφ hH


theorem tx_dec (t : List UInt8) (ht : t ≠ []) : (leB (t.length : Int) 900 && !decide ((10 : UInt8) ∈ t) && trim t == t) = tx t := by
  rw [Bool.eq_iff_iff, tx_iff]
  have : 1 ≤ t.length := by cases t with | nil => exact absurd rfl ht | cons _ _ => simp
  simp [leB_t, this]
  constructor
  · rintro ⟨⟨h1, h2⟩, h3⟩; exact ⟨by omega, h2, h3⟩
  · rintro ⟨h1, h2, h3⟩; exact ⟨⟨by omega, h2⟩, h3⟩
set_option maxHeartbeats 4000000 in
theorem may_any (k : Nat) (n : Int) (t : List UInt8) (hl : t.length < 1000000) (w : World) :
    Calls Tryd.prog 9 #[.agg #[.int .u8 k, .int .i64 n, .string (B t)]] w fun e w' => e = .returned (.bool (cmay k n t)) ∧ Below w.heap.size w w' := by
  refine by_fm0 Tryd.func9 gen_may ps_may [ctNumbered, ctTexted, ctContainsNl, ctTrim] _ noInv noMeas ⟨[k, n], [], [t], [], [], [], noHeap, noM⟩ rfl ⟨rfl, rfl, rfl, rfl, rfl, rfl⟩ ones_nil ?_ w rfl
  have e2 : ∀ m : Nat, ((k : Int) = m) = (k = m) := fun m => by apply propext; omega
  have e9 : ((k : Int) = 9) = (k = 9) := e2 9
  have e10 : ((k : Int) = 10) = (k = 10) := e2 10
  have e11 : ((k : Int) = 11) = (k = 11) := e2 11
  have e12 : ((k : Int) = 12) = (k = 12) := e2 12
  have e14 : ((k : Int) = 14) = (k = 14) := e2 14
  have hlt : (leB (t.length : Int) 900 = false) → tx t = false := fun h => by
    cases hq : tx t
    · rfl
    · have := (tx_iff t).1 hq; rw [leB_f] at h; omega
  have h10 : (10 : UInt8) ∈ t → tx t = false := fun h => by
    cases hq : tx t
    · rfl
    · exact absurd h ((tx_iff t).1 hq).2.2.1
  have hE : k ≠ 11 → k ≠ 14 → ((k : Int) == 11 || (k : Int) == 14) = false := fun h h' => by simp; omega
  rcases (by omega : (k < 1 ∨ 18 < k) ∨ k = 9 ∨ k = 10 ∨ k = 11 ∨ k = 12 ∨ k = 14 ∨ (1 ≤ k ∧ k ≤ 18 ∧ k ≠ 9 ∧ k ≠ 10 ∧ k ≠ 11 ∧ k ≠ 12 ∧ k ≠ 14)) with hk | rfl | rfl | rfl | rfl | rfl | ⟨k1, k2, k9, k10, k11, k12, k14⟩
  · have : cmay k n t = false := by
      unfold cmay
      rw [if_neg (by omega), if_neg (by omega), if_neg (by omega)]
      exact decide_eq_false (by omega)
    have hk' : (k : Int) < 1 ∨ 18 < (k : Int) := by omega
    simp [fm_may, go_sem, this, hk']
    omega
  all_goals
    by_cases ht : t = []
    · subst ht
      have htn : tx [] = false := by decide
      simp [fm_may, go_sem, ones_nil, ctNumbered, ctTexted, ctContainsNl, ctTrim, B_inj, cmay, *]
      first | done | omega | (refine ⟨fun h a b => ?_, fun a b => ?_⟩ <;> first | omega | (simp [a, b]; done)) | (refine ⟨fun h => ?_, fun h h' => ⟨fun a => ?_, fun a b => ?_⟩⟩ <;> first | omega | (obtain rfl : n = 0 := by omega) <;> simp [*])
    · have htx := tx_dec t ht
      by_cases hL : (t.length : Int) ≤ 900
      · have hLB : leB (t.length : Int) 900 = true := by rw [leB_t]; exact hL
        by_cases hM : (10 : UInt8) ∈ t
        · have htf := h10 hM
          by_cases h0 : n = 0
          · simp [fm_may, go_sem, ones_nil, ctNumbered, ctTexted, ctContainsNl, ctTrim, B_inj, cmay, *]
            first | done | omega | (refine ⟨fun h a b => ?_, fun a b => ?_⟩ <;> first | omega | (simp [a, b]; done)) | (refine ⟨fun h => ?_, fun h h' => ⟨fun a => ?_, fun a b => ?_⟩⟩ <;> first | omega | (obtain rfl : n = 0 := by omega) <;> simp [*])
          · simp [fm_may, go_sem, ones_nil, ctNumbered, ctTexted, ctContainsNl, ctTrim, B_inj, cmay, *]
            first | done | omega | (refine ⟨fun h a b => ?_, fun a b => ?_⟩ <;> first | omega | (simp [a, b]; done)) | (refine ⟨fun h => ?_, fun h h' => ⟨fun a => ?_, fun a b => ?_⟩⟩ <;> first | omega | (obtain rfl : n = 0 := by omega) <;> simp [*])
        · rw [hLB, decide_eq_false hM] at htx
          simp only [Bool.not_false, Bool.and_self, Bool.true_and] at htx
          by_cases h0 : n = 0
          · simp [fm_may, go_sem, ones_nil, ctNumbered, ctTexted, ctContainsNl, ctTrim, B_inj, cmay, *]
            first | done | omega | (refine ⟨fun h a b => ?_, fun a b => ?_⟩ <;> first | omega | (simp [a, b]; done)) | (refine ⟨fun h => ?_, fun h h' => ⟨fun a => ?_, fun a b => ?_⟩⟩ <;> first | omega | (obtain rfl : n = 0 := by omega) <;> simp [*])
          · simp [fm_may, go_sem, ones_nil, ctNumbered, ctTexted, ctContainsNl, ctTrim, B_inj, cmay, *]
            first | done | omega | (refine ⟨fun h a b => ?_, fun a b => ?_⟩ <;> first | omega | (simp [a, b]; done)) | (refine ⟨fun h => ?_, fun h h' => ⟨fun a => ?_, fun a b => ?_⟩⟩ <;> first | omega | (obtain rfl : n = 0 := by omega) <;> simp [*])
      · have hLB : leB (t.length : Int) 900 = false := by rw [leB_f]; omega
        have htf := hlt hLB
        simp [fm_may, go_sem, ones_nil, ctNumbered, ctTexted, ctContainsNl, ctTrim, B_inj, cmay, *]
        first | done | omega | (refine ⟨fun h a b => ?_, fun a b => ?_⟩ <;> first | omega | (simp [a, b]; done)) | (refine ⟨fun h => ?_, fun h h' => ⟨fun a => ?_, fun a b => ?_⟩⟩ <;> first | omega | (obtain rfl : n = 0 := by omega) <;> simp [*])

end Go.Proofs.YtbgigkfdenkfiaaDoor
