/- The gauss seat, part RD: the document's reading: its walk. -/
import Derived.Test.YtoagnjnkgecmkaaDoorGaussY
import Derived.Test.YtoagnjnkgecmkaaDoorEngU
namespace Go.Proofs.YtoagnjnkgecmkaaDoor
open Go.RowKit
attribute [local go_sem] says_tt says_ff th_need th_ite th_call th_load th_store th_mk th_new th_str says_ret says_again says_app BE.den IE.den SE.den LE.den AE.den CE.den PE.den VE.den KV.val Got.den Got.cnt exI allI exL allL Ctx.push Ctx.heap Ctx.cut Ctx.bare Ctx.mark Inc.blank List.getD_cons_zero List.getD_cons_succ List.cons_append List.nil_append List.append_nil List.map_cons List.map_nil List.replicate_zero List.replicate_succ specOf ltB_t leB_t ltB_f leB_f slc_val slc_nil slc_inj pt_val pt_nil hle_noHeap hle_refl hread_set hwrite_set set_same set_set noHeap_at B_inj ones_nil and_assoc
def fm_rdigits : Fm := (.loop 0 ⟨[(.x 0)], [], [], [], [], []⟩
  (.need (.lt (.x 1) (.len (.x 0))) (.and (.le (.c 0) (.x 1)) (.lt (.x 1) (.len (.x 0))))
  (.need (.and (.lt (.x 1) (.len (.x 0))) (.le (.c 48) (.at (.x 0) (.x 1)))) (.and (.le (.c 0) (.x 1)) (.lt (.x 1) (.len (.x 0))))
  (.ite (.and (.and (.lt (.x 1) (.len (.x 0))) (.le (.c 48) (.at (.x 0) (.x 1)))) (.le (.at (.x 0) (.x 1)) (.c 57)))
  (.need (.c true) (.and (.le (.c (-9223372036854775808)) (.add (.x 1) (.c 1))) (.le (.add (.x 1) (.c 1)) (.c 9223372036854775807)))
  (.again 0 ⟨1, 0, 1, 0, 0, 0⟩ ⟨2, 0, 1, 0, 0, 0⟩ ⟨[(.add (.x 1) (.c 1))], [], [], [], [], []⟩))
  (.ret (.p (.one (.i .i64 (.x 1)))))))))
theorem gen_rdigits : genFn ⟨true, []⟩ Tryd.prog (fun l => ([⟨[1], [5, 6, 7, 8, 9, 10, 11, 12, 13, 14, 15, 16, 17, 18, 19, 20, 21, 22], []⟩] : List LAnn).getD l ⟨[], [], []⟩) Tryd.f40 = fm_rdigits := by kernel_rfl
theorem ps_rdigits : freshPs Tryd.prog .zero Tryd.f40.params.toList = some ([(.one (.s (.x 0))), (.one (.i .i64 (.x 0)))], ⟨1, 0, 1, 0, 0, 0⟩) := by kernel_rfl
def fm_rread : Fm := (.need (.lt (.c 0) (.len (.x 0))) (.and (.le (.c 0) (.c 0)) (.lt (.c 0) (.len (.x 0))))
  (.ite (.and (.lt (.c 0) (.len (.x 0))) (.eqI (.at (.x 0) (.c 0)) (.c 45)))
  (.need (.c true) (.and (.le (.c (-9223372036854775808)) (.add (.c 0) (.c 1))) (.le (.add (.c 0) (.c 1)) (.c 9223372036854775807)))
  (.call (.c true) false 40 [(.one (.s (.x 0))), (.one (.i .i64 (.add (.c 0) (.c 1))))] (.p (.one (.i .i64 (.x 0)))) ⟨1, 0, 0, 0, 0, 0⟩
  (.need (.not (.le (.len (.x 0)) (.x 0))) (.and (.le (.c 0) (.x 0)) (.lt (.x 0) (.len (.x 0))))
  (.need (.and (.not (.le (.len (.x 0)) (.x 0))) (.not (.eqI (.at (.x 0) (.x 0)) (.c 43)))) (.and (.le (.c 0) (.x 0)) (.lt (.x 0) (.len (.x 0))))
  (.ite (.or (.le (.len (.x 0)) (.x 0)) (.and (.not (.eqI (.at (.x 0) (.x 0)) (.c 43))) (.not (.eqI (.at (.x 0) (.x 0)) (.c 45)))))
  (.ret (.tup [(.agg [(.i .i64 (.c 0)), (.i .i64 (.c 0))]), (.one (.i .i64 (.c 2)))]))
  (.need (.c true) (.and (.le (.c (-9223372036854775808)) (.add (.x 0) (.c 1))) (.le (.add (.x 0) (.c 1)) (.c 9223372036854775807)))
  (.call (.c true) false 40 [(.one (.s (.x 0))), (.one (.i .i64 (.add (.x 0) (.c 1))))] (.p (.one (.i .i64 (.x 1)))) ⟨1, 0, 0, 0, 0, 0⟩
  (.need (.c true) (.and (.le (.c (-9223372036854775808)) (.sub (.len (.x 0)) (.c 1))) (.le (.sub (.len (.x 0)) (.c 1)) (.c 9223372036854775807)))
  (.need (.eqI (.x 1) (.sub (.len (.x 0)) (.c 1))) (.and (.le (.c 0) (.x 1)) (.lt (.x 1) (.len (.x 0))))
  (.ite (.or (.not (.eqI (.x 1) (.sub (.len (.x 0)) (.c 1)))) (.not (.eqI (.at (.x 0) (.x 1)) (.c 105))))
  (.ret (.tup [(.agg [(.i .i64 (.c 0)), (.i .i64 (.c 0))]), (.one (.i .i64 (.c 2)))]))
  (.need (.c true) (.and (.and (.le (.c 0) (.x 1)) (.le (.x 1) (.len (.x 0)))) (.and (.le (.c 0) (.x 0)) (.le (.x 0) (.x 1))))
  (.need (.c true) (.and (.le (.c 0) (.x 0)) (.lt (.x 0) (.len (.x 0))))
  (.ite (.eqI (.at (.x 0) (.x 0)) (.c 43))
  (.need (.c true) (.and (.and (.le (.c 0) (.x 1)) (.le (.x 1) (.len (.x 0)))) (.and (.le (.c 0) (.add (.x 0) (.c 1))) (.le (.add (.x 0) (.c 1)) (.x 1))))
  (.need (.c true) (.and (.le (.c 0) (.x 0)) (.le (.x 0) (.len (.x 0))))
  (.call (.c true) false 41 [(.one (.s (.sub (.x 0) (.c 0) (.x 0))))] (.tup [(.one (.i .i64 (.x 2))), (.one (.i .i64 (.x 3)))]) ⟨2, 0, 0, 0, 0, 0⟩
  (.call (.c true) false 41 [(.one (.s (.sub (.x 0) (.add (.x 0) (.c 1)) (.x 1))))] (.tup [(.one (.i .i64 (.x 4))), (.one (.i .i64 (.x 5)))]) ⟨2, 0, 0, 0, 0, 0⟩
  (.ite (.or (.eqI (.x 3) (.c 2)) (.eqI (.x 5) (.c 2)))
  (.ret (.tup [(.agg [(.i .i64 (.c 0)), (.i .i64 (.c 0))]), (.one (.i .i64 (.c 2)))]))
  (.call (.not (.or (.not (.eqI (.x 3) (.c 0))) (.not (.eqI (.x 5) (.c 0))))) false 20 [(.one (.i .i64 (.x 2)))] (.p (.one (.i .i64 (.x 6)))) ⟨1, 0, 0, 0, 0, 0⟩
  (.call (.not (.or (.or (.not (.eqI (.x 3) (.c 0))) (.not (.eqI (.x 5) (.c 0)))) (.not (.eqI (.x 2) (.x 6))))) false 20 [(.one (.i .i64 (.x 4)))] (.p (.one (.i .i64 (.x 7)))) ⟨1, 0, 0, 0, 0, 0⟩
  (.ite (.or (.or (.or (.not (.eqI (.x 3) (.c 0))) (.not (.eqI (.x 5) (.c 0)))) (.not (.eqI (.x 2) (.x 6)))) (.not (.eqI (.x 4) (.x 7))))
  (.ret (.tup [(.agg [(.i .i64 (.c 0)), (.i .i64 (.c 0))]), (.one (.i .i64 (.c 14)))]))
  (.ret (.tup [(.agg [(.i .i64 (.x 2)), (.i .i64 (.x 4))]), (.one (.i .i64 (.c 0)))]))))))))))
  (.need (.c true) (.and (.le (.c 0) (.x 0)) (.le (.x 0) (.len (.x 0))))
  (.call (.c true) false 41 [(.one (.s (.sub (.x 0) (.c 0) (.x 0))))] (.tup [(.one (.i .i64 (.x 2))), (.one (.i .i64 (.x 3)))]) ⟨2, 0, 0, 0, 0, 0⟩
  (.call (.c true) false 41 [(.one (.s (.sub (.x 0) (.x 0) (.x 1))))] (.tup [(.one (.i .i64 (.x 4))), (.one (.i .i64 (.x 5)))]) ⟨2, 0, 0, 0, 0, 0⟩
  (.ite (.or (.eqI (.x 3) (.c 2)) (.eqI (.x 5) (.c 2)))
  (.ret (.tup [(.agg [(.i .i64 (.c 0)), (.i .i64 (.c 0))]), (.one (.i .i64 (.c 2)))]))
  (.call (.not (.or (.not (.eqI (.x 3) (.c 0))) (.not (.eqI (.x 5) (.c 0))))) false 20 [(.one (.i .i64 (.x 2)))] (.p (.one (.i .i64 (.x 6)))) ⟨1, 0, 0, 0, 0, 0⟩
  (.call (.not (.or (.or (.not (.eqI (.x 3) (.c 0))) (.not (.eqI (.x 5) (.c 0)))) (.not (.eqI (.x 2) (.x 6))))) false 20 [(.one (.i .i64 (.x 4)))] (.p (.one (.i .i64 (.x 7)))) ⟨1, 0, 0, 0, 0, 0⟩
  (.ite (.or (.or (.or (.not (.eqI (.x 3) (.c 0))) (.not (.eqI (.x 5) (.c 0)))) (.not (.eqI (.x 2) (.x 6)))) (.not (.eqI (.x 4) (.x 7))))
  (.ret (.tup [(.agg [(.i .i64 (.c 0)), (.i .i64 (.c 0))]), (.one (.i .i64 (.c 14)))]))
  (.ret (.tup [(.agg [(.i .i64 (.x 2)), (.i .i64 (.x 4))]), (.one (.i .i64 (.c 0)))]))))))))))))))))))))))
  (.call (.c true) false 40 [(.one (.s (.x 0))), (.one (.i .i64 (.c 0)))] (.p (.one (.i .i64 (.x 0)))) ⟨1, 0, 0, 0, 0, 0⟩
  (.need (.not (.le (.len (.x 0)) (.x 0))) (.and (.le (.c 0) (.x 0)) (.lt (.x 0) (.len (.x 0))))
  (.need (.and (.not (.le (.len (.x 0)) (.x 0))) (.not (.eqI (.at (.x 0) (.x 0)) (.c 43)))) (.and (.le (.c 0) (.x 0)) (.lt (.x 0) (.len (.x 0))))
  (.ite (.or (.le (.len (.x 0)) (.x 0)) (.and (.not (.eqI (.at (.x 0) (.x 0)) (.c 43))) (.not (.eqI (.at (.x 0) (.x 0)) (.c 45)))))
  (.ret (.tup [(.agg [(.i .i64 (.c 0)), (.i .i64 (.c 0))]), (.one (.i .i64 (.c 2)))]))
  (.need (.c true) (.and (.le (.c (-9223372036854775808)) (.add (.x 0) (.c 1))) (.le (.add (.x 0) (.c 1)) (.c 9223372036854775807)))
  (.call (.c true) false 40 [(.one (.s (.x 0))), (.one (.i .i64 (.add (.x 0) (.c 1))))] (.p (.one (.i .i64 (.x 1)))) ⟨1, 0, 0, 0, 0, 0⟩
  (.need (.c true) (.and (.le (.c (-9223372036854775808)) (.sub (.len (.x 0)) (.c 1))) (.le (.sub (.len (.x 0)) (.c 1)) (.c 9223372036854775807)))
  (.need (.eqI (.x 1) (.sub (.len (.x 0)) (.c 1))) (.and (.le (.c 0) (.x 1)) (.lt (.x 1) (.len (.x 0))))
  (.ite (.or (.not (.eqI (.x 1) (.sub (.len (.x 0)) (.c 1)))) (.not (.eqI (.at (.x 0) (.x 1)) (.c 105))))
  (.ret (.tup [(.agg [(.i .i64 (.c 0)), (.i .i64 (.c 0))]), (.one (.i .i64 (.c 2)))]))
  (.need (.c true) (.and (.and (.le (.c 0) (.x 1)) (.le (.x 1) (.len (.x 0)))) (.and (.le (.c 0) (.x 0)) (.le (.x 0) (.x 1))))
  (.need (.c true) (.and (.le (.c 0) (.x 0)) (.lt (.x 0) (.len (.x 0))))
  (.ite (.eqI (.at (.x 0) (.x 0)) (.c 43))
  (.need (.c true) (.and (.and (.le (.c 0) (.x 1)) (.le (.x 1) (.len (.x 0)))) (.and (.le (.c 0) (.add (.x 0) (.c 1))) (.le (.add (.x 0) (.c 1)) (.x 1))))
  (.need (.c true) (.and (.le (.c 0) (.x 0)) (.le (.x 0) (.len (.x 0))))
  (.call (.c true) false 41 [(.one (.s (.sub (.x 0) (.c 0) (.x 0))))] (.tup [(.one (.i .i64 (.x 2))), (.one (.i .i64 (.x 3)))]) ⟨2, 0, 0, 0, 0, 0⟩
  (.call (.c true) false 41 [(.one (.s (.sub (.x 0) (.add (.x 0) (.c 1)) (.x 1))))] (.tup [(.one (.i .i64 (.x 4))), (.one (.i .i64 (.x 5)))]) ⟨2, 0, 0, 0, 0, 0⟩
  (.ite (.or (.eqI (.x 3) (.c 2)) (.eqI (.x 5) (.c 2)))
  (.ret (.tup [(.agg [(.i .i64 (.c 0)), (.i .i64 (.c 0))]), (.one (.i .i64 (.c 2)))]))
  (.call (.not (.or (.not (.eqI (.x 3) (.c 0))) (.not (.eqI (.x 5) (.c 0))))) false 20 [(.one (.i .i64 (.x 2)))] (.p (.one (.i .i64 (.x 6)))) ⟨1, 0, 0, 0, 0, 0⟩
  (.call (.not (.or (.or (.not (.eqI (.x 3) (.c 0))) (.not (.eqI (.x 5) (.c 0)))) (.not (.eqI (.x 2) (.x 6))))) false 20 [(.one (.i .i64 (.x 4)))] (.p (.one (.i .i64 (.x 7)))) ⟨1, 0, 0, 0, 0, 0⟩
  (.ite (.or (.or (.or (.not (.eqI (.x 3) (.c 0))) (.not (.eqI (.x 5) (.c 0)))) (.not (.eqI (.x 2) (.x 6)))) (.not (.eqI (.x 4) (.x 7))))
  (.ret (.tup [(.agg [(.i .i64 (.c 0)), (.i .i64 (.c 0))]), (.one (.i .i64 (.c 14)))]))
  (.ret (.tup [(.agg [(.i .i64 (.x 2)), (.i .i64 (.x 4))]), (.one (.i .i64 (.c 0)))]))))))))))
  (.need (.c true) (.and (.le (.c 0) (.x 0)) (.le (.x 0) (.len (.x 0))))
  (.call (.c true) false 41 [(.one (.s (.sub (.x 0) (.c 0) (.x 0))))] (.tup [(.one (.i .i64 (.x 2))), (.one (.i .i64 (.x 3)))]) ⟨2, 0, 0, 0, 0, 0⟩
  (.call (.c true) false 41 [(.one (.s (.sub (.x 0) (.x 0) (.x 1))))] (.tup [(.one (.i .i64 (.x 4))), (.one (.i .i64 (.x 5)))]) ⟨2, 0, 0, 0, 0, 0⟩
  (.ite (.or (.eqI (.x 3) (.c 2)) (.eqI (.x 5) (.c 2)))
  (.ret (.tup [(.agg [(.i .i64 (.c 0)), (.i .i64 (.c 0))]), (.one (.i .i64 (.c 2)))]))
  (.call (.not (.or (.not (.eqI (.x 3) (.c 0))) (.not (.eqI (.x 5) (.c 0))))) false 20 [(.one (.i .i64 (.x 2)))] (.p (.one (.i .i64 (.x 6)))) ⟨1, 0, 0, 0, 0, 0⟩
  (.call (.not (.or (.or (.not (.eqI (.x 3) (.c 0))) (.not (.eqI (.x 5) (.c 0)))) (.not (.eqI (.x 2) (.x 6))))) false 20 [(.one (.i .i64 (.x 4)))] (.p (.one (.i .i64 (.x 7)))) ⟨1, 0, 0, 0, 0, 0⟩
  (.ite (.or (.or (.or (.not (.eqI (.x 3) (.c 0))) (.not (.eqI (.x 5) (.c 0)))) (.not (.eqI (.x 2) (.x 6)))) (.not (.eqI (.x 4) (.x 7))))
  (.ret (.tup [(.agg [(.i .i64 (.c 0)), (.i .i64 (.c 0))]), (.one (.i .i64 (.c 14)))]))
  (.ret (.tup [(.agg [(.i .i64 (.x 2)), (.i .i64 (.x 4))]), (.one (.i .i64 (.c 0)))])))))))))))))))))))))))
theorem gen_rread : genFn ⟨true, []⟩ Tryd.prog (fun l => ([] : List LAnn).getD l ⟨[], [], []⟩) Tryd.f28 = fm_rread := by kernel_rfl
theorem ps_rread : freshPs Tryd.prog .zero Tryd.f28.params.toList = some ([(.one (.s (.x 0)))], ⟨0, 0, 1, 0, 0, 0⟩) := by kernel_rfl
theorem ek_le (l : List UInt8) (i : Nat) (h : i ≤ l.length) : i ≤ ek l i ∧ ek l i ≤ l.length := by
  obtain ⟨d, t, h1, _, h3, _⟩ := ek_split l i
  have := congrArg List.length h1
  rw [List.length_drop, List.length_append] at this
  omega
theorem ek_end (l : List UInt8) (i : Nat) (h : l.length ≤ i) : ek l i = i := by
  unfold ek; rw [List.drop_eq_nil_of_le h]; rfl
theorem ek_yes (l : List UInt8) (i : Nat) (h : i < l.length) (h0 : 48 ≤ bt l i) (h1 : bt l i ≤ 57) : ek l i = ek l (i + 1) := by
  rw [bt_eq l i h] at h0 h1
  have hd : isDig l[i] = true := by simp [isDig]; omega
  unfold ek
  rw [List.drop_eq_getElem_cons h, List.takeWhile_cons, hd, if_pos rfl, List.length_cons]
  omega
theorem ek_no (l : List UInt8) (i : Nat) (h : i < l.length) (h0 : ¬ (48 ≤ bt l i ∧ bt l i ≤ 57)) : ek l i = i := by
  rw [bt_eq l i h] at h0
  have hd : isDig l[i] = false := by simp [isDig]; omega
  unfold ek
  rw [List.drop_eq_getElem_cons h, List.takeWhile_cons, hd]
  simp
set_option maxHeartbeats 2000000 in
def ctRDigits : Ct Tryd.prog where
  f := 40
  spec := fun args h φ => ∃ s i, args = [.string (B s), .int .i64 i] ∧ 0 ≤ i ∧ i ≤ s.length ∧ s.length ≤ 1000000 ∧ φ (.int .i64 (ek s i.toNat : Nat)) h
  ok := by
    rintro args h φ w ⟨s, i, rfl, h0, h1, h2, hφ⟩ hH
    obtain ⟨a, rfl⟩ : ∃ n : Nat, i = n := ⟨i.toNat, by omega⟩
    rw [Int.toNat_natCast] at hφ
    refine by_fm Tryd.func40 gen_rdigits ps_rdigits [] φ (fun _ C => ∃ k : Nat, C = ⟨[a, k], [], [s], [], [], [], h, noM⟩ ∧ k ≤ s.length ∧ ek s a = ek s k) (fun _ C => (s.length - C.i.getD 1 0).toNat) ⟨[a], [], [s], [], [], [], h, noM⟩ ⟨rfl, rfl, rfl, rfl, rfl, rfl⟩ ones_nil ?_ w hH rfl
    refine loop_intro ⟨a, rfl, by omega, rfl⟩ ?_
    rintro i bb ss v ll pp hh M ⟨k, hC, h3, h4⟩ hM
    cases hC
    have hM' : M 0 = ((s.length : Int) - k).toNat := hM
    have fin : ek s k = k → φ (.int .i64 k) h := fun h0 => by
      rw [h4, h0] at hφ; exact hφ
    by_cases hk : k < s.length
    · have hlt : (k : Int) < s.length := by omega
      by_cases hb : 48 ≤ bt s k ∧ bt s k ≤ 57
      · have hy := ek_yes s k hk hb.1 hb.2
        obtain ⟨b1, b2⟩ := hb
        rw [← then_step]
        iterate 90 (first | (simp only [then_step]; simp [go_sem, hlt, hk, b1, b2]) | skip)
        (repeat' apply And.intro) <;> first | omega | exact ⟨k + 1, by omega, by omega, by omega⟩
      · have := fin (ek_no s k hk hb)
        by_cases b1 : 48 ≤ bt s k
        · have b2 : ¬ bt s k ≤ 57 := fun h => hb ⟨b1, h⟩
          rw [← then_step]
          iterate 90 (first | (simp only [then_step]; simp [go_sem, hlt, hk, b1, b2, this]) | skip)
        · rw [← then_step]
          iterate 90 (first | (simp only [then_step]; simp [go_sem, hlt, hk, b1, this]) | skip)
    · have hge : ¬ ((k : Int) < s.length) := by omega
      have := fin (ek_end s k (by omega))
      rw [← then_step]
      iterate 90 (first | (simp only [then_step]; simp [go_sem, hge, this]) | skip)
def ctRNum : Ct Tryd.prog where
  f := 41
  spec := fun args h φ => ∃ l, args = [.string (B l)] ∧ l.length < 1000000 ∧ φ (.tuple #[.int .i64 (pv l).1, .int .i64 (pv l).2]) h
  ok := by rintro args h φ w ⟨l, rfl, hl, hφ⟩ hH; exact ct_value (rparse_any l w hl) hφ hH
def ctRPart : Ct Tryd.prog where
  f := 20
  spec := fun args h φ => ∃ n, args = [.int .i64 n] ∧ φ (.int .i64 (P24 n)) h
  ok := by rintro args h φ w ⟨n, rfl, hφ⟩ hH; exact ct_same (rpart_any n w) hφ hH
/-- What the document's answer ends with. -/
theorem fin_pair (p q : Int × Int) {φ : Value → Prop} (h : φ (gv (pairUp p q))) :
    (if p.2 = 2 ∨ q.2 = 2 then φ (gv (0, 0, 2)) else if p.2 ≠ 0 ∨ q.2 ≠ 0 ∨ p.1 ≠ P24 p.1 ∨ q.1 ≠ P24 q.1 then φ (gv (0, 0, 14)) else φ (gv (p.1, q.1, 0))) := by
  unfold pairUp at h
  split
  · rename_i h1; rwa [if_pos h1] at h
  · rename_i h1
    rw [if_neg h1] at h
    split
    · rename_i h2; rwa [if_pos h2] at h
    · rename_i h2; rwa [if_neg h2] at h
set_option maxRecDepth 100000 in
set_option maxHeartbeats 8000000 in
theorem rread_any (s : List UInt8) (hs : s.length ≤ 1000) (w : World) : Calls Tryd.prog 28 #[.string (B s)] w fun e w' => e = .returned (gv (gp s)) ∧ Below w.heap.size w w' := by
  refine by_fm0 Tryd.func28 gen_rread ps_rread [ctRDigits, ctRNum, ctRPart] (gv (gp s)) noInv noMeas ⟨[], [], [s], [], [], [], noHeap, noM⟩ rfl ⟨rfl, rfl, rfl, rfl, rfl, rfl⟩ ones_nil ?_ w rfl
  rw [← rgp_eq]
  have hr : rgp s = _ := rfl
  conv at hr => rhs; unfold rgp
  by_cases hl : 0 < s.length ∧ bt s 0 = 45
  · obtain ⟨l1, l2⟩ := hl
    rw [if_pos l2] at hr
    have hk := ek_le s 1 (by omega)
    have he := ek_le s (ek s 1 + 1)
    rw [← then_step]; unfold fm_rread
    iterate 90 (first | (simp only [then_step]; simp [go_sem, ctRDigits, ctRNum, ctRPart, l1, l2]) | skip)
    generalize ek s 1 = k at *
    generalize ek s (k + 1) = e at *
    generalize hp : pv (List.take k s) = p at *
    by_cases b43 : bt s k = 43
    · rw [if_pos b43] at hr
      generalize hq : pv (List.drop (k + 1) (List.take e s)) = q at *
      obtain ⟨a, ae⟩ := p
      obtain ⟨b, be⟩ := q
      clear hp hq
      simp only [pairUp] at hr
      dsimp only at *
      generalize P24 a = a' at *
      generalize P24 b = b' at *
      (repeat' first | apply And.intro | split | (intro _)) <;> first | omega | (rw [hr]; first | (rw [if_pos (by omega)]; rfl) | (rw [if_neg (by omega), if_pos (by omega)]; rfl) | (rw [if_neg (by omega), if_neg (by omega)]; first | (rw [if_pos (by omega)]; rfl) | (rw [if_neg (by omega), if_pos (by omega)]; rfl) | (rw [if_neg (by omega), if_neg (by omega)]; rfl)))
    · rw [if_neg b43] at hr
      generalize hq : pv (List.drop k (List.take e s)) = q at *
      obtain ⟨a, ae⟩ := p
      obtain ⟨b, be⟩ := q
      clear hp hq
      simp only [pairUp] at hr
      dsimp only at *
      generalize P24 a = a' at *
      generalize P24 b = b' at *
      (repeat' first | apply And.intro | split | (intro _)) <;> first | omega | (rw [hr]; first | (rw [if_pos (by omega)]; rfl) | (rw [if_neg (by omega), if_pos (by omega)]; rfl) | (rw [if_neg (by omega), if_neg (by omega)]; first | (rw [if_pos (by omega)]; rfl) | (rw [if_neg (by omega), if_pos (by omega)]; rfl) | (rw [if_neg (by omega), if_neg (by omega)]; rfl)))
  · have l2 : ¬ bt s 0 = 45 := by
      intro h
      refine hl ⟨?_, h⟩
      match s, h with
      | _ :: _, _ => simp
    rw [if_neg l2] at hr
    have hk := ek_le s 0 (by omega)
    have he := ek_le s (ek s 0 + 1)
    rw [← then_step]; unfold fm_rread
    iterate 90 (first | (simp only [then_step]; simp [go_sem, ctRDigits, ctRNum, ctRPart, l2]) | skip)
    generalize ek s 0 = k at *
    generalize ek s (k + 1) = e at *
    generalize hp : pv (List.take k s) = p at *
    by_cases b43 : bt s k = 43
    · rw [if_pos b43] at hr
      generalize hq : pv (List.drop (k + 1) (List.take e s)) = q at *
      obtain ⟨a, ae⟩ := p
      obtain ⟨b, be⟩ := q
      clear hp hq
      simp only [pairUp] at hr
      dsimp only at *
      generalize P24 a = a' at *
      generalize P24 b = b' at *
      (repeat' first | apply And.intro | split | (intro _)) <;> first | omega | (rw [hr]; first | (rw [if_pos (by omega)]; rfl) | (rw [if_neg (by omega), if_pos (by omega)]; rfl) | (rw [if_neg (by omega), if_neg (by omega)]; first | (rw [if_pos (by omega)]; rfl) | (rw [if_neg (by omega), if_pos (by omega)]; rfl) | (rw [if_neg (by omega), if_neg (by omega)]; rfl)))
    · rw [if_neg b43] at hr
      generalize hq : pv (List.drop k (List.take e s)) = q at *
      obtain ⟨a, ae⟩ := p
      obtain ⟨b, be⟩ := q
      clear hp hq
      simp only [pairUp] at hr
      dsimp only at *
      generalize P24 a = a' at *
      generalize P24 b = b' at *
      (repeat' first | apply And.intro | split | (intro _)) <;> first | omega | (rw [hr]; first | (rw [if_pos (by omega)]; rfl) | (rw [if_neg (by omega), if_pos (by omega)]; rfl) | (rw [if_neg (by omega), if_neg (by omega)]; first | (rw [if_pos (by omega)]; rfl) | (rw [if_neg (by omega), if_pos (by omega)]; rfl) | (rw [if_neg (by omega), if_neg (by omega)]; rfl)))
end Go.Proofs.YtoagnjnkgecmkaaDoor
