/- Tokens, part W: the reference reads a literal. -/
import Derived.Test.YtogalfbemmcaaaaDoorLexU
namespace Go.Proofs.YtogalfbemmcaaaaDoor
open Go.RowKit
attribute [local go_sem] says_tt says_ff th_need th_ite th_call th_load th_store says_ret says_again BE.den IE.den SE.den LE.den AE.den CE.den PE.den VE.den KV.val Got.den Got.cnt exI allI exL allL Ctx.push Ctx.heap Ctx.cut Ctx.bare Ctx.mark Inc.blank List.getD_cons_zero List.getD_cons_succ List.cons_append List.nil_append List.append_nil List.map_cons List.map_nil List.replicate_zero List.replicate_succ specOf ltB_t leB_t ltB_f leB_f slc_val slc_nil slc_inj pt_val pt_nil hle_noHeap hle_refl hread_set hwrite_set set_same set_set noHeap_at B_inj ones_nil and_assoc
def fm_rvalue : Fm := (.ite (.and (.le (.c 48) (.x 0)) (.le (.x 0) (.c 57)))
  (.need (.c true) (.and (.le (.c (-9223372036854775808)) (.sub (.wr .i64 (.x 0)) (.c 48))) (.le (.sub (.wr .i64 (.x 0)) (.c 48)) (.c 9223372036854775807)))
  (.ret (.p (.one (.i .i64 (.sub (.wr .i64 (.x 0)) (.c 48)))))))
  (.ite (.and (.le (.c 97) (.x 0)) (.le (.x 0) (.c 102)))
  (.need (.c true) (.and (.le (.c (-9223372036854775808)) (.sub (.wr .i64 (.x 0)) (.c 87))) (.le (.sub (.wr .i64 (.x 0)) (.c 87)) (.c 9223372036854775807)))
  (.ret (.p (.one (.i .i64 (.sub (.wr .i64 (.x 0)) (.c 87)))))))
  (.ite (.and (.le (.c 65) (.x 0)) (.le (.x 0) (.c 70)))
  (.need (.c true) (.and (.le (.c (-9223372036854775808)) (.sub (.wr .i64 (.x 0)) (.c 55))) (.le (.sub (.wr .i64 (.x 0)) (.c 55)) (.c 9223372036854775807)))
  (.ret (.p (.one (.i .i64 (.sub (.wr .i64 (.x 0)) (.c 55)))))))
  (.ret (.p (.one (.i .i64 (.c (-1)))))))))
theorem gen_rvalue : genFn ⟨true, []⟩ Tryd.prog (fun l => ([] : List LAnn).getD l ⟨[], [], []⟩) Tryd.f43 = fm_rvalue := by kernel_rfl
theorem ps_rvalue : freshPs Tryd.prog .zero Tryd.f43.params.toList = some ([(.one (.i .u8 (.x 0)))], ⟨1, 0, 0, 0, 0, 0⟩) := by kernel_rfl
def fm_rread : Fm := (.need (.not (.eqI (.len (.x 0)) (.c 0))) (.and (.le (.c 0) (.c 0)) (.lt (.c 0) (.len (.x 0))))
  (.ite (.or (.eqI (.len (.x 0)) (.c 0)) (.not (.eqI (.at (.x 0) (.c 0)) (.c 34))))
  (.ret (.tup [(.one (.s (.c []))), (.one (.i .i64 (.c 0))), (.one (.b (.c false)))]))
  (.mk [] 5 0
  (.loop 0 ⟨[(.c 0), (.c 1)], [(.c false)], [(.c [])], [], [(.x 0)], []⟩
  (.ite (.lt (.x 1) (.len (.x 0)))
  (.need (.c true) (.and (.le (.c 0) (.x 1)) (.lt (.x 1) (.len (.x 0))))
  (.ite (.or (.lt (.at (.x 0) (.x 1)) (.c 32)) (.lt (.c 126) (.at (.x 0) (.x 1))))
  (.ret (.tup [(.one (.s (.c []))), (.one (.i .i64 (.x 1))), (.one (.b (.c false)))]))
  (.ite (.eqI (.at (.x 0) (.x 1)) (.c 34))
  (.str (.x 1)
  (.need (.c true) (.and (.le (.c (-9223372036854775808)) (.add (.x 1) (.c 1))) (.le (.add (.x 1) (.c 1)) (.c 9223372036854775807)))
  (.ret (.tup [(.one (.s (.x 2))), (.one (.i .i64 (.add (.x 1) (.c 1)))), (.one (.b (.c true)))]))))
  (.ite (.not (.eqI (.at (.x 0) (.x 1)) (.c 92)))
  (.mk [(.i .u8 (.at (.x 0) (.x 1)))] 5 1
  (.app (.x 1) (.x 2) 1 1 5
  (.need (.c true) (.and (.le (.c (-9223372036854775808)) (.add (.x 1) (.c 1))) (.le (.add (.x 1) (.c 1)) (.c 9223372036854775807)))
  (.again 0 ⟨0, 0, 1, 0, 1, 0⟩ ⟨2, 1, 2, 0, 2, 0⟩ ⟨[(.x 0), (.add (.x 1) (.c 1))], [(.x 0)], [(.x 1)], [], [(.x 3)], []⟩))))
  (.need (.c true) (.and (.le (.c (-9223372036854775808)) (.add (.x 1) (.c 1))) (.le (.add (.x 1) (.c 1)) (.c 9223372036854775807)))
  (.ite (.le (.len (.x 0)) (.add (.x 1) (.c 1)))
  (.ret (.tup [(.one (.s (.c []))), (.one (.i .i64 (.add (.x 1) (.c 1)))), (.one (.b (.c false)))]))
  (.need (.c true) (.and (.le (.c 0) (.add (.x 1) (.c 1))) (.lt (.add (.x 1) (.c 1)) (.len (.x 0))))
  (.ite (.eqI (.at (.x 0) (.add (.x 1) (.c 1))) (.c 34))
  (.ite (.eqI (.at (.x 0) (.add (.x 1) (.c 1))) (.c 34))
  (.need (.c true) (.and (.le (.c 0) (.add (.x 1) (.c 1))) (.lt (.add (.x 1) (.c 1)) (.len (.x 0))))
  (.mk [(.i .u8 (.at (.x 0) (.add (.x 1) (.c 1))))] 5 1
  (.app (.x 1) (.x 2) 1 1 5
  (.need (.c true) (.and (.le (.c (-9223372036854775808)) (.add (.add (.x 1) (.c 1)) (.c 1))) (.le (.add (.add (.x 1) (.c 1)) (.c 1)) (.c 9223372036854775807)))
  (.again 0 ⟨0, 0, 1, 0, 1, 0⟩ ⟨2, 1, 2, 0, 2, 0⟩ ⟨[(.x 0), (.add (.add (.x 1) (.c 1)) (.c 1))], [(.x 0)], [(.x 1)], [], [(.x 3)], []⟩)))))
  (.ite (.eqI (.at (.x 0) (.add (.x 1) (.c 1))) (.c 110))
  (.mk [(.i .u8 (.c 10))] 5 1
  (.app (.x 1) (.x 2) 1 1 5
  (.need (.c true) (.and (.le (.c (-9223372036854775808)) (.add (.add (.x 1) (.c 1)) (.c 1))) (.le (.add (.add (.x 1) (.c 1)) (.c 1)) (.c 9223372036854775807)))
  (.again 0 ⟨0, 0, 1, 0, 1, 0⟩ ⟨2, 1, 2, 0, 2, 0⟩ ⟨[(.x 0), (.add (.add (.x 1) (.c 1)) (.c 1))], [(.x 0)], [(.x 1)], [], [(.x 3)], []⟩))))
  (.ite (.eqI (.at (.x 0) (.add (.x 1) (.c 1))) (.c 116))
  (.mk [(.i .u8 (.c 9))] 5 1
  (.app (.x 1) (.x 2) 1 1 5
  (.need (.c true) (.and (.le (.c (-9223372036854775808)) (.add (.add (.x 1) (.c 1)) (.c 1))) (.le (.add (.add (.x 1) (.c 1)) (.c 1)) (.c 9223372036854775807)))
  (.again 0 ⟨0, 0, 1, 0, 1, 0⟩ ⟨2, 1, 2, 0, 2, 0⟩ ⟨[(.x 0), (.add (.add (.x 1) (.c 1)) (.c 1))], [(.x 0)], [(.x 1)], [], [(.x 3)], []⟩))))
  (.ite (.eqI (.at (.x 0) (.add (.x 1) (.c 1))) (.c 120))
  (.loop 1 ⟨[(.x 0), (.c 1)], [(.x 0)], [(.x 1)], [], [], []⟩
  (.ite (.le (.x 3) (.c 2))
  (.need (.c true) (.and (.le (.c (-9223372036854775808)) (.add (.add (.x 1) (.c 1)) (.x 3))) (.le (.add (.add (.x 1) (.c 1)) (.x 3)) (.c 9223372036854775807)))
  (.need (.not (.le (.len (.x 0)) (.add (.add (.x 1) (.c 1)) (.x 3)))) (.and (.le (.c (-9223372036854775808)) (.add (.add (.x 1) (.c 1)) (.x 3))) (.le (.add (.add (.x 1) (.c 1)) (.x 3)) (.c 9223372036854775807)))
  (.need (.not (.le (.len (.x 0)) (.add (.add (.x 1) (.c 1)) (.x 3)))) (.and (.le (.c 0) (.add (.add (.x 1) (.c 1)) (.x 3))) (.lt (.add (.add (.x 1) (.c 1)) (.x 3)) (.len (.x 0))))
  (.call (.not (.le (.len (.x 0)) (.add (.add (.x 1) (.c 1)) (.x 3)))) false 43 [(.one (.i .u8 (.at (.x 0) (.add (.add (.x 1) (.c 1)) (.x 3)))))] (.p (.one (.i .i64 (.x 4)))) ⟨1, 0, 0, 0, 0, 0⟩
  (.ite (.or (.le (.len (.x 0)) (.add (.add (.x 1) (.c 1)) (.x 3))) (.lt (.x 4) (.c 0)))
  (.need (.c true) (.and (.le (.c (-9223372036854775808)) (.add (.add (.x 1) (.c 1)) (.x 3))) (.le (.add (.add (.x 1) (.c 1)) (.x 3)) (.c 9223372036854775807)))
  (.ret (.tup [(.one (.s (.c []))), (.one (.i .i64 (.add (.add (.x 1) (.c 1)) (.x 3)))), (.one (.b (.c false)))])))
  (.need (.c true) (.and (.le (.c (-9223372036854775808)) (.add (.x 3) (.c 1))) (.le (.add (.x 3) (.c 1)) (.c 9223372036854775807)))
  (.again 1 ⟨2, 1, 2, 0, 2, 0⟩ ⟨4, 2, 3, 0, 2, 0⟩ ⟨[(.x 2), (.add (.x 3) (.c 1))], [(.x 1)], [(.x 2)], [], [], []⟩)))))))
  (.need (.c true) (.and (.le (.c (-9223372036854775808)) (.add (.add (.x 1) (.c 1)) (.c 1))) (.le (.add (.add (.x 1) (.c 1)) (.c 1)) (.c 9223372036854775807)))
  (.need (.c true) (.and (.le (.c 0) (.add (.add (.x 1) (.c 1)) (.c 1))) (.lt (.add (.add (.x 1) (.c 1)) (.c 1)) (.len (.x 0))))
  (.need (.c true) (.and (.le (.c (-9223372036854775808)) (.add (.add (.x 1) (.c 1)) (.c 2))) (.le (.add (.add (.x 1) (.c 1)) (.c 2)) (.c 9223372036854775807)))
  (.need (.c true) (.and (.le (.c 0) (.add (.add (.x 1) (.c 1)) (.c 2))) (.lt (.add (.add (.x 1) (.c 1)) (.c 2)) (.len (.x 0))))
  (.call (.c true) false 43 [(.one (.i .u8 (.at (.x 0) (.add (.add (.x 1) (.c 1)) (.c 1)))))] (.p (.one (.i .i64 (.x 4)))) ⟨1, 0, 0, 0, 0, 0⟩
  (.need (.c true) (.and (.le (.c (-9223372036854775808)) (.mul (.x 4) (.c 16))) (.le (.mul (.x 4) (.c 16)) (.c 9223372036854775807)))
  (.call (.c true) false 43 [(.one (.i .u8 (.at (.x 0) (.add (.add (.x 1) (.c 1)) (.c 2)))))] (.p (.one (.i .i64 (.x 5)))) ⟨1, 0, 0, 0, 0, 0⟩
  (.need (.c true) (.and (.le (.c (-9223372036854775808)) (.add (.mul (.x 4) (.c 16)) (.x 5))) (.le (.add (.mul (.x 4) (.c 16)) (.x 5)) (.c 9223372036854775807)))
  (.mk [(.i .u8 (.wr .u8 (.add (.mul (.x 4) (.c 16)) (.x 5))))] 5 1
  (.app (.x 1) (.x 2) 1 1 5
  (.need (.c true) (.and (.le (.c (-9223372036854775808)) (.add (.add (.x 1) (.c 1)) (.c 2))) (.le (.add (.add (.x 1) (.c 1)) (.c 2)) (.c 9223372036854775807)))
  (.need (.c true) (.and (.le (.c (-9223372036854775808)) (.add (.add (.add (.x 1) (.c 1)) (.c 2)) (.c 1))) (.le (.add (.add (.add (.x 1) (.c 1)) (.c 2)) (.c 1)) (.c 9223372036854775807)))
  (.again 0 ⟨0, 0, 1, 0, 1, 0⟩ ⟨2, 1, 2, 0, 2, 0⟩ ⟨[(.x 2), (.add (.add (.add (.x 1) (.c 1)) (.c 2)) (.c 1))], [(.x 1)], [(.x 2)], [], [(.x 3)], []⟩)))))))))))))))
  (.ret (.tup [(.one (.s (.c []))), (.one (.i .i64 (.add (.x 1) (.c 1)))), (.one (.b (.c false)))]))))))
  (.ite (.eqI (.at (.x 0) (.add (.x 1) (.c 1))) (.c 92))
  (.need (.c true) (.and (.le (.c 0) (.add (.x 1) (.c 1))) (.lt (.add (.x 1) (.c 1)) (.len (.x 0))))
  (.mk [(.i .u8 (.at (.x 0) (.add (.x 1) (.c 1))))] 5 1
  (.app (.x 1) (.x 2) 1 1 5
  (.need (.c true) (.and (.le (.c (-9223372036854775808)) (.add (.add (.x 1) (.c 1)) (.c 1))) (.le (.add (.add (.x 1) (.c 1)) (.c 1)) (.c 9223372036854775807)))
  (.again 0 ⟨0, 0, 1, 0, 1, 0⟩ ⟨2, 1, 2, 0, 2, 0⟩ ⟨[(.x 0), (.add (.add (.x 1) (.c 1)) (.c 1))], [(.x 0)], [(.x 1)], [], [(.x 3)], []⟩)))))
  (.ite (.eqI (.at (.x 0) (.add (.x 1) (.c 1))) (.c 110))
  (.mk [(.i .u8 (.c 10))] 5 1
  (.app (.x 1) (.x 2) 1 1 5
  (.need (.c true) (.and (.le (.c (-9223372036854775808)) (.add (.add (.x 1) (.c 1)) (.c 1))) (.le (.add (.add (.x 1) (.c 1)) (.c 1)) (.c 9223372036854775807)))
  (.again 0 ⟨0, 0, 1, 0, 1, 0⟩ ⟨2, 1, 2, 0, 2, 0⟩ ⟨[(.x 0), (.add (.add (.x 1) (.c 1)) (.c 1))], [(.x 0)], [(.x 1)], [], [(.x 3)], []⟩))))
  (.ite (.eqI (.at (.x 0) (.add (.x 1) (.c 1))) (.c 116))
  (.mk [(.i .u8 (.c 9))] 5 1
  (.app (.x 1) (.x 2) 1 1 5
  (.need (.c true) (.and (.le (.c (-9223372036854775808)) (.add (.add (.x 1) (.c 1)) (.c 1))) (.le (.add (.add (.x 1) (.c 1)) (.c 1)) (.c 9223372036854775807)))
  (.again 0 ⟨0, 0, 1, 0, 1, 0⟩ ⟨2, 1, 2, 0, 2, 0⟩ ⟨[(.x 0), (.add (.add (.x 1) (.c 1)) (.c 1))], [(.x 0)], [(.x 1)], [], [(.x 3)], []⟩))))
  (.ite (.eqI (.at (.x 0) (.add (.x 1) (.c 1))) (.c 120))
  (.loop 1 ⟨[(.x 0), (.c 1)], [(.x 0)], [(.x 1)], [], [], []⟩
  (.ite (.le (.x 3) (.c 2))
  (.need (.c true) (.and (.le (.c (-9223372036854775808)) (.add (.add (.x 1) (.c 1)) (.x 3))) (.le (.add (.add (.x 1) (.c 1)) (.x 3)) (.c 9223372036854775807)))
  (.need (.not (.le (.len (.x 0)) (.add (.add (.x 1) (.c 1)) (.x 3)))) (.and (.le (.c (-9223372036854775808)) (.add (.add (.x 1) (.c 1)) (.x 3))) (.le (.add (.add (.x 1) (.c 1)) (.x 3)) (.c 9223372036854775807)))
  (.need (.not (.le (.len (.x 0)) (.add (.add (.x 1) (.c 1)) (.x 3)))) (.and (.le (.c 0) (.add (.add (.x 1) (.c 1)) (.x 3))) (.lt (.add (.add (.x 1) (.c 1)) (.x 3)) (.len (.x 0))))
  (.call (.not (.le (.len (.x 0)) (.add (.add (.x 1) (.c 1)) (.x 3)))) false 43 [(.one (.i .u8 (.at (.x 0) (.add (.add (.x 1) (.c 1)) (.x 3)))))] (.p (.one (.i .i64 (.x 4)))) ⟨1, 0, 0, 0, 0, 0⟩
  (.ite (.or (.le (.len (.x 0)) (.add (.add (.x 1) (.c 1)) (.x 3))) (.lt (.x 4) (.c 0)))
  (.need (.c true) (.and (.le (.c (-9223372036854775808)) (.add (.add (.x 1) (.c 1)) (.x 3))) (.le (.add (.add (.x 1) (.c 1)) (.x 3)) (.c 9223372036854775807)))
  (.ret (.tup [(.one (.s (.c []))), (.one (.i .i64 (.add (.add (.x 1) (.c 1)) (.x 3)))), (.one (.b (.c false)))])))
  (.need (.c true) (.and (.le (.c (-9223372036854775808)) (.add (.x 3) (.c 1))) (.le (.add (.x 3) (.c 1)) (.c 9223372036854775807)))
  (.again 1 ⟨2, 1, 2, 0, 2, 0⟩ ⟨4, 2, 3, 0, 2, 0⟩ ⟨[(.x 2), (.add (.x 3) (.c 1))], [(.x 1)], [(.x 2)], [], [], []⟩)))))))
  (.need (.c true) (.and (.le (.c (-9223372036854775808)) (.add (.add (.x 1) (.c 1)) (.c 1))) (.le (.add (.add (.x 1) (.c 1)) (.c 1)) (.c 9223372036854775807)))
  (.need (.c true) (.and (.le (.c 0) (.add (.add (.x 1) (.c 1)) (.c 1))) (.lt (.add (.add (.x 1) (.c 1)) (.c 1)) (.len (.x 0))))
  (.need (.c true) (.and (.le (.c (-9223372036854775808)) (.add (.add (.x 1) (.c 1)) (.c 2))) (.le (.add (.add (.x 1) (.c 1)) (.c 2)) (.c 9223372036854775807)))
  (.need (.c true) (.and (.le (.c 0) (.add (.add (.x 1) (.c 1)) (.c 2))) (.lt (.add (.add (.x 1) (.c 1)) (.c 2)) (.len (.x 0))))
  (.call (.c true) false 43 [(.one (.i .u8 (.at (.x 0) (.add (.add (.x 1) (.c 1)) (.c 1)))))] (.p (.one (.i .i64 (.x 4)))) ⟨1, 0, 0, 0, 0, 0⟩
  (.need (.c true) (.and (.le (.c (-9223372036854775808)) (.mul (.x 4) (.c 16))) (.le (.mul (.x 4) (.c 16)) (.c 9223372036854775807)))
  (.call (.c true) false 43 [(.one (.i .u8 (.at (.x 0) (.add (.add (.x 1) (.c 1)) (.c 2)))))] (.p (.one (.i .i64 (.x 5)))) ⟨1, 0, 0, 0, 0, 0⟩
  (.need (.c true) (.and (.le (.c (-9223372036854775808)) (.add (.mul (.x 4) (.c 16)) (.x 5))) (.le (.add (.mul (.x 4) (.c 16)) (.x 5)) (.c 9223372036854775807)))
  (.mk [(.i .u8 (.wr .u8 (.add (.mul (.x 4) (.c 16)) (.x 5))))] 5 1
  (.app (.x 1) (.x 2) 1 1 5
  (.need (.c true) (.and (.le (.c (-9223372036854775808)) (.add (.add (.x 1) (.c 1)) (.c 2))) (.le (.add (.add (.x 1) (.c 1)) (.c 2)) (.c 9223372036854775807)))
  (.need (.c true) (.and (.le (.c (-9223372036854775808)) (.add (.add (.add (.x 1) (.c 1)) (.c 2)) (.c 1))) (.le (.add (.add (.add (.x 1) (.c 1)) (.c 2)) (.c 1)) (.c 9223372036854775807)))
  (.again 0 ⟨0, 0, 1, 0, 1, 0⟩ ⟨2, 1, 2, 0, 2, 0⟩ ⟨[(.x 2), (.add (.add (.add (.x 1) (.c 1)) (.c 2)) (.c 1))], [(.x 1)], [(.x 2)], [], [(.x 3)], []⟩)))))))))))))))
  (.ret (.tup [(.one (.s (.c []))), (.one (.i .i64 (.add (.x 1) (.c 1)))), (.one (.b (.c false)))]))))))))))))))
  (.ret (.tup [(.one (.s (.c []))), (.one (.i .i64 (.len (.x 0)))), (.one (.b (.c false)))])))))))
theorem gen_rread : genFn ⟨true, []⟩ Tryd.prog (fun l => ([⟨[2, 3, 4, 5, 6], [18, 19, 20, 21, 24, 25, 26, 7, 27, 28, 29, 30, 31, 32, 33, 34, 35, 36, 37, 38, 39, 40, 41, 42, 43, 44, 45, 46, 47, 48, 49, 50, 51, 52, 53, 54, 55, 58, 57, 59, 60, 61, 62, 63, 64, 65, 67, 66, 68, 69, 70, 72, 71, 73, 74, 75, 77, 76, 8, 78, 79, 82, 83, 84, 85, 86, 87, 88, 89, 90, 91, 92, 93, 94, 95, 96, 97, 98, 99, 80, 81, 100, 101, 102, 103, 104, 105, 106, 107, 108, 109, 110, 111, 112, 113, 114, 115, 116, 117, 56, 22, 23], []⟩, ⟨[2, 3, 4, 8], [78, 79, 82, 83, 84, 85, 86, 87, 88, 89, 90, 91, 92, 93, 94, 95, 96, 97, 98, 99, 80, 81], []⟩] : List LAnn).getD l ⟨[], [], []⟩) Tryd.f29 = fm_rread := by kernel_rfl
theorem ps_rread : freshPs Tryd.prog .zero Tryd.f29.params.toList = some ([(.one (.s (.x 0)))], ⟨0, 0, 1, 0, 0, 0⟩) := by kernel_rfl
set_option maxHeartbeats 1000000 in
def ctRValue : Ct Tryd.prog where
  f := 43
  spec := fun args h φ => ∃ c : Int, args = [.int .u8 c] ∧ 0 ≤ c ∧ c ≤ 255 ∧ φ (.int .i64 (hx c)) h
  ok := by
    rintro args h φ w ⟨c, rfl, c0, c1, hφ⟩ hH
    refine by_fm Tryd.func43 gen_rvalue ps_rvalue [] φ noInv noMeas ⟨[c], [], [], [], [], [], h, noM⟩ ⟨rfl, rfl, rfl, rfl, rfl, rfl⟩ ones_nil ?_ w hH rfl
    have hw : IntKind.i64.wrap c = c := by rw [IntKind.wrap_i64]; omega
    unfold hx at hφ
    rw [← then_step]; unfold fm_rvalue
    by_cases h1 : 48 ≤ c ∧ c ≤ 57
    · rw [if_pos h1] at hφ
      iterate 4 (try simp only [then_step]; try simp [go_sem, h1.1, h1.2, hw])
      exact ⟨by omega, by omega, hφ⟩
    · rw [if_neg h1] at hφ
      by_cases h2 : 97 ≤ c ∧ c ≤ 102
      · rw [if_pos h2] at hφ
        have h1' : 48 ≤ c → ¬ c ≤ 57 := by omega
        iterate 5 (try simp only [then_step]; try simp [go_sem, h2.1, h2.2, hw])
        rw [if_neg h1]
        exact ⟨by omega, by omega, hφ⟩
      · rw [if_neg h2] at hφ
        by_cases h3 : 65 ≤ c ∧ c ≤ 70
        · rw [if_pos h3] at hφ
          iterate 6 (try simp only [then_step]; try simp [go_sem, h3.1, h3.2, hw])
          rw [if_neg h1, if_neg h2]
          exact ⟨by omega, by omega, hφ⟩
        · rw [if_neg h3] at hφ
          iterate 6 (try simp only [then_step]; try simp [go_sem, hw])
          rw [if_neg h1, if_neg h2, if_neg h3]
          exact hφ
/-- Bytes that are gathered. -/
structure BI (h : Hp) (sl : Slc) (acc : List UInt8) (hh : Hp) : Prop where
  own : OwnS hh sl (bcs acc) 5 1
  n : sl.n = acc.length
  nn : sl.a ≠ none
  fresh : ∀ z, sl.a = some z → h z.1 = none
  kept : HLe h hh
theorem by_app {E : Env} {C : Ctx} {x y : LE} {f : Fm} {h : Hp} {sl : Slc} {acc : List UInt8} {hh : Hp} (I : BI h sl acc hh) (hlen : acc.length ≤ 1000000) {b : Nat} (hb : hh b = none) {c : Int} (c0 : 0 ≤ c) (c1 : c ≤ 255)
    (hx : x.den C = sl) (hy : y.den C = ⟨some (b, 0), 1, 1⟩) (hC : C.h = hh.set b ⟨[.int .u8 c], 5⟩)
    (hk : ∀ s' k', BI h s' (acc ++ [ub c]) k' → f.says E ((C.push ⟨[], [], [], [], [s'], []⟩).heap k')) :
    (Fm.app x y 1 1 5 f).says E C := by
  have h1 := I.n
  have hcs : [Value.int .u8 c] = bcs [ub c] := by simp [bcs, ub_cell c0 c1]
  have hlt : ∀ z, sl.a = some z → z.1 ≠ b := fun z hz e => by
    rcases I.own with ⟨q, _⟩ | ⟨d, o, q1, q2, _⟩
    · rw [q] at hz; cases hz
    · rw [q1] at hz; cases hz; subst e; rw [hb] at q2; cases q2
  rw [says_app, hx, hy, hC]
  refine ⟨bcs acc, bcs [ub c], own_set I.own hlt _, ⟨by simp, ?_⟩, ?_, ?_, ?_, ?_⟩
  · rw [← hcs, hread_set, if_pos (by simp)]; rfl
  · rw [← hcs]; exact ones1 rfl
  · show sl.n + 1 ≤ maxLen; unfold maxLen; omega
  · show (sl.n + 1) * 1 ≤ _; omega
  · intro s' k' g1 g2 g3 g4
    refine hk s' k' ⟨by rw [bcs_app]; exact g1, by rw [show s'.n = sl.n + 1 from g2, h1]; simp, ?_, fun z hz => ?_, fun d o hd => ?_⟩
    · rcases g1 with ⟨q, _⟩ | ⟨d, o, q1, _⟩
      · rw [q] at g2
        have : (0 : Nat) = sl.n + 1 := g2
        omega
      · rw [q1]; simp
    · rcases g3 z hz with ⟨y', hy', e⟩ | hn
      · rw [← e]; exact I.fresh y' hy'
      · have m1 : z.1 ≠ b := fun e => by rw [e, set_same] at hn; cases hn
        rw [set_ne _ m1] at hn
        cases hq : h z.1 with
        | none => rfl
        | some o => rw [I.kept _ _ hq] at hn; cases hn
    · refine g4 d o (fun z hz e => by have := I.fresh z hz; rw [e, hd] at this; cases this) ?_
      rw [set_ne _ (fun e => by have := I.kept d o hd; rw [e, hb] at this; cases this)]
      exact I.kept d o hd
/-- What the slice holds, read. -/
theorem BI.bytes {h : Hp} {sl : Slc} {acc : List UInt8} {hh : Hp} (I : BI h sl acc hh) : BytesAt hh sl acc := by
  rcases I.own with ⟨q, _⟩ | ⟨d, o, q1, q2, _, q4, q5, _, q7⟩
  · exact absurd (by rw [q]) I.nn
  · refine .inr ?_
    rw [q1, hread_of q2, if_pos (by omega)]
    have : bcs acc = acc.map fun c => Value.int .u8 c.toNat := rfl
    rw [← this, q7, Nat.mul_one]; rfl
end Go.Proofs.YtogalfbemmcaaaaDoor
