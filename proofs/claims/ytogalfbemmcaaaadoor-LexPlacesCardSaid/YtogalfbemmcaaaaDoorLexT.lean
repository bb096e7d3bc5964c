/- Tokens, part T: literals as the program reads them. -/
import Derived.Test.YtogalfbemmcaaaaDoorLexS
import Derived.Test.YtogalfbemmcaaaaDoorShelf
namespace Go.Proofs.YtogalfbemmcaaaaDoor
open Go.RowKit
attribute [local go_sem] says_tt says_ff th_need th_ite th_call th_load th_store th_mk th_new th_mks th_str says_ret says_again says_app BE.den IE.den SE.den LE.den AE.den CE.den PE.den VE.den KV.val Got.den Got.cnt exI allI exL allL Ctx.push Ctx.heap Ctx.cut Ctx.bare Ctx.mark Inc.blank List.getD_cons_zero List.getD_cons_succ List.cons_append List.nil_append List.append_nil List.map_cons List.map_nil List.replicate_zero List.replicate_succ specOf ltB_t leB_t ltB_f leB_f slc_val slc_nil slc_inj pt_val pt_nil hle_noHeap hle_refl hread_set hwrite_set set_same set_set noHeap_at B_inj ones_nil and_assoc
def fm_qdigit : Fm := (.ite (.and (.le (.c 65) (.x 0)) (.le (.x 0) (.c 70)))
  (.call (.c true) false 63 [(.one (.s (.c [48, 49, 50, 51, 52, 53, 54, 55, 56, 57, 97, 98, 99, 100, 101, 102]))), (.one (.i .u8 (.wr .u8 (.add (.x 0) (.c 32)))))] (.p (.one (.i .i64 (.x 1)))) ⟨1, 0, 0, 0, 0, 0⟩
  (.ret (.p (.one (.i .i64 (.x 1))))))
  (.call (.c true) false 63 [(.one (.s (.c [48, 49, 50, 51, 52, 53, 54, 55, 56, 57, 97, 98, 99, 100, 101, 102]))), (.one (.i .u8 (.x 0)))] (.p (.one (.i .i64 (.x 1)))) ⟨1, 0, 0, 0, 0, 0⟩
  (.ret (.p (.one (.i .i64 (.x 1)))))))
theorem gen_qdigit : genFn ⟨true, []⟩ Tryd.prog (fun l => ([] : List LAnn).getD l ⟨[], [], []⟩) Tryd.f58 = fm_qdigit := by kernel_rfl
theorem ps_qdigit : freshPs Tryd.prog .zero Tryd.f58.params.toList = some ([(.one (.i .u8 (.x 0)))], ⟨1, 0, 0, 0, 0, 0⟩) := by kernel_rfl
def fm_qread : Fm := (.need (.not (.eqS (.x 0) (.c []))) (.and (.le (.c 0) (.c 0)) (.lt (.c 0) (.len (.x 0))))
  (.ite (.or (.eqS (.x 0) (.c [])) (.not (.eqI (.at (.x 0) (.c 0)) (.c 34))))
  (.ret (.tup [(.one (.s (.c []))), (.one (.i .i64 (.c 0))), (.one (.b (.c false)))]))
  (.new [(.c .nilp), (.sl .nil)] 82
  (.loop 0 ⟨[(.c 0), (.c 1)], [(.c false)], [(.c [])], [], [], []⟩
  (.need (.not (.eqI (.x 1) (.len (.x 0)))) (.and (.le (.c 0) (.x 1)) (.lt (.x 1) (.len (.x 0))))
  (.need (.not (.or (.eqI (.x 1) (.len (.x 0))) (.lt (.at (.x 0) (.x 1)) (.c 32)))) (.and (.le (.c 0) (.x 1)) (.lt (.x 1) (.len (.x 0))))
  (.ite (.or (.or (.eqI (.x 1) (.len (.x 0))) (.lt (.at (.x 0) (.x 1)) (.c 32))) (.lt (.c 126) (.at (.x 0) (.x 1))))
  (.ret (.tup [(.one (.s (.c []))), (.one (.i .i64 (.x 1))), (.one (.b (.c false)))]))
  (.need (.c true) (.and (.le (.c 0) (.x 1)) (.lt (.x 1) (.len (.x 0))))
  (.ite (.eqI (.at (.x 0) (.x 1)) (.c 34))
  (.call (.c true) false 56 [(.one (.pt 0))] (.p (.one (.s (.x 2)))) ⟨0, 0, 1, 0, 0, 0⟩
  (.need (.c true) (.and (.le (.c (-9223372036854775808)) (.add (.x 1) (.c 1))) (.le (.add (.x 1) (.c 1)) (.c 9223372036854775807)))
  (.ret (.tup [(.one (.s (.x 2))), (.one (.i .i64 (.add (.x 1) (.c 1)))), (.one (.b (.c true)))]))))
  (.ite (.not (.eqI (.at (.x 0) (.x 1)) (.c 92)))
  (.call (.c true) false 57 [(.one (.pt 0)), (.one (.i .u8 (.at (.x 0) (.x 1))))] (.p (.one (.v 0))) ⟨0, 0, 0, 1, 0, 0⟩
  (.need (.c true) (.and (.le (.c (-9223372036854775808)) (.add (.x 1) (.c 1))) (.le (.add (.x 1) (.c 1)) (.c 9223372036854775807)))
  (.again 0 ⟨0, 0, 1, 0, 0, 1⟩ ⟨2, 1, 2, 0, 0, 1⟩ ⟨[(.x 0), (.add (.x 1) (.c 1))], [(.x 0)], [(.x 1)], [], [], []⟩)))
  (.need (.c true) (.and (.le (.c (-9223372036854775808)) (.add (.x 1) (.c 1))) (.le (.add (.x 1) (.c 1)) (.c 9223372036854775807)))
  (.ite (.eqI (.add (.x 1) (.c 1)) (.len (.x 0)))
  (.ret (.tup [(.one (.s (.c []))), (.one (.i .i64 (.add (.x 1) (.c 1)))), (.one (.b (.c false)))]))
  (.need (.c true) (.and (.le (.c 0) (.add (.x 1) (.c 1))) (.lt (.add (.x 1) (.c 1)) (.len (.x 0))))
  (.ite (.eqI (.at (.x 0) (.add (.x 1) (.c 1))) (.c 34))
  (.ite (.eqI (.at (.x 0) (.add (.x 1) (.c 1))) (.c 34))
  (.need (.c true) (.and (.le (.c 0) (.add (.x 1) (.c 1))) (.lt (.add (.x 1) (.c 1)) (.len (.x 0))))
  (.call (.c true) false 57 [(.one (.pt 0)), (.one (.i .u8 (.at (.x 0) (.add (.x 1) (.c 1)))))] (.p (.one (.v 0))) ⟨0, 0, 0, 1, 0, 0⟩
  (.need (.c true) (.and (.le (.c (-9223372036854775808)) (.add (.add (.x 1) (.c 1)) (.c 1))) (.le (.add (.add (.x 1) (.c 1)) (.c 1)) (.c 9223372036854775807)))
  (.again 0 ⟨0, 0, 1, 0, 0, 1⟩ ⟨2, 1, 2, 0, 0, 1⟩ ⟨[(.x 0), (.add (.add (.x 1) (.c 1)) (.c 1))], [(.x 0)], [(.x 1)], [], [], []⟩))))
  (.ite (.eqI (.at (.x 0) (.add (.x 1) (.c 1))) (.c 110))
  (.call (.c true) false 57 [(.one (.pt 0)), (.one (.i .u8 (.c 10)))] (.p (.one (.v 0))) ⟨0, 0, 0, 1, 0, 0⟩
  (.need (.c true) (.and (.le (.c (-9223372036854775808)) (.add (.add (.x 1) (.c 1)) (.c 1))) (.le (.add (.add (.x 1) (.c 1)) (.c 1)) (.c 9223372036854775807)))
  (.again 0 ⟨0, 0, 1, 0, 0, 1⟩ ⟨2, 1, 2, 0, 0, 1⟩ ⟨[(.x 0), (.add (.add (.x 1) (.c 1)) (.c 1))], [(.x 0)], [(.x 1)], [], [], []⟩)))
  (.ite (.eqI (.at (.x 0) (.add (.x 1) (.c 1))) (.c 116))
  (.call (.c true) false 57 [(.one (.pt 0)), (.one (.i .u8 (.c 9)))] (.p (.one (.v 0))) ⟨0, 0, 0, 1, 0, 0⟩
  (.need (.c true) (.and (.le (.c (-9223372036854775808)) (.add (.add (.x 1) (.c 1)) (.c 1))) (.le (.add (.add (.x 1) (.c 1)) (.c 1)) (.c 9223372036854775807)))
  (.again 0 ⟨0, 0, 1, 0, 0, 1⟩ ⟨2, 1, 2, 0, 0, 1⟩ ⟨[(.x 0), (.add (.add (.x 1) (.c 1)) (.c 1))], [(.x 0)], [(.x 1)], [], [], []⟩)))
  (.ite (.eqI (.at (.x 0) (.add (.x 1) (.c 1))) (.c 120))
  (.loop 1 ⟨[(.x 0), (.add (.x 1) (.c 1)), (.c 0), (.c 0)], [(.x 0)], [(.x 1)], [], [], []⟩
  (.ite (.lt (.x 5) (.c 2))
  (.need (.c true) (.and (.le (.c (-9223372036854775808)) (.add (.x 3) (.c 1))) (.le (.add (.x 3) (.c 1)) (.c 9223372036854775807)))
  (.need (.not (.eqI (.add (.x 3) (.c 1)) (.len (.x 0)))) (.and (.le (.c 0) (.add (.x 3) (.c 1))) (.lt (.add (.x 3) (.c 1)) (.len (.x 0))))
  (.call (.not (.eqI (.add (.x 3) (.c 1)) (.len (.x 0)))) false 58 [(.one (.i .u8 (.at (.x 0) (.add (.x 3) (.c 1)))))] (.p (.one (.i .i64 (.x 6)))) ⟨1, 0, 0, 0, 0, 0⟩
  (.ite (.or (.eqI (.add (.x 3) (.c 1)) (.len (.x 0))) (.lt (.x 6) (.c 0)))
  (.ret (.tup [(.one (.s (.c []))), (.one (.i .i64 (.add (.x 3) (.c 1)))), (.one (.b (.c false)))]))
  (.need (.c true) (.and (.le (.c (-9223372036854775808)) (.mul (.c 16) (.x 4))) (.le (.mul (.c 16) (.x 4)) (.c 9223372036854775807)))
  (.need (.c true) (.and (.le (.c 0) (.add (.x 3) (.c 1))) (.lt (.add (.x 3) (.c 1)) (.len (.x 0))))
  (.call (.c true) false 58 [(.one (.i .u8 (.at (.x 0) (.add (.x 3) (.c 1)))))] (.p (.one (.i .i64 (.x 7)))) ⟨1, 0, 0, 0, 0, 0⟩
  (.need (.c true) (.and (.le (.c (-9223372036854775808)) (.add (.mul (.c 16) (.x 4)) (.x 7))) (.le (.add (.mul (.c 16) (.x 4)) (.x 7)) (.c 9223372036854775807)))
  (.need (.c true) (.and (.le (.c (-9223372036854775808)) (.add (.x 5) (.c 1))) (.le (.add (.x 5) (.c 1)) (.c 9223372036854775807)))
  (.again 1 ⟨2, 1, 2, 0, 0, 1⟩ ⟨6, 2, 3, 0, 0, 1⟩ ⟨[(.x 2), (.add (.x 3) (.c 1)), (.add (.mul (.c 16) (.x 4)) (.x 7)), (.add (.x 5) (.c 1))], [(.x 1)], [(.x 2)], [], [], []⟩))))))))))
  (.call (.c true) false 57 [(.one (.pt 0)), (.one (.i .u8 (.wr .u8 (.x 4))))] (.p (.one (.v 0))) ⟨0, 0, 0, 1, 0, 0⟩
  (.need (.c true) (.and (.le (.c (-9223372036854775808)) (.add (.x 3) (.c 1))) (.le (.add (.x 3) (.c 1)) (.c 9223372036854775807)))
  (.again 0 ⟨0, 0, 1, 0, 0, 1⟩ ⟨2, 1, 2, 0, 0, 1⟩ ⟨[(.x 2), (.add (.x 3) (.c 1))], [(.x 1)], [(.x 2)], [], [], []⟩)))))
  (.ret (.tup [(.one (.s (.c []))), (.one (.i .i64 (.add (.x 1) (.c 1)))), (.one (.b (.c false)))]))))))
  (.ite (.eqI (.at (.x 0) (.add (.x 1) (.c 1))) (.c 92))
  (.need (.c true) (.and (.le (.c 0) (.add (.x 1) (.c 1))) (.lt (.add (.x 1) (.c 1)) (.len (.x 0))))
  (.call (.c true) false 57 [(.one (.pt 0)), (.one (.i .u8 (.at (.x 0) (.add (.x 1) (.c 1)))))] (.p (.one (.v 0))) ⟨0, 0, 0, 1, 0, 0⟩
  (.need (.c true) (.and (.le (.c (-9223372036854775808)) (.add (.add (.x 1) (.c 1)) (.c 1))) (.le (.add (.add (.x 1) (.c 1)) (.c 1)) (.c 9223372036854775807)))
  (.again 0 ⟨0, 0, 1, 0, 0, 1⟩ ⟨2, 1, 2, 0, 0, 1⟩ ⟨[(.x 0), (.add (.add (.x 1) (.c 1)) (.c 1))], [(.x 0)], [(.x 1)], [], [], []⟩))))
  (.ite (.eqI (.at (.x 0) (.add (.x 1) (.c 1))) (.c 110))
  (.call (.c true) false 57 [(.one (.pt 0)), (.one (.i .u8 (.c 10)))] (.p (.one (.v 0))) ⟨0, 0, 0, 1, 0, 0⟩
  (.need (.c true) (.and (.le (.c (-9223372036854775808)) (.add (.add (.x 1) (.c 1)) (.c 1))) (.le (.add (.add (.x 1) (.c 1)) (.c 1)) (.c 9223372036854775807)))
  (.again 0 ⟨0, 0, 1, 0, 0, 1⟩ ⟨2, 1, 2, 0, 0, 1⟩ ⟨[(.x 0), (.add (.add (.x 1) (.c 1)) (.c 1))], [(.x 0)], [(.x 1)], [], [], []⟩)))
  (.ite (.eqI (.at (.x 0) (.add (.x 1) (.c 1))) (.c 116))
  (.call (.c true) false 57 [(.one (.pt 0)), (.one (.i .u8 (.c 9)))] (.p (.one (.v 0))) ⟨0, 0, 0, 1, 0, 0⟩
  (.need (.c true) (.and (.le (.c (-9223372036854775808)) (.add (.add (.x 1) (.c 1)) (.c 1))) (.le (.add (.add (.x 1) (.c 1)) (.c 1)) (.c 9223372036854775807)))
  (.again 0 ⟨0, 0, 1, 0, 0, 1⟩ ⟨2, 1, 2, 0, 0, 1⟩ ⟨[(.x 0), (.add (.add (.x 1) (.c 1)) (.c 1))], [(.x 0)], [(.x 1)], [], [], []⟩)))
  (.ite (.eqI (.at (.x 0) (.add (.x 1) (.c 1))) (.c 120))
  (.loop 1 ⟨[(.x 0), (.add (.x 1) (.c 1)), (.c 0), (.c 0)], [(.x 0)], [(.x 1)], [], [], []⟩
  (.ite (.lt (.x 5) (.c 2))
  (.need (.c true) (.and (.le (.c (-9223372036854775808)) (.add (.x 3) (.c 1))) (.le (.add (.x 3) (.c 1)) (.c 9223372036854775807)))
  (.need (.not (.eqI (.add (.x 3) (.c 1)) (.len (.x 0)))) (.and (.le (.c 0) (.add (.x 3) (.c 1))) (.lt (.add (.x 3) (.c 1)) (.len (.x 0))))
  (.call (.not (.eqI (.add (.x 3) (.c 1)) (.len (.x 0)))) false 58 [(.one (.i .u8 (.at (.x 0) (.add (.x 3) (.c 1)))))] (.p (.one (.i .i64 (.x 6)))) ⟨1, 0, 0, 0, 0, 0⟩
  (.ite (.or (.eqI (.add (.x 3) (.c 1)) (.len (.x 0))) (.lt (.x 6) (.c 0)))
  (.ret (.tup [(.one (.s (.c []))), (.one (.i .i64 (.add (.x 3) (.c 1)))), (.one (.b (.c false)))]))
  (.need (.c true) (.and (.le (.c (-9223372036854775808)) (.mul (.c 16) (.x 4))) (.le (.mul (.c 16) (.x 4)) (.c 9223372036854775807)))
  (.need (.c true) (.and (.le (.c 0) (.add (.x 3) (.c 1))) (.lt (.add (.x 3) (.c 1)) (.len (.x 0))))
  (.call (.c true) false 58 [(.one (.i .u8 (.at (.x 0) (.add (.x 3) (.c 1)))))] (.p (.one (.i .i64 (.x 7)))) ⟨1, 0, 0, 0, 0, 0⟩
  (.need (.c true) (.and (.le (.c (-9223372036854775808)) (.add (.mul (.c 16) (.x 4)) (.x 7))) (.le (.add (.mul (.c 16) (.x 4)) (.x 7)) (.c 9223372036854775807)))
  (.need (.c true) (.and (.le (.c (-9223372036854775808)) (.add (.x 5) (.c 1))) (.le (.add (.x 5) (.c 1)) (.c 9223372036854775807)))
  (.again 1 ⟨2, 1, 2, 0, 0, 1⟩ ⟨6, 2, 3, 0, 0, 1⟩ ⟨[(.x 2), (.add (.x 3) (.c 1)), (.add (.mul (.c 16) (.x 4)) (.x 7)), (.add (.x 5) (.c 1))], [(.x 1)], [(.x 2)], [], [], []⟩))))))))))
  (.call (.c true) false 57 [(.one (.pt 0)), (.one (.i .u8 (.wr .u8 (.x 4))))] (.p (.one (.v 0))) ⟨0, 0, 0, 1, 0, 0⟩
  (.need (.c true) (.and (.le (.c (-9223372036854775808)) (.add (.x 3) (.c 1))) (.le (.add (.x 3) (.c 1)) (.c 9223372036854775807)))
  (.again 0 ⟨0, 0, 1, 0, 0, 1⟩ ⟨2, 1, 2, 0, 0, 1⟩ ⟨[(.x 2), (.add (.x 3) (.c 1))], [(.x 1)], [(.x 2)], [], [], []⟩)))))
  (.ret (.tup [(.one (.s (.c []))), (.one (.i .i64 (.add (.x 1) (.c 1)))), (.one (.b (.c false)))]))))))))))))))))))))
theorem gen_qread : genFn ⟨true, [5]⟩ Tryd.prog (fun l => ([⟨[2, 3, 4, 6], [16, 17, 18, 19, 20, 21, 22, 23, 24, 25, 26, 27, 28, 29, 30, 31, 32, 33, 34, 35, 7, 37, 38, 36, 39, 40, 41, 43, 44, 42, 45, 46, 47, 48, 49, 50, 51, 52, 53, 54, 55, 56, 57, 58, 61, 60, 62, 63, 64, 65, 66, 68, 67, 69, 71, 70, 72, 74, 73, 8, 75, 76, 77, 78, 79, 80, 81, 82, 83, 84, 85, 86, 87, 88, 89, 90, 91, 92, 93, 94, 95, 96, 97, 98, 99, 100, 101, 59, 102, 103], []⟩, ⟨[6, 2, 3, 4, 8, 75], [76, 77, 78, 79, 80, 81, 82, 83, 84, 85, 86, 87, 88, 89, 90, 91, 92, 93, 94, 95, 96, 97, 98], []⟩] : List LAnn).getD l ⟨[], [], []⟩) Tryd.f48 = fm_qread := by kernel_rfl
theorem ps_qread : freshPs Tryd.prog .zero Tryd.f48.params.toList = some ([(.one (.s (.x 0)))], ⟨0, 0, 1, 0, 0, 0⟩) := by kernel_rfl
def fm_qend : Fm := (.call (.c true) false 48 [(.one (.s (.x 0)))] (.tup [(.one (.s (.x 1))), (.one (.i .i64 (.x 0))), (.one (.b (.x 0)))]) ⟨1, 1, 1, 0, 0, 0⟩
  (.ret (.tup [(.one (.i .i64 (.x 0))), (.one (.b (.x 0)))])))
theorem gen_qend : genFn ⟨true, []⟩ Tryd.prog (fun l => ([] : List LAnn).getD l ⟨[], [], []⟩) Tryd.f36 = fm_qend := by kernel_rfl
theorem ps_qend : freshPs Tryd.prog .zero Tryd.f36.params.toList = some ([(.one (.s (.x 0)))], ⟨0, 0, 1, 0, 0, 0⟩) := by kernel_rfl
def fm_qunq : Fm := (.call (.c true) false 48 [(.one (.s (.x 0)))] (.tup [(.one (.s (.x 1))), (.one (.i .i64 (.x 0))), (.one (.b (.x 0)))]) ⟨1, 1, 1, 0, 0, 0⟩
  (.ite (.or (.not (.x 0)) (.not (.eqI (.x 0) (.len (.x 0)))))
  (.ret (.tup [(.one (.s (.c []))), (.one (.i .i64 (.c 2)))]))
  (.ret (.tup [(.one (.s (.x 1))), (.one (.i .i64 (.c 0)))]))))
theorem gen_qunq : genFn ⟨true, []⟩ Tryd.prog (fun l => ([] : List LAnn).getD l ⟨[], [], []⟩) Tryd.f37 = fm_qunq := by kernel_rfl
theorem ps_qunq : freshPs Tryd.prog .zero Tryd.f37.params.toList = some ([(.one (.s (.x 0)))], ⟨0, 0, 1, 0, 0, 0⟩) := by kernel_rfl
def fm_literal : Fm := (.load (.c true) (.pt 0 0) 1 [(.s (.x 1))] ⟨0, 0, 1, 0, 0, 0⟩
  (.load (.c true) (.pt 0 1) 1 [(.i .i64 (.x 4))] ⟨1, 0, 0, 0, 0, 0⟩
  (.need (.c true) (.nnp 0)
  (.need (.c true) (.nnp 0)
  (.need (.c true) (.nnp 0)
  (.need (.c true) (.nnp 0)
  (.need (.c true) (.and (.le (.c 0) (.x 4)) (.le (.x 4) (.len (.x 1))))
  (.call (.c true) true 36 [(.one (.s (.sub (.x 1) (.x 4) (.len (.x 1)))))] (.tup [(.one (.i .i64 (.x 5))), (.one (.b (.x 0)))]) ⟨1, 1, 0, 0, 0, 0⟩
  (.ite (.not (.x 0))
  (.ret (.tup [(.agg [(.i .u8 (.c 0)), (.i .i64 (.c 0)), (.i .i64 (.c 0)), (.i .i64 (.c 0)), (.s (.c []))]), (.one (.i .i64 (.c 4)))]))
  (.load (.c true) (.pt 0 0) 1 [(.s (.x 2))] ⟨0, 0, 1, 0, 0, 0⟩
  (.load (.c true) (.pt 0 1) 1 [(.i .i64 (.x 6))] ⟨1, 0, 0, 0, 0, 0⟩
  (.load (.c true) (.pt 0 1) 1 [(.i .i64 (.x 7))] ⟨1, 0, 0, 0, 0, 0⟩
  (.need (.c true) (.nnp 0)
  (.need (.c true) (.nnp 0)
  (.need (.c true) (.nnp 0)
  (.need (.c true) (.nnp 0)
  (.need (.c true) (.nnp 0)
  (.need (.c true) (.nnp 0)
  (.need (.c true) (.and (.le (.c (-9223372036854775808)) (.add (.x 7) (.x 5))) (.le (.add (.x 7) (.x 5)) (.c 9223372036854775807)))
  (.need (.c true) (.and (.and (.le (.c 0) (.add (.x 7) (.x 5))) (.le (.add (.x 7) (.x 5)) (.len (.x 2)))) (.and (.le (.c 0) (.x 6)) (.le (.x 6) (.add (.x 7) (.x 5)))))
  (.call (.c true) true 37 [(.one (.s (.sub (.x 2) (.x 6) (.add (.x 7) (.x 5)))))] (.tup [(.one (.s (.x 3))), (.one (.i .i64 (.x 8)))]) ⟨1, 0, 1, 0, 0, 0⟩
  (.call (.c true) false 30 [(.one (.pt 0)), (.one (.i .i64 (.x 5)))] (.tup []) ⟨0, 0, 0, 0, 0, 0⟩
  (.ret (.tup [(.agg [(.i .u8 (.c 5)), (.i .i64 (.x 1)), (.i .i64 (.x 2)), (.i .i64 (.x 3)), (.s (.x 3))]), (.one (.i .i64 (.x 8)))]))))))))))))))))))))))))
theorem gen_literal : genFn ⟨true, []⟩ Tryd.prog (fun l => ([] : List LAnn).getD l ⟨[], [], []⟩) Tryd.f22 = fm_literal := by kernel_rfl
theorem ps_literal : freshPs Tryd.prog .zero Tryd.f22.params.toList = some ([(.one (.pt 0)), (.agg [(.i .u8 (.x 0)), (.i .i64 (.x 1)), (.i .i64 (.x 2)), (.i .i64 (.x 3)), (.s (.x 0))])], ⟨4, 0, 1, 0, 0, 1⟩) := by kernel_rfl
def HD : List UInt8 := [48, 49, 50, 51, 52, 53, 54, 55, 56, 57, 97, 98, 99, 100, 101, 102]
def ctIndexByte : Ct Tryd.prog where
  f := 63
  spec := fun args h φ => ∃ s c, args = [.string (B s), .int .u8 c] ∧ φ (.int .i64 (Lib.indexByte s c.toNat.toUInt8)) h
  ok := by
    rintro args h φ w ⟨s, c, rfl, hφ⟩ hH
    exact ct_same (v := .int .i64 (Lib.indexByte s c.toNat.toUInt8)) ((Tryd.strings_IndexByte (B s) c w).mono fun e w' ⟨he, hw⟩ => ⟨he, hw.symm⟩) hφ hH
theorem hd_low (c : Int) (h0 : 0 ≤ c) (h1 : c ≤ 255) : Lib.indexByte HD c.toNat.toUInt8 = if 48 ≤ c ∧ c ≤ 57 then c - 48 else if 97 ≤ c ∧ c ≤ 102 then c - 87 else -1 := by
  have hall : ∀ n : Fin 256, Lib.indexByte HD n.val.toUInt8 = if 48 ≤ (n.val : Int) ∧ (n.val : Int) ≤ 57 then (n.val : Int) - 48 else if 97 ≤ (n.val : Int) ∧ (n.val : Int) ≤ 102 then (n.val : Int) - 87 else -1 := by decide +kernel
  have := hall ⟨c.toNat, by omega⟩
  simp only [Int.toNat_of_nonneg h0] at this
  exact this
def ctQDigit : Ct Tryd.prog where
  f := 58
  spec := fun args h φ => ∃ c : Int, args = [.int .u8 c] ∧ 0 ≤ c ∧ c ≤ 255 ∧ φ (.int .i64 (hx c)) h
  ok := by
    rintro args h φ w ⟨c, rfl, c0, c1, hφ⟩ hH
    refine by_fm Tryd.func58 gen_qdigit ps_qdigit [ctIndexByte] φ noInv noMeas ⟨[c], [], [], [], [], [], h, noM⟩ ⟨rfl, rfl, rfl, rfl, rfl, rfl⟩ ones_nil ?_ w hH rfl
    generalize hE : (⟨specOf _, _, _, _⟩ : Env) = E
    have s1 : E.spec 63 = ctIndexByte.spec := by rw [← hE]; rfl
    have ep : E.post = φ := by rw [← hE]
    clear hE
    unfold fm_qdigit
    rw [th_ite]
    by_cases hc : 65 ≤ c ∧ c ≤ 70
    · rw [if_pos (by simp [go_sem, hc.1, hc.2]), then_step, th_call, if_pos (by rfl), s1]
      have hw : IntKind.u8.wrap (c + 32) = c + 32 := by rw [IntKind.wrap_u8]; omega
      refine ⟨HD, c + 32, by simp [go_sem, hw, HD], ?_⟩
      rw [hd_low _ (by omega) (by omega), if_neg (by omega), if_pos (by omega)]
      have e : hx c = c + 32 - 87 := by
        unfold hx; rw [if_neg (by omega), if_neg (by omega), if_pos hc]; omega
      rw [← e]
      simp [go_sem]
      simp only [then_step]; simp [go_sem, ep, hφ]
    · rw [if_neg (by simp [go_sem]; omega), then_step, th_call, if_pos (by rfl), s1]
      refine ⟨HD, c, by simp [go_sem, HD], ?_⟩
      have e : hx c = if 48 ≤ c ∧ c ≤ 57 then c - 48 else if 97 ≤ c ∧ c ≤ 102 then c - 87 else -1 := by
        unfold hx; rw [if_neg hc]
      rw [hd_low _ c0 c1, ← e]
      simp [go_sem]
      simp only [then_step]; simp [go_sem, ep, hφ]
end Go.Proofs.YtogalfbemmcaaaaDoor
