/- Tokens, part ZH: the same tokens, but for their places; the law of notes: formulas. -/
import Derived.Test.YtogalfbemmcaaaaDoorLexZG
import Derived.Test.YtogalfbemmcaaaaDoorLexO
import Derived.Test.YtogalfbemmcaaaaDoorLexV
namespace Go.Proofs.YtogalfbemmcaaaaDoor
open Go.RowKit
attribute [local go_sem] says_tt says_ff th_need th_ite th_call th_load th_store th_mk th_new th_mks th_str says_ret says_again says_app BE.den IE.den SE.den LE.den AE.den CE.den PE.den VE.den KV.val Got.den Got.cnt exI allI exL allL Ctx.push Ctx.heap Ctx.cut Ctx.bare Ctx.mark Inc.blank List.getD_cons_zero List.getD_cons_succ List.cons_append List.nil_append List.append_nil List.map_cons List.map_nil List.replicate_zero List.replicate_succ specOf ltB_t leB_t ltB_f leB_f slc_val slc_nil slc_inj pt_val pt_nil hle_noHeap hle_refl hread_set hwrite_set set_same set_set noHeap_at B_inj ones_nil and_assoc
def fm_alike : Fm := (.ite (.not (.eqI (.cnt (.x 0)) (.cnt (.x 1))))
  (.ret (.p (.one (.b (.c false)))))
  (.loop 0 ⟨[(.c 0)], [(.c false)], [], [], [], []⟩
  (.ite (.lt (.x 0) (.cnt (.x 0)))
  (.load (.c true) (.el (.x 0) (.x 0) 5 0) 1 [(.i .u8 (.x 1))] ⟨1, 0, 0, 0, 0, 0⟩
  (.load (.c true) (.el (.x 1) (.x 0) 5 0) 1 [(.i .u8 (.x 2))] ⟨1, 0, 0, 0, 0, 0⟩
  (.load (.eqI (.x 1) (.x 2)) (.el (.x 0) (.x 0) 5 3) 1 [(.i .i64 (.x 3))] ⟨1, 0, 0, 0, 0, 0⟩
  (.load (.eqI (.x 1) (.x 2)) (.el (.x 1) (.x 0) 5 3) 1 [(.i .i64 (.x 4))] ⟨1, 0, 0, 0, 0, 0⟩
  (.load (.not (.or (.not (.eqI (.x 1) (.x 2))) (.not (.eqI (.x 3) (.x 4))))) (.el (.x 0) (.x 0) 5 4) 1 [(.s (.x 0))] ⟨0, 0, 1, 0, 0, 0⟩
  (.load (.not (.or (.not (.eqI (.x 1) (.x 2))) (.not (.eqI (.x 3) (.x 4))))) (.el (.x 1) (.x 0) 5 4) 1 [(.s (.x 1))] ⟨0, 0, 1, 0, 0, 0⟩
  (.need (.c true) (.and (.and (.le (.c 0) (.x 0)) (.lt (.x 0) (.cnt (.x 0)))) (.nns (.x 0)))
  (.need (.c true) (.nns (.x 0))
  (.need (.c true) (.and (.and (.le (.c 0) (.x 0)) (.lt (.x 0) (.cnt (.x 1)))) (.nns (.x 1)))
  (.need (.c true) (.nns (.x 1))
  (.need (.eqI (.x 1) (.x 2)) (.and (.and (.le (.c 0) (.x 0)) (.lt (.x 0) (.cnt (.x 0)))) (.nns (.x 0)))
  (.need (.eqI (.x 1) (.x 2)) (.nns (.x 0))
  (.need (.eqI (.x 1) (.x 2)) (.and (.and (.le (.c 0) (.x 0)) (.lt (.x 0) (.cnt (.x 1)))) (.nns (.x 1)))
  (.need (.eqI (.x 1) (.x 2)) (.nns (.x 1))
  (.need (.not (.or (.not (.eqI (.x 1) (.x 2))) (.not (.eqI (.x 3) (.x 4))))) (.and (.and (.le (.c 0) (.x 0)) (.lt (.x 0) (.cnt (.x 0)))) (.nns (.x 0)))
  (.need (.not (.or (.not (.eqI (.x 1) (.x 2))) (.not (.eqI (.x 3) (.x 4))))) (.nns (.x 0))
  (.need (.not (.or (.not (.eqI (.x 1) (.x 2))) (.not (.eqI (.x 3) (.x 4))))) (.and (.and (.le (.c 0) (.x 0)) (.lt (.x 0) (.cnt (.x 1)))) (.nns (.x 1)))
  (.need (.not (.or (.not (.eqI (.x 1) (.x 2))) (.not (.eqI (.x 3) (.x 4))))) (.nns (.x 1))
  (.ite (.or (.or (.not (.eqI (.x 1) (.x 2))) (.not (.eqI (.x 3) (.x 4)))) (.not (.eqS (.x 0) (.x 1))))
  (.ret (.p (.one (.b (.c false)))))
  (.need (.c true) (.and (.le (.c (-9223372036854775808)) (.add (.x 0) (.c 1))) (.le (.add (.x 0) (.c 1)) (.c 9223372036854775807)))
  (.again 0 ⟨0, 0, 0, 0, 2, 0⟩ ⟨1, 1, 0, 0, 2, 0⟩ ⟨[(.add (.x 0) (.c 1))], [(.x 0)], [], [], [], []⟩)))))))))))))))))))))
  (.ret (.p (.one (.b (.c true))))))))
theorem gen_alike : genFn ⟨true, []⟩ Tryd.prog (fun l => ([⟨[4, 13], [14, 15, 5, 16, 17, 18, 19, 20, 21, 22, 23, 24, 25, 26, 27, 28, 29, 30, 31, 32, 33, 34, 35, 36, 37, 38, 39, 40, 41, 42, 43, 44, 45, 46, 47, 48, 49, 50, 51, 52, 53], []⟩] : List LAnn).getD l ⟨[], [], []⟩) Tryd.f12 = fm_alike := by kernel_rfl
theorem ps_alike : freshPs Tryd.prog .zero Tryd.f12.params.toList = some ([(.one (.sl (.x 0))), (.one (.sl (.x 1)))], ⟨0, 0, 0, 0, 2, 0⟩) := by kernel_rfl
def fm_lnotes : Fm := (.ite (.or (.lt (.c 1000) (.len (.x 0))) (.lt (.c 30) (.len (.x 1))))
  (.call (.c true) false 8 [] (.p (.one (.b (.x 0)))) ⟨0, 1, 0, 0, 0, 0⟩
  (.ret (.p (.one (.b (.x 0))))))
  (.loop 0 ⟨[(.c 0)], [(.c false)], [], [], [], []⟩
  (.ite (.lt (.x 0) (.len (.x 1)))
  (.need (.c true) (.and (.le (.c 0) (.x 0)) (.lt (.x 0) (.len (.x 1))))
  (.ite (.eqI (.at (.x 1) (.x 0)) (.c 10))
  (.call (.c true) false 8 [] (.p (.one (.b (.x 1)))) ⟨0, 1, 0, 0, 0, 0⟩
  (.ret (.p (.one (.b (.x 1))))))
  (.need (.c true) (.and (.le (.c (-9223372036854775808)) (.add (.x 0) (.c 1))) (.le (.add (.x 0) (.c 1)) (.c 9223372036854775807)))
  (.again 0 ⟨0, 0, 2, 0, 0, 0⟩ ⟨1, 1, 2, 0, 0, 0⟩ ⟨[(.add (.x 0) (.c 1))], [(.x 0)], [], [], [], []⟩))))
  (.loop 1 ⟨[(.c 0)], [], [(.c [32, 9])], [], [], []⟩
  (.ite (.lt (.x 1) (.len (.x 0)))
  (.need (.c true) (.and (.le (.c 0) (.x 1)) (.lt (.x 1) (.len (.x 0))))
  (.ite (.eqI (.at (.x 0) (.x 1)) (.c 10))
  (.need (.c true) (.le (.add (.len (.c [32, 35])) (.len (.x 1))) (.c 9223372036854775807))
  (.need (.c true) (.le (.add (.len (.app (.c [32, 35]) (.x 1))) (.len (.c [10, 32, 9]))) (.c 9223372036854775807))
  (.need (.c true) (.le (.add (.len (.x 2)) (.len (.app (.app (.c [32, 35]) (.x 1)) (.c [10, 32, 9])))) (.c 9223372036854775807))
  (.need (.c true) (.and (.le (.c (-9223372036854775808)) (.add (.x 1) (.c 1))) (.le (.add (.x 1) (.c 1)) (.c 9223372036854775807)))
  (.again 1 ⟨1, 1, 2, 0, 0, 0⟩ ⟨2, 1, 3, 0, 0, 0⟩ ⟨[(.add (.x 1) (.c 1))], [], [(.app (.x 2) (.app (.app (.c [32, 35]) (.x 1)) (.c [10, 32, 9])))], [], [], []⟩)))))
  (.need (.c true) (.and (.le (.c (-9223372036854775808)) (.add (.x 1) (.c 1))) (.le (.add (.x 1) (.c 1)) (.c 9223372036854775807)))
  (.need (.c true) (.and (.and (.le (.c 0) (.add (.x 1) (.c 1))) (.le (.add (.x 1) (.c 1)) (.len (.x 0)))) (.and (.le (.c 0) (.x 1)) (.le (.x 1) (.add (.x 1) (.c 1)))))
  (.need (.c true) (.le (.add (.len (.x 2)) (.len (.sub (.x 0) (.x 1) (.add (.x 1) (.c 1))))) (.c 9223372036854775807))
  (.need (.c true) (.and (.le (.c (-9223372036854775808)) (.add (.x 1) (.c 1))) (.le (.add (.x 1) (.c 1)) (.c 9223372036854775807)))
  (.again 1 ⟨1, 1, 2, 0, 0, 0⟩ ⟨2, 1, 3, 0, 0, 0⟩ ⟨[(.add (.x 1) (.c 1))], [], [(.app (.x 2) (.sub (.x 0) (.x 1) (.add (.x 1) (.c 1))))], [], [], []⟩)))))))
  (.call (.c true) false 9 [(.one (.s (.x 0)))] (.tup [(.one (.sl (.x 0))), (.agg [(.i .i64 (.x 2)), (.i .i64 (.x 3)), (.i .i64 (.x 4))])]) ⟨3, 0, 0, 0, 1, 0⟩
  (.ite (.not (.eqI (.x 2) (.c 0)))
  (.call (.eqI (.cnt (.x 0)) (.c 0)) false 8 [] (.p (.one (.b (.x 1)))) ⟨0, 1, 0, 0, 0, 0⟩
  (.ret (.p (.one (.b (.and (.eqI (.cnt (.x 0)) (.c 0)) (.x 1)))))))
  (.need (.c true) (.le (.add (.len (.x 2)) (.len (.c [32, 35]))) (.c 9223372036854775807))
  (.need (.c true) (.le (.add (.len (.app (.x 2) (.c [32, 35]))) (.len (.x 1))) (.c 9223372036854775807))
  (.call (.c true) false 9 [(.one (.s (.app (.app (.x 2) (.c [32, 35])) (.x 1))))] (.tup [(.one (.sl (.x 1))), (.agg [(.i .i64 (.x 5)), (.i .i64 (.x 6)), (.i .i64 (.x 7))])]) ⟨3, 0, 0, 0, 1, 0⟩
  (.call (.eqI (.x 5) (.c 0)) false 12 [(.one (.sl (.x 0))), (.one (.sl (.x 1)))] (.p (.one (.b (.x 1)))) ⟨0, 1, 0, 0, 0, 0⟩
  (.call (.and (.eqI (.x 5) (.c 0)) (.x 1)) false 8 [] (.p (.one (.b (.x 2)))) ⟨0, 1, 0, 0, 0, 0⟩
  (.ret (.p (.one (.b (.and (.and (.eqI (.x 5) (.c 0)) (.x 1)) (.x 2))))))))))))))))))
theorem gen_lnotes : genFn ⟨true, []⟩ Tryd.prog (fun l => ([⟨[4, 5], [21, 22, 23, 24, 27, 28, 29, 30, 31, 25, 26], []⟩, ⟨[6, 7], [32, 33, 34, 35, 38, 39, 40, 41, 42, 43, 44, 45, 46, 47, 48, 49, 50, 51, 52, 53, 36, 37], []⟩] : List LAnn).getD l ⟨[], [], []⟩) Tryd.f5 = fm_lnotes := by kernel_rfl
theorem ps_lnotes : freshPs Tryd.prog .zero Tryd.f5.params.toList = some ([(.one (.s (.x 0))), (.one (.s (.x 1)))], ⟨0, 0, 2, 0, 0, 0⟩) := by kernel_rfl
end Go.Proofs.YtogalfbemmcaaaaDoor
