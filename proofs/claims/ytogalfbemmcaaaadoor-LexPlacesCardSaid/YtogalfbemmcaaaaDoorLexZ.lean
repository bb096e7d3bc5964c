/- Tokens, part Z: the reference's token at a place. -/
import Derived.Test.YtogalfbemmcaaaaDoorLexX
namespace Go.Proofs.YtogalfbemmcaaaaDoor
open Go.RowKit
attribute [local go_sem] says_tt says_ff th_need th_ite th_call th_load th_store th_mk th_new th_mks th_str says_ret says_again says_app BE.den IE.den SE.den LE.den AE.den CE.den PE.den VE.den KV.val Got.den Got.cnt exI allI exL allL Ctx.push Ctx.heap Ctx.cut Ctx.bare Ctx.mark Inc.blank List.getD_cons_zero List.getD_cons_succ List.cons_append List.nil_append List.append_nil List.map_cons List.map_nil List.replicate_zero List.replicate_succ specOf ltB_t leB_t ltB_f leB_f slc_val slc_nil slc_inj pt_val pt_nil hle_noHeap hle_refl hread_set hwrite_set set_same set_set noHeap_at B_inj ones_nil and_assoc
def fm_rone : Fm := (.need (.c true) (.and (.le (.c 0) (.x 0)) (.lt (.x 0) (.len (.x 0))))
  (.call (.c true) false 26 [(.one (.i .u8 (.at (.x 0) (.x 0))))] (.p (.one (.i .i64 (.x 1)))) ⟨1, 0, 0, 0, 0, 0⟩
  (.ite (.eqI (.x 1) (.c 1))
  (.ite (.eqI (.x 1) (.c 1))
  (.call (.c true) false 27 [(.one (.s (.x 0))), (.one (.i .i64 (.x 0)))] (.p (.one (.i .i64 (.x 2)))) ⟨1, 0, 0, 0, 0, 0⟩
  (.need (.c true) (.and (.and (.le (.c 0) (.x 2)) (.le (.x 2) (.len (.x 0)))) (.and (.le (.c 0) (.x 0)) (.le (.x 0) (.x 2))))
  (.need (.c true) (.and (.le (.c 0) (.x 0)) (.lt (.x 0) (.len (.x 0))))
  (.call (.c true) false 26 [(.one (.i .u8 (.at (.x 0) (.x 0))))] (.p (.one (.i .i64 (.x 3)))) ⟨1, 0, 0, 0, 0, 0⟩
  (.ite (.eqI (.x 3) (.c 2))
  (.ret (.tup [(.agg [(.i .u8 (.c 2)), (.i .i64 (.c 0)), (.i .i64 (.c 0)), (.i .i64 (.c 0)), (.s (.sub (.x 0) (.x 0) (.x 2)))]), (.one (.i .i64 (.x 2))), (.one (.i .i64 (.c 0)))]))
  (.call (.c true) false 15 [(.one (.s (.sub (.x 0) (.x 0) (.x 2))))] (.p (.one (.b (.x 0)))) ⟨0, 1, 0, 0, 0, 0⟩
  (.ite (.x 0)
  (.ret (.tup [(.agg [(.i .u8 (.c 6)), (.i .i64 (.c 0)), (.i .i64 (.c 0)), (.i .i64 (.c 0)), (.s (.sub (.x 0) (.x 0) (.x 2)))]), (.one (.i .i64 (.x 2))), (.one (.i .i64 (.c 0)))]))
  (.ret (.tup [(.agg [(.i .u8 (.c 1)), (.i .i64 (.c 0)), (.i .i64 (.c 0)), (.i .i64 (.c 0)), (.s (.sub (.x 0) (.x 0) (.x 2)))]), (.one (.i .i64 (.x 2))), (.one (.i .i64 (.c 0)))])))))))))
  (.ite (.eqI (.x 1) (.c 3))
  (.call (.c true) false 28 [(.one (.s (.x 0))), (.one (.i .i64 (.x 0)))] (.tup [(.agg [(.i .u8 (.x 2)), (.i .i64 (.x 3)), (.i .i64 (.x 4)), (.i .i64 (.x 5)), (.s (.x 1))]), (.one (.i .i64 (.x 6))), (.one (.i .i64 (.x 7)))]) ⟨6, 0, 1, 0, 0, 0⟩
  (.ret (.tup [(.agg [(.i .u8 (.x 2)), (.i .i64 (.x 3)), (.i .i64 (.x 4)), (.i .i64 (.x 5)), (.s (.x 1))]), (.one (.i .i64 (.x 6))), (.one (.i .i64 (.x 7)))])))
  (.need (.c true) (.and (.le (.c 0) (.x 0)) (.lt (.x 0) (.len (.x 0))))
  (.ite (.eqI (.at (.x 0) (.x 0)) (.c 34))
  (.need (.c true) (.and (.le (.c 0) (.x 0)) (.le (.x 0) (.len (.x 0))))
  (.call (.c true) false 29 [(.one (.s (.sub (.x 0) (.x 0) (.len (.x 0)))))] (.tup [(.one (.s (.x 1))), (.one (.i .i64 (.x 2))), (.one (.b (.x 0)))]) ⟨1, 1, 1, 0, 0, 0⟩
  (.ite (.not (.x 0))
  (.ret (.tup [(.agg [(.i .u8 (.c 0)), (.i .i64 (.c 0)), (.i .i64 (.c 0)), (.i .i64 (.c 0)), (.s (.c []))]), (.one (.i .i64 (.c 0))), (.one (.i .i64 (.c 4)))]))
  (.need (.c true) (.and (.le (.c (-9223372036854775808)) (.add (.x 0) (.x 2))) (.le (.add (.x 0) (.x 2)) (.c 9223372036854775807)))
  (.ret (.tup [(.agg [(.i .u8 (.c 5)), (.i .i64 (.c 0)), (.i .i64 (.c 0)), (.i .i64 (.c 0)), (.s (.x 1))]), (.one (.i .i64 (.add (.x 0) (.x 2)))), (.one (.i .i64 (.c 0)))]))))))
  (.mk [(.s (.c [38, 38])), (.s (.c [124, 124])), (.s (.c [61, 61])), (.s (.c [33, 61])), (.s (.c [60, 61])), (.s (.c [62, 61]))] 9 6
  (.loop 0 ⟨[(.c 0), (.c 0), (.c 0), (.c 0), (.c 0), (.c 0), (.c 0)], [], [(.c [])], [], [], []⟩
  (.ite (.lt (.x 4) (.cnt (.x 0)))
  (.load (.le (.add (.x 0) (.c 2)) (.len (.x 0))) (.el (.x 0) (.x 4) 1 0) 1 [(.s (.x 2))] ⟨0, 0, 1, 0, 0, 0⟩
  (.need (.c true) (.and (.le (.c (-9223372036854775808)) (.add (.x 0) (.c 2))) (.le (.add (.x 0) (.c 2)) (.c 9223372036854775807)))
  (.need (.le (.add (.x 0) (.c 2)) (.len (.x 0))) (.and (.le (.c (-9223372036854775808)) (.add (.x 0) (.c 2))) (.le (.add (.x 0) (.c 2)) (.c 9223372036854775807)))
  (.need (.le (.add (.x 0) (.c 2)) (.len (.x 0))) (.and (.and (.le (.c 0) (.add (.x 0) (.c 2))) (.le (.add (.x 0) (.c 2)) (.len (.x 0)))) (.and (.le (.c 0) (.x 0)) (.le (.x 0) (.add (.x 0) (.c 2)))))
  (.need (.le (.add (.x 0) (.c 2)) (.len (.x 0))) (.and (.and (.le (.c 0) (.x 4)) (.lt (.x 4) (.cnt (.x 0)))) (.nns (.x 0)))
  (.ite (.and (.le (.add (.x 0) (.c 2)) (.len (.x 0))) (.eqS (.sub (.x 0) (.x 0) (.add (.x 0) (.c 2))) (.x 2)))
  (.need (.c true) (.and (.and (.le (.c 0) (.x 4)) (.lt (.x 4) (.cnt (.x 0)))) (.nns (.x 0)))
  (.load (.c true) (.el (.x 0) (.x 4) 1 0) 1 [(.s (.x 3))] ⟨0, 0, 1, 0, 0, 0⟩
  (.need (.c true) (.and (.le (.c (-9223372036854775808)) (.add (.x 0) (.c 2))) (.le (.add (.x 0) (.c 2)) (.c 9223372036854775807)))
  (.ret (.tup [(.agg [(.i .u8 (.c 7)), (.i .i64 (.c 0)), (.i .i64 (.c 0)), (.i .i64 (.c 0)), (.s (.x 3))]), (.one (.i .i64 (.add (.x 0) (.c 2)))), (.one (.i .i64 (.c 0)))])))))
  (.need (.c true) (.and (.le (.c (-9223372036854775808)) (.add (.x 4) (.c 1))) (.le (.add (.x 4) (.c 1)) (.c 9223372036854775807)))
  (.again 0 ⟨2, 0, 1, 0, 1, 0⟩ ⟨9, 0, 2, 0, 1, 0⟩ ⟨[(.x 2), (.x 3), (.add (.x 4) (.c 1)), (.x 5), (.x 6), (.x 7), (.x 8)], [], [(.x 1)], [], [], []⟩))))))))
  (.loop 1 ⟨[(.x 2), (.x 3), (.c 0), (.x 5), (.x 6), (.x 7), (.x 8)], [], [(.x 1)], [], [], []⟩
  (.ite (.lt (.x 11) (.len (.c [43, 45, 42, 47, 37, 60, 62, 33, 61, 40, 41, 123, 125, 91, 93, 44, 59, 58, 46])))
  (.need (.c true) (.and (.le (.c 0) (.x 0)) (.lt (.x 0) (.len (.x 0))))
  (.need (.c true) (.and (.le (.c 0) (.x 11)) (.lt (.x 11) (.len (.c [43, 45, 42, 47, 37, 60, 62, 33, 61, 40, 41, 123, 125, 91, 93, 44, 59, 58, 46]))))
  (.ite (.eqI (.at (.x 0) (.x 0)) (.at (.c [43, 45, 42, 47, 37, 60, 62, 33, 61, 40, 41, 123, 125, 91, 93, 44, 59, 58, 46]) (.x 11)))
  (.need (.c true) (.and (.le (.c (-9223372036854775808)) (.add (.x 11) (.c 1))) (.le (.add (.x 11) (.c 1)) (.c 9223372036854775807)))
  (.need (.c true) (.and (.and (.le (.c 0) (.add (.x 11) (.c 1))) (.le (.add (.x 11) (.c 1)) (.len (.c [43, 45, 42, 47, 37, 60, 62, 33, 61, 40, 41, 123, 125, 91, 93, 44, 59, 58, 46])))) (.and (.le (.c 0) (.x 11)) (.le (.x 11) (.add (.x 11) (.c 1)))))
  (.need (.c true) (.and (.le (.c (-9223372036854775808)) (.add (.x 0) (.c 1))) (.le (.add (.x 0) (.c 1)) (.c 9223372036854775807)))
  (.ret (.tup [(.agg [(.i .u8 (.c 7)), (.i .i64 (.c 0)), (.i .i64 (.c 0)), (.i .i64 (.c 0)), (.s (.sub (.c [43, 45, 42, 47, 37, 60, 62, 33, 61, 40, 41, 123, 125, 91, 93, 44, 59, 58, 46]) (.x 11) (.add (.x 11) (.c 1))))]), (.one (.i .i64 (.add (.x 0) (.c 1)))), (.one (.i .i64 (.c 0)))])))))
  (.need (.c true) (.and (.le (.c (-9223372036854775808)) (.add (.x 11) (.c 1))) (.le (.add (.x 11) (.c 1)) (.c 9223372036854775807)))
  (.again 1 ⟨9, 0, 2, 0, 1, 0⟩ ⟨16, 0, 3, 0, 1, 0⟩ ⟨[(.x 9), (.x 10), (.add (.x 11) (.c 1)), (.x 12), (.x 13), (.x 14), (.x 15)], [], [(.x 2)], [], [], []⟩)))))
  (.ret (.tup [(.agg [(.i .u8 (.c 0)), (.i .i64 (.c 0)), (.i .i64 (.c 0)), (.i .i64 (.c 0)), (.s (.c []))]), (.one (.i .i64 (.c 0))), (.one (.i .i64 (.c 4)))])))))))))))
  (.ite (.eqI (.x 1) (.c 2))
  (.call (.c true) false 27 [(.one (.s (.x 0))), (.one (.i .i64 (.x 0)))] (.p (.one (.i .i64 (.x 2)))) ⟨1, 0, 0, 0, 0, 0⟩
  (.need (.c true) (.and (.and (.le (.c 0) (.x 2)) (.le (.x 2) (.len (.x 0)))) (.and (.le (.c 0) (.x 0)) (.le (.x 0) (.x 2))))
  (.need (.c true) (.and (.le (.c 0) (.x 0)) (.lt (.x 0) (.len (.x 0))))
  (.call (.c true) false 26 [(.one (.i .u8 (.at (.x 0) (.x 0))))] (.p (.one (.i .i64 (.x 3)))) ⟨1, 0, 0, 0, 0, 0⟩
  (.ite (.eqI (.x 3) (.c 2))
  (.ret (.tup [(.agg [(.i .u8 (.c 2)), (.i .i64 (.c 0)), (.i .i64 (.c 0)), (.i .i64 (.c 0)), (.s (.sub (.x 0) (.x 0) (.x 2)))]), (.one (.i .i64 (.x 2))), (.one (.i .i64 (.c 0)))]))
  (.call (.c true) false 15 [(.one (.s (.sub (.x 0) (.x 0) (.x 2))))] (.p (.one (.b (.x 0)))) ⟨0, 1, 0, 0, 0, 0⟩
  (.ite (.x 0)
  (.ret (.tup [(.agg [(.i .u8 (.c 6)), (.i .i64 (.c 0)), (.i .i64 (.c 0)), (.i .i64 (.c 0)), (.s (.sub (.x 0) (.x 0) (.x 2)))]), (.one (.i .i64 (.x 2))), (.one (.i .i64 (.c 0)))]))
  (.ret (.tup [(.agg [(.i .u8 (.c 1)), (.i .i64 (.c 0)), (.i .i64 (.c 0)), (.i .i64 (.c 0)), (.s (.sub (.x 0) (.x 0) (.x 2)))]), (.one (.i .i64 (.x 2))), (.one (.i .i64 (.c 0)))])))))))))
  (.ite (.eqI (.x 1) (.c 3))
  (.call (.c true) false 28 [(.one (.s (.x 0))), (.one (.i .i64 (.x 0)))] (.tup [(.agg [(.i .u8 (.x 2)), (.i .i64 (.x 3)), (.i .i64 (.x 4)), (.i .i64 (.x 5)), (.s (.x 1))]), (.one (.i .i64 (.x 6))), (.one (.i .i64 (.x 7)))]) ⟨6, 0, 1, 0, 0, 0⟩
  (.ret (.tup [(.agg [(.i .u8 (.x 2)), (.i .i64 (.x 3)), (.i .i64 (.x 4)), (.i .i64 (.x 5)), (.s (.x 1))]), (.one (.i .i64 (.x 6))), (.one (.i .i64 (.x 7)))])))
  (.need (.c true) (.and (.le (.c 0) (.x 0)) (.lt (.x 0) (.len (.x 0))))
  (.ite (.eqI (.at (.x 0) (.x 0)) (.c 34))
  (.need (.c true) (.and (.le (.c 0) (.x 0)) (.le (.x 0) (.len (.x 0))))
  (.call (.c true) false 29 [(.one (.s (.sub (.x 0) (.x 0) (.len (.x 0)))))] (.tup [(.one (.s (.x 1))), (.one (.i .i64 (.x 2))), (.one (.b (.x 0)))]) ⟨1, 1, 1, 0, 0, 0⟩
  (.ite (.not (.x 0))
  (.ret (.tup [(.agg [(.i .u8 (.c 0)), (.i .i64 (.c 0)), (.i .i64 (.c 0)), (.i .i64 (.c 0)), (.s (.c []))]), (.one (.i .i64 (.c 0))), (.one (.i .i64 (.c 4)))]))
  (.need (.c true) (.and (.le (.c (-9223372036854775808)) (.add (.x 0) (.x 2))) (.le (.add (.x 0) (.x 2)) (.c 9223372036854775807)))
  (.ret (.tup [(.agg [(.i .u8 (.c 5)), (.i .i64 (.c 0)), (.i .i64 (.c 0)), (.i .i64 (.c 0)), (.s (.x 1))]), (.one (.i .i64 (.add (.x 0) (.x 2)))), (.one (.i .i64 (.c 0)))]))))))
  (.mk [(.s (.c [38, 38])), (.s (.c [124, 124])), (.s (.c [61, 61])), (.s (.c [33, 61])), (.s (.c [60, 61])), (.s (.c [62, 61]))] 9 6
  (.loop 0 ⟨[(.c 0), (.c 0), (.c 0), (.c 0), (.c 0), (.c 0), (.c 0)], [], [(.c [])], [], [], []⟩
  (.ite (.lt (.x 4) (.cnt (.x 0)))
  (.load (.le (.add (.x 0) (.c 2)) (.len (.x 0))) (.el (.x 0) (.x 4) 1 0) 1 [(.s (.x 2))] ⟨0, 0, 1, 0, 0, 0⟩
  (.need (.c true) (.and (.le (.c (-9223372036854775808)) (.add (.x 0) (.c 2))) (.le (.add (.x 0) (.c 2)) (.c 9223372036854775807)))
  (.need (.le (.add (.x 0) (.c 2)) (.len (.x 0))) (.and (.le (.c (-9223372036854775808)) (.add (.x 0) (.c 2))) (.le (.add (.x 0) (.c 2)) (.c 9223372036854775807)))
  (.need (.le (.add (.x 0) (.c 2)) (.len (.x 0))) (.and (.and (.le (.c 0) (.add (.x 0) (.c 2))) (.le (.add (.x 0) (.c 2)) (.len (.x 0)))) (.and (.le (.c 0) (.x 0)) (.le (.x 0) (.add (.x 0) (.c 2)))))
  (.need (.le (.add (.x 0) (.c 2)) (.len (.x 0))) (.and (.and (.le (.c 0) (.x 4)) (.lt (.x 4) (.cnt (.x 0)))) (.nns (.x 0)))
  (.ite (.and (.le (.add (.x 0) (.c 2)) (.len (.x 0))) (.eqS (.sub (.x 0) (.x 0) (.add (.x 0) (.c 2))) (.x 2)))
  (.need (.c true) (.and (.and (.le (.c 0) (.x 4)) (.lt (.x 4) (.cnt (.x 0)))) (.nns (.x 0)))
  (.load (.c true) (.el (.x 0) (.x 4) 1 0) 1 [(.s (.x 3))] ⟨0, 0, 1, 0, 0, 0⟩
  (.need (.c true) (.and (.le (.c (-9223372036854775808)) (.add (.x 0) (.c 2))) (.le (.add (.x 0) (.c 2)) (.c 9223372036854775807)))
  (.ret (.tup [(.agg [(.i .u8 (.c 7)), (.i .i64 (.c 0)), (.i .i64 (.c 0)), (.i .i64 (.c 0)), (.s (.x 3))]), (.one (.i .i64 (.add (.x 0) (.c 2)))), (.one (.i .i64 (.c 0)))])))))
  (.need (.c true) (.and (.le (.c (-9223372036854775808)) (.add (.x 4) (.c 1))) (.le (.add (.x 4) (.c 1)) (.c 9223372036854775807)))
  (.again 0 ⟨2, 0, 1, 0, 1, 0⟩ ⟨9, 0, 2, 0, 1, 0⟩ ⟨[(.x 2), (.x 3), (.add (.x 4) (.c 1)), (.x 5), (.x 6), (.x 7), (.x 8)], [], [(.x 1)], [], [], []⟩))))))))
  (.loop 1 ⟨[(.x 2), (.x 3), (.c 0), (.x 5), (.x 6), (.x 7), (.x 8)], [], [(.x 1)], [], [], []⟩
  (.ite (.lt (.x 11) (.len (.c [43, 45, 42, 47, 37, 60, 62, 33, 61, 40, 41, 123, 125, 91, 93, 44, 59, 58, 46])))
  (.need (.c true) (.and (.le (.c 0) (.x 0)) (.lt (.x 0) (.len (.x 0))))
  (.need (.c true) (.and (.le (.c 0) (.x 11)) (.lt (.x 11) (.len (.c [43, 45, 42, 47, 37, 60, 62, 33, 61, 40, 41, 123, 125, 91, 93, 44, 59, 58, 46]))))
  (.ite (.eqI (.at (.x 0) (.x 0)) (.at (.c [43, 45, 42, 47, 37, 60, 62, 33, 61, 40, 41, 123, 125, 91, 93, 44, 59, 58, 46]) (.x 11)))
  (.need (.c true) (.and (.le (.c (-9223372036854775808)) (.add (.x 11) (.c 1))) (.le (.add (.x 11) (.c 1)) (.c 9223372036854775807)))
  (.need (.c true) (.and (.and (.le (.c 0) (.add (.x 11) (.c 1))) (.le (.add (.x 11) (.c 1)) (.len (.c [43, 45, 42, 47, 37, 60, 62, 33, 61, 40, 41, 123, 125, 91, 93, 44, 59, 58, 46])))) (.and (.le (.c 0) (.x 11)) (.le (.x 11) (.add (.x 11) (.c 1)))))
  (.need (.c true) (.and (.le (.c (-9223372036854775808)) (.add (.x 0) (.c 1))) (.le (.add (.x 0) (.c 1)) (.c 9223372036854775807)))
  (.ret (.tup [(.agg [(.i .u8 (.c 7)), (.i .i64 (.c 0)), (.i .i64 (.c 0)), (.i .i64 (.c 0)), (.s (.sub (.c [43, 45, 42, 47, 37, 60, 62, 33, 61, 40, 41, 123, 125, 91, 93, 44, 59, 58, 46]) (.x 11) (.add (.x 11) (.c 1))))]), (.one (.i .i64 (.add (.x 0) (.c 1)))), (.one (.i .i64 (.c 0)))])))))
  (.need (.c true) (.and (.le (.c (-9223372036854775808)) (.add (.x 11) (.c 1))) (.le (.add (.x 11) (.c 1)) (.c 9223372036854775807)))
  (.again 1 ⟨9, 0, 2, 0, 1, 0⟩ ⟨16, 0, 3, 0, 1, 0⟩ ⟨[(.x 9), (.x 10), (.add (.x 11) (.c 1)), (.x 12), (.x 13), (.x 14), (.x 15)], [], [(.x 2)], [], [], []⟩)))))
  (.ret (.tup [(.agg [(.i .u8 (.c 0)), (.i .i64 (.c 0)), (.i .i64 (.c 0)), (.i .i64 (.c 0)), (.s (.c []))]), (.one (.i .i64 (.c 0))), (.one (.i .i64 (.c 4)))]))))))))))))))
theorem gen_rone : genFn ⟨true, []⟩ Tryd.prog (fun l => ([⟨[5, 6, 74], [75, 76, 13, 77, 78, 79, 80, 81, 82, 83, 84, 85, 86, 87, 88, 89, 90, 91, 92, 93, 94, 95, 96, 97, 98, 99, 100, 101], [4]⟩, ⟨[5, 6, 15], [102, 103, 104, 105, 108, 109, 110, 111, 112, 113, 114, 115, 116, 117, 118, 119, 120, 121, 122, 106, 107], [4]⟩] : List LAnn).getD l ⟨[], [], []⟩) Tryd.f13 = fm_rone := by kernel_rfl
theorem ps_rone : freshPs Tryd.prog .zero Tryd.f13.params.toList = some ([(.one (.s (.x 0))), (.one (.i .i64 (.x 0)))], ⟨1, 0, 1, 0, 0, 0⟩) := by kernel_rfl
end Go.Proofs.YtogalfbemmcaaaaDoor
