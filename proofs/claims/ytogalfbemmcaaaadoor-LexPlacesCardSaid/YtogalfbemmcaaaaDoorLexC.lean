/- Tokens, part C: runs: what the code is turned into. -/
import Derived.Test.YtogalfbemmcaaaaDoorLexB
namespace Go.Proofs.YtogalfbemmcaaaaDoor
open Go.RowKit
def fm_run_dg : Fm := (.loop 0 ⟨[(.c 0)], [], [], [], [], []⟩
  (.load (.c true) (.pt 0 1) 1 [(.i .i64 (.x 1))] ⟨1, 0, 0, 0, 0, 0⟩
  (.load (.c true) (.pt 0 0) 1 [(.s (.x 0))] ⟨0, 0, 1, 0, 0, 0⟩
  (.load (.lt (.add (.x 1) (.x 0)) (.len (.x 0))) (.pt 0 0) 1 [(.s (.x 1))] ⟨0, 0, 1, 0, 0, 0⟩
  (.load (.lt (.add (.x 1) (.x 0)) (.len (.x 0))) (.pt 0 1) 1 [(.i .i64 (.x 2))] ⟨1, 0, 0, 0, 0, 0⟩
  (.need (.c true) (.nnp 0)
  (.need (.c true) (.nnp 0)
  (.need (.c true) (.and (.le (.c (-9223372036854775808)) (.add (.x 1) (.x 0))) (.le (.add (.x 1) (.x 0)) (.c 9223372036854775807)))
  (.need (.c true) (.nnp 0)
  (.need (.c true) (.nnp 0)
  (.need (.lt (.add (.x 1) (.x 0)) (.len (.x 0))) (.nnp 0)
  (.need (.lt (.add (.x 1) (.x 0)) (.len (.x 0))) (.nnp 0)
  (.need (.lt (.add (.x 1) (.x 0)) (.len (.x 0))) (.nnp 0)
  (.need (.lt (.add (.x 1) (.x 0)) (.len (.x 0))) (.nnp 0)
  (.need (.lt (.add (.x 1) (.x 0)) (.len (.x 0))) (.and (.le (.c (-9223372036854775808)) (.add (.x 2) (.x 0))) (.le (.add (.x 2) (.x 0)) (.c 9223372036854775807)))
  (.need (.lt (.add (.x 1) (.x 0)) (.len (.x 0))) (.and (.le (.c 0) (.add (.x 2) (.x 0))) (.lt (.add (.x 2) (.x 0)) (.len (.x 1))))
  (.call (.lt (.add (.x 1) (.x 0)) (.len (.x 0))) false 20 [(.one (.i .u8 (.at (.x 1) (.add (.x 2) (.x 0)))))] (.p (.one (.b (.x 0)))) ⟨0, 1, 0, 0, 0, 0⟩
  (.ite (.and (.lt (.add (.x 1) (.x 0)) (.len (.x 0))) (.x 0))
  (.need (.c true) (.and (.le (.c (-9223372036854775808)) (.add (.x 0) (.c 1))) (.le (.add (.x 0) (.c 1)) (.c 9223372036854775807)))
  (.again 0 ⟨0, 0, 0, 0, 0, 1⟩ ⟨1, 0, 0, 0, 0, 1⟩ ⟨[(.add (.x 0) (.c 1))], [], [], [], [], []⟩))
  (.ret (.p (.one (.i .i64 (.x 0)))))))))))))))))))))))
theorem gen_run_dg : genFnP ⟨true, []⟩ Tryd.prog (fun l => ([⟨[5], [6, 7, 8, 9, 10, 11, 12, 13, 14, 15, 16, 17, 18, 19, 20, 21, 22, 23, 24, 25, 26, 27, 28, 29, 30, 31, 32, 33, 34], []⟩] : List LAnn).getD l ⟨[], [], []⟩) Tryd.f31 [.one (.pt 0), .one (.c (.fn 20))] ⟨0, 0, 0, 0, 0, 1⟩ = fm_run_dg := by kernel_rfl
def fm_run_in : Fm := (.loop 0 ⟨[(.c 0)], [], [], [], [], []⟩
  (.load (.c true) (.pt 0 1) 1 [(.i .i64 (.x 1))] ⟨1, 0, 0, 0, 0, 0⟩
  (.load (.c true) (.pt 0 0) 1 [(.s (.x 0))] ⟨0, 0, 1, 0, 0, 0⟩
  (.load (.lt (.add (.x 1) (.x 0)) (.len (.x 0))) (.pt 0 0) 1 [(.s (.x 1))] ⟨0, 0, 1, 0, 0, 0⟩
  (.load (.lt (.add (.x 1) (.x 0)) (.len (.x 0))) (.pt 0 1) 1 [(.i .i64 (.x 2))] ⟨1, 0, 0, 0, 0, 0⟩
  (.need (.c true) (.nnp 0)
  (.need (.c true) (.nnp 0)
  (.need (.c true) (.and (.le (.c (-9223372036854775808)) (.add (.x 1) (.x 0))) (.le (.add (.x 1) (.x 0)) (.c 9223372036854775807)))
  (.need (.c true) (.nnp 0)
  (.need (.c true) (.nnp 0)
  (.need (.lt (.add (.x 1) (.x 0)) (.len (.x 0))) (.nnp 0)
  (.need (.lt (.add (.x 1) (.x 0)) (.len (.x 0))) (.nnp 0)
  (.need (.lt (.add (.x 1) (.x 0)) (.len (.x 0))) (.nnp 0)
  (.need (.lt (.add (.x 1) (.x 0)) (.len (.x 0))) (.nnp 0)
  (.need (.lt (.add (.x 1) (.x 0)) (.len (.x 0))) (.and (.le (.c (-9223372036854775808)) (.add (.x 2) (.x 0))) (.le (.add (.x 2) (.x 0)) (.c 9223372036854775807)))
  (.need (.lt (.add (.x 1) (.x 0)) (.len (.x 0))) (.and (.le (.c 0) (.add (.x 2) (.x 0))) (.lt (.add (.x 2) (.x 0)) (.len (.x 1))))
  (.call (.lt (.add (.x 1) (.x 0)) (.len (.x 0))) false 33 [(.one (.i .u8 (.at (.x 1) (.add (.x 2) (.x 0)))))] (.p (.one (.b (.x 0)))) ⟨0, 1, 0, 0, 0, 0⟩
  (.ite (.and (.lt (.add (.x 1) (.x 0)) (.len (.x 0))) (.x 0))
  (.need (.c true) (.and (.le (.c (-9223372036854775808)) (.add (.x 0) (.c 1))) (.le (.add (.x 0) (.c 1)) (.c 9223372036854775807)))
  (.again 0 ⟨0, 0, 0, 0, 0, 1⟩ ⟨1, 0, 0, 0, 0, 1⟩ ⟨[(.add (.x 0) (.c 1))], [], [], [], [], []⟩))
  (.ret (.p (.one (.i .i64 (.x 0)))))))))))))))))))))))
theorem gen_run_in : genFnP ⟨true, []⟩ Tryd.prog (fun l => ([⟨[5], [6, 7, 8, 9, 10, 11, 12, 13, 14, 15, 16, 17, 18, 19, 20, 21, 22, 23, 24, 25, 26, 27, 28, 29, 30, 31, 32, 33, 34], []⟩] : List LAnn).getD l ⟨[], [], []⟩) Tryd.f31 [.one (.pt 0), .one (.c (.fn 33))] ⟨0, 0, 0, 0, 0, 1⟩ = fm_run_in := by kernel_rfl
def fm_run_nl : Fm := (.loop 0 ⟨[(.c 0)], [], [], [], [], []⟩
  (.load (.c true) (.pt 0 1) 1 [(.i .i64 (.x 1))] ⟨1, 0, 0, 0, 0, 0⟩
  (.load (.c true) (.pt 0 0) 1 [(.s (.x 0))] ⟨0, 0, 1, 0, 0, 0⟩
  (.load (.lt (.add (.x 1) (.x 0)) (.len (.x 0))) (.pt 0 0) 1 [(.s (.x 1))] ⟨0, 0, 1, 0, 0, 0⟩
  (.load (.lt (.add (.x 1) (.x 0)) (.len (.x 0))) (.pt 0 1) 1 [(.i .i64 (.x 2))] ⟨1, 0, 0, 0, 0, 0⟩
  (.need (.c true) (.nnp 0)
  (.need (.c true) (.nnp 0)
  (.need (.c true) (.and (.le (.c (-9223372036854775808)) (.add (.x 1) (.x 0))) (.le (.add (.x 1) (.x 0)) (.c 9223372036854775807)))
  (.need (.c true) (.nnp 0)
  (.need (.c true) (.nnp 0)
  (.need (.lt (.add (.x 1) (.x 0)) (.len (.x 0))) (.nnp 0)
  (.need (.lt (.add (.x 1) (.x 0)) (.len (.x 0))) (.nnp 0)
  (.need (.lt (.add (.x 1) (.x 0)) (.len (.x 0))) (.nnp 0)
  (.need (.lt (.add (.x 1) (.x 0)) (.len (.x 0))) (.nnp 0)
  (.need (.lt (.add (.x 1) (.x 0)) (.len (.x 0))) (.and (.le (.c (-9223372036854775808)) (.add (.x 2) (.x 0))) (.le (.add (.x 2) (.x 0)) (.c 9223372036854775807)))
  (.need (.lt (.add (.x 1) (.x 0)) (.len (.x 0))) (.and (.le (.c 0) (.add (.x 2) (.x 0))) (.lt (.add (.x 2) (.x 0)) (.len (.x 1))))
  (.call (.lt (.add (.x 1) (.x 0)) (.len (.x 0))) false 32 [(.one (.i .u8 (.at (.x 1) (.add (.x 2) (.x 0)))))] (.p (.one (.b (.x 0)))) ⟨0, 1, 0, 0, 0, 0⟩
  (.ite (.and (.lt (.add (.x 1) (.x 0)) (.len (.x 0))) (.x 0))
  (.need (.c true) (.and (.le (.c (-9223372036854775808)) (.add (.x 0) (.c 1))) (.le (.add (.x 0) (.c 1)) (.c 9223372036854775807)))
  (.again 0 ⟨0, 0, 0, 0, 0, 1⟩ ⟨1, 0, 0, 0, 0, 1⟩ ⟨[(.add (.x 0) (.c 1))], [], [], [], [], []⟩))
  (.ret (.p (.one (.i .i64 (.x 0)))))))))))))))))))))))
theorem gen_run_nl : genFnP ⟨true, []⟩ Tryd.prog (fun l => ([⟨[5], [6, 7, 8, 9, 10, 11, 12, 13, 14, 15, 16, 17, 18, 19, 20, 21, 22, 23, 24, 25, 26, 27, 28, 29, 30, 31, 32, 33, 34], []⟩] : List LAnn).getD l ⟨[], [], []⟩) Tryd.f31 [.one (.pt 0), .one (.c (.fn 32))] ⟨0, 0, 0, 0, 0, 1⟩ = fm_run_nl := by kernel_rfl
end Go.Proofs.YtogalfbemmcaaaaDoor
