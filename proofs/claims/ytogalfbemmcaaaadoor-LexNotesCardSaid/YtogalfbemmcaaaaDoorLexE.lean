/- Tokens, part E: blanks: what the code is turned into; runs as contracts. -/
import Derived.Test.YtogalfbemmcaaaaDoorLexD
namespace Go.Proofs.YtogalfbemmcaaaaDoor
open Go.RowKit
def fm_skip : Fm := (.loop 0 ⟨[], [], [], [], [], []⟩
  (.load (.c true) (.pt 0 1) 1 [(.i .i64 (.x 0))] ⟨1, 0, 0, 0, 0, 0⟩
  (.load (.c true) (.pt 0 0) 1 [(.s (.x 0))] ⟨0, 0, 1, 0, 0, 0⟩
  (.need (.c true) (.nnp 0)
  (.need (.c true) (.nnp 0)
  (.need (.c true) (.nnp 0)
  (.need (.c true) (.nnp 0)
  (.ite (.eqI (.x 0) (.len (.x 0)))
  (.ret (.tup []))
  (.load (.c true) (.pt 0 0) 1 [(.s (.x 1))] ⟨0, 0, 1, 0, 0, 0⟩
  (.load (.c true) (.pt 0 1) 1 [(.i .i64 (.x 1))] ⟨1, 0, 0, 0, 0, 0⟩
  (.need (.c true) (.nnp 0)
  (.need (.c true) (.nnp 0)
  (.need (.c true) (.nnp 0)
  (.need (.c true) (.nnp 0)
  (.need (.c true) (.and (.le (.c 0) (.x 1)) (.lt (.x 1) (.len (.x 1))))
  (.ite (.eqI (.at (.x 1) (.x 1)) (.c 10))
  (.need (.c true) (.nnp 0)
  (.need (.c true) (.nnp 0)
  (.load (.c true) (.pt 0 2) 1 [(.i .i64 (.x 2))] ⟨1, 0, 0, 0, 0, 0⟩
  (.need (.c true) (.and (.le (.c (-9223372036854775808)) (.add (.x 2) (.c 1))) (.le (.add (.x 2) (.c 1)) (.c 9223372036854775807)))
  (.need (.c true) (.nnp 0)
  (.need (.c true) (.nnp 0)
  (.store (.pt 0 2) [(.i .i64 (.add (.x 2) (.c 1)))]
  (.need (.c true) (.nnp 0)
  (.need (.c true) (.nnp 0)
  (.store (.pt 0 3) [(.i .i64 (.c 0))]
  (.call (.c true) false 30 [(.one (.pt 0)), (.one (.i .i64 (.c 1)))] (.tup []) ⟨0, 0, 0, 0, 0, 0⟩
  (.again 0 ⟨0, 0, 0, 0, 0, 1⟩ ⟨0, 0, 0, 0, 0, 1⟩ ⟨[], [], [], [], [], []⟩))))))))))))
  (.ite (.eqI (.at (.x 1) (.x 1)) (.c 32))
  (.ite (.eqI (.at (.x 1) (.x 1)) (.c 32))
  (.call (.c true) false 30 [(.one (.pt 0)), (.one (.i .i64 (.c 1)))] (.tup []) ⟨0, 0, 0, 0, 0, 0⟩
  (.again 0 ⟨0, 0, 0, 0, 0, 1⟩ ⟨0, 0, 0, 0, 0, 1⟩ ⟨[], [], [], [], [], []⟩))
  (.ite (.eqI (.at (.x 1) (.x 1)) (.c 35))
  (.call (.c true) false 31 [(.one (.pt 0)), (.one (.c (.fn 32)))] (.p (.one (.i .i64 (.x 2)))) ⟨1, 0, 0, 0, 0, 0⟩
  (.call (.c true) false 30 [(.one (.pt 0)), (.one (.i .i64 (.x 2)))] (.tup []) ⟨0, 0, 0, 0, 0, 0⟩
  (.again 0 ⟨0, 0, 0, 0, 0, 1⟩ ⟨0, 0, 0, 0, 0, 1⟩ ⟨[], [], [], [], [], []⟩)))
  (.ret (.tup []))))
  (.ite (.eqI (.at (.x 1) (.x 1)) (.c 9))
  (.ite (.eqI (.at (.x 1) (.x 1)) (.c 9))
  (.call (.c true) false 30 [(.one (.pt 0)), (.one (.i .i64 (.c 1)))] (.tup []) ⟨0, 0, 0, 0, 0, 0⟩
  (.again 0 ⟨0, 0, 0, 0, 0, 1⟩ ⟨0, 0, 0, 0, 0, 1⟩ ⟨[], [], [], [], [], []⟩))
  (.ite (.eqI (.at (.x 1) (.x 1)) (.c 35))
  (.call (.c true) false 31 [(.one (.pt 0)), (.one (.c (.fn 32)))] (.p (.one (.i .i64 (.x 2)))) ⟨1, 0, 0, 0, 0, 0⟩
  (.call (.c true) false 30 [(.one (.pt 0)), (.one (.i .i64 (.x 2)))] (.tup []) ⟨0, 0, 0, 0, 0, 0⟩
  (.again 0 ⟨0, 0, 0, 0, 0, 1⟩ ⟨0, 0, 0, 0, 0, 1⟩ ⟨[], [], [], [], [], []⟩)))
  (.ret (.tup []))))
  (.ite (.eqI (.at (.x 1) (.x 1)) (.c 13))
  (.call (.c true) false 30 [(.one (.pt 0)), (.one (.i .i64 (.c 1)))] (.tup []) ⟨0, 0, 0, 0, 0, 0⟩
  (.again 0 ⟨0, 0, 0, 0, 0, 1⟩ ⟨0, 0, 0, 0, 0, 1⟩ ⟨[], [], [], [], [], []⟩))
  (.ite (.eqI (.at (.x 1) (.x 1)) (.c 35))
  (.call (.c true) false 31 [(.one (.pt 0)), (.one (.c (.fn 32)))] (.p (.one (.i .i64 (.x 2)))) ⟨1, 0, 0, 0, 0, 0⟩
  (.call (.c true) false 30 [(.one (.pt 0)), (.one (.i .i64 (.x 2)))] (.tup []) ⟨0, 0, 0, 0, 0, 0⟩
  (.again 0 ⟨0, 0, 0, 0, 0, 1⟩ ⟨0, 0, 0, 0, 0, 1⟩ ⟨[], [], [], [], [], []⟩)))
  (.ret (.tup []))))))))))))))))))))))
theorem gen_skip : genFn ⟨true, []⟩ Tryd.prog (fun l => ([⟨[], [2, 3, 4, 5, 6, 7, 8, 9, 10, 11, 12, 13, 14, 15, 16, 17, 18, 19, 20, 22, 21, 24, 23, 25, 26, 28, 27, 29, 30, 31, 32, 33, 34, 35, 36, 37, 38, 39, 40, 41, 42, 43, 44], [0]⟩] : List LAnn).getD l ⟨[], [], []⟩) Tryd.f16 = fm_skip := by kernel_rfl
theorem ps_skip : freshPs Tryd.prog .zero Tryd.f16.params.toList = some ([(.one (.pt 0))], ⟨0, 0, 0, 0, 0, 1⟩) := by kernel_rfl
def runSpec (p : Int → Bool) (b : Nat) (h : Hp) (φ : Value → Hp → Prop) : Prop :=
  ∃ s a l c T, h b = some ⟨rc s a l c, T⟩ ∧ 0 ≤ a ∧ a ≤ s.length ∧ s.length ≤ 1000000 ∧ φ (.int .i64 (rn p s a.toNat)) h
def ctRun : Ct Tryd.prog where
  f := 31
  spec := fun args h φ =>
    (∃ b, args = [.pointer (some ⟨b, 0, none⟩), .func (.func 20) #[] #[]] ∧ runSpec dgB b h φ) ∨ (∃ b, args = [.pointer (some ⟨b, 0, none⟩), .func (.func 33) #[] #[]] ∧ runSpec inB b h φ) ∨
    (∃ b, args = [.pointer (some ⟨b, 0, none⟩), .func (.func 32) #[] #[]] ∧ runSpec nlB b h φ)
  ok := by
    rintro args h φ w hc hH
    rcases hc with ⟨b, rfl, s, a, l, c, T, hb, h0, ha, hs, hφ⟩ | ⟨b, rfl, s, a, l, c, T, hb, h0, ha, hs, hφ⟩ | ⟨b, rfl, s, a, l, c, T, hb, h0, ha, hs, hφ⟩
    all_goals
      obtain ⟨h, rfl⟩ : ∃ h', h = Hp.set h' b ⟨rc s a l c, T⟩ := ⟨h, set_self hb⟩
      obtain ⟨n, rfl⟩ : ∃ n : Nat, a = n := ⟨a.toNat, by omega⟩
      rw [Int.toNat_natCast] at hφ
    · exact run_dg (by omega) hs h φ hφ w hH
    · exact run_inner (by omega) hs h φ hφ w hH
    · exact run_nl (by omega) hs h φ hφ w hH
def atOf (h : Hp) (b : Nat) : Int :=
  match h b with
  | some ⟨[_, .int _ a, _, _], _⟩ => a
  | _ => 0
theorem atOf_set (h : Hp) (b : Nat) (s : List UInt8) (a l c : Int) (T : Nat) : atOf (h.set b ⟨rc s a l c, T⟩) b = a := by unfold atOf; rw [set_same]; rfl
end Go.Proofs.YtogalfbemmcaaaaDoor
