/- Tokens, part I: numbers, plain; the library's functions that they want. -/
import Derived.Test.YtogalfbemmcaaaaDoorLexH
import Derived.Test.YtogalfbemmcaaaaDoorShelf
namespace Go.Proofs.YtogalfbemmcaaaaDoor
open Go.RowKit
def fm_number : Fm := (.call (.c true) false 31 [(.one (.pt 0)), (.one (.c (.fn 20)))] (.p (.one (.i .i64 (.x 4)))) ⟨1, 0, 0, 0, 0, 0⟩
  (.load (.c true) (.pt 0 0) 1 [(.s (.x 1))] ⟨0, 0, 1, 0, 0, 0⟩
  (.load (.c true) (.pt 0 1) 1 [(.i .i64 (.x 5))] ⟨1, 0, 0, 0, 0, 0⟩
  (.load (.c true) (.pt 0 1) 1 [(.i .i64 (.x 6))] ⟨1, 0, 0, 0, 0, 0⟩
  (.need (.c true) (.nnp 0)
  (.need (.c true) (.nnp 0)
  (.need (.c true) (.nnp 0)
  (.need (.c true) (.nnp 0)
  (.need (.c true) (.nnp 0)
  (.need (.c true) (.nnp 0)
  (.need (.c true) (.and (.le (.c (-9223372036854775808)) (.add (.x 6) (.x 4))) (.le (.add (.x 6) (.x 4)) (.c 9223372036854775807)))
  (.need (.c true) (.and (.and (.le (.c 0) (.add (.x 6) (.x 4))) (.le (.add (.x 6) (.x 4)) (.len (.x 1)))) (.and (.le (.c 0) (.x 5)) (.le (.x 5) (.add (.x 6) (.x 4)))))
  (.load (.c true) (.pt 0 1) 1 [(.i .i64 (.x 7))] ⟨1, 0, 0, 0, 0, 0⟩
  (.load (.c true) (.pt 0 0) 1 [(.s (.x 2))] ⟨0, 0, 1, 0, 0, 0⟩
  (.load (.lt (.add (.x 7) (.x 4)) (.len (.x 2))) (.pt 0 0) 1 [(.s (.x 3))] ⟨0, 0, 1, 0, 0, 0⟩
  (.load (.lt (.add (.x 7) (.x 4)) (.len (.x 2))) (.pt 0 1) 1 [(.i .i64 (.x 8))] ⟨1, 0, 0, 0, 0, 0⟩
  (.need (.c true) (.nnp 0)
  (.need (.c true) (.nnp 0)
  (.need (.c true) (.and (.le (.c (-9223372036854775808)) (.add (.x 7) (.x 4))) (.le (.add (.x 7) (.x 4)) (.c 9223372036854775807)))
  (.need (.c true) (.nnp 0)
  (.need (.c true) (.nnp 0)
  (.need (.lt (.add (.x 7) (.x 4)) (.len (.x 2))) (.nnp 0)
  (.need (.lt (.add (.x 7) (.x 4)) (.len (.x 2))) (.nnp 0)
  (.need (.lt (.add (.x 7) (.x 4)) (.len (.x 2))) (.nnp 0)
  (.need (.lt (.add (.x 7) (.x 4)) (.len (.x 2))) (.nnp 0)
  (.need (.lt (.add (.x 7) (.x 4)) (.len (.x 2))) (.and (.le (.c (-9223372036854775808)) (.add (.x 8) (.x 4))) (.le (.add (.x 8) (.x 4)) (.c 9223372036854775807)))
  (.need (.lt (.add (.x 7) (.x 4)) (.len (.x 2))) (.and (.le (.c 0) (.add (.x 8) (.x 4))) (.lt (.add (.x 8) (.x 4)) (.len (.x 3))))
  (.ite (.and (.lt (.add (.x 7) (.x 4)) (.len (.x 2))) (.eqI (.at (.x 3) (.add (.x 8) (.x 4))) (.c 105)))
  (.need (.c true) (.and (.le (.c (-9223372036854775808)) (.add (.x 4) (.c 1))) (.le (.add (.x 4) (.c 1)) (.c 9223372036854775807)))
  (.load (.c true) (.pt 0 1) 1 [(.i .i64 (.x 9))] ⟨1, 0, 0, 0, 0, 0⟩
  (.load (.c true) (.pt 0 0) 1 [(.s (.x 4))] ⟨0, 0, 1, 0, 0, 0⟩
  (.load (.lt (.add (.x 9) (.add (.x 4) (.c 1))) (.len (.x 4))) (.pt 0 0) 1 [(.s (.x 5))] ⟨0, 0, 1, 0, 0, 0⟩
  (.load (.lt (.add (.x 9) (.add (.x 4) (.c 1))) (.len (.x 4))) (.pt 0 1) 1 [(.i .i64 (.x 10))] ⟨1, 0, 0, 0, 0, 0⟩
  (.need (.c true) (.nnp 0)
  (.need (.c true) (.nnp 0)
  (.need (.c true) (.and (.le (.c (-9223372036854775808)) (.add (.x 9) (.add (.x 4) (.c 1)))) (.le (.add (.x 9) (.add (.x 4) (.c 1))) (.c 9223372036854775807)))
  (.need (.c true) (.nnp 0)
  (.need (.c true) (.nnp 0)
  (.need (.lt (.add (.x 9) (.add (.x 4) (.c 1))) (.len (.x 4))) (.nnp 0)
  (.need (.lt (.add (.x 9) (.add (.x 4) (.c 1))) (.len (.x 4))) (.nnp 0)
  (.need (.lt (.add (.x 9) (.add (.x 4) (.c 1))) (.len (.x 4))) (.nnp 0)
  (.need (.lt (.add (.x 9) (.add (.x 4) (.c 1))) (.len (.x 4))) (.nnp 0)
  (.need (.lt (.add (.x 9) (.add (.x 4) (.c 1))) (.len (.x 4))) (.and (.le (.c (-9223372036854775808)) (.add (.x 10) (.add (.x 4) (.c 1)))) (.le (.add (.x 10) (.add (.x 4) (.c 1))) (.c 9223372036854775807)))
  (.need (.lt (.add (.x 9) (.add (.x 4) (.c 1))) (.len (.x 4))) (.and (.le (.c 0) (.add (.x 10) (.add (.x 4) (.c 1)))) (.lt (.add (.x 10) (.add (.x 4) (.c 1))) (.len (.x 5))))
  (.call (.lt (.add (.x 9) (.add (.x 4) (.c 1))) (.len (.x 4))) false 33 [(.one (.i .u8 (.at (.x 5) (.add (.x 10) (.add (.x 4) (.c 1))))))] (.p (.one (.b (.x 0)))) ⟨0, 1, 0, 0, 0, 0⟩
  (.ite (.and (.lt (.add (.x 9) (.add (.x 4) (.c 1))) (.len (.x 4))) (.x 0))
  (.ret (.tup [(.agg [(.i .u8 (.c 0)), (.i .i64 (.c 0)), (.i .i64 (.c 0)), (.i .i64 (.c 0)), (.s (.c []))]), (.one (.i .i64 (.c 4)))]))
  (.call (.c true) false 34 [(.one (.s (.sub (.x 1) (.x 5) (.add (.x 6) (.x 4))))), (.one (.s (.c [48])))] (.p (.one (.s (.x 6)))) ⟨0, 0, 1, 0, 0, 0⟩
  (.ite (.eqS (.x 6) (.c []))
  (.call (.c true) false 35 [(.one (.s (.c [48])))] (.tup [(.one (.i .i64 (.x 11))), (.one (.i .i64 (.x 12)))]) ⟨2, 0, 0, 0, 0, 0⟩
  (.ite (.or (.not (.eqI (.x 12) (.c 0))) (.lt (.c 8388607) (.x 11)))
  (.ret (.tup [(.agg [(.i .u8 (.c 0)), (.i .i64 (.c 0)), (.i .i64 (.c 0)), (.i .i64 (.c 0)), (.s (.c []))]), (.one (.i .i64 (.c 14)))]))
  (.call (.c true) false 30 [(.one (.pt 0)), (.one (.i .i64 (.add (.x 4) (.c 1))))] (.tup []) ⟨0, 0, 0, 0, 0, 0⟩
  (.ret (.tup [(.agg [(.i .u8 (.c 4)), (.i .i64 (.x 1)), (.i .i64 (.x 2)), (.i .i64 (.x 11)), (.s (.x 0))]), (.one (.i .i64 (.c 0)))])))))
  (.call (.c true) false 35 [(.one (.s (.x 6)))] (.tup [(.one (.i .i64 (.x 11))), (.one (.i .i64 (.x 12)))]) ⟨2, 0, 0, 0, 0, 0⟩
  (.ite (.or (.not (.eqI (.x 12) (.c 0))) (.lt (.c 8388607) (.x 11)))
  (.ret (.tup [(.agg [(.i .u8 (.c 0)), (.i .i64 (.c 0)), (.i .i64 (.c 0)), (.i .i64 (.c 0)), (.s (.c []))]), (.one (.i .i64 (.c 14)))]))
  (.call (.c true) false 30 [(.one (.pt 0)), (.one (.i .i64 (.add (.x 4) (.c 1))))] (.tup []) ⟨0, 0, 0, 0, 0, 0⟩
  (.ret (.tup [(.agg [(.i .u8 (.c 4)), (.i .i64 (.x 1)), (.i .i64 (.x 2)), (.i .i64 (.x 11)), (.s (.x 0))]), (.one (.i .i64 (.c 0)))])))))))))))))))))))))))))
  (.load (.c true) (.pt 0 1) 1 [(.i .i64 (.x 9))] ⟨1, 0, 0, 0, 0, 0⟩
  (.load (.c true) (.pt 0 0) 1 [(.s (.x 4))] ⟨0, 0, 1, 0, 0, 0⟩
  (.load (.lt (.add (.x 9) (.x 4)) (.len (.x 4))) (.pt 0 0) 1 [(.s (.x 5))] ⟨0, 0, 1, 0, 0, 0⟩
  (.load (.lt (.add (.x 9) (.x 4)) (.len (.x 4))) (.pt 0 1) 1 [(.i .i64 (.x 10))] ⟨1, 0, 0, 0, 0, 0⟩
  (.need (.c true) (.nnp 0)
  (.need (.c true) (.nnp 0)
  (.need (.c true) (.and (.le (.c (-9223372036854775808)) (.add (.x 9) (.x 4))) (.le (.add (.x 9) (.x 4)) (.c 9223372036854775807)))
  (.need (.c true) (.nnp 0)
  (.need (.c true) (.nnp 0)
  (.need (.lt (.add (.x 9) (.x 4)) (.len (.x 4))) (.nnp 0)
  (.need (.lt (.add (.x 9) (.x 4)) (.len (.x 4))) (.nnp 0)
  (.need (.lt (.add (.x 9) (.x 4)) (.len (.x 4))) (.nnp 0)
  (.need (.lt (.add (.x 9) (.x 4)) (.len (.x 4))) (.nnp 0)
  (.need (.lt (.add (.x 9) (.x 4)) (.len (.x 4))) (.and (.le (.c (-9223372036854775808)) (.add (.x 10) (.x 4))) (.le (.add (.x 10) (.x 4)) (.c 9223372036854775807)))
  (.need (.lt (.add (.x 9) (.x 4)) (.len (.x 4))) (.and (.le (.c 0) (.add (.x 10) (.x 4))) (.lt (.add (.x 10) (.x 4)) (.len (.x 5))))
  (.call (.lt (.add (.x 9) (.x 4)) (.len (.x 4))) false 33 [(.one (.i .u8 (.at (.x 5) (.add (.x 10) (.x 4)))))] (.p (.one (.b (.x 0)))) ⟨0, 1, 0, 0, 0, 0⟩
  (.ite (.and (.lt (.add (.x 9) (.x 4)) (.len (.x 4))) (.x 0))
  (.ret (.tup [(.agg [(.i .u8 (.c 0)), (.i .i64 (.c 0)), (.i .i64 (.c 0)), (.i .i64 (.c 0)), (.s (.c []))]), (.one (.i .i64 (.c 4)))]))
  (.call (.c true) false 34 [(.one (.s (.sub (.x 1) (.x 5) (.add (.x 6) (.x 4))))), (.one (.s (.c [48])))] (.p (.one (.s (.x 6)))) ⟨0, 0, 1, 0, 0, 0⟩
  (.ite (.eqS (.x 6) (.c []))
  (.call (.c true) false 35 [(.one (.s (.c [48])))] (.tup [(.one (.i .i64 (.x 11))), (.one (.i .i64 (.x 12)))]) ⟨2, 0, 0, 0, 0, 0⟩
  (.ite (.or (.not (.eqI (.x 12) (.c 0))) (.lt (.c 9223372036854775807) (.x 11)))
  (.ret (.tup [(.agg [(.i .u8 (.c 0)), (.i .i64 (.c 0)), (.i .i64 (.c 0)), (.i .i64 (.c 0)), (.s (.c []))]), (.one (.i .i64 (.c 14)))]))
  (.call (.c true) false 30 [(.one (.pt 0)), (.one (.i .i64 (.x 4)))] (.tup []) ⟨0, 0, 0, 0, 0, 0⟩
  (.ret (.tup [(.agg [(.i .u8 (.c 3)), (.i .i64 (.x 1)), (.i .i64 (.x 2)), (.i .i64 (.x 11)), (.s (.x 0))]), (.one (.i .i64 (.c 0)))])))))
  (.call (.c true) false 35 [(.one (.s (.x 6)))] (.tup [(.one (.i .i64 (.x 11))), (.one (.i .i64 (.x 12)))]) ⟨2, 0, 0, 0, 0, 0⟩
  (.ite (.or (.not (.eqI (.x 12) (.c 0))) (.lt (.c 9223372036854775807) (.x 11)))
  (.ret (.tup [(.agg [(.i .u8 (.c 0)), (.i .i64 (.c 0)), (.i .i64 (.c 0)), (.i .i64 (.c 0)), (.s (.c []))]), (.one (.i .i64 (.c 14)))]))
  (.call (.c true) false 30 [(.one (.pt 0)), (.one (.i .i64 (.x 4)))] (.tup []) ⟨0, 0, 0, 0, 0, 0⟩
  (.ret (.tup [(.agg [(.i .u8 (.c 3)), (.i .i64 (.x 1)), (.i .i64 (.x 2)), (.i .i64 (.x 11)), (.s (.x 0))]), (.one (.i .i64 (.c 0)))]))))))))))))))))))))))))))))))))))))))))))))))))))))
theorem gen_number : genFn ⟨true, []⟩ Tryd.prog (fun l => ([] : List LAnn).getD l ⟨[], [], []⟩) Tryd.f21 = fm_number := by kernel_rfl
theorem ps_number : freshPs Tryd.prog .zero Tryd.f21.params.toList = some ([(.one (.pt 0)), (.agg [(.i .u8 (.x 0)), (.i .i64 (.x 1)), (.i .i64 (.x 2)), (.i .i64 (.x 3)), (.s (.x 0))])], ⟨4, 0, 1, 0, 0, 1⟩) := by kernel_rfl
def fm_rnumber : Fm := (.loop 0 ⟨[(.x 0)], [], [], [], [], []⟩
  (.need (.lt (.x 1) (.len (.x 0))) (.and (.le (.c 0) (.x 1)) (.lt (.x 1) (.len (.x 0))))
  (.call (.lt (.x 1) (.len (.x 0))) false 26 [(.one (.i .u8 (.at (.x 0) (.x 1))))] (.p (.one (.i .i64 (.x 2)))) ⟨1, 0, 0, 0, 0, 0⟩
  (.ite (.and (.lt (.x 1) (.len (.x 0))) (.eqI (.x 2) (.c 3)))
  (.need (.c true) (.and (.le (.c (-9223372036854775808)) (.add (.x 1) (.c 1))) (.le (.add (.x 1) (.c 1)) (.c 9223372036854775807)))
  (.again 0 ⟨1, 0, 1, 0, 0, 0⟩ ⟨2, 0, 1, 0, 0, 0⟩ ⟨[(.add (.x 1) (.c 1))], [], [], [], [], []⟩))
  (.call (.c true) false 27 [(.one (.s (.x 0))), (.one (.i .i64 (.x 1)))] (.p (.one (.i .i64 (.x 3)))) ⟨1, 0, 0, 0, 0, 0⟩
  (.need (.c true) (.and (.le (.c (-9223372036854775808)) (.add (.x 1) (.c 1))) (.le (.add (.x 1) (.c 1)) (.c 9223372036854775807)))
  (.need (.eqI (.x 3) (.add (.x 1) (.c 1))) (.and (.le (.c 0) (.x 1)) (.lt (.x 1) (.len (.x 0))))
  (.ite (.and (.eqI (.x 3) (.add (.x 1) (.c 1))) (.eqI (.at (.x 0) (.x 1)) (.c 105)))
  (.loop 1 ⟨[(.x 0)], [], [], [], [], []⟩
  (.need (.c true) (.and (.le (.c (-9223372036854775808)) (.sub (.x 1) (.c 1))) (.le (.sub (.x 1) (.c 1)) (.c 9223372036854775807)))
  (.need (.lt (.x 4) (.sub (.x 1) (.c 1))) (.and (.le (.c 0) (.x 4)) (.lt (.x 4) (.len (.x 0))))
  (.ite (.and (.lt (.x 4) (.sub (.x 1) (.c 1))) (.eqI (.at (.x 0) (.x 4)) (.c 48)))
  (.need (.c true) (.and (.le (.c (-9223372036854775808)) (.add (.x 4) (.c 1))) (.le (.add (.x 4) (.c 1)) (.c 9223372036854775807)))
  (.again 1 ⟨4, 0, 1, 0, 0, 0⟩ ⟨5, 0, 1, 0, 0, 0⟩ ⟨[(.add (.x 4) (.c 1))], [], [], [], [], []⟩))
  (.need (.c true) (.and (.and (.le (.c 0) (.x 1)) (.le (.x 1) (.len (.x 0)))) (.and (.le (.c 0) (.x 4)) (.le (.x 4) (.x 1))))
  (.call (.c true) false 42 [(.one (.s (.sub (.x 0) (.x 4) (.x 1))))] (.tup [(.one (.i .i64 (.x 5))), (.one (.i .i64 (.x 6)))]) ⟨2, 0, 0, 0, 0, 0⟩
  (.ite (.or (.not (.eqI (.x 6) (.c 0))) (.lt (.c 8388607) (.x 5)))
  (.ret (.tup [(.agg [(.i .u8 (.c 4)), (.i .i64 (.c 0)), (.i .i64 (.c 0)), (.i .i64 (.c 0)), (.s (.c []))]), (.one (.i .i64 (.c 0))), (.one (.i .i64 (.c 14)))]))
  (.ret (.tup [(.agg [(.i .u8 (.c 4)), (.i .i64 (.c 0)), (.i .i64 (.c 0)), (.i .i64 (.x 5)), (.s (.c []))]), (.one (.i .i64 (.x 3))), (.one (.i .i64 (.c 0)))])))))))))
  (.ite (.not (.eqI (.x 3) (.x 1)))
  (.ret (.tup [(.agg [(.i .u8 (.c 3)), (.i .i64 (.c 0)), (.i .i64 (.c 0)), (.i .i64 (.c 0)), (.s (.c []))]), (.one (.i .i64 (.c 0))), (.one (.i .i64 (.c 4)))]))
  (.loop 1 ⟨[(.x 0)], [], [], [], [], []⟩
  (.need (.c true) (.and (.le (.c (-9223372036854775808)) (.sub (.x 1) (.c 1))) (.le (.sub (.x 1) (.c 1)) (.c 9223372036854775807)))
  (.need (.lt (.x 4) (.sub (.x 1) (.c 1))) (.and (.le (.c 0) (.x 4)) (.lt (.x 4) (.len (.x 0))))
  (.ite (.and (.lt (.x 4) (.sub (.x 1) (.c 1))) (.eqI (.at (.x 0) (.x 4)) (.c 48)))
  (.need (.c true) (.and (.le (.c (-9223372036854775808)) (.add (.x 4) (.c 1))) (.le (.add (.x 4) (.c 1)) (.c 9223372036854775807)))
  (.again 1 ⟨4, 0, 1, 0, 0, 0⟩ ⟨5, 0, 1, 0, 0, 0⟩ ⟨[(.add (.x 4) (.c 1))], [], [], [], [], []⟩))
  (.need (.c true) (.and (.and (.le (.c 0) (.x 1)) (.le (.x 1) (.len (.x 0)))) (.and (.le (.c 0) (.x 4)) (.le (.x 4) (.x 1))))
  (.call (.c true) false 42 [(.one (.s (.sub (.x 0) (.x 4) (.x 1))))] (.tup [(.one (.i .i64 (.x 5))), (.one (.i .i64 (.x 6)))]) ⟨2, 0, 0, 0, 0, 0⟩
  (.ite (.or (.not (.eqI (.x 6) (.c 0))) (.lt (.c 9223372036854775807) (.x 5)))
  (.ret (.tup [(.agg [(.i .u8 (.c 3)), (.i .i64 (.c 0)), (.i .i64 (.c 0)), (.i .i64 (.c 0)), (.s (.c []))]), (.one (.i .i64 (.c 0))), (.one (.i .i64 (.c 14)))]))
  (.ret (.tup [(.agg [(.i .u8 (.c 3)), (.i .i64 (.c 0)), (.i .i64 (.c 0)), (.i .i64 (.x 5)), (.s (.c []))]), (.one (.i .i64 (.x 3))), (.one (.i .i64 (.c 0)))]))))))))))))))))))
theorem gen_rnumber : genFn ⟨true, []⟩ Tryd.prog (fun l => ([⟨[7], [14, 15, 16, 17, 18, 19, 20, 21, 22, 23, 24, 25, 26], []⟩, ⟨[1], [46, 47, 48, 49, 50, 51, 52, 53, 54, 55, 56, 57], []⟩] : List LAnn).getD l ⟨[], [], []⟩) Tryd.f28 = fm_rnumber := by kernel_rfl
theorem ps_rnumber : freshPs Tryd.prog .zero Tryd.f28.params.toList = some ([(.one (.s (.x 0))), (.one (.i .i64 (.x 0)))], ⟨1, 0, 1, 0, 0, 0⟩) := by kernel_rfl
/-- Without the zeros ahead. -/
def strip : List UInt8 → List UInt8
  | a :: c :: t => if a.toNat = 48 then strip (c :: t) else a :: c :: t
  | l => l
theorem strip_trim (d : List UInt8) (hne : d ≠ []) : strip d = if Lib.trimLeftB d 48 = [] then [48] else Lib.trimLeftB d 48 := by
  induction d with
  | nil => exact absurd rfl hne
  | cons a t ih =>
    have e48 : (a == 48) = decide (a.toNat = 48) := by
      rw [Bool.eq_iff_iff]; simp
      constructor
      · rintro rfl; rfl
      · intro h; exact UInt8.toNat_inj.1 (by simpa using h)
    cases t with
    | nil =>
      simp only [strip, Lib.trimLeftB, List.dropWhile_cons, List.dropWhile_nil, e48]
      by_cases h : a.toNat = 48
      · have : a = 48 := UInt8.toNat_inj.1 (by simpa using h)
        subst this; simp
      · simp [h]
    | cons c t =>
      simp only [strip]
      by_cases h : a.toNat = 48
      · rw [if_pos h, ih (by simp)]
        have : Lib.trimLeftB (a :: c :: t) 48 = Lib.trimLeftB (c :: t) 48 := by
          simp only [Lib.trimLeftB, List.dropWhile_cons, e48, h, decide_true, if_true]
        rw [this]
      · rw [if_neg h]
        have : Lib.trimLeftB (a :: c :: t) 48 = a :: c :: t := by
          simp only [Lib.trimLeftB, List.dropWhile_cons, e48, h, decide_false]; rfl
        rw [this]; simp
def nfin (k most : Int) (d : List UInt8) (e : Nat) : Int × Int × Int × Nat :=
  if (pv (strip d)).2 = 0 ∧ (pv (strip d)).1 ≤ most then (0, k, (pv (strip d)).1, e) else (14, 0, 0, 0)
/-- A number: the fault, the kind, the number, where it ends. -/
def nm (s : List UInt8) (i : Nat) : Int × Int × Int × Nat :=
  if rn inB s (i + rn dgB s i) = 0 then nfin 3 9223372036854775807 (sub s i (i + rn dgB s i)) (i + rn dgB s i)
  else if rn inB s (i + rn dgB s i) = 1 ∧ bt s (i + rn dgB s i) = 105 then nfin 4 8388607 (sub s i (i + rn dgB s i)) (i + rn dgB s i + 1)
  else (4, 0, 0, 0)
def ctTrimZ : Ct Tryd.prog where
  f := 34
  spec := fun args h φ => ∃ d, args = [.string (B d), .string (B [48])] ∧ φ (.string (B (Lib.trimLeftB d 48))) h
  ok := by
    rintro args h φ w ⟨d, rfl, hφ⟩ hH
    refine ct_same (v := .string (B (Lib.trimLeftB d 48))) ((Tryd.strings_TrimLeft_one (B d) 48 (by decide) w).mono fun e w' ⟨he, hw⟩ => ⟨?_, hw.symm⟩) hφ hH
    rw [he]
    simp [B]
def ctNumParse : Ct Tryd.prog where
  f := 35
  spec := fun args h φ => ∃ l, args = [.string (B l)] ∧ l.length < 1000000 ∧ φ (.tuple #[.int .i64 (pv l).1, .int .i64 (pv l).2]) h
  ok := by rintro args h φ w ⟨l, rfl, hl, hφ⟩ hH; exact ct_same (nparse_any l w hl) hφ hH
def ctRefParse : Ct Tryd.prog where
  f := 42
  spec := fun args h φ => ∃ l, args = [.string (B l)] ∧ l.length < 1000000 ∧ φ (.tuple #[.int .i64 (pv l).1, .int .i64 (pv l).2]) h
  ok := by rintro args h φ w ⟨l, rfl, hl, hφ⟩ hH; exact ct_value (rparse_any l w hl) hφ hH
theorem trimLeftB_len (d : List UInt8) (c : UInt8) : (Lib.trimLeftB d c).length ≤ d.length := by
  unfold Lib.trimLeftB; exact (List.dropWhile_sublist _).length_le
end Go.Proofs.YtogalfbemmcaaaaDoor
