/- Walks of the gauss seat, part Q: the document's examples. -/
import Derived.Test.YtoagnjnkgecmkaaDoorGaussP
namespace Go.Proofs.YtoagnjnkgecmkaaDoor
open Go.RowKit
attribute [local go_sem] B_mk B_size B_toList B_extract B_append B_get

theorem ex_parse (w : World) : Calls Tryd.prog 26 #[.string (B [51, 45, 52, 105])] w fun e w' => e = .returned (.tuple #[cv 3 (-4), .int .i64 0]) ∧ Below w.heap.size w w' := by
  have h := gparse_any [51, 45, 52, 105] (by decide) w (LA.at (la_ascii _ (by decide) (by
    intro i hi
    have : i = 0 ∨ i = 1 ∨ i = 2 := by simp at hi; omega
    rcases this with rfl | rfl | rfl <;> decide)) w)
  rw [show gp [51, 45, 52, 105] = (3, -4, 0) by decide +kernel] at h
  exact h
theorem ex_mul (w : World) : Calls Tryd.prog 10 #[cv 0 1, cv 0 1] w fun e w' => e = .returned (cv (-1) 0) ∧ Below w.heap.size w w' := mul_any 0 1 0 1 w
theorem ex_of (w : World) : Calls Tryd.prog 14 #[.int .i64 8388608, .int .i64 0] w fun e w' => e = .returned (cv (-8388608) 0) ∧ Below w.heap.size w w' := of_any 8388608 0 w
theorem ex_norm (w : World) : Calls Tryd.prog 17 #[cv 3 4] w fun e w' => e = .returned (.int .i64 25) ∧ Below w.heap.size w w' := norm_any 3 4 w

set_option maxHeartbeats 4000000 in
theorem awake_any (w : World) : Calls Tryd.prog 12 #[] w fun e w' => e = .returned (.bool true) ∧ Below w.heap.size w w' := by
  go_enter Tryd.func12, Tryd.ntmps12
  go_wp2_with fail
  refine (ex_parse _).mono ?_
  rintro e w1 ⟨rfl, hb1⟩
  obtain ⟨hc1, hf1⟩ := bcell hb1
  have hz1 : w.heap.size < w1.heap.size := by have := hb1.size; simp at this; omega
  have q1 : Below w.heap.size w w1 := Below.trans (by (repeat (first | (with_reducible exact Below.refl _ _) | (with_reducible assumption) | (with_reducible refine Below.drew ?_) | (with_reducible refine below_draws ?_ _) | ((with_reducible refine Below.setCell ?_ ?_ _); rotate_left; (first | (with_reducible exact Nat.le_refl _) | (focus (simp; done)) | (focus (simp; omega)) | omega)) | ((with_reducible refine Below.alloc ?_ ?_ _); rotate_left; (first | (with_reducible exact Nat.le_refl _) | (focus (simp; done)) | (focus (simp; omega)) | omega))))) (hb1.mono (by simp))
  have q2 : Below w.heap.size w (w1.alloc (.cells #[.int .i64 3, .int .i64 (-4)] 23)) := q1.alloc (by omega) _
  go_wp2_with fail
  refine (ex_mul _).mono ?_
  rintro e w2 ⟨rfl, hb2⟩
  obtain ⟨hc2, hf2⟩ := bcell hb2
  have hz2 : w1.heap.size < w2.heap.size := by have := hb2.size; simp at this; omega
  have q3 : Below w.heap.size w w2 := Below.trans q2 (hb2.mono (by simp; omega))
  go_wp2_with fail
  refine (ex_of _).mono ?_
  rintro e w3 ⟨rfl, hb3⟩
  obtain ⟨hc3, hf3⟩ := bcell hb3
  have hz3 : w1.heap.size < w3.heap.size := by have := hb3.size; omega
  have q4 : Below w.heap.size w w3 := Below.trans q3 (hb3.mono (by omega))
  go_wp2_with fail
  refine (ex_norm _).mono ?_
  rintro e w4 ⟨rfl, hb4⟩
  obtain ⟨hc4, hf4⟩ := bcell hb4
  have hz4 : w1.heap.size < w4.heap.size := by have := hb4.size; omega
  have q5 : Below w.heap.size w w4 := Below.trans q4 (hb4.mono (by omega))
  go_wp2
  go_ret
  exact ⟨rfl, q5⟩
end Go.Proofs.YtoagnjnkgecmkaaDoor
