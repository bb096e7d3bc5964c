/- Walks of the gauss seat, part B: complex numbers, by the language's own floats. -/
import Derived.Test.YtoagnjnkgecmkaaDoorGaussF
import Derived.Deep.RegionHeld3
import Derived.Deep.QuietTactic
import Derived.BigQuiet
namespace Go.Proofs.YtoagnjnkgecmkaaDoor
open Go.RowKit HF

/-- The value of a number of two parts. -/
abbrev cv (a b : Int) : Value := .agg #[.int .i64 a, .int .i64 b]

set_option maxHeartbeats 400000 in
theorem of_any (a b : Int) (w : World) :
    Calls Tryd.prog 14 #[.int .i64 a, .int .i64 b] w fun e w' => e = .returned (cv (P24 a) (P24 b)) ∧ Below w.heap.size w w' := by
  go_enter Tryd.func14, Tryd.ntmps14
  go_wp2_with (go_at_call 31; refine (part_any _ _).mono ?_; rintro e w' ⟨rfl, rfl⟩)
  exact bodyPost_ret (v := cv (P24 a) (P24 b)) (by simp [results, Tryd.results14, go_sem]) rfl ⟨rfl, (Below.refl _ _).alloc (Nat.le_refl _) _⟩
set_option maxHeartbeats 400000 in
theorem rof_any (a b : Int) (w : World) :
    Calls Tryd.prog 15 #[.int .i64 a, .int .i64 b] w fun e w' => e = .returned (cv (P24 a) (P24 b)) ∧ Below w.heap.size w w' := by
  go_enter Tryd.func15, Tryd.ntmps15
  go_wp2_with (go_at_call 20; refine (rpart_any _ _).mono ?_; rintro e w' ⟨rfl, rfl⟩)
  exact bodyPost_ret (v := cv (P24 a) (P24 b)) (by simp [results, Tryd.results15, go_sem]) rfl ⟨rfl, (Below.refl _ _).alloc (Nat.le_refl _) _⟩
set_option maxHeartbeats 400000 in
theorem number_any (a b : Int) (w : World) :
    Calls Tryd.prog 30 #[cv a b] w fun e w' => e = .returned (.complex .f64 (floatOfInt .f64 (P24 a)) (floatOfInt .f64 (P24 b))) ∧ Below w.heap.size w w' := by
  go_enter Tryd.func30, Tryd.ntmps30
  go_wp2
  go_quiet ((go_at_call 31; exact same_quiet (part_any _ _)))
  go_wp2
  go_ret
  exact ⟨rfl, below_draws ((Below.refl _ _).alloc (Nat.le_refl _) _) _⟩
set_option maxHeartbeats 400000 in
theorem back_any (x y : Nat) (a b : Int) (hx : W x a) (hy : W y b) (ha : -4611686018427387904 ≤ a ∧ a ≤ 4611686018427387904) (hb : -4611686018427387904 ≤ b ∧ b ≤ 4611686018427387904) (w : World) :
    Calls Tryd.prog 29 #[.complex .f64 x y] w fun e w' => e = .returned (cv (P24 a) (P24 b)) ∧ Below w.heap.size w w' := by
  have c1 := fun w => run_convert_float_int (P := Tryd.prog) w 44 2 .f64 .i64 x a (by rw [Tryd.underlying44]; rfl) Tryd.underlying2 (w_int x a hx (by omega) (by omega))
  have c2 := fun w => run_convert_float_int (P := Tryd.prog) w 44 2 .f64 .i64 y b (by rw [Tryd.underlying44]; rfl) Tryd.underlying2 (w_int y b hy (by omega) (by omega))
  clear hx hy
  go_enter Tryd.func29, Tryd.ntmps29
  go_wp2_with (go_at_call 14; refine (of_any _ _ _).mono ?_; rintro e w' ⟨rfl, hb⟩; obtain ⟨hc, hf⟩ := bcell hb)
  refine bodyPost_ret (v := cv (P24 a) (P24 b)) (by simp [results, Tryd.results29, go_sem, hc]) rfl ⟨rfl, ?_⟩
  have hb0 : Below w.heap.size w w' := ((Below.refl _ _).alloc (Nat.le_refl _) _).trans (hb.mono (by simp))
  exact (by (repeat (first | (with_reducible exact Below.refl _ _) | (with_reducible assumption) | (with_reducible refine Below.drew ?_) | (with_reducible refine below_draws ?_ _) | ((with_reducible refine Below.setCell ?_ ?_ _); rotate_left; (first | (with_reducible exact Nat.le_refl _) | (focus (simp; done)) | (focus (simp; omega)) | omega)) | ((with_reducible refine Below.alloc ?_ ?_ _); rotate_left; (first | (with_reducible exact Nat.le_refl _) | (focus (simp; done)) | (focus (simp; omega)) | omega)))))
end Go.Proofs.YtoagnjnkgecmkaaDoor
