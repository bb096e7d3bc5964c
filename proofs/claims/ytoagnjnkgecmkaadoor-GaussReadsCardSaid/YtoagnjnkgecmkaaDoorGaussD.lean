/- Walks of the gauss seat, part D: signs turned, norms, the reference's own. -/
import Derived.Test.YtoagnjnkgecmkaaDoorGaussC
namespace Go.Proofs.YtoagnjnkgecmkaaDoor
open Go.RowKit HF

theorem run_neg_complex {P : Program} (w : World) (x y : Nat) : (Op.unary .neg (.complex .f64 x y)).run P w = .ok (.complex .f64 (Op.negFloat .f64 x) (Op.negFloat .f64 y)) w := rfl
theorem run_neg_float {P : Program} (w : World) (x : Nat) : (Op.unary .neg (.float .f64 x)).run P w = .ok (.float .f64 (Op.negFloat .f64 x)) w := rfl

attribute [local go_sem] run_neg_complex run_neg_float

set_option maxHeartbeats 1000000 in
theorem neg_any (a b : Int) (w : World) :
    Calls Tryd.prog 24 #[cv a b] w fun e w' => e = .returned (cv (P24 (-P24 a)) (P24 (-P24 b))) ∧ Below w.heap.size w w' := by
  have ha := p24_bd a
  have hb0 := p24_bd b
  have K := back_any _ _ _ _ (w_neg _ _ (w_p24 a)) (w_neg _ _ (w_p24 b)) (by omega) (by omega)
  clear ha hb0
  go_enter Tryd.func24, Tryd.ntmps24
  go_wp2_with fail
  refine (number_any _ _ _).mono ?_
  rintro e w1 ⟨rfl, hb1⟩
  obtain ⟨hc1, hf1⟩ := bcell hb1
  have hz1 : w.heap.size + 1 < w1.heap.size := by have := hb1.size; simp at this; omega
  go_wp2_with fail
  refine (K _).mono ?_
  rintro e w2 ⟨rfl, hb2⟩
  obtain ⟨hc2, hf2⟩ := bcell hb2
  go_wp2_with fail
  have hB : Below w.heap.size w w2 := Below.trans (Below.trans (by (repeat (first | (with_reducible exact Below.refl _ _) | (with_reducible assumption) | (with_reducible refine Below.drew ?_) | (with_reducible refine below_draws ?_ _) | ((with_reducible refine Below.setCell ?_ ?_ _); rotate_left; (first | (with_reducible exact Nat.le_refl _) | (focus (simp; done)) | (focus (simp; omega)) | omega)) | ((with_reducible refine Below.alloc ?_ ?_ _); rotate_left; (first | (with_reducible exact Nat.le_refl _) | (focus (simp; done)) | (focus (simp; omega)) | omega))))) (hb1.mono (by simp; omega))) (hb2.mono (by omega))
  refine bodyPost_ret (v := cv _ _) (by simp [results, Tryd.results24, go_sem, hc2, hc1, hz1]) rfl ⟨rfl, ?_⟩
  exact (by (repeat (first | (with_reducible exact Below.refl _ _) | (with_reducible assumption) | (with_reducible refine Below.drew ?_) | (with_reducible refine below_draws ?_ _) | ((with_reducible refine Below.setCell ?_ ?_ _); rotate_left; (first | (with_reducible exact Nat.le_refl _) | (focus (simp; done)) | (focus (simp; omega)) | omega)) | ((with_reducible refine Below.alloc ?_ ?_ _); rotate_left; (first | (with_reducible exact Nat.le_refl _) | (focus (simp; done)) | (focus (simp; omega)) | omega)))))

set_option maxHeartbeats 1000000 in
theorem turn_any (a b : Int) (w : World) :
    Calls Tryd.prog 19 #[cv a b] w fun e w' => e = .returned (cv (P24 (P24 a)) (P24 (-P24 b))) ∧ Below w.heap.size w w' := by
  have ha := p24_bd a
  have hb0 := p24_bd b
  have K := back_any _ _ _ _ (w_p24 a) (w_neg _ _ (w_p24 b)) (by omega) (by omega)
  clear ha hb0
  go_enter Tryd.func19, Tryd.ntmps19
  go_wp2_with fail
  refine (number_any _ _ _).mono ?_
  rintro e w1 ⟨rfl, hb1⟩
  obtain ⟨hc1, hf1⟩ := bcell hb1
  have hz1 : w.heap.size + 1 < w1.heap.size := by have := hb1.size; simp at this; omega
  go_wp2_with fail
  refine (K _).mono ?_
  rintro e w2 ⟨rfl, hb2⟩
  obtain ⟨hc2, hf2⟩ := bcell hb2
  go_wp2_with fail
  have hB : Below w.heap.size w w2 := Below.trans (Below.trans (by (repeat (first | (with_reducible exact Below.refl _ _) | (with_reducible assumption) | (with_reducible refine Below.drew ?_) | (with_reducible refine below_draws ?_ _) | ((with_reducible refine Below.setCell ?_ ?_ _); rotate_left; (first | (with_reducible exact Nat.le_refl _) | (focus (simp; done)) | (focus (simp; omega)) | omega)) | ((with_reducible refine Below.alloc ?_ ?_ _); rotate_left; (first | (with_reducible exact Nat.le_refl _) | (focus (simp; done)) | (focus (simp; omega)) | omega))))) (hb1.mono (by simp; omega))) (hb2.mono (by omega))
  refine bodyPost_ret (v := cv _ _) (by simp [results, Tryd.results19, go_sem, hc2, hc1, hz1]) rfl ⟨rfl, ?_⟩
  exact (by (repeat (first | (with_reducible exact Below.refl _ _) | (with_reducible assumption) | (with_reducible refine Below.drew ?_) | (with_reducible refine below_draws ?_ _) | ((with_reducible refine Below.setCell ?_ ?_ _); rotate_left; (first | (with_reducible exact Nat.le_refl _) | (focus (simp; done)) | (focus (simp; omega)) | omega)) | ((with_reducible refine Below.alloc ?_ ?_ _); rotate_left; (first | (with_reducible exact Nat.le_refl _) | (focus (simp; done)) | (focus (simp; omega)) | omega)))))

theorem sq_bd (a : Int) (ha : -8388608 ≤ a ∧ a ≤ 8388608) : 0 ≤ a * a := by
  by_cases h : 0 ≤ a
  · exact Int.mul_nonneg h h
  · have := Int.mul_nonneg (a := -a) (b := -a) (by omega) (by omega)
    rwa [Int.neg_mul_neg] at this
/-- A number's Norm. -/
def N24 (a b : Int) : Int := P24 a * P24 a + P24 b * P24 b
theorem n24_bd (a b : Int) : 0 ≤ N24 a b ∧ N24 a b ≤ 140737488355328 := by
  have ha := p24_bd a
  have hb := p24_bd b
  have h1 := prod_bd (P24 a) (P24 a) (by omega) (by omega)
  have h2 := prod_bd (P24 b) (P24 b) (by omega) (by omega)
  have h3 := sq_bd (P24 a) (by omega)
  have h4 := sq_bd (P24 b) (by omega)
  unfold N24; omega
theorem norm_pre (a b : Int) : ∃ x y, cMulBits (floatOfInt .f64 (P24 a)) (floatOfInt .f64 (P24 b)) (floatOfInt .f64 (P24 a)) (Op.negFloat .f64 (floatOfInt .f64 (P24 b))) = some (x, y) ∧ floatToIntVal .f64 x .i64 = some (N24 a b) := by
  have ha := p24_bd a
  have hb := p24_bd b
  have hn := n24_bd a b
  obtain ⟨x, y, hm, hx, hy⟩ := cmul_w _ _ _ _ _ _ _ _ (w_p24 a) (w_p24 b) (w_p24 a) (w_neg _ _ (w_p24 b)) (by omega) (by omega) (by omega) (by omega)
  rw [show P24 a * P24 a - P24 b * -P24 b = N24 a b by unfold N24; rw [Int.mul_neg]; omega] at hx
  exact ⟨x, y, hm, w_int x _ hx (by omega) (by omega)⟩

set_option maxHeartbeats 1000000 in
theorem norm_any (a b : Int) (w : World) :
    Calls Tryd.prog 17 #[cv a b] w fun e w' => e = .returned (.int .i64 (N24 a b)) ∧ Below w.heap.size w w' := by
  obtain ⟨x, y, hm, hi⟩ := norm_pre a b
  have hrun := fun w => run_complex_mul (P := Tryd.prog) w 42 _ _ _ _ x y hm
  have hcv := fun w => run_convert_float_int (P := Tryd.prog) w 44 2 .f64 .i64 x _ (by rw [Tryd.underlying44]; rfl) Tryd.underlying2 hi
  clear hm hi
  go_enter Tryd.func17, Tryd.ntmps17
  go_wp2_with fail
  refine (number_any _ _ _).mono ?_
  rintro e w1 ⟨rfl, hb1⟩
  have hB : Below w.heap.size w w1 := Below.trans (by (repeat (first | (with_reducible exact Below.refl _ _) | (with_reducible assumption) | (with_reducible refine Below.drew ?_) | (with_reducible refine below_draws ?_ _) | ((with_reducible refine Below.setCell ?_ ?_ _); rotate_left; (first | (with_reducible exact Nat.le_refl _) | (focus (simp; done)) | (focus (simp; omega)) | omega)) | ((with_reducible refine Below.alloc ?_ ?_ _); rotate_left; (first | (with_reducible exact Nat.le_refl _) | (focus (simp; done)) | (focus (simp; omega)) | omega))))) (hb1.mono (by simp))
  go_wp2_with fail
  go_ret
  exact ⟨rfl, hB⟩
end Go.Proofs.YtoagnjnkgecmkaaDoor
