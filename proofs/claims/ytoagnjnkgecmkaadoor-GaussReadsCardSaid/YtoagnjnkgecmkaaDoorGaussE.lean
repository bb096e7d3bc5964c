/- Walks of the gauss seat, part E: the reference's sums, signs, products, norms. -/
import Derived.Test.YtoagnjnkgecmkaaDoorGaussD
namespace Go.Proofs.YtoagnjnkgecmkaaDoor
open Go.RowKit HF

theorem p24_wrap (x : Int) : P24 (IntKind.i64.wrap x) = P24 x := by
  rw [show IntKind.i64.wrap x = wrap64 x from by simp only [wrap64, IntKind.wrap, IntKind.signed, IntKind.bits]; simp; split <;> omega]
  unfold P24 wrap64; omega
set_option maxHeartbeats 2000000 in
theorem radd_any (a b c d : Int) (w : World) :
    Calls Tryd.prog 21 #[cv a b, cv c d] w fun e w' => e = .returned (cv (P24 (P24 a + P24 c)) (P24 (P24 b + P24 d))) ∧ Below w.heap.size w w' := by
  obtain ⟨a0, a1⟩ := p24_bd a
  obtain ⟨b0, b1⟩ := p24_bd b
  obtain ⟨c0, c1⟩ := p24_bd c
  obtain ⟨d0, d1⟩ := p24_bd d
  go_enter Tryd.func21, Tryd.ntmps21
  go_wp2
  go_region_held3 (fun w' => w'.cell? ⟨w.heap.size, 0, none⟩ = some (.int .i64 a) ∧ w'.cell? ⟨w.heap.size, 1, none⟩ = some (.int .i64 b) ∧ w'.cell? ⟨w.heap.size + 1, 0, none⟩ = some (.int .i64 c) ∧ w'.cell? ⟨w.heap.size + 1, 1, none⟩ = some (.int .i64 d) ∧ w'.cell? ⟨w.heap.size + 2, 0, none⟩ = some (was w' (w.heap.size + 2) 0) ∧ w'.cell? ⟨w.heap.size + 2, 1, none⟩ = some (was w' (w.heap.size + 2) 1) ∧ w'.frozen? ⟨w.heap.size + 2, 0, none⟩ = false ∧ w'.frozen? ⟨w.heap.size + 2, 1, none⟩ = false ∧ Below w.heap.size w w' ∧ w.heap.size + 2 < w'.heap.size)
    ((go_split_ands; (repeat' (first | (with_reducible assumption) | (with_reducible apply And.intro))); all_goals first | ((with_reducible refine (hb.cell (p := ⟨_, _, none⟩) ?_).trans ?_) <;> first | assumption | (dsimp only; omega) | omega) | ((with_reducible refine (hb.frozen (p := ⟨_, _, none⟩) ?_).trans ?_) <;> first | assumption | (dsimp only; omega) | omega) | ((with_reducible refine was_below hb ?_ ?_) <;> first | assumption | omega) | ((with_reducible refine Below.trans ?_ (hb.mono ?_)) <;> first | assumption | omega) | ((with_reducible refine Nat.lt_of_lt_of_le ?_ hb.size); assumption) | ((with_reducible refine was_store _ _ ?_); assumption) | ((with_reducible refine was_store _ _ (was_store _ _ ?_)); assumption) | ((repeat (first | (with_reducible exact Below.refl _ _) | (with_reducible assumption) | (with_reducible refine Below.drew ?_) | (with_reducible refine below_draws ?_ _) | ((with_reducible refine Below.setCell ?_ ?_ _); rotate_left; (first | (with_reducible exact Nat.le_refl _) | (focus (simp; done)) | (focus (simp; omega)) | omega)) | ((with_reducible refine Below.alloc ?_ ?_ _); rotate_left; (first | (with_reducible exact Nat.le_refl _) | (focus (simp; done)) | (focus (simp; omega)) | omega)))); done) | (simp [go_sem]; done) | (refine was_of (v := .int .i64 0) ?_; simp [go_sem]; done) | (simp [*, go_sem]; done) | (simp [*, go_sem, World.setCell]; done) | (simp [World.setCell]; omega)))
    (first
      | (go_at_call 20; refine (rpart_any _ _).mono ?_; rintro e w' ⟨rfl, rfl⟩)
      | (go_at_call 15; refine (rof_any _ _ _).mono ?_; rintro e w' ⟨rfl, hb⟩))
  go_wp2
  rename_i hS
  obtain ⟨_, _, _, _, r0, r1, _, _, hB, _⟩ := hS
  obtain ⟨r0, r1⟩ := cells_stored r0 r1
  simp only [p24_wrap] at r0 r1 hB ⊢
  refine bodyPost_ret (v := cv _ _) (by simp [results, Tryd.results21, go_sem, r0, r1]) rfl ⟨rfl, hB⟩

set_option maxHeartbeats 2000000 in
theorem rneg_any (a b : Int) (w : World) :
    Calls Tryd.prog 23 #[cv a b] w fun e w' => e = .returned (cv (P24 (-P24 a)) (P24 (-P24 b))) ∧ Below w.heap.size w w' := by
  obtain ⟨a0, a1⟩ := p24_bd a
  obtain ⟨b0, b1⟩ := p24_bd b
  go_enter Tryd.func23, Tryd.ntmps23
  go_wp2
  go_region_held3 (fun w' => w'.cell? ⟨w.heap.size, 0, none⟩ = some (.int .i64 a) ∧ w'.cell? ⟨w.heap.size, 1, none⟩ = some (.int .i64 b) ∧ w'.cell? ⟨w.heap.size + 1, 0, none⟩ = some (was w' (w.heap.size + 1) 0) ∧ w'.cell? ⟨w.heap.size + 1, 1, none⟩ = some (was w' (w.heap.size + 1) 1) ∧ w'.frozen? ⟨w.heap.size + 1, 0, none⟩ = false ∧ w'.frozen? ⟨w.heap.size + 1, 1, none⟩ = false ∧ Below w.heap.size w w' ∧ w.heap.size + 1 < w'.heap.size)
    ((go_split_ands; (repeat' (first | (with_reducible assumption) | (with_reducible apply And.intro))); all_goals first | ((with_reducible refine (hb.cell (p := ⟨_, _, none⟩) ?_).trans ?_) <;> first | assumption | (dsimp only; omega) | omega) | ((with_reducible refine (hb.frozen (p := ⟨_, _, none⟩) ?_).trans ?_) <;> first | assumption | (dsimp only; omega) | omega) | ((with_reducible refine was_below hb ?_ ?_) <;> first | assumption | omega) | ((with_reducible refine Below.trans ?_ (hb.mono ?_)) <;> first | assumption | omega) | ((with_reducible refine Nat.lt_of_lt_of_le ?_ hb.size); assumption) | ((with_reducible refine was_store _ _ ?_); assumption) | ((with_reducible refine was_store _ _ (was_store _ _ ?_)); assumption) | ((repeat (first | (with_reducible exact Below.refl _ _) | (with_reducible assumption) | (with_reducible refine Below.drew ?_) | (with_reducible refine below_draws ?_ _) | ((with_reducible refine Below.setCell ?_ ?_ _); rotate_left; (first | (with_reducible exact Nat.le_refl _) | (focus (simp; done)) | (focus (simp; omega)) | omega)) | ((with_reducible refine Below.alloc ?_ ?_ _); rotate_left; (first | (with_reducible exact Nat.le_refl _) | (focus (simp; done)) | (focus (simp; omega)) | omega)))); done) | (simp [go_sem]; done) | (refine was_of (v := .int .i64 0) ?_; simp [go_sem]; done) | (simp [*, go_sem]; done) | (simp [*, go_sem, World.setCell]; done) | (simp [World.setCell]; omega)))
    (first
      | (go_at_call 20; refine (rpart_any _ _).mono ?_; rintro e w' ⟨rfl, rfl⟩)
      | (go_at_call 15; refine (rof_any _ _ _).mono ?_; rintro e w' ⟨rfl, hb⟩))
  go_wp2
  rename_i hS
  obtain ⟨_, _, r0, r1, _, _, hB, _⟩ := hS
  obtain ⟨r0, r1⟩ := cells_stored r0 r1
  simp only [p24_wrap] at r0 r1 hB ⊢
  refine bodyPost_ret (v := cv _ _) (by simp [results, Tryd.results23, go_sem, r0, r1]) rfl ⟨rfl, hB⟩

set_option maxHeartbeats 2000000 in
theorem rmul_any (a b c d : Int) (w : World) :
    Calls Tryd.prog 11 #[cv a b, cv c d] w fun e w' => e = .returned (cv (P24 (P24 a * P24 c - P24 b * P24 d)) (P24 (P24 a * P24 d + P24 b * P24 c))) ∧ Below w.heap.size w w' := by
  obtain ⟨a0, a1⟩ := p24_bd a
  obtain ⟨b0, b1⟩ := p24_bd b
  obtain ⟨c0, c1⟩ := p24_bd c
  obtain ⟨d0, d1⟩ := p24_bd d
  obtain ⟨e0, e1⟩ := prod_bd (P24 a) (P24 c) (by omega) (by omega)
  obtain ⟨f0, f1⟩ := prod_bd (P24 b) (P24 d) (by omega) (by omega)
  obtain ⟨g0, g1⟩ := prod_bd (P24 a) (P24 d) (by omega) (by omega)
  obtain ⟨h0, h1⟩ := prod_bd (P24 b) (P24 c) (by omega) (by omega)
  go_enter Tryd.func11, Tryd.ntmps11
  go_wp2_with fail
  refine (rof_any _ _ _).mono ?_
  rintro e w1 ⟨rfl, hb1⟩
  obtain ⟨hc1, hf1⟩ := bcell hb1
  have hz1 : w.heap.size + 2 < w1.heap.size := by have := hb1.size; simp at this; omega
  have n0 : w.heap.size < w1.heap.size := by omega
  have n1 : w.heap.size + 1 < w1.heap.size := by omega
  go_wp2_with fail
  refine (rof_any _ _ _).mono ?_
  rintro e w2 ⟨rfl, hb2⟩
  obtain ⟨hc2, hf2⟩ := bcell hb2
  have hz2 : w1.heap.size < w2.heap.size := by have := hb2.size; simp at this; omega
  have n2 : w.heap.size + 2 < w2.heap.size := by omega
  have n3 : w.heap.size + 1 < w2.heap.size := by omega
  have n4 : w.heap.size < w2.heap.size := by omega
  have m2 : w.heap.size + 2 < w1.heap.size + 1 := by omega
  go_wp2_with fail
  refine (rof_any _ _ _).mono ?_
  rintro e w3 ⟨rfl, hb3⟩
  obtain ⟨hc3, hf3⟩ := bcell hb3
  have hz3 : w2.heap.size < w3.heap.size := by have := hb3.size; simp at this; omega
  have m5 : w.heap.size + 2 < w2.heap.size + 1 := by omega
  go_wp2_with fail
  have q1 : Below w.heap.size w w1 := Below.trans (by (repeat (first | (with_reducible exact Below.refl _ _) | (with_reducible assumption) | (with_reducible refine Below.drew ?_) | (with_reducible refine below_draws ?_ _) | ((with_reducible refine Below.setCell ?_ ?_ _); rotate_left; (first | (with_reducible exact Nat.le_refl _) | (focus (simp; done)) | (focus (simp; omega)) | omega)) | ((with_reducible refine Below.alloc ?_ ?_ _); rotate_left; (first | (with_reducible exact Nat.le_refl _) | (focus (simp; done)) | (focus (simp; omega)) | omega))))) (hb1.mono (by simp; omega))
  have q2 : Below w.heap.size w w2 := Below.trans (by (repeat (first | (with_reducible exact Below.refl _ _) | (with_reducible assumption) | (with_reducible refine Below.drew ?_) | (with_reducible refine below_draws ?_ _) | ((with_reducible refine Below.setCell ?_ ?_ _); rotate_left; (first | (with_reducible exact Nat.le_refl _) | (focus (simp; done)) | (focus (simp; omega)) | omega)) | ((with_reducible refine Below.alloc ?_ ?_ _); rotate_left; (first | (with_reducible exact Nat.le_refl _) | (focus (simp; done)) | (focus (simp; omega)) | omega))))) (hb2.mono (by simp; omega))
  have q3 : Below w.heap.size w w3 := Below.trans (by (repeat (first | (with_reducible exact Below.refl _ _) | (with_reducible assumption) | (with_reducible refine Below.drew ?_) | (with_reducible refine below_draws ?_ _) | ((with_reducible refine Below.setCell ?_ ?_ _); rotate_left; (first | (with_reducible exact Nat.le_refl _) | (focus (simp; done)) | (focus (simp; omega)) | omega)) | ((with_reducible refine Below.alloc ?_ ?_ _); rotate_left; (first | (with_reducible exact Nat.le_refl _) | (focus (simp; done)) | (focus (simp; omega)) | omega))))) (hb3.mono (by simp; omega))
  refine bodyPost_ret (v := cv _ _) (by simp [results, Tryd.results11, go_sem, hc3, hc2, hc1, hz1, n2, m2, m5]) rfl ⟨rfl, ?_⟩
  exact (by (repeat (first | (with_reducible exact Below.refl _ _) | (with_reducible assumption) | (with_reducible refine Below.drew ?_) | (with_reducible refine below_draws ?_ _) | ((with_reducible refine Below.setCell ?_ ?_ _); rotate_left; (first | (with_reducible exact Nat.le_refl _) | (focus (simp; done)) | (focus (simp; omega)) | omega)) | ((with_reducible refine Below.alloc ?_ ?_ _); rotate_left; (first | (with_reducible exact Nat.le_refl _) | (focus (simp; done)) | (focus (simp; omega)) | omega)))))

set_option maxHeartbeats 2000000 in
theorem rnorm_any (a b : Int) (w : World) :
    Calls Tryd.prog 18 #[cv a b] w fun e w' => e = .returned (.int .i64 (N24 a b)) ∧ Below w.heap.size w w' := by
  obtain ⟨a0, a1⟩ := p24_bd a
  obtain ⟨b0, b1⟩ := p24_bd b
  obtain ⟨e0, e1⟩ := prod_bd (P24 a) (P24 a) (by omega) (by omega)
  obtain ⟨f0, f1⟩ := prod_bd (P24 b) (P24 b) (by omega) (by omega)
  go_enter Tryd.func18, Tryd.ntmps18
  go_wp2_with fail
  refine (rof_any _ _ _).mono ?_
  rintro e w1 ⟨rfl, hb1⟩
  obtain ⟨hc1, hf1⟩ := bcell hb1
  have hz1 : w.heap.size < w1.heap.size := by have := hb1.size; simp at this; omega
  go_wp2_with fail
  have q1 : Below w.heap.size w w1 := Below.trans (by (repeat (first | (with_reducible exact Below.refl _ _) | (with_reducible assumption) | (with_reducible refine Below.drew ?_) | (with_reducible refine below_draws ?_ _) | ((with_reducible refine Below.setCell ?_ ?_ _); rotate_left; (first | (with_reducible exact Nat.le_refl _) | (focus (simp; done)) | (focus (simp; omega)) | omega)) | ((with_reducible refine Below.alloc ?_ ?_ _); rotate_left; (first | (with_reducible exact Nat.le_refl _) | (focus (simp; done)) | (focus (simp; omega)) | omega))))) (hb1.mono (by simp))
  go_ret
  exact ⟨rfl, (by (repeat (first | (with_reducible exact Below.refl _ _) | (with_reducible assumption) | (with_reducible refine Below.drew ?_) | (with_reducible refine below_draws ?_ _) | ((with_reducible refine Below.setCell ?_ ?_ _); rotate_left; (first | (with_reducible exact Nat.le_refl _) | (focus (simp; done)) | (focus (simp; omega)) | omega)) | ((with_reducible refine Below.alloc ?_ ?_ _); rotate_left; (first | (with_reducible exact Nat.le_refl _) | (focus (simp; done)) | (focus (simp; omega)) | omega)))))⟩
end Go.Proofs.YtoagnjnkgecmkaaDoor
