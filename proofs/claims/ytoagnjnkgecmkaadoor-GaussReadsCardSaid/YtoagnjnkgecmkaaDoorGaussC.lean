/- Walks of the gauss seat, part C: products, sums, norms. -/
import Derived.Test.YtoagnjnkgecmkaaDoorGaussB
namespace Go.Proofs.YtoagnjnkgecmkaaDoor
open Go.RowKit HF

theorem p24_bd (n : Int) : -8388608 ≤ P24 n ∧ P24 n ≤ 8388607 := by unfold P24; omega
theorem w_p24 (n : Int) : W (floatOfInt .f64 (P24 n)) (P24 n) := w_of _ (by have := p24_bd n; omega)
theorem prod_bd (a b : Int) (ha : -8388608 ≤ a ∧ a ≤ 8388608) (hb : -8388608 ≤ b ∧ b ≤ 8388608) : -70368744177664 ≤ a * b ∧ a * b ≤ 70368744177664 := by
  have h1 : (a * b).natAbs ≤ 8388608 * 8388608 := by
    rw [Int.natAbs_mul]
    exact Nat.mul_le_mul (by omega) (by omega)
  omega

theorem cmul_w (x1 y1 x2 y2 : Nat) (a b c d : Int) (h1 : W x1 a) (h2 : W y1 b) (h3 : W x2 c) (h4 : W y2 d) (ha : -8388608 ≤ a ∧ a ≤ 8388608) (hb : -8388608 ≤ b ∧ b ≤ 8388608) (hc : -8388608 ≤ c ∧ c ≤ 8388608) (hd : -8388608 ≤ d ∧ d ≤ 8388608) :
    ∃ x y, cMulBits x1 y1 x2 y2 = some (x, y) ∧ W x (a * c - b * d) ∧ W y (a * d + b * c) := by
  have b1 := prod_bd a c ha hc
  have b2 := prod_bd b d hb hd
  have b3 := prod_bd a d ha hd
  have b4 := prod_bd b c hb hc
  obtain ⟨z1, e1, w1⟩ := w_mul x1 x2 a c h1 h3 (by omega)
  obtain ⟨z2, e2, w2⟩ := w_mul y1 y2 b d h2 h4 (by omega)
  obtain ⟨z3, e3, w3⟩ := w_sub z1 z2 _ _ w1 w2 (by omega)
  obtain ⟨z4, e4, w4⟩ := w_mul x1 y2 a d h1 h4 (by omega)
  obtain ⟨z5, e5, w5⟩ := w_mul y1 x2 b c h2 h3 (by omega)
  obtain ⟨z6, e6, w6⟩ := w_add z4 z5 _ _ w4 w5 (by omega)
  exact ⟨z3, z6, by simp [cMulBits, e1, e2, e3, e4, e5, e6], w3, w6⟩

theorem csum_w (x1 y1 x2 y2 : Nat) (a b c d : Int) (h1 : W x1 a) (h2 : W y1 b) (h3 : W x2 c) (h4 : W y2 d) (ha : -8388608 ≤ a ∧ a ≤ 8388608) (hb : -8388608 ≤ b ∧ b ≤ 8388608) (hc : -8388608 ≤ c ∧ c ≤ 8388608) (hd : -8388608 ≤ d ∧ d ≤ 8388608) :
    (∃ x y, cSumBits .add .f64 x1 y1 x2 y2 = some (x, y) ∧ W x (a + c) ∧ W y (b + d)) ∧ (∃ x y, cSumBits .sub .f64 x1 y1 x2 y2 = some (x, y) ∧ W x (a - c) ∧ W y (b - d)) := by
  obtain ⟨z1, e1, w1⟩ := w_add x1 x2 a c h1 h3 (by omega)
  obtain ⟨z2, e2, w2⟩ := w_add y1 y2 b d h2 h4 (by omega)
  obtain ⟨z3, e3, w3⟩ := w_sub x1 x2 a c h1 h3 (by omega)
  obtain ⟨z4, e4, w4⟩ := w_sub y1 y2 b d h2 h4 (by omega)
  exact ⟨⟨z1, z2, by simp [cSumBits, e1, e2], w1, w2⟩, ⟨z3, z4, by simp [cSumBits, e3, e4], w3, w4⟩⟩

/-- What the language's own products, sums and differences of numbers of 24 bits come to. -/
theorem mul_pre (a b c d : Int) : ∃ x y, cMulBits (floatOfInt .f64 (P24 a)) (floatOfInt .f64 (P24 b)) (floatOfInt .f64 (P24 c)) (floatOfInt .f64 (P24 d)) = some (x, y) ∧ W x (P24 a * P24 c - P24 b * P24 d) ∧ W y (P24 a * P24 d + P24 b * P24 c) ∧
    (-4611686018427387904 ≤ P24 a * P24 c - P24 b * P24 d ∧ P24 a * P24 c - P24 b * P24 d ≤ 4611686018427387904) ∧ (-4611686018427387904 ≤ P24 a * P24 d + P24 b * P24 c ∧ P24 a * P24 d + P24 b * P24 c ≤ 4611686018427387904) := by
  have ha := p24_bd a
  have hb0 := p24_bd b
  have hc := p24_bd c
  have hd := p24_bd d
  obtain ⟨x, y, hm, hx, hy⟩ := cmul_w _ _ _ _ _ _ _ _ (w_p24 a) (w_p24 b) (w_p24 c) (w_p24 d) (by omega) (by omega) (by omega) (by omega)
  have b1 := prod_bd (P24 a) (P24 c) (by omega) (by omega)
  have b2 := prod_bd (P24 b) (P24 d) (by omega) (by omega)
  have b3 := prod_bd (P24 a) (P24 d) (by omega) (by omega)
  have b4 := prod_bd (P24 b) (P24 c) (by omega) (by omega)
  exact ⟨x, y, hm, hx, hy, by omega, by omega⟩
theorem sum_pre (a b c d : Int) : ∃ x y, cSumBits .add .f64 (floatOfInt .f64 (P24 a)) (floatOfInt .f64 (P24 b)) (floatOfInt .f64 (P24 c)) (floatOfInt .f64 (P24 d)) = some (x, y) ∧ W x (P24 a + P24 c) ∧ W y (P24 b + P24 d) ∧
    (-4611686018427387904 ≤ P24 a + P24 c ∧ P24 a + P24 c ≤ 4611686018427387904) ∧ (-4611686018427387904 ≤ P24 b + P24 d ∧ P24 b + P24 d ≤ 4611686018427387904) := by
  have ha := p24_bd a
  have hb0 := p24_bd b
  have hc := p24_bd c
  have hd := p24_bd d
  obtain ⟨⟨x, y, hm, hx, hy⟩, _⟩ := csum_w _ _ _ _ _ _ _ _ (w_p24 a) (w_p24 b) (w_p24 c) (w_p24 d) (by omega) (by omega) (by omega) (by omega)
  exact ⟨x, y, hm, hx, hy, by omega, by omega⟩
theorem dif_pre (a b c d : Int) : ∃ x y, cSumBits .sub .f64 (floatOfInt .f64 (P24 a)) (floatOfInt .f64 (P24 b)) (floatOfInt .f64 (P24 c)) (floatOfInt .f64 (P24 d)) = some (x, y) ∧ W x (P24 a - P24 c) ∧ W y (P24 b - P24 d) ∧
    (-4611686018427387904 ≤ P24 a - P24 c ∧ P24 a - P24 c ≤ 4611686018427387904) ∧ (-4611686018427387904 ≤ P24 b - P24 d ∧ P24 b - P24 d ≤ 4611686018427387904) := by
  have ha := p24_bd a
  have hb0 := p24_bd b
  have hc := p24_bd c
  have hd := p24_bd d
  obtain ⟨_, ⟨x, y, hm, hx, hy⟩⟩ := csum_w _ _ _ _ _ _ _ _ (w_p24 a) (w_p24 b) (w_p24 c) (w_p24 d) (by omega) (by omega) (by omega) (by omega)
  exact ⟨x, y, hm, hx, hy, by omega, by omega⟩

set_option maxHeartbeats 1000000 in
theorem mul_any (a b c d : Int) (w : World) :
    Calls Tryd.prog 10 #[cv a b, cv c d] w fun e w' => e = .returned (cv (P24 (P24 a * P24 c - P24 b * P24 d)) (P24 (P24 a * P24 d + P24 b * P24 c))) ∧ Below w.heap.size w w' := by
  obtain ⟨x, y, hm, hx, hy, k1, k2⟩ := mul_pre a b c d
  have hrun := fun w => run_complex_mul (P := Tryd.prog) w 42 _ _ _ _ x y hm
  have K := back_any x y _ _ hx hy k1 k2
  clear k1 k2 hx hy hm
  go_enter Tryd.func10, Tryd.ntmps10
  go_wp2
  go_region_held3 (fun w' => w'.cell? ⟨w.heap.size, 0, none⟩ = some (.int .i64 a) ∧ w'.cell? ⟨w.heap.size, 1, none⟩ = some (.int .i64 b) ∧ w'.cell? ⟨w.heap.size + 1, 0, none⟩ = some (.int .i64 c) ∧ w'.cell? ⟨w.heap.size + 1, 1, none⟩ = some (.int .i64 d) ∧ w'.cell? ⟨w.heap.size + 2, 0, none⟩ = some (was w' (w.heap.size + 2) 0) ∧ w'.cell? ⟨w.heap.size + 2, 1, none⟩ = some (was w' (w.heap.size + 2) 1) ∧ w'.frozen? ⟨w.heap.size + 2, 0, none⟩ = false ∧ w'.frozen? ⟨w.heap.size + 2, 1, none⟩ = false ∧ Below w.heap.size w w' ∧ w.heap.size + 2 < w'.heap.size)
    ((go_split_ands; (repeat' (first | (with_reducible assumption) | (with_reducible apply And.intro))); all_goals first | ((with_reducible refine (hb.cell (p := ⟨_, _, none⟩) ?_).trans ?_) <;> first | assumption | (dsimp only; omega) | omega) | ((with_reducible refine (hb.frozen (p := ⟨_, _, none⟩) ?_).trans ?_) <;> first | assumption | (dsimp only; omega) | omega) | ((with_reducible refine was_below hb ?_ ?_) <;> first | assumption | omega) | ((with_reducible refine Below.trans ?_ (hb.mono ?_)) <;> first | assumption | omega) | ((with_reducible refine Nat.lt_of_lt_of_le ?_ hb.size); assumption) | ((with_reducible refine was_store _ _ ?_); assumption) | ((with_reducible refine was_store _ _ (was_store _ _ ?_)); assumption) | ((repeat (first | (with_reducible exact Below.refl _ _) | (with_reducible assumption) | (with_reducible refine Below.drew ?_) | (with_reducible refine below_draws ?_ _) | ((with_reducible refine Below.setCell ?_ ?_ _); rotate_left; (first | (with_reducible exact Nat.le_refl _) | (focus (simp; done)) | (focus (simp; omega)) | omega)) | ((with_reducible refine Below.alloc ?_ ?_ _); rotate_left; (first | (with_reducible exact Nat.le_refl _) | (focus (simp; done)) | (focus (simp; omega)) | omega)))); done) | (simp [go_sem]; done) | (refine was_of (v := .int .i64 0) ?_; simp [go_sem]; done) | (simp [*, go_sem]; done) | (simp [*, go_sem, World.setCell]; done) | (simp [World.setCell]; omega)))
    (first
      | (go_at_call 30; refine (number_any _ _ _).mono ?_; rintro e w' ⟨rfl, hb⟩)
      | (go_at_call 29; refine (K _).mono ?_; rintro e w' ⟨rfl, hb⟩))
  go_wp2
  rename_i hS
  obtain ⟨_, _, _, _, r0, r1, _, _, hB, _⟩ := hS
  obtain ⟨r0, r1⟩ := cells_stored r0 r1
  refine bodyPost_ret (v := cv _ _) (by simp [results, Tryd.results10, go_sem, r0, r1]) rfl ⟨rfl, hB⟩

set_option maxHeartbeats 1000000 in
theorem add_any (a b c d : Int) (w : World) :
    Calls Tryd.prog 13 #[cv a b, cv c d] w fun e w' => e = .returned (cv (P24 (P24 a + P24 c)) (P24 (P24 b + P24 d))) ∧ Below w.heap.size w w' := by
  obtain ⟨x, y, hm, hx, hy, k1, k2⟩ := sum_pre a b c d
  have hrun := fun w => run_complex_sum (P := Tryd.prog) w .add (by simp) 42 .f64 _ _ _ _ x y hm
  have K := back_any x y _ _ hx hy k1 k2
  clear k1 k2 hx hy hm
  go_enter Tryd.func13, Tryd.ntmps13
  go_wp2
  go_region_held3 (fun w' => w'.cell? ⟨w.heap.size, 0, none⟩ = some (.int .i64 a) ∧ w'.cell? ⟨w.heap.size, 1, none⟩ = some (.int .i64 b) ∧ w'.cell? ⟨w.heap.size + 1, 0, none⟩ = some (.int .i64 c) ∧ w'.cell? ⟨w.heap.size + 1, 1, none⟩ = some (.int .i64 d) ∧ w'.cell? ⟨w.heap.size + 2, 0, none⟩ = some (was w' (w.heap.size + 2) 0) ∧ w'.cell? ⟨w.heap.size + 2, 1, none⟩ = some (was w' (w.heap.size + 2) 1) ∧ w'.frozen? ⟨w.heap.size + 2, 0, none⟩ = false ∧ w'.frozen? ⟨w.heap.size + 2, 1, none⟩ = false ∧ Below w.heap.size w w' ∧ w.heap.size + 2 < w'.heap.size)
    ((go_split_ands; (repeat' (first | (with_reducible assumption) | (with_reducible apply And.intro))); all_goals first | ((with_reducible refine (hb.cell (p := ⟨_, _, none⟩) ?_).trans ?_) <;> first | assumption | (dsimp only; omega) | omega) | ((with_reducible refine (hb.frozen (p := ⟨_, _, none⟩) ?_).trans ?_) <;> first | assumption | (dsimp only; omega) | omega) | ((with_reducible refine was_below hb ?_ ?_) <;> first | assumption | omega) | ((with_reducible refine Below.trans ?_ (hb.mono ?_)) <;> first | assumption | omega) | ((with_reducible refine Nat.lt_of_lt_of_le ?_ hb.size); assumption) | ((with_reducible refine was_store _ _ ?_); assumption) | ((with_reducible refine was_store _ _ (was_store _ _ ?_)); assumption) | ((repeat (first | (with_reducible exact Below.refl _ _) | (with_reducible assumption) | (with_reducible refine Below.drew ?_) | (with_reducible refine below_draws ?_ _) | ((with_reducible refine Below.setCell ?_ ?_ _); rotate_left; (first | (with_reducible exact Nat.le_refl _) | (focus (simp; done)) | (focus (simp; omega)) | omega)) | ((with_reducible refine Below.alloc ?_ ?_ _); rotate_left; (first | (with_reducible exact Nat.le_refl _) | (focus (simp; done)) | (focus (simp; omega)) | omega)))); done) | (simp [go_sem]; done) | (refine was_of (v := .int .i64 0) ?_; simp [go_sem]; done) | (simp [*, go_sem]; done) | (simp [*, go_sem, World.setCell]; done) | (simp [World.setCell]; omega)))
    (first
      | (go_at_call 30; refine (number_any _ _ _).mono ?_; rintro e w' ⟨rfl, hb⟩)
      | (go_at_call 29; refine (K _).mono ?_; rintro e w' ⟨rfl, hb⟩))
  go_wp2
  rename_i hS
  obtain ⟨_, _, _, _, r0, r1, _, _, hB, _⟩ := hS
  obtain ⟨r0, r1⟩ := cells_stored r0 r1
  refine bodyPost_ret (v := cv _ _) (by simp [results, Tryd.results13, go_sem, r0, r1]) rfl ⟨rfl, hB⟩

set_option maxHeartbeats 1000000 in
theorem sub_any (a b c d : Int) (w : World) :
    Calls Tryd.prog 22 #[cv a b, cv c d] w fun e w' => e = .returned (cv (P24 (P24 a - P24 c)) (P24 (P24 b - P24 d))) ∧ Below w.heap.size w w' := by
  obtain ⟨x, y, hm, hx, hy, k1, k2⟩ := dif_pre a b c d
  have hrun := fun w => run_complex_sum (P := Tryd.prog) w .sub (by simp) 42 .f64 _ _ _ _ x y hm
  have K := back_any x y _ _ hx hy k1 k2
  clear k1 k2 hx hy hm
  go_enter Tryd.func22, Tryd.ntmps22
  go_wp2
  go_region_held3 (fun w' => w'.cell? ⟨w.heap.size, 0, none⟩ = some (.int .i64 a) ∧ w'.cell? ⟨w.heap.size, 1, none⟩ = some (.int .i64 b) ∧ w'.cell? ⟨w.heap.size + 1, 0, none⟩ = some (.int .i64 c) ∧ w'.cell? ⟨w.heap.size + 1, 1, none⟩ = some (.int .i64 d) ∧ w'.cell? ⟨w.heap.size + 2, 0, none⟩ = some (was w' (w.heap.size + 2) 0) ∧ w'.cell? ⟨w.heap.size + 2, 1, none⟩ = some (was w' (w.heap.size + 2) 1) ∧ w'.frozen? ⟨w.heap.size + 2, 0, none⟩ = false ∧ w'.frozen? ⟨w.heap.size + 2, 1, none⟩ = false ∧ Below w.heap.size w w' ∧ w.heap.size + 2 < w'.heap.size)
    ((go_split_ands; (repeat' (first | (with_reducible assumption) | (with_reducible apply And.intro))); all_goals first | ((with_reducible refine (hb.cell (p := ⟨_, _, none⟩) ?_).trans ?_) <;> first | assumption | (dsimp only; omega) | omega) | ((with_reducible refine (hb.frozen (p := ⟨_, _, none⟩) ?_).trans ?_) <;> first | assumption | (dsimp only; omega) | omega) | ((with_reducible refine was_below hb ?_ ?_) <;> first | assumption | omega) | ((with_reducible refine Below.trans ?_ (hb.mono ?_)) <;> first | assumption | omega) | ((with_reducible refine Nat.lt_of_lt_of_le ?_ hb.size); assumption) | ((with_reducible refine was_store _ _ ?_); assumption) | ((with_reducible refine was_store _ _ (was_store _ _ ?_)); assumption) | ((repeat (first | (with_reducible exact Below.refl _ _) | (with_reducible assumption) | (with_reducible refine Below.drew ?_) | (with_reducible refine below_draws ?_ _) | ((with_reducible refine Below.setCell ?_ ?_ _); rotate_left; (first | (with_reducible exact Nat.le_refl _) | (focus (simp; done)) | (focus (simp; omega)) | omega)) | ((with_reducible refine Below.alloc ?_ ?_ _); rotate_left; (first | (with_reducible exact Nat.le_refl _) | (focus (simp; done)) | (focus (simp; omega)) | omega)))); done) | (simp [go_sem]; done) | (refine was_of (v := .int .i64 0) ?_; simp [go_sem]; done) | (simp [*, go_sem]; done) | (simp [*, go_sem, World.setCell]; done) | (simp [World.setCell]; omega)))
    (first
      | (go_at_call 30; refine (number_any _ _ _).mono ?_; rintro e w' ⟨rfl, hb⟩)
      | (go_at_call 29; refine (K _).mono ?_; rintro e w' ⟨rfl, hb⟩))
  go_wp2
  rename_i hS
  obtain ⟨_, _, _, _, r0, r1, _, _, hB, _⟩ := hS
  obtain ⟨r0, r1⟩ := cells_stored r0 r1
  refine bodyPost_ret (v := cv _ _) (by simp [results, Tryd.results22, go_sem, r0, r1]) rfl ⟨rfl, hB⟩

end Go.Proofs.YtoagnjnkgecmkaaDoor
