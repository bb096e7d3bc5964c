/- Walks of the gauss seat, part U: the laws of norms, of parts and of sums. -/
import Derived.Test.YtoagnjnkgecmkaaDoorGaussS
import Derived.Laws.StructEq
namespace Go.Proofs.YtoagnjnkgecmkaaDoor
open Go.RowKit HF
attribute [local go_sem] B_mk B_size B_toList B_extract B_append B_get

theorem n24_re (a b : Int) : mre a b (P24 (P24 a)) (P24 (-P24 b)) = P24 (N24 a b) := by
  unfold mre N24
  rw [p24_idem, p24_idem, p24_idem]
  rw [← p24_subr, p24_mulr, p24_subr, Int.mul_neg]
  congr 1
  omega
theorem n24_im (a b : Int) : mim a b (P24 (P24 a)) (P24 (-P24 b)) = P24 0 := by
  unfold mim
  rw [p24_idem, p24_idem, p24_idem]
  rw [← p24_addl, p24_mulr, p24_addl, Int.mul_neg, Int.mul_comm (P24 b)]
  congr 1
  omega
theorem mul_turned (a b : Int) (w : World) : Calls Tryd.prog 10 #[cv a b, cv (P24 (P24 a)) (P24 (-P24 b))] w fun e w' => e = .returned (cv (P24 (N24 a b)) (P24 0)) ∧ Below w.heap.size w w' := by
  have h := mul_s a b (P24 (P24 a)) (P24 (-P24 b)) w
  rw [n24_re, n24_im] at h
  exact h

set_option maxHeartbeats 4000000 in
set_option maxRecDepth 100000 in
theorem law_norms (a b : Int) (w : World) : Calls Tryd.prog 6 #[cv a b] w fun e w' => e = .returned (.bool true) ∧ Below w.heap.size w w' := by
  have hn := n24_bd a b
  have hd : decide (0 ≤ N24 a b) = true := by simp; omega
  go_enter Tryd.func6, Tryd.ntmps6
  go_wp2_with fail
  refine (norm_any _ _ _).mono ?_
  rintro e w1 ⟨rfl, hb1⟩
  obtain ⟨hc1, hf1⟩ := bcell hb1
  have hz1 : w.heap.size < w1.heap.size := by have := hb1.size; simp at this; omega
  have q1 : Below w.heap.size w w1 := Below.trans (by (repeat (first | (with_reducible exact Below.refl _ _) | (with_reducible assumption) | (with_reducible refine Below.drew ?_) | (with_reducible refine below_draws ?_ _) | ((with_reducible refine Below.setCell ?_ ?_ _); rotate_left; (first | (with_reducible exact Nat.le_refl _) | (focus (simp; done)) | (focus (simp; omega)) | omega)) | ((with_reducible refine Below.alloc ?_ ?_ _); rotate_left; (first | (with_reducible exact Nat.le_refl _) | (focus (simp; done)) | (focus (simp; omega)) | omega))))) (hb1.mono (by simp))
  have hd2 : (0 ≤ N24 a b) = True := by simp; omega
  clear hn
  go_wp2_with fail
  go_region_held3 (fun w' => w'.cell? ⟨w.heap.size, 0, none⟩ = some (.int .i64 a) ∧ w'.cell? ⟨w.heap.size, 1, none⟩ = some (.int .i64 b) ∧ Below w.heap.size w w' ∧ w.heap.size < w'.heap.size)
    ((go_split_ands; (repeat' (first | (with_reducible assumption) | (with_reducible apply And.intro))); all_goals first | ((with_reducible refine (hb.cell (p := ⟨_, _, none⟩) ?_).trans ?_) <;> first | assumption | (dsimp only; omega) | omega) | ((with_reducible refine (hb.frozen (p := ⟨_, _, none⟩) ?_).trans ?_) <;> first | assumption | (dsimp only; omega) | omega) | ((with_reducible refine was_below hb ?_ ?_) <;> first | assumption | omega) | ((with_reducible refine Below.trans ?_ (hb.mono ?_)) <;> first | assumption | omega) | ((with_reducible refine Nat.lt_of_lt_of_le ?_ hb.size); assumption) | ((with_reducible refine was_store _ _ ?_); assumption) | ((with_reducible refine was_store _ _ (was_store _ _ ?_)); assumption) | ((repeat (first | (with_reducible exact Below.refl _ _) | (with_reducible assumption) | (with_reducible refine Below.drew ?_) | (with_reducible refine below_draws ?_ _) | ((with_reducible refine Below.setCell ?_ ?_ _); rotate_left; (first | (with_reducible exact Nat.le_refl _) | (focus (simp; done)) | (focus (simp; omega)) | omega)) | ((with_reducible refine Below.alloc ?_ ?_ _); rotate_left; (first | (with_reducible exact Nat.le_refl _) | (focus (simp; done)) | (focus (simp; omega)) | omega)))); done) | (simp [go_sem]; done) | (refine was_of (v := .int .i64 0) ?_; simp [go_sem]; done) | (simp [*, go_sem]; done) | (simp [*, go_sem, World.setCell]; done) | (simp [World.setCell]; omega)))
    (first
      | (go_at_call 18; (with_reducible refine (rnorm_any _ _ _).mono ?_); rintro e w' ⟨rfl, hb⟩)
      | (go_at_call 19; (with_reducible refine (turn_any _ _ _).mono ?_); rintro e w' ⟨rfl, hb⟩)
      | (go_at_call 10; (with_reducible refine (mul_turned _ _ _).mono ?_); rintro e w' ⟨rfl, hb⟩)
      | (go_at_call 14; (with_reducible refine (of_any _ _ _).mono ?_); rintro e w' ⟨rfl, hb⟩)
      | (go_at_call 12; (with_reducible refine (awake_any _).mono ?_); rintro e w' ⟨rfl, hb⟩))
  go_wp2
  rename_i hS
  obtain ⟨_, _, hB, _⟩ := hS
  go_ret
  exact ⟨rfl, hB⟩

theorem eq_cv (a b c d : Int) (w : World) : (Op.equalIn 10000 23 (cv a b) (cv c d)).run Tryd.prog w = .ok (a == c && b == d) w := by
  have h2 := Tryd.underlying23
  have h1 := Tryd.underlying2
  simp [go_sem, h1, h2]
  by_cases e1 : a = c <;> by_cases e2 : b = d <;> simp [e1, e2]

theorem eql_cv (a b c d : Int) (w : World) : (binOp .eql 23 (cv a b) (cv c d)).run Tryd.prog w = .ok (.bool (a == c && b == d)) w := by
  rw [run_eql_struct, eq_cv]; rfl
section
attribute [local go_sem high] eql_cv
set_option maxHeartbeats 4000000 in
set_option maxRecDepth 100000 in
theorem may_any (a b : Int) (w : World) : Calls Tryd.prog 16 #[cv a b] w fun e w' => e = .returned (.bool (a == P24 a && b == P24 b)) ∧ Below w.heap.size w w' := by
  have K := of_any a b
  generalize P24 a = p at K ⊢
  generalize P24 b = q at K ⊢
  go_enter Tryd.func16, Tryd.ntmps16
  go_wp2_with fail
  go_region_held3 (fun w' => w'.cell? ⟨w.heap.size, 0, none⟩ = some (.int .i64 a) ∧ w'.cell? ⟨w.heap.size, 1, none⟩ = some (.int .i64 b) ∧ Below w.heap.size w w' ∧ w.heap.size < w'.heap.size)
    ((go_split_ands; (repeat' (first | (with_reducible assumption) | (with_reducible apply And.intro))); all_goals first | ((with_reducible refine (hb.cell (p := ⟨_, _, none⟩) ?_).trans ?_) <;> first | assumption | (dsimp only; omega) | omega) | ((with_reducible refine (hb.frozen (p := ⟨_, _, none⟩) ?_).trans ?_) <;> first | assumption | (dsimp only; omega) | omega) | ((with_reducible refine was_below hb ?_ ?_) <;> first | assumption | omega) | ((with_reducible refine Below.trans ?_ (hb.mono ?_)) <;> first | assumption | omega) | ((with_reducible refine Nat.lt_of_lt_of_le ?_ hb.size); assumption) | ((with_reducible refine was_store _ _ ?_); assumption) | ((with_reducible refine was_store _ _ (was_store _ _ ?_)); assumption) | ((repeat (first | (with_reducible exact Below.refl _ _) | (with_reducible assumption) | (with_reducible refine Below.drew ?_) | (with_reducible refine below_draws ?_ _) | ((with_reducible refine Below.setCell ?_ ?_ _); rotate_left; (first | (with_reducible exact Nat.le_refl _) | (focus (simp; done)) | (focus (simp; omega)) | omega)) | ((with_reducible refine Below.alloc ?_ ?_ _); rotate_left; (first | (with_reducible exact Nat.le_refl _) | (focus (simp; done)) | (focus (simp; omega)) | omega)))); done) | (simp [go_sem]; done) | (refine was_of (v := .int .i64 0) ?_; simp [go_sem]; done) | (simp [*, go_sem]; done) | (simp [*, go_sem, World.setCell]; done) | (simp [World.setCell]; omega)))
    (first
      | (go_at_call 14; (with_reducible refine (K _).mono ?_); rintro e w' ⟨rfl, hb⟩))
  go_wp2
  rename_i hS
  obtain ⟨_, _, hB, _⟩ := hS
  go_ret
  exact ⟨rfl, hB⟩
end
end Go.Proofs.YtoagnjnkgecmkaaDoor
