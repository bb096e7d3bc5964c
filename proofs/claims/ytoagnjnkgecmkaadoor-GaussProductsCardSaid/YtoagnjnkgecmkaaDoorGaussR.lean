/- Walks of the gauss seat, part R: the laws. -/
import Derived.Test.YtoagnjnkgecmkaaDoorGaussQ
namespace Go.Proofs.YtoagnjnkgecmkaaDoor
open Go.RowKit
attribute [local go_sem] B_mk B_size B_toList B_extract B_append B_get

set_option maxHeartbeats 4000000 in
theorem law_products (a b c d : Int) (w : World) : Calls Tryd.prog 3 #[cv a b, cv c d] w fun e w' => e = .returned (.bool true) ∧ Below w.heap.size w w' := by
  have K1 := mul_any a b c d
  have K2 := rmul_any a b c d
  go_enter Tryd.func3, Tryd.ntmps3
  go_wp2_with fail
  go_region_held3 (fun w' => w'.cell? ⟨w.heap.size, 0, none⟩ = some (.int .i64 a) ∧ w'.cell? ⟨w.heap.size, 1, none⟩ = some (.int .i64 b) ∧ w'.cell? ⟨w.heap.size + 1, 0, none⟩ = some (.int .i64 c) ∧ w'.cell? ⟨w.heap.size + 1, 1, none⟩ = some (.int .i64 d) ∧ Below w.heap.size w w' ∧ w.heap.size + 1 < w'.heap.size)
    ((go_split_ands; (repeat' (first | (with_reducible assumption) | (with_reducible apply And.intro))); all_goals first | ((with_reducible refine (hb.cell (p := ⟨_, _, none⟩) ?_).trans ?_) <;> first | assumption | (dsimp only; omega) | omega) | ((with_reducible refine (hb.frozen (p := ⟨_, _, none⟩) ?_).trans ?_) <;> first | assumption | (dsimp only; omega) | omega) | ((with_reducible refine was_below hb ?_ ?_) <;> first | assumption | omega) | ((with_reducible refine Below.trans ?_ (hb.mono ?_)) <;> first | assumption | omega) | ((with_reducible refine Nat.lt_of_lt_of_le ?_ hb.size); assumption) | ((with_reducible refine was_store _ _ ?_); assumption) | ((with_reducible refine was_store _ _ (was_store _ _ ?_)); assumption) | ((repeat (first | (with_reducible exact Below.refl _ _) | (with_reducible assumption) | (with_reducible refine Below.drew ?_) | (with_reducible refine below_draws ?_ _) | ((with_reducible refine Below.setCell ?_ ?_ _); rotate_left; (first | (with_reducible exact Nat.le_refl _) | (focus (simp; done)) | (focus (simp; omega)) | omega)) | ((with_reducible refine Below.alloc ?_ ?_ _); rotate_left; (first | (with_reducible exact Nat.le_refl _) | (focus (simp; done)) | (focus (simp; omega)) | omega)))); done) | (simp [go_sem]; done) | (refine was_of (v := .int .i64 0) ?_; simp [go_sem]; done) | (simp [*, go_sem, World.setCell]; done) | (simp [*, go_sem]; done) | (simp [World.setCell]; omega)))
    (first
      | (go_at_call 10; (with_reducible refine (K1 _).mono ?_); rintro e w' ⟨rfl, hb⟩)
      | (go_at_call 11; (with_reducible refine (K2 _).mono ?_); rintro e w' ⟨rfl, hb⟩)
      | (go_at_call 12; (with_reducible refine (awake_any _).mono ?_); rintro e w' ⟨rfl, hb⟩))
  go_wp2
  rename_i hS
  obtain ⟨_, _, _, _, hB, _⟩ := hS
  go_ret
  exact ⟨rfl, hB⟩
end Go.Proofs.YtoagnjnkgecmkaaDoor
