/- Walks of the gauss seat, part V: the laws of parts and of sums. -/
import Derived.Test.YtoagnjnkgecmkaaDoorGaussU
namespace Go.Proofs.YtoagnjnkgecmkaaDoor
open Go.RowKit HF
attribute [local go_sem] B_mk B_size B_toList B_extract B_append B_get

section
attribute [local go_sem high] eql_cv
set_option maxHeartbeats 4000000 in
set_option maxRecDepth 100000 in
theorem law_parts (a b : Int) (w : World) : Calls Tryd.prog 5 #[.int .i64 a, .int .i64 b] w fun e w' => e = .returned (.bool true) ∧ Below w.heap.size w w' := by
  have K1 := of_any a b
  have K2 := rof_any a b
  have K3 := may_any a b
  have K4 := may_any (P24 a) (P24 b)
  rw [p24_idem, p24_idem] at K4
  simp only [BEq.rfl, Bool.and_self] at K4
  generalize P24 a = p at K1 K2 K3 K4
  generalize P24 b = q at K1 K2 K3 K4
  go_enter Tryd.func5, Tryd.ntmps5
  go_wp2_with fail
  refine (K1 _).mono ?_
  rintro e w1 ⟨rfl, hb1⟩
  have hz1 : w.heap.size ≤ w1.heap.size := hb1.size
  go_wp2_with fail
  go_region_held3 (fun w' => w'.cell? ⟨w1.heap.size, 0, none⟩ = some (.int .i64 p) ∧ w'.cell? ⟨w1.heap.size, 1, none⟩ = some (.int .i64 q) ∧ w'.cell? ⟨w1.heap.size + 1, 0, none⟩ = some (.int .i64 a) ∧ w'.cell? ⟨w1.heap.size + 1, 1, none⟩ = some (.int .i64 b) ∧ Below w.heap.size w w' ∧ w1.heap.size + 1 < w'.heap.size)
    ((go_split_ands; (repeat' (first | (with_reducible assumption) | (with_reducible apply And.intro))); all_goals first | ((with_reducible refine (hb.cell (p := ⟨_, _, none⟩) ?_).trans ?_) <;> first | assumption | (dsimp only; omega) | omega) | ((with_reducible refine (hb.frozen (p := ⟨_, _, none⟩) ?_).trans ?_) <;> first | assumption | (dsimp only; omega) | omega) | ((with_reducible refine was_below hb ?_ ?_) <;> first | assumption | omega) | ((with_reducible refine Below.trans ?_ (hb.mono ?_)) <;> first | assumption | omega) | ((with_reducible refine Nat.lt_of_lt_of_le ?_ hb.size); assumption) | ((with_reducible refine was_store _ _ ?_); assumption) | ((with_reducible refine was_store _ _ (was_store _ _ ?_)); assumption) | ((repeat (first | (with_reducible exact Below.refl _ _) | (with_reducible assumption) | (with_reducible refine Below.drew ?_) | (with_reducible refine below_draws ?_ _) | ((with_reducible refine Below.setCell ?_ ?_ _); rotate_left; (first | (with_reducible exact Nat.le_refl _) | (focus (simp; done)) | (focus (simp; omega)) | omega)) | ((with_reducible refine Below.alloc ?_ ?_ _); rotate_left; (first | (with_reducible exact Nat.le_refl _) | (focus (simp; done)) | (focus (simp; omega)) | omega)))); done) | (simp [go_sem]; done) | (refine was_of (v := .int .i64 0) ?_; simp [go_sem]; done) | (simp [*, go_sem]; done) | (simp [*, go_sem, World.setCell]; done) | (simp [World.setCell]; omega)))
    (first
      | (go_at_call 15; (with_reducible refine (K2 _).mono ?_); rintro e w' ⟨rfl, hb⟩)
      | (go_at_call 16; (with_reducible refine (K3 _).mono ?_); rintro e w' ⟨rfl, hb⟩)
      | (go_at_call 16; (with_reducible refine (K4 _).mono ?_); rintro e w' ⟨rfl, hb⟩)
      | (go_at_call 12; (with_reducible refine (awake_any _).mono ?_); rintro e w' ⟨rfl, hb⟩))
  go_wp2
  rename_i hS
  obtain ⟨_, _, _, _, hB, _⟩ := hS
  go_ret
  exact ⟨rfl, hB⟩
end

end Go.Proofs.YtoagnjnkgecmkaaDoor
