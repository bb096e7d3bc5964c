/- Walks of the gauss seat, part S: the laws of sums, of the ring, of norms and parts. -/
import Derived.Test.YtoagnjnkgecmkaaDoorGaussQ
namespace Go.Proofs.YtoagnjnkgecmkaaDoor
open Go.RowKit
attribute [local go_sem] B_mk B_size B_toList B_extract B_append B_get

theorem p24_idem (n : Int) : P24 (P24 n) = P24 n := by unfold P24; omega
/-- Two numbers that are the same modulo 2^24 are the same in 24 bits. -/
theorem p24_mod (x y : Int) (h : (x - y) % 16777216 = 0) : P24 x = P24 y := by unfold P24; omega
theorem p24_sub (x : Int) : ∃ k, P24 x = x + 16777216 * k := ⟨-((x + 8388608) / 16777216), by unfold P24; omega⟩
theorem p24_of {x y k : Int} (h : x = y + 16777216 * k) : P24 x = P24 y := by unfold P24; omega
theorem p24_addl (x y : Int) : P24 (P24 x + y) = P24 (x + y) := by unfold P24; omega
theorem p24_addr (x y : Int) : P24 (x + P24 y) = P24 (x + y) := by unfold P24; omega
theorem p24_subl (x y : Int) : P24 (P24 x - y) = P24 (x - y) := by unfold P24; omega
theorem p24_subr (x y : Int) : P24 (x - P24 y) = P24 (x - y) := by unfold P24; omega
theorem p24_mull (x y : Int) : P24 (P24 x * y) = P24 (x * y) := by
  obtain ⟨k, hk⟩ := p24_sub x
  exact p24_of (k := k * y) (by rw [hk, Int.add_mul, Int.mul_assoc])
theorem p24_mulr (x y : Int) : P24 (x * P24 y) = P24 (x * y) := by
  rw [Int.mul_comm, p24_mull, Int.mul_comm]
/-- A sum's value, a difference's, a product's. -/
def sre (a c : Int) : Int := P24 (P24 a + P24 c)
def mre (a b c d : Int) : Int := P24 (P24 a * P24 c - P24 b * P24 d)
def mim (a b c d : Int) : Int := P24 (P24 a * P24 d + P24 b * P24 c)
theorem sre_comm (a c : Int) : sre a c = sre c a := by unfold sre; rw [Int.add_comm]
theorem sre_eq (a c : Int) : sre a c = P24 (a + c) := by unfold sre; rw [p24_addl, p24_addr]
theorem p24_mm (a b c d : Int) : P24 (P24 a * P24 c - P24 b * P24 d) = P24 (a * c - b * d) := by
  rw [← p24_subl, p24_mull, p24_subl, ← p24_subr, p24_mull, p24_subr, ← p24_subl, p24_mulr, p24_subl, ← p24_subr, p24_mulr, p24_subr]
theorem p24_mp (a b c d : Int) : P24 (P24 a * P24 d + P24 b * P24 c) = P24 (a * d + b * c) := by
  rw [← p24_addl, p24_mull, p24_addl, ← p24_addr, p24_mull, p24_addr, ← p24_addl, p24_mulr, p24_addl, ← p24_addr, p24_mulr, p24_addr]
theorem mre_eq (a b c d : Int) : mre a b c d = P24 (a * c - b * d) := p24_mm a b c d
theorem mim_eq (a b c d : Int) : mim a b c d = P24 (a * d + b * c) := p24_mp a b c d
theorem mre_comm (a b c d : Int) : mre a b c d = mre c d a b := by rw [mre_eq, mre_eq, Int.mul_comm a c, Int.mul_comm b d]
theorem mim_comm (a b c d : Int) : mim a b c d = mim c d a b := by rw [mim_eq, mim_eq, Int.mul_comm a d, Int.mul_comm b c, Int.add_comm]
theorem sre_assoc (a c e : Int) : sre (sre a c) e = sre a (sre c e) := by
  rw [sre_eq, sre_eq, sre_eq, sre_eq, p24_addl, p24_addr, Int.add_assoc]
theorem p24_mm1 (a b c d : Int) : P24 (P24 a * c - P24 b * d) = P24 (a * c - b * d) := by
  rw [← p24_subl, p24_mull, p24_subl, ← p24_subr, p24_mull, p24_subr]
theorem p24_mm2 (a b c d : Int) : P24 (a * P24 c - b * P24 d) = P24 (a * c - b * d) := by
  rw [← p24_subl, p24_mulr, p24_subl, ← p24_subr, p24_mulr, p24_subr]
theorem p24_mp1 (a b c d : Int) : P24 (P24 a * c + P24 b * d) = P24 (a * c + b * d) := by
  rw [← p24_addl, p24_mull, p24_addl, ← p24_addr, p24_mull, p24_addr]
theorem p24_mp2 (a b c d : Int) : P24 (a * P24 c + b * P24 d) = P24 (a * c + b * d) := by
  rw [← p24_addl, p24_mulr, p24_addl, ← p24_addr, p24_mulr, p24_addr]
theorem mre_assoc (a b c d x y : Int) : mre (mre a b c d) (mim a b c d) x y = mre a b (mre c d x y) (mim c d x y) := by
  simp only [mre_eq, mim_eq, p24_mm1, p24_mm2]
  congr 1
  simp only [Int.sub_mul, Int.mul_sub, Int.add_mul, Int.mul_add, Int.mul_assoc]
  omega
theorem mim_assoc (a b c d x y : Int) : mim (mre a b c d) (mim a b c d) x y = mim a b (mre c d x y) (mim c d x y) := by
  simp only [mre_eq, mim_eq, p24_mp1, p24_mp2]
  congr 1
  simp only [Int.sub_mul, Int.mul_sub, Int.add_mul, Int.mul_add, Int.mul_assoc]
  omega
theorem mre_dist (a b c d x y : Int) : mre a b (sre c x) (sre d y) = sre (mre a b c d) (mre a b x y) := by
  simp only [mre_eq, sre_eq, p24_mm2, p24_addl, p24_addr]
  congr 1
  simp only [Int.mul_add]
  omega
theorem mim_dist (a b c d x y : Int) : mim a b (sre c x) (sre d y) = sre (mim a b c d) (mim a b x y) := by
  simp only [mim_eq, sre_eq, p24_mp2, p24_addl, p24_addr]
  congr 1
  simp only [Int.mul_add]
  omega
theorem add_s (a b c d : Int) (w : World) : Calls Tryd.prog 13 #[cv a b, cv c d] w fun e w' => e = .returned (cv (sre a c) (sre b d)) ∧ Below w.heap.size w w' := add_any a b c d w
theorem mul_s (a b c d : Int) (w : World) : Calls Tryd.prog 10 #[cv a b, cv c d] w fun e w' => e = .returned (cv (mre a b c d) (mim a b c d)) ∧ Below w.heap.size w w' := mul_any a b c d w

set_option maxHeartbeats 8000000 in
set_option maxRecDepth 100000 in
theorem law_ring (a b c d x y : Int) (w : World) : Calls Tryd.prog 4 #[cv a b, cv c d, cv x y] w fun e w' => e = .returned (.bool true) ∧ Below w.heap.size w w' := by
  have E1 := sre_comm c a
  have E2 := sre_comm d b
  have E3 := mre_comm c d a b
  have E4 := mim_comm c d a b
  have E5 := sre_assoc a c x
  have E6 := sre_assoc b d y
  have E7 := mre_assoc a b c d x y
  have E8 := mim_assoc a b c d x y
  have K1 := add_s c d a b
  have K2 := mul_s c d a b
  have K3 := add_s (sre a c) (sre b d) x y
  have K4 := mul_s (mre a b c d) (mim a b c d) x y
  rw [E1, E2] at K1
  rw [E3, E4] at K2
  rw [E5, E6] at K3
  rw [E7, E8] at K4
  clear E1 E2 E3 E4 E5 E6 E7 E8
  have E1 := mre_dist a b c d x y
  have E2 := mim_dist a b c d x y
  have K5 := mul_s a b (sre c x) (sre d y)
  rw [E1, E2] at K5
  clear E1 E2
  go_enter Tryd.func4, Tryd.ntmps4
  go_wp2_with fail
  go_region_held3 (fun w' => w'.cell? ⟨w.heap.size, 0, none⟩ = some (.int .i64 a) ∧ w'.cell? ⟨w.heap.size, 1, none⟩ = some (.int .i64 b) ∧ w'.cell? ⟨w.heap.size + 1, 0, none⟩ = some (.int .i64 c) ∧ w'.cell? ⟨w.heap.size + 1, 1, none⟩ = some (.int .i64 d) ∧ w'.cell? ⟨w.heap.size + 2, 0, none⟩ = some (.int .i64 x) ∧ w'.cell? ⟨w.heap.size + 2, 1, none⟩ = some (.int .i64 y) ∧ Below w.heap.size w w' ∧ w.heap.size + 2 < w'.heap.size)
    ((go_split_ands; (repeat' (first | (with_reducible assumption) | (with_reducible apply And.intro))); all_goals first | ((with_reducible refine (hb.cell (p := ⟨_, _, none⟩) ?_).trans ?_) <;> first | assumption | (dsimp only; omega) | omega) | ((with_reducible refine (hb.frozen (p := ⟨_, _, none⟩) ?_).trans ?_) <;> first | assumption | (dsimp only; omega) | omega) | ((with_reducible refine was_below hb ?_ ?_) <;> first | assumption | omega) | ((with_reducible refine Below.trans ?_ (hb.mono ?_)) <;> first | assumption | omega) | ((with_reducible refine Nat.lt_of_lt_of_le ?_ hb.size); assumption) | ((with_reducible refine was_store _ _ ?_); assumption) | ((with_reducible refine was_store _ _ (was_store _ _ ?_)); assumption) | ((repeat (first | (with_reducible exact Below.refl _ _) | (with_reducible assumption) | (with_reducible refine Below.drew ?_) | (with_reducible refine below_draws ?_ _) | ((with_reducible refine Below.setCell ?_ ?_ _); rotate_left; (first | (with_reducible exact Nat.le_refl _) | (focus (simp; done)) | (focus (simp; omega)) | omega)) | ((with_reducible refine Below.alloc ?_ ?_ _); rotate_left; (first | (with_reducible exact Nat.le_refl _) | (focus (simp; done)) | (focus (simp; omega)) | omega)))); done) | (simp [go_sem]; done) | (refine was_of (v := .int .i64 0) ?_; simp [go_sem]; done) | (simp [*, go_sem]; done) | (simp [*, go_sem, World.setCell]; done) | (simp [World.setCell]; omega)))
    (first
      | (go_at_call 13; (with_reducible refine (K1 _).mono ?_); rintro e w' ⟨rfl, hb⟩)
      | (go_at_call 10; (with_reducible refine (K2 _).mono ?_); rintro e w' ⟨rfl, hb⟩)
      | (go_at_call 13; (with_reducible refine (K3 _).mono ?_); rintro e w' ⟨rfl, hb⟩)
      | (go_at_call 10; (with_reducible refine (K4 _).mono ?_); rintro e w' ⟨rfl, hb⟩)
      | (go_at_call 13; (with_reducible refine (add_s _ _ _ _ _).mono ?_); rintro e w' ⟨rfl, hb⟩)
      | (go_at_call 10; (with_reducible refine (mul_s _ _ _ _ _).mono ?_); rintro e w' ⟨rfl, hb⟩))
  rename_i w1 hS
  obtain ⟨h0, h1, h2, h3, h4, h5, hB, hz⟩ := hS
  clear K1 K2 K3 K4
  go_wp2_with fail
  go_region_held3 (fun w' => w'.cell? ⟨w.heap.size, 0, none⟩ = some (.int .i64 a) ∧ w'.cell? ⟨w.heap.size, 1, none⟩ = some (.int .i64 b) ∧ w'.cell? ⟨w.heap.size + 1, 0, none⟩ = some (.int .i64 c) ∧ w'.cell? ⟨w.heap.size + 1, 1, none⟩ = some (.int .i64 d) ∧ w'.cell? ⟨w.heap.size + 2, 0, none⟩ = some (.int .i64 x) ∧ w'.cell? ⟨w.heap.size + 2, 1, none⟩ = some (.int .i64 y) ∧ Below w.heap.size w w' ∧ w.heap.size + 2 < w'.heap.size)
    ((go_split_ands; (repeat' (first | (with_reducible assumption) | (with_reducible apply And.intro))); all_goals first | ((with_reducible refine (hb.cell (p := ⟨_, _, none⟩) ?_).trans ?_) <;> first | assumption | (dsimp only; omega) | omega) | ((with_reducible refine (hb.frozen (p := ⟨_, _, none⟩) ?_).trans ?_) <;> first | assumption | (dsimp only; omega) | omega) | ((with_reducible refine was_below hb ?_ ?_) <;> first | assumption | omega) | ((with_reducible refine Below.trans ?_ (hb.mono ?_)) <;> first | assumption | omega) | ((with_reducible refine Nat.lt_of_lt_of_le ?_ hb.size); assumption) | ((with_reducible refine was_store _ _ ?_); assumption) | ((with_reducible refine was_store _ _ (was_store _ _ ?_)); assumption) | ((repeat (first | (with_reducible exact Below.refl _ _) | (with_reducible assumption) | (with_reducible refine Below.drew ?_) | (with_reducible refine below_draws ?_ _) | ((with_reducible refine Below.setCell ?_ ?_ _); rotate_left; (first | (with_reducible exact Nat.le_refl _) | (focus (simp; done)) | (focus (simp; omega)) | omega)) | ((with_reducible refine Below.alloc ?_ ?_ _); rotate_left; (first | (with_reducible exact Nat.le_refl _) | (focus (simp; done)) | (focus (simp; omega)) | omega)))); done) | (simp [go_sem]; done) | (refine was_of (v := .int .i64 0) ?_; simp [go_sem]; done) | (simp [*, go_sem]; done) | (simp [*, go_sem, World.setCell]; done) | (simp [World.setCell]; omega)))
    (first
      | (go_at_call 10; (with_reducible refine (K5 _).mono ?_); rintro e w' ⟨rfl, hb⟩)
      | (go_at_call 10; (with_reducible refine (mul_s _ _ _ _ _).mono ?_); rintro e w' ⟨rfl, hb⟩)
      | (go_at_call 13; (with_reducible refine (add_s _ _ _ _ _).mono ?_); rintro e w' ⟨rfl, hb⟩)
      | (go_at_call 12; (with_reducible refine (awake_any _).mono ?_); rintro e w' ⟨rfl, hb⟩))
  go_wp2
  rename_i hS
  obtain ⟨_, _, _, _, _, _, hB, _⟩ := hS
  go_ret
  exact ⟨rfl, hB⟩
end Go.Proofs.YtoagnjnkgecmkaaDoor
