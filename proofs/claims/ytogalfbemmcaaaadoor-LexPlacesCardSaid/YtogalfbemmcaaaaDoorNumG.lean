/- Walks of numbers and their texts, part G: the reference's digits. -/
import Derived.Test.YtogalfbemmcaaaaDoorBase
import Derived.Deep.RegionHeld3
import Derived.Deep.QuietTactic
import Derived.BigQuiet
namespace Go.Proofs.YtogalfbemmcaaaaDoor
open Go.RowKit

theorem wrap_u64 (x : Int) : IntKind.u64.wrap x = x % 18446744073709551616 := by
  simp [IntKind.wrap, IntKind.signed, IntKind.bits]

/-- Eight digits to the base 256. -/
abbrev dv (a b c d e f g h : Int) : Value := .agg #[.int .i64 a, .int .i64 b, .int .i64 c, .int .i64 d, .int .i64 e, .int .i64 f, .int .i64 g, .int .i64 h]

/-- The digits of a number without signs. -/
abbrev du (u : Int) : Value := dv (u % 256) (u / 256 % 256) (u / 256 / 256 % 256) (u / 256 / 256 / 256 % 256) (u / 256 / 256 / 256 / 256 % 256) (u / 256 / 256 / 256 / 256 / 256 % 256) (u / 256 / 256 / 256 / 256 / 256 / 256 % 256) (u / 256 / 256 / 256 / 256 / 256 / 256 / 256 % 256)

set_option maxHeartbeats 2000000 in
set_option maxRecDepth 100000 in
theorem dof_u (n u : Int) (hu : IntKind.u64.wrap n = u) (h0 : 0 ≤ u) (h1 : u ≤ 18446744073709551615) (w : World) :
    Calls Tryd.prog 51 #[.int .i64 n] w fun e w' => e = .returned (du u) ∧ Below w.heap.size w w' := by
  go_enter Tryd.func51, Tryd.ntmps51
  go_wp2
  refine wp_loop_rounds 9 ?_
  repeat (rw [rounds_succ]; go_wp2)
  exact bodyPost_ret (v := du u) (by simp [results, Tryd.results51, go_sem]) rfl ⟨rfl, (by (repeat (first | (with_reducible exact Below.refl _ _) | (with_reducible assumption) | (with_reducible refine Below.drew ?_) | (with_reducible refine below_draws ?_ _) | ((with_reducible refine Below.setCell ?_ ?_ _); rotate_left; (first | (with_reducible exact Nat.le_refl _) | (focus (simp; done)) | (focus (simp; omega)) | omega)) | ((with_reducible refine Below.alloc ?_ ?_ _); rotate_left; (first | (with_reducible exact Nat.le_refl _) | (focus (simp; done)) | (focus (simp; omega)) | omega)))))⟩

/-- The number of eight digits. -/
def num8 (a b c d e f g h : Int) : Int := a + 256 * (b + 256 * (c + 256 * (d + 256 * (e + 256 * (f + 256 * (g + 256 * h))))))
theorem num8_eq (a b c d e f g h : Int) : ((((((h * 256 + g) * 256 + f) * 256 + e) * 256 + d) * 256 + c) * 256 + b) * 256 + a = num8 a b c d e f g h := by unfold num8; omega

set_option maxHeartbeats 2000000 in
set_option maxRecDepth 100000 in
theorem number8_any (a b c d e f g h : Int) (a0 : 0 ≤ a) (a1 : a ≤ 255) (b0 : 0 ≤ b) (b1 : b ≤ 255) (c0 : 0 ≤ c) (c1 : c ≤ 255) (d0 : 0 ≤ d) (d1 : d ≤ 255) (e0 : 0 ≤ e) (e1 : e ≤ 255) (f0 : 0 ≤ f) (f1 : f ≤ 255) (g0 : 0 ≤ g) (g1 : g ≤ 255) (h0 : 0 ≤ h) (h1 : h ≤ 255) (w : World) :
    Calls Tryd.prog 52 #[dv a b c d e f g h] w fun e' w' => e' = .returned (.int .i64 (wrap64 (num8 a b c d e f g h))) ∧ Below w.heap.size w w' := by
  go_enter Tryd.func52, Tryd.ntmps52
  go_wp2
  refine wp_loop_rounds 9 ?_
  repeat (rw [rounds_succ]; go_wp2)
  go_ret
  exact ⟨ret_int (by rw [← num8_eq]), (by (repeat (first | (with_reducible exact Below.refl _ _) | (with_reducible assumption) | (with_reducible refine Below.drew ?_) | (with_reducible refine below_draws ?_ _) | ((with_reducible refine Below.setCell ?_ ?_ _); rotate_left; (first | (with_reducible exact Nat.le_refl _) | (focus (simp; done)) | (focus (simp; omega)) | omega)) | ((with_reducible refine Below.alloc ?_ ?_ _); rotate_left; (first | (with_reducible exact Nat.le_refl _) | (focus (simp; done)) | (focus (simp; omega)) | omega)))))⟩

set_option maxHeartbeats 2000000 in
set_option maxRecDepth 100000 in
theorem plus1_any (a b c d e f g h : Int) (a0 : 0 ≤ a) (a1 : a ≤ 255) (b0 : 0 ≤ b) (b1 : b ≤ 255) (c0 : 0 ≤ c) (c1 : c ≤ 255) (d0 : 0 ≤ d) (d1 : d ≤ 255) (e0 : 0 ≤ e) (e1 : e ≤ 255) (f0 : 0 ≤ f) (f1 : f ≤ 255) (g0 : 0 ≤ g) (g1 : g ≤ 255) (h0 : 0 ≤ h) (h1 : h ≤ 255) (w : World) :
    Calls Tryd.prog 59 #[dv a b c d e f g h, dv 1 0 0 0 0 0 0 0] w fun e' w' => e' = .returned (dv ((a + 1) % 256) ((b + ((a + 1) / 256)) % 256) ((c + ((b + ((a + 1) / 256)) / 256)) % 256) ((d + ((c + ((b + ((a + 1) / 256)) / 256)) / 256)) % 256) ((e + ((d + ((c + ((b + ((a + 1) / 256)) / 256)) / 256)) / 256)) % 256) ((f + ((e + ((d + ((c + ((b + ((a + 1) / 256)) / 256)) / 256)) / 256)) / 256)) % 256) ((g + ((f + ((e + ((d + ((c + ((b + ((a + 1) / 256)) / 256)) / 256)) / 256)) / 256)) / 256)) % 256) ((h + ((g + ((f + ((e + ((d + ((c + ((b + ((a + 1) / 256)) / 256)) / 256)) / 256)) / 256)) / 256)) / 256)) % 256)) ∧ Below w.heap.size w w' := by
  go_enter Tryd.func59, Tryd.ntmps59
  go_wp2
  refine wp_loop_rounds 9 ?_
  repeat (rw [rounds_succ]; go_wp2; try (go_quiet (fail); go_wp2))
  refine bodyPost_ret (v := dv ((a + 1) % 256) ((b + ((a + 1) / 256)) % 256) ((c + ((b + ((a + 1) / 256)) / 256)) % 256) ((d + ((c + ((b + ((a + 1) / 256)) / 256)) / 256)) % 256) ((e + ((d + ((c + ((b + ((a + 1) / 256)) / 256)) / 256)) / 256)) % 256) ((f + ((e + ((d + ((c + ((b + ((a + 1) / 256)) / 256)) / 256)) / 256)) / 256)) % 256) ((g + ((f + ((e + ((d + ((c + ((b + ((a + 1) / 256)) / 256)) / 256)) / 256)) / 256)) / 256)) % 256) ((h + ((g + ((f + ((e + ((d + ((c + ((b + ((a + 1) / 256)) / 256)) / 256)) / 256)) / 256)) / 256)) / 256)) % 256)) (by simp [results, Tryd.results59, go_sem]) rfl ⟨rfl, ?_⟩
  (repeat (first | (with_reducible exact Below.refl _ _) | (with_reducible assumption) | (with_reducible refine Below.drew ?_) | (with_reducible refine below_draws ?_ _) | ((with_reducible refine Below.setCell ?_ ?_ _); rotate_left; (first | (with_reducible exact Nat.le_refl _) | (focus (simp; done)) | (focus (simp; omega)) | omega)) | ((with_reducible refine Below.alloc ?_ ?_ _); rotate_left; (first | (with_reducible exact Nat.le_refl _) | (focus (simp; done)) | (focus (simp; omega)) | omega))))

set_option maxHeartbeats 2000000 in
set_option maxRecDepth 100000 in
theorem minus8_any (a b c d e f g h : Int) (a0 : 0 ≤ a) (a1 : a ≤ 255) (b0 : 0 ≤ b) (b1 : b ≤ 255) (c0 : 0 ≤ c) (c1 : c ≤ 255) (d0 : 0 ≤ d) (d1 : d ≤ 255) (e0 : 0 ≤ e) (e1 : e ≤ 255) (f0 : 0 ≤ f) (f1 : f ≤ 255) (g0 : 0 ≤ g) (g1 : g ≤ 255) (h0 : 0 ≤ h) (h1 : h ≤ 255) (w : World) :
    Calls Tryd.prog 50 #[dv a b c d e f g h] w fun e' w' => e' = .returned (dv ((255 - a + 1) % 256) ((255 - b + ((255 - a + 1) / 256)) % 256) ((255 - c + ((255 - b + ((255 - a + 1) / 256)) / 256)) % 256) ((255 - d + ((255 - c + ((255 - b + ((255 - a + 1) / 256)) / 256)) / 256)) % 256) ((255 - e + ((255 - d + ((255 - c + ((255 - b + ((255 - a + 1) / 256)) / 256)) / 256)) / 256)) % 256) ((255 - f + ((255 - e + ((255 - d + ((255 - c + ((255 - b + ((255 - a + 1) / 256)) / 256)) / 256)) / 256)) / 256)) % 256) ((255 - g + ((255 - f + ((255 - e + ((255 - d + ((255 - c + ((255 - b + ((255 - a + 1) / 256)) / 256)) / 256)) / 256)) / 256)) / 256)) % 256) ((255 - h + ((255 - g + ((255 - f + ((255 - e + ((255 - d + ((255 - c + ((255 - b + ((255 - a + 1) / 256)) / 256)) / 256)) / 256)) / 256)) / 256)) / 256)) % 256)) ∧ Below w.heap.size w w' := by
  go_enter Tryd.func50, Tryd.ntmps50
  go_wp2
  refine wp_loop_rounds 9 ?_
  repeat (rw [rounds_succ]; go_wp2_with fail)
  refine (plus1_any (255 - a) (255 - b) (255 - c) (255 - d) (255 - e) (255 - f) (255 - g) (255 - h) (by omega) (by omega) (by omega) (by omega) (by omega) (by omega) (by omega) (by omega) (by omega) (by omega) (by omega) (by omega) (by omega) (by omega) (by omega) (by omega) _).mono ?_
  rintro e' w1 ⟨rfl, hb1⟩
  obtain ⟨hc1, hf1⟩ := bcell hb1
  have hz1 : w.heap.size + 1 < w1.heap.size := by have := hb1.size; simp at this; omega
  go_wp2
  have q1 : Below w.heap.size w w1 := Below.trans (by (repeat (first | (with_reducible exact Below.refl _ _) | (with_reducible assumption) | (with_reducible refine Below.drew ?_) | (with_reducible refine below_draws ?_ _) | ((with_reducible refine Below.setCell ?_ ?_ _); rotate_left; (first | (with_reducible exact Nat.le_refl _) | (focus (simp; done)) | (focus (simp; omega)) | omega)) | ((with_reducible refine Below.alloc ?_ ?_ _); rotate_left; (first | (with_reducible exact Nat.le_refl _) | (focus (simp; done)) | (focus (simp; omega)) | omega))))) (hb1.mono (by simp; omega))
  refine bodyPost_ret (v := dv ((255 - a + 1) % 256) ((255 - b + ((255 - a + 1) / 256)) % 256) ((255 - c + ((255 - b + ((255 - a + 1) / 256)) / 256)) % 256) ((255 - d + ((255 - c + ((255 - b + ((255 - a + 1) / 256)) / 256)) / 256)) % 256) ((255 - e + ((255 - d + ((255 - c + ((255 - b + ((255 - a + 1) / 256)) / 256)) / 256)) / 256)) % 256) ((255 - f + ((255 - e + ((255 - d + ((255 - c + ((255 - b + ((255 - a + 1) / 256)) / 256)) / 256)) / 256)) / 256)) % 256) ((255 - g + ((255 - f + ((255 - e + ((255 - d + ((255 - c + ((255 - b + ((255 - a + 1) / 256)) / 256)) / 256)) / 256)) / 256)) / 256)) % 256) ((255 - h + ((255 - g + ((255 - f + ((255 - e + ((255 - d + ((255 - c + ((255 - b + ((255 - a + 1) / 256)) / 256)) / 256)) / 256)) / 256)) / 256)) / 256)) % 256)) (by simp [results, Tryd.results50, go_sem, hc1]) rfl ⟨rfl, ?_⟩
  (repeat (first | (with_reducible exact Below.refl _ _) | (with_reducible assumption) | (with_reducible refine Below.drew ?_) | (with_reducible refine below_draws ?_ _) | ((with_reducible refine Below.setCell ?_ ?_ _); rotate_left; (first | (with_reducible exact Nat.le_refl _) | (focus (simp; done)) | (focus (simp; omega)) | omega)) | ((with_reducible refine Below.alloc ?_ ?_ _); rotate_left; (first | (with_reducible exact Nat.le_refl _) | (focus (simp; done)) | (focus (simp; omega)) | omega))))

theorem num8_du (u : Int) (h0 : 0 ≤ u) (h1 : u ≤ 18446744073709551615) : num8 (u % 256) (u / 256 % 256) (u / 256 / 256 % 256) (u / 256 / 256 / 256 % 256) (u / 256 / 256 / 256 / 256 % 256) (u / 256 / 256 / 256 / 256 / 256 % 256) (u / 256 / 256 / 256 / 256 / 256 / 256 % 256) (u / 256 / 256 / 256 / 256 / 256 / 256 / 256 % 256) = u := by
  unfold num8; omega
theorem num8_minus (a b c d e f g h : Int) (_a0 : 0 ≤ a) (_a1 : a ≤ 255) (_b0 : 0 ≤ b) (_b1 : b ≤ 255) (_c0 : 0 ≤ c) (_c1 : c ≤ 255) (_d0 : 0 ≤ d) (_d1 : d ≤ 255) (_e0 : 0 ≤ e) (_e1 : e ≤ 255) (_f0 : 0 ≤ f) (_f1 : f ≤ 255) (_g0 : 0 ≤ g) (_g1 : g ≤ 255) (_h0 : 0 ≤ h) (_h1 : h ≤ 255) : num8 ((255 - a + 1) % 256) ((255 - b + ((255 - a + 1) / 256)) % 256) ((255 - c + ((255 - b + ((255 - a + 1) / 256)) / 256)) % 256) ((255 - d + ((255 - c + ((255 - b + ((255 - a + 1) / 256)) / 256)) / 256)) % 256) ((255 - e + ((255 - d + ((255 - c + ((255 - b + ((255 - a + 1) / 256)) / 256)) / 256)) / 256)) % 256) ((255 - f + ((255 - e + ((255 - d + ((255 - c + ((255 - b + ((255 - a + 1) / 256)) / 256)) / 256)) / 256)) / 256)) % 256) ((255 - g + ((255 - f + ((255 - e + ((255 - d + ((255 - c + ((255 - b + ((255 - a + 1) / 256)) / 256)) / 256)) / 256)) / 256)) / 256)) % 256) ((255 - h + ((255 - g + ((255 - f + ((255 - e + ((255 - d + ((255 - c + ((255 - b + ((255 - a + 1) / 256)) / 256)) / 256)) / 256)) / 256)) / 256)) / 256)) % 256) = (18446744073709551616 - num8 a b c d e f g h) % 18446744073709551616 := by
  unfold num8; omega
end Go.Proofs.YtogalfbemmcaaaaDoor
