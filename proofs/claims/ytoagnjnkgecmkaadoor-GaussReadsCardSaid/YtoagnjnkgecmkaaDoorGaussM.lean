/- Walks of the gauss seat, part M: the reference's texts of numbers. -/
import Derived.Test.YtoagnjnkgecmkaaDoorGaussL
namespace Go.Proofs.YtoagnjnkgecmkaaDoor
open Go.RowKit
attribute [local go_sem] B_mk B_size B_toList B_extract B_append B_get

set_option maxHeartbeats 2000000 in
theorem size_pos (n : Int) (h0 : 0 ≤ n) (h1 : n ≤ 9223372036854775807) (w : World) :
    Calls Tryd.prog 51 #[.int .i64 n] w fun e w' => e = .returned (.int .u64 n) ∧ Below w.heap.size w w' := by
  have hu : IntKind.u64.wrap n = n := by rw [wrap_u64]; omega
  have hd : decide (128 ≤ n / 256 / 256 / 256 / 256 / 256 / 256 / 256 % 256) = false := by simp; omega
  have hw : wrap64 n = n := by unfold wrap64; omega
  have hN := Lib.hid (num8_du n h0 (by omega))
  have h2 : n ≤ 18446744073709551615 := by omega
  go_enter Tryd.func51, Tryd.ntmps51
  go_wp2_with fail
  refine (dof_u _ _ hu h0 h2 _).mono ?_
  rintro e w1 ⟨rfl, hb1⟩
  go_wp2_with fail
  refine (below8_any _ _ _ _ _ _ _ _ _).mono ?_
  rintro e w2 ⟨rfl, hb2⟩
  obtain ⟨hc2, hf2⟩ := bcell hb2
  go_wp2_with fail
  refine (number8_any _ _ _ _ _ _ _ _ (by omega) (by omega) (by omega) (by omega) (by omega) (by omega) (by omega) (by omega) (by omega) (by omega) (by omega) (by omega) (by omega) (by omega) (by omega) (by omega) _).mono ?_
  rintro e w3 ⟨rfl, hb3⟩
  have q1 : Below w.heap.size w w1 := hb1
  have q2 : Below w.heap.size w w2 := Below.trans (B := w.heap.size) (b := w1.alloc _) ((hb1.mono (Nat.le_refl _)).alloc hb1.size _) (hb2.mono (by have := hb1.size; simp; omega))
  have q3 : Below w.heap.size w w3 := Below.trans q2 (hb3.mono q2.size)
  rw [hN.out]
  go_wp2_with fail
  go_ret
  exact ⟨rfl, q3⟩

set_option maxHeartbeats 2000000 in
set_option maxRecDepth 100000 in
theorem size_neg (n u : Int) (h0 : -9223372036854775808 ≤ n) (h1 : n < 0) (hu0 : u = n + 18446744073709551616) (w : World) :
    Calls Tryd.prog 51 #[.int .i64 n] w fun e w' => e = .returned (.int .u64 (-n)) ∧ Below w.heap.size w w' := by
  have hu : IntKind.u64.wrap n = u := by rw [wrap_u64]; omega
  have hd : decide (128 ≤ u / 256 / 256 / 256 / 256 / 256 / 256 / 256 % 256) = true := by simp; omega
  have hlo : 0 ≤ u := by omega
  have hhi : u ≤ 18446744073709551615 := by omega
  have hN := Lib.hid (num8_du u hlo hhi)
  have hW : wrap64 ((18446744073709551616 - u) % 18446744073709551616) = wrap64 (-n) := by unfold wrap64; omega
  have HW := Lib.hid hW
  have HB := Lib.hid (wrap_back (-n) (by omega) (by omega))
  clear hu0 hW
  go_enter Tryd.func51, Tryd.ntmps51
  go_wp2_with fail
  refine (dof_u _ _ hu hlo hhi _).mono ?_
  rintro e w1 ⟨rfl, hb1⟩
  go_wp2_with fail
  refine (below8_any _ _ _ _ _ _ _ _ _).mono ?_
  rintro e w2 ⟨rfl, hb2⟩
  obtain ⟨hc2, hf2⟩ := bcell hb2
  go_wp2_with fail
  refine (minus8_any _ _ _ _ _ _ _ _ (by omega) (by omega) (by omega) (by omega) (by omega) (by omega) (by omega) (by omega) (by omega) (by omega) (by omega) (by omega) (by omega) (by omega) (by omega) (by omega) _).mono ?_
  rintro e w3 ⟨rfl, hb3⟩
  obtain ⟨hc3, hf3⟩ := bcell hb3
  have z2 : w1.heap.size < w2.heap.size := by have := hb2.size; simp at this; omega
  have z3 : w1.heap.size < w3.heap.size := by have := hb3.size; omega
  go_wp2_with fail
  refine (number8_any _ _ _ _ _ _ _ _ (by omega) (by omega) (by omega) (by omega) (by omega) (by omega) (by omega) (by omega) (by omega) (by omega) (by omega) (by omega) (by omega) (by omega) (by omega) (by omega) _).mono ?_
  rintro e w4 ⟨rfl, hb4⟩
  have q1 : Below w.heap.size w w1 := hb1
  have q2 : Below w.heap.size w w2 := Below.trans (B := w.heap.size) (b := w1.alloc _) ((hb1.mono (Nat.le_refl _)).alloc hb1.size _) (hb2.mono (by have := hb1.size; simp; omega))
  have q3 : Below w.heap.size w w3 := Below.trans q2 (hb3.mono q2.size)
  have s1 := hb1.size
  have q4 : Below w.heap.size w w4 := Below.trans (by (repeat (first | (with_reducible exact Below.refl _ _) | (with_reducible assumption) | (with_reducible refine Below.drew ?_) | (with_reducible refine below_draws ?_ _) | ((with_reducible refine Below.setCell ?_ ?_ _); rotate_left; (first | (with_reducible exact Nat.le_refl _) | (focus (simp; done)) | (focus (simp; omega)) | omega)) | ((with_reducible refine Below.alloc ?_ ?_ _); rotate_left; (first | (with_reducible exact Nat.le_refl _) | (focus (simp; done)) | (focus (simp; omega)) | omega))))) (hb4.mono (by have := q3.size; simp; omega))
  rw [num8_minus _ _ _ _ _ _ _ _ (by omega) (by omega) (by omega) (by omega) (by omega) (by omega) (by omega) (by omega) (by omega) (by omega) (by omega) (by omega) (by omega) (by omega) (by omega) (by omega), hN.out, HW.out]
  go_wp2_with fail
  rw [HB.out]
  go_ret
  exact ⟨rfl, q4⟩

theorem dig_cut (m : Nat) (h : m < 10) : List.drop m (48 :: List.take m [49, 50, 51, 52, 53, 54, 55, 56, 57]) = [dg m] := by
  match m, h with
  | 0, _ | 1, _ | 2, _ | 3, _ | 4, _ | 5, _ | 6, _ | 7, _ | 8, _ | 9, _ => rfl

set_option maxHeartbeats 2000000 in
theorem rtext_core (n : Int) (m0 : Nat) (hm : m0 ≤ 9223372036854775808) (hs : ∀ w, Calls Tryd.prog 51 #[.int .i64 n] w fun e w' => e = .returned (.int .u64 (m0 : Int)) ∧ Below w.heap.size w w') (hn : n < 0) (w : World) :
    Calls Tryd.prog 39 #[.int .i64 n] w fun e w' => e = .returned (.string (B (45 :: dec m0))) ∧ Below w.heap.size w w' := by
  have HS := Lib.hid hs
  clear hs
  go_enter Tryd.func39, Tryd.ntmps39
  go_wp2_with fail
  refine (HS.out _).mono ?_
  rintro e w1 ⟨rfl, hb1⟩
  go_wp2_with fail
  go_loop [3, 4] (fun a s => ∃ (q m : Nat) (t : List UInt8), TI m0 q m t ∧ a = .int .u64 m ∧ s = .string (B t)) (fun a _ => (intOf a).toNat)
  case atStart => exact ⟨19, m0, [], TI.start m0, rfl, rfl⟩
  case round =>
    obtain ⟨q, m, t, ht, rfl, rfl⟩ := hrel
    obtain ⟨hr1, hr2⟩ := ht.room hm
    have hm9 : (m : Int) ≤ 9223372036854775808 := by omega
    have hlen : t.length ≤ 19 := by have := ht.len; omega
    by_cases h10 : m < 10
    · have hlast := ht.last h10
      have hcut := dig_cut m h10
      clear ht
      go_wp2
      go_ret
      exact ⟨by rw [← hlast, show m % 10 = m by omega]; rfl, hb1⟩
    · obtain ⟨q', rfl, ht'⟩ := ht.next hm h10
      have hcut := dig_cut (m % 10) (by omega)
      clear ht
      go_wp2
      go_round
      case rel => exact ⟨q', m / 10, _, ht', by go_num, rfl⟩
      case measure => simp [intOf]; omega
set_option maxHeartbeats 2000000 in
theorem rtext_core_pos (n : Int) (m0 : Nat) (hm : m0 ≤ 9223372036854775808) (hs : ∀ w, Calls Tryd.prog 51 #[.int .i64 n] w fun e w' => e = .returned (.int .u64 (m0 : Int)) ∧ Below w.heap.size w w') (hn : ¬ n < 0) (w : World) :
    Calls Tryd.prog 39 #[.int .i64 n] w fun e w' => e = .returned (.string (B (dec m0))) ∧ Below w.heap.size w w' := by
  have HS := Lib.hid hs
  clear hs
  go_enter Tryd.func39, Tryd.ntmps39
  go_wp2_with fail
  refine (HS.out _).mono ?_
  rintro e w1 ⟨rfl, hb1⟩
  go_wp2_with fail
  go_loop [3, 4] (fun a s => ∃ (q m : Nat) (t : List UInt8), TI m0 q m t ∧ a = .int .u64 m ∧ s = .string (B t)) (fun a _ => (intOf a).toNat)
  case atStart => exact ⟨19, m0, [], TI.start m0, rfl, rfl⟩
  case round =>
    obtain ⟨q, m, t, ht, rfl, rfl⟩ := hrel
    obtain ⟨hr1, hr2⟩ := ht.room hm
    have hm9 : (m : Int) ≤ 9223372036854775808 := by omega
    have hlen : t.length ≤ 19 := by have := ht.len; omega
    by_cases h10 : m < 10
    · have hlast := ht.last h10
      have hcut := dig_cut m h10
      clear ht
      go_wp2
      go_ret
      exact ⟨by rw [← hlast, show m % 10 = m by omega]; rfl, hb1⟩
    · obtain ⟨q', rfl, ht'⟩ := ht.next hm h10
      have hcut := dig_cut (m % 10) (by omega)
      clear ht
      go_wp2
      go_round
      case rel => exact ⟨q', m / 10, _, ht', by go_num, rfl⟩
      case measure => simp [intOf]; omega
/-- The reference's Text, whatever the number. -/
theorem rtext_any (n : Int) (h0 : -9223372036854775808 ≤ n) (h1 : n ≤ 9223372036854775807) (w : World) :
    Calls Tryd.prog 39 #[.int .i64 n] w fun e w' => e = .returned (.string (B (txt n))) ∧ Below w.heap.size w w' := by
  by_cases hn : n < 0
  · unfold txt; rw [if_pos hn]
    refine rtext_core n n.natAbs (by omega) (fun w => ?_) hn w
    rw [show ((n.natAbs : Nat) : Int) = -n by omega]
    exact size_neg n _ h0 hn rfl w
  · unfold txt; rw [if_neg hn]
    refine rtext_core_pos n n.natAbs (by omega) (fun w => ?_) hn w
    rw [show ((n.natAbs : Nat) : Int) = n by omega]
    exact size_pos n (by omega) h1 w
end Go.Proofs.YtoagnjnkgecmkaaDoor
