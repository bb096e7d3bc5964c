/- Walks of the gauss seat, part A: numbers of fewer bits. -/
import Derived.Test.YtoagnjnkgecmkaaDoorBase
namespace Go.Proofs.YtoagnjnkgecmkaaDoor
open Go.RowKit

/-- A number of 24 bits, going round. -/
def P24 (n : Int) : Int := (n + 8388608) % 16777216 - 8388608

theorem p24_shift (n : Int) : wrap64 (n * 1099511627776) / 1099511627776 = P24 n := by
  unfold P24 wrap64; omega

/-- The reference's rounds over the bits, in the walk's own form. -/
def bitAt (n : Int) (k : Nat) : Int := if k < 24 then (IntKind.u64.wrap n / 2 ^ k).tmod 2 else (IntKind.u64.wrap n / 8388608).tmod 2
def rrO (n : Int) : Nat → Int
  | 0 => 0
  | k + 1 => IntKind.u64.wrap (rrO n k + IntKind.u64.wrap (bitAt n k * 2 ^ k))

theorem wrap_u64 (x : Int) : IntKind.u64.wrap x = x % 18446744073709551616 := by
  simp [IntKind.wrap, IntKind.signed, IntKind.bits]

theorem pow_cast (k : Nat) : (2 : Int) ^ k = ((2 ^ k : Nat) : Int) := (Int.natCast_pow 2 k).symm

theorem rrO_low (u : Nat) (n : Int) (hu : n % 18446744073709551616 = (u : Int)) (k : Nat) (hk : k ≤ 24) : rrO n k = ((u % 2 ^ k : Nat) : Int) := by
  induction k with
  | zero => simp [rrO, Nat.mod_one]
  | succ k ih =>
    rw [rrO, ih (by omega), wrap_u64, wrap_u64]
    unfold bitAt
    rw [wrap_u64, hu, if_pos (by omega), pow_cast]
    have e1 : ((u : Int) / ((2 ^ k : Nat) : Int)).tmod 2 = ((u / 2 ^ k % 2 : Nat) : Int) := rfl
    have hm : u % 2 ^ (k + 1) = u % 2 ^ k + 2 ^ k * (u / 2 ^ k % 2) := by rw [Nat.pow_succ, Nat.mod_mul]
    have hle : u % 2 ^ (k + 1) < 2 ^ (k + 1) := Nat.mod_lt _ (Nat.pow_pos (by decide))
    have hle2 : 2 ^ (k + 1) ≤ 2 ^ 24 := Nat.pow_le_pow_right (by decide) (by omega)
    rw [e1, ← Int.natCast_mul, Nat.mul_comm, hm]
    rw [hm] at hle
    generalize 2 ^ k * (u / 2 ^ k % 2) = A at *
    generalize u % 2 ^ k = B at *
    omega

theorem rrO_high (u : Nat) (n : Int) (hu : n % 18446744073709551616 = (u : Int)) (j : Nat) (hj : 24 + j ≤ 64) :
    rrO n (24 + j) = (u : Int) % 16777216 + (u : Int) / 8388608 % 2 * (((2 ^ (24 + j) : Nat) : Int) - 16777216) := by
  induction j with
  | zero => rw [rrO_low u n hu 24 (by omega)]; omega
  | succ j ih =>
    rw [show 24 + (j + 1) = (24 + j) + 1 by omega, rrO, ih (by omega), wrap_u64, wrap_u64]
    unfold bitAt
    rw [wrap_u64, hu, if_neg (by omega), pow_cast]
    have e1 : ((u : Int) / 8388608).tmod 2 = (u : Int) / 8388608 % 2 := rfl
    have hle : 2 ^ (24 + j) ≤ 2 ^ 63 := Nat.pow_le_pow_right (by decide) (by omega)
    have hge : 2 ^ 24 ≤ 2 ^ (24 + j) := Nat.pow_le_pow_right (by decide) (by omega)
    rw [e1, Nat.pow_succ]
    generalize 2 ^ (24 + j) = A at *
    have ht : (u : Int) / 8388608 % 2 = 0 ∨ (u : Int) / 8388608 % 2 = 1 := by omega
    rcases ht with ht | ht <;> rw [ht] <;> omega

theorem rrO_end (n : Int) : wrap64 (rrO n 64) = P24 n := by
  obtain ⟨u, hu⟩ : ∃ u : Nat, n % 18446744073709551616 = (u : Int) := ⟨(n % 18446744073709551616).toNat, by omega⟩
  rw [show (64 : Nat) = 24 + 40 from rfl, rrO_high u n hu 40 (by omega)]
  have e : ((2 ^ (24 + 40) : Nat) : Int) = 18446744073709551616 := by decide
  rw [e]
  unfold P24 wrap64
  have ht : (u : Int) / 8388608 % 2 = 0 ∨ (u : Int) / 8388608 % 2 = 1 := by omega
  rcases ht with ht | ht <;> rw [ht] <;> omega

set_option maxHeartbeats 400000 in
theorem round_any (n : Int) (w : World) :
    Calls Tryd.prog 42 #[.int .i64 n, .int .i64 24] w fun e w' => e = .returned (.tuple #[.int .i64 (P24 n), .bool true]) ∧ w = w' := by
  go_enter Tryd.func42, Tryd.ntmps42
  go_wp2
  go_ret2
  exact ⟨ret_int2 (p24_shift n), rfl⟩

set_option maxHeartbeats 400000 in
theorem rround_any (n : Int) (w : World) :
    Calls Tryd.prog 32 #[.int .i64 n, .int .i64 24] w fun e w' => e = .returned (.int .i64 (P24 n)) ∧ w = w' := by
  go_enter Tryd.func32, Tryd.ntmps32
  go_wp2
  go_loop [7, 8, 9] (fun o i b => ∃ (k : Nat), k ≤ 64 ∧ i = .int .i64 k ∧ o = .int .u64 (rrO n k)) (fun _ i _ => 64 - (intOf i).toNat)
  case atStart => exact ⟨0, by omega, rfl, rfl⟩
  case round =>
    obtain ⟨k, hk, rfl, rfl⟩ := hrel
    go_wp2
    · go_round
      case rel => exact ⟨k + 1, by omega, by go_num, by rw [rrO, bitAt, if_pos (by omega)]⟩
      case measure => simp [intOf]; omega
    · go_round
      case rel => exact ⟨k + 1, by omega, by go_num, by rw [rrO, bitAt, if_neg (by omega)]⟩
      case measure => simp [intOf]; omega
    · go_ret
      obtain rfl : k = 64 := by omega
      exact ⟨ret_int (rrO_end n), rfl⟩

/-- 'gauss.part' and the reference's 'Part': numbers of 24 bits. -/
theorem part_any (n : Int) (w : World) :
    Calls Tryd.prog 31 #[.int .i64 n] w fun e w' => e = .returned (.int .i64 (P24 n)) ∧ w = w' := by
  go_enter Tryd.func31, Tryd.ntmps31
  go_wp2_with (go_at_call 42; refine (round_any _ _).mono ?_; rintro e w' ⟨rfl, rfl⟩)
  go_ret
  exact ⟨rfl, rfl⟩
theorem rpart_any (n : Int) (w : World) :
    Calls Tryd.prog 20 #[.int .i64 n] w fun e w' => e = .returned (.int .i64 (P24 n)) ∧ w = w' := by
  go_enter Tryd.func20, Tryd.ntmps20
  go_wp2_with (go_at_call 32; refine (rround_any _ _).mono ?_; rintro e w' ⟨rfl, rfl⟩)
  go_ret
  exact ⟨rfl, rfl⟩
end Go.Proofs.YtoagnjnkgecmkaaDoor
