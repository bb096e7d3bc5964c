/- Walks of numbers and their texts, part J: the reference's reading of numbers, walked. -/
import Derived.Test.YtogalfbemmcaaaaDoorNumI
namespace Go.Proofs.YtogalfbemmcaaaaDoor
open Go.RowKit
attribute [local go_sem] B_mk B_size B_toList B_extract B_append B_get

theorem ov1 {m d : List UInt8} (h : (d.length : Int) = 19) (q : (!Op.bytesLess d m) = true ∧ (!d == m) = true) : overM m d = true := by
  have : d.length = 19 := by omega
  unfold overM; rw [q.1, q.2]; simp [this]
theorem ov2 {m d : List UInt8} (h : (d.length : Int) = 19) (q : (!Op.bytesLess d m) = false ∨ (!d == m) = false) : overM m d = false := by
  have : d.length = 19 := by omega
  unfold overM; rcases q with q | q <;> rw [q] <;> simp [this]
theorem ov3 {m d : List UInt8} (h : ¬ (d.length : Int) = 19) (h' : (d.length : Int) ≤ 19) : overM m d = false := by
  have h1 : ¬ d.length = 19 := by omega
  have h2 : ¬ 19 < d.length := by omega
  unfold overM; simp [h1, h2]
theorem ov4 {m d : List UInt8} (h : 19 < (d.length : Int)) : overM m d = true := by
  have h2 : 19 < d.length := by omega
  unfold overM; simp [h2]

/-- In the midst of the reference's digits. -/
def DInv (d : List UInt8) (k : Nat) : Prop := (d.take k).all isDig = true
theorem dinv_next {d : List UInt8} {k : Nat} (hk : k < d.length) (h0 : 48 ≤ bt d k) (h1 : bt d k ≤ 57) (h : DInv d k) : DInv d (k + 1) := pinv_dig hk h0 h1 h
theorem dinv_end {d : List UInt8} {k : Nat} (hk : ¬ k < d.length) (h : DInv d k) : d.all isDig = true := by
  unfold DInv at h; rwa [List.take_of_length_le (by omega)] at h
theorem dig_bt {d : List UInt8} (h : d.all isDig = true) {k : Nat} (hk : k < d.length) : 48 ≤ bt d k ∧ bt d k ≤ 57 := by
  rw [bt_eq d k hk]
  have := (List.all_eq_true.1 h) d[k] (List.getElem_mem hk)
  simp [isDig] at this; omega
theorem vald_bound {d : List UInt8} (h : d.all isDig = true) {k : Nat} (hk : k < d.length) {M : Nat} (hv : vald d ≤ M) : 10 * (vald (d.take k) : Int) + (bt d k - 48) = (vald (d.take (k + 1)) : Int) ∧ (vald (d.take (k + 1)) : Int) ≤ M ∧ (vald (d.take k) : Int) ≤ M := by
  have h1 := dig_bt h hk
  have h2 := pinv_vald hk h1.1
  have h3 := vald_le (d.take (k + 1)) (d.drop (k + 1))
  rw [List.take_append_drop] at h3
  omega
theorem head_ne (d : List UInt8) (h0 : (bt d 0 == 48) = false) : d.head? ≠ some 48 := by
  intro h
  cases d with
  | nil => simp at h
  | cons c d => simp at h; subst h; simp [bt] at h0
theorem wrap_back (v : Int) (h0 : 0 ≤ v) (h1 : v ≤ 9223372036854775808) : IntKind.u64.wrap (wrap64 v) = v := by
  rw [wrap_u64]; unfold wrap64; omega
theorem minus_back (v : Int) (h0 : 0 ≤ v) (h1 : v ≤ 9223372036854775808) : wrap64 ((18446744073709551616 - v) % 18446744073709551616) = -v := by
  unfold wrap64; omega

theorem rfin_pos {d : List UInt8} (h : d.all isDig = true) (hne : d ≠ []) (h0 : d.head? ≠ some 48) : (overM most7 d = true → digV false d = (0, 14)) ∧ (overM most7 d = false → vald d ≤ 9223372036854775807 ∧ digV false d = ((vald d : Int), 0)) := by
  have hi := over_iff most7 d (by decide) (by decide) (by rw [most7_v]; decide) (by rw [most7_v]; decide) hne h h0
  rw [most7_v] at hi
  refine ⟨fun ho => ?_, fun ho => ?_⟩
  · have := hi.1 ho
    unfold digV; rw [if_pos h, if_neg (by decide), if_neg (by omega)]
  · have hn : ¬ overM most7 d = true := by rw [ho]; decide
    rw [hi] at hn
    refine ⟨by omega, ?_⟩
    unfold digV; rw [if_pos h, if_neg (by decide), if_pos (by omega)]

set_option maxHeartbeats 4000000 in
theorem rparse_pos (d : List UInt8) (w : World) (hl : d.length < 1000000) (hne : ¬ d = []) (h45 : (bt d 0 == 45) = false) (h0 : (bt d 0 == 48) = false) :
    Calls Tryd.prog 42 #[.string (B d)] w fun e w' => e = .returned (.tuple #[.int .i64 (digV false d).1, .int .i64 (digV false d).2]) ∧ Below w.heap.size w w' := by
  have hne' : d.isEmpty = false := by simp [hne]
  have hpos : 0 < d.length := List.length_pos_iff.2 hne
  have hlen0 : ((d.length : Int) == 0) = false := by simp [hne]
  have hh := head_ne d h0
  go_enter Tryd.func42, Tryd.ntmps42
  go_wp2_with fail
  go_loop [2, 3, 5] (fun _ _ i => ∃ (k : Nat), k ≤ d.length ∧ DInv d k ∧ i = .int .i64 k) (fun _ _ i => d.length - (intOf i).toNat)
  case atStart => exact ⟨0, by omega, by simp [DInv], rfl⟩
  case round =>
    obtain ⟨k, hk, hd, rfl⟩ := hrel
    have hb0 := bt_lo d k
    have hb1 := bt_hi d k
    by_cases hlt : k < d.length
    · go_wp2
      · go_ret2
        exact ⟨ret_pair (pinv_bad hlt (by omega) false), Below.refl _ _⟩
      · go_round
        case rel => exact ⟨k + 1, by omega, dinv_next hlt (by omega) (by omega) hd, by go_num⟩
        case measure => simp [intOf]; omega
      · go_ret2
        exact ⟨ret_pair (pinv_bad hlt (by omega) false), Below.refl _ _⟩
    · have hall := dinv_end hlt hd
      obtain ⟨fin1, fin2⟩ := rfin_pos hall hne hh
      have HF1 := Lib.hid fin1
      have HF2 := Lib.hid fin2
      have HA := Lib.hid hall
      clear fin1 fin2 hall hd hb0 hb1
      go_wp2
      · go_ret2
        exact ⟨ret_pair (HF1.out (ov1 (m := most7) (by assumption) (by assumption))), Below.refl _ _⟩
      rotate_left 2
      · go_ret2
        exact ⟨ret_pair (HF1.out (ov4 (m := most7) (by assumption))), Below.refl _ _⟩
      all_goals
        obtain ⟨hv, hfin⟩ := HF2.out (by first | exact ov2 (m := most7) (by assumption) (by assumption) | exact ov3 (m := most7) (by assumption) (by assumption))
        have HFIN := Lib.hid hfin
        clear HF1 HF2 hfin
        try (rename (d.length : Int) = 19 => e19; clear e19)
        go_loop [7, 8] (fun n i => ∃ (j : Nat), j ≤ d.length ∧ i = .int .i64 j ∧ n = .int .u64 (vald (d.take j))) (fun _ i => d.length - (intOf i).toNat)
        case atStart => exact ⟨0, by omega, rfl, rfl⟩
        case round =>
          obtain ⟨j, hj, rfl, rfl⟩ := hrel
          by_cases hjt : j < d.length
          · obtain ⟨v1, v2, v3⟩ := vald_bound HA.out hjt hv
            obtain ⟨v4, v5⟩ := dig_bt HA.out hjt
            have v6 : 0 ≤ (vald (d.take j) : Int) := by omega
            have v7 : 10 * (vald (d.take j) : Int) + (bt d j - 48) ≤ 9223372036854775807 := by omega
            have V1 := Lib.hid v1
            clear v1 v2
            go_wp2
            go_round
            case rel => exact ⟨j + 1, by omega, by go_num, by rw [← V1.out]; congr 1; omega⟩
            case measure => simp [intOf]; omega
          · have ht : d.take j = d := List.take_of_length_le (by omega)
            rw [ht]
            have hv' : (vald d : Int) ≤ 9223372036854775807 := by omega
            clear ht hv
            go_wp2
            go_ret2
            exact ⟨ret_pair (by rw [HFIN.out]), Below.refl _ _⟩

theorem rfin_neg {d : List UInt8} (h : d.all isDig = true) (hne : d ≠ []) (h0 : d.head? ≠ some 48) : (overM most8 d = true → digV true d = (0, 14)) ∧ (overM most8 d = false → vald d ≤ 9223372036854775808 ∧ digV true d = (-(vald d : Int), 0)) := by
  have hi := over_iff most8 d (by decide) (by decide) (by rw [most8_v]; decide) (by rw [most8_v]; decide) hne h h0
  rw [most8_v] at hi
  refine ⟨fun ho => ?_, fun ho => ?_⟩
  · have := hi.1 ho
    unfold digV; rw [if_pos h, if_pos rfl, if_neg (by omega)]
  · have hn : ¬ overM most8 d = true := by rw [ho]; decide
    rw [hi] at hn
    refine ⟨by omega, ?_⟩
    unfold digV; rw [if_pos h, if_pos rfl, if_pos (by omega)]

set_option maxHeartbeats 4000000 in
theorem rparse_neg (d : List UInt8) (w : World) (hl : d.length < 1000000) (hne : ¬ d = []) (h0 : (bt d 0 == 48) = false) :
    Calls Tryd.prog 42 #[.string (B (45 :: d))] w fun e w' => e = .returned (.tuple #[.int .i64 (digV true d).1, .int .i64 (digV true d).2]) ∧ Below w.heap.size w w' := by
  have hne' : d.isEmpty = false := by simp [hne]
  have hpos : 0 < d.length := List.length_pos_iff.2 hne
  have hlen0 : ((d.length : Int) == 0) = false := by simp [hne]
  have hb : bt (45 :: d) 0 = 45 := by simp [bt]
  have hh := head_ne d h0
  go_enter Tryd.func42, Tryd.ntmps42
  go_wp2_with fail
  go_loop [2, 3, 5] (fun _ _ i => ∃ (k : Nat), k ≤ d.length ∧ DInv d k ∧ i = .int .i64 k) (fun _ _ i => d.length - (intOf i).toNat)
  case atStart => exact ⟨0, by omega, by simp [DInv], rfl⟩
  case round =>
    obtain ⟨k, hk, hd, rfl⟩ := hrel
    have hb0 := bt_lo d k
    have hb1 := bt_hi d k
    by_cases hlt : k < d.length
    · go_wp2
      · go_ret2
        exact ⟨ret_pair (pinv_bad hlt (by omega) true), Below.refl _ _⟩
      · go_round
        case rel => exact ⟨k + 1, by omega, dinv_next hlt (by omega) (by omega) hd, by go_num⟩
        case measure => simp [intOf]; omega
      · go_ret2
        exact ⟨ret_pair (pinv_bad hlt (by omega) true), Below.refl _ _⟩
    · have hall := dinv_end hlt hd
      obtain ⟨fin1, fin2⟩ := rfin_neg hall hne hh
      have HF1 := Lib.hid fin1
      have HF2 := Lib.hid fin2
      have HA := Lib.hid hall
      clear fin1 fin2 hall hd hb0 hb1
      go_wp2
      · go_ret2
        exact ⟨ret_pair (HF1.out (ov1 (m := most8) (by assumption) (by assumption))), Below.refl _ _⟩
      rotate_left 2
      · go_ret2
        exact ⟨ret_pair (HF1.out (ov4 (m := most8) (by assumption))), Below.refl _ _⟩
      all_goals
        obtain ⟨hv, hfin⟩ := HF2.out (by first | exact ov2 (m := most8) (by assumption) (by assumption) | exact ov3 (m := most8) (by assumption) (by assumption))
        have HFIN := Lib.hid hfin
        clear HF1 HF2 hfin
        try (rename (d.length : Int) = 19 => e19; clear e19)
        go_loop [7, 8] (fun n i => ∃ (j : Nat), j ≤ d.length ∧ i = .int .i64 j ∧ n = .int .u64 (vald (d.take j))) (fun _ i => d.length - (intOf i).toNat)
        case atStart => exact ⟨0, by omega, rfl, rfl⟩
        case round =>
          obtain ⟨j, hj, rfl, rfl⟩ := hrel
          by_cases hjt : j < d.length
          · obtain ⟨v1, v2, v3⟩ := vald_bound HA.out hjt hv
            obtain ⟨v4, v5⟩ := dig_bt HA.out hjt
            have v6 : 0 ≤ (vald (d.take j) : Int) := by omega
            have v7 : 10 * (vald (d.take j) : Int) + (bt d j - 48) ≤ 9223372036854775808 := by omega
            have V1 := Lib.hid v1
            clear v1 v2
            go_wp2
            go_round
            case rel => exact ⟨j + 1, by omega, by go_num, by rw [← V1.out]; congr 1; omega⟩
            case measure => simp [intOf]; omega
          · have ht : d.take j = d := List.take_of_length_le (by omega)
            rw [ht]
            have hv' : (vald d : Int) ≤ 9223372036854775808 := by omega
            clear ht hv
            have hu := wrap_back (vald d) (by omega) (by omega)
            have hN := Lib.hid (minus_back (vald d) (by omega) (by omega))
            have hbd : (vald d : Int) ≤ 18446744073709551615 := by omega
            have hbd0 : 0 ≤ (vald d : Int) := by omega
            go_wp2_with fail
            refine (dof_u _ _ hu hbd0 hbd _).mono ?_
            rintro e w1 ⟨rfl, hb1⟩
            go_wp2_with fail
            refine (minus8_any _ _ _ _ _ _ _ _ (by omega) (by omega) (by omega) (by omega) (by omega) (by omega) (by omega) (by omega) (by omega) (by omega) (by omega) (by omega) (by omega) (by omega) (by omega) (by omega) _).mono ?_
            rintro e w2 ⟨rfl, hb2⟩
            go_wp2_with fail
            refine (number8_any _ _ _ _ _ _ _ _ (by omega) (by omega) (by omega) (by omega) (by omega) (by omega) (by omega) (by omega) (by omega) (by omega) (by omega) (by omega) (by omega) (by omega) (by omega) (by omega) _).mono ?_
            rintro e w3 ⟨rfl, hb3⟩
            go_wp2_with fail
            have q3 : Below w.heap.size w w3 := Below.trans (Below.trans hb1 (hb2.mono hb1.size)) (hb3.mono (Nat.le_trans hb1.size hb2.size))
            go_ret2
            refine ⟨ret_pair ?_, q3⟩
            rw [HFIN.out, num8_minus _ _ _ _ _ _ _ _ (by omega) (by omega) (by omega) (by omega) (by omega) (by omega) (by omega) (by omega) (by omega) (by omega) (by omega) (by omega) (by omega) (by omega) (by omega) (by omega), num8_du _ hbd0 hbd, hN.out]

end Go.Proofs.YtogalfbemmcaaaaDoor
