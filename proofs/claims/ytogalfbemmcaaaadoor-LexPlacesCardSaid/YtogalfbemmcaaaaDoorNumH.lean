/- Walks of numbers and their texts, part H: numbers read from texts. -/
import Derived.Test.YtogalfbemmcaaaaDoorNumG
namespace Go.Proofs.YtogalfbemmcaaaaDoor
open Go.RowKit
attribute [local go_sem] B_mk B_size B_toList B_extract B_append B_get

/-- The number that digits are. -/
def vald (l : List UInt8) : Nat := l.foldl (fun n c => 10 * n + (c.toNat - 48)) 0
def isDig (c : UInt8) : Bool := decide (48 ≤ c.toNat) && decide (c.toNat ≤ 57)
theorem vald_snoc (l : List UInt8) (c : UInt8) : vald (l ++ [c]) = 10 * vald l + (c.toNat - 48) := by simp [vald]
theorem take_snoc (d : List UInt8) (k : Nat) (h : k < d.length) : d.take (k + 1) = d.take k ++ [d[k]] := by
  rw [List.take_succ_eq_append_getElem h]
theorem bt_eq (d : List UInt8) (k : Nat) (h : k < d.length) : bt d k = (d[k].toNat : Int) := by
  simp [bt, h]
theorem vald_le (l m : List UInt8) : vald l ≤ vald (l ++ m) := by
  have hgen : ∀ (m : List UInt8) (a : Nat), a ≤ m.foldl (fun n (c : UInt8) => 10 * n + (c.toNat - 48)) a := by
    intro m
    induction m with
    | nil => intro a; simp
    | cons c m ih => intro a; simp only [List.foldl_cons]; have := ih (10 * a + (c.toNat - 48)); omega
  unfold vald; rw [List.foldl_append]; exact hgen _ _

/-- What digits come to behind a sign, or without one. -/
def digV (neg : Bool) (d : List UInt8) : Int × Int :=
  if d.all isDig then
    (if neg then (if vald d ≤ 9223372036854775808 then (-(vald d : Int), 0) else (0, 14)) else (if vald d < 9223372036854775808 then ((vald d : Int), 0) else (0, 14)))
  else (0, 2)
/-- What a text is read as: the number, the error's number. -/
def pv (l : List UInt8) : Int × Int :=
  match l with
  | [] => (0, 2)
  | c :: d => if c = 45 then (if d = [] ∨ d.head? = some 48 then (0, 2) else digV true d) else (if c = 48 ∧ d ≠ [] then (0, 2) else digV false (c :: d))

/-- In the midst of the digits. -/
structure PInv (d : List UInt8) (k x : Nat) (o : Bool) : Prop where
  dig : (d.take k).all isDig = true
  le : x ≤ 9223372036854775808
  eq : o = false → x = vald (d.take k)
  big : o = true → 9223372036854775808 < vald (d.take k)
theorem pinv_start (d : List UInt8) : PInv d 0 0 false := ⟨by simp, by omega, by simp [vald], by simp⟩
theorem pinv_bad {d : List UInt8} {k : Nat} (hk : k < d.length) (h : bt d k < 48 ∨ 57 < bt d k) (neg : Bool) : digV neg d = (0, 2) := by
  have hn : ¬ (d.all isDig = true) := by
    rw [List.all_eq_true]
    intro hall
    have := hall d[k] (List.getElem_mem hk)
    rw [bt_eq d k hk] at h
    simp [isDig] at this
    omega
  unfold digV; rw [if_neg hn]
theorem pinv_dig {d : List UInt8} {k : Nat} (hk : k < d.length) (h0 : 48 ≤ bt d k) (h1 : bt d k ≤ 57) (h : (d.take k).all isDig = true) : (d.take (k + 1)).all isDig = true := by
  rw [take_snoc d k hk, List.all_append, h]
  rw [bt_eq d k hk] at h0 h1
  simp [isDig]; omega
theorem pinv_vald {d : List UInt8} {k : Nat} (hk : k < d.length) (h0 : 48 ≤ bt d k) : (vald (d.take (k + 1)) : Int) = 10 * (vald (d.take k) : Int) + (bt d k - 48) := by
  rw [take_snoc d k hk, vald_snoc, bt_eq d k hk]
  rw [bt_eq d k hk] at h0
  omega
theorem pinv_over {d : List UInt8} {k x : Nat} {o : Bool} (hk : k < d.length) (h0 : 48 ≤ bt d k) (h1 : bt d k ≤ 57) (hi : PInv d k x o) (ht : -(x : Int) < (-9223372036854775808 + (bt d k - 48)).tdiv 10) : PInv d (k + 1) x true := by
  have hv := pinv_vald hk h0
  refine ⟨pinv_dig hk h0 h1 hi.dig, hi.le, by simp, fun _ => ?_⟩
  cases o with
  | true => have := hi.big rfl; omega
  | false =>
    have := hi.eq rfl
    have e : (-9223372036854775808 + (bt d k - 48)).tdiv 10 = -((9223372036854775808 - (bt d k - 48)) / 10) := by
      rw [show (-9223372036854775808 + (bt d k - 48)) = -(9223372036854775808 - (bt d k - 48)) by omega, Int.neg_tdiv, Int.tdiv_eq_ediv_of_nonneg (by omega)]
    rw [e] at ht
    omega
theorem pinv_next {d : List UInt8} {k x : Nat} {o : Bool} (hk : k < d.length) (h0 : 48 ≤ bt d k) (h1 : bt d k ≤ 57) (hi : PInv d k x o) (ht : (-9223372036854775808 + (bt d k - 48)).tdiv 10 ≤ -(x : Int)) :
    ∃ y : Nat, wrap64 (wrap64 (10 * -(x : Int)) - (bt d k - 48)) = -(y : Int) ∧ PInv d (k + 1) y o := by
  have hv := pinv_vald hk h0
  have e : (-9223372036854775808 + (bt d k - 48)).tdiv 10 = -((9223372036854775808 - (bt d k - 48)) / 10) := by
    rw [show (-9223372036854775808 + (bt d k - 48)) = -(9223372036854775808 - (bt d k - 48)) by omega, Int.neg_tdiv, Int.tdiv_eq_ediv_of_nonneg (by omega)]
  rw [e] at ht
  have hle := hi.le
  refine ⟨(10 * (x : Int) + (bt d k - 48)).toNat, ?_, pinv_dig hk h0 h1 hi.dig, by omega, fun h => ?_, fun h => ?_⟩
  · unfold wrap64; omega
  · have := hi.eq h; omega
  · have := hi.big h; omega
theorem pinv_end {d : List UInt8} {k x : Nat} {o : Bool} (hk : ¬ k < d.length) (hi : PInv d k x o) : d.all isDig = true ∧ (o = false → x = vald d) ∧ (o = true → 9223372036854775808 < vald d) := by
  have h := hi.dig; have h2 := hi.eq; have h3 := hi.big
  rw [List.take_of_length_le (by omega)] at h h2 h3
  exact ⟨h, h2, h3⟩

theorem ret_pair {p : Int × Int} {a b : Int} (h : p = (a, b)) : Ending.returned (.tuple #[.int .i64 a, .int .i64 b]) = .returned (.tuple #[.int .i64 p.1, .int .i64 p.2]) := by rw [h]

set_option maxHeartbeats 1000000 in
theorem nparse_neg (d : List UInt8) (w : World) (hl : d.length < 1000000) (hne : ¬ d = []) (h0 : (bt d 0 == 48) = false) :
    Calls Tryd.prog 35 #[.string (B (45 :: d))] w fun e w' => e = .returned (.tuple #[.int .i64 (digV true d).1, .int .i64 (digV true d).2]) ∧ w = w' := by
  have hne' : d.isEmpty = false := by simp [hne]
  have hpos : 0 < d.length := List.length_pos_iff.2 hne
  have hb : bt (45 :: d) 0 = 45 := by simp [bt]
  go_enter Tryd.func35, Tryd.ntmps35
  go_wp2_with fail
  go_loop [6, 7, 39] (fun n ov i => ∃ (k x : Nat) (o : Bool), k ≤ d.length ∧ x ≤ 9223372036854775808 ∧ PInv d k x o ∧ i = .int .i64 k ∧ n = .int .i64 (-(x : Int)) ∧ ov = .bool o) (fun _ _ i => d.length - (intOf i).toNat)
  case atStart => exact ⟨0, 0, false, by omega, by omega, pinv_start d, rfl, rfl, rfl⟩
  case round =>
    obtain ⟨k, x, o, hk, hx, hi, rfl, rfl, rfl⟩ := hrel
    have hb0 := bt_lo d k
    have hb1 := bt_hi d k
    go_wp2
    · have hlt : k < d.length := by assumption
      go_ret2
      exact ⟨ret_pair (pinv_bad hlt (by omega) true), rfl⟩
    · have hlt : k < d.length := by assumption
      go_round
      case rel => exact ⟨k + 1, x, true, by omega, hx, pinv_over hlt (by omega) (by omega) hi (by assumption), by go_num, rfl, rfl⟩
      case measure => simp [intOf]; omega
    · have hlt : k < d.length := by assumption
      obtain ⟨y, hy, hi'⟩ := pinv_next hlt (by omega) (by omega) hi (by assumption)
      go_round
      case rel => exact ⟨k + 1, y, o, by omega, hi'.le, hi', by go_num, by rw [hy], rfl⟩
      case measure => simp [intOf]; omega
    · have hlt : k < d.length := by assumption
      go_ret2
      exact ⟨ret_pair (pinv_bad hlt (by omega) true), rfl⟩
    · have hlt : ¬ k < d.length := by assumption
      obtain ⟨e1, e2, e3⟩ := pinv_end hlt hi
      have := e3 (by assumption)
      go_ret2
      exact ⟨ret_pair (by unfold digV; rw [if_pos e1, if_pos rfl, if_neg (by omega)]), rfl⟩
    · have hlt : ¬ k < d.length := by assumption
      obtain ⟨e1, e2, e3⟩ := pinv_end hlt hi
      have ho : ¬ o = true := by assumption
      have := e2 (by simpa using ho)
      go_ret2
      exact ⟨ret_pair (by unfold digV; rw [if_pos e1, if_pos rfl, if_pos (by omega)]; congr 1; omega), rfl⟩
    · have hlt : ¬ k < d.length := by assumption
      obtain ⟨e1, e2, e3⟩ := pinv_end hlt hi
      have ho : ¬ o = true := by assumption
      have := e2 (by simpa using ho)
      go_ret2
      exact ⟨ret_pair (by unfold digV; rw [if_pos e1, if_pos rfl, if_pos (by omega)]; congr 1; omega), rfl⟩

set_option maxHeartbeats 1000000 in
theorem nparse_pos (d : List UInt8) (w : World) (hl : d.length < 1000000) (hne : ¬ d = []) (h45 : (bt d 0 == 45) = false) (h0 : (bt d 0 == 48) = false) :
    Calls Tryd.prog 35 #[.string (B d)] w fun e w' => e = .returned (.tuple #[.int .i64 (digV false d).1, .int .i64 (digV false d).2]) ∧ w = w' := by
  have hne' : d.isEmpty = false := by simp [hne]
  have hpos : 0 < d.length := List.length_pos_iff.2 hne
  go_enter Tryd.func35, Tryd.ntmps35
  go_wp2_with fail
  go_loop [6, 7, 39] (fun n ov i => ∃ (k x : Nat) (o : Bool), k ≤ d.length ∧ x ≤ 9223372036854775808 ∧ PInv d k x o ∧ i = .int .i64 k ∧ n = .int .i64 (-(x : Int)) ∧ ov = .bool o) (fun _ _ i => d.length - (intOf i).toNat)
  case atStart => exact ⟨0, 0, false, by omega, by omega, pinv_start d, rfl, rfl, rfl⟩
  case round =>
    obtain ⟨k, x, o, hk, hx, hi, rfl, rfl, rfl⟩ := hrel
    have hb0 := bt_lo d k
    have hb1 := bt_hi d k
    go_wp2
    · have hlt : k < d.length := by assumption
      go_ret2
      exact ⟨ret_pair (pinv_bad hlt (by omega) false), rfl⟩
    · have hlt : k < d.length := by assumption
      go_round
      case rel => exact ⟨k + 1, x, true, by omega, hx, pinv_over hlt (by omega) (by omega) hi (by assumption), by go_num, rfl, rfl⟩
      case measure => simp [intOf]; omega
    · have hlt : k < d.length := by assumption
      obtain ⟨y, hy, hi'⟩ := pinv_next hlt (by omega) (by omega) hi (by assumption)
      go_round
      case rel => exact ⟨k + 1, y, o, by omega, hi'.le, hi', by go_num, by rw [hy], rfl⟩
      case measure => simp [intOf]; omega
    · have hlt : k < d.length := by assumption
      go_ret2
      exact ⟨ret_pair (pinv_bad hlt (by omega) false), rfl⟩
    · have hlt : ¬ k < d.length := by assumption
      obtain ⟨e1, e2, e3⟩ := pinv_end hlt hi
      have := e3 (by assumption)
      go_ret2
      exact ⟨ret_pair (by unfold digV; rw [if_pos e1, if_neg (by decide), if_neg (by omega)]), rfl⟩
    · have hlt : ¬ k < d.length := by assumption
      obtain ⟨e1, e2, e3⟩ := pinv_end hlt hi
      have ho : ¬ o = true := by assumption
      have := e2 (by simpa using ho)
      go_ret2
      exact ⟨ret_pair (by unfold digV; rw [if_pos e1, if_neg (by decide), if_neg (by omega)]), rfl⟩
    · have hlt : ¬ k < d.length := by assumption
      obtain ⟨e1, e2, e3⟩ := pinv_end hlt hi
      have ho : ¬ o = true := by assumption
      have := e2 (by simpa using ho)
      go_ret2
      exact ⟨ret_pair (by unfold digV; rw [if_pos e1, if_neg (by decide), if_pos (by omega)]; congr 1; omega), rfl⟩

set_option maxHeartbeats 1000000 in
theorem nparse_zero (w : World) :
    Calls Tryd.prog 35 #[.string (B [48])] w fun e w' => e = .returned (.tuple #[.int .i64 0, .int .i64 0]) ∧ w = w' := by
  have hb : bt [48] 0 = 48 := by simp [bt]
  go_enter Tryd.func35, Tryd.ntmps35
  go_wp2
  refine wp_loop_rounds 2 ?_
  repeat (rw [rounds_succ]; go_wp2)
  go_ret2
  exact ⟨rfl, rfl⟩

set_option maxHeartbeats 1000000 in
theorem nparse_nil (w : World) :
    Calls Tryd.prog 35 #[.string (B [])] w fun e w' => e = .returned (.tuple #[.int .i64 0, .int .i64 2]) ∧ w = w' := by
  go_enter Tryd.func35, Tryd.ntmps35
  go_wp2
  go_ret2
  exact ⟨rfl, rfl⟩

set_option maxHeartbeats 1000000 in
theorem nparse_bad_neg (d : List UInt8) (w : World) (hl : d.length < 1000000) (h : d = [] ∨ bt d 0 = 48) :
    Calls Tryd.prog 35 #[.string (B (45 :: d))] w fun e w' => e = .returned (.tuple #[.int .i64 0, .int .i64 2]) ∧ w = w' := by
  have hb : bt (45 :: d) 0 = 45 := by simp [bt]
  by_cases hne : d = []
  · subst hne
    go_enter Tryd.func35, Tryd.ntmps35
    go_wp2
    go_ret2
    exact ⟨rfl, rfl⟩
  · have h48 : bt d 0 = 48 := h.resolve_left hne
    have hne' : d.isEmpty = false := by simp [hne]
    have hpos : 0 < d.length := List.length_pos_iff.2 hne
    clear h
    go_enter Tryd.func35, Tryd.ntmps35
    go_wp2
    go_ret2
    exact ⟨rfl, rfl⟩

set_option maxHeartbeats 1000000 in
theorem nparse_bad_pos (d : List UInt8) (w : World) (hl : d.length < 1000000) (h1 : 1 < d.length) (h48 : bt d 0 = 48) :
    Calls Tryd.prog 35 #[.string (B d)] w fun e w' => e = .returned (.tuple #[.int .i64 0, .int .i64 2]) ∧ w = w' := by
  have hne' : d.isEmpty = false := by cases d; simp at h1; rfl
  go_enter Tryd.func35, Tryd.ntmps35
  go_wp2
  go_ret2
  exact ⟨rfl, rfl⟩

/-- num.Parse, whatever the text. -/
theorem nparse_any (l : List UInt8) (w : World) (hl : l.length < 1000000) :
    Calls Tryd.prog 35 #[.string (B l)] w fun e w' => e = .returned (.tuple #[.int .i64 (pv l).1, .int .i64 (pv l).2]) ∧ w = w' := by
  match l with
  | [] => exact nparse_nil w
  | c :: d =>
    have hlen : d.length < 1000000 := by simp at hl; omega
    by_cases hc : c = 45
    · subst hc
      by_cases hd : d = [] ∨ d.head? = some 48
      · have e : pv (45 :: d) = (0, 2) := by simp only [pv, if_true, if_pos hd]
        rw [e]
        refine nparse_bad_neg d w hlen ?_
        rcases hd with hd | hd
        · exact Or.inl hd
        · right
          cases d with
          | nil => simp at hd
          | cons x y => simp at hd; subst hd; simp [bt]
      · have e : pv (45 :: d) = digV true d := by simp only [pv, if_true, if_neg hd]
        rw [e]
        have hne : ¬ d = [] := fun h => hd (Or.inl h)
        refine nparse_neg d w hlen hne ?_
        cases d with
        | nil => exact absurd rfl hne
        | cons x y =>
          simp only [bt_zero]
          simp at hd ⊢
          intro h
          exact hd (UInt8.toNat_inj.1 (by simpa using (by omega : x.toNat = 48)))
    · have h45 : (bt (c :: d) 0 == 45) = false := by
        simp only [bt_zero]; simp
        intro h
        exact hc (UInt8.toNat_inj.1 (by simpa using (by omega : c.toNat = 45)))
      by_cases h48 : c = 48
      · subst h48
        by_cases hd : d = []
        · subst hd
          have e : pv [48] = (0, 0) := by decide
          rw [e]; exact nparse_zero w
        · have e : pv (48 :: d) = (0, 2) := by simp [pv, hd]
          rw [e]
          refine nparse_bad_pos _ w hl ?_ (by simp [bt])
          have := List.length_pos_iff.2 hd
          simp; omega
      · have e : pv (c :: d) = digV false (c :: d) := by simp [pv, hc, h48]
        rw [e]
        refine nparse_pos _ w hl (by simp) h45 ?_
        simp only [bt_zero]; simp
        intro h
        exact h48 (UInt8.toNat_inj.1 (by simpa using (by omega : c.toNat = 48)))
end Go.Proofs.YtogalfbemmcaaaaDoor
