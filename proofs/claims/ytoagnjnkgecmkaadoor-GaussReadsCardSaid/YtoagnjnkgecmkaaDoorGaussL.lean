/- Walks of the gauss seat, part L: numbers as texts. -/
import Derived.Test.YtoagnjnkgecmkaaDoorGaussK
namespace Go.Proofs.YtoagnjnkgecmkaaDoor
open Go.RowKit
attribute [local go_sem] B_mk B_size B_toList B_extract B_append B_get

theorem slice20 (b q : Nat) (hq : q < 20) (W : World) : (Instr.sliceAt 60 (.pointer (some ⟨b, 0, none⟩)) (some (.int .i64 (q : Int))) none none).run Tryd.prog W = .ok (.slice (some ⟨b, q, none⟩) (20 - q) (20 - q)) W := by
  have hu : Tryd.prog.underlying 60 = some (.array (Tryd.prog.arrayLen 60) (Tryd.prog.elem 60)) := by
    simp [Program.arrayLen, Program.elem, Tryd.underlying60]
  have hl : Tryd.prog.arrayLen 60 = 20 := by simp [Program.arrayLen, Tryd.underlying60]
  rw [run_sliceAt_array_l W _ _ hu _ _ (by omega) (by rw [hl]; omega)]
  have he : (sizeOf (Tryd.prog.elem 60)).run Tryd.prog W = .ok 1 W := by
    simp [go_sem, Program.elem]
  rw [he]
  have hq2 : ¬ 20 = q := by omega
  simp [Result.andThen, slicedAt, hl, Addr.add, hq2]
  intro h; subst h; rfl

/-- A digit's byte. -/
def dg (m : Nat) : UInt8 := UInt8.ofNat (48 + m)
/-- The digits of a number, ahead of a text. -/
def dgo : Nat → Nat → List UInt8 → List UInt8
  | 0, _, t => t
  | k + 1, m, t => if m < 10 then dg m :: t else dgo k (m / 10) (dg (m % 10) :: t)
def dec (m : Nat) : List UInt8 := dgo 20 m []
/-- A number's text. -/
def txt (n : Int) : List UInt8 := if n < 0 then 45 :: dec n.natAbs else dec n.natAbs

/-- The array of twenty bytes holds the digits that were made so far, at its end. -/
def TC (b : Nat) (t : List UInt8) (wr : World) : Prop :=
  (∀ i, i < 20 → wr.cell? ⟨b, i, none⟩ = some (was wr b i) ∧ wr.frozen? ⟨b, i, none⟩ = false) ∧ ∀ j, j < t.length → wr.cell? ⟨b, 20 - t.length + j, none⟩ = some (.int .u8 (bt t j))

theorem TC_set {b q : Nat} {t : List UInt8} {wr : World} (h : TC b t wr) (hq : q + 1 + t.length = 20) (c : UInt8) (v : Int) (hv : v = c.toNat) : TC b (c :: t) (wr.setCell ⟨b, q, none⟩ (.int .u8 v)) := by
  subst hv
  refine ⟨fun i hi => ⟨was_store _ _ (h.1 i hi).1, ?_⟩, fun j hj => ?_⟩
  · rw [World.frozen?_setCell]; exact (h.1 i hi).2
  · simp only [List.length_cons] at hj ⊢
    cases j with
    | zero =>
      rw [show 20 - (t.length + 1) + 0 = q by omega, bt_zero]
      exact World.cell?_setCell_same _ _ _ (h.1 q (by omega)).1
    | succ j =>
      rw [show 20 - (t.length + 1) + (j + 1) = 20 - t.length + j by omega, bt_succ, World.cell?_setCell_other _ _ _ _ (by simp only [ne_eq, Addr.mk.injEq, not_and]; omega)]
      exact h.2 j (by omega)
theorem TC_bytes {b q : Nat} {t : List UInt8} {W : World} (h : TC b t W) (hl : t.length = 20 - q) (hq : q ≤ 20) : (convert 61 9 (.slice (some ⟨b, q, none⟩) (20 - q) (20 - q))).run Tryd.prog W = .ok (.string (B t)) W := by
  rw [← hl]
  refine run_bytes_B W _ _ 5 b q _ t Tryd.underlying61 Tryd.underlying5 Tryd.underlying9 fun j hj => ?_
  rw [show q + j = 20 - t.length + j by omega]
  exact h.2 j hj
theorem TC_start (w : World) (bl : Array Value) (ty : TypeId) (hs : bl.size = 20) : TC w.heap.size [] (w.alloc (.cells bl ty)) := by
  refine ⟨fun i hi => ?_, fun j hj => by simp at hj⟩
  have hc : (w.alloc (.cells bl ty)).cell? ⟨w.heap.size, i, none⟩ = some (bl[i]'(by omega)) := by
    rw [World.cell?_alloc_new]; simp [hs, hi]
  refine ⟨was_of hc, ?_⟩
  exact World.frozen?_alloc_new _ _ _ _

/-- In the midst of the digits: so many are left to be made. -/
structure TI (m0 q m : Nat) (t : List UInt8) : Prop where
  len : q + 1 + t.length = 20
  go : dgo (q + 1) m t = dec m0
  le : m * 10 ^ t.length ≤ m0
  pos : t = [] ∨ 1 ≤ m
theorem TI.room {m0 q m : Nat} {t : List UInt8} (h : TI m0 q m t) (hm : m0 ≤ 9223372036854775808) : 1 ≤ q ∧ m ≤ m0 := by
  obtain ⟨hl, _, hle, hp⟩ := h
  have hpw : 1 ≤ 10 ^ t.length := Nat.one_le_pow _ _ (by decide)
  have h1 : m ≤ m * 10 ^ t.length := Nat.le_mul_of_pos_right _ hpw
  refine ⟨?_, Nat.le_trans h1 hle⟩
  rcases hp with rfl | hp
  · simp at hl; omega
  · have h2 : 1 * 10 ^ t.length ≤ m * 10 ^ t.length := Nat.mul_le_mul_right _ hp
    by_cases hq : 1 ≤ q
    · exact hq
    · exfalso
      have : t.length = 19 := by omega
      rw [this] at h2 hle
      have h3 := Nat.le_trans h2 hle
      omega
theorem TI.next {m0 q m : Nat} {t : List UInt8} (h : TI m0 q m t) (hm : m0 ≤ 9223372036854775808) (h10 : ¬ m < 10) : ∃ q', q = q' + 1 ∧ TI m0 q' (m / 10) (dg (m % 10) :: t) := by
  have hr := h.room hm
  obtain ⟨hl, hg, hle, hp⟩ := h
  refine ⟨q - 1, by omega, by simp; omega, ?_, ?_, Or.inr (by omega)⟩
  · rw [show q - 1 + 1 = q by omega, ← hg, dgo, if_neg h10]
  · rw [List.length_cons, Nat.pow_succ]
    have : m / 10 * (10 ^ t.length * 10) = (m / 10 * 10) * 10 ^ t.length := by
      rw [Nat.mul_comm (10 ^ t.length) 10, Nat.mul_assoc]
    rw [this]
    exact Nat.le_trans (Nat.mul_le_mul_right _ (by omega)) hle
theorem TI.last {m0 q m : Nat} {t : List UInt8} (h : TI m0 q m t) (h10 : m < 10) : dg (m % 10) :: t = dec m0 := by
  have := h.go
  rw [dgo, if_pos h10] at this
  rw [← this, show m % 10 = m by omega]
theorem TI.start (m0 : Nat) : TI m0 19 m0 [] := ⟨by simp, rfl, by simp, Or.inl rfl⟩
theorem dig_toNat (m : Nat) : (48 : Int) + (m : Int) % 10 = ((dg (m % 10)).toNat : Int) := by
  simp [dg]; omega

set_option maxHeartbeats 1000000 in
theorem text_pos (m0 : Nat) (hm : m0 ≤ 9223372036854775808) (hp : 0 < (m0 : Int)) (w : World) :
    Calls Tryd.prog 33 #[.int .i64 m0] w fun e w' => e = .returned (.string (B (dec m0))) ∧ Below w.heap.size w w' := by
  have hp2 : 0 < m0 := by omega
  go_enter Tryd.func33, Tryd.ntmps33
  go_wp2
  go_loopw [4, 5] (fun a l wr => ∃ (q m : Nat) (t : List UInt8), TI m0 q m t ∧ a = .int .i64 (↑q + 1) ∧ l = .int .i64 (-(m : Int)) ∧ TC w.heap.size t wr ∧ Below w.heap.size w wr) (fun a _ _ => (intOf a).toNat)
  case atStart => exact ⟨19, m0, [], TI.start m0, rfl, rfl, TC_start _ _ _ rfl, (by (repeat (first | (with_reducible exact Below.refl _ _) | (with_reducible assumption) | (with_reducible refine Below.drew ?_) | (with_reducible refine below_draws ?_ _) | ((with_reducible refine Below.setCell ?_ ?_ _); rotate_left; (first | (with_reducible exact Nat.le_refl _) | (focus (simp; done)) | (focus (simp; omega)) | omega)) | ((with_reducible refine Below.alloc ?_ ?_ _); rotate_left; (first | (with_reducible exact Nat.le_refl _) | (focus (simp; done)) | (focus (simp; omega)) | omega)))))⟩
  case round =>
    obtain ⟨q, m, t, ht, rfl, rfl, hc, hB⟩ := hrel
    obtain ⟨hc1, hc2⟩ := hc.1 q (by have := ht.len; omega)
    have hq2 : q < 20 := by have := ht.len; omega
    obtain ⟨hr1, hr2⟩ := ht.room hm
    have hc' := TC_set hc ht.len (dg (m % 10)) _ (dig_toNat m)
    have hB' := hB.setCell (p := ⟨w.heap.size, q, none⟩) (Nat.le_refl _) (.int .u8 (48 + (m : Int) % 10))
    have hsl := slice20 w.heap.size q hq2
    by_cases h10 : m < 10
    · have hcv := TC_bytes (q := q) hc' (by simp; have := ht.len; omega) (by omega)
      have hlast := ht.last h10
      have HT := Lib.hid ht
      have HC := Lib.hid hc'
      clear ht hc hc'
      go_wp2
      go_ret
      exact ⟨by rw [← hlast]; rfl, hB'⟩
    · obtain ⟨q', rfl, ht'⟩ := ht.next hm h10
      have hz : (-((m : Int) / 10) == 0) = false := by simp; omega
      clear ht hc
      go_wp2
      go_roundw
      case rel => exact ⟨q', m / 10, _, ht', by go_num, by go_num, hc', hB'⟩
      case measure => simp [intOf]; omega

set_option maxHeartbeats 1000000 in
theorem text_neg (m0 : Nat) (hm : m0 ≤ 9223372036854775808) (hp : 0 < (m0 : Int)) (w : World) :
    Calls Tryd.prog 33 #[.int .i64 (-(m0 : Int))] w fun e w' => e = .returned (.string (B (45 :: dec m0))) ∧ Below w.heap.size w w' := by
  have hn0 : ¬ 0 < -(m0 : Int) := by omega
  have hn1 : -(m0 : Int) < 0 := by omega
  go_enter Tryd.func33, Tryd.ntmps33
  go_wp2
  go_loopw [4, 5] (fun a l wr => ∃ (q m : Nat) (t : List UInt8), TI m0 q m t ∧ a = .int .i64 (↑q + 1) ∧ l = .int .i64 (-(m : Int)) ∧ TC w.heap.size t wr ∧ Below w.heap.size w wr) (fun a _ _ => (intOf a).toNat)
  case atStart => exact ⟨19, m0, [], TI.start m0, rfl, rfl, TC_start _ _ _ rfl, (by (repeat (first | (with_reducible exact Below.refl _ _) | (with_reducible assumption) | (with_reducible refine Below.drew ?_) | (with_reducible refine below_draws ?_ _) | ((with_reducible refine Below.setCell ?_ ?_ _); rotate_left; (first | (with_reducible exact Nat.le_refl _) | (focus (simp; done)) | (focus (simp; omega)) | omega)) | ((with_reducible refine Below.alloc ?_ ?_ _); rotate_left; (first | (with_reducible exact Nat.le_refl _) | (focus (simp; done)) | (focus (simp; omega)) | omega)))))⟩
  case round =>
    obtain ⟨q, m, t, ht, rfl, rfl, hc, hB⟩ := hrel
    obtain ⟨hc1, hc2⟩ := hc.1 q (by have := ht.len; omega)
    have hq2 : q < 20 := by have := ht.len; omega
    obtain ⟨hr1, hr2⟩ := ht.room hm
    have hc' := TC_set hc ht.len (dg (m % 10)) _ (dig_toNat m)
    have hB' := hB.setCell (p := ⟨w.heap.size, q, none⟩) (Nat.le_refl _) (.int .u8 (48 + (m : Int) % 10))
    by_cases h10 : m < 10
    · obtain ⟨p, rfl⟩ : ∃ p, q = p + 1 := ⟨q - 1, by omega⟩
      have hp2 : p < 20 := by omega
      have hsl := slice20 w.heap.size p hp2
      obtain ⟨hc3, hc4⟩ := hc'.1 p (by omega)
      have hc'' := TC_set (q := p) hc' (by have := ht.len; simp; omega) 45 45 rfl
      have hB'' := hB'.setCell (p := ⟨w.heap.size, p, none⟩) (Nat.le_refl _) (.int .u8 45)
      have hcv := TC_bytes (q := p) hc'' (by simp; have := ht.len; omega) (by omega)
      have hlast := ht.last h10
      clear ht hc hc' hc''
      go_wp2
      go_ret
      exact ⟨by rw [← hlast]; rfl, hB''⟩
    · obtain ⟨q', rfl, ht'⟩ := ht.next hm h10
      have hz : (-((m : Int) / 10) == 0) = false := by simp; omega
      clear ht hc
      go_wp2
      go_roundw
      case rel => exact ⟨q', m / 10, _, ht', by go_num, by go_num, hc', hB'⟩
      case measure => simp [intOf]; omega

set_option maxHeartbeats 1000000 in
theorem text_zero (w : World) :
    Calls Tryd.prog 33 #[.int .i64 0] w fun e w' => e = .returned (.string (B [48])) ∧ Below w.heap.size w w' := by
  have hsl := slice20 w.heap.size 19 (by omega)
  have hcv := run_bytes_B (P := Tryd.prog) (w.alloc (.cells #[.int .u8 0, .int .u8 0, .int .u8 0, .int .u8 0, .int .u8 0, .int .u8 0, .int .u8 0, .int .u8 0, .int .u8 0, .int .u8 0, .int .u8 0, .int .u8 0, .int .u8 0, .int .u8 0, .int .u8 0, .int .u8 0, .int .u8 0, .int .u8 0, .int .u8 0, .int .u8 48] 60)) _ _ 5 w.heap.size 19 1 [48] Tryd.underlying61 Tryd.underlying5 Tryd.underlying9 (by
    intro j hj
    have : j = 0 := by simp at hj; omega
    subst this
    rw [World.cell?_alloc_new]; rfl)
  rw [show ([48] : List UInt8).length = 1 from rfl] at hcv
  go_enter Tryd.func33, Tryd.ntmps33
  go_wp2
  refine wp_loop_rounds 2 ?_
  repeat (rw [rounds_succ]; go_wp2)
  go_ret
  exact ⟨rfl, (by (repeat (first | (with_reducible exact Below.refl _ _) | (with_reducible assumption) | (with_reducible refine Below.drew ?_) | (with_reducible refine below_draws ?_ _) | ((with_reducible refine Below.setCell ?_ ?_ _); rotate_left; (first | (with_reducible exact Nat.le_refl _) | (focus (simp; done)) | (focus (simp; omega)) | omega)) | ((with_reducible refine Below.alloc ?_ ?_ _); rotate_left; (first | (with_reducible exact Nat.le_refl _) | (focus (simp; done)) | (focus (simp; omega)) | omega)))))⟩

/-- num.Text, whatever the number. -/
theorem text_any (n : Int) (h0 : -9223372036854775808 ≤ n) (h1 : n ≤ 9223372036854775807) (w : World) :
    Calls Tryd.prog 33 #[.int .i64 n] w fun e w' => e = .returned (.string (B (txt n))) ∧ Below w.heap.size w w' := by
  by_cases hp : 0 < n
  · have := text_pos n.natAbs (by omega) (by omega) w
    rw [show ((n.natAbs : Nat) : Int) = n by omega] at this
    unfold txt; rw [if_neg (by omega)]; exact this
  · by_cases hn : n < 0
    · have := text_neg n.natAbs (by omega) (by omega) w
      rw [show -((n.natAbs : Nat) : Int) = n by omega] at this
      unfold txt; rw [if_pos hn]; exact this
    · obtain rfl : n = 0 := by omega
      exact text_zero w
end Go.Proofs.YtoagnjnkgecmkaaDoor
