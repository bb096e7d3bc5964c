/- strings.IndexRune at a rune that is no ASCII, in two ASCII bytes (the first part of XHigh, for seats without strings.IndexAny). -/
import Derived.Test.YtoagnjnkgecmkaaDoorBase
import Derived.Test.YtoagnjnkgecmkaaDoorShelf
import Derived.Shelf.Strings.IndexAnyAll
import Derived.Shelf.Small.Utf8
import Derived.Laws.Runes
import Derived.WalkMore
import Derived.Laws.RangeAny
import Derived.Lib.OthersKept
namespace Go.Proofs.YtoagnjnkgecmkaaDoor
open Go.RowKit Go.Lib

/-- A rune's bytes behind a high one are high. -/
theorem decode_cont (s : ByteArray) (pos : Nat) (h : pos < s.size) (ha : 128 ≤ (s.get! (pos + 0)).toNat) :
    pos + (Utf8.decode s pos).2 ≤ s.size ∧ ∀ j, j < (Utf8.decode s pos).2 → 128 ≤ (s.get! (pos + j)).toNat := by
  have hn : ¬ (s.get! (pos + 0)).toNat < 128 := by omega
  have one : pos + 1 ≤ s.size ∧ ∀ j, j < 1 → 128 ≤ (s.get! (pos + j)).toNat := ⟨by omega, fun j hj => by
    obtain rfl : j = 0 := by omega
    exact ha⟩
  simp only [Utf8.decode, hn, if_false]
  split
  · rename_i hc
    simp only [Bool.and_eq_true, beq_iff_eq, decide_eq_true_eq] at hc
    split
    · refine ⟨by show pos + 2 ≤ _; omega, fun j hj => ?_⟩
      have hj' : j < 2 := hj
      match j, hj' with
      | 0, _ => exact ha
      | 1, _ => omega
    · exact one
  · split
    · rename_i hc
      simp only [Bool.and_eq_true, beq_iff_eq, decide_eq_true_eq] at hc
      split
      · refine ⟨by show pos + 3 ≤ _; omega, fun j hj => ?_⟩
        have hj' : j < 3 := hj
        match j, hj' with
        | 0, _ => exact ha
        | 1, _ => omega
        | 2, _ => omega
      · exact one
    · split
      · rename_i hc
        simp only [Bool.and_eq_true, beq_iff_eq, decide_eq_true_eq] at hc
        split
        · refine ⟨by show pos + 4 ≤ _; omega, fun j hj => ?_⟩
          have hj' : j < 4 := hj
          match j, hj' with
          | 0, _ => exact ha
          | 1, _ => omega
          | 2, _ => omega
          | 3, _ => omega
        · exact one
      · exact one

theorem two_size (a b : UInt8) : (B [a, b]).size = 2 := by rw [B_size]; rfl
theorem two_get0 (a b : UInt8) (h : 0 < (B [a, b]).size) : (B [a, b])[0]'h = a := rfl
theorem two_get1 (a b : UInt8) (h : 1 < (B [a, b]).size) : (B [a, b])[1]'h = b := rfl

set_option maxHeartbeats 2000000 in
set_option maxRecDepth 1000000 in
/-- A rune that is no ASCII is not in two ASCII bytes. -/
theorem ixrune_err (a b : UInt8) (ha : a.toNat < 128) (hb : b.toNat < 128) (w : World) :
    Calls Tryd.prog 44 #[.string (B [a, b]), .int .i32 65533] w fun e w' => e = .returned (.int .i64 (-1)) ∧ Below w.heap.size w w' := by
  have n0 := run_next_ascii (P := Tryd.prog) w (B [a, b]) 0
  have n1 := run_next_ascii (P := Tryd.prog) w (B [a, b]) 1
  have n2 := run_next_end (P := Tryd.prog) w (B [a, b]) 2
  have q0 := fun ty => n0 ty (by rw [two_size]; omega) (by rw [two_get0]; exact ha)
  have q1 := fun ty => n1 ty (by rw [two_size]; omega) (by rw [two_get1]; exact hb)
  have q2 := fun ty => n2 ty (by rw [two_size]; omega)
  simp only [two_get0, two_get1] at q0 q1
  clear n0 n1 n2
  go_enter Tryd.func44, Tryd.ntmps44
  go_wp2
  refine wp_loop_rounds 3 ?_
  repeat (rw [rounds_succ]; go_wp2)
  go_ret
  exact ⟨rfl, (Below.refl _ _).alloc (Nat.le_refl _) _⟩

set_option maxHeartbeats 2000000 in
set_option maxRecDepth 1000000 in
theorem ixrune_bad (s : ByteArray) (r : Int) (h0 : 128 ≤ r) (h1 : r ≤ 2147483647) (hne : (r == 65533) = false) (hv : Lib.validRune r = false) (w : World) :
    Calls Tryd.prog 44 #[.string s, .int .i32 r] w fun e w' => e = .returned (.int .i64 (-1)) ∧ Below w.heap.size w w' := by
  go_enter Tryd.func44, Tryd.ntmps44
  go_wp2_with (go_at_call 57; refine (Tryd.utf8_ValidRune _ _).mono ?_; rintro e w' ⟨rfl, hw⟩; rw [hw, hv])
  go_ret
  exact ⟨rfl, Below.refl _ _⟩

set_option maxHeartbeats 4000000 in
set_option maxRecDepth 1000000 in
theorem ixrune_valid (a b : UInt8) (hb : b.toNat < 128) (r : Int) (h0 : 128 ≤ r) (h1 : r ≤ 2147483647) (hne : (r == 65533) = false) (hv : Lib.validRune r = true) (hv2 : Utf8.valid r = true) (w : World) :
    Calls Tryd.prog 44 #[.string (B [a, b]), .int .i32 r] w fun e w' => e = .returned (.int .i64 (-1)) ∧ Below w.heap.size w w' := by
  obtain ⟨e2, e4, el⟩ := encode_facts r hv2 h0
  have hsz := two_size a b
  have hcv := run_convert_int_string (P := Tryd.prog) w 21 9 .i32 r (by rw [Tryd.underlying21]; rfl) Tryd.underlying9
  generalize Utf8.encode r = E at e2 e4 el hcv
  by_cases h2 : E.size = 2
  · have el1 : ∀ h : 1 < E.size, 128 ≤ (E[1]'h).toNat := fun h => by
      have := el (by omega)
      simpa [h2] using this
    obtain ⟨x, hx, hx1⟩ : ∃ x : UInt8, (∀ h : 1 < E.size, E[1]'h = x) ∧ 128 ≤ x.toNat := ⟨E[1]'(by omega), fun h => rfl, el1 _⟩
    have hneb : (((b.toNat : Int)) == (x.toNat : Int)) = false := beq_eq_false_iff_ne.2 (by omega)
    have hnec : (((b.toNat : Int)) != (x.toNat : Int)) = true := by rw [bne, hneb]; rfl
    clear el1
    have hgb : ∀ h : 1 < (B [a, b]).size, (B [a, b])[1]'h = b := fun h => rfl
    have hex : (B [a, b]).extract 2 2 = B [] := by rw [B_extract]; rfl
    have hix : ∀ x : Int, Lib.indexByte (B []).data.toList x.toNat.toUInt8 = -1 := fun x => rfl
    have hw2 : IntKind.i64.wrap 2 = 2 := by decide
    clear el
    go_enter Tryd.func44, Tryd.ntmps44
    go_wp2_with (go_at_call 57; refine (Tryd.utf8_ValidRune _ _).mono ?_; rintro e w' ⟨rfl, hw⟩; rw [hw, hv])
    go_step3
    go_wp2
    refine wp_loop_rounds 1 ?_
    rw [rounds_succ]
    go_wp2
    go_step3
    go_wp2
    go_quiet (fail)
    go_wp2
    go_quiet ((go_at_call 56; exact (Tryd.strings_IndexByte _ _ _).mono (fun _ _ ⟨he, hm⟩ => ⟨he, _, hm⟩)))
    go_wp2
    rw [Exit.noGoto_ret]
    go_wp2
    rw [Exit.noGoto_ret]
    go_ret
    exact ⟨rfl, (by (repeat (first | (with_reducible exact Below.refl _ _) | (with_reducible assumption) | (with_reducible refine Below.drew ?_) | (with_reducible refine below_draws ?_ _) | ((with_reducible refine Below.setCell ?_ ?_ _); rotate_left; (first | (with_reducible exact Nat.le_refl _) | (focus (simp; done)) | (focus (simp; omega)) | omega)) | ((with_reducible refine Below.alloc ?_ ?_ _); rotate_left; (first | (with_reducible exact Nat.le_refl _) | (focus (simp; done)) | (focus (simp; omega)) | omega)))))⟩
  · have h3 : 2 < E.size := by omega
    clear el
    go_enter Tryd.func44, Tryd.ntmps44
    go_wp2_with (go_at_call 57; refine (Tryd.utf8_ValidRune _ _).mono ?_; rintro e w' ⟨rfl, hw⟩; rw [hw, hv])
    go_step3
    go_wp2
    refine wp_loop_rounds 1 ?_
    rw [rounds_succ]
    go_wp2
    rw [Exit.noGoto_ret]
    go_ret
    exact ⟨rfl, Below.refl _ _⟩
theorem ixrune_high (a b : UInt8) (ha : a.toNat < 128) (hb : b.toNat < 128) (r : Int) (h0 : 128 ≤ r) (h1 : r ≤ 2147483647) (w : World) :
    Calls Tryd.prog 44 #[.string (B [a, b]), .int .i32 r] w fun e w' => e = .returned (.int .i64 (-1)) ∧ Below w.heap.size w w' := by
  by_cases he : r = 65533
  · subst he; exact ixrune_err a b ha hb w
  · have hne : (r == 65533) = false := beq_eq_false_iff_ne.2 he
    by_cases hv : Lib.validRune r = true
    · refine ixrune_valid a b hb r h0 h1 hne hv ?_ w
      unfold Lib.validRune at hv
      unfold Utf8.valid
      revert hv
      simp
      omega
    · exact ixrune_bad _ r h0 h1 hne (by simpa using hv) w

theorem data_B (l : List UInt8) : (B l).data.toList = l := by simp [B]
theorem get_B (l : List UInt8) (i : Nat) (h : i < l.length) : ((B l).get! i) = l[i] := by
  unfold B ByteArray.get!
  simp [h]

end Go.Proofs.YtoagnjnkgecmkaaDoor
