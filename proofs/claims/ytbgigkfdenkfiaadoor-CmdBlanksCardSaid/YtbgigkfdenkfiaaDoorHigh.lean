/- strings.IndexRune at a rune that is no ASCII, in two ASCII bytes; strings.IndexAny with two ASCII bytes in whatever text. -/
import Derived.Test.YtbgigkfdenkfiaaDoorBase
import Derived.Test.YtbgigkfdenkfiaaDoorShelf
import Derived.Shelf.Strings.IndexAnyAll
import Derived.Shelf.Small.Utf8
import Derived.Laws.Runes
import Derived.WalkMore
import Derived.Laws.RangeAny
import Derived.Lib.OthersKept
namespace Go.Proofs.YtbgigkfdenkfiaaDoor
open Go.RowKit Go.Lib

/-- A rune's bytes behind a high one are high. -/
theorem decode_cont (s : ByteArray) (pos : Nat) (h : pos < s.size) (ha : 128 ≤ (s.get! (pos + 0)).toNat) :
    pos + (Utf8.decode s pos).2 ≤ s.size ∧ ∀ j, j < (Utf8.decode s pos).2 → 128 ≤ (s.get! (pos + j)).toNat := by
  have hn : ¬ (s.get! (pos + 0)).toNat < 128 := by omega
  have one : pos + 1 ≤ s.size ∧ ∀ j, j < 1 → 128 ≤ (s.get! (pos + j)).toNat := ⟨by omega, fun j hj => by
    obtain rfl : j = 0 := by omega
    exact ha⟩
  simp only [Utf8.decode, hn, if_false]
  split
  · rename_i hc
    simp only [Bool.and_eq_true, beq_iff_eq, decide_eq_true_eq] at hc
    split
    · refine ⟨by show pos + 2 ≤ _; omega, fun j hj => ?_⟩
      have hj' : j < 2 := hj
      match j, hj' with
      | 0, _ => exact ha
      | 1, _ => omega
    · exact one
  · split
    · rename_i hc
      simp only [Bool.and_eq_true, beq_iff_eq, decide_eq_true_eq] at hc
      split
      · refine ⟨by show pos + 3 ≤ _; omega, fun j hj => ?_⟩
        have hj' : j < 3 := hj
        match j, hj' with
        | 0, _ => exact ha
        | 1, _ => omega
        | 2, _ => omega
      · exact one
    · split
      · rename_i hc
        simp only [Bool.and_eq_true, beq_iff_eq, decide_eq_true_eq] at hc
        split
        · refine ⟨by show pos + 4 ≤ _; omega, fun j hj => ?_⟩
          have hj' : j < 4 := hj
          match j, hj' with
          | 0, _ => exact ha
          | 1, _ => omega
          | 2, _ => omega
          | 3, _ => omega
        · exact one
      · exact one

theorem two_size (a b : UInt8) : (B [a, b]).size = 2 := by rw [B_size]; rfl
theorem two_get0 (a b : UInt8) (h : 0 < (B [a, b]).size) : (B [a, b])[0]'h = a := rfl
theorem two_get1 (a b : UInt8) (h : 1 < (B [a, b]).size) : (B [a, b])[1]'h = b := rfl

set_option maxHeartbeats 2000000 in
set_option maxRecDepth 1000000 in
/-- A rune that is no ASCII is not in two ASCII bytes. -/
theorem ixrune_err (a b : UInt8) (ha : a.toNat < 128) (hb : b.toNat < 128) (w : World) :
    Calls Tryd.prog 42 #[.string (B [a, b]), .int .i32 65533] w fun e w' => e = .returned (.int .i64 (-1)) ∧ Below w.heap.size w w' := by
  have n0 := run_next_ascii (P := Tryd.prog) w (B [a, b]) 0
  have n1 := run_next_ascii (P := Tryd.prog) w (B [a, b]) 1
  have n2 := run_next_end (P := Tryd.prog) w (B [a, b]) 2
  have q0 := fun ty => n0 ty (by rw [two_size]; omega) (by rw [two_get0]; exact ha)
  have q1 := fun ty => n1 ty (by rw [two_size]; omega) (by rw [two_get1]; exact hb)
  have q2 := fun ty => n2 ty (by rw [two_size]; omega)
  simp only [two_get0, two_get1] at q0 q1
  clear n0 n1 n2
  go_enter Tryd.func42, Tryd.ntmps42
  go_wp2
  refine wp_loop_rounds 3 ?_
  repeat (rw [rounds_succ]; go_wp2)
  go_ret
  exact ⟨rfl, (Below.refl _ _).alloc (Nat.le_refl _) _⟩

set_option maxHeartbeats 2000000 in
set_option maxRecDepth 1000000 in
theorem ixrune_bad (s : ByteArray) (r : Int) (h0 : 128 ≤ r) (h1 : r ≤ 2147483647) (hne : (r == 65533) = false) (hv : Lib.validRune r = false) (w : World) :
    Calls Tryd.prog 42 #[.string s, .int .i32 r] w fun e w' => e = .returned (.int .i64 (-1)) ∧ Below w.heap.size w w' := by
  go_enter Tryd.func42, Tryd.ntmps42
  go_wp2_with (go_at_call 57; refine (Tryd.utf8_ValidRune _ _).mono ?_; rintro e w' ⟨rfl, hw⟩; rw [hw, hv])
  go_ret
  exact ⟨rfl, Below.refl _ _⟩

set_option maxHeartbeats 4000000 in
set_option maxRecDepth 1000000 in
theorem ixrune_valid (a b : UInt8) (hb : b.toNat < 128) (r : Int) (h0 : 128 ≤ r) (h1 : r ≤ 2147483647) (hne : (r == 65533) = false) (hv : Lib.validRune r = true) (hv2 : Utf8.valid r = true) (w : World) :
    Calls Tryd.prog 42 #[.string (B [a, b]), .int .i32 r] w fun e w' => e = .returned (.int .i64 (-1)) ∧ Below w.heap.size w w' := by
  obtain ⟨e2, e4, el⟩ := encode_facts r hv2 h0
  have hsz := two_size a b
  have hcv := run_convert_int_string (P := Tryd.prog) w 21 9 .i32 r (by rw [Tryd.underlying21]; rfl) Tryd.underlying9
  generalize Utf8.encode r = E at e2 e4 el hcv
  by_cases h2 : E.size = 2
  · have el1 : ∀ h : 1 < E.size, 128 ≤ (E[1]'h).toNat := fun h => by
      have := el (by omega)
      simpa [h2] using this
    obtain ⟨x, hx, hx1⟩ : ∃ x : UInt8, (∀ h : 1 < E.size, E[1]'h = x) ∧ 128 ≤ x.toNat := ⟨E[1]'(by omega), fun h => rfl, el1 _⟩
    have hneb : (((b.toNat : Int)) == (x.toNat : Int)) = false := beq_eq_false_iff_ne.2 (by omega)
    have hnec : (((b.toNat : Int)) != (x.toNat : Int)) = true := by rw [bne, hneb]; rfl
    clear el1
    have hgb : ∀ h : 1 < (B [a, b]).size, (B [a, b])[1]'h = b := fun h => rfl
    have hex : (B [a, b]).extract 2 2 = B [] := by rw [B_extract]; rfl
    have hix : ∀ x : Int, Lib.indexByte (B []).data.toList x.toNat.toUInt8 = -1 := fun x => rfl
    have hw2 : IntKind.i64.wrap 2 = 2 := by decide
    clear el
    go_enter Tryd.func42, Tryd.ntmps42
    go_wp2_with (go_at_call 57; refine (Tryd.utf8_ValidRune _ _).mono ?_; rintro e w' ⟨rfl, hw⟩; rw [hw, hv])
    go_step3
    go_wp2
    refine wp_loop_rounds 1 ?_
    rw [rounds_succ]
    go_wp2
    go_step3
    go_wp2
    go_quiet (fail)
    go_wp2
    go_quiet ((go_at_call 56; exact (Tryd.strings_IndexByte _ _ _).mono (fun _ _ ⟨he, hm⟩ => ⟨he, _, hm⟩)))
    go_wp2
    rw [Exit.noGoto_ret]
    go_wp2
    rw [Exit.noGoto_ret]
    go_ret
    exact ⟨rfl, (by (repeat (first | (with_reducible exact Below.refl _ _) | (with_reducible assumption) | (with_reducible refine Below.drew ?_) | (with_reducible refine below_draws ?_ _) | ((with_reducible refine Below.setCell ?_ ?_ _); rotate_left; (first | (with_reducible exact Nat.le_refl _) | (focus (simp; done)) | (focus (simp; omega)) | omega)) | ((with_reducible refine Below.alloc ?_ ?_ _); rotate_left; (first | (with_reducible exact Nat.le_refl _) | (focus (simp; done)) | (focus (simp; omega)) | omega)))))⟩
  · have h3 : 2 < E.size := by omega
    clear el
    go_enter Tryd.func42, Tryd.ntmps42
    go_wp2_with (go_at_call 57; refine (Tryd.utf8_ValidRune _ _).mono ?_; rintro e w' ⟨rfl, hw⟩; rw [hw, hv])
    go_step3
    go_wp2
    refine wp_loop_rounds 1 ?_
    rw [rounds_succ]
    go_wp2
    rw [Exit.noGoto_ret]
    go_ret
    exact ⟨rfl, Below.refl _ _⟩
theorem ixrune_high (a b : UInt8) (ha : a.toNat < 128) (hb : b.toNat < 128) (r : Int) (h0 : 128 ≤ r) (h1 : r ≤ 2147483647) (w : World) :
    Calls Tryd.prog 42 #[.string (B [a, b]), .int .i32 r] w fun e w' => e = .returned (.int .i64 (-1)) ∧ Below w.heap.size w w' := by
  by_cases he : r = 65533
  · subst he; exact ixrune_err a b ha hb w
  · have hne : (r == 65533) = false := beq_eq_false_iff_ne.2 he
    by_cases hv : Lib.validRune r = true
    · refine ixrune_valid a b hb r h0 h1 hne hv ?_ w
      unfold Lib.validRune at hv
      unfold Utf8.valid
      revert hv
      simp
      omega
    · exact ixrune_bad _ r h0 h1 hne (by simpa using hv) w

theorem data_B (l : List UInt8) : (B l).data.toList = l := by simp [B]
theorem get_B (l : List UInt8) (i : Nat) (h : i < l.length) : ((B l).get! i) = l[i] := by
  unfold B ByteArray.get!
  simp [h]

/-- The place of the next rune, where the bytes on the way are high. -/
theorem noany_step (l : List UInt8) (a b : UInt8) (ha : a.toNat < 128) (hb : b.toNat < 128) (i : Nat) (hi : i < l.length) (hx : 128 ≤ (l[i]).toNat) (hn : Lib.NoAny l [a, b] i) :
    i + (Utf8.decode (B l) i).2 ≤ l.length ∧ Lib.NoAny l [a, b] (i + (Utf8.decode (B l) i).2) := by
  have hB : i < (B l).size := by rw [B_size]; exact hi
  obtain ⟨d1, d2⟩ := decode_cont (B l) i hB (by rw [Nat.add_zero, get_B l i hi]; exact hx)
  rw [B_size] at d1
  refine ⟨d1, fun j c hj hc => ?_⟩
  by_cases hji : j < i
  · exact hn j c hji hc
  · have hlt : j < l.length := by omega
    have := d2 (j - i) (by omega)
    rw [show i + (j - i) = j by omega, get_B l j hlt] at this
    have e : l[j] = c := by
      rw [List.getElem?_eq_getElem hlt] at hc; exact Option.some.inj hc
    rw [e] at this
    simp only [List.contains_cons, List.contains_nil, Bool.or_false, Bool.or_eq_false_iff, beq_eq_false_iff_ne]
    constructor <;> (intro hh; rw [hh] at this; omega)

set_option maxHeartbeats 8000000 in
set_option maxRecDepth 1000000 in
/-- IndexAny on its short road, whatever the bytes. -/
theorem ixany_short (l : List UInt8) (a b : UInt8) (ha : a.toNat < 128) (hb : b.toNat < 128) (h8 : l.length ≤ 8) (w : World) :
    Calls Tryd.prog 28 #[.string (B l), .string (B [a, b])] w fun e w' => e = .returned (.int .i64 (Lib.indexAny l [a, b])) ∧ Below w.heap.size w w' := by
  have h8z : decide ((8 : Int) < ((B l).size : Int)) = false := decide_eq_false (by rw [B_size]; omega)
  have h8y : decide ((8 : Int) < (l.length : Int)) = false := decide_eq_false (by omega)
  have hsz := two_size a b
  have hemp : (B [a, b]).toList.isEmpty = false := by rw [B_toList]; rfl
  have hcon := fun x => Lib.contains_iff_indexByte [a, b] x
  have HC := Lib.hid hcon
  clear hcon
  go_enter Tryd.func28, Tryd.ntmps28
  go_wp2_with (go_at_call 43; refine (Tryd.strings_shouldUseASCIISet _ _).mono ?_; rintro e w' ⟨rfl, hw⟩; first | rw [hw, h8z] | rw [hw, h8y])
  go_loopw [9, 10] (fun _ _ wr => ∃ i : Nat, i ≤ l.length ∧ wr.heap[w.heap.size]? = some (.stringIter (B l) i) ∧ Below w.heap.size w wr ∧ Lib.NoAny l [a, b] i) (fun _ _ wr => l.length - wr.iterPos w.heap.size)
  case atStart => exact ⟨0, by omega, World.iter_heap _ _ _, (Below.refl _ _).alloc (Nat.le_refl _) _, Lib.NoAny.zero _ _⟩
  case round =>
    obtain ⟨i, hil, hit, hB, hno⟩ := hrel
    have HN := Lib.hid hno
    clear hno
    have hwx : w.heap.size < wr.heap.size := (Array.getElem?_eq_some_iff.1 hit).1
    by_cases hi : i < l.length
    · have hx : (l[i]).toNat < 128 ∨ 128 ≤ (l[i]).toNat := by omega
      have hiB : i < (B l).size := by rw [B_size]; exact hi
      have hg : (B l)[i]'hiB = l[i] := by
        have := get_at (B l) i hiB; rw [Nat.add_zero, get_B l i hi] at this; exact this.symm
      rcases hx with hx | hx
      · have hxl : l[i]? = some l[i] := List.getElem?_eq_getElem hi
        have hnx := fun ty => run_next_ascii_at (P := Tryd.prog) wr _ (B l) i ty hit hiB (by rw [hg]; exact hx)
        rw [hg] at hnx
        have hit2 := iterAt_heap wr w.heap.size (B l) i (i + 1) hit
        have hB2 := below_iterAt hB (k := w.heap.size) (Nat.le_refl _) (B l) (i + 1)
        have hsz2 : w.heap.size < (wr.iterAt w.heap.size (B l) (i + 1)).heap.size := by rw [iterAt_size]; exact hwx
        generalize wr.iterAt w.heap.size (B l) (i + 1) = w2 at *
        have hcon := HC.out l[i]
        have HX := Lib.hid hxl
        clear hxl hg
        generalize l[i] = x at *
        have hback : ((x.toNat : Int)).toNat.toUInt8 = x := by simp
        have hdat : (B [a, b]).data.toList = [a, b] := data_B _
        cases hin : [a, b].contains x
        · rw [hin] at hcon
          have hlt : ¬ ((0 : Int) ≤ Lib.indexByte [a, b] x) := of_decide_eq_false hcon.symm
          have HI := Lib.hid hin
          clear hcon hin
          go_wp2_with (go_at_call 42; (refine (Tryd.strings_IndexRune_ascii _ _ _ (by omega) (by omega)).mono ?_); rintro e w3 ⟨rfl, hw3⟩; rw [hw3, hback, hdat])
          go_roundw
          case rel =>
            exact ⟨i + 1, by omega, hit2, hB2, HN.out.succ HX.out HI.out⟩
          case measure =>
            simp only [World.iterPos, hit2, hit]
            omega
        · rw [hin] at hcon
          have hge : (0 : Int) ≤ Lib.indexByte [a, b] x := of_decide_eq_true hcon.symm
          have HI := Lib.hid hin
          clear hcon hin
          go_wp2_with (go_at_call 42; (refine (Tryd.strings_IndexRune_ascii _ _ _ (by omega) (by omega)).mono ?_); rintro e w3 ⟨rfl, hw3⟩; rw [hw3, hback, hdat])
          go_ret
          exact ⟨by rw [Lib.indexAny_hit HN.out HX.out HI.out]; rfl, hB2⟩
      · have hnx := fun ty => run_next_any_at (P := Tryd.prog) wr _ (B l) i ty hit hiB
        obtain ⟨d1, d2⟩ := decode_high (B l) i hiB (by rw [hg]; exact hx)
        have d3 := decode_le (B l) i
        obtain ⟨s1, s2⟩ := noany_step l a b ha hb i hi hx HN.out
        have hit2 := iterAt_heap wr w.heap.size (B l) i (i + (Utf8.decode (B l) i).2) hit
        have hB2 := below_iterAt hB (k := w.heap.size) (Nat.le_refl _) (B l) (i + (Utf8.decode (B l) i).2)
        have hsz2 : w.heap.size < (wr.iterAt w.heap.size (B l) (i + (Utf8.decode (B l) i).2)).heap.size := by rw [iterAt_size]; exact hwx
        have HS := Lib.hid s2
        clear s2 hg hx HC
        generalize Utf8.decode (B l) i = d at *
        generalize wr.iterAt w.heap.size (B l) (i + d.2) = w2 at *
        go_wp2_with (go_at_call 42; (with_reducible refine (ixrune_high a b ha hb _ (by omega) (by omega) _).mono ?_); rintro e w3 ⟨rfl, hb3⟩)
        go_roundw
        case rel =>
          exact ⟨i + d.2, s1, by rw [hb3.block _ hsz2]; exact hit2, hB2.trans (hb3.mono (by omega)), HS.out⟩
        case measure =>
          simp only [World.iterPos, hb3.block _ hsz2, hit2, hit]
          omega
    · obtain rfl : i = l.length := by omega
      have hnx := fun ty => run_next_end_at (P := Tryd.prog) wr _ (B l) l.length ty hit (by rw [B_size]; omega)
      go_wp2
      go_ret
      exact ⟨by rw [Lib.indexAny_none HN.out]; rfl, hB⟩
theorem set_info' : (Tryd.prog.info? 43).map (fun i => (i.zero, i.size)) = some (some (.agg (Array.replicate 256 (.bool false))), 256) := by kernel_rfl
/-- strings.IndexAny with two ASCII bytes, whatever the text. -/
theorem ixany (l : List UInt8) (a b : UInt8) (ha : a.toNat < 128) (hb : b.toNat < 128) (hl : l.length < 1000000) (w : World) :
    Calls Tryd.prog 28 #[.string (B l), .string (B [a, b])] w fun e w' => e = .returned (.int .i64 (Lib.indexAny l [a, b])) ∧ Below w.heap.size w w' := by
  by_cases h8 : l.length ≤ 8
  · exact ixany_short l a b ha hb h8 w
  · have h := Tryd.strings_IndexAny_long (zero_of_info set_info').1 (B l) (B [a, b]) w (by rw [two_size]; omega) (by rw [B_size]; omega) (by rw [B_size]; omega) (by rw [two_size]; omega) (by
      rw [data_B]; intro j c hc
      match j with
      | 0 => simp at hc; subst hc; exact ha
      | 1 => simp at hc; subst hc; exact hb
      | j + 2 => simp at hc)
    rw [data_B, data_B] at h
    refine h.mono ?_
    rintro e w' ⟨he, hw⟩
    refine ⟨he, ?_⟩
    rw [hw]
    exact ((Below.refl _ _).alloc (Nat.le_refl _) _).alloc (by simp) _
end Go.Proofs.YtbgigkfdenkfiaaDoor
