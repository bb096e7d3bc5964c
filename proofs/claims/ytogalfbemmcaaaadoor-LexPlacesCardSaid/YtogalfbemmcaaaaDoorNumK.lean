/- Walks of numbers and their texts, part K: the reference's reading of numbers, whatever the text. -/
import Derived.Test.YtogalfbemmcaaaaDoorNumJ
namespace Go.Proofs.YtogalfbemmcaaaaDoor
open Go.RowKit
attribute [local go_sem] B_mk B_size B_toList B_extract B_append B_get

set_option maxHeartbeats 1000000 in
theorem rparse_zero (w : World) :
    Calls Tryd.prog 42 #[.string (B [48])] w fun e w' => e = .returned (.tuple #[.int .i64 0, .int .i64 0]) ∧ Below w.heap.size w w' := by
  have hb : bt [48] 0 = 48 := by simp [bt]
  go_enter Tryd.func42, Tryd.ntmps42
  go_wp2
  refine wp_loop_rounds 2 ?_
  repeat (rw [rounds_succ]; go_wp2)
  refine wp_loop_rounds 2 ?_
  repeat (rw [rounds_succ]; go_wp2)
  go_ret2
  exact ⟨rfl, Below.refl _ _⟩

set_option maxHeartbeats 1000000 in
theorem rparse_nil (w : World) :
    Calls Tryd.prog 42 #[.string (B [])] w fun e w' => e = .returned (.tuple #[.int .i64 0, .int .i64 2]) ∧ Below w.heap.size w w' := by
  go_enter Tryd.func42, Tryd.ntmps42
  go_wp2
  go_ret2
  exact ⟨rfl, Below.refl _ _⟩

set_option maxHeartbeats 1000000 in
theorem rparse_bad_neg (d : List UInt8) (w : World) (hl : d.length < 1000000) (h : d = [] ∨ bt d 0 = 48) :
    Calls Tryd.prog 42 #[.string (B (45 :: d))] w fun e w' => e = .returned (.tuple #[.int .i64 0, .int .i64 2]) ∧ Below w.heap.size w w' := by
  have hb : bt (45 :: d) 0 = 45 := by simp [bt]
  by_cases hne : d = []
  · subst hne
    go_enter Tryd.func42, Tryd.ntmps42
    go_wp2
    go_ret2
    exact ⟨rfl, Below.refl _ _⟩
  · have h48 : bt d 0 = 48 := h.resolve_left hne
    have hne' : d.isEmpty = false := by simp [hne]
    have hpos : 0 < d.length := List.length_pos_iff.2 hne
    clear h
    go_enter Tryd.func42, Tryd.ntmps42
    go_wp2
    go_ret2
    exact ⟨rfl, Below.refl _ _⟩

set_option maxHeartbeats 1000000 in
theorem rparse_bad_pos (d : List UInt8) (w : World) (hl : d.length < 1000000) (h1 : 1 < d.length) (h48 : bt d 0 = 48) :
    Calls Tryd.prog 42 #[.string (B d)] w fun e w' => e = .returned (.tuple #[.int .i64 0, .int .i64 2]) ∧ Below w.heap.size w w' := by
  have hne' : d.isEmpty = false := by cases d; simp at h1; rfl
  have hlen0 : ((d.length : Int) == 0) = false := by simp; intro h; subst h; simp at h1
  go_enter Tryd.func42, Tryd.ntmps42
  go_wp2
  go_ret2
  exact ⟨rfl, Below.refl _ _⟩

/-- The reference's Parse, whatever the text. -/
theorem rparse_any (l : List UInt8) (w : World) (hl : l.length < 1000000) :
    Calls Tryd.prog 42 #[.string (B l)] w fun e w' => e = .returned (.tuple #[.int .i64 (pv l).1, .int .i64 (pv l).2]) ∧ Below w.heap.size w w' := by
  match l with
  | [] => exact rparse_nil w
  | c :: d =>
    have hlen : d.length < 1000000 := by simp at hl; omega
    by_cases hc : c = 45
    · subst hc
      by_cases hd : d = [] ∨ d.head? = some 48
      · have e : pv (45 :: d) = (0, 2) := by simp only [pv, if_true, if_pos hd]
        rw [e]
        refine rparse_bad_neg d w hlen ?_
        rcases hd with hd | hd
        · exact Or.inl hd
        · right
          cases d with
          | nil => simp at hd
          | cons x y => simp at hd; subst hd; simp [bt]
      · have e : pv (45 :: d) = digV true d := by simp only [pv, if_true, if_neg hd]
        rw [e]
        have hne : ¬ d = [] := fun h => hd (Or.inl h)
        refine rparse_neg d w hlen hne ?_
        cases d with
        | nil => exact absurd rfl hne
        | cons x y =>
          simp only [bt_zero]
          simp at hd ⊢
          intro h
          exact hd (UInt8.toNat_inj.1 (by simpa using (by omega : x.toNat = 48)))
    · have h45 : (bt (c :: d) 0 == 45) = false := by
        simp only [bt_zero]; simp
        intro h
        exact hc (UInt8.toNat_inj.1 (by simpa using (by omega : c.toNat = 45)))
      by_cases h48 : c = 48
      · subst h48
        by_cases hd : d = []
        · subst hd
          have e : pv [48] = (0, 0) := by decide
          rw [e]; exact rparse_zero w
        · have e : pv (48 :: d) = (0, 2) := by simp [pv, hd]
          rw [e]
          refine rparse_bad_pos _ w hl ?_ (by simp [bt])
          have := List.length_pos_iff.2 hd
          simp; omega
      · have e : pv (c :: d) = digV false (c :: d) := by simp [pv, hc, h48]
        rw [e]
        refine rparse_pos _ w hl (by simp) h45 ?_
        simp only [bt_zero]; simp
        intro h
        exact h48 (UInt8.toNat_inj.1 (by simpa using (by omega : c.toNat = 48)))
end Go.Proofs.YtogalfbemmcaaaaDoor
