/- Walks of the gauss seat, part P: gauss.Parse, whatever the text; gauss.Text; the examples. -/
import Derived.Test.YtoagnjnkgecmkaaDoorGaussO
namespace Go.Proofs.YtoagnjnkgecmkaaDoor
open Go.RowKit
attribute [local go_sem] B_mk B_size B_toList B_extract B_append B_get

/-- gauss.Parse, whatever the text whose last sign is found. -/
theorem gparse_any (l : List UInt8) (hl : l.length < 100000) (w : World) (hla : LAw l.dropLast w) :
    Calls Tryd.prog 26 #[.string (B l)] w fun e w' => e = .returned (gv (gp l)) ∧ Below w.heap.size w w' := by
  by_cases h : l.getLast? = some 105
  · obtain ⟨b, rfl⟩ : ∃ b, l = b ++ [105] := by
      refine ⟨l.dropLast, ?_⟩
      cases l with
      | nil => simp at h
      | cons x t =>
        have hd := List.dropLast_concat_getLast (l := x :: t) (by simp)
        rw [List.getLast?_eq_some_getLast (by simp)] at h
        rw [Option.some.inj h] at hd
        exact hd.symm
    rw [List.dropLast_concat] at hla
    have hbl : b.length < 100000 := by simp at hl; omega
    rw [gp_yes]
    by_cases hne : b = []
    · subst hne
      rw [if_pos (by decide)]
      exact gparse_empty w
    · rcases lsu_spec b b.length with ⟨h1, _⟩ | ⟨j, h1, h2, h3, h4⟩
      · have hs : lastSign b < 1 := by unfold lastSign; omega
        rw [if_pos hs]
        exact gparse_few b hbl hne w hla hs
      · by_cases hs : lastSign b < 1
        · rw [if_pos hs]
          exact gparse_few b hbl hne w hla hs
        · rw [if_neg hs]
          have hj : lastSign b = j := h1
          rw [hj, Int.toNat_natCast]
          exact gparse_main b j _ _ _ _ hbl hne w hla hj (by omega) h2 h3 (fun h43 => second_minus b j h2 h4 h43) rfl rfl
  · exact gparse_no l hl h w

theorem dec_len (m : Nat) : (dec m).length ≤ 20 := by
  have hg : ∀ (k m : Nat) (t : List UInt8), (dgo k m t).length ≤ k + t.length := by
    intro k
    induction k with
    | zero => intro m t; simp [dgo]
    | succ k ih =>
      intro m t
      rw [dgo]
      split
      · simp; omega
      · have := ih (m / 10) (dg (m % 10) :: t)
        simp at this ⊢; omega
  have := hg 20 m []
  simpa [dec] using this
theorem txt_len (n : Int) : (txt n).length ≤ 21 := by
  have := dec_len n.natAbs
  unfold txt; split <;> simp <;> omega

/-- A number's text: its parts. -/
def gtxt (a b : Int) : List UInt8 := txt (P24 a) ++ (if P24 b < 0 then [] else [43]) ++ txt (P24 b) ++ [105]

set_option maxHeartbeats 1000000 in
theorem gtext_any (a b : Int) (w : World) :
    Calls Tryd.prog 25 #[cv a b] w fun e w' => e = .returned (.string (B (gtxt a b))) ∧ Below w.heap.size w w' := by
  obtain ⟨a0, a1⟩ := p24_bd a
  obtain ⟨b0, b1⟩ := p24_bd b
  have ta := txt_len (P24 a)
  have tb := txt_len (P24 b)
  have T1 := text_any (P24 a) (by omega) (by omega)
  have T2 := text_any (P24 b) (by omega) (by omega)
  by_cases hb : P24 b < 0
  · have e : gtxt a b = txt (P24 a) ++ (txt (P24 b) ++ [105]) := by simp [gtxt, hb]
    have A1 := run_add_B (P := Tryd.prog) (txt (P24 a)) [] (by simp; omega)
    have A2 := run_add_B (P := Tryd.prog) (txt (P24 a)) (txt (P24 b)) (by omega)
    have A3 := run_add_B (P := Tryd.prog) (txt (P24 a) ++ txt (P24 b)) [105] (by simp; omega)
    rw [e]
    have E := Lib.hid e
    clear e
    go_enter Tryd.func25, Tryd.ntmps25
    go_wp2_with fail
    refine (of_any _ _ _).mono ?_
    rintro e w1 ⟨rfl, hb1⟩
    obtain ⟨hc1, hf1⟩ := bcell hb1
    have hz1 : w.heap.size < w1.heap.size := by have := hb1.size; simp at this; omega
    have q1 : Below w.heap.size w w1 := Below.trans (by (repeat (first | (with_reducible exact Below.refl _ _) | (with_reducible assumption) | (with_reducible refine Below.drew ?_) | (with_reducible refine below_draws ?_ _) | ((with_reducible refine Below.setCell ?_ ?_ _); rotate_left; (first | (with_reducible exact Nat.le_refl _) | (focus (simp; done)) | (focus (simp; omega)) | omega)) | ((with_reducible refine Below.alloc ?_ ?_ _); rotate_left; (first | (with_reducible exact Nat.le_refl _) | (focus (simp; done)) | (focus (simp; omega)) | omega))))) (hb1.mono (by simp))
    have q2 : Below w.heap.size w (w1.alloc (.cells #[.int .i64 (P24 a), .int .i64 (P24 b)] 23)) := q1.alloc (by omega) _
    clear hc1 hf1 hb1
    go_wp2_with fail
    go_region_held3 (fun w' => w'.cell? ⟨w1.heap.size, 0, none⟩ = some (.int .i64 (P24 a)) ∧ w'.cell? ⟨w1.heap.size, 1, none⟩ = some (.int .i64 (P24 b)) ∧ Below w.heap.size w w' ∧ w1.heap.size < w'.heap.size)
      ((go_split_ands; (repeat' (first | (with_reducible assumption) | (with_reducible apply And.intro))); all_goals first | ((with_reducible refine (hb.cell (p := ⟨_, _, none⟩) ?_).trans ?_) <;> first | assumption | (dsimp only; omega) | omega) | ((with_reducible refine (hb.frozen (p := ⟨_, _, none⟩) ?_).trans ?_) <;> first | assumption | (dsimp only; omega) | omega) | ((with_reducible refine was_below hb ?_ ?_) <;> first | assumption | omega) | ((with_reducible refine Below.trans ?_ (hb.mono ?_)) <;> first | assumption | omega) | ((with_reducible refine Nat.lt_of_lt_of_le ?_ hb.size); assumption) | ((with_reducible refine was_store _ _ ?_); assumption) | ((with_reducible refine was_store _ _ (was_store _ _ ?_)); assumption) | ((repeat (first | (with_reducible exact Below.refl _ _) | (with_reducible assumption) | (with_reducible refine Below.drew ?_) | (with_reducible refine below_draws ?_ _) | ((with_reducible refine Below.setCell ?_ ?_ _); rotate_left; (first | (with_reducible exact Nat.le_refl _) | (focus (simp; done)) | (focus (simp; omega)) | omega)) | ((with_reducible refine Below.alloc ?_ ?_ _); rotate_left; (first | (with_reducible exact Nat.le_refl _) | (focus (simp; done)) | (focus (simp; omega)) | omega)))); done) | (simp [go_sem]; done) | (refine was_of (v := .int .i64 0) ?_; simp [go_sem]; done) | (simp [*, go_sem]; done) | (simp [*, go_sem, World.setCell]; done) | (simp [World.setCell]; omega)))
      (first
        | (go_at_call 33; (with_reducible refine (T1 _).mono ?_); rintro e w' ⟨rfl, hb⟩)
        | (go_at_call 33; (with_reducible refine (T2 _).mono ?_); rintro e w' ⟨rfl, hb⟩))
    go_wp2
    rename_i hS
    obtain ⟨_, _, hB, _⟩ := hS
    go_ret
    exact ⟨rfl, hB⟩
  · have e : gtxt a b = txt (P24 a) ++ 43 :: (txt (P24 b) ++ [105]) := by simp [gtxt, hb]
    have A1 := run_add_B (P := Tryd.prog) (txt (P24 a)) [43] (by simp; omega)
    have A2 := run_add_B (P := Tryd.prog) (txt (P24 a) ++ [43]) (txt (P24 b)) (by simp; omega)
    have A3 := run_add_B (P := Tryd.prog) (txt (P24 a) ++ 43 :: txt (P24 b)) [105] (by simp; omega)
    rw [e]
    have E := Lib.hid e
    clear e
    go_enter Tryd.func25, Tryd.ntmps25
    go_wp2_with fail
    refine (of_any _ _ _).mono ?_
    rintro e w1 ⟨rfl, hb1⟩
    obtain ⟨hc1, hf1⟩ := bcell hb1
    have hz1 : w.heap.size < w1.heap.size := by have := hb1.size; simp at this; omega
    have q1 : Below w.heap.size w w1 := Below.trans (by (repeat (first | (with_reducible exact Below.refl _ _) | (with_reducible assumption) | (with_reducible refine Below.drew ?_) | (with_reducible refine below_draws ?_ _) | ((with_reducible refine Below.setCell ?_ ?_ _); rotate_left; (first | (with_reducible exact Nat.le_refl _) | (focus (simp; done)) | (focus (simp; omega)) | omega)) | ((with_reducible refine Below.alloc ?_ ?_ _); rotate_left; (first | (with_reducible exact Nat.le_refl _) | (focus (simp; done)) | (focus (simp; omega)) | omega))))) (hb1.mono (by simp))
    have q2 : Below w.heap.size w (w1.alloc (.cells #[.int .i64 (P24 a), .int .i64 (P24 b)] 23)) := q1.alloc (by omega) _
    clear hc1 hf1 hb1
    go_wp2_with fail
    go_region_held3 (fun w' => w'.cell? ⟨w1.heap.size, 0, none⟩ = some (.int .i64 (P24 a)) ∧ w'.cell? ⟨w1.heap.size, 1, none⟩ = some (.int .i64 (P24 b)) ∧ Below w.heap.size w w' ∧ w1.heap.size < w'.heap.size)
      ((go_split_ands; (repeat' (first | (with_reducible assumption) | (with_reducible apply And.intro))); all_goals first | ((with_reducible refine (hb.cell (p := ⟨_, _, none⟩) ?_).trans ?_) <;> first | assumption | (dsimp only; omega) | omega) | ((with_reducible refine (hb.frozen (p := ⟨_, _, none⟩) ?_).trans ?_) <;> first | assumption | (dsimp only; omega) | omega) | ((with_reducible refine was_below hb ?_ ?_) <;> first | assumption | omega) | ((with_reducible refine Below.trans ?_ (hb.mono ?_)) <;> first | assumption | omega) | ((with_reducible refine Nat.lt_of_lt_of_le ?_ hb.size); assumption) | ((with_reducible refine was_store _ _ ?_); assumption) | ((with_reducible refine was_store _ _ (was_store _ _ ?_)); assumption) | ((repeat (first | (with_reducible exact Below.refl _ _) | (with_reducible assumption) | (with_reducible refine Below.drew ?_) | (with_reducible refine below_draws ?_ _) | ((with_reducible refine Below.setCell ?_ ?_ _); rotate_left; (first | (with_reducible exact Nat.le_refl _) | (focus (simp; done)) | (focus (simp; omega)) | omega)) | ((with_reducible refine Below.alloc ?_ ?_ _); rotate_left; (first | (with_reducible exact Nat.le_refl _) | (focus (simp; done)) | (focus (simp; omega)) | omega)))); done) | (simp [go_sem]; done) | (refine was_of (v := .int .i64 0) ?_; simp [go_sem]; done) | (simp [*, go_sem]; done) | (simp [*, go_sem, World.setCell]; done) | (simp [World.setCell]; omega)))
      (first
        | (go_at_call 33; (with_reducible refine (T1 _).mono ?_); rintro e w' ⟨rfl, hb⟩)
        | (go_at_call 33; (with_reducible refine (T2 _).mono ?_); rintro e w' ⟨rfl, hb⟩))
    go_wp2
    rename_i hS
    obtain ⟨_, _, hB, _⟩ := hS
    go_ret
    exact ⟨rfl, hB⟩
end Go.Proofs.YtoagnjnkgecmkaaDoor
