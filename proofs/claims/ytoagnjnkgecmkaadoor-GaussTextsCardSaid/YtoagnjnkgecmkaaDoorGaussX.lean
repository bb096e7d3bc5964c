/- Walks of the gauss seat, part X: the reference's text; the law of texts. -/
import Derived.Test.YtoagnjnkgecmkaaDoorGaussU
import Derived.Test.YtoagnjnkgecmkaaDoorGaussT
namespace Go.Proofs.YtoagnjnkgecmkaaDoor
open Go.RowKit HF
attribute [local go_sem] B_mk B_size B_toList B_extract B_append B_get

set_option maxHeartbeats 1000000 in
theorem rgtext_any (a b : Int) (w : World) :
    Calls Tryd.prog 27 #[cv a b] w fun e w' => e = .returned (.string (B (gtxt a b))) ∧ Below w.heap.size w w' := by
  obtain ⟨a0, a1⟩ := p24_bd a
  obtain ⟨b0, b1⟩ := p24_bd b
  have ta := txt_len (P24 a)
  have tb := txt_len (P24 b)
  have T1 := rtext_any (P24 a) (by omega) (by omega)
  have T2 := rtext_any (P24 b) (by omega) (by omega)
  by_cases hb : P24 b < 0
  · have e : gtxt a b = txt (P24 a) ++ (txt (P24 b) ++ [105]) := by simp [gtxt, hb]
    have A1 := run_add_B (P := Tryd.prog) (txt (P24 a)) [] (by simp; omega)
    have A2 := run_add_B (P := Tryd.prog) (txt (P24 a)) (txt (P24 b)) (by omega)
    have A3 := run_add_B (P := Tryd.prog) (txt (P24 a) ++ txt (P24 b)) [105] (by simp; omega)
    rw [e]
    have E := Lib.hid e
    clear e
    go_enter Tryd.func27, Tryd.ntmps27
    go_wp2_with fail
    refine (rof_any _ _ _).mono ?_
    rintro e w1 ⟨rfl, hb1⟩
    obtain ⟨hc1, hf1⟩ := bcell hb1
    have hz1 : w.heap.size < w1.heap.size := by have := hb1.size; simp at this; omega
    have q1 : Below w.heap.size w w1 := Below.trans (by (repeat (first | (with_reducible exact Below.refl _ _) | (with_reducible assumption) | (with_reducible refine Below.drew ?_) | (with_reducible refine below_draws ?_ _) | ((with_reducible refine Below.setCell ?_ ?_ _); rotate_left; (first | (with_reducible exact Nat.le_refl _) | (focus (simp; done)) | (focus (simp; omega)) | omega)) | ((with_reducible refine Below.alloc ?_ ?_ _); rotate_left; (first | (with_reducible exact Nat.le_refl _) | (focus (simp; done)) | (focus (simp; omega)) | omega))))) (hb1.mono (by simp))
    have q2 : Below w.heap.size w (w1.alloc (.cells #[.int .i64 (P24 a), .int .i64 (P24 b)] 23)) := q1.alloc (by omega) _
    clear hc1 hf1 hb1
    go_wp2_with fail
    refine (T1 _).mono ?_
    rintro e w2 ⟨rfl, hb2⟩
    obtain ⟨hc2, hf2⟩ := bcell hb2
    have hz2 : w1.heap.size < w2.heap.size := by have := hb2.size; simp at this; omega
    have q3 : Below w.heap.size w w2 := Below.trans q2 (hb2.mono (by simp; omega))
    go_wp2_with fail
    refine (T2 _).mono ?_
    rintro e w3 ⟨rfl, hb3⟩
    obtain ⟨hc3, hf3⟩ := bcell hb3
    have q4 : Below w.heap.size w w3 := Below.trans q3 (hb3.mono (by omega))
    go_wp2
    go_ret
    exact ⟨rfl, q4⟩
  · have e : gtxt a b = txt (P24 a) ++ 43 :: (txt (P24 b) ++ [105]) := by simp [gtxt, hb]
    have A1 := run_add_B (P := Tryd.prog) (txt (P24 a)) [43] (by simp; omega)
    have A2 := run_add_B (P := Tryd.prog) (txt (P24 a) ++ [43]) (txt (P24 b)) (by simp; omega)
    have A3 := run_add_B (P := Tryd.prog) (txt (P24 a) ++ 43 :: txt (P24 b)) [105] (by simp; omega)
    rw [e]
    have E := Lib.hid e
    clear e
    go_enter Tryd.func27, Tryd.ntmps27
    go_wp2_with fail
    refine (rof_any _ _ _).mono ?_
    rintro e w1 ⟨rfl, hb1⟩
    obtain ⟨hc1, hf1⟩ := bcell hb1
    have hz1 : w.heap.size < w1.heap.size := by have := hb1.size; simp at this; omega
    have q1 : Below w.heap.size w w1 := Below.trans (by (repeat (first | (with_reducible exact Below.refl _ _) | (with_reducible assumption) | (with_reducible refine Below.drew ?_) | (with_reducible refine below_draws ?_ _) | ((with_reducible refine Below.setCell ?_ ?_ _); rotate_left; (first | (with_reducible exact Nat.le_refl _) | (focus (simp; done)) | (focus (simp; omega)) | omega)) | ((with_reducible refine Below.alloc ?_ ?_ _); rotate_left; (first | (with_reducible exact Nat.le_refl _) | (focus (simp; done)) | (focus (simp; omega)) | omega))))) (hb1.mono (by simp))
    have q2 : Below w.heap.size w (w1.alloc (.cells #[.int .i64 (P24 a), .int .i64 (P24 b)] 23)) := q1.alloc (by omega) _
    clear hc1 hf1 hb1
    go_wp2_with fail
    refine (T1 _).mono ?_
    rintro e w2 ⟨rfl, hb2⟩
    obtain ⟨hc2, hf2⟩ := bcell hb2
    have hz2 : w1.heap.size < w2.heap.size := by have := hb2.size; simp at this; omega
    have q3 : Below w.heap.size w w2 := Below.trans q2 (hb2.mono (by simp; omega))
    go_wp2_with fail
    refine (T2 _).mono ?_
    rintro e w3 ⟨rfl, hb3⟩
    obtain ⟨hc3, hf3⟩ := bcell hb3
    have q4 : Below w.heap.size w w3 := Below.trans q3 (hb3.mono (by omega))
    go_wp2
    go_ret
    exact ⟨rfl, q4⟩

attribute [local go_sem high] eql_cv
set_option maxHeartbeats 4000000 in
set_option maxRecDepth 100000 in
theorem law_texts (a b : Int) (w : World) : Calls Tryd.prog 8 #[cv a b] w fun e w' => e = .returned (.bool true) ∧ Below w.heap.size w w' := by
  have K1 := gtext_any a b
  have K2 := rgtext_any a b
  have K3 := gparse_gtxt a b
  have K4 := of_any a b
  generalize gtxt a b = g at K1 K2 K3
  generalize P24 a = x at K3 K4
  generalize P24 b = y at K3 K4
  go_enter Tryd.func8, Tryd.ntmps8
  go_wp2_with fail
  refine (K1 _).mono ?_
  rintro e w1 ⟨rfl, hb1⟩
  obtain ⟨hc1, hf1⟩ := bcell hb1
  have hz1 : w.heap.size < w1.heap.size := by have := hb1.size; simp at this; omega
  have q1 : Below w.heap.size w w1 := Below.trans (by (repeat (first | (with_reducible exact Below.refl _ _) | (with_reducible assumption) | (with_reducible refine Below.drew ?_) | (with_reducible refine below_draws ?_ _) | ((with_reducible refine Below.setCell ?_ ?_ _); rotate_left; (first | (with_reducible exact Nat.le_refl _) | (focus (simp; done)) | (focus (simp; omega)) | omega)) | ((with_reducible refine Below.alloc ?_ ?_ _); rotate_left; (first | (with_reducible exact Nat.le_refl _) | (focus (simp; done)) | (focus (simp; omega)) | omega))))) (hb1.mono (by simp))
  go_wp2_with fail
  refine (K3 _).mono ?_
  rintro e w2 ⟨rfl, hb2⟩
  obtain ⟨hc2, hf2⟩ := bcell hb2
  have hz2 : w.heap.size < w2.heap.size := by have := hb2.size; omega
  have q2 : Below w.heap.size w w2 := Below.trans q1 (hb2.mono (by omega))
  have q3 : Below w.heap.size w (w2.alloc (.cells #[.int .i64 x, .int .i64 y] 23)) := q2.alloc (by omega) _
  have c0 : w2.cell? ⟨w.heap.size, 0, none⟩ = some (.int .i64 a) := by rw [hc2 _ _ hz1, hc1 _ _ (by simp)]; simp
  have c1 : w2.cell? ⟨w.heap.size, 1, none⟩ = some (.int .i64 b) := by rw [hc2 _ _ hz1, hc1 _ _ (by simp)]; simp
  clear hb1 hb2 hc1 hc2 hf1 hf2
  go_wp2_with fail
  go_region_held3 (fun w' => w'.cell? ⟨w.heap.size, 0, none⟩ = some (.int .i64 a) ∧ w'.cell? ⟨w.heap.size, 1, none⟩ = some (.int .i64 b) ∧ w'.cell? ⟨w2.heap.size, 0, none⟩ = some (.int .i64 x) ∧ w'.cell? ⟨w2.heap.size, 1, none⟩ = some (.int .i64 y) ∧ Below w.heap.size w w' ∧ w2.heap.size < w'.heap.size)
    ((go_split_ands; (repeat' (first | (with_reducible assumption) | (with_reducible apply And.intro))); all_goals first | ((with_reducible refine (hb.cell (p := ⟨_, _, none⟩) ?_).trans ?_) <;> first | assumption | (dsimp only; omega) | omega) | ((with_reducible refine (hb.frozen (p := ⟨_, _, none⟩) ?_).trans ?_) <;> first | assumption | (dsimp only; omega) | omega) | ((with_reducible refine was_below hb ?_ ?_) <;> first | assumption | omega) | ((with_reducible refine Below.trans ?_ (hb.mono ?_)) <;> first | assumption | omega) | ((with_reducible refine Nat.lt_of_lt_of_le ?_ hb.size); assumption) | ((with_reducible refine was_store _ _ ?_); assumption) | ((with_reducible refine was_store _ _ (was_store _ _ ?_)); assumption) | ((repeat (first | (with_reducible exact Below.refl _ _) | (with_reducible assumption) | (with_reducible refine Below.drew ?_) | (with_reducible refine below_draws ?_ _) | ((with_reducible refine Below.setCell ?_ ?_ _); rotate_left; (first | (with_reducible exact Nat.le_refl _) | (focus (simp; done)) | (focus (simp; omega)) | omega)) | ((with_reducible refine Below.alloc ?_ ?_ _); rotate_left; (first | (with_reducible exact Nat.le_refl _) | (focus (simp; done)) | (focus (simp; omega)) | omega)))); done) | (simp [go_sem]; done) | (refine was_of (v := .int .i64 0) ?_; simp [go_sem]; done) | (simp [*, go_sem]; done) | (simp [*, go_sem, World.setCell]; done) | (simp [World.setCell]; omega)))
    (first
      | (go_at_call 25; (with_reducible refine (K1 _).mono ?_); rintro e w' ⟨rfl, hb⟩)
      | (go_at_call 27; (with_reducible refine (K2 _).mono ?_); rintro e w' ⟨rfl, hb⟩)
      | (go_at_call 26; (with_reducible refine (K3 _).mono ?_); rintro e w' ⟨rfl, hb⟩)
      | (go_at_call 14; (with_reducible refine (K4 _).mono ?_); rintro e w' ⟨rfl, hb⟩)
      | (go_at_call 12; (with_reducible refine (awake_any _).mono ?_); rintro e w' ⟨rfl, hb⟩))
  go_wp2
  rename_i hS
  obtain ⟨_, _, _, _, hB, _⟩ := hS
  go_ret
  exact ⟨rfl, hB⟩
end Go.Proofs.YtoagnjnkgecmkaaDoor
