/- Walks of the gauss seat, part W: the law of sums. -/
import Derived.Test.YtoagnjnkgecmkaaDoorGaussU
namespace Go.Proofs.YtoagnjnkgecmkaaDoor
open Go.RowKit HF
attribute [local go_sem] B_mk B_size B_toList B_extract B_append B_get

theorem cell_alloc_lt {w : World} {o : Obj} {p : Addr} {v : Value} (h : w.cell? p = some v) (hp : p.block < w.heap.size) : (w.alloc o).cell? p = some v := by
  obtain ⟨b, i, e⟩ := p
  simp only [World.cell?, World.alloc, Array.getElem?_push] at h ⊢
  rw [if_neg (by simp at hp; omega)]
  exact h

theorem radd_neg (a b c d : Int) (w : World) : Calls Tryd.prog 21 #[cv a b, cv (P24 (-P24 c)) (P24 (-P24 d))] w fun e w' => e = .returned (cv (P24 (P24 a - P24 c)) (P24 (P24 b - P24 d))) ∧ Below w.heap.size w w' := by
  have h := radd_any a b (P24 (-P24 c)) (P24 (-P24 d)) w
  rw [p24_idem, p24_idem, p24_addr, p24_addr, ← Int.sub_eq_add_neg, ← Int.sub_eq_add_neg] at h
  exact h

set_option maxHeartbeats 4000000 in
set_option maxRecDepth 100000 in
theorem law_sums (a b c d : Int) (w : World) : Calls Tryd.prog 7 #[cv a b, cv c d] w fun e w' => e = .returned (.bool true) ∧ Below w.heap.size w w' := by
  obtain ⟨b0, b1⟩ := p24_bd b
  go_enter Tryd.func7, Tryd.ntmps7
  go_wp2_with fail
  rename_i K hK
  have HC : ∀ (t : Nat) (W1 : World), W1.cell? ⟨w.heap.size, 0, none⟩ = some (.int .i64 a) → W1.cell? ⟨w.heap.size, 1, none⟩ = some (.int .i64 b) → W1.cell? ⟨w.heap.size + 1, 0, none⟩ = some (.int .i64 c) → W1.cell? ⟨w.heap.size + 1, 1, none⟩ = some (.int .i64 d) → W1.cell? ⟨t, 0, none⟩ = some (.int .i64 (P24 (P24 a))) → W1.cell? ⟨t, 1, none⟩ = some (.int .i64 (P24 (IntKind.i64.wrap (-P24 b)))) → Below w.heap.size w W1 → w.heap.size + 1 < W1.heap.size → t < W1.heap.size →
      K { tmps := #[cv a b, cv c d, .pointer (some { block := w.heap.size, off := 0 }), .pointer (some { block := w.heap.size + 1, off := 0 }), .bool false, .pointer (some { block := t, off := 0 }), .pointer (some { block := w.heap.size, off := 0 }), .int .i64 a, .int .i64 (P24 a), .pointer (some { block := w.heap.size, off := 1 }), .int .i64 b, .int .i64 (P24 b), .int .i64 (IntKind.i64.wrap (-P24 b)), cv (P24 (P24 a)) (P24 (IntKind.i64.wrap (-P24 b))), undef, undef, undef, undef, undef, undef, undef, undef, undef, undef, undef, undef, undef, undef, undef, undef, undef, undef, undef, undef, undef, undef, undef, undef, undef, undef, undef, undef, undef, undef, undef, undef, undef], defers := [] } W1 := by
    intro t W1 h0 h1 h2 h3 h4 h5 hB hz ht
    have K1 := add_any a b c d
    have K2 := radd_any a b c d
    have K3 := sub_any a b c d
    have K4 := radd_neg a b c d
    have K5 := rneg_any c d
    have K6 := rneg_any a b
    have K7 := neg_any a b
    have K8 := turn_any a b
    rw [p24_wrap] at h5
    refine hK _ _ ?_
    clear hK
    go_wp2_with fail
    go_region_held3 (fun w' => w'.cell? ⟨w.heap.size, 0, none⟩ = some (.int .i64 a) ∧ w'.cell? ⟨w.heap.size, 1, none⟩ = some (.int .i64 b) ∧ w'.cell? ⟨w.heap.size + 1, 0, none⟩ = some (.int .i64 c) ∧ w'.cell? ⟨w.heap.size + 1, 1, none⟩ = some (.int .i64 d) ∧ w'.cell? ⟨t, 0, none⟩ = some (.int .i64 (P24 (P24 a))) ∧ w'.cell? ⟨t, 1, none⟩ = some (.int .i64 (P24 (-P24 b))) ∧ Below w.heap.size w w' ∧ w.heap.size + 1 < w'.heap.size ∧ t < w'.heap.size)
      ((go_split_ands; (repeat' (first | (with_reducible assumption) | (with_reducible apply And.intro))); all_goals first | ((with_reducible refine (hb.cell (p := ⟨_, _, none⟩) ?_).trans ?_) <;> first | assumption | (dsimp only; omega) | omega) | ((with_reducible refine (hb.frozen (p := ⟨_, _, none⟩) ?_).trans ?_) <;> first | assumption | (dsimp only; omega) | omega) | ((with_reducible refine was_below hb ?_ ?_) <;> first | assumption | omega) | ((with_reducible refine Below.trans ?_ (hb.mono ?_)) <;> first | assumption | omega) | ((with_reducible refine Nat.lt_of_lt_of_le ?_ hb.size); assumption) | ((with_reducible refine was_store _ _ ?_); assumption) | ((with_reducible refine was_store _ _ (was_store _ _ ?_)); assumption) | ((repeat (first | (with_reducible exact Below.refl _ _) | (with_reducible assumption) | (with_reducible refine Below.drew ?_) | (with_reducible refine below_draws ?_ _) | ((with_reducible refine Below.setCell ?_ ?_ _); rotate_left; (first | (with_reducible exact Nat.le_refl _) | (focus (simp; done)) | (focus (simp; omega)) | omega)) | ((with_reducible refine Below.alloc ?_ ?_ _); rotate_left; (first | (with_reducible exact Nat.le_refl _) | (focus (simp; done)) | (focus (simp; omega)) | omega)))); done) | (simp [go_sem]; done) | (refine was_of (v := .int .i64 0) ?_; simp [go_sem]; done) | (simp [*, go_sem]; done) | (simp [*, go_sem, World.setCell]; done) | (simp [World.setCell]; omega)))
      (first
        | (go_at_call 13; (with_reducible refine (K1 _).mono ?_); rintro e w' ⟨rfl, hb⟩)
        | (go_at_call 21; (with_reducible refine (K2 _).mono ?_); rintro e w' ⟨rfl, hb⟩)
        | (go_at_call 22; (with_reducible refine (K3 _).mono ?_); rintro e w' ⟨rfl, hb⟩)
        | (go_at_call 21; (with_reducible refine (K4 _).mono ?_); rintro e w' ⟨rfl, hb⟩)
        | (go_at_call 23; (with_reducible refine (K5 _).mono ?_); rintro e w' ⟨rfl, hb⟩)
        | (go_at_call 23; (with_reducible refine (K6 _).mono ?_); rintro e w' ⟨rfl, hb⟩)
        | (go_at_call 24; (with_reducible refine (K7 _).mono ?_); rintro e w' ⟨rfl, hb⟩)
        | (go_at_call 19; (with_reducible refine (K8 _).mono ?_); rintro e w' ⟨rfl, hb⟩)
        | (go_at_call 12; (with_reducible refine (awake_any _).mono ?_); rintro e w' ⟨rfl, hb⟩))
    go_wp2
    rename_i hS
    obtain ⟨_, _, _, _, _, _, hB, _⟩ := hS
    go_ret
    exact ⟨rfl, hB⟩
  have HH := Lib.hid HC
  clear HC hK
  go_region_with (first
      | (go_at_call 20; refine (rpart_any _ _).mono ?_; rintro e w' ⟨rfl, rfl⟩)
      | (go_at_call 15; refine (rof_any _ _ _).mono ?_; rintro e w1 ⟨rfl, hb1⟩; obtain ⟨hc1, hf1⟩ := bcell hb1; (have hz1 : w.heap.size + 1 < w1.heap.size := by have := hb1.size; simp at this; omega)))
  all_goals (
    have v0 : w1.cell? ⟨w.heap.size, 0, none⟩ = some (.int .i64 a) := by rw [hc1 _ _ (by simp <;> omega)]; simp [go_sem]
    have v1 : w1.cell? ⟨w.heap.size, 1, none⟩ = some (.int .i64 b) := by rw [hc1 _ _ (by simp <;> omega)]; simp [go_sem]
    have v2 : w1.cell? ⟨w.heap.size + 1, 0, none⟩ = some (.int .i64 c) := by rw [hc1 _ _ (by simp <;> omega)]; simp [go_sem]
    have v3 : w1.cell? ⟨w.heap.size + 1, 1, none⟩ = some (.int .i64 d) := by rw [hc1 _ _ (by simp <;> omega)]; simp [go_sem]
    have q1 : Below w.heap.size w w1 := Below.trans (by (repeat (first | (with_reducible exact Below.refl _ _) | (with_reducible assumption) | (with_reducible refine Below.drew ?_) | (with_reducible refine below_draws ?_ _) | ((with_reducible refine Below.setCell ?_ ?_ _); rotate_left; (first | (with_reducible exact Nat.le_refl _) | (focus (simp; done)) | (focus (simp; omega)) | omega)) | ((with_reducible refine Below.alloc ?_ ?_ _); rotate_left; (first | (with_reducible exact Nat.le_refl _) | (focus (simp; done)) | (focus (simp; omega)) | omega))))) (hb1.mono (by simp <;> omega))
    have HC1 := Lib.hid hc1
    have HB1 := Lib.hid hb1
    clear hc1 hf1 hb1)
  all_goals (refine HH.out _ _ ?_ ?_ ?_ ?_ ?_ ?_ ?_ ?_ ?_)
  all_goals first
    | (with_reducible assumption)
    | (rw [World.cell?_alloc_past _ _ _ (by omega)]; with_reducible assumption)
    | (rw [World.cell?_alloc_at _ _ _ _ rfl]; rfl)
    | (rw [World.cell?_setCell_other _ _ _ _ (by simp), World.cell?_setCell_other _ _ _ _ (by simp)]; with_reducible assumption)
    | (have e0 : w1.cell? ⟨w.heap.size + 1 + 1, 0, none⟩ = some (.int .i64 0) := by (rw [HC1.out _ _ (by simp <;> omega)]; simp [go_sem]; done)
       rw [World.cell?_setCell_other _ _ _ _ (by simp)]; exact World.cell?_setCell_same _ _ _ e0)
    | (have e1 : w1.cell? ⟨w.heap.size + 1 + 1, 1, none⟩ = some (.int .i64 0) := by (rw [HC1.out _ _ (by simp <;> omega)]; simp [go_sem]; done)
       refine World.cell?_setCell_same _ _ _ (v := .int .i64 0) ?_; rw [World.cell?_setCell_other _ _ _ _ (by simp)]; exact e1)
    | (have e1 : w1.cell? ⟨w.heap.size + 1 + 1, 1, none⟩ = some (.int .i64 0) := by (rw [HC1.out _ _ (by simp <;> omega)]; simp [go_sem]; done)
       have e2 : (w1.setCell ⟨w.heap.size + 1 + 1, 0, none⟩ (.int .i64 (P24 (P24 a)))).cell? ⟨w.heap.size + 1 + 1, 1, none⟩ = some (.int .i64 0) := by rw [World.cell?_setCell_other _ _ _ _ (by simp)]; exact e1
       exact World.cell?_setCell_same _ _ _ e2)
    | (refine q1.alloc (by omega) _)
    | ((repeat (first | (with_reducible exact Below.refl _ _) | (with_reducible assumption) | (with_reducible refine Below.drew ?_) | (with_reducible refine below_draws ?_ _) | ((with_reducible refine Below.setCell ?_ ?_ _); rotate_left; (first | (with_reducible exact Nat.le_refl _) | (focus (simp; done)) | (focus (simp; omega)) | omega)) | ((with_reducible refine Below.alloc ?_ ?_ _); rotate_left; (first | (with_reducible exact Nat.le_refl _) | (focus (simp; done)) | (focus (simp; omega)) | omega)))); done)
    | (have := HB1.out.size; simp [World.setCell] at this ⊢; omega)
    | (simp; done)
    | (simp; omega)
    | omega
end Go.Proofs.YtoagnjnkgecmkaaDoor
