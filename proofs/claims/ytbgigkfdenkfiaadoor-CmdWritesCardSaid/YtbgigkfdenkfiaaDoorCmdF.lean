/- The cmd seat, part F: the reference's Parse. -/
import Derived.Test.YtbgigkfdenkfiaaDoorCmdE
namespace Go.Proofs.YtbgigkfdenkfiaaDoor
open Go.RowKit
attribute [local go_sem] B_mk B_size B_toList B_extract B_append B_get

set_option maxHeartbeats 1000000 in
theorem rnumber_any (l : List UInt8) (hl : l.length < 1000000) (w : World) :
    Calls Tryd.prog 24 #[.string (B l)] w fun e w' => e = .returned (.int .i64 (numOf l)) ∧ Below w.heap.size w w' := by
  have h1 := rparse_any l w hl
  have hv : numOf l = if (pv l).2 = 0 ∧ 0 ≤ (pv l).1 ∧ (pv l).1 ≤ 1048576 then (pv l).1 else -1 := rfl
  generalize numOf l = v at *
  generalize pv l = p at *
  obtain ⟨n, e⟩ := p
  go_enter Tryd.func24, Tryd.ntmps24
  go_wp2_with fail
  refine h1.mono ?_
  rintro e w1 ⟨rfl, hb1⟩
  have HV := Lib.hid hv
  clear hv
  go_wp2
  all_goals go_ret
  all_goals refine ⟨ret_int ?_, hb1⟩
  all_goals (rw [HV.out]; split <;> omega)

set_option maxHeartbeats 4000000 in
theorem rparse_bad (l : List UInt8) (hl : l.length < 1000000) (h : 1000 < l.length ∨ (10 : UInt8) ∈ l) (w : World) :
    Calls Tryd.prog 8 #[.string (B l)] w fun e w' => e = .returned (cmdv bad) ∧ Below w.heap.size w w' := by
  by_cases h1 : 1000 < l.length
  · have h1' : (1000 : Int) < (l.length : Int) := by omega
    go_enter Tryd.func8, Tryd.ntmps8
    go_wp2
    exact bodyPost_ret (v := cmdv bad) (by simp [results, Tryd.results8, go_sem]; rfl) rfl ⟨rfl, (by (repeat (first | (with_reducible exact Below.refl _ _) | (with_reducible assumption) | (with_reducible refine Below.drew ?_) | (with_reducible refine below_draws ?_ _) | ((with_reducible refine Below.setCell ?_ ?_ _); rotate_left; (first | (with_reducible exact Nat.le_refl _) | (focus (simp; done)) | (focus (simp; omega)) | omega)) | ((with_reducible refine Below.alloc ?_ ?_ _); rotate_left; (first | (with_reducible exact Nat.le_refl _) | (focus (simp; done)) | (focus (simp; omega)) | omega)))))⟩
  · have h2 : decide ((10 : UInt8) ∈ l) = true := decide_eq_true (h.resolve_left h1)
    have h1' : ¬ (1000 : Int) < (l.length : Int) := by omega
    go_enter Tryd.func8, Tryd.ntmps8
    go_wp2_with (go_at_call 20; refine (feed_any _ hl _).mono ?_; rintro e w' ⟨rfl, rfl⟩; rw [h2])
    exact bodyPost_ret (v := cmdv bad) (by simp [results, Tryd.results8, go_sem]; rfl) rfl ⟨rfl, (by (repeat (first | (with_reducible exact Below.refl _ _) | (with_reducible assumption) | (with_reducible refine Below.drew ?_) | (with_reducible refine below_draws ?_ _) | ((with_reducible refine Below.setCell ?_ ?_ _); rotate_left; (first | (with_reducible exact Nat.le_refl _) | (focus (simp; done)) | (focus (simp; omega)) | omega)) | ((with_reducible refine Below.alloc ?_ ?_ _); rotate_left; (first | (with_reducible exact Nat.le_refl _) | (focus (simp; done)) | (focus (simp; omega)) | omega)))))⟩

theorem rcut_rt (l : List UInt8) (hl : l.length < 1000000) (h : RT l) (w : World) :
    Calls Tryd.prog 21 #[.string (B l)] w fun e w' => e = .returned (.tuple #[.string (B (wd l)), .string (B (rs l))]) ∧ Below w.heap.size w w' := by
  have := rcut_any l hl w
  rw [rs_trim h] at this
  exact this

/-- The world in the reference's Parse: the result's cells, the words'. -/
structure RW (b0 b1 : Nat) (w : World) (wr : World) : Prop where
  r0 : wr.cell? ⟨b0, 0, none⟩ = some (.int .u8 0)
  r1 : wr.cell? ⟨b0, 1, none⟩ = some (.int .i64 0)
  r2 : wr.cell? ⟨b0, 2, none⟩ = some (.string (B []))
  rf : ∀ o, wr.frozen? ⟨b0, o, none⟩ = false
  wc : WC b1 wr
  be : Below b0 w wr
  sz : b1 < wr.heap.size

set_option maxHeartbeats 4000000 in
theorem rparse_good (l : List UInt8) (hl : l.length ≤ 1000) (h : ¬ (10 : UInt8) ∈ l) (w : World) :
    Calls Tryd.prog 8 #[.string (B l)] w fun e w' => e = .returned (cmdv (ck (kindOf (wd (trim l))) (rs (trim l)))) ∧ Below w.heap.size w w' := by
  have h2 : decide ((10 : UInt8) ∈ l) = false := decide_eq_false h
  have h1' : ¬ (1000 : Int) < (l.length : Int) := by omega
  have ht := trim_len l
  have hrt := rs_rt (rt_trim l)
  have hT := rtrim_any l (by omega)
  have hW := rcut_rt (trim l) (by omega) (rt_trim l)
  have hk := kindOf_le (wd (trim l))
  have hrl : (rs (trim l)).length ≤ 1000 := by
    have h1 := trimL_len ((trim l).dropWhile nb)
    have h3 := congrArg List.length (List.takeWhile_append_dropWhile (p := nb) (l := trim l))
    simp only [List.length_append] at h3
    unfold rs; omega
  clear ht
  generalize trim l = t at *
  generalize wd t = f at *
  generalize rs t = r at *
  have HRT := Lib.hid hrt
  have HK := Lib.hid hk
  clear hrt hk h
  go_enter Tryd.func8, Tryd.ntmps8
  go_wp2_with (first
    | (go_at_call 20; refine (feed_any _ (by omega) _).mono ?_; rintro e w' ⟨rfl, rfl⟩; rw [h2])
    | (go_at_call 22; refine (hT _).mono ?_; rintro e w' ⟨rfl, rfl⟩))
  refine (hW _).mono ?_
  rintro e w2 ⟨rfl, hb2⟩
  obtain ⟨hc2, hf2⟩ := bcell hb2
  have hz2 : w.heap.size < w2.heap.size := by have := hb2.size; simp at this; omega
  have q2 : Below w.heap.size w w2 := Below.trans (by (repeat (first | (with_reducible exact Below.refl _ _) | (with_reducible assumption) | (with_reducible refine Below.drew ?_) | (with_reducible refine below_draws ?_ _) | ((with_reducible refine Below.setCell ?_ ?_ _); rotate_left; (first | (with_reducible exact Nat.le_refl _) | (focus (simp; done)) | (focus (simp; omega)) | omega)) | ((with_reducible refine Below.alloc ?_ ?_ _); rotate_left; (first | (with_reducible exact Nat.le_refl _) | (focus (simp; done)) | (focus (simp; omega)) | omega))))) (hb2.mono (by simp))
  have r0 : w2.cell? ⟨w.heap.size, 0, none⟩ = some (.int .u8 0) := by rw [hc2 _ _ (by simp)]; simp
  have r1 : w2.cell? ⟨w.heap.size, 1, none⟩ = some (.int .i64 0) := by rw [hc2 _ _ (by simp)]; simp
  have r2 : w2.cell? ⟨w.heap.size, 2, none⟩ = some (.string (B [])) := by rw [hc2 _ _ (by simp)]; simp
  have rf : ∀ o, w2.frozen? ⟨w.heap.size, o, none⟩ = false := fun o => by rw [hf2 _ _ (by simp)]; simp
  clear hb2 hT hW hc2 hf2
  go_wp2_with fail
  refine (rwords_any _).mono ?_
  rintro e w3 ⟨rfl, hw3⟩
  rw [hw3]
  have hS : RW w.heap.size w2.heap.size w (w2.alloc (.cells wordCells 9)) := by
    refine ⟨?_, ?_, ?_, ?_, ?_, ?_, ?_⟩
    · rw [cell_old _ _ hz2]; exact r0
    · rw [cell_old _ _ hz2]; exact r1
    · rw [cell_old _ _ hz2]; exact r2
    · intro o; rw [frozen_old _ _ hz2]; exact rf o
    · exact wc_new _ _
    · exact q2.alloc (by omega) _
    · simp
  clear q2 r0 r1 r2 rf hw3
  have hg : ∃ W0, W0 = w2.alloc (.cells wordCells 9) := ⟨_, rfl⟩
  obtain ⟨W0, hW0⟩ := hg
  rw [← hW0] at hS ⊢
  obtain ⟨r0, r1, r2, rf, hwc, hbe, hsz⟩ := hS
  clear hW0
  go_wp2
  go_loop [5, 28] (fun x y => ∃ i : Nat, y = .int .i64 (i : Int) ∧ i ≤ 19 ∧ x = .int .i64 (kd f i : Int)) (fun _ y => 19 - (intOf y).toNat)
  case atStart => exact ⟨0, rfl, by omega, rfl⟩
  case round =>
    obtain ⟨i, rfl, hi, rfl⟩ := hrel
    by_cases hlt : i < 19
    · have hwi := hwc i hlt
      have hi1 : (i : Int) < 19 := by omega
      have HWC := Lib.hid hwc
      clear hwc
      by_cases hm : ws i = f ∧ f ≠ []
      · have hkd : kd f (i + 1) = i := by rw [kd, if_pos ((kd_cond f i hlt).1 hm)]
        obtain ⟨hm2, hm1⟩ := hm
        have hfb : (f == []) = false := beq_eq_false_iff_ne.2 hm1
        rw [hm2] at hwi
        have HKD := Lib.hid hkd
        clear hkd hm2
        go_wp2
        go_round
        case rel => exact ⟨i + 1, rfl, by omega, by rw [HKD.out]⟩
        case measure => simp [intOf]; omega
      · have hkd : kd f (i + 1) = kd f i := by rw [kd, if_neg (fun h => hm ((kd_cond f i hlt).2 h))]
        have HKD := Lib.hid hkd
        have hcase : ws i ≠ f ∨ (ws i = f ∧ f = []) := by
          by_cases e : ws i = f
          · by_cases e2 : f = []
            · exact Or.inr ⟨e, e2⟩
            · exact absurd ⟨e, e2⟩ hm
          · exact Or.inl e
        clear hkd hm
        rcases hcase with hne | ⟨he, he2⟩
        · have hbe : (ws i == f) = false := beq_eq_false_iff_ne.2 hne
          go_wp2
          go_round
          case rel => exact ⟨i + 1, rfl, by omega, by rw [HKD.out]⟩
          case measure => simp [intOf]; omega
        · rw [he, he2] at hwi
          subst he2
          go_wp2
          go_round
          case rel => exact ⟨i + 1, rfl, by omega, by rw [HKD.out]⟩
          case measure => simp [intOf]; omega
    · obtain rfl : i = 19 := by omega
      have hk18 : kd f 19 ≤ 18 := HK.out
      have HKK0 : kindOf f = kd f 19 := rfl
      have HKK := Lib.hid HKK0
      clear HK HKK0 hi hlt hwc
      generalize kd f 19 = k at *
      have hk255 : (k : Int) ≤ 18 := by omega
      have hk0 : 0 ≤ (k : Int) := by omega
      have hku : IntKind.u8.wrap (k : Int) = (k : Int) := by
        unfold IntKind.wrap; simp [IntKind.bits, IntKind.signed]; omega
      have hz0 : w.heap.size < W0.heap.size := by omega
      have hne : ¬ w.heap.size = W0.heap.size := by omega
      have hne2 : ¬ W0.heap.size = w.heap.size := by omega
      by_cases k0 : k = 0
      · subst k0
        have HCK0 : ck (kindOf f) r = bad := by rw [HKK.out]; rfl
        have HCK := Lib.hid HCK0
        clear HCK0
        go_wp2
        refine bodyPost_ret (v := cmdv bad) (by simp [results, Tryd.results8, go_sem, r0, r1, r2, hz0, hne, hne2]; rfl) rfl ⟨by rw [HCK.out], ?_⟩
        (repeat (first | (with_reducible exact Below.refl _ _) | (with_reducible assumption) | (with_reducible refine Below.drew ?_) | (with_reducible refine below_draws ?_ _) | ((with_reducible refine Below.setCell ?_ ?_ _); rotate_left; (first | (with_reducible exact Nat.le_refl _) | (focus (simp; done)) | (focus (simp; omega)) | omega)) | ((with_reducible refine Below.alloc ?_ ?_ _); rotate_left; (first | (with_reducible exact Nat.le_refl _) | (focus (simp; done)) | (focus (simp; omega)) | omega))))
      · have kz : ((k : Int) == 0) = false := beq_eq_false_iff_ne.2 (by omega)
        by_cases k9 : k = 9 ∨ k = 12
        · have hck : ck (kindOf f) r = if numOf r < 0 then bad else (k, numOf r, []) := by
            rw [HKK.out]; unfold ck; rw [if_neg k0, if_pos k9]
          have hNU := rnumber_any r (by omega)
          generalize numOf r = n at *
          have HC0 := Lib.hid hck
          clear hck HKK
          clear k0 kz hku hk0 hk255 hk18 HRT
          rcases k9 with rfl | rfl
          · go_wp2_with fail
            refine (hNU _).mono ?_
            rintro e w5 ⟨rfl, hb5⟩
            obtain ⟨hc5, hf5⟩ := bcell hb5
            have hz5 : W0.heap.size < w5.heap.size := by have := hb5.size; simp at this; omega
            have s0 : w5.cell? ⟨W0.heap.size, 0, none⟩ = some (.int .u8 9) := by rw [hc5 _ _ (by simp)]; simp
            have s1 : w5.cell? ⟨W0.heap.size, 1, none⟩ = some (.int .i64 0) := by rw [hc5 _ _ (by simp)]; simp
            have s2 : w5.cell? ⟨W0.heap.size, 2, none⟩ = some (.string (B [])) := by rw [hc5 _ _ (by simp)]; simp
            have s3 : ∀ o, w5.frozen? ⟨W0.heap.size, o, none⟩ = false := fun o => by rw [hf5 _ _ (by simp)]; simp
            have s4 : w5.cell? ⟨w.heap.size, 0, none⟩ = some (.int .u8 0) := by rw [hc5 _ _ (by simp; omega), cell_old _ _ hz0]; exact r0
            have s5 : w5.cell? ⟨w.heap.size, 1, none⟩ = some (.int .i64 0) := by rw [hc5 _ _ (by simp; omega), cell_old _ _ hz0]; exact r1
            have s6 : w5.cell? ⟨w.heap.size, 2, none⟩ = some (.string (B [])) := by rw [hc5 _ _ (by simp; omega), cell_old _ _ hz0]; exact r2
            have s7 : ∀ o, w5.frozen? ⟨w.heap.size, o, none⟩ = false := fun o => by rw [hf5 _ _ (by simp; omega), frozen_old _ _ hz0]; exact rf o
            have q5 : Below w.heap.size w w5 := Below.trans (hbe.alloc (by omega) _) (hb5.mono (by simp; omega))
            clear hc5 hf5 hb5 r0 r1 r2 rf hbe
            by_cases hneg : n < 0
            · have hck : ck (kindOf f) r = bad := by rw [HC0.out, if_pos hneg]
              have HCK := Lib.hid hck
              clear hck HC0
              go_wp2
              refine bodyPost_ret (v := cmdv bad) (by simp [results, Tryd.results8, go_sem, s0, s1, s2, s4, s5, s6, hne, hne2]; rfl) rfl ⟨by rw [HCK.out], ?_⟩
              (repeat (first | (with_reducible exact Below.refl _ _) | (with_reducible assumption) | (with_reducible refine Below.drew ?_) | (with_reducible refine below_draws ?_ _) | ((with_reducible refine Below.setCell ?_ ?_ _); rotate_left; (first | (with_reducible exact Nat.le_refl _) | (focus (simp; done)) | (focus (simp; omega)) | omega)) | ((with_reducible refine Below.alloc ?_ ?_ _); rotate_left; (first | (with_reducible exact Nat.le_refl _) | (focus (simp; done)) | (focus (simp; omega)) | omega))))
            · have hck : ck (kindOf f) r = (9, n, []) := by rw [HC0.out, if_neg hneg]
              have HCK := Lib.hid hck
              clear hck HC0
              go_wp2
              refine bodyPost_ret (v := cmdv (9, n, [])) (by simp [results, Tryd.results8, go_sem, s0, s1, s2, s4, s5, s6, hne, hne2]; rfl) rfl ⟨by rw [HCK.out], ?_⟩
              (repeat (first | (with_reducible exact Below.refl _ _) | (with_reducible assumption) | (with_reducible refine Below.drew ?_) | (with_reducible refine below_draws ?_ _) | ((with_reducible refine Below.setCell ?_ ?_ _); rotate_left; (first | (with_reducible exact Nat.le_refl _) | (focus (simp; done)) | (focus (simp; omega)) | omega)) | ((with_reducible refine Below.alloc ?_ ?_ _); rotate_left; (first | (with_reducible exact Nat.le_refl _) | (focus (simp; done)) | (focus (simp; omega)) | omega))))
          · go_wp2_with fail
            refine (hNU _).mono ?_
            rintro e w5 ⟨rfl, hb5⟩
            obtain ⟨hc5, hf5⟩ := bcell hb5
            have hz5 : W0.heap.size < w5.heap.size := by have := hb5.size; simp at this; omega
            have s0 : w5.cell? ⟨W0.heap.size, 0, none⟩ = some (.int .u8 12) := by rw [hc5 _ _ (by simp)]; simp
            have s1 : w5.cell? ⟨W0.heap.size, 1, none⟩ = some (.int .i64 0) := by rw [hc5 _ _ (by simp)]; simp
            have s2 : w5.cell? ⟨W0.heap.size, 2, none⟩ = some (.string (B [])) := by rw [hc5 _ _ (by simp)]; simp
            have s3 : ∀ o, w5.frozen? ⟨W0.heap.size, o, none⟩ = false := fun o => by rw [hf5 _ _ (by simp)]; simp
            have s4 : w5.cell? ⟨w.heap.size, 0, none⟩ = some (.int .u8 0) := by rw [hc5 _ _ (by simp; omega), cell_old _ _ hz0]; exact r0
            have s5 : w5.cell? ⟨w.heap.size, 1, none⟩ = some (.int .i64 0) := by rw [hc5 _ _ (by simp; omega), cell_old _ _ hz0]; exact r1
            have s6 : w5.cell? ⟨w.heap.size, 2, none⟩ = some (.string (B [])) := by rw [hc5 _ _ (by simp; omega), cell_old _ _ hz0]; exact r2
            have s7 : ∀ o, w5.frozen? ⟨w.heap.size, o, none⟩ = false := fun o => by rw [hf5 _ _ (by simp; omega), frozen_old _ _ hz0]; exact rf o
            have q5 : Below w.heap.size w w5 := Below.trans (hbe.alloc (by omega) _) (hb5.mono (by simp; omega))
            clear hc5 hf5 hb5 r0 r1 r2 rf hbe
            by_cases hneg : n < 0
            · have hck : ck (kindOf f) r = bad := by rw [HC0.out, if_pos hneg]
              have HCK := Lib.hid hck
              clear hck HC0
              go_wp2
              refine bodyPost_ret (v := cmdv bad) (by simp [results, Tryd.results8, go_sem, s0, s1, s2, s4, s5, s6, hne, hne2]; rfl) rfl ⟨by rw [HCK.out], ?_⟩
              (repeat (first | (with_reducible exact Below.refl _ _) | (with_reducible assumption) | (with_reducible refine Below.drew ?_) | (with_reducible refine below_draws ?_ _) | ((with_reducible refine Below.setCell ?_ ?_ _); rotate_left; (first | (with_reducible exact Nat.le_refl _) | (focus (simp; done)) | (focus (simp; omega)) | omega)) | ((with_reducible refine Below.alloc ?_ ?_ _); rotate_left; (first | (with_reducible exact Nat.le_refl _) | (focus (simp; done)) | (focus (simp; omega)) | omega))))
            · have hck : ck (kindOf f) r = (12, n, []) := by rw [HC0.out, if_neg hneg]
              have HCK := Lib.hid hck
              clear hck HC0
              go_wp2
              refine bodyPost_ret (v := cmdv (12, n, [])) (by simp [results, Tryd.results8, go_sem, s0, s1, s2, s4, s5, s6, hne, hne2]; rfl) rfl ⟨by rw [HCK.out], ?_⟩
              (repeat (first | (with_reducible exact Below.refl _ _) | (with_reducible assumption) | (with_reducible refine Below.drew ?_) | (with_reducible refine below_draws ?_ _) | ((with_reducible refine Below.setCell ?_ ?_ _); rotate_left; (first | (with_reducible exact Nat.le_refl _) | (focus (simp; done)) | (focus (simp; omega)) | omega)) | ((with_reducible refine Below.alloc ?_ ?_ _); rotate_left; (first | (with_reducible exact Nat.le_refl _) | (focus (simp; done)) | (focus (simp; omega)) | omega))))
        · by_cases k10 : k = 10
          · subst k10
            have hck : ck (kindOf f) r = cbrk (numOf (wd r)) (rs r) := by rw [HKK.out]; rfl
            have hWO := rcut_rt r (by omega) HRT.out
            have hNU := rnumber_any (wd r) (by
              have h3 := congrArg List.length (List.takeWhile_append_dropWhile (p := nb) (l := r))
              simp only [List.length_append] at h3
              unfold wd; omega)
            have hml : (rs r).length ≤ 1000 := by
              have h1 := trimL_len (r.dropWhile nb)
              have h3 := congrArg List.length (List.takeWhile_append_dropWhile (p := nb) (l := r))
              simp only [List.length_append] at h3
              unfold rs; omega
            have hWO2 := rcut_rt (rs r) (by omega) (rs_rt HRT.out)
            generalize wd r = y at *
            generalize rs r = x at *
            generalize numOf y = n at *
            clear HKK HRT k9 k0 kz hku hk0 hk255 hk18
            have HC0 := Lib.hid hck
            clear hck
            go_wp2_with fail
            refine (hWO _).mono ?_
            rintro e w5 ⟨rfl, hb5⟩
            obtain ⟨hc5, hf5⟩ := bcell hb5
            have hz5 : W0.heap.size < w5.heap.size := by have := hb5.size; simp at this; omega
            have s0 : w5.cell? ⟨W0.heap.size, 0, none⟩ = some (.int .u8 10) := by rw [hc5 _ _ (by simp)]; simp
            have s1 : w5.cell? ⟨W0.heap.size, 1, none⟩ = some (.int .i64 0) := by rw [hc5 _ _ (by simp)]; simp
            have s2 : w5.cell? ⟨W0.heap.size, 2, none⟩ = some (.string (B [])) := by rw [hc5 _ _ (by simp)]; simp
            have s3 : ∀ o, w5.frozen? ⟨W0.heap.size, o, none⟩ = false := fun o => by rw [hf5 _ _ (by simp)]; simp
            have s4 : w5.cell? ⟨w.heap.size, 0, none⟩ = some (.int .u8 0) := by rw [hc5 _ _ (by simp; omega), cell_old _ _ hz0]; exact r0
            have s5 : w5.cell? ⟨w.heap.size, 1, none⟩ = some (.int .i64 0) := by rw [hc5 _ _ (by simp; omega), cell_old _ _ hz0]; exact r1
            have s6 : w5.cell? ⟨w.heap.size, 2, none⟩ = some (.string (B [])) := by rw [hc5 _ _ (by simp; omega), cell_old _ _ hz0]; exact r2
            have s7 : ∀ o, w5.frozen? ⟨w.heap.size, o, none⟩ = false := fun o => by rw [hf5 _ _ (by simp; omega), frozen_old _ _ hz0]; exact rf o
            have q5 : Below w.heap.size w w5 := Below.trans (hbe.alloc (by omega) _) (hb5.mono (by simp; omega))
            clear hc5 hf5 hb5 r0 r1 r2 rf hbe
            go_wp2_with fail
            refine (hNU _).mono ?_
            rintro e w6 ⟨rfl, hb6⟩
            obtain ⟨hc6, hf6⟩ := bcell hb6
            have hz6 : W0.heap.size < w6.heap.size := by have := hb6.size; omega
            have hz6' : w.heap.size < w5.heap.size := by omega
            have t0 : w6.cell? ⟨W0.heap.size, 0, none⟩ = some (.int .u8 10) := by rw [hc6 _ _ hz5]; exact s0
            have t1 : w6.cell? ⟨W0.heap.size, 1, none⟩ = some (.int .i64 0) := by rw [hc6 _ _ hz5]; exact s1
            have t2 : w6.cell? ⟨W0.heap.size, 2, none⟩ = some (.string (B [])) := by rw [hc6 _ _ hz5]; exact s2
            have t3 : ∀ o, w6.frozen? ⟨W0.heap.size, o, none⟩ = false := fun o => by rw [hf6 _ _ hz5]; exact s3 o
            have t4 : w6.cell? ⟨w.heap.size, 0, none⟩ = some (.int .u8 0) := by rw [hc6 _ _ hz6']; exact s4
            have t5 : w6.cell? ⟨w.heap.size, 1, none⟩ = some (.int .i64 0) := by rw [hc6 _ _ hz6']; exact s5
            have t6 : w6.cell? ⟨w.heap.size, 2, none⟩ = some (.string (B [])) := by rw [hc6 _ _ hz6']; exact s6
            have t7 : ∀ o, w6.frozen? ⟨w.heap.size, o, none⟩ = false := fun o => by rw [hf6 _ _ hz6']; exact s7 o
            have q6 : Below w.heap.size w w6 := Below.trans q5 (hb6.mono (by omega))
            clear hc6 hf6 hb6 s0 s1 s2 s3 s4 s5 s6 s7 q5 hz6'
            by_cases hn1 : n < 1
            · have hck : ck (kindOf f) r = bad := by rw [HC0.out, cbrk, if_pos hn1]
              have HCK := Lib.hid hck
              clear hck HC0
              go_wp2
              refine bodyPost_ret (v := cmdv bad) (by simp [results, Tryd.results8, go_sem, t0, t1, t2, t4, t5, t6, hne, hne2]; rfl) rfl ⟨by rw [HCK.out], ?_⟩
              (repeat (first | (with_reducible exact Below.refl _ _) | (with_reducible assumption) | (with_reducible refine Below.drew ?_) | (with_reducible refine below_draws ?_ _) | ((with_reducible refine Below.setCell ?_ ?_ _); rotate_left; (first | (with_reducible exact Nat.le_refl _) | (focus (simp; done)) | (focus (simp; omega)) | omega)) | ((with_reducible refine Below.alloc ?_ ?_ _); rotate_left; (first | (with_reducible exact Nat.le_refl _) | (focus (simp; done)) | (focus (simp; omega)) | omega))))
            · by_cases hx : x = []
              · subst hx
                have hck : ck (kindOf f) r = (10, n, []) := by rw [HC0.out, cbrk, if_neg hn1, if_pos rfl]
                have HCK := Lib.hid hck
                clear hck HC0
                go_wp2
                refine bodyPost_ret (v := cmdv (10, n, [])) (by simp [results, Tryd.results8, go_sem, t0, t1, t2, t4, t5, t6, hne, hne2]; rfl) rfl ⟨by rw [HCK.out], ?_⟩
                (repeat (first | (with_reducible exact Below.refl _ _) | (with_reducible assumption) | (with_reducible refine Below.drew ?_) | (with_reducible refine below_draws ?_ _) | ((with_reducible refine Below.setCell ?_ ?_ _); rotate_left; (first | (with_reducible exact Nat.le_refl _) | (focus (simp; done)) | (focus (simp; omega)) | omega)) | ((with_reducible refine Below.alloc ?_ ?_ _); rotate_left; (first | (with_reducible exact Nat.le_refl _) | (focus (simp; done)) | (focus (simp; omega)) | omega))))
              · have hxb : (x == []) = false := beq_eq_false_iff_ne.2 hx
                have hck : ck (kindOf f) r = if wd x = ifw ∧ rs x ≠ [] then (10, n, rs x) else bad := by rw [HC0.out, cbrk, if_neg hn1, if_neg hx]
                generalize wd x = y2 at *
                generalize rs x = x2 at *
                have HC1 := Lib.hid hck
                clear hck HC0
                go_wp2_with fail
                refine (hWO2 _).mono ?_
                rintro e w7 ⟨rfl, hb7⟩
                obtain ⟨hc7, hf7⟩ := bcell hb7
                have hz7 : W0.heap.size < w7.heap.size := by have := hb7.size; simp [World.setCell] at this; omega
                have hz8 : W0.heap.size < (w6.setCell ⟨W0.heap.size, 1, none⟩ (.int .i64 n)).heap.size := by simp [World.setCell]; omega
                have hz8' : w.heap.size < (w6.setCell ⟨W0.heap.size, 1, none⟩ (.int .i64 n)).heap.size := by omega
                have u0 : w7.cell? ⟨W0.heap.size, 0, none⟩ = some (.int .u8 10) := by rw [hc7 _ _ hz8, World.cell?_setCell_other _ _ _ _ (by simp)]; exact t0
                have u1 : w7.cell? ⟨W0.heap.size, 1, none⟩ = some (.int .i64 n) := by rw [hc7 _ _ hz8]; exact World.cell?_setCell_same _ _ _ t1
                have u2 : w7.cell? ⟨W0.heap.size, 2, none⟩ = some (.string (B [])) := by rw [hc7 _ _ hz8, World.cell?_setCell_other _ _ _ _ (by simp)]; exact t2
                have u3 : ∀ o, w7.frozen? ⟨W0.heap.size, o, none⟩ = false := fun o => by rw [hf7 _ _ hz8, World.frozen?_setCell]; exact t3 o
                have u4 : w7.cell? ⟨w.heap.size, 0, none⟩ = some (.int .u8 0) := by rw [hc7 _ _ hz8', World.cell?_setCell_other _ _ _ _ (by simp)]; exact t4
                have u5 : w7.cell? ⟨w.heap.size, 1, none⟩ = some (.int .i64 0) := by rw [hc7 _ _ hz8', World.cell?_setCell_other _ _ _ _ (by simp [hne, hne2])]; exact t5
                have u6 : w7.cell? ⟨w.heap.size, 2, none⟩ = some (.string (B [])) := by rw [hc7 _ _ hz8', World.cell?_setCell_other _ _ _ _ (by simp)]; exact t6
                have u7 : ∀ o, w7.frozen? ⟨w.heap.size, o, none⟩ = false := fun o => by rw [hf7 _ _ hz8', World.frozen?_setCell]; exact t7 o
                have q8 : Below w.heap.size w (w6.setCell ⟨W0.heap.size, 1, none⟩ (.int .i64 n)) := q6.setCell (by simp; omega) _
                have q7 : Below w.heap.size w w7 := Below.trans q8 (hb7.mono (by omega))
                clear hc7 hf7 hb7 q8 t0 t1 t2 t3 t4 t5 t6 t7 q6 hz8 hz8'
                by_cases hif : y2 = ifw
                · have hifb : (y2 == [105, 102]) = true := beq_iff_eq.2 hif
                  by_cases hx2 : x2 = []
                  · have hck : ck (kindOf f) r = bad := by rw [HC1.out, if_neg (by rintro ⟨_, h⟩; exact h hx2)]
                    have HCK := Lib.hid hck
                    clear hck HC1
                    subst hx2
                    go_wp2
                    refine bodyPost_ret (v := cmdv bad) (by simp [results, Tryd.results8, go_sem, u0, u1, u2, u4, u5, u6, hne, hne2]; rfl) rfl ⟨by rw [HCK.out], ?_⟩
                    (repeat (first | (with_reducible exact Below.refl _ _) | (with_reducible assumption) | (with_reducible refine Below.drew ?_) | (with_reducible refine below_draws ?_ _) | ((with_reducible refine Below.setCell ?_ ?_ _); rotate_left; (first | (with_reducible exact Nat.le_refl _) | (focus (simp; done)) | (focus (simp; omega)) | omega)) | ((with_reducible refine Below.alloc ?_ ?_ _); rotate_left; (first | (with_reducible exact Nat.le_refl _) | (focus (simp; done)) | (focus (simp; omega)) | omega))))
                  · have hx2b : (x2 == []) = false := beq_eq_false_iff_ne.2 hx2
                    have hck : ck (kindOf f) r = (10, n, x2) := by rw [HC1.out, if_pos ⟨hif, hx2⟩]
                    have HCK := Lib.hid hck
                    clear hck HC1
                    go_wp2
                    refine bodyPost_ret (v := cmdv (10, n, x2)) (by simp [results, Tryd.results8, go_sem, u0, u1, u2, u4, u5, u6, hne, hne2]; rfl) rfl ⟨by rw [HCK.out], ?_⟩
                    (repeat (first | (with_reducible exact Below.refl _ _) | (with_reducible assumption) | (with_reducible refine Below.drew ?_) | (with_reducible refine below_draws ?_ _) | ((with_reducible refine Below.setCell ?_ ?_ _); rotate_left; (first | (with_reducible exact Nat.le_refl _) | (focus (simp; done)) | (focus (simp; omega)) | omega)) | ((with_reducible refine Below.alloc ?_ ?_ _); rotate_left; (first | (with_reducible exact Nat.le_refl _) | (focus (simp; done)) | (focus (simp; omega)) | omega))))
                · have hifb : (y2 == [105, 102]) = false := beq_eq_false_iff_ne.2 hif
                  have hck : ck (kindOf f) r = bad := by rw [HC1.out, if_neg (by rintro ⟨h, _⟩; exact hif h)]
                  have HCK := Lib.hid hck
                  clear hck HC1
                  go_wp2
                  refine bodyPost_ret (v := cmdv bad) (by simp [results, Tryd.results8, go_sem, u0, u1, u2, u4, u5, u6, hne, hne2]; rfl) rfl ⟨by rw [HCK.out], ?_⟩
                  (repeat (first | (with_reducible exact Below.refl _ _) | (with_reducible assumption) | (with_reducible refine Below.drew ?_) | (with_reducible refine below_draws ?_ _) | ((with_reducible refine Below.setCell ?_ ?_ _); rotate_left; (first | (with_reducible exact Nat.le_refl _) | (focus (simp; done)) | (focus (simp; omega)) | omega)) | ((with_reducible refine Below.alloc ?_ ?_ _); rotate_left; (first | (with_reducible exact Nat.le_refl _) | (focus (simp; done)) | (focus (simp; omega)) | omega))))
          · have kt : ((k : Int) == 10) = false := beq_eq_false_iff_ne.2 (by omega)
            have kn : ((k : Int) == 9) = false := beq_eq_false_iff_ne.2 (by omega)
            have kw : ((k : Int) == 12) = false := beq_eq_false_iff_ne.2 (by omega)
            by_cases k11 : k = 11 ∨ k = 14
            · have hck : ck (kindOf f) r = if r = [] then bad else (k, 0, r) := by
                rw [HKK.out]; unfold ck
                rw [if_neg k0, if_neg k9, if_neg k10, if_pos k11]
              have HC0 := Lib.hid hck
              clear hck k9 HKK HRT
              by_cases hx : r = []
              · have hck : ck (kindOf f) r = bad := by rw [HC0.out, if_pos hx]
                have HCK := Lib.hid hck
                clear hck HC0
                subst hx
                rcases k11 with rfl | rfl
                all_goals go_wp2
                all_goals (
                  refine bodyPost_ret (v := cmdv bad) (by simp [results, Tryd.results8, go_sem, r0, r1, r2, hz0, hne, hne2]; rfl) rfl ⟨by rw [HCK.out], ?_⟩
                  (repeat (first | (with_reducible exact Below.refl _ _) | (with_reducible assumption) | (with_reducible refine Below.drew ?_) | (with_reducible refine below_draws ?_ _) | ((with_reducible refine Below.setCell ?_ ?_ _); rotate_left; (first | (with_reducible exact Nat.le_refl _) | (focus (simp; done)) | (focus (simp; omega)) | omega)) | ((with_reducible refine Below.alloc ?_ ?_ _); rotate_left; (first | (with_reducible exact Nat.le_refl _) | (focus (simp; done)) | (focus (simp; omega)) | omega)))))
              · have hxb : (r == []) = false := beq_eq_false_iff_ne.2 hx
                have hck : ck (kindOf f) r = (k, 0, r) := by rw [HC0.out, if_neg hx]
                have HCK := Lib.hid hck
                clear hck HC0
                rcases k11 with rfl | rfl
                · go_wp2
                  refine bodyPost_ret (v := cmdv (11, 0, r)) (by simp [results, Tryd.results8, go_sem, r0, r1, r2, hz0, hne, hne2]; rfl) rfl ⟨by rw [HCK.out], ?_⟩
                  (repeat (first | (with_reducible exact Below.refl _ _) | (with_reducible assumption) | (with_reducible refine Below.drew ?_) | (with_reducible refine below_draws ?_ _) | ((with_reducible refine Below.setCell ?_ ?_ _); rotate_left; (first | (with_reducible exact Nat.le_refl _) | (focus (simp; done)) | (focus (simp; omega)) | omega)) | ((with_reducible refine Below.alloc ?_ ?_ _); rotate_left; (first | (with_reducible exact Nat.le_refl _) | (focus (simp; done)) | (focus (simp; omega)) | omega))))
                · go_wp2
                  refine bodyPost_ret (v := cmdv (14, 0, r)) (by simp [results, Tryd.results8, go_sem, r0, r1, r2, hz0, hne, hne2]; rfl) rfl ⟨by rw [HCK.out], ?_⟩
                  (repeat (first | (with_reducible exact Below.refl _ _) | (with_reducible assumption) | (with_reducible refine Below.drew ?_) | (with_reducible refine below_draws ?_ _) | ((with_reducible refine Below.setCell ?_ ?_ _); rotate_left; (first | (with_reducible exact Nat.le_refl _) | (focus (simp; done)) | (focus (simp; omega)) | omega)) | ((with_reducible refine Below.alloc ?_ ?_ _); rotate_left; (first | (with_reducible exact Nat.le_refl _) | (focus (simp; done)) | (focus (simp; omega)) | omega))))
            · have ke : ((k : Int) == 11) = false := beq_eq_false_iff_ne.2 (by omega)
              have kf : ((k : Int) == 14) = false := beq_eq_false_iff_ne.2 (by omega)
              have hck : ck (kindOf f) r = if r = [] then (k, 0, []) else bad := by
                rw [HKK.out]; unfold ck
                rw [if_neg k0, if_neg k9, if_neg k10, if_neg k11]
              have HC0 := Lib.hid hck
              clear hck k9 k11 HKK HRT
              by_cases hx : r = []
              · have hck : ck (kindOf f) r = (k, 0, []) := by rw [HC0.out, if_pos hx]
                have HCK := Lib.hid hck
                clear hck HC0
                subst hx
                go_wp2
                refine bodyPost_ret (v := cmdv (k, 0, [])) (by simp [results, Tryd.results8, go_sem, r0, r1, r2, hz0, hne, hne2]; rfl) rfl ⟨by rw [HCK.out], ?_⟩
                (repeat (first | (with_reducible exact Below.refl _ _) | (with_reducible assumption) | (with_reducible refine Below.drew ?_) | (with_reducible refine below_draws ?_ _) | ((with_reducible refine Below.setCell ?_ ?_ _); rotate_left; (first | (with_reducible exact Nat.le_refl _) | (focus (simp; done)) | (focus (simp; omega)) | omega)) | ((with_reducible refine Below.alloc ?_ ?_ _); rotate_left; (first | (with_reducible exact Nat.le_refl _) | (focus (simp; done)) | (focus (simp; omega)) | omega))))
              · have hxb : (r == []) = false := beq_eq_false_iff_ne.2 hx
                have hck : ck (kindOf f) r = bad := by rw [HC0.out, if_neg hx]
                have HCK := Lib.hid hck
                clear hck HC0
                go_wp2
                refine bodyPost_ret (v := cmdv bad) (by simp [results, Tryd.results8, go_sem, r0, r1, r2, hz0, hne, hne2]; rfl) rfl ⟨by rw [HCK.out], ?_⟩
                (repeat (first | (with_reducible exact Below.refl _ _) | (with_reducible assumption) | (with_reducible refine Below.drew ?_) | (with_reducible refine below_draws ?_ _) | ((with_reducible refine Below.setCell ?_ ?_ _); rotate_left; (first | (with_reducible exact Nat.le_refl _) | (focus (simp; done)) | (focus (simp; omega)) | omega)) | ((with_reducible refine Below.alloc ?_ ?_ _); rotate_left; (first | (with_reducible exact Nat.le_refl _) | (focus (simp; done)) | (focus (simp; omega)) | omega))))

/-- The reference's Parse, whatever the line. -/
theorem rcparse_any (l : List UInt8) (hl : l.length < 1000000) (w : World) :
    Calls Tryd.prog 8 #[.string (B l)] w fun e w' => e = .returned (cmdv (cp l)) ∧ Below w.heap.size w w' := by
  unfold cp
  by_cases h : 1000 < l.length ∨ (10 : UInt8) ∈ l
  · rw [if_pos h]; exact rparse_bad l hl h w
  · rw [if_neg h]; exact rparse_good l (by omega) (fun x => h (Or.inr x)) w
end Go.Proofs.YtbgigkfdenkfiaaDoor
