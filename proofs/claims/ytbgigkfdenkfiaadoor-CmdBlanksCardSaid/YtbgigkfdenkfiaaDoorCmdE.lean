/- The cmd seat, part E: cmd.Parse. -/
import Derived.Test.YtbgigkfdenkfiaaDoorCmdD
namespace Go.Proofs.YtbgigkfdenkfiaaDoor
open Go.RowKit
attribute [local go_sem] B_mk B_size B_toList B_extract B_append B_get

def cmdv (c : C3) : Value := .agg #[.int .u8 c.1, .int .i64 c.2.1, .string (B c.2.2)]

set_option maxHeartbeats 4000000 in
theorem parse_bad (l : List UInt8) (hl : l.length < 1000000) (h : 1000 < l.length ∨ (10 : UInt8) ∈ l) (w : World) :
    Calls Tryd.prog 7 #[.string (B l)] w fun e w' => e = .returned (cmdv bad) ∧ Below w.heap.size w w' := by
  by_cases h1 : 1000 < l.length
  · have h1' : (1000 : Int) < (l.length : Int) := by omega
    go_enter Tryd.func7, Tryd.ntmps7
    go_wp2
    exact bodyPost_ret (v := cmdv bad) (by simp [results, Tryd.results7, go_sem]; rfl) rfl ⟨rfl, (by (repeat (first | (with_reducible exact Below.refl _ _) | (with_reducible assumption) | (with_reducible refine Below.drew ?_) | (with_reducible refine below_draws ?_ _) | ((with_reducible refine Below.setCell ?_ ?_ _); rotate_left; (first | (with_reducible exact Nat.le_refl _) | (focus (simp; done)) | (focus (simp; omega)) | omega)) | ((with_reducible refine Below.alloc ?_ ?_ _); rotate_left; (first | (with_reducible exact Nat.le_refl _) | (focus (simp; done)) | (focus (simp; omega)) | omega)))))⟩
  · have h2 : decide ((10 : UInt8) ∈ l) = true := decide_eq_true (h.resolve_left h1)
    have h1' : ¬ (1000 : Int) < (l.length : Int) := by omega
    go_enter Tryd.func7, Tryd.ntmps7
    go_wp2_with (go_at_call 13; refine (contains_nl _ _).mono ?_; rintro e w' ⟨rfl, hw⟩; rw [hw, h2])
    exact bodyPost_ret (v := cmdv bad) (by simp [results, Tryd.results7, go_sem]; rfl) rfl ⟨rfl, (by (repeat (first | (with_reducible exact Below.refl _ _) | (with_reducible assumption) | (with_reducible refine Below.drew ?_) | (with_reducible refine below_draws ?_ _) | ((with_reducible refine Below.setCell ?_ ?_ _); rotate_left; (first | (with_reducible exact Nat.le_refl _) | (focus (simp; done)) | (focus (simp; omega)) | omega)) | ((with_reducible refine Below.alloc ?_ ?_ _); rotate_left; (first | (with_reducible exact Nat.le_refl _) | (focus (simp; done)) | (focus (simp; omega)) | omega)))))⟩

theorem cell_old {w : World} (o : Obj) (p : Addr) (hp : p.block < w.heap.size) : (w.alloc o).cell? p = w.cell? p := by
  obtain ⟨b, i, e⟩ := p
  simp only [World.cell?, World.alloc, Array.getElem?_push]
  rw [if_neg (by simp at hp; omega)]
theorem frozen_old {w : World} (o : Obj) (p : Addr) (hp : p.block < w.heap.size) : (w.alloc o).frozen? p = w.frozen? p := by
  obtain ⟨b, i, e⟩ := p
  simp only [World.frozen?, World.alloc, Array.getElem?_push]
  rw [if_neg (by simp at hp; omega)]
/-- The world in cmd.Parse: the result's cells, the command's, the words'. -/
structure PW (b0 b1 : Nat) (w : World) (k : Nat) (wr : World) : Prop where
  c0 : wr.cell? ⟨b1, 0, none⟩ = some (.int .u8 k)
  c1 : wr.cell? ⟨b1, 1, none⟩ = some (.int .i64 0)
  c2 : wr.cell? ⟨b1, 2, none⟩ = some (.string (B []))
  cf : ∀ o, wr.frozen? ⟨b1, o, none⟩ = false
  r0 : wr.cell? ⟨b0, 0, none⟩ = some (.int .u8 0)
  r1 : wr.cell? ⟨b0, 1, none⟩ = some (.int .i64 0)
  r2 : wr.cell? ⟨b0, 2, none⟩ = some (.string (B []))
  rf : ∀ o, wr.frozen? ⟨b0, o, none⟩ = false
  wc : WC (b1 + 1) wr
  be : Below b0 w wr
  sz : b1 + 1 < wr.heap.size

set_option maxHeartbeats 4000000 in
theorem parse_good (l : List UInt8) (hl : l.length ≤ 1000) (h : ¬ (10 : UInt8) ∈ l) (w : World) :
    Calls Tryd.prog 7 #[.string (B l)] w fun e w' => e = .returned (cmdv (ck (kindOf (wd (trim l))) (rs (trim l)))) ∧ Below w.heap.size w w' := by
  have h2 : decide ((10 : UInt8) ∈ l) = false := decide_eq_false h
  have h1' : ¬ (1000 : Int) < (l.length : Int) := by omega
  have ht := trim_len l
  have hrt := rs_rt (rt_trim l)
  have hT := strim l (by omega)
  have hW := word_any (trim l) (by omega)
  have hk := kindOf_le (wd (trim l))
  have hrl : (rs (trim l)).length ≤ 1000 := by
    have h1 := trimL_len ((trim l).dropWhile nb)
    have h3 := congrArg List.length (List.takeWhile_append_dropWhile (p := nb) (l := trim l))
    simp only [List.length_append] at h3
    unfold rs; omega
  clear ht
  generalize trim l = t at *
  generalize wd t = f at *
  generalize rs t = r at *
  have HRT := Lib.hid hrt
  have HK := Lib.hid hk
  clear hrt hk h
  go_enter Tryd.func7, Tryd.ntmps7
  go_wp2_with (go_at_call 13; refine (contains_nl _ _).mono ?_; rintro e w' ⟨rfl, hw⟩; rw [hw, h2])
  refine (hT _).mono ?_
  rintro e w1 ⟨rfl, hb1⟩
  go_wp2_with fail
  refine (hW _).mono ?_
  rintro e w2 ⟨rfl, hb2⟩
  obtain ⟨hc1, hf1⟩ := bcell hb1
  obtain ⟨hc2, hf2⟩ := bcell hb2
  have hz1 : w.heap.size < w1.heap.size := by have := hb1.size; simp at this; omega
  have hz2 : w.heap.size < w2.heap.size := by have := hb2.size; omega
  have q2 : Below w.heap.size w w2 := Below.trans (Below.trans (by (repeat (first | (with_reducible exact Below.refl _ _) | (with_reducible assumption) | (with_reducible refine Below.drew ?_) | (with_reducible refine below_draws ?_ _) | ((with_reducible refine Below.setCell ?_ ?_ _); rotate_left; (first | (with_reducible exact Nat.le_refl _) | (focus (simp; done)) | (focus (simp; omega)) | omega)) | ((with_reducible refine Below.alloc ?_ ?_ _); rotate_left; (first | (with_reducible exact Nat.le_refl _) | (focus (simp; done)) | (focus (simp; omega)) | omega))))) (hb1.mono (by simp))) (hb2.mono (by omega))
  have r0 : w2.cell? ⟨w.heap.size, 0, none⟩ = some (.int .u8 0) := by rw [hc2 _ _ hz1, hc1 _ _ (by simp)]; simp
  have r1 : w2.cell? ⟨w.heap.size, 1, none⟩ = some (.int .i64 0) := by rw [hc2 _ _ hz1, hc1 _ _ (by simp)]; simp
  have r2 : w2.cell? ⟨w.heap.size, 2, none⟩ = some (.string (B [])) := by rw [hc2 _ _ hz1, hc1 _ _ (by simp)]; simp
  have rf : ∀ o, w2.frozen? ⟨w.heap.size, o, none⟩ = false := fun o => by rw [hf2 _ _ hz1, hf1 _ _ (by simp)]; simp
  have q3 : Below w.heap.size w (w2.alloc (.cells #[.int .u8 0, .int .i64 0, .string (B [])] 24)) := q2.alloc (by omega) _
  clear hb1 hb2 hT hW hc1 hc2 hf1 hf2
  go_wp2_with fail
  refine (words_any _).mono ?_
  rintro e w3 ⟨rfl, hw3⟩
  rw [hw3]
  have hWC := wc_new (w2.alloc (.cells #[.int .u8 0, .int .i64 0, .string (B [])] 24)) 9
  have q4 : Below w.heap.size w ((w2.alloc (.cells #[.int .u8 0, .int .i64 0, .string (B [])] 24)).alloc (.cells wordCells 9)) := q3.alloc (by simp; omega) _
  have hS : PW w.heap.size w2.heap.size w (kd f 0) ((w2.alloc (.cells #[.int .u8 0, .int .i64 0, .string (B [])] 24)).alloc (.cells wordCells 9)) := by
    refine ⟨?_, ?_, ?_, ?_, ?_, ?_, ?_, ?_, ?_, q4, ?_⟩
    · simp [kd]
    · simp
    · simp
    · intro o; simp
    · rw [cell_old _ _ (by simp; omega), cell_old _ _ hz2]; exact r0
    · rw [cell_old _ _ (by simp; omega), cell_old _ _ hz2]; exact r1
    · rw [cell_old _ _ (by simp; omega), cell_old _ _ hz2]; exact r2
    · intro o; rw [frozen_old _ _ (by simp; omega), frozen_old _ _ hz2]; exact rf o
    · simpa using hWC
    · simp
  clear hWC q2 q3 q4 r0 r1 r2 rf hw hw3
  go_wp2
  go_loopw [28] (fun x wr => ∃ i : Nat, x = .int .i64 (i : Int) ∧ i ≤ 19 ∧ PW w.heap.size w2.heap.size w (kd f i) wr) (fun x _ => 19 - (intOf x).toNat)
  case atStart => exact ⟨0, rfl, by omega, hS⟩
  case round =>
    clear hS
    obtain ⟨i, rfl, hi, hP⟩ := hrel
    by_cases hlt : i < 19
    · have hwi := hP.wc i hlt
      have hi1 : (i : Int) < 19 := by omega
      have hi2 : (i : Int) < 256 := by omega
      by_cases hm : 0 < i ∧ ws i = f
      · obtain ⟨hm1, hm2⟩ := hm
        have hkd : kd f (i + 1) = i := by rw [kd, if_pos ⟨hm1, hm2⟩]
        have hm3 : (0 : Int) < (i : Int) := by omega
        have hu : IntKind.u8.wrap (i : Int) = (i : Int) := by
          unfold IntKind.wrap; simp [IntKind.bits, IntKind.signed]; omega
        have hc0 := hP.c0
        have hcf := hP.cf 0
        rw [hm2] at hwi
        have HKD := Lib.hid hkd
        have HP := Lib.hid hP
        clear hkd hP hm2
        go_wp2
        go_roundw
        case rel =>
          obtain ⟨p0, p1, p2, p3, p4, p5, p6, p7, p8, p9, p10⟩ := HP.out
          refine ⟨i + 1, rfl, by omega, ?_⟩
          rw [HKD.out]
          refine ⟨?_, ?_, ?_, ?_, ?_, ?_, ?_, ?_, ?_, ?_, ?_⟩
          · exact World.cell?_setCell_same _ _ _ p0
          · rw [World.cell?_setCell_other _ _ _ _ (by simp)]; exact p1
          · rw [World.cell?_setCell_other _ _ _ _ (by simp)]; exact p2
          · intro o; rw [World.frozen?_setCell]; exact p3 o
          · rw [World.cell?_setCell_other _ _ _ _ (by first | (simp; done) | (simp; omega))]; exact p4
          · rw [World.cell?_setCell_other _ _ _ _ (by first | (simp; done) | (simp; omega))]; exact p5
          · rw [World.cell?_setCell_other _ _ _ _ (by first | (simp; done) | (simp; omega))]; exact p6
          · intro o; rw [World.frozen?_setCell]; exact p7 o
          · exact wc_store p8 _ (by omega)
          · exact p9.setCell (by simp; omega) _
          · simpa [World.setCell] using p10
        case measure => simp [intOf]; omega
      · have hkd : kd f (i + 1) = kd f i := by rw [kd, if_neg hm]
        have hP2 : PW w.heap.size w2.heap.size w (kd f (i + 1)) wr := by rw [hkd]; exact hP
        have HP := Lib.hid hP2
        clear hkd hP hP2
        have hcase : i = 0 ∨ (0 < i ∧ ¬ ws i = f) := by
          by_cases h0 : i = 0
          · exact Or.inl h0
          · exact Or.inr ⟨by omega, fun e => hm ⟨by omega, e⟩⟩
        clear hm
        rcases hcase with rfl | ⟨h0, hne⟩
        · go_wp2
          go_roundw
          case rel => exact ⟨1, by go_num, by omega, HP.out⟩
          case measure => simp [intOf]
        · have h0' : (0 : Int) < (i : Int) := by omega
          have hbe : (ws i == f) = false := beq_eq_false_iff_ne.2 hne
          go_wp2
          go_roundw
          case rel => exact ⟨i + 1, rfl, by omega, HP.out⟩
          case measure => simp [intOf]; omega
    · obtain rfl : i = 19 := by omega
      have hk18 : kd f 19 ≤ 18 := HK.out
      have HKK0 : kindOf f = kd f 19 := rfl
      have HKK := Lib.hid HKK0
      clear HK HKK0
      generalize kd f 19 = k at *
      obtain ⟨p0, p1, p2, p3, p4, p5, p6, p7, p8, p9, p10⟩ := hP
      clear p8 hi hlt
      have hk255 : (k : Int) ≤ 18 := by omega
      have hne : ¬ w.heap.size = w2.heap.size := by omega
      by_cases k0 : k = 0
      · subst k0
        have HCK0 : ck (kindOf f) r = bad := by rw [HKK.out]; rfl
        have HCK := Lib.hid HCK0
        clear HCK0
        have hn : (((0 : Nat) : Int) == 9 || ((0 : Nat) : Int) == 10 || ((0 : Nat) : Int) == 12) = false := by decide
        go_wp2_with (first
          | (go_at_call 17; refine (numbered_any _ _).mono ?_; rintro e w' ⟨rfl, rfl⟩; first | rw [hn] | skip))
        refine bodyPost_ret (v := cmdv bad) (by simp [results, Tryd.results7, go_sem, p4, p5, p6]; rfl) rfl ⟨by rw [HCK.out], ?_⟩
        (repeat (first | (with_reducible exact Below.refl _ _) | (with_reducible assumption) | (with_reducible refine Below.drew ?_) | (with_reducible refine below_draws ?_ _) | ((with_reducible refine Below.setCell ?_ ?_ _); rotate_left; (first | (with_reducible exact Nat.le_refl _) | (focus (simp; done)) | (focus (simp; omega)) | omega)) | ((with_reducible refine Below.alloc ?_ ?_ _); rotate_left; (first | (with_reducible exact Nat.le_refl _) | (focus (simp; done)) | (focus (simp; omega)) | omega))))
      · have kz : ((k : Int) == 0) = false := beq_eq_false_iff_ne.2 (by omega)
        by_cases k9 : k = 9 ∨ k = 12
        · have hn : ((k : Int) == 9 || (k : Int) == 10 || (k : Int) == 12) = true := by
            rcases k9 with rfl | rfl <;> decide
          have ht : ((k : Int) == 11 || (k : Int) == 14) = false := by
            rcases k9 with rfl | rfl <;> decide
          have kt : ((k : Int) == 10) = false := by
            rcases k9 with rfl | rfl <;> decide
          have hck : ck (kindOf f) r = if rs r = [] then (if numOf (wd r) < 0 then bad else (k, numOf (wd r), [])) else bad := by
            rw [HKK.out]
            unfold ck
            rw [if_neg k0, if_pos k9]
            by_cases hd : r.dropWhile nb = []
            · have e1 := wd_all hd
              have e2 : rs r = [] := by unfold rs; rw [hd]; rfl
              rw [e1, if_pos e2]
            · have e2 := rs_ne HRT.out hd
              rw [if_neg e2, numOf_bl r (dropW_mem hd), if_pos (by omega)]
          have hNU := number_any (wd r) (by
            have h3 := congrArg List.length (List.takeWhile_append_dropWhile (p := nb) (l := r))
            simp only [List.length_append] at h3
            unfold wd; omega)
          have hWO := word_any r (by omega)
          generalize wd r = y at *
          generalize rs r = x at *
          generalize numOf y = n at *
          clear k9 HKK HRT
          have HC0 := Lib.hid hck
          clear hck
          go_wp2_with (first
            | (go_at_call 17; (with_reducible refine (numbered_any _ _).mono ?_); rintro e w' ⟨rfl, rfl⟩; rw [hn])
            | (go_at_call 19; (with_reducible refine (texted_any _ _).mono ?_); rintro e w' ⟨rfl, rfl⟩; rw [ht]))
          refine (hWO _).mono ?_
          rintro e w5 ⟨rfl, hb5⟩
          obtain ⟨hc5, hf5⟩ := bcell hb5
          have hz5 : w2.heap.size + 1 < w5.heap.size := by have := hb5.size; omega
          have s0 : w5.cell? ⟨w2.heap.size, 0, none⟩ = some (.int .u8 (k : Int)) := by rw [hc5 _ _ (by omega)]; exact p0
          have s1 : w5.cell? ⟨w2.heap.size, 1, none⟩ = some (.int .i64 0) := by rw [hc5 _ _ (by omega)]; exact p1
          have s2 : w5.cell? ⟨w2.heap.size, 2, none⟩ = some (.string (B [])) := by rw [hc5 _ _ (by omega)]; exact p2
          have s3 : ∀ o, w5.frozen? ⟨w2.heap.size, o, none⟩ = false := fun o => by rw [hf5 _ _ (by omega)]; exact p3 o
          have s4 : w5.cell? ⟨w.heap.size, 0, none⟩ = some (.int .u8 0) := by rw [hc5 _ _ (by omega)]; exact p4
          have s5 : w5.cell? ⟨w.heap.size, 1, none⟩ = some (.int .i64 0) := by rw [hc5 _ _ (by omega)]; exact p5
          have s6 : w5.cell? ⟨w.heap.size, 2, none⟩ = some (.string (B [])) := by rw [hc5 _ _ (by omega)]; exact p6
          have s7 : ∀ o, w5.frozen? ⟨w.heap.size, o, none⟩ = false := fun o => by rw [hf5 _ _ (by omega)]; exact p7 o
          have q5 : Below w.heap.size w w5 := Below.trans p9 (hb5.mono (by omega))
          clear hc5 hf5 hb5 p0 p1 p2 p3 p4 p5 p6 p7 p9 p10
          go_wp2_with fail
          refine (hNU _).mono ?_
          rintro e w6 ⟨rfl, rfl⟩
          by_cases hx : x = []
          · subst hx
            by_cases hneg : n < 0
            · have hck : ck (kindOf f) r = bad := by rw [HC0.out, if_pos rfl, if_pos hneg]
              have HCK := Lib.hid hck
              clear hck HC0
              go_wp2_with (first
            | (go_at_call 17; (with_reducible refine (numbered_any _ _).mono ?_); rintro e w' ⟨rfl, rfl⟩; rw [hn])
            | (go_at_call 19; (with_reducible refine (texted_any _ _).mono ?_); rintro e w' ⟨rfl, rfl⟩; rw [ht]))
              refine bodyPost_ret (v := cmdv bad) (by simp [results, Tryd.results7, go_sem, s0, s1, s2, s4, s5, s6, hne]; rfl) rfl ⟨by rw [HCK.out], ?_⟩
              (repeat (first | (with_reducible exact Below.refl _ _) | (with_reducible assumption) | (with_reducible refine Below.drew ?_) | (with_reducible refine below_draws ?_ _) | ((with_reducible refine Below.setCell ?_ ?_ _); rotate_left; (first | (with_reducible exact Nat.le_refl _) | (focus (simp; done)) | (focus (simp; omega)) | omega)) | ((with_reducible refine Below.alloc ?_ ?_ _); rotate_left; (first | (with_reducible exact Nat.le_refl _) | (focus (simp; done)) | (focus (simp; omega)) | omega))))
            · have hck : ck (kindOf f) r = (k, n, []) := by rw [HC0.out, if_pos rfl, if_neg hneg]
              have HCK := Lib.hid hck
              clear hck HC0
              go_wp2_with (first
            | (go_at_call 17; (with_reducible refine (numbered_any _ _).mono ?_); rintro e w' ⟨rfl, rfl⟩; rw [hn])
            | (go_at_call 19; (with_reducible refine (texted_any _ _).mono ?_); rintro e w' ⟨rfl, rfl⟩; rw [ht]))
              refine bodyPost_ret (v := cmdv (k, n, [])) (by simp [results, Tryd.results7, go_sem, s0, s1, s2, s4, s5, s6, hne]; rfl) rfl ⟨by rw [HCK.out], ?_⟩
              (repeat (first | (with_reducible exact Below.refl _ _) | (with_reducible assumption) | (with_reducible refine Below.drew ?_) | (with_reducible refine below_draws ?_ _) | ((with_reducible refine Below.setCell ?_ ?_ _); rotate_left; (first | (with_reducible exact Nat.le_refl _) | (focus (simp; done)) | (focus (simp; omega)) | omega)) | ((with_reducible refine Below.alloc ?_ ?_ _); rotate_left; (first | (with_reducible exact Nat.le_refl _) | (focus (simp; done)) | (focus (simp; omega)) | omega))))
          · have hxb : (x == []) = false := beq_eq_false_iff_ne.2 hx
            have hck : ck (kindOf f) r = bad := by rw [HC0.out, if_neg hx]
            have HCK := Lib.hid hck
            clear hck HC0
            have hcase : n < 0 ∨ ¬ n < 0 := by omega
            rcases hcase with hneg | hneg
            all_goals go_wp2_with (first
            | (go_at_call 17; (with_reducible refine (numbered_any _ _).mono ?_); rintro e w' ⟨rfl, rfl⟩; rw [hn])
            | (go_at_call 19; (with_reducible refine (texted_any _ _).mono ?_); rintro e w' ⟨rfl, rfl⟩; rw [ht]))
            all_goals (
              refine bodyPost_ret (v := cmdv bad) (by simp [results, Tryd.results7, go_sem, s0, s1, s2, s4, s5, s6, hne]; rfl) rfl ⟨by rw [HCK.out], ?_⟩
              (repeat (first | (with_reducible exact Below.refl _ _) | (with_reducible assumption) | (with_reducible refine Below.drew ?_) | (with_reducible refine below_draws ?_ _) | ((with_reducible refine Below.setCell ?_ ?_ _); rotate_left; (first | (with_reducible exact Nat.le_refl _) | (focus (simp; done)) | (focus (simp; omega)) | omega)) | ((with_reducible refine Below.alloc ?_ ?_ _); rotate_left; (first | (with_reducible exact Nat.le_refl _) | (focus (simp; done)) | (focus (simp; omega)) | omega)))))
        · by_cases k10 : k = 10
          · subst k10
            have hn : (((10 : Nat) : Int) == 9 || ((10 : Nat) : Int) == 10 || ((10 : Nat) : Int) == 12) = true := by decide
            have ht : (((10 : Nat) : Int) == 11 || ((10 : Nat) : Int) == 14) = false := by decide
            have hn' : ((10 : Int) == 9 || (10 : Int) == 10 || (10 : Int) == 12) = true := by decide
            have ht' : ((10 : Int) == 11 || (10 : Int) == 14) = false := by decide
            have hck : ck (kindOf f) r = cbrk (numOf (wd r)) (rs r) := by rw [HKK.out]; rfl
            have hNU := number_any (wd r) (by
              have h3 := congrArg List.length (List.takeWhile_append_dropWhile (p := nb) (l := r))
              simp only [List.length_append] at h3
              unfold wd; omega)
            have hWO := word_any r (by omega)
            have hml : (rs r).length ≤ 1000 := by
              have h1 := trimL_len (r.dropWhile nb)
              have h3 := congrArg List.length (List.takeWhile_append_dropWhile (p := nb) (l := r))
              simp only [List.length_append] at h3
              unfold rs; omega
            generalize wd r = y at *
            generalize rs r = x at *
            generalize numOf y = n at *
            have hWO2 := word_any x (by omega)
            clear HKK HRT k9
            have HC0 := Lib.hid hck
            clear hck
            go_wp2_with (first
              | (go_at_call 17; (with_reducible refine (numbered_any _ _).mono ?_); rintro e w' ⟨rfl, rfl⟩; first | rw [hn] | rw [hn'])
              | (go_at_call 19; (with_reducible refine (texted_any _ _).mono ?_); rintro e w' ⟨rfl, rfl⟩; first | rw [ht] | rw [ht']))
            refine (hWO _).mono ?_
            rintro e w5 ⟨rfl, hb5⟩
            obtain ⟨hc5, hf5⟩ := bcell hb5
            have hz5 : w2.heap.size + 1 < w5.heap.size := by have := hb5.size; omega
            have s0 : w5.cell? ⟨w2.heap.size, 0, none⟩ = some (.int .u8 10) := by rw [hc5 _ _ (by omega)]; exact p0
            have s1 : w5.cell? ⟨w2.heap.size, 1, none⟩ = some (.int .i64 0) := by rw [hc5 _ _ (by omega)]; exact p1
            have s2 : w5.cell? ⟨w2.heap.size, 2, none⟩ = some (.string (B [])) := by rw [hc5 _ _ (by omega)]; exact p2
            have s3 : ∀ o, w5.frozen? ⟨w2.heap.size, o, none⟩ = false := fun o => by rw [hf5 _ _ (by omega)]; exact p3 o
            have s4 : w5.cell? ⟨w.heap.size, 0, none⟩ = some (.int .u8 0) := by rw [hc5 _ _ (by omega)]; exact p4
            have s5 : w5.cell? ⟨w.heap.size, 1, none⟩ = some (.int .i64 0) := by rw [hc5 _ _ (by omega)]; exact p5
            have s6 : w5.cell? ⟨w.heap.size, 2, none⟩ = some (.string (B [])) := by rw [hc5 _ _ (by omega)]; exact p6
            have s7 : ∀ o, w5.frozen? ⟨w.heap.size, o, none⟩ = false := fun o => by rw [hf5 _ _ (by omega)]; exact p7 o
            have q5 : Below w.heap.size w w5 := Below.trans p9 (hb5.mono (by omega))
            clear hc5 hf5 hb5 p0 p1 p2 p3 p4 p5 p6 p7 p9 p10
            go_wp2_with fail
            refine (hNU _).mono ?_
            rintro e w6 ⟨rfl, rfl⟩
            by_cases hn1 : n < 1
            · have hck : ck (kindOf f) r = bad := by rw [HC0.out, cbrk, if_pos hn1]
              have HCK := Lib.hid hck
              clear hck HC0
              have hcase : n < 0 ∨ n = 0 := by omega
              rcases hcase with hneg | rfl
              all_goals go_wp2_with (first
                | (go_at_call 17; (with_reducible refine (numbered_any _ _).mono ?_); rintro e w' ⟨rfl, rfl⟩; first | rw [hn] | rw [hn'])
                | (go_at_call 19; (with_reducible refine (texted_any _ _).mono ?_); rintro e w' ⟨rfl, rfl⟩; first | rw [ht] | rw [ht']))
              all_goals (
                refine bodyPost_ret (v := cmdv bad) (by simp [results, Tryd.results7, go_sem, s0, s1, s2, s4, s5, s6, hne]; rfl) rfl ⟨by rw [HCK.out], ?_⟩
                (repeat (first | (with_reducible exact Below.refl _ _) | (with_reducible assumption) | (with_reducible refine Below.drew ?_) | (with_reducible refine below_draws ?_ _) | ((with_reducible refine Below.setCell ?_ ?_ _); rotate_left; (first | (with_reducible exact Nat.le_refl _) | (focus (simp; done)) | (focus (simp; omega)) | omega)) | ((with_reducible refine Below.alloc ?_ ?_ _); rotate_left; (first | (with_reducible exact Nat.le_refl _) | (focus (simp; done)) | (focus (simp; omega)) | omega)))))
            · have hn0 : (n == 0) = false := beq_eq_false_iff_ne.2 (by omega)
              have hn2 : ¬ n < 0 := by omega
              by_cases hx : x = []
              · subst hx
                have hck : ck (kindOf f) r = (10, n, []) := by rw [HC0.out, cbrk, if_neg hn1, if_pos rfl]
                have HCK := Lib.hid hck
                clear hck HC0
                go_wp2_with (first
                  | (go_at_call 17; (with_reducible refine (numbered_any _ _).mono ?_); rintro e w' ⟨rfl, rfl⟩; first | rw [hn] | rw [hn'])
                  | (go_at_call 19; (with_reducible refine (texted_any _ _).mono ?_); rintro e w' ⟨rfl, rfl⟩; first | rw [ht] | rw [ht']))
                refine bodyPost_ret (v := cmdv (10, n, [])) (by simp [results, Tryd.results7, go_sem, s0, s1, s2, s4, s5, s6, hne]; rfl) rfl ⟨by rw [HCK.out], ?_⟩
                (repeat (first | (with_reducible exact Below.refl _ _) | (with_reducible assumption) | (with_reducible refine Below.drew ?_) | (with_reducible refine below_draws ?_ _) | ((with_reducible refine Below.setCell ?_ ?_ _); rotate_left; (first | (with_reducible exact Nat.le_refl _) | (focus (simp; done)) | (focus (simp; omega)) | omega)) | ((with_reducible refine Below.alloc ?_ ?_ _); rotate_left; (first | (with_reducible exact Nat.le_refl _) | (focus (simp; done)) | (focus (simp; omega)) | omega))))
              · have hxb : (x == []) = false := beq_eq_false_iff_ne.2 hx
                have hck : ck (kindOf f) r = if wd x = ifw ∧ rs x ≠ [] then (10, n, rs x) else bad := by rw [HC0.out, cbrk, if_neg hn1, if_neg hx]
                generalize wd x = y2 at *
                generalize rs x = x2 at *
                have HC1 := Lib.hid hck
                clear hck HC0
                go_wp2_with (first
                  | (go_at_call 17; (with_reducible refine (numbered_any _ _).mono ?_); rintro e w' ⟨rfl, rfl⟩; first | rw [hn] | rw [hn'])
                  | (go_at_call 19; (with_reducible refine (texted_any _ _).mono ?_); rintro e w' ⟨rfl, rfl⟩; first | rw [ht] | rw [ht']))
                refine (hWO2 _).mono ?_
                rintro e w7 ⟨rfl, hb7⟩
                obtain ⟨hc7, hf7⟩ := bcell hb7
                have hz7 : w2.heap.size + 1 < w7.heap.size := by have := hb7.size; simp [World.setCell] at this; omega
                have hz6 : w2.heap.size < (w5.setCell ⟨w2.heap.size, 1, none⟩ (.int .i64 n)).heap.size := by simp [World.setCell]; omega
                have hz6' : w.heap.size < (w5.setCell ⟨w2.heap.size, 1, none⟩ (.int .i64 n)).heap.size := by omega
                have hne2 : ¬ w2.heap.size = w.heap.size := by omega
                have u0 : w7.cell? ⟨w2.heap.size, 0, none⟩ = some (.int .u8 10) := by rw [hc7 _ _ hz6, World.cell?_setCell_other _ _ _ _ (by simp)]; exact s0
                have u1 : w7.cell? ⟨w2.heap.size, 1, none⟩ = some (.int .i64 n) := by rw [hc7 _ _ hz6]; exact World.cell?_setCell_same _ _ _ s1
                have u2 : w7.cell? ⟨w2.heap.size, 2, none⟩ = some (.string (B [])) := by rw [hc7 _ _ hz6, World.cell?_setCell_other _ _ _ _ (by simp)]; exact s2
                have u3 : ∀ o, w7.frozen? ⟨w2.heap.size, o, none⟩ = false := fun o => by rw [hf7 _ _ hz6, World.frozen?_setCell]; exact s3 o
                have u4 : w7.cell? ⟨w.heap.size, 0, none⟩ = some (.int .u8 0) := by rw [hc7 _ _ hz6', World.cell?_setCell_other _ _ _ _ (by simp)]; exact s4
                have u5 : w7.cell? ⟨w.heap.size, 1, none⟩ = some (.int .i64 0) := by rw [hc7 _ _ hz6', World.cell?_setCell_other _ _ _ _ (by simp [hne, hne2])]; exact s5
                have u6 : w7.cell? ⟨w.heap.size, 2, none⟩ = some (.string (B [])) := by rw [hc7 _ _ hz6', World.cell?_setCell_other _ _ _ _ (by simp)]; exact s6
                have u7 : ∀ o, w7.frozen? ⟨w.heap.size, o, none⟩ = false := fun o => by rw [hf7 _ _ hz6', World.frozen?_setCell]; exact s7 o
                have q6 : Below w.heap.size w (w5.setCell ⟨w2.heap.size, 1, none⟩ (.int .i64 n)) := q5.setCell (by simp; omega) _
                have q7 : Below w.heap.size w w7 := Below.trans q6 (hb7.mono (by omega))
                clear hc7 hf7 hb7 q6 s0 s1 s2 s3 s4 s5 s6 s7 q5
                by_cases hif : y2 = ifw
                · have hifb : (y2 == [105, 102]) = true := beq_iff_eq.2 hif
                  by_cases hx2 : x2 = []
                  · have hck : ck (kindOf f) r = bad := by rw [HC1.out, if_neg (by rintro ⟨_, h⟩; exact h hx2)]
                    have HCK := Lib.hid hck
                    clear hck HC1
                    subst hx2
                    go_wp2
                    refine bodyPost_ret (v := cmdv bad) (by simp [results, Tryd.results7, go_sem, u0, u1, u2, u4, u5, u6, hne]; rfl) rfl ⟨by rw [HCK.out], ?_⟩
                    (repeat (first | (with_reducible exact Below.refl _ _) | (with_reducible assumption) | (with_reducible refine Below.drew ?_) | (with_reducible refine below_draws ?_ _) | ((with_reducible refine Below.setCell ?_ ?_ _); rotate_left; (first | (with_reducible exact Nat.le_refl _) | (focus (simp; done)) | (focus (simp; omega)) | omega)) | ((with_reducible refine Below.alloc ?_ ?_ _); rotate_left; (first | (with_reducible exact Nat.le_refl _) | (focus (simp; done)) | (focus (simp; omega)) | omega))))
                  · have hx2b : (x2 == []) = false := beq_eq_false_iff_ne.2 hx2
                    have hck : ck (kindOf f) r = (10, n, x2) := by rw [HC1.out, if_pos ⟨hif, hx2⟩]
                    have HCK := Lib.hid hck
                    clear hck HC1
                    go_wp2
                    refine bodyPost_ret (v := cmdv (10, n, x2)) (by simp [results, Tryd.results7, go_sem, u0, u1, u2, u4, u5, u6, hne]; rfl) rfl ⟨by rw [HCK.out], ?_⟩
                    (repeat (first | (with_reducible exact Below.refl _ _) | (with_reducible assumption) | (with_reducible refine Below.drew ?_) | (with_reducible refine below_draws ?_ _) | ((with_reducible refine Below.setCell ?_ ?_ _); rotate_left; (first | (with_reducible exact Nat.le_refl _) | (focus (simp; done)) | (focus (simp; omega)) | omega)) | ((with_reducible refine Below.alloc ?_ ?_ _); rotate_left; (first | (with_reducible exact Nat.le_refl _) | (focus (simp; done)) | (focus (simp; omega)) | omega))))
                · have hifb : (y2 == [105, 102]) = false := beq_eq_false_iff_ne.2 hif
                  have hck : ck (kindOf f) r = bad := by rw [HC1.out, if_neg (by rintro ⟨h, _⟩; exact hif h)]
                  have HCK := Lib.hid hck
                  clear hck HC1
                  go_wp2
                  refine bodyPost_ret (v := cmdv bad) (by simp [results, Tryd.results7, go_sem, u0, u1, u2, u4, u5, u6, hne]; rfl) rfl ⟨by rw [HCK.out], ?_⟩
                  (repeat (first | (with_reducible exact Below.refl _ _) | (with_reducible assumption) | (with_reducible refine Below.drew ?_) | (with_reducible refine below_draws ?_ _) | ((with_reducible refine Below.setCell ?_ ?_ _); rotate_left; (first | (with_reducible exact Nat.le_refl _) | (focus (simp; done)) | (focus (simp; omega)) | omega)) | ((with_reducible refine Below.alloc ?_ ?_ _); rotate_left; (first | (with_reducible exact Nat.le_refl _) | (focus (simp; done)) | (focus (simp; omega)) | omega))))
          · have kt : ((k : Int) == 10) = false := beq_eq_false_iff_ne.2 (by omega)
            have hn : ((k : Int) == 9 || (k : Int) == 10 || (k : Int) == 12) = false := by
              rw [beq_eq_false_iff_ne.2 (by omega : (k : Int) ≠ 9), kt, beq_eq_false_iff_ne.2 (by omega : (k : Int) ≠ 12)]; rfl
            by_cases k11 : k = 11 ∨ k = 14
            · have ht : ((k : Int) == 11 || (k : Int) == 14) = true := by
                rcases k11 with rfl | rfl <;> decide
              have hck : ck (kindOf f) r = if r = [] then bad else (k, 0, r) := by
                rw [HKK.out]; unfold ck
                rw [if_neg k0, if_neg k9, if_neg k10, if_pos k11]
              have HC0 := Lib.hid hck
              clear hck k9 k11 HKK HRT
              by_cases hx : r = []
              · have hck : ck (kindOf f) r = bad := by rw [HC0.out, if_pos hx]
                have HCK := Lib.hid hck
                clear hck HC0
                subst hx
                go_wp2_with (first
                  | (go_at_call 17; (with_reducible refine (numbered_any _ _).mono ?_); rintro e w' ⟨rfl, rfl⟩; rw [hn])
                  | (go_at_call 19; (with_reducible refine (texted_any _ _).mono ?_); rintro e w' ⟨rfl, rfl⟩; rw [ht]))
                refine bodyPost_ret (v := cmdv bad) (by simp [results, Tryd.results7, go_sem, p0, p1, p2, p4, p5, p6, hne]; rfl) rfl ⟨by rw [HCK.out], ?_⟩
                (repeat (first | (with_reducible exact Below.refl _ _) | (with_reducible assumption) | (with_reducible refine Below.drew ?_) | (with_reducible refine below_draws ?_ _) | ((with_reducible refine Below.setCell ?_ ?_ _); rotate_left; (first | (with_reducible exact Nat.le_refl _) | (focus (simp; done)) | (focus (simp; omega)) | omega)) | ((with_reducible refine Below.alloc ?_ ?_ _); rotate_left; (first | (with_reducible exact Nat.le_refl _) | (focus (simp; done)) | (focus (simp; omega)) | omega))))
              · have hxb : (r == []) = false := beq_eq_false_iff_ne.2 hx
                have hck : ck (kindOf f) r = (k, 0, r) := by rw [HC0.out, if_neg hx]
                have HCK := Lib.hid hck
                clear hck HC0
                go_wp2_with (first
                  | (go_at_call 17; (with_reducible refine (numbered_any _ _).mono ?_); rintro e w' ⟨rfl, rfl⟩; rw [hn])
                  | (go_at_call 19; (with_reducible refine (texted_any _ _).mono ?_); rintro e w' ⟨rfl, rfl⟩; rw [ht]))
                refine bodyPost_ret (v := cmdv (k, 0, r)) (by simp [results, Tryd.results7, go_sem, p0, p1, p2, p4, p5, p6, hne]; rfl) rfl ⟨by rw [HCK.out], ?_⟩
                (repeat (first | (with_reducible exact Below.refl _ _) | (with_reducible assumption) | (with_reducible refine Below.drew ?_) | (with_reducible refine below_draws ?_ _) | ((with_reducible refine Below.setCell ?_ ?_ _); rotate_left; (first | (with_reducible exact Nat.le_refl _) | (focus (simp; done)) | (focus (simp; omega)) | omega)) | ((with_reducible refine Below.alloc ?_ ?_ _); rotate_left; (first | (with_reducible exact Nat.le_refl _) | (focus (simp; done)) | (focus (simp; omega)) | omega))))
            · have ht : ((k : Int) == 11 || (k : Int) == 14) = false := by
                rw [beq_eq_false_iff_ne.2 (by omega : (k : Int) ≠ 11), beq_eq_false_iff_ne.2 (by omega : (k : Int) ≠ 14)]; rfl
              have hck : ck (kindOf f) r = if r = [] then (k, 0, []) else bad := by
                rw [HKK.out]; unfold ck
                rw [if_neg k0, if_neg k9, if_neg k10, if_neg k11]
              have HC0 := Lib.hid hck
              clear hck k9 k11 HKK HRT
              by_cases hx : r = []
              · have hck : ck (kindOf f) r = (k, 0, []) := by rw [HC0.out, if_pos hx]
                have HCK := Lib.hid hck
                clear hck HC0
                subst hx
                go_wp2_with (first
                  | (go_at_call 17; (with_reducible refine (numbered_any _ _).mono ?_); rintro e w' ⟨rfl, rfl⟩; rw [hn])
                  | (go_at_call 19; (with_reducible refine (texted_any _ _).mono ?_); rintro e w' ⟨rfl, rfl⟩; rw [ht]))
                refine bodyPost_ret (v := cmdv (k, 0, [])) (by simp [results, Tryd.results7, go_sem, p0, p1, p2, p4, p5, p6, hne]; rfl) rfl ⟨by rw [HCK.out], ?_⟩
                (repeat (first | (with_reducible exact Below.refl _ _) | (with_reducible assumption) | (with_reducible refine Below.drew ?_) | (with_reducible refine below_draws ?_ _) | ((with_reducible refine Below.setCell ?_ ?_ _); rotate_left; (first | (with_reducible exact Nat.le_refl _) | (focus (simp; done)) | (focus (simp; omega)) | omega)) | ((with_reducible refine Below.alloc ?_ ?_ _); rotate_left; (first | (with_reducible exact Nat.le_refl _) | (focus (simp; done)) | (focus (simp; omega)) | omega))))
              · have hxb : (r == []) = false := beq_eq_false_iff_ne.2 hx
                have hck : ck (kindOf f) r = bad := by rw [HC0.out, if_neg hx]
                have HCK := Lib.hid hck
                clear hck HC0
                go_wp2_with (first
                  | (go_at_call 17; (with_reducible refine (numbered_any _ _).mono ?_); rintro e w' ⟨rfl, rfl⟩; rw [hn])
                  | (go_at_call 19; (with_reducible refine (texted_any _ _).mono ?_); rintro e w' ⟨rfl, rfl⟩; rw [ht]))
                refine bodyPost_ret (v := cmdv bad) (by simp [results, Tryd.results7, go_sem, p0, p1, p2, p4, p5, p6, hne]; rfl) rfl ⟨by rw [HCK.out], ?_⟩
                (repeat (first | (with_reducible exact Below.refl _ _) | (with_reducible assumption) | (with_reducible refine Below.drew ?_) | (with_reducible refine below_draws ?_ _) | ((with_reducible refine Below.setCell ?_ ?_ _); rotate_left; (first | (with_reducible exact Nat.le_refl _) | (focus (simp; done)) | (focus (simp; omega)) | omega)) | ((with_reducible refine Below.alloc ?_ ?_ _); rotate_left; (first | (with_reducible exact Nat.le_refl _) | (focus (simp; done)) | (focus (simp; omega)) | omega))))

/-- cmd.Parse, whatever the line. -/
theorem parse_any (l : List UInt8) (hl : l.length < 1000000) (w : World) :
    Calls Tryd.prog 7 #[.string (B l)] w fun e w' => e = .returned (cmdv (cp l)) ∧ Below w.heap.size w w' := by
  unfold cp
  by_cases h : 1000 < l.length ∨ (10 : UInt8) ∈ l
  · rw [if_pos h]; exact parse_bad l hl h w
  · rw [if_neg h]; exact parse_good l (by omega) (fun x => h (Or.inr x)) w
end Go.Proofs.YtbgigkfdenkfiaaDoor
