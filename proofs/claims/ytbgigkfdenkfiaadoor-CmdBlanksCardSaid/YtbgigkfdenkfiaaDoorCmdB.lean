/- The cmd seat, part B: words, trims and feeds: the library's functions and the reference's. -/
import Derived.Test.YtbgigkfdenkfiaaDoorCmdA
import Derived.Test.YtbgigkfdenkfiaaDoorHigh
import Derived.Shelf.Strings.SlTrimAscii
namespace Go.Proofs.YtbgigkfdenkfiaaDoor
open Go.RowKit
attribute [local go_sem] B_mk B_size B_toList B_extract B_append B_get

theorem con_bl (c : UInt8) : ([32, 9] : List UInt8).contains c = bl c := by
  simp only [bl, List.contains_cons, List.contains_nil, Bool.or_false]
theorem trimLeftS_bl (l : List UInt8) : Lib.trimLeftS l [32, 9] = trimL l := by
  unfold Lib.trimLeftS trimL; congr 1; funext c; exact con_bl c
theorem trimS_bl (l : List UInt8) : Lib.trimS l [32, 9] = trim l := by
  unfold Lib.trimS trim
  rw [trimLeftS_bl]
  congr 1
  unfold Lib.trimRightS trimR; congr 2; funext c; exact con_bl c
theorem bl2_ascii : ∀ (j : Nat) (b : UInt8), (B [32, 9]).data.toList[j]? = some b → b.toNat < 128 := by
  rw [data_B]; intro j b hb
  match j with
  | 0 => simp at hb; subst hb; decide
  | 1 => simp at hb; subst hb; decide
  | j + 2 => simp at hb

theorem strim (l : List UInt8) (hl : l.length < 1000000) (w : World) :
    Calls Tryd.prog 15 #[.string (B l), .string (B [32, 9])] w fun e w' => e = .returned (.string (B (trim l))) ∧ Below w.heap.size w w' := by
  have h := Any.strings_Trim_laid Tryd.lays160 (by kernel_rfl) (B l) (B [32, 9]) w (by rw [B_size]; omega) (by rw [B_size]; decide) bl2_ascii
  rw [data_B, data_B, trimS_bl] at h
  exact h
theorem strimL (l : List UInt8) (w : World) :
    Calls Tryd.prog 29 #[.string (B l), .string (B [32, 9])] w fun e w' => e = .returned (.string (B (trimL l))) ∧ Below w.heap.size w w' := by
  have h := Any.strings_TrimLeft_laid Tryd.lays161 (by kernel_rfl) (B l) (B [32, 9]) w (by rw [B_size]; decide) bl2_ascii
  rw [data_B, data_B, trimLeftS_bl] at h
  exact h

/-- Where the first blank is. -/
theorem ixa_spec (l : List UInt8) : (Lib.indexAny l [32, 9] = -1 ∧ l.dropWhile nb = []) ∨ ∃ i : Nat, i < l.length ∧ Lib.indexAny l [32, 9] = i ∧ l.take i = wd l ∧ l.drop i = l.dropWhile nb := by
  induction l with
  | nil => left; exact ⟨rfl, rfl⟩
  | cons c l ih =>
    rw [Lib.indexAny, con_bl, List.dropWhile_cons]
    by_cases hc : bl c = true
    · right
      refine ⟨0, by simp, by rw [if_pos hc]; rfl, ?_, ?_⟩
      · unfold wd; rw [List.takeWhile_cons, if_neg (by simp [nb, hc])]; rfl
      · rw [if_neg (by simp [nb, hc])]; rfl
    · have hn : nb c = true := by simpa [nb] using hc
      rw [if_neg hc, if_pos hn]
      rcases ih with ⟨h1, h2⟩ | ⟨i, h1, h2, h3, h4⟩
      · left; rw [h1]; exact ⟨rfl, h2⟩
      · right
        refine ⟨i + 1, by simp; omega, ?_, ?_, ?_⟩
        · rw [h2, if_neg (by simp)]; rfl
        · unfold wd at h3 ⊢
          rw [List.take_succ_cons, List.takeWhile_cons, if_pos hn, h3]
        · rw [List.drop_succ_cons, h4]

set_option maxHeartbeats 1000000 in
theorem word_any (l : List UInt8) (hl : l.length < 1000000) (w : World) :
    Calls Tryd.prog 14 #[.string (B l)] w fun e w' => e = .returned (.tuple #[.string (B (wd l)), .string (B (rs l))]) ∧ Below w.heap.size w w' := by
  have h1 := ixany l 32 9 (by decide) (by decide) hl
  rcases ixa_spec l with ⟨e1, e2⟩ | ⟨i, e1, e2, e3, e4⟩
  · rw [e1] at h1
    have hw : wd l = l := wd_all e2
    have hr : rs l = [] := by unfold rs; rw [e2]; rfl
    rw [hw, hr]
    clear hw hr e1 e2
    go_enter Tryd.func14, Tryd.ntmps14
    go_wp2_with fail
    refine (h1 _).mono ?_
    rintro e w1 ⟨rfl, hb1⟩
    go_wp2
    go_ret2
    exact ⟨rfl, hb1⟩
  · rw [e2] at h1
    have hr : rs l = trimL (l.drop i) := by unfold rs; rw [e4]
    rw [← e3, hr]
    have i1 : (i : Int) ≤ (l.length : Int) := by omega
    have i2 : i ≤ l.length := by omega
    clear e2 e3 e4 hr
    go_enter Tryd.func14, Tryd.ntmps14
    go_wp2_with fail
    refine (h1 _).mono ?_
    rintro e w1 ⟨rfl, hb1⟩
    go_wp2_with fail
    have hs1 := hb1.size
    go_region_held3 (fun w' => Below w.heap.size w w' ∧ w.heap.size ≤ w'.heap.size)
      ((go_split_ands; (repeat' (first | (with_reducible assumption) | (with_reducible apply And.intro))); all_goals first | assumption | ((with_reducible refine Below.trans ?_ (hb.mono ?_)) <;> first | assumption | (simp; omega) | omega) | (have hbs := hb.size; simp at hbs ⊢; omega) | ((repeat (first | (with_reducible exact Below.refl _ _) | (with_reducible assumption) | (with_reducible refine Below.drew ?_) | (with_reducible refine below_draws ?_ _) | ((with_reducible refine Below.setCell ?_ ?_ _); rotate_left; (first | (with_reducible exact Nat.le_refl _) | (focus (simp; done)) | (focus (simp; omega)) | omega)) | ((with_reducible refine Below.alloc ?_ ?_ _); rotate_left; (first | (with_reducible exact Nat.le_refl _) | (focus (simp; done)) | (focus (simp; omega)) | omega)))); done) | (simp; done) | (simp; omega)))
      (first | (go_at_call 29; (with_reducible refine (strimL _ _).mono ?_); rintro e w' ⟨rfl, hb⟩))
    go_wp2
    rename_i hS
    obtain ⟨hB, _⟩ := hS
    go_ret2
    exact ⟨rfl, hB⟩
theorem number_any (l : List UInt8) (hl : l.length < 1000000) (w : World) :
    Calls Tryd.prog 18 #[.string (B l)] w fun e w' => e = .returned (.int .i64 (numOf l)) ∧ w = w' := by
  have h1 := nparse_any l w hl
  have hv : numOf l = if (pv l).2 = 0 ∧ 0 ≤ (pv l).1 ∧ (pv l).1 ≤ 1048576 then (pv l).1 else -1 := rfl
  generalize numOf l = v at *
  generalize pv l = p at *
  obtain ⟨n, e⟩ := p
  go_enter Tryd.func18, Tryd.ntmps18
  go_wp2_with fail
  refine h1.mono ?_
  rintro e w1 ⟨rfl, rfl⟩
  have HV := Lib.hid hv
  clear hv
  go_wp2
  all_goals go_ret
  all_goals refine ⟨ret_int ?_, rfl⟩
  all_goals (rw [HV.out]; split <;> omega)

theorem rblank_any (x : Int) (w : World) :
    Calls Tryd.prog 38 #[.int .u8 x] w fun e w' => e = .returned (.bool (x == 32 || x == 9)) ∧ w = w' := by
  go_enter Tryd.func38, Tryd.ntmps38
  go_wp2
  all_goals go_ret
  all_goals (refine ⟨?_, rfl⟩; first | rfl | simp_all)
theorem bl_bt (l : List UInt8) (i : Nat) (h : i < l.length) : (bt l i == 32 || bt l i == 9) = bl l[i] := by
  rw [bt_eq l i h]
  have hb := bl_iff l[i]
  generalize l[i] = c at *
  cases hc : bl c
  · rw [hc] at hb
    have : ¬ (c.toNat = 32 ∨ c.toNat = 9) := fun h => absurd (hb.2 h) (by decide)
    simp; omega
  · have := hb.1 hc
    simp; omega
end Go.Proofs.YtbgigkfdenkfiaaDoor
