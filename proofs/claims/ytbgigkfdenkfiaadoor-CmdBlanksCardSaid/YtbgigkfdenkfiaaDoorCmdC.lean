/- The cmd seat, part C: the reference's trims, words and feeds; the words. -/
import Derived.Test.YtbgigkfdenkfiaaDoorCmdB
namespace Go.Proofs.YtbgigkfdenkfiaaDoor
open Go.RowKit
attribute [local go_sem] B_mk B_size B_toList B_extract B_append B_get

theorem drop_at (l : List UInt8) (k : Nat) (h : k < l.length) : l.drop k = l[k] :: l.drop (k + 1) := List.drop_eq_getElem_cons h
theorem trimL_step (l : List UInt8) (k : Nat) (h : k < l.length) (hb : bl l[k] = true) : trimL (l.drop k) = trimL (l.drop (k + 1)) := by
  rw [drop_at l k h, trimL_cons, if_pos hb]
theorem trimL_stop (l : List UInt8) (k : Nat) (h : k < l.length) (hb : bl l[k] = false) : trimL (l.drop k) = l.drop k := by
  rw [drop_at l k h, trimL_cons, if_neg (by rw [hb]; decide)]
theorem trimL_end (l : List UInt8) (k : Nat) (h : ¬ k < l.length) : trimL (l.drop k) = l.drop k := by
  rw [List.drop_eq_nil_of_le (by omega)]; rfl
theorem take_drop_snoc (l : List UInt8) (i k : Nat) (hi : i ≤ k) (hk : k < l.length) : (l.take (k + 1)).drop i = (l.take k).drop i ++ [l[k]] := by
  rw [List.take_succ_eq_append_getElem hk, List.drop_append_of_le_length (by simp; omega)]

set_option maxHeartbeats 1000000 in
theorem rtrim_any (l : List UInt8) (hl : l.length < 1000000) (w : World) :
    Calls Tryd.prog 22 #[.string (B l)] w fun e w' => e = .returned (.string (B (trim l))) ∧ w = w' := by
  rw [← trim_comm]
  go_enter Tryd.func22, Tryd.ntmps22
  go_wp2
  rw [show (⟨#[]⟩ : ByteArray) = B [] from rfl]
  go_loop [3] (fun x => ∃ k : Nat, x = .int .i64 (k : Int) ∧ k ≤ l.length ∧ trimL l = trimL (l.drop k)) (fun x => l.length - (intOf x).toNat)
  case atStart => exact ⟨0, rfl, by omega, rfl⟩
  case round =>
    obtain ⟨i, rfl, hi, hT⟩ := hrel
    have HT := Lib.hid hT
    clear hT
    have hi1 : (i : Int) ≤ (l.length : Int) := by omega
    by_cases hgo : ∃ h : i < l.length, bl l[i] = true
    · obtain ⟨hk, hb⟩ := hgo
      have hbb := bl_bt l i hk
      rw [hb] at hbb
      have hb' := trimL_step l i hk hb
      have HB := Lib.hid hb'
      clear hb hb'
      go_wp2_with (go_at_call 38; refine (rblank_any _ _).mono ?_; rintro e w' ⟨rfl, rfl⟩; rw [hbb])
      go_round
      case rel => exact ⟨i + 1, rfl, by omega, by rw [HT.out, HB.out]⟩
      case measure => simp [intOf]; omega
    · have hT2 : trimL l = l.drop i := by
        rw [HT.out]
        by_cases hk : i < l.length
        · exact trimL_stop l i hk (by
            cases hc : bl l[i]
            · rfl
            · exact absurd ⟨hk, hc⟩ hgo)
        · exact trimL_end l i hk
      have hbb : ∀ hk : i < l.length, (bt l i == 32 || bt l i == 9) = false := fun hk => by
        rw [bl_bt l i hk]
        cases hc : bl l[i]
        · rfl
        · exact absurd ⟨hk, hc⟩ hgo
      have HT2 := Lib.hid hT2
      clear hT2 hgo HT
      have hcase : i < l.length ∨ ¬ i < l.length := by omega
      have HBB := Lib.hid hbb
      clear hbb
      rcases hcase with hk | hk
      all_goals go_wp2_with (go_at_call 38; refine (rblank_any _ _).mono ?_; rintro e w' ⟨rfl, rfl⟩; rw [HBB.out hk])
      all_goals (
        go_loop [4] (fun x => ∃ k : Nat, x = .int .i64 (k : Int) ∧ i ≤ k ∧ k ≤ l.length ∧ trimR (l.drop i) = trimR ((l.take k).drop i)) (fun x => (intOf x).toNat)
        case atStart => exact ⟨l.length, rfl, hi, by omega, by rw [List.take_length]⟩
        case round =>
          obtain ⟨k, rfl, hk0, hk1, hR⟩ := hrel
          have HR := Lib.hid hR
          clear hR
          rcases Nat.lt_or_ge i k with hlt | hge
          · obtain ⟨j, rfl⟩ : ∃ j, k = j + 1 := ⟨k - 1, by omega⟩
            have hj : j < l.length := by omega
            have hsn := take_drop_snoc l i j (by omega) hj
            have hbb := bl_bt l j hj
            have hs1 : ((j + 1 : Nat) : Int) - 1 = (j : Int) := by omega
            have hlt' : (i : Int) < ((j + 1 : Nat) : Int) := by omega
            have hw : IntKind.i64.wrap (((j + 1 : Nat) : Int) - 1) = (j : Int) := by rw [hs1]; exact wrap_small _ (by omega) (by omega)
            have HS := Lib.hid hsn
            clear hsn
            cases hc : bl l[j]
            · rw [hc] at hbb
              have hst : trimL l = l.drop i := HT2.out
              have hres : trimR (trimL l) = (l.take (j + 1)).drop i := by
                rw [HT2.out, HR.out, HS.out, trimR_snoc, if_neg (by rw [hc]; decide)]
              have hle : ((j + 1 : Nat) : Int) ≤ (l.length : Int) := by omega
              have HRES := Lib.hid hres
              clear hst hres
              go_wp2_with (go_at_call 38; refine (rblank_any _ _).mono ?_; rintro e w' ⟨rfl, rfl⟩; rw [hbb])
              all_goals (go_ret; exact ⟨by rw [HRES.out]; rfl, rfl⟩)
            · rw [hc] at hbb
              have hR2 : trimR (l.drop i) = trimR ((l.take j).drop i) := by
                rw [HR.out, HS.out, trimR_snoc, if_pos hc]
              have HR2 := Lib.hid hR2
              clear hR2
              go_wp2_with (go_at_call 38; refine (rblank_any _ _).mono ?_; rintro e w' ⟨rfl, rfl⟩; rw [hbb])
              all_goals (
                go_round
                case rel => exact ⟨j, by go_num, by omega, by omega, HR2.out⟩
                case measure => simp [intOf])
          · obtain rfl : k = i := by omega
            have hres : trimR (trimL l) = [] := by
              rw [HT2.out, HR.out, List.drop_take, Nat.sub_self, List.take_zero]; rfl
            have hnil : (l.take k).drop k = [] := by rw [List.drop_take, Nat.sub_self, List.take_zero]
            have HRES := Lib.hid hres
            clear hres
            go_wp2
            go_ret
            exact ⟨by rw [HRES.out]; rfl, rfl⟩)
theorem takeW_stop (l : List UInt8) (i : Nat) (h : i < l.length) (hb : bl l[i] = true) (hn : ∀ j, (hj : j < i) → bl (l[j]'(by omega)) = false) : wd l = l.take i ∧ l.dropWhile nb = l.drop i := by
  induction l generalizing i with
  | nil => simp at h
  | cons c l ih =>
    unfold wd
    cases i with
    | zero =>
      have hc : nb c = false := by simpa [nb] using hb
      rw [List.takeWhile_cons, List.dropWhile_cons, hc]; exact ⟨rfl, rfl⟩
    | succ i =>
      have hc : nb c = true := by have := hn 0 (by omega); simpa [nb] using this
      rw [List.takeWhile_cons, List.dropWhile_cons, hc]
      have := ih i (by simpa using h) (by simpa using hb) (fun j hj => by have := hn (j + 1) (by omega); simpa using this)
      unfold wd at this
      rw [if_pos rfl, if_pos rfl, this.1, this.2]; exact ⟨rfl, rfl⟩
theorem takeW_end (l : List UInt8) (hn : ∀ j, (hj : j < l.length) → bl l[j] = false) : wd l = l ∧ l.dropWhile nb = [] := by
  have h : l.dropWhile nb = [] := by
    induction l with
    | nil => rfl
    | cons c l ih =>
      have hc : nb c = true := by have := hn 0 (by simp); simpa [nb] using this
      rw [List.dropWhile_cons, if_pos hc]
      exact ih (fun j hj => by have := hn (j + 1) (by simpa using hj); simpa using this)
  exact ⟨wd_all h, h⟩

set_option maxHeartbeats 1000000 in
theorem rcut_any (l : List UInt8) (hl : l.length < 1000000) (w : World) :
    Calls Tryd.prog 21 #[.string (B l)] w fun e w' => e = .returned (.tuple #[.string (B (wd l)), .string (B (trim (l.dropWhile nb)))]) ∧ Below w.heap.size w w' := by
  go_enter Tryd.func21, Tryd.ntmps21
  go_wp2
  go_loop [2, 3, 4] (fun r q x => r = .string (B []) ∧ q = .string (B []) ∧ ∃ k : Nat, x = .int .i64 (k : Int) ∧ k ≤ l.length ∧ ∀ j, (hj : j < k) → (hl : j < l.length) → bl l[j] = false) (fun _ _ x => l.length - (intOf x).toNat)
  case atStart => exact ⟨rfl, rfl, 0, rfl, by omega, fun j hj => by omega⟩
  case round =>
    obtain ⟨rfl, rfl, i, rfl, hi, hT⟩ := hrel
    have HT := Lib.hid hT
    clear hT
    have hi1 : (i : Int) ≤ (l.length : Int) := by omega
    by_cases hk : i < l.length
    · have hbb := bl_bt l i hk
      cases hc : bl l[i]
      · rw [hc] at hbb
        have hn2 : ∀ j, (hj : j < i + 1) → (hl : j < l.length) → bl l[j] = false := fun j hj hl => by
          by_cases e : j = i
          · subst e; exact hc
          · exact HT.out j (by omega) hl
        have HN := Lib.hid hn2
        clear hn2 hc
        go_wp2_with (go_at_call 38; refine (rblank_any _ _).mono ?_; rintro e w' ⟨rfl, rfl⟩; rw [hbb])
        go_round
        case rel => exact ⟨rfl, rfl, i + 1, rfl, by omega, HN.out⟩
        case measure => simp [intOf]; omega
      · rw [hc] at hbb
        obtain ⟨s1, s2⟩ := takeW_stop l i hk hc (fun j hj => HT.out j hj (by omega))
        have S1 := Lib.hid s1
        have S2 := Lib.hid s2
        clear s1 s2 hc
        go_wp2_with (go_at_call 38; refine (rblank_any _ _).mono ?_; rintro e w' ⟨rfl, rfl⟩; rw [hbb])
        have hr := rtrim_any (l.drop i) (by simp; omega)
        go_region_held3 (fun w' => Below w.heap.size w w' ∧ w.heap.size ≤ w'.heap.size)
          ((go_split_ands; (repeat' (first | (with_reducible assumption) | (with_reducible apply And.intro))); all_goals first | assumption | ((with_reducible refine Below.trans ?_ (hb.mono ?_)) <;> first | assumption | (simp; omega) | omega) | (have hbs := hb.size; simp at hbs ⊢; omega) | ((repeat (first | (with_reducible exact Below.refl _ _) | (with_reducible assumption) | (with_reducible refine Below.drew ?_) | (with_reducible refine below_draws ?_ _) | ((with_reducible refine Below.setCell ?_ ?_ _); rotate_left; (first | (with_reducible exact Nat.le_refl _) | (focus (simp; done)) | (focus (simp; omega)) | omega)) | ((with_reducible refine Below.alloc ?_ ?_ _); rotate_left; (first | (with_reducible exact Nat.le_refl _) | (focus (simp; done)) | (focus (simp; omega)) | omega)))); done) | (simp; done) | (simp; omega)))
          (first | (go_at_call 22; (with_reducible refine (hr _).mono ?_); rintro e w' ⟨rfl, hb⟩; subst hb))
        go_wp2
        rename_i hS
        obtain ⟨hB, _⟩ := hS
        go_ret2
        exact ⟨by rw [S1.out, S2.out]; rfl, hB⟩
    · obtain ⟨s1, s2⟩ := takeW_end l (fun j hj => HT.out j (by omega) hj)
      have S1 := Lib.hid s1
      have S2 := Lib.hid s2
      clear s1 s2
      go_wp2
      go_ret2
      exact ⟨by rw [S1.out, S2.out]; rfl, Below.refl _ _⟩
end Go.Proofs.YtbgigkfdenkfiaaDoor
