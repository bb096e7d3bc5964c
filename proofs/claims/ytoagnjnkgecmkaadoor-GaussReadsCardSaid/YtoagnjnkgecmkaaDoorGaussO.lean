/- Walks of the gauss seat, part O: gauss.Parse. -/
import Derived.Test.YtoagnjnkgecmkaaDoorGaussN
namespace Go.Proofs.YtoagnjnkgecmkaaDoor
open Go.RowKit
attribute [local go_sem] B_mk B_size B_toList B_extract B_append B_get

/-- The last sign in a text is found, from this world on. -/
def LAw (l : List UInt8) (w : World) : Prop := ∀ w1 : World, Below w.heap.size w w1 → Calls Tryd.prog 35 #[.string (B l), .string (B [43, 45])] w1 fun e w' => e = .returned (.int .i64 (lastSign l)) ∧ Below w1.heap.size w1 w'
theorem LA.at {l : List UInt8} (h : LA l) (w : World) : LAw l w := fun w1 _ => h w1

theorem lsu_spec (l : List UInt8) (k : Nat) : (lsu l k = -1 ∧ ∀ i, i < k → ¬ (bt l i = 43 ∨ bt l i = 45)) ∨ ∃ j : Nat, lsu l k = j ∧ j < k ∧ (bt l j = 43 ∨ bt l j = 45) ∧ ∀ i, j < i → i < k → ¬ (bt l i = 43 ∨ bt l i = 45) := by
  induction k with
  | zero => left; exact ⟨rfl, fun i hi => by omega⟩
  | succ k ih =>
    by_cases h : bt l k = 43 ∨ bt l k = 45
    · right; exact ⟨k, by rw [lsu, if_pos h], by omega, h, fun i h1 h2 => by omega⟩
    · rw [lsu, if_neg h]
      rcases ih with ⟨h1, h2⟩ | ⟨j, h1, h2, h3, h4⟩
      · left
        refine ⟨h1, fun i hi => ?_⟩
        by_cases e : i = k
        · subst e; exact h
        · exact h2 i (by omega)
      · right
        refine ⟨j, h1, by omega, h3, fun i a b => ?_⟩
        by_cases e : i = k
        · subst e; exact h
        · exact h4 i a (by omega)

/-- Two numbers that were read, as a number of two parts; the error's number. -/
def pairUp (p q : Int × Int) : Int × Int × Int :=
  if p.2 = 2 ∨ q.2 = 2 then (0, 0, 2) else if p.2 ≠ 0 ∨ q.2 ≠ 0 ∨ p.1 ≠ P24 p.1 ∨ q.1 ≠ P24 q.1 then (0, 0, 14) else (p.1, q.1, 0)
/-- The second part's text. -/
def second (b : List UInt8) (j : Nat) : List UInt8 := if bt b j = 43 then b.drop (j + 1) else b.drop j
/-- What gauss.Parse answers. -/
def gp (l : List UInt8) : Int × Int × Int :=
  if l.getLast? = some 105 then (if lastSign l.dropLast < 1 then (0, 0, 2) else pairUp (pv (l.dropLast.take (lastSign l.dropLast).toNat)) (pv (second l.dropLast (lastSign l.dropLast).toNat))) else (0, 0, 2)
def gv (r : Int × Int × Int) : Value := .tuple #[cv r.1 r.2.1, .int .i64 r.2.2]

theorem gp_no (l : List UInt8) (h : ¬ l.getLast? = some 105) : gp l = (0, 0, 2) := by unfold gp; rw [if_neg h]
theorem gp_yes (b : List UInt8) : gp (b ++ [105]) = if lastSign b < 1 then (0, 0, 2) else pairUp (pv (b.take (lastSign b).toNat)) (pv (second b (lastSign b).toNat)) := by
  unfold gp; simp
theorem suf_no (l : List UInt8) (h : ¬ l.getLast? = some 105) : Lib.hasSuffix l [105] = false := by
  rw [← Bool.not_eq_true]
  intro hs
  obtain ⟨t, rfl⟩ := List.isSuffixOf_iff_suffix.1 hs
  simp at h
theorem suf_yes (b : List UInt8) : Lib.hasSuffix (b ++ [105]) [105] = true := List.isSuffixOf_iff_suffix.2 ⟨b, rfl⟩
theorem trim_yes (b : List UInt8) : Lib.trimSuffix (b ++ [105]) [105] = b := by
  unfold Lib.trimSuffix; rw [if_pos (suf_yes b)]; simp
theorem suf_yes1 : Lib.hasSuffix [105] [105] = true := by decide
theorem trim_yes1 : Lib.trimSuffix [105] [105] = [] := by decide
theorem second_eq (b : List UInt8) (j : Nat) (hj : j < b.length) : Lib.trimPrefix (b.drop j) [43] = second b j := by
  unfold Lib.trimPrefix second Lib.hasPrefix
  have hd : b.drop j = b[j] :: b.drop (j + 1) := List.drop_eq_getElem_cons hj
  rw [bt_eq b j hj, hd]
  generalize b[j] = x
  generalize b.drop (j + 1) = t
  by_cases h : x = 43
  · subst h; simp
  · have h2 : ¬ ((x.toNat : Int) = 43) := fun e => h (UInt8.toNat_inj.1 (by simpa using (by omega : x.toNat = 43)))
    have h3 : ¬ (43 : UInt8) = x := fun e => h e.symm
    simp [h3, h2]
theorem second_minus (b : List UInt8) (j : Nat) (hj : j < b.length) (h : ∀ i, j < i → i < b.length → ¬ (bt b i = 43 ∨ bt b i = 45)) (h43 : bt b j = 43) : Lib.hasPrefix (second b j) [45] = false := by
  unfold second; rw [if_pos h43]
  unfold Lib.hasPrefix
  by_cases hl : j + 1 < b.length
  · have hn := h (j + 1) (by omega) hl
    rw [bt_eq b (j + 1) hl] at hn
    rw [List.drop_eq_getElem_cons hl]
    have h3 : ¬ (45 : UInt8) = b[j + 1] := fun e => hn (Or.inr (by rw [← e]; rfl))
    revert h3
    generalize b[j + 1] = x
    generalize b.drop (j + 1 + 1) = t
    intro h3
    show (45 == x && ([] : List UInt8).isPrefixOf t) = false
    rw [beq_eq_false_iff_ne.2 h3]; rfl
  · rw [List.drop_eq_nil_of_le (by omega)]; rfl
theorem second_len (b : List UInt8) (j : Nat) : (second b j).length ≤ b.length := by
  unfold second; split <;> simp

set_option maxHeartbeats 4000000 in
theorem gparse_no (l : List UInt8) (hl : l.length < 100000) (h : ¬ l.getLast? = some 105) (w : World) :
    Calls Tryd.prog 26 #[.string (B l)] w fun e w' => e = .returned (gv (gp l)) ∧ Below w.heap.size w w' := by
  have hsuf := suf_no l h
  rw [gp_no l h]
  have hc := Tryd.strings_CutSuffix (B l) (B [105])
  simp only [B_data, hsuf] at hc
  go_enter Tryd.func26, Tryd.ntmps26
  go_wp2_with fail
  refine (hc _ (by rw [B_size]; omega)).mono ?_
  rintro e w' ⟨rfl, rfl⟩
  go_wp2_with fail
  refine bodyPost_ret (v := gv (0, 0, 2)) (by simp [results, Tryd.results26, go_sem]; rfl) rfl ⟨rfl, (by (repeat (first | (with_reducible exact Below.refl _ _) | (with_reducible assumption) | (with_reducible refine Below.drew ?_) | (with_reducible refine below_draws ?_ _) | ((with_reducible refine Below.setCell ?_ ?_ _); rotate_left; (first | (with_reducible exact Nat.le_refl _) | (focus (simp; done)) | (focus (simp; omega)) | omega)) | ((with_reducible refine Below.alloc ?_ ?_ _); rotate_left; (first | (with_reducible exact Nat.le_refl _) | (focus (simp; done)) | (focus (simp; omega)) | omega)))))⟩

set_option maxHeartbeats 4000000 in
theorem gparse_empty (w : World) :
    Calls Tryd.prog 26 #[.string (B [105])] w fun e w' => e = .returned (gv (0, 0, 2)) ∧ Below w.heap.size w w' := by
  have hc := Tryd.strings_CutSuffix (B [105]) (B [105])
  simp only [B_data, suf_yes1, trim_yes1] at hc
  go_enter Tryd.func26, Tryd.ntmps26
  go_wp2_with fail
  refine (hc _ (by rw [B_size]; decide)).mono ?_
  rintro e w' ⟨rfl, rfl⟩
  go_wp2_with fail
  refine bodyPost_ret (v := gv (0, 0, 2)) (by simp [results, Tryd.results26, go_sem]; rfl) rfl ⟨rfl, (by (repeat (first | (with_reducible exact Below.refl _ _) | (with_reducible assumption) | (with_reducible refine Below.drew ?_) | (with_reducible refine below_draws ?_ _) | ((with_reducible refine Below.setCell ?_ ?_ _); rotate_left; (first | (with_reducible exact Nat.le_refl _) | (focus (simp; done)) | (focus (simp; omega)) | omega)) | ((with_reducible refine Below.alloc ?_ ?_ _); rotate_left; (first | (with_reducible exact Nat.le_refl _) | (focus (simp; done)) | (focus (simp; omega)) | omega)))))⟩

set_option maxHeartbeats 4000000 in
theorem gparse_few (b : List UInt8) (hl : b.length < 100000) (hne : ¬ b = []) (w : World) (hla : LAw b w) (h : lastSign b < 1) :
    Calls Tryd.prog 26 #[.string (B (b ++ [105]))] w fun e w' => e = .returned (gv (0, 0, 2)) ∧ Below w.heap.size w w' := by
  have hne' : b.isEmpty = false := by simp [hne]
  have hc := Tryd.strings_CutSuffix (B (b ++ [105])) (B [105])
  simp only [B_data, suf_yes, trim_yes] at hc
  go_enter Tryd.func26, Tryd.ntmps26
  go_wp2_with fail
  refine (hc _ (by rw [B_size]; simp; omega)).mono ?_
  rintro e w' ⟨rfl, rfl⟩
  go_wp2_with fail
  refine (hla _ (by (repeat (first | (with_reducible exact Below.refl _ _) | (with_reducible assumption) | (with_reducible refine Below.drew ?_) | (with_reducible refine below_draws ?_ _) | ((with_reducible refine Below.setCell ?_ ?_ _); rotate_left; (first | (with_reducible exact Nat.le_refl _) | (focus (simp; done)) | (focus (simp; omega)) | omega)) | ((with_reducible refine Below.alloc ?_ ?_ _); rotate_left; (first | (with_reducible exact Nat.le_refl _) | (focus (simp; done)) | (focus (simp; omega)) | omega)))))).mono ?_
  rintro e w1 ⟨rfl, hb1⟩
  obtain ⟨hc1, hf1⟩ := bcell hb1
  have hz1 : w.heap.size < w1.heap.size := by have := hb1.size; simp at this; omega
  go_wp2_with fail
  have q1 : Below w.heap.size w w1 := Below.trans (by (repeat (first | (with_reducible exact Below.refl _ _) | (with_reducible assumption) | (with_reducible refine Below.drew ?_) | (with_reducible refine below_draws ?_ _) | ((with_reducible refine Below.setCell ?_ ?_ _); rotate_left; (first | (with_reducible exact Nat.le_refl _) | (focus (simp; done)) | (focus (simp; omega)) | omega)) | ((with_reducible refine Below.alloc ?_ ?_ _); rotate_left; (first | (with_reducible exact Nat.le_refl _) | (focus (simp; done)) | (focus (simp; omega)) | omega))))) (hb1.mono (by simp))
  refine bodyPost_ret (v := gv (0, 0, 2)) (by simp [results, Tryd.results26, go_sem, hc1]; rfl) rfl ⟨rfl, (by (repeat (first | (with_reducible exact Below.refl _ _) | (with_reducible assumption) | (with_reducible refine Below.drew ?_) | (with_reducible refine below_draws ?_ _) | ((with_reducible refine Below.setCell ?_ ?_ _); rotate_left; (first | (with_reducible exact Nat.le_refl _) | (focus (simp; done)) | (focus (simp; omega)) | omega)) | ((with_reducible refine Below.alloc ?_ ?_ _); rotate_left; (first | (with_reducible exact Nat.le_refl _) | (focus (simp; done)) | (focus (simp; omega)) | omega)))))⟩

set_option maxRecDepth 100000 in
set_option maxHeartbeats 4000000 in
theorem gparse_main (b : List UInt8) (j : Nat) (re e im f : Int) (hl : b.length < 100000) (hne : ¬ b = []) (w : World) (hla : LAw b w) (hj : lastSign b = j) (hj1 : 1 ≤ j) (hjl : j < b.length) (hsign : bt b j = 43 ∨ bt b j = 45)
    (hsec : bt b j = 43 → Lib.hasPrefix (second b j) [45] = false) (hp : pv (b.take j) = (re, e)) (hq : pv (second b j) = (im, f)) :
    Calls Tryd.prog 26 #[.string (B (b ++ [105]))] w fun e' w' => e' = .returned (gv (pairUp (re, e) (im, f))) ∧ Below w.heap.size w w' := by
  have hne' : b.isEmpty = false := by simp [hne]
  have hc := Tryd.strings_CutSuffix (B (b ++ [105])) (B [105])
  simp only [B_data, suf_yes, trim_yes] at hc
  have ht := Tryd.strings_TrimPrefix (B (b.drop j)) (B [43])
  simp only [B_data, second_eq b j hjl] at ht
  have hh := Tryd.strings_HasPrefix (B (second b j)) (B [45])
  simp only [B_data] at hh
  have hn1 := nparse_any (b.take j)
  rw [hp] at hn1
  have hn2 := nparse_any (second b j)
  rw [hq] at hn2
  have h2l := second_len b j
  rw [LAw, hj] at hla
  have HLA := Lib.hid hla
  have HC := Lib.hid hc
  have HT := Lib.hid ht
  have HH := Lib.hid hh
  have HN1 := Lib.hid hn1
  have HN2 := Lib.hid hn2
  obtain ⟨pr, hpr⟩ : ∃ x, P24 re = x := ⟨_, rfl⟩
  obtain ⟨pq, hpq⟩ : ∃ x, P24 im = x := ⟨_, rfl⟩
  have K1 := part_any re
  have K2 := part_any im
  rw [hpr] at K1
  rw [hpq] at K2
  have HPR := Lib.hid hpr
  have HPQ := Lib.hid hpq
  have q1 : ∀ w1, Below (w.alloc (.cells #[.int .i64 0, .int .i64 0] 23)).heap.size (w.alloc (.cells #[.int .i64 0, .int .i64 0] 23)) w1 → Below w.heap.size w w1 := fun w1 h => Below.trans (by (repeat (first | (with_reducible exact Below.refl _ _) | (with_reducible assumption) | (with_reducible refine Below.drew ?_) | (with_reducible refine below_draws ?_ _) | ((with_reducible refine Below.setCell ?_ ?_ _); rotate_left; (first | (with_reducible exact Nat.le_refl _) | (focus (simp; done)) | (focus (simp; omega)) | omega)) | ((with_reducible refine Below.alloc ?_ ?_ _); rotate_left; (first | (with_reducible exact Nat.le_refl _) | (focus (simp; done)) | (focus (simp; omega)) | omega))))) (h.mono (by simp))
  have Q1 := Lib.hid q1
  clear hla hc ht hh hn1 hn2 hp hq hj hpr hpq q1
  go_enter Tryd.func26, Tryd.ntmps26
  go_wp2_with fail
  refine (HC.out _ (by rw [B_size]; simp; omega)).mono ?_
  rintro e w' ⟨rfl, rfl⟩
  go_wp2_with fail
  refine (HLA.out _ (by (repeat (first | (with_reducible exact Below.refl _ _) | (with_reducible assumption) | (with_reducible refine Below.drew ?_) | (with_reducible refine below_draws ?_ _) | ((with_reducible refine Below.setCell ?_ ?_ _); rotate_left; (first | (with_reducible exact Nat.le_refl _) | (focus (simp; done)) | (focus (simp; omega)) | omega)) | ((with_reducible refine Below.alloc ?_ ?_ _); rotate_left; (first | (with_reducible exact Nat.le_refl _) | (focus (simp; done)) | (focus (simp; omega)) | omega)))))).mono ?_
  rintro e' w1 ⟨rfl, hb1⟩
  obtain ⟨hc1, hf1⟩ := bcell hb1
  have hz1 : w.heap.size < w1.heap.size := by have := hb1.size; simp at this; omega
  have q2 := Q1.out w1 hb1
  go_wp2_with fail
  refine (HT.out _).mono ?_
  rintro e w' ⟨rfl, rfl⟩
  go_wp2_with fail
  refine (HH.out _).mono ?_
  rintro e w' ⟨rfl, rfl⟩
  by_cases h43 : bt b j = 43
  · have hq := hsec h43
    have h43' : (bt b j == 43) = true := by simp [h43]
    have n1 : ¬ bt b j = 45 := by omega
    clear hsec hsign
    rw [hq]
    clear hq
    go_wp2_with fail
    refine (HN1.out _ (by simp; omega)).mono ?_
    rintro e' w' ⟨rfl, rfl⟩
    go_wp2_with fail
    refine (HN2.out _ (by omega)).mono ?_
    rintro e' w' ⟨rfl, rfl⟩
    by_cases he : e = 2
    · subst he
      have hfin : pairUp (re, 2) (im, f) = (0, 0, 2) := by simp [pairUp]
      have HF := Lib.hid hfin
      clear hfin
      go_wp2_with (first | (go_at_call 31; (with_reducible refine (K1 _).mono ?_); rintro e w' ⟨rfl, rfl⟩) | (go_at_call 31; (with_reducible refine (K2 _).mono ?_); rintro e w' ⟨rfl, rfl⟩))
      rw [HF.out]
      exact bodyPost_ret (v := gv (0, 0, 2)) (by simp [results, Tryd.results26, go_sem, hc1]; rfl) rfl ⟨rfl, (by (repeat (first | (with_reducible exact Below.refl _ _) | (with_reducible assumption) | (with_reducible refine Below.drew ?_) | (with_reducible refine below_draws ?_ _) | ((with_reducible refine Below.setCell ?_ ?_ _); rotate_left; (first | (with_reducible exact Nat.le_refl _) | (focus (simp; done)) | (focus (simp; omega)) | omega)) | ((with_reducible refine Below.alloc ?_ ?_ _); rotate_left; (first | (with_reducible exact Nat.le_refl _) | (focus (simp; done)) | (focus (simp; omega)) | omega)))))⟩
    have he' : (e == 2) = false := by simp [he]
    by_cases hf : f = 2
    · subst hf
      have hfin : pairUp (re, e) (im, 2) = (0, 0, 2) := by simp [pairUp]
      have HF := Lib.hid hfin
      clear hfin
      go_wp2_with (first | (go_at_call 31; (with_reducible refine (K1 _).mono ?_); rintro e w' ⟨rfl, rfl⟩) | (go_at_call 31; (with_reducible refine (K2 _).mono ?_); rintro e w' ⟨rfl, rfl⟩))
      rw [HF.out]
      exact bodyPost_ret (v := gv (0, 0, 2)) (by simp [results, Tryd.results26, go_sem, hc1]; rfl) rfl ⟨rfl, (by (repeat (first | (with_reducible exact Below.refl _ _) | (with_reducible assumption) | (with_reducible refine Below.drew ?_) | (with_reducible refine below_draws ?_ _) | ((with_reducible refine Below.setCell ?_ ?_ _); rotate_left; (first | (with_reducible exact Nat.le_refl _) | (focus (simp; done)) | (focus (simp; omega)) | omega)) | ((with_reducible refine Below.alloc ?_ ?_ _); rotate_left; (first | (with_reducible exact Nat.le_refl _) | (focus (simp; done)) | (focus (simp; omega)) | omega)))))⟩
    have hf' : (f == 2) = false := by simp [hf]
    by_cases he0 : e = 0
    rotate_left
    · have he0' : (e == 0) = false := by simp [he0]
      have hfin : pairUp (re, e) (im, f) = (0, 0, 14) := by simp [pairUp, he, hf, he0]
      have HF := Lib.hid hfin
      clear hfin
      go_wp2_with (first | (go_at_call 31; (with_reducible refine (K1 _).mono ?_); rintro e w' ⟨rfl, rfl⟩) | (go_at_call 31; (with_reducible refine (K2 _).mono ?_); rintro e w' ⟨rfl, rfl⟩))
      rw [HF.out]
      exact bodyPost_ret (v := gv (0, 0, 14)) (by simp [results, Tryd.results26, go_sem, hc1]; rfl) rfl ⟨rfl, (by (repeat (first | (with_reducible exact Below.refl _ _) | (with_reducible assumption) | (with_reducible refine Below.drew ?_) | (with_reducible refine below_draws ?_ _) | ((with_reducible refine Below.setCell ?_ ?_ _); rotate_left; (first | (with_reducible exact Nat.le_refl _) | (focus (simp; done)) | (focus (simp; omega)) | omega)) | ((with_reducible refine Below.alloc ?_ ?_ _); rotate_left; (first | (with_reducible exact Nat.le_refl _) | (focus (simp; done)) | (focus (simp; omega)) | omega)))))⟩
    subst he0
    by_cases hf0 : f = 0
    rotate_left
    · have hf0' : (f == 0) = false := by simp [hf0]
      have hfin : pairUp (re, 0) (im, f) = (0, 0, 14) := by simp [pairUp, hf, hf0]
      have HF := Lib.hid hfin
      clear hfin
      go_wp2_with (first | (go_at_call 31; (with_reducible refine (K1 _).mono ?_); rintro e w' ⟨rfl, rfl⟩) | (go_at_call 31; (with_reducible refine (K2 _).mono ?_); rintro e w' ⟨rfl, rfl⟩))
      rw [HF.out]
      exact bodyPost_ret (v := gv (0, 0, 14)) (by simp [results, Tryd.results26, go_sem, hc1]; rfl) rfl ⟨rfl, (by (repeat (first | (with_reducible exact Below.refl _ _) | (with_reducible assumption) | (with_reducible refine Below.drew ?_) | (with_reducible refine below_draws ?_ _) | ((with_reducible refine Below.setCell ?_ ?_ _); rotate_left; (first | (with_reducible exact Nat.le_refl _) | (focus (simp; done)) | (focus (simp; omega)) | omega)) | ((with_reducible refine Below.alloc ?_ ?_ _); rotate_left; (first | (with_reducible exact Nat.le_refl _) | (focus (simp; done)) | (focus (simp; omega)) | omega)))))⟩
    subst hf0
    by_cases hre : re = pr
    rotate_left
    · have hre' : (re == pr) = false := by simp [hre]
      have hfin : pairUp (re, 0) (im, 0) = (0, 0, 14) := by simp [pairUp, HPR.out, hre]
      have HF := Lib.hid hfin
      clear hfin
      go_wp2_with (first | (go_at_call 31; (with_reducible refine (K1 _).mono ?_); rintro e w' ⟨rfl, rfl⟩) | (go_at_call 31; (with_reducible refine (K2 _).mono ?_); rintro e w' ⟨rfl, rfl⟩))
      rw [HF.out]
      exact bodyPost_ret (v := gv (0, 0, 14)) (by simp [results, Tryd.results26, go_sem, hc1]; rfl) rfl ⟨rfl, (by (repeat (first | (with_reducible exact Below.refl _ _) | (with_reducible assumption) | (with_reducible refine Below.drew ?_) | (with_reducible refine below_draws ?_ _) | ((with_reducible refine Below.setCell ?_ ?_ _); rotate_left; (first | (with_reducible exact Nat.le_refl _) | (focus (simp; done)) | (focus (simp; omega)) | omega)) | ((with_reducible refine Below.alloc ?_ ?_ _); rotate_left; (first | (with_reducible exact Nat.le_refl _) | (focus (simp; done)) | (focus (simp; omega)) | omega)))))⟩
    subst hre
    by_cases him : im = pq
    rotate_left
    · have him' : (im == pq) = false := by simp [him]
      have hfin : pairUp (re, 0) (im, 0) = (0, 0, 14) := by simp [pairUp, HPQ.out, him]
      have HF := Lib.hid hfin
      clear hfin
      go_wp2_with (first | (go_at_call 31; (with_reducible refine (K1 _).mono ?_); rintro e w' ⟨rfl, rfl⟩) | (go_at_call 31; (with_reducible refine (K2 _).mono ?_); rintro e w' ⟨rfl, rfl⟩))
      rw [HF.out]
      exact bodyPost_ret (v := gv (0, 0, 14)) (by simp [results, Tryd.results26, go_sem, hc1]; rfl) rfl ⟨rfl, (by (repeat (first | (with_reducible exact Below.refl _ _) | (with_reducible assumption) | (with_reducible refine Below.drew ?_) | (with_reducible refine below_draws ?_ _) | ((with_reducible refine Below.setCell ?_ ?_ _); rotate_left; (first | (with_reducible exact Nat.le_refl _) | (focus (simp; done)) | (focus (simp; omega)) | omega)) | ((with_reducible refine Below.alloc ?_ ?_ _); rotate_left; (first | (with_reducible exact Nat.le_refl _) | (focus (simp; done)) | (focus (simp; omega)) | omega)))))⟩
    subst him
    have hfin : pairUp (re, 0) (im, 0) = (re, im, 0) := by simp [pairUp, HPR.out, HPQ.out]
    have HF := Lib.hid hfin
    clear hfin
    go_wp2_with (first | (go_at_call 31; (with_reducible refine (K1 _).mono ?_); rintro e w' ⟨rfl, rfl⟩) | (go_at_call 31; (with_reducible refine (K2 _).mono ?_); rintro e w' ⟨rfl, rfl⟩))
    rw [HF.out]
    exact bodyPost_ret (v := gv (re, im, 0)) (by simp [results, Tryd.results26, go_sem, hc1]; rfl) rfl ⟨rfl, (by (repeat (first | (with_reducible exact Below.refl _ _) | (with_reducible assumption) | (with_reducible refine Below.drew ?_) | (with_reducible refine below_draws ?_ _) | ((with_reducible refine Below.setCell ?_ ?_ _); rotate_left; (first | (with_reducible exact Nat.le_refl _) | (focus (simp; done)) | (focus (simp; omega)) | omega)) | ((with_reducible refine Below.alloc ?_ ?_ _); rotate_left; (first | (with_reducible exact Nat.le_refl _) | (focus (simp; done)) | (focus (simp; omega)) | omega)))))⟩
  · have h45 : bt b j = 45 := by omega
    have h43' : (bt b j == 43) = false := by simp [h43]
    clear hsec hsign
    cases hq : Lib.hasPrefix (second b j) [45]
    · clear hq
      go_wp2_with fail
      refine (HN1.out _ (by simp; omega)).mono ?_
      rintro e' w' ⟨rfl, rfl⟩
      go_wp2_with fail
      refine (HN2.out _ (by omega)).mono ?_
      rintro e' w' ⟨rfl, rfl⟩
      by_cases he : e = 2
      · subst he
        have hfin : pairUp (re, 2) (im, f) = (0, 0, 2) := by simp [pairUp]
        have HF := Lib.hid hfin
        clear hfin
        go_wp2_with (first | (go_at_call 31; (with_reducible refine (K1 _).mono ?_); rintro e w' ⟨rfl, rfl⟩) | (go_at_call 31; (with_reducible refine (K2 _).mono ?_); rintro e w' ⟨rfl, rfl⟩))
        rw [HF.out]
        exact bodyPost_ret (v := gv (0, 0, 2)) (by simp [results, Tryd.results26, go_sem, hc1]; rfl) rfl ⟨rfl, (by (repeat (first | (with_reducible exact Below.refl _ _) | (with_reducible assumption) | (with_reducible refine Below.drew ?_) | (with_reducible refine below_draws ?_ _) | ((with_reducible refine Below.setCell ?_ ?_ _); rotate_left; (first | (with_reducible exact Nat.le_refl _) | (focus (simp; done)) | (focus (simp; omega)) | omega)) | ((with_reducible refine Below.alloc ?_ ?_ _); rotate_left; (first | (with_reducible exact Nat.le_refl _) | (focus (simp; done)) | (focus (simp; omega)) | omega)))))⟩
      have he' : (e == 2) = false := by simp [he]
      by_cases hf : f = 2
      · subst hf
        have hfin : pairUp (re, e) (im, 2) = (0, 0, 2) := by simp [pairUp]
        have HF := Lib.hid hfin
        clear hfin
        go_wp2_with (first | (go_at_call 31; (with_reducible refine (K1 _).mono ?_); rintro e w' ⟨rfl, rfl⟩) | (go_at_call 31; (with_reducible refine (K2 _).mono ?_); rintro e w' ⟨rfl, rfl⟩))
        rw [HF.out]
        exact bodyPost_ret (v := gv (0, 0, 2)) (by simp [results, Tryd.results26, go_sem, hc1]; rfl) rfl ⟨rfl, (by (repeat (first | (with_reducible exact Below.refl _ _) | (with_reducible assumption) | (with_reducible refine Below.drew ?_) | (with_reducible refine below_draws ?_ _) | ((with_reducible refine Below.setCell ?_ ?_ _); rotate_left; (first | (with_reducible exact Nat.le_refl _) | (focus (simp; done)) | (focus (simp; omega)) | omega)) | ((with_reducible refine Below.alloc ?_ ?_ _); rotate_left; (first | (with_reducible exact Nat.le_refl _) | (focus (simp; done)) | (focus (simp; omega)) | omega)))))⟩
      have hf' : (f == 2) = false := by simp [hf]
      by_cases he0 : e = 0
      rotate_left
      · have he0' : (e == 0) = false := by simp [he0]
        have hfin : pairUp (re, e) (im, f) = (0, 0, 14) := by simp [pairUp, he, hf, he0]
        have HF := Lib.hid hfin
        clear hfin
        go_wp2_with (first | (go_at_call 31; (with_reducible refine (K1 _).mono ?_); rintro e w' ⟨rfl, rfl⟩) | (go_at_call 31; (with_reducible refine (K2 _).mono ?_); rintro e w' ⟨rfl, rfl⟩))
        rw [HF.out]
        exact bodyPost_ret (v := gv (0, 0, 14)) (by simp [results, Tryd.results26, go_sem, hc1]; rfl) rfl ⟨rfl, (by (repeat (first | (with_reducible exact Below.refl _ _) | (with_reducible assumption) | (with_reducible refine Below.drew ?_) | (with_reducible refine below_draws ?_ _) | ((with_reducible refine Below.setCell ?_ ?_ _); rotate_left; (first | (with_reducible exact Nat.le_refl _) | (focus (simp; done)) | (focus (simp; omega)) | omega)) | ((with_reducible refine Below.alloc ?_ ?_ _); rotate_left; (first | (with_reducible exact Nat.le_refl _) | (focus (simp; done)) | (focus (simp; omega)) | omega)))))⟩
      subst he0
      by_cases hf0 : f = 0
      rotate_left
      · have hf0' : (f == 0) = false := by simp [hf0]
        have hfin : pairUp (re, 0) (im, f) = (0, 0, 14) := by simp [pairUp, hf, hf0]
        have HF := Lib.hid hfin
        clear hfin
        go_wp2_with (first | (go_at_call 31; (with_reducible refine (K1 _).mono ?_); rintro e w' ⟨rfl, rfl⟩) | (go_at_call 31; (with_reducible refine (K2 _).mono ?_); rintro e w' ⟨rfl, rfl⟩))
        rw [HF.out]
        exact bodyPost_ret (v := gv (0, 0, 14)) (by simp [results, Tryd.results26, go_sem, hc1]; rfl) rfl ⟨rfl, (by (repeat (first | (with_reducible exact Below.refl _ _) | (with_reducible assumption) | (with_reducible refine Below.drew ?_) | (with_reducible refine below_draws ?_ _) | ((with_reducible refine Below.setCell ?_ ?_ _); rotate_left; (first | (with_reducible exact Nat.le_refl _) | (focus (simp; done)) | (focus (simp; omega)) | omega)) | ((with_reducible refine Below.alloc ?_ ?_ _); rotate_left; (first | (with_reducible exact Nat.le_refl _) | (focus (simp; done)) | (focus (simp; omega)) | omega)))))⟩
      subst hf0
      by_cases hre : re = pr
      rotate_left
      · have hre' : (re == pr) = false := by simp [hre]
        have hfin : pairUp (re, 0) (im, 0) = (0, 0, 14) := by simp [pairUp, HPR.out, hre]
        have HF := Lib.hid hfin
        clear hfin
        go_wp2_with (first | (go_at_call 31; (with_reducible refine (K1 _).mono ?_); rintro e w' ⟨rfl, rfl⟩) | (go_at_call 31; (with_reducible refine (K2 _).mono ?_); rintro e w' ⟨rfl, rfl⟩))
        rw [HF.out]
        exact bodyPost_ret (v := gv (0, 0, 14)) (by simp [results, Tryd.results26, go_sem, hc1]; rfl) rfl ⟨rfl, (by (repeat (first | (with_reducible exact Below.refl _ _) | (with_reducible assumption) | (with_reducible refine Below.drew ?_) | (with_reducible refine below_draws ?_ _) | ((with_reducible refine Below.setCell ?_ ?_ _); rotate_left; (first | (with_reducible exact Nat.le_refl _) | (focus (simp; done)) | (focus (simp; omega)) | omega)) | ((with_reducible refine Below.alloc ?_ ?_ _); rotate_left; (first | (with_reducible exact Nat.le_refl _) | (focus (simp; done)) | (focus (simp; omega)) | omega)))))⟩
      subst hre
      by_cases him : im = pq
      rotate_left
      · have him' : (im == pq) = false := by simp [him]
        have hfin : pairUp (re, 0) (im, 0) = (0, 0, 14) := by simp [pairUp, HPQ.out, him]
        have HF := Lib.hid hfin
        clear hfin
        go_wp2_with (first | (go_at_call 31; (with_reducible refine (K1 _).mono ?_); rintro e w' ⟨rfl, rfl⟩) | (go_at_call 31; (with_reducible refine (K2 _).mono ?_); rintro e w' ⟨rfl, rfl⟩))
        rw [HF.out]
        exact bodyPost_ret (v := gv (0, 0, 14)) (by simp [results, Tryd.results26, go_sem, hc1]; rfl) rfl ⟨rfl, (by (repeat (first | (with_reducible exact Below.refl _ _) | (with_reducible assumption) | (with_reducible refine Below.drew ?_) | (with_reducible refine below_draws ?_ _) | ((with_reducible refine Below.setCell ?_ ?_ _); rotate_left; (first | (with_reducible exact Nat.le_refl _) | (focus (simp; done)) | (focus (simp; omega)) | omega)) | ((with_reducible refine Below.alloc ?_ ?_ _); rotate_left; (first | (with_reducible exact Nat.le_refl _) | (focus (simp; done)) | (focus (simp; omega)) | omega)))))⟩
      subst him
      have hfin : pairUp (re, 0) (im, 0) = (re, im, 0) := by simp [pairUp, HPR.out, HPQ.out]
      have HF := Lib.hid hfin
      clear hfin
      go_wp2_with (first | (go_at_call 31; (with_reducible refine (K1 _).mono ?_); rintro e w' ⟨rfl, rfl⟩) | (go_at_call 31; (with_reducible refine (K2 _).mono ?_); rintro e w' ⟨rfl, rfl⟩))
      rw [HF.out]
      exact bodyPost_ret (v := gv (re, im, 0)) (by simp [results, Tryd.results26, go_sem, hc1]; rfl) rfl ⟨rfl, (by (repeat (first | (with_reducible exact Below.refl _ _) | (with_reducible assumption) | (with_reducible refine Below.drew ?_) | (with_reducible refine below_draws ?_ _) | ((with_reducible refine Below.setCell ?_ ?_ _); rotate_left; (first | (with_reducible exact Nat.le_refl _) | (focus (simp; done)) | (focus (simp; omega)) | omega)) | ((with_reducible refine Below.alloc ?_ ?_ _); rotate_left; (first | (with_reducible exact Nat.le_refl _) | (focus (simp; done)) | (focus (simp; omega)) | omega)))))⟩
    · clear hq
      go_wp2_with fail
      refine (HN1.out _ (by simp; omega)).mono ?_
      rintro e' w' ⟨rfl, rfl⟩
      go_wp2_with fail
      refine (HN2.out _ (by omega)).mono ?_
      rintro e' w' ⟨rfl, rfl⟩
      by_cases he : e = 2
      · subst he
        have hfin : pairUp (re, 2) (im, f) = (0, 0, 2) := by simp [pairUp]
        have HF := Lib.hid hfin
        clear hfin
        go_wp2_with (first | (go_at_call 31; (with_reducible refine (K1 _).mono ?_); rintro e w' ⟨rfl, rfl⟩) | (go_at_call 31; (with_reducible refine (K2 _).mono ?_); rintro e w' ⟨rfl, rfl⟩))
        rw [HF.out]
        exact bodyPost_ret (v := gv (0, 0, 2)) (by simp [results, Tryd.results26, go_sem, hc1]; rfl) rfl ⟨rfl, (by (repeat (first | (with_reducible exact Below.refl _ _) | (with_reducible assumption) | (with_reducible refine Below.drew ?_) | (with_reducible refine below_draws ?_ _) | ((with_reducible refine Below.setCell ?_ ?_ _); rotate_left; (first | (with_reducible exact Nat.le_refl _) | (focus (simp; done)) | (focus (simp; omega)) | omega)) | ((with_reducible refine Below.alloc ?_ ?_ _); rotate_left; (first | (with_reducible exact Nat.le_refl _) | (focus (simp; done)) | (focus (simp; omega)) | omega)))))⟩
      have he' : (e == 2) = false := by simp [he]
      by_cases hf : f = 2
      · subst hf
        have hfin : pairUp (re, e) (im, 2) = (0, 0, 2) := by simp [pairUp]
        have HF := Lib.hid hfin
        clear hfin
        go_wp2_with (first | (go_at_call 31; (with_reducible refine (K1 _).mono ?_); rintro e w' ⟨rfl, rfl⟩) | (go_at_call 31; (with_reducible refine (K2 _).mono ?_); rintro e w' ⟨rfl, rfl⟩))
        rw [HF.out]
        exact bodyPost_ret (v := gv (0, 0, 2)) (by simp [results, Tryd.results26, go_sem, hc1]; rfl) rfl ⟨rfl, (by (repeat (first | (with_reducible exact Below.refl _ _) | (with_reducible assumption) | (with_reducible refine Below.drew ?_) | (with_reducible refine below_draws ?_ _) | ((with_reducible refine Below.setCell ?_ ?_ _); rotate_left; (first | (with_reducible exact Nat.le_refl _) | (focus (simp; done)) | (focus (simp; omega)) | omega)) | ((with_reducible refine Below.alloc ?_ ?_ _); rotate_left; (first | (with_reducible exact Nat.le_refl _) | (focus (simp; done)) | (focus (simp; omega)) | omega)))))⟩
      have hf' : (f == 2) = false := by simp [hf]
      by_cases he0 : e = 0
      rotate_left
      · have he0' : (e == 0) = false := by simp [he0]
        have hfin : pairUp (re, e) (im, f) = (0, 0, 14) := by simp [pairUp, he, hf, he0]
        have HF := Lib.hid hfin
        clear hfin
        go_wp2_with (first | (go_at_call 31; (with_reducible refine (K1 _).mono ?_); rintro e w' ⟨rfl, rfl⟩) | (go_at_call 31; (with_reducible refine (K2 _).mono ?_); rintro e w' ⟨rfl, rfl⟩))
        rw [HF.out]
        exact bodyPost_ret (v := gv (0, 0, 14)) (by simp [results, Tryd.results26, go_sem, hc1]; rfl) rfl ⟨rfl, (by (repeat (first | (with_reducible exact Below.refl _ _) | (with_reducible assumption) | (with_reducible refine Below.drew ?_) | (with_reducible refine below_draws ?_ _) | ((with_reducible refine Below.setCell ?_ ?_ _); rotate_left; (first | (with_reducible exact Nat.le_refl _) | (focus (simp; done)) | (focus (simp; omega)) | omega)) | ((with_reducible refine Below.alloc ?_ ?_ _); rotate_left; (first | (with_reducible exact Nat.le_refl _) | (focus (simp; done)) | (focus (simp; omega)) | omega)))))⟩
      subst he0
      by_cases hf0 : f = 0
      rotate_left
      · have hf0' : (f == 0) = false := by simp [hf0]
        have hfin : pairUp (re, 0) (im, f) = (0, 0, 14) := by simp [pairUp, hf, hf0]
        have HF := Lib.hid hfin
        clear hfin
        go_wp2_with (first | (go_at_call 31; (with_reducible refine (K1 _).mono ?_); rintro e w' ⟨rfl, rfl⟩) | (go_at_call 31; (with_reducible refine (K2 _).mono ?_); rintro e w' ⟨rfl, rfl⟩))
        rw [HF.out]
        exact bodyPost_ret (v := gv (0, 0, 14)) (by simp [results, Tryd.results26, go_sem, hc1]; rfl) rfl ⟨rfl, (by (repeat (first | (with_reducible exact Below.refl _ _) | (with_reducible assumption) | (with_reducible refine Below.drew ?_) | (with_reducible refine below_draws ?_ _) | ((with_reducible refine Below.setCell ?_ ?_ _); rotate_left; (first | (with_reducible exact Nat.le_refl _) | (focus (simp; done)) | (focus (simp; omega)) | omega)) | ((with_reducible refine Below.alloc ?_ ?_ _); rotate_left; (first | (with_reducible exact Nat.le_refl _) | (focus (simp; done)) | (focus (simp; omega)) | omega)))))⟩
      subst hf0
      by_cases hre : re = pr
      rotate_left
      · have hre' : (re == pr) = false := by simp [hre]
        have hfin : pairUp (re, 0) (im, 0) = (0, 0, 14) := by simp [pairUp, HPR.out, hre]
        have HF := Lib.hid hfin
        clear hfin
        go_wp2_with (first | (go_at_call 31; (with_reducible refine (K1 _).mono ?_); rintro e w' ⟨rfl, rfl⟩) | (go_at_call 31; (with_reducible refine (K2 _).mono ?_); rintro e w' ⟨rfl, rfl⟩))
        rw [HF.out]
        exact bodyPost_ret (v := gv (0, 0, 14)) (by simp [results, Tryd.results26, go_sem, hc1]; rfl) rfl ⟨rfl, (by (repeat (first | (with_reducible exact Below.refl _ _) | (with_reducible assumption) | (with_reducible refine Below.drew ?_) | (with_reducible refine below_draws ?_ _) | ((with_reducible refine Below.setCell ?_ ?_ _); rotate_left; (first | (with_reducible exact Nat.le_refl _) | (focus (simp; done)) | (focus (simp; omega)) | omega)) | ((with_reducible refine Below.alloc ?_ ?_ _); rotate_left; (first | (with_reducible exact Nat.le_refl _) | (focus (simp; done)) | (focus (simp; omega)) | omega)))))⟩
      subst hre
      by_cases him : im = pq
      rotate_left
      · have him' : (im == pq) = false := by simp [him]
        have hfin : pairUp (re, 0) (im, 0) = (0, 0, 14) := by simp [pairUp, HPQ.out, him]
        have HF := Lib.hid hfin
        clear hfin
        go_wp2_with (first | (go_at_call 31; (with_reducible refine (K1 _).mono ?_); rintro e w' ⟨rfl, rfl⟩) | (go_at_call 31; (with_reducible refine (K2 _).mono ?_); rintro e w' ⟨rfl, rfl⟩))
        rw [HF.out]
        exact bodyPost_ret (v := gv (0, 0, 14)) (by simp [results, Tryd.results26, go_sem, hc1]; rfl) rfl ⟨rfl, (by (repeat (first | (with_reducible exact Below.refl _ _) | (with_reducible assumption) | (with_reducible refine Below.drew ?_) | (with_reducible refine below_draws ?_ _) | ((with_reducible refine Below.setCell ?_ ?_ _); rotate_left; (first | (with_reducible exact Nat.le_refl _) | (focus (simp; done)) | (focus (simp; omega)) | omega)) | ((with_reducible refine Below.alloc ?_ ?_ _); rotate_left; (first | (with_reducible exact Nat.le_refl _) | (focus (simp; done)) | (focus (simp; omega)) | omega)))))⟩
      subst him
      have hfin : pairUp (re, 0) (im, 0) = (re, im, 0) := by simp [pairUp, HPR.out, HPQ.out]
      have HF := Lib.hid hfin
      clear hfin
      go_wp2_with (first | (go_at_call 31; (with_reducible refine (K1 _).mono ?_); rintro e w' ⟨rfl, rfl⟩) | (go_at_call 31; (with_reducible refine (K2 _).mono ?_); rintro e w' ⟨rfl, rfl⟩))
      rw [HF.out]
      exact bodyPost_ret (v := gv (re, im, 0)) (by simp [results, Tryd.results26, go_sem, hc1]; rfl) rfl ⟨rfl, (by (repeat (first | (with_reducible exact Below.refl _ _) | (with_reducible assumption) | (with_reducible refine Below.drew ?_) | (with_reducible refine below_draws ?_ _) | ((with_reducible refine Below.setCell ?_ ?_ _); rotate_left; (first | (with_reducible exact Nat.le_refl _) | (focus (simp; done)) | (focus (simp; omega)) | omega)) | ((with_reducible refine Below.alloc ?_ ?_ _); rotate_left; (first | (with_reducible exact Nat.le_refl _) | (focus (simp; done)) | (focus (simp; omega)) | omega)))))⟩
end Go.Proofs.YtoagnjnkgecmkaaDoor
