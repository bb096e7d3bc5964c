/- Walks of the gauss seat, part N: the last sign in a text. -/
import Derived.Test.YtoagnjnkgecmkaaDoorGaussM
import Derived.Test.YtoagnjnkgecmkaaDoorShelf
import Derived.Shelf.Strings.IndexAnyAll
namespace Go.Proofs.YtoagnjnkgecmkaaDoor
open Go.RowKit Go.Lib
attribute [local go_sem] B_mk B_size B_toList B_extract B_append B_get

/-- The last place of a sign ahead of a place; -1 where there is none. -/
def lsu (l : List UInt8) : Nat → Int
  | 0 => -1
  | k + 1 => if bt l k = 43 ∨ bt l k = 45 then (k : Int) else lsu l k
def lastSign (l : List UInt8) : Int := lsu l l.length
theorem B_data (l : List UInt8) : (B l).data.toList = l := by simp [B]
def isPM (x : UInt8) : Bool := ([43, 45] : List UInt8).contains x
theorem isPM_iff (l : List UInt8) (i : Nat) (hi : i < l.length) : isPM l[i] = true ↔ bt l i = 43 ∨ bt l i = 45 := by
  rw [bt_eq l i hi]
  simp only [isPM, List.contains_cons, List.contains_nil, Bool.or_false, Bool.or_eq_true, beq_iff_eq]
  constructor
  · rintro (h | h) <;> rw [h] <;> simp
  · rintro (h | h)
    · left; exact UInt8.toNat_inj.1 (by simpa using (by omega : (l[i]).toNat = 43))
    · right; exact UInt8.toNat_inj.1 (by simpa using (by omega : (l[i]).toNat = 45))

theorem set_info : (Tryd.prog.info? 65).map (fun i => (i.zero, i.size)) = some (some (.agg (Array.replicate 256 (.bool false))), 256) := by kernel_rfl

set_option maxHeartbeats 8000000 in
set_option maxRecDepth 1000000 in
theorem lastany_long (l : List UInt8) (w : World) (h8 : 8 < l.length) (hs : l.length < 1000000) :
    Calls Tryd.prog 35 #[.string (B l), .string (B [43, 45])] w fun e w' => e = .returned (.int .i64 (lastSign l)) ∧ Below w.heap.size w w' := by
  have hM := Tryd.strings_makeASCIISet (zero_of_info set_info).1 (B [43, 45]) w (by rw [B_size]; decide) (by
    rw [B_data]; intro j b hb
    match j with
    | 0 => simp at hb; subst hb; decide
    | 1 => simp at hb; subst hb; decide
    | j + 2 => simp at hb)
  rw [B_data] at hM
  have h8z : decide ((8 : Int) < (l.length : Int)) = true := decide_eq_true (by omega)
  have hl1 : ((l.length : Int) == 1) = false := beq_eq_false_iff_ne.2 (by omega)
  have hsc : (storeCells ⟨w.heap.size + 1, 0, none⟩ (Lib.setCells [43, 45]).toList 0).run Tryd.prog ((w.alloc (.cells (Lib.setCells [43, 45]) 65)).alloc (.cells Tryd.zeroCells65 65)) = .ok () ((w.alloc (.cells (Lib.setCells [43, 45]) 65)).alloc (.cells (Lib.setCells [43, 45]) 65)) := by
    have := run_storeCells_new (P := Tryd.prog) (w.alloc (.cells (Lib.setCells [43, 45]) 65)) 65 Tryd.zeroCells65 (Lib.setCells [43, 45]) (by rw [Lib.setCells_size]; exact (zero_of_info set_info).2) (by rw [Lib.setCells_size]; kernel_rfl) (Lib.setCells_one _)
    simpa using this
  have hsz := Lib.setCells_size [43, 45]
  have hcellAt : ∀ x : UInt8, ((w.alloc (.cells (Lib.setCells [43, 45]) 65)).alloc (.cells (Lib.setCells [43, 45]) 65)).cell? ⟨w.heap.size + 1, x.toNat, none⟩ = some (.bool (isPM x)) := fun x => by
    rw [World.cell?_alloc_at _ _ _ _ (by simp), Lib.setCells_at]; rfl
  have HC := Lib.hid hcellAt
  clear hcellAt
  go_enter Tryd.func35, Tryd.ntmps35
  go_wp2_with (first
    | (go_at_call 45; refine (Tryd.strings_shouldUseASCIISet _ _).mono ?_; rintro e w' ⟨rfl, hw⟩; rw [hw, h8z])
    | (go_at_call 46; refine hM.mono ?_; rintro e w' ⟨rfl, hw⟩; rw [hw]))
  clear hM hsc
  go_loop [8] (fun i => ∃ k : Nat, k ≤ l.length ∧ i = .int .i64 ((k : Int) - 1) ∧ lastSign l = lsu l k) (fun i => (RowKit.intOf i + 1).toNat)
  case atStart => exact ⟨l.length, by omega, by go_num, rfl⟩
  case round =>
    obtain ⟨k, hk, rfl, hl⟩ := hrel
    have HL := Lib.hid hl
    clear hl
    cases k with
    | zero =>
      go_wp2
      go_ret
      exact ⟨ret_int (by rw [HL.out]; rfl), (by (repeat (first | (with_reducible exact Below.refl _ _) | (with_reducible assumption) | (with_reducible refine Below.drew ?_) | (with_reducible refine below_draws ?_ _) | ((with_reducible refine Below.setCell ?_ ?_ _); rotate_left; (first | (with_reducible exact Nat.le_refl _) | (focus (simp; done)) | (focus (simp; omega)) | omega)) | ((with_reducible refine Below.alloc ?_ ?_ _); rotate_left; (first | (with_reducible exact Nat.le_refl _) | (focus (simp; done)) | (focus (simp; omega)) | omega)))))⟩
    | succ k =>
      have hk' : k < l.length := by omega
      have hbt := bt_eq l k hk'
      have hcx := HC.out l[k]
      have hpm := isPM_iff l k hk'
      have hpos : 0 ≤ (k : Int) := by omega
      rw [show ((k + 1 : Nat) : Int) - 1 = (k : Int) by omega]
      cases hin : isPM l[k] <;> rw [hin] at hcx
      · have hno : ¬ (bt l k = 43 ∨ bt l k = 45) := by rw [← hpm, hin]; decide
        have HNO := Lib.hid hno
        clear hpm hno
        go_wp2_with fail

        refine (Tryd.asciiSet_contains _ l[k] _ _ hcx).mono ?_
        rintro e w' ⟨rfl, hw⟩
        rw [hw]
        go_wp2
        go_round
        case rel => exact ⟨k, by omega, rfl, by rw [HL.out, lsu, if_neg HNO.out]⟩
        case measure => simp [RowKit.intOf]
      · have hyes : bt l k = 43 ∨ bt l k = 45 := hpm.1 hin
        have HY := Lib.hid hyes
        clear hpm hyes
        go_wp2_with fail

        refine (Tryd.asciiSet_contains _ l[k] _ _ hcx).mono ?_
        rintro e w' ⟨rfl, hw⟩
        rw [hw]
        go_wp2
        go_ret
        exact ⟨ret_int (by rw [HL.out, lsu, if_pos HY.out]), (by (repeat (first | (with_reducible exact Below.refl _ _) | (with_reducible assumption) | (with_reducible refine Below.drew ?_) | (with_reducible refine below_draws ?_ _) | ((with_reducible refine Below.setCell ?_ ?_ _); rotate_left; (first | (with_reducible exact Nat.le_refl _) | (focus (simp; done)) | (focus (simp; omega)) | omega)) | ((with_reducible refine Below.alloc ?_ ?_ _); rotate_left; (first | (with_reducible exact Nat.le_refl _) | (focus (simp; done)) | (focus (simp; omega)) | omega)))))⟩

/-! ### The short road: rune by rune, at ASCII texts -/
set_option maxHeartbeats 1000000 in
set_option maxRecDepth 100000 in
theorem declast_ascii (l : List UInt8) (w : World) (k : Nat) (hk : l.length = k + 1) (hs : l.length < 1000000) (ha : bt l k < 128) :
    Calls Tryd.prog 48 #[.string (B l)] w fun e w' => e = .returned (.tuple #[.int .i32 (bt l k), .int .i64 1]) ∧ w = w' := by
  have hlen : (l.length : Int) = (k : Int) + 1 := by omega
  have h0 := bt_lo l k
  have hk0 : k < 1000000 := by omega
  clear hk
  go_enter Tryd.func48, Tryd.ntmps48
  go_wp2
  go_ret2
  exact ⟨rfl, rfl⟩

/-- Which of the two signs a rune is. -/
def pmIdx (r : Int) : Int := Lib.indexByte [43, 45] r.toNat.toUInt8
theorem pmIdx_bt (l : List UInt8) (k : Nat) : (0 ≤ pmIdx (bt l k)) ↔ (bt l k = 43 ∨ bt l k = 45) := by
  have h : ∀ c : UInt8, (0 ≤ Lib.indexByte [43, 45] c) ↔ (c.toNat = 43 ∨ c.toNat = 45) := by
    intro c
    rw [Lib.indexByte]
    by_cases h1 : c = 43
    · subst h1; decide
    · by_cases h2 : c = 45
      · subst h2; decide
      · have e1 : ¬ (43 : UInt8) = c := fun h => h1 h.symm
        have e2 : ¬ (45 : UInt8) = c := fun h => h2 h.symm
        have n1 : c.toNat ≠ 43 := fun h => h1 (UInt8.toNat_inj.1 (by simpa using h))
        have n2 : c.toNat ≠ 45 := fun h => h2 (UInt8.toNat_inj.1 (by simpa using h))
        simp [Lib.indexByte, e1, e2, n1, n2]
  have hc : (bt l k).toNat.toUInt8 = l.getD k 0 := by
    unfold bt; simp
  unfold pmIdx
  rw [hc, h]
  unfold bt; omega

set_option maxHeartbeats 4000000 in
set_option maxRecDepth 100000 in
theorem lastany_short (l : List UInt8) (w : World) (h8 : l.length ≤ 8) (h1 : (((l.length : Int)) == 1) = false) (ha : ∀ i, i < l.length → bt l i < 128) :
    Calls Tryd.prog 35 #[.string (B l), .string (B [43, 45])] w fun e w' => e = .returned (.int .i64 (lastSign l)) ∧ Below w.heap.size w w' := by
  have h8z : decide ((8 : Int) < (l.length : Int)) = false := decide_eq_false (by omega)
  go_enter Tryd.func35, Tryd.ntmps35
  go_wp2_with (go_at_call 45; refine (Tryd.strings_shouldUseASCIISet _ _).mono ?_; rintro e w' ⟨rfl, hw⟩; rw [hw, h8z])
  go_loop [13] (fun i => ∃ k : Nat, k ≤ l.length ∧ i = .int .i64 (k : Int) ∧ lastSign l = lsu l k) (fun i => (RowKit.intOf i).toNat)
  case atStart => exact ⟨l.length, by omega, rfl, rfl⟩
  case round =>
    obtain ⟨k, hk, rfl, hl⟩ := hrel
    have HL := Lib.hid hl
    clear hl
    cases k with
    | zero =>
      go_wp2
      go_ret
      exact ⟨ret_int (by rw [HL.out]; rfl), Below.refl _ _⟩
    | succ k =>
      have hpos : (0 : Int) < (k : Int) + 1 := by omega
      have hbt : bt (l.take (k + 1)) k = bt l k := by
        simp [bt]
      have hdec := declast_ascii (l.take (k + 1)) w k (by simp; omega) (by simp; omega) (by rw [hbt]; exact ha k (by omega))
      rw [hbt] at hdec
      have hpm := pmIdx_bt l k
      have hlo := bt_lo l k
      have hhi := ha k (by omega)
      have HPM := Lib.hid hpm
      clear hpm hbt
      go_wp2_with fail
      refine hdec.mono ?_
      rintro e w' ⟨rfl, rfl⟩
      go_wp2_with fail
      refine (Tryd.strings_IndexRune_ascii _ _ _ hlo hhi).mono ?_
      rintro e w' ⟨rfl, hw⟩
      rw [hw, B_data]
      by_cases hyes : bt l k = 43 ∨ bt l k = 45
      · have hge : decide (0 ≤ pmIdx (bt l k)) = true := decide_eq_true (HPM.out.2 hyes)
        have HY := Lib.hid hyes
        clear hyes
        unfold pmIdx at hge
        go_wp2
        go_ret
        exact ⟨ret_int (by rw [HL.out, lsu, if_pos HY.out]), Below.refl _ _⟩
      · have hge : decide (0 ≤ pmIdx (bt l k)) = false := decide_eq_false (fun h => hyes (HPM.out.1 h))
        have HN := Lib.hid hyes
        clear hyes
        unfold pmIdx at hge
        go_wp2
        go_round
        case rel => exact ⟨k, by omega, rfl, by rw [HL.out, lsu, if_neg HN.out]⟩
        case measure => simp [RowKit.intOf]

set_option maxHeartbeats 4000000 in
set_option maxRecDepth 100000 in
theorem lastany_one (c : UInt8) (w : World) (ha : bt [c] 0 < 128) :
    Calls Tryd.prog 35 #[.string (B [c]), .string (B [43, 45])] w fun e w' => e = .returned (.int .i64 (lastSign [c])) ∧ Below w.heap.size w w' := by
  have hlo := bt_lo [c] 0
  have hpm := pmIdx_bt [c] 0
  by_cases hyes : bt [c] 0 = 43 ∨ bt [c] 0 = 45
  · have hge : decide (0 ≤ pmIdx (bt [c] 0)) = true := decide_eq_true (hpm.2 hyes)
    have e : lastSign [c] = 0 := by show lsu [c] 1 = 0; rw [lsu, if_pos hyes]; rfl
    rw [e]
    clear hpm hyes e
    unfold pmIdx at hge
    go_enter Tryd.func35, Tryd.ntmps35
    go_wp2_with fail
    refine (Tryd.strings_IndexRune_ascii _ _ _ hlo ha).mono ?_
    rintro e w' ⟨rfl, hw⟩
    rw [hw, B_data]
    go_wp2
    go_ret
    exact ⟨rfl, Below.refl _ _⟩
  · have hge : decide (0 ≤ pmIdx (bt [c] 0)) = false := decide_eq_false (fun h => hyes (hpm.1 h))
    have e : lastSign [c] = -1 := by show lsu [c] 1 = -1; rw [lsu, if_neg hyes]; rfl
    rw [e]
    clear hpm hyes e
    unfold pmIdx at hge
    go_enter Tryd.func35, Tryd.ntmps35
    go_wp2_with fail
    refine (Tryd.strings_IndexRune_ascii _ _ _ hlo ha).mono ?_
    rintro e w' ⟨rfl, hw⟩
    rw [hw, B_data]
    go_wp2
    go_ret
    exact ⟨rfl, Below.refl _ _⟩

/-- The last sign in a text is found. -/
def LA (l : List UInt8) : Prop := ∀ w : World, Calls Tryd.prog 35 #[.string (B l), .string (B [43, 45])] w fun e w' => e = .returned (.int .i64 (lastSign l)) ∧ Below w.heap.size w w'
theorem la_ascii (l : List UInt8) (hs : l.length < 1000000) (ha : ∀ i, i < l.length → bt l i < 128) : LA l := by
  intro w
  by_cases h8 : 8 < l.length
  · exact lastany_long l w h8 hs
  · by_cases h1 : l.length = 1
    · match l, h1 with
      | [c], _ => exact lastany_one c w (ha 0 (by simp))
    · exact lastany_short l w (by omega) (beq_eq_false_iff_ne.2 (by omega)) ha
end Go.Proofs.YtoagnjnkgecmkaaDoor
