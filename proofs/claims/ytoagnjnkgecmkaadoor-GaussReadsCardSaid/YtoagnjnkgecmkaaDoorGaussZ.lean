/- Walks of the gauss seat, part Z: strings.LastIndexAny with the two signs, whatever the bytes, where the library's tables lie. -/
import Derived.Test.YtoagnjnkgecmkaaDoorGaussU
import Derived.Test.YtoagnjnkgecmkaaDoorGaussY
import Derived.Test.YtoagnjnkgecmkaaDoorHighRune
import Derived.Shelf.Unicode.DecodeLast
namespace Go.Proofs.YtoagnjnkgecmkaaDoor
open Go.RowKit
attribute [local go_sem] B_mk B_size B_toList B_extract B_append B_get

/-- Where the library's tables of utf8 lie. -/
abbrev Tabs (w : World) : Prop := Lib.Utf8Tabs 1 2 w
theorem Tabs.below {w w' : World} (h : Tabs w) (hb : Below w.heap.size w w') : Tabs w' := by
  obtain ⟨h1, h2⟩ := h
  obtain ⟨hc, hf⟩ := bcell hb
  have s1 : 1 < w.heap.size := by
    have := h1 0 (by omega)
    refine Classical.byContradiction fun hn => ?_
    simp [World.cell?, Array.getElem?_eq_none (Nat.le_of_not_lt hn)] at this
  have s2 : 2 < w.heap.size := by
    have := (h2 0 (by omega)).1
    refine Classical.byContradiction fun hn => ?_
    simp [World.cell?, Array.getElem?_eq_none (Nat.le_of_not_lt hn)] at this
  exact ⟨fun c hc1 => by rw [hc _ _ s1]; exact h1 c hc1, fun i hi => by rw [hc _ _ s2, hc _ _ s2]; exact h2 i hi⟩

theorem bt_get (l : List UInt8) (i : Nat) (h : i < l.length) : ((B l).get! i).toNat = bt l i := by
  rw [get_B l i h, bt_eq l i h]
/-- A rune's bytes behind which a text ends are high where the last byte is. -/
theorem declast_high (m : List UInt8) (hne : m ≠ []) (h : 128 ≤ bt m (m.length - 1)) :
    128 ≤ (Lib.decodeLastL m).1 ∧ (Lib.decodeLastL m).1 ≤ 2147483647 ∧ 1 ≤ (Lib.decodeLastL m).2 ∧ (Lib.decodeLastL m).2 ≤ m.length ∧ ∀ j, m.length - (Lib.decodeLastL m).2 ≤ j → j < m.length → 128 ≤ bt m j := by
  have hl := List.length_pos_iff.2 hne
  have hst := Lib.lastStart_lt m hne
  have hlast : ¬ (m.getD (m.length - 1) 0).toNat < 128 := by unfold bt at h; omega
  unfold Lib.decodeLastL
  rw [if_neg hne, if_neg hlast]
  simp only []
  split
  · rename_i hd
    have hdl : (m.drop (Lib.lastStart m)).length = m.length - Lib.lastStart m := List.length_drop
    have hbd : ∀ i, bt (m.drop (Lib.lastStart m)) i = bt m (Lib.lastStart m + i) := fun i => by simp [bt, List.getD]
    have hB : 0 < (B (m.drop (Lib.lastStart m))).size := by rw [B_size]; omega
    have e0 : Lib.decodeL (m.drop (Lib.lastStart m)) = Utf8.decode (B (m.drop (Lib.lastStart m))) 0 := rfl
    have hg0 := bt_get (m.drop (Lib.lastStart m)) 0 (by omega)
    rw [hbd, Nat.add_zero] at hg0
    by_cases hlow : bt m (Lib.lastStart m) < 128
    · exfalso
      have h1 : (Lib.decodeL (m.drop (Lib.lastStart m))).2 = 1 := by
        rw [e0, Lib.decode_at]
        unfold Lib.decodeN
        rw [if_pos (by omega)]
      rw [h1] at hd
      rw [show Lib.lastStart m = m.length - 1 by omega] at hlow
      omega
    · have hhi : 128 ≤ ((B (m.drop (Lib.lastStart m))).get! (0 + 0)).toNat := by rw [Nat.add_zero]; omega
      obtain ⟨d1, d2⟩ := decode_cont _ 0 hB hhi
      obtain ⟨g1, g2⟩ := decode_high _ 0 hB (by rw [← get_at]; exact hhi)
      have g3 := decode_le (B (m.drop (Lib.lastStart m))) 0
      rw [← e0] at d1 d2 g1 g2 g3
      refine ⟨g1, g3, g2, by omega, fun j hj1 hj2 => ?_⟩
      have := d2 (j - Lib.lastStart m) (by omega)
      rw [Nat.zero_add] at this
      have hb := bt_get (m.drop (Lib.lastStart m)) (j - Lib.lastStart m) (by omega)
      rw [hbd, show Lib.lastStart m + (j - Lib.lastStart m) = j by omega] at hb
      omega
  · refine ⟨by decide, by decide, by decide, by show 1 ≤ _; omega, fun j hj1 hj2 => ?_⟩
    have : j = m.length - 1 := by
      have : m.length - 1 ≤ j := hj1
      omega
    rw [this]; exact h
theorem declast_low (m : List UInt8) (hne : m ≠ []) (h : bt m (m.length - 1) < 128) : ((Lib.decodeLastL m).1 : Int) = bt m (m.length - 1) ∧ (Lib.decodeLastL m).2 = 1 := by
  unfold bt at h
  unfold Lib.decodeLastL
  rw [if_neg hne, if_pos (by omega)]
  exact ⟨rfl, rfl⟩
theorem lsu_skip (l : List UInt8) (k : Nat) : ∀ n, n ≤ k → (∀ j, k - n ≤ j → j < k → 128 ≤ bt l j) → lsu l k = lsu l (k - n) := by
  intro n
  induction n with
  | zero => intro _ _; rfl
  | succ n ih =>
    intro hn h
    rw [ih (by omega) (fun j h1 h2 => h j (by omega) h2)]
    have := h (k - (n + 1)) (by omega) (by omega)
    rw [show k - n = (k - (n + 1)) + 1 by omega, lsu, if_neg (by omega)]

set_option maxHeartbeats 4000000 in
set_option maxRecDepth 100000 in
theorem lastany_tabs (l : List UInt8) (w : World) (hT : Tabs w) (h8 : l.length ≤ 8) (h1 : (((l.length : Int)) == 1) = false) :
    Calls Tryd.prog 35 #[.string (B l), .string (B [43, 45])] w fun e w' => e = .returned (.int .i64 (lastSign l)) ∧ Below w.heap.size w w' := by
  have h8z : decide ((8 : Int) < (l.length : Int)) = false := decide_eq_false (by omega)
  have HTT := Lib.hid hT
  clear hT
  go_enter Tryd.func35, Tryd.ntmps35
  go_wp2_with (go_at_call 45; refine (Tryd.strings_shouldUseASCIISet _ _).mono ?_; rintro e w' ⟨rfl, hw⟩; rw [hw, h8z])
  go_loopw [13] (fun i wr => ∃ k : Nat, k ≤ l.length ∧ i = .int .i64 (k : Int) ∧ lastSign l = lsu l k ∧ Below w.heap.size w wr) (fun i _ => (RowKit.intOf i).toNat)
  case atStart => exact ⟨l.length, by omega, rfl, rfl, Below.refl _ _⟩
  case round =>
    obtain ⟨k, hk, rfl, hl, hB⟩ := hrel
    have HL := Lib.hid hl
    clear hl
    cases k with
    | zero =>
      go_wp2
      go_ret
      exact ⟨ret_int (by rw [HL.out]; rfl), hB⟩
    | succ k =>
      have hpos : (0 : Int) < (k : Int) + 1 := by omega
      have hbt : bt (l.take (k + 1)) k = bt l k := by
        simp [bt]
      have htl : (l.take (k + 1)).length = k + 1 := by simp; omega
      have hne : l.take (k + 1) ≠ [] := fun h => by rw [h] at htl; simp at htl
      have hdec := Tryd.utf8_DecodeLastRuneInString (B (l.take (k + 1))) wr (by rw [B_size]; omega) (HTT.out.below hB)
      rw [data_B] at hdec
      have hlo := bt_lo l k
      by_cases hhi : bt l k < 128
      · obtain ⟨q1, q2⟩ := declast_low _ hne (by rw [htl, Nat.add_sub_cancel, hbt]; exact hhi)
        rw [htl, Nat.add_sub_cancel, hbt] at q1
        rw [q1, q2] at hdec
        have hpm := pmIdx_bt l k
        have HPM := Lib.hid hpm
        clear hpm hbt q1 q2
        go_wp2_with fail
        refine hdec.mono ?_
        rintro e w2 ⟨rfl, hb2⟩
        have hB2 := hB.trans (hb2.mono hB.size)
        go_wp2_with fail
        refine (Tryd.strings_IndexRune_ascii _ _ _ hlo hhi).mono ?_
        rintro e w' ⟨rfl, hw⟩
        rw [hw, B_data]
        by_cases hyes : bt l k = 43 ∨ bt l k = 45
        · have hge : decide (0 ≤ pmIdx (bt l k)) = true := decide_eq_true (HPM.out.2 hyes)
          have HY := Lib.hid hyes
          clear hyes
          unfold pmIdx at hge
          go_wp2
          go_ret
          exact ⟨ret_int (by rw [HL.out, lsu, if_pos HY.out]), hB2⟩
        · have hge : decide (0 ≤ pmIdx (bt l k)) = false := decide_eq_false (fun h => hyes (HPM.out.1 h))
          have HN := Lib.hid hyes
          clear hyes
          unfold pmIdx at hge
          go_wp2
          go_roundw
          case rel => exact ⟨k, by omega, rfl, by rw [HL.out, lsu, if_neg HN.out], hB2⟩
          case measure => simp [RowKit.intOf]
      · obtain ⟨q1, q2, q3, q4, q5⟩ := declast_high _ hne (by rw [htl, Nat.add_sub_cancel, hbt]; omega)
        rw [htl] at q4 q5
        have hsk := lsu_skip l (k + 1) (Lib.decodeLastL (l.take (k + 1))).2 q4 (fun j j1 j2 => by
          have := q5 j j1 j2
          have e : bt (l.take (k + 1)) j = bt l j := by simp [bt, List.getD, List.getElem?_take, j2]
          rw [← e]; exact this)
        generalize (Lib.decodeLastL (l.take (k + 1))).1 = r at *
        generalize (Lib.decodeLastL (l.take (k + 1))).2 = z at *
        have HSK := Lib.hid hsk
        have hr0 : (128 : Int) ≤ (r : Int) := by omega
        have hr1 : (r : Int) ≤ 2147483647 := by omega
        clear hsk q5 hbt
        go_wp2_with fail
        refine hdec.mono ?_
        rintro e w2 ⟨rfl, hb2⟩
        have hB2 := hB.trans (hb2.mono hB.size)
        go_wp2_with fail
        refine (ixrune_high 43 45 (by decide) (by decide) _ hr0 hr1 _).mono ?_
        rintro e w3 ⟨rfl, hb3⟩
        have hB3 := hB2.trans (hb3.mono hB2.size)
        go_wp2
        go_roundw
        case rel => exact ⟨k + 1 - z, by omega, by congr 1; omega, by rw [HL.out, HSK.out], hB3⟩
        case measure => simp [RowKit.intOf]; omega
end Go.Proofs.YtoagnjnkgecmkaaDoor
