/- The cmd seat, part D: feeds; the words of the commands. -/
import Derived.Test.YtbgigkfdenkfiaaDoorCmdC
namespace Go.Proofs.YtbgigkfdenkfiaaDoor
open Go.RowKit
attribute [local go_sem] B_mk B_size B_toList B_extract B_append B_get

theorem mem10 (l : List UInt8) (i : Nat) (h : i < l.length) : (bt l i = 10) ↔ l[i] = 10 := by
  rw [bt_eq l i h]
  constructor
  · intro e; exact UInt8.toNat_inj.1 (by simpa using (by omega : (l[i]).toNat = 10))
  · intro e; rw [e]; rfl
set_option maxHeartbeats 1000000 in
theorem feed_any (l : List UInt8) (hl : l.length < 1000000) (w : World) :
    Calls Tryd.prog 20 #[.string (B l)] w fun e w' => e = .returned (.bool (decide ((10 : UInt8) ∈ l))) ∧ w = w' := by
  go_enter Tryd.func20, Tryd.ntmps20
  go_wp2
  go_loop [2, 3] (fun r x => r = .bool false ∧ ∃ k : Nat, x = .int .i64 (k : Int) ∧ k ≤ l.length ∧ ∀ j, (hj : j < k) → (hl : j < l.length) → ¬ l[j] = 10) (fun _ x => l.length - (intOf x).toNat)
  case atStart => exact ⟨rfl, 0, rfl, by omega, fun j hj => by omega⟩
  case round =>
    obtain ⟨rfl, i, rfl, hi, hT⟩ := hrel
    have HT := Lib.hid hT
    clear hT
    have hi1 : (i : Int) ≤ (l.length : Int) := by omega
    by_cases hk : i < l.length
    · have hm := mem10 l i hk
      by_cases hc : bt l i = 10
      · have hin : (10 : UInt8) ∈ l := by rw [← hm.1 hc]; exact List.getElem_mem hk
        have HI := Lib.hid hin
        clear hin hm
        go_wp2
        go_ret
        exact ⟨by rw [decide_eq_true HI.out]; rfl, rfl⟩
      · have hn2 : ∀ j, (hj : j < i + 1) → (hl : j < l.length) → ¬ l[j] = 10 := fun j hj hl => by
          by_cases e : j = i
          · subst e; exact fun h => hc (hm.2 h)
          · exact HT.out j (by omega) hl
        have HN := Lib.hid hn2
        have hcb : (bt l i == 10) = false := beq_eq_false_iff_ne.2 hc
        clear hn2 hm
        go_wp2
        go_round
        case rel => exact ⟨rfl, i + 1, rfl, by omega, HN.out⟩
        case measure => simp [intOf]; omega
    · have hno : (10 : UInt8) ∉ l := fun h => by
        obtain ⟨j, hj, e⟩ := List.getElem_of_mem h
        exact HT.out j (by omega) hj e
      have HN := Lib.hid hno
      clear hno
      go_wp2
      go_ret
      exact ⟨by rw [decide_eq_false HN.out]; rfl, rfl⟩

theorem ixb_mem (l : List UInt8) (c : UInt8) : decide (0 ≤ Lib.indexByte l c) = decide (c ∈ l) := by
  have h := Lib.contains_iff_indexByte l c
  rw [← h]
  by_cases hc : c ∈ l
  · rw [decide_eq_true hc]; simpa using hc
  · rw [decide_eq_false hc]; simpa using hc
theorem contains_nl (l : List UInt8) (w : World) :
    Calls Tryd.prog 13 #[.string (B l), .string (B [10])] w fun e w' => e = .returned (.bool (decide ((10 : UInt8) ∈ l))) ∧ w' = w := by
  have h := Tryd.strings_Contains_one (B l) 10 w
  rw [data_B, ixb_mem] at h
  exact h

/-- The words of the commands lie in a block of their own. -/
def WC (b : Nat) (w : World) : Prop := ∀ k, k < 19 → w.cell? ⟨b, k, none⟩ = some (.string (B (ws k)))
def wordCells : Array Value := #[.string (B []), .string (B [115, 116, 101, 112]), .string (B [110, 101, 120, 116]), .string (B [102, 105, 110, 105, 115, 104]), .string (B [99, 111, 110, 116, 105, 110, 117, 101]), .string (B [114, 115, 116, 101, 112]), .string (B [114, 110, 101, 120, 116]), .string (B [114, 102, 105, 110, 105, 115, 104]), .string (B [114, 99, 111, 110, 116, 105, 110, 117, 101]), .string (B [103, 111, 116, 111]), .string (B [98, 114, 101, 97, 107]), .string (B [119, 97, 116, 99, 104]), .string (B [100, 101, 108, 101, 116, 101]), .string (B [119, 104, 101, 114, 101]), .string (B [112, 114, 105, 110, 116]), .string (B [118, 97, 114, 115]), .string (B [111, 117, 116]), .string (B [116, 105, 109, 101]), .string (B [109, 97, 114, 107, 115])]
theorem wc_new (w : World) (ty : TypeId) : WC w.heap.size (w.alloc (.cells wordCells ty)) := by
  intro k hk
  rw [World.cell?_alloc_new]
  match k, hk with
  | 0, _ => rfl
  | 1, _ => rfl
  | 2, _ => rfl
  | 3, _ => rfl
  | 4, _ => rfl
  | 5, _ => rfl
  | 6, _ => rfl
  | 7, _ => rfl
  | 8, _ => rfl
  | 9, _ => rfl
  | 10, _ => rfl
  | 11, _ => rfl
  | 12, _ => rfl
  | 13, _ => rfl
  | 14, _ => rfl
  | 15, _ => rfl
  | 16, _ => rfl
  | 17, _ => rfl
  | 18, _ => rfl
  | k + 19, h => exact absurd h (by omega)
theorem wc_below {b B : Nat} {w w1 : World} (h : WC b w) (hb : Below B w w1) (hlt : b < B) : WC b w1 := fun k hk => by
  rw [hb.cell (p := ⟨b, k, none⟩) hlt]; exact h k hk
theorem wc_store {b c o : Nat} {w : World} (h : WC b w) (v : Value) (hne : b ≠ c) : WC b (w.setCell ⟨c, o, none⟩ v) := fun k hk => by
  rw [World.cell?_setCell_other _ _ _ _ (by simp only [ne_eq, Addr.mk.injEq, not_and]; omega)]; exact h k hk
theorem words_any (w : World) : Calls Tryd.prog 16 #[] w fun e w' => e = .returned (.slice (some ⟨w.heap.size, 0, none⟩) 19 19) ∧ w' = w.alloc (.cells wordCells 9) := by
  go_enter Tryd.func16, Tryd.ntmps16
  go_wp2
  go_ret
  exact ⟨rfl, rfl⟩
theorem rwords_any (w : World) : Calls Tryd.prog 23 #[] w fun e w' => e = .returned (.slice (some ⟨w.heap.size, 0, none⟩) 19 19) ∧ w' = w.alloc (.cells wordCells 9) := by
  go_enter Tryd.func23, Tryd.ntmps23
  go_wp2
  go_ret
  exact ⟨rfl, rfl⟩
theorem numbered_any (k : Int) (w : World) : Calls Tryd.prog 17 #[.int .u8 k] w fun e w' => e = .returned (.bool (k == 9 || k == 10 || k == 12)) ∧ w = w' := by
  go_enter Tryd.func17, Tryd.ntmps17
  go_wp2
  all_goals go_ret
  all_goals (refine ⟨?_, rfl⟩; first | rfl | simp_all)
theorem texted_any (k : Int) (w : World) : Calls Tryd.prog 19 #[.int .u8 k] w fun e w' => e = .returned (.bool (k == 11 || k == 14)) ∧ w = w' := by
  go_enter Tryd.func19, Tryd.ntmps19
  go_wp2
  all_goals go_ret
  all_goals (refine ⟨?_, rfl⟩; first | rfl | simp_all)
end Go.Proofs.YtbgigkfdenkfiaaDoor
