/- The cmd seat, part H: the reference's May; contracts. -/
import Derived.Test.YtbgigkfdenkfiaaDoorCmdG
namespace Go.Proofs.YtbgigkfdenkfiaaDoor
open Go.RowKit
attribute [local go_sem] Fm.says BE.den IE.den SE.den LE.den AE.den CE.den PE.den VE.den KV.val Got.den Got.cnt exI allI exL allL Ctx.push Ctx.heap Ctx.cut Ctx.bare Ctx.mark Inc.blank List.getD_cons_zero List.getD_cons_succ List.cons_append List.nil_append List.append_nil List.map_cons List.map_nil List.replicate_zero List.replicate_succ specOf ltB_t leB_t ltB_f leB_f slc_val slc_nil slc_inj pt_val pt_nil hle_noHeap hle_refl hread_set noHeap_at B_inj ones_nil and_assoc
def fm_rmay : Fm := (.call (.and (.le (.c 1) (.len (.x 0))) (.le (.len (.x 0)) (.c 900))) false 20 [(.one (.s (.x 0)))] (.p (.one (.b (.x 0)))) ⟨0, 1, 0, 0, 0, 0⟩
  (.call (.and (.and (.le (.c 1) (.len (.x 0))) (.le (.len (.x 0)) (.c 900))) (.not (.x 0))) false 22 [(.one (.s (.x 0)))] (.p (.one (.s (.x 1)))) ⟨0, 0, 1, 0, 0, 0⟩
  (.ite (.or (.eqI (.x 0) (.c 9)) (.eqI (.x 0) (.c 12)))
  (.ret (.p (.one (.b (.and (.and (.le (.c 0) (.x 1)) (.le (.x 1) (.c 1048576))) (.eqS (.x 0) (.c [])))))))
  (.ite (.eqI (.x 0) (.c 10))
  (.ret (.p (.one (.b (.and (.and (.le (.c 1) (.x 1)) (.le (.x 1) (.c 1048576))) (.or (.eqS (.x 0) (.c [])) (.and (.and (.and (.le (.c 1) (.len (.x 0))) (.le (.len (.x 0)) (.c 900))) (.not (.x 0))) (.eqS (.x 1) (.x 0)))))))))
  (.ite (.or (.eqI (.x 0) (.c 11)) (.eqI (.x 0) (.c 14)))
  (.ret (.p (.one (.b (.and (.eqI (.x 1) (.c 0)) (.and (.and (.and (.le (.c 1) (.len (.x 0))) (.le (.len (.x 0)) (.c 900))) (.not (.x 0))) (.eqS (.x 1) (.x 0))))))))
  (.ret (.p (.one (.b (.and (.and (.and (.le (.c 1) (.x 0)) (.le (.x 0) (.c 18))) (.eqI (.x 1) (.c 0))) (.eqS (.x 0) (.c []))))))))))))
theorem gen_rmay : genFn ⟨true, []⟩ Tryd.prog (fun l => ([] : List LAnn).getD l ⟨[], [], []⟩) Tryd.f11 = fm_rmay := by kernel_rfl
theorem ps_rmay : freshPs Tryd.prog .zero Tryd.f11.params.toList = some ([(.agg [(.i .u8 (.x 0)), (.i .i64 (.x 1)), (.s (.x 0))])], ⟨2, 0, 1, 0, 0, 0⟩) := by kernel_rfl

def ctFeed : Ct Tryd.prog where
  f := 20
  spec := fun args h φ => ∃ l : List UInt8, args = [.string (B l)] ∧ l.length < 1000000 ∧ φ (.bool (decide ((10 : UInt8) ∈ l))) h
  ok := by rintro args h φ w ⟨k, rfl, hk, hφ⟩ hH; exact ct_same (feed_any k hk w) hφ hH
def ctRTrim : Ct Tryd.prog where
  f := 22
  spec := fun args h φ => ∃ l : List UInt8, args = [.string (B l)] ∧ l.length < 1000000 ∧ φ (.string (B (trim l))) h
  ok := by rintro args h φ w ⟨k, rfl, hk, hφ⟩ hH; exact ct_same (rtrim_any k hk w) hφ hH
theorem tx_dec' (t : List UInt8) : (leB 1 (t.length : Int) && leB (t.length : Int) 900 && !decide ((10 : UInt8) ∈ t) && trim t == t) = tx t := by
  rw [Bool.eq_iff_iff, tx_iff]
  simp [leB_t]
  constructor
  · rintro ⟨⟨⟨h0, h1⟩, h2⟩, h3⟩; exact ⟨by omega, by omega, h2, h3⟩
  · rintro ⟨h0, h1, h2, h3⟩; exact ⟨⟨⟨by omega, by omega⟩, h2⟩, h3⟩
set_option maxHeartbeats 4000000 in
theorem rmay_any (k : Nat) (n : Int) (t : List UInt8) (hl : t.length < 1000000) (w : World) :
    Calls Tryd.prog 11 #[.agg #[.int .u8 k, .int .i64 n, .string (B t)]] w fun e w' => e = .returned (.bool (cmay k n t)) ∧ Below w.heap.size w w' := by
  refine by_fm0 Tryd.func11 gen_rmay ps_rmay [ctFeed, ctRTrim] _ noInv noMeas ⟨[k, n], [], [t], [], [], [], noHeap, noM⟩ rfl ⟨rfl, rfl, rfl, rfl, rfl, rfl⟩ ones_nil ?_ w rfl
  simp [fm_rmay, go_sem, ones_nil, ctFeed, ctRTrim, B_inj, hl]
  have hcm : ∀ z : Bool, z = tx t → (((k : Int) = 9 ∨ (k : Int) = 12 → (leB 0 n && leB n 1048576 && t.isEmpty) = cmay k n t) ∧
      (¬(k : Int) = 9 → ¬(k : Int) = 12 → ((k : Int) = 10 → (leB 1 n && leB n 1048576 && (t.isEmpty || z)) = cmay k n t) ∧
        (¬(k : Int) = 10 → ((k : Int) = 11 ∨ (k : Int) = 14 → (n == 0 && z) = cmay k n t) ∧ (¬(k : Int) = 11 → ¬(k : Int) = 14 → (leB 1 (k : Int) && leB (k : Int) 18 && n == 0 && t.isEmpty) = cmay k n t)))) := by
    rintro z rfl
    refine ⟨fun h => ?_, fun h9 h12 => ⟨fun h => ?_, fun h10 => ⟨fun h => ?_, fun h11 h14 => ?_⟩⟩⟩
    · have hk : k = 9 ∨ k = 12 := by omega
      rw [Bool.eq_iff_iff]; unfold cmay; rw [if_pos hk]; simp [leB_t]
      constructor <;> intro h <;> first | exact ⟨h.1.1, h.1.2, h.2⟩ | exact ⟨⟨h.1, h.2.1⟩, h.2.2⟩
    · have hk : k = 10 := by omega
      subst hk
      rw [Bool.eq_iff_iff]; unfold cmay; rw [if_neg (by omega), if_pos rfl]; simp [leB_t]
      constructor <;> intro h <;> first | exact ⟨h.1.1, h.1.2, h.2⟩ | exact ⟨⟨h.1, h.2.1⟩, h.2.2⟩
    · have hk : k = 11 ∨ k = 14 := by omega
      rw [Bool.eq_iff_iff]; unfold cmay; rw [if_neg (by omega), if_neg (by omega), if_pos hk]; simp
    · rw [Bool.eq_iff_iff]; unfold cmay; rw [if_neg (by omega), if_neg (by omega), if_neg (by omega)]; simp [leB_t]
      constructor <;> intro h <;> first | exact ⟨by omega, by omega, h.1.2, h.2⟩ | exact ⟨⟨⟨by omega, by omega⟩, h.2.2.1⟩, h.2.2.2⟩
  have T := tx_dec' t
  refine ⟨fun a b => ⟨fun _ _ c => hcm _ T, fun c => hcm _ ?_⟩, fun a => ⟨fun b c => by omega, fun _ => hcm _ ?_⟩⟩
  · rw [← T]
    have := c a b
    rw [decide_eq_true this]; simp
  · rw [← T]
    by_cases h1 : 1 ≤ (t.length : Int)
    · have : leB (t.length : Int) 900 = false := by rw [leB_f]; exact a h1
      rw [this]; simp
    · have : leB 1 (t.length : Int) = false := by rw [leB_f]; omega
      rw [this]; simp

/-! ### Texts -/
theorem new_known {P : Program} {f : FuncId} {args : Array Value} {w : World} {v : Nat → Value} {cs : List Value} {ty : TypeId} {h : Hp} {φ : Value → Hp → Prop}
    (hc : Calls P f args w fun e w' => e = .returned (v w.heap.size) ∧ w' = w.alloc (.cells cs.toArray ty)) (hφ : ∀ b, h b = none → φ (v b) (h.set b ⟨cs, ty⟩)) (hH : Holds h w) :
    Calls P f args w fun e w' => ∃ v k, e = .returned v ∧ φ v k ∧ Holds k w' ∧ Fr w.heap.size h k w w' := by
  have hnone : h w.heap.size = none := by
    cases hq : h w.heap.size with
    | none => rfl
    | some o => have := hH.lt (b := w.heap.size) (by rw [hq]; simp); omega
  refine hc.mono ?_
  rintro e w' ⟨rfl, rfl⟩
  have hbel : Below w.heap.size w (w.alloc (.cells cs.toArray ty)) := (Below.refl _ _).alloc (Nat.le_refl _) _
  refine ⟨_, _, rfl, hφ _ hnone, ?_, hbel.os, hbel.tape, hbel.output, hbel.size, fun k hk _ => hbel.block k hk, fun k hk hn => ?_⟩
  · intro b y hy
    simp only [Hp.set] at hy
    by_cases he : b = w.heap.size
    · rw [if_pos he] at hy
      cases hy
      subst he
      show (w.heap.push _)[w.heap.size]? = _
      simp
    · rw [if_neg he] at hy
      exact hH.below hbel b y hy
  · simp only [Hp.set]
    rw [if_neg (by omega)]
    exact hn
def ctMay : Ct Tryd.prog where
  f := 9
  spec := fun args h φ => ∃ k n t, args = [.agg #[.int .u8 k, .int .i64 n, .string (B t)]] ∧ 0 ≤ k ∧ t.length < 1000000 ∧ φ (.bool (cmay k.toNat n t)) h
  ok := by rintro args h φ w ⟨k, n, t, rfl, h0, hl, hφ⟩ hH; have := may_any k.toNat n t hl w; rw [Int.toNat_of_nonneg h0] at this; exact ct_value this hφ hH
def wsCells : List Value := (List.range 19).map fun k => .string (B (ws k))
theorem wordCells_eq : wordCells = wsCells.toArray := by rfl
def ctWords : Ct Tryd.prog where
  f := 16
  spec := fun args h φ => args = [] ∧ ∀ b, h b = none → φ (.slice (some ⟨b, 0, none⟩) 19 19) (h.set b ⟨wsCells, 9⟩)
  ok := by rintro args h φ w ⟨rfl, hφ⟩ hH; exact new_known (v := fun b => .slice (some ⟨b, 0, none⟩) 19 19) (by rw [← wordCells_eq]; exact words_any w) hφ hH
def ctRWords : Ct Tryd.prog where
  f := 23
  spec := fun args h φ => args = [] ∧ ∀ b, h b = none → φ (.slice (some ⟨b, 0, none⟩) 19 19) (h.set b ⟨wsCells, 9⟩)
  ok := by rintro args h φ w ⟨rfl, hφ⟩ hH; exact new_known (v := fun b => .slice (some ⟨b, 0, none⟩) 19 19) (by rw [← wordCells_eq]; exact rwords_any w) hφ hH
def ctNText : Ct Tryd.prog where
  f := 25
  spec := fun args h φ => ∃ n : Int, args = [.int .i64 n] ∧ -9223372036854775808 ≤ n ∧ n ≤ 9223372036854775807 ∧ φ (.string (B (txt n))) h
  ok := by rintro args h φ w ⟨n, rfl, h0, h1, hφ⟩ hH; exact ct_value (text_any n h0 h1 w) hφ hH
def ctRNText : Ct Tryd.prog where
  f := 26
  spec := fun args h φ => ∃ n : Int, args = [.int .i64 n] ∧ -9223372036854775808 ≤ n ∧ n ≤ 9223372036854775807 ∧ φ (.string (B (txt n))) h
  ok := by rintro args h φ w ⟨n, rfl, h0, h1, hφ⟩ hH; exact ct_value (rtext_any n h0 h1 w) hφ hH
def ctParse : Ct Tryd.prog where
  f := 7
  spec := fun args h φ => ∃ l : List UInt8, args = [.string (B l)] ∧ l.length < 1000000 ∧ φ (cmdv (cp l)) h
  ok := by rintro args h φ w ⟨n, rfl, h0, hφ⟩ hH; exact ct_value (parse_any n h0 w) hφ hH
def ctRParse : Ct Tryd.prog where
  f := 8
  spec := fun args h φ => ∃ l : List UInt8, args = [.string (B l)] ∧ l.length < 1000000 ∧ φ (cmdv (cp l)) h
  ok := by rintro args h φ w ⟨n, rfl, h0, hφ⟩ hH; exact ct_value (rcparse_any n h0 w) hφ hH
end Go.Proofs.YtbgigkfdenkfiaaDoor
