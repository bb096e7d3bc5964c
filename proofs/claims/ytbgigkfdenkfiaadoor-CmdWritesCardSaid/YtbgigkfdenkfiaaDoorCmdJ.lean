/- The cmd seat, part J: the laws' walks. -/
import Derived.Test.YtbgigkfdenkfiaaDoorCmdI
namespace Go.Proofs.YtbgigkfdenkfiaaDoor
open Go.RowKit
attribute [local go_sem] Fm.says BE.den IE.den SE.den LE.den AE.den CE.den PE.den VE.den KV.val Got.den Got.cnt exI allI exL allL Ctx.push Ctx.heap Ctx.cut Ctx.bare Ctx.mark Inc.blank List.getD_cons_zero List.getD_cons_succ List.cons_append List.nil_append List.append_nil List.map_cons List.map_nil List.replicate_zero List.replicate_succ specOf ltB_t leB_t ltB_f leB_f slc_val slc_nil slc_inj pt_val pt_nil hle_noHeap hle_refl hread_set noHeap_at B_inj ones_nil and_assoc
def fm_lreads : Fm := (.ite (.lt (.c 2000) (.len (.x 0)))
  (.call (.c true) false 6 [] (.p (.one (.b (.x 0)))) ⟨0, 1, 0, 0, 0, 0⟩
  (.ret (.p (.one (.b (.x 0))))))
  (.call (.c true) false 7 [(.one (.s (.x 0)))] (.p (.agg [(.i .u8 (.x 0)), (.i .i64 (.x 1)), (.s (.x 1))])) ⟨2, 0, 1, 0, 0, 0⟩
  (.call (.c true) false 8 [(.one (.s (.x 0)))] (.p (.agg [(.i .u8 (.x 2)), (.i .i64 (.x 3)), (.s (.x 2))])) ⟨2, 0, 1, 0, 0, 0⟩
  (.ite (.not (.and (.eqI (.x 0) (.x 2)) (.and (.eqI (.x 1) (.x 3)) (.eqS (.x 1) (.x 2)))))
  (.ret (.p (.one (.b (.c false)))))
  (.call (.c true) false 9 [(.agg [(.i .u8 (.x 0)), (.i .i64 (.x 1)), (.s (.x 1))])] (.p (.one (.b (.x 0)))) ⟨0, 1, 0, 0, 0, 0⟩
  (.ite (.not (.x 0))
  (.call (.c true) false 6 [] (.p (.one (.b (.x 1)))) ⟨0, 1, 0, 0, 0, 0⟩
  (.ret (.p (.one (.b (.x 1))))))
  (.call (.c true) false 10 [(.agg [(.i .u8 (.x 0)), (.i .i64 (.x 1)), (.s (.x 1))])] (.p (.one (.s (.x 3)))) ⟨0, 0, 1, 0, 0, 0⟩
  (.call (.c true) false 7 [(.one (.s (.x 3)))] (.p (.agg [(.i .u8 (.x 4)), (.i .i64 (.x 5)), (.s (.x 4))])) ⟨2, 0, 1, 0, 0, 0⟩
  (.call (.and (.eqI (.x 4) (.x 0)) (.and (.eqI (.x 5) (.x 1)) (.eqS (.x 4) (.x 1)))) false 6 [] (.p (.one (.b (.x 1)))) ⟨0, 1, 0, 0, 0, 0⟩
  (.ret (.p (.one (.b (.and (.and (.eqI (.x 4) (.x 0)) (.and (.eqI (.x 5) (.x 1)) (.eqS (.x 4) (.x 1)))) (.x 1)))))))))))))))
theorem gen_lreads : genFn ⟨true, []⟩ Tryd.prog (fun l => ([] : List LAnn).getD l ⟨[], [], []⟩) Tryd.f4 = fm_lreads := by kernel_rfl
theorem ps_lreads : freshPs Tryd.prog .zero Tryd.f4.params.toList = some ([(.one (.s (.x 0)))], ⟨0, 0, 1, 0, 0, 0⟩) := by kernel_rfl
def fm_lwrites : Fm := (.ite (.lt (.c 2000) (.len (.x 0)))
  (.call (.c true) false 6 [] (.p (.one (.b (.x 0)))) ⟨0, 1, 0, 0, 0, 0⟩
  (.ret (.p (.one (.b (.x 0))))))
  (.call (.c true) false 10 [(.agg [(.i .u8 (.x 0)), (.i .i64 (.x 1)), (.s (.x 0))])] (.p (.one (.s (.x 1)))) ⟨0, 0, 1, 0, 0, 0⟩
  (.call (.c true) false 11 [(.agg [(.i .u8 (.x 0)), (.i .i64 (.x 1)), (.s (.x 0))])] (.p (.one (.b (.x 0)))) ⟨0, 1, 0, 0, 0, 0⟩
  (.ite (.not (.x 0))
  (.call (.c true) false 9 [(.agg [(.i .u8 (.x 0)), (.i .i64 (.x 1)), (.s (.x 0))])] (.p (.one (.b (.x 1)))) ⟨0, 1, 0, 0, 0, 0⟩
  (.call (.and (.not (.x 1)) (.eqS (.x 1) (.c []))) false 6 [] (.p (.one (.b (.x 2)))) ⟨0, 1, 0, 0, 0, 0⟩
  (.ret (.p (.one (.b (.and (.and (.not (.x 1)) (.eqS (.x 1) (.c []))) (.x 2))))))))
  (.call (.c true) false 9 [(.agg [(.i .u8 (.x 0)), (.i .i64 (.x 1)), (.s (.x 0))])] (.p (.one (.b (.x 1)))) ⟨0, 1, 0, 0, 0, 0⟩
  (.call (.x 1) false 12 [(.agg [(.i .u8 (.x 0)), (.i .i64 (.x 1)), (.s (.x 0))])] (.p (.one (.s (.x 2)))) ⟨0, 0, 1, 0, 0, 0⟩
  (.call (.and (.x 1) (.eqS (.x 1) (.x 2))) false 7 [(.one (.s (.x 1)))] (.p (.agg [(.i .u8 (.x 2)), (.i .i64 (.x 3)), (.s (.x 3))])) ⟨2, 0, 1, 0, 0, 0⟩
  (.call (.and (.and (.x 1) (.eqS (.x 1) (.x 2))) (.and (.eqI (.x 2) (.x 0)) (.and (.eqI (.x 3) (.x 1)) (.eqS (.x 3) (.x 0))))) false 6 [] (.p (.one (.b (.x 2)))) ⟨0, 1, 0, 0, 0, 0⟩
  (.ret (.p (.one (.b (.and (.and (.and (.x 1) (.eqS (.x 1) (.x 2))) (.and (.eqI (.x 2) (.x 0)) (.and (.eqI (.x 3) (.x 1)) (.eqS (.x 3) (.x 0))))) (.x 2))))))))))))))
theorem gen_lwrites : genFn ⟨true, []⟩ Tryd.prog (fun l => ([] : List LAnn).getD l ⟨[], [], []⟩) Tryd.f5 = fm_lwrites := by kernel_rfl
theorem ps_lwrites : freshPs Tryd.prog .zero Tryd.f5.params.toList = some ([(.agg [(.i .u8 (.x 0)), (.i .i64 (.x 1)), (.s (.x 0))])], ⟨2, 0, 1, 0, 0, 0⟩) := by kernel_rfl
def fm_lblanks : Fm := (.ite (.lt (.c 900) (.len (.x 0)))
  (.call (.c true) false 6 [] (.p (.one (.b (.x 0)))) ⟨0, 1, 0, 0, 0, 0⟩
  (.ret (.p (.one (.b (.x 0))))))
  (.loop 0 ⟨[(.c 0)], [], [(.x 0)], [], [], []⟩
  (.need (.c true) (.not (.eqI (.c 40) (.c 0)))
  (.ite (.lt (.x 2) (.rem (.wr .i64 (.x 0)) (.c 40)))
  (.need (.c true) (.le (.add (.len (.c [9])) (.len (.x 1))) (.c 9223372036854775807))
  (.need (.c true) (.le (.add (.len (.app (.c [9]) (.x 1))) (.len (.c [32]))) (.c 9223372036854775807))
  (.need (.c true) (.and (.le (.c (-9223372036854775808)) (.add (.x 2) (.c 1))) (.le (.add (.x 2) (.c 1)) (.c 9223372036854775807)))
  (.again 0 ⟨2, 0, 1, 0, 0, 0⟩ ⟨3, 0, 2, 0, 0, 0⟩ ⟨[(.add (.x 2) (.c 1))], [], [(.app (.app (.c [9]) (.x 1)) (.c [32]))], [], [], []⟩))))
  (.loop 1 ⟨[(.c 0)], [], [(.x 1)], [], [], []⟩
  (.need (.c true) (.not (.eqI (.c 10) (.c 0)))
  (.ite (.lt (.x 3) (.rem (.wr .i64 (.x 1)) (.c 10)))
  (.need (.c true) (.le (.add (.len (.c [32])) (.len (.x 2))) (.c 9223372036854775807))
  (.need (.c true) (.le (.add (.len (.app (.c [32]) (.x 2))) (.len (.c [9]))) (.c 9223372036854775807))
  (.need (.c true) (.and (.le (.c (-9223372036854775808)) (.add (.x 3) (.c 1))) (.le (.add (.x 3) (.c 1)) (.c 9223372036854775807)))
  (.again 1 ⟨3, 0, 2, 0, 0, 0⟩ ⟨4, 0, 3, 0, 0, 0⟩ ⟨[(.add (.x 3) (.c 1))], [], [(.app (.app (.c [32]) (.x 2)) (.c [9]))], [], [], []⟩))))
  (.call (.c true) false 7 [(.one (.s (.x 2)))] (.p (.agg [(.i .u8 (.x 4)), (.i .i64 (.x 5)), (.s (.x 3))])) ⟨2, 0, 1, 0, 0, 0⟩
  (.call (.c true) false 7 [(.one (.s (.x 0)))] (.p (.agg [(.i .u8 (.x 6)), (.i .i64 (.x 7)), (.s (.x 4))])) ⟨2, 0, 1, 0, 0, 0⟩
  (.call (.and (.eqI (.x 4) (.x 6)) (.and (.eqI (.x 5) (.x 7)) (.eqS (.x 3) (.x 4)))) false 6 [] (.p (.one (.b (.x 0)))) ⟨0, 1, 0, 0, 0, 0⟩
  (.ret (.p (.one (.b (.and (.and (.eqI (.x 4) (.x 6)) (.and (.eqI (.x 5) (.x 7)) (.eqS (.x 3) (.x 4)))) (.x 0))))))))))))))))
theorem gen_lblanks : genFn ⟨true, []⟩ Tryd.prog (fun l => ([⟨[7, 8], [15, 16, 17, 18, 19, 22, 23, 24, 20, 21], []⟩, ⟨[7, 9], [25, 26, 27, 28, 29, 32, 33, 34, 30, 31], []⟩] : List LAnn).getD l ⟨[], [], []⟩) Tryd.f3 = fm_lblanks := by kernel_rfl
theorem ps_lblanks : freshPs Tryd.prog .zero Tryd.f3.params.toList = some ([(.one (.s (.x 0))), (.one (.i .u8 (.x 0))), (.one (.i .u8 (.x 1)))], ⟨2, 0, 1, 0, 0, 0⟩) := by kernel_rfl
def ctAwake : Ct Tryd.prog where
  f := 6
  spec := fun args h φ => args = [] ∧ φ (.bool true) h
  ok := by rintro args h φ w ⟨rfl, hφ⟩ hH; exact ct_value (awake_any w) hφ hH
def ctRMay : Ct Tryd.prog where
  f := 11
  spec := fun args h φ => ∃ k n t, args = [.agg #[.int .u8 k, .int .i64 n, .string (B t)]] ∧ 0 ≤ k ∧ t.length < 1000000 ∧ φ (.bool (cmay k.toNat n t)) h
  ok := by rintro args h φ w ⟨k, n, t, rfl, h0, hl, hφ⟩ hH; have := rmay_any k.toNat n t hl w; rw [Int.toNat_of_nonneg h0] at this; exact ct_value this hφ hH
def ctText : Ct Tryd.prog where
  f := 10
  spec := fun args h φ => ∃ k n t, args = [.agg #[.int .u8 k, .int .i64 n, .string (B t)]] ∧ 0 ≤ k ∧ t.length < 1000000 ∧ -9223372036854775808 ≤ n ∧ n ≤ 9223372036854775807 ∧ φ (.string (B (if cmay k.toNat n t = true then ctext k.toNat n t else []))) h
  ok := by rintro args h φ w ⟨k, n, t, rfl, h0, hl, h1, h2, hφ⟩ hH; have := ctext_any k.toNat n t hl h1 h2 w; rw [Int.toNat_of_nonneg h0] at this; exact ct_value this hφ hH
def ctRText : Ct Tryd.prog where
  f := 12
  spec := fun args h φ => ∃ k n t, args = [.agg #[.int .u8 k, .int .i64 n, .string (B t)]] ∧ 0 ≤ k ∧ k < 19 ∧ t.length < 1000000 ∧ -9223372036854775808 ≤ n ∧ n ≤ 9223372036854775807 ∧ φ (.string (B (ctext k.toNat n t))) h
  ok := by rintro args h φ w ⟨k, n, t, rfl, h0, hk, hl, h1, h2, hφ⟩ hH; have := rctext_any k.toNat n t hl h1 h2 (by omega) w; rw [Int.toNat_of_nonneg h0] at this; exact ct_value this hφ hH
theorem numOf_bd (l : List UInt8) : -1 ≤ numOf l ∧ numOf l ≤ 1048576 := by
  unfold numOf; split <;> omega
theorem cmay_k {k : Nat} {n : Int} {t : List UInt8} (hm : cmay k n t = true) : k < 19 := by
  unfold cmay at hm
  split at hm
  · omega
  · split at hm
    · omega
    · split at hm
      · omega
      · have := of_decide_eq_true hm; omega
theorem trim_len' (l : List UInt8) : (rs (trim l)).length ≤ l.length := by
  have h1 := trim_len l
  have h2 := trimL_len ((trim l).dropWhile nb)
  have h3 : ((trim l).dropWhile nb).length ≤ (trim l).length := (List.dropWhile_sublist _).length_le
  unfold rs; omega
theorem rs_len (l : List UInt8) : (rs l).length ≤ l.length := by
  have h2 := trimL_len (l.dropWhile nb)
  have h3 : (l.dropWhile nb).length ≤ l.length := (List.dropWhile_sublist _).length_le
  unfold rs; omega
theorem cp_bd (l : List UInt8) : -1 ≤ (cp l).2.1 ∧ (cp l).2.1 ≤ 1048576 ∧ (cp l).2.2.length ≤ l.length := by
  have h0 := trim_len' l
  unfold cp
  split
  · simp [bad]
  · generalize kindOf (wd (trim l)) = k
    generalize rs (trim l) = r at *
    have h1 := numOf_bd r
    have h2 := numOf_bd (wd r)
    have h3 := rs_len (rs r)
    have h4 := rs_len r
    unfold ck
    split
    · simp [bad]
    · split
      · split <;> simp [bad] <;> omega
      · split
        · unfold cbrk
          split
          · simp [bad]
          · split
            · simp; omega
            · split <;> simp [bad] <;> omega
        · split
          · split <;> simp [bad] <;> omega
          · split <;> simp [bad]
set_option maxHeartbeats 4000000 in
theorem law_reads_l (l : List UInt8) (w : World) : Calls Tryd.prog 4 #[.string (B l)] w fun e w' => e = .returned (.bool true) ∧ Below w.heap.size w w' := by
  refine by_fm0 Tryd.func4 gen_lreads ps_lreads [ctAwake, ctParse, ctRParse, ctMay, ctText] _ noInv noMeas ⟨[], [], [l], [], [], [], noHeap, noM⟩ rfl ⟨rfl, rfl, rfl, rfl, rfl, rfl⟩ ones_nil ?_ w rfl
  obtain ⟨b1, b2, b3⟩ := cp_bd l
  have hc : cmay (cp l).1 (cp l).2.1 (cp l).2.2 = true → cp (ctext (cp l).1 (cp l).2.1 (cp l).2.2) = cp l := fun h => cp_ctext _ _ _ h
  have hl := ctext_len (cp l).1 (cp l).2.1 (cp l).2.2
  rcases hq : cp l with ⟨k, n, t⟩
  rw [hq] at b1 b2 b3 hc hl
  simp only at b1 b2 b3 hc hl
  by_cases h2 : l.length ≤ 2000
  · have h3 : l.length < 1000000 := by omega
    have h4 : t.length < 1000000 := by omega
    by_cases hm : cmay k n t = true
    · have hc' := hc hm
      have hl' := hl hm
      have h5 : (ctext k n t).length < 1000000 := by omega
      simp [fm_lreads, go_sem, ctAwake, ctParse, ctRParse, ctMay, ctText, cmdv, *]
      try omega
    · simp [fm_lreads, go_sem, ctAwake, ctParse, ctRParse, ctMay, ctText, cmdv, *]
      try omega
  · have : ¬ (l.length : Int) ≤ 2000 := by omega
    simp [fm_lreads, go_sem, ctAwake, *]
theorem law_reads (s : ByteArray) (w : World) : Calls Tryd.prog 4 #[.string s] w fun e w' => e = .returned (.bool true) ∧ Below w.heap.size w w' := by
  rw [string_B s]; exact law_reads_l _ w
set_option maxHeartbeats 4000000 in
theorem law_writes_l (k : Nat) (n : Int) (t : List UInt8) (h0 : -9223372036854775808 ≤ n) (h1 : n ≤ 9223372036854775807) (w : World) : Calls Tryd.prog 5 #[.agg #[.int .u8 k, .int .i64 n, .string (B t)]] w fun e w' => e = .returned (.bool true) ∧ Below w.heap.size w w' := by
  refine by_fm0 Tryd.func5 gen_lwrites ps_lwrites [ctAwake, ctParse, ctText, ctRText, ctMay, ctRMay] _ noInv noMeas ⟨[k, n], [], [t], [], [], [], noHeap, noM⟩ rfl ⟨rfl, rfl, rfl, rfl, rfl, rfl⟩ ones_nil ?_ w rfl
  by_cases h2 : t.length ≤ 2000
  · have h3 : t.length < 1000000 := by omega
    by_cases hm : cmay k n t = true
    · have hc := cp_ctext k n t hm
      have hl := ctext_len k n t hm
      have hk := cmay_k hm
      have h5 : (ctext k n t).length < 1000000 := by omega
      simp [fm_lwrites, go_sem, ctAwake, ctParse, ctText, ctRText, ctMay, ctRMay, cmdv, *]
      try omega
    · simp [fm_lwrites, go_sem, ctAwake, ctParse, ctText, ctRText, ctMay, ctRMay, cmdv, *]
      try omega
  · have : ¬ (t.length : Int) ≤ 2000 := by omega
    simp [fm_lwrites, go_sem, ctAwake, *]
def BLs (l x : List UInt8) (m : Int) : Prop := ∃ y z, x = y ++ l ++ z ∧ y.all bl = true ∧ z.all bl = true ∧ (y.length : Int) ≤ m ∧ (z.length : Int) ≤ m
theorem BLs.app {l x : List UInt8} {m : Int} (h : BLs l x m) {c d : UInt8} (hc : bl c = true) (hd : bl d = true) : BLs l (c :: (x ++ [d])) (m + 1) := by
  obtain ⟨y, z, rfl, h1, h2, h3, h4⟩ := h
  refine ⟨c :: y, z ++ [d], by simp, by simp [hc]; simpa using h1, by simp [hd]; simpa using h2, by simp; omega, by simp; omega⟩
def blInv (l : List UInt8) (o : Nat) (C : Ctx) : Prop :=
  (o = 0 ∧ ∃ a b i x h, C = ⟨[a, b, i], [], [l, x], [], [], [], h, noM⟩ ∧ 0 ≤ i ∧ i ≤ 39 ∧ BLs l x i) ∨
  (o = 1 ∧ ∃ a b i j x y h, C = ⟨[a, b, i, j], [], [l, x, y], [], [], [], h, noM⟩ ∧ 0 ≤ j ∧ j ≤ 9 ∧ BLs l y (39 + j))
def blMeas (o : Nat) (C : Ctx) : Nat := if o = 0 then (40 - C.i.getD 2 0).toNat else (10 - C.i.getD 3 0).toNat
theorem BLs.len {l x : List UInt8} {m : Int} (h : BLs l x m) : (x.length : Int) ≤ l.length + 2 * m := by
  obtain ⟨y, z, rfl, h1, h2, h3, h4⟩ := h
  simp; omega
theorem BLs.mono {l x : List UInt8} {m n : Int} (h : BLs l x m) (hn : m ≤ n) : BLs l x n := by
  obtain ⟨y, z, rfl, h1, h2, h3, h4⟩ := h
  exact ⟨y, z, rfl, h1, h2, by omega, by omega⟩
theorem BLs.cp {l x : List UInt8} {m : Int} (h : BLs l x m) (hl : x.length ≤ 1000) : cp x = cp l := by
  obtain ⟨y, z, rfl, h1, h2, h3, h4⟩ := h
  exact cp_blanks y z l h1 h2 hl
theorem tmod_bd (x : Int) (m : Int) (h : 0 < m) : x.tmod m < m := Int.tmod_lt_of_pos x h
set_option maxHeartbeats 4000000 in
theorem law_blanks_l (l : List UInt8) (a b : Int) (w : World) : Calls Tryd.prog 3 #[.string (B l), .int .u8 a, .int .u8 b] w fun e w' => e = .returned (.bool true) ∧ Below w.heap.size w w' := by
  refine by_fm0 Tryd.func3 gen_lblanks ps_lblanks [ctAwake, ctParse] _ (blInv l) blMeas ⟨[a, b], [], [l], [], [], [], noHeap, noM⟩ rfl ⟨rfl, rfl, rfl, rfl, rfl, rfl⟩ ones_nil ?_ w rfl
  by_cases h2 : l.length ≤ 900
  · simp [fm_lblanks, go_sem, ctAwake, ctParse, cmdv, blInv, blMeas, h2]
    intro hlen
    refine ⟨⟨[], [], by simp, rfl, rfl, by simp, by simp⟩, fun i x i0 i39 hx => ⟨fun hlt => ?_, fun _ => ⟨hx.mono i39, fun j y j0 j9 hy => ⟨fun hlt => ?_, fun _ => ?_⟩⟩⟩⟩
    · have h3 := tmod_bd (IntKind.i64.wrap a) 40 (by decide)
      have h4 := hx.len
      exact ⟨by omega, by omega, by omega, by omega, by omega, by omega, hx.app (by decide) (by decide), by omega⟩
    · have h3 := tmod_bd (IntKind.i64.wrap b) 10 (by decide)
      have h4 := hy.len
      refine ⟨by omega, by omega, by omega, by omega, by omega, by omega, ?_, by omega⟩
      have := hy.app (c := 32) (d := 9) (by decide) (by decide)
      rw [show 39 + (j + 1) = 39 + j + 1 by omega]
      exact this
    · have h4 := hy.len
      have e := hy.cp (by omega)
      rw [e]
      exact ⟨by omega, by omega, fun _ _ _ => ⟨rfl, rfl, rfl⟩, rfl, rfl, rfl⟩
  · have : ¬ (l.length : Int) ≤ 900 := by omega
    simp [fm_lblanks, go_sem, ctAwake, *]
theorem law_blanks (s : ByteArray) (a b : Int) (w : World) : Calls Tryd.prog 3 #[.string s, .int .u8 a, .int .u8 b] w fun e w' => e = .returned (.bool true) ∧ Below w.heap.size w w' := by
  rw [string_B s]; exact law_blanks_l _ a b w
theorem law_writes (k : Int) (n : Int) (s : ByteArray) (hk : 0 ≤ k) (h0 : -9223372036854775808 ≤ n) (h1 : n ≤ 9223372036854775807) (w : World) : Calls Tryd.prog 5 #[.agg #[.int .u8 k, .int .i64 n, .string s]] w fun e w' => e = .returned (.bool true) ∧ Below w.heap.size w w' := by
  rw [string_B s]
  have := law_writes_l k.toNat n s.data.toList h0 h1 w
  rw [Int.toNat_of_nonneg hk] at this
  exact this
end Go.Proofs.YtbgigkfdenkfiaaDoor
