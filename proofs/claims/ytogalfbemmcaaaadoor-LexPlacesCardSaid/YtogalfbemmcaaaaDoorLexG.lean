/- Tokens, part G: the reference's runs, blanks and places. -/
import Derived.Test.YtogalfbemmcaaaaDoorLexF
namespace Go.Proofs.YtogalfbemmcaaaaDoor
open Go.RowKit
attribute [local go_sem] says_tt says_ff says_need says_ite says_call says_load says_store says_mk says_new says_mks says_str says_ret says_again says_app BE.den IE.den SE.den LE.den AE.den CE.den PE.den VE.den KV.val Got.den Got.cnt exI allI exL allL Ctx.push Ctx.heap Ctx.cut Ctx.bare Ctx.mark Inc.blank List.getD_cons_zero List.getD_cons_succ List.cons_append List.nil_append List.append_nil List.map_cons List.map_nil List.replicate_zero List.replicate_succ specOf ltB_t leB_t ltB_f leB_f slc_val slc_nil slc_inj pt_val pt_nil hle_noHeap hle_refl hread_set hwrite_set set_same set_set noHeap_at B_inj ones_nil and_assoc
def fm_rinner : Fm := (.loop 0 ⟨[(.x 0)], [], [], [], [], []⟩
  (.need (.lt (.x 1) (.len (.x 0))) (.and (.le (.c 0) (.x 1)) (.lt (.x 1) (.len (.x 0))))
  (.call (.lt (.x 1) (.len (.x 0))) false 26 [(.one (.i .u8 (.at (.x 0) (.x 1))))] (.p (.one (.i .i64 (.x 2)))) ⟨1, 0, 0, 0, 0, 0⟩
  (.ite (.and (.lt (.x 1) (.len (.x 0))) (.lt (.c 0) (.x 2)))
  (.need (.c true) (.and (.le (.c (-9223372036854775808)) (.add (.x 1) (.c 1))) (.le (.add (.x 1) (.c 1)) (.c 9223372036854775807)))
  (.again 0 ⟨1, 0, 1, 0, 0, 0⟩ ⟨2, 0, 1, 0, 0, 0⟩ ⟨[(.add (.x 1) (.c 1))], [], [], [], [], []⟩))
  (.ret (.p (.one (.i .i64 (.x 1)))))))))
theorem gen_rinner : genFn ⟨true, []⟩ Tryd.prog (fun l => ([⟨[1], [5, 6, 7, 8, 9, 10, 11, 12, 13, 14, 15, 16, 17], []⟩] : List LAnn).getD l ⟨[], [], []⟩) Tryd.f27 = fm_rinner := by kernel_rfl
theorem ps_rinner : freshPs Tryd.prog .zero Tryd.f27.params.toList = some ([(.one (.s (.x 0))), (.one (.i .i64 (.x 0)))], ⟨1, 0, 1, 0, 0, 0⟩) := by kernel_rfl
def fm_rskip : Fm := (.loop 0 ⟨[(.x 0), (.c 0)], [(.c false)], [], [], [], []⟩
  (.ite (.lt (.x 1) (.len (.x 0)))
  (.need (.c true) (.and (.le (.c 0) (.x 1)) (.lt (.x 1) (.len (.x 0))))
  (.ite (.eqI (.at (.x 0) (.x 1)) (.c 35))
  (.ite (.eqI (.at (.x 0) (.x 1)) (.c 10))
  (.ite (.and (.and (.and (.not (.eqI (.at (.x 0) (.x 1)) (.c 32))) (.not (.eqI (.at (.x 0) (.x 1)) (.c 9)))) (.not (.eqI (.at (.x 0) (.x 1)) (.c 13)))) (.not (.eqI (.at (.x 0) (.x 1)) (.c 10))))
  (.ret (.p (.one (.i .i64 (.x 1)))))
  (.need (.c true) (.and (.le (.c (-9223372036854775808)) (.add (.x 1) (.c 1))) (.le (.add (.x 1) (.c 1)) (.c 9223372036854775807)))
  (.again 0 ⟨1, 0, 1, 0, 0, 0⟩ ⟨3, 1, 1, 0, 0, 0⟩ ⟨[(.add (.x 1) (.c 1)), (.x 2)], [(.c false)], [], [], [], []⟩)))
  (.need (.c true) (.and (.le (.c (-9223372036854775808)) (.add (.x 1) (.c 1))) (.le (.add (.x 1) (.c 1)) (.c 9223372036854775807)))
  (.again 0 ⟨1, 0, 1, 0, 0, 0⟩ ⟨3, 1, 1, 0, 0, 0⟩ ⟨[(.add (.x 1) (.c 1)), (.x 2)], [(.c true)], [], [], [], []⟩)))
  (.ite (.eqI (.at (.x 0) (.x 1)) (.c 10))
  (.ite (.and (.and (.and (.not (.eqI (.at (.x 0) (.x 1)) (.c 32))) (.not (.eqI (.at (.x 0) (.x 1)) (.c 9)))) (.not (.eqI (.at (.x 0) (.x 1)) (.c 13)))) (.not (.eqI (.at (.x 0) (.x 1)) (.c 10))))
  (.ret (.p (.one (.i .i64 (.x 1)))))
  (.need (.c true) (.and (.le (.c (-9223372036854775808)) (.add (.x 1) (.c 1))) (.le (.add (.x 1) (.c 1)) (.c 9223372036854775807)))
  (.again 0 ⟨1, 0, 1, 0, 0, 0⟩ ⟨3, 1, 1, 0, 0, 0⟩ ⟨[(.add (.x 1) (.c 1)), (.x 2)], [(.c false)], [], [], [], []⟩)))
  (.ite (.and (.and (.and (.and (.not (.x 0)) (.not (.eqI (.at (.x 0) (.x 1)) (.c 32)))) (.not (.eqI (.at (.x 0) (.x 1)) (.c 9)))) (.not (.eqI (.at (.x 0) (.x 1)) (.c 13)))) (.not (.eqI (.at (.x 0) (.x 1)) (.c 10))))
  (.ret (.p (.one (.i .i64 (.x 1)))))
  (.need (.c true) (.and (.le (.c (-9223372036854775808)) (.add (.x 1) (.c 1))) (.le (.add (.x 1) (.c 1)) (.c 9223372036854775807)))
  (.again 0 ⟨1, 0, 1, 0, 0, 0⟩ ⟨3, 1, 1, 0, 0, 0⟩ ⟨[(.add (.x 1) (.c 1)), (.x 2)], [(.x 0)], [], [], [], []⟩))))))
  (.ret (.p (.one (.i .i64 (.x 1)))))))
theorem gen_rskip : genFn ⟨true, []⟩ Tryd.prog (fun l => ([⟨[5, 4, 1], [7, 8, 9, 10, 11, 12, 13, 6, 14, 15, 16, 17, 18, 19, 20, 21, 22, 23, 24, 25, 26, 27, 28, 29, 30, 31, 32, 33, 34, 35, 36, 37, 38], []⟩] : List LAnn).getD l ⟨[], [], []⟩) Tryd.f24 = fm_rskip := by kernel_rfl
theorem ps_rskip : freshPs Tryd.prog .zero Tryd.f24.params.toList = some ([(.one (.s (.x 0))), (.one (.i .i64 (.x 0)))], ⟨1, 0, 1, 0, 0, 0⟩) := by kernel_rfl
def fm_place : Fm := (.loop 0 ⟨[(.c 1), (.c 1), (.c 0)], [], [], [], [], []⟩
  (.ite (.lt (.x 3) (.x 0))
  (.need (.c true) (.and (.le (.c (-9223372036854775808)) (.add (.x 2) (.c 1))) (.le (.add (.x 2) (.c 1)) (.c 9223372036854775807)))
  (.need (.c true) (.and (.le (.c 0) (.x 3)) (.lt (.x 3) (.len (.x 0))))
  (.ite (.eqI (.at (.x 0) (.x 3)) (.c 10))
  (.need (.c true) (.and (.le (.c (-9223372036854775808)) (.add (.x 1) (.c 1))) (.le (.add (.x 1) (.c 1)) (.c 9223372036854775807)))
  (.need (.c true) (.and (.le (.c (-9223372036854775808)) (.add (.x 3) (.c 1))) (.le (.add (.x 3) (.c 1)) (.c 9223372036854775807)))
  (.again 0 ⟨1, 0, 1, 0, 0, 0⟩ ⟨4, 0, 1, 0, 0, 0⟩ ⟨[(.add (.x 1) (.c 1)), (.c 1), (.add (.x 3) (.c 1))], [], [], [], [], []⟩)))
  (.need (.c true) (.and (.le (.c (-9223372036854775808)) (.add (.x 3) (.c 1))) (.le (.add (.x 3) (.c 1)) (.c 9223372036854775807)))
  (.again 0 ⟨1, 0, 1, 0, 0, 0⟩ ⟨4, 0, 1, 0, 0, 0⟩ ⟨[(.x 1), (.add (.x 2) (.c 1)), (.add (.x 3) (.c 1))], [], [], [], [], []⟩)))))
  (.ret (.tup [(.one (.i .i64 (.x 1))), (.one (.i .i64 (.x 2)))]))))
theorem gen_place : genFn ⟨true, []⟩ Tryd.prog (fun l => ([⟨[7, 6, 8], [9, 10, 11, 14, 15, 16, 17, 18, 19, 20, 21, 12, 13], []⟩] : List LAnn).getD l ⟨[], [], []⟩) Tryd.f25 = fm_place := by kernel_rfl
theorem ps_place : freshPs Tryd.prog .zero Tryd.f25.params.toList = some ([(.one (.s (.x 0))), (.one (.i .i64 (.x 0)))], ⟨1, 0, 1, 0, 0, 0⟩) := by kernel_rfl
set_option maxHeartbeats 2000000 in
def ctRInner : Ct Tryd.prog where
  f := 27
  spec := fun args h φ => ∃ s i, args = [.string (B s), .int .i64 i] ∧ 0 ≤ i ∧ i ≤ s.length ∧ s.length ≤ 1000000 ∧ φ (.int .i64 (i + rn inB s i.toNat)) h
  ok := by
    rintro args h φ w ⟨s, i, rfl, h0, h1, h2, hφ⟩ hH
    obtain ⟨a, rfl⟩ : ∃ n : Nat, i = n := ⟨i.toNat, by omega⟩
    rw [Int.toNat_natCast] at hφ
    refine by_fm Tryd.func27 gen_rinner ps_rinner [ctKind] φ (fun _ C => ∃ k : Nat, C = ⟨[a, k], [], [s], [], [], [], h, noM⟩ ∧ a ≤ k ∧ k ≤ s.length ∧ rn inB s a = (k - a) + rn inB s k) (fun _ C => (s.length - C.i.getD 1 0).toNat) ⟨[a], [], [s], [], [], [], h, noM⟩ ⟨rfl, rfl, rfl, rfl, rfl, rfl⟩ ones_nil ?_ w hH rfl
    refine loop_intro ⟨a, rfl, Nat.le_refl _, by omega, by omega⟩ ?_
    rintro i bb ss v ll pp hh M ⟨k, hC, h3, h4, h5⟩ hM
    cases hC
    have hM' : M 0 = ((s.length : Int) - k).toNat := hM
    have fin : rn inB s k = 0 → φ (.int .i64 k) h := fun h0 => by
      rw [h0] at h5
      rw [show (k : Int) = (a : Int) + (rn inB s a : Int) by omega]; exact hφ
    by_cases hk : k < s.length
    · have hlt : (k : Int) < s.length := by omega
      by_cases hb : 0 < kdi (bt s k)
      · have hy := rn_yes (p := inB) hk (by simp [inB, hb])
        simp [go_sem, ctKind, hlt, hb, hk]
        (repeat' apply And.intro) <;> first | omega | exact ⟨k + 1, by omega, by omega, by omega, by omega⟩
      · have hn := rn_no (p := inB) hk (by simp [inB]; omega)
        have := fin hn
        simp [go_sem, ctKind, hlt, hb, hk, this]
    · have hge : ¬ ((k : Int) < s.length) := by omega
      have := fin (rn_end (by omega))
      simp [go_sem, ctKind, hge, this]
set_option maxHeartbeats 4000000 in
def ctRSkip : Ct Tryd.prog where
  f := 24
  spec := fun args h φ => ∃ s i, args = [.string (B s), .int .i64 i] ∧ 0 ≤ i ∧ i ≤ s.length ∧ s.length ≤ 1000000 ∧ φ (.int .i64 (i + ski false s i.toNat)) h
  ok := by
    rintro args h φ w ⟨s, i, rfl, h0, h1, h2, hφ⟩ hH
    obtain ⟨a, rfl⟩ : ∃ n : Nat, i = n := ⟨i.toNat, by omega⟩
    rw [Int.toNat_natCast] at hφ
    refine by_fm Tryd.func24 gen_rskip ps_rskip [] φ (fun _ C => ∃ (k : Nat) (y : Int) (note : Bool), C = ⟨[a, k, y], [note], [s], [], [], [], h, noM⟩ ∧ a ≤ k ∧ k ≤ s.length ∧ ski false s a = (k - a) + ski note s k) (fun _ C => (s.length - C.i.getD 1 0).toNat) ⟨[a], [], [s], [], [], [], h, noM⟩ ⟨rfl, rfl, rfl, rfl, rfl, rfl⟩ ones_nil ?_ w hH rfl
    refine loop_intro ⟨a, 0, false, rfl, Nat.le_refl _, by omega, by omega⟩ ?_
    rintro i bb ss v ll pp hh M ⟨k, y, note, hC, h3, h4, h5⟩ hM
    cases hC
    have hM' : M 0 = ((s.length : Int) - k).toNat := hM
    have fin : ski note s k = 0 → φ (.int .i64 k) h := fun h0 => by
      rw [h0] at h5
      rw [show (k : Int) = (a : Int) + (ski false s a : Int) by omega]; exact hφ
    by_cases hk : k < s.length
    · have hlt : (k : Int) < s.length := by omega
      have hs := ski_at hk note
      have step : skP (bt s k) (skG (bt s k) note) = true → ski false s a = (k + 1 - a) + ski (skG (bt s k) note) s (k + 1) := fun h => by rw [h, if_pos rfl] at hs; omega
      have stop : skP (bt s k) (skG (bt s k) note) = false → φ (.int .i64 k) h := fun h => fin (by rw [hs, h]; rfl)
      by_cases e35 : bt s k = 35
      · have := step (by rw [e35]; simp [skG, skP])
        rw [show skG (bt s k) note = true by rw [e35]; simp [skG]] at this
        simp [go_sem, hlt, hk, e35]
        (repeat' apply And.intro) <;> first | omega | exact ⟨k + 1, by omega, by omega, by omega, this⟩
      · by_cases e10 : bt s k = 10
        · have := step (by rw [e10]; simp [skG, skP])
          rw [show skG (bt s k) note = false by rw [e10]; simp [skG]] at this
          simp [go_sem, hlt, hk, e10]
          (repeat' apply And.intro) <;> first | omega | exact ⟨k + 1, by omega, by omega, by omega, this⟩
        · have eG : skG (bt s k) note = note := by
            have f1 : (bt s k == 35) = false := by simpa using e35
            have f2 : (bt s k == 10) = false := by simpa using e10
            simp [skG, f1, f2]
          rw [eG] at step stop
          cases note with
          | true =>
            have := step (by simp [skP])
            simp [go_sem, hlt, hk, e35, e10]
            (repeat' apply And.intro) <;> first | omega | exact ⟨k + 1, by omega, by omega, by omega, this⟩
          | false =>
            by_cases hb : bt s k = 32 ∨ bt s k = 9 ∨ bt s k = 13
            · have := step (by rcases hb with hb | hb | hb <;> rw [hb] <;> rfl)
              rcases hb with hb | hb | hb
              all_goals
                simp [go_sem, hlt, hk, hb]
                (repeat' apply And.intro) <;> first | omega | exact ⟨k + 1, by omega, by omega, by omega, this⟩
            · have b1 : bt s k ≠ 32 := fun h => hb (.inl h)
              have b2 : bt s k ≠ 9 := fun h => hb (.inr (.inl h))
              have b3 : bt s k ≠ 13 := fun h => hb (.inr (.inr h))
              have := stop (by simp [skP, b1, b2, b3, e10])
              simp [go_sem, hlt, hk, e35, e10, b1, b2, b3, this]
    · have hge : ¬ ((k : Int) < s.length) := by omega
      have := fin (ski_end (by omega) _)
      simp [go_sem, hge, this]
set_option maxHeartbeats 2000000 in
def ctPlace : Ct Tryd.prog where
  f := 25
  spec := fun args h φ => ∃ s i, args = [.string (B s), .int .i64 i] ∧ 0 ≤ i ∧ i ≤ s.length ∧ s.length ≤ 1000000 ∧ φ (.tuple #[.int .i64 (adv (1, 1) (sub s 0 i.toNat)).1, .int .i64 (adv (1, 1) (sub s 0 i.toNat)).2]) h
  ok := by
    rintro args h φ w ⟨s, i, rfl, h0, h1, h2, hφ⟩ hH
    obtain ⟨a, rfl⟩ : ∃ n : Nat, i = n := ⟨i.toNat, by omega⟩
    rw [Int.toNat_natCast] at hφ
    refine by_fm Tryd.func25 gen_place ps_place [] φ (fun _ C => ∃ (k : Nat), C = ⟨[a, (adv (1, 1) (sub s 0 k)).1, (adv (1, 1) (sub s 0 k)).2, k], [], [s], [], [], [], h, noM⟩ ∧ k ≤ a) (fun _ C => (a - C.i.getD 3 0).toNat) ⟨[a], [], [s], [], [], [], h, noM⟩ ⟨rfl, rfl, rfl, rfl, rfl, rfl⟩ ones_nil ?_ w hH rfl
    refine loop_intro ⟨0, rfl, Nat.zero_le _⟩ ?_
    rintro i bb ss v ll pp hh M ⟨k, hC, h3⟩ hM
    cases hC
    have hM' : M 0 = ((a : Int) - k).toNat := hM
    have hbd := adv_bd (1, 1) (sub s 0 k) (by decide) (by decide)
    rw [sub_len s (by omega)] at hbd
    by_cases hk : k < a
    · have hlt : (k : Int) < a := by omega
      have hkl : k < s.length := by omega
      have hs := adv_snoc (1, 1) s (Nat.zero_le k) hkl
      generalize hq : adv (1, 1) (sub s 0 k) = q at *
      obtain ⟨L, Co⟩ := q
      simp only at hbd
      by_cases e10 : bt s k = 10
      · rw [ad, if_pos e10] at hs
        simp [go_sem, hlt, hk, hkl, e10]
        (repeat' apply And.intro) <;> first | omega | exact ⟨k + 1, by rw [hs], by rw [hs], by omega, by omega⟩
      · rw [ad, if_neg e10] at hs
        simp [go_sem, hlt, hk, hkl, e10]
        (repeat' apply And.intro) <;> first | omega | exact ⟨k + 1, by rw [hs], by rw [hs], by omega, by omega⟩
    · have hka : k = a := by omega
      subst hka
      simp [go_sem]
      exact hφ
end Go.Proofs.YtogalfbemmcaaaaDoor
