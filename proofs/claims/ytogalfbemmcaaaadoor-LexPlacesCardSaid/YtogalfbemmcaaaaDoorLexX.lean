/- Tokens, part X: the reference's numbers. -/
import Derived.Test.YtogalfbemmcaaaaDoorLexY
namespace Go.Proofs.YtogalfbemmcaaaaDoor
open Go.RowKit
attribute [local go_sem] says_tt says_ff th_need th_ite th_call th_load th_store th_mk th_new th_mks th_str says_ret says_again says_app BE.den IE.den SE.den LE.den AE.den CE.den PE.den VE.den KV.val Got.den Got.cnt exI allI exL allL Ctx.push Ctx.heap Ctx.cut Ctx.bare Ctx.mark Inc.blank List.getD_cons_zero List.getD_cons_succ List.cons_append List.nil_append List.append_nil List.map_cons List.map_nil List.replicate_zero List.replicate_succ specOf ltB_t leB_t ltB_f leB_f slc_val slc_nil slc_inj pt_val pt_nil hle_noHeap hle_refl hread_set hwrite_set set_same set_set noHeap_at B_inj ones_nil and_assoc
/-- What comes next in a formula. -/
def Fm.k : Fm → Fm
  | .need _ _ k => k
  | .call _ _ _ _ _ _ k => k
  | .load _ _ _ _ _ k => k
  | .store _ _ k => k
  | .mk _ _ _ k => k
  | .loop _ _ k => k
  | .app _ _ _ _ _ k => k
  | .str _ k => k
  | f => f
def Fm.e : Fm → Fm
  | .ite _ _ e => e
  | f => f
theorem sub_cons (s : List UInt8) {i j : Nat} (h : i < j) (hj : j ≤ s.length) : sub s i j = s[i] :: sub s (i + 1) j := by
  unfold sub
  have hl : i < (s.take j).length := by rw [List.length_take]; omega
  rw [List.drop_eq_getElem_cons hl, List.getElem_take]
theorem strip_more {s : List UInt8} {i k : Nat} (h : i + 1 < k) (hk : k ≤ s.length) (h48 : bt s i = 48) : strip (sub s i k) = strip (sub s (i + 1) k) := by
  rw [sub_cons s (by omega) hk, sub_cons s h hk, strip, if_pos (by rw [bt_eq s i (by omega)] at h48; omega), ← sub_cons s h hk]
theorem strip_end {s : List UInt8} {i k : Nat} (h : i < k) (hk : k ≤ s.length) (hn : ¬ (i + 1 < k ∧ bt s i = 48)) : strip (sub s i k) = sub s i k := by
  by_cases h1 : i + 1 < k
  · have h48 : ¬ bt s i = 48 := fun e => hn ⟨h1, e⟩
    rw [sub_cons s h hk, sub_cons s h1 hk, strip, if_neg (by rw [bt_eq s i (by omega)] at h48; omega)]
  · obtain rfl : k = i + 1 := by omega
    rw [sub_cons s h hk, sub_same]; rfl
def nuInv (h : Hp) (s : List UInt8) (i0 : Nat) : Nat → Ctx → Prop
  | 0, C => ∃ k : Nat, C = ⟨[(i0 : Nat), (k : Nat)], [], [s], [], [], [], h, noM⟩ ∧ i0 ≤ k ∧ k ≤ s.length ∧ rn dgB s i0 = (k - i0) + rn dgB s k
  | _ + 1, C => ∃ (k e i : Nat) (x : Int), C = ⟨[(i0 : Nat), (k : Nat), x, (e : Nat), (i : Nat)], [], [s], [], [], [], h, noM⟩ ∧ i0 ≤ i ∧ i < k ∧ k ≤ s.length ∧ strip (sub s i0 k) = strip (sub s i k)
def nuMeas (s : List UInt8) : Nat → Ctx → Nat
  | 0, C => ((s.length : Int) - C.i.getD 1 0).toNat
  | _ + 1, C => ((s.length : Int) - C.i.getD 4 0).toNat
set_option maxRecDepth 100000 in
set_option maxHeartbeats 8000000 in
def ctRNumber : Ct Tryd.prog where
  f := 28
  spec := fun args h φ => ∃ s i0, args = [.string (B s), .int .i64 (i0 : Nat)] ∧ i0 < s.length ∧ s.length ≤ 100000 ∧ dgB (bt s i0) = true ∧
    (if (nm s i0).1 = 0 then φ (.tuple #[tkv (nm s i0).2.1 0 0 (nm s i0).2.2.1 [], .int .i64 ((nm s i0).2.2.2 : Nat), .int .i64 0]) h
      else ∀ kk, φ (.tuple #[tkv kk 0 0 0 [], .int .i64 0, .int .i64 (nm s i0).1]) h)
  ok := by
    rintro args h φ w ⟨s, i0, rfl, hi0, hlen, hdg, hφ⟩ hH
    refine by_fm Tryd.func28 gen_rnumber ps_rnumber [ctKind, ctRInner, ctRefParse] φ (nuInv h s i0) (nuMeas s) ⟨[(i0 : Nat)], [], [s], [], [], [], h, noM⟩ ⟨rfl, rfl, rfl, rfl, rfl, rfl⟩ ones_nil ?_ w hH rfl
    generalize hE : (⟨specOf _, _, _, _⟩ : Env) = E
    have s1 : E.spec 26 = ctKind.spec := by rw [← hE]; rfl
    have s2 : E.spec 27 = ctRInner.spec := by rw [← hE]; rfl
    have s3 : E.spec 42 = ctRefParse.spec := by rw [← hE]; rfl
    have ep : E.post = φ := by rw [← hE]
    have ei : E.inv = nuInv h s i0 := by rw [← hE]
    have em : E.meas = nuMeas s := by rw [← hE]
    clear hE
    unfold fm_rnumber
    refine loop_intro (by rw [ei]; exact ⟨i0, rfl, Nat.le_refl _, by omega, by omega⟩) ?_
    rw [ei, em]
    rintro i bb ss v ll pp hh M ⟨k, hC, h1, h2, h3⟩ hM
    cases hC
    have hM' : M 0 = ((s.length : Int) - k).toNat := hM
    clear hM
    rw [← then_step]
    by_cases hk : k < s.length ∧ dgB (bt s k) = true
    · obtain ⟨hk, hd⟩ := hk
      have hkz : (k : Int) < s.length := by omega
      have hkd : kdi (bt s k) = 3 := by simpa [dgB] using hd
      have hy := rn_yes hk hd
      iterate 5 (try simp only [then_step]; try simp [go_sem, ei, em, s1, ctKind, hkz, hk, hkd])
      refine ⟨by omega, by omega, ⟨k + 1, by simp, by omega, by omega, by omega⟩, ?_⟩
      simp only [nuMeas, List.getD_cons_succ, List.getD_cons_zero]
      omega
    have hr0 : rn dgB s k = 0 := by
      by_cases hl : k < s.length
      · exact rn_no hl (by simpa [hl] using hk)
      · exact rn_end (by omega)
    have hyy := rn_yes (p := dgB) hi0 hdg
    have hkk : k = i0 + rn dgB s i0 := by omega
    have hik : i0 < k := by omega
    -- behind the digits
    have hrest : ∀ x : Int, (fm_rnumber.k.k.k.e).says E ⟨[(i0 : Nat), (k : Nat), x], [], [s], [], [], [], h, M⟩ := by
      intro x
      simp only [fm_rnumber, Fm.k, Fm.e]
      rw [th_call, if_pos (by rfl), s2]
      refine ⟨s, k, rfl, by omega, by omega, by omega, ?_⟩
      have hr := rn_le (p := inB) (s := s) (i := k) h2
      rw [Int.toNat_natCast]
      refine ⟨(fun h => by cases h), ?_⟩
      simp [go_sem]
      have hnm : nm s i0 = _ := rfl
      conv at hnm => rhs; unfold nm
      rw [← hkk] at hnm
      generalize hR : rn inB s k = R at *
      by_cases ha : R = 1 ∧ bt s k = 105
      · obtain ⟨rfl, h105⟩ := ha
        have hnm' : nm s i0 = nfin 4 8388607 (sub s i0 k) (k + 1) := by rw [hnm, if_neg (by decide), if_pos ⟨rfl, h105⟩]
        have hks : (k : Int) < s.length := by omega
        iterate 3 (try simp only [then_step]; try simp [go_sem, h105, hks])
        refine ⟨by omega, by omega, ?_⟩
        refine loop_in ?_ ?_
        · rw [ei]
          exact ⟨k, k + 1, i0, x, by simp [go_sem, Ctx.bare, Got.den], Nat.le_refl _, hik, h2, rfl⟩
        · rintro ⟨xi, xb, xs, xv, xl, xp⟩ h' M' hc hinv hm hM1
          rw [ei] at hinv
          rw [em] at hm
          obtain ⟨k2, e2, i2, x2, hC, b1, b2, b3, b4⟩ := hinv
          simp [Ctx.push, Ctx.heap, Ctx.bare] at hC
          obtain ⟨⟨hkq, rfl, heq, rfl⟩, rfl, rfl, rfl, rfl, rfl, rfl⟩ := hC
          obtain rfl : k2 = k := by omega
          have hm' : M' 1 = ((s.length : Int) - i2).toNat := hm
          clear hm hc
          rw [← then_step]
          by_cases hmore : i2 + 1 < k2 ∧ bt s i2 = 48
          · have c1 : (i2 : Int) < k2 - 1 := by omega
            have c2 : (i2 : Int) < s.length := by omega
            iterate 5 (try simp only [then_step]; try simp [go_sem, ei, em, c1, c2, hmore.2])
            (repeat' apply And.intro) <;> first | omega | exact ⟨k2, e2, i2 + 1, x, by simp [heq], by omega, by omega, b3, by rw [b4, strip_more (by omega) b3 hmore.2]⟩ | (simp only [nuMeas, List.getD_cons_succ, List.getD_cons_zero]; omega)
          · have hse := strip_end b2 b3 hmore
            have hnf : nm s i0 = nfin 4 8388607 (sub s i0 k2) (k2 + 1) := hnm'
            rw [hnf] at hφ
            unfold nfin at hφ
            rw [b4, hse] at hφ
            rw [then_step, th_need]
            refine ⟨by simp [go_sem]; omega, ?_⟩
            rw [then_step, th_need]
            refine ⟨by simp [go_sem]; omega, ?_⟩
            rw [then_step, th_ite, if_neg (by simp [go_sem]; omega)]
            rw [then_step, th_need]
            refine ⟨by simp [go_sem]; omega, ?_⟩
            rw [then_step, th_call, if_pos (by rfl), s3]
            refine ⟨sub s i2 k2, rfl, by rw [sub_len s b3]; omega, (fun h => by cases h), ?_⟩
            simp [go_sem]
            by_cases hm2 : (pv (sub s i2 k2)).2 = 0 ∧ (pv (sub s i2 k2)).1 ≤ 8388607
            · rw [if_pos hm2] at hφ
              rw [then_step, th_ite, if_neg (by simp [go_sem]; omega), then_step, says_ret, ep]
              simpa [go_sem, tkv, heq] using hφ
            · rw [if_neg hm2] at hφ
              rw [then_step, th_ite, if_pos (by simp [go_sem]; omega), then_step, says_ret, ep]
              have hb := hφ 4
              simpa [go_sem, tkv] using hb
      · by_cases hb : R = 0
        · subst hb
          have hnm' : nm s i0 = nfin 3 9223372036854775807 (sub s i0 k) k := by rw [hnm, if_pos rfl]
          have hkn : ¬ (k : Int) = k + 1 := by omega
          iterate 4 (try simp only [then_step]; try simp [go_sem, hkn])
          refine ⟨by omega, by omega, ?_⟩
          refine loop_in ?_ ?_
          · rw [ei]
            exact ⟨k, k, i0, x, by simp [go_sem, Ctx.bare, Got.den], Nat.le_refl _, hik, h2, rfl⟩
          · rintro ⟨xi, xb, xs, xv, xl, xp⟩ h' M' hc hinv hm hM1
            rw [ei] at hinv
            rw [em] at hm
            obtain ⟨k2, e2, i2, x2, hC, b1, b2, b3, b4⟩ := hinv
            simp [Ctx.push, Ctx.heap, Ctx.bare] at hC
            obtain ⟨⟨hkq, rfl, heq, rfl⟩, rfl, rfl, rfl, rfl, rfl, rfl⟩ := hC
            obtain rfl : k2 = k := by omega
            have hm' : M' 1 = ((s.length : Int) - i2).toNat := hm
            clear hm hc
            rw [← then_step]
            by_cases hmore : i2 + 1 < k2 ∧ bt s i2 = 48
            · have c1 : (i2 : Int) < k2 - 1 := by omega
              have c2 : (i2 : Int) < s.length := by omega
              iterate 5 (try simp only [then_step]; try simp [go_sem, ei, em, c1, c2, hmore.2])
              (repeat' apply And.intro) <;> first | omega | exact ⟨k2, e2, i2 + 1, x, by simp [heq], by omega, by omega, b3, by rw [b4, strip_more (by omega) b3 hmore.2]⟩ | (simp only [nuMeas, List.getD_cons_succ, List.getD_cons_zero]; omega)
            · have hse := strip_end b2 b3 hmore
              have hnf : nm s i0 = nfin 3 9223372036854775807 (sub s i0 k2) k2 := hnm'
              rw [hnf] at hφ
              unfold nfin at hφ
              rw [b4, hse] at hφ
              rw [then_step, th_need]
              refine ⟨by simp [go_sem]; omega, ?_⟩
              rw [then_step, th_need]
              refine ⟨by simp [go_sem]; omega, ?_⟩
              rw [then_step, th_ite, if_neg (by simp [go_sem]; omega)]
              rw [then_step, th_need]
              refine ⟨by simp [go_sem]; omega, ?_⟩
              rw [then_step, th_call, if_pos (by rfl), s3]
              refine ⟨sub s i2 k2, rfl, by rw [sub_len s b3]; omega, (fun h => by cases h), ?_⟩
              simp [go_sem]
              by_cases hm2 : (pv (sub s i2 k2)).2 = 0 ∧ (pv (sub s i2 k2)).1 ≤ 9223372036854775807
              · rw [if_pos hm2] at hφ
                rw [then_step, th_ite, if_neg (by simp [go_sem]; omega), then_step, says_ret, ep]
                simpa [go_sem, tkv, heq] using hφ
              · rw [if_neg hm2] at hφ
                rw [then_step, th_ite, if_pos (by simp [go_sem]; omega), then_step, says_ret, ep]
                have hb := hφ 3
                simpa [go_sem, tkv] using hb
        · have hnm' : nm s i0 = (4, 0, 0, 0) := by rw [hnm, if_neg hb, if_neg ha]
          rw [hnm', if_neg (by decide)] at hφ
          rw [then_step, th_need]
          refine ⟨by simp [go_sem]; omega, ?_⟩
          rw [then_step, th_need]
          refine ⟨by simp [go_sem]; omega, ?_⟩
          rw [then_step, th_ite, if_neg (by simp [go_sem]; omega)]
          rw [then_step, th_ite, if_pos (by simp [go_sem]; omega), then_step, says_ret, ep]
          have hb := hφ 3
          simpa [go_sem, tkv] using hb
    by_cases hl : k < s.length
    · have hkz : (k : Int) < s.length := by omega
      have hd : ¬ kdi (bt s k) = 3 := fun e => hk ⟨hl, by simpa [dgB] using e⟩
      rw [then_step, th_need]
      refine ⟨by first | (simp [go_sem, hkz]; done) | (simp [go_sem, hkz]; omega), ?_⟩
      rw [then_step, th_call, if_pos (by simp [go_sem, hkz]), s1]
      refine ⟨bt s k, rfl, (fun h => by cases h), ?_⟩
      simp [go_sem]
      rw [then_step, th_ite, if_neg (by simp [go_sem, hkz, hd])]
      exact hrest _
    · have hkz : ¬ (k : Int) < s.length := by omega
      rw [then_step, th_need]
      refine ⟨by simp [go_sem, hkz], ?_⟩
      rw [then_step, th_call, if_neg (by simp [go_sem, hkz])]
      rw [then_step, th_ite, if_neg (by simp [go_sem, hkz])]
      exact hrest 0
end Go.Proofs.YtogalfbemmcaaaaDoor
