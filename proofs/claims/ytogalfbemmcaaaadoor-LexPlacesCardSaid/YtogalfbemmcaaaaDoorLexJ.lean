/- Tokens, part J: numbers. -/
import Derived.Test.YtogalfbemmcaaaaDoorLexI
namespace Go.Proofs.YtogalfbemmcaaaaDoor
open Go.RowKit
attribute [local go_sem] says_tt says_ff th_need th_ite th_call th_load th_store th_mk th_new th_mks th_str says_ret says_again says_app BE.den IE.den SE.den LE.den AE.den CE.den PE.den VE.den KV.val Got.den Got.cnt exI allI exL allL Ctx.push Ctx.heap Ctx.cut Ctx.bare Ctx.mark Inc.blank List.getD_cons_zero List.getD_cons_succ List.cons_append List.nil_append List.append_nil List.map_cons List.map_nil List.replicate_zero List.replicate_succ specOf ltB_t leB_t ltB_f leB_f slc_val slc_nil slc_inj pt_val pt_nil hle_noHeap hle_refl hread_set hwrite_set set_same set_set noHeap_at B_inj ones_nil and_assoc
theorem dg_in {b : Int} (h : dgB b = true) : inB b = true := by
  have : kdi b = 3 := by simpa [dgB] using h
  simp [inB, this]
theorem in105 : inB 105 = true := by decide
theorem drop_take_sub (s : List UInt8) (i j : Nat) : List.drop i (List.take j s) = sub s i j := rfl
theorem strip_le (d : List UInt8) : (strip d).length ≤ d.length := by
  by_cases h : d = []
  · subst h; exact Nat.le_refl _
  · rw [strip_trim d h]
    have := trimLeftB_len d 48
    split
    · cases d with
      | nil => exact absurd rfl h
      | cons a t => simp
    · exact this
set_option maxRecDepth 100000 in
set_option maxHeartbeats 8000000 in
def ctNumber : Ct Tryd.prog where
  f := 21
  spec := fun args h φ => ∃ b k l c n x s a L Co T, args = [.pointer (some ⟨b, 0, none⟩), tkv k l c n x] ∧ h b = some ⟨rc s a L Co, T⟩ ∧ 0 ≤ a ∧ a < s.length ∧ s.length ≤ 100000 ∧ 0 ≤ Co ∧ Co ≤ 500000 ∧ dgB (bt s a.toNat) = true ∧
    (if (nm s a.toNat).1 = 0 then φ (.tuple #[tkv (nm s a.toNat).2.1 l c (nm s a.toNat).2.2.1 x, .int .i64 0]) (h.set b ⟨rc s ((nm s a.toNat).2.2.2 : Nat) L (Co + ((nm s a.toNat).2.2.2 : Nat) - a), T⟩)
      else φ (.tuple #[tkv 0 0 0 0 [], .int .i64 (nm s a.toNat).1]) h)
  ok := by
    rintro args h φ w ⟨b, k, l, c, n, x, s, a, L, Co, T, rfl, hb, h0, h1, h2, c0, c1, hdg, hφ⟩ hH
    obtain ⟨h, rfl⟩ : ∃ h', h = Hp.set h' b ⟨rc s a L Co, T⟩ := ⟨h, set_self hb⟩
    obtain ⟨a, rfl⟩ : ∃ n : Nat, a = n := ⟨a.toNat, by omega⟩
    rw [Int.toNat_natCast] at hφ hdg
    rw [set_set] at hφ
    have hle := rn_le (p := dgB) (s := s) (i := a) (by omega)
    have hy := rn_yes (p := dgB) (s := s) (i := a) (by omega) hdg
    have hsl := sub_len s (i := a) hle
    have hne : sub s a (a + rn dgB s a) ≠ [] := by intro e; rw [e] at hsl; simp at hsl; omega
    have hst := strip_trim _ hne
    have htl := trimLeftB_len (sub s a (a + rn dgB s a)) 48
    have hnm : nm s a = _ := rfl
    conv at hnm => rhs; unfold nm
    refine by_fm Tryd.func21 gen_number ps_number [ctRun, ctInner, ctTrimZ, ctNumParse, ctPass] φ noInv noMeas ⟨[k, l, c, n], [], [x], [], [], [some (b, 0)], h.set b ⟨rc s a L Co, T⟩, noM⟩ ⟨rfl, rfl, rfl, rfl, rfl, rfl⟩ ones_nil ?_ w hH rfl
    generalize hN : rn dgB s a = N at *
    generalize hD : sub s a (a + N) = d at *
    have e1 : ((a : Int) + (N : Int)).toNat = a + N := by omega
    have e1' : ((a : Int) + ((N : Int) + 1)).toNat = a + N + 1 := by omega
    have e2 : List.drop a (List.take (a + N) s) = d := hD
    -- the number itself
    have hv : ∀ kk most e P (m : Int), nm s a = nfin kk most d e → strip d = P → (pv P).2 = 0 → (pv P).1 ≤ most → (e : Int) = a + m → φ (.tuple #[.agg #[.int .u8 kk, .int .i64 l, .int .i64 c, .int .i64 (pv P).1, .string (B x)], .int .i64 0]) (h.set b ⟨[.string (B s), .int .i64 (a + m), .int .i64 L, .int .i64 (Co + m)], T⟩) := by
      intro kk most e P m hn hP h3 h4 he
      subst hP
      have e' : nfin kk most d e = (0, kk, (pv (strip d)).1, e) := if_pos ⟨h3, h4⟩
      rw [hn, e', if_pos rfl] at hφ
      simp only [rc, tkv, he] at hφ
      rw [show Co + ((a : Int) + m) - a = Co + m by omega] at hφ
      exact hφ
    have ho : ∀ kk most e, nm s a = nfin kk most d e → ¬ ((pv (strip d)).2 = 0 ∧ (pv (strip d)).1 ≤ most) → φ (.tuple #[.agg #[.int .u8 0, .int .i64 0, .int .i64 0, .int .i64 0, .string (B [])], .int .i64 14]) (h.set b ⟨[.string (B s), .int .i64 a, .int .i64 L, .int .i64 Co], T⟩) := by
      intro kk most e hn h3
      have e' : nfin kk most d e = (14, 0, 0, 0) := if_neg h3
      rw [hn, e', if_neg (by decide)] at hφ
      exact hφ
    have h4 : nm s a = (4, 0, 0, 0) → φ (.tuple #[.agg #[.int .u8 0, .int .i64 0, .int .i64 0, .int .i64 0, .string (B [])], .int .i64 4]) (h.set b ⟨[.string (B s), .int .i64 a, .int .i64 L, .int .i64 Co], T⟩) := by
      intro hn
      rw [hn, if_neg (by decide)] at hφ
      exact hφ
    clear hφ
    rw [← then_step]; unfold fm_number
    iterate 90 (first | (simp only [then_step]; simp [go_sem, rc, ctRun, runSpec, ctInner, ctTrimZ, ctNumParse, ctPass, tkv, hN, e1, e1', e2]) | skip)
    have hP1 : Lib.trimLeftB d 48 = [] → strip d = [48] := fun h => by rw [hst, if_pos h]
    have hP2 : ¬ Lib.trimLeftB d 48 = [] → strip d = Lib.trimLeftB d 48 := fun h => by rw [hst, if_neg h]
    clear hst hN hD e2 hb hH
    by_cases hk : a + N < s.length
    · have hkz : (a : Int) + N < s.length := by omega
      by_cases h105 : bt s (a + N) = 105
      · have hyy := rn_yes (p := inB) hk (by rw [h105]; exact in105)
        by_cases hk1 : a + N + 1 < s.length
        · have hkz1 : (a : Int) + (N + 1) < s.length := by omega
          cases hin : inB (bt s (a + N + 1))
          · rw [rn_no hk1 hin] at hyy
            have hn : nm s a = nfin 4 8388607 d (a + N + 1) := by rw [hnm, hyy, if_neg (by decide), if_pos ⟨rfl, h105⟩]
            clear h4 hnm
            simp [hkz, hkz1, h105, hin]
            by_cases ht : Lib.trimLeftB d 48 = []
            · have hP := hP1 ht
              by_cases he : (pv [48]).2 = 0
              · by_cases hm : 8388607 < (pv [48]).1
                · simp [ht, he, hm]
                  (repeat' apply And.intro) <;> first | omega | exact ho _ _ _ hn (by rw [hP]; omega)
                · simp [ht, he, hm]
                  (repeat' apply And.intro) <;> first | omega | exact hv _ _ _ _ _ hn hP he (by omega) (by omega)
              · simp [ht, he]
                (repeat' apply And.intro) <;> first | omega | exact ho _ _ _ hn (by rw [hP]; omega)
            · have hP := hP2 ht
              by_cases he : (pv (Lib.trimLeftB d 48)).2 = 0
              · by_cases hm : 8388607 < (pv (Lib.trimLeftB d 48)).1
                · simp [ht, he, hm]
                  (repeat' apply And.intro) <;> first | omega | exact ho _ _ _ hn (by rw [hP]; omega)
                · simp [ht, he, hm]
                  (repeat' apply And.intro) <;> first | omega | exact hv _ _ _ _ _ hn hP he (by omega) (by omega)
              · simp [ht, he]
                (repeat' apply And.intro) <;> first | omega | exact ho _ _ _ hn (by rw [hP]; omega)
          · have := rn_yes hk1 hin
            have hf := h4 (by rw [hnm, if_neg (by omega), if_neg (by omega)])
            simp [hkz, hkz1, h105, hin]
            (repeat' apply And.intro) <;> first | omega | exact hf
        · have hkz1 : ¬ ((a : Int) + (N + 1) < s.length) := by omega
          rw [rn_end (p := inB) (s := s) (i := a + N + 1) (by omega)] at hyy
          have hn : nm s a = nfin 4 8388607 d (a + N + 1) := by rw [hnm, hyy, if_neg (by decide), if_pos ⟨rfl, h105⟩]
          clear h4 hnm
          simp [hkz, hkz1, h105]
          by_cases ht : Lib.trimLeftB d 48 = []
          · have hP := hP1 ht
            by_cases he : (pv [48]).2 = 0
            · by_cases hm : 8388607 < (pv [48]).1
              · simp [ht, he, hm]
                (repeat' apply And.intro) <;> first | omega | exact ho _ _ _ hn (by rw [hP]; omega)
              · simp [ht, he, hm]
                (repeat' apply And.intro) <;> first | omega | exact hv _ _ _ _ _ hn hP he (by omega) (by omega)
            · simp [ht, he]
              (repeat' apply And.intro) <;> first | omega | exact ho _ _ _ hn (by rw [hP]; omega)
          · have hP := hP2 ht
            by_cases he : (pv (Lib.trimLeftB d 48)).2 = 0
            · by_cases hm : 8388607 < (pv (Lib.trimLeftB d 48)).1
              · simp [ht, he, hm]
                (repeat' apply And.intro) <;> first | omega | exact ho _ _ _ hn (by rw [hP]; omega)
              · simp [ht, he, hm]
                (repeat' apply And.intro) <;> first | omega | exact hv _ _ _ _ _ hn hP he (by omega) (by omega)
            · simp [ht, he]
              (repeat' apply And.intro) <;> first | omega | exact ho _ _ _ hn (by rw [hP]; omega)
      · cases hin : inB (bt s (a + N))
        · have hn : nm s a = nfin 3 9223372036854775807 d (a + N) := by rw [hnm, if_pos (rn_no hk hin)]
          clear h4 hnm
          simp [hkz, h105, hin]
          by_cases ht : Lib.trimLeftB d 48 = []
          · have hP := hP1 ht
            by_cases he : (pv [48]).2 = 0
            · by_cases hm : 9223372036854775807 < (pv [48]).1
              · simp [ht, he, hm]
                (repeat' apply And.intro) <;> first | omega | exact ho _ _ _ hn (by rw [hP]; omega)
              · simp [ht, he, hm]
                (repeat' apply And.intro) <;> first | omega | exact hv _ _ _ _ _ hn hP he (by omega) (by omega)
            · simp [ht, he]
              (repeat' apply And.intro) <;> first | omega | exact ho _ _ _ hn (by rw [hP]; omega)
          · have hP := hP2 ht
            by_cases he : (pv (Lib.trimLeftB d 48)).2 = 0
            · by_cases hm : 9223372036854775807 < (pv (Lib.trimLeftB d 48)).1
              · simp [ht, he, hm]
                (repeat' apply And.intro) <;> first | omega | exact ho _ _ _ hn (by rw [hP]; omega)
              · simp [ht, he, hm]
                (repeat' apply And.intro) <;> first | omega | exact hv _ _ _ _ _ hn hP he (by omega) (by omega)
            · simp [ht, he]
              (repeat' apply And.intro) <;> first | omega | exact ho _ _ _ hn (by rw [hP]; omega)
        · have := rn_yes hk hin
          have hf := h4 (by rw [hnm, if_neg (by omega), if_neg (fun h => h105 h.2)])
          simp [hkz, h105, hin]
          (repeat' apply And.intro) <;> first | omega | exact hf
    · have hkz : ¬ ((a : Int) + N < s.length) := by omega
      have hn : nm s a = nfin 3 9223372036854775807 d (a + N) := by rw [hnm, if_pos (rn_end (by omega))]
      clear h4 hnm
      simp [hkz]
      by_cases ht : Lib.trimLeftB d 48 = []
      · have hP := hP1 ht
        by_cases he : (pv [48]).2 = 0
        · by_cases hm : 9223372036854775807 < (pv [48]).1
          · simp [ht, he, hm]
            (repeat' apply And.intro) <;> first | omega | exact ho _ _ _ hn (by rw [hP]; omega)
          · simp [ht, he, hm]
            (repeat' apply And.intro) <;> first | omega | exact hv _ _ _ _ _ hn hP he (by omega) (by omega)
        · simp [ht, he]
          (repeat' apply And.intro) <;> first | omega | exact ho _ _ _ hn (by rw [hP]; omega)
      · have hP := hP2 ht
        by_cases he : (pv (Lib.trimLeftB d 48)).2 = 0
        · by_cases hm : 9223372036854775807 < (pv (Lib.trimLeftB d 48)).1
          · simp [ht, he, hm]
            (repeat' apply And.intro) <;> first | omega | exact ho _ _ _ hn (by rw [hP]; omega)
          · simp [ht, he, hm]
            (repeat' apply And.intro) <;> first | omega | exact hv _ _ _ _ _ hn hP he (by omega) (by omega)
        · simp [ht, he]
          (repeat' apply And.intro) <;> first | omega | exact ho _ _ _ hn (by rw [hP]; omega)
end Go.Proofs.YtogalfbemmcaaaaDoor
