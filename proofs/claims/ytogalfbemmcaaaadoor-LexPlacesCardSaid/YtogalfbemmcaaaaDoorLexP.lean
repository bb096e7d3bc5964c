/- Tokens, part P: all tokens: the loop. -/
import Derived.Test.YtogalfbemmcaaaaDoorLexN
namespace Go.Proofs.YtogalfbemmcaaaaDoor
open Go.RowKit
attribute [local go_sem] says_tt says_ff th_need th_ite th_call th_load th_store th_mk th_new th_mks th_str says_ret says_again says_app BE.den IE.den SE.den LE.den AE.den CE.den PE.den VE.den KV.val Got.den Got.cnt exI allI exL allL Ctx.push Ctx.heap Ctx.cut Ctx.bare Ctx.mark Inc.blank List.getD_cons_zero List.getD_cons_succ List.cons_append List.nil_append List.append_nil List.map_cons List.map_nil List.replicate_zero List.replicate_succ specOf ltB_t leB_t ltB_f leB_f slc_val slc_nil slc_inj pt_val pt_nil hle_noHeap hle_refl hread_set hwrite_set set_same set_set noHeap_at B_inj ones_nil and_assoc
theorem sm34 : smB 34 = false := by decide
theorem gr34 : grB 34 = false := by decide
theorem dg34 : dgB 34 = false := by decide
set_option maxRecDepth 100000 in
set_option maxHeartbeats 8000000 in
/-- All tokens, where literals are known. -/
theorem tokens_ok (cl : Ct Tryd.prog) (hcl : cl.f = 22) (good : List UInt8 → Prop)
    (hl : ∀ (b : Nat) (k l c n : Int) (x s : List UInt8) (a : Nat) (L Co : Int) (T : TypeId) (h : Hp) (φ : Value → Hp → Prop), good s → h b = some ⟨rc s a L Co, T⟩ → a < s.length → bt s a = 34 → s.length ≤ 100000 → 0 ≤ Co → Co ≤ 500000 →
      (match rdq (s.drop a) with
        | some (t, m) => φ (.tuple #[tkv 5 l c n t, .int .i64 0]) (Hp.set h b ⟨rc s (a + m : Nat) L (Co + m), T⟩)
        | none => φ (.tuple #[tkv 0 0 0 0 [], .int .i64 4]) h) → cl.spec [.pointer (some ⟨b, 0, none⟩), tkv k l c n x] h φ)
    (s : List UInt8) (hg : good s) (h : Hp) (φ : Value → Hp → Prop) (w : World)
    (hφ : if 65536 < s.length then φ (.tuple #[.slice none 0 0, .agg #[.int .i64 3, .int .i64 0, .int .i64 0]]) h
      else if (lexAll s).1.1 = 0 then ∀ sl k, HLe h k → OwnS k sl (tcs (lexAll s).2) TK 5 → sl.n = (lexAll s).2.length → φ (.tuple #[sl.val, .agg #[.int .i64 0, .int .i64 0, .int .i64 0]]) k
      else φ (.tuple #[.slice none 0 0, .agg #[.int .i64 (lexAll s).1.1, .int .i64 (lexAll s).1.2.1, .int .i64 (lexAll s).1.2.2]]) h) (hH : Holds h w) :
    Calls Tryd.prog 9 #[.string (B s)] w fun e w' => ∃ v k, e = .returned v ∧ φ v k ∧ Holds k w' ∧ Fr w.heap.size h k w w' := by
  refine ct_forget (by_fm Tryd.func9 gen_tokens ps_tokens [ctSkip, ctSmall, ctGreat, ctName, ctDigit, ctNumber, cl, ctSign] (fun v k => ∃ k', HLe k' k ∧ φ v k') (tkInv h s) (fun _ C => (s.length - atOf C.h (rbOf C)).toNat) ⟨[], [], [s], [], [], [], h, noM⟩ ⟨rfl, rfl, rfl, rfl, rfl, rfl⟩ ones_nil ?_ w hH rfl)
  generalize hE : (⟨specOf _, _, _, _⟩ : Env) = E
  have s1 : E.spec 16 = ctSkip.spec := by rw [← hE]; rfl
  have s2 : E.spec 17 = ctSmall.spec := by rw [← hE]; rfl
  have s3 : E.spec 18 = ctGreat.spec := by rw [← hE]; rfl
  have s4 : E.spec 19 = ctName.spec := by rw [← hE]; rfl
  have s5 : E.spec 20 = ctDigit.spec := by rw [← hE]; rfl
  have s6 : E.spec 21 = ctNumber.spec := by rw [← hE]; rfl
  have s7 : E.spec 22 = cl.spec := by
    rw [← hE]; funext a h φ
    simp [specOf, hcl, ctSkip, ctSmall, ctGreat, ctName, ctDigit, ctNumber]
  have s8 : E.spec 23 = ctSign.spec := by
    rw [← hE]; funext a h φ
    simp [specOf, hcl, ctSkip, ctSmall, ctGreat, ctName, ctDigit, ctNumber, ctSign]
  have ep : E.post = fun v k => ∃ k', HLe k' k ∧ φ v k' := by rw [← hE]
  have ei : E.inv = tkInv h s := by rw [← hE]
  have em : E.meas = fun _ C => (s.length - atOf C.h (rbOf C)).toNat := by rw [← hE]
  clear hE
  rw [← then_step]; unfold fm_tokens
  simp only [then_step, th_ite]
  by_cases hlen : 65536 < s.length
  · rw [if_pos hlen] at hφ
    have h2 : (65536 : Int) < s.length := by omega
    simp [go_sem, h2, ep]
    exact ⟨_, (fun _ _ h => h), hφ⟩
  · rw [if_neg hlen] at hφ
    have h2 : ¬ (65536 : Int) < s.length := by omega
    simp [go_sem, h2]
    try simp only [then_step]
    try simp only [th_new]
    intro rb hrb
    try simp only [then_step]
    refine loop_intro ?_ ?_
    · rw [ei]
      refine ⟨0, 0, 0, ⟨none, 0, 0⟩, ⟨none, 0, 0⟩, rb, 0, s.length + 1, [], h, rfl, ⟨by omega, by omega, Nat.le_refl _, rfl, .inl ⟨rfl, rfl⟩, rfl, (fun z hz => by cases hz), (fun _ _ h => h), hrb⟩⟩
    · rw [ei, em]
      rintro i' bb ss v ll pp hh0 M ⟨x0, x1, x2, l0, sl, rb', i, m, acc, hh, hC, I⟩ hM
      cases hC
      simp only [rbOf, List.getD_cons_zero, Option.getD_some, atOf_set] at hM
      have hile := I.le
      have hifu := I.fuel
      obtain ⟨j, hj⟩ : ∃ j, j = i + ski false s i := ⟨_, rfl⟩
      have hjl : j ≤ s.length := hj ▸ ski_le false I.le
      have hij : i ≤ j := by omega
      have hpj : adv (pl s i) (sub s i j) = pl s j := pl_add hij hjl
      have bi := pl_bd I.le
      have bj := pl_bd hjl
      rw [th_call, if_pos (by rfl), s1]
      refine ⟨rb', s, i, pl s i, RD, rfl, set_same _ _ _, I.le, by omega, by omega, by omega, by omega, by omega, ?_⟩
      rw [← hj, hpj]
      simp [go_sem]
      generalize hLc : pl s j = q at *
      obtain ⟨L, Co⟩ := q
      simp only at bj ⊢
      iterate 9 (simp only [then_step]; simp [go_sem, rc])
      obtain ⟨m', rfl⟩ : ∃ m', m = m' + 1 := ⟨m - 1, by omega⟩
      have hall := I.all
      rw [lexA, ← hj, hpj] at hall
      by_cases hje : j = s.length
      · have hz : (j : Int) = s.length := by omega
        rw [if_pos (by omega)] at hall
        rw [hall, if_pos rfl] at hφ
        simp only [then_step, th_ite]
        simp [go_sem, hz]
        intro b hb
        rw [then_step]
        refine tk_app (cs := (Tok.mk 8 L Co 0 []).cs) I (by omega) (b := b) hb rfl (Tok.ones _) rfl rfl rfl ?_
        intro s' k' h1 h2 h3 h4
        obtain ⟨e1, e2, e3⟩ := tk_more I hb h3 h4
        rw [says_ret, ep]
        exact ⟨k', fun _ _ h => h, hφ s' k' e2 (by rw [tcs_app, tcs_one]; exact h1) (by rw [h2, I.n]; simp)⟩
      · have hz : ¬ (j : Int) = s.length := by omega
        have hjlt : j < s.length := by omega
        have hjz : (j : Int) < s.length := by omega
        rw [if_neg (by omega)] at hall
        have hbad : (one s j).f ≠ 0 → ∃ k', HLe k' (hh.set rb' ⟨[.string (B s), .int .i64 j, .int .i64 L, .int .i64 Co], RD⟩) ∧ φ (.tuple #[.slice none 0 0, .agg #[.int .i64 (one s j).f, .int .i64 L, .int .i64 Co]]) k' := by
          intro hf
          rw [if_neg hf] at hall
          rw [hall, if_neg hf] at hφ
          refine ⟨h, fun c o hc => ?_, hφ⟩
          rw [set_ne _ (fun e => by rw [e, I.nrb] at hc; cases hc)]
          exact I.kept c o hc
        have hpt : (one s j).f = 0 → pl s (one s j).e = (L, Co + ((one s j).e : Int) - j) := fun hf => by rw [pl_tok hjlt hf, hLc]
        have hH1 : ∀ v, (hh.set rb' ⟨[.string (B s), .int .i64 j, .int .i64 L, .int .i64 Co], v⟩) rb' = some ⟨rc s j L Co, v⟩ := fun v => by rw [set_same]; rfl
        have e1 : smB (bt s j) = decide (kdi (bt s j) = 1) := rfl
        have e2 : grB (bt s j) = decide (kdi (bt s j) = 2) := rfl
        have e3 : dgB (bt s j) = decide (kdi (bt s j) = 3) := rfl
        have hk5 : smB (bt s j) = true ∨ (smB (bt s j) = false ∧ grB (bt s j) = true) ∨ (smB (bt s j) = false ∧ grB (bt s j) = false ∧ dgB (bt s j) = true) ∨ (smB (bt s j) = false ∧ grB (bt s j) = false ∧ dgB (bt s j) = false ∧ bt s j = 34) ∨ (smB (bt s j) = false ∧ grB (bt s j) = false ∧ dgB (bt s j) = false ∧ bt s j ≠ 34) := by
          cases smB (bt s j) <;> cases grB (bt s j) <;> cases dgB (bt s j) <;> simp <;> omega
        simp only [then_step, th_ite]
        simp [go_sem, hz]
        rcases hk5 with h1 | ⟨h1, h1'⟩ | ⟨h1, h1', h1''⟩ | ⟨h1, h1', h1'', h34⟩ | ⟨h1, h1', h1'', h34⟩
        · iterate 7 (try simp only [then_step]; try simp [go_sem, s2, s3, s5, ctSmall, ctGreat, ctDigit, hjz, hjlt, h1])
          have hin : inB (bt s j) = true := by
            rw [inB, decide_eq_true_eq]
            simp only [e1, e2, decide_eq_true_eq] at h1
            omega
          have hone : one s j = ⟨0, nameK (bt s j) (sub s j (j + rn inB s j)), sub s j (j + rn inB s j), 0, j + rn inB s j⟩ := by
            unfold one
            rw [if_pos (by simp only [e1, e2, decide_eq_true_eq] at h1; omega)]
          have hf : (one s j).f = 0 := by rw [hone]
          rw [s4]
          refine ⟨rb', 0, L, Co, 0, [], s, j, L, Co, RD, rfl, hH1 RD, by omega, hjz, by omega, by omega, by omega, by rw [Int.toNat_natCast]; exact hin, ?_⟩
          rw [Int.toNat_natCast]
          refine ⟨_, _, _, _, _, rfl, ?_⟩
          rw [then_step, th_ite, if_pos (by rfl), then_step, set_set]
          exact tk_push I (by omega) ei em hj hjlt hf (by rw [hone]; simp) (by rw [hpt hf]) (by rw [hpt hf, hone]; simp; omega) hM (by rw [hone, hLc]; rfl)
        · iterate 7 (try simp only [then_step]; try simp [go_sem, s2, s3, s5, ctSmall, ctGreat, ctDigit, hjz, hjlt, h1, h1'])
          have hin : inB (bt s j) = true := by
            rw [inB, decide_eq_true_eq]
            simp only [e1, e2, decide_eq_true_eq] at h1 h1'
            omega
          have hone : one s j = ⟨0, nameK (bt s j) (sub s j (j + rn inB s j)), sub s j (j + rn inB s j), 0, j + rn inB s j⟩ := by
            unfold one
            rw [if_pos (by simp only [e1, e2, decide_eq_true_eq] at h1 h1'; omega)]
          have hf : (one s j).f = 0 := by rw [hone]
          rw [s4]
          refine ⟨rb', 0, L, Co, 0, [], s, j, L, Co, RD, rfl, hH1 RD, by omega, hjz, by omega, by omega, by omega, by rw [Int.toNat_natCast]; exact hin, ?_⟩
          rw [Int.toNat_natCast]
          refine ⟨_, _, _, _, _, rfl, ?_⟩
          rw [then_step, th_ite, if_pos (by rfl), then_step, set_set]
          exact tk_push I (by omega) ei em hj hjlt hf (by rw [hone]; simp) (by rw [hpt hf]) (by rw [hpt hf, hone]; simp; omega) hM (by rw [hone, hLc]; rfl)
        · iterate 9 (try simp only [then_step]; try simp [go_sem, s2, s3, s5, ctSmall, ctGreat, ctDigit, hjz, hjlt, h1, h1', h1''])
          have hk : ¬ (kdi (bt s j) = 1 ∨ kdi (bt s j) = 2) := by
            simp only [e1, e2, decide_eq_false_iff_not] at h1 h1'
            omega
          have hone : one s j = ⟨(nm s j).1, (nm s j).2.1, [], (nm s j).2.2.1, (nm s j).2.2.2⟩ := by
            unfold one
            rw [if_neg hk, if_pos (by simpa [e3] using h1'')]
          rw [s6]
          refine ⟨rb', 0, L, Co, 0, [], s, j, L, Co, RD, rfl, hH1 RD, by omega, hjz, by omega, by omega, by omega, by rw [Int.toNat_natCast]; exact h1'', ?_⟩
          rw [Int.toNat_natCast]
          by_cases hn : (nm s j).1 = 0
          · rw [if_pos hn]
            have hf : (one s j).f = 0 := by rw [hone]; exact hn
            refine ⟨_, _, _, _, _, _, rfl, ?_⟩
            rw [then_step, th_ite, if_pos (by rfl), then_step, set_set]
            exact tk_push I (by omega) ei em hj hjlt hf (by rw [hone]) (by rw [hpt hf]) (by rw [hpt hf, hone]) hM (by rw [hone, hLc]; rfl)
          · rw [if_neg hn]
            refine ⟨_, _, _, _, _, _, rfl, ?_⟩
            rw [then_step, th_ite, if_neg (by simp [go_sem]; exact hn)]
            iterate 9 (try simp only [then_step]; try simp [go_sem, ep])
            have hb := hbad (by rw [hone]; exact hn)
            rw [hone] at hb
            simpa [Slc.val] using hb
        · iterate 10 (try simp only [then_step]; try simp [go_sem, s2, s3, s5, ctSmall, ctGreat, ctDigit, hjz, hjlt, h1, h1', h1'', h34, sm34, gr34, dg34])
          have hk : ¬ (kdi (bt s j) = 1 ∨ kdi (bt s j) = 2) := by
            simp only [e1, e2, decide_eq_false_iff_not] at h1 h1'
            omega
          have hk3 : ¬ kdi (bt s j) = 3 := by simpa [e3] using h1''
          rw [s7]
          refine hl rb' 0 L Co 0 [] s j L Co RD _ _ hg (hH1 RD) hjlt h34 (by omega) (by omega) (by omega) ?_
          cases hq : rdq (s.drop j) with
          | some r =>
            obtain ⟨x, m1⟩ := r
            have hone : one s j = ⟨0, 5, x, 0, j + m1⟩ := by
              unfold one
              rw [if_neg hk, if_neg hk3, if_pos h34, hq]
            have hf : (one s j).f = 0 := by rw [hone]
            refine ⟨_, _, _, _, _, _, rfl, ?_⟩
            rw [then_step, th_ite, if_pos (by rfl), then_step, set_set]
            exact tk_push I (by omega) ei em hj hjlt hf (by rw [hone]) (by rw [hpt hf]) (by rw [hpt hf, hone]; simp; omega) hM (by rw [hone, hLc]; rfl)
          | none =>
            have hone : one s j = ⟨4, 0, [], 0, 0⟩ := by
              unfold one
              rw [if_neg hk, if_neg hk3, if_pos h34, hq]
            refine ⟨_, _, _, _, _, _, rfl, ?_⟩
            rw [then_step, th_ite, if_neg (by simp [go_sem])]
            iterate 9 (try simp only [then_step]; try simp [go_sem, ep])
            have hb := hbad (by rw [hone]; simp)
            rw [hone] at hb
            simpa [Slc.val] using hb
        · iterate 10 (try simp only [then_step]; try simp [go_sem, s2, s3, s5, ctSmall, ctGreat, ctDigit, hjz, hjlt, h1, h1', h1'', h34, sm34, gr34, dg34])
          have hk : ¬ (kdi (bt s j) = 1 ∨ kdi (bt s j) = 2) := by
            simp only [e1, e2, decide_eq_false_iff_not] at h1 h1'
            omega
          have hk3 : ¬ kdi (bt s j) = 3 := by simpa [e3] using h1''
          rw [s8]
          refine ⟨rb', 0, L, Co, 0, [], s, j, L, Co, RD, rfl, hH1 RD, by omega, by omega, by omega, by omega, by omega, ?_⟩
          rw [Int.toNat_natCast]
          by_cases hn : sg (s.drop j) = []
          · rw [if_pos hn]
            have hone : one s j = ⟨4, 0, [], 0, 0⟩ := by
              unfold one
              rw [if_neg hk, if_neg hk3, if_neg h34, if_pos hn]
            refine ⟨_, _, _, _, _, _, rfl, ?_⟩
            rw [then_step, th_ite, if_neg (by simp [go_sem])]
            iterate 9 (try simp only [then_step]; try simp [go_sem, ep])
            have hb := hbad (by rw [hone]; simp)
            rw [hone] at hb
            simpa [Slc.val] using hb
          · rw [if_neg hn]
            have hone : one s j = ⟨0, 7, sg (s.drop j), 0, j + (sg (s.drop j)).length⟩ := by
              unfold one
              rw [if_neg hk, if_neg hk3, if_neg h34, if_neg hn]
            have hf : (one s j).f = 0 := by rw [hone]
            refine ⟨_, _, _, _, _, _, rfl, ?_⟩
            rw [then_step, th_ite, if_pos (by rfl), then_step, set_set]
            exact tk_push I (by omega) ei em hj hjlt hf (by rw [hone]; simp) (by rw [hpt hf]) (by rw [hpt hf, hone]; simp; omega) hM (by rw [hone, hLc]; rfl)
end Go.Proofs.YtogalfbemmcaaaaDoor
