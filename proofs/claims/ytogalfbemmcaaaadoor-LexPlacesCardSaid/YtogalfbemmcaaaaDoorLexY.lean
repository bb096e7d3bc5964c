/- Tokens, part Y: the reference reads a literal: the loop. -/
import Derived.Test.YtogalfbemmcaaaaDoorLexW
namespace Go.Proofs.YtogalfbemmcaaaaDoor
open Go.RowKit
attribute [local go_sem] says_tt says_ff th_need th_ite th_call th_load th_store says_ret says_again BE.den IE.den SE.den LE.den AE.den CE.den PE.den VE.den KV.val Got.den Got.cnt exI allI exL allL Ctx.push Ctx.heap Ctx.cut Ctx.bare Ctx.mark Inc.blank List.getD_cons_zero List.getD_cons_succ List.cons_append List.nil_append List.append_nil List.map_cons List.map_nil List.replicate_zero List.replicate_succ specOf ltB_t leB_t ltB_f leB_f slc_val slc_nil slc_inj pt_val pt_nil hle_noHeap hle_refl hread_set hwrite_set set_same set_set noHeap_at B_inj ones_nil and_assoc
def rInv (h : Hp) (s : List UInt8) : Nat → Ctx → Prop
  | 0, C => ∃ x0 i y t l0 sl acc hh, C = ⟨[x0, (i : Nat)], [y], [s, t], [], [l0, sl], [], hh, noM⟩ ∧ BI h sl acc hh ∧ 1 ≤ i ∧ i ≤ s.length ∧ acc.length ≤ i ∧ ∃ m, s.length < m + i ∧ rdA s.length s 1 [] = rdA m s i acc
  | _ + 1, C => ∃ x0 i x2 k y y' t t' l0 sl acc hh, C = ⟨[x0, (i : Nat), x2, (k : Nat)], [y, y'], [s, t, t'], [], [l0, sl], [], hh, noM⟩ ∧ BI h sl acc hh ∧ 1 ≤ i ∧ i + 1 < s.length ∧ acc.length ≤ i ∧ (∃ m, s.length < m + i ∧ rdA s.length s 1 [] = rdA m s i acc) ∧
      1 ≤ k ∧ k ≤ 3 ∧ (2 ≤ k → i + 2 < s.length ∧ 0 ≤ hx (bt s (i + 2))) ∧ (3 ≤ k → i + 3 < s.length ∧ 0 ≤ hx (bt s (i + 3)))
def rMeas (s : List UInt8) : Nat → Ctx → Nat
  | 0, C => ((s.length : Int) - C.i.getD 1 0).toNat
  | _ + 1, C => (3 - C.i.getD 3 0).toNat
theorem rd_stop {s acc : List UInt8} {i : Nat} (h : ∃ m, s.length < m + i ∧ rdA s.length s 1 [] = rdA m s i acc) (hi : i ≤ s.length) {r : Option (List UInt8 × Nat)} (hs : ∀ m, rdA (m + 1) s i acc = r) : rdA s.length s 1 [] = r := by
  obtain ⟨m, hm, he⟩ := h
  obtain ⟨m', rfl⟩ : ∃ m', m = m' + 1 := ⟨m - 1, by omega⟩
  rw [he, hs]
theorem rd_next {s acc acc' : List UInt8} {i i' : Nat} (h : ∃ m, s.length < m + i ∧ rdA s.length s 1 [] = rdA m s i acc) (hi : i ≤ s.length) (hlt : i < i') (hs : ∀ m, rdA (m + 1) s i acc = rdA m s i' acc') : ∃ m, s.length < m + i' ∧ rdA s.length s 1 [] = rdA m s i' acc' := by
  obtain ⟨m, hm, he⟩ := h
  obtain ⟨m', rfl⟩ : ∃ m', m = m' + 1 := ⟨m - 1, by omega⟩
  exact ⟨m', by omega, by rw [he, hs]⟩
set_option maxRecDepth 100000 in
set_option maxHeartbeats 8000000 in
def ctRRead : Ct Tryd.prog where
  f := 29
  spec := fun args h φ => ∃ s, args = [.string (B s)] ∧ s.length ≤ 100000 ∧
    (match rdq s with
      | some (t, e) => φ (.tuple #[.string (B t), .int .i64 (e : Nat), .bool true]) h
      | none => ∀ t n, φ (.tuple #[.string (B t), .int .i64 n, .bool false]) h)
  ok := by
    rintro args h φ w ⟨s, rfl, hlen, hφ⟩ hH
    refine ct_forget (by_fm Tryd.func29 gen_rread ps_rread [ctRValue] (fun v k => ∃ k', HLe k' k ∧ φ v k') (rInv h s) (rMeas s) ⟨[], [], [s], [], [], [], h, noM⟩ ⟨rfl, rfl, rfl, rfl, rfl, rfl⟩ ones_nil ?_ w hH rfl)
    generalize hE : (⟨specOf _, _, _, _⟩ : Env) = E
    have s1 : E.spec 43 = ctRValue.spec := by rw [← hE]; rfl
    have ep : E.post = fun v k => ∃ k', HLe k' k ∧ φ v k' := by rw [← hE]
    have ei : E.inv = rInv h s := by rw [← hE]
    have em : E.meas = rMeas s := by rw [← hE]
    clear hE
    unfold rdq at hφ
    have no : ∀ {hh}, HLe h hh → rdA s.length s 1 [] = none → ∀ t n, ∃ k', HLe k' hh ∧ φ (.tuple #[.string (B t), .int .i64 n, .bool false]) k' := fun hle hr t n => by
      refine ⟨h, hle, ?_⟩
      rw [hr] at hφ
      split at hφ
      · rename_i heq; split at heq <;> cases heq
      · exact hφ t n
    rw [← then_step]; unfold fm_rread
    by_cases hs0 : s = []
    · subst hs0
      rw [if_pos (.inl rfl)] at hφ
      iterate 3 (try simp only [then_step]; try simp [go_sem, ep])
      exact ⟨h, fun _ _ h => h, hφ _ _⟩
    have hpos : 0 < s.length := List.length_pos_iff.2 hs0
    have hposz : (0 : Int) < s.length := by omega
    have hnz : ¬ (s.length : Int) = 0 := by omega
    by_cases h34 : bt s 0 = 34
    · rw [if_neg (by omega)] at hφ
      iterate 3 (try simp only [then_step]; try simp [go_sem, hs0, hposz, hnz, h34])
      refine ⟨hpos, ?_⟩
      rw [th_mk]
      intro b0 hb0
      refine loop_intro ?_ ?_
      · rw [ei]
        exact ⟨0, 1, false, [], ⟨some (b0, 0), 0, 0⟩, ⟨some (b0, 0), 0, 0⟩, [], h.set b0 ⟨[], 5⟩, rfl, ⟨.inr ⟨b0, ⟨[], 5⟩, rfl, set_same _ _ _, rfl, rfl, Nat.le_refl _, Nat.zero_le _, rfl⟩, rfl, by simp, fun z hz => by cases hz; exact hb0, hle_set hb0 _⟩, Nat.le_refl _, hpos, Nat.zero_le _, s.length, by omega, rfl⟩
      · rw [ei, em]
        rintro i' bb ss v ll pp hh0 M ⟨x0, i, y, t, l0, sl, acc, hh, hC, X, lo, le, cnt, all⟩ hM
        cases hC
        have hM' : M 0 = ((s.length : Int) - i).toNat := hM
        clear hM hb0
        have hibd := bt_bd s i
        rw [← then_step]
        by_cases hil : i = s.length
        · have hz : ¬ (i : Int) < s.length := by omega
          iterate 2 (try simp only [then_step]; try simp [go_sem, ep, hz])
          exact no X.kept (rd_stop all le fun m => by rw [rdA, if_pos (.inl (by omega))]) _ _
        have hlt : i < s.length := by omega
        have hz : (i : Int) < s.length := by omega
        by_cases hpr : bt s i < 32 ∨ 126 < bt s i
        · iterate 4 (try simp only [then_step]; try simp [go_sem, ep, hz, hpr])
          exact no X.kept (rd_stop all le fun m => by rw [rdA, if_pos (.inr hpr)]) _ _
        have p1 : ¬ bt s i < 32 := by omega
        have p2 : ¬ 126 < bt s i := by omega
        by_cases q34 : bt s i = 34
        · iterate 4 (try simp only [then_step]; try simp [go_sem, ep, hz, p1, p2, q34])
          have hr : rdA s.length s 1 [] = some (acc, i + 1) := rd_stop all le fun m => by rw [rdA, if_neg (by omega), if_pos q34]
          rw [hr] at hφ
          rw [then_step, th_str]
          refine ⟨acc, X.bytes, ?_⟩
          iterate 2 (try simp only [then_step]; try simp [go_sem, ep])
          exact ⟨by omega, by omega, h, X.kept, by simpa using hφ⟩
        by_cases q92 : bt s i = 92
        · have e1 : ((i : Int) + 1).toNat = i + 1 := by omega
          have hibd1 := bt_bd s (i + 1)
          by_cases hi1 : i + 1 = s.length
          · have hz1 : (s.length : Int) ≤ (i : Int) + 1 := by omega
            iterate 10 (try simp only [then_step]; try simp [go_sem, ep, hz, p1, p2, q34, q92, hz1])
            exact ⟨by omega, by omega, no X.kept (rd_stop all le fun m => by rw [rdA, if_neg (by omega), if_neg q34, if_neg (fun h => h q92), if_pos (by omega)]) _ _⟩
          have hz3 : (i : Int) + 1 < s.length := by omega
          have hz4 : ¬ (s.length : Int) ≤ (i : Int) + 1 := by omega
          by_cases c34 : bt s (i + 1) = 34
          · iterate 16 (try simp only [then_step]; try simp [go_sem, ep, hz, hz3, hz4, p1, p2, q34, q92, e1, c34])
            refine ⟨by omega, by omega, by omega, ?_⟩
            rw [th_mk]
            intro b hb
            refine by_app X (by omega) hb (c := 34) (by omega) (by omega) rfl rfl (by simp [go_sem, e1, c34]) (fun s' k' X' => ?_)
            rw [← then_step]
            iterate 2 (try simp only [then_step]; try simp [go_sem, ei, em])
            refine ⟨by omega, by omega, ⟨x0, i + 2, y, t, l0, s', _, k', by rw [show ((i + 2 : Nat) : Int) = (i : Int) + 1 + 1 by omega], X', by omega, by omega, by simp; omega, rd_next all le (i' := i + 2) (by omega) (fun m => by rw [rdA, if_neg (by omega), if_neg q34, if_neg (fun h => h q92), if_neg (by omega), if_pos (.inl c34), c34])⟩, ?_⟩
            simp only [rMeas, List.getD_cons_succ, List.getD_cons_zero]
            omega
          by_cases c92 : bt s (i + 1) = 92
          · iterate 16 (try simp only [then_step]; try simp [go_sem, ep, hz, hz3, hz4, p1, p2, q34, q92, e1, c92])
            refine ⟨by omega, by omega, by omega, ?_⟩
            rw [th_mk]
            intro b hb
            refine by_app X (by omega) hb (c := 92) (by omega) (by omega) rfl rfl (by simp [go_sem, e1, c92]) (fun s' k' X' => ?_)
            rw [← then_step]
            iterate 2 (try simp only [then_step]; try simp [go_sem, ei, em])
            refine ⟨by omega, by omega, ⟨x0, i + 2, y, t, l0, s', _, k', by rw [show ((i + 2 : Nat) : Int) = (i : Int) + 1 + 1 by omega], X', by omega, by omega, by simp; omega, rd_next all le (i' := i + 2) (by omega) (fun m => by rw [rdA, if_neg (by omega), if_neg q34, if_neg (fun h => h q92), if_neg (by omega), if_pos (.inr c92), c92])⟩, ?_⟩
            simp only [rMeas, List.getD_cons_succ, List.getD_cons_zero]
            omega
          by_cases c110 : bt s (i + 1) = 110
          · iterate 16 (try simp only [then_step]; try simp [go_sem, ep, hz, hz3, hz4, p1, p2, q34, q92, e1, c110])
            refine ⟨by omega, by omega, by omega, ?_⟩
            rw [th_mk]
            intro b hb
            refine by_app X (by omega) hb (c := 10) (by omega) (by omega) rfl rfl rfl (fun s' k' X' => ?_)
            rw [← then_step]
            iterate 2 (try simp only [then_step]; try simp [go_sem, ei, em])
            refine ⟨by omega, by omega, ⟨x0, i + 2, y, t, l0, s', _, k', by rw [show ((i + 2 : Nat) : Int) = (i : Int) + 1 + 1 by omega], X', by omega, by omega, by simp; omega, rd_next all le (i' := i + 2) (by omega) (fun m => by rw [rdA, if_neg (by omega), if_neg q34, if_neg (fun h => h q92), if_neg (by omega), if_neg (by omega), if_pos c110]; rfl)⟩, ?_⟩
            simp only [rMeas, List.getD_cons_succ, List.getD_cons_zero]
            omega
          by_cases c116 : bt s (i + 1) = 116
          · iterate 16 (try simp only [then_step]; try simp [go_sem, ep, hz, hz3, hz4, p1, p2, q34, q92, e1, c116])
            refine ⟨by omega, by omega, by omega, ?_⟩
            rw [th_mk]
            intro b hb
            refine by_app X (by omega) hb (c := 9) (by omega) (by omega) rfl rfl rfl (fun s' k' X' => ?_)
            rw [← then_step]
            iterate 2 (try simp only [then_step]; try simp [go_sem, ei, em])
            refine ⟨by omega, by omega, ⟨x0, i + 2, y, t, l0, s', _, k', by rw [show ((i + 2 : Nat) : Int) = (i : Int) + 1 + 1 by omega], X', by omega, by omega, by simp; omega, rd_next all le (i' := i + 2) (by omega) (fun m => by rw [rdA, if_neg (by omega), if_neg q34, if_neg (fun h => h q92), if_neg (by omega), if_neg (by omega), if_neg c110, if_pos c116]; rfl)⟩, ?_⟩
            simp only [rMeas, List.getD_cons_succ, List.getD_cons_zero]
            omega
          by_cases c120 : bt s (i + 1) = 120
          · iterate 16 (try simp only [then_step]; try simp [go_sem, ep, hz, hz3, hz4, p1, p2, q34, q92, e1, c120])
            refine ⟨by omega, by omega, by omega, ?_⟩
            refine loop_in ?_ ?_
            · rw [ei]
              exact ⟨x0, i, x0, 1, y, y, t, t, l0, sl, acc, hh0, by simp [go_sem, Ctx.bare, Got.den], X, lo, by omega, cnt, all, Nat.le_refl _, by omega, by omega, by omega⟩
            · rintro ⟨xi, xb, xs, xv, xl, xp⟩ h' M' hc hinv hm hM1
              rw [ei] at hinv
              rw [em] at hm
              obtain ⟨x0', i2, x2, k, y1, y2, t1, t2, l1, sl2, acc2, hh2, hC, X2, lo2, a1, cnt2, all2, k1, k3, a4, a5⟩ := hinv
              simp [Ctx.push, Ctx.heap, Ctx.bare] at hC
              obtain ⟨⟨rfl, hii, rfl⟩, ⟨rfl, rfl⟩, ⟨rfl, rfl⟩, rfl, ⟨rfl, rfl, rfl⟩, rfl, rfl⟩ := hC
              obtain rfl : i2 = i := by omega
              have hm' : M' 1 = ((3 : Int) - k).toNat := hm
              have hM0 : M' 0 = M 0 := hM1 0 (by decide)
              clear hm hM1 hc
              have hno : ¬ (i2 + 3 < s.length ∧ 0 ≤ hx (bt s (i2 + 2)) ∧ 0 ≤ hx (bt s (i2 + 3))) → rdA s.length s 1 [] = none := fun hn => rd_stop all2 le fun m => by
                rw [rdA, if_neg (by omega), if_neg q34, if_neg (fun h => h q92), if_neg (by omega), if_neg (by omega), if_neg (by omega), if_neg (by omega), if_pos c120, if_neg hn]
              have hx15 := hx_hi (bt s (i2 + 2))
              have hx16 := hx_hi (bt s (i2 + 3))
              rw [← then_step]
              by_cases hk : k ≤ 2
              · have hkz : (k : Int) ≤ 2 := by omega
                have e2 : ((i2 : Int) + 1 + k).toNat = i2 + 1 + k := by omega
                have hjd := bt_bd s (i2 + 1 + k)
                by_cases hjl : s.length ≤ i2 + 1 + k
                · have hjz : (s.length : Int) ≤ (i2 : Int) + 1 + k := by omega
                  have hjz' : ¬ (i2 : Int) + 1 + k < s.length := by omega
                  iterate 12 (try simp only [then_step]; try simp [go_sem, ep, hkz, hjz, hjz'])
                  exact ⟨by omega, by omega, by omega, by omega, no X2.kept (hno (by omega)) _ _⟩
                have hjz : ¬ (s.length : Int) ≤ (i2 : Int) + 1 + k := by omega
                have hjz3 : (i2 : Int) + 1 + k < s.length := by omega
                by_cases hneg : hx (bt s (i2 + 1 + k)) < 0
                · iterate 12 (try simp only [then_step]; try simp [go_sem, ep, s1, ctRValue, hkz, hjz, hjz3, e2, hjd.1, hjd.2, hneg])
                  refine ⟨by omega, by omega, by omega, by omega, by omega, by omega, by omega, no X2.kept (hno ?_) _ _⟩
                  rintro ⟨_, g1, g2⟩
                  rcases (by omega : k = 1 ∨ k = 2) with rfl | rfl
                  · exact absurd hneg (by rw [show i2 + 1 + 1 = i2 + 2 by omega]; omega)
                  · exact absurd hneg (by rw [show i2 + 1 + 2 = i2 + 3 by omega]; omega)
                · iterate 12 (try simp only [then_step]; try simp [go_sem, ep, s1, ctRValue, hkz, hjz, hjz3, e2, hjd.1, hjd.2, hneg])
                  refine ⟨by omega, by omega, by omega, by omega, by omega, by omega, by omega, ?_, ?_⟩
                  · rw [ei]
                    refine ⟨x0, i2, x2, k + 1, y, y2, t, t2, l0, sl, acc2, h', by simp, X2, lo2, a1, cnt2, all2, by omega, by omega, fun h2 => ?_, fun h3 => ?_⟩
                    · by_cases e : k = 1
                      · subst e
                        rw [show i2 + 1 + 1 = i2 + 2 by omega] at hneg
                        exact ⟨by omega, by omega⟩
                      · exact a4 (by omega)
                    · obtain rfl : k = 2 := by omega
                      rw [show i2 + 1 + 2 = i2 + 3 by omega] at hneg
                      exact ⟨by omega, by omega⟩
                  · rw [em]
                    simp only [rMeas, List.getD_cons_succ, List.getD_cons_zero]
                    omega
              · have hkz : ¬ (k : Int) ≤ 2 := by omega
                obtain ⟨g1, g2⟩ := a4 (by omega)
                obtain ⟨g3, g4⟩ := a5 (by omega)
                have e3 : ((i2 : Int) + 1 + 1).toNat = i2 + 2 := by omega
                have e4 : ((i2 : Int) + 1 + 2).toNat = i2 + 3 := by omega
                have b3 := bt_bd s (i2 + 2)
                have b4 := bt_bd s (i2 + 3)
                have z3 : (i2 : Int) + 1 + 1 < s.length := by omega
                have z4 : (i2 : Int) + 1 + 2 < s.length := by omega
                iterate 12 (try simp only [then_step]; try simp [go_sem, ep, s1, ctRValue, hkz, e3, e4, z3, z4, b3.1, b3.2, b4.1, b4.2])
                refine ⟨by omega, by omega, by omega, by omega, by omega, by omega, by omega, by omega, by omega, by omega, ?_⟩
                have hw : IntKind.u8.wrap (hx (bt s (i2 + 2)) * 16 + hx (bt s (i2 + 3))) = 16 * hx (bt s (i2 + 2)) + hx (bt s (i2 + 3)) := by rw [IntKind.wrap_u8]; omega
                rw [th_mk]
                intro b hb
                refine by_app X2 (by omega) hb (c := 16 * hx (bt s (i2 + 2)) + hx (bt s (i2 + 3))) (by omega) (by omega) rfl rfl (by simp [go_sem, hw]) (fun s' k' X' => ?_)
                rw [← then_step]
                iterate 4 (try simp only [then_step]; try simp [go_sem, ei, em])
                refine ⟨by omega, by omega, by omega, by omega, ⟨x2, i2 + 4, y2, t2, l0, s', _, k', by rw [show ((i2 + 4 : Nat) : Int) = (i2 : Int) + 1 + 2 + 1 by omega], X', by omega, by omega, by simp; omega, rd_next all2 le (i' := i2 + 4) (by omega) (fun m => by
                  rw [rdA, if_neg (by omega), if_neg q34, if_neg (fun h => h q92), if_neg (by omega), if_neg (by omega), if_neg (by omega), if_neg (by omega), if_pos c120, if_pos ⟨g3, g2, g4⟩])⟩, ?_⟩
                simp only [rMeas, List.getD_cons_succ, List.getD_cons_zero]
                omega
          · iterate 16 (try simp only [then_step]; try simp [go_sem, ep, hz, hz3, hz4, p1, p2, q34, q92, e1, c34, c92, c110, c116, c120])
            refine ⟨by omega, by omega, by omega, ?_⟩
            exact no X.kept (rd_stop all le fun m => by rw [rdA, if_neg (by omega), if_neg q34, if_neg (fun h => h q92), if_neg (by omega), if_neg (by omega), if_neg c110, if_neg c116, if_neg c120]) _ _
        · iterate 6 (try simp only [then_step]; try simp [go_sem, ep, hz, p1, p2, q34, q92])
          rw [th_mk]
          intro b hb
          refine by_app X (by omega) hb (c := bt s i) hibd.1 hibd.2 rfl rfl rfl (fun s' k' X' => ?_)
          rw [← then_step]
          iterate 2 (try simp only [then_step]; try simp [go_sem, ei, em])
          refine ⟨by omega, by omega, ⟨x0, i + 1, y, t, l0, s', _, k', by simp, X', by omega, by omega, by simp; omega, rd_next all le (Nat.lt_succ_self i) (fun m => by rw [rdA, if_neg (by omega), if_neg q34, if_pos q92])⟩, ?_⟩
          simp only [rMeas, List.getD_cons_succ, List.getD_cons_zero]
          omega
    · rw [if_pos (.inr h34)] at hφ
      iterate 3 (try simp only [then_step]; try simp [go_sem, ep, hs0, hposz, hnz, h34])
      exact ⟨hpos, h, fun _ _ h => h, hφ _ _⟩
end Go.Proofs.YtogalfbemmcaaaaDoor
