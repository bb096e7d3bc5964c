/- The law hindcastlaw06.ParsePlaces: the statement, out of its walk: it answers true whatever it is handed, and what it was handed reads as before. (Texts joined: LexY, LexX, LexZ, LexZA, LexZB, ParX, Card, Laid, LawPlaces.) -/
import Derived.Test.YthlakehilhpojaaDoorPlg
namespace Go.Proofs.YthlakehilhpojaaDoor
open Go.RowKit
attribute [local go_sem] says_tt says_ff th_need th_ite th_call th_callK th_load th_store says_ret says_again BE.den IE.den SE.den LE.den AE.den CE.den PE.den VE.den KV.val Got.den Got.cnt exI allI exL allL Ctx.push Ctx.heap Ctx.cut Ctx.bare Ctx.mark Inc.blank List.getD_cons_zero List.getD_cons_succ List.cons_append List.nil_append List.append_nil List.map_cons List.map_nil List.replicate_zero List.replicate_succ specOf ltB_t leB_t ltB_f leB_f slc_val slc_nil slc_inj pt_val pt_nil hle_noHeap hle_refl hread_set hwrite_set set_same set_set noHeap_at B_inj ones_nil and_assoc
def rInv (h : Hp) (s : List UInt8) : Nat → Ctx → Prop
  | 0, C => ∃ x0 i y t l0 sl acc hh, C = ⟨[x0, (i : Nat)], [y], [s, t], [], [l0, sl], [], hh, noM⟩ ∧ BI h sl acc hh ∧ 1 ≤ i ∧ i ≤ s.length ∧ acc.length ≤ i ∧ ∃ m, s.length < m + i ∧ rdA s.length s 1 [] = rdA m s i acc
  | _ + 1, C => ∃ x0 i x2 k y y' t t' l0 sl acc hh, C = ⟨[x0, (i : Nat), x2, (k : Nat)], [y, y'], [s, t, t'], [], [l0, sl], [], hh, noM⟩ ∧ BI h sl acc hh ∧ 1 ≤ i ∧ i + 1 < s.length ∧ acc.length ≤ i ∧ (∃ m, s.length < m + i ∧ rdA s.length s 1 [] = rdA m s i acc) ∧
      1 ≤ k ∧ k ≤ 3 ∧ (2 ≤ k → i + 2 < s.length ∧ 0 ≤ hx (bt s (i + 2))) ∧ (3 ≤ k → i + 3 < s.length ∧ 0 ≤ hx (bt s (i + 3)))
def rMeas (s : List UInt8) : Nat → Ctx → Nat
  | 0, C => ((s.length : Int) - C.i.getD 1 0).toNat
  | _ + 1, C => (3 - C.i.getD 3 0).toNat
theorem rd_stop {s acc : List UInt8} {i : Nat} (h : ∃ m, s.length < m + i ∧ rdA s.length s 1 [] = rdA m s i acc) (hi : i ≤ s.length) {r : Option (List UInt8 × Nat)} (hs : ∀ m, rdA (m + 1) s i acc = r) : rdA s.length s 1 [] = r := by
  obtain ⟨m, hm, he⟩ := h
  obtain ⟨m', rfl⟩ : ∃ m', m = m' + 1 := ⟨m - 1, by omega⟩
  rw [he, hs]
theorem rd_next {s acc acc' : List UInt8} {i i' : Nat} (h : ∃ m, s.length < m + i ∧ rdA s.length s 1 [] = rdA m s i acc) (hi : i ≤ s.length) (hlt : i < i') (hs : ∀ m, rdA (m + 1) s i acc = rdA m s i' acc') : ∃ m, s.length < m + i' ∧ rdA s.length s 1 [] = rdA m s i' acc' := by
  obtain ⟨m, hm, he⟩ := h
  obtain ⟨m', rfl⟩ : ∃ m', m = m' + 1 := ⟨m - 1, by omega⟩
  exact ⟨m', by omega, by rw [he, hs]⟩
set_option maxRecDepth 100000 in
set_option maxHeartbeats 8000000 in
def ctRRead : Ct Tryd.prog where
  f := 29
  spec := fun args h φ => ∃ s, args = [.string (B s)] ∧ s.length ≤ 100000 ∧
    (match rdq s with
      | some (t, e) => φ (.tuple #[.string (B t), .int .i64 (e : Nat), .bool true]) h
      | none => ∀ t n, φ (.tuple #[.string (B t), .int .i64 n, .bool false]) h)
  ok := by
    rintro args h φ w ⟨s, rfl, hlen, hφ⟩ hH
    refine ct_forget (by_fm Tryd.func29 gen_rread ps_rread [ctRValue] (fun v k => ∃ k', HLe k' k ∧ φ v k') (rInv h s) (rMeas s) ⟨[], [], [s], [], [], [], h, noM⟩ ⟨rfl, rfl, rfl, rfl, rfl, rfl⟩ ones_nil ?_ w hH rfl)
    generalize hE : (⟨specOf _, _, _, _⟩ : Env) = E
    have s1 : E.spec 49 = ctRValue.spec := by rw [← hE]; rfl
    have ep : E.post = fun v k => ∃ k', HLe k' k ∧ φ v k' := by rw [← hE]
    have ei : E.inv = rInv h s := by rw [← hE]
    have em : E.meas = rMeas s := by rw [← hE]
    clear hE
    unfold rdq at hφ
    have no : ∀ {hh}, HLe h hh → rdA s.length s 1 [] = none → ∀ t n, ∃ k', HLe k' hh ∧ φ (.tuple #[.string (B t), .int .i64 n, .bool false]) k' := fun hle hr t n => by
      refine ⟨h, hle, ?_⟩
      rw [hr] at hφ
      split at hφ
      · rename_i heq; split at heq <;> cases heq
      · exact hφ t n
    rw [← then_step]; unfold fm_rread
    by_cases hs0 : s = []
    · subst hs0
      rw [if_pos (.inl rfl)] at hφ
      iterate 3 (try simp only [then_step]; try simp [go_sem, ep])
      exact ⟨h, fun _ _ h => h, hφ _ _⟩
    have hpos : 0 < s.length := List.length_pos_iff.2 hs0
    have hposz : (0 : Int) < s.length := by omega
    have hnz : ¬ (s.length : Int) = 0 := by omega
    by_cases h34 : bt s 0 = 34
    · rw [if_neg (by omega)] at hφ
      iterate 3 (try simp only [then_step]; try simp [go_sem, hs0, h34])
      refine ⟨hpos, ?_⟩
      rw [th_mk]
      intro b0 hb0
      refine loop_intro ?_ ?_
      · rw [ei]
        exact ⟨0, 1, false, [], ⟨some (b0, 0), 0, 0⟩, ⟨some (b0, 0), 0, 0⟩, [], h.set b0 ⟨[], 5⟩, rfl, ⟨.inr ⟨b0, ⟨[], 5⟩, rfl, set_same _ _ _, rfl, rfl, Nat.le_refl _, Nat.zero_le _, rfl⟩, rfl, by simp, fun z hz => by cases hz; exact hb0, hle_set hb0 _⟩, Nat.le_refl _, hpos, Nat.zero_le _, s.length, by omega, rfl⟩
      · rw [ei, em]
        rintro i' bb ss v ll pp hh0 M ⟨x0, i, y, t, l0, sl, acc, hh, hC, X, lo, le, cnt, all⟩ hM
        cases hC
        have hM' : M 0 = ((s.length : Int) - i).toNat := hM
        clear hM hb0
        have hibd := bt_bd s i
        rw [← then_step]
        by_cases hil : i = s.length
        · have hz : ¬ (i : Int) < s.length := by omega
          iterate 2 (try simp only [then_step]; try simp [go_sem, ep, hz])
          exact no X.kept (rd_stop all le fun m => by rw [rdA, if_pos (.inl (by omega))]) _ _
        have hlt : i < s.length := by omega
        have hz : (i : Int) < s.length := by omega
        by_cases hpr : bt s i < 32 ∨ 126 < bt s i
        · iterate 4 (try simp only [then_step]; try simp [go_sem, ep, hz, hpr])
          exact no X.kept (rd_stop all le fun m => by rw [rdA, if_pos (.inr hpr)]) _ _
        have p1 : ¬ bt s i < 32 := by omega
        have p2 : ¬ 126 < bt s i := by omega
        by_cases q34 : bt s i = 34
        · iterate 4 (try simp only [then_step]; try simp [go_sem, hz, q34])
          have hr : rdA s.length s 1 [] = some (acc, i + 1) := rd_stop all le fun m => by rw [rdA, if_neg (by omega), if_pos q34]
          rw [hr] at hφ
          rw [then_step, th_str]
          refine ⟨acc, X.bytes, ?_⟩
          iterate 2 (try simp only [then_step]; try simp [go_sem, ep])
          exact ⟨by omega, by omega, h, X.kept, by simpa using hφ⟩
        by_cases q92 : bt s i = 92
        · have e1 : ((i : Int) + 1).toNat = i + 1 := by omega
          have hibd1 := bt_bd s (i + 1)
          by_cases hi1 : i + 1 = s.length
          · have hz1 : (s.length : Int) ≤ (i : Int) + 1 := by omega
            iterate 10 (try simp only [then_step]; try simp [go_sem, ep, hz, q92, hz1])
            exact ⟨by omega, by omega, no X.kept (rd_stop all le fun m => by rw [rdA, if_neg (by omega), if_neg q34, if_neg (fun h => h q92), if_pos (by omega)]) _ _⟩
          have hz3 : (i : Int) + 1 < s.length := by omega
          have hz4 : ¬ (s.length : Int) ≤ (i : Int) + 1 := by omega
          by_cases c34 : bt s (i + 1) = 34
          · iterate 16 (try simp only [then_step]; try simp [go_sem, hz, hz3, hz4, q92, e1, c34])
            refine ⟨by omega, by omega, by omega, ?_⟩
            rw [th_mk]
            intro b hb
            refine by_app X (by omega) hb (c := 34) (by omega) (by omega) rfl rfl (by simp [go_sem, e1, c34]) (fun s' k' X' => ?_)
            rw [← then_step]
            iterate 2 (try simp only [then_step]; try simp [go_sem, ei, em])
            refine ⟨by omega, by omega, ⟨x0, i + 2, y, t, l0, s', _, k', by rw [show ((i + 2 : Nat) : Int) = (i : Int) + 1 + 1 by omega], X', by omega, by omega, by simp; omega, rd_next all le (i' := i + 2) (by omega) (fun m => by rw [rdA, if_neg (by omega), if_neg q34, if_neg (fun h => h q92), if_neg (by omega), if_pos (.inl c34), c34])⟩, ?_⟩
            simp only [rMeas, List.getD_cons_succ, List.getD_cons_zero]
            omega
          by_cases c92 : bt s (i + 1) = 92
          · iterate 16 (try simp only [then_step]; try simp [go_sem, hz, hz3, hz4, q92, e1, c92])
            refine ⟨by omega, by omega, by omega, ?_⟩
            rw [th_mk]
            intro b hb
            refine by_app X (by omega) hb (c := 92) (by omega) (by omega) rfl rfl (by simp [go_sem, e1, c92]) (fun s' k' X' => ?_)
            rw [← then_step]
            iterate 2 (try simp only [then_step]; try simp [go_sem, ei, em])
            refine ⟨by omega, by omega, ⟨x0, i + 2, y, t, l0, s', _, k', by rw [show ((i + 2 : Nat) : Int) = (i : Int) + 1 + 1 by omega], X', by omega, by omega, by simp; omega, rd_next all le (i' := i + 2) (by omega) (fun m => by rw [rdA, if_neg (by omega), if_neg q34, if_neg (fun h => h q92), if_neg (by omega), if_pos (.inr c92), c92])⟩, ?_⟩
            simp only [rMeas, List.getD_cons_succ, List.getD_cons_zero]
            omega
          by_cases c110 : bt s (i + 1) = 110
          · iterate 16 (try simp only [then_step]; try simp [go_sem, hz, hz3, hz4, q92, e1, c110])
            refine ⟨by omega, by omega, by omega, ?_⟩
            rw [th_mk]
            intro b hb
            refine by_app X (by omega) hb (c := 10) (by omega) (by omega) rfl rfl rfl (fun s' k' X' => ?_)
            rw [← then_step]
            iterate 2 (try simp only [then_step]; try simp [go_sem, ei, em])
            refine ⟨by omega, by omega, ⟨x0, i + 2, y, t, l0, s', _, k', by rw [show ((i + 2 : Nat) : Int) = (i : Int) + 1 + 1 by omega], X', by omega, by omega, by simp; omega, rd_next all le (i' := i + 2) (by omega) (fun m => by rw [rdA, if_neg (by omega), if_neg q34, if_neg (fun h => h q92), if_neg (by omega), if_neg (by omega), if_pos c110]; rfl)⟩, ?_⟩
            simp only [rMeas, List.getD_cons_succ, List.getD_cons_zero]
            omega
          by_cases c116 : bt s (i + 1) = 116
          · iterate 16 (try simp only [then_step]; try simp [go_sem, hz, hz3, hz4, q92, e1, c116])
            refine ⟨by omega, by omega, by omega, ?_⟩
            rw [th_mk]
            intro b hb
            refine by_app X (by omega) hb (c := 9) (by omega) (by omega) rfl rfl rfl (fun s' k' X' => ?_)
            rw [← then_step]
            iterate 2 (try simp only [then_step]; try simp [go_sem, ei, em])
            refine ⟨by omega, by omega, ⟨x0, i + 2, y, t, l0, s', _, k', by rw [show ((i + 2 : Nat) : Int) = (i : Int) + 1 + 1 by omega], X', by omega, by omega, by simp; omega, rd_next all le (i' := i + 2) (by omega) (fun m => by rw [rdA, if_neg (by omega), if_neg q34, if_neg (fun h => h q92), if_neg (by omega), if_neg (by omega), if_neg c110, if_pos c116]; rfl)⟩, ?_⟩
            simp only [rMeas, List.getD_cons_succ, List.getD_cons_zero]
            omega
          by_cases c120 : bt s (i + 1) = 120
          · iterate 16 (try simp only [then_step]; try simp [go_sem, hz, hz3, hz4, q92, e1, c120])
            refine ⟨by omega, by omega, by omega, ?_⟩
            refine loop_in ?_ ?_
            · rw [ei]
              exact ⟨x0, i, x0, 1, y, y, t, t, l0, sl, acc, hh0, by simp [go_sem, Ctx.bare, Got.den], X, lo, by omega, cnt, all, Nat.le_refl _, by omega, by omega, by omega⟩
            · rintro ⟨xi, xb, xs, xv, xl, xp⟩ h' M' hc hinv hm hM1
              rw [ei] at hinv
              rw [em] at hm
              obtain ⟨x0', i2, x2, k, y1, y2, t1, t2, l1, sl2, acc2, hh2, hC, X2, lo2, a1, cnt2, all2, k1, k3, a4, a5⟩ := hinv
              simp [Ctx.push, Ctx.heap, Ctx.bare] at hC
              obtain ⟨⟨rfl, hii, rfl⟩, ⟨rfl, rfl⟩, ⟨rfl, rfl⟩, rfl, ⟨rfl, rfl, rfl⟩, rfl, rfl⟩ := hC
              obtain rfl : i2 = i := by omega
              have hm' : M' 1 = ((3 : Int) - k).toNat := hm
              have hM0 : M' 0 = M 0 := hM1 0 (by decide)
              clear hm hM1 hc
              have hno : ¬ (i2 + 3 < s.length ∧ 0 ≤ hx (bt s (i2 + 2)) ∧ 0 ≤ hx (bt s (i2 + 3))) → rdA s.length s 1 [] = none := fun hn => rd_stop all2 le fun m => by
                rw [rdA, if_neg (by omega), if_neg q34, if_neg (fun h => h q92), if_neg (by omega), if_neg (by omega), if_neg (by omega), if_neg (by omega), if_pos c120, if_neg hn]
              have hx15 := hx_hi (bt s (i2 + 2))
              have hx16 := hx_hi (bt s (i2 + 3))
              rw [← then_step]
              by_cases hk : k ≤ 2
              · have hkz : (k : Int) ≤ 2 := by omega
                have e2 : ((i2 : Int) + 1 + k).toNat = i2 + 1 + k := by omega
                have hjd := bt_bd s (i2 + 1 + k)
                by_cases hjl : s.length ≤ i2 + 1 + k
                · have hjz : (s.length : Int) ≤ (i2 : Int) + 1 + k := by omega
                  have hjz' : ¬ (i2 : Int) + 1 + k < s.length := by omega
                  iterate 12 (try simp only [then_step]; try simp [go_sem, ep, hkz, hjz, hjz'])
                  exact ⟨by omega, by omega, by omega, by omega, no X2.kept (hno (by omega)) _ _⟩
                have hjz : ¬ (s.length : Int) ≤ (i2 : Int) + 1 + k := by omega
                have hjz3 : (i2 : Int) + 1 + k < s.length := by omega
                by_cases hneg : hx (bt s (i2 + 1 + k)) < 0
                · iterate 12 (try simp only [then_step]; try simp [go_sem, ep, s1, ctRValue, hkz, hjz, hjz3, e2, hjd.1, hjd.2, hneg])
                  refine ⟨by omega, by omega, by omega, by omega, by omega, by omega, by omega, no X2.kept (hno ?_) _ _⟩
                  rintro ⟨_, g1, g2⟩
                  rcases (by omega : k = 1 ∨ k = 2) with rfl | rfl
                  · exact absurd hneg (by rw [show i2 + 1 + 1 = i2 + 2 by omega]; omega)
                  · exact absurd hneg (by rw [show i2 + 1 + 2 = i2 + 3 by omega]; omega)
                · iterate 12 (try simp only [then_step]; try simp [go_sem, s1, ctRValue, hkz, hjz, hjz3, e2, hjd.1, hjd.2, hneg])
                  refine ⟨by omega, by omega, by omega, by omega, by omega, by omega, by omega, ?_, ?_⟩
                  · rw [ei]
                    refine ⟨x0, i2, x2, k + 1, y, y2, t, t2, l0, sl, acc2, h', by simp, X2, lo2, a1, cnt2, all2, by omega, by omega, fun h2 => ?_, fun h3 => ?_⟩
                    · by_cases e : k = 1
                      · subst e
                        rw [show i2 + 1 + 1 = i2 + 2 by omega] at hneg
                        exact ⟨by omega, by omega⟩
                      · exact a4 (by omega)
                    · obtain rfl : k = 2 := by omega
                      rw [show i2 + 1 + 2 = i2 + 3 by omega] at hneg
                      exact ⟨by omega, by omega⟩
                  · rw [em]
                    simp only [rMeas, List.getD_cons_succ, List.getD_cons_zero]
                    omega
              · have hkz : ¬ (k : Int) ≤ 2 := by omega
                obtain ⟨g1, g2⟩ := a4 (by omega)
                obtain ⟨g3, g4⟩ := a5 (by omega)
                have e3 : ((i2 : Int) + 1 + 1).toNat = i2 + 2 := by omega
                have e4 : ((i2 : Int) + 1 + 2).toNat = i2 + 3 := by omega
                have b3 := bt_bd s (i2 + 2)
                have b4 := bt_bd s (i2 + 3)
                have z3 : (i2 : Int) + 1 + 1 < s.length := by omega
                have z4 : (i2 : Int) + 1 + 2 < s.length := by omega
                iterate 12 (try simp only [then_step]; try simp [go_sem, s1, ctRValue, hkz, e3, e4, z3, z4, b3.1, b3.2, b4.1, b4.2])
                refine ⟨by omega, by omega, by omega, by omega, by omega, by omega, by omega, by omega, by omega, by omega, ?_⟩
                have hw : IntKind.u8.wrap (hx (bt s (i2 + 2)) * 16 + hx (bt s (i2 + 3))) = 16 * hx (bt s (i2 + 2)) + hx (bt s (i2 + 3)) := by rw [IntKind.wrap_u8]; omega
                rw [th_mk]
                intro b hb
                refine by_app X2 (by omega) hb (c := 16 * hx (bt s (i2 + 2)) + hx (bt s (i2 + 3))) (by omega) (by omega) rfl rfl (by simp [go_sem, hw]) (fun s' k' X' => ?_)
                rw [← then_step]
                iterate 4 (try simp only [then_step]; try simp [go_sem, ei, em])
                refine ⟨by omega, by omega, by omega, by omega, ⟨x2, i2 + 4, y2, t2, l0, s', _, k', by rw [show ((i2 + 4 : Nat) : Int) = (i2 : Int) + 1 + 2 + 1 by omega], X', by omega, by omega, by simp; omega, rd_next all2 le (i' := i2 + 4) (by omega) (fun m => by
                  rw [rdA, if_neg (by omega), if_neg q34, if_neg (fun h => h q92), if_neg (by omega), if_neg (by omega), if_neg (by omega), if_neg (by omega), if_pos c120, if_pos ⟨g3, g2, g4⟩])⟩, ?_⟩
                simp only [rMeas, List.getD_cons_succ, List.getD_cons_zero]
                omega
          · iterate 16 (try simp only [then_step]; try simp [go_sem, ep, hz, hz3, hz4, q92, e1, c34, c92, c110, c116, c120])
            refine ⟨by omega, by omega, by omega, ?_⟩
            exact no X.kept (rd_stop all le fun m => by rw [rdA, if_neg (by omega), if_neg q34, if_neg (fun h => h q92), if_neg (by omega), if_neg (by omega), if_neg c110, if_neg c116, if_neg c120]) _ _
        · iterate 6 (try simp only [then_step]; try simp [go_sem, hz, p1, p2, q34, q92])
          rw [th_mk]
          intro b hb
          refine by_app X (by omega) hb (c := bt s i) hibd.1 hibd.2 rfl rfl rfl (fun s' k' X' => ?_)
          rw [← then_step]
          iterate 2 (try simp only [then_step]; try simp [go_sem, ei, em])
          refine ⟨by omega, by omega, ⟨x0, i + 1, y, t, l0, s', _, k', by simp, X', by omega, by omega, by simp; omega, rd_next all le (Nat.lt_succ_self i) (fun m => by rw [rdA, if_neg (by omega), if_neg q34, if_pos q92])⟩, ?_⟩
          simp only [rMeas, List.getD_cons_succ, List.getD_cons_zero]
          omega
    · rw [if_pos (.inr h34)] at hφ
      iterate 3 (try simp only [then_step]; try simp [go_sem, ep, hs0, h34])
      exact ⟨hpos, h, fun _ _ h => h, hφ _ _⟩
end Go.Proofs.YthlakehilhpojaaDoor
namespace Go.Proofs.YthlakehilhpojaaDoor
open Go.RowKit
attribute [local go_sem] says_tt says_ff th_need th_ite th_call th_callK th_load th_store th_mk th_new th_mks th_str says_ret says_again says_app BE.den IE.den SE.den LE.den AE.den CE.den PE.den VE.den KV.val Got.den Got.cnt exI allI exL allL Ctx.push Ctx.heap Ctx.cut Ctx.bare Ctx.mark Inc.blank List.getD_cons_zero List.getD_cons_succ List.cons_append List.nil_append List.append_nil List.map_cons List.map_nil List.replicate_zero List.replicate_succ specOf ltB_t leB_t ltB_f leB_f slc_val slc_nil slc_inj pt_val pt_nil hle_noHeap hle_refl hread_set hwrite_set set_same set_set noHeap_at B_inj ones_nil and_assoc
theorem sub_cons (s : List UInt8) {i j : Nat} (h : i < j) (hj : j ≤ s.length) : sub s i j = s[i] :: sub s (i + 1) j := by
  unfold sub
  have hl : i < (s.take j).length := by rw [List.length_take]; omega
  rw [List.drop_eq_getElem_cons hl, List.getElem_take]
theorem strip_more {s : List UInt8} {i k : Nat} (h : i + 1 < k) (hk : k ≤ s.length) (h48 : bt s i = 48) : strip (sub s i k) = strip (sub s (i + 1) k) := by
  rw [sub_cons s (by omega) hk, sub_cons s h hk, strip, if_pos (by rw [bt_eq s i (by omega)] at h48; omega), ← sub_cons s h hk]
theorem strip_end {s : List UInt8} {i k : Nat} (h : i < k) (hk : k ≤ s.length) (hn : ¬ (i + 1 < k ∧ bt s i = 48)) : strip (sub s i k) = sub s i k := by
  by_cases h1 : i + 1 < k
  · have h48 : ¬ bt s i = 48 := fun e => hn ⟨h1, e⟩
    rw [sub_cons s h hk, sub_cons s h1 hk, strip, if_neg (by rw [bt_eq s i (by omega)] at h48; omega)]
  · obtain rfl : k = i + 1 := by omega
    rw [sub_cons s h hk, sub_same]; rfl
def nuInv (h : Hp) (s : List UInt8) (i0 : Nat) : Nat → Ctx → Prop
  | 0, C => ∃ k : Nat, C = ⟨[(i0 : Nat), (k : Nat)], [], [s], [], [], [], h, noM⟩ ∧ i0 ≤ k ∧ k ≤ s.length ∧ rn dgB s i0 = (k - i0) + rn dgB s k
  | _ + 1, C => ∃ (k e i : Nat) (x : Int), C = ⟨[(i0 : Nat), (k : Nat), x, (e : Nat), (i : Nat)], [], [s], [], [], [], h, noM⟩ ∧ i0 ≤ i ∧ i < k ∧ k ≤ s.length ∧ strip (sub s i0 k) = strip (sub s i k)
def nuMeas (s : List UInt8) : Nat → Ctx → Nat
  | 0, C => ((s.length : Int) - C.i.getD 1 0).toNat
  | _ + 1, C => ((s.length : Int) - C.i.getD 4 0).toNat
set_option maxRecDepth 100000 in
set_option maxHeartbeats 8000000 in
def ctRNumber : Ct Tryd.prog where
  f := 28
  spec := fun args h φ => ∃ s i0, args = [.string (B s), .int .i64 (i0 : Nat)] ∧ i0 < s.length ∧ s.length ≤ 100000 ∧ dgB (bt s i0) = true ∧
    (if (nm s i0).1 = 0 then φ (.tuple #[tkv (nm s i0).2.1 0 0 (nm s i0).2.2.1 [], .int .i64 ((nm s i0).2.2.2 : Nat), .int .i64 0]) h
      else ∀ kk, φ (.tuple #[tkv kk 0 0 0 [], .int .i64 0, .int .i64 (nm s i0).1]) h)
  ok := by
    rintro args h φ w ⟨s, i0, rfl, hi0, hlen, hdg, hφ⟩ hH
    refine by_fm Tryd.func28 gen_rnumber ps_rnumber [ctKind, ctRInner, ctRefParse] φ (nuInv h s i0) (nuMeas s) ⟨[(i0 : Nat)], [], [s], [], [], [], h, noM⟩ ⟨rfl, rfl, rfl, rfl, rfl, rfl⟩ ones_nil ?_ w hH rfl
    generalize hE : (⟨specOf _, _, _, _⟩ : Env) = E
    have s1 : E.spec 25 = ctKind.spec := by rw [← hE]; rfl
    have s2 : E.spec 26 = ctRInner.spec := by rw [← hE]; rfl
    have s3 : E.spec 48 = ctRefParse.spec := by rw [← hE]; rfl
    have ep : E.post = φ := by rw [← hE]
    have ei : E.inv = nuInv h s i0 := by rw [← hE]
    have em : E.meas = nuMeas s := by rw [← hE]
    clear hE
    unfold fm_rnumber
    refine loop_intro (by rw [ei]; exact ⟨i0, rfl, Nat.le_refl _, by omega, by omega⟩) ?_
    rw [ei, em]
    rintro i bb ss v ll pp hh M ⟨k, hC, h1, h2, h3⟩ hM
    cases hC
    have hM' : M 0 = ((s.length : Int) - k).toNat := hM
    clear hM
    rw [← then_step]
    by_cases hk : k < s.length ∧ dgB (bt s k) = true
    · obtain ⟨hk, hd⟩ := hk
      have hkz : (k : Int) < s.length := by omega
      have hkd : kdi (bt s k) = 3 := by simpa [dgB] using hd
      have hy := rn_yes hk hd
      iterate 5 (try simp only [then_step]; try simp [go_sem, ei, em, s1, ctKind, hkz, hkd])
      refine ⟨by omega, by omega, ⟨k + 1, by simp, by omega, by omega, by omega⟩, ?_⟩
      simp only [nuMeas, List.getD_cons_succ, List.getD_cons_zero]
      omega
    have hr0 : rn dgB s k = 0 := by
      by_cases hl : k < s.length
      · exact rn_no hl (by simpa [hl] using hk)
      · exact rn_end (by omega)
    have hyy := rn_yes (p := dgB) hi0 hdg
    have hkk : k = i0 + rn dgB s i0 := by omega
    have hik : i0 < k := by omega
    -- behind the digits
    have hrest : ∀ x : Int, (fm_rnumber.k.k.k.e).says E ⟨[(i0 : Nat), (k : Nat), x], [], [s], [], [], [], h, M⟩ := by
      intro x
      simp only [fm_rnumber, Fm.k, Fm.e]
      rw [th_call, if_pos (by rfl), s2]
      refine ⟨s, k, rfl, by omega, by omega, by omega, ?_⟩
      have hr := rn_le (p := inB) (s := s) (i := k) h2
      rw [Int.toNat_natCast]
      refine ⟨(fun h => by cases h), ?_⟩
      simp [go_sem]
      have hnm : nm s i0 = _ := rfl
      conv at hnm => rhs; unfold nm
      rw [← hkk] at hnm
      generalize hR : rn inB s k = R at *
      by_cases ha : R = 1 ∧ bt s k = 105
      · obtain ⟨rfl, h105⟩ := ha
        have hnm' : nm s i0 = nfin 4 8388607 (sub s i0 k) (k + 1) := by rw [hnm, if_neg (by decide), if_pos ⟨rfl, h105⟩]
        have hks : (k : Int) < s.length := by omega
        iterate 3 (try simp only [then_step]; try simp [go_sem, h105, hks])
        refine ⟨by omega, by omega, ?_⟩
        refine loop_in ?_ ?_
        · rw [ei]
          exact ⟨k, k + 1, i0, x, by simp [go_sem, Ctx.bare, Got.den], Nat.le_refl _, hik, h2, rfl⟩
        · rintro ⟨xi, xb, xs, xv, xl, xp⟩ h' M' hc hinv hm hM1
          rw [ei] at hinv
          rw [em] at hm
          obtain ⟨k2, e2, i2, x2, hC, b1, b2, b3, b4⟩ := hinv
          simp [Ctx.push, Ctx.heap, Ctx.bare] at hC
          obtain ⟨⟨hkq, rfl, heq, rfl⟩, rfl, rfl, rfl, rfl, rfl, rfl⟩ := hC
          obtain rfl : k2 = k := by omega
          have hm' : M' 1 = ((s.length : Int) - i2).toNat := hm
          clear hm hc
          rw [← then_step]
          by_cases hmore : i2 + 1 < k2 ∧ bt s i2 = 48
          · have c1 : (i2 : Int) < k2 - 1 := by omega
            have c2 : (i2 : Int) < s.length := by omega
            iterate 5 (try simp only [then_step]; try simp [go_sem, ei, em, c1, c2, hmore.2])
            (repeat' apply And.intro) <;> first | omega | exact ⟨k2, e2, i2 + 1, x, by simp [heq], by omega, by omega, b3, by rw [b4, strip_more (by omega) b3 hmore.2]⟩ | (simp only [nuMeas, List.getD_cons_succ, List.getD_cons_zero]; omega)
          · have hse := strip_end b2 b3 hmore
            have hnf : nm s i0 = nfin 4 8388607 (sub s i0 k2) (k2 + 1) := hnm'
            rw [hnf] at hφ
            unfold nfin at hφ
            rw [b4, hse] at hφ
            rw [then_step, th_need]
            refine ⟨by simp [go_sem]; omega, ?_⟩
            rw [then_step, th_need]
            refine ⟨by simp [go_sem]; omega, ?_⟩
            rw [then_step, th_ite, if_neg (by simp [go_sem]; omega)]
            rw [then_step, th_need]
            refine ⟨by simp [go_sem]; omega, ?_⟩
            rw [then_step, th_call, if_pos (by rfl), s3]
            refine ⟨sub s i2 k2, rfl, by rw [sub_len s b3]; omega, (fun h => by cases h), ?_⟩
            simp [go_sem]
            by_cases hm2 : (pv (sub s i2 k2)).2 = 0 ∧ (pv (sub s i2 k2)).1 ≤ 8388607
            · rw [if_pos hm2] at hφ
              rw [then_step, th_ite, if_neg (by simp [go_sem]; omega), then_step, says_ret, ep]
              simpa [go_sem, tkv, heq] using hφ
            · rw [if_neg hm2] at hφ
              rw [then_step, th_ite, if_pos (by simp [go_sem]; omega), then_step, says_ret, ep]
              have hb := hφ 4
              simpa [go_sem, tkv] using hb
      · by_cases hb : R = 0
        · subst hb
          have hnm' : nm s i0 = nfin 3 9223372036854775807 (sub s i0 k) k := by rw [hnm, if_pos rfl]
          have hkn : ¬ (k : Int) = k + 1 := by omega
          iterate 4 (try simp only [then_step]; try simp [go_sem, hkn])
          refine ⟨by omega, by omega, ?_⟩
          refine loop_in ?_ ?_
          · rw [ei]
            exact ⟨k, k, i0, x, by simp [go_sem, Ctx.bare, Got.den], Nat.le_refl _, hik, h2, rfl⟩
          · rintro ⟨xi, xb, xs, xv, xl, xp⟩ h' M' hc hinv hm hM1
            rw [ei] at hinv
            rw [em] at hm
            obtain ⟨k2, e2, i2, x2, hC, b1, b2, b3, b4⟩ := hinv
            simp [Ctx.push, Ctx.heap, Ctx.bare] at hC
            obtain ⟨⟨hkq, rfl, heq, rfl⟩, rfl, rfl, rfl, rfl, rfl, rfl⟩ := hC
            obtain rfl : k2 = k := by omega
            have hm' : M' 1 = ((s.length : Int) - i2).toNat := hm
            clear hm hc
            rw [← then_step]
            by_cases hmore : i2 + 1 < k2 ∧ bt s i2 = 48
            · have c1 : (i2 : Int) < k2 - 1 := by omega
              have c2 : (i2 : Int) < s.length := by omega
              iterate 5 (try simp only [then_step]; try simp [go_sem, ei, em, c1, c2, hmore.2])
              (repeat' apply And.intro) <;> first | omega | exact ⟨k2, e2, i2 + 1, x, by simp [heq], by omega, by omega, b3, by rw [b4, strip_more (by omega) b3 hmore.2]⟩ | (simp only [nuMeas, List.getD_cons_succ, List.getD_cons_zero]; omega)
            · have hse := strip_end b2 b3 hmore
              have hnf : nm s i0 = nfin 3 9223372036854775807 (sub s i0 k2) k2 := hnm'
              rw [hnf] at hφ
              unfold nfin at hφ
              rw [b4, hse] at hφ
              rw [then_step, th_need]
              refine ⟨by simp [go_sem]; omega, ?_⟩
              rw [then_step, th_need]
              refine ⟨by simp [go_sem]; omega, ?_⟩
              rw [then_step, th_ite, if_neg (by simp [go_sem]; omega)]
              rw [then_step, th_need]
              refine ⟨by simp [go_sem]; omega, ?_⟩
              rw [then_step, th_call, if_pos (by rfl), s3]
              refine ⟨sub s i2 k2, rfl, by rw [sub_len s b3]; omega, (fun h => by cases h), ?_⟩
              simp [go_sem]
              by_cases hm2 : (pv (sub s i2 k2)).2 = 0 ∧ (pv (sub s i2 k2)).1 ≤ 9223372036854775807
              · rw [if_pos hm2] at hφ
                rw [then_step, th_ite, if_neg (by simp [go_sem]; omega), then_step, says_ret, ep]
                simpa [go_sem, tkv, heq] using hφ
              · rw [if_neg hm2] at hφ
                rw [then_step, th_ite, if_pos (by simp [go_sem]; omega), then_step, says_ret, ep]
                have hb := hφ 3
                simpa [go_sem, tkv] using hb
        · have hnm' : nm s i0 = (4, 0, 0, 0) := by rw [hnm, if_neg hb, if_neg ha]
          rw [hnm', if_neg (by decide)] at hφ
          rw [then_step, th_need]
          refine ⟨by simp [go_sem]; omega, ?_⟩
          rw [then_step, th_need]
          refine ⟨by simp [go_sem]; omega, ?_⟩
          rw [then_step, th_ite, if_neg (by simp [go_sem]; omega)]
          rw [then_step, th_ite, if_pos (by simp [go_sem]; omega), then_step, says_ret, ep]
          have hb := hφ 3
          simpa [go_sem, tkv] using hb
    by_cases hl : k < s.length
    · have hkz : (k : Int) < s.length := by omega
      have hd : ¬ kdi (bt s k) = 3 := fun e => hk ⟨hl, by simpa [dgB] using e⟩
      rw [then_step, th_need]
      refine ⟨by first | (simp [go_sem, hkz]; done) | (simp [go_sem, hkz]; omega), ?_⟩
      rw [then_step, th_call, if_pos (by simp [go_sem, hkz]), s1]
      refine ⟨bt s k, rfl, (fun h => by cases h), ?_⟩
      simp [go_sem]
      rw [then_step, th_ite, if_neg (by simp [go_sem, hkz, hd])]
      exact hrest _
    · have hkz : ¬ (k : Int) < s.length := by omega
      rw [then_step, th_need]
      refine ⟨by simp [go_sem, hkz], ?_⟩
      rw [then_step, th_call, if_neg (by simp [go_sem, hkz])]
      rw [then_step, th_ite, if_neg (by simp [go_sem])]
      exact hrest 0
end Go.Proofs.YthlakehilhpojaaDoor
namespace Go.Proofs.YthlakehilhpojaaDoor
open Go.RowKit
attribute [local go_sem] says_tt says_ff th_need th_ite th_call th_callK th_load th_store th_mk th_new th_mks th_str says_ret says_again says_app BE.den IE.den SE.den LE.den AE.den CE.den PE.den VE.den KV.val Got.den Got.cnt exI allI exL allL Ctx.push Ctx.heap Ctx.cut Ctx.bare Ctx.mark Inc.blank List.getD_cons_zero List.getD_cons_succ List.cons_append List.nil_append List.append_nil List.map_cons List.map_nil List.replicate_zero List.replicate_succ specOf ltB_t leB_t ltB_f leB_f slc_val slc_nil slc_inj pt_val pt_nil hle_noHeap hle_refl hread_set hwrite_set set_same set_set noHeap_at B_inj ones_nil and_assoc
def fm_rone : Fm := (.need (.c true) (.and (.le (.c 0) (.x 0)) (.lt (.x 0) (.len (.x 0))))
  (.call (.c true) false 25 [(.one (.i .u8 (.at (.x 0) (.x 0))))] (.p (.one (.i .i64 (.x 1)))) ⟨1, 0, 0, 0, 0, 0⟩
  (.ite (.eqI (.x 1) (.c 1))
  (.ite (.eqI (.x 1) (.c 1))
  (.call (.c true) false 26 [(.one (.s (.x 0))), (.one (.i .i64 (.x 0)))] (.p (.one (.i .i64 (.x 2)))) ⟨1, 0, 0, 0, 0, 0⟩
  (.need (.c true) (.and (.and (.le (.c 0) (.x 2)) (.le (.x 2) (.len (.x 0)))) (.and (.le (.c 0) (.x 0)) (.le (.x 0) (.x 2))))
  (.need (.c true) (.and (.le (.c 0) (.x 0)) (.lt (.x 0) (.len (.x 0))))
  (.call (.c true) false 25 [(.one (.i .u8 (.at (.x 0) (.x 0))))] (.p (.one (.i .i64 (.x 3)))) ⟨1, 0, 0, 0, 0, 0⟩
  (.ite (.eqI (.x 3) (.c 2))
  (.ret (.tup [(.agg [(.i .u8 (.c 2)), (.i .i64 (.c 0)), (.i .i64 (.c 0)), (.i .i64 (.c 0)), (.s (.sub (.x 0) (.x 0) (.x 2)))]), (.one (.i .i64 (.x 2))), (.one (.i .i64 (.c 0)))]))
  (.call (.c true) false 27 [(.one (.s (.sub (.x 0) (.x 0) (.x 2))))] (.p (.one (.b (.x 0)))) ⟨0, 1, 0, 0, 0, 0⟩
  (.ite (.x 0)
  (.ret (.tup [(.agg [(.i .u8 (.c 6)), (.i .i64 (.c 0)), (.i .i64 (.c 0)), (.i .i64 (.c 0)), (.s (.sub (.x 0) (.x 0) (.x 2)))]), (.one (.i .i64 (.x 2))), (.one (.i .i64 (.c 0)))]))
  (.ret (.tup [(.agg [(.i .u8 (.c 1)), (.i .i64 (.c 0)), (.i .i64 (.c 0)), (.i .i64 (.c 0)), (.s (.sub (.x 0) (.x 0) (.x 2)))]), (.one (.i .i64 (.x 2))), (.one (.i .i64 (.c 0)))])))))))))
  (.ite (.eqI (.x 1) (.c 3))
  (.call (.c true) false 28 [(.one (.s (.x 0))), (.one (.i .i64 (.x 0)))] (.tup [(.agg [(.i .u8 (.x 2)), (.i .i64 (.x 3)), (.i .i64 (.x 4)), (.i .i64 (.x 5)), (.s (.x 1))]), (.one (.i .i64 (.x 6))), (.one (.i .i64 (.x 7)))]) ⟨6, 0, 1, 0, 0, 0⟩
  (.ret (.tup [(.agg [(.i .u8 (.x 2)), (.i .i64 (.x 3)), (.i .i64 (.x 4)), (.i .i64 (.x 5)), (.s (.x 1))]), (.one (.i .i64 (.x 6))), (.one (.i .i64 (.x 7)))])))
  (.need (.c true) (.and (.le (.c 0) (.x 0)) (.lt (.x 0) (.len (.x 0))))
  (.ite (.eqI (.at (.x 0) (.x 0)) (.c 34))
  (.need (.c true) (.and (.le (.c 0) (.x 0)) (.le (.x 0) (.len (.x 0))))
  (.call (.c true) false 29 [(.one (.s (.sub (.x 0) (.x 0) (.len (.x 0)))))] (.tup [(.one (.s (.x 1))), (.one (.i .i64 (.x 2))), (.one (.b (.x 0)))]) ⟨1, 1, 1, 0, 0, 0⟩
  (.ite (.not (.x 0))
  (.ret (.tup [(.agg [(.i .u8 (.c 0)), (.i .i64 (.c 0)), (.i .i64 (.c 0)), (.i .i64 (.c 0)), (.s (.c []))]), (.one (.i .i64 (.c 0))), (.one (.i .i64 (.c 4)))]))
  (.need (.c true) (.and (.le (.c (-9223372036854775808)) (.add (.x 0) (.x 2))) (.le (.add (.x 0) (.x 2)) (.c 9223372036854775807)))
  (.ret (.tup [(.agg [(.i .u8 (.c 5)), (.i .i64 (.c 0)), (.i .i64 (.c 0)), (.i .i64 (.c 0)), (.s (.x 1))]), (.one (.i .i64 (.add (.x 0) (.x 2)))), (.one (.i .i64 (.c 0)))]))))))
  (.mk [(.s (.c [38, 38])), (.s (.c [124, 124])), (.s (.c [61, 61])), (.s (.c [33, 61])), (.s (.c [60, 61])), (.s (.c [62, 61]))] 9 6
  (.loop 0 ⟨[(.c 0), (.c 0), (.c 0), (.c 0), (.c 0), (.c 0), (.c 0)], [], [(.c [])], [], [], []⟩
  (.ite (.lt (.x 4) (.cnt (.x 0)))
  (.load (.le (.add (.x 0) (.c 2)) (.len (.x 0))) (.el (.x 0) (.x 4) 1 0) 1 [(.s (.x 2))] ⟨0, 0, 1, 0, 0, 0⟩
  (.need (.c true) (.and (.le (.c (-9223372036854775808)) (.add (.x 0) (.c 2))) (.le (.add (.x 0) (.c 2)) (.c 9223372036854775807)))
  (.need (.le (.add (.x 0) (.c 2)) (.len (.x 0))) (.and (.le (.c (-9223372036854775808)) (.add (.x 0) (.c 2))) (.le (.add (.x 0) (.c 2)) (.c 9223372036854775807)))
  (.need (.le (.add (.x 0) (.c 2)) (.len (.x 0))) (.and (.and (.le (.c 0) (.add (.x 0) (.c 2))) (.le (.add (.x 0) (.c 2)) (.len (.x 0)))) (.and (.le (.c 0) (.x 0)) (.le (.x 0) (.add (.x 0) (.c 2)))))
  (.need (.le (.add (.x 0) (.c 2)) (.len (.x 0))) (.and (.and (.le (.c 0) (.x 4)) (.lt (.x 4) (.cnt (.x 0)))) (.nns (.x 0)))
  (.ite (.and (.le (.add (.x 0) (.c 2)) (.len (.x 0))) (.eqS (.sub (.x 0) (.x 0) (.add (.x 0) (.c 2))) (.x 2)))
  (.need (.c true) (.and (.and (.le (.c 0) (.x 4)) (.lt (.x 4) (.cnt (.x 0)))) (.nns (.x 0)))
  (.load (.c true) (.el (.x 0) (.x 4) 1 0) 1 [(.s (.x 3))] ⟨0, 0, 1, 0, 0, 0⟩
  (.need (.c true) (.and (.le (.c (-9223372036854775808)) (.add (.x 0) (.c 2))) (.le (.add (.x 0) (.c 2)) (.c 9223372036854775807)))
  (.ret (.tup [(.agg [(.i .u8 (.c 7)), (.i .i64 (.c 0)), (.i .i64 (.c 0)), (.i .i64 (.c 0)), (.s (.x 3))]), (.one (.i .i64 (.add (.x 0) (.c 2)))), (.one (.i .i64 (.c 0)))])))))
  (.need (.c true) (.and (.le (.c (-9223372036854775808)) (.add (.x 4) (.c 1))) (.le (.add (.x 4) (.c 1)) (.c 9223372036854775807)))
  (.again 0 ⟨2, 0, 1, 0, 1, 0⟩ ⟨9, 0, 2, 0, 1, 0⟩ ⟨[(.x 2), (.x 3), (.add (.x 4) (.c 1)), (.x 5), (.x 6), (.x 7), (.x 8)], [], [(.x 1)], [], [], []⟩))))))))
  (.loop 1 ⟨[(.x 2), (.x 3), (.c 0), (.x 5), (.x 6), (.x 7), (.x 8)], [], [(.x 1)], [], [], []⟩
  (.ite (.lt (.x 11) (.len (.c [43, 45, 42, 47, 37, 60, 62, 33, 61, 40, 41, 123, 125, 91, 93, 44, 59, 58, 46])))
  (.need (.c true) (.and (.le (.c 0) (.x 0)) (.lt (.x 0) (.len (.x 0))))
  (.need (.c true) (.and (.le (.c 0) (.x 11)) (.lt (.x 11) (.len (.c [43, 45, 42, 47, 37, 60, 62, 33, 61, 40, 41, 123, 125, 91, 93, 44, 59, 58, 46]))))
  (.ite (.eqI (.at (.x 0) (.x 0)) (.at (.c [43, 45, 42, 47, 37, 60, 62, 33, 61, 40, 41, 123, 125, 91, 93, 44, 59, 58, 46]) (.x 11)))
  (.need (.c true) (.and (.le (.c (-9223372036854775808)) (.add (.x 11) (.c 1))) (.le (.add (.x 11) (.c 1)) (.c 9223372036854775807)))
  (.need (.c true) (.and (.and (.le (.c 0) (.add (.x 11) (.c 1))) (.le (.add (.x 11) (.c 1)) (.len (.c [43, 45, 42, 47, 37, 60, 62, 33, 61, 40, 41, 123, 125, 91, 93, 44, 59, 58, 46])))) (.and (.le (.c 0) (.x 11)) (.le (.x 11) (.add (.x 11) (.c 1)))))
  (.need (.c true) (.and (.le (.c (-9223372036854775808)) (.add (.x 0) (.c 1))) (.le (.add (.x 0) (.c 1)) (.c 9223372036854775807)))
  (.ret (.tup [(.agg [(.i .u8 (.c 7)), (.i .i64 (.c 0)), (.i .i64 (.c 0)), (.i .i64 (.c 0)), (.s (.sub (.c [43, 45, 42, 47, 37, 60, 62, 33, 61, 40, 41, 123, 125, 91, 93, 44, 59, 58, 46]) (.x 11) (.add (.x 11) (.c 1))))]), (.one (.i .i64 (.add (.x 0) (.c 1)))), (.one (.i .i64 (.c 0)))])))))
  (.need (.c true) (.and (.le (.c (-9223372036854775808)) (.add (.x 11) (.c 1))) (.le (.add (.x 11) (.c 1)) (.c 9223372036854775807)))
  (.again 1 ⟨9, 0, 2, 0, 1, 0⟩ ⟨16, 0, 3, 0, 1, 0⟩ ⟨[(.x 9), (.x 10), (.add (.x 11) (.c 1)), (.x 12), (.x 13), (.x 14), (.x 15)], [], [(.x 2)], [], [], []⟩)))))
  (.ret (.tup [(.agg [(.i .u8 (.c 0)), (.i .i64 (.c 0)), (.i .i64 (.c 0)), (.i .i64 (.c 0)), (.s (.c []))]), (.one (.i .i64 (.c 0))), (.one (.i .i64 (.c 4)))])))))))))))
  (.ite (.eqI (.x 1) (.c 2))
  (.call (.c true) false 26 [(.one (.s (.x 0))), (.one (.i .i64 (.x 0)))] (.p (.one (.i .i64 (.x 2)))) ⟨1, 0, 0, 0, 0, 0⟩
  (.need (.c true) (.and (.and (.le (.c 0) (.x 2)) (.le (.x 2) (.len (.x 0)))) (.and (.le (.c 0) (.x 0)) (.le (.x 0) (.x 2))))
  (.need (.c true) (.and (.le (.c 0) (.x 0)) (.lt (.x 0) (.len (.x 0))))
  (.call (.c true) false 25 [(.one (.i .u8 (.at (.x 0) (.x 0))))] (.p (.one (.i .i64 (.x 3)))) ⟨1, 0, 0, 0, 0, 0⟩
  (.ite (.eqI (.x 3) (.c 2))
  (.ret (.tup [(.agg [(.i .u8 (.c 2)), (.i .i64 (.c 0)), (.i .i64 (.c 0)), (.i .i64 (.c 0)), (.s (.sub (.x 0) (.x 0) (.x 2)))]), (.one (.i .i64 (.x 2))), (.one (.i .i64 (.c 0)))]))
  (.call (.c true) false 27 [(.one (.s (.sub (.x 0) (.x 0) (.x 2))))] (.p (.one (.b (.x 0)))) ⟨0, 1, 0, 0, 0, 0⟩
  (.ite (.x 0)
  (.ret (.tup [(.agg [(.i .u8 (.c 6)), (.i .i64 (.c 0)), (.i .i64 (.c 0)), (.i .i64 (.c 0)), (.s (.sub (.x 0) (.x 0) (.x 2)))]), (.one (.i .i64 (.x 2))), (.one (.i .i64 (.c 0)))]))
  (.ret (.tup [(.agg [(.i .u8 (.c 1)), (.i .i64 (.c 0)), (.i .i64 (.c 0)), (.i .i64 (.c 0)), (.s (.sub (.x 0) (.x 0) (.x 2)))]), (.one (.i .i64 (.x 2))), (.one (.i .i64 (.c 0)))])))))))))
  (.ite (.eqI (.x 1) (.c 3))
  (.call (.c true) false 28 [(.one (.s (.x 0))), (.one (.i .i64 (.x 0)))] (.tup [(.agg [(.i .u8 (.x 2)), (.i .i64 (.x 3)), (.i .i64 (.x 4)), (.i .i64 (.x 5)), (.s (.x 1))]), (.one (.i .i64 (.x 6))), (.one (.i .i64 (.x 7)))]) ⟨6, 0, 1, 0, 0, 0⟩
  (.ret (.tup [(.agg [(.i .u8 (.x 2)), (.i .i64 (.x 3)), (.i .i64 (.x 4)), (.i .i64 (.x 5)), (.s (.x 1))]), (.one (.i .i64 (.x 6))), (.one (.i .i64 (.x 7)))])))
  (.need (.c true) (.and (.le (.c 0) (.x 0)) (.lt (.x 0) (.len (.x 0))))
  (.ite (.eqI (.at (.x 0) (.x 0)) (.c 34))
  (.need (.c true) (.and (.le (.c 0) (.x 0)) (.le (.x 0) (.len (.x 0))))
  (.call (.c true) false 29 [(.one (.s (.sub (.x 0) (.x 0) (.len (.x 0)))))] (.tup [(.one (.s (.x 1))), (.one (.i .i64 (.x 2))), (.one (.b (.x 0)))]) ⟨1, 1, 1, 0, 0, 0⟩
  (.ite (.not (.x 0))
  (.ret (.tup [(.agg [(.i .u8 (.c 0)), (.i .i64 (.c 0)), (.i .i64 (.c 0)), (.i .i64 (.c 0)), (.s (.c []))]), (.one (.i .i64 (.c 0))), (.one (.i .i64 (.c 4)))]))
  (.need (.c true) (.and (.le (.c (-9223372036854775808)) (.add (.x 0) (.x 2))) (.le (.add (.x 0) (.x 2)) (.c 9223372036854775807)))
  (.ret (.tup [(.agg [(.i .u8 (.c 5)), (.i .i64 (.c 0)), (.i .i64 (.c 0)), (.i .i64 (.c 0)), (.s (.x 1))]), (.one (.i .i64 (.add (.x 0) (.x 2)))), (.one (.i .i64 (.c 0)))]))))))
  (.mk [(.s (.c [38, 38])), (.s (.c [124, 124])), (.s (.c [61, 61])), (.s (.c [33, 61])), (.s (.c [60, 61])), (.s (.c [62, 61]))] 9 6
  (.loop 0 ⟨[(.c 0), (.c 0), (.c 0), (.c 0), (.c 0), (.c 0), (.c 0)], [], [(.c [])], [], [], []⟩
  (.ite (.lt (.x 4) (.cnt (.x 0)))
  (.load (.le (.add (.x 0) (.c 2)) (.len (.x 0))) (.el (.x 0) (.x 4) 1 0) 1 [(.s (.x 2))] ⟨0, 0, 1, 0, 0, 0⟩
  (.need (.c true) (.and (.le (.c (-9223372036854775808)) (.add (.x 0) (.c 2))) (.le (.add (.x 0) (.c 2)) (.c 9223372036854775807)))
  (.need (.le (.add (.x 0) (.c 2)) (.len (.x 0))) (.and (.le (.c (-9223372036854775808)) (.add (.x 0) (.c 2))) (.le (.add (.x 0) (.c 2)) (.c 9223372036854775807)))
  (.need (.le (.add (.x 0) (.c 2)) (.len (.x 0))) (.and (.and (.le (.c 0) (.add (.x 0) (.c 2))) (.le (.add (.x 0) (.c 2)) (.len (.x 0)))) (.and (.le (.c 0) (.x 0)) (.le (.x 0) (.add (.x 0) (.c 2)))))
  (.need (.le (.add (.x 0) (.c 2)) (.len (.x 0))) (.and (.and (.le (.c 0) (.x 4)) (.lt (.x 4) (.cnt (.x 0)))) (.nns (.x 0)))
  (.ite (.and (.le (.add (.x 0) (.c 2)) (.len (.x 0))) (.eqS (.sub (.x 0) (.x 0) (.add (.x 0) (.c 2))) (.x 2)))
  (.need (.c true) (.and (.and (.le (.c 0) (.x 4)) (.lt (.x 4) (.cnt (.x 0)))) (.nns (.x 0)))
  (.load (.c true) (.el (.x 0) (.x 4) 1 0) 1 [(.s (.x 3))] ⟨0, 0, 1, 0, 0, 0⟩
  (.need (.c true) (.and (.le (.c (-9223372036854775808)) (.add (.x 0) (.c 2))) (.le (.add (.x 0) (.c 2)) (.c 9223372036854775807)))
  (.ret (.tup [(.agg [(.i .u8 (.c 7)), (.i .i64 (.c 0)), (.i .i64 (.c 0)), (.i .i64 (.c 0)), (.s (.x 3))]), (.one (.i .i64 (.add (.x 0) (.c 2)))), (.one (.i .i64 (.c 0)))])))))
  (.need (.c true) (.and (.le (.c (-9223372036854775808)) (.add (.x 4) (.c 1))) (.le (.add (.x 4) (.c 1)) (.c 9223372036854775807)))
  (.again 0 ⟨2, 0, 1, 0, 1, 0⟩ ⟨9, 0, 2, 0, 1, 0⟩ ⟨[(.x 2), (.x 3), (.add (.x 4) (.c 1)), (.x 5), (.x 6), (.x 7), (.x 8)], [], [(.x 1)], [], [], []⟩))))))))
  (.loop 1 ⟨[(.x 2), (.x 3), (.c 0), (.x 5), (.x 6), (.x 7), (.x 8)], [], [(.x 1)], [], [], []⟩
  (.ite (.lt (.x 11) (.len (.c [43, 45, 42, 47, 37, 60, 62, 33, 61, 40, 41, 123, 125, 91, 93, 44, 59, 58, 46])))
  (.need (.c true) (.and (.le (.c 0) (.x 0)) (.lt (.x 0) (.len (.x 0))))
  (.need (.c true) (.and (.le (.c 0) (.x 11)) (.lt (.x 11) (.len (.c [43, 45, 42, 47, 37, 60, 62, 33, 61, 40, 41, 123, 125, 91, 93, 44, 59, 58, 46]))))
  (.ite (.eqI (.at (.x 0) (.x 0)) (.at (.c [43, 45, 42, 47, 37, 60, 62, 33, 61, 40, 41, 123, 125, 91, 93, 44, 59, 58, 46]) (.x 11)))
  (.need (.c true) (.and (.le (.c (-9223372036854775808)) (.add (.x 11) (.c 1))) (.le (.add (.x 11) (.c 1)) (.c 9223372036854775807)))
  (.need (.c true) (.and (.and (.le (.c 0) (.add (.x 11) (.c 1))) (.le (.add (.x 11) (.c 1)) (.len (.c [43, 45, 42, 47, 37, 60, 62, 33, 61, 40, 41, 123, 125, 91, 93, 44, 59, 58, 46])))) (.and (.le (.c 0) (.x 11)) (.le (.x 11) (.add (.x 11) (.c 1)))))
  (.need (.c true) (.and (.le (.c (-9223372036854775808)) (.add (.x 0) (.c 1))) (.le (.add (.x 0) (.c 1)) (.c 9223372036854775807)))
  (.ret (.tup [(.agg [(.i .u8 (.c 7)), (.i .i64 (.c 0)), (.i .i64 (.c 0)), (.i .i64 (.c 0)), (.s (.sub (.c [43, 45, 42, 47, 37, 60, 62, 33, 61, 40, 41, 123, 125, 91, 93, 44, 59, 58, 46]) (.x 11) (.add (.x 11) (.c 1))))]), (.one (.i .i64 (.add (.x 0) (.c 1)))), (.one (.i .i64 (.c 0)))])))))
  (.need (.c true) (.and (.le (.c (-9223372036854775808)) (.add (.x 11) (.c 1))) (.le (.add (.x 11) (.c 1)) (.c 9223372036854775807)))
  (.again 1 ⟨9, 0, 2, 0, 1, 0⟩ ⟨16, 0, 3, 0, 1, 0⟩ ⟨[(.x 9), (.x 10), (.add (.x 11) (.c 1)), (.x 12), (.x 13), (.x 14), (.x 15)], [], [(.x 2)], [], [], []⟩)))))
  (.ret (.tup [(.agg [(.i .u8 (.c 0)), (.i .i64 (.c 0)), (.i .i64 (.c 0)), (.i .i64 (.c 0)), (.s (.c []))]), (.one (.i .i64 (.c 0))), (.one (.i .i64 (.c 4)))]))))))))))))))
theorem gen_rone : genFn ⟨true, []⟩ Tryd.prog (fun l => ([⟨[5, 6, 74], [75, 76, 13, 77, 78, 79, 80, 81, 82, 83, 84, 85, 86, 87, 88, 89, 90, 91, 92, 93, 94, 95, 96, 97, 98, 99, 100, 101], [4]⟩, ⟨[5, 6, 15], [102, 103, 104, 105, 108, 109, 110, 111, 112, 113, 114, 115, 116, 117, 118, 119, 120, 121, 122, 106, 107], [4]⟩] : List LAnn).getD l ⟨[], [], []⟩) Tryd.f15 = fm_rone := by kernel_rfl
theorem ps_rone : freshPs Tryd.prog .zero Tryd.f15.params.toList = some ([(.one (.s (.x 0))), (.one (.i .i64 (.x 0)))], ⟨1, 0, 1, 0, 0, 0⟩) := by kernel_rfl
end Go.Proofs.YthlakehilhpojaaDoor
namespace Go.Proofs.YthlakehilhpojaaDoor
open Go.RowKit
attribute [local go_sem] says_tt says_ff th_need th_ite th_call th_callK th_load th_store says_ret says_again BE.den IE.den SE.den LE.den AE.den CE.den PE.den VE.den KV.val Got.den Got.cnt exI allI exL allL Ctx.push Ctx.heap Ctx.cut Ctx.bare Ctx.mark Inc.blank List.getD_cons_zero List.getD_cons_succ List.cons_append List.nil_append List.append_nil List.map_cons List.map_nil List.replicate_zero List.replicate_succ specOf ltB_t leB_t ltB_f leB_f slc_val slc_nil slc_inj pt_val pt_nil hle_noHeap hle_refl hread_set hwrite_set set_same set_set noHeap_at B_inj ones_nil and_assoc
def TWO : List (List UInt8) := [[38, 38], [124, 124], [61, 61], [33, 61], [60, 61], [62, 61]]
def ONE : List UInt8 := [43, 45, 42, 47, 37, 60, 62, 33, 61, 40, 41, 123, 125, 91, 93, 44, 59, 58, 46]
theorem all_two : allSigns = TWO ++ ONE.map fun c => [c] := rfl
theorem find_hit {α : Type} (P : α → Bool) : ∀ (l : List α) (j : Nat) (x : α), l[j]? = some x → P x = true → (∀ k y, k < j → l[k]? = some y → P y = false) → l.find? P = some x
  | [], j, x, h, _, _ => by cases h
  | a :: l, 0, x, h, hp, _ => by
    have e : a = x := by simpa using h
    rw [List.find?_cons, e, hp]
  | a :: l, j + 1, x, h, hp, hn => by
    rw [List.find?_cons, hn 0 a (by omega) rfl]
    exact find_hit P l j x (by simpa using h) hp (fun k y hk hy => hn (k + 1) y (by omega) (by simpa using hy))
theorem find_miss {α : Type} (P : α → Bool) (l : List α) (h : ∀ (k : Nat) y, l[k]? = some y → P y = false) : l.find? P = none := by
  rw [List.find?_eq_none]
  intro x hx
  obtain ⟨k, hk⟩ := List.getElem?_of_mem hx
  rw [h k x hk]; simp
theorem two_pre {s p : List UInt8} {i : Nat} (hp : p.length = 2) : p.isPrefixOf (s.drop i) = true ↔ (i + 2 ≤ s.length ∧ sub s i (i + 2) = p) := by
  have e : sub s i (i + 2) = (s.drop i).take 2 := by
    unfold sub; rw [List.drop_take]; congr 1; omega
  rw [List.isPrefixOf_iff_prefix, List.prefix_iff_eq_take, hp, e]
  constructor
  · intro h
    have := congrArg List.length h
    rw [hp, List.length_take, List.length_drop] at this
    exact ⟨by omega, h.symm⟩
  · intro h; exact h.2.symm
theorem one_pre {s : List UInt8} {i : Nat} (hi : i < s.length) (c : UInt8) : [c].isPrefixOf (s.drop i) = true ↔ bt s i = c.toNat := by
  rw [List.drop_eq_getElem_cons hi, bt_eq s i hi]
  simp [List.isPrefixOf]
  constructor
  · rintro rfl; rfl
  · intro h; exact (UInt8.toNat_inj.1 (by omega))
def NoTwo (s : List UInt8) (i0 j : Nat) : Prop := ∀ (k : Nat) y, k < j → TWO[k]? = some y → y.isPrefixOf (s.drop i0) = false
def oInv (h : Hp) (s : List UInt8) (i0 : Nat) : Nat → Ctx → Prop
  | 0, C => ∃ kx a0 a1 j a3 a4 a5 a6 t b, C = ⟨[(i0 : Nat), kx, a0, a1, (j : Nat), a3, a4, a5, a6], [], [s, t], [], [⟨some (b, 0), 6, 6⟩], [], Hp.set h b ⟨strs TWO, 9⟩, noM⟩ ∧ h b = none ∧ j ≤ 6 ∧ NoTwo s i0 j
  | _ + 1, C => ∃ kx a0 a1 a2 a3 a4 a5 a6 c0 c1 j c3 c4 c5 c6 t t' b, C = ⟨[(i0 : Nat), kx, a0, a1, a2, a3, a4, a5, a6, c0, c1, (j : Nat), c3, c4, c5, c6], [], [s, t, t'], [], [⟨some (b, 0), 6, 6⟩], [], Hp.set h b ⟨strs TWO, 9⟩, noM⟩ ∧ h b = none ∧ j ≤ 19 ∧ NoTwo s i0 6 ∧
      ∀ (k : Nat) y, k < j → ONE[k]? = some y → bt s i0 ≠ y.toNat
def oMeas : Nat → Ctx → Nat
  | 0, C => (6 - C.i.getD 4 0).toNat
  | _ + 1, C => (19 - C.i.getD 11 0).toNat
theorem one_sg {s : List UInt8} {i0 : Nat} (hk : ¬ (kdi (bt s i0) = 1 ∨ kdi (bt s i0) = 2)) (hk3 : ¬ kdi (bt s i0) = 3) (h34 : ¬ bt s i0 = 34) : one s i0 = if sg (s.drop i0) = [] then ⟨4, 0, [], 0, 0⟩ else ⟨0, 7, sg (s.drop i0), 0, i0 + (sg (s.drop i0)).length⟩ := by
  unfold one
  rw [if_neg hk, if_neg hk3, if_neg h34]
theorem sg_two {s : List UInt8} {i0 j : Nat} {x : List UInt8} (hn : NoTwo s i0 j) (hx : TWO[j]? = some x) (hp : x.isPrefixOf (s.drop i0) = true) : sg (s.drop i0) = x := by
  unfold sg
  rw [all_two, List.find?_append, find_hit (fun p => p.isPrefixOf (s.drop i0)) TWO j x hx hp (fun k y hk hy => hn k y hk hy)]
  rfl
theorem miss_two {s : List UInt8} {i0 : Nat} (hn : NoTwo s i0 6) : TWO.find? (fun p => p.isPrefixOf (s.drop i0)) = none :=
  find_miss _ _ fun k y hy => hn k y (by have := (List.getElem?_eq_some_iff.1 hy).1; exact this) hy
theorem sg_one {s : List UInt8} {i0 j : Nat} {c : UInt8} (hi : i0 < s.length) (hn : NoTwo s i0 6) (hj : ∀ (k : Nat) y, k < j → ONE[k]? = some y → bt s i0 ≠ y.toNat) (hx : ONE[j]? = some c) (hp : bt s i0 = c.toNat) : sg (s.drop i0) = [c] := by
  unfold sg
  rw [all_two, List.find?_append, miss_two hn, Option.none_or, find_hit (fun p => p.isPrefixOf (s.drop i0)) (ONE.map fun c => [c]) j [c] (by simp [hx]) ((one_pre hi c).2 hp) (fun k y hk hy => ?_)]
  · rfl
  · simp only [List.getElem?_map, Option.map_eq_some_iff] at hy
    obtain ⟨d, hd, rfl⟩ := hy
    cases hq : [d].isPrefixOf (s.drop i0)
    · rfl
    · exact absurd ((one_pre hi d).1 hq) (hj k d hk hd)
theorem sg_none {s : List UInt8} {i0 : Nat} (hi : i0 < s.length) (hn : NoTwo s i0 6) (hj : ∀ (k : Nat) y, k < 19 → ONE[k]? = some y → bt s i0 ≠ y.toNat) : sg (s.drop i0) = [] := by
  unfold sg
  rw [all_two, List.find?_append, miss_two hn, Option.none_or, find_miss (fun p => p.isPrefixOf (s.drop i0)) (ONE.map fun c => [c]) (fun k y hy => ?_)]
  · rfl
  · simp only [List.getElem?_map, Option.map_eq_some_iff] at hy
    obtain ⟨d, hd, rfl⟩ := hy
    cases hq : [d].isPrefixOf (s.drop i0)
    · rfl
    · exact absurd ((one_pre hi d).1 hq) (hj k d (by have := (List.getElem?_eq_some_iff.1 hd).1; exact this) hd)
set_option maxRecDepth 100000 in
set_option maxHeartbeats 8000000 in
def ctROne : Ct Tryd.prog where
  f := 15
  spec := fun args h φ => ∃ s i0, args = [.string (B s), .int .i64 (i0 : Nat)] ∧ i0 < s.length ∧ s.length ≤ 100000 ∧
    (if (one s i0).f = 0 then φ (.tuple #[tkv (one s i0).k 0 0 (one s i0).n (one s i0).x, .int .i64 ((one s i0).e : Nat), .int .i64 0]) h
      else ∀ kk, φ (.tuple #[tkv kk 0 0 0 [], .int .i64 0, .int .i64 (one s i0).f]) h)
  ok := by
    rintro args h φ w ⟨s, i0, rfl, hi0, hlen, hφ⟩ hH
    refine ct_forget (by_fm Tryd.func15 gen_rone ps_rone [ctKind, ctRInner, ctRWord, ctRNumber, ctRRead] (fun v k => ∃ k', HLe k' k ∧ φ v k') (oInv h s i0) oMeas ⟨[(i0 : Nat)], [], [s], [], [], [], h, noM⟩ ⟨rfl, rfl, rfl, rfl, rfl, rfl⟩ ones_nil ?_ w hH rfl)
    generalize hE : (⟨specOf _, _, _, _⟩ : Env) = E
    have s1 : E.spec 25 = ctKind.spec := by rw [← hE]; rfl
    have s2 : E.spec 26 = ctRInner.spec := by rw [← hE]; rfl
    have s3 : E.spec 27 = ctRWord.spec := by rw [← hE]; rfl
    have s4 : E.spec 28 = ctRNumber.spec := by rw [← hE]; rfl
    have s5 : E.spec 29 = ctRRead.spec := by rw [← hE]; rfl
    have ep : E.post = fun v k => ∃ k', HLe k' k ∧ φ v k' := by rw [← hE]
    have ei : E.inv = oInv h s i0 := by rw [← hE]
    have em : E.meas = oMeas := by rw [← hE]
    clear hE
    have hz : (i0 : Int) < s.length := by omega
    rw [← then_step]; unfold fm_rone
    by_cases k1 : kdi (bt s i0) = 1
    · iterate 4 (try simp only [then_step]; try simp [go_sem, s1, ctKind, hz, k1])
      have hin : inB (bt s i0) = true := by simp [inB, k1]
      have hone : one s i0 = ⟨0, nameK (bt s i0) (sub s i0 (i0 + rn inB s i0)), sub s i0 (i0 + rn inB s i0), 0, i0 + rn inB s i0⟩ := by unfold one; rw [if_pos (.inl k1)]
      have hle := rn_le (p := inB) (s := s) (i := i0) (by omega)
      rw [hone, if_pos rfl] at hφ
      rw [then_step, th_call, if_pos (by rfl), s2]
      refine ⟨s, i0, rfl, by omega, by omega, by omega, (fun h => by cases h), ?_⟩
      rw [Int.toNat_natCast]
      simp [go_sem]
      generalize rn inB s i0 = N at *
      have e1 : ((i0 : Int) + N).toNat = i0 + N := by omega
      have e2 : List.drop i0 (List.take (i0 + N) s) = sub s i0 (i0 + N) := rfl
      iterate 5 (try simp only [then_step]; try simp [go_sem, s1, ctKind, hz, k1, e1, e2])
      refine ⟨by omega, by omega, by omega, ?_⟩
      rw [s3]
      refine ⟨sub s i0 (i0 + N), rfl, fun k' hk' => ?_⟩
      have hk2' : ¬ kdi (bt s i0) = 2 := by omega
      unfold nameK at hφ
      rw [if_neg hk2'] at hφ
      cases hw : wordB (sub s i0 (i0 + N))
      · rw [hw] at hφ
        refine .inl ⟨rfl, ?_⟩
        iterate 2 (try simp only [then_step]; try simp [go_sem, ep, e1, e2])
        exact ⟨h, hk', by simpa [tkv] using hφ⟩
      · rw [hw] at hφ
        refine .inr ⟨rfl, ?_⟩
        iterate 2 (try simp only [then_step]; try simp [go_sem, ep, e1, e2])
        exact ⟨h, hk', by simpa [tkv] using hφ⟩
    by_cases k2 : kdi (bt s i0) = 2
    · iterate 4 (try simp only [then_step]; try simp [go_sem, s1, ctKind, hz, k2])
      have hin : inB (bt s i0) = true := by simp [inB, k2]
      have hone : one s i0 = ⟨0, nameK (bt s i0) (sub s i0 (i0 + rn inB s i0)), sub s i0 (i0 + rn inB s i0), 0, i0 + rn inB s i0⟩ := by unfold one; rw [if_pos (.inr k2)]
      have hle := rn_le (p := inB) (s := s) (i := i0) (by omega)
      rw [hone, if_pos rfl] at hφ
      rw [then_step, th_call, if_pos (by rfl), s2]
      refine ⟨s, i0, rfl, by omega, by omega, by omega, (fun h => by cases h), ?_⟩
      rw [Int.toNat_natCast]
      simp [go_sem]
      generalize rn inB s i0 = N at *
      have e1 : ((i0 : Int) + N).toNat = i0 + N := by omega
      have e2 : List.drop i0 (List.take (i0 + N) s) = sub s i0 (i0 + N) := rfl
      iterate 5 (try simp only [then_step]; try simp [go_sem, s1, ctKind, hz, k2, e1, e2, ep])
      unfold nameK at hφ
      rw [if_pos k2] at hφ
      exact ⟨by omega, by omega, by omega, h, fun _ _ h => h, by simpa [tkv] using hφ⟩
    by_cases k3 : kdi (bt s i0) = 3
    · iterate 5 (try simp only [then_step]; try simp [go_sem, s1, ctKind, hz, k3])
      have hone : one s i0 = ⟨(nm s i0).1, (nm s i0).2.1, [], (nm s i0).2.2.1, (nm s i0).2.2.2⟩ := by unfold one; rw [if_neg (by omega), if_pos k3]
      rw [hone] at hφ
      rw [then_step, th_call, if_pos (by rfl), s4]
      refine ⟨s, i0, rfl, hi0, hlen, by simp [dgB, k3], ?_⟩
      by_cases hn : (nm s i0).1 = 0
      · rw [if_pos hn] at hφ ⊢
        refine ⟨(fun h => by cases h), ?_⟩
        simp only [tkv]
        simp [go_sem]
        iterate 1 (try simp only [then_step]; try simp [go_sem, ep])
        exact ⟨h, fun _ _ h => h, by simpa [tkv] using hφ⟩
      · rw [if_neg hn] at hφ ⊢
        intro kk
        refine ⟨(fun h => by cases h), ?_⟩
        simp only [tkv]
        simp [go_sem]
        iterate 1 (try simp only [then_step]; try simp [go_sem, ep])
        exact ⟨h, fun _ _ h => h, by simpa [tkv] using hφ kk⟩
    by_cases h34 : bt s i0 = 34
    · have hk34 : kdi 34 = 0 := by decide
      iterate 8 (try simp only [then_step]; try simp [go_sem, s1, ctKind, hz, h34, hk34])
      refine ⟨by omega, ?_⟩
      have hdl : (s.drop i0).length = s.length - i0 := List.length_drop
      have htl : List.drop i0 (List.take s.length s) = s.drop i0 := by rw [List.take_length]
      have hk12 : ¬ (kdi (bt s i0) = 1 ∨ kdi (bt s i0) = 2) := by omega
      rw [then_step, th_call, if_pos (by rfl), s5]
      refine ⟨s.drop i0, by simp [go_sem], by omega, ?_⟩
      cases hq : rdq (s.drop i0) with
      | none =>
        have hone : one s i0 = ⟨4, 0, [], 0, 0⟩ := by
          unfold one; rw [if_neg hk12, if_neg k3, if_pos h34, hq]
        rw [hone, if_neg (by decide)] at hφ
        intro t n
        refine ⟨(fun h => by cases h), ?_⟩
        simp [go_sem]
        iterate 2 (try simp only [then_step]; try simp [go_sem, ep])
        exact ⟨h, fun _ _ h => h, by simpa [tkv] using hφ 0⟩
      | some r =>
        obtain ⟨t, m⟩ := r
        obtain ⟨m1, m2, _⟩ := rdq_some hq
        have hone : one s i0 = ⟨0, 5, t, 0, i0 + m⟩ := by
          unfold one; rw [if_neg hk12, if_neg k3, if_pos h34, hq]
        rw [hone, if_pos rfl] at hφ
        refine ⟨(fun h => by cases h), ?_⟩
        simp [go_sem]
        iterate 3 (try simp only [then_step]; try simp [go_sem, ep])
        exact ⟨by omega, by omega, h, fun _ _ h => h, by simpa [tkv] using hφ⟩
    iterate 7 (try simp only [then_step]; try simp [go_sem, s1, ctKind, hz, k1, k2, k3, h34])
    have hk12 : ¬ (kdi (bt s i0) = 1 ∨ kdi (bt s i0) = 2) := by omega
    have hone := one_sg hk12 k3 h34
    rw [then_step, th_mk]
    intro b hb
    refine loop_intro ?_ ?_
    · rw [ei]
      exact ⟨kdi (bt s i0), 0, 0, 0, 0, 0, 0, 0, [], b, rfl, hb, by omega, fun k y hk => by omega⟩
    rw [ei, em]
    rintro i' bb ss v ll pp hh0 M ⟨kx, a0, a1, j, a3, a4, a5, a6, t, b', hC, hb', hj6, hno⟩ hM
    cases hC
    have hM' : M 0 = ((6 : Int) - j).toNat := hM
    clear hM hb
    have hle' : HLe h (Hp.set h b' ⟨strs TWO, 9⟩) := hle_set hb' _
    have kb : (Hp.set h b' ⟨strs TWO, 9⟩) b' = some ⟨strs TWO, 9⟩ := set_same _ _ _
    generalize hHd : Hp.set h b' ⟨strs TWO, 9⟩ = H at *
    rw [← then_step]
    by_cases hj : j < 6
    · have hjz : (j : Int) < 6 := by omega
      obtain ⟨x, hx⟩ : ∃ x, TWO[j]? = some x := ⟨_, List.getElem?_eq_getElem (show j < TWO.length from hj)⟩
      have hx2 : x.length = 2 := by
        have hall : TWO.all (fun x => decide (x.length = 2)) = true := by decide
        simpa using List.all_eq_true.1 hall x (List.mem_of_getElem? hx)
      have hrd := hread_strs kb hx
      have e1 : ((i0 : Int) + 2).toNat = i0 + 2 := by omega
      have e2 : List.drop i0 (List.take (i0 + 2) s) = sub s i0 (i0 + 2) := rfl
      have nt : x.isPrefixOf (s.drop i0) = false → NoTwo s i0 (j + 1) := fun hf k y hk hy => by
        by_cases e : k = j
        · subst e; rw [hx] at hy; cases hy; exact hf
        · exact hno k y (by omega) hy
      by_cases h2 : i0 + 2 ≤ s.length
      · have h2z : (i0 : Int) + 2 ≤ s.length := by omega
        by_cases hp : sub s i0 (i0 + 2) = x
        · have hsg := sg_two hno hx ((two_pre hx2).2 ⟨h2, hp⟩)
          rw [hsg, if_neg (by intro e; rw [e] at hx2; cases hx2)] at hone
          rw [hone, if_pos rfl] at hφ
          iterate 11 (try simp only [then_step]; try simp [go_sem, ep, hjz, hrd, h2z, e1, e2, hp])
          refine ⟨by omega, by omega, by omega, by omega, by omega, by omega, by omega, by omega, h, hle', ?_⟩
          have hl2 : ((i0 + x.length : Nat) : Int) = (i0 : Int) + 2 := by omega
          simpa [tkv, hl2, hx2] using hφ
        · iterate 11 (try simp only [then_step]; try simp [go_sem, ei, em, hjz, hrd, h2z, e1, e2, hp])
          refine ⟨by omega, by omega, by omega, by omega, by omega, by omega, by omega, by omega, ⟨kx, a0, a1, j + 1, a3, a4, a5, a6, t, b', by rw [hHd, show ((j + 1 : Nat) : Int) = (j : Int) + 1 by omega], hb', by omega, nt ?_⟩, ?_⟩
          · cases hq : x.isPrefixOf (s.drop i0)
            · rfl
            · exact absurd ((two_pre hx2).1 hq).2 hp
          · simp only [oMeas, List.getD_cons_succ, List.getD_cons_zero]
            omega
      · have h2z : ¬ (i0 : Int) + 2 ≤ s.length := by omega
        iterate 11 (try simp only [then_step]; try simp [go_sem, ei, em, hjz, h2z])
        refine ⟨by omega, by omega, by omega, by omega, ⟨kx, a0, a1, j + 1, a3, a4, a5, a6, t, b', by rw [hHd, show ((j + 1 : Nat) : Int) = (j : Int) + 1 by omega], hb', by omega, nt ?_⟩, ?_⟩
        · cases hq : x.isPrefixOf (s.drop i0)
          · rfl
          · exact absurd ((two_pre hx2).1 hq).1 h2
        · simp only [oMeas, List.getD_cons_succ, List.getD_cons_zero]
          omega
    · have hjz : ¬ (j : Int) < 6 := by omega
      iterate 1 (try simp only [then_step]; try simp [go_sem, hjz])
      try rw [then_step]
      refine loop_intro ?_ ?_
      · rw [ei]
        exact ⟨kx, a0, a1, (j : Nat), a3, a4, a5, a6, a0, a1, 0, a3, a4, a5, a6, t, t, b', by rw [hHd]; rfl, hb', by omega, by rw [show j = 6 by omega] at hno; exact hno, fun k y hk => by omega⟩
      · clear hno hM' hj6 hj hjz
        clear hle' kb hHd
        rw [ei, em]
        rintro i' bb ss v ll pp hh1 M1 ⟨kx1, d0, d1, d2, d3, d4, d5, d6, c0, c1, j1, c3, c4, c5, c6, t1, t2, b1, hC, hb1, hj19, hno6, hn1⟩ hM
        cases hC
        have hM' : M1 1 = ((19 : Int) - j1).toNat := hM
        clear hM
        have hle' : HLe h (Hp.set h b1 ⟨strs TWO, 9⟩) := hle_set hb1 _
        generalize hHd : Hp.set h b1 ⟨strs TWO, 9⟩ = H1 at *
        have hONE : ([43, 45, 42, 47, 37, 60, 62, 33, 61, 40, 41, 123, 125, 91, 93, 44, 59, 58, 46] : List UInt8) = ONE := rfl
        have hol : ONE.length = 19 := rfl
        rw [← then_step]
        by_cases hj : j1 < 19
        · have hjz : (j1 : Int) < 19 := by omega
          obtain ⟨c, hc⟩ : ∃ c, ONE[j1]? = some c := ⟨_, List.getElem?_eq_getElem (show j1 < ONE.length from hj)⟩
          have hob : bt ONE j1 = c.toNat := by
            have hjl : j1 < ONE.length := hj
            rw [bt_eq ONE j1 hjl, (List.getElem?_eq_some_iff.1 hc).2]
          have e1 : ((j1 : Int) + 1).toNat = j1 + 1 := by omega
          have e3 : List.drop j1 (List.take (j1 + 1) ONE) = [c] := by
            have hjl : j1 < ONE.length := hj
            have := sub_cons ONE (i := j1) (j := j1 + 1) (by omega) hjl
            rw [sub_same, (List.getElem?_eq_some_iff.1 hc).2] at this
            exact this
          by_cases hp : bt s i0 = bt ONE j1
          · have hsg := sg_one hi0 hno6 hn1 hc (by rw [hp, hob])
            rw [hsg, if_neg (by simp)] at hone
            rw [hone, if_pos rfl] at hφ
            iterate 9 (try simp only [then_step]; try simp [go_sem, ep, hONE, hol, hjz, hz, hp, e1, e3])
            exact ⟨by omega, by omega, by omega, by omega, by omega, by omega, by omega, h, hle', by simpa [tkv] using hφ⟩
          · iterate 9 (try simp only [then_step]; try simp [go_sem, ei, em, hONE, hol, hjz, hz, hp])
            refine ⟨by omega, by omega, ⟨kx1, d0, d1, d2, d3, d4, d5, d6, c0, c1, j1 + 1, c3, c4, c5, c6, t1, t2, b1, by rw [hHd, show ((j1 + 1 : Nat) : Int) = (j1 : Int) + 1 by omega], hb1, by omega, hno6, fun k y hk hy => ?_⟩, ?_⟩
            · by_cases e : k = j1
              · subst e; rw [hc] at hy; cases hy; rw [← hob]; exact hp
              · exact hn1 k y (by omega) hy
            · simp only [oMeas, List.getD_cons_succ, List.getD_cons_zero]
              omega
        · have hjz : ¬ (j1 : Int) < 19 := by omega
          have hsg := sg_none hi0 hno6 (by rw [show j1 = 19 by omega] at hn1; exact hn1)
          rw [hsg, if_pos rfl] at hone
          rw [hone, if_neg (by decide)] at hφ
          iterate 3 (try simp only [then_step]; try simp [go_sem, ep, hONE, hol, hjz])
          exact ⟨h, hle', by simpa [tkv] using hφ 0⟩
end Go.Proofs.YthlakehilhpojaaDoor
namespace Go.Proofs.YthlakehilhpojaaDoor
open Go.RowKit
attribute [local go_sem] says_tt says_ff th_need th_ite th_call th_callK th_load th_store says_ret says_again BE.den IE.den SE.den LE.den AE.den CE.den PE.den VE.den KV.val Got.den Got.cnt exI allI exL allL Ctx.push Ctx.heap Ctx.cut Ctx.bare Ctx.mark Inc.blank List.getD_cons_zero List.getD_cons_succ List.cons_append List.nil_append List.append_nil List.map_cons List.map_nil List.replicate_zero List.replicate_succ specOf ltB_t leB_t ltB_f leB_f slc_val slc_nil slc_inj pt_val pt_nil hle_noHeap hle_refl hread_set hwrite_set set_same set_set noHeap_at B_inj ones_nil and_assoc
def fm_rtokens : Fm := (.mk [] 35 0
  (.ite (.lt (.c 65536) (.len (.x 0)))
  (.ret (.tup [(.one (.sl (.x 0))), (.agg [(.i .i64 (.c 3)), (.i .i64 (.c 0)), (.i .i64 (.c 0))])]))
  (.mk [] 35 0
  (.call (.c true) false 13 [(.one (.s (.x 0))), (.one (.i .i64 (.c 0)))] (.p (.one (.i .i64 (.x 0)))) ⟨1, 0, 0, 0, 0, 0⟩
  (.loop 0 ⟨[(.x 0), (.c 0), (.c 1), (.c 1), (.c 0), (.c 0), (.c 0)], [], [], [], [.nil, (.x 1)], []⟩
  (.need (.c true) (.and (.le (.c 0) (.x 2)) (.le (.x 2) (.len (.x 0))))
  (.need (.c true) (.and (.le (.c (-9223372036854775808)) (.sub (.x 1) (.x 2))) (.le (.sub (.x 1) (.x 2)) (.c 9223372036854775807)))
  (.call (.c true) false 14 [(.one (.s (.sub (.x 0) (.x 2) (.len (.x 0))))), (.one (.i .i64 (.sub (.x 1) (.x 2))))] (.tup [(.one (.i .i64 (.x 8))), (.one (.i .i64 (.x 9)))]) ⟨2, 0, 0, 0, 0, 0⟩
  (.ite (.lt (.c 1) (.x 8))
  (.need (.c true) (.and (.le (.c (-9223372036854775808)) (.sub (.x 8) (.c 1))) (.le (.sub (.x 8) (.c 1)) (.c 9223372036854775807)))
  (.need (.c true) (.and (.le (.c (-9223372036854775808)) (.add (.x 3) (.sub (.x 8) (.c 1)))) (.le (.add (.x 3) (.sub (.x 8) (.c 1))) (.c 9223372036854775807)))
  (.ite (.le (.len (.x 0)) (.x 1))
  (.mk [(.i .u8 (.c 8)), (.i .i64 (.add (.x 3) (.sub (.x 8) (.c 1)))), (.i .i64 (.x 9)), (.i .i64 (.c 0)), (.s (.c []))] 35 1
  (.app (.x 3) (.x 4) 5 48 35
  (.ret (.tup [(.one (.sl (.x 5))), (.agg [(.i .i64 (.c 0)), (.i .i64 (.c 0)), (.i .i64 (.c 0))])]))))
  (.call (.c true) false 15 [(.one (.s (.x 0))), (.one (.i .i64 (.x 1)))] (.tup [(.agg [(.i .u8 (.x 10)), (.i .i64 (.x 11)), (.i .i64 (.x 12)), (.i .i64 (.x 13)), (.s (.x 1))]), (.one (.i .i64 (.x 14))), (.one (.i .i64 (.x 15)))]) ⟨6, 0, 1, 0, 0, 0⟩
  (.ite (.not (.eqI (.x 15) (.c 0)))
  (.ret (.tup [(.one (.sl (.x 0))), (.agg [(.i .i64 (.x 15)), (.i .i64 (.add (.x 3) (.sub (.x 8) (.c 1)))), (.i .i64 (.x 9))])]))
  (.mk [(.i .u8 (.x 10)), (.i .i64 (.add (.x 3) (.sub (.x 8) (.c 1)))), (.i .i64 (.x 9)), (.i .i64 (.x 13)), (.s (.x 1))] 35 1
  (.app (.x 3) (.x 4) 5 48 35
  (.call (.c true) false 13 [(.one (.s (.x 0))), (.one (.i .i64 (.x 14)))] (.p (.one (.i .i64 (.x 16)))) ⟨1, 0, 0, 0, 0, 0⟩
  (.again 0 ⟨1, 0, 1, 0, 2, 0⟩ ⟨8, 0, 1, 0, 4, 0⟩ ⟨[(.x 16), (.x 1), (.add (.x 3) (.sub (.x 8) (.c 1))), (.x 9), (.x 5), (.x 6), (.x 7)], [], [], [], [(.x 2), (.x 5)], []⟩)))))))))
  (.need (.c true) (.and (.le (.c (-9223372036854775808)) (.sub (.x 9) (.c 1))) (.le (.sub (.x 9) (.c 1)) (.c 9223372036854775807)))
  (.need (.c true) (.and (.le (.c (-9223372036854775808)) (.add (.x 4) (.sub (.x 9) (.c 1)))) (.le (.add (.x 4) (.sub (.x 9) (.c 1))) (.c 9223372036854775807)))
  (.ite (.le (.len (.x 0)) (.x 1))
  (.mk [(.i .u8 (.c 8)), (.i .i64 (.x 3)), (.i .i64 (.add (.x 4) (.sub (.x 9) (.c 1)))), (.i .i64 (.c 0)), (.s (.c []))] 35 1
  (.app (.x 3) (.x 4) 5 48 35
  (.ret (.tup [(.one (.sl (.x 5))), (.agg [(.i .i64 (.c 0)), (.i .i64 (.c 0)), (.i .i64 (.c 0))])]))))
  (.call (.c true) false 15 [(.one (.s (.x 0))), (.one (.i .i64 (.x 1)))] (.tup [(.agg [(.i .u8 (.x 10)), (.i .i64 (.x 11)), (.i .i64 (.x 12)), (.i .i64 (.x 13)), (.s (.x 1))]), (.one (.i .i64 (.x 14))), (.one (.i .i64 (.x 15)))]) ⟨6, 0, 1, 0, 0, 0⟩
  (.ite (.not (.eqI (.x 15) (.c 0)))
  (.ret (.tup [(.one (.sl (.x 0))), (.agg [(.i .i64 (.x 15)), (.i .i64 (.x 3)), (.i .i64 (.add (.x 4) (.sub (.x 9) (.c 1))))])]))
  (.mk [(.i .u8 (.x 10)), (.i .i64 (.x 3)), (.i .i64 (.add (.x 4) (.sub (.x 9) (.c 1)))), (.i .i64 (.x 13)), (.s (.x 1))] 35 1
  (.app (.x 3) (.x 4) 5 48 35
  (.call (.c true) false 13 [(.one (.s (.x 0))), (.one (.i .i64 (.x 14)))] (.p (.one (.i .i64 (.x 16)))) ⟨1, 0, 0, 0, 0, 0⟩
  (.again 0 ⟨1, 0, 1, 0, 2, 0⟩ ⟨8, 0, 1, 0, 4, 0⟩ ⟨[(.x 16), (.x 1), (.x 3), (.add (.x 4) (.sub (.x 9) (.c 1))), (.x 5), (.x 6), (.x 7)], [], [], [], [(.x 2), (.x 5)], []⟩))))))))))))))))))
theorem gen_rtokens : genFn ⟨true, []⟩ Tryd.prog (fun l => ([⟨[8, 9, 7, 5, 2, 6], [25, 26, 27, 28, 29, 30, 31, 24, 32, 33, 10, 11, 34, 35, 36, 37, 38, 39, 40, 41, 42, 43, 44, 45, 46, 47, 48, 49, 50, 51, 52, 53, 54, 55, 56, 57, 59, 60, 61, 58, 62, 63, 64, 12, 13, 14, 65, 66, 67, 68, 69, 70, 71, 72, 73, 74, 75, 76, 77, 78, 79, 80, 81, 82], [3, 12]⟩] : List LAnn).getD l ⟨[], [], []⟩) Tryd.f8 = fm_rtokens := by kernel_rfl
theorem ps_rtokens : freshPs Tryd.prog .zero Tryd.f8.params.toList = some ([(.one (.s (.x 0)))], ⟨0, 0, 1, 0, 0, 0⟩) := by kernel_rfl
/-- Rows that are gathered. -/
structure GI (h : Hp) (sl : Slc) (xs : List Value) (ty : TypeId) (sz : Nat) (hh : Hp) : Prop where
  own : OwnS hh sl xs ty sz
  fresh : ∀ z, sl.a = some z → h z.1 = none
  kept : HLe h hh
theorem g_app {E : Env} {C : Ctx} {x y : LE} {f : Fm} {h : Hp} {sl : Slc} {xs : List Value} {ty : TypeId} {sz bytes : Nat} {hh : Hp} (I : GI h sl xs ty sz hh) (h1 : sl.n + 1 ≤ maxLen) (h2 : (sl.n + 1) * bytes ≤ 140737488355328) {b : Nat} (hb : hh b = none) {cs : List Value} (hcs : cs.length = sz) (ho : Ones cs)
    (hx : x.den C = sl) (hy : y.den C = ⟨some (b, 0), 1, 1⟩) (hC : C.h = hh.set b ⟨cs, ty⟩)
    (hk : ∀ s' k', GI h s' (xs ++ cs) ty sz k' → s'.n = sl.n + 1 → f.says E ((C.push ⟨[], [], [], [], [s'], []⟩).heap k')) :
    (Fm.app x y sz bytes ty f).says E C := by
  have hlt : ∀ z, sl.a = some z → z.1 ≠ b := fun z hz e => by
    rcases I.own with ⟨q, _⟩ | ⟨d, o, q1, q2, _⟩
    · rw [q] at hz; cases hz
    · rw [q1] at hz; cases hz; subst e; rw [hb] at q2; cases q2
  rw [says_app, hx, hy, hC]
  refine ⟨xs, cs, own_set I.own hlt _, ⟨by simp, ?_⟩, ho, h1, h2, fun s' k' g1 g2 g3 g4 => ?_⟩
  · rw [hread_set, if_pos (by simp [hcs])]
    simp [List.take_of_length_le, hcs]
  · refine hk s' k' ⟨g1, fun z hz => ?_, fun d o hd => ?_⟩ g2
    · rcases g3 z hz with ⟨y', hy', e⟩ | hn
      · rw [← e]; exact I.fresh y' hy'
      · have m1 : z.1 ≠ b := fun e => by rw [e, set_same] at hn; cases hn
        rw [set_ne _ m1] at hn
        cases hq : h z.1 with
        | none => rfl
        | some o => rw [I.kept _ _ hq] at hn; cases hn
    · refine g4 d o (fun z hz e => by have := I.fresh z hz; rw [e, hd] at this; cases this) ?_
      rw [set_ne _ (fun e => by have := I.kept d o hd; rw [e, hb] at this; cases this)]
      exact I.kept d o hd
theorem adv_one (l : List UInt8) : 1 ≤ (adv (1, 1) l).1 := by
  have : ∀ (l : List UInt8) (p : Int × Int), 1 ≤ p.1 → 1 ≤ (adv p l).1 := by
    intro l
    induction l with
    | nil => intro p h; exact h
    | cons c t ih =>
      intro p h
      refine ih (ad p c.toNat) ?_
      unfold ad; split <;> simp <;> omega
  exact this l (1, 1) (by decide)
theorem adv_rel (p : Int × Int) (l : List UInt8) : adv p l = if 1 < (adv (1, 1) l).1 then (p.1 + ((adv (1, 1) l).1 - 1), (adv (1, 1) l).2) else (p.1, p.2 + ((adv (1, 1) l).2 - 1)) := by
  have key : ∀ r : List UInt8, adv p r.reverse = if 1 < (adv (1, 1) r.reverse).1 then (p.1 + ((adv (1, 1) r.reverse).1 - 1), (adv (1, 1) r.reverse).2) else (p.1, p.2 + ((adv (1, 1) r.reverse).2 - 1)) := by
    intro r
    induction r with
    | nil => simp [adv]
    | cons c t ih =>
      have hs : ∀ q, adv q (c :: t).reverse = ad (adv q t.reverse) c.toNat := fun q => by
        rw [List.reverse_cons, adv_app]; rfl
      have h1 := adv_one t.reverse
      rw [hs p, hs (1, 1), ih]
      generalize adv (1, 1) t.reverse = r at *
      obtain ⟨a, b⟩ := r
      simp only at h1 ⊢
      unfold ad
      have h2 : 1 < a + 1 := by omega
      by_cases hc : (c.toNat : Int) = 10
      · by_cases ha : 1 < a <;> simp [hc, ha, h2] <;> omega
      · by_cases ha : 1 < a <;> simp [hc, ha] <;> omega
  have := key l.reverse
  rwa [List.reverse_reverse] at this
def tInv (h : Hp) (s : List UInt8) (_ : Nat) (C : Ctx) : Prop :=
  ∃ x0 i0 j frm line col d5 d6 d7 n0 o0 l2 sl acc hh m, C = ⟨[x0, (j : Nat), (frm : Nat), line, col, d5, d6, d7], [], [s], [], [n0, o0, l2, sl], [], hh, noM⟩ ∧ GI h sl (tcs acc) TK 5 hh ∧ sl.n = acc.length ∧ acc.length ≤ i0 ∧ i0 ≤ s.length ∧ j = i0 + ski false s i0 ∧ frm ≤ j ∧
    pl s frm = (line, col) ∧ s.length < m + i0 ∧ lexAll s = lexA m s i0 (pl s i0) acc ∧ n0.n = 0
set_option maxRecDepth 100000 in
set_option maxHeartbeats 8000000 in
def ctRTokens : Ct Tryd.prog where
  f := 8
  spec := fun args h φ => ∃ s, args = [.string (B s)] ∧ s.length ≤ 1000000 ∧
    (if 65536 < s.length then ∀ sl : Slc, sl.n = 0 → φ (.tuple #[sl.val, .agg #[.int .i64 3, .int .i64 0, .int .i64 0]]) h
      else if (lexAll s).1.1 = 0 then ∀ sl k, HLe h k → TS k sl (lexAll s).2 → φ (.tuple #[sl.val, .agg #[.int .i64 0, .int .i64 0, .int .i64 0]]) k
      else ∀ sl : Slc, sl.n = 0 → φ (.tuple #[sl.val, .agg #[.int .i64 (lexAll s).1.1, .int .i64 (lexAll s).1.2.1, .int .i64 (lexAll s).1.2.2]]) h)
  ok := by
    rintro args h φ w ⟨s, rfl, hlen, hφ⟩ hH
    refine ct_forget (by_fm Tryd.func8 gen_rtokens ps_rtokens [ctRSkip, ctPlace, ctROne] (fun v k => ∃ k', HLe k' k ∧ φ v k') (tInv h s) (fun _ C => ((s.length : Int) - C.i.getD 1 0).toNat) ⟨[], [], [s], [], [], [], h, noM⟩ ⟨rfl, rfl, rfl, rfl, rfl, rfl⟩ ones_nil ?_ w hH rfl)
    generalize hE : (⟨specOf _, _, _, _⟩ : Env) = E
    have s1 : E.spec 13 = ctRSkip.spec := by rw [← hE]; rfl
    have s2 : E.spec 14 = ctPlace.spec := by rw [← hE]; rfl
    have s3 : E.spec 15 = ctROne.spec := by rw [← hE]; rfl
    have ep : E.post = fun v k => ∃ k', HLe k' k ∧ φ v k' := by rw [← hE]
    have ei : E.inv = tInv h s := by rw [← hE]
    have em : E.meas = fun _ C => ((s.length : Int) - C.i.getD 1 0).toNat := by rw [← hE]
    clear hE
    unfold fm_rtokens
    rw [th_mk]
    intro b0 hb0
    have hle0 : HLe h (h.set b0 ⟨[], TK⟩) := hle_set hb0 _
    rw [then_step, th_ite]
    by_cases h6 : 65536 < s.length
    · rw [if_pos h6] at hφ
      rw [if_pos (by simp [go_sem]; omega), then_step, says_ret, ep]
      exact ⟨h, hle0, hφ ⟨some (b0, 0), 0, 0⟩ rfl⟩
    rw [if_neg h6] at hφ
    rw [if_neg (by simp [go_sem]; omega), then_step, th_mk]
    intro b1 hb1
    rw [then_step, th_call, if_pos (by rfl), s1]
    refine ⟨s, 0, rfl, by omega, by omega, by omega, (fun h => by cases h), ?_⟩
    simp [go_sem]
    rw [then_step]
    refine loop_intro ?_ ?_
    · rw [ei]
      have hb1' : (h.set b0 ⟨[], TK⟩) b1 = none := hb1
      refine ⟨ski false s 0, 0, ski false s 0, 0, 1, 1, 0, 0, 0, ⟨some (b0, 0), 0, 0⟩, ⟨some (b1, 0), 0, 0⟩, ⟨none, 0, 0⟩, ⟨some (b1, 0), 0, 0⟩, [], (h.set b0 ⟨[], TK⟩).set b1 ⟨[], TK⟩, s.length + 1, rfl, ⟨.inr ⟨b1, ⟨[], TK⟩, rfl, set_same _ _ _, rfl, rfl, Nat.le_refl _, Nat.zero_le _, rfl⟩, fun z hz => ?_, fun c o hc => hle_set hb1' _ c o (hle0 c o hc)⟩, rfl, Nat.le_refl _, by omega, by omega, by omega, by unfold pl; rw [sub_same]; rfl, by omega, rfl, rfl⟩
      cases hz
      cases hq : h b1 with
      | none => rfl
      | some o => rw [hle0 b1 o hq] at hb1'; cases hb1'
    · rw [ei, em]
      rintro i' bb ss v ll pp hh0 M ⟨x0, i0, j, frm, line, col, d5, d6, d7, n0, o0, l2, sl, acc, hh, m, hC, G, hn, hacc, hi0, hj, hfr, hpl, hm, hall, hn0⟩ hM
      cases hC
      have hM' : M 0 = ((s.length : Int) - j).toNat := hM
      clear hM hb0 hb1 hle0
      have hjl : j ≤ s.length := hj ▸ ski_le false hi0
      have hpj : adv (pl s frm) (sub s frm j) = pl s j := pl_add hfr hjl
      have hpi : adv (pl s i0) (sub s i0 j) = pl s j := pl_add (by omega) hjl
      have bj := pl_bd hjl
      have bf := pl_bd (show frm ≤ s.length by omega)
      obtain ⟨m', rfl⟩ : ∃ m', m = m' + 1 := ⟨m - 1, by omega⟩
      rw [lexA, ← hj, hpi] at hall
      have hdt : List.take (j - frm) (s.drop frm) = sub s frm j := by unfold sub; rw [List.drop_take]
      have hrel := adv_rel (pl s frm) (sub s frm j)
      rw [hpj, hpl] at hrel
      rw [hpl] at bf
      rw [th_need]
      refine ⟨by simp [go_sem]; omega, ?_⟩
      rw [then_step, th_need]
      refine ⟨by simp [go_sem]; omega, ?_⟩
      rw [then_step, th_call, if_pos (by rfl), s2]
      have hz1 : ((j : Int) - frm).toNat = j - frm := by omega
      refine ⟨s.drop frm, (j : Int) - frm, by simp [go_sem], by omega, by rw [List.length_drop]; omega, by rw [List.length_drop]; omega, (fun h => by cases h), ?_⟩
      have hsub0 : sub (s.drop frm) 0 (j - frm) = sub s frm j := by
        rw [← hdt]; rfl
      rw [hz1, hsub0]
      generalize adv (1, 1) (sub s frm j) = q at *
      obtain ⟨dl, dc⟩ := q
      simp only at hrel
      simp [go_sem]
      by_cases hd : 1 < dl
      · have hdl := hd
        rw [if_pos hd] at hrel
        rw [hrel] at hall bj
        simp only at hall bj
        rw [then_step, th_ite, if_pos (by simp [go_sem]; exact hd)]
        rw [then_step, th_need]
        refine ⟨by simp [go_sem]; omega, ?_⟩
        rw [then_step, th_need]
        refine ⟨by simp [go_sem]; omega, ?_⟩
        rw [then_step, th_ite]
        by_cases hje : j = s.length
        · rw [if_pos (by omega)] at hall
          rw [hall, if_pos rfl] at hφ
          rw [if_pos (by simp [go_sem]; omega), then_step, th_mk]
          intro b hb
          rw [then_step]
          refine g_app G (by unfold maxLen; omega) (by omega) hb (cs := (Tok.mk 8 (line + (dl - 1)) (dc) 0 []).cs) rfl (Tok.ones _) rfl rfl rfl (fun s' k' G' hn' => ?_)
          rw [says_ret, ep]
          exact ⟨k', fun _ _ h => h, hφ s' k' G'.kept (TS.of_own (by rw [tcs_app, tcs_one]; exact G'.own) (by rw [hn', hn]; simp))⟩
        rw [if_neg (by omega)] at hall
        rw [if_neg (by simp [go_sem]; omega), then_step, th_call, if_pos (by rfl), s3]
        have hjlt : j < s.length := by omega
        refine ⟨s, j, rfl, hjlt, by omega, ?_⟩
        by_cases hf : (one s j).f = 0
        · rw [if_pos hf] at hall ⊢
          obtain ⟨o1, o2, _⟩ := one_ok hjlt hf
          refine ⟨(fun h => by cases h), ?_⟩
          simp only [tkv]
          simp [go_sem]
          rw [then_step, th_ite, if_neg (by simp [go_sem]), then_step, th_mk]
          intro b hb
          rw [then_step]
          refine g_app G (by unfold maxLen; omega) (by omega) hb (cs := (Tok.mk (one s j).k (line + (dl - 1)) (dc) (one s j).n (one s j).x).cs) rfl (Tok.ones _) rfl rfl rfl (fun s' k' G' hn' => ?_)
          rw [th_call, if_pos (by rfl), s1]
          refine ⟨s, ((one s j).e : Nat), rfl, by omega, by omega, by omega, (fun h => by cases h), ?_⟩
          rw [Int.toNat_natCast]
          simp [go_sem]
          rw [then_step, says_again, ei, em]
          refine ⟨⟨x0, (one s j).e, (one s j).e + ski false s (one s j).e, j, line + (dl - 1), dc, d5, d6, d7, n0, o0, l2, s', acc ++ [⟨(one s j).k, line + (dl - 1), dc, (one s j).n, (one s j).x⟩], k', m', rfl, by rw [tcs_app, tcs_one]; exact G', by rw [hn', hn]; simp, by simp; omega, o2, rfl, by omega, hrel, by omega, by rw [hall, pl_add (by omega) o2], hn0⟩, ?_⟩
          show ((s.length : Int) - (((one s j).e : Int) + (ski false s (one s j).e : Int))).toNat < M 0
          omega
        · rw [if_neg hf] at hall ⊢
          rw [hall, if_neg hf] at hφ
          intro kk
          refine ⟨(fun h => by cases h), ?_⟩
          simp only [tkv]
          simp [go_sem]
          rw [then_step, th_ite, if_pos (by simp [go_sem]; exact hf), then_step, says_ret, ep]
          exact ⟨h, G.kept, hφ n0 hn0⟩
      · have hdl := hd
        rw [if_neg hd] at hrel
        rw [hrel] at hall bj
        simp only at hall bj
        rw [then_step, th_ite, if_neg (by simp [go_sem]; omega)]
        rw [then_step, th_need]
        refine ⟨by simp [go_sem]; omega, ?_⟩
        rw [then_step, th_need]
        refine ⟨by simp [go_sem]; omega, ?_⟩
        rw [then_step, th_ite]
        by_cases hje : j = s.length
        · rw [if_pos (by omega)] at hall
          rw [hall, if_pos rfl] at hφ
          rw [if_pos (by simp [go_sem]; omega), then_step, th_mk]
          intro b hb
          rw [then_step]
          refine g_app G (by unfold maxLen; omega) (by omega) hb (cs := (Tok.mk 8 (line) (col + (dc - 1)) 0 []).cs) rfl (Tok.ones _) rfl rfl rfl (fun s' k' G' hn' => ?_)
          rw [says_ret, ep]
          exact ⟨k', fun _ _ h => h, hφ s' k' G'.kept (TS.of_own (by rw [tcs_app, tcs_one]; exact G'.own) (by rw [hn', hn]; simp))⟩
        rw [if_neg (by omega)] at hall
        rw [if_neg (by simp [go_sem]; omega), then_step, th_call, if_pos (by rfl), s3]
        have hjlt : j < s.length := by omega
        refine ⟨s, j, rfl, hjlt, by omega, ?_⟩
        by_cases hf : (one s j).f = 0
        · rw [if_pos hf] at hall ⊢
          obtain ⟨o1, o2, _⟩ := one_ok hjlt hf
          refine ⟨(fun h => by cases h), ?_⟩
          simp only [tkv]
          simp [go_sem]
          rw [then_step, th_ite, if_neg (by simp [go_sem]), then_step, th_mk]
          intro b hb
          rw [then_step]
          refine g_app G (by unfold maxLen; omega) (by omega) hb (cs := (Tok.mk (one s j).k (line) (col + (dc - 1)) (one s j).n (one s j).x).cs) rfl (Tok.ones _) rfl rfl rfl (fun s' k' G' hn' => ?_)
          rw [th_call, if_pos (by rfl), s1]
          refine ⟨s, ((one s j).e : Nat), rfl, by omega, by omega, by omega, (fun h => by cases h), ?_⟩
          rw [Int.toNat_natCast]
          simp [go_sem]
          rw [then_step, says_again, ei, em]
          refine ⟨⟨x0, (one s j).e, (one s j).e + ski false s (one s j).e, j, line, col + (dc - 1), d5, d6, d7, n0, o0, l2, s', acc ++ [⟨(one s j).k, line, col + (dc - 1), (one s j).n, (one s j).x⟩], k', m', rfl, by rw [tcs_app, tcs_one]; exact G', by rw [hn', hn]; simp, by simp; omega, o2, rfl, by omega, hrel, by omega, by rw [hall, pl_add (by omega) o2], hn0⟩, ?_⟩
          show ((s.length : Int) - (((one s j).e : Int) + (ski false s (one s j).e : Int))).toNat < M 0
          omega
        · rw [if_neg hf] at hall ⊢
          rw [hall, if_neg hf] at hφ
          intro kk
          refine ⟨(fun h => by cases h), ?_⟩
          simp only [tkv]
          simp [go_sem]
          rw [then_step, th_ite, if_pos (by simp [go_sem]; exact hf), then_step, says_ret, ep]
          exact ⟨h, G.kept, hφ n0 hn0⟩
end Go.Proofs.YthlakehilhpojaaDoor
namespace Go.Proofs.YthlakehilhpojaaDoor
open Go.RowKit
attribute [local go_sem] says_tt says_ff th_need th_ite th_call th_callK th_load th_store says_ret says_again BE.den IE.den SE.den LE.den AE.den CE.den PE.den VE.den KV.val Got.den Got.cnt exI allI exL allL Ctx.push Ctx.heap Ctx.cut Ctx.bare Ctx.mark Inc.blank List.getD_cons_zero List.getD_cons_succ List.cons_append List.nil_append List.append_nil List.map_cons List.map_nil List.replicate_zero List.replicate_succ specOf ltB_t leB_t ltB_f leB_f slc_val slc_nil slc_inj pt_val pt_nil hle_noHeap hle_refl hread_set hwrite_set set_same set_set noHeap_at B_inj ones_nil and_assoc
def fm_lplc06 : Fm := (.ite (.lt (.c 1000) (.len (.x 0)))
  (.call (.c true) false 6 [] (.p (.one (.b (.x 0)))) ⟨0, 1, 0, 0, 0, 0⟩
  (.ret (.p (.one (.b (.x 0))))))
  (.call (.c true) false 7 [(.one (.s (.x 0)))] (.tup [(.one (.sl (.x 0))), (.agg [(.i .i64 (.x 0)), (.i .i64 (.x 1)), (.i .i64 (.x 2))])]) ⟨3, 0, 0, 0, 1, 0⟩
  (.ite (.not (.eqI (.x 0) (.c 0)))
  (.call (.eqI (.cnt (.x 0)) (.c 0)) false 6 [] (.p (.one (.b (.x 0)))) ⟨0, 1, 0, 0, 0, 0⟩
  (.ret (.p (.one (.b (.and (.eqI (.cnt (.x 0)) (.c 0)) (.x 0)))))))
  (.call (.c true) false 8 [(.one (.s (.x 0)))] (.tup [(.one (.sl (.x 1))), (.agg [(.i .i64 (.x 3)), (.i .i64 (.x 4)), (.i .i64 (.x 5))])]) ⟨3, 0, 0, 0, 1, 0⟩
  (.loop 0 ⟨[(.c 0)], [(.c false)], [], [], [], []⟩
  (.ite (.lt (.x 6) (.cnt (.x 0)))
  (.need (.eqI (.x 6) (.c 0)) (.and (.and (.le (.c 0) (.x 6)) (.lt (.x 6) (.cnt (.x 0)))) (.nns (.x 0)))
  (.need (.eqI (.x 6) (.c 0)) (.nns (.x 0))
  (.load (.eqI (.x 6) (.c 0)) (.el (.x 0) (.x 6) 6 1) 1 [(.i .i64 (.x 7))] ⟨1, 0, 0, 0, 0, 0⟩
  (.need (.and (.eqI (.x 6) (.c 0)) (.eqI (.x 7) (.c 1))) (.and (.and (.le (.c 0) (.x 6)) (.lt (.x 6) (.cnt (.x 0)))) (.nns (.x 0)))
  (.need (.and (.eqI (.x 6) (.c 0)) (.eqI (.x 7) (.c 1))) (.nns (.x 0))
  (.load (.and (.eqI (.x 6) (.c 0)) (.eqI (.x 7) (.c 1))) (.el (.x 0) (.x 6) 6 2) 1 [(.i .i64 (.x 8))] ⟨1, 0, 0, 0, 0, 0⟩
  (.need (.not (.and (.and (.eqI (.x 6) (.c 0)) (.eqI (.x 7) (.c 1))) (.eqI (.x 8) (.c 1)))) (.and (.and (.le (.c 0) (.x 6)) (.lt (.x 6) (.cnt (.x 0)))) (.nns (.x 0)))
  (.need (.not (.and (.and (.eqI (.x 6) (.c 0)) (.eqI (.x 7) (.c 1))) (.eqI (.x 8) (.c 1)))) (.nns (.x 0))
  (.load (.not (.and (.and (.eqI (.x 6) (.c 0)) (.eqI (.x 7) (.c 1))) (.eqI (.x 8) (.c 1)))) (.el (.x 0) (.x 6) 6 0) 1 [(.i .u8 (.x 9))] ⟨1, 0, 0, 0, 0, 0⟩
  (.need (.and (.not (.and (.and (.eqI (.x 6) (.c 0)) (.eqI (.x 7) (.c 1))) (.eqI (.x 8) (.c 1)))) (.eqI (.x 9) (.c 14))) (.and (.and (.le (.c 0) (.x 6)) (.lt (.x 6) (.cnt (.x 0)))) (.nns (.x 0)))
  (.need (.and (.not (.and (.and (.eqI (.x 6) (.c 0)) (.eqI (.x 7) (.c 1))) (.eqI (.x 8) (.c 1)))) (.eqI (.x 9) (.c 14))) (.nns (.x 0))
  (.load (.and (.not (.and (.and (.eqI (.x 6) (.c 0)) (.eqI (.x 7) (.c 1))) (.eqI (.x 8) (.c 1)))) (.eqI (.x 9) (.c 14))) (.el (.x 0) (.x 6) 6 1) 1 [(.i .i64 (.x 10))] ⟨1, 0, 0, 0, 0, 0⟩
  (.need (.and (.not (.and (.and (.eqI (.x 6) (.c 0)) (.eqI (.x 7) (.c 1))) (.eqI (.x 8) (.c 1)))) (.and (.eqI (.x 9) (.c 14)) (.eqI (.x 10) (.c 0)))) (.and (.and (.le (.c 0) (.x 6)) (.lt (.x 6) (.cnt (.x 0)))) (.nns (.x 0)))
  (.need (.and (.not (.and (.and (.eqI (.x 6) (.c 0)) (.eqI (.x 7) (.c 1))) (.eqI (.x 8) (.c 1)))) (.and (.eqI (.x 9) (.c 14)) (.eqI (.x 10) (.c 0)))) (.nns (.x 0))
  (.load (.and (.not (.and (.and (.eqI (.x 6) (.c 0)) (.eqI (.x 7) (.c 1))) (.eqI (.x 8) (.c 1)))) (.and (.eqI (.x 9) (.c 14)) (.eqI (.x 10) (.c 0)))) (.el (.x 0) (.x 6) 6 2) 1 [(.i .i64 (.x 11))] ⟨1, 0, 0, 0, 0, 0⟩
  (.loop 1 ⟨[(.c 0)], [(.or (.and (.and (.eqI (.x 6) (.c 0)) (.eqI (.x 7) (.c 1))) (.eqI (.x 8) (.c 1))) (.and (.and (.eqI (.x 9) (.c 14)) (.eqI (.x 10) (.c 0))) (.eqI (.x 11) (.c 0))))], [], [], [], []⟩
  (.ite (.and (.lt (.x 12) (.cnt (.x 1))) (.not (.x 1)))
  (.load (.c true) (.el (.x 1) (.x 12) 5 1) 1 [(.i .i64 (.x 13))] ⟨1, 0, 0, 0, 0, 0⟩
  (.load (.c true) (.el (.x 0) (.x 6) 6 1) 1 [(.i .i64 (.x 14))] ⟨1, 0, 0, 0, 0, 0⟩
  (.load (.eqI (.x 13) (.x 14)) (.el (.x 1) (.x 12) 5 2) 1 [(.i .i64 (.x 15))] ⟨1, 0, 0, 0, 0, 0⟩
  (.load (.eqI (.x 13) (.x 14)) (.el (.x 0) (.x 6) 6 2) 1 [(.i .i64 (.x 16))] ⟨1, 0, 0, 0, 0, 0⟩
  (.need (.c true) (.and (.and (.le (.c 0) (.x 12)) (.lt (.x 12) (.cnt (.x 1)))) (.nns (.x 1)))
  (.need (.c true) (.nns (.x 1))
  (.need (.c true) (.and (.and (.le (.c 0) (.x 6)) (.lt (.x 6) (.cnt (.x 0)))) (.nns (.x 0)))
  (.need (.c true) (.nns (.x 0))
  (.need (.eqI (.x 13) (.x 14)) (.and (.and (.le (.c 0) (.x 12)) (.lt (.x 12) (.cnt (.x 1)))) (.nns (.x 1)))
  (.need (.eqI (.x 13) (.x 14)) (.nns (.x 1))
  (.need (.eqI (.x 13) (.x 14)) (.and (.and (.le (.c 0) (.x 6)) (.lt (.x 6) (.cnt (.x 0)))) (.nns (.x 0)))
  (.need (.eqI (.x 13) (.x 14)) (.nns (.x 0))
  (.need (.c true) (.and (.le (.c (-9223372036854775808)) (.add (.x 12) (.c 1))) (.le (.add (.x 12) (.c 1)) (.c 9223372036854775807)))
  (.again 1 ⟨12, 1, 1, 0, 2, 0⟩ ⟨13, 2, 1, 0, 2, 0⟩ ⟨[(.add (.x 12) (.c 1))], [(.and (.eqI (.x 13) (.x 14)) (.eqI (.x 15) (.x 16)))], [], [], [], []⟩))))))))))))))
  (.ite (.not (.x 1))
  (.ret (.p (.one (.b (.c false)))))
  (.need (.c true) (.and (.le (.c (-9223372036854775808)) (.add (.x 6) (.c 1))) (.le (.add (.x 6) (.c 1)) (.c 9223372036854775807)))
  (.again 0 ⟨6, 0, 1, 0, 2, 0⟩ ⟨7, 1, 1, 0, 2, 0⟩ ⟨[(.add (.x 6) (.c 1))], [(.x 0)], [], [], [], []⟩))))))))))))))))))))
  (.call (.lt (.c 0) (.cnt (.x 0))) false 6 [] (.p (.one (.b (.x 1)))) ⟨0, 1, 0, 0, 0, 0⟩
  (.ret (.p (.one (.b (.and (.lt (.c 0) (.cnt (.x 0))) (.x 1)))))))))))))
theorem gen_lplc06 : genFn ⟨true, []⟩ Tryd.prog (fun l => ([⟨[2, 7], [33, 34, 35, 36, 39, 40, 41, 42, 43, 44, 45, 46, 47, 48, 49, 50, 51, 52, 53, 54, 55, 56, 57, 58, 59, 60, 61, 62, 63, 64, 65, 66, 67, 68, 69, 70, 71, 72, 73, 74, 75, 76, 77, 78, 79, 80, 8, 9, 81, 82, 83, 84, 85, 86, 87, 88, 91, 92, 93, 94, 95, 96, 97, 98, 99, 100, 101, 102, 103, 104, 105, 106, 107, 108, 109, 110, 111, 112, 113, 114, 89, 90, 115, 116, 37, 38], []⟩, ⟨[8, 9], [81, 82, 83, 84, 85, 86, 87, 88, 91, 92, 93, 94, 95, 96, 97, 98, 99, 100, 101, 102, 103, 104, 105, 106, 107, 108, 109, 110, 111, 112, 113, 114, 89, 90], []⟩] : List LAnn).getD l ⟨[], [], []⟩) Tryd.f3 = fm_lplc06 := by kernel_rfl
theorem ps_lplc06 : freshPs Tryd.prog .zero Tryd.f3.params.toList = some ([(.one (.s (.x 0)))], ⟨0, 0, 1, 0, 0, 0⟩) := by kernel_rfl
def SpN (j : Nat) (x : Nod) : Prop := j = 0 ∨ (x.k = 14 ∧ x.l = 0 ∧ x.c = 0)
def plcInv (s : List UInt8) (N : List Nod) (L : List Tok) : Nat → Ctx → Prop
  | 0, C => ∃ f0 f1 f2 g0 g1 g2, ∃ j : Nat, ∃ y sl tsl k, C = ⟨[f0, f1, f2, g0, g1, g2, (j : Nat)], [y], [s], [], [sl, tsl], [], k, noM⟩ ∧ NS k sl N ∧ TS k tsl L ∧ j ≤ N.length
  | _ + 1, C => ∃ f0 f1 f2 g0 g1 g2, ∃ j : Nat, ∃ x7 x8 x9 x10 x11, ∃ q : Nat, ∃ y0 y sl tsl k, C = ⟨[f0, f1, f2, g0, g1, g2, (j : Nat), x7, x8, x9, x10, x11, (q : Nat)], [y0, y], [s], [], [sl, tsl], [], k, noM⟩ ∧ NS k sl N ∧ TS k tsl L ∧ q ≤ L.length ∧
      ∃ hj : j < N.length, (y = true ∨ (¬ SpN j N[j] ∧ ∀ (i : Nat) (hi : i < L.length), i < q → ¬ (L[i].l = N[j].l ∧ L[i].c = N[j].c)))
def plcMeas (N : List Nod) (L : List Tok) : Nat → Ctx → Nat
  | 0, C => ((N.length : Int) - C.i.getD 6 0).toNat
  | _ + 1, C => ((L.length : Int) - C.i.getD 12 0).toNat
theorem root_nods (rl : List Tr) : (Tr.nd 1 1 1 0 [] rl).nods = ⟨1, 1, 1, Tr.szs rl, 0, []⟩ :: Tr.nodss rl := rfl
set_option maxHeartbeats 8000000 in
theorem law_places06_l (s : List UInt8) (w : World) : Calls Tryd.prog 3 #[.string (B s)] w fun e w' => e = .returned (.bool true) ∧ Below w.heap.size w w' := by
  by_cases hlen : 1000 < s.length
  · refine by_fm0 Tryd.func3 gen_lplc06 ps_lplc06 [ctAwake06] _ noInv noMeas ⟨[], [], [s], [], [], [], noHeap, noM⟩ rfl ⟨rfl, rfl, rfl, rfl, rfl, rfl⟩ ones_nil ?_ w rfl
    generalize hE : (⟨specOf _, _, _, _⟩ : Env) = E
    have s_a : E.spec 6 = ctAwake06.spec := by rw [← hE]; rfl
    have ep : E.post = fun v _ => v = .bool true := by rw [← hE]
    clear hE
    unfold fm_lplc06
    rw [th_ite, if_pos (by simp [go_sem]; omega)]
    rw [then_step, th_call, if_pos (by rfl), s_a]
    refine ⟨rfl, ?_⟩
    simp [go_sem]
    simp only [then_step]; simp [go_sem, ep]
  obtain ⟨⟨f, t⟩, hft⟩ := parse_some true s
  by_cases hf : f.1 = 0
  rotate_left
  · refine by_fm0 Tryd.func3 gen_lplc06 ps_lplc06 [ctAwake06, ctPParse] _ noInv noMeas ⟨[], [], [s], [], [], [], noHeap, noM⟩ rfl ⟨rfl, rfl, rfl, rfl, rfl, rfl⟩ ones_nil ?_ w rfl
    generalize hE : (⟨specOf _, _, _, _⟩ : Env) = E
    have s_a : E.spec 6 = ctAwake06.spec := by rw [← hE]; rfl
    have s_p : E.spec 7 = ctPParse.spec := by rw [← hE]; rfl
    have ep : E.post = fun v _ => v = .bool true := by rw [← hE]
    clear hE
    unfold fm_lplc06
    rw [th_ite, if_neg (by simp [go_sem]; omega)]
    rw [then_step, th_call, if_pos (by rfl), s_p]
    refine ⟨s, rfl, ?_⟩
    unfold parseS
    rw [if_neg (by omega)]
    intro f' t' hft'
    rw [hft] at hft'
    cases hft'
    rw [if_neg hf]
    simp [go_sem, fltv]
    rw [then_step, th_ite, if_pos (by simp [go_sem]; exact hf)]
    rw [then_step, th_call, if_pos (by simp [go_sem]), s_a]
    refine ⟨rfl, ?_⟩
    simp [go_sem]
    simp only [then_step]; simp [go_sem, ep]
  obtain ⟨hl0, htn, _, hroot⟩ := parse_red hft hf
  obtain ⟨rl, rfl, hplc⟩ := hroot rfl
  have T := toks_of hl0
  have hTl := T.len
  generalize hL : (lexAll s).2 = L at *
  obtain ⟨N, hN⟩ : ∃ N, N = (Tr.nd 1 1 1 0 [] rl).nods := ⟨_, rfl⟩
  have hNl : N.length = (Tr.nd 1 1 1 0 [] rl).n := by rw [hN]; rfl
  have hplcN : ∀ (j : Nat) (hj : j < N.length), ¬ SpN j N[j] → ∃ (i : Nat) (hi : i < L.length), L[i].l = N[j].l ∧ L[i].c = N[j].c := by
    intro j hj hsp
    have hj0 : j ≠ 0 := fun e => hsp (.inl e)
    obtain ⟨j', rfl⟩ : ∃ j', j = j' + 1 := ⟨j - 1, by omega⟩
    have hm : N[j' + 1] ∈ Tr.nodss rl := by
      have : N = ⟨1, 1, 1, Tr.szs rl, 0, []⟩ :: Tr.nodss rl := hN.trans (root_nods rl)
      subst this
      exact List.getElem_mem _
    rcases hplc _ hm with ⟨a, ha, h1, h2⟩ | h3
    · rw [List.getD_eq_getElem?_getD, List.getElem?_eq_getElem ha] at h1 h2
      exact ⟨a, ha, h1.symm, h2.symm⟩
    · exact absurd (.inr h3) hsp
  have h0 : ∀ h : 0 < N.length, N[0].l = 1 ∧ N[0].c = 1 := by
    intro h
    have : N = ⟨1, 1, 1, Tr.szs rl, 0, []⟩ :: Tr.nodss rl := hN.trans (root_nods rl)
    subst this
    exact ⟨rfl, rfl⟩
  have hNpos : 0 < N.length := by rw [hN, root_nods]; simp
  -- the loops, in memory
  have body : ∀ (E : Env) (k : Hp) (sl tsl : Slc), E.spec 6 = ctAwake06.spec → E.post = (fun v _ => v = .bool true) → E.inv = plcInv s N L → E.meas = plcMeas N L → NS k sl N → TS k tsl L →
      ∀ g0 g1 g2, Then E fm_lplc06.e.k.e.k ⟨[0, 0, 0, g0, g1, g2], [], [s], [], [sl, tsl], [], k, noM⟩ := by
    intro E k sl tsl s_a ep ei em hNS hTS g0 g1 g2
    unfold fm_lplc06
    simp only [Fm.k, Fm.e]
    rw [then_step]
    refine loop_intro ?_ ?_
    · rw [ei]
      exact ⟨_, _, _, _, _, _, 0, _, sl, tsl, k, rfl, hNS, hTS, Nat.zero_le _⟩
    rw [ei, em]
    rintro i' bb ss v ll pp hh M ⟨f0, f1, f2, g0, g1, g2, j, y, sl, tsl, k, hC, hNS, hTS, hj⟩ hM
    cases hC
    have hsln := hNS.1
    have htln := hTS.1
    obtain ⟨b, c, TT, r, rfl, hb⟩ := hNS.slc hNpos
    have hM' : M 0 = ((N.length : Int) - j).toNat := hM
    clear hM
    by_cases hjl : j < N.length
    rotate_left
    · rw [th_ite, if_neg (by simp [go_sem]; omega)]
      rw [then_step, th_call, if_pos (by simp [go_sem]; omega), s_a]
      refine ⟨rfl, ?_⟩
      simp [go_sem]
      simp only [then_step]; simp [go_sem, ep]
      omega
    have rd : ∀ (off n : Nat), off + n ≤ 6 → hread hh (some (b, j * 6 + off)) n = some ((N[j].cs.drop off).take n) := fun off n h => NS.read hb hjl h
    have r0 : hread hh (some (b, j * 6 + 0)) 1 = some [.int .u8 N[j].k] := rd 0 1 (by decide)
    have r1 : hread hh (some (b, j * 6 + 1)) 1 = some [.int .i64 N[j].l] := rd 1 1 (by decide)
    have r2 : hread hh (some (b, j * 6 + 2)) 1 = some [.int .i64 N[j].c] := rd 2 1 (by decide)
    have hN1 : ∀ k', NS k' ⟨some (b, 0), N.length, c⟩ N → hread k' (some (b, j * 6 + 1)) 1 = some [.int .i64 N[j].l] := fun k' h => by
      obtain ⟨b', c', _, _, e, h'⟩ := h.slc hjl
      cases e
      exact NS.read h' hjl (off := 1) (n := 1) (by decide)
    have hN2 : ∀ k', NS k' ⟨some (b, 0), N.length, c⟩ N → hread k' (some (b, j * 6 + 2)) 1 = some [.int .i64 N[j].c] := fun k' h => by
      obtain ⟨b', c', _, _, e, h'⟩ := h.slc hjl
      cases e
      exact NS.read h' hjl (off := 2) (n := 1) (by decide)
    have inner : ∀ (x7 x8 x9 x10 x11 : Int) (y1 : BE) (yv : Bool), y1.den ⟨[f0, f1, f2, g0, g1, g2, (j : Nat), x7, x8, x9, x10, x11], [y], [s], [], [⟨some (b, 0), N.length, c⟩, tsl], [], hh, M⟩ = yv → (yv = true ∨ ¬ SpN j N[j]) →
        Then E (.loop 1 ⟨[(.c 0)], [y1], [], [], [], []⟩ fm_lplc06.e.k.e.k.k.k.k.k.k.k.k.k.k.k.k.k.k.k.k.k.k.k) ⟨[f0, f1, f2, g0, g1, g2, (j : Nat), x7, x8, x9, x10, x11], [y], [s], [], [⟨some (b, 0), N.length, c⟩, tsl], [], hh, M⟩ := by
      intro x7 x8 x9 x10 x11 y1 yv hy1 hyv
      unfold fm_lplc06
      simp only [Fm.k, Fm.e]
      rw [then_step]
      refine loop_in ?_ ?_
      · rw [ei]
        refine ⟨f0, f1, f2, g0, g1, g2, j, x7, x8, x9, x10, x11, 0, y, yv, ⟨some (b, 0), N.length, c⟩, tsl, hh, by simp [go_sem, hy1], hNS, hTS, Nat.zero_le _, hjl, ?_⟩
        rcases hyv with h | h
        · exact .inl h
        · exact .inr ⟨h, fun i _ hi => by omega⟩
      rintro x h' M' hx hinv hM1 hM0
      rw [ei] at hinv
      rw [em] at hM1
      obtain ⟨f0', f1', f2', g0', g1', g2', j', x7', x8', x9', x10', x11', q, y0', yy, sl', tsl', k', hC, hNS', hTS', hq, hj', hyy⟩ := hinv
      obtain ⟨xi, xb, xs, xv, xl, xp⟩ := x
      have hxc : xi.length = 1 ∧ xb.length = 1 ∧ xs = [] ∧ xv = [] ∧ xl = [] ∧ xp = [] := by
        simp [Inc.cnt, Got.cnt] at hx
        simpa [List.length_eq_zero_iff] using hx
      obtain ⟨q1, q2, rfl, rfl, rfl, rfl⟩ := hxc
      obtain ⟨xq, rfl⟩ := List.length_eq_one_iff.1 q1
      obtain ⟨xy, rfl⟩ := List.length_eq_one_iff.1 q2
      simp [Ctx.push, Ctx.heap, Ctx.bare] at hC
      obtain ⟨⟨rfl, rfl, rfl, rfl, rfl, rfl, hjj, rfl, rfl, rfl, rfl, rfl, rfl⟩, ⟨rfl, rfl⟩, ⟨rfl, rfl⟩, rfl⟩ := hC
      obtain rfl : j = j' := by omega
      have hM1' : M' 1 = ((L.length : Int) - q).toNat := by rw [hM1]; rfl
      have hM0' : M' 0 = ((N.length : Int) - j).toNat := (hM0 0 (by decide)).trans hM'
      clear hM1 hM0 q1 q2 hx
      simp only [List.cons_append, List.nil_append, List.append_nil]
      by_cases hgo : q < L.length ∧ xy = false
      · obtain ⟨hql, rfl⟩ := hgo
        obtain ⟨hns, hall⟩ := hyy.resolve_left (by decide)
        obtain ⟨tb, tc, tT, tr, rfl, htb⟩ := hTS'.slc hql
        have r1 := hN1 _ hNS'
        have r2 := hN2 _ hNS'
        have t1 : hread h' (some (tb, q * 5 + 1)) 1 = some [.int .i64 L[q].l] := by
          have := TS.read htb hql
          exact hread_sub this (k := 1) (m := 1) (by decide)
        have t2 : hread h' (some (tb, q * 5 + 2)) 1 = some [.int .i64 L[q].c] := by
          have := TS.read htb hql
          exact hread_sub this (k := 2) (m := 1) (by decide)
        rw [th_ite, if_pos (by simp [go_sem]; omega)]
        rw [then_step, th_load, if_pos (by rfl)]
        refine (exI_iff _ _).2 ⟨⟨[L[q].l], [], [], [], [], []⟩, rfl, ones_nil, by simpa [go_sem] using t1, ?_⟩
        rw [then_step, th_load, if_pos (by rfl)]
        refine (exI_iff _ _).2 ⟨⟨[N[j].l], [], [], [], [], []⟩, rfl, ones_nil, by simpa [go_sem] using r1, ?_⟩
        have hjN : (j : Int) < N.length := by omega
        have hqL : (q : Int) < L.length := by omega
        by_cases he : L[q].l = N[j].l
        · rw [then_step, th_load, if_pos (by simp [go_sem, he])]
          refine (exI_iff _ _).2 ⟨⟨[L[q].c], [], [], [], [], []⟩, rfl, ones_nil, by simpa [go_sem] using t2, ?_⟩
          rw [then_step, th_load, if_pos (by simp [go_sem, he])]
          refine (exI_iff _ _).2 ⟨⟨[N[j].c], [], [], [], [], []⟩, rfl, ones_nil, by simpa [go_sem] using r2, ?_⟩
          iterate 8 (rw [then_step, th_need]; refine ⟨by simp [go_sem, hjN, hqL, he], ?_⟩)
          rw [then_step, th_need]
          refine ⟨by simp [go_sem]; omega, ?_⟩
          rw [then_step, says_again, ei, em]
          refine ⟨⟨f0, f1, f2, g0, g1, g2, j, x7, x8, x9, x10, x11, q + 1, y, L[q].c == N[j].c, ⟨some (b, 0), N.length, c⟩, _, h', by simp [go_sem, he], hNS', hTS', by omega, hjl, ?_⟩, ?_⟩
          · by_cases hc : L[q].c = N[j].c
            · exact .inl (by simp [hc])
            · refine .inr ⟨hns, fun i hi hiq => ?_⟩
              by_cases hiq' : i = q
              · subst hiq'; exact fun h => hc h.2
              · exact hall i hi (by omega)
          · simp only [plcMeas, go_sem]
            simp [go_sem]
            omega
        · rw [then_step, th_load, if_neg (by simp [go_sem, he])]
          rw [then_step, th_load, if_neg (by simp [go_sem, he])]
          iterate 4 (rw [then_step, th_need]; refine ⟨by simp [go_sem, hjN, hqL], ?_⟩)
          iterate 4 (rw [then_step, th_need]; refine ⟨by simp [go_sem, he], ?_⟩)
          rw [then_step, th_need]
          refine ⟨by simp [go_sem]; omega, ?_⟩
          rw [then_step, says_again, ei, em]
          refine ⟨⟨f0, f1, f2, g0, g1, g2, j, x7, x8, x9, x10, x11, q + 1, y, false, ⟨some (b, 0), N.length, c⟩, _, h', by simp [go_sem, he], hNS', hTS', by omega, hjl, ?_⟩, ?_⟩
          · refine .inr ⟨hns, fun i hi hiq => ?_⟩
            by_cases hiq' : i = q
            · subst hiq'; exact fun h => he h.1
            · exact hall i hi (by omega)
          · simp only [plcMeas, go_sem]
            simp [go_sem]
            omega
      · rw [th_ite, if_neg (by simp [go_sem]; intro h; by_cases hy : xy = true; exact hy; exact absurd ⟨by omega, by simpa using hy⟩ hgo)]
        have hy : xy = true := by
          rcases hyy with h | ⟨h1, h2⟩
          · exact h
          · by_cases hy : xy = true
            · exact hy
            · exfalso
              obtain ⟨i, hi, h3⟩ := hplcN j hjl h1
              exact h2 i hi (Classical.byContradiction fun hc => hgo ⟨by omega, by simpa using hy⟩) h3
        subst hy
        rw [then_step, th_ite, if_neg (by simp [go_sem])]
        rw [then_step, th_need]
        refine ⟨by simp [go_sem]; omega, ?_⟩
        rw [then_step, says_again, ei, em]
        refine ⟨⟨f0, f1, f2, g0, g1, g2, j + 1, y, ⟨some (b, 0), N.length, c⟩, tsl, h', by simp [go_sem], hNS', hTS', by omega⟩, ?_⟩
        simp only [plcMeas, go_sem]
        simp [go_sem]
        omega
    unfold fm_lplc06 at inner
    simp only [Fm.k, Fm.e] at inner
    have hjN : (j : Int) < N.length := by omega
    rw [th_ite, if_pos (by simp [go_sem]; omega)]
    by_cases hj0 : j = 0
    · subst hj0
      obtain ⟨e1, e2⟩ := h0 hjl
      rw [e1] at r1
      rw [e2] at r2
      iterate 2 (rw [then_step, th_need]; refine ⟨by simp [go_sem]; try omega, ?_⟩)
      rw [then_step, th_load, if_pos (by simp [go_sem])]
      refine (exI_iff _ _).2 ⟨⟨[1], [], [], [], [], []⟩, rfl, ones_nil, by simpa [go_sem] using r1, ?_⟩
      iterate 2 (rw [then_step, th_need]; refine ⟨by simp [go_sem]; try omega, ?_⟩)
      rw [then_step, th_load, if_pos (by simp [go_sem])]
      refine (exI_iff _ _).2 ⟨⟨[1], [], [], [], [], []⟩, rfl, ones_nil, by simpa [go_sem] using r2, ?_⟩
      iterate 3 (
        iterate 2 (rw [then_step, th_need]; refine ⟨by simp [go_sem], ?_⟩)
        rw [then_step, th_load, if_neg (by simp [go_sem])])
      exact inner _ _ _ _ _ _ true (by simp [go_sem]) (.inl rfl)
    · have hjz : ¬ (j : Int) = 0 := by omega
      have hjb : ((j : Int) == 0) = false := by simpa using hjz
      iterate 2 (
        iterate 2 (rw [then_step, th_need]; refine ⟨by simp [go_sem, hj0], ?_⟩)
        rw [then_step, th_load, if_neg (by simp [go_sem, hj0])])
      iterate 2 (rw [then_step, th_need]; refine ⟨by simp [go_sem, hjN], ?_⟩)
      rw [then_step, th_load, if_pos (by simp [go_sem])]
      refine (exI_iff _ _).2 ⟨⟨[N[j].k], [], [], [], [], []⟩, rfl, ones_nil, by simpa [go_sem] using r0, ?_⟩
      by_cases k14 : N[j].k = 14
      · iterate 2 (rw [then_step, th_need]; refine ⟨by simp [go_sem, hjN], ?_⟩)
        rw [then_step, th_load, if_pos (by simp [go_sem, k14])]
        refine (exI_iff _ _).2 ⟨⟨[N[j].l], [], [], [], [], []⟩, rfl, ones_nil, by simpa [go_sem] using r1, ?_⟩
        by_cases l0 : N[j].l = 0
        · iterate 2 (rw [then_step, th_need]; refine ⟨by simp [go_sem, hjN], ?_⟩)
          rw [then_step, th_load, if_pos (by simp [go_sem, k14, l0])]
          refine (exI_iff _ _).2 ⟨⟨[N[j].c], [], [], [], [], []⟩, rfl, ones_nil, by simpa [go_sem] using r2, ?_⟩
          by_cases c0 : N[j].c = 0
          · exact inner _ _ _ _ _ _ true (by simp [go_sem, k14, l0, c0]) (.inl rfl)
          · exact inner _ _ _ _ _ _ false (by simp [go_sem, c0]) (.inr fun h => by rcases h with h | h; exact hj0 h; exact c0 h.2.2)
        · iterate 2 (rw [then_step, th_need]; refine ⟨by simp [go_sem, l0], ?_⟩)
          rw [then_step, th_load, if_neg (by simp [go_sem, l0])]
          exact inner _ _ _ _ _ _ false (by simp [go_sem, l0]) (.inr fun h => by rcases h with h | h; exact hj0 h; exact l0 h.2.1)
      · iterate 2 (rw [then_step, th_need]; refine ⟨by simp [go_sem, k14], ?_⟩)
        rw [then_step, th_load, if_neg (by simp [go_sem, k14])]
        iterate 2 (rw [then_step, th_need]; refine ⟨by simp [go_sem, k14], ?_⟩)
        rw [then_step, th_load, if_neg (by simp [go_sem, k14])]
        exact inner _ _ _ _ _ _ false (by simp [go_sem, k14]) (.inr fun h => by rcases h with h | h; exact hj0 h; exact k14 h.1)
  refine by_fm0 Tryd.func3 gen_lplc06 ps_lplc06 [ctAwake06, ctPParse, ctRTokens] _ (plcInv s N L) (plcMeas N L) ⟨[], [], [s], [], [], [], noHeap, noM⟩ rfl ⟨rfl, rfl, rfl, rfl, rfl, rfl⟩ ones_nil ?_ w rfl
  generalize hE : (⟨specOf _, _, _, _⟩ : Env) = E
  have s_a : E.spec 6 = ctAwake06.spec := by rw [← hE]; rfl
  have s_p : E.spec 7 = ctPParse.spec := by rw [← hE]; rfl
  have s_t : E.spec 8 = ctRTokens.spec := by rw [← hE]; rfl
  have ep : E.post = fun v _ => v = .bool true := by rw [← hE]
  have ei : E.inv = plcInv s N L := by rw [← hE]
  have em : E.meas = plcMeas N L := by rw [← hE]
  clear hE
  unfold fm_lplc06 at body ⊢
  simp only [Fm.k, Fm.e] at body
  rw [th_ite, if_neg (by simp [go_sem]; omega)]
  rw [then_step, th_call, if_pos (by rfl), s_p]
  refine ⟨s, rfl, ?_⟩
  unfold parseS
  rw [if_neg (by omega)]
  intro f' t' hft'
  rw [hft] at hft'
  cases hft'
  rw [if_pos hf]
  intro sl k hk ho hn
  have hNS : NS k sl N := NS.of_own (by rw [hN]; exact ho) (by rw [hn, hNl])
  simp [go_sem, fltv]
  rw [then_step, th_ite, if_neg (by simp [go_sem])]
  rw [then_step, th_call, if_pos (by rfl), s_t]
  refine ⟨s, rfl, by omega, ?_⟩
  rw [if_neg (by omega), if_pos hl0, hL]
  intro tsl k2 hk2 hTS
  simp [go_sem]
  exact body E k2 sl tsl s_a ep ei em (hNS.le hk2) hTS _ _ _
theorem law_places06 (s : ByteArray) (w : World) : Calls Tryd.prog 3 #[.string s] w fun e w' => e = .returned (.bool true) ∧ Below w.heap.size w w' := by
  rw [string_B s]; exact law_places06_l _ w
end Go.Proofs.YthlakehilhpojaaDoor
namespace Go.Proofs.YthlakehilhpojaaDoor
open Go.ChangeShapes Go.WideShapes Go.ChangeAt Go.RowKit

theorem own : ownKnob Tryd.prog.godebug = none := by kernel_rfl
theorem laidOutB : laidOutB Tryd.prog = true := by kernel_rfl

/-- Arguments below a world's end read again as they did. -/
theorem all_stay {H : Type} {enc : TypeId × Value → H} {W W' : World} (hb : Below W.heap.size W W') :
    ∀ (ts : List TypeId) (vs : List Value) (ds : List (DataW H)) (ps : List MemPlace), (∀ t ∈ ts, Tryd.prog.readableRec t = true ∧ t < Tryd.prog.types.size) → (∀ x ∈ ps, x.block < W.heap.size) →
    DataW.TrodAll enc Tryd.prog W 0 (fun _ => true) true ts vs ds ps → DataW.TrodAll enc Tryd.prog W' 0 (fun b => decide (b < W.heap.size)) true ts vs ds ps := by
  intro ts
  induction ts with
  | nil =>
    intro vs ds ps _ _ h
    obtain ⟨rfl, rfl, rfl⟩ := trodAll_nil h
    exact trodAll_mk0
  | cons t ts ih =>
    intro vs ds ps ht hp h
    obtain ⟨v, vs', d, ds', p, q, rfl, rfl, rfl, h1, h2⟩ := trodAll_cons h
    have h3 := ht t (by simp)
    exact trodAll_cons_mk (Below.trod laidOutB h3.1 h3.2 h1 hb (fun x hx => hp x (by simp [hx]))) (ih vs' ds' q (fun u hu => ht u (by simp [hu])) (fun x hx => hp x (by simp [hx])) h2)

/-- A LAW's END: it answers true, and below the world's end nothing has turned. -/
theorem law_end {H : Type} {enc : TypeId × Value → H} {s : ChangeSpec} {f : Func} {W W' : World} {args : Array Value} {ds gs : List (DataW H)} {before : List MemPlace}
    (hv : s.vars = []) (hres : f.resultTypes.toList = [4]) (hs1 : f.resultTypes.size = 1) (hts : ∀ t ∈ f.params.toList, Tryd.prog.readableRec t = true ∧ t < Tryd.prog.types.size)
    (hfn : s.fn H ds = { results := [.lit (.bool true)], args := ds })
    (hW : DataW.Whole enc Tryd.prog f.params.toList s.vars false W args.toList ds gs before) (hb : Below W.heap.size W W') :
    s.post enc Tryd.prog f false true false false W args (.bool true) W' := by
  have hW0 := hW
  have hlt := hW.lt
  obtain ⟨p, q, hA, hV, hpq, hfz, hnd⟩ := hW
  rw [hv] at hV
  obtain ⟨rfl, rfl⟩ := trodVars_none hV
  rw [List.append_nil] at hpq
  subst hpq
  have e : s.fn H (ds ++ []) = { results := [.lit (.bool true)], args := ds } := by rw [List.append_nil]; exact hfn
  refine ⟨ds, [], before, [], before, [], hW0, ?_, ?_, ?_, hb.frame _, fun h => by cases h⟩
  · rw [e, hres, hs1]
    exact trodAll_mk1 (shut_bool Tryd.underlying4 true)
  · rw [e]
    exact all_stay hb _ _ _ _ hts hlt hA
  · rw [e, hv]; rfl
end Go.Proofs.YthlakehilhpojaaDoor
namespace Go.Proofs.YthlakehilhpojaaDoor
open Go.ChangeShapes Go.WideShapes Go.ChangeAt Go.RowKit

def firstCells : Array Value := (Lib.firstTab.map (Value.int .u8)).toArray
def acceptCells : Array Value := #[.int .u8 128, .int .u8 191, .int .u8 160, .int .u8 191, .int .u8 128, .int .u8 159, .int .u8 144, .int .u8 191, .int .u8 128, .int .u8 143, .int .u8 0, .int .u8 0, .int .u8 0, .int .u8 0, .int .u8 0, .int .u8 0, .int .u8 0, .int .u8 0, .int .u8 0, .int .u8 0, .int .u8 0, .int .u8 0, .int .u8 0, .int .u8 0, .int .u8 0, .int .u8 0, .int .u8 0, .int .u8 0, .int .u8 0, .int .u8 0, .int .u8 0, .int .u8 0]
def putCells (c : Array Value) : Obj → Obj
  | .cells _ t frozen => .cells c t frozen
  | o => o
noncomputable def laidWorld (os : Os) : World :=
  { World.holding Tryd.prog os ⟨#[], #[], []⟩ with heap := ((World.holding Tryd.prog os ⟨#[], #[], []⟩).heap.modify 0 (putCells firstCells)).modify 1 (putCells acceptCells) }
end Go.Proofs.YthlakehilhpojaaDoor
namespace Go.Proofs.YthlakehilhpojaaDoor.parsePlaces
open Go.ChangeShapes Go.WideShapes Go.ChangeAt Go.RowKit Go.Joins
open Go.ChangeMaps (open_string)

theorem param_types : ∀ t ∈ Tryd.f3.params.toList, Tryd.prog.readableRec t = true ∧ t < Tryd.prog.types.size := by
  rw [Tryd.params3]
  intro t ht
  have hm : t ∈ [9] := by simpa using ht
  have hall : ([9].all fun u => Tryd.prog.readableRec u && decide (u < Tryd.prog.types.size)) = true := by kernel_rfl
  have := List.all_eq_true.1 hall t hm
  simpa using this

set_option maxRecDepth 100000 in
theorem contract (H : Type) (enc : TypeId × Value → H) (W : World) (base : Nat) (args : Array Value) (ds gs : List (DataW H)) (before : List MemPlace)
    (hval : ∀ (j : Nat) t v, Tryd.f3.params[j]? = some t → args[j]? = some v → Value.okWide Tryd.prog W .any base t v)
    (hW : DataW.Whole enc Tryd.prog Tryd.f3.params.toList Rows.parsePlacesSpec.vars false W args.toList ds gs before) (_hL : laidMetH Tryd.prog Rows.parsePlacesRow.laid W) :
    Calls Tryd.prog 3 args W fun e W' => ∃ v, e = .returned v ∧ Rows.parsePlacesSpec.post enc Tryd.prog Tryd.f3 false true false false W args v W' := by
  have hW' := hW
  obtain ⟨p, q, hA0, hV, rfl, hfz, hnd⟩ := hW
  have hA : DataW.TrodAll enc Tryd.prog W 0 (fun _ => true) true Tryd.f3.params.toList args.toList ds p := hA0
  rw [Tryd.params3] at hA hval
  obtain ⟨v0, vs0, d0, ds0, p0, q0, hargs, rfl, rfl, h0, r0⟩ := trodAll_cons hA
  obtain ⟨rfl, rfl, rfl⟩ := trodAll_nil r0
  obtain rfl : args = #[v0] := by cases args; simp_all
  obtain ⟨x0, rfl, rfl, rfl, w0⟩ := open_string Tryd.underlying9 (hval 0 9 v0 rfl rfl) h0
  refine (law_places06 x0 W).mono fun e W' ⟨he, hb⟩ => ?_
  subst he
  exact ⟨_, rfl, law_end rfl (by kernel_rfl) (by kernel_rfl) param_types rfl hW' hb⟩

theorem laid_met (os : Os) : laidMet Tryd.prog Rows.parsePlacesRow.laid ((laidWorld os).forCall (fun _ _ => 0) ⟨#[], #[.string ⟨#[]⟩], []⟩).memory :=
  laidMet_of_run' 8 (by kernel_rfl) (by kernel_rfl)
theorem reads (os : Os) {H : Type} (enc : TypeId × Value → H) : ∃ places, DataW.whole enc Tryd.prog ((laidWorld os).forCall (fun _ _ => 0) ⟨#[], #[.string ⟨#[]⟩], []⟩).memory Tryd.f3.params.toList Rows.parsePlacesSpec.vars false (#[.string ⟨#[]⟩] : Array Value).toList 8 = some ([.lit (.string [])], [], places) :=
  ⟨[], by kernel_rfl⟩

set_option maxRecDepth 100000 in
theorem lifted (os : Os) (started : os.Started) (H : Type) (enc : TypeId × Value → H) (F : Stop.Interp) :
    ReturnsInHanded {} Tryd.checked os 3 .any ((OpenSpec.ofChange Rows.parsePlacesSpec).preRow enc Tryd.prog Tryd.f3 Rows.parsePlacesRow.domain false Rows.parsePlacesRow.laid) (((OpenSpec.ofChange Rows.parsePlacesSpec).at F).post enc Tryd.prog Tryd.f3 false true false false) := by
  obtain ⟨places, hx⟩ := reads os enc
  refine returnsInHanded_of_row (C := Tryd.checked) (s := OpenSpec.ofChange Rows.parsePlacesSpec) own started (by kernel_rfl) Tryd.func3
    (witness_row_at (enc := enc) (C := Tryd.checked) false (laidWorld os) #[.string ⟨#[]⟩] rfl (by kernel_rfl) (by kernel_rfl) (by kernel_rfl)
      (OpenSpec.preRow_of_cond 8 hx (by kernel_rfl) (fun k hk => by cases hk) (by kernel_rfl) (laid_met os))) ?_
  intro W base args ds gs before hval hW _ _ _ hL _ _
  exact contract H enc W base args ds gs before hval hW hL

theorem said : Rows.ParsePlacesSaid :=
  OpenClaim.holds_of_cond 3 Tryd.f3 rfl rfl rfl rfl rfl rfl rfl ⟨rfl, rfl, rfl, rfl, rfl⟩ rfl rfl rfl rfl rfl (by kernel_rfl) Tryd.func3 (by kernel_rfl)
    (of_decide_eq_true (by kernel_rfl)) (by unfold Func.isWrapper; first | (rw [if_pos (by decide +kernel)]; kernel_rfl) | (rw [if_neg (by decide +kernel)]; exact ⟨rfl, rfl⟩))
    (fun os started H enc _ F => by rw [OpenClaim.pre_eq_preRow]; exact lifted os started H enc F)

theorem plain (f : FuncId) (fn : Func) (hf : Tryd.pinned.checked.prog.funcNamed "hindcast/hindcastlaw06.ParsePlaces" = some f) (hfn : Tryd.pinned.checked.prog.funcs[f]? = some fn) :
    false = Tryd.pinned.checked.prog.looks [] ∧ ∀ (j : Nat) t, fn.params[j]? = some t → Tryd.pinned.checked.prog.wantsStandIn t = false := by
  obtain rfl : f = 3 := Option.some.inj ((show Tryd.prog.funcNamed "hindcast/hindcastlaw06.ParsePlaces" = some 3 by kernel_rfl).symm.trans hf) |>.symm
  obtain rfl : fn = Tryd.f3 := (Option.some.inj (Tryd.func3.symm.trans hfn)).symm
  refine ⟨by kernel_rfl, fun j t ht => ?_⟩
  rw [Tryd.params3] at ht
  have hm : t ∈ [9] := by simpa using Array.mem_of_getElem? ht
  have hall : ([9].all fun u => !Tryd.prog.wantsStandIn u) = true := by kernel_rfl
  exact (show Tryd.prog.wantsStandIn t = false by simpa using List.all_eq_true.1 hall t hm)

/-- THE CARD. -/
theorem card : Rows.ParsePlacesCardSaid :=
  Claim7.holds_tied_plain_at .later [] _ _ _ _ said (fun _ h => by cases h) (by kernel_rfl) (fun _ h => by cases h) parsePlaces_row_tie rfl ⟨rfl, rfl⟩ (by kernel_rfl) rfl plain (by kernel_rfl)
end Go.Proofs.YthlakehilhpojaaDoor.parsePlaces
