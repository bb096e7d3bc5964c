/- hindcastlaw06: texts joined: ParRB, ParRC, ParRD, ParRE, ParRF, EngV, ParRGA, ParRG, ParRH, ParRI, LexW, LexY, LexX, LexZ, LexZA, LexZB. -/
import Derived.Test.YthlakehilhpojaaGreatDoorPeg
namespace Go.Proofs.YthlakehilhpojaaGreatDoor
open Go.RowKit
attribute [local go_sem] says_tt says_ff th_need th_ite th_call th_callK th_load th_store says_ret says_again BE.den IE.den SE.den LE.den AE.den CE.den PE.den VE.den KV.val Got.den Got.cnt exI allI exL allL Ctx.push Ctx.heap Ctx.cut Ctx.bare Ctx.mark Inc.blank List.getD_cons_zero List.getD_cons_succ List.cons_append List.nil_append List.append_nil List.map_cons List.map_nil List.replicate_zero List.replicate_succ specOf ltB_t leB_t ltB_f leB_f slc_val slc_nil slc_inj pt_val pt_nil hle_noHeap hle_refl hread_set hwrite_set set_same set_set noHeap_at B_inj ones_nil and_assoc
def fm_rnode : Fm := (.mk [(.i .u8 (.x 0)), (.i .i64 (.x 2)), (.i .i64 (.x 3)), (.i .i64 (.cnt (.x 0))), (.i .i64 (.x 5)), (.s (.x 1))] 32 1
  (.app (.x 1) (.x 0) 6 56 32
  (.ret (.p (.one (.sl (.x 2)))))))
theorem gen_rnode : genFn ⟨true, []⟩ Tryz.prog (fun l => ([] : List LAnn).getD l ⟨[], [], []⟩) Tryz.f31 = fm_rnode := by kernel_rfl
theorem ps_rnode : freshPs Tryz.prog .zero Tryz.f31.params.toList = some ([(.one (.i .u8 (.x 0))), (.agg [(.i .u8 (.x 1)), (.i .i64 (.x 2)), (.i .i64 (.x 3)), (.i .i64 (.x 4)), (.s (.x 0))]), (.one (.s (.x 1))), (.one (.i .i64 (.x 5))), (.one (.sl (.x 0)))], ⟨6, 0, 2, 0, 1, 0⟩) := by kernel_rfl
def fm_rjoin : Fm := (.mk [] 32 0
  (.app (.x 2) (.x 0) 6 56 32
  (.app (.x 3) (.x 1) 6 56 32
  (.ret (.p (.one (.sl (.x 4))))))))
theorem gen_rjoin : genFn ⟨true, []⟩ Tryz.prog (fun l => ([] : List LAnn).getD l ⟨[], [], []⟩) Tryz.f32 = fm_rjoin := by kernel_rfl
theorem ps_rjoin : freshPs Tryz.prog .zero Tryz.f32.params.toList = some ([(.one (.sl (.x 0))), (.one (.sl (.x 1)))], ⟨0, 0, 0, 0, 2, 0⟩) := by kernel_rfl
def ctROpens : Ct Tryz.prog where
  f := 56
  spec := fun args h φ => ∃ sl L r s, args = [rv sl r, .string (B s)] ∧ RW h sl L r ∧ φ (rv sl (rOpen L s r)) h
  ok := by
    rintro args h φ w ⟨sl, L, r, s, rfl, W, hφ⟩ hH
    refine by_fm Tryz.func56 gen_ropens ps_ropens [ctRIs, ctRFail, ctRMust] φ (noInv) (noMeas) ⟨[(r.a : Int), r.d, r.f.1, r.f.2.1, r.f.2.2], [], [s], [], [sl], [], h, noM⟩ ⟨rfl, rfl, rfl, rfl, rfl, rfl⟩ ones_nil ?_ w hH rfl
    generalize hE : (⟨specOf _, _, _, _⟩ : Env) = E
    have s_ctRIs : E.spec 28 = (ctRIs).spec := by rw [← hE]; rfl
    have s_ctRFail : E.spec 33 = (ctRFail).spec := by rw [← hE]; rfl
    have s_ctRMust : E.spec 30 = (ctRMust).spec := by rw [← hE]; rfl
    have ep : E.post = φ := by rw [← hE]
    clear hE
    unfold fm_ropens
    have h0 := W.d0
    have h1 := W.d1
    have hm := (adv_must W.lw s r).d
    rw [th_call, if_pos (by rfl), s_ctRIs]
    refine ⟨sl, L, r, s, rfl, W, ?_⟩
    unfold rOpen at hφ
    simp [go_sem]
    by_cases hc : (pIs L s r && decide (40 ≤ r.d)) = true
    · rw [if_pos hc] at hφ
      rw [then_step, th_ite, if_pos (by simpa [go_sem] using hc)]
      rw [then_step, th_call, if_pos (by rfl), s_ctRFail]
      refine ⟨sl, L, r, 6, rfl, W, ?_⟩
      simp [go_sem, rv]
      simp only [then_step]; simp [go_sem, ep]
      exact hφ
    · rw [if_neg hc] at hφ
      rw [then_step, th_ite, if_neg (by simpa [go_sem] using hc)]
      rw [then_step, th_call, if_pos (by rfl), s_ctRMust]
      refine ⟨sl, L, r, s, rfl, W, ?_⟩
      simp [go_sem, rv]
      rw [then_step, th_need]
      refine ⟨by simp [go_sem]; omega, ?_⟩
      simp only [then_step]; simp [go_sem, ep]
      exact hφ
def ctRShuts : Ct Tryz.prog where
  f := 84
  spec := fun args h φ => ∃ sl L r s, args = [rv sl r, .string (B s)] ∧ RW h sl L r ∧ φ (rv sl (pShut L s r)) h
  ok := by
    rintro args h φ w ⟨sl, L, r, s, rfl, W, hφ⟩ hH
    refine by_fm Tryz.func84 gen_rshuts ps_rshuts [ctRMust] φ (noInv) (noMeas) ⟨[(r.a : Int), r.d, r.f.1, r.f.2.1, r.f.2.2], [], [s], [], [sl], [], h, noM⟩ ⟨rfl, rfl, rfl, rfl, rfl, rfl⟩ ones_nil ?_ w hH rfl
    generalize hE : (⟨specOf _, _, _, _⟩ : Env) = E
    have s_ctRMust : E.spec 30 = (ctRMust).spec := by rw [← hE]; rfl
    have ep : E.post = φ := by rw [← hE]
    clear hE
    unfold fm_rshuts
    have h0 := W.d0
    have h1 := W.d1
    have hm := (adv_must W.lw s r).d
    rw [th_call, if_pos (by rfl), s_ctRMust]
    refine ⟨sl, L, r, s, rfl, W, ?_⟩
    simp [go_sem, rv]
    rw [then_step, th_need]
    refine ⟨by simp [go_sem]; omega, ?_⟩
    simp only [then_step]; simp [go_sem, ep]
    exact hφ
def ctRfWord : Ct Tryz.prog where
  f := 85
  spec := fun args h φ => ∃ sl L r k, args = [rv sl r, .int .u8 k] ∧ k ≠ 8 ∧ RW h sl L r ∧ φ (.tuple #[tokv (tk L r), rv sl (pWord L k r)]) h
  ok := by
    rintro args h φ w ⟨sl, L, r, k, rfl, h8, W, hφ⟩ hH
    refine by_fm Tryz.func85 gen_rword6 ps_rword6 [ctRNow, ctRBad, ctRFail] φ (noInv) (noMeas) ⟨[(r.a : Int), r.d, r.f.1, r.f.2.1, r.f.2.2, k], [], [], [], [sl], [], h, noM⟩ ⟨rfl, rfl, rfl, rfl, rfl, rfl⟩ ones_nil ?_ w hH rfl
    generalize hE : (⟨specOf _, _, _, _⟩ : Env) = E
    have s_ctRNow : E.spec 29 = (ctRNow).spec := by rw [← hE]; rfl
    have s_ctRBad : E.spec 34 = (ctRBad).spec := by rw [← hE]; rfl
    have s_ctRFail : E.spec 33 = (ctRFail).spec := by rw [← hE]; rfl
    have ep : E.post = φ := by rw [← hE]
    clear hE
    unfold fm_rword6
    have hl := W.len
    have ha := W.at'
    rw [th_call, if_pos (by rfl), s_ctRNow]
    refine ⟨sl, L, r, rfl, W, ?_⟩
    simp [go_sem, tokv, tkv]
    rw [then_step, th_call, if_pos (by rfl), s_ctRBad]
    refine ⟨sl, r, rfl, ?_⟩
    simp [go_sem]
    unfold pWord at hφ
    by_cases hc : (r.bad || !((tk L r).k == k)) = true
    · rw [if_pos hc] at hφ
      rw [then_step, th_ite, if_pos (by simpa [go_sem] using hc)]
      rw [then_step, th_call, if_pos (by rfl), s_ctRFail]
      refine ⟨sl, L, r, 5, rfl, W, ?_⟩
      simp [go_sem, rv]
      simp only [then_step]; simp [go_sem, ep]
      exact hφ
    · rw [if_neg hc] at hφ
      rw [then_step, th_ite, if_neg (by simpa [go_sem] using hc)]
      have hk : (tk L r).k = k := by
        simp only [Bool.or_eq_true, Bool.not_eq_true', beq_eq_false_iff_ne, not_or, ne_eq, Decidable.not_not] at hc
        exact hc.2
      unfold pPass at hφ
      rw [if_neg (by rw [hk]; exact h8)] at hφ
      rw [then_step, th_need]
      refine ⟨by simp [go_sem]; omega, ?_⟩
      simp only [then_step]; simp [go_sem, ep]
      simpa [rv, tokv, tkv] using hφ
/-- A row of nodes whose block is known. -/
def NW (h : Hp) (sl : Slc) (l : List Nod) : Prop := ∃ b c T r, sl = ⟨some (b, 0), l.length, c⟩ ∧ h b = some ⟨ncs l ++ r, T⟩
theorem NW.le {h k : Hp} {sl : Slc} {l : List Nod} (ht : NW h sl l) (hl : HLe h k) : NW k sl l := by
  obtain ⟨b, c, T, r, h1, h2⟩ := ht
  exact ⟨b, c, T, r, h1, hl _ _ h2⟩
theorem NW.len {h : Hp} {sl : Slc} {l : List Nod} (ht : NW h sl l) : sl.n = l.length := by
  obtain ⟨b, c, T, r, h1, h2⟩ := ht
  rw [h1]
theorem NW.mk {h : Hp} {b : Nat} {T : TypeId} : NW (h.set b ⟨[], T⟩) ⟨some (b, 0), 0, 0⟩ [] := ⟨b, 0, T, [], rfl, set_same _ _ _⟩
theorem NW.of {h : Hp} {sl : Slc} {l : List Nod} {T : TypeId} (ho : OwnS h sl (ncs l) T 6) (hn : sl.n = l.length) (hl : l ≠ []) : NW h sl l := by
  rcases (NS.of_own ho hn).2 with h0 | h0
  · exact absurd h0 hl
  · exact h0
theorem NW.rd {h : Hp} {sl : Slc} {l : List Nod} (ht : NW h sl l) : RdS h sl (ncs l) 6 := by
  obtain ⟨b, c, T, r, h1, h2⟩ := ht
  have hlen := ncs_len l
  subst h1
  refine ⟨by simp, ?_⟩
  simp only
  rw [hread_of h2, if_pos (by simp only [List.length_append]; omega)]
  simp only [List.drop_zero]
  rw [← hlen, List.take_left']
  rfl
theorem ones_ncs (l : List Nod) : Ones (ncs l) := by
  intro u hu
  unfold ncs at hu
  obtain ⟨x, _, hx⟩ := List.mem_flatMap.1 hu
  simp only [Nod.cs, List.mem_cons, List.not_mem_nil, or_false] at hx
  rcases hx with rfl | rfl | rfl | rfl | rfl | rfl <;> rfl
/-- Nodes are laid behind a row that is a block of its own. -/
theorem row_app {E : Env} {C : Ctx} {xe ye : LE} {K : Fm} {h0 : Hp} {s y : Slc} {l m : List Nod} {T : TypeId} (hs : OwnS C.h s (ncs l) T 6) (hn : s.n = l.length) (hl : HLe h0 C.h) (hf : ∀ z, s.a = some z → h0 z.1 = none) (hm : NW C.h y m) (hmax : l.length + m.length ≤ 2000000) (hx : xe.den C = s) (hy : ye.den C = y)
    (hk : ∀ s' k, OwnS k s' (ncs (l ++ m)) T 6 → s'.n = (l ++ m).length → HLe h0 k → (∀ z, s'.a = some z → h0 z.1 = none) → K.says E ((C.push ⟨[], [], [], [], [s'], []⟩).heap k)) : (Fm.app xe ye 6 56 T K).says E C := by
  have hmx : (2000001 : Nat) ≤ maxLen := by decide
  have hyn := hm.len
  rw [says_app, hx, hy]
  refine ⟨ncs l, ncs m, hs, hm.rd, ones_ncs m, by omega, by omega, fun s' k g1 g2 g3 g4 => ?_⟩
  refine hk s' k (by rw [ncs_app]; exact g1) (by rw [g2, List.length_append]; omega) (fun b o hb => g4 b o (fun z hz e => ?_) (hl b o hb)) (fun z hz => ?_)
  · rw [← e, hf z hz] at hb; cases hb
  · rcases g3 z hz with ⟨u, hu, e⟩ | hno
    · rw [← e]; exact hf u hu
    · cases hh : h0 z.1 with
      | none => rfl
      | some o => rw [hl _ _ hh] at hno; cases hno
def ctNode06 : Ct Tryz.prog where
  f := 31
  spec := fun args h φ => ∃ k t x n sl l, args = [.int .u8 k, tokv t, .string (B x), .int .i64 n, sl.val] ∧ NW h sl l ∧ l.length ≤ 1900000 ∧
    ∀ sl' h', HLe h h' → NW h' sl' (⟨k, t.l, t.c, l.length, n, x⟩ :: l) → φ sl'.val h'
  ok := by
    rintro args h φ w ⟨k, t, x, n, sl, l, rfl, hN, hmax, hφ⟩ hH
    refine by_fm Tryz.func31 gen_rnode ps_rnode [] φ (noInv) (noMeas) ⟨[k, t.k, t.l, t.c, t.n, n], [], [t.x, x], [], [sl], [], h, noM⟩ ⟨rfl, rfl, rfl, rfl, rfl, rfl⟩ ones_nil ?_ w hH rfl
    generalize hE : (⟨specOf _, _, _, _⟩ : Env) = E
    have ep : E.post = φ := by rw [← hE]
    clear hE
    unfold fm_rnode
    have hl := hN.len
    rw [th_mk]
    intro nb hnb
    have hnb' : h nb = none := hnb
    rw [then_step]
    refine row_app (h0 := h) (s := ⟨some (nb, 0), 1, 1⟩) (y := sl) (l := [⟨k, t.l, t.c, l.length, n, x⟩]) (m := l) ?_ rfl (hle_set hnb' _) (fun z hz => by cases hz; exact hnb') (hN.le (hle_set hnb' _)) (by simp; omega) (by simp [go_sem]) (by simp [go_sem]) fun s' k' g1 g2 g3 g4 => ?_
    · exact .inr ⟨nb, ⟨ncs [⟨k, t.l, t.c, l.length, n, x⟩], _⟩, rfl, by simp [go_sem, ncs, Nod.cs, hl], rfl, rfl, Nat.le_refl _, (by show (1 : Nat) ≤ maxLen; decide), rfl⟩
    · rw [← then_step]
      simp only [then_step]; simp [go_sem, ep]
      exact hφ s' k' g3 (NW.of g1 g2 (by simp))
def ctJoin06 : Ct Tryz.prog where
  f := 32
  spec := fun args h φ => ∃ a b l m, args = [a.val, b.val] ∧ NW h a l ∧ NW h b m ∧ l.length + m.length ≤ 1900000 ∧ l ≠ [] ∧
    ∀ sl' h', HLe h h' → NW h' sl' (l ++ m) → φ sl'.val h'
  ok := by
    rintro args h φ w ⟨a, b, l, m, rfl, hA, hB, hmax, hne, hφ⟩ hH
    refine by_fm Tryz.func32 gen_rjoin ps_rjoin [] φ (noInv) (noMeas) ⟨[], [], [], [], [a, b], [], h, noM⟩ ⟨rfl, rfl, rfl, rfl, rfl, rfl⟩ ones_nil ?_ w hH rfl
    generalize hE : (⟨specOf _, _, _, _⟩ : Env) = E
    have ep : E.post = φ := by rw [← hE]
    clear hE
    unfold fm_rjoin
    rw [th_mk]
    intro nb hnb
    have hnb' : h nb = none := hnb
    rw [then_step]
    refine row_app (h0 := h) (s := ⟨some (nb, 0), 0, 0⟩) (y := a) (l := []) (m := l) ?_ rfl (hle_set hnb' _) (fun z hz => by cases hz; exact hnb') (hA.le (hle_set hnb' _)) (by simp; omega) (by simp [go_sem]) (by simp [go_sem]) fun s1 k1 g1 g2 g3 g4 => ?_
    · exact .inr ⟨nb, ⟨[], _⟩, rfl, by simp [go_sem], rfl, rfl, Nat.le_refl _, Nat.zero_le _, rfl⟩
    refine row_app (h0 := h) (s := s1) (y := b) (l := l) (m := m) ?_ g2 g3 g4 (hB.le g3) (by omega) (by simp [go_sem]) (by simp [go_sem]) fun s2 k2 e1 e2 e3 e4 => ?_
    · exact g1
    · rw [← then_step]
      simp only [then_step]; simp [go_sem, ep]
      exact hφ s2 k2 e3 (NW.of e1 e2 (by simp [hne]))
end Go.Proofs.YthlakehilhpojaaGreatDoor
namespace Go.Proofs.YthlakehilhpojaaGreatDoor
open Go.RowKit
attribute [local go_sem] says_tt says_ff th_need th_ite th_call th_callK th_load th_store says_ret says_again BE.den IE.den SE.den LE.den AE.den CE.den PE.den VE.den KV.val Got.den Got.cnt exI allI exL allL Ctx.push Ctx.heap Ctx.cut Ctx.bare Ctx.mark Inc.blank List.getD_cons_zero List.getD_cons_succ List.cons_append List.nil_append List.append_nil List.map_cons List.map_nil List.replicate_zero List.replicate_succ specOf ltB_t leB_t ltB_f leB_f slc_val slc_nil slc_inj pt_val pt_nil hle_noHeap hle_refl hread_set hwrite_set set_same set_set noHeap_at B_inj ones_nil and_assoc
def fm_rkind6 : Fm := (.call (.c true) false 29 [(.agg [(.sl (.x 0)), (.i .i64 (.x 0)), (.i .i64 (.x 1)), (.i .i64 (.x 2)), (.i .i64 (.x 3)), (.i .i64 (.x 4))])] (.p (.agg [(.i .u8 (.x 5)), (.i .i64 (.x 6)), (.i .i64 (.x 7)), (.i .i64 (.x 8)), (.s (.x 0))])) ⟨4, 0, 1, 0, 0, 0⟩
  (.mk [(.s (.c [105, 110, 116])), (.s (.c [98, 111, 111, 108])), (.s (.c [115, 116, 114])), (.s (.c [99, 111, 109, 112]))] 9 4
  (.loop 0 ⟨[(.c 0), (.c 0), (.c 0), (.c 0), (.c 0), (.c 0)], [], [], [], [.nil, .nil], []⟩
  (.ite (.lt (.x 9) (.cnt (.x 1)))
  (.load (.c true) (.el (.x 1) (.x 9) 1 0) 1 [(.s (.x 1))] ⟨0, 0, 1, 0, 0, 0⟩
  (.need (.c true) (.and (.and (.le (.c 0) (.x 9)) (.lt (.x 9) (.cnt (.x 1)))) (.nns (.x 1)))
  (.call (.c true) false 28 [(.agg [(.sl (.x 0)), (.i .i64 (.x 0)), (.i .i64 (.x 1)), (.i .i64 (.x 2)), (.i .i64 (.x 3)), (.i .i64 (.x 4))]), (.one (.s (.x 1)))] (.p (.one (.b (.x 0)))) ⟨0, 1, 0, 0, 0, 0⟩
  (.ite (.x 0)
  (.load (.c true) (.el (.x 1) (.x 9) 1 0) 1 [(.s (.x 2))] ⟨0, 0, 1, 0, 0, 0⟩
  (.need (.c true) (.and (.le (.c (-9223372036854775808)) (.add (.c 15) (.x 9))) (.le (.add (.c 15) (.x 9)) (.c 9223372036854775807)))
  (.need (.c true) (.and (.and (.le (.c 0) (.x 9)) (.lt (.x 9) (.cnt (.x 1)))) (.nns (.x 1)))
  (.mk [] 32 0
  (.callK (.c true) [((.c true), (.el (.x 1) (.x 9) 1 0), 1)] 31 [(.one (.i .u8 (.wr .u8 (.add (.c 15) (.x 9))))), (.agg [(.i .u8 (.x 5)), (.i .i64 (.x 6)), (.i .i64 (.x 7)), (.i .i64 (.x 8)), (.s (.x 0))]), (.one (.s (.c []))), (.one (.i .i64 (.c 0))), (.one (.sl (.x 4)))] (.p (.one (.sl (.x 5)))) ⟨0, 0, 0, 0, 1, 0⟩
  (.call (.c true) false 30 [(.agg [(.sl (.x 0)), (.i .i64 (.x 0)), (.i .i64 (.x 1)), (.i .i64 (.x 2)), (.i .i64 (.x 3)), (.i .i64 (.x 4))]), (.one (.s (.x 2)))] (.p (.agg [(.sl (.x 6)), (.i .i64 (.x 15)), (.i .i64 (.x 16)), (.i .i64 (.x 17)), (.i .i64 (.x 18)), (.i .i64 (.x 19))])) ⟨5, 0, 0, 0, 1, 0⟩
  (.ret (.tup [(.one (.sl (.x 5))), (.agg [(.sl (.x 6)), (.i .i64 (.x 15)), (.i .i64 (.x 16)), (.i .i64 (.x 17)), (.i .i64 (.x 18)), (.i .i64 (.x 19))])]))))))))
  (.need (.c true) (.and (.le (.c (-9223372036854775808)) (.add (.x 9) (.c 1))) (.le (.add (.x 9) (.c 1)) (.c 9223372036854775807)))
  (.again 0 ⟨9, 0, 1, 0, 2, 0⟩ ⟨15, 0, 1, 0, 4, 0⟩ ⟨[(.add (.x 9) (.c 1)), (.x 10), (.x 11), (.x 12), (.x 13), (.x 14)], [], [], [], [(.x 2), (.x 3)], []⟩))))))
  (.call (.c true) false 28 [(.agg [(.sl (.x 0)), (.i .i64 (.x 0)), (.i .i64 (.x 1)), (.i .i64 (.x 2)), (.i .i64 (.x 3)), (.i .i64 (.x 4))]), (.one (.s (.c [91])))] (.p (.one (.b (.x 0)))) ⟨0, 1, 0, 0, 0, 0⟩
  (.ite (.x 0)
  (.call (.c true) false 56 [(.agg [(.sl (.x 0)), (.i .i64 (.x 0)), (.i .i64 (.x 1)), (.i .i64 (.x 2)), (.i .i64 (.x 3)), (.i .i64 (.x 4))]), (.one (.s (.c [91])))] (.p (.agg [(.sl (.x 4)), (.i .i64 (.x 15)), (.i .i64 (.x 16)), (.i .i64 (.x 17)), (.i .i64 (.x 18)), (.i .i64 (.x 19))])) ⟨5, 0, 0, 0, 1, 0⟩
  (.call (.c true) false 98 [(.agg [(.sl (.x 4)), (.i .i64 (.x 15)), (.i .i64 (.x 16)), (.i .i64 (.x 17)), (.i .i64 (.x 18)), (.i .i64 (.x 19))])] (.tup [(.one (.sl (.x 5))), (.agg [(.sl (.x 6)), (.i .i64 (.x 20)), (.i .i64 (.x 21)), (.i .i64 (.x 22)), (.i .i64 (.x 23)), (.i .i64 (.x 24))])]) ⟨5, 0, 0, 0, 2, 0⟩
  (.call (.c true) false 31 [(.one (.i .u8 (.c 20))), (.agg [(.i .u8 (.x 5)), (.i .i64 (.x 6)), (.i .i64 (.x 7)), (.i .i64 (.x 8)), (.s (.x 0))]), (.one (.s (.c []))), (.one (.i .i64 (.c 0))), (.one (.sl (.x 5)))] (.p (.one (.sl (.x 7)))) ⟨0, 0, 0, 0, 1, 0⟩
  (.call (.c true) false 84 [(.agg [(.sl (.x 6)), (.i .i64 (.x 20)), (.i .i64 (.x 21)), (.i .i64 (.x 22)), (.i .i64 (.x 23)), (.i .i64 (.x 24))]), (.one (.s (.c [93])))] (.p (.agg [(.sl (.x 8)), (.i .i64 (.x 25)), (.i .i64 (.x 26)), (.i .i64 (.x 27)), (.i .i64 (.x 28)), (.i .i64 (.x 29))])) ⟨5, 0, 0, 0, 1, 0⟩
  (.ret (.tup [(.one (.sl (.x 7))), (.agg [(.sl (.x 8)), (.i .i64 (.x 25)), (.i .i64 (.x 26)), (.i .i64 (.x 27)), (.i .i64 (.x 28)), (.i .i64 (.x 29))])]))))))
  (.call (.c true) false 85 [(.agg [(.sl (.x 0)), (.i .i64 (.x 0)), (.i .i64 (.x 1)), (.i .i64 (.x 2)), (.i .i64 (.x 3)), (.i .i64 (.x 4))]), (.one (.i .u8 (.c 2)))] (.tup [(.agg [(.i .u8 (.x 15)), (.i .i64 (.x 16)), (.i .i64 (.x 17)), (.i .i64 (.x 18)), (.s (.x 1))]), (.agg [(.sl (.x 4)), (.i .i64 (.x 19)), (.i .i64 (.x 20)), (.i .i64 (.x 21)), (.i .i64 (.x 22)), (.i .i64 (.x 23))])]) ⟨9, 0, 1, 0, 1, 0⟩
  (.mk [] 32 0
  (.call (.c true) false 31 [(.one (.i .u8 (.c 19))), (.agg [(.i .u8 (.x 15)), (.i .i64 (.x 16)), (.i .i64 (.x 17)), (.i .i64 (.x 18)), (.s (.x 1))]), (.one (.s (.x 1))), (.one (.i .i64 (.c 0))), (.one (.sl (.x 5)))] (.p (.one (.sl (.x 6)))) ⟨0, 0, 0, 0, 1, 0⟩
  (.ret (.tup [(.one (.sl (.x 6))), (.agg [(.sl (.x 4)), (.i .i64 (.x 19)), (.i .i64 (.x 20)), (.i .i64 (.x 21)), (.i .i64 (.x 22)), (.i .i64 (.x 23))])])))))))))))
theorem gen_rkind6 : genFn ⟨true, []⟩ Tryz.prog (fun l => ([⟨[2, 14], [15, 16, 6, 17, 18, 19, 20, 21, 22, 23, 24, 25, 26, 27, 28, 29, 30, 31, 32, 33, 34, 35], [3]⟩] : List LAnn).getD l ⟨[], [], []⟩) Tryz.f98 = fm_rkind6 := by kernel_rfl
theorem ps_rkind6 : freshPs Tryz.prog .zero Tryz.f98.params.toList = some ([(.agg [(.sl (.x 0)), (.i .i64 (.x 0)), (.i .i64 (.x 1)), (.i .i64 (.x 2)), (.i .i64 (.x 3)), (.i .i64 (.x 4))])], ⟨5, 0, 0, 0, 1, 0⟩) := by kernel_rfl
/-- The reference's state is the parser's, but for the depth where there is a fault. -/
structure Lk (p r : PS) : Prop where
  a : r.a = p.a
  f : r.f = p.f
  g : p.bad = false → r.d = p.d
  lo : p.d - 1 ≤ r.d
  hi : r.d ≤ p.d
section
variable {L : List Tok} {p r : PS}
theorem Lk.bad (k : Lk p r) : r.bad = p.bad := bad_f k.f
theorem Lk.tk (k : Lk p r) : tk L r = tk L p := by unfold Go.Proofs.YthlakehilhpojaaGreatDoor.tk; rw [k.a]
theorem Lk.is (k : Lk p r) (s : List UInt8) : pIs L s r = pIs L s p := by unfold pIs; rw [k.bad, k.tk]
theorem Lk.fail (k : Lk p r) (e : Int) : Lk (pFail L e p) (pFail L e r) := by
  unfold pFail
  rw [k.bad, k.tk]
  by_cases h : p.bad = true
  · rw [if_pos h, if_pos h]; exact k
  · rw [if_neg h, if_neg h]
    have h' : p.bad = false := by simpa using h
    exact ⟨k.a, rfl, fun _ => k.g h', k.lo, k.hi⟩
theorem Lk.pass (k : Lk p r) : Lk (pPass L p) (pPass L r) := by
  unfold pPass
  rw [k.tk]
  split
  · exact k
  · exact ⟨by show r.a + 1 = p.a + 1; rw [k.a], k.f, k.g, k.lo, k.hi⟩
theorem Lk.must (k : Lk p r) (s : List UInt8) : Lk (pMust L s p) (pMust L s r) := by
  unfold pMust
  rw [k.is]
  split
  · exact k.pass
  · exact k.fail 5
theorem Lk.word (k : Lk p r) (c : Int) : Lk (pWord L c p) (pWord L c r) := by
  unfold pWord
  rw [k.bad, k.tk]
  split
  · exact k.fail 5
  · exact k.pass
theorem Lk.deep {q s : PS} (k : Lk q s) (e : Int) : Lk { q with d := q.d + e } { s with d := s.d + e } :=
  ⟨k.a, k.f, fun h => by show s.d + e = q.d + e; rw [k.g h], by show q.d + e - 1 ≤ s.d + e; have := k.lo; omega, by show s.d + e ≤ q.d + e; have := k.hi; omega⟩
theorem Lk.shut (k : Lk p r) (s : List UInt8) : Lk (pShut L s p) (pShut L s r) := (k.must s).deep (-1)
theorem bad_must {s : List UInt8} {p : PS} (h : p.bad = true) : pMust L s p = p := by
  unfold pMust pFail
  rw [if_neg (by unfold pIs; rw [h]; simp), if_pos h]
theorem Lk.opens (k : Lk p r) (he : p.bad = false → p.d ≤ 40) (s : List UInt8) : Lk (pOpen L s p) (rOpen L s r) := by
  unfold pOpen rOpen
  rw [k.is]
  cases hb : p.bad with
  | true =>
    have hi : pIs L s p = false := by unfold pIs; rw [hb]; simp
    rw [hi]
    exact (k.must s).deep 1
  | false =>
    have h1 := he hb
    have h2 := k.g hb
    by_cases h40 : pIs L s p = true ∧ p.d = 40
    · have h41 : 40 ≤ r.d := by have := h40.2; omega
      rw [if_pos (by simp [h40.1, h40.2]), if_pos (by simp [h40.1, h41])]
      have kf := k.fail (L := L) 6
      have hbf : (pFail L 6 p).bad = true := bad_fail (by decide) p
      have hd : (pFail L 6 p).d = p.d := (adv_fail 6 p).d.trans (by omega)
      have hd' : (pFail L 6 r).d = r.d := (adv_fail 6 r).d.trans (by omega)
      show Lk { pMust L s (pFail L 6 p) with d := (pMust L s (pFail L 6 p)).d + 1 } _
      rw [bad_must hbf]
      refine ⟨kf.a, kf.f, fun h => ?_, ?_, ?_⟩
      · have h' : (pFail L 6 p).bad = false := h
        rw [hbf] at h'; cases h'
      · show (pFail L 6 p).d + 1 - 1 ≤ _; omega
      · show _ ≤ (pFail L 6 p).d + 1; omega
    · have e1 : ¬ ((pIs L s p && decide (40 ≤ r.d)) = true) := by
        intro h
        simp only [Bool.and_eq_true, decide_eq_true_eq] at h
        exact h40 ⟨h.1, by omega⟩
      have e2 : ¬ ((pIs L s p && p.d == 40) = true) := by
        intro h
        simp only [Bool.and_eq_true, beq_iff_eq] at h
        exact h40 h
      rw [if_neg e1, if_neg e2]
      exact (k.must s).deep 1
end
/-- Both states, in memory; there is so much room left for depth. -/
structure LR (h : Hp) (sl : Slc) (L : List Tok) (p r : PS) (n : Nat) : Prop where
  W : RW h sl L r
  k : Lk p r
  e : p.bad = false → p.d ≤ 40
  d0 : 0 ≤ p.d
  d1 : p.d + n ≤ 900000000
section
variable {h h' : Hp} {sl : Slc} {L : List Tok} {p r q s : PS} {n m : Nat}
theorem LR.at' (R : LR h sl L p r n) : p.a < L.length := by rw [← R.k.a]; exact R.W.at'
theorem LR.go (R : LR h sl L p r n) {e : Int} (A : Adv L p q e) (k : Lk q s) (hl : HLe h h') (h0 : 0 ≤ q.d) (he : q.bad = false → q.d ≤ 40) (h1 : q.d + m ≤ 900000000) : LR h' sl L q s m := by
  have hw := R.W.le hl
  refine ⟨⟨hw.tok, hw.lw, hw.let', hw.len, by rw [k.a]; exact A.v R.at', ?_, ?_⟩, k, he, h0, h1⟩
  · have := k.lo; omega
  · have := k.hi; omega
theorem LR.next (R : LR h sl L p r n) (A : Adv L p q 0) (k : Lk q s) (hl : HLe h h') (hm : m ≤ n) : LR h' sl L q s m := by
  have hd := A.d
  have := R.d0
  have := R.d1
  refine R.go A k hl (by omega) (fun hq => ?_) (by omega)
  have := R.e (bad_back A hq); omega
theorem LR.le (R : LR h sl L p r n) (hl : HLe h h') : LR h' sl L p r n := ⟨R.W.le hl, R.k, R.e, R.d0, R.d1⟩
theorem hle_self (h : Hp) : HLe h h := fun _ _ h => h
theorem LR.pass (R : LR h sl L p r n) : LR h sl L (pPass L p) (pPass L r) n := R.next (adv_pass R.W.lw p) R.k.pass (hle_self h) (Nat.le_refl _)
theorem LR.must (R : LR h sl L p r n) (x : List UInt8) : LR h sl L (pMust L x p) (pMust L x r) n := R.next (adv_must R.W.lw x p) (R.k.must x) (hle_self h) (Nat.le_refl _)
theorem LR.opens (R : LR h sl L p r (n + 1)) (x : List UInt8) : LR h sl L (pOpen L x p) (rOpen L x r) n := by
  have A := adv_open R.W.lw x p
  have hd := A.d
  have := R.d0
  have := R.d1
  refine R.go A (R.k.opens R.e x) (hle_self h) (by omega) (fun hq => ?_) (by omega)
  obtain ⟨_, g2, _⟩ := good_open hq
  have := R.e (bad_back A hq); omega
end
/-- What the reference answers: a row of nodes, that is the tree's where there is no fault, and is short where there is one; its state. -/
def resR (sl : Slc) (c : Nat) (p : PS) (t : Tr) (q : PS) (h : Hp) (φ : Value → Hp → Prop) : Prop :=
  ∀ s k l r', HLe h k → NW k s l → l ≠ [] → l.length + p.a ≤ q.a + (if q.bad = true then (if p.bad = true then 1 else c) else 0) → (q.bad = false → l = t.nods) → Lk q r' → φ (.tuple #[s.val, rv sl r']) k
def kw : Nat → List UInt8
  | 0 => wInt
  | 1 => wBool
  | 2 => wStr
  | _ => wComp
def kws : List Value := [.string (B wInt), .string (B wBool), .string (B wStr), .string (B wComp)]
theorem kind_word {L : List Tok} {n j : Nat} {p : PS} (hj : j < 4) (hn : ∀ i, i < j → pIs L (kw i) p = false) (h : pIs L (kw j) p = true) : p.bad = false ∧ pKind L (n + 1) p = some (nd (15 + j) (tk L p) 0 [] [], pPass L p) := by
  have hb : p.bad = false := by
    unfold pIs at h
    simp only [Bool.and_eq_true, Bool.not_eq_true'] at h
    exact h.1.1
  refine ⟨hb, ?_⟩
  rw [pKind, if_neg (by rw [hb]; decide)]
  match j, hj with
  | 0, _ =>
    have h0 : pIs L wInt p = true := h
    rw [if_pos h0]; rfl
  | 1, _ =>
    have h0 : pIs L wInt p = false := hn 0 (by omega)
    have hh : pIs L wBool p = true := h
    rw [if_neg (by rw [h0]; decide), if_pos hh]; rfl
  | 2, _ =>
    have h0 : pIs L wInt p = false := hn 0 (by omega)
    have h1 : pIs L wBool p = false := hn 1 (by omega)
    have hh : pIs L wStr p = true := h
    rw [if_neg (by rw [h0]; decide), if_neg (by rw [h1]; decide), if_pos hh]; rfl
  | 3, _ =>
    have h0 : pIs L wInt p = false := hn 0 (by omega)
    have h1 : pIs L wBool p = false := hn 1 (by omega)
    have h2 : pIs L wStr p = false := hn 2 (by omega)
    rw [if_neg (by rw [h0]; decide), if_neg (by rw [h1]; decide), if_neg (by rw [h2]; decide), if_pos (show pIs L wComp p = true from h)]; rfl
theorem kind_rest {L : List Tok} {n : Nat} {p : PS} (hn : ∀ i, i < 4 → pIs L (kw i) p = false) : pKind L (n + 1) p =
    if p.bad then some (nd 15 (tk L p) 0 [] [], p)
    else if (tk L p).k = 2 then some (nd 19 (tk L p) 0 (tk L p).x [], pPass L p)
    else if pIs L [91] p then (pKind L n (pOpen L [91] p)).map fun r => (nd 20 (tk L p) 0 [] [r.1], pShut L [93] r.2)
    else some (nd 15 (tk L p) 0 [] [], pFail L 5 p) := by
  have h0 : pIs L wInt p = false := hn 0 (by omega)
  have h1 : pIs L wBool p = false := hn 1 (by omega)
  have h2 : pIs L wStr p = false := hn 2 (by omega)
  have h3 : pIs L wComp p = false := hn 3 (by omega)
  rw [pKind]
  simp [h0, h1, h2, h3]
def kindR (n : Nat) (args : List Value) (h : Hp) (φ : Value → Hp → Prop) : Prop :=
  ∃ sl L p r t q, args = [rv sl r] ∧ LR h sl L p r n ∧ pKind L n p = some (t, q) ∧ resR sl 2 p t q h φ
def KindOk06 (n : Nat) : Prop := ∀ args h φ w, kindR n args h φ → Holds h w → Calls Tryz.prog 98 args.toArray w fun e w' => ∃ v k, e = .returned v ∧ φ v k ∧ Holds k w' ∧ Fr w.heap.size h k w w'
def ctKind06 {n : Nat} (H : KindOk06 n) : Ct Tryz.prog := ⟨98, kindR n, H⟩
def kindInv (h : Hp) (sl : Slc) (L : List Tok) (r : PS) : Nat → Ctx → Prop := fun _ C =>
  ∃ wb T i0 i1 i2 i3 i4 s2 s3, ∃ j : Nat, C = ⟨[(r.a : Int), r.d, r.f.1, r.f.2.1, r.f.2.2, (tk L r).k, (tk L r).l, (tk L r).c, (tk L r).n, (j : Int), i0, i1, i2, i3, i4], [], [(tk L r).x], [], [sl, ⟨some (wb, 0), 4, 4⟩, s2, s3], [], h.set wb ⟨kws, T⟩, noM⟩ ∧ h wb = none ∧ j ≤ 4 ∧ ∀ i, i < j → pIs L (kw i) r = false
theorem kw_read {h : Hp} {wb : Nat} {T : TypeId} {j : Nat} (hj : j < 4) : hread (h.set wb ⟨kws, T⟩) (some (wb, j * 1 + 0)) 1 = some [.string (B (kw j))] := by
  rw [hread_set, if_pos (by simp [kws]; omega)]
  match j, hj with
  | 0, _ => rfl
  | 1, _ => rfl
  | 2, _ => rfl
  | 3, _ => rfl
theorem hle_trans {h k g : Hp} (a : HLe h k) (b : HLe k g) : HLe h g := fun c o hc => b c o (a c o hc)
theorem nods_nd (k : Int) (t : Tok) (n : Int) (x : List UInt8) (ks : List Tr) : (nd k t n x ks).nods = ⟨k, t.l, t.c, (Tr.nodss ks).length, n, x⟩ :: Tr.nodss ks := by
  have := Tr.ns_szs ks
  simp only [Tr.ns] at this
  rw [nd, Tr.nods, this]
theorem word_is {L : List Tok} {p : PS} {k : Int} (hb : p.bad = false) (hk : (tk L p).k = k) : pWord L k p = pPass L p := by
  unfold pWord; rw [if_neg (by simp [hb, hk])]
theorem word_no {L : List Tok} {p : PS} {k : Int} (h : p.bad = true ∨ (tk L p).k ≠ k) : pWord L k p = pFail L 5 p := by
  unfold pWord
  rw [if_pos]
  rcases h with h | h
  · simp [h]
  · simp [h]
theorem fail_bad {L : List Tok} {p : PS} {e : Int} (h : p.bad = true) : pFail L e p = p := by unfold pFail; rw [if_pos h]
theorem bad_must' {L : List Tok} {s : List UInt8} {p : PS} (h : p.bad = true) : pIs L s p = false := by unfold pIs; rw [h]; simp
theorem is_good {L : List Tok} {s : List UInt8} {p : PS} (h : pIs L s p = true) : p.bad = false := by
  cases hb : p.bad with
  | false => rfl
  | true => rw [bad_must' hb] at h; cases h
theorem pass_a {L : List Tok} {s : List UInt8} {p : PS} (h : pIs L s p = true) : (pPass L p).a = p.a + 1 := good_pass (is_not8 h)
theorem must_is {L : List Tok} {s : List UInt8} {p : PS} (h : pIs L s p = true) : pMust L s p = pPass L p := by unfold pMust; rw [if_pos h]
set_option maxHeartbeats 8000000 in
theorem kind_ok06 : ∀ n, KindOk06 n
  | 0 => by
    rintro args h φ w ⟨sl, L, p, r, t, q, rfl, R, hp, _⟩ hH
    cases hp
  | n + 1 => by
    have ih := kind_ok06 n
    rintro args h φ w ⟨sl, L, p, r, t, q, rfl, R, hp, hφ⟩ hH
    refine by_fm Tryz.func98 gen_rkind6 ps_rkind6 [ctRNow, ctRIs, ctNode06, ctRMust, ctROpens, ctRShuts, ctRfWord, ctKind06 ih] φ (kindInv h sl L r) (fun _ C => (4 - C.i.getD 9 0).toNat) ⟨[(r.a : Int), r.d, r.f.1, r.f.2.1, r.f.2.2], [], [], [], [sl], [], h, noM⟩ ⟨rfl, rfl, rfl, rfl, rfl, rfl⟩ ones_nil ?_ w hH rfl
    generalize hE : (⟨specOf _, _, _, _⟩ : Env) = E
    have s_ctRNow : E.spec 29 = (ctRNow).spec := by rw [← hE]; rfl
    have s_ctRIs : E.spec 28 = (ctRIs).spec := by rw [← hE]; rfl
    have s_ctNode06 : E.spec 31 = (ctNode06).spec := by rw [← hE]; rfl
    have s_ctRMust : E.spec 30 = (ctRMust).spec := by rw [← hE]; rfl
    have s_ctROpens : E.spec 56 = (ctROpens).spec := by rw [← hE]; rfl
    have s_ctRShuts : E.spec 84 = (ctRShuts).spec := by rw [← hE]; rfl
    have s_ctRfWord : E.spec 85 = (ctRfWord).spec := by rw [← hE]; rfl
    have s_ctK : E.spec 98 = (ctKind06 ih).spec := by rw [← hE]; rfl
    have ep : E.post = φ := by rw [← hE]
    have ei : E.inv = (kindInv h sl L r) := by rw [← hE]
    have em : E.meas = (fun _ C => (4 - C.i.getD 9 0).toNat) := by rw [← hE]
    clear hE
    unfold fm_rkind6
    rw [th_call, if_pos (by rfl), s_ctRNow]
    refine ⟨sl, L, r, rfl, R.W, ?_⟩
    simp [go_sem, tokv, tkv]
    rw [then_step, th_mk]
    intro wb hwb
    have hwb' : h wb = none := hwb
    simp [go_sem]
    rw [then_step]
    refine loop_intro ?_ ?_
    · rw [ei]
      exact ⟨wb, _, _, _, _, _, _, _, _, 0, rfl, hwb', by omega, fun i hi => by omega⟩
    rw [ei, em]
    clear hwb' hwb wb
    rintro i' bb ss v' ll pp hh0 M ⟨wb, T, i0, i1, i2, i3, i4, s2, s3, j, hC, hwb, hj, hno⟩ hM
    cases hC
    have hM' : M 0 = (4 - (j : Int)).toNat := hM
    have hl1 := hle_set hwb ⟨kws, T⟩
    have W1 := R.W.le hl1
    have htk := R.k.tk (L := L)
    by_cases hjl : j < 4
    · have hr1 := kw_read (h := h) (wb := wb) (T := T) hjl
      rw [th_ite, if_pos (by simp [go_sem]; omega)]
      rw [then_step, th_load, if_pos (by rfl)]
      refine (exI_iff _ _).2 ⟨⟨[], [], [kw j], [], [], []⟩, rfl, ones_nil, by simpa [go_sem] using hr1, ?_⟩
      rw [then_step, th_need]
      refine ⟨by simp [go_sem]; omega, ?_⟩
      rw [then_step, th_call, if_pos (by rfl), s_ctRIs]
      refine ⟨sl, L, r, kw j, rfl, W1, ?_⟩
      simp [go_sem]
      cases hc : pIs L (kw j) r with
      | true =>
        have hcp : pIs L (kw j) p = true := by rw [← R.k.is]; exact hc
        obtain ⟨hb, hkd⟩ := kind_word (L := L) (n := n) hjl (fun i hi => by rw [← R.k.is]; exact hno i hi) hcp
        rw [hkd] at hp
        cases hp
        rw [then_step, th_ite, if_pos (by simp [go_sem])]
        rw [then_step, th_load, if_pos (by rfl)]
        refine (exI_iff _ _).2 ⟨⟨[], [], [kw j], [], [], []⟩, rfl, ones_nil, by simpa [go_sem] using hr1, ?_⟩
        rw [then_step, th_need]
        refine ⟨by simp [go_sem]; omega, ?_⟩
        rw [then_step, th_need]
        refine ⟨by simp [go_sem]; omega, ?_⟩
        rw [then_step, th_mk]
        intro nb hnb
        have hnb' : (h.set wb ⟨kws, T⟩) nb = none := hnb
        simp [go_sem]
        rw [then_step, th_callK, if_pos (by rfl), s_ctNode06]
        have hl2 := hle_set hnb' ⟨[], ND⟩
        refine ⟨15 + (j : Int), tk L r, [], 0, _, [], ?_, NW.mk, by simp, fun sl' h' g1 g2 => ?_⟩
        · have hw : IntKind.u8.wrap (15 + (j : Int)) = 15 + (j : Int) := by
            match j, hjl with
            | 0, _ => rfl
            | 1, _ => rfl
            | 2, _ => rfl
            | 3, _ => rfl
          simp [go_sem, tokv, tkv, Slc.val, hw]
        refine ⟨fun y hy _ => ?_, (exI_iff _ _).2 ⟨⟨[], [], [], [], [sl'], []⟩, rfl, ones_nil, by simp [go_sem], ?_⟩⟩
        · rw [List.mem_singleton] at hy; subst hy
          have q1 := hread_le hl2 hr1
          have q2 := hread_le g1 q1
          simp [go_sem] at q1 q2 ⊢
          exact q2.trans q1.symm
        simp [go_sem]
        rw [then_step, th_call, if_pos (by rfl), s_ctRMust]
        refine ⟨sl, L, r, kw j, rfl, (W1.le hl2).le g1, ?_⟩
        simp [go_sem, rv]
        rw [then_step, says_ret, ep]
        have ha := pass_a hcp
        refine hφ sl' h' _ (pMust L (kw j) r) (hle_trans hl1 (hle_trans hl2 g1)) g2 (by simp) (by simp; omega) (fun _ => ?_) ?_
        · rw [nods_nd, htk]; rfl
        · rw [must_is hc]; exact R.k.pass
      | false =>
        rw [then_step, th_ite, if_neg (by simp [go_sem])]
        rw [then_step, th_need]
        refine ⟨by simp [go_sem]; omega, ?_⟩
        rw [then_step, says_again, ei, em]
        refine ⟨⟨wb, T, _, _, _, _, _, _, _, j + 1, rfl, hwb, by omega, fun i hi => ?_⟩, ?_⟩
        · by_cases e : i = j
          · subst e; exact hc
          · exact hno i (by omega)
        · simp [go_sem]
          omega
    · obtain rfl : j = 4 := by omega
      have hp' := hp
      rw [kind_rest (fun i hi => by rw [← R.k.is]; exact hno i hi)] at hp'
      rw [th_ite, if_neg (by simp [go_sem])]
      rw [then_step, th_call, if_pos (by rfl), s_ctRIs]
      refine ⟨sl, L, r, [91], rfl, W1, ?_⟩
      simp [go_sem]
      rw [R.k.is]
      cases hc : pIs L [91] p with
      | true =>
        rw [then_step, th_ite, if_pos (by simp [go_sem])]
        rw [then_step, th_call, if_pos (by rfl), s_ctROpens]
        refine ⟨sl, L, r, [91], rfl, W1, ?_⟩
        have hb := is_good hc
        have hk2 : ¬ (tk L p).k = 2 := by
          have h2 := hc
          unfold pIs at h2
          simp only [Bool.and_eq_true, Bool.or_eq_true, beq_iff_eq] at h2
          omega
        rw [if_neg (by rw [hb]; decide), if_neg hk2, if_pos hc] at hp'
        simp only [Option.map_eq_some_iff] at hp'
        obtain ⟨⟨x, q0⟩, hk0, he⟩ := hp'
        cases he
        have RO := (R.opens [91]).le hl1
        have AO := adv_open R.W.lw [91] p
        have AK := adv_kind R.W.lw n _ hk0
        have AS := adv_shut R.W.lw [93] q0
        simp [go_sem, rv]
        rw [then_step, th_call, if_pos (by rfl), s_ctK]
        refine ⟨sl, L, _, _, x, q0, rfl, RO, hk0, fun s k l r' g1 g2 g3 g4 g5 g6 => ?_⟩
        have hq0 : q0.a < L.length := AK.v (AO.v R.at')
        have hll := R.W.len
        have hc4 : l.length + (pOpen L [91] p).a ≤ q0.a + 2 := by
          refine Nat.le_trans g4 ?_
          split
          · split <;> omega
          · omega
        simp [go_sem, rv]
        rw [then_step, th_call, if_pos (by rfl), s_ctNode06]
        refine ⟨20, tk L r, [], 0, s, l, by simp [go_sem, tokv, tkv], g2, by omega, fun sl' h' e1 e2 => ?_⟩
        simp [go_sem]
        rw [then_step, th_call, if_pos (by rfl), s_ctRShuts]
        have RK := RO.next AK g6 g1 (Nat.le_refl _)
        refine ⟨sl, L, r', [93], rfl, RK.W.le e1, ?_⟩
        simp [go_sem, rv]
        rw [then_step, says_ret, ep]
        refine hφ sl' h' _ (pShut L [93] r') (hle_trans hl1 (hle_trans g1 e1)) e2 (by simp) ?_ (fun hq => ?_) (g6.shut [93])
        · have ha := AS.a
          have hao := AO.a
          rw [hb]
          cases hob : (pOpen L [91] p).bad with
          | true =>
            have hqb : q0.bad = true := by rw [bad_f (AK.b hob)]; exact hob
            have hsb : (pShut L [93] q0).bad = true := by rw [bad_f (AS.b hqb)]; exact hqb
            rw [hob, hqb] at g4
            rw [hsb]
            simp at g4 ⊢
            omega
          | false =>
            obtain ⟨_, _, _, o4⟩ := good_open hob
            cases hqb : q0.bad with
            | true =>
              have hsb : (pShut L [93] q0).bad = true := by rw [bad_f (AS.b hqb)]; exact hqb
              rw [hob, hqb] at g4
              rw [hsb]
              simp at g4 ⊢
              omega
            | false =>
              rw [hob, hqb] at g4
              simp at g4 ⊢
              omega
        · have := g5 (bad_back AS hq)
          rw [nods_nd, htk, nodss_cons, nodss_nil, List.append_nil, this]
      | false =>
        rw [then_step, th_ite, if_neg (by simp [go_sem])]
        rw [then_step, th_call, if_pos (by rfl), s_ctRfWord]
        refine ⟨sl, L, r, 2, rfl, by decide, W1, ?_⟩
        simp [go_sem, tokv, tkv, rv]
        rw [then_step, th_mk]
        intro nb hnb
        have hnb' : (h.set wb ⟨kws, T⟩) nb = none := hnb
        have hl2 := hle_set hnb' ⟨[], ND⟩
        simp [go_sem]
        rw [then_step, th_call, if_pos (by rfl), s_ctNode06]
        refine ⟨19, tk L r, (tk L r).x, 0, _, [], by simp [go_sem, tokv, tkv, Slc.val], NW.mk, by simp, fun sl' h' g1 g2 => ?_⟩
        simp [go_sem]
        rw [then_step, says_ret, ep]
        have hq : q = pWord L 2 p ∧ (1 + p.a ≤ q.a + (if q.bad = true then (if p.bad = true then 1 else 2) else 0)) ∧ (q.bad = false → t = nd 19 (tk L p) 0 (tk L p).x []) := by
          cases hb : p.bad with
          | true =>
            rw [if_pos hb] at hp'
            cases hp'
            refine ⟨by rw [word_no (.inl hb), fail_bad hb], by rw [hb]; simp; omega, fun h => by rw [hb] at h; cases h⟩
          | false =>
            rw [if_neg (by rw [hb]; decide)] at hp'
            by_cases hk2 : (tk L p).k = 2
            · rw [if_pos hk2] at hp'
              cases hp'
              have ha : (pPass L p).a = p.a + 1 := good_pass (by omega)
              exact ⟨(word_is hb hk2).symm, by rw [ha]; omega, fun _ => rfl⟩
            · rw [if_neg hk2, if_neg (by rw [hc]; decide)] at hp'
              cases hp'
              have hbf := bad_fail (L := L) (e := 5) (by decide) p
              refine ⟨(word_no (.inr hk2)).symm, ?_, fun h => by rw [hbf] at h; cases h⟩
              have := (adv_fail (L := L) 5 p).a
              rw [hbf]; simp; omega
        refine hφ sl' h' _ (pWord L 2 r) (hle_trans hl1 (hle_trans hl2 g1)) g2 (by simp) (by simpa using hq.2.1) (fun hg => ?_) ?_
        · rw [hq.2.2 hg, nods_nd, htk]; rfl
        · rw [hq.1]; exact R.k.word 2
end Go.Proofs.YthlakehilhpojaaGreatDoor
namespace Go.Proofs.YthlakehilhpojaaGreatDoor
open Go.RowKit
attribute [local go_sem] says_tt says_ff th_need th_ite th_call th_callK th_load th_store says_ret says_again BE.den IE.den SE.den LE.den AE.den CE.den PE.den VE.den KV.val Got.den Got.cnt exI allI exL allL Ctx.push Ctx.heap Ctx.cut Ctx.bare Ctx.mark Inc.blank List.getD_cons_zero List.getD_cons_succ List.cons_append List.nil_append List.append_nil List.map_cons List.map_nil List.replicate_zero List.replicate_succ specOf ltB_t leB_t ltB_f leB_f slc_val slc_nil slc_inj pt_val pt_nil hle_noHeap hle_refl hread_set hwrite_set set_same set_set noHeap_at B_inj ones_nil and_assoc
def fm_run6 : Fm := (.call (.c true) false 29 [(.agg [(.sl (.x 0)), (.i .i64 (.x 0)), (.i .i64 (.x 1)), (.i .i64 (.x 2)), (.i .i64 (.x 3)), (.i .i64 (.x 4))])] (.p (.agg [(.i .u8 (.x 5)), (.i .i64 (.x 6)), (.i .i64 (.x 7)), (.i .i64 (.x 8)), (.s (.x 0))])) ⟨4, 0, 1, 0, 0, 0⟩
  (.call (.c true) false 28 [(.agg [(.sl (.x 0)), (.i .i64 (.x 0)), (.i .i64 (.x 1)), (.i .i64 (.x 2)), (.i .i64 (.x 3)), (.i .i64 (.x 4))]), (.one (.s (.c [45])))] (.p (.one (.b (.x 0)))) ⟨0, 1, 0, 0, 0, 0⟩
  (.call (.not (.x 0)) false 28 [(.agg [(.sl (.x 0)), (.i .i64 (.x 0)), (.i .i64 (.x 1)), (.i .i64 (.x 2)), (.i .i64 (.x 3)), (.i .i64 (.x 4))]), (.one (.s (.c [33])))] (.p (.one (.b (.x 1)))) ⟨0, 1, 0, 0, 0, 0⟩
  (.ite (.and (.not (.x 0)) (.not (.x 1)))
  (.call (.c true) false 55 [(.agg [(.sl (.x 0)), (.i .i64 (.x 0)), (.i .i64 (.x 1)), (.i .i64 (.x 2)), (.i .i64 (.x 3)), (.i .i64 (.x 4))])] (.tup [(.one (.sl (.x 1))), (.agg [(.sl (.x 2)), (.i .i64 (.x 9)), (.i .i64 (.x 10)), (.i .i64 (.x 11)), (.i .i64 (.x 12)), (.i .i64 (.x 13))])]) ⟨5, 0, 0, 0, 2, 0⟩
  (.ret (.tup [(.one (.sl (.x 1))), (.agg [(.sl (.x 2)), (.i .i64 (.x 9)), (.i .i64 (.x 10)), (.i .i64 (.x 11)), (.i .i64 (.x 12)), (.i .i64 (.x 13))])])))
  (.call (.c true) false 56 [(.agg [(.sl (.x 0)), (.i .i64 (.x 0)), (.i .i64 (.x 1)), (.i .i64 (.x 2)), (.i .i64 (.x 3)), (.i .i64 (.x 4))]), (.one (.s (.x 0)))] (.p (.agg [(.sl (.x 1)), (.i .i64 (.x 9)), (.i .i64 (.x 10)), (.i .i64 (.x 11)), (.i .i64 (.x 12)), (.i .i64 (.x 13))])) ⟨5, 0, 0, 0, 1, 0⟩
  (.call (.c true) false 26 [(.agg [(.sl (.x 1)), (.i .i64 (.x 9)), (.i .i64 (.x 10)), (.i .i64 (.x 11)), (.i .i64 (.x 12)), (.i .i64 (.x 13))])] (.tup [(.one (.sl (.x 2))), (.agg [(.sl (.x 3)), (.i .i64 (.x 14)), (.i .i64 (.x 15)), (.i .i64 (.x 16)), (.i .i64 (.x 17)), (.i .i64 (.x 18))])]) ⟨5, 0, 0, 0, 2, 0⟩
  (.need (.c true) (.and (.le (.c (-9223372036854775808)) (.sub (.x 15) (.c 1))) (.le (.sub (.x 15) (.c 1)) (.c 9223372036854775807)))
  (.ite (.eqS (.x 0) (.c [45]))
  (.call (.c true) false 31 [(.one (.i .u8 (.c 30))), (.agg [(.i .u8 (.x 5)), (.i .i64 (.x 6)), (.i .i64 (.x 7)), (.i .i64 (.x 8)), (.s (.x 0))]), (.one (.s (.c []))), (.one (.i .i64 (.c 12))), (.one (.sl (.x 2)))] (.p (.one (.sl (.x 4)))) ⟨0, 0, 0, 0, 1, 0⟩
  (.ret (.tup [(.one (.sl (.x 4))), (.agg [(.sl (.x 3)), (.i .i64 (.x 14)), (.i .i64 (.sub (.x 15) (.c 1))), (.i .i64 (.x 16)), (.i .i64 (.x 17)), (.i .i64 (.x 18))])])))
  (.call (.c true) false 31 [(.one (.i .u8 (.c 30))), (.agg [(.i .u8 (.x 5)), (.i .i64 (.x 6)), (.i .i64 (.x 7)), (.i .i64 (.x 8)), (.s (.x 0))]), (.one (.s (.c []))), (.one (.i .i64 (.c 13))), (.one (.sl (.x 2)))] (.p (.one (.sl (.x 4)))) ⟨0, 0, 0, 0, 1, 0⟩
  (.ret (.tup [(.one (.sl (.x 4))), (.agg [(.sl (.x 3)), (.i .i64 (.x 14)), (.i .i64 (.sub (.x 15) (.c 1))), (.i .i64 (.x 16)), (.i .i64 (.x 17)), (.i .i64 (.x 18))])])))))))))))
theorem gen_run6 : genFn ⟨true, []⟩ Tryz.prog (fun l => ([] : List LAnn).getD l ⟨[], [], []⟩) Tryz.f26 = fm_run6 := by kernel_rfl
theorem ps_run6 : freshPs Tryz.prog .zero Tryz.f26.params.toList = some ([(.agg [(.sl (.x 0)), (.i .i64 (.x 0)), (.i .i64 (.x 1)), (.i .i64 (.x 2)), (.i .i64 (.x 3)), (.i .i64 (.x 4))])], ⟨5, 0, 0, 0, 1, 0⟩) := by kernel_rfl
section
variable {L : List Tok} {p q q0 : PS}
theorem adv_len {e : Int} (A : Adv L q0 q e) {X c : Nat} (h : X ≤ q0.a + (if q0.bad = true then c else 0)) : X ≤ q.a + (if q.bad = true then c else 0) := by
  have ha := A.a
  cases hb : q0.bad with
  | true =>
    have hq : q.bad = true := by rw [bad_f (A.b hb)]; exact hb
    rw [hb] at h; rw [hq]
    simp at h ⊢; omega
  | false =>
    rw [hb] at h
    simp at h
    split <;> omega
theorem open_len (H : LW L) (_hb : p.bad = false) {s : List UInt8} (A : Adv L (pOpen L s p) q0 0) {c X : Nat} (hc : 2 ≤ c) (h : X + (pOpen L s p).a ≤ q0.a + (if q0.bad = true then (if (pOpen L s p).bad = true then 1 else c) else 0)) :
    X + 1 + p.a ≤ q0.a + (if q0.bad = true then c else 0) := by
  have hao := (adv_open H s p).a
  cases hob : (pOpen L s p).bad with
  | true =>
    have hqb : q0.bad = true := by rw [bad_f (A.b hob)]; exact hob
    rw [hob, hqb] at h
    rw [hqb]
    simp at h ⊢
    omega
  | false =>
    obtain ⟨_, _, _, o4⟩ := good_open hob
    rw [hob] at h
    rw [o4] at h
    simp at h
    omega
theorem len_good {c X : Nat} (hb : p.bad = false) (h : X ≤ q.a + (if q.bad = true then c else 0)) : X ≤ q.a + (if q.bad = true then (if p.bad = true then 1 else c) else 0) := by
  rw [hb]; simpa using h
theorem len_any {c X m : Nat} (hc : c ≤ m) (h : X ≤ q.a + (if q.bad = true then (if p.bad = true then 1 else c) else 0)) (hm : 1 ≤ m) : X ≤ q.a + m := by
  refine Nat.le_trans h ?_
  split
  · split <;> omega
  · omega
theorem adv_less (q : PS) (e : Int) : Adv L q { q with d := q.d + e } e := ⟨rfl, Nat.le_refl _, id, fun _ => rfl⟩
end
theorem LR.less {h : Hp} {sl : Slc} {L : List Tok} {p r : PS} {n m : Nat} (R : LR h sl L p r n) (hm : m ≤ n) : LR h sl L p r m := ⟨R.W, R.k, R.e, R.d0, by have := R.d1; omega⟩
def prodR (run : List Tok → Nat → PS → Option (Tr × PS)) (n : Nat) (args : List Value) (h : Hp) (φ : Value → Hp → Prop) : Prop :=
  ∃ m, m ≤ n ∧ ∃ sl L p r t q, args = [rv sl r] ∧ LR h sl L p r m ∧ run L m p = some (t, q) ∧ resR sl 3 p t q h φ
def exprR (n : Nat) (args : List Value) (h : Hp) (φ : Value → Hp → Prop) : Prop :=
  ∃ m, m ≤ n ∧ ∃ sl L p r t q, ∃ lvl : Nat, args = [rv sl r, .int .i64 lvl] ∧ 1 ≤ lvl ∧ lvl ≤ 7 ∧ LR h sl L p r m ∧ pBin L m lvl p = some (t, q) ∧ resR sl 3 p t q h φ
def ExprR (n : Nat) : Prop := ∀ args h φ w, exprR n args h φ → Holds h w → Calls Tryz.prog 13 args.toArray w fun e w' => ∃ v k, e = .returned v ∧ φ v k ∧ Holds k w' ∧ Fr w.heap.size h k w w'
def UnR (n : Nat) : Prop := ∀ args h φ w, prodR pUn n args h φ → Holds h w → Calls Tryz.prog 26 args.toArray w fun e w' => ∃ v k, e = .returned v ∧ φ v k ∧ Holds k w' ∧ Fr w.heap.size h k w w'
def PostR (n : Nat) : Prop := ∀ args h φ w, prodR runPost n args h φ → Holds h w → Calls Tryz.prog 55 args.toArray w fun e w' => ∃ v k, e = .returned v ∧ φ v k ∧ Holds k w' ∧ Fr w.heap.size h k w w'
def AtomR (n : Nat) : Prop := ∀ args h φ w, prodR pAtom n args h φ → Holds h w → Calls Tryz.prog 83 args.toArray w fun e w' => ∃ v k, e = .returned v ∧ φ v k ∧ Holds k w' ∧ Fr w.heap.size h k w w'
def ctExprR {n : Nat} (H : ExprR n) : Ct Tryz.prog := ⟨13, exprR n, H⟩
def ctUnR {n : Nat} (H : UnR n) : Ct Tryz.prog := ⟨26, prodR pUn n, H⟩
def ctPostR {n : Nat} (H : PostR n) : Ct Tryz.prog := ⟨55, prodR runPost n, H⟩
def ctAtomR {n : Nat} (H : AtomR n) : Ct Tryz.prog := ⟨83, prodR pAtom n, H⟩
theorem is_text {L : List Tok} {s : List UInt8} {p : PS} (h : pIs L s p = true) : (tk L p).x = s := by
  unfold pIs at h
  simp only [Bool.and_eq_true, beq_iff_eq] at h
  exact h.2
set_option maxHeartbeats 8000000 in
theorem un_ok06 {n : Nat} (HU : UnR n) (HP : PostR n) : UnR (n + 1) := by
  rintro args h φ w ⟨m, hm, sl, L, p, r, t, q, rfl, R, hr, hφ⟩ hH
  cases m with
  | zero => cases hr
  | succ m =>
  refine by_fm Tryz.func26 gen_run6 ps_run6 [ctRNow, ctRIs, ctROpens, ctNode06, ctUnR HU, ctPostR HP] φ (noInv) (noMeas) ⟨[(r.a : Int), r.d, r.f.1, r.f.2.1, r.f.2.2], [], [], [], [sl], [], h, noM⟩ ⟨rfl, rfl, rfl, rfl, rfl, rfl⟩ ones_nil ?_ w hH rfl
  generalize hE : (⟨specOf _, _, _, _⟩ : Env) = E
  have s_ctRNow : E.spec 29 = (ctRNow).spec := by rw [← hE]; rfl
  have s_ctRIs : E.spec 28 = (ctRIs).spec := by rw [← hE]; rfl
  have s_ctROpens : E.spec 56 = (ctROpens).spec := by rw [← hE]; rfl
  have s_ctNode06 : E.spec 31 = (ctNode06).spec := by rw [← hE]; rfl
  have s_ctU : E.spec 26 = (ctUnR HU).spec := by rw [← hE]; rfl
  have s_ctP : E.spec 55 = (ctPostR HP).spec := by rw [← hE]; rfl
  have ep : E.post = φ := by rw [← hE]
  clear hE
  unfold fm_run6
  rw [pUn] at hr
  have htk := R.k.tk (L := L)
  have hll := R.W.len
  -- what is left to show behind a sign
  have fin : ∀ (c : Int) (s : List UInt8) (x : Tr) (q0 : PS), pIs L s p = true → pUn L m (pOpen L s p) = some (x, q0) → t = nd 30 (tk L p) c [] [x] → q = { q0 with d := q0.d - 1 } → ∀ s1 k l r' sl' h', HLe h k → NW k s1 l →
      l.length + (pOpen L s p).a ≤ q0.a + (if q0.bad = true then (if (pOpen L s p).bad = true then 1 else 3) else 0) → (q0.bad = false → l = x.nods) → Lk q0 r' → HLe k h' → NW h' sl' (⟨30, (tk L r).l, (tk L r).c, l.length, c, []⟩ :: l) →
      φ (.tuple #[sl'.val, rv sl { r' with d := r'.d - 1 }]) h' := by
    intro c s x q0 hs hx ht hq s1 k l r' sl' h' g1 g2 g4 g5 g6 e1 e2
    subst ht hq
    have AU := (advE R.W.lw m).2.2.1 _ _ _ hx
    refine hφ sl' h' _ _ (hle_trans g1 e1) e2 (by simp) (len_good (is_good hs) ?_) (fun hq => ?_) (g6.deep (-1))
    · exact adv_len (adv_less (L := L) q0 (-1)) (by have := open_len R.W.lw (is_good hs) AU (by omega) g4; simpa using this)
    · rw [g5 hq, nods_nd, htk, nodss_cons, nodss_nil, List.append_nil]
  rw [th_call, if_pos (by rfl), s_ctRNow]
  refine ⟨sl, L, r, rfl, R.W, ?_⟩
  simp [go_sem, tokv, tkv]
  rw [then_step, th_call, if_pos (by rfl), s_ctRIs]
  refine ⟨sl, L, r, [45], rfl, R.W, ?_⟩
  simp [go_sem]
  rw [R.k.is]
  cases h45 : pIs L [45] p with
  | true =>
    rw [if_pos h45] at hr
    simp only [Option.map_eq_some_iff] at hr
    obtain ⟨⟨x, q0⟩, hx, he⟩ := hr
    rw [is_text h45] at hx
    cases he
    have AU := (advE R.W.lw m).2.2.1 _ _ _ hx
    have AO := adv_open R.W.lw [45] p
    have RO := R.opens [45]
    have hdO := AU.d
    have hdd := RO.d1
    have hd00 := RO.d0
    have hq0 := AU.v (AO.v R.at')
    rw [then_step, th_call, if_neg (by simp [go_sem])]
    simp [go_sem]
    rw [then_step, th_ite, if_neg (by simp [go_sem])]
    rw [then_step, th_call, if_pos (by rfl), s_ctROpens]
    refine ⟨sl, L, r, [45], by simp [go_sem, rv, htk, is_text h45], R.W, ?_⟩
    simp [go_sem, rv]
    rw [then_step, th_call, if_pos (by rfl), s_ctU]
    refine ⟨m, by omega, sl, L, _, _, x, q0, rfl, RO, hx, fun s1 k l r' g1 g2 g3 g4 g5 g6 => ?_⟩
    have hlo := g6.lo
    have hhi := g6.hi
    have hlen := len_any (m := 3) (by omega) g4 (by omega)
    simp [go_sem, rv]
    rw [then_step, th_need]
    refine ⟨by simp [go_sem]; omega, ?_⟩
    rw [then_step, th_ite, if_pos (by simp [go_sem, htk, is_text h45])]
    rw [then_step, th_call, if_pos (by rfl), s_ctNode06]
    refine ⟨30, tk L r, [], 12, s1, l, by simp [go_sem, tokv, tkv], g2, by omega, fun sl' h' e1 e2 => ?_⟩
    simp [go_sem]
    rw [then_step, says_ret, ep]
    exact fin 12 [45] x q0 h45 hx rfl rfl s1 k l r' sl' h' g1 g2 g4 g5 g6 e1 e2
  | false =>
    rw [if_neg (by rw [h45]; decide)] at hr
    rw [then_step, th_call, if_pos (by simp [go_sem]), s_ctRIs]
    refine ⟨sl, L, r, [33], rfl, R.W, ?_⟩
    simp [go_sem]
    rw [R.k.is]
    cases h33 : pIs L [33] p with
    | true =>
      rw [if_pos h33] at hr
      simp only [Option.map_eq_some_iff] at hr
      obtain ⟨⟨x, q0⟩, hx, he⟩ := hr
      rw [is_text h33] at hx
      cases he
      have AU := (advE R.W.lw m).2.2.1 _ _ _ hx
      have AO := adv_open R.W.lw [33] p
      have RO := R.opens [33]
      have hdO := AU.d
      have hdd := RO.d1
      have hd00 := RO.d0
      have hq0 := AU.v (AO.v R.at')
      rw [then_step, th_ite, if_neg (by simp [go_sem])]
      rw [then_step, th_call, if_pos (by rfl), s_ctROpens]
      refine ⟨sl, L, r, [33], by simp [go_sem, rv, htk, is_text h33], R.W, ?_⟩
      simp [go_sem, rv]
      rw [then_step, th_call, if_pos (by rfl), s_ctU]
      refine ⟨m, by omega, sl, L, _, _, x, q0, rfl, RO, hx, fun s1 k l r' g1 g2 g3 g4 g5 g6 => ?_⟩
      have hlo := g6.lo
      have hhi := g6.hi
      have hlen := len_any (m := 3) (by omega) g4 (by omega)
      simp [go_sem, rv]
      rw [then_step, th_need]
      refine ⟨by simp [go_sem]; omega, ?_⟩
      rw [then_step, th_ite, if_neg (by simp [go_sem, htk, is_text h33])]
      rw [then_step, th_call, if_pos (by rfl), s_ctNode06]
      refine ⟨30, tk L r, [], 13, s1, l, by simp [go_sem, tokv, tkv], g2, by omega, fun sl' h' e1 e2 => ?_⟩
      simp [go_sem]
      rw [then_step, says_ret, ep]
      exact fin 13 [33] x q0 h33 hx rfl rfl s1 k l r' sl' h' g1 g2 g4 g5 g6 e1 e2
    | false =>
      rw [if_neg (by rw [h33]; decide)] at hr
      rw [then_step, th_ite, if_pos (by simp [go_sem])]
      rw [then_step, th_call, if_pos (by rfl), s_ctP]
      refine ⟨m, by omega, sl, L, p, r, t, q, rfl, R.less (by omega), hr, fun s1 k l r' g1 g2 g3 g4 g5 g6 => ?_⟩
      simp [go_sem, rv]
      rw [then_step, says_ret, ep]
      exact hφ s1 k l r' g1 g2 g3 g4 g5 g6
end Go.Proofs.YthlakehilhpojaaGreatDoor
namespace Go.Proofs.YthlakehilhpojaaGreatDoor
open Go.RowKit
attribute [local go_sem] says_tt says_ff th_need th_ite th_call th_callK th_load th_store says_ret says_again BE.den IE.den SE.den LE.den AE.den CE.den PE.den VE.den KV.val Got.den Got.cnt exI allI exL allL Ctx.push Ctx.heap Ctx.cut Ctx.bare Ctx.mark Inc.blank List.getD_cons_zero List.getD_cons_succ List.cons_append List.nil_append List.append_nil List.map_cons List.map_nil List.replicate_zero List.replicate_succ specOf ltB_t leB_t ltB_f leB_f slc_val slc_nil slc_inj pt_val pt_nil hle_noHeap hle_refl hread_set hwrite_set set_same set_set noHeap_at B_inj ones_nil and_assoc
def fm_rpost6 : Fm := (.call (.c true) false 83 [(.agg [(.sl (.x 0)), (.i .i64 (.x 0)), (.i .i64 (.x 1)), (.i .i64 (.x 2)), (.i .i64 (.x 3)), (.i .i64 (.x 4))])] (.tup [(.one (.sl (.x 1))), (.agg [(.sl (.x 2)), (.i .i64 (.x 5)), (.i .i64 (.x 6)), (.i .i64 (.x 7)), (.i .i64 (.x 8)), (.i .i64 (.x 9))])]) ⟨5, 0, 0, 0, 2, 0⟩
  (.loop 0 ⟨[(.x 5), (.x 6), (.x 7), (.x 8), (.x 9)], [], [], [], [(.x 1), (.x 2)], []⟩
  (.call (.c true) false 28 [(.agg [(.sl (.x 4)), (.i .i64 (.x 10)), (.i .i64 (.x 11)), (.i .i64 (.x 12)), (.i .i64 (.x 13)), (.i .i64 (.x 14))]), (.one (.s (.c [91])))] (.p (.one (.b (.x 0)))) ⟨0, 1, 0, 0, 0, 0⟩
  (.call (.not (.x 0)) false 28 [(.agg [(.sl (.x 4)), (.i .i64 (.x 10)), (.i .i64 (.x 11)), (.i .i64 (.x 12)), (.i .i64 (.x 13)), (.i .i64 (.x 14))]), (.one (.s (.c [46])))] (.p (.one (.b (.x 1)))) ⟨0, 1, 0, 0, 0, 0⟩
  (.ite (.or (.x 0) (.x 1))
  (.call (.c true) false 29 [(.agg [(.sl (.x 4)), (.i .i64 (.x 10)), (.i .i64 (.x 11)), (.i .i64 (.x 12)), (.i .i64 (.x 13)), (.i .i64 (.x 14))])] (.p (.agg [(.i .u8 (.x 15)), (.i .i64 (.x 16)), (.i .i64 (.x 17)), (.i .i64 (.x 18)), (.s (.x 0))])) ⟨4, 0, 1, 0, 0, 0⟩
  (.ite (.eqS (.x 0) (.c [91]))
  (.call (.c true) false 56 [(.agg [(.sl (.x 4)), (.i .i64 (.x 10)), (.i .i64 (.x 11)), (.i .i64 (.x 12)), (.i .i64 (.x 13)), (.i .i64 (.x 14))]), (.one (.s (.c [91])))] (.p (.agg [(.sl (.x 5)), (.i .i64 (.x 19)), (.i .i64 (.x 20)), (.i .i64 (.x 21)), (.i .i64 (.x 22)), (.i .i64 (.x 23))])) ⟨5, 0, 0, 0, 1, 0⟩
  (.call (.c true) false 13 [(.agg [(.sl (.x 5)), (.i .i64 (.x 19)), (.i .i64 (.x 20)), (.i .i64 (.x 21)), (.i .i64 (.x 22)), (.i .i64 (.x 23))]), (.one (.i .i64 (.c 1)))] (.tup [(.one (.sl (.x 6))), (.agg [(.sl (.x 7)), (.i .i64 (.x 24)), (.i .i64 (.x 25)), (.i .i64 (.x 26)), (.i .i64 (.x 27)), (.i .i64 (.x 28))])]) ⟨5, 0, 0, 0, 2, 0⟩
  (.call (.c true) false 84 [(.agg [(.sl (.x 7)), (.i .i64 (.x 24)), (.i .i64 (.x 25)), (.i .i64 (.x 26)), (.i .i64 (.x 27)), (.i .i64 (.x 28))]), (.one (.s (.c [93])))] (.p (.agg [(.sl (.x 8)), (.i .i64 (.x 29)), (.i .i64 (.x 30)), (.i .i64 (.x 31)), (.i .i64 (.x 32)), (.i .i64 (.x 33))])) ⟨5, 0, 0, 0, 1, 0⟩
  (.call (.c true) false 32 [(.one (.sl (.x 3))), (.one (.sl (.x 6)))] (.p (.one (.sl (.x 9)))) ⟨0, 0, 0, 0, 1, 0⟩
  (.call (.c true) false 31 [(.one (.i .u8 (.c 28))), (.agg [(.i .u8 (.x 15)), (.i .i64 (.x 16)), (.i .i64 (.x 17)), (.i .i64 (.x 18)), (.s (.x 0))]), (.one (.s (.c []))), (.one (.i .i64 (.c 0))), (.one (.sl (.x 9)))] (.p (.one (.sl (.x 10)))) ⟨0, 0, 0, 0, 1, 0⟩
  (.again 0 ⟨10, 0, 0, 0, 3, 0⟩ ⟨15, 0, 0, 0, 5, 0⟩ ⟨[(.x 29), (.x 30), (.x 31), (.x 32), (.x 33)], [], [], [], [(.x 10), (.x 8)], []⟩))))))
  (.call (.c true) false 30 [(.agg [(.sl (.x 4)), (.i .i64 (.x 10)), (.i .i64 (.x 11)), (.i .i64 (.x 12)), (.i .i64 (.x 13)), (.i .i64 (.x 14))]), (.one (.s (.c [46])))] (.p (.agg [(.sl (.x 5)), (.i .i64 (.x 19)), (.i .i64 (.x 20)), (.i .i64 (.x 21)), (.i .i64 (.x 22)), (.i .i64 (.x 23))])) ⟨5, 0, 0, 0, 1, 0⟩
  (.call (.c true) false 85 [(.agg [(.sl (.x 5)), (.i .i64 (.x 19)), (.i .i64 (.x 20)), (.i .i64 (.x 21)), (.i .i64 (.x 22)), (.i .i64 (.x 23))]), (.one (.i .u8 (.c 1)))] (.tup [(.agg [(.i .u8 (.x 24)), (.i .i64 (.x 25)), (.i .i64 (.x 26)), (.i .i64 (.x 27)), (.s (.x 1))]), (.agg [(.sl (.x 6)), (.i .i64 (.x 28)), (.i .i64 (.x 29)), (.i .i64 (.x 30)), (.i .i64 (.x 31)), (.i .i64 (.x 32))])]) ⟨9, 0, 1, 0, 1, 0⟩
  (.call (.c true) false 31 [(.one (.i .u8 (.c 29))), (.agg [(.i .u8 (.x 15)), (.i .i64 (.x 16)), (.i .i64 (.x 17)), (.i .i64 (.x 18)), (.s (.x 0))]), (.one (.s (.x 1))), (.one (.i .i64 (.c 0))), (.one (.sl (.x 3)))] (.p (.one (.sl (.x 7)))) ⟨0, 0, 0, 0, 1, 0⟩
  (.again 0 ⟨10, 0, 0, 0, 3, 0⟩ ⟨15, 0, 0, 0, 5, 0⟩ ⟨[(.x 28), (.x 29), (.x 30), (.x 31), (.x 32)], [], [], [], [(.x 7), (.x 6)], []⟩))))))
  (.ret (.tup [(.one (.sl (.x 3))), (.agg [(.sl (.x 4)), (.i .i64 (.x 10)), (.i .i64 (.x 11)), (.i .i64 (.x 12)), (.i .i64 (.x 13)), (.i .i64 (.x 14))])])))))))
theorem gen_rpost6 : genFn ⟨true, []⟩ Tryz.prog (fun l => ([⟨[4], [15, 16, 17, 18, 19, 20, 21, 22, 5, 23, 24, 25, 27, 28, 29, 26, 30, 31, 7, 6, 32, 33, 34, 35, 36, 37, 38, 40, 41, 42, 39, 43, 44, 8, 9, 45, 46, 47, 48, 49, 50], [5, 7, 1, 8, 9]⟩] : List LAnn).getD l ⟨[], [], []⟩) Tryz.f55 = fm_rpost6 := by kernel_rfl
theorem ps_rpost6 : freshPs Tryz.prog .zero Tryz.f55.params.toList = some ([(.agg [(.sl (.x 0)), (.i .i64 (.x 0)), (.i .i64 (.x 1)), (.i .i64 (.x 2)), (.i .i64 (.x 3)), (.i .i64 (.x 4))])], ⟨5, 0, 0, 0, 1, 0⟩) := by kernel_rfl
/-- A row so far: it is short, and the tree's. -/
structure Acc (L : List Tok) (sl : Slc) (h k : Hp) (p p1 r1 : PS) (x : Tr) (s : Slc) (l : List Nod) (n : Nat) : Prop where
  le : HLe h k
  row : NW k s l
  ne : l ≠ []
  len : l.length + p.a ≤ p1.a + (if p1.bad = true then (if p.bad = true then 1 else 3) else 0)
  good : p1.bad = false → l = x.nods
  R : LR k sl L p1 r1 n
  adv : Adv L p p1 0
def measR (N j : Nat) (C : Ctx) : Nat := if C.i.getD (j + 2) 0 = 0 then ((N : Int) - C.i.getD j 0).toNat else 0
theorem mu_lk {L : List Tok} {p r : PS} (k : Lk p r) : (if r.f.1 = 0 then ((L.length : Int) - (r.a : Int)).toNat else 0) = mu L p := by
  rw [k.f, k.a]
  unfold mu PS.bad
  by_cases e : p.f.1 = 0
  · simp [e]
  · simp [e]
def postInvR (h : Hp) (sl : Slc) (L : List Tok) (p : PS) (t : Tr) (q : PS) (n : Nat) : Nat → Ctx → Prop := fun _ C =>
  ∃ i0 i1 i2 i3 i4 i5 i6 i7 i8 i9 s1 s2 s k l r1 p1 x m1, C = ⟨[i0, i1, i2, i3, i4, i5, i6, i7, i8, i9, (r1.a : Int), r1.d, r1.f.1, r1.f.2.1, r1.f.2.2], [], [], [], [sl, s1, s2, s, sl], [], k, noM⟩ ∧ m1 ≤ n ∧ pPost L m1 x p1 = some (t, q) ∧ Acc L sl h k p p1 r1 x s l m1
set_option maxHeartbeats 8000000 in
theorem post_ok06 {n : Nat} (HE : ExprR n) (HA : AtomR n) : PostR n := by
  rintro args h φ w ⟨m, hm, sl, L, p, r, t, q, rfl, R, hr, hφ⟩ hH
  refine by_fm Tryz.func55 gen_rpost6 ps_rpost6 [ctRNow, ctRIs, ctROpens, ctRShuts, ctRMust, ctRfWord, ctNode06, ctJoin06, ctExprR HE, ctAtomR HA] φ (postInvR h sl L p t q n) (fun _ => measR L.length 10) ⟨[(r.a : Int), r.d, r.f.1, r.f.2.1, r.f.2.2], [], [], [], [sl], [], h, noM⟩ ⟨rfl, rfl, rfl, rfl, rfl, rfl⟩ ones_nil ?_ w hH rfl
  generalize hE : (⟨specOf _, _, _, _⟩ : Env) = E
  have s_ctRNow : E.spec 29 = (ctRNow).spec := by rw [← hE]; rfl
  have s_ctRIs : E.spec 28 = (ctRIs).spec := by rw [← hE]; rfl
  have s_ctROpens : E.spec 56 = (ctROpens).spec := by rw [← hE]; rfl
  have s_ctRShuts : E.spec 84 = (ctRShuts).spec := by rw [← hE]; rfl
  have s_ctRMust : E.spec 30 = (ctRMust).spec := by rw [← hE]; rfl
  have s_ctRfWord : E.spec 85 = (ctRfWord).spec := by rw [← hE]; rfl
  have s_ctNode06 : E.spec 31 = (ctNode06).spec := by rw [← hE]; rfl
  have s_ctJoin06 : E.spec 32 = (ctJoin06).spec := by rw [← hE]; rfl
  have s_ctE : E.spec 13 = (ctExprR HE).spec := by rw [← hE]; rfl
  have s_ctA : E.spec 83 = (ctAtomR HA).spec := by rw [← hE]; rfl
  have ep : E.post = φ := by rw [← hE]
  have ei : E.inv = (postInvR h sl L p t q n) := by rw [← hE]
  have em : E.meas = (fun _ => measR L.length 10) := by rw [← hE]
  clear hE
  unfold fm_rpost6
  unfold runPost at hr
  simp only [Option.bind_eq_some_iff] at hr
  obtain ⟨⟨x, p1⟩, h1, h2⟩ := hr
  have hll := R.W.len
  have lw := R.W.lw
  rw [th_call, if_pos (by rfl), s_ctA]
  refine ⟨m, hm, sl, L, p, r, x, p1, rfl, R, h1, fun s k l r1 g1 g2 g3 g4 g5 g6 => ?_⟩
  have A1 := (advE lw m).2.2.2.2.1 _ _ _ h1
  simp [go_sem, rv]
  rw [then_step]
  refine loop_intro ?_ ?_
  · rw [ei]
    exact ⟨_, _, _, _, _, _, _, _, _, _, _, _, s, k, l, r1, p1, x, m, rfl, hm, h2, g1, g2, g3, g4, g5, R.next A1 g6 g1 (Nat.le_refl _), A1⟩
  rw [ei, em]
  clear h1 h2 g1 g2 g3 g4 g5 g6 A1 s k l r1 p1 x
  rintro i' bb ss v' ll pp hh0 M ⟨i0, i1, i2, i3, i4, i5, i6, i7, i8, i9, s1, s2, s, k, l, r1, p1, x, m1, hC, hm1, hb1, A⟩ hM
  cases hC
  have hM : M 0 = mu L p1 := hM.trans (mu_lk A.R.k)
  cases m1 with
  | zero => cases hb1
  | succ m1 =>
  rw [pPost] at hb1
  have htk := A.R.k.tk (L := L)
  have hal := A.len
  rw [th_call, if_pos (by rfl), s_ctRIs]
  refine ⟨sl, L, r1, [91], rfl, A.R.W, ?_⟩
  simp [go_sem]
  rw [A.R.k.is]
  cases c1 : pIs L [91] p1 with
  | true =>
    have hb := is_good c1
    have hpb := bad_back A.adv hb
    rw [hb] at hal
    rw [if_pos c1] at hb1
    simp only [Option.bind_eq_some_iff] at hb1
    obtain ⟨⟨y, q0⟩, h3, h4⟩ := hb1
    have Ao := adv_open lw [91] p1
    have AE := (advE lw m1).1 _ _ _ _ h3
    have As := adv_shut lw [93] q0
    have hq0 := AE.v (Ao.v A.R.at')
    have RO := A.R.opens [91]
    rw [then_step, th_call, if_neg (by simp [go_sem])]
    simp [go_sem]
    rw [then_step, th_ite, if_pos (by simp [go_sem])]
    rw [then_step, th_call, if_pos (by rfl), s_ctRNow]
    refine ⟨sl, L, r1, rfl, A.R.W, ?_⟩
    simp [go_sem, tokv, tkv]
    rw [then_step, th_ite, if_pos (by simp [go_sem, htk, is_text c1])]
    rw [then_step, th_call, if_pos (by rfl), s_ctROpens]
    refine ⟨sl, L, r1, [91], rfl, A.R.W, ?_⟩
    simp [go_sem, rv]
    rw [then_step, th_call, if_pos (by rfl), s_ctE]
    refine ⟨m1, by omega, sl, L, _, _, y, q0, 1, rfl, by omega, by omega, RO, h3, fun s3 k3 l3 r3 g1 g2 g3 g4 g5 g6 => ?_⟩
    have hol := open_len lw hb AE (by omega) g4
    have RE := RO.next AE g6 g1 (Nat.le_refl _)
    simp [go_sem, rv]
    rw [then_step, th_call, if_pos (by rfl), s_ctRShuts]
    refine ⟨sl, L, r3, [93], rfl, RE.W, ?_⟩
    simp [go_sem, rv]
    have hal' : l.length + p.a ≤ p1.a := by simpa using hal
    have hol' : l3.length + 1 + p1.a ≤ q0.a + 3 := by
      refine Nat.le_trans hol ?_
      split <;> omega
    rw [then_step, th_call, if_pos (by rfl), s_ctJoin06]
    refine ⟨s, s3, l, l3, rfl, A.row.le g1, g2, by omega, A.ne, fun s4 k4 e1 e2 => ?_⟩
    simp [go_sem]
    rw [then_step, th_call, if_pos (by rfl), s_ctNode06]
    refine ⟨28, tk L r1, [], 0, s4, l ++ l3, by simp [go_sem, tokv, tkv], e2, by simp; omega, fun s5 k5 d1 d2 => ?_⟩
    simp [go_sem]
    have Aall := (Ao.trans AE).trans As
    have hle := hle_trans A.le (hle_trans g1 (hle_trans e1 d1))
    rw [then_step, says_again, ei, em]
    refine ⟨⟨_, _, _, _, _, _, _, _, _, _, _, _, s5, k5, _, pShut L [93] r3, pShut L [93] q0, _, m1, rfl, by omega, h4, hle, d2, by simp, len_good hpb (adv_len As ?_), fun hq => ?_, A.R.go (Aall.of (f := 0) (by omega)) (g6.shut [93]) (hle_trans g1 (hle_trans e1 d1)) ?_ (fun hq => ?_) ?_, (A.adv.trans Aall).of (by omega)⟩, ?_⟩
    · have : (l ++ l3).length = l.length + l3.length := by simp
      simp only [List.length_cons, this]
      omega
    · rw [nods_nd, htk, nodss_cons, nodss_cons, nodss_nil, List.append_nil, A.good hb, g5 (bad_back As hq)]
    · have := Aall.d; have := A.R.d0; omega
    · have := Aall.d; have := A.R.e hb; omega
    · have := Aall.d; have := A.R.d1; omega
    · show (if (pShut L [93] r3).f.1 = 0 then ((L.length : Int) - ((pShut L [93] r3).a : Int)).toNat else 0) < M 0
      rw [mu_lk (g6.shut [93]), hM]
      have m1 := mu_lt (went_open c1) hb A.R.at'
      have m2 := mu_le (AE.trans As)
      omega
  | false =>
    rw [c1, if_neg (by decide)] at hb1
    rw [then_step, th_call, if_pos (by simp [go_sem]), s_ctRIs]
    refine ⟨sl, L, r1, [46], rfl, A.R.W, ?_⟩
    simp [go_sem]
    rw [A.R.k.is]
    cases c2 : pIs L [46] p1 with
    | true =>
      have hb := is_good c2
      have hpb := bad_back A.adv hb
      rw [hb] at hal
      have hal' : l.length + p.a ≤ p1.a := by simpa using hal
      rw [if_pos c2] at hb1
      have Ap := adv_pass lw p1
      have Aw := adv_word lw 1 (pPass L p1)
      have RM := A.R.must [46]
      have hmi := must_is c2
      rw [hmi] at RM
      have htk2 := RM.k.tk (L := L)
      rw [then_step, th_ite, if_pos (by simp [go_sem])]
      rw [then_step, th_call, if_pos (by rfl), s_ctRNow]
      refine ⟨sl, L, r1, rfl, A.R.W, ?_⟩
      simp [go_sem, tokv, tkv]
      rw [then_step, th_ite, if_neg (by simp [go_sem, htk, is_text c2])]
      rw [then_step, th_call, if_pos (by rfl), s_ctRMust]
      refine ⟨sl, L, r1, [46], rfl, A.R.W, ?_⟩
      simp [go_sem, rv]
      rw [then_step, th_call, if_pos (by rfl), s_ctRfWord]
      refine ⟨sl, L, pMust L [46] r1, 1, rfl, by decide, RM.W, ?_⟩
      simp [go_sem, rv, tokv, tkv]
      rw [then_step, th_call, if_pos (by rfl), s_ctNode06]
      have hpa := A.R.at'
      refine ⟨29, tk L r1, (tk L (pMust L [46] r1)).x, 0, s, l, by simp [go_sem, tokv, tkv], A.row, by omega, fun s5 k5 d1 d2 => ?_⟩
      simp [go_sem]
      have Aall := Ap.trans Aw
      rw [then_step, says_again, ei, em]
      refine ⟨⟨_, _, _, _, _, _, _, _, _, _, _, _, s5, k5, _, pWord L 1 (pMust L [46] r1), pWord L 1 (pPass L p1), _, m1, rfl, by omega, hb1, hle_trans A.le d1, d2, by simp, len_good hpb ?_, fun hq => ?_, A.R.go (Aall.of (f := 0) (by omega)) (RM.k.word 1) d1 ?_ (fun hq => ?_) ?_, (A.adv.trans Aall).of (by omega)⟩, ?_⟩
      · have := pass_a c2
        have := Aw.a
        simp only [List.length_cons]
        omega
      · rw [nods_nd, htk, htk2, nodss_cons, nodss_nil, List.append_nil, A.good hb]
      · have := Aall.d; have := A.R.d0; omega
      · have := Aall.d; have := A.R.e hb; omega
      · have := Aall.d; have := A.R.d1; omega
      · show (if (pWord L 1 (pMust L [46] r1)).f.1 = 0 then ((L.length : Int) - ((pWord L 1 (pMust L [46] r1)).a : Int)).toNat else 0) < M 0
        rw [mu_lk (RM.k.word 1), hM]
        have m1 := mu_lt (went_is c2) hb A.R.at'
        have m2 := mu_le Aw
        omega
    | false =>
      rw [c2, if_neg (by decide)] at hb1
      cases hb1
      rw [then_step, th_ite, if_neg (by simp [go_sem])]
      rw [then_step, says_ret, ep]
      exact hφ s hh0 l r1 A.le A.row A.ne A.len A.good A.R.k
end Go.Proofs.YthlakehilhpojaaGreatDoor
namespace Go.Proofs.YthlakehilhpojaaGreatDoor
open Go.RowKit
attribute [local go_sem] says_tt says_ff th_need th_ite th_call th_callK th_load th_store says_ret says_again BE.den IE.den SE.den LE.den AE.den CE.den PE.den VE.den KV.val Got.den Got.cnt exI allI exL allL Ctx.push Ctx.heap Ctx.cut Ctx.bare Ctx.mark Inc.blank List.getD_cons_zero List.getD_cons_succ List.cons_append List.nil_append List.append_nil List.map_cons List.map_nil List.replicate_zero List.replicate_succ specOf ltB_t leB_t ltB_f leB_f slc_val slc_nil slc_inj pt_val pt_nil hle_noHeap hle_refl hread_set hwrite_set set_same set_set noHeap_at B_inj ones_nil and_assoc
def fm_rargs : Fm := (.call (.c true) false 56 [(.agg [(.sl (.x 0)), (.i .i64 (.x 0)), (.i .i64 (.x 1)), (.i .i64 (.x 2)), (.i .i64 (.x 3)), (.i .i64 (.x 4))]), (.one (.s (.c [40])))] (.p (.agg [(.sl (.x 1)), (.i .i64 (.x 5)), (.i .i64 (.x 6)), (.i .i64 (.x 7)), (.i .i64 (.x 8)), (.i .i64 (.x 9))])) ⟨5, 0, 0, 0, 1, 0⟩
  (.mk [] 32 0
  (.loop 0 ⟨[(.c 0), (.x 5), (.x 6), (.x 7), (.x 8), (.x 9)], [], [], [], [(.x 2), (.x 1)], []⟩
  (.call (.c true) false 34 [(.agg [(.sl (.x 4)), (.i .i64 (.x 11)), (.i .i64 (.x 12)), (.i .i64 (.x 13)), (.i .i64 (.x 14)), (.i .i64 (.x 15))])] (.p (.one (.b (.x 0)))) ⟨0, 1, 0, 0, 0, 0⟩
  (.call (.not (.x 0)) false 28 [(.agg [(.sl (.x 4)), (.i .i64 (.x 11)), (.i .i64 (.x 12)), (.i .i64 (.x 13)), (.i .i64 (.x 14)), (.i .i64 (.x 15))]), (.one (.s (.c [41])))] (.p (.one (.b (.x 1)))) ⟨0, 1, 0, 0, 0, 0⟩
  (.ite (.and (.not (.x 0)) (.not (.x 1)))
  (.ite (.lt (.c 0) (.x 10))
  (.call (.c true) false 30 [(.agg [(.sl (.x 4)), (.i .i64 (.x 11)), (.i .i64 (.x 12)), (.i .i64 (.x 13)), (.i .i64 (.x 14)), (.i .i64 (.x 15))]), (.one (.s (.c [44])))] (.p (.agg [(.sl (.x 5)), (.i .i64 (.x 16)), (.i .i64 (.x 17)), (.i .i64 (.x 18)), (.i .i64 (.x 19)), (.i .i64 (.x 20))])) ⟨5, 0, 0, 0, 1, 0⟩
  (.call (.c true) false 13 [(.agg [(.sl (.x 5)), (.i .i64 (.x 16)), (.i .i64 (.x 17)), (.i .i64 (.x 18)), (.i .i64 (.x 19)), (.i .i64 (.x 20))]), (.one (.i .i64 (.c 1)))] (.tup [(.one (.sl (.x 6))), (.agg [(.sl (.x 7)), (.i .i64 (.x 21)), (.i .i64 (.x 22)), (.i .i64 (.x 23)), (.i .i64 (.x 24)), (.i .i64 (.x 25))])]) ⟨5, 0, 0, 0, 2, 0⟩
  (.app (.x 3) (.x 6) 6 56 32
  (.need (.c true) (.and (.le (.c (-9223372036854775808)) (.add (.x 10) (.c 1))) (.le (.add (.x 10) (.c 1)) (.c 9223372036854775807)))
  (.again 0 ⟨10, 0, 0, 0, 3, 0⟩ ⟨16, 0, 0, 0, 5, 0⟩ ⟨[(.add (.x 10) (.c 1)), (.x 21), (.x 22), (.x 23), (.x 24), (.x 25)], [], [], [], [(.x 8), (.x 7)], []⟩)))))
  (.call (.c true) false 13 [(.agg [(.sl (.x 4)), (.i .i64 (.x 11)), (.i .i64 (.x 12)), (.i .i64 (.x 13)), (.i .i64 (.x 14)), (.i .i64 (.x 15))]), (.one (.i .i64 (.c 1)))] (.tup [(.one (.sl (.x 5))), (.agg [(.sl (.x 6)), (.i .i64 (.x 16)), (.i .i64 (.x 17)), (.i .i64 (.x 18)), (.i .i64 (.x 19)), (.i .i64 (.x 20))])]) ⟨5, 0, 0, 0, 2, 0⟩
  (.app (.x 3) (.x 5) 6 56 32
  (.need (.c true) (.and (.le (.c (-9223372036854775808)) (.add (.x 10) (.c 1))) (.le (.add (.x 10) (.c 1)) (.c 9223372036854775807)))
  (.again 0 ⟨10, 0, 0, 0, 3, 0⟩ ⟨16, 0, 0, 0, 5, 0⟩ ⟨[(.add (.x 10) (.c 1)), (.x 16), (.x 17), (.x 18), (.x 19), (.x 20)], [], [], [], [(.x 7), (.x 6)], []⟩)))))
  (.call (.c true) false 84 [(.agg [(.sl (.x 4)), (.i .i64 (.x 11)), (.i .i64 (.x 12)), (.i .i64 (.x 13)), (.i .i64 (.x 14)), (.i .i64 (.x 15))]), (.one (.s (.c [41])))] (.p (.agg [(.sl (.x 5)), (.i .i64 (.x 16)), (.i .i64 (.x 17)), (.i .i64 (.x 18)), (.i .i64 (.x 19)), (.i .i64 (.x 20))])) ⟨5, 0, 0, 0, 1, 0⟩
  (.ret (.tup [(.one (.sl (.x 3))), (.agg [(.sl (.x 5)), (.i .i64 (.x 16)), (.i .i64 (.x 17)), (.i .i64 (.x 18)), (.i .i64 (.x 19)), (.i .i64 (.x 20))])])))))))))
theorem gen_rargs : genFn ⟨true, []⟩ Tryz.prog (fun l => ([⟨[4, 5], [11, 12, 13, 14, 15, 16, 17, 18, 19, 20, 21, 22, 24, 25, 23, 26, 27, 7, 6, 28, 29, 30, 31, 32, 33], [1, 7]⟩] : List LAnn).getD l ⟨[], [], []⟩) Tryz.f97 = fm_rargs := by kernel_rfl
theorem ps_rargs : freshPs Tryz.prog .zero Tryz.f97.params.toList = some ([(.agg [(.sl (.x 0)), (.i .i64 (.x 0)), (.i .i64 (.x 1)), (.i .i64 (.x 2)), (.i .i64 (.x 3)), (.i .i64 (.x 4))])], ⟨5, 0, 0, 0, 1, 0⟩) := by kernel_rfl
def argsR (n : Nat) (args : List Value) (h : Hp) (φ : Value → Hp → Prop) : Prop :=
  ∃ m, m ≤ n ∧ ∃ sl L p r ts q, args = [rv sl r] ∧ p.bad = false ∧ LR h sl L p r (m + 1) ∧ pArgs L m true [] (pOpen L [40] p) = some (ts, q) ∧
    ∀ s k l r', HLe h k → NW k s l → l.length + p.a ≤ q.a + (if q.bad = true then 3 else 0) → (q.bad = false → l = Tr.nodss ts) → Lk (pShut L [41] q) r' → φ (.tuple #[s.val, rv sl r']) k
def ArgsR (n : Nat) : Prop := ∀ args h φ w, argsR n args h φ → Holds h w → Calls Tryz.prog 97 args.toArray w fun e w' => ∃ v k, e = .returned v ∧ φ v k ∧ Holds k w' ∧ Fr w.heap.size h k w w'
def ctArgsR {n : Nat} (H : ArgsR n) : Ct Tryz.prog := ⟨97, argsR n, H⟩
structure AccS (L : List Tok) (sl : Slc) (h k : Hp) (p o p1 r1 : PS) (acc : List Tr) (s : Slc) (l : List Nod) (n : Nat) : Prop where
  le : HLe h k
  row : NW k s l
  own : OwnS k s (ncs l) ND 6
  sn : s.n = l.length
  fr : ∀ z, s.a = some z → h z.1 = none
  len : l.length + p.a ≤ p1.a + (if p1.bad = true then 3 else 0)
  good : p1.bad = false → l = Tr.nodss acc
  R : LR k sl L p1 r1 n
  adv : Adv L o p1 0
def argsInv (h : Hp) (sl : Slc) (L : List Tok) (p : PS) (ts : List Tr) (q : PS) (n : Nat) : Nat → Ctx → Prop := fun _ C =>
  ∃ i0 i1 i2 i3 i4 i5 i6 i7 i8 i9 s1 s2 s k l r1 p1 acc m1, ∃ cnt : Nat, C = ⟨[i0, i1, i2, i3, i4, i5, i6, i7, i8, i9, (cnt : Int), (r1.a : Int), r1.d, r1.f.1, r1.f.2.1, r1.f.2.2], [], [], [], [sl, s1, s2, s, sl], [], k, noM⟩ ∧ m1 ≤ n ∧ pArgs L m1 (decide (cnt = 0)) acc p1 = some (ts, q) ∧
    AccS L sl h k p (pOpen L [40] p) p1 r1 acc s l m1 ∧ cnt + mu L p1 ≤ L.length
set_option maxHeartbeats 8000000 in
theorem args_ok06 {n : Nat} (HE : ExprR n) : ArgsR n := by
  rintro args h φ w ⟨m, hm, sl, L, p, r, ts, q, rfl, hpb, R, hr, hφ⟩ hH
  refine by_fm Tryz.func97 gen_rargs ps_rargs [ctRBad, ctRIs, ctROpens, ctRShuts, ctRMust, ctExprR HE] φ (argsInv h sl L p ts q n) (fun _ => measR L.length 11) ⟨[(r.a : Int), r.d, r.f.1, r.f.2.1, r.f.2.2], [], [], [], [sl], [], h, noM⟩ ⟨rfl, rfl, rfl, rfl, rfl, rfl⟩ ones_nil ?_ w hH rfl
  generalize hE : (⟨specOf _, _, _, _⟩ : Env) = E
  have s_ctRBad : E.spec 34 = (ctRBad).spec := by rw [← hE]; rfl
  have s_ctRIs : E.spec 28 = (ctRIs).spec := by rw [← hE]; rfl
  have s_ctROpens : E.spec 56 = (ctROpens).spec := by rw [← hE]; rfl
  have s_ctRShuts : E.spec 84 = (ctRShuts).spec := by rw [← hE]; rfl
  have s_ctRMust : E.spec 30 = (ctRMust).spec := by rw [← hE]; rfl
  have s_ctE : E.spec 13 = (ctExprR HE).spec := by rw [← hE]; rfl
  have ep : E.post = φ := by rw [← hE]
  have ei : E.inv = (argsInv h sl L p ts q n) := by rw [← hE]
  have em : E.meas = (fun _ => measR L.length 11) := by rw [← hE]
  clear hE
  unfold fm_rargs
  have hll := R.W.len
  have lw := R.W.lw
  have Ao := adv_open lw [40] p
  have hd0 := R.d0
  have hd1 := R.d1
  have hod := Ao.d
  have RO : LR h sl L (pOpen L [40] p) (rOpen L [40] r) m := R.opens [40]
  rw [th_call, if_pos (by rfl), s_ctROpens]
  refine ⟨sl, L, r, [40], rfl, R.W, ?_⟩
  simp [go_sem, rv]
  rw [then_step, th_mk]
  intro nb hnb
  have hnb' : h nb = none := hnb
  have hl1 := hle_set hnb' ⟨[], ND⟩
  simp [go_sem]
  rw [then_step]
  refine loop_intro ?_ ?_
  · rw [ei]
    refine ⟨_, _, _, _, _, _, _, _, _, _, _, _, _, _, [], rOpen L [40] r, pOpen L [40] p, [], m, 0, rfl, hm, by simpa using hr, ⟨hl1, NW.mk, .inr ⟨nb, ⟨[], ND⟩, rfl, set_same _ _ _, rfl, rfl, Nat.le_refl _, Nat.zero_le _, rfl⟩, rfl, fun z hz => by cases hz; exact hnb', by have := Ao.a; simp; omega, fun _ => rfl, RO.le hl1, Adv.refl _⟩, by have := mu_top L (pOpen L [40] p); omega⟩
  rw [ei, em]
  clear hnb hnb' hl1 nb hr
  rintro i' bb ss v' ll pp hh0 M ⟨i0, i1, i2, i3, i4, i5, i6, i7, i8, i9, s1, s2, s, k, l, r1, p1, acc, m1, cnt, hC, hm1, hb1, A, hmu⟩ hM
  cases hC
  have hM : M 0 = mu L p1 := hM.trans (mu_lk A.R.k)
  cases m1 with
  | zero => cases hb1
  | succ m1 =>
  rw [pArgs] at hb1
  have hal := A.len
  rw [th_call, if_pos (by rfl), s_ctRBad]
  refine ⟨sl, r1, rfl, ?_⟩
  simp [go_sem]
  rw [A.R.k.bad]
  have done : p1.bad = true ∨ pIs L [41] p1 = true → ts = acc ∧ q = p1 := by
    intro hd
    rw [if_pos (by rcases hd with hd | hd <;> simp [hd])] at hb1
    cases hb1; exact ⟨rfl, rfl⟩
  -- one argument
  have step : p1.bad = false → pIs L [41] p1 = false → ∀ (p2 : PS), p2 = (if cnt = 0 then p1 else pMust L [44] p1) → ∃ y q1, pBin L m1 1 p2 = some (y, q1) ∧ pArgs L m1 false (acc ++ [y]) q1 = some (ts, q) ∧ Adv L p1 p2 0 ∧ Adv L p2 q1 0 ∧ mu L q1 + 1 ≤ mu L p1 := by
    intro hb hi p2 hp2
    rw [if_neg (by simp [hb, hi])] at hb1
    simp only [Option.bind_eq_some_iff] at hb1
    obtain ⟨⟨y, q1⟩, h3, h4⟩ := hb1
    have e : (if decide (cnt = 0) = true then p1 else pMust L [44] p1) = p2 := by
      rw [hp2]
      by_cases hc : cnt = 0 <;> simp [hc]
    rw [e] at h3
    have A2 : Adv L p1 p2 0 := by
      rw [hp2]
      split
      · exact Adv.refl _
      · exact adv_must lw _ _
    have AE := (advE lw m1).1 _ _ _ _ h3
    have W2 := (wentE lw m1).1 _ _ _ _ h3
    refine ⟨y, q1, h3, h4, A2, AE, ?_⟩
    have hv2 := A2.v A.R.at'
    by_cases hb2 : p2.bad = true
    · have hq1 : q1.bad = true := by rw [bad_f (AE.b hb2)]; exact hb2
      have hp := mu_pos hb A.R.at'
      have : mu L q1 = 0 := by unfold mu; rw [hq1]; rfl
      omega
    · have hb2' : p2.bad = false := by simpa using hb2
      have m1 := mu_lt W2 hb2' hv2
      have m2 := mu_le A2
      omega
  -- behind it
  have next : p1.bad = false → ∀ (p2 r2 : PS) (y : Tr) (q1 : PS) (s3 : Slc) (k3 : Hp) (l3 : List Nod) (r3 : PS) (s4 : Slc) (k4 : Hp), Adv L p1 p2 0 → Adv L p2 q1 0 → LR hh0 sl L p2 r2 m1 → HLe hh0 k3 → NW k3 s3 l3 → l3 ≠ [] →
      l3.length + p2.a ≤ q1.a + (if q1.bad = true then (if p2.bad = true then 1 else 3) else 0) → (q1.bad = false → l3 = y.nods) → Lk q1 r3 → OwnS k4 s4 (ncs (l ++ l3)) ND 6 → s4.n = (l ++ l3).length → HLe h k4 → (∀ z, s4.a = some z → h z.1 = none) → AccS L sl h k4 p (pOpen L [40] p) q1 r3 (acc ++ [y]) s4 (l ++ l3) m1 := by
    intro hb p2 r2 y q1 s3 k3 l3 r3 s4 k4 a1 a2 R2 g1 g2 g3 g4 g5 g6 e1 e2 e3 e4
    rw [hb] at hal
    have hal' : l.length + p.a ≤ p1.a := by simpa using hal
    have ha1 := a1.a
    refine ⟨e3, NW.of e1 e2 (by simp [g3]), e1, e2, e4, ?_, fun hq => ?_, ?_, (A.adv.trans (a1.trans a2)).of (by omega)⟩
    · rw [List.length_append]
      have : l3.length + p2.a ≤ q1.a + (if q1.bad = true then 3 else 0) := by
        refine Nat.le_trans g4 ?_
        split
        · split <;> omega
        · omega
      omega
    · rw [nodss_app, nodss_cons, nodss_nil, List.append_nil, A.good hb, g5 hq]
    · have RN := R2.next a2 g6 g1 (Nat.le_refl _)
      exact ⟨⟨(R.W.le e3).tok, lw, RN.W.let', RN.W.len, RN.W.at', RN.W.d0, RN.W.d1⟩, RN.k, RN.e, RN.d0, RN.d1⟩
  have hsum : p1.bad = false → ∀ (p2 : PS) (q1 : PS) (l3 : List Nod), Adv L p1 p2 0 → Adv L p2 q1 0 → l3.length + p2.a ≤ q1.a + (if q1.bad = true then (if p2.bad = true then 1 else 3) else 0) → l.length + l3.length ≤ 2000000 := by
    intro hb p2 q1 l3 a1 a2 g4
    rw [hb] at hal
    have hal' : l.length + p.a ≤ p1.a := by simpa using hal
    have ha1 := a1.a
    have hv := a2.v (a1.v A.R.at')
    have := len_any (m := 3) (by omega) g4 (by omega)
    omega
  have R1 : LR hh0 sl L p1 r1 m1 := A.R.less (by omega)
  cases hb : p1.bad with
  | true =>
    obtain ⟨rfl, rfl⟩ := done (.inl hb)
    rw [then_step, th_call, if_neg (by simp [go_sem])]
    simp [go_sem]
    rw [then_step, th_ite, if_neg (by simp [go_sem])]
    rw [then_step, th_call, if_pos (by rfl), s_ctRShuts]
    refine ⟨sl, L, r1, [41], rfl, A.R.W, ?_⟩
    simp [go_sem, rv]
    rw [then_step, says_ret, ep]
    exact hφ s hh0 l (pShut L [41] r1) A.le A.row hal A.good (A.R.k.shut [41])
  | false =>
  rw [then_step, th_call, if_pos (by simp [go_sem]), s_ctRIs]
  refine ⟨sl, L, r1, [41], rfl, A.R.W, ?_⟩
  simp [go_sem]
  rw [A.R.k.is]
  cases hi : pIs L [41] p1 with
  | true =>
    obtain ⟨rfl, rfl⟩ := done (.inr hi)
    rw [then_step, th_ite, if_neg (by simp [go_sem])]
    rw [then_step, th_call, if_pos (by rfl), s_ctRShuts]
    refine ⟨sl, L, r1, [41], rfl, A.R.W, ?_⟩
    simp [go_sem, rv]
    rw [then_step, says_ret, ep]
    exact hφ s hh0 l (pShut L [41] r1) A.le A.row hal A.good (A.R.k.shut [41])
  | false =>
  rw [then_step, th_ite, if_pos (by simp [go_sem])]
  by_cases hc : cnt = 0
  · obtain ⟨y, q1, h3, h4, a1, a2, hmu2⟩ := step hb hi p1 (by rw [if_pos hc])
    rw [then_step, th_ite, if_neg (by simp [go_sem]; omega)]
    rw [then_step, th_call, if_pos (by rfl), s_ctE]
    refine ⟨m1, by omega, sl, L, p1, r1, y, q1, 1, rfl, by omega, by omega, R1, h3, fun s3 k3 l3 r3 g1 g2 g3 g4 g5 g6 => ?_⟩
    simp [go_sem, rv]
    rw [then_step]
    refine row_app (h0 := h) (s := s) (y := s3) (l := l) (m := l3) (A.own.le g1) A.sn (hle_trans A.le g1) A.fr g2 (hsum hb p1 q1 l3 a1 a2 g4) (by simp [go_sem]) (by simp [go_sem]) fun s4 k4 e1 e2 e3 e4 => ?_
    have A4 := next hb p1 r1 y q1 s3 k3 l3 r3 s4 k4 a1 a2 R1 g1 g2 g3 g4 g5 g6 e1 e2 e3 e4
    rw [th_need]
    refine ⟨by simp [go_sem]; omega, ?_⟩
    rw [then_step, says_again, ei, em]
    refine ⟨⟨_, _, _, _, _, _, _, _, _, _, _, _, s4, k4, l ++ l3, r3, q1, acc ++ [y], m1, cnt + 1, rfl, by omega, by simpa using h4, A4, by omega⟩, ?_⟩
    show (if r3.f.1 = 0 then ((L.length : Int) - (r3.a : Int)).toNat else 0) < M 0
    rw [mu_lk g6, hM]
    omega
  · obtain ⟨y, q1, h3, h4, a1, a2, hmu2⟩ := step hb hi (pMust L [44] p1) (by rw [if_neg hc])
    rw [then_step, th_ite, if_pos (by simp [go_sem]; omega)]
    rw [then_step, th_call, if_pos (by rfl), s_ctRMust]
    refine ⟨sl, L, r1, [44], rfl, A.R.W, ?_⟩
    simp [go_sem, rv]
    have R2 := R1.must [44]
    rw [then_step, th_call, if_pos (by rfl), s_ctE]
    refine ⟨m1, by omega, sl, L, _, _, y, q1, 1, rfl, by omega, by omega, R2, h3, fun s3 k3 l3 r3 g1 g2 g3 g4 g5 g6 => ?_⟩
    simp [go_sem, rv]
    rw [then_step]
    refine row_app (h0 := h) (s := s) (y := s3) (l := l) (m := l3) (A.own.le g1) A.sn (hle_trans A.le g1) A.fr g2 (hsum hb _ q1 l3 a1 a2 g4) (by simp [go_sem]) (by simp [go_sem]) fun s4 k4 e1 e2 e3 e4 => ?_
    have A4 := next hb _ _ y q1 s3 k3 l3 r3 s4 k4 a1 a2 R2 g1 g2 g3 g4 g5 g6 e1 e2 e3 e4
    rw [th_need]
    refine ⟨by simp [go_sem]; omega, ?_⟩
    rw [then_step, says_again, ei, em]
    refine ⟨⟨_, _, _, _, _, _, _, _, _, _, _, _, s4, k4, l ++ l3, r3, q1, acc ++ [y], m1, cnt + 1, rfl, by omega, by simpa using h4, A4, by omega⟩, ?_⟩
    show (if r3.f.1 = 0 then ((L.length : Int) - (r3.a : Int)).toNat else 0) < M 0
    rw [mu_lk g6, hM]
    omega
end Go.Proofs.YthlakehilhpojaaGreatDoor
namespace Go.Proofs.YthlakehilhpojaaGreatDoor
open Go.RowKit
/-- A part of code. -/
def cSub : List Nat → Code → Code
  | [], c => c
  | i :: p, .seq a b => cSub p (if i = 0 then a else b)
  | i :: p, .cond _ a b => cSub p (if i = 0 then a else b)
  | _ :: p, .block _ a => cSub p a
  | _ :: p, .loop a => cSub p a
  | _, c => c
/-- What is asked there. -/
def condOf : Code → Operand
  | .cond x _ _ => x
  | _ => .tmp 0
def cDd (a : List VE) (n : Nat) (r : List VE) : List VE := a ++ (List.replicate n .dead ++ r)
def bodyOf (fn : Func) : Code := fn.body.getD .skip
/-- Another part in its place. -/
def cPut : List Nat → Code → Code → Code
  | [], _, r => r
  | 0 :: p, .seq a b, r => .seq (cPut p a r) b
  | _ :: p, .seq a b, r => .seq a (cPut p b r)
  | 0 :: p, .cond x a b, r => .cond x (cPut p a r) b
  | _ :: p, .cond x a b, r => .cond x a (cPut p b r)
  | _ :: p, .block id a, r => .block id (cPut p a r)
  | _ :: p, .loop a, r => .loop (cPut p a r)
  | _, c, _ => c
theorem cPut_cSub : ∀ (p : List Nat) (c : Code), cPut p c (cSub p c) = c
  | [], _ => rfl
  | i :: p, c => by
    have ih := cPut_cSub p
    cases c <;> cases i <;> simp [cPut, cSub, ih]
theorem cSub_cSub : ∀ (p q : List Nat) (c : Code), cSub q (cSub p c) = cSub (p ++ q) c
  | [], _, _ => rfl
  | i :: p, q, c => by
    have ih := cSub_cSub p q
    cases c with
    | seq a b => simp [cSub, ih]
    | cond x a b => simp [cSub, ih]
    | block id a => simp [cSub, ih]
    | loop a => simp [cSub, ih]
    | _ => cases q <;> simp [cSub]
def kRet (P : Program) (fn : Func) : Exit → St → Fm := fun e st => match e with
  | .normal => retE P fn st
  | .ret => retE P fn st
  | _ => .ff
def kSeq (nw : Cfg) (P : Program) (A : Nat → LAnn) (b : Code) (l : Nat) (K : Exit → St → Fm) : Exit → St → Fm := fun e st => match e with
  | .normal => gen nw P A b l st K
  | e => K e st
def kBlk (id : Nat) (K : Exit → St → Fm) : Exit → St → Fm := fun e st => match e with
  | .exit j => if j = id then K .normal st else K e st
  | e => K e st
def kLoop (l : Nat) (n : Cnt) (hd : St) (K : Exit → St → Fm) : Exit → St → Fm := fun e st' => match e with
  | .normal => againF l n hd st'
  | e => K e st'
def BE.isC : BE → Bool
  | .c _ => true
  | _ => false
section
variable {nw : Cfg} {P : Program} {A : Nat → LAnn} {c a b : Code} {l l' : Nat} {st : St} {K : Exit → St → Fm} {x : Operand} {e : BE} {f g : Fm}
/-- A part's formula in its place. -/
theorem g_cut {p q pq : List Nat} (e : p ++ q = pq) (H : gen nw P A (cPut q (cSub p c) (cSub pq c)) l st K = f) : gen nw P A (cSub p c) l st K = f := by
  subst e
  rwa [← cSub_cSub, cPut_cSub] at H
theorem g_seq (h : c = .seq a b) (hl : l' = l + loops a) (hf : gen nw P A a l st (kSeq nw P A b l' K) = f) : gen nw P A c l st K = f := by
  subst h hl
  rw [gen]
  exact hf
theorem g_blk {id : Nat} (h : c = .block id a) (hf : gen nw P A a l st (kBlk id K) = f) : gen nw P A c l st K = f := by
  subst h
  rw [gen]
  exact hf
theorem g_condT (h : c = .cond x a b) (hx : opd st [] x = some (.one (.b (.c true)))) (hf : gen nw P A a l st K = f) : gen nw P A c l st K = f := by
  subst h
  rw [gen, hx]
  exact hf
theorem g_condF (h : c = .cond x a b) (hl : l' = l + loops a) (hx : opd st [] x = some (.one (.b (.c false)))) (hf : gen nw P A b l' st K = f) : gen nw P A c l st K = f := by
  subst h hl
  rw [gen, hx]
  exact hf
theorem g_cond (h : c = .cond x a b) (hl : l' = l + loops a) (hx : opd st [] x = some (.one (.b e))) (he : e.isC = false) (hf : gen nw P A a l st K = f) (hg : gen nw P A b l' st K = g) : gen nw P A c l st K = .ite e f g := by
  subst h hl hf hg
  rw [gen, hx]
  cases e <;> first | rfl | cases he
theorem g_loop {hd : St} {gt : Got} {s : Nat} (h : c = .loop a) (hd' : headSt (A l) st = hd) (hm : matchSt st.n hd st = some gt) (ho : (!(gt.fits st.n && decide (hd.n = st.n.add gt.cnt))) = false) (hs : l + 1 = s) (hf : gen nw P A a s hd (kLoop l st.n hd K) = f) : gen nw P A c l st K = .loop l gt f := by
  subst h hd' hf hs
  rw [gen, loopF, hm]
  simp only
  rw [if_neg (by rw [ho]; decide)]
  rfl
theorem g_exit {id : Nat} (h : c = .exit id) (hf : K (.exit id) st = f) : gen nw P A c l st K = f := by
  subst h
  rw [gen]
  exact hf
theorem g_ret (h : c = .ret) (hf : K .ret st = f) : gen nw P A c l st K = f := by
  subst h
  rw [gen]
  exact hf
theorem g_skip (h : c = .skip) (hf : K .normal st = f) : gen nw P A c l st K = f := by
  subst h
  rw [gen]
  exact hf
theorem k_seq (hf : gen nw P A b l st K = f) : kSeq nw P A b l K .normal st = f := hf
theorem k_seqR (hf : K .ret st = f) : kSeq nw P A b l K .ret st = f := hf
theorem k_seqE {j : Nat} (hf : K (.exit j) st = f) : kSeq nw P A b l K (.exit j) st = f := hf
theorem k_blkN {id : Nat} (hf : K .normal st = f) : kBlk id K .normal st = f := hf
theorem k_blkR {id : Nat} (hf : K .ret st = f) : kBlk id K .ret st = f := hf
theorem k_blk {id j : Nat} (h : j = id) (hf : K .normal st = f) : kBlk id K (.exit j) st = f := by
  subst h
  show (if j = j then K .normal st else K (.exit j) st) = f
  rw [if_pos rfl]; exact hf
theorem k_blkE {id j : Nat} (h : decide (j = id) = false) (hf : K (.exit j) st = f) : kBlk id K (.exit j) st = f := by
  show (if j = id then K .normal st else K (.exit j) st) = f
  rw [if_neg (of_decide_eq_false h)]; exact hf
theorem k_loopR {n : Cnt} {hd : St} (hf : K .ret st = f) : kLoop l n hd K .ret st = f := hf
theorem k_loopE {n : Cnt} {hd : St} {j : Nat} (hf : K (.exit j) st = f) : kLoop l n hd K (.exit j) st = f := hf
theorem g_fn {fn : Func} {ps : List PE} {n : Cnt} {st0 : St} (hp : freshPs P .zero fn.params.toList = some (ps, n)) (hb : fn.body = some (bodyOf fn)) (h0 : (⟨ps.map .p ++ List.replicate (fn.ntmps - ps.length) .dead, [], n⟩ : St) = st0) (hf : gen nw P A (bodyOf fn) 0 st0 (kRet P fn) = f) : genFn nw P A fn = f := by
  rw [genFn, hp]
  show genFnP nw P A fn ps n = f
  rw [genFnP, hb, h0]
  exact hf
end
end Go.Proofs.YthlakehilhpojaaGreatDoor
namespace Go.Proofs.YthlakehilhpojaaGreatDoor
open Go.RowKit
def g_ratom : Cfg := ⟨true, []⟩
def a_ratom : Nat → LAnn := fun l => ([] : List LAnn).getD l ⟨[], [], []⟩
def st_ratom_0 : St := ⟨(cDd [(.p (.agg [(.sl (.x 0)), (.i .i64 (.x 0)), (.i .i64 (.x 1)), (.i .i64 (.x 2)), (.i .i64 (.x 3)), (.i .i64 (.x 4))]))] 173 []), [], ⟨5, 0, 0, 0, 1, 0⟩⟩
def st_ratom_1 : St := ⟨(cDd [(.p (.agg [(.sl (.x 0)), (.i .i64 (.x 0)), (.i .i64 (.x 1)), (.i .i64 (.x 2)), (.i .i64 (.x 3)), (.i .i64 (.x 4))])), (.p (.one (.own 0 0))), (.p (.one (.sl .nil))), (.p (.one (.own 1 0))), (.p (.one (.own 2 0))), (.p (.one (.sl (.x 1)))), (.p (.one (.own 3 0)))] 9 (cDd [(.p (.agg [(.sl (.x 0)), (.i .i64 (.x 0)), (.i .i64 (.x 1)), (.i .i64 (.x 2)), (.i .i64 (.x 3)), (.i .i64 (.x 4))])), (.p (.agg [(.i .u8 (.x 5)), (.i .i64 (.x 6)), (.i .i64 (.x 7)), (.i .i64 (.x 8)), (.s (.x 0))])), (.p (.one (.sl (.x 1)))), (.p (.agg [(.sl (.x 0)), (.i .i64 (.x 0)), (.i .i64 (.x 1)), (.i .i64 (.x 2)), (.i .i64 (.x 3)), (.i .i64 (.x 4))])), (.p (.one (.b (.x 0))))] 3 (cDd [(.p (.agg [(.sl (.x 0)), (.i .i64 (.x 0)), (.i .i64 (.x 1)), (.i .i64 (.x 2)), (.i .i64 (.x 3)), (.i .i64 (.x 4))])), (.p (.one (.own 0 1))), (.p (.one (.i .i64 (.x 0)))), (.p (.one (.i .i64 (.add (.x 0) (.c 1))))), (.p (.one (.own 0 0))), (.p (.one (.sl (.x 0)))), (.p (.one (.i .i64 (.cnt (.x 0))))), (.p (.one (.i .i64 (.sub (.cnt (.x 0)) (.c 1))))), (.p (.one (.i .i64 (.ite (.lt (.sub (.cnt (.x 0)) (.c 1)) (.add (.x 0) (.c 1))) (.sub (.cnt (.x 0)) (.c 1)) (.add (.x 0) (.c 1)))))), (.p (.one (.own 3 1)))] 140 []))), [⟨[(.sl (.x 0)), (.i .i64 (.x 0)), (.i .i64 (.x 1)), (.i .i64 (.x 2)), (.i .i64 (.x 3)), (.i .i64 (.x 4))], 42⟩, ⟨[(.sl .nil), (.i .i64 (.c 0)), (.i .i64 (.c 0)), (.i .i64 (.c 0)), (.i .i64 (.c 0)), (.i .i64 (.c 0))], 42⟩, ⟨[(.i .u8 (.x 5)), (.i .i64 (.x 6)), (.i .i64 (.x 7)), (.i .i64 (.x 8)), (.s (.x 0))], 51⟩, ⟨[(.sl (.x 0)), (.i .i64 (.ite (.lt (.sub (.cnt (.x 0)) (.c 1)) (.add (.x 0) (.c 1))) (.sub (.cnt (.x 0)) (.c 1)) (.add (.x 0) (.c 1)))), (.i .i64 (.x 1)), (.i .i64 (.x 2)), (.i .i64 (.x 3)), (.i .i64 (.x 4))], 42⟩], ⟨9, 1, 1, 0, 2, 0⟩⟩
def fm_ratom_2 (z : Fm) : Fm := (.call (.c true) false 29 [(.agg [(.sl (.x 0)), (.i .i64 (.x 0)), (.i .i64 (.x 1)), (.i .i64 (.x 2)), (.i .i64 (.x 3)), (.i .i64 (.x 4))])] (.p (.agg [(.i .u8 (.x 5)), (.i .i64 (.x 6)), (.i .i64 (.x 7)), (.i .i64 (.x 8)), (.s (.x 0))])) ⟨4, 0, 1, 0, 0, 0⟩
  (.mk [] 32 0
  (.call (.c true) false 34 [(.agg [(.sl (.x 0)), (.i .i64 (.x 0)), (.i .i64 (.x 1)), (.i .i64 (.x 2)), (.i .i64 (.x 3)), (.i .i64 (.x 4))])] (.p (.one (.b (.x 0)))) ⟨0, 1, 0, 0, 0, 0⟩
  (.ite (.x 0)
  (.mk [(.i .u8 (.c 25)), (.i .i64 (.c 0)), (.i .i64 (.c 0)), (.i .i64 (.c 0)), (.i .i64 (.c 0)), (.s (.c []))] 32 1
  (.ret (.tup [(.one (.sl (.x 2))), (.agg [(.sl (.x 0)), (.i .i64 (.x 0)), (.i .i64 (.x 1)), (.i .i64 (.x 2)), (.i .i64 (.x 3)), (.i .i64 (.x 4))])])))
  (.need (.c true) (.and (.le (.c (-9223372036854775808)) (.add (.x 0) (.c 1))) (.le (.add (.x 0) (.c 1)) (.c 9223372036854775807)))
  (.need (.c true) (.and (.le (.c (-9223372036854775808)) (.sub (.cnt (.x 0)) (.c 1))) (.le (.sub (.cnt (.x 0)) (.c 1)) (.c 9223372036854775807)))
  z))))))
theorem p_ratom_2 (r : Code) : gen g_ratom Tryz.prog a_ratom (cPut [1, 1, 1, 1, 1, 1] (cSub [] (bodyOf Tryz.f83)) r) 0 st_ratom_0 (kRet Tryz.prog Tryz.f83) = fm_ratom_2 (gen g_ratom Tryz.prog a_ratom r 0 st_ratom_1 (kRet Tryz.prog Tryz.f83)) := by kernel_rfl
def st_ratom_3 : St := ⟨(cDd [(.p (.agg [(.sl (.x 0)), (.i .i64 (.x 0)), (.i .i64 (.x 1)), (.i .i64 (.x 2)), (.i .i64 (.x 3)), (.i .i64 (.x 4))])), (.p (.one (.own 0 0))), (.p (.one (.sl .nil))), (.p (.one (.own 1 0))), (.p (.one (.own 2 0))), (.p (.one (.sl (.x 1)))), (.p (.one (.own 3 0)))] 9 (cDd [(.p (.agg [(.sl (.x 0)), (.i .i64 (.x 0)), (.i .i64 (.x 1)), (.i .i64 (.x 2)), (.i .i64 (.x 3)), (.i .i64 (.x 4))])), (.p (.agg [(.i .u8 (.x 5)), (.i .i64 (.x 6)), (.i .i64 (.x 7)), (.i .i64 (.x 8)), (.s (.x 0))])), (.p (.one (.sl (.x 1)))), (.p (.agg [(.sl (.x 0)), (.i .i64 (.x 0)), (.i .i64 (.x 1)), (.i .i64 (.x 2)), (.i .i64 (.x 3)), (.i .i64 (.x 4))])), (.p (.one (.b (.x 0))))] 3 (cDd [(.p (.agg [(.sl (.x 0)), (.i .i64 (.x 0)), (.i .i64 (.x 1)), (.i .i64 (.x 2)), (.i .i64 (.x 3)), (.i .i64 (.x 4))])), (.p (.one (.own 0 1))), (.p (.one (.i .i64 (.x 0)))), (.p (.one (.i .i64 (.add (.x 0) (.c 1))))), (.p (.one (.own 0 0))), (.p (.one (.sl (.x 0)))), (.p (.one (.i .i64 (.cnt (.x 0))))), (.p (.one (.i .i64 (.sub (.cnt (.x 0)) (.c 1))))), (.p (.one (.i .i64 (.ite (.lt (.sub (.cnt (.x 0)) (.c 1)) (.add (.x 0) (.c 1))) (.sub (.cnt (.x 0)) (.c 1)) (.add (.x 0) (.c 1)))))), (.p (.one (.own 3 1))), (.p (.one (.b (.eqI (.x 5) (.c 3))))), (.p (.one (.own 2 0))), (.p (.one (.i .u8 (.x 5)))), (.p (.one (.b (.eqI (.x 5) (.c 3)))))] 6 (cDd [(.p (.one (.b (.eqI (.x 5) (.c 4))))), (.p (.one (.own 2 0))), (.p (.one (.i .u8 (.x 5)))), (.p (.one (.b (.eqI (.x 5) (.c 4)))))] 6 (cDd [(.p (.one (.b (.eqI (.x 5) (.c 5))))), (.p (.one (.own 2 0))), (.p (.one (.i .u8 (.x 5)))), (.p (.one (.b (.eqI (.x 5) (.c 5)))))] 6 (cDd [(.p (.one (.b (.x 1)))), (.p (.agg [(.sl (.x 0)), (.i .i64 (.x 0)), (.i .i64 (.x 1)), (.i .i64 (.x 2)), (.i .i64 (.x 3)), (.i .i64 (.x 4))])), (.p (.one (.b (.x 1))))] 4 (cDd [(.p (.one (.b (.x 2)))), (.p (.agg [(.sl (.x 0)), (.i .i64 (.x 0)), (.i .i64 (.x 1)), (.i .i64 (.x 2)), (.i .i64 (.x 3)), (.i .i64 (.x 4))])), (.p (.one (.b (.x 2))))] 4 (cDd [(.p (.one (.b (.x 3)))), (.p (.agg [(.sl (.x 0)), (.i .i64 (.x 0)), (.i .i64 (.x 1)), (.i .i64 (.x 2)), (.i .i64 (.x 3)), (.i .i64 (.x 4))])), (.p (.one (.b (.x 3))))] 93 [])))))))), [⟨[(.sl (.x 0)), (.i .i64 (.x 0)), (.i .i64 (.x 1)), (.i .i64 (.x 2)), (.i .i64 (.x 3)), (.i .i64 (.x 4))], 42⟩, ⟨[(.sl .nil), (.i .i64 (.c 0)), (.i .i64 (.c 0)), (.i .i64 (.c 0)), (.i .i64 (.c 0)), (.i .i64 (.c 0))], 42⟩, ⟨[(.i .u8 (.x 5)), (.i .i64 (.x 6)), (.i .i64 (.x 7)), (.i .i64 (.x 8)), (.s (.x 0))], 51⟩, ⟨[(.sl (.x 0)), (.i .i64 (.ite (.lt (.sub (.cnt (.x 0)) (.c 1)) (.add (.x 0) (.c 1))) (.sub (.cnt (.x 0)) (.c 1)) (.add (.x 0) (.c 1)))), (.i .i64 (.x 1)), (.i .i64 (.x 2)), (.i .i64 (.x 3)), (.i .i64 (.x 4))], 42⟩], ⟨9, 4, 1, 0, 2, 0⟩⟩
def fm_ratom_4 (z : Fm) : Fm := (.ite (.eqI (.x 5) (.c 3))
  (.call (.c true) false 31 [(.one (.i .u8 (.c 21))), (.agg [(.i .u8 (.x 5)), (.i .i64 (.x 6)), (.i .i64 (.x 7)), (.i .i64 (.x 8)), (.s (.x 0))]), (.one (.s (.c []))), (.one (.i .i64 (.x 8))), (.one (.sl (.x 1)))] (.p (.one (.sl (.x 2)))) ⟨0, 0, 0, 0, 1, 0⟩
  (.ret (.tup [(.one (.sl (.x 2))), (.agg [(.sl (.x 0)), (.i .i64 (.ite (.lt (.sub (.cnt (.x 0)) (.c 1)) (.add (.x 0) (.c 1))) (.sub (.cnt (.x 0)) (.c 1)) (.add (.x 0) (.c 1)))), (.i .i64 (.x 1)), (.i .i64 (.x 2)), (.i .i64 (.x 3)), (.i .i64 (.x 4))])])))
  (.ite (.eqI (.x 5) (.c 4))
  (.call (.c true) false 31 [(.one (.i .u8 (.c 22))), (.agg [(.i .u8 (.x 5)), (.i .i64 (.x 6)), (.i .i64 (.x 7)), (.i .i64 (.x 8)), (.s (.x 0))]), (.one (.s (.c []))), (.one (.i .i64 (.x 8))), (.one (.sl (.x 1)))] (.p (.one (.sl (.x 2)))) ⟨0, 0, 0, 0, 1, 0⟩
  (.ret (.tup [(.one (.sl (.x 2))), (.agg [(.sl (.x 0)), (.i .i64 (.ite (.lt (.sub (.cnt (.x 0)) (.c 1)) (.add (.x 0) (.c 1))) (.sub (.cnt (.x 0)) (.c 1)) (.add (.x 0) (.c 1)))), (.i .i64 (.x 1)), (.i .i64 (.x 2)), (.i .i64 (.x 3)), (.i .i64 (.x 4))])])))
  (.ite (.eqI (.x 5) (.c 5))
  (.call (.c true) false 31 [(.one (.i .u8 (.c 23))), (.agg [(.i .u8 (.x 5)), (.i .i64 (.x 6)), (.i .i64 (.x 7)), (.i .i64 (.x 8)), (.s (.x 0))]), (.one (.s (.x 0))), (.one (.i .i64 (.c 0))), (.one (.sl (.x 1)))] (.p (.one (.sl (.x 2)))) ⟨0, 0, 0, 0, 1, 0⟩
  (.ret (.tup [(.one (.sl (.x 2))), (.agg [(.sl (.x 0)), (.i .i64 (.ite (.lt (.sub (.cnt (.x 0)) (.c 1)) (.add (.x 0) (.c 1))) (.sub (.cnt (.x 0)) (.c 1)) (.add (.x 0) (.c 1)))), (.i .i64 (.x 1)), (.i .i64 (.x 2)), (.i .i64 (.x 3)), (.i .i64 (.x 4))])])))
  (.call (.c true) false 28 [(.agg [(.sl (.x 0)), (.i .i64 (.x 0)), (.i .i64 (.x 1)), (.i .i64 (.x 2)), (.i .i64 (.x 3)), (.i .i64 (.x 4))]), (.one (.s (.c [116, 114, 117, 101])))] (.p (.one (.b (.x 1)))) ⟨0, 1, 0, 0, 0, 0⟩
  (.ite (.x 1)
  (.call (.c true) false 31 [(.one (.i .u8 (.c 24))), (.agg [(.i .u8 (.x 5)), (.i .i64 (.x 6)), (.i .i64 (.x 7)), (.i .i64 (.x 8)), (.s (.x 0))]), (.one (.s (.c []))), (.one (.i .i64 (.c 1))), (.one (.sl (.x 1)))] (.p (.one (.sl (.x 2)))) ⟨0, 0, 0, 0, 1, 0⟩
  (.ret (.tup [(.one (.sl (.x 2))), (.agg [(.sl (.x 0)), (.i .i64 (.ite (.lt (.sub (.cnt (.x 0)) (.c 1)) (.add (.x 0) (.c 1))) (.sub (.cnt (.x 0)) (.c 1)) (.add (.x 0) (.c 1)))), (.i .i64 (.x 1)), (.i .i64 (.x 2)), (.i .i64 (.x 3)), (.i .i64 (.x 4))])])))
  (.call (.c true) false 28 [(.agg [(.sl (.x 0)), (.i .i64 (.x 0)), (.i .i64 (.x 1)), (.i .i64 (.x 2)), (.i .i64 (.x 3)), (.i .i64 (.x 4))]), (.one (.s (.c [102, 97, 108, 115, 101])))] (.p (.one (.b (.x 2)))) ⟨0, 1, 0, 0, 0, 0⟩
  (.ite (.x 2)
  (.call (.c true) false 31 [(.one (.i .u8 (.c 24))), (.agg [(.i .u8 (.x 5)), (.i .i64 (.x 6)), (.i .i64 (.x 7)), (.i .i64 (.x 8)), (.s (.x 0))]), (.one (.s (.c []))), (.one (.i .i64 (.c 0))), (.one (.sl (.x 1)))] (.p (.one (.sl (.x 2)))) ⟨0, 0, 0, 0, 1, 0⟩
  (.ret (.tup [(.one (.sl (.x 2))), (.agg [(.sl (.x 0)), (.i .i64 (.ite (.lt (.sub (.cnt (.x 0)) (.c 1)) (.add (.x 0) (.c 1))) (.sub (.cnt (.x 0)) (.c 1)) (.add (.x 0) (.c 1)))), (.i .i64 (.x 1)), (.i .i64 (.x 2)), (.i .i64 (.x 3)), (.i .i64 (.x 4))])])))
  (.call (.c true) false 28 [(.agg [(.sl (.x 0)), (.i .i64 (.x 0)), (.i .i64 (.x 1)), (.i .i64 (.x 2)), (.i .i64 (.x 3)), (.i .i64 (.x 4))]), (.one (.s (.c [110, 105, 108])))] (.p (.one (.b (.x 3)))) ⟨0, 1, 0, 0, 0, 0⟩
  (.ite (.x 3)
  (.call (.c true) false 31 [(.one (.i .u8 (.c 25))), (.agg [(.i .u8 (.x 5)), (.i .i64 (.x 6)), (.i .i64 (.x 7)), (.i .i64 (.x 8)), (.s (.x 0))]), (.one (.s (.c []))), (.one (.i .i64 (.c 0))), (.one (.sl (.x 1)))] (.p (.one (.sl (.x 2)))) ⟨0, 0, 0, 0, 1, 0⟩
  (.ret (.tup [(.one (.sl (.x 2))), (.agg [(.sl (.x 0)), (.i .i64 (.ite (.lt (.sub (.cnt (.x 0)) (.c 1)) (.add (.x 0) (.c 1))) (.sub (.cnt (.x 0)) (.c 1)) (.add (.x 0) (.c 1)))), (.i .i64 (.x 1)), (.i .i64 (.x 2)), (.i .i64 (.x 3)), (.i .i64 (.x 4))])])))
  z)))))))))
theorem p_ratom_4 (r : Code) : gen g_ratom Tryz.prog a_ratom (cPut [0, 1, 1, 1, 1, 1, 1, 1, 1, 1, 1, 1, 1] (cSub [1, 1, 1, 1, 1, 1, 0] (bodyOf Tryz.f83)) r) 0 st_ratom_1 (kSeq g_ratom Tryz.prog a_ratom (cSub [1, 1, 1, 1, 1, 1, 1] (bodyOf Tryz.f83)) 0 (kRet Tryz.prog Tryz.f83)) = fm_ratom_4 (gen g_ratom Tryz.prog a_ratom r 0 st_ratom_3 (kBlk 0 (kSeq g_ratom Tryz.prog a_ratom (cSub [1, 1, 1, 1, 1, 1, 1] (bodyOf Tryz.f83)) 0 (kRet Tryz.prog Tryz.f83)))) := by kernel_rfl
def st_ratom_5 : St := ⟨(cDd [(.p (.agg [(.sl (.x 0)), (.i .i64 (.x 0)), (.i .i64 (.x 1)), (.i .i64 (.x 2)), (.i .i64 (.x 3)), (.i .i64 (.x 4))])), (.p (.one (.own 0 0))), (.p (.one (.sl .nil))), (.p (.one (.own 1 0))), (.p (.one (.own 2 0))), (.p (.one (.sl (.x 1)))), (.p (.one (.own 3 0)))] 9 (cDd [(.p (.agg [(.sl (.x 0)), (.i .i64 (.x 0)), (.i .i64 (.x 1)), (.i .i64 (.x 2)), (.i .i64 (.x 3)), (.i .i64 (.x 4))])), (.p (.agg [(.i .u8 (.x 5)), (.i .i64 (.x 6)), (.i .i64 (.x 7)), (.i .i64 (.x 8)), (.s (.x 0))])), (.p (.one (.sl (.x 1)))), (.p (.agg [(.sl (.x 0)), (.i .i64 (.x 0)), (.i .i64 (.x 1)), (.i .i64 (.x 2)), (.i .i64 (.x 3)), (.i .i64 (.x 4))])), (.p (.one (.b (.x 0))))] 3 (cDd [(.p (.agg [(.sl (.x 0)), (.i .i64 (.x 0)), (.i .i64 (.x 1)), (.i .i64 (.x 2)), (.i .i64 (.x 3)), (.i .i64 (.x 4))])), (.p (.one (.own 0 1))), (.p (.one (.i .i64 (.x 0)))), (.p (.one (.i .i64 (.add (.x 0) (.c 1))))), (.p (.one (.own 0 0))), (.p (.one (.sl (.x 0)))), (.p (.one (.i .i64 (.cnt (.x 0))))), (.p (.one (.i .i64 (.sub (.cnt (.x 0)) (.c 1))))), (.p (.one (.i .i64 (.ite (.lt (.sub (.cnt (.x 0)) (.c 1)) (.add (.x 0) (.c 1))) (.sub (.cnt (.x 0)) (.c 1)) (.add (.x 0) (.c 1)))))), (.p (.one (.own 3 1))), (.p (.one (.b (.eqI (.x 5) (.c 3))))), (.p (.one (.own 2 0))), (.p (.one (.i .u8 (.x 5)))), (.p (.one (.b (.eqI (.x 5) (.c 3)))))] 6 (cDd [(.p (.one (.b (.eqI (.x 5) (.c 4))))), (.p (.one (.own 2 0))), (.p (.one (.i .u8 (.x 5)))), (.p (.one (.b (.eqI (.x 5) (.c 4)))))] 6 (cDd [(.p (.one (.b (.eqI (.x 5) (.c 5))))), (.p (.one (.own 2 0))), (.p (.one (.i .u8 (.x 5)))), (.p (.one (.b (.eqI (.x 5) (.c 5)))))] 6 (cDd [(.p (.one (.b (.x 1)))), (.p (.agg [(.sl (.x 0)), (.i .i64 (.x 0)), (.i .i64 (.x 1)), (.i .i64 (.x 2)), (.i .i64 (.x 3)), (.i .i64 (.x 4))])), (.p (.one (.b (.x 1))))] 4 (cDd [(.p (.one (.b (.x 2)))), (.p (.agg [(.sl (.x 0)), (.i .i64 (.x 0)), (.i .i64 (.x 1)), (.i .i64 (.x 2)), (.i .i64 (.x 3)), (.i .i64 (.x 4))])), (.p (.one (.b (.x 2))))] 4 (cDd [(.p (.one (.b (.x 3)))), (.p (.agg [(.sl (.x 0)), (.i .i64 (.x 0)), (.i .i64 (.x 1)), (.i .i64 (.x 2)), (.i .i64 (.x 3)), (.i .i64 (.x 4))])), (.p (.one (.b (.x 3))))] 4 (cDd [(.p (.one (.b (.and (.eqI (.x 5) (.c 1)) (.not (.x 4)))))), (.p (.one (.own 2 0))), (.p (.one (.i .u8 (.x 5)))), (.p (.one (.b (.eqI (.x 5) (.c 1))))), (.p (.one (.b (.eqI (.x 5) (.c 1))))), (.wg [(89, true)] (.agg [(.sl (.x 0)), (.i .i64 (.ite (.lt (.sub (.cnt (.x 0)) (.c 1)) (.add (.x 0) (.c 1))) (.sub (.cnt (.x 0)) (.c 1)) (.add (.x 0) (.c 1)))), (.i .i64 (.x 1)), (.i .i64 (.x 2)), (.i .i64 (.x 3)), (.i .i64 (.x 4))])), (.wg [(89, true)] (.one (.b (.x 4)))), (.wg [(89, true)] (.one (.b (.not (.x 4))))), (.p (.one (.b (.and (.eqI (.x 5) (.c 1)) (.not (.x 4))))))] 6 (cDd [(.p (.one (.b (.eqI (.x 5) (.c 1))))), (.p (.one (.own 2 0))), (.p (.one (.i .u8 (.x 5)))), (.p (.one (.b (.eqI (.x 5) (.c 1)))))] 11 (cDd [(.p (.one (.b (.x 5)))), (.p (.agg [(.sl (.x 0)), (.i .i64 (.x 0)), (.i .i64 (.x 1)), (.i .i64 (.x 2)), (.i .i64 (.x 3)), (.i .i64 (.x 4))])), (.p (.one (.b (.x 5))))] 9 (cDd [(.p (.one (.b (.and (.x 6) (.x 7))))), (.p (.agg [(.sl (.x 0)), (.i .i64 (.x 0)), (.i .i64 (.x 1)), (.i .i64 (.x 2)), (.i .i64 (.x 3)), (.i .i64 (.x 4))])), (.p (.one (.b (.x 6)))), (.p (.one (.b (.x 6)))), (.wg [(130, true)] (.agg [(.sl (.x 0)), (.i .i64 (.ite (.lt (.sub (.cnt (.x 0)) (.c 1)) (.add (.x 0) (.c 1))) (.sub (.cnt (.x 0)) (.c 1)) (.add (.x 0) (.c 1)))), (.i .i64 (.x 1)), (.i .i64 (.x 2)), (.i .i64 (.x 3)), (.i .i64 (.x 4))])), (.wg [(130, true)] (.one (.b (.x 7)))), (.p (.one (.b (.and (.x 6) (.x 7)))))] 40 [])))))))))))), [⟨[(.sl (.x 0)), (.i .i64 (.x 0)), (.i .i64 (.x 1)), (.i .i64 (.x 2)), (.i .i64 (.x 3)), (.i .i64 (.x 4))], 42⟩, ⟨[(.sl .nil), (.i .i64 (.c 0)), (.i .i64 (.c 0)), (.i .i64 (.c 0)), (.i .i64 (.c 0)), (.i .i64 (.c 0))], 42⟩, ⟨[(.i .u8 (.x 5)), (.i .i64 (.x 6)), (.i .i64 (.x 7)), (.i .i64 (.x 8)), (.s (.x 0))], 51⟩, ⟨[(.sl (.x 0)), (.i .i64 (.ite (.lt (.sub (.cnt (.x 0)) (.c 1)) (.add (.x 0) (.c 1))) (.sub (.cnt (.x 0)) (.c 1)) (.add (.x 0) (.c 1)))), (.i .i64 (.x 1)), (.i .i64 (.x 2)), (.i .i64 (.x 3)), (.i .i64 (.x 4))], 42⟩], ⟨9, 8, 1, 0, 2, 0⟩⟩
def fm_ratom_6 (z : Fm) : Fm := (.call (.eqI (.x 5) (.c 1)) false 28 [(.agg [(.sl (.x 0)), (.i .i64 (.ite (.lt (.sub (.cnt (.x 0)) (.c 1)) (.add (.x 0) (.c 1))) (.sub (.cnt (.x 0)) (.c 1)) (.add (.x 0) (.c 1)))), (.i .i64 (.x 1)), (.i .i64 (.x 2)), (.i .i64 (.x 3)), (.i .i64 (.x 4))]), (.one (.s (.c [40])))] (.p (.one (.b (.x 4)))) ⟨0, 1, 0, 0, 0, 0⟩
  (.ite (.and (.eqI (.x 5) (.c 1)) (.not (.x 4)))
  (.call (.c true) false 31 [(.one (.i .u8 (.c 26))), (.agg [(.i .u8 (.x 5)), (.i .i64 (.x 6)), (.i .i64 (.x 7)), (.i .i64 (.x 8)), (.s (.x 0))]), (.one (.s (.x 0))), (.one (.i .i64 (.c 0))), (.one (.sl (.x 1)))] (.p (.one (.sl (.x 2)))) ⟨0, 0, 0, 0, 1, 0⟩
  (.ret (.tup [(.one (.sl (.x 2))), (.agg [(.sl (.x 0)), (.i .i64 (.ite (.lt (.sub (.cnt (.x 0)) (.c 1)) (.add (.x 0) (.c 1))) (.sub (.cnt (.x 0)) (.c 1)) (.add (.x 0) (.c 1)))), (.i .i64 (.x 1)), (.i .i64 (.x 2)), (.i .i64 (.x 3)), (.i .i64 (.x 4))])])))
  (.ite (.eqI (.x 5) (.c 1))
  (.call (.c true) false 97 [(.agg [(.sl (.x 0)), (.i .i64 (.ite (.lt (.sub (.cnt (.x 0)) (.c 1)) (.add (.x 0) (.c 1))) (.sub (.cnt (.x 0)) (.c 1)) (.add (.x 0) (.c 1)))), (.i .i64 (.x 1)), (.i .i64 (.x 2)), (.i .i64 (.x 3)), (.i .i64 (.x 4))])] (.tup [(.one (.sl (.x 2))), (.agg [(.sl (.x 3)), (.i .i64 (.x 9)), (.i .i64 (.x 10)), (.i .i64 (.x 11)), (.i .i64 (.x 12)), (.i .i64 (.x 13))])]) ⟨5, 0, 0, 0, 2, 0⟩
  (.call (.c true) false 31 [(.one (.i .u8 (.c 27))), (.agg [(.i .u8 (.x 5)), (.i .i64 (.x 6)), (.i .i64 (.x 7)), (.i .i64 (.x 8)), (.s (.x 0))]), (.one (.s (.x 0))), (.one (.i .i64 (.c 0))), (.one (.sl (.x 2)))] (.p (.one (.sl (.x 4)))) ⟨0, 0, 0, 0, 1, 0⟩
  (.ret (.tup [(.one (.sl (.x 4))), (.agg [(.sl (.x 3)), (.i .i64 (.x 9)), (.i .i64 (.x 10)), (.i .i64 (.x 11)), (.i .i64 (.x 12)), (.i .i64 (.x 13))])]))))
  (.call (.c true) false 28 [(.agg [(.sl (.x 0)), (.i .i64 (.x 0)), (.i .i64 (.x 1)), (.i .i64 (.x 2)), (.i .i64 (.x 3)), (.i .i64 (.x 4))]), (.one (.s (.c [40])))] (.p (.one (.b (.x 5)))) ⟨0, 1, 0, 0, 0, 0⟩
  (.ite (.x 5)
  (.call (.c true) false 56 [(.agg [(.sl (.x 0)), (.i .i64 (.x 0)), (.i .i64 (.x 1)), (.i .i64 (.x 2)), (.i .i64 (.x 3)), (.i .i64 (.x 4))]), (.one (.s (.c [40])))] (.p (.agg [(.sl (.x 2)), (.i .i64 (.x 9)), (.i .i64 (.x 10)), (.i .i64 (.x 11)), (.i .i64 (.x 12)), (.i .i64 (.x 13))])) ⟨5, 0, 0, 0, 1, 0⟩
  (.call (.c true) false 13 [(.agg [(.sl (.x 2)), (.i .i64 (.x 9)), (.i .i64 (.x 10)), (.i .i64 (.x 11)), (.i .i64 (.x 12)), (.i .i64 (.x 13))]), (.one (.i .i64 (.c 1)))] (.tup [(.one (.sl (.x 3))), (.agg [(.sl (.x 4)), (.i .i64 (.x 14)), (.i .i64 (.x 15)), (.i .i64 (.x 16)), (.i .i64 (.x 17)), (.i .i64 (.x 18))])]) ⟨5, 0, 0, 0, 2, 0⟩
  (.call (.c true) false 84 [(.agg [(.sl (.x 4)), (.i .i64 (.x 14)), (.i .i64 (.x 15)), (.i .i64 (.x 16)), (.i .i64 (.x 17)), (.i .i64 (.x 18))]), (.one (.s (.c [41])))] (.p (.agg [(.sl (.x 5)), (.i .i64 (.x 19)), (.i .i64 (.x 20)), (.i .i64 (.x 21)), (.i .i64 (.x 22)), (.i .i64 (.x 23))])) ⟨5, 0, 0, 0, 1, 0⟩
  (.ret (.tup [(.one (.sl (.x 3))), (.agg [(.sl (.x 5)), (.i .i64 (.x 19)), (.i .i64 (.x 20)), (.i .i64 (.x 21)), (.i .i64 (.x 22)), (.i .i64 (.x 23))])])))))
  (.call (.c true) false 28 [(.agg [(.sl (.x 0)), (.i .i64 (.x 0)), (.i .i64 (.x 1)), (.i .i64 (.x 2)), (.i .i64 (.x 3)), (.i .i64 (.x 4))]), (.one (.s (.c [109, 97, 107, 101])))] (.p (.one (.b (.x 6)))) ⟨0, 1, 0, 0, 0, 0⟩
  (.call (.x 6) false 28 [(.agg [(.sl (.x 0)), (.i .i64 (.ite (.lt (.sub (.cnt (.x 0)) (.c 1)) (.add (.x 0) (.c 1))) (.sub (.cnt (.x 0)) (.c 1)) (.add (.x 0) (.c 1)))), (.i .i64 (.x 1)), (.i .i64 (.x 2)), (.i .i64 (.x 3)), (.i .i64 (.x 4))]), (.one (.s (.c [91])))] (.p (.one (.b (.x 7)))) ⟨0, 1, 0, 0, 0, 0⟩
  z)))))))
theorem p_ratom_6 (r : Code) : gen g_ratom Tryz.prog a_ratom (cPut [1, 1, 1, 1, 1, 1, 1] (cSub [1, 1, 1, 1, 1, 1, 0, 0, 1, 1, 1, 1, 1, 1, 1, 1, 1, 1, 1, 1] (bodyOf Tryz.f83)) r) 0 st_ratom_3 (kBlk 0 (kSeq g_ratom Tryz.prog a_ratom (cSub [1, 1, 1, 1, 1, 1, 1] (bodyOf Tryz.f83)) 0 (kRet Tryz.prog Tryz.f83))) = fm_ratom_6 (gen g_ratom Tryz.prog a_ratom r 0 st_ratom_5 (kBlk 0 (kSeq g_ratom Tryz.prog a_ratom (cSub [1, 1, 1, 1, 1, 1, 1] (bodyOf Tryz.f83)) 0 (kRet Tryz.prog Tryz.f83)))) := by kernel_rfl
def st_ratom_7 : St := ⟨(cDd [(.p (.agg [(.sl (.x 0)), (.i .i64 (.x 0)), (.i .i64 (.x 1)), (.i .i64 (.x 2)), (.i .i64 (.x 3)), (.i .i64 (.x 4))])), (.p (.one (.own 0 0))), (.p (.one (.sl .nil))), (.p (.one (.own 1 0))), (.p (.one (.own 2 0))), (.p (.one (.sl (.x 1)))), (.p (.one (.own 3 0)))] 7 (cDd [(.p (.one (.own 4 0))), (.p (.one (.own 5 0))), (.p (.agg [(.sl (.x 0)), (.i .i64 (.x 0)), (.i .i64 (.x 1)), (.i .i64 (.x 2)), (.i .i64 (.x 3)), (.i .i64 (.x 4))])), (.p (.agg [(.i .u8 (.x 5)), (.i .i64 (.x 6)), (.i .i64 (.x 7)), (.i .i64 (.x 8)), (.s (.x 0))])), (.p (.one (.sl (.x 1)))), (.p (.agg [(.sl (.x 0)), (.i .i64 (.x 0)), (.i .i64 (.x 1)), (.i .i64 (.x 2)), (.i .i64 (.x 3)), (.i .i64 (.x 4))])), (.p (.one (.b (.x 0))))] 3 (cDd [(.p (.agg [(.sl (.x 0)), (.i .i64 (.x 0)), (.i .i64 (.x 1)), (.i .i64 (.x 2)), (.i .i64 (.x 3)), (.i .i64 (.x 4))])), (.p (.one (.own 0 1))), (.p (.one (.i .i64 (.x 0)))), (.p (.one (.i .i64 (.add (.x 0) (.c 1))))), (.p (.one (.own 0 0))), (.p (.one (.sl (.x 0)))), (.p (.one (.i .i64 (.cnt (.x 0))))), (.p (.one (.i .i64 (.sub (.cnt (.x 0)) (.c 1))))), (.p (.one (.i .i64 (.ite (.lt (.sub (.cnt (.x 0)) (.c 1)) (.add (.x 0) (.c 1))) (.sub (.cnt (.x 0)) (.c 1)) (.add (.x 0) (.c 1)))))), (.p (.one (.own 3 1))), (.p (.one (.b (.eqI (.x 5) (.c 3))))), (.p (.one (.own 2 0))), (.p (.one (.i .u8 (.x 5)))), (.p (.one (.b (.eqI (.x 5) (.c 3)))))] 6 (cDd [(.p (.one (.b (.eqI (.x 5) (.c 4))))), (.p (.one (.own 2 0))), (.p (.one (.i .u8 (.x 5)))), (.p (.one (.b (.eqI (.x 5) (.c 4)))))] 6 (cDd [(.p (.one (.b (.eqI (.x 5) (.c 5))))), (.p (.one (.own 2 0))), (.p (.one (.i .u8 (.x 5)))), (.p (.one (.b (.eqI (.x 5) (.c 5)))))] 6 (cDd [(.p (.one (.b (.x 1)))), (.p (.agg [(.sl (.x 0)), (.i .i64 (.x 0)), (.i .i64 (.x 1)), (.i .i64 (.x 2)), (.i .i64 (.x 3)), (.i .i64 (.x 4))])), (.p (.one (.b (.x 1))))] 4 (cDd [(.p (.one (.b (.x 2)))), (.p (.agg [(.sl (.x 0)), (.i .i64 (.x 0)), (.i .i64 (.x 1)), (.i .i64 (.x 2)), (.i .i64 (.x 3)), (.i .i64 (.x 4))])), (.p (.one (.b (.x 2))))] 4 (cDd [(.p (.one (.b (.x 3)))), (.p (.agg [(.sl (.x 0)), (.i .i64 (.x 0)), (.i .i64 (.x 1)), (.i .i64 (.x 2)), (.i .i64 (.x 3)), (.i .i64 (.x 4))])), (.p (.one (.b (.x 3))))] 4 (cDd [(.p (.one (.b (.and (.eqI (.x 5) (.c 1)) (.not (.x 4)))))), (.p (.one (.own 2 0))), (.p (.one (.i .u8 (.x 5)))), (.p (.one (.b (.eqI (.x 5) (.c 1))))), (.p (.one (.b (.eqI (.x 5) (.c 1))))), (.wg [(89, true)] (.agg [(.sl (.x 0)), (.i .i64 (.ite (.lt (.sub (.cnt (.x 0)) (.c 1)) (.add (.x 0) (.c 1))) (.sub (.cnt (.x 0)) (.c 1)) (.add (.x 0) (.c 1)))), (.i .i64 (.x 1)), (.i .i64 (.x 2)), (.i .i64 (.x 3)), (.i .i64 (.x 4))])), (.wg [(89, true)] (.one (.b (.x 4)))), (.wg [(89, true)] (.one (.b (.not (.x 4))))), (.p (.one (.b (.and (.eqI (.x 5) (.c 1)) (.not (.x 4))))))] 6 (cDd [(.p (.one (.b (.eqI (.x 5) (.c 1))))), (.p (.one (.own 2 0))), (.p (.one (.i .u8 (.x 5)))), (.p (.one (.b (.eqI (.x 5) (.c 1)))))] 11 (cDd [(.p (.one (.b (.x 5)))), (.p (.agg [(.sl (.x 0)), (.i .i64 (.x 0)), (.i .i64 (.x 1)), (.i .i64 (.x 2)), (.i .i64 (.x 3)), (.i .i64 (.x 4))])), (.p (.one (.b (.x 5))))] 9 (cDd [(.p (.one (.b (.and (.x 6) (.x 7))))), (.p (.agg [(.sl (.x 0)), (.i .i64 (.x 0)), (.i .i64 (.x 1)), (.i .i64 (.x 2)), (.i .i64 (.x 3)), (.i .i64 (.x 4))])), (.p (.one (.b (.x 6)))), (.p (.one (.b (.x 6)))), (.wg [(130, true)] (.agg [(.sl (.x 0)), (.i .i64 (.ite (.lt (.sub (.cnt (.x 0)) (.c 1)) (.add (.x 0) (.c 1))) (.sub (.cnt (.x 0)) (.c 1)) (.add (.x 0) (.c 1)))), (.i .i64 (.x 1)), (.i .i64 (.x 2)), (.i .i64 (.x 3)), (.i .i64 (.x 4))])), (.wg [(130, true)] (.one (.b (.x 7)))), (.p (.one (.b (.and (.x 6) (.x 7)))))] 18 (cDd [(.p (.one (.b (.x 8)))), (.p (.agg [(.sl (.x 0)), (.i .i64 (.x 0)), (.i .i64 (.x 1)), (.i .i64 (.x 2)), (.i .i64 (.x 3)), (.i .i64 (.x 4))])), (.p (.one (.b (.x 8)))), (.tup [(.agg [(.i .u8 (.x 9)), (.i .i64 (.x 10)), (.i .i64 (.x 11)), (.i .i64 (.x 12)), (.s (.x 1))]), (.agg [(.sl (.x 2)), (.i .i64 (.x 13)), (.i .i64 (.x 14)), (.i .i64 (.x 15)), (.i .i64 (.x 16)), (.i .i64 (.x 17))])]), (.p (.agg [(.sl (.x 0)), (.i .i64 (.ite (.lt (.sub (.cnt (.x 0)) (.c 1)) (.add (.x 0) (.c 1))) (.sub (.cnt (.x 0)) (.c 1)) (.add (.x 0) (.c 1)))), (.i .i64 (.x 1)), (.i .i64 (.x 2)), (.i .i64 (.x 3)), (.i .i64 (.x 4))])), (.tup [(.agg [(.i .u8 (.x 9)), (.i .i64 (.x 10)), (.i .i64 (.x 11)), (.i .i64 (.x 12)), (.s (.x 1))]), (.agg [(.sl (.x 2)), (.i .i64 (.x 13)), (.i .i64 (.x 14)), (.i .i64 (.x 15)), (.i .i64 (.x 16)), (.i .i64 (.x 17))])]), (.p (.agg [(.i .u8 (.x 9)), (.i .i64 (.x 10)), (.i .i64 (.x 11)), (.i .i64 (.x 12)), (.s (.x 1))])), (.p (.agg [(.sl (.x 2)), (.i .i64 (.x 13)), (.i .i64 (.x 14)), (.i .i64 (.x 15)), (.i .i64 (.x 16)), (.i .i64 (.x 17))]))] 14 []))))))))))))), [⟨[(.sl (.x 0)), (.i .i64 (.x 0)), (.i .i64 (.x 1)), (.i .i64 (.x 2)), (.i .i64 (.x 3)), (.i .i64 (.x 4))], 42⟩, ⟨[(.sl .nil), (.i .i64 (.c 0)), (.i .i64 (.c 0)), (.i .i64 (.c 0)), (.i .i64 (.c 0)), (.i .i64 (.c 0))], 42⟩, ⟨[(.i .u8 (.x 5)), (.i .i64 (.x 6)), (.i .i64 (.x 7)), (.i .i64 (.x 8)), (.s (.x 0))], 51⟩, ⟨[(.sl (.x 0)), (.i .i64 (.ite (.lt (.sub (.cnt (.x 0)) (.c 1)) (.add (.x 0) (.c 1))) (.sub (.cnt (.x 0)) (.c 1)) (.add (.x 0) (.c 1)))), (.i .i64 (.x 1)), (.i .i64 (.x 2)), (.i .i64 (.x 3)), (.i .i64 (.x 4))], 42⟩, ⟨[(.i .u8 (.x 9)), (.i .i64 (.x 10)), (.i .i64 (.x 11)), (.i .i64 (.x 12)), (.s (.x 1))], 51⟩, ⟨[(.sl (.x 2)), (.i .i64 (.x 13)), (.i .i64 (.x 14)), (.i .i64 (.x 15)), (.i .i64 (.x 16)), (.i .i64 (.x 17))], 42⟩], ⟨18, 9, 2, 0, 3, 0⟩⟩
def fm_ratom_8 (z : Fm) : Fm := (.ite (.and (.x 6) (.x 7))
  (.call (.c true) false 98 [(.agg [(.sl (.x 0)), (.i .i64 (.ite (.lt (.sub (.cnt (.x 0)) (.c 1)) (.add (.x 0) (.c 1))) (.sub (.cnt (.x 0)) (.c 1)) (.add (.x 0) (.c 1)))), (.i .i64 (.x 1)), (.i .i64 (.x 2)), (.i .i64 (.x 3)), (.i .i64 (.x 4))])] (.tup [(.one (.sl (.x 2))), (.agg [(.sl (.x 3)), (.i .i64 (.x 9)), (.i .i64 (.x 10)), (.i .i64 (.x 11)), (.i .i64 (.x 12)), (.i .i64 (.x 13))])]) ⟨5, 0, 0, 0, 2, 0⟩
  (.call (.c true) false 56 [(.agg [(.sl (.x 3)), (.i .i64 (.x 9)), (.i .i64 (.x 10)), (.i .i64 (.x 11)), (.i .i64 (.x 12)), (.i .i64 (.x 13))]), (.one (.s (.c [40])))] (.p (.agg [(.sl (.x 4)), (.i .i64 (.x 14)), (.i .i64 (.x 15)), (.i .i64 (.x 16)), (.i .i64 (.x 17)), (.i .i64 (.x 18))])) ⟨5, 0, 0, 0, 1, 0⟩
  (.call (.c true) false 13 [(.agg [(.sl (.x 4)), (.i .i64 (.x 14)), (.i .i64 (.x 15)), (.i .i64 (.x 16)), (.i .i64 (.x 17)), (.i .i64 (.x 18))]), (.one (.i .i64 (.c 1)))] (.tup [(.one (.sl (.x 5))), (.agg [(.sl (.x 6)), (.i .i64 (.x 19)), (.i .i64 (.x 20)), (.i .i64 (.x 21)), (.i .i64 (.x 22)), (.i .i64 (.x 23))])]) ⟨5, 0, 0, 0, 2, 0⟩
  (.call (.c true) false 32 [(.one (.sl (.x 2))), (.one (.sl (.x 5)))] (.p (.one (.sl (.x 7)))) ⟨0, 0, 0, 0, 1, 0⟩
  (.call (.c true) false 31 [(.one (.i .u8 (.c 32))), (.agg [(.i .u8 (.x 5)), (.i .i64 (.x 6)), (.i .i64 (.x 7)), (.i .i64 (.x 8)), (.s (.x 0))]), (.one (.s (.c []))), (.one (.i .i64 (.c 0))), (.one (.sl (.x 7)))] (.p (.one (.sl (.x 8)))) ⟨0, 0, 0, 0, 1, 0⟩
  (.call (.c true) false 84 [(.agg [(.sl (.x 6)), (.i .i64 (.x 19)), (.i .i64 (.x 20)), (.i .i64 (.x 21)), (.i .i64 (.x 22)), (.i .i64 (.x 23))]), (.one (.s (.c [41])))] (.p (.agg [(.sl (.x 9)), (.i .i64 (.x 24)), (.i .i64 (.x 25)), (.i .i64 (.x 26)), (.i .i64 (.x 27)), (.i .i64 (.x 28))])) ⟨5, 0, 0, 0, 1, 0⟩
  (.ret (.tup [(.one (.sl (.x 8))), (.agg [(.sl (.x 9)), (.i .i64 (.x 24)), (.i .i64 (.x 25)), (.i .i64 (.x 26)), (.i .i64 (.x 27)), (.i .i64 (.x 28))])]))))))))
  (.call (.c true) false 28 [(.agg [(.sl (.x 0)), (.i .i64 (.x 0)), (.i .i64 (.x 1)), (.i .i64 (.x 2)), (.i .i64 (.x 3)), (.i .i64 (.x 4))]), (.one (.s (.c [109, 97, 107, 101])))] (.p (.one (.b (.x 8)))) ⟨0, 1, 0, 0, 0, 0⟩
  (.ite (.x 8)
  (.call (.c true) false 85 [(.agg [(.sl (.x 0)), (.i .i64 (.ite (.lt (.sub (.cnt (.x 0)) (.c 1)) (.add (.x 0) (.c 1))) (.sub (.cnt (.x 0)) (.c 1)) (.add (.x 0) (.c 1)))), (.i .i64 (.x 1)), (.i .i64 (.x 2)), (.i .i64 (.x 3)), (.i .i64 (.x 4))]), (.one (.i .u8 (.c 2)))] (.tup [(.agg [(.i .u8 (.x 9)), (.i .i64 (.x 10)), (.i .i64 (.x 11)), (.i .i64 (.x 12)), (.s (.x 1))]), (.agg [(.sl (.x 2)), (.i .i64 (.x 13)), (.i .i64 (.x 14)), (.i .i64 (.x 15)), (.i .i64 (.x 16)), (.i .i64 (.x 17))])]) ⟨9, 0, 1, 0, 1, 0⟩
  z)
  (.mk [(.i .u8 (.c 25)), (.i .i64 (.c 0)), (.i .i64 (.c 0)), (.i .i64 (.c 0)), (.i .i64 (.c 0)), (.s (.c []))] 32 1
  (.call (.c true) false 33 [(.agg [(.sl (.x 0)), (.i .i64 (.x 0)), (.i .i64 (.x 1)), (.i .i64 (.x 2)), (.i .i64 (.x 3)), (.i .i64 (.x 4))]), (.one (.i .i64 (.c 5)))] (.p (.agg [(.sl (.x 3)), (.i .i64 (.x 9)), (.i .i64 (.x 10)), (.i .i64 (.x 11)), (.i .i64 (.x 12)), (.i .i64 (.x 13))])) ⟨5, 0, 0, 0, 1, 0⟩
  (.ret (.tup [(.one (.sl (.x 2))), (.agg [(.sl (.x 3)), (.i .i64 (.x 9)), (.i .i64 (.x 10)), (.i .i64 (.x 11)), (.i .i64 (.x 12)), (.i .i64 (.x 13))])])))))))
theorem p_ratom_8 (r : Code) : gen g_ratom Tryz.prog a_ratom (cPut [1, 1, 0, 1] (cSub [1, 1, 1, 1, 1, 1, 0, 0, 1, 1, 1, 1, 1, 1, 1, 1, 1, 1, 1, 1, 1, 1, 1, 1, 1, 1, 1] (bodyOf Tryz.f83)) r) 0 st_ratom_5 (kBlk 0 (kSeq g_ratom Tryz.prog a_ratom (cSub [1, 1, 1, 1, 1, 1, 1] (bodyOf Tryz.f83)) 0 (kRet Tryz.prog Tryz.f83))) = fm_ratom_8 (gen g_ratom Tryz.prog a_ratom r 0 st_ratom_7 (kBlk 0 (kSeq g_ratom Tryz.prog a_ratom (cSub [1, 1, 1, 1, 1, 1, 1] (bodyOf Tryz.f83)) 0 (kRet Tryz.prog Tryz.f83)))) := by kernel_rfl
def fm_ratom_9 : Fm := (.call (.c true) false 31 [(.one (.i .u8 (.c 19))), (.agg [(.i .u8 (.x 9)), (.i .i64 (.x 10)), (.i .i64 (.x 11)), (.i .i64 (.x 12)), (.s (.x 1))]), (.one (.s (.x 1))), (.one (.i .i64 (.c 0))), (.one (.sl (.x 1)))] (.p (.one (.sl (.x 3)))) ⟨0, 0, 0, 0, 1, 0⟩
  (.call (.c true) false 31 [(.one (.i .u8 (.c 32))), (.agg [(.i .u8 (.x 5)), (.i .i64 (.x 6)), (.i .i64 (.x 7)), (.i .i64 (.x 8)), (.s (.x 0))]), (.one (.s (.c []))), (.one (.i .i64 (.c 0))), (.one (.sl (.x 3)))] (.p (.one (.sl (.x 4)))) ⟨0, 0, 0, 0, 1, 0⟩
  (.call (.c true) false 56 [(.agg [(.sl (.x 2)), (.i .i64 (.x 13)), (.i .i64 (.x 14)), (.i .i64 (.x 15)), (.i .i64 (.x 16)), (.i .i64 (.x 17))]), (.one (.s (.c [40])))] (.p (.agg [(.sl (.x 5)), (.i .i64 (.x 18)), (.i .i64 (.x 19)), (.i .i64 (.x 20)), (.i .i64 (.x 21)), (.i .i64 (.x 22))])) ⟨5, 0, 0, 0, 1, 0⟩
  (.call (.c true) false 84 [(.agg [(.sl (.x 5)), (.i .i64 (.x 18)), (.i .i64 (.x 19)), (.i .i64 (.x 20)), (.i .i64 (.x 21)), (.i .i64 (.x 22))]), (.one (.s (.c [41])))] (.p (.agg [(.sl (.x 6)), (.i .i64 (.x 23)), (.i .i64 (.x 24)), (.i .i64 (.x 25)), (.i .i64 (.x 26)), (.i .i64 (.x 27))])) ⟨5, 0, 0, 0, 1, 0⟩
  (.ret (.tup [(.one (.sl (.x 4))), (.agg [(.sl (.x 6)), (.i .i64 (.x 23)), (.i .i64 (.x 24)), (.i .i64 (.x 25)), (.i .i64 (.x 26)), (.i .i64 (.x 27))])]))))))
theorem g_ratom_9 : gen g_ratom Tryz.prog a_ratom (cSub [1, 1, 1, 1, 1, 1, 0, 0, 1, 1, 1, 1, 1, 1, 1, 1, 1, 1, 1, 1, 1, 1, 1, 1, 1, 1, 1, 1, 1, 0, 1] (bodyOf Tryz.f83)) 0 st_ratom_7 (kBlk 0 (kSeq g_ratom Tryz.prog a_ratom (cSub [1, 1, 1, 1, 1, 1, 1] (bodyOf Tryz.f83)) 0 (kRet Tryz.prog Tryz.f83))) = fm_ratom_9 := by kernel_rfl
theorem g_ratom_10 : gen g_ratom Tryz.prog a_ratom (cSub [1, 1, 1, 1, 1, 1, 0, 0, 1, 1, 1, 1, 1, 1, 1, 1, 1, 1, 1, 1, 1, 1, 1, 1, 1, 1, 1] (bodyOf Tryz.f83)) 0 st_ratom_5 (kBlk 0 (kSeq g_ratom Tryz.prog a_ratom (cSub [1, 1, 1, 1, 1, 1, 1] (bodyOf Tryz.f83)) 0 (kRet Tryz.prog Tryz.f83))) = fm_ratom_8 fm_ratom_9 := g_cut (p := [1, 1, 1, 1, 1, 1, 0, 0, 1, 1, 1, 1, 1, 1, 1, 1, 1, 1, 1, 1, 1, 1, 1, 1, 1, 1, 1]) (q := [1, 1, 0, 1]) (c := bodyOf Tryz.f83) (by kernel_rfl) ((p_ratom_8 (cSub [1, 1, 1, 1, 1, 1, 0, 0, 1, 1, 1, 1, 1, 1, 1, 1, 1, 1, 1, 1, 1, 1, 1, 1, 1, 1, 1, 1, 1, 0, 1] (bodyOf Tryz.f83))).trans (congrArg fm_ratom_8 g_ratom_9))
theorem g_ratom_11 : gen g_ratom Tryz.prog a_ratom (cSub [1, 1, 1, 1, 1, 1, 0, 0, 1, 1, 1, 1, 1, 1, 1, 1, 1, 1, 1, 1] (bodyOf Tryz.f83)) 0 st_ratom_3 (kBlk 0 (kSeq g_ratom Tryz.prog a_ratom (cSub [1, 1, 1, 1, 1, 1, 1] (bodyOf Tryz.f83)) 0 (kRet Tryz.prog Tryz.f83))) = fm_ratom_6 (fm_ratom_8 fm_ratom_9) := g_cut (p := [1, 1, 1, 1, 1, 1, 0, 0, 1, 1, 1, 1, 1, 1, 1, 1, 1, 1, 1, 1]) (q := [1, 1, 1, 1, 1, 1, 1]) (c := bodyOf Tryz.f83) (by kernel_rfl) ((p_ratom_6 (cSub [1, 1, 1, 1, 1, 1, 0, 0, 1, 1, 1, 1, 1, 1, 1, 1, 1, 1, 1, 1, 1, 1, 1, 1, 1, 1, 1] (bodyOf Tryz.f83))).trans (congrArg fm_ratom_6 g_ratom_10))
theorem g_ratom_12 : gen g_ratom Tryz.prog a_ratom (cSub [1, 1, 1, 1, 1, 1, 0] (bodyOf Tryz.f83)) 0 st_ratom_1 (kSeq g_ratom Tryz.prog a_ratom (cSub [1, 1, 1, 1, 1, 1, 1] (bodyOf Tryz.f83)) 0 (kRet Tryz.prog Tryz.f83)) = fm_ratom_4 (fm_ratom_6 (fm_ratom_8 fm_ratom_9)) := g_cut (p := [1, 1, 1, 1, 1, 1, 0]) (q := [0, 1, 1, 1, 1, 1, 1, 1, 1, 1, 1, 1, 1]) (c := bodyOf Tryz.f83) (by kernel_rfl) ((p_ratom_4 (cSub [1, 1, 1, 1, 1, 1, 0, 0, 1, 1, 1, 1, 1, 1, 1, 1, 1, 1, 1, 1] (bodyOf Tryz.f83))).trans (congrArg fm_ratom_4 g_ratom_11))
theorem g_ratom_13 : gen g_ratom Tryz.prog a_ratom (cSub [1, 1, 1, 1, 1, 1] (bodyOf Tryz.f83)) 0 st_ratom_1 (kRet Tryz.prog Tryz.f83) = (fm_ratom_4 (fm_ratom_6 (fm_ratom_8 fm_ratom_9))) := g_seq (a := (cSub [1, 1, 1, 1, 1, 1, 0] (bodyOf Tryz.f83))) (b := (cSub [1, 1, 1, 1, 1, 1, 1] (bodyOf Tryz.f83))) (by kernel_rfl) (by kernel_rfl) g_ratom_12
theorem g_ratom_14 : gen g_ratom Tryz.prog a_ratom (cSub [] (bodyOf Tryz.f83)) 0 st_ratom_0 (kRet Tryz.prog Tryz.f83) = fm_ratom_2 (fm_ratom_4 (fm_ratom_6 (fm_ratom_8 fm_ratom_9))) := g_cut (p := []) (q := [1, 1, 1, 1, 1, 1]) (c := bodyOf Tryz.f83) (by kernel_rfl) ((p_ratom_2 (cSub [1, 1, 1, 1, 1, 1] (bodyOf Tryz.f83))).trans (congrArg fm_ratom_2 g_ratom_13))
def fm_ratom : Fm := (fm_ratom_2 (fm_ratom_4 (fm_ratom_6 (fm_ratom_8 fm_ratom_9))))
theorem ps_ratom : freshPs Tryz.prog .zero Tryz.f83.params.toList = some ([(.agg [(.sl (.x 0)), (.i .i64 (.x 0)), (.i .i64 (.x 1)), (.i .i64 (.x 2)), (.i .i64 (.x 3)), (.i .i64 (.x 4))])], ⟨5, 0, 0, 0, 1, 0⟩) := by kernel_rfl
theorem gen_ratom : genFn g_ratom Tryz.prog a_ratom Tryz.f83 = fm_ratom := g_fn (st0 := st_ratom_0) ps_ratom (by kernel_rfl) (by kernel_rfl) g_ratom_14
end Go.Proofs.YthlakehilhpojaaGreatDoor
namespace Go.Proofs.YthlakehilhpojaaGreatDoor
open Go.RowKit
attribute [local go_sem] says_tt says_ff th_need th_ite th_call th_callK th_load th_store says_ret says_again BE.den IE.den SE.den LE.den AE.den CE.den PE.den VE.den KV.val Got.den Got.cnt exI allI exL allL Ctx.push Ctx.heap Ctx.cut Ctx.bare Ctx.mark Inc.blank List.getD_cons_zero List.getD_cons_succ List.cons_append List.nil_append List.append_nil List.map_cons List.map_nil List.replicate_zero List.replicate_succ specOf ltB_t leB_t ltB_f leB_f slc_val slc_nil slc_inj pt_val pt_nil hle_noHeap hle_refl hread_set hwrite_set set_same set_set noHeap_at B_inj ones_nil and_assoc
theorem kind_list {L : List Tok} {n : Nat} {p : PS} (h : pIs L [91] p = true) : pKind L (n + 1) p = (pKind L n (pOpen L [91] p)).map fun r => (nd 20 (tk L p) 0 [] [r.1], pShut L [93] r.2) := by
  have hx := is_text h
  have no : ∀ w : List UInt8, w ≠ [91] → pIs L w p = false := fun w hw => by
    cases hc : pIs L w p with
    | false => rfl
    | true => exact absurd ((is_text hc).symm.trans hx) hw
  have hk : ¬ (tk L p).k = 2 := by
    unfold pIs at h
    simp only [Bool.and_eq_true, Bool.or_eq_true, beq_iff_eq] at h
    omega
  rw [kind_rest (fun i hi => ?_), if_neg (by rw [is_good h]; decide), if_neg hk, if_pos h]
  match i, hi with
  | 0, _ => exact no _ (by decide)
  | 1, _ => exact no _ (by decide)
  | 2, _ => exact no _ (by decide)
  | 3, _ => exact no _ (by decide)
theorem pass_f {L : List Tok} (p : PS) : (pPass L p).f = p.f := by unfold pPass; split <;> rfl
theorem open_bad_a {L : List Tok} {s : List UInt8} {p : PS} (h : p.bad = true) : (pOpen L s p).a = p.a := by
  unfold pOpen
  rw [if_neg (by rw [bad_must' h]; simp)]
  show (pMust L s p).a = p.a
  rw [bad_must h]
theorem kind_two {L : List Tok} {n : Nat} {p : PS} (hb : p.bad = false) (hk : (tk L p).k = 2) : pKind L (n + 1) p = some (nd 19 (tk L p) 0 (tk L p).x [], pPass L p) := by
  rw [kind_rest (fun i _ => by unfold pIs; simp [hk]), if_neg (by rw [hb]; decide), if_pos hk]
theorem own_one {h : Hp} {b : Nat} {T : TypeId} (x : Nod) : NW (h.set b ⟨x.cs, T⟩) ⟨some (b, 0), 1, 1⟩ [x] := ⟨b, 1, T, [], rfl, by rw [set_same]; simp [ncs]⟩
set_option maxHeartbeats 16000000 in
theorem atom_ok06 {n : Nat} (HE : ExprR n) (HC : ArgsR n) : AtomR (n + 1) := by
  rintro args h φ w ⟨m, hm, sl, L, p, r, t, q, rfl, R, hr, hφ⟩ hH
  cases m with
  | zero => cases hr
  | succ m =>
  refine by_fm Tryz.func83 gen_ratom ps_ratom [ctRNow, ctRBad, ctRIs, ctNode06, ctJoin06, ctROpens, ctRShuts, ctRfWord, ctRFail, ctKind06 (kind_ok06 m), ctExprR HE, ctArgsR HC] φ (noInv) (noMeas) ⟨[(r.a : Int), r.d, r.f.1, r.f.2.1, r.f.2.2], [], [], [], [sl], [], h, noM⟩ ⟨rfl, rfl, rfl, rfl, rfl, rfl⟩ ones_nil ?_ w hH rfl
  generalize hE : (⟨specOf _, _, _, _⟩ : Env) = E
  have s_ctRNow : E.spec 29 = (ctRNow).spec := by rw [← hE]; rfl
  have s_ctRBad : E.spec 34 = (ctRBad).spec := by rw [← hE]; rfl
  have s_ctRIs : E.spec 28 = (ctRIs).spec := by rw [← hE]; rfl
  have s_ctNode06 : E.spec 31 = (ctNode06).spec := by rw [← hE]; rfl
  have s_ctJoin06 : E.spec 32 = (ctJoin06).spec := by rw [← hE]; rfl
  have s_ctROpens : E.spec 56 = (ctROpens).spec := by rw [← hE]; rfl
  have s_ctRShuts : E.spec 84 = (ctRShuts).spec := by rw [← hE]; rfl
  have s_ctRfWord : E.spec 85 = (ctRfWord).spec := by rw [← hE]; rfl
  have s_ctRFail : E.spec 33 = (ctRFail).spec := by rw [← hE]; rfl
  have s_ctK : E.spec 98 = (ctKind06 (kind_ok06 m)).spec := by rw [← hE]; rfl
  have s_ctE : E.spec 13 = (ctExprR HE).spec := by rw [← hE]; rfl
  have s_ctA : E.spec 97 = (ctArgsR HC).spec := by rw [← hE]; rfl
  have ep : E.post = φ := by rw [← hE]
  clear hE
  unfold fm_ratom
  simp only [fm_ratom_9, fm_ratom_8, fm_ratom_6, fm_ratom_4, fm_ratom_2]
  rw [pAtom] at hr
  have htk := R.k.tk (L := L)
  have hll := R.W.len
  have lw := R.W.lw
  have hra := R.W.at'
  have hpa := R.at'
  have hsn : sl.n = L.length := R.W.tok.1
  -- the place behind this token
  have hq : (tk L p).k ≠ 8 → (bif ltB ((sl.n : Int) - 1) ((r.a : Int) + 1) then (sl.n : Int) - 1 else (r.a : Int) + 1) = ((pPass L r).a : Int) ∧ (pPass L r).d = r.d ∧ (pPass L r).f = r.f := by
    intro h8
    have h8' : ¬ (tk L r).k = 8 := by rw [htk]; exact h8
    have ha := (adv_pass lw p).v hpa
    rw [good_pass h8] at ha
    have := R.k.a
    unfold pPass
    rw [if_neg h8', show ltB ((sl.n : Int) - 1) ((r.a : Int) + 1) = false by unfold ltB; rw [decide_eq_false_iff_not]; omega]
    exact ⟨by simp, rfl, rfl⟩
  have leaf : ∀ (kk nn : Int) (xx : List UInt8), (tk L p).k ≠ 8 → t = nd kk (tk L p) nn xx [] → q = pPass L p → ∀ sl' h', HLe h h' → NW h' sl' [⟨kk, (tk L r).l, (tk L r).c, 0, nn, xx⟩] →
      φ (.tuple #[sl'.val, rv sl (pPass L r)]) h' := by
    intro kk nn xx h8 ht hq' sl' h' g1 g2
    subst ht hq'
    refine hφ sl' h' _ _ g1 g2 (by simp) (by rw [good_pass h8]; simp; omega) (fun _ => ?_) R.k.pass
    rw [nods_nd, htk]; rfl
  rw [th_call, if_pos (by rfl), s_ctRNow]
  refine ⟨sl, L, r, rfl, R.W, ?_⟩
  simp [go_sem, tokv, tkv]
  rw [then_step, th_mk]
  intro nb hnb
  have hnb' : h nb = none := hnb
  have hl1 := hle_set hnb' ⟨[], ND⟩
  have W1 := R.W.le hl1
  have N1 : NW (h.set nb ⟨[], ND⟩) ⟨some (nb, 0), 0, 0⟩ [] := NW.mk
  simp [go_sem]
  rw [then_step, th_call, if_pos (by rfl), s_ctRBad]
  refine ⟨sl, r, rfl, ?_⟩
  simp [go_sem]
  rw [R.k.bad]
  cases hb : p.bad with
  | true =>
    rw [if_pos hb] at hr
    cases hr
    rw [then_step, th_ite, if_pos (by simp [go_sem])]
    rw [then_step, th_mk]
    intro ob hob
    have hob' : (h.set nb ⟨[], ND⟩) ob = none := hob
    simp [go_sem]
    rw [then_step, says_ret, ep]
    refine hφ ⟨some (ob, 0), 1, 1⟩ _ [⟨25, 0, 0, 0, 0, []⟩] r (hle_trans hl1 (hle_set hob' ⟨_, ND⟩)) (own_one ⟨25, 0, 0, 0, 0, []⟩) (by simp) (by rw [hb]; simp; omega) (fun h => by rw [hb] at h; cases h) R.k
  | false =>
  rw [if_neg (by rw [hb]; decide)] at hr
  rw [then_step, th_ite, if_neg (by simp [go_sem])]
  rw [then_step, th_need]
  refine ⟨by simp [go_sem]; omega, ?_⟩
  rw [then_step, th_need]
  refine ⟨by simp [go_sem]; omega, ?_⟩
  have leafs : ∀ (kk nn : Int) (xx : List UInt8), (tk L p).k ≠ 8 → t = nd kk (tk L p) nn xx [] → q = pPass L p → ∀ sl' h', HLe (h.set nb ⟨[], ND⟩) h' → NW h' sl' [⟨kk, (tk L r).l, (tk L r).c, 0, nn, xx⟩] →
      φ (.tuple #[sl'.val, .agg #[sl.val, .int .i64 (bif ltB ((sl.n : Int) - 1) ((r.a : Int) + 1) then (sl.n : Int) - 1 else (r.a : Int) + 1), .int .i64 r.d, .int .i64 r.f.1, .int .i64 r.f.2.1, .int .i64 r.f.2.2]]) h' := by
    intro kk nn xx h8 ht hq' sl' h' g1 g2
    have := leaf kk nn xx h8 ht hq' sl' h' (hle_trans hl1 g1) g2
    rw [rv, ← (hq h8).1, (hq h8).2.1, (hq h8).2.2] at this
    exact this
  by_cases k3 : (tk L p).k = 3
  · rw [if_pos k3] at hr
    cases hr
    rw [then_step, th_ite, if_pos (by simp [go_sem, htk, k3])]
    rw [then_step, th_call, if_pos (by rfl), s_ctNode06]
    refine ⟨21, tk L r, [], (tk L r).n, _, [], by simp [go_sem, tokv, tkv, Slc.val], N1, by simp, fun sl' h' g1 g2 => ?_⟩
    simp [go_sem]
    rw [then_step, says_ret, ep]
    have := leafs 21 (tk L p).n [] (by omega) rfl rfl sl' h' g1 (by rw [← htk]; exact g2)
    simpa [go_sem] using this
  rw [if_neg k3] at hr
  rw [then_step, th_ite, if_neg (by simp [go_sem, htk, k3])]
  by_cases k4 : (tk L p).k = 4
  · rw [if_pos k4] at hr
    cases hr
    rw [then_step, th_ite, if_pos (by simp [go_sem, htk, k4])]
    rw [then_step, th_call, if_pos (by rfl), s_ctNode06]
    refine ⟨22, tk L r, [], (tk L r).n, _, [], by simp [go_sem, tokv, tkv, Slc.val], N1, by simp, fun sl' h' g1 g2 => ?_⟩
    simp [go_sem]
    rw [then_step, says_ret, ep]
    have := leafs 22 (tk L p).n [] (by omega) rfl rfl sl' h' g1 (by rw [← htk]; exact g2)
    simpa [go_sem] using this
  rw [if_neg k4] at hr
  rw [then_step, th_ite, if_neg (by simp [go_sem, htk, k4])]
  by_cases k5 : (tk L p).k = 5
  · rw [if_pos k5] at hr
    cases hr
    rw [then_step, th_ite, if_pos (by simp [go_sem, htk, k5])]
    rw [then_step, th_call, if_pos (by rfl), s_ctNode06]
    refine ⟨23, tk L r, (tk L r).x, 0, _, [], by simp [go_sem, tokv, tkv, Slc.val], N1, by simp, fun sl' h' g1 g2 => ?_⟩
    simp [go_sem]
    rw [then_step, says_ret, ep]
    have := leafs 23 0 (tk L p).x (by omega) rfl rfl sl' h' g1 (by rw [← htk]; exact g2)
    simpa [go_sem] using this
  rw [if_neg k5] at hr
  rw [then_step, th_ite, if_neg (by simp [go_sem, htk, k5])]
  rw [then_step, th_call, if_pos (by rfl), s_ctRIs]
  refine ⟨sl, L, r, wTrue, by simp [go_sem, rv, wTrue], W1, ?_⟩
  simp [go_sem]
  rw [R.k.is]
  cases c1 : pIs L wTrue p with
  | true =>
    rw [if_pos c1] at hr
    cases hr
    rw [then_step, th_ite, if_pos (by simp [go_sem])]
    rw [then_step, th_call, if_pos (by rfl), s_ctNode06]
    refine ⟨24, tk L r, [], 1, _, [], by simp [go_sem, tokv, tkv, Slc.val], N1, by simp, fun sl' h' g1 g2 => ?_⟩
    simp [go_sem]
    rw [then_step, says_ret, ep]
    have := leafs 24 1 [] (is_not8 c1) rfl rfl sl' h' g1 g2
    simpa [go_sem] using this
  | false =>
  rw [if_neg (by rw [c1]; decide)] at hr
  rw [then_step, th_ite, if_neg (by simp [go_sem])]
  rw [then_step, th_call, if_pos (by rfl), s_ctRIs]
  refine ⟨sl, L, r, wFalse, by simp [go_sem, rv, wFalse], W1, ?_⟩
  simp [go_sem]
  rw [R.k.is]
  cases c2 : pIs L wFalse p with
  | true =>
    rw [if_pos c2] at hr
    cases hr
    rw [then_step, th_ite, if_pos (by simp [go_sem])]
    rw [then_step, th_call, if_pos (by rfl), s_ctNode06]
    refine ⟨24, tk L r, [], 0, _, [], by simp [go_sem, tokv, tkv, Slc.val], N1, by simp, fun sl' h' g1 g2 => ?_⟩
    simp [go_sem]
    rw [then_step, says_ret, ep]
    have := leafs 24 0 [] (is_not8 c2) rfl rfl sl' h' g1 g2
    simpa [go_sem] using this
  | false =>
  rw [if_neg (by rw [c2]; decide)] at hr
  rw [then_step, th_ite, if_neg (by simp [go_sem])]
  rw [then_step, th_call, if_pos (by rfl), s_ctRIs]
  refine ⟨sl, L, r, wNil, by simp [go_sem, rv, wNil], W1, ?_⟩
  simp [go_sem]
  rw [R.k.is]
  cases c3 : pIs L wNil p with
  | true =>
    rw [if_pos c3] at hr
    cases hr
    rw [then_step, th_ite, if_pos (by simp [go_sem])]
    rw [then_step, th_call, if_pos (by rfl), s_ctNode06]
    refine ⟨25, tk L r, [], 0, _, [], by simp [go_sem, tokv, tkv, Slc.val], N1, by simp, fun sl' h' g1 g2 => ?_⟩
    simp [go_sem]
    rw [then_step, says_ret, ep]
    have := leafs 25 0 [] (is_not8 c3) rfl rfl sl' h' g1 g2
    simpa [go_sem] using this
  | false =>
  rw [if_neg (by rw [c3]; decide)] at hr
  rw [then_step, th_ite, if_neg (by simp [go_sem])]
  have A1 := adv_pass lw p
  by_cases k1 : (tk L p).k = 1
  · rw [if_pos k1] at hr
    have h8 : (tk L p).k ≠ 8 := by omega
    have hpa1 := good_pass h8
    rw [then_step, th_call, if_pos (by simp [go_sem, htk, k1]), s_ctRIs]
    refine ⟨sl, L, pPass L r, [40], by simp [go_sem, rv, (hq h8).1, (hq h8).2.1, (hq h8).2.2], (R.pass.le hl1).W, ?_⟩
    simp [go_sem]
    rw [R.k.pass.is]
    cases c4 : pIs L [40] (pPass L p) with
    | false =>
      rw [if_neg (by rw [c4]; decide)] at hr
      cases hr
      rw [then_step, th_ite, if_pos (by simp [go_sem, htk, k1])]
      rw [then_step, th_call, if_pos (by rfl), s_ctNode06]
      refine ⟨26, tk L r, (tk L r).x, 0, _, [], by simp [go_sem, tokv, tkv, Slc.val], N1, by simp, fun sl' h' g1 g2 => ?_⟩
      simp [go_sem]
      rw [then_step, says_ret, ep]
      have := leafs 26 0 (tk L p).x h8 rfl rfl sl' h' g1 (by rw [← htk]; exact g2)
      simpa [go_sem] using this
    | true =>
      rw [if_pos c4] at hr
      simp only [Option.map_eq_some_iff] at hr
      obtain ⟨⟨ts, q0⟩, h1, he⟩ := hr
      cases he
      rw [then_step, th_ite, if_neg (by simp [go_sem])]
      rw [then_step, th_ite, if_pos (by simp [go_sem, htk, k1])]
      rw [then_step, th_call, if_pos (by rfl), s_ctA]
      refine ⟨m, by omega, sl, L, pPass L p, pPass L r, ts, q0, by simp [go_sem, rv, (hq h8).1, (hq h8).2.1, (hq h8).2.2], is_good c4, R.pass.le hl1, h1, fun s k l r' g1 g2 g3 g4 g5 => ?_⟩
      have AA := (advE lw m).2.2.2.2.2 _ _ _ _ _ h1
      have As := adv_shut lw [41] q0
      have hq0 := AA.v ((adv_open lw [40] _).v (A1.v hpa))
      simp [go_sem, rv]
      rw [then_step, th_call, if_pos (by rfl), s_ctNode06]
      refine ⟨27, tk L r, (tk L r).x, 0, s, l, by simp [go_sem, tokv, tkv], g2, by split at g3 <;> omega, fun sl' h' e1 e2 => ?_⟩
      simp [go_sem]
      rw [then_step, says_ret, ep]
      refine hφ sl' h' _ r' (hle_trans hl1 (hle_trans g1 e1)) e2 (by simp) (len_good hb (adv_len As ?_)) (fun hq => ?_) g5
      · simp only [List.length_cons]; omega
      · rw [nods_nd, htk, g4 (bad_back As hq)]
  rw [if_neg k1] at hr
  rw [then_step, th_call, if_neg (by simp [go_sem, htk, k1])]
  simp [go_sem]
  rw [then_step, th_ite, if_neg (by simp [go_sem, htk, k1])]
  rw [then_step, th_ite, if_neg (by simp [go_sem, htk, k1])]
  rw [then_step, th_call, if_pos (by rfl), s_ctRIs]
  refine ⟨sl, L, r, [40], by simp [go_sem, rv], W1, ?_⟩
  simp [go_sem]
  rw [R.k.is]
  cases c5 : pIs L [40] p with
  | true =>
    rw [if_pos c5] at hr
    simp only [Option.map_eq_some_iff] at hr
    obtain ⟨⟨y, q0⟩, h1, he⟩ := hr
    cases he
    have Ao := adv_open lw [40] p
    have AE := (advE lw m).1 _ _ _ _ h1
    have As := adv_shut lw [41] q0
    have RO := (R.opens [40]).le hl1
    rw [then_step, th_ite, if_pos (by simp [go_sem])]
    rw [then_step, th_call, if_pos (by rfl), s_ctROpens]
    refine ⟨sl, L, r, [40], by simp [go_sem, rv], W1, ?_⟩
    simp [go_sem, rv]
    rw [then_step, th_call, if_pos (by rfl), s_ctE]
    refine ⟨m, by omega, sl, L, _, _, y, q0, 1, by simp [go_sem, rv], by omega, by omega, RO, h1, fun s3 k3 l3 r3 g1 g2 g3 g4 g5 g6 => ?_⟩
    have hol := open_len lw hb AE (by omega) g4
    have RE := RO.next AE g6 g1 (Nat.le_refl _)
    simp [go_sem, rv]
    rw [then_step, th_call, if_pos (by rfl), s_ctRShuts]
    refine ⟨sl, L, r3, [41], by simp [go_sem, rv], RE.W, ?_⟩
    simp [go_sem, rv]
    rw [then_step, says_ret, ep]
    exact hφ s3 k3 l3 (pShut L [41] r3) (hle_trans hl1 g1) g2 g3 (len_good hb (adv_len As (by omega))) (fun hq => g5 (bad_back As hq)) (g6.shut [41])
  | false =>
  rw [if_neg (by rw [c5]; decide)] at hr
  rw [then_step, th_ite, if_neg (by simp [go_sem])]
  rw [then_step, th_call, if_pos (by rfl), s_ctRIs]
  refine ⟨sl, L, r, wMake, by simp [go_sem, rv, wMake], W1, ?_⟩
  simp [go_sem]
  rw [R.k.is]
  cases c6 : pIs L wMake p with
  | false =>
    rw [if_neg (by rw [c6]; decide)] at hr
    cases hr
    rw [then_step, th_call, if_neg (by simp [go_sem])]
    simp [go_sem]
    rw [then_step, th_ite, if_neg (by simp [go_sem])]
    rw [then_step, th_call, if_pos (by rfl), s_ctRIs]
    refine ⟨sl, L, r, wMake, by simp [go_sem, rv, wMake], W1, ?_⟩
    simp [go_sem]
    rw [R.k.is, c6]
    rw [then_step, th_ite, if_neg (by simp [go_sem])]
    rw [then_step, th_mk]
    intro ob hob
    have hob' : (h.set nb ⟨[], ND⟩) ob = none := hob
    have hl2 := hle_set hob' ⟨(⟨25, 0, 0, 0, 0, []⟩ : Nod).cs, ND⟩
    simp [go_sem]
    rw [then_step, th_call, if_pos (by rfl), s_ctRFail]
    refine ⟨sl, L, r, 5, by simp [go_sem, rv], W1.le hl2, ?_⟩
    simp [go_sem, rv]
    rw [then_step, says_ret, ep]
    have hbf := bad_fail (L := L) (e := 5) (by decide) p
    have haf := (adv_fail (L := L) 5 p).a
    exact hφ ⟨some (ob, 0), 1, 1⟩ _ [⟨25, 0, 0, 0, 0, []⟩] (pFail L 5 r) (hle_trans hl1 hl2) (own_one ⟨25, 0, 0, 0, 0, []⟩) (by simp) (by rw [hbf, hb]; simp; omega) (fun h => by rw [hbf] at h; cases h) (R.k.fail 5)
  | true =>
  have h8 := is_not8 c6
  have hpa1 := good_pass h8
  have hbp : (pPass L p).bad = false := by rw [show (pPass L p).bad = p.bad from bad_f (pass_f p)]; exact hb
  rw [if_pos c6] at hr
  simp only [Option.bind_eq_some_iff] at hr
  obtain ⟨⟨kt, kq⟩, h1, h2⟩ := hr
  rw [then_step, th_call, if_pos (by simp [go_sem]), s_ctRIs]
  refine ⟨sl, L, pPass L r, [91], by simp [go_sem, rv, (hq h8).1, (hq h8).2.1, (hq h8).2.2], (R.pass.le hl1).W, ?_⟩
  simp [go_sem]
  rw [R.k.pass.is]
  cases c7 : pIs L [91] (pPass L p) with
  | true =>
    have hph : pHead L p = pPass L p := by unfold pHead; rw [c7]; simp
    rw [hph] at h1
    have h20 : kt.k = 20 := by
      cases m with
      | zero => cases h1
      | succ m =>
        rw [kind_list c7] at h1
        simp only [Option.map_eq_some_iff] at h1
        obtain ⟨x, _, he⟩ := h1
        cases he; rfl
    rw [if_pos h20] at h2
    simp only [Option.map_eq_some_iff] at h2
    obtain ⟨⟨y, q0⟩, h3, he⟩ := h2
    cases he
    have Ak := adv_kind lw m _ h1
    have RP := (R.pass.le hl1).less (m := m) (by omega)
    rw [then_step, th_ite, if_pos (by simp [go_sem])]
    rw [then_step, th_call, if_pos (by rfl), s_ctK]
    refine ⟨sl, L, pPass L p, pPass L r, kt, kq, by simp [go_sem, rv, (hq h8).1, (hq h8).2.1, (hq h8).2.2], RP, h1, fun s2 k2 l2 r2 g1 g2 g3 g4 g5 g6 => ?_⟩
    have RK : LR k2 sl L kq r2 (m + 1) := (R.pass.le hl1).next Ak g6 g1 (Nat.le_refl _)
    have Ao := adv_open lw [40] kq
    have AE := (advE lw m).1 _ _ _ _ h3
    have As := adv_shut lw [41] q0
    have RO := RK.opens [40]
    have hkq := Ak.v (A1.v hpa)
    simp [go_sem, rv]
    rw [then_step, th_call, if_pos (by rfl), s_ctROpens]
    refine ⟨sl, L, r2, [40], by simp [go_sem, rv], RK.W, ?_⟩
    simp [go_sem, rv]
    rw [then_step, th_call, if_pos (by rfl), s_ctE]
    refine ⟨m, by omega, sl, L, _, _, y, q0, 1, by simp [go_sem, rv], by omega, by omega, RO, h3, fun s3 k3 l3 r3 f1 f2 f3 f4 f5 f6 => ?_⟩
    have RE := RO.next AE f6 f1 (Nat.le_refl _)
    have hq0 := AE.v (Ao.v hkq)
    have hle2 := len_any (m := 2) (by omega) g4 (by omega)
    have hle3 := len_any (m := 3) (by omega) f4 (by omega)
    have hoa1 := Ao.a
    simp [go_sem, rv]
    rw [then_step, th_call, if_pos (by rfl), s_ctJoin06]
    refine ⟨s2, s3, l2, l3, by simp [go_sem], g2.le f1, f2, by omega, g3, fun s4 k4 e1 e2 => ?_⟩
    simp [go_sem]
    rw [then_step, th_call, if_pos (by rfl), s_ctNode06]
    refine ⟨32, tk L r, [], 0, s4, l2 ++ l3, by simp [go_sem, tokv, tkv], e2, by simp; omega, fun s5 k5 d1 d2 => ?_⟩
    simp [go_sem]
    rw [then_step, th_call, if_pos (by rfl), s_ctRShuts]
    refine ⟨sl, L, r3, [41], by simp [go_sem, rv], (RE.W.le e1).le d1, ?_⟩
    simp [go_sem, rv]
    rw [then_step, says_ret, ep]
    refine hφ s5 k5 _ (pShut L [41] r3) (hle_trans hl1 (hle_trans g1 (hle_trans f1 (hle_trans e1 d1)))) d2 (by simp) (len_good hb (adv_len As ?_)) (fun hq => ?_) (f6.shut [41])
    · have : (l2 ++ l3).length = l2.length + l3.length := by simp
      simp only [List.length_cons, this]
      rw [hbp] at g4
      cases hkb : kq.bad with
      | true =>
        have hob : (pOpen L [40] kq).bad = true := by rw [bad_f (Ao.b hkb)]; exact hkb
        have hqb : q0.bad = true := by rw [bad_f (AE.b hob)]; exact hob
        have hoa : (pOpen L [40] kq).a = kq.a := open_bad_a hkb
        rw [hkb] at g4
        rw [hob, hqb] at f4
        rw [hqb]
        simp at g4 f4 ⊢
        omega
      | false =>
        have hol := open_len lw hkb AE (by omega) f4
        rw [hkb] at g4
        simp at g4
        omega
    · have hq0 := bad_back As hq
      have hkg := bad_back (Ao.trans AE) hq0
      rw [nods_nd, htk, nodss_cons, nodss_cons, nodss_nil, List.append_nil, g5 hkg, f5 hq0]
  | false =>
    have hk : kt.k ≠ 20 ∧ kq = pWord L 2 (pPass L p) ∧ (kq.bad = false → kt = nd 19 (tk L (pPass L p)) 0 (tk L (pPass L p)).x [] ∧ kq.a = p.a + 2) := by
      cases m with
      | zero => cases h1
      | succ m =>
      by_cases hk2 : (tk L (pPass L p)).k = 2
      · have hph : pHead L p = pPass L p := by unfold pHead; rw [hk2]; rfl
        rw [hph, kind_two hbp hk2] at h1
        cases h1
        refine ⟨by simp [nd, Tr.k], (word_is hbp hk2).symm, fun _ => ⟨rfl, ?_⟩⟩
        have := good_pass (L := L) (p := pPass L p) (by omega)
        omega
      · have hph : pHead L p = pFail L 5 (pPass L p) := by unfold pHead; rw [c7]; simp [hk2]
        have hbf := bad_fail (L := L) (e := 5) (by decide) (pPass L p)
        rw [hph, pKind, if_pos hbf] at h1
        cases h1
        exact ⟨by simp [nd, Tr.k], (word_no (.inr hk2)).symm, fun h => by rw [hbf] at h; cases h⟩
    obtain ⟨n20, rfl, hkt⟩ := hk
    rw [if_neg n20] at h2
    cases h2
    have Aw := adv_word lw 2 (pPass L p)
    have Ao := adv_open lw [40] (pWord L 2 (pPass L p))
    have As := adv_shut lw [41] (pOpen L [40] (pWord L 2 (pPass L p)))
    rw [then_step, th_ite, if_neg (by simp [go_sem])]
    rw [then_step, th_call, if_pos (by rfl), s_ctRIs]
    refine ⟨sl, L, r, wMake, by simp [go_sem, rv, wMake], W1, ?_⟩
    simp [go_sem]
    rw [R.k.is, c6]
    rw [then_step, th_ite, if_pos (by simp [go_sem])]
    have RP := R.pass.le hl1
    rw [then_step, th_call, if_pos (by rfl), s_ctRfWord]
    refine ⟨sl, L, pPass L r, 2, by simp [go_sem, rv, (hq h8).1, (hq h8).2.1, (hq h8).2.2], by decide, RP.W, ?_⟩
    simp [go_sem, tokv, tkv, rv]
    have RW2 : LR (h.set nb ⟨[], ND⟩) sl L (pWord L 2 (pPass L p)) (pWord L 2 (pPass L r)) (m + 1) := RP.next Aw (R.k.pass.word 2) (hle_self _) (Nat.le_refl _)
    have RO := RW2.opens [40]
    rw [then_step, th_call, if_pos (by rfl), s_ctNode06]
    refine ⟨19, tk L (pPass L r), (tk L (pPass L r)).x, 0, _, [], by simp [go_sem, tokv, tkv, Slc.val], N1, by simp, fun s1 k1' g1 g2 => ?_⟩
    simp [go_sem]
    rw [then_step, th_call, if_pos (by rfl), s_ctNode06]
    refine ⟨32, tk L r, [], 0, s1, _, by simp [go_sem, tokv, tkv], g2, by simp, fun s2 k2 e1 e2 => ?_⟩
    simp [go_sem]
    rw [then_step, th_call, if_pos (by rfl), s_ctROpens]
    refine ⟨sl, L, _, [40], by simp [go_sem, rv], (RW2.W.le g1).le e1, ?_⟩
    simp [go_sem, rv]
    rw [then_step, th_call, if_pos (by rfl), s_ctRShuts]
    refine ⟨sl, L, _, [41], by simp [go_sem, rv], (RO.W.le g1).le e1, ?_⟩
    simp [go_sem, rv]
    rw [then_step, says_ret, ep]
    refine hφ s2 k2 _ (pShut L [41] (rOpen L [40] (pWord L 2 (pPass L r)))) (hle_trans hl1 (hle_trans g1 e1)) e2 (by simp) (len_good hb (adv_len (Ao.trans As) ?_)) (fun hq => ?_) (RO.k.shut [41])
    · have ha := Aw.a
      cases hkb : (pWord L 2 (pPass L p)).bad with
      | true => simp; omega
      | false =>
        have := (hkt hkb).2
        simp; omega
    · have hkb := bad_back (Ao.trans As) hq
      obtain ⟨e3, _⟩ := hkt hkb
      have htk2 : tk L (pPass L r) = tk L (pPass L p) := (Lk.pass (L := L) R.k).tk
      rw [e3, nods_nd, nodss_cons, nodss_nil, nods_nd, nodss_nil, htk, htk2]
      rfl
end Go.Proofs.YthlakehilhpojaaGreatDoor
namespace Go.Proofs.YthlakehilhpojaaGreatDoor
open Go.RowKit
attribute [local go_sem] says_tt says_ff th_need th_ite th_call th_callK th_load th_store says_ret says_again BE.den IE.den SE.den LE.den AE.den CE.den PE.den VE.den KV.val Got.den Got.cnt exI allI exL allL Ctx.push Ctx.heap Ctx.cut Ctx.bare Ctx.mark Inc.blank List.getD_cons_zero List.getD_cons_succ List.cons_append List.nil_append List.append_nil List.map_cons List.map_nil List.replicate_zero List.replicate_succ specOf ltB_t leB_t ltB_f leB_f slc_val slc_nil slc_inj pt_val pt_nil hle_noHeap hle_refl hread_set hwrite_set set_same set_set noHeap_at B_inj ones_nil and_assoc
def fm_rsigns : Fm := (.ite (.eqI (.x 0) (.c 1))
  (.mk [(.s (.c [124, 124]))] 9 1
  (.mk [(.i .i64 (.c 15))] 2 1
  (.ret (.tup [(.one (.sl (.x 0))), (.one (.sl (.x 1)))]))))
  (.ite (.eqI (.x 0) (.c 2))
  (.mk [(.s (.c [38, 38]))] 9 1
  (.mk [(.i .i64 (.c 14))] 2 1
  (.ret (.tup [(.one (.sl (.x 0))), (.one (.sl (.x 1)))]))))
  (.ite (.eqI (.x 0) (.c 3))
  (.mk [(.s (.c [61, 61])), (.s (.c [33, 61]))] 9 2
  (.mk [(.i .i64 (.c 6)), (.i .i64 (.c 7))] 2 2
  (.ret (.tup [(.one (.sl (.x 0))), (.one (.sl (.x 1)))]))))
  (.ite (.eqI (.x 0) (.c 4))
  (.mk [(.s (.c [60])), (.s (.c [60, 61])), (.s (.c [62])), (.s (.c [62, 61]))] 9 4
  (.mk [(.i .i64 (.c 8)), (.i .i64 (.c 9)), (.i .i64 (.c 10)), (.i .i64 (.c 11))] 2 4
  (.ret (.tup [(.one (.sl (.x 0))), (.one (.sl (.x 1)))]))))
  (.ite (.eqI (.x 0) (.c 5))
  (.mk [(.s (.c [43])), (.s (.c [45]))] 9 2
  (.mk [(.i .i64 (.c 1)), (.i .i64 (.c 2))] 2 2
  (.ret (.tup [(.one (.sl (.x 0))), (.one (.sl (.x 1)))]))))
  (.mk [(.s (.c [42])), (.s (.c [47])), (.s (.c [37]))] 9 3
  (.mk [(.i .i64 (.c 3)), (.i .i64 (.c 4)), (.i .i64 (.c 5))] 2 3
  (.ret (.tup [(.one (.sl (.x 0))), (.one (.sl (.x 1)))])))))))))
theorem gen_rsigns : genFn ⟨true, []⟩ Tryz.prog (fun l => ([] : List LAnn).getD l ⟨[], [], []⟩) Tryz.f27 = fm_rsigns := by kernel_rfl
theorem ps_rsigns : freshPs Tryz.prog .zero Tryz.f27.params.toList = some ([(.one (.i .i64 (.x 0)))], ⟨1, 0, 0, 0, 0, 0⟩) := by kernel_rfl
def sgT : Nat → List (List UInt8)
  | 1 => [[124, 124]]
  | 2 => [[38, 38]]
  | 3 => [[61, 61], [33, 61]]
  | 4 => [[60], [60, 61], [62], [62, 61]]
  | 5 => [[43], [45]]
  | _ => [[42], [47], [37]]
def sgO : Nat → List Int
  | 1 => [15]
  | 2 => [14]
  | 3 => [6, 7]
  | 4 => [8, 9, 10, 11]
  | 5 => [1, 2]
  | _ => [3, 4, 5]
/-- A slice over a whole known block. -/
def SW (h : Hp) (s : Slc) (vs : List Value) : Prop := ∃ b T, s = ⟨some (b, 0), vs.length, vs.length⟩ ∧ h b = some ⟨vs, T⟩
theorem SW.le {h k : Hp} {s : Slc} {vs : List Value} (H : SW h s vs) (hl : HLe h k) : SW k s vs := by
  obtain ⟨b, T, h1, h2⟩ := H
  exact ⟨b, T, h1, hl _ _ h2⟩
theorem SW.mk {h : Hp} {b : Nat} {T : TypeId} (vs : List Value) : SW (h.set b ⟨vs, T⟩) ⟨some (b, 0), vs.length, vs.length⟩ vs := ⟨b, T, rfl, set_same _ _ _⟩
theorem SW.read {h : Hp} {s : Slc} {vs : List Value} (H : SW h s vs) {j : Nat} {v : Value} (hv : vs[j]? = some v) : s.a.isSome = true ∧ hread h (s.a.map fun x => (x.1, x.2 + j * 1 + 0)) 1 = some [v] := by
  obtain ⟨b, T, rfl, h2⟩ := H
  have hj := (List.getElem?_eq_some_iff.1 hv).1
  refine ⟨rfl, ?_⟩
  simp only [Option.map_some, Nat.zero_add, Nat.mul_one, Nat.add_zero]
  rw [hread_of h2, if_pos (by simp only; omega), List.drop_eq_getElem_cons hj]
  have : vs[j] = v := (List.getElem?_eq_some_iff.1 hv).2
  rw [this]; rfl
def strv (l : List (List UInt8)) : List Value := l.map fun x => .string (B x)
def intv (l : List Int) : List Value := l.map fun x => .int .i64 x
set_option maxHeartbeats 4000000 in
def ctSigns06 : Ct Tryz.prog where
  f := 27
  spec := fun args h φ => ∃ lvl : Nat, args = [.int .i64 lvl] ∧ 1 ≤ lvl ∧ lvl ≤ 6 ∧ ∀ s o k, HLe h k → SW k s (strv (sgT lvl)) → SW k o (intv (sgO lvl)) → φ (.tuple #[s.val, o.val]) k
  ok := by
    rintro args h φ w ⟨lvl, rfl, h1, h6, hφ⟩ hH
    refine by_fm Tryz.func27 gen_rsigns ps_rsigns [] φ (noInv) (noMeas) ⟨[(lvl : Int)], [], [], [], [], [], h, noM⟩ ⟨rfl, rfl, rfl, rfl, rfl, rfl⟩ ones_nil ?_ w hH rfl
    generalize hE : (⟨specOf _, _, _, _⟩ : Env) = E
    have ep : E.post = φ := by rw [← hE]
    clear hE
    unfold fm_rsigns
    have fin : ∀ (ts : List Value) (os : List Value) (T U : TypeId), ts = strv (sgT lvl) → os = intv (sgO lvl) → ∀ a b, h a = none → (h.set a ⟨ts, T⟩) b = none → φ (.tuple #[(⟨some (a, 0), ts.length, ts.length⟩ : Slc).val, (⟨some (b, 0), os.length, os.length⟩ : Slc).val]) ((h.set a ⟨ts, T⟩).set b ⟨os, U⟩) := by
      intro ts os T U e1 e2 a b ha hb
      subst e1 e2
      exact hφ _ _ _ (hle_trans (hle_set ha _) (hle_set hb _)) ((SW.mk _).le (hle_set hb _)) (SW.mk _)
    match lvl, h1, h6 with
    | 1, _, _ =>
      rw [th_ite, if_pos (by simp [go_sem]), then_step, th_mk]
      intro a ha
      rw [then_step, th_mk]
      intro b hb
      rw [then_step, says_ret, ep]
      exact fin _ _ _ _ rfl rfl a b ha hb
    | 2, _, _ =>
      rw [th_ite, if_neg (by simp [go_sem]), then_step, th_ite, if_pos (by simp [go_sem]), then_step, th_mk]
      intro a ha
      rw [then_step, th_mk]
      intro b hb
      rw [then_step, says_ret, ep]
      exact fin _ _ _ _ rfl rfl a b ha hb
    | 3, _, _ =>
      rw [th_ite, if_neg (by simp [go_sem]), then_step, th_ite, if_neg (by simp [go_sem]), then_step, th_ite, if_pos (by simp [go_sem]), then_step, th_mk]
      intro a ha
      rw [then_step, th_mk]
      intro b hb
      rw [then_step, says_ret, ep]
      exact fin _ _ _ _ rfl rfl a b ha hb
    | 4, _, _ =>
      rw [th_ite, if_neg (by simp [go_sem]), then_step, th_ite, if_neg (by simp [go_sem]), then_step, th_ite, if_neg (by simp [go_sem]), then_step, th_ite, if_pos (by simp [go_sem]), then_step, th_mk]
      intro a ha
      rw [then_step, th_mk]
      intro b hb
      rw [then_step, says_ret, ep]
      exact fin _ _ _ _ rfl rfl a b ha hb
    | 5, _, _ =>
      rw [th_ite, if_neg (by simp [go_sem]), then_step, th_ite, if_neg (by simp [go_sem]), then_step, th_ite, if_neg (by simp [go_sem]), then_step, th_ite, if_neg (by simp [go_sem]), then_step, th_ite, if_pos (by simp [go_sem]), then_step, th_mk]
      intro a ha
      rw [then_step, th_mk]
      intro b hb
      rw [then_step, says_ret, ep]
      exact fin _ _ _ _ rfl rfl a b ha hb
    | 6, _, _ =>
      rw [th_ite, if_neg (by simp [go_sem]), then_step, th_ite, if_neg (by simp [go_sem]), then_step, th_ite, if_neg (by simp [go_sem]), then_step, th_ite, if_neg (by simp [go_sem]), then_step, th_ite, if_neg (by simp [go_sem]), then_step, th_mk]
      intro a ha
      rw [then_step, th_mk]
      intro b hb
      rw [then_step, says_ret, ep]
      exact fin _ _ _ _ rfl rfl a b ha hb
/-- A sign is next: it is no word. -/
theorem is_sign {L : List Tok} (H : Letters L) {s : List UInt8} {p : PS} (hp : p.a < L.length) (hs : ∀ c r, s = c :: r → ¬ (kdi c.toNat = 1 ∨ kdi c.toNat = 2)) (h : pIs L s p = true) : (tk L p).k = 7 := by
  have hx := is_text h
  unfold pIs at h
  simp only [Bool.and_eq_true, Bool.or_eq_true, beq_iff_eq] at h
  rcases h.1.2 with h6 | h7
  · obtain ⟨c, r, e1, e2⟩ := H (tk L p) (by rw [tk_at hp]; exact List.getElem_mem hp) h6
    exact absurd e2 (hs c r (hx.symm.trans e1))
  · exact h7
theorem tab_yes : ∀ lvl, lvl < 7 → 1 ≤ lvl → ∀ j, j < (sgT lvl).length → (sgO lvl)[j]? = some (if (opTab ((sgT lvl).getD j [])).2 = lvl then (opTab ((sgT lvl).getD j [])).1 else 0) ∧ (if (opTab ((sgT lvl).getD j [])).2 = lvl then (opTab ((sgT lvl).getD j [])).1 else 0) ≠ 0 ∧
    ((sgT lvl).getD j []).head?.all (fun c => decide (¬ (kdi c.toNat = 1 ∨ kdi c.toNat = 2))) = true := by decide
theorem op_yes {L : List Tok} (H : Letters L) {lvl j : Nat} {s : List UInt8} {p : PS} (hp : p.a < L.length) (h1 : 1 ≤ lvl) (h6 : lvl ≤ 6) (hj : (sgT lvl)[j]? = some s) (h : pIs L s p = true) : (sgO lvl)[j]? = some (pOp L lvl p) ∧ pOp L lvl p ≠ 0 := by
  have hlt := (List.getElem?_eq_some_iff.1 hj).1
  have hs : (sgT lvl).getD j [] = s := by rw [List.getD_eq_getElem?_getD, hj]; rfl
  obtain ⟨t1, t2, t3⟩ := tab_yes lvl (by omega) h1 j hlt
  rw [hs] at t1 t2 t3
  have hk := is_sign H hp (fun c r e => by rw [e] at t3; simpa using t3) h
  have e : pOp L lvl p = if (opTab s).2 = lvl then (opTab s).1 else 0 := by
    unfold pOp
    rw [if_neg (by simp [is_good h, hk]), is_text h]
  rw [e]
  exact ⟨t1, t2⟩
theorem tab_in {x : List UInt8} {lvl : Nat} (h1 : 1 ≤ lvl) (e : (opTab x).2 = lvl) : x ∈ sgT lvl := by
  unfold opTab at e
  by_cases c : x = [124, 124]
  · rw [if_pos c] at e; subst e; subst c; decide
  rw [if_neg c] at e; clear c
  by_cases c : x = [38, 38]
  · rw [if_pos c] at e; subst e; subst c; decide
  rw [if_neg c] at e; clear c
  by_cases c : x = [61, 61]
  · rw [if_pos c] at e; subst e; subst c; decide
  rw [if_neg c] at e; clear c
  by_cases c : x = [33, 61]
  · rw [if_pos c] at e; subst e; subst c; decide
  rw [if_neg c] at e; clear c
  by_cases c : x = [60]
  · rw [if_pos c] at e; subst e; subst c; decide
  rw [if_neg c] at e; clear c
  by_cases c : x = [60, 61]
  · rw [if_pos c] at e; subst e; subst c; decide
  rw [if_neg c] at e; clear c
  by_cases c : x = [62]
  · rw [if_pos c] at e; subst e; subst c; decide
  rw [if_neg c] at e; clear c
  by_cases c : x = [62, 61]
  · rw [if_pos c] at e; subst e; subst c; decide
  rw [if_neg c] at e; clear c
  by_cases c : x = [43]
  · rw [if_pos c] at e; subst e; subst c; decide
  rw [if_neg c] at e; clear c
  by_cases c : x = [45]
  · rw [if_pos c] at e; subst e; subst c; decide
  rw [if_neg c] at e; clear c
  by_cases c : x = [42]
  · rw [if_pos c] at e; subst e; subst c; decide
  rw [if_neg c] at e; clear c
  by_cases c : x = [47]
  · rw [if_pos c] at e; subst e; subst c; decide
  rw [if_neg c] at e; clear c
  by_cases c : x = [37]
  · rw [if_pos c] at e; subst e; subst c; decide
  rw [if_neg c] at e; clear c
  have e' : (0 : Nat) = lvl := e
  omega
theorem op_no {L : List Tok} {lvl : Nat} {p : PS} (h1 : 1 ≤ lvl) (h : ∀ (j : Nat) (s : List UInt8), (sgT lvl)[j]? = some s → pIs L s p = false) : pOp L lvl p = 0 := by
  unfold pOp
  split
  · rfl
  rename_i hc
  simp only [Bool.or_eq_true, Bool.not_eq_true', beq_eq_false_iff_ne, not_or, ne_eq, Decidable.not_not] at hc
  have hb : p.bad = false := by simpa using hc.1
  split
  · rename_i e
    obtain ⟨j, hj⟩ := List.getElem?_of_mem (tab_in h1 e)
    have := h j _ hj
    unfold pIs at this
    rw [hb, hc.2] at this
    simp at this
  · rfl
end Go.Proofs.YthlakehilhpojaaGreatDoor
namespace Go.Proofs.YthlakehilhpojaaGreatDoor
open Go.RowKit
attribute [local go_sem] says_tt says_ff th_need th_ite th_call th_callK th_load th_store says_ret says_again BE.den IE.den SE.den LE.den AE.den CE.den PE.den VE.den KV.val Got.den Got.cnt exI allI exL allL Ctx.push Ctx.heap Ctx.cut Ctx.bare Ctx.mark Inc.blank List.getD_cons_zero List.getD_cons_succ List.cons_append List.nil_append List.append_nil List.map_cons List.map_nil List.replicate_zero List.replicate_succ specOf ltB_t leB_t ltB_f leB_f slc_val slc_nil slc_inj pt_val pt_nil hle_noHeap hle_refl hread_set hwrite_set set_same set_set noHeap_at B_inj ones_nil and_assoc
def fm_rexpr : Fm := (.ite (.lt (.c 6) (.x 5))
  (.call (.c true) false 26 [(.agg [(.sl (.x 0)), (.i .i64 (.x 0)), (.i .i64 (.x 1)), (.i .i64 (.x 2)), (.i .i64 (.x 3)), (.i .i64 (.x 4))])] (.tup [(.one (.sl (.x 1))), (.agg [(.sl (.x 2)), (.i .i64 (.x 6)), (.i .i64 (.x 7)), (.i .i64 (.x 8)), (.i .i64 (.x 9)), (.i .i64 (.x 10))])]) ⟨5, 0, 0, 0, 2, 0⟩
  (.ret (.tup [(.one (.sl (.x 1))), (.agg [(.sl (.x 2)), (.i .i64 (.x 6)), (.i .i64 (.x 7)), (.i .i64 (.x 8)), (.i .i64 (.x 9)), (.i .i64 (.x 10))])])))
  (.need (.c true) (.and (.le (.c (-9223372036854775808)) (.add (.x 5) (.c 1))) (.le (.add (.x 5) (.c 1)) (.c 9223372036854775807)))
  (.call (.c true) false 13 [(.agg [(.sl (.x 0)), (.i .i64 (.x 0)), (.i .i64 (.x 1)), (.i .i64 (.x 2)), (.i .i64 (.x 3)), (.i .i64 (.x 4))]), (.one (.i .i64 (.add (.x 5) (.c 1))))] (.tup [(.one (.sl (.x 1))), (.agg [(.sl (.x 2)), (.i .i64 (.x 6)), (.i .i64 (.x 7)), (.i .i64 (.x 8)), (.i .i64 (.x 9)), (.i .i64 (.x 10))])]) ⟨5, 0, 0, 0, 2, 0⟩
  (.call (.c true) false 27 [(.one (.i .i64 (.x 5)))] (.tup [(.one (.sl (.x 3))), (.one (.sl (.x 4)))]) ⟨0, 0, 0, 0, 2, 0⟩
  (.loop 0 ⟨[(.x 6), (.x 7), (.x 8), (.x 9), (.x 10), (.c 0), (.c 0), (.c 0), (.c 0), (.c 0)], [(.c true)], [], [], [.nil, (.x 1), (.x 2), .nil], []⟩
  (.ite (.x 0)
  (.loop 1 ⟨[(.c 0), (.x 11), (.x 12), (.x 13), (.x 14), (.x 15)], [(.c false)], [], [], [(.x 6), (.x 7)], []⟩
  (.ite (.lt (.x 21) (.cnt (.x 3)))
  (.load (.not (.x 1)) (.el (.x 3) (.x 21) 1 0) 1 [(.s (.x 0))] ⟨0, 0, 1, 0, 0, 0⟩
  (.need (.not (.x 1)) (.and (.and (.le (.c 0) (.x 21)) (.lt (.x 21) (.cnt (.x 3)))) (.nns (.x 3)))
  (.call (.not (.x 1)) false 28 [(.agg [(.sl (.x 10)), (.i .i64 (.x 22)), (.i .i64 (.x 23)), (.i .i64 (.x 24)), (.i .i64 (.x 25)), (.i .i64 (.x 26))]), (.one (.s (.x 0)))] (.p (.one (.b (.x 2)))) ⟨0, 1, 0, 0, 0, 0⟩
  (.ite (.and (.not (.x 1)) (.x 2))
  (.call (.c true) false 29 [(.agg [(.sl (.x 10)), (.i .i64 (.x 22)), (.i .i64 (.x 23)), (.i .i64 (.x 24)), (.i .i64 (.x 25)), (.i .i64 (.x 26))])] (.p (.agg [(.i .u8 (.x 27)), (.i .i64 (.x 28)), (.i .i64 (.x 29)), (.i .i64 (.x 30)), (.s (.x 1))])) ⟨4, 0, 1, 0, 0, 0⟩
  (.load (.c true) (.el (.x 3) (.x 21) 1 0) 1 [(.s (.x 2))] ⟨0, 0, 1, 0, 0, 0⟩
  (.need (.c true) (.and (.and (.le (.c 0) (.x 21)) (.lt (.x 21) (.cnt (.x 3)))) (.nns (.x 3)))
  (.need (.c true) (.and (.le (.c (-9223372036854775808)) (.add (.x 5) (.c 1))) (.le (.add (.x 5) (.c 1)) (.c 9223372036854775807)))
  (.callK (.c true) [((.c true), (.el (.x 3) (.x 21) 1 0), 1)] 30 [(.agg [(.sl (.x 10)), (.i .i64 (.x 22)), (.i .i64 (.x 23)), (.i .i64 (.x 24)), (.i .i64 (.x 25)), (.i .i64 (.x 26))]), (.one (.s (.x 2)))] (.p (.agg [(.sl (.x 11)), (.i .i64 (.x 31)), (.i .i64 (.x 32)), (.i .i64 (.x 33)), (.i .i64 (.x 34)), (.i .i64 (.x 35))])) ⟨5, 0, 0, 0, 1, 0⟩
  (.callK (.c true) [((.c true), (.el (.x 3) (.x 21) 1 0), 1)] 13 [(.agg [(.sl (.x 11)), (.i .i64 (.x 31)), (.i .i64 (.x 32)), (.i .i64 (.x 33)), (.i .i64 (.x 34)), (.i .i64 (.x 35))]), (.one (.i .i64 (.add (.x 5) (.c 1))))] (.tup [(.one (.sl (.x 12))), (.agg [(.sl (.x 13)), (.i .i64 (.x 36)), (.i .i64 (.x 37)), (.i .i64 (.x 38)), (.i .i64 (.x 39)), (.i .i64 (.x 40))])]) ⟨5, 0, 0, 0, 2, 0⟩
  (.load (.c true) (.el (.x 4) (.x 21) 1 0) 1 [(.i .i64 (.x 41))] ⟨1, 0, 0, 0, 0, 0⟩
  (.need (.c true) (.and (.and (.le (.c 0) (.x 21)) (.lt (.x 21) (.cnt (.x 4)))) (.nns (.x 4)))
  (.callK (.c true) [((.c true), (.el (.x 4) (.x 21) 1 0), 1)] 32 [(.one (.sl (.x 9))), (.one (.sl (.x 12)))] (.p (.one (.sl (.x 14)))) ⟨0, 0, 0, 0, 1, 0⟩
  (.call (.c true) false 31 [(.one (.i .u8 (.c 31))), (.agg [(.i .u8 (.x 27)), (.i .i64 (.x 28)), (.i .i64 (.x 29)), (.i .i64 (.x 30)), (.s (.x 1))]), (.one (.s (.c []))), (.one (.i .i64 (.x 41))), (.one (.sl (.x 14)))] (.p (.one (.sl (.x 15)))) ⟨0, 0, 0, 0, 1, 0⟩
  (.need (.c true) (.and (.le (.c (-9223372036854775808)) (.add (.x 21) (.c 1))) (.le (.add (.x 21) (.c 1)) (.c 9223372036854775807)))
  (.again 1 ⟨21, 1, 0, 0, 9, 0⟩ ⟨27, 2, 0, 0, 11, 0⟩ ⟨[(.add (.x 21) (.c 1)), (.x 36), (.x 37), (.x 38), (.x 39), (.x 40)], [(.c true)], [], [], [(.x 15), (.x 13)], []⟩))))))))))))
  (.need (.c true) (.and (.le (.c (-9223372036854775808)) (.add (.x 21) (.c 1))) (.le (.add (.x 21) (.c 1)) (.c 9223372036854775807)))
  (.again 1 ⟨21, 1, 0, 0, 9, 0⟩ ⟨27, 2, 0, 0, 11, 0⟩ ⟨[(.add (.x 21) (.c 1)), (.x 22), (.x 23), (.x 24), (.x 25), (.x 26)], [(.x 1)], [], [], [(.x 9), (.x 10)], []⟩))))))
  (.ite (.or (.eqI (.x 5) (.c 3)) (.eqI (.x 5) (.c 4)))
  (.ret (.tup [(.one (.sl (.x 9))), (.agg [(.sl (.x 10)), (.i .i64 (.x 22)), (.i .i64 (.x 23)), (.i .i64 (.x 24)), (.i .i64 (.x 25)), (.i .i64 (.x 26))])]))
  (.again 0 ⟨11, 0, 0, 0, 5, 0⟩ ⟨21, 1, 0, 0, 9, 0⟩ ⟨[(.x 22), (.x 23), (.x 24), (.x 25), (.x 26), (.x 16), (.x 17), (.x 18), (.x 19), (.x 20)], [(.x 1)], [], [], [(.x 5), (.x 9), (.x 10), (.x 8)], []⟩))))
  (.ret (.tup [(.one (.sl (.x 6))), (.agg [(.sl (.x 7)), (.i .i64 (.x 11)), (.i .i64 (.x 12)), (.i .i64 (.x 13)), (.i .i64 (.x 14)), (.i .i64 (.x 15))])]))))))))
theorem gen_rexpr : genFn ⟨true, []⟩ Tryz.prog (fun l => ([⟨[9, 6, 4], [32, 33, 34, 35, 36, 37, 10, 38, 39, 40, 41, 42, 43, 44, 45, 46, 47, 48, 49, 11, 51, 52, 53, 54, 55, 56, 57, 58, 59, 50, 60, 61, 13, 12, 62, 63, 64, 65, 66, 67, 68, 69, 70, 71, 72, 73, 74, 75, 76, 77, 78, 79, 80], [11, 13, 2, 5]⟩, ⟨[6, 9, 35], [36, 37, 10, 38, 39, 40, 41, 42, 43, 44, 45, 46, 47, 48, 49, 11, 51, 52, 53, 54, 55, 56, 57, 58, 59, 50, 60, 61, 13, 12, 62, 63, 64, 65, 66, 67, 68, 69, 70, 71, 72], [11, 13, 2]⟩] : List LAnn).getD l ⟨[], [], []⟩) Tryz.f13 = fm_rexpr := by kernel_rfl
theorem ps_rexpr : freshPs Tryz.prog .zero Tryz.f13.params.toList = some ([(.agg [(.sl (.x 0)), (.i .i64 (.x 0)), (.i .i64 (.x 1)), (.i .i64 (.x 2)), (.i .i64 (.x 3)), (.i .i64 (.x 4))]), (.one (.i .i64 (.x 5)))], ⟨6, 0, 0, 0, 1, 0⟩) := by kernel_rfl
/-- What is to be done behind what stands there: again, or done. -/
def binLeft (L : List Tok) (n lvl : Nat) (t : Tr) (q : PS) (ag : Bool) (x : Tr) (p1 : PS) (m1 : Nat) : Prop :=
  m1 ≤ n ∧ (ag = true → pBinL L m1 lvl x p1 = some (t, q)) ∧ (ag = false → x = t ∧ p1 = q)
def exInv (h : Hp) (sl : Slc) (L : List Tok) (p : PS) (t : Tr) (q : PS) (lvl n : Nat) : Nat → Ctx → Prop
  | 0, C => ∃ i0 i1 i2 i3 i4 i6 i7 i8 i9 i10 j0 j1 j2 j3 j4 ag l1 l2 l5 l8 tx op s k l r1 p1 x m1, C = ⟨[i0, i1, i2, i3, i4, (lvl : Int), i6, i7, i8, i9, i10, (r1.a : Int), r1.d, r1.f.1, r1.f.2.1, r1.f.2.2, j0, j1, j2, j3, j4], [ag], [], [], [sl, l1, l2, tx, op, l5, s, sl, l8], [], k, noM⟩ ∧
      SW k tx (strv (sgT lvl)) ∧ SW k op (intv (sgO lvl)) ∧ Acc L sl h k p p1 r1 x s l m1 ∧ binLeft L n lvl t q ag x p1 m1
  | _ + 1, C => ∃ i0 i1 i2 i3 i4 i6 i7 i8 i9 i10 r0 j0 j1 j2 j3 j4 ag ag2 l1 l2 l5 l8 tx op s0 l7 s k l r1 p1 x m1, ∃ p0 : PS, ∃ x0 : Tr, ∃ m0 j : Nat, C = ⟨[i0, i1, i2, i3, i4, (lvl : Int), i6, i7, i8, i9, i10, ((r0 : PS).a : Int), r0.d, r0.f.1, r0.f.2.1, r0.f.2.2, j0, j1, j2, j3, j4, (j : Int), (r1.a : Int), r1.d, r1.f.1, r1.f.2.1, r1.f.2.2], [ag, ag2], [], [], [sl, l1, l2, tx, op, l5, s0, l7, l8, s, sl], [], k, noM⟩ ∧
      SW k tx (strv (sgT lvl)) ∧ SW k op (intv (sgO lvl)) ∧ Acc L sl h k p p1 r1 x s l m1 ∧ j ≤ (sgT lvl).length ∧ Lk p0 r0 ∧ p0.a < L.length ∧ pBinL L (m0 + 1) lvl x0 p0 = some (t, q) ∧ m0 ≤ n ∧
      ((ag2 = false ∧ p1 = p0 ∧ x = x0 ∧ m1 = m0 + 1 ∧ ∀ (i : Nat) (u : List UInt8), i < j → (sgT lvl)[i]? = some u → pIs L u p0 = false) ∨
       (ag2 = true ∧ m1 ≤ m0 ∧ mu L p1 + 1 ≤ mu L p0 ∧ (if lvl = 3 ∨ lvl = 4 then x = t ∧ p1 = q else pBinL L m1 lvl x p1 = some (t, q))))
def exMeas (L : List Tok) (lvl : Nat) : Nat → Ctx → Nat
  | 0, C => if C.b.getD 0 false = true then measR L.length 11 C + 1 else 0
  | _ + 1, C => (((sgT lvl).length : Int) - C.i.getD 21 0).toNat
theorem sg_len : ∀ lvl, lvl < 7 → 1 ≤ lvl → (sgO lvl).length = (sgT lvl).length := by decide
theorem sg_le (lvl : Nat) : (sgT lvl).length ≤ 4 := by unfold sgT; split <;> decide
theorem hbp_pass {L : List Tok} {p : PS} (hb : p.bad = false) : (pPass L p).bad = false := by rw [bad_f (pass_f p)]; exact hb
set_option maxHeartbeats 16000000 in
theorem bin_ok06 {n : Nat} (HB : ExprR n) (HU : UnR n) : ExprR (n + 1) := by
  rintro args h φ w ⟨m, hm, sl, L, p, r, t, q, lvl, rfl, h1l, h7l, R, hr, hφ⟩ hH
  cases m with
  | zero => cases hr
  | succ m =>
  refine by_fm Tryz.func13 gen_rexpr ps_rexpr [ctRNow, ctRIs, ctRMust, ctNode06, ctJoin06, ctSigns06, ctExprR HB, ctUnR HU] φ (exInv h sl L p t q lvl n) (exMeas L lvl) ⟨[(r.a : Int), r.d, r.f.1, r.f.2.1, r.f.2.2, (lvl : Int)], [], [], [], [sl], [], h, noM⟩ ⟨rfl, rfl, rfl, rfl, rfl, rfl⟩ ones_nil ?_ w hH rfl
  generalize hE : (⟨specOf _, _, _, _⟩ : Env) = E
  have s_ctRNow : E.spec 29 = (ctRNow).spec := by rw [← hE]; rfl
  have s_ctRIs : E.spec 28 = (ctRIs).spec := by rw [← hE]; rfl
  have s_ctRMust : E.spec 30 = (ctRMust).spec := by rw [← hE]; rfl
  have s_ctNode06 : E.spec 31 = (ctNode06).spec := by rw [← hE]; rfl
  have s_ctJoin06 : E.spec 32 = (ctJoin06).spec := by rw [← hE]; rfl
  have s_ctSigns06 : E.spec 27 = (ctSigns06).spec := by rw [← hE]; rfl
  have s_ctB : E.spec 13 = (ctExprR HB).spec := by rw [← hE]; rfl
  have s_ctU : E.spec 26 = (ctUnR HU).spec := by rw [← hE]; rfl
  have ep : E.post = φ := by rw [← hE]
  have ei : E.inv = (exInv h sl L p t q lvl n) := by rw [← hE]
  have em : E.meas = (exMeas L lvl) := by rw [← hE]
  clear hE
  unfold fm_rexpr
  rw [pBin] at hr
  have hll := R.W.len
  have lw := R.W.lw
  by_cases c6 : 6 < lvl
  · rw [if_pos c6] at hr
    rw [th_ite, if_pos (by simp [go_sem]; omega)]
    rw [then_step, th_call, if_pos (by rfl), s_ctU]
    refine ⟨m, by omega, sl, L, p, r, t, q, rfl, R.less (by omega), hr, fun s1 k l r' g1 g2 g3 g4 g5 g6 => ?_⟩
    simp [go_sem, rv]
    rw [then_step, says_ret, ep]
    exact hφ s1 k l r' g1 g2 g3 g4 g5 g6
  rw [if_neg c6] at hr
  simp only [Option.bind_eq_some_iff] at hr
  obtain ⟨⟨x, p1⟩, h1, h2⟩ := hr
  rw [th_ite, if_neg (by simp [go_sem]; omega)]
  rw [then_step, th_need]
  refine ⟨by simp [go_sem]; omega, ?_⟩
  rw [then_step, th_call, if_pos (by rfl), s_ctB]
  refine ⟨m, by omega, sl, L, p, r, x, p1, lvl + 1, by simp [go_sem, rv], by omega, by omega, R.less (by omega), h1, fun s k l r1 g1 g2 g3 g4 g5 g6 => ?_⟩
  have A1 := (advE lw m).1 _ _ _ _ h1
  simp [go_sem, rv]
  rw [then_step, th_call, if_pos (by rfl), s_ctSigns06]
  refine ⟨lvl, rfl, h1l, by omega, fun tx op k1 e1 e2 e3 => ?_⟩
  simp [go_sem]
  rw [then_step]
  refine loop_intro ?_ ?_
  · rw [ei]
    exact ⟨_, _, _, _, _, _, _, _, _, _, _, _, _, _, _, true, _, _, _, _, tx, op, s, k1, l, r1, p1, x, m, rfl, e2, e3, ⟨hle_trans g1 e1, g2.le e1, g3, g4, g5, R.next A1 g6 (hle_trans g1 e1) (by omega), A1⟩, by omega, fun _ => h2, fun h => by cases h⟩
  rw [ei, em]
  clear h1 h2 g1 g2 g3 g4 g5 g6 e1 e2 e3 A1 s k l r1 p1 x tx op k1
  rintro i' bb ss v' ll pp hh0 M ⟨i0, i1, i2, i3, i4, i6, i7, i8, i9, i10, j0, j1, j2, j3, j4, ag, l1, l2, l5, l8, tx, op, s, k, l, r1, p1, x, m1, hC, T1, T2, A, hm1, hT, hF⟩ hM
  cases hC
  cases ag with
  | false =>
    obtain ⟨rfl, rfl⟩ := hF rfl
    rw [th_ite, if_neg (by simp [go_sem])]
    rw [then_step, says_ret, ep]
    exact hφ s hh0 l r1 A.le A.row A.ne A.len A.good A.R.k
  | true =>
  have hM : M 0 = mu L p1 + 1 := hM.trans (by show (if true = true then (if r1.f.1 = 0 then ((L.length : Int) - (r1.a : Int)).toNat else 0) + 1 else 0) = _; rw [mu_lk A.R.k]; rfl)
  have hT := hT rfl
  cases m1 with
  | zero => cases hT
  | succ m0 =>
  rw [th_ite, if_pos (by simp [go_sem])]
  rw [then_step]
  refine loop_in ?_ ?_
  · rw [ei]
    exact ⟨i0, i1, i2, i3, i4, i6, i7, i8, i9, i10, r1, j0, j1, j2, j3, j4, true, false, l1, l2, l5, l8, tx, op, s, sl, s, hh0, l, r1, p1, x, m0 + 1, p1, x, m0, 0, rfl, T1, T2, A, Nat.zero_le _, A.R.k, A.R.at', hT, by omega, .inl ⟨rfl, rfl, rfl, rfl, fun i u hi => by omega⟩⟩
  rintro ⟨xi, xb, xs, xv, xl, xp⟩ h' M' hc hinv hm hMo
  rw [ei] at hinv
  rw [em] at hm
  obtain ⟨a0, a1, a2, a3, a4, a6, a7, a8, a9, a10, r0, b0, b1, b2, b3, b4, ag, ag2, c1, c2, c5, c8, tx', op', s0, l7, s', k', l', r1', p1', x', m1', p0, x0, m0', j, hC, T1', T2', A', hj, hk0, hp0, hT', hm0, hcase⟩ := hinv
  have hxc : xi.length = 6 ∧ xb.length = 1 ∧ xs = [] ∧ xv = [] ∧ xl.length = 2 ∧ xp = [] := by
    simp [Inc.cnt, Got.cnt] at hc
    simpa [List.length_eq_zero_iff] using hc
  obtain ⟨q1, q2, rfl, rfl, q3, rfl⟩ := hxc
  simp [Ctx.push, Ctx.heap, Ctx.bare] at hC
  obtain ⟨⟨rfl, rfl, rfl, rfl, rfl, rfl, rfl, rfl, rfl, rfl, ea, ed, ef1, ef2, ef3, rfl, rfl, rfl, rfl, rfl, rfl⟩, ⟨rfl, rfl⟩, ⟨rfl, rfl, rfl, rfl, rfl, rfl, rfl, rfl, rfl⟩, rfl⟩ := hC
  have hM0 : M' 0 = M 0 := hMo 0 (by decide)
  have hM1 : M' 1 = (((sgT lvl).length : Int) - j).toNat := hm
  have hmu0 : mu L p0 = mu L p1 := by rw [← mu_lk hk0, ← mu_lk A.R.k, ← ef1, ← ea]
  clear hMo hm hc q1 q2 q3 hT
  have htn : tx.n = (sgT lvl).length := by obtain ⟨b, T, e, _⟩ := T1'; rw [e]; simp [strv]
  have hon : op.n = (sgT lvl).length := by
    obtain ⟨b, T, e, _⟩ := T2'
    rw [e]
    have := sg_len lvl (by omega) h1l
    simpa [intv] using this
  simp only [List.cons_append, List.nil_append, List.append_nil]
  have hal := A'.len
  have hsg := sg_le lvl
  by_cases hjl : j < (sgT lvl).length
  · rw [th_ite, if_pos (by simp [go_sem, htn]; omega)]
    have hu : (sgT lvl)[j]? = some (sgT lvl)[j] := List.getElem?_eq_getElem hjl
    generalize (sgT lvl)[j] = u at hu
    have hrd := T1'.read (j := j) (v := .string (B u)) (by simp [strv, hu])
    cases ag2 with
    | true =>
      rw [then_step, th_load, if_neg (by simp [go_sem])]
      rw [then_step, th_need]
      refine ⟨by simp [go_sem], ?_⟩
      rw [then_step, th_call, if_neg (by simp [go_sem])]
      rw [then_step, th_ite, if_neg (by simp [go_sem])]
      rw [then_step, th_need]
      refine ⟨by simp [go_sem]; omega, ?_⟩
      rw [then_step, says_again, ei, em]
      refine ⟨⟨i0, i1, i2, i3, i4, i6, i7, i8, i9, i10, r0, j0, j1, j2, j3, j4, true, true, l1, l2, l5, l8, tx, op, s, sl, s', h', l', r1', p1', x', m1', p0, x0, m0', j + 1, by simp [go_sem, ea, ed, ef1, ef2, ef3], T1', T2', A', hjl, hk0, hp0, hT', hm0, ?_⟩, ?_⟩
      · rcases hcase with h | h
        · cases h.1
        · exact .inr h
      · show (((sgT lvl).length : Int) - ((j : Int) + 1)).toNat < M' 1
        omega
    | false =>
      obtain ⟨rfl, rfl, rfl, hno⟩ : p1' = p0 ∧ x' = x0 ∧ m1' = m0' + 1 ∧ ∀ (i : Nat) (u : List UInt8), i < j → (sgT lvl)[i]? = some u → pIs L u p0 = false := by
        rcases hcase with h | h
        · exact h.2
        · cases h.1
      rw [then_step, th_load, if_pos (by simp [go_sem])]
      refine (exI_iff _ _).2 ⟨⟨[], [], [u], [], [], []⟩, rfl, ones_nil, by simpa [go_sem] using hrd.2, ?_⟩
      rw [then_step, th_need]
      refine ⟨by simp [go_sem, htn, hrd.1]; omega, ?_⟩
      rw [then_step, th_call, if_pos (by simp [go_sem]), s_ctRIs]
      refine ⟨sl, L, r1', u, by simp [go_sem, rv], A'.R.W, ?_⟩
      simp [go_sem]
      rw [A'.R.k.is]
      cases cu : pIs L u p1' with
      | false =>
        rw [then_step, th_ite, if_neg (by simp [go_sem])]
        rw [then_step, th_need]
        refine ⟨by simp [go_sem]; omega, ?_⟩
        rw [then_step, says_again, ei, em]
        refine ⟨⟨i0, i1, i2, i3, i4, i6, i7, i8, i9, i10, r0, j0, j1, j2, j3, j4, true, false, l1, l2, l5, l8, tx, op, s, sl, s', h', l', r1', p1', x', m0' + 1, p1', x', m0', j + 1, by simp [go_sem, ea, ed, ef1, ef2, ef3], T1', T2', A', hjl, hk0, hp0, hT', hm0, .inl ⟨rfl, rfl, rfl, rfl, fun i v hi hv => ?_⟩⟩, ?_⟩
        · by_cases e : i = j
          · subst e
            rw [hu] at hv; cases hv; exact cu
          · exact hno i v (by omega) hv
        · show (((sgT lvl).length : Int) - ((j : Int) + 1)).toNat < M' 1
          omega
      | true =>
        have hb := is_good cu
        have hpb := bad_back A'.adv hb
        rw [hb] at hal
        have hal' : l'.length + p.a ≤ p1'.a := by simpa using hal
        obtain ⟨ho, ho0⟩ := op_yes R.W.let' hp0 h1l (by omega) hu cu
        have hord := T2'.read (j := j) (v := .int .i64 (pOp L lvl p1')) (by simp [intv, ho])
        rw [pBinL, if_neg ho0] at hT'
        simp only [Option.bind_eq_some_iff] at hT'
        obtain ⟨⟨y, q1⟩, h3, h4⟩ := hT'
        have Ap := adv_pass lw p1'
        have AE := (advE lw m0').1 _ _ _ _ h3
        have hpa := pass_a cu
        have hq1 := AE.v (Ap.v hp0)
        have htk := A'.R.k.tk (L := L)
        have RM := A'.R.must u
        have hmi := must_is cu
        rw [hmi] at RM
        have RM' := RM.less (m := m0') (by omega)
        rw [then_step, th_ite, if_pos (by simp [go_sem])]
        rw [then_step, th_call, if_pos (by rfl), s_ctRNow]
        refine ⟨sl, L, r1', by simp [go_sem, rv], A'.R.W, ?_⟩
        simp [go_sem, tokv, tkv]
        rw [then_step, th_load, if_pos (by simp [go_sem])]
        refine (exI_iff _ _).2 ⟨⟨[], [], [u], [], [], []⟩, rfl, ones_nil, by simpa [go_sem] using hrd.2, ?_⟩
        rw [then_step, th_need]
        refine ⟨by simp [go_sem, htn, hrd.1]; omega, ?_⟩
        rw [then_step, th_need]
        refine ⟨by simp [go_sem]; omega, ?_⟩
        rw [then_step, th_callK, if_pos (by rfl), s_ctRMust]
        refine ⟨sl, L, r1', u, by simp [go_sem, rv], A'.R.W, ?_⟩
        refine ⟨fun y hy _ => rfl, (exI_iff _ _).2 ⟨⟨[((pMust L u r1').a : Int), (pMust L u r1').d, (pMust L u r1').f.1, (pMust L u r1').f.2.1, (pMust L u r1').f.2.2], [], [], [], [sl], []⟩, rfl, ones_nil, by simp [go_sem, rv], ?_⟩⟩
        rw [then_step, th_callK, if_pos (by rfl), s_ctB]
        refine ⟨m0', by omega, sl, L, pPass L p1', pMust L u r1', y, q1, lvl + 1, by simp [go_sem, rv], by omega, by omega, RM', h3, fun s3 k3 l3 r3 g1 g2 g3 g4 g5 g6 => ?_⟩
        have RE := RM'.next AE g6 g1 (Nat.le_refl _)
        have hle3 : l3.length + (pPass L p1').a ≤ q1.a + 3 := len_any (by omega) g4 (by omega)
        refine ⟨fun y hy _ => ?_, (exI_iff _ _).2 ⟨⟨[(r3.a : Int), r3.d, r3.f.1, r3.f.2.1, r3.f.2.2], [], [], [], [s3, sl], []⟩, rfl, ones_nil, by simp [go_sem, rv], ?_⟩⟩
        · rw [List.mem_singleton] at hy; subst hy
          have q2 := hread_le g1 hrd.2
          simp [go_sem] at q2 ⊢
          rw [q2]
          simpa using hrd.2.symm
        have hord3 := (T2'.le g1).read (j := j) (v := .int .i64 (pOp L lvl p1')) (by simp [intv, ho])
        rw [then_step, th_load, if_pos (by rfl)]
        refine (exI_iff _ _).2 ⟨⟨[pOp L lvl p1'], [], [], [], [], []⟩, rfl, ones_nil, by simpa [go_sem] using hord3.2, ?_⟩
        rw [then_step, th_need]
        refine ⟨by simp [go_sem, hon, hord3.1]; omega, ?_⟩
        rw [then_step, th_callK, if_pos (by rfl), s_ctJoin06]
        refine ⟨s', s3, l', l3, by simp [go_sem], A'.row.le g1, g2, by omega, A'.ne, fun s4 k4 e1 e2 => ?_⟩
        refine ⟨fun y hy _ => ?_, (exI_iff _ _).2 ⟨⟨[], [], [], [], [s4], []⟩, rfl, ones_nil, by simp [go_sem], ?_⟩⟩
        · rw [List.mem_singleton] at hy; subst hy
          have q2 := hread_le e1 hord3.2
          simp [go_sem] at q2 ⊢
          rw [q2]
          simpa using hord3.2.symm
        rw [then_step, th_call, if_pos (by rfl), s_ctNode06]
        refine ⟨31, tk L r1', [], pOp L lvl p1', s4, l' ++ l3, by simp [go_sem, tokv, tkv], e2, by simp; omega, fun s5 k5 d1 d2 => ?_⟩
        simp [go_sem]
        rw [then_step, th_need]
        refine ⟨by simp [go_sem]; omega, ?_⟩
        have hkk := hle_trans g1 (hle_trans e1 d1)
        have m1 := mu_lt (went_is cu) hb hp0
        have m2 := mu_le AE
        rw [then_step, says_again, ei, em]
        refine ⟨⟨i0, i1, i2, i3, i4, i6, i7, i8, i9, i10, r0, j0, j1, j2, j3, j4, true, true, l1, l2, l5, l8, tx, op, s, sl, s5, k5, _, r3, q1, nd 31 (tk L p1') (pOp L lvl p1') [] [x', y], m0', p1', x', m0', j + 1, by simp [go_sem, ea, ed, ef1, ef2, ef3], T1'.le hkk, T2'.le hkk, ⟨hle_trans A'.le hkk, d2, by simp, len_good hpb ?_, fun hq => ?_, (RE.le e1).le d1, (A'.adv.trans (Ap.trans AE)).of (by omega)⟩, hjl, hk0, hp0, ?_, hm0, .inr ⟨rfl, Nat.le_refl _, by omega, ?_⟩⟩, ?_⟩
        · have : (l' ++ l3).length = l'.length + l3.length := by simp
          simp only [List.length_cons, this]
          rw [hbp_pass hb] at g4
          cases hqb : q1.bad with
          | true => simp; omega
          | false =>
            rw [hqb] at g4
            simp at g4 ⊢
            omega
        · rw [nods_nd, htk, nodss_cons, nodss_cons, nodss_nil, List.append_nil, A'.good hb, g5 hq]
        · rw [pBinL, if_neg ho0, h3]; exact h4
        · by_cases c34 : lvl = 3 ∨ lvl = 4
          · rw [if_pos c34] at h4 ⊢
            cases h4
            exact ⟨rfl, rfl⟩
          · rw [if_neg c34] at h4 ⊢
            exact h4
        · show (((sgT lvl).length : Int) - ((j : Int) + 1)).toNat < M' 1
          omega
  · obtain rfl : j = (sgT lvl).length := by omega
    rw [th_ite, if_neg (by simp [go_sem, htn])]
    have hend : (lvl = 3 ∨ lvl = 4) → x' = t ∧ p1' = q := by
      intro c34
      rcases hcase with ⟨rfl, rfl, rfl, rfl, hno⟩ | ⟨rfl, _, _, hh⟩
      · have h0 := op_no h1l (fun i v hv => hno i v (List.getElem?_eq_some_iff.1 hv).1 hv)
        rw [pBinL, if_pos h0] at hT'
        cases hT'; exact ⟨rfl, rfl⟩
      · rw [if_pos c34] at hh; exact hh
    by_cases c34 : lvl = 3 ∨ lvl = 4
    · obtain ⟨rfl, rfl⟩ := hend c34
      rw [then_step, th_ite, if_pos (by simp [go_sem]; omega)]
      rw [then_step, says_ret, ep]
      exact hφ s' h' l' r1' A'.le A'.row A'.ne A'.len A'.good A'.R.k
    · rw [then_step, th_ite, if_neg (by simp [go_sem]; omega)]
      rw [then_step, says_again, ei, em]
      rcases hcase with ⟨rfl, rfl, rfl, rfl, hno⟩ | ⟨rfl, hm1', hmu, hh⟩
      · have h0 := op_no h1l (fun i v hv => hno i v (List.getElem?_eq_some_iff.1 hv).1 hv)
        rw [pBinL, if_pos h0] at hT'
        cases hT'
        refine ⟨⟨i0, i1, i2, i3, i4, i6, i7, i8, i9, i10, j0, j1, j2, j3, j4, false, l1, l2, l5, l8, tx, op, s', h', l', r1', _, _, 0, by simp [go_sem], T1', T2', ⟨A'.le, A'.row, A'.ne, A'.len, A'.good, A'.R.less (Nat.zero_le _), A'.adv⟩, Nat.zero_le _, fun h => (by cases h), fun _ => ⟨rfl, rfl⟩⟩, ?_⟩
        show (0 : Nat) < M' 0
        omega
      · rw [if_neg c34] at hh
        refine ⟨⟨i0, i1, i2, i3, i4, i6, i7, i8, i9, i10, j0, j1, j2, j3, j4, true, l1, l2, l5, l8, tx, op, s', h', l', r1', p1', x', m1', by simp [go_sem], T1', T2', A', by omega, fun _ => hh, fun h => (by cases h)⟩, ?_⟩
        show (if r1'.f.1 = 0 then ((L.length : Int) - (r1'.a : Int)).toNat else 0) + 1 < M' 0
        rw [mu_lk A'.R.k]
        omega
theorem ex_ok06 : ∀ n, ExprR n ∧ UnR n ∧ AtomR n
  | 0 => by
    refine ⟨?_, ?_, ?_⟩
    · rintro args h φ w ⟨m, hm, sl, L, p, r, t, q, lvl, rfl, _, _, _, hr, _⟩ hH
      obtain rfl : m = 0 := by omega
      cases hr
    · rintro args h φ w ⟨m, hm, sl, L, p, r, t, q, rfl, _, hr, _⟩ hH
      obtain rfl : m = 0 := by omega
      cases hr
    · rintro args h φ w ⟨m, hm, sl, L, p, r, t, q, rfl, _, hr, _⟩ hH
      obtain rfl : m = 0 := by omega
      cases hr
  | n + 1 => by
    obtain ⟨HB, HU, HA⟩ := ex_ok06 n
    exact ⟨bin_ok06 HB HU, un_ok06 HU (post_ok06 HB HA), atom_ok06 HB (args_ok06 HB)⟩
end Go.Proofs.YthlakehilhpojaaGreatDoor
namespace Go.Proofs.YthlakehilhpojaaGreatDoor
open Go.RowKit
attribute [local go_sem] says_tt says_ff th_need th_ite th_call th_callK th_load th_store says_ret says_again BE.den IE.den SE.den LE.den AE.den CE.den PE.den VE.den KV.val Got.den Got.cnt exI allI exL allL Ctx.push Ctx.heap Ctx.cut Ctx.bare Ctx.mark Inc.blank List.getD_cons_zero List.getD_cons_succ List.cons_append List.nil_append List.append_nil List.map_cons List.map_nil List.replicate_zero List.replicate_succ specOf ltB_t leB_t ltB_f leB_f slc_val slc_nil slc_inj pt_val pt_nil hle_noHeap hle_refl hread_set hwrite_set set_same set_set noHeap_at B_inj ones_nil and_assoc
def fm_rvalue : Fm := (.ite (.and (.le (.c 48) (.x 0)) (.le (.x 0) (.c 57)))
  (.need (.c true) (.and (.le (.c (-9223372036854775808)) (.sub (.wr .i64 (.x 0)) (.c 48))) (.le (.sub (.wr .i64 (.x 0)) (.c 48)) (.c 9223372036854775807)))
  (.ret (.p (.one (.i .i64 (.sub (.wr .i64 (.x 0)) (.c 48)))))))
  (.ite (.and (.le (.c 97) (.x 0)) (.le (.x 0) (.c 102)))
  (.need (.c true) (.and (.le (.c (-9223372036854775808)) (.sub (.wr .i64 (.x 0)) (.c 87))) (.le (.sub (.wr .i64 (.x 0)) (.c 87)) (.c 9223372036854775807)))
  (.ret (.p (.one (.i .i64 (.sub (.wr .i64 (.x 0)) (.c 87)))))))
  (.ite (.and (.le (.c 65) (.x 0)) (.le (.x 0) (.c 70)))
  (.need (.c true) (.and (.le (.c (-9223372036854775808)) (.sub (.wr .i64 (.x 0)) (.c 55))) (.le (.sub (.wr .i64 (.x 0)) (.c 55)) (.c 9223372036854775807)))
  (.ret (.p (.one (.i .i64 (.sub (.wr .i64 (.x 0)) (.c 55)))))))
  (.ret (.p (.one (.i .i64 (.c (-1)))))))))
theorem gen_rvalue : genFn ⟨true, []⟩ Tryz.prog (fun l => ([] : List LAnn).getD l ⟨[], [], []⟩) Tryz.f82 = fm_rvalue := by kernel_rfl
theorem ps_rvalue : freshPs Tryz.prog .zero Tryz.f82.params.toList = some ([(.one (.i .u8 (.x 0)))], ⟨1, 0, 0, 0, 0, 0⟩) := by kernel_rfl
def fm_rread : Fm := (.need (.not (.eqI (.len (.x 0)) (.c 0))) (.and (.le (.c 0) (.c 0)) (.lt (.c 0) (.len (.x 0))))
  (.ite (.or (.eqI (.len (.x 0)) (.c 0)) (.not (.eqI (.at (.x 0) (.c 0)) (.c 34))))
  (.ret (.tup [(.one (.s (.c []))), (.one (.i .i64 (.c 0))), (.one (.b (.c false)))]))
  (.mk [] 5 0
  (.loop 0 ⟨[(.c 0), (.c 1)], [(.c false)], [(.c [])], [], [(.x 0)], []⟩
  (.ite (.lt (.x 1) (.len (.x 0)))
  (.need (.c true) (.and (.le (.c 0) (.x 1)) (.lt (.x 1) (.len (.x 0))))
  (.ite (.or (.lt (.at (.x 0) (.x 1)) (.c 32)) (.lt (.c 126) (.at (.x 0) (.x 1))))
  (.ret (.tup [(.one (.s (.c []))), (.one (.i .i64 (.x 1))), (.one (.b (.c false)))]))
  (.ite (.eqI (.at (.x 0) (.x 1)) (.c 34))
  (.str (.x 1)
  (.need (.c true) (.and (.le (.c (-9223372036854775808)) (.add (.x 1) (.c 1))) (.le (.add (.x 1) (.c 1)) (.c 9223372036854775807)))
  (.ret (.tup [(.one (.s (.x 2))), (.one (.i .i64 (.add (.x 1) (.c 1)))), (.one (.b (.c true)))]))))
  (.ite (.not (.eqI (.at (.x 0) (.x 1)) (.c 92)))
  (.mk [(.i .u8 (.at (.x 0) (.x 1)))] 5 1
  (.app (.x 1) (.x 2) 1 1 5
  (.need (.c true) (.and (.le (.c (-9223372036854775808)) (.add (.x 1) (.c 1))) (.le (.add (.x 1) (.c 1)) (.c 9223372036854775807)))
  (.again 0 ⟨0, 0, 1, 0, 1, 0⟩ ⟨2, 1, 2, 0, 2, 0⟩ ⟨[(.x 0), (.add (.x 1) (.c 1))], [(.x 0)], [(.x 1)], [], [(.x 3)], []⟩))))
  (.need (.c true) (.and (.le (.c (-9223372036854775808)) (.add (.x 1) (.c 1))) (.le (.add (.x 1) (.c 1)) (.c 9223372036854775807)))
  (.ite (.le (.len (.x 0)) (.add (.x 1) (.c 1)))
  (.ret (.tup [(.one (.s (.c []))), (.one (.i .i64 (.add (.x 1) (.c 1)))), (.one (.b (.c false)))]))
  (.need (.c true) (.and (.le (.c 0) (.add (.x 1) (.c 1))) (.lt (.add (.x 1) (.c 1)) (.len (.x 0))))
  (.ite (.eqI (.at (.x 0) (.add (.x 1) (.c 1))) (.c 34))
  (.ite (.eqI (.at (.x 0) (.add (.x 1) (.c 1))) (.c 34))
  (.need (.c true) (.and (.le (.c 0) (.add (.x 1) (.c 1))) (.lt (.add (.x 1) (.c 1)) (.len (.x 0))))
  (.mk [(.i .u8 (.at (.x 0) (.add (.x 1) (.c 1))))] 5 1
  (.app (.x 1) (.x 2) 1 1 5
  (.need (.c true) (.and (.le (.c (-9223372036854775808)) (.add (.add (.x 1) (.c 1)) (.c 1))) (.le (.add (.add (.x 1) (.c 1)) (.c 1)) (.c 9223372036854775807)))
  (.again 0 ⟨0, 0, 1, 0, 1, 0⟩ ⟨2, 1, 2, 0, 2, 0⟩ ⟨[(.x 0), (.add (.add (.x 1) (.c 1)) (.c 1))], [(.x 0)], [(.x 1)], [], [(.x 3)], []⟩)))))
  (.ite (.eqI (.at (.x 0) (.add (.x 1) (.c 1))) (.c 110))
  (.mk [(.i .u8 (.c 10))] 5 1
  (.app (.x 1) (.x 2) 1 1 5
  (.need (.c true) (.and (.le (.c (-9223372036854775808)) (.add (.add (.x 1) (.c 1)) (.c 1))) (.le (.add (.add (.x 1) (.c 1)) (.c 1)) (.c 9223372036854775807)))
  (.again 0 ⟨0, 0, 1, 0, 1, 0⟩ ⟨2, 1, 2, 0, 2, 0⟩ ⟨[(.x 0), (.add (.add (.x 1) (.c 1)) (.c 1))], [(.x 0)], [(.x 1)], [], [(.x 3)], []⟩))))
  (.ite (.eqI (.at (.x 0) (.add (.x 1) (.c 1))) (.c 116))
  (.mk [(.i .u8 (.c 9))] 5 1
  (.app (.x 1) (.x 2) 1 1 5
  (.need (.c true) (.and (.le (.c (-9223372036854775808)) (.add (.add (.x 1) (.c 1)) (.c 1))) (.le (.add (.add (.x 1) (.c 1)) (.c 1)) (.c 9223372036854775807)))
  (.again 0 ⟨0, 0, 1, 0, 1, 0⟩ ⟨2, 1, 2, 0, 2, 0⟩ ⟨[(.x 0), (.add (.add (.x 1) (.c 1)) (.c 1))], [(.x 0)], [(.x 1)], [], [(.x 3)], []⟩))))
  (.ite (.eqI (.at (.x 0) (.add (.x 1) (.c 1))) (.c 120))
  (.loop 1 ⟨[(.x 0), (.c 1)], [(.x 0)], [(.x 1)], [], [], []⟩
  (.ite (.le (.x 3) (.c 2))
  (.need (.c true) (.and (.le (.c (-9223372036854775808)) (.add (.add (.x 1) (.c 1)) (.x 3))) (.le (.add (.add (.x 1) (.c 1)) (.x 3)) (.c 9223372036854775807)))
  (.need (.not (.le (.len (.x 0)) (.add (.add (.x 1) (.c 1)) (.x 3)))) (.and (.le (.c (-9223372036854775808)) (.add (.add (.x 1) (.c 1)) (.x 3))) (.le (.add (.add (.x 1) (.c 1)) (.x 3)) (.c 9223372036854775807)))
  (.need (.not (.le (.len (.x 0)) (.add (.add (.x 1) (.c 1)) (.x 3)))) (.and (.le (.c 0) (.add (.add (.x 1) (.c 1)) (.x 3))) (.lt (.add (.add (.x 1) (.c 1)) (.x 3)) (.len (.x 0))))
  (.call (.not (.le (.len (.x 0)) (.add (.add (.x 1) (.c 1)) (.x 3)))) false 82 [(.one (.i .u8 (.at (.x 0) (.add (.add (.x 1) (.c 1)) (.x 3)))))] (.p (.one (.i .i64 (.x 4)))) ⟨1, 0, 0, 0, 0, 0⟩
  (.ite (.or (.le (.len (.x 0)) (.add (.add (.x 1) (.c 1)) (.x 3))) (.lt (.x 4) (.c 0)))
  (.need (.c true) (.and (.le (.c (-9223372036854775808)) (.add (.add (.x 1) (.c 1)) (.x 3))) (.le (.add (.add (.x 1) (.c 1)) (.x 3)) (.c 9223372036854775807)))
  (.ret (.tup [(.one (.s (.c []))), (.one (.i .i64 (.add (.add (.x 1) (.c 1)) (.x 3)))), (.one (.b (.c false)))])))
  (.need (.c true) (.and (.le (.c (-9223372036854775808)) (.add (.x 3) (.c 1))) (.le (.add (.x 3) (.c 1)) (.c 9223372036854775807)))
  (.again 1 ⟨2, 1, 2, 0, 2, 0⟩ ⟨4, 2, 3, 0, 2, 0⟩ ⟨[(.x 2), (.add (.x 3) (.c 1))], [(.x 1)], [(.x 2)], [], [], []⟩)))))))
  (.need (.c true) (.and (.le (.c (-9223372036854775808)) (.add (.add (.x 1) (.c 1)) (.c 1))) (.le (.add (.add (.x 1) (.c 1)) (.c 1)) (.c 9223372036854775807)))
  (.need (.c true) (.and (.le (.c 0) (.add (.add (.x 1) (.c 1)) (.c 1))) (.lt (.add (.add (.x 1) (.c 1)) (.c 1)) (.len (.x 0))))
  (.need (.c true) (.and (.le (.c (-9223372036854775808)) (.add (.add (.x 1) (.c 1)) (.c 2))) (.le (.add (.add (.x 1) (.c 1)) (.c 2)) (.c 9223372036854775807)))
  (.need (.c true) (.and (.le (.c 0) (.add (.add (.x 1) (.c 1)) (.c 2))) (.lt (.add (.add (.x 1) (.c 1)) (.c 2)) (.len (.x 0))))
  (.call (.c true) false 82 [(.one (.i .u8 (.at (.x 0) (.add (.add (.x 1) (.c 1)) (.c 1)))))] (.p (.one (.i .i64 (.x 4)))) ⟨1, 0, 0, 0, 0, 0⟩
  (.need (.c true) (.and (.le (.c (-9223372036854775808)) (.mul (.x 4) (.c 16))) (.le (.mul (.x 4) (.c 16)) (.c 9223372036854775807)))
  (.call (.c true) false 82 [(.one (.i .u8 (.at (.x 0) (.add (.add (.x 1) (.c 1)) (.c 2)))))] (.p (.one (.i .i64 (.x 5)))) ⟨1, 0, 0, 0, 0, 0⟩
  (.need (.c true) (.and (.le (.c (-9223372036854775808)) (.add (.mul (.x 4) (.c 16)) (.x 5))) (.le (.add (.mul (.x 4) (.c 16)) (.x 5)) (.c 9223372036854775807)))
  (.mk [(.i .u8 (.wr .u8 (.add (.mul (.x 4) (.c 16)) (.x 5))))] 5 1
  (.app (.x 1) (.x 2) 1 1 5
  (.need (.c true) (.and (.le (.c (-9223372036854775808)) (.add (.add (.x 1) (.c 1)) (.c 2))) (.le (.add (.add (.x 1) (.c 1)) (.c 2)) (.c 9223372036854775807)))
  (.need (.c true) (.and (.le (.c (-9223372036854775808)) (.add (.add (.add (.x 1) (.c 1)) (.c 2)) (.c 1))) (.le (.add (.add (.add (.x 1) (.c 1)) (.c 2)) (.c 1)) (.c 9223372036854775807)))
  (.again 0 ⟨0, 0, 1, 0, 1, 0⟩ ⟨2, 1, 2, 0, 2, 0⟩ ⟨[(.x 2), (.add (.add (.add (.x 1) (.c 1)) (.c 2)) (.c 1))], [(.x 1)], [(.x 2)], [], [(.x 3)], []⟩)))))))))))))))
  (.ret (.tup [(.one (.s (.c []))), (.one (.i .i64 (.add (.x 1) (.c 1)))), (.one (.b (.c false)))]))))))
  (.ite (.eqI (.at (.x 0) (.add (.x 1) (.c 1))) (.c 92))
  (.need (.c true) (.and (.le (.c 0) (.add (.x 1) (.c 1))) (.lt (.add (.x 1) (.c 1)) (.len (.x 0))))
  (.mk [(.i .u8 (.at (.x 0) (.add (.x 1) (.c 1))))] 5 1
  (.app (.x 1) (.x 2) 1 1 5
  (.need (.c true) (.and (.le (.c (-9223372036854775808)) (.add (.add (.x 1) (.c 1)) (.c 1))) (.le (.add (.add (.x 1) (.c 1)) (.c 1)) (.c 9223372036854775807)))
  (.again 0 ⟨0, 0, 1, 0, 1, 0⟩ ⟨2, 1, 2, 0, 2, 0⟩ ⟨[(.x 0), (.add (.add (.x 1) (.c 1)) (.c 1))], [(.x 0)], [(.x 1)], [], [(.x 3)], []⟩)))))
  (.ite (.eqI (.at (.x 0) (.add (.x 1) (.c 1))) (.c 110))
  (.mk [(.i .u8 (.c 10))] 5 1
  (.app (.x 1) (.x 2) 1 1 5
  (.need (.c true) (.and (.le (.c (-9223372036854775808)) (.add (.add (.x 1) (.c 1)) (.c 1))) (.le (.add (.add (.x 1) (.c 1)) (.c 1)) (.c 9223372036854775807)))
  (.again 0 ⟨0, 0, 1, 0, 1, 0⟩ ⟨2, 1, 2, 0, 2, 0⟩ ⟨[(.x 0), (.add (.add (.x 1) (.c 1)) (.c 1))], [(.x 0)], [(.x 1)], [], [(.x 3)], []⟩))))
  (.ite (.eqI (.at (.x 0) (.add (.x 1) (.c 1))) (.c 116))
  (.mk [(.i .u8 (.c 9))] 5 1
  (.app (.x 1) (.x 2) 1 1 5
  (.need (.c true) (.and (.le (.c (-9223372036854775808)) (.add (.add (.x 1) (.c 1)) (.c 1))) (.le (.add (.add (.x 1) (.c 1)) (.c 1)) (.c 9223372036854775807)))
  (.again 0 ⟨0, 0, 1, 0, 1, 0⟩ ⟨2, 1, 2, 0, 2, 0⟩ ⟨[(.x 0), (.add (.add (.x 1) (.c 1)) (.c 1))], [(.x 0)], [(.x 1)], [], [(.x 3)], []⟩))))
  (.ite (.eqI (.at (.x 0) (.add (.x 1) (.c 1))) (.c 120))
  (.loop 1 ⟨[(.x 0), (.c 1)], [(.x 0)], [(.x 1)], [], [], []⟩
  (.ite (.le (.x 3) (.c 2))
  (.need (.c true) (.and (.le (.c (-9223372036854775808)) (.add (.add (.x 1) (.c 1)) (.x 3))) (.le (.add (.add (.x 1) (.c 1)) (.x 3)) (.c 9223372036854775807)))
  (.need (.not (.le (.len (.x 0)) (.add (.add (.x 1) (.c 1)) (.x 3)))) (.and (.le (.c (-9223372036854775808)) (.add (.add (.x 1) (.c 1)) (.x 3))) (.le (.add (.add (.x 1) (.c 1)) (.x 3)) (.c 9223372036854775807)))
  (.need (.not (.le (.len (.x 0)) (.add (.add (.x 1) (.c 1)) (.x 3)))) (.and (.le (.c 0) (.add (.add (.x 1) (.c 1)) (.x 3))) (.lt (.add (.add (.x 1) (.c 1)) (.x 3)) (.len (.x 0))))
  (.call (.not (.le (.len (.x 0)) (.add (.add (.x 1) (.c 1)) (.x 3)))) false 82 [(.one (.i .u8 (.at (.x 0) (.add (.add (.x 1) (.c 1)) (.x 3)))))] (.p (.one (.i .i64 (.x 4)))) ⟨1, 0, 0, 0, 0, 0⟩
  (.ite (.or (.le (.len (.x 0)) (.add (.add (.x 1) (.c 1)) (.x 3))) (.lt (.x 4) (.c 0)))
  (.need (.c true) (.and (.le (.c (-9223372036854775808)) (.add (.add (.x 1) (.c 1)) (.x 3))) (.le (.add (.add (.x 1) (.c 1)) (.x 3)) (.c 9223372036854775807)))
  (.ret (.tup [(.one (.s (.c []))), (.one (.i .i64 (.add (.add (.x 1) (.c 1)) (.x 3)))), (.one (.b (.c false)))])))
  (.need (.c true) (.and (.le (.c (-9223372036854775808)) (.add (.x 3) (.c 1))) (.le (.add (.x 3) (.c 1)) (.c 9223372036854775807)))
  (.again 1 ⟨2, 1, 2, 0, 2, 0⟩ ⟨4, 2, 3, 0, 2, 0⟩ ⟨[(.x 2), (.add (.x 3) (.c 1))], [(.x 1)], [(.x 2)], [], [], []⟩)))))))
  (.need (.c true) (.and (.le (.c (-9223372036854775808)) (.add (.add (.x 1) (.c 1)) (.c 1))) (.le (.add (.add (.x 1) (.c 1)) (.c 1)) (.c 9223372036854775807)))
  (.need (.c true) (.and (.le (.c 0) (.add (.add (.x 1) (.c 1)) (.c 1))) (.lt (.add (.add (.x 1) (.c 1)) (.c 1)) (.len (.x 0))))
  (.need (.c true) (.and (.le (.c (-9223372036854775808)) (.add (.add (.x 1) (.c 1)) (.c 2))) (.le (.add (.add (.x 1) (.c 1)) (.c 2)) (.c 9223372036854775807)))
  (.need (.c true) (.and (.le (.c 0) (.add (.add (.x 1) (.c 1)) (.c 2))) (.lt (.add (.add (.x 1) (.c 1)) (.c 2)) (.len (.x 0))))
  (.call (.c true) false 82 [(.one (.i .u8 (.at (.x 0) (.add (.add (.x 1) (.c 1)) (.c 1)))))] (.p (.one (.i .i64 (.x 4)))) ⟨1, 0, 0, 0, 0, 0⟩
  (.need (.c true) (.and (.le (.c (-9223372036854775808)) (.mul (.x 4) (.c 16))) (.le (.mul (.x 4) (.c 16)) (.c 9223372036854775807)))
  (.call (.c true) false 82 [(.one (.i .u8 (.at (.x 0) (.add (.add (.x 1) (.c 1)) (.c 2)))))] (.p (.one (.i .i64 (.x 5)))) ⟨1, 0, 0, 0, 0, 0⟩
  (.need (.c true) (.and (.le (.c (-9223372036854775808)) (.add (.mul (.x 4) (.c 16)) (.x 5))) (.le (.add (.mul (.x 4) (.c 16)) (.x 5)) (.c 9223372036854775807)))
  (.mk [(.i .u8 (.wr .u8 (.add (.mul (.x 4) (.c 16)) (.x 5))))] 5 1
  (.app (.x 1) (.x 2) 1 1 5
  (.need (.c true) (.and (.le (.c (-9223372036854775808)) (.add (.add (.x 1) (.c 1)) (.c 2))) (.le (.add (.add (.x 1) (.c 1)) (.c 2)) (.c 9223372036854775807)))
  (.need (.c true) (.and (.le (.c (-9223372036854775808)) (.add (.add (.add (.x 1) (.c 1)) (.c 2)) (.c 1))) (.le (.add (.add (.add (.x 1) (.c 1)) (.c 2)) (.c 1)) (.c 9223372036854775807)))
  (.again 0 ⟨0, 0, 1, 0, 1, 0⟩ ⟨2, 1, 2, 0, 2, 0⟩ ⟨[(.x 2), (.add (.add (.add (.x 1) (.c 1)) (.c 2)) (.c 1))], [(.x 1)], [(.x 2)], [], [(.x 3)], []⟩)))))))))))))))
  (.ret (.tup [(.one (.s (.c []))), (.one (.i .i64 (.add (.x 1) (.c 1)))), (.one (.b (.c false)))]))))))))))))))
  (.ret (.tup [(.one (.s (.c []))), (.one (.i .i64 (.len (.x 0)))), (.one (.b (.c false)))])))))))
theorem gen_rread : genFn ⟨true, []⟩ Tryz.prog (fun l => ([⟨[2, 3, 4, 5, 6], [18, 19, 20, 21, 24, 25, 26, 7, 27, 28, 29, 30, 31, 32, 33, 34, 35, 36, 37, 38, 39, 40, 41, 42, 43, 44, 45, 46, 47, 48, 49, 50, 51, 52, 53, 54, 55, 58, 57, 59, 60, 61, 62, 63, 64, 65, 67, 66, 68, 69, 70, 72, 71, 73, 74, 75, 77, 76, 8, 78, 79, 82, 83, 84, 85, 86, 87, 88, 89, 90, 91, 92, 93, 94, 95, 96, 97, 98, 99, 80, 81, 100, 101, 102, 103, 104, 105, 106, 107, 108, 109, 110, 111, 112, 113, 114, 115, 116, 117, 56, 22, 23], []⟩, ⟨[2, 3, 4, 8], [78, 79, 82, 83, 84, 85, 86, 87, 88, 89, 90, 91, 92, 93, 94, 95, 96, 97, 98, 99, 80, 81], []⟩] : List LAnn).getD l ⟨[], [], []⟩) Tryz.f54 = fm_rread := by kernel_rfl
theorem ps_rread : freshPs Tryz.prog .zero Tryz.f54.params.toList = some ([(.one (.s (.x 0)))], ⟨0, 0, 1, 0, 0, 0⟩) := by kernel_rfl
set_option maxHeartbeats 1000000 in
def ctRValue : Ct Tryz.prog where
  f := 82
  spec := fun args h φ => ∃ c : Int, args = [.int .u8 c] ∧ 0 ≤ c ∧ c ≤ 255 ∧ φ (.int .i64 (hx c)) h
  ok := by
    rintro args h φ w ⟨c, rfl, c0, c1, hφ⟩ hH
    refine by_fm Tryz.func82 gen_rvalue ps_rvalue [] φ noInv noMeas ⟨[c], [], [], [], [], [], h, noM⟩ ⟨rfl, rfl, rfl, rfl, rfl, rfl⟩ ones_nil ?_ w hH rfl
    have hw : IntKind.i64.wrap c = c := by rw [IntKind.wrap_i64]; omega
    unfold hx at hφ
    rw [← then_step]; unfold fm_rvalue
    by_cases h1 : 48 ≤ c ∧ c ≤ 57
    · rw [if_pos h1] at hφ
      iterate 4 (try simp only [then_step]; try simp [go_sem, h1.1, h1.2, hw])
      exact ⟨by omega, by omega, hφ⟩
    · rw [if_neg h1] at hφ
      by_cases h2 : 97 ≤ c ∧ c ≤ 102
      · rw [if_pos h2] at hφ
        have h1' : 48 ≤ c → ¬ c ≤ 57 := by omega
        iterate 5 (try simp only [then_step]; try simp [go_sem, h2.1, h2.2, hw])
        rw [if_neg h1]
        exact ⟨by omega, by omega, hφ⟩
      · rw [if_neg h2] at hφ
        by_cases h3 : 65 ≤ c ∧ c ≤ 70
        · rw [if_pos h3] at hφ
          iterate 6 (try simp only [then_step]; try simp [go_sem, h3.1, h3.2, hw])
          rw [if_neg h1, if_neg h2]
          exact ⟨by omega, by omega, hφ⟩
        · rw [if_neg h3] at hφ
          iterate 6 (try simp only [then_step]; try simp [go_sem, hw])
          rw [if_neg h1, if_neg h2, if_neg h3]
          exact hφ
/-- Bytes that are gathered. -/
structure BI (h : Hp) (sl : Slc) (acc : List UInt8) (hh : Hp) : Prop where
  own : OwnS hh sl (bcs acc) 5 1
  n : sl.n = acc.length
  nn : sl.a ≠ none
  fresh : ∀ z, sl.a = some z → h z.1 = none
  kept : HLe h hh
theorem by_app {E : Env} {C : Ctx} {x y : LE} {f : Fm} {h : Hp} {sl : Slc} {acc : List UInt8} {hh : Hp} (I : BI h sl acc hh) (hlen : acc.length ≤ 1000000) {b : Nat} (hb : hh b = none) {c : Int} (c0 : 0 ≤ c) (c1 : c ≤ 255)
    (hx : x.den C = sl) (hy : y.den C = ⟨some (b, 0), 1, 1⟩) (hC : C.h = hh.set b ⟨[.int .u8 c], 5⟩)
    (hk : ∀ s' k', BI h s' (acc ++ [ub c]) k' → f.says E ((C.push ⟨[], [], [], [], [s'], []⟩).heap k')) :
    (Fm.app x y 1 1 5 f).says E C := by
  have h1 := I.n
  have hcs : [Value.int .u8 c] = bcs [ub c] := by simp [bcs, ub_cell c0 c1]
  have hlt : ∀ z, sl.a = some z → z.1 ≠ b := fun z hz e => by
    rcases I.own with ⟨q, _⟩ | ⟨d, o, q1, q2, _⟩
    · rw [q] at hz; cases hz
    · rw [q1] at hz; cases hz; subst e; rw [hb] at q2; cases q2
  rw [says_app, hx, hy, hC]
  refine ⟨bcs acc, bcs [ub c], own_set I.own hlt _, ⟨by simp, ?_⟩, ?_, ?_, ?_, ?_⟩
  · rw [← hcs, hread_set, if_pos (by simp)]; rfl
  · rw [← hcs]; exact ones1 rfl
  · show sl.n + 1 ≤ maxLen; unfold maxLen; omega
  · show (sl.n + 1) * 1 ≤ _; omega
  · intro s' k' g1 g2 g3 g4
    refine hk s' k' ⟨by rw [bcs_app]; exact g1, by rw [show s'.n = sl.n + 1 from g2, h1]; simp, ?_, fun z hz => ?_, fun d o hd => ?_⟩
    · rcases g1 with ⟨q, _⟩ | ⟨d, o, q1, _⟩
      · rw [q] at g2
        have : (0 : Nat) = sl.n + 1 := g2
        omega
      · rw [q1]; simp
    · rcases g3 z hz with ⟨y', hy', e⟩ | hn
      · rw [← e]; exact I.fresh y' hy'
      · have m1 : z.1 ≠ b := fun e => by rw [e, set_same] at hn; cases hn
        rw [set_ne _ m1] at hn
        cases hq : h z.1 with
        | none => rfl
        | some o => rw [I.kept _ _ hq] at hn; cases hn
    · refine g4 d o (fun z hz e => by have := I.fresh z hz; rw [e, hd] at this; cases this) ?_
      rw [set_ne _ (fun e => by have := I.kept d o hd; rw [e, hb] at this; cases this)]
      exact I.kept d o hd
/-- What the slice holds, read. -/
theorem BI.bytes {h : Hp} {sl : Slc} {acc : List UInt8} {hh : Hp} (I : BI h sl acc hh) : BytesAt hh sl acc := by
  rcases I.own with ⟨q, _⟩ | ⟨d, o, q1, q2, _, q4, q5, _, q7⟩
  · exact absurd (by rw [q]) I.nn
  · refine .inr ?_
    rw [q1, hread_of q2, if_pos (by omega)]
    have : bcs acc = acc.map fun c => Value.int .u8 c.toNat := rfl
    rw [← this, q7, Nat.mul_one]; rfl
end Go.Proofs.YthlakehilhpojaaGreatDoor
namespace Go.Proofs.YthlakehilhpojaaGreatDoor
open Go.RowKit
attribute [local go_sem] says_tt says_ff th_need th_ite th_call th_callK th_load th_store says_ret says_again BE.den IE.den SE.den LE.den AE.den CE.den PE.den VE.den KV.val Got.den Got.cnt exI allI exL allL Ctx.push Ctx.heap Ctx.cut Ctx.bare Ctx.mark Inc.blank List.getD_cons_zero List.getD_cons_succ List.cons_append List.nil_append List.append_nil List.map_cons List.map_nil List.replicate_zero List.replicate_succ specOf ltB_t leB_t ltB_f leB_f slc_val slc_nil slc_inj pt_val pt_nil hle_noHeap hle_refl hread_set hwrite_set set_same set_set noHeap_at B_inj ones_nil and_assoc
def rInv (h : Hp) (s : List UInt8) : Nat → Ctx → Prop
  | 0, C => ∃ x0 i y t l0 sl acc hh, C = ⟨[x0, (i : Nat)], [y], [s, t], [], [l0, sl], [], hh, noM⟩ ∧ BI h sl acc hh ∧ 1 ≤ i ∧ i ≤ s.length ∧ acc.length ≤ i ∧ ∃ m, s.length < m + i ∧ rdA s.length s 1 [] = rdA m s i acc
  | _ + 1, C => ∃ x0 i x2 k y y' t t' l0 sl acc hh, C = ⟨[x0, (i : Nat), x2, (k : Nat)], [y, y'], [s, t, t'], [], [l0, sl], [], hh, noM⟩ ∧ BI h sl acc hh ∧ 1 ≤ i ∧ i + 1 < s.length ∧ acc.length ≤ i ∧ (∃ m, s.length < m + i ∧ rdA s.length s 1 [] = rdA m s i acc) ∧
      1 ≤ k ∧ k ≤ 3 ∧ (2 ≤ k → i + 2 < s.length ∧ 0 ≤ hx (bt s (i + 2))) ∧ (3 ≤ k → i + 3 < s.length ∧ 0 ≤ hx (bt s (i + 3)))
def rMeas (s : List UInt8) : Nat → Ctx → Nat
  | 0, C => ((s.length : Int) - C.i.getD 1 0).toNat
  | _ + 1, C => (3 - C.i.getD 3 0).toNat
theorem rd_stop {s acc : List UInt8} {i : Nat} (h : ∃ m, s.length < m + i ∧ rdA s.length s 1 [] = rdA m s i acc) (hi : i ≤ s.length) {r : Option (List UInt8 × Nat)} (hs : ∀ m, rdA (m + 1) s i acc = r) : rdA s.length s 1 [] = r := by
  obtain ⟨m, hm, he⟩ := h
  obtain ⟨m', rfl⟩ : ∃ m', m = m' + 1 := ⟨m - 1, by omega⟩
  rw [he, hs]
theorem rd_next {s acc acc' : List UInt8} {i i' : Nat} (h : ∃ m, s.length < m + i ∧ rdA s.length s 1 [] = rdA m s i acc) (hi : i ≤ s.length) (hlt : i < i') (hs : ∀ m, rdA (m + 1) s i acc = rdA m s i' acc') : ∃ m, s.length < m + i' ∧ rdA s.length s 1 [] = rdA m s i' acc' := by
  obtain ⟨m, hm, he⟩ := h
  obtain ⟨m', rfl⟩ : ∃ m', m = m' + 1 := ⟨m - 1, by omega⟩
  exact ⟨m', by omega, by rw [he, hs]⟩
set_option maxRecDepth 100000 in
set_option maxHeartbeats 8000000 in
def ctRRead : Ct Tryz.prog where
  f := 54
  spec := fun args h φ => ∃ s, args = [.string (B s)] ∧ s.length ≤ 100000 ∧
    (match rdq s with
      | some (t, e) => φ (.tuple #[.string (B t), .int .i64 (e : Nat), .bool true]) h
      | none => ∀ t n, φ (.tuple #[.string (B t), .int .i64 n, .bool false]) h)
  ok := by
    rintro args h φ w ⟨s, rfl, hlen, hφ⟩ hH
    refine ct_forget (by_fm Tryz.func54 gen_rread ps_rread [ctRValue] (fun v k => ∃ k', HLe k' k ∧ φ v k') (rInv h s) (rMeas s) ⟨[], [], [s], [], [], [], h, noM⟩ ⟨rfl, rfl, rfl, rfl, rfl, rfl⟩ ones_nil ?_ w hH rfl)
    generalize hE : (⟨specOf _, _, _, _⟩ : Env) = E
    have s1 : E.spec 82 = ctRValue.spec := by rw [← hE]; rfl
    have ep : E.post = fun v k => ∃ k', HLe k' k ∧ φ v k' := by rw [← hE]
    have ei : E.inv = rInv h s := by rw [← hE]
    have em : E.meas = rMeas s := by rw [← hE]
    clear hE
    unfold rdq at hφ
    have no : ∀ {hh}, HLe h hh → rdA s.length s 1 [] = none → ∀ t n, ∃ k', HLe k' hh ∧ φ (.tuple #[.string (B t), .int .i64 n, .bool false]) k' := fun hle hr t n => by
      refine ⟨h, hle, ?_⟩
      rw [hr] at hφ
      split at hφ
      · rename_i heq; split at heq <;> cases heq
      · exact hφ t n
    rw [← then_step]; unfold fm_rread
    by_cases hs0 : s = []
    · subst hs0
      rw [if_pos (.inl rfl)] at hφ
      iterate 3 (try simp only [then_step]; try simp [go_sem, ep])
      exact ⟨h, fun _ _ h => h, hφ _ _⟩
    have hpos : 0 < s.length := List.length_pos_iff.2 hs0
    have hposz : (0 : Int) < s.length := by omega
    have hnz : ¬ (s.length : Int) = 0 := by omega
    by_cases h34 : bt s 0 = 34
    · rw [if_neg (by omega)] at hφ
      iterate 3 (try simp only [then_step]; try simp [go_sem, hs0, h34])
      refine ⟨hpos, ?_⟩
      rw [th_mk]
      intro b0 hb0
      refine loop_intro ?_ ?_
      · rw [ei]
        exact ⟨0, 1, false, [], ⟨some (b0, 0), 0, 0⟩, ⟨some (b0, 0), 0, 0⟩, [], h.set b0 ⟨[], 5⟩, rfl, ⟨.inr ⟨b0, ⟨[], 5⟩, rfl, set_same _ _ _, rfl, rfl, Nat.le_refl _, Nat.zero_le _, rfl⟩, rfl, by simp, fun z hz => by cases hz; exact hb0, hle_set hb0 _⟩, Nat.le_refl _, hpos, Nat.zero_le _, s.length, by omega, rfl⟩
      · rw [ei, em]
        rintro i' bb ss v ll pp hh0 M ⟨x0, i, y, t, l0, sl, acc, hh, hC, X, lo, le, cnt, all⟩ hM
        cases hC
        have hM' : M 0 = ((s.length : Int) - i).toNat := hM
        clear hM hb0
        have hibd := bt_bd s i
        rw [← then_step]
        by_cases hil : i = s.length
        · have hz : ¬ (i : Int) < s.length := by omega
          iterate 2 (try simp only [then_step]; try simp [go_sem, ep, hz])
          exact no X.kept (rd_stop all le fun m => by rw [rdA, if_pos (.inl (by omega))]) _ _
        have hlt : i < s.length := by omega
        have hz : (i : Int) < s.length := by omega
        by_cases hpr : bt s i < 32 ∨ 126 < bt s i
        · iterate 4 (try simp only [then_step]; try simp [go_sem, ep, hz, hpr])
          exact no X.kept (rd_stop all le fun m => by rw [rdA, if_pos (.inr hpr)]) _ _
        have p1 : ¬ bt s i < 32 := by omega
        have p2 : ¬ 126 < bt s i := by omega
        by_cases q34 : bt s i = 34
        · iterate 4 (try simp only [then_step]; try simp [go_sem, hz, q34])
          have hr : rdA s.length s 1 [] = some (acc, i + 1) := rd_stop all le fun m => by rw [rdA, if_neg (by omega), if_pos q34]
          rw [hr] at hφ
          rw [then_step, th_str]
          refine ⟨acc, X.bytes, ?_⟩
          iterate 2 (try simp only [then_step]; try simp [go_sem, ep])
          exact ⟨by omega, by omega, h, X.kept, by simpa using hφ⟩
        by_cases q92 : bt s i = 92
        · have e1 : ((i : Int) + 1).toNat = i + 1 := by omega
          have hibd1 := bt_bd s (i + 1)
          by_cases hi1 : i + 1 = s.length
          · have hz1 : (s.length : Int) ≤ (i : Int) + 1 := by omega
            iterate 10 (try simp only [then_step]; try simp [go_sem, ep, hz, q92, hz1])
            exact ⟨by omega, by omega, no X.kept (rd_stop all le fun m => by rw [rdA, if_neg (by omega), if_neg q34, if_neg (fun h => h q92), if_pos (by omega)]) _ _⟩
          have hz3 : (i : Int) + 1 < s.length := by omega
          have hz4 : ¬ (s.length : Int) ≤ (i : Int) + 1 := by omega
          by_cases c34 : bt s (i + 1) = 34
          · iterate 16 (try simp only [then_step]; try simp [go_sem, hz, hz3, hz4, q92, e1, c34])
            refine ⟨by omega, by omega, by omega, ?_⟩
            rw [th_mk]
            intro b hb
            refine by_app X (by omega) hb (c := 34) (by omega) (by omega) rfl rfl (by simp [go_sem, e1, c34]) (fun s' k' X' => ?_)
            rw [← then_step]
            iterate 2 (try simp only [then_step]; try simp [go_sem, ei, em])
            refine ⟨by omega, by omega, ⟨x0, i + 2, y, t, l0, s', _, k', by rw [show ((i + 2 : Nat) : Int) = (i : Int) + 1 + 1 by omega], X', by omega, by omega, by simp; omega, rd_next all le (i' := i + 2) (by omega) (fun m => by rw [rdA, if_neg (by omega), if_neg q34, if_neg (fun h => h q92), if_neg (by omega), if_pos (.inl c34), c34])⟩, ?_⟩
            simp only [rMeas, List.getD_cons_succ, List.getD_cons_zero]
            omega
          by_cases c92 : bt s (i + 1) = 92
          · iterate 16 (try simp only [then_step]; try simp [go_sem, hz, hz3, hz4, q92, e1, c92])
            refine ⟨by omega, by omega, by omega, ?_⟩
            rw [th_mk]
            intro b hb
            refine by_app X (by omega) hb (c := 92) (by omega) (by omega) rfl rfl (by simp [go_sem, e1, c92]) (fun s' k' X' => ?_)
            rw [← then_step]
            iterate 2 (try simp only [then_step]; try simp [go_sem, ei, em])
            refine ⟨by omega, by omega, ⟨x0, i + 2, y, t, l0, s', _, k', by rw [show ((i + 2 : Nat) : Int) = (i : Int) + 1 + 1 by omega], X', by omega, by omega, by simp; omega, rd_next all le (i' := i + 2) (by omega) (fun m => by rw [rdA, if_neg (by omega), if_neg q34, if_neg (fun h => h q92), if_neg (by omega), if_pos (.inr c92), c92])⟩, ?_⟩
            simp only [rMeas, List.getD_cons_succ, List.getD_cons_zero]
            omega
          by_cases c110 : bt s (i + 1) = 110
          · iterate 16 (try simp only [then_step]; try simp [go_sem, hz, hz3, hz4, q92, e1, c110])
            refine ⟨by omega, by omega, by omega, ?_⟩
            rw [th_mk]
            intro b hb
            refine by_app X (by omega) hb (c := 10) (by omega) (by omega) rfl rfl rfl (fun s' k' X' => ?_)
            rw [← then_step]
            iterate 2 (try simp only [then_step]; try simp [go_sem, ei, em])
            refine ⟨by omega, by omega, ⟨x0, i + 2, y, t, l0, s', _, k', by rw [show ((i + 2 : Nat) : Int) = (i : Int) + 1 + 1 by omega], X', by omega, by omega, by simp; omega, rd_next all le (i' := i + 2) (by omega) (fun m => by rw [rdA, if_neg (by omega), if_neg q34, if_neg (fun h => h q92), if_neg (by omega), if_neg (by omega), if_pos c110]; rfl)⟩, ?_⟩
            simp only [rMeas, List.getD_cons_succ, List.getD_cons_zero]
            omega
          by_cases c116 : bt s (i + 1) = 116
          · iterate 16 (try simp only [then_step]; try simp [go_sem, hz, hz3, hz4, q92, e1, c116])
            refine ⟨by omega, by omega, by omega, ?_⟩
            rw [th_mk]
            intro b hb
            refine by_app X (by omega) hb (c := 9) (by omega) (by omega) rfl rfl rfl (fun s' k' X' => ?_)
            rw [← then_step]
            iterate 2 (try simp only [then_step]; try simp [go_sem, ei, em])
            refine ⟨by omega, by omega, ⟨x0, i + 2, y, t, l0, s', _, k', by rw [show ((i + 2 : Nat) : Int) = (i : Int) + 1 + 1 by omega], X', by omega, by omega, by simp; omega, rd_next all le (i' := i + 2) (by omega) (fun m => by rw [rdA, if_neg (by omega), if_neg q34, if_neg (fun h => h q92), if_neg (by omega), if_neg (by omega), if_neg c110, if_pos c116]; rfl)⟩, ?_⟩
            simp only [rMeas, List.getD_cons_succ, List.getD_cons_zero]
            omega
          by_cases c120 : bt s (i + 1) = 120
          · iterate 16 (try simp only [then_step]; try simp [go_sem, hz, hz3, hz4, q92, e1, c120])
            refine ⟨by omega, by omega, by omega, ?_⟩
            refine loop_in ?_ ?_
            · rw [ei]
              exact ⟨x0, i, x0, 1, y, y, t, t, l0, sl, acc, hh0, by simp [go_sem, Ctx.bare, Got.den], X, lo, by omega, cnt, all, Nat.le_refl _, by omega, by omega, by omega⟩
            · rintro ⟨xi, xb, xs, xv, xl, xp⟩ h' M' hc hinv hm hM1
              rw [ei] at hinv
              rw [em] at hm
              obtain ⟨x0', i2, x2, k, y1, y2, t1, t2, l1, sl2, acc2, hh2, hC, X2, lo2, a1, cnt2, all2, k1, k3, a4, a5⟩ := hinv
              simp [Ctx.push, Ctx.heap, Ctx.bare] at hC
              obtain ⟨⟨rfl, hii, rfl⟩, ⟨rfl, rfl⟩, ⟨rfl, rfl⟩, rfl, ⟨rfl, rfl, rfl⟩, rfl, rfl⟩ := hC
              obtain rfl : i2 = i := by omega
              have hm' : M' 1 = ((3 : Int) - k).toNat := hm
              have hM0 : M' 0 = M 0 := hM1 0 (by decide)
              clear hm hM1 hc
              have hno : ¬ (i2 + 3 < s.length ∧ 0 ≤ hx (bt s (i2 + 2)) ∧ 0 ≤ hx (bt s (i2 + 3))) → rdA s.length s 1 [] = none := fun hn => rd_stop all2 le fun m => by
                rw [rdA, if_neg (by omega), if_neg q34, if_neg (fun h => h q92), if_neg (by omega), if_neg (by omega), if_neg (by omega), if_neg (by omega), if_pos c120, if_neg hn]
              have hx15 := hx_hi (bt s (i2 + 2))
              have hx16 := hx_hi (bt s (i2 + 3))
              rw [← then_step]
              by_cases hk : k ≤ 2
              · have hkz : (k : Int) ≤ 2 := by omega
                have e2 : ((i2 : Int) + 1 + k).toNat = i2 + 1 + k := by omega
                have hjd := bt_bd s (i2 + 1 + k)
                by_cases hjl : s.length ≤ i2 + 1 + k
                · have hjz : (s.length : Int) ≤ (i2 : Int) + 1 + k := by omega
                  have hjz' : ¬ (i2 : Int) + 1 + k < s.length := by omega
                  iterate 12 (try simp only [then_step]; try simp [go_sem, ep, hkz, hjz, hjz'])
                  exact ⟨by omega, by omega, by omega, by omega, no X2.kept (hno (by omega)) _ _⟩
                have hjz : ¬ (s.length : Int) ≤ (i2 : Int) + 1 + k := by omega
                have hjz3 : (i2 : Int) + 1 + k < s.length := by omega
                by_cases hneg : hx (bt s (i2 + 1 + k)) < 0
                · iterate 12 (try simp only [then_step]; try simp [go_sem, ep, s1, ctRValue, hkz, hjz, hjz3, e2, hjd.1, hjd.2, hneg])
                  refine ⟨by omega, by omega, by omega, by omega, by omega, by omega, by omega, no X2.kept (hno ?_) _ _⟩
                  rintro ⟨_, g1, g2⟩
                  rcases (by omega : k = 1 ∨ k = 2) with rfl | rfl
                  · exact absurd hneg (by rw [show i2 + 1 + 1 = i2 + 2 by omega]; omega)
                  · exact absurd hneg (by rw [show i2 + 1 + 2 = i2 + 3 by omega]; omega)
                · iterate 12 (try simp only [then_step]; try simp [go_sem, s1, ctRValue, hkz, hjz, hjz3, e2, hjd.1, hjd.2, hneg])
                  refine ⟨by omega, by omega, by omega, by omega, by omega, by omega, by omega, ?_, ?_⟩
                  · rw [ei]
                    refine ⟨x0, i2, x2, k + 1, y, y2, t, t2, l0, sl, acc2, h', by simp, X2, lo2, a1, cnt2, all2, by omega, by omega, fun h2 => ?_, fun h3 => ?_⟩
                    · by_cases e : k = 1
                      · subst e
                        rw [show i2 + 1 + 1 = i2 + 2 by omega] at hneg
                        exact ⟨by omega, by omega⟩
                      · exact a4 (by omega)
                    · obtain rfl : k = 2 := by omega
                      rw [show i2 + 1 + 2 = i2 + 3 by omega] at hneg
                      exact ⟨by omega, by omega⟩
                  · rw [em]
                    simp only [rMeas, List.getD_cons_succ, List.getD_cons_zero]
                    omega
              · have hkz : ¬ (k : Int) ≤ 2 := by omega
                obtain ⟨g1, g2⟩ := a4 (by omega)
                obtain ⟨g3, g4⟩ := a5 (by omega)
                have e3 : ((i2 : Int) + 1 + 1).toNat = i2 + 2 := by omega
                have e4 : ((i2 : Int) + 1 + 2).toNat = i2 + 3 := by omega
                have b3 := bt_bd s (i2 + 2)
                have b4 := bt_bd s (i2 + 3)
                have z3 : (i2 : Int) + 1 + 1 < s.length := by omega
                have z4 : (i2 : Int) + 1 + 2 < s.length := by omega
                iterate 12 (try simp only [then_step]; try simp [go_sem, s1, ctRValue, hkz, e3, e4, z3, z4, b3.1, b3.2, b4.1, b4.2])
                refine ⟨by omega, by omega, by omega, by omega, by omega, by omega, by omega, by omega, by omega, by omega, ?_⟩
                have hw : IntKind.u8.wrap (hx (bt s (i2 + 2)) * 16 + hx (bt s (i2 + 3))) = 16 * hx (bt s (i2 + 2)) + hx (bt s (i2 + 3)) := by rw [IntKind.wrap_u8]; omega
                rw [th_mk]
                intro b hb
                refine by_app X2 (by omega) hb (c := 16 * hx (bt s (i2 + 2)) + hx (bt s (i2 + 3))) (by omega) (by omega) rfl rfl (by simp [go_sem, hw]) (fun s' k' X' => ?_)
                rw [← then_step]
                iterate 4 (try simp only [then_step]; try simp [go_sem, ei, em])
                refine ⟨by omega, by omega, by omega, by omega, ⟨x2, i2 + 4, y2, t2, l0, s', _, k', by rw [show ((i2 + 4 : Nat) : Int) = (i2 : Int) + 1 + 2 + 1 by omega], X', by omega, by omega, by simp; omega, rd_next all2 le (i' := i2 + 4) (by omega) (fun m => by
                  rw [rdA, if_neg (by omega), if_neg q34, if_neg (fun h => h q92), if_neg (by omega), if_neg (by omega), if_neg (by omega), if_neg (by omega), if_pos c120, if_pos ⟨g3, g2, g4⟩])⟩, ?_⟩
                simp only [rMeas, List.getD_cons_succ, List.getD_cons_zero]
                omega
          · iterate 16 (try simp only [then_step]; try simp [go_sem, ep, hz, hz3, hz4, q92, e1, c34, c92, c110, c116, c120])
            refine ⟨by omega, by omega, by omega, ?_⟩
            exact no X.kept (rd_stop all le fun m => by rw [rdA, if_neg (by omega), if_neg q34, if_neg (fun h => h q92), if_neg (by omega), if_neg (by omega), if_neg c110, if_neg c116, if_neg c120]) _ _
        · iterate 6 (try simp only [then_step]; try simp [go_sem, hz, p1, p2, q34, q92])
          rw [th_mk]
          intro b hb
          refine by_app X (by omega) hb (c := bt s i) hibd.1 hibd.2 rfl rfl rfl (fun s' k' X' => ?_)
          rw [← then_step]
          iterate 2 (try simp only [then_step]; try simp [go_sem, ei, em])
          refine ⟨by omega, by omega, ⟨x0, i + 1, y, t, l0, s', _, k', by simp, X', by omega, by omega, by simp; omega, rd_next all le (Nat.lt_succ_self i) (fun m => by rw [rdA, if_neg (by omega), if_neg q34, if_pos q92])⟩, ?_⟩
          simp only [rMeas, List.getD_cons_succ, List.getD_cons_zero]
          omega
    · rw [if_pos (.inr h34)] at hφ
      iterate 3 (try simp only [then_step]; try simp [go_sem, ep, hs0, h34])
      exact ⟨hpos, h, fun _ _ h => h, hφ _ _⟩
end Go.Proofs.YthlakehilhpojaaGreatDoor
namespace Go.Proofs.YthlakehilhpojaaGreatDoor
open Go.RowKit
attribute [local go_sem] says_tt says_ff th_need th_ite th_call th_callK th_load th_store th_mk th_new th_mks th_str says_ret says_again says_app BE.den IE.den SE.den LE.den AE.den CE.den PE.den VE.den KV.val Got.den Got.cnt exI allI exL allL Ctx.push Ctx.heap Ctx.cut Ctx.bare Ctx.mark Inc.blank List.getD_cons_zero List.getD_cons_succ List.cons_append List.nil_append List.append_nil List.map_cons List.map_nil List.replicate_zero List.replicate_succ specOf ltB_t leB_t ltB_f leB_f slc_val slc_nil slc_inj pt_val pt_nil hle_noHeap hle_refl hread_set hwrite_set set_same set_set noHeap_at B_inj ones_nil and_assoc
theorem sub_cons (s : List UInt8) {i j : Nat} (h : i < j) (hj : j ≤ s.length) : sub s i j = s[i] :: sub s (i + 1) j := by
  unfold sub
  have hl : i < (s.take j).length := by rw [List.length_take]; omega
  rw [List.drop_eq_getElem_cons hl, List.getElem_take]
theorem strip_more {s : List UInt8} {i k : Nat} (h : i + 1 < k) (hk : k ≤ s.length) (h48 : bt s i = 48) : strip (sub s i k) = strip (sub s (i + 1) k) := by
  rw [sub_cons s (by omega) hk, sub_cons s h hk, strip, if_pos (by rw [bt_eq s i (by omega)] at h48; omega), ← sub_cons s h hk]
theorem strip_end {s : List UInt8} {i k : Nat} (h : i < k) (hk : k ≤ s.length) (hn : ¬ (i + 1 < k ∧ bt s i = 48)) : strip (sub s i k) = sub s i k := by
  by_cases h1 : i + 1 < k
  · have h48 : ¬ bt s i = 48 := fun e => hn ⟨h1, e⟩
    rw [sub_cons s h hk, sub_cons s h1 hk, strip, if_neg (by rw [bt_eq s i (by omega)] at h48; omega)]
  · obtain rfl : k = i + 1 := by omega
    rw [sub_cons s h hk, sub_same]; rfl
def nuInv (h : Hp) (s : List UInt8) (i0 : Nat) : Nat → Ctx → Prop
  | 0, C => ∃ k : Nat, C = ⟨[(i0 : Nat), (k : Nat)], [], [s], [], [], [], h, noM⟩ ∧ i0 ≤ k ∧ k ≤ s.length ∧ rn dgB s i0 = (k - i0) + rn dgB s k
  | _ + 1, C => ∃ (k e i : Nat) (x : Int), C = ⟨[(i0 : Nat), (k : Nat), x, (e : Nat), (i : Nat)], [], [s], [], [], [], h, noM⟩ ∧ i0 ≤ i ∧ i < k ∧ k ≤ s.length ∧ strip (sub s i0 k) = strip (sub s i k)
def nuMeas (s : List UInt8) : Nat → Ctx → Nat
  | 0, C => ((s.length : Int) - C.i.getD 1 0).toNat
  | _ + 1, C => ((s.length : Int) - C.i.getD 4 0).toNat
set_option maxRecDepth 100000 in
set_option maxHeartbeats 8000000 in
def ctRNumber : Ct Tryz.prog where
  f := 53
  spec := fun args h φ => ∃ s i0, args = [.string (B s), .int .i64 (i0 : Nat)] ∧ i0 < s.length ∧ s.length ≤ 100000 ∧ dgB (bt s i0) = true ∧
    (if (nm s i0).1 = 0 then φ (.tuple #[tkv (nm s i0).2.1 0 0 (nm s i0).2.2.1 [], .int .i64 ((nm s i0).2.2.2 : Nat), .int .i64 0]) h
      else ∀ kk, φ (.tuple #[tkv kk 0 0 0 [], .int .i64 0, .int .i64 (nm s i0).1]) h)
  ok := by
    rintro args h φ w ⟨s, i0, rfl, hi0, hlen, hdg, hφ⟩ hH
    refine by_fm Tryz.func53 gen_rnumber ps_rnumber [ctKind, ctRInner, ctRefParse] φ (nuInv h s i0) (nuMeas s) ⟨[(i0 : Nat)], [], [s], [], [], [], h, noM⟩ ⟨rfl, rfl, rfl, rfl, rfl, rfl⟩ ones_nil ?_ w hH rfl
    generalize hE : (⟨specOf _, _, _, _⟩ : Env) = E
    have s1 : E.spec 50 = ctKind.spec := by rw [← hE]; rfl
    have s2 : E.spec 51 = ctRInner.spec := by rw [← hE]; rfl
    have s3 : E.spec 81 = ctRefParse.spec := by rw [← hE]; rfl
    have ep : E.post = φ := by rw [← hE]
    have ei : E.inv = nuInv h s i0 := by rw [← hE]
    have em : E.meas = nuMeas s := by rw [← hE]
    clear hE
    unfold fm_rnumber
    refine loop_intro (by rw [ei]; exact ⟨i0, rfl, Nat.le_refl _, by omega, by omega⟩) ?_
    rw [ei, em]
    rintro i bb ss v ll pp hh M ⟨k, hC, h1, h2, h3⟩ hM
    cases hC
    have hM' : M 0 = ((s.length : Int) - k).toNat := hM
    clear hM
    rw [← then_step]
    by_cases hk : k < s.length ∧ dgB (bt s k) = true
    · obtain ⟨hk, hd⟩ := hk
      have hkz : (k : Int) < s.length := by omega
      have hkd : kdi (bt s k) = 3 := by simpa [dgB] using hd
      have hy := rn_yes hk hd
      iterate 5 (try simp only [then_step]; try simp [go_sem, ei, em, s1, ctKind, hkz, hkd])
      refine ⟨by omega, by omega, ⟨k + 1, by simp, by omega, by omega, by omega⟩, ?_⟩
      simp only [nuMeas, List.getD_cons_succ, List.getD_cons_zero]
      omega
    have hr0 : rn dgB s k = 0 := by
      by_cases hl : k < s.length
      · exact rn_no hl (by simpa [hl] using hk)
      · exact rn_end (by omega)
    have hyy := rn_yes (p := dgB) hi0 hdg
    have hkk : k = i0 + rn dgB s i0 := by omega
    have hik : i0 < k := by omega
    -- behind the digits
    have hrest : ∀ x : Int, (fm_rnumber.k.k.k.e).says E ⟨[(i0 : Nat), (k : Nat), x], [], [s], [], [], [], h, M⟩ := by
      intro x
      simp only [fm_rnumber, Fm.k, Fm.e]
      rw [th_call, if_pos (by rfl), s2]
      refine ⟨s, k, rfl, by omega, by omega, by omega, ?_⟩
      have hr := rn_le (p := inB) (s := s) (i := k) h2
      rw [Int.toNat_natCast]
      refine ⟨(fun h => by cases h), ?_⟩
      simp [go_sem]
      have hnm : nm s i0 = _ := rfl
      conv at hnm => rhs; unfold nm
      rw [← hkk] at hnm
      generalize hR : rn inB s k = R at *
      by_cases ha : R = 1 ∧ bt s k = 105
      · obtain ⟨rfl, h105⟩ := ha
        have hnm' : nm s i0 = nfin 4 8388607 (sub s i0 k) (k + 1) := by rw [hnm, if_neg (by decide), if_pos ⟨rfl, h105⟩]
        have hks : (k : Int) < s.length := by omega
        iterate 3 (try simp only [then_step]; try simp [go_sem, h105, hks])
        refine ⟨by omega, by omega, ?_⟩
        refine loop_in ?_ ?_
        · rw [ei]
          exact ⟨k, k + 1, i0, x, by simp [go_sem, Ctx.bare, Got.den], Nat.le_refl _, hik, h2, rfl⟩
        · rintro ⟨xi, xb, xs, xv, xl, xp⟩ h' M' hc hinv hm hM1
          rw [ei] at hinv
          rw [em] at hm
          obtain ⟨k2, e2, i2, x2, hC, b1, b2, b3, b4⟩ := hinv
          simp [Ctx.push, Ctx.heap, Ctx.bare] at hC
          obtain ⟨⟨hkq, rfl, heq, rfl⟩, rfl, rfl, rfl, rfl, rfl, rfl⟩ := hC
          obtain rfl : k2 = k := by omega
          have hm' : M' 1 = ((s.length : Int) - i2).toNat := hm
          clear hm hc
          rw [← then_step]
          by_cases hmore : i2 + 1 < k2 ∧ bt s i2 = 48
          · have c1 : (i2 : Int) < k2 - 1 := by omega
            have c2 : (i2 : Int) < s.length := by omega
            iterate 5 (try simp only [then_step]; try simp [go_sem, ei, em, c1, c2, hmore.2])
            (repeat' apply And.intro) <;> first | omega | exact ⟨k2, e2, i2 + 1, x, by simp [heq], by omega, by omega, b3, by rw [b4, strip_more (by omega) b3 hmore.2]⟩ | (simp only [nuMeas, List.getD_cons_succ, List.getD_cons_zero]; omega)
          · have hse := strip_end b2 b3 hmore
            have hnf : nm s i0 = nfin 4 8388607 (sub s i0 k2) (k2 + 1) := hnm'
            rw [hnf] at hφ
            unfold nfin at hφ
            rw [b4, hse] at hφ
            rw [then_step, th_need]
            refine ⟨by simp [go_sem]; omega, ?_⟩
            rw [then_step, th_need]
            refine ⟨by simp [go_sem]; omega, ?_⟩
            rw [then_step, th_ite, if_neg (by simp [go_sem]; omega)]
            rw [then_step, th_need]
            refine ⟨by simp [go_sem]; omega, ?_⟩
            rw [then_step, th_call, if_pos (by rfl), s3]
            refine ⟨sub s i2 k2, rfl, by rw [sub_len s b3]; omega, (fun h => by cases h), ?_⟩
            simp [go_sem]
            by_cases hm2 : (pv (sub s i2 k2)).2 = 0 ∧ (pv (sub s i2 k2)).1 ≤ 8388607
            · rw [if_pos hm2] at hφ
              rw [then_step, th_ite, if_neg (by simp [go_sem]; omega), then_step, says_ret, ep]
              simpa [go_sem, tkv, heq] using hφ
            · rw [if_neg hm2] at hφ
              rw [then_step, th_ite, if_pos (by simp [go_sem]; omega), then_step, says_ret, ep]
              have hb := hφ 4
              simpa [go_sem, tkv] using hb
      · by_cases hb : R = 0
        · subst hb
          have hnm' : nm s i0 = nfin 3 9223372036854775807 (sub s i0 k) k := by rw [hnm, if_pos rfl]
          have hkn : ¬ (k : Int) = k + 1 := by omega
          iterate 4 (try simp only [then_step]; try simp [go_sem, hkn])
          refine ⟨by omega, by omega, ?_⟩
          refine loop_in ?_ ?_
          · rw [ei]
            exact ⟨k, k, i0, x, by simp [go_sem, Ctx.bare, Got.den], Nat.le_refl _, hik, h2, rfl⟩
          · rintro ⟨xi, xb, xs, xv, xl, xp⟩ h' M' hc hinv hm hM1
            rw [ei] at hinv
            rw [em] at hm
            obtain ⟨k2, e2, i2, x2, hC, b1, b2, b3, b4⟩ := hinv
            simp [Ctx.push, Ctx.heap, Ctx.bare] at hC
            obtain ⟨⟨hkq, rfl, heq, rfl⟩, rfl, rfl, rfl, rfl, rfl, rfl⟩ := hC
            obtain rfl : k2 = k := by omega
            have hm' : M' 1 = ((s.length : Int) - i2).toNat := hm
            clear hm hc
            rw [← then_step]
            by_cases hmore : i2 + 1 < k2 ∧ bt s i2 = 48
            · have c1 : (i2 : Int) < k2 - 1 := by omega
              have c2 : (i2 : Int) < s.length := by omega
              iterate 5 (try simp only [then_step]; try simp [go_sem, ei, em, c1, c2, hmore.2])
              (repeat' apply And.intro) <;> first | omega | exact ⟨k2, e2, i2 + 1, x, by simp [heq], by omega, by omega, b3, by rw [b4, strip_more (by omega) b3 hmore.2]⟩ | (simp only [nuMeas, List.getD_cons_succ, List.getD_cons_zero]; omega)
            · have hse := strip_end b2 b3 hmore
              have hnf : nm s i0 = nfin 3 9223372036854775807 (sub s i0 k2) k2 := hnm'
              rw [hnf] at hφ
              unfold nfin at hφ
              rw [b4, hse] at hφ
              rw [then_step, th_need]
              refine ⟨by simp [go_sem]; omega, ?_⟩
              rw [then_step, th_need]
              refine ⟨by simp [go_sem]; omega, ?_⟩
              rw [then_step, th_ite, if_neg (by simp [go_sem]; omega)]
              rw [then_step, th_need]
              refine ⟨by simp [go_sem]; omega, ?_⟩
              rw [then_step, th_call, if_pos (by rfl), s3]
              refine ⟨sub s i2 k2, rfl, by rw [sub_len s b3]; omega, (fun h => by cases h), ?_⟩
              simp [go_sem]
              by_cases hm2 : (pv (sub s i2 k2)).2 = 0 ∧ (pv (sub s i2 k2)).1 ≤ 9223372036854775807
              · rw [if_pos hm2] at hφ
                rw [then_step, th_ite, if_neg (by simp [go_sem]; omega), then_step, says_ret, ep]
                simpa [go_sem, tkv, heq] using hφ
              · rw [if_neg hm2] at hφ
                rw [then_step, th_ite, if_pos (by simp [go_sem]; omega), then_step, says_ret, ep]
                have hb := hφ 3
                simpa [go_sem, tkv] using hb
        · have hnm' : nm s i0 = (4, 0, 0, 0) := by rw [hnm, if_neg hb, if_neg ha]
          rw [hnm', if_neg (by decide)] at hφ
          rw [then_step, th_need]
          refine ⟨by simp [go_sem]; omega, ?_⟩
          rw [then_step, th_need]
          refine ⟨by simp [go_sem]; omega, ?_⟩
          rw [then_step, th_ite, if_neg (by simp [go_sem]; omega)]
          rw [then_step, th_ite, if_pos (by simp [go_sem]; omega), then_step, says_ret, ep]
          have hb := hφ 3
          simpa [go_sem, tkv] using hb
    by_cases hl : k < s.length
    · have hkz : (k : Int) < s.length := by omega
      have hd : ¬ kdi (bt s k) = 3 := fun e => hk ⟨hl, by simpa [dgB] using e⟩
      rw [then_step, th_need]
      refine ⟨by first | (simp [go_sem, hkz]; done) | (simp [go_sem, hkz]; omega), ?_⟩
      rw [then_step, th_call, if_pos (by simp [go_sem, hkz]), s1]
      refine ⟨bt s k, rfl, (fun h => by cases h), ?_⟩
      simp [go_sem]
      rw [then_step, th_ite, if_neg (by simp [go_sem, hkz, hd])]
      exact hrest _
    · have hkz : ¬ (k : Int) < s.length := by omega
      rw [then_step, th_need]
      refine ⟨by simp [go_sem, hkz], ?_⟩
      rw [then_step, th_call, if_neg (by simp [go_sem, hkz])]
      rw [then_step, th_ite, if_neg (by simp [go_sem])]
      exact hrest 0
end Go.Proofs.YthlakehilhpojaaGreatDoor
namespace Go.Proofs.YthlakehilhpojaaGreatDoor
open Go.RowKit
attribute [local go_sem] says_tt says_ff th_need th_ite th_call th_callK th_load th_store th_mk th_new th_mks th_str says_ret says_again says_app BE.den IE.den SE.den LE.den AE.den CE.den PE.den VE.den KV.val Got.den Got.cnt exI allI exL allL Ctx.push Ctx.heap Ctx.cut Ctx.bare Ctx.mark Inc.blank List.getD_cons_zero List.getD_cons_succ List.cons_append List.nil_append List.append_nil List.map_cons List.map_nil List.replicate_zero List.replicate_succ specOf ltB_t leB_t ltB_f leB_f slc_val slc_nil slc_inj pt_val pt_nil hle_noHeap hle_refl hread_set hwrite_set set_same set_set noHeap_at B_inj ones_nil and_assoc
def fm_rone : Fm := (.need (.c true) (.and (.le (.c 0) (.x 0)) (.lt (.x 0) (.len (.x 0))))
  (.call (.c true) false 50 [(.one (.i .u8 (.at (.x 0) (.x 0))))] (.p (.one (.i .i64 (.x 1)))) ⟨1, 0, 0, 0, 0, 0⟩
  (.ite (.eqI (.x 1) (.c 1))
  (.ite (.eqI (.x 1) (.c 1))
  (.call (.c true) false 51 [(.one (.s (.x 0))), (.one (.i .i64 (.x 0)))] (.p (.one (.i .i64 (.x 2)))) ⟨1, 0, 0, 0, 0, 0⟩
  (.need (.c true) (.and (.and (.le (.c 0) (.x 2)) (.le (.x 2) (.len (.x 0)))) (.and (.le (.c 0) (.x 0)) (.le (.x 0) (.x 2))))
  (.need (.c true) (.and (.le (.c 0) (.x 0)) (.lt (.x 0) (.len (.x 0))))
  (.call (.c true) false 50 [(.one (.i .u8 (.at (.x 0) (.x 0))))] (.p (.one (.i .i64 (.x 3)))) ⟨1, 0, 0, 0, 0, 0⟩
  (.ite (.eqI (.x 3) (.c 2))
  (.ret (.tup [(.agg [(.i .u8 (.c 2)), (.i .i64 (.c 0)), (.i .i64 (.c 0)), (.i .i64 (.c 0)), (.s (.sub (.x 0) (.x 0) (.x 2)))]), (.one (.i .i64 (.x 2))), (.one (.i .i64 (.c 0)))]))
  (.call (.c true) false 52 [(.one (.s (.sub (.x 0) (.x 0) (.x 2))))] (.p (.one (.b (.x 0)))) ⟨0, 1, 0, 0, 0, 0⟩
  (.ite (.x 0)
  (.ret (.tup [(.agg [(.i .u8 (.c 6)), (.i .i64 (.c 0)), (.i .i64 (.c 0)), (.i .i64 (.c 0)), (.s (.sub (.x 0) (.x 0) (.x 2)))]), (.one (.i .i64 (.x 2))), (.one (.i .i64 (.c 0)))]))
  (.ret (.tup [(.agg [(.i .u8 (.c 1)), (.i .i64 (.c 0)), (.i .i64 (.c 0)), (.i .i64 (.c 0)), (.s (.sub (.x 0) (.x 0) (.x 2)))]), (.one (.i .i64 (.x 2))), (.one (.i .i64 (.c 0)))])))))))))
  (.ite (.eqI (.x 1) (.c 3))
  (.call (.c true) false 53 [(.one (.s (.x 0))), (.one (.i .i64 (.x 0)))] (.tup [(.agg [(.i .u8 (.x 2)), (.i .i64 (.x 3)), (.i .i64 (.x 4)), (.i .i64 (.x 5)), (.s (.x 1))]), (.one (.i .i64 (.x 6))), (.one (.i .i64 (.x 7)))]) ⟨6, 0, 1, 0, 0, 0⟩
  (.ret (.tup [(.agg [(.i .u8 (.x 2)), (.i .i64 (.x 3)), (.i .i64 (.x 4)), (.i .i64 (.x 5)), (.s (.x 1))]), (.one (.i .i64 (.x 6))), (.one (.i .i64 (.x 7)))])))
  (.need (.c true) (.and (.le (.c 0) (.x 0)) (.lt (.x 0) (.len (.x 0))))
  (.ite (.eqI (.at (.x 0) (.x 0)) (.c 34))
  (.need (.c true) (.and (.le (.c 0) (.x 0)) (.le (.x 0) (.len (.x 0))))
  (.call (.c true) false 54 [(.one (.s (.sub (.x 0) (.x 0) (.len (.x 0)))))] (.tup [(.one (.s (.x 1))), (.one (.i .i64 (.x 2))), (.one (.b (.x 0)))]) ⟨1, 1, 1, 0, 0, 0⟩
  (.ite (.not (.x 0))
  (.ret (.tup [(.agg [(.i .u8 (.c 0)), (.i .i64 (.c 0)), (.i .i64 (.c 0)), (.i .i64 (.c 0)), (.s (.c []))]), (.one (.i .i64 (.c 0))), (.one (.i .i64 (.c 4)))]))
  (.need (.c true) (.and (.le (.c (-9223372036854775808)) (.add (.x 0) (.x 2))) (.le (.add (.x 0) (.x 2)) (.c 9223372036854775807)))
  (.ret (.tup [(.agg [(.i .u8 (.c 5)), (.i .i64 (.c 0)), (.i .i64 (.c 0)), (.i .i64 (.c 0)), (.s (.x 1))]), (.one (.i .i64 (.add (.x 0) (.x 2)))), (.one (.i .i64 (.c 0)))]))))))
  (.mk [(.s (.c [38, 38])), (.s (.c [124, 124])), (.s (.c [61, 61])), (.s (.c [33, 61])), (.s (.c [60, 61])), (.s (.c [62, 61]))] 9 6
  (.loop 0 ⟨[(.c 0), (.c 0), (.c 0), (.c 0), (.c 0), (.c 0), (.c 0)], [], [(.c [])], [], [], []⟩
  (.ite (.lt (.x 4) (.cnt (.x 0)))
  (.load (.le (.add (.x 0) (.c 2)) (.len (.x 0))) (.el (.x 0) (.x 4) 1 0) 1 [(.s (.x 2))] ⟨0, 0, 1, 0, 0, 0⟩
  (.need (.c true) (.and (.le (.c (-9223372036854775808)) (.add (.x 0) (.c 2))) (.le (.add (.x 0) (.c 2)) (.c 9223372036854775807)))
  (.need (.le (.add (.x 0) (.c 2)) (.len (.x 0))) (.and (.le (.c (-9223372036854775808)) (.add (.x 0) (.c 2))) (.le (.add (.x 0) (.c 2)) (.c 9223372036854775807)))
  (.need (.le (.add (.x 0) (.c 2)) (.len (.x 0))) (.and (.and (.le (.c 0) (.add (.x 0) (.c 2))) (.le (.add (.x 0) (.c 2)) (.len (.x 0)))) (.and (.le (.c 0) (.x 0)) (.le (.x 0) (.add (.x 0) (.c 2)))))
  (.need (.le (.add (.x 0) (.c 2)) (.len (.x 0))) (.and (.and (.le (.c 0) (.x 4)) (.lt (.x 4) (.cnt (.x 0)))) (.nns (.x 0)))
  (.ite (.and (.le (.add (.x 0) (.c 2)) (.len (.x 0))) (.eqS (.sub (.x 0) (.x 0) (.add (.x 0) (.c 2))) (.x 2)))
  (.need (.c true) (.and (.and (.le (.c 0) (.x 4)) (.lt (.x 4) (.cnt (.x 0)))) (.nns (.x 0)))
  (.load (.c true) (.el (.x 0) (.x 4) 1 0) 1 [(.s (.x 3))] ⟨0, 0, 1, 0, 0, 0⟩
  (.need (.c true) (.and (.le (.c (-9223372036854775808)) (.add (.x 0) (.c 2))) (.le (.add (.x 0) (.c 2)) (.c 9223372036854775807)))
  (.ret (.tup [(.agg [(.i .u8 (.c 7)), (.i .i64 (.c 0)), (.i .i64 (.c 0)), (.i .i64 (.c 0)), (.s (.x 3))]), (.one (.i .i64 (.add (.x 0) (.c 2)))), (.one (.i .i64 (.c 0)))])))))
  (.need (.c true) (.and (.le (.c (-9223372036854775808)) (.add (.x 4) (.c 1))) (.le (.add (.x 4) (.c 1)) (.c 9223372036854775807)))
  (.again 0 ⟨2, 0, 1, 0, 1, 0⟩ ⟨9, 0, 2, 0, 1, 0⟩ ⟨[(.x 2), (.x 3), (.add (.x 4) (.c 1)), (.x 5), (.x 6), (.x 7), (.x 8)], [], [(.x 1)], [], [], []⟩))))))))
  (.loop 1 ⟨[(.x 2), (.x 3), (.c 0), (.x 5), (.x 6), (.x 7), (.x 8)], [], [(.x 1)], [], [], []⟩
  (.ite (.lt (.x 11) (.len (.c [43, 45, 42, 47, 37, 60, 62, 33, 61, 40, 41, 123, 125, 91, 93, 44, 59, 58, 46])))
  (.need (.c true) (.and (.le (.c 0) (.x 0)) (.lt (.x 0) (.len (.x 0))))
  (.need (.c true) (.and (.le (.c 0) (.x 11)) (.lt (.x 11) (.len (.c [43, 45, 42, 47, 37, 60, 62, 33, 61, 40, 41, 123, 125, 91, 93, 44, 59, 58, 46]))))
  (.ite (.eqI (.at (.x 0) (.x 0)) (.at (.c [43, 45, 42, 47, 37, 60, 62, 33, 61, 40, 41, 123, 125, 91, 93, 44, 59, 58, 46]) (.x 11)))
  (.need (.c true) (.and (.le (.c (-9223372036854775808)) (.add (.x 11) (.c 1))) (.le (.add (.x 11) (.c 1)) (.c 9223372036854775807)))
  (.need (.c true) (.and (.and (.le (.c 0) (.add (.x 11) (.c 1))) (.le (.add (.x 11) (.c 1)) (.len (.c [43, 45, 42, 47, 37, 60, 62, 33, 61, 40, 41, 123, 125, 91, 93, 44, 59, 58, 46])))) (.and (.le (.c 0) (.x 11)) (.le (.x 11) (.add (.x 11) (.c 1)))))
  (.need (.c true) (.and (.le (.c (-9223372036854775808)) (.add (.x 0) (.c 1))) (.le (.add (.x 0) (.c 1)) (.c 9223372036854775807)))
  (.ret (.tup [(.agg [(.i .u8 (.c 7)), (.i .i64 (.c 0)), (.i .i64 (.c 0)), (.i .i64 (.c 0)), (.s (.sub (.c [43, 45, 42, 47, 37, 60, 62, 33, 61, 40, 41, 123, 125, 91, 93, 44, 59, 58, 46]) (.x 11) (.add (.x 11) (.c 1))))]), (.one (.i .i64 (.add (.x 0) (.c 1)))), (.one (.i .i64 (.c 0)))])))))
  (.need (.c true) (.and (.le (.c (-9223372036854775808)) (.add (.x 11) (.c 1))) (.le (.add (.x 11) (.c 1)) (.c 9223372036854775807)))
  (.again 1 ⟨9, 0, 2, 0, 1, 0⟩ ⟨16, 0, 3, 0, 1, 0⟩ ⟨[(.x 9), (.x 10), (.add (.x 11) (.c 1)), (.x 12), (.x 13), (.x 14), (.x 15)], [], [(.x 2)], [], [], []⟩)))))
  (.ret (.tup [(.agg [(.i .u8 (.c 0)), (.i .i64 (.c 0)), (.i .i64 (.c 0)), (.i .i64 (.c 0)), (.s (.c []))]), (.one (.i .i64 (.c 0))), (.one (.i .i64 (.c 4)))])))))))))))
  (.ite (.eqI (.x 1) (.c 2))
  (.call (.c true) false 51 [(.one (.s (.x 0))), (.one (.i .i64 (.x 0)))] (.p (.one (.i .i64 (.x 2)))) ⟨1, 0, 0, 0, 0, 0⟩
  (.need (.c true) (.and (.and (.le (.c 0) (.x 2)) (.le (.x 2) (.len (.x 0)))) (.and (.le (.c 0) (.x 0)) (.le (.x 0) (.x 2))))
  (.need (.c true) (.and (.le (.c 0) (.x 0)) (.lt (.x 0) (.len (.x 0))))
  (.call (.c true) false 50 [(.one (.i .u8 (.at (.x 0) (.x 0))))] (.p (.one (.i .i64 (.x 3)))) ⟨1, 0, 0, 0, 0, 0⟩
  (.ite (.eqI (.x 3) (.c 2))
  (.ret (.tup [(.agg [(.i .u8 (.c 2)), (.i .i64 (.c 0)), (.i .i64 (.c 0)), (.i .i64 (.c 0)), (.s (.sub (.x 0) (.x 0) (.x 2)))]), (.one (.i .i64 (.x 2))), (.one (.i .i64 (.c 0)))]))
  (.call (.c true) false 52 [(.one (.s (.sub (.x 0) (.x 0) (.x 2))))] (.p (.one (.b (.x 0)))) ⟨0, 1, 0, 0, 0, 0⟩
  (.ite (.x 0)
  (.ret (.tup [(.agg [(.i .u8 (.c 6)), (.i .i64 (.c 0)), (.i .i64 (.c 0)), (.i .i64 (.c 0)), (.s (.sub (.x 0) (.x 0) (.x 2)))]), (.one (.i .i64 (.x 2))), (.one (.i .i64 (.c 0)))]))
  (.ret (.tup [(.agg [(.i .u8 (.c 1)), (.i .i64 (.c 0)), (.i .i64 (.c 0)), (.i .i64 (.c 0)), (.s (.sub (.x 0) (.x 0) (.x 2)))]), (.one (.i .i64 (.x 2))), (.one (.i .i64 (.c 0)))])))))))))
  (.ite (.eqI (.x 1) (.c 3))
  (.call (.c true) false 53 [(.one (.s (.x 0))), (.one (.i .i64 (.x 0)))] (.tup [(.agg [(.i .u8 (.x 2)), (.i .i64 (.x 3)), (.i .i64 (.x 4)), (.i .i64 (.x 5)), (.s (.x 1))]), (.one (.i .i64 (.x 6))), (.one (.i .i64 (.x 7)))]) ⟨6, 0, 1, 0, 0, 0⟩
  (.ret (.tup [(.agg [(.i .u8 (.x 2)), (.i .i64 (.x 3)), (.i .i64 (.x 4)), (.i .i64 (.x 5)), (.s (.x 1))]), (.one (.i .i64 (.x 6))), (.one (.i .i64 (.x 7)))])))
  (.need (.c true) (.and (.le (.c 0) (.x 0)) (.lt (.x 0) (.len (.x 0))))
  (.ite (.eqI (.at (.x 0) (.x 0)) (.c 34))
  (.need (.c true) (.and (.le (.c 0) (.x 0)) (.le (.x 0) (.len (.x 0))))
  (.call (.c true) false 54 [(.one (.s (.sub (.x 0) (.x 0) (.len (.x 0)))))] (.tup [(.one (.s (.x 1))), (.one (.i .i64 (.x 2))), (.one (.b (.x 0)))]) ⟨1, 1, 1, 0, 0, 0⟩
  (.ite (.not (.x 0))
  (.ret (.tup [(.agg [(.i .u8 (.c 0)), (.i .i64 (.c 0)), (.i .i64 (.c 0)), (.i .i64 (.c 0)), (.s (.c []))]), (.one (.i .i64 (.c 0))), (.one (.i .i64 (.c 4)))]))
  (.need (.c true) (.and (.le (.c (-9223372036854775808)) (.add (.x 0) (.x 2))) (.le (.add (.x 0) (.x 2)) (.c 9223372036854775807)))
  (.ret (.tup [(.agg [(.i .u8 (.c 5)), (.i .i64 (.c 0)), (.i .i64 (.c 0)), (.i .i64 (.c 0)), (.s (.x 1))]), (.one (.i .i64 (.add (.x 0) (.x 2)))), (.one (.i .i64 (.c 0)))]))))))
  (.mk [(.s (.c [38, 38])), (.s (.c [124, 124])), (.s (.c [61, 61])), (.s (.c [33, 61])), (.s (.c [60, 61])), (.s (.c [62, 61]))] 9 6
  (.loop 0 ⟨[(.c 0), (.c 0), (.c 0), (.c 0), (.c 0), (.c 0), (.c 0)], [], [(.c [])], [], [], []⟩
  (.ite (.lt (.x 4) (.cnt (.x 0)))
  (.load (.le (.add (.x 0) (.c 2)) (.len (.x 0))) (.el (.x 0) (.x 4) 1 0) 1 [(.s (.x 2))] ⟨0, 0, 1, 0, 0, 0⟩
  (.need (.c true) (.and (.le (.c (-9223372036854775808)) (.add (.x 0) (.c 2))) (.le (.add (.x 0) (.c 2)) (.c 9223372036854775807)))
  (.need (.le (.add (.x 0) (.c 2)) (.len (.x 0))) (.and (.le (.c (-9223372036854775808)) (.add (.x 0) (.c 2))) (.le (.add (.x 0) (.c 2)) (.c 9223372036854775807)))
  (.need (.le (.add (.x 0) (.c 2)) (.len (.x 0))) (.and (.and (.le (.c 0) (.add (.x 0) (.c 2))) (.le (.add (.x 0) (.c 2)) (.len (.x 0)))) (.and (.le (.c 0) (.x 0)) (.le (.x 0) (.add (.x 0) (.c 2)))))
  (.need (.le (.add (.x 0) (.c 2)) (.len (.x 0))) (.and (.and (.le (.c 0) (.x 4)) (.lt (.x 4) (.cnt (.x 0)))) (.nns (.x 0)))
  (.ite (.and (.le (.add (.x 0) (.c 2)) (.len (.x 0))) (.eqS (.sub (.x 0) (.x 0) (.add (.x 0) (.c 2))) (.x 2)))
  (.need (.c true) (.and (.and (.le (.c 0) (.x 4)) (.lt (.x 4) (.cnt (.x 0)))) (.nns (.x 0)))
  (.load (.c true) (.el (.x 0) (.x 4) 1 0) 1 [(.s (.x 3))] ⟨0, 0, 1, 0, 0, 0⟩
  (.need (.c true) (.and (.le (.c (-9223372036854775808)) (.add (.x 0) (.c 2))) (.le (.add (.x 0) (.c 2)) (.c 9223372036854775807)))
  (.ret (.tup [(.agg [(.i .u8 (.c 7)), (.i .i64 (.c 0)), (.i .i64 (.c 0)), (.i .i64 (.c 0)), (.s (.x 3))]), (.one (.i .i64 (.add (.x 0) (.c 2)))), (.one (.i .i64 (.c 0)))])))))
  (.need (.c true) (.and (.le (.c (-9223372036854775808)) (.add (.x 4) (.c 1))) (.le (.add (.x 4) (.c 1)) (.c 9223372036854775807)))
  (.again 0 ⟨2, 0, 1, 0, 1, 0⟩ ⟨9, 0, 2, 0, 1, 0⟩ ⟨[(.x 2), (.x 3), (.add (.x 4) (.c 1)), (.x 5), (.x 6), (.x 7), (.x 8)], [], [(.x 1)], [], [], []⟩))))))))
  (.loop 1 ⟨[(.x 2), (.x 3), (.c 0), (.x 5), (.x 6), (.x 7), (.x 8)], [], [(.x 1)], [], [], []⟩
  (.ite (.lt (.x 11) (.len (.c [43, 45, 42, 47, 37, 60, 62, 33, 61, 40, 41, 123, 125, 91, 93, 44, 59, 58, 46])))
  (.need (.c true) (.and (.le (.c 0) (.x 0)) (.lt (.x 0) (.len (.x 0))))
  (.need (.c true) (.and (.le (.c 0) (.x 11)) (.lt (.x 11) (.len (.c [43, 45, 42, 47, 37, 60, 62, 33, 61, 40, 41, 123, 125, 91, 93, 44, 59, 58, 46]))))
  (.ite (.eqI (.at (.x 0) (.x 0)) (.at (.c [43, 45, 42, 47, 37, 60, 62, 33, 61, 40, 41, 123, 125, 91, 93, 44, 59, 58, 46]) (.x 11)))
  (.need (.c true) (.and (.le (.c (-9223372036854775808)) (.add (.x 11) (.c 1))) (.le (.add (.x 11) (.c 1)) (.c 9223372036854775807)))
  (.need (.c true) (.and (.and (.le (.c 0) (.add (.x 11) (.c 1))) (.le (.add (.x 11) (.c 1)) (.len (.c [43, 45, 42, 47, 37, 60, 62, 33, 61, 40, 41, 123, 125, 91, 93, 44, 59, 58, 46])))) (.and (.le (.c 0) (.x 11)) (.le (.x 11) (.add (.x 11) (.c 1)))))
  (.need (.c true) (.and (.le (.c (-9223372036854775808)) (.add (.x 0) (.c 1))) (.le (.add (.x 0) (.c 1)) (.c 9223372036854775807)))
  (.ret (.tup [(.agg [(.i .u8 (.c 7)), (.i .i64 (.c 0)), (.i .i64 (.c 0)), (.i .i64 (.c 0)), (.s (.sub (.c [43, 45, 42, 47, 37, 60, 62, 33, 61, 40, 41, 123, 125, 91, 93, 44, 59, 58, 46]) (.x 11) (.add (.x 11) (.c 1))))]), (.one (.i .i64 (.add (.x 0) (.c 1)))), (.one (.i .i64 (.c 0)))])))))
  (.need (.c true) (.and (.le (.c (-9223372036854775808)) (.add (.x 11) (.c 1))) (.le (.add (.x 11) (.c 1)) (.c 9223372036854775807)))
  (.again 1 ⟨9, 0, 2, 0, 1, 0⟩ ⟨16, 0, 3, 0, 1, 0⟩ ⟨[(.x 9), (.x 10), (.add (.x 11) (.c 1)), (.x 12), (.x 13), (.x 14), (.x 15)], [], [(.x 2)], [], [], []⟩)))))
  (.ret (.tup [(.agg [(.i .u8 (.c 0)), (.i .i64 (.c 0)), (.i .i64 (.c 0)), (.i .i64 (.c 0)), (.s (.c []))]), (.one (.i .i64 (.c 0))), (.one (.i .i64 (.c 4)))]))))))))))))))
theorem gen_rone : genFn ⟨true, []⟩ Tryz.prog (fun l => ([⟨[5, 6, 74], [75, 76, 13, 77, 78, 79, 80, 81, 82, 83, 84, 85, 86, 87, 88, 89, 90, 91, 92, 93, 94, 95, 96, 97, 98, 99, 100, 101], [4]⟩, ⟨[5, 6, 15], [102, 103, 104, 105, 108, 109, 110, 111, 112, 113, 114, 115, 116, 117, 118, 119, 120, 121, 122, 106, 107], [4]⟩] : List LAnn).getD l ⟨[], [], []⟩) Tryz.f25 = fm_rone := by kernel_rfl
theorem ps_rone : freshPs Tryz.prog .zero Tryz.f25.params.toList = some ([(.one (.s (.x 0))), (.one (.i .i64 (.x 0)))], ⟨1, 0, 1, 0, 0, 0⟩) := by kernel_rfl
end Go.Proofs.YthlakehilhpojaaGreatDoor
namespace Go.Proofs.YthlakehilhpojaaGreatDoor
open Go.RowKit
attribute [local go_sem] says_tt says_ff th_need th_ite th_call th_callK th_load th_store says_ret says_again BE.den IE.den SE.den LE.den AE.den CE.den PE.den VE.den KV.val Got.den Got.cnt exI allI exL allL Ctx.push Ctx.heap Ctx.cut Ctx.bare Ctx.mark Inc.blank List.getD_cons_zero List.getD_cons_succ List.cons_append List.nil_append List.append_nil List.map_cons List.map_nil List.replicate_zero List.replicate_succ specOf ltB_t leB_t ltB_f leB_f slc_val slc_nil slc_inj pt_val pt_nil hle_noHeap hle_refl hread_set hwrite_set set_same set_set noHeap_at B_inj ones_nil and_assoc
def TWO : List (List UInt8) := [[38, 38], [124, 124], [61, 61], [33, 61], [60, 61], [62, 61]]
def ONE : List UInt8 := [43, 45, 42, 47, 37, 60, 62, 33, 61, 40, 41, 123, 125, 91, 93, 44, 59, 58, 46]
theorem all_two : allSigns = TWO ++ ONE.map fun c => [c] := rfl
theorem find_hit {α : Type} (P : α → Bool) : ∀ (l : List α) (j : Nat) (x : α), l[j]? = some x → P x = true → (∀ k y, k < j → l[k]? = some y → P y = false) → l.find? P = some x
  | [], j, x, h, _, _ => by cases h
  | a :: l, 0, x, h, hp, _ => by
    have e : a = x := by simpa using h
    rw [List.find?_cons, e, hp]
  | a :: l, j + 1, x, h, hp, hn => by
    rw [List.find?_cons, hn 0 a (by omega) rfl]
    exact find_hit P l j x (by simpa using h) hp (fun k y hk hy => hn (k + 1) y (by omega) (by simpa using hy))
theorem find_miss {α : Type} (P : α → Bool) (l : List α) (h : ∀ (k : Nat) y, l[k]? = some y → P y = false) : l.find? P = none := by
  rw [List.find?_eq_none]
  intro x hx
  obtain ⟨k, hk⟩ := List.getElem?_of_mem hx
  rw [h k x hk]; simp
theorem two_pre {s p : List UInt8} {i : Nat} (hp : p.length = 2) : p.isPrefixOf (s.drop i) = true ↔ (i + 2 ≤ s.length ∧ sub s i (i + 2) = p) := by
  have e : sub s i (i + 2) = (s.drop i).take 2 := by
    unfold sub; rw [List.drop_take]; congr 1; omega
  rw [List.isPrefixOf_iff_prefix, List.prefix_iff_eq_take, hp, e]
  constructor
  · intro h
    have := congrArg List.length h
    rw [hp, List.length_take, List.length_drop] at this
    exact ⟨by omega, h.symm⟩
  · intro h; exact h.2.symm
theorem one_pre {s : List UInt8} {i : Nat} (hi : i < s.length) (c : UInt8) : [c].isPrefixOf (s.drop i) = true ↔ bt s i = c.toNat := by
  rw [List.drop_eq_getElem_cons hi, bt_eq s i hi]
  simp [List.isPrefixOf]
  constructor
  · rintro rfl; rfl
  · intro h; exact (UInt8.toNat_inj.1 (by omega))
def NoTwo (s : List UInt8) (i0 j : Nat) : Prop := ∀ (k : Nat) y, k < j → TWO[k]? = some y → y.isPrefixOf (s.drop i0) = false
def oInv (h : Hp) (s : List UInt8) (i0 : Nat) : Nat → Ctx → Prop
  | 0, C => ∃ kx a0 a1 j a3 a4 a5 a6 t b, C = ⟨[(i0 : Nat), kx, a0, a1, (j : Nat), a3, a4, a5, a6], [], [s, t], [], [⟨some (b, 0), 6, 6⟩], [], Hp.set h b ⟨strs TWO, 9⟩, noM⟩ ∧ h b = none ∧ j ≤ 6 ∧ NoTwo s i0 j
  | _ + 1, C => ∃ kx a0 a1 a2 a3 a4 a5 a6 c0 c1 j c3 c4 c5 c6 t t' b, C = ⟨[(i0 : Nat), kx, a0, a1, a2, a3, a4, a5, a6, c0, c1, (j : Nat), c3, c4, c5, c6], [], [s, t, t'], [], [⟨some (b, 0), 6, 6⟩], [], Hp.set h b ⟨strs TWO, 9⟩, noM⟩ ∧ h b = none ∧ j ≤ 19 ∧ NoTwo s i0 6 ∧
      ∀ (k : Nat) y, k < j → ONE[k]? = some y → bt s i0 ≠ y.toNat
def oMeas : Nat → Ctx → Nat
  | 0, C => (6 - C.i.getD 4 0).toNat
  | _ + 1, C => (19 - C.i.getD 11 0).toNat
theorem one_sg {s : List UInt8} {i0 : Nat} (hk : ¬ (kdi (bt s i0) = 1 ∨ kdi (bt s i0) = 2)) (hk3 : ¬ kdi (bt s i0) = 3) (h34 : ¬ bt s i0 = 34) : one s i0 = if sg (s.drop i0) = [] then ⟨4, 0, [], 0, 0⟩ else ⟨0, 7, sg (s.drop i0), 0, i0 + (sg (s.drop i0)).length⟩ := by
  unfold one
  rw [if_neg hk, if_neg hk3, if_neg h34]
theorem sg_two {s : List UInt8} {i0 j : Nat} {x : List UInt8} (hn : NoTwo s i0 j) (hx : TWO[j]? = some x) (hp : x.isPrefixOf (s.drop i0) = true) : sg (s.drop i0) = x := by
  unfold sg
  rw [all_two, List.find?_append, find_hit (fun p => p.isPrefixOf (s.drop i0)) TWO j x hx hp (fun k y hk hy => hn k y hk hy)]
  rfl
theorem miss_two {s : List UInt8} {i0 : Nat} (hn : NoTwo s i0 6) : TWO.find? (fun p => p.isPrefixOf (s.drop i0)) = none :=
  find_miss _ _ fun k y hy => hn k y (by have := (List.getElem?_eq_some_iff.1 hy).1; exact this) hy
theorem sg_one {s : List UInt8} {i0 j : Nat} {c : UInt8} (hi : i0 < s.length) (hn : NoTwo s i0 6) (hj : ∀ (k : Nat) y, k < j → ONE[k]? = some y → bt s i0 ≠ y.toNat) (hx : ONE[j]? = some c) (hp : bt s i0 = c.toNat) : sg (s.drop i0) = [c] := by
  unfold sg
  rw [all_two, List.find?_append, miss_two hn, Option.none_or, find_hit (fun p => p.isPrefixOf (s.drop i0)) (ONE.map fun c => [c]) j [c] (by simp [hx]) ((one_pre hi c).2 hp) (fun k y hk hy => ?_)]
  · rfl
  · simp only [List.getElem?_map, Option.map_eq_some_iff] at hy
    obtain ⟨d, hd, rfl⟩ := hy
    cases hq : [d].isPrefixOf (s.drop i0)
    · rfl
    · exact absurd ((one_pre hi d).1 hq) (hj k d hk hd)
theorem sg_none {s : List UInt8} {i0 : Nat} (hi : i0 < s.length) (hn : NoTwo s i0 6) (hj : ∀ (k : Nat) y, k < 19 → ONE[k]? = some y → bt s i0 ≠ y.toNat) : sg (s.drop i0) = [] := by
  unfold sg
  rw [all_two, List.find?_append, miss_two hn, Option.none_or, find_miss (fun p => p.isPrefixOf (s.drop i0)) (ONE.map fun c => [c]) (fun k y hy => ?_)]
  · rfl
  · simp only [List.getElem?_map, Option.map_eq_some_iff] at hy
    obtain ⟨d, hd, rfl⟩ := hy
    cases hq : [d].isPrefixOf (s.drop i0)
    · rfl
    · exact absurd ((one_pre hi d).1 hq) (hj k d (by have := (List.getElem?_eq_some_iff.1 hd).1; exact this) hd)
set_option maxRecDepth 100000 in
set_option maxHeartbeats 8000000 in
def ctROne : Ct Tryz.prog where
  f := 25
  spec := fun args h φ => ∃ s i0, args = [.string (B s), .int .i64 (i0 : Nat)] ∧ i0 < s.length ∧ s.length ≤ 100000 ∧
    (if (one s i0).f = 0 then φ (.tuple #[tkv (one s i0).k 0 0 (one s i0).n (one s i0).x, .int .i64 ((one s i0).e : Nat), .int .i64 0]) h
      else ∀ kk, φ (.tuple #[tkv kk 0 0 0 [], .int .i64 0, .int .i64 (one s i0).f]) h)
  ok := by
    rintro args h φ w ⟨s, i0, rfl, hi0, hlen, hφ⟩ hH
    refine ct_forget (by_fm Tryz.func25 gen_rone ps_rone [ctKind, ctRInner, ctRWord, ctRNumber, ctRRead] (fun v k => ∃ k', HLe k' k ∧ φ v k') (oInv h s i0) oMeas ⟨[(i0 : Nat)], [], [s], [], [], [], h, noM⟩ ⟨rfl, rfl, rfl, rfl, rfl, rfl⟩ ones_nil ?_ w hH rfl)
    generalize hE : (⟨specOf _, _, _, _⟩ : Env) = E
    have s1 : E.spec 50 = ctKind.spec := by rw [← hE]; rfl
    have s2 : E.spec 51 = ctRInner.spec := by rw [← hE]; rfl
    have s3 : E.spec 52 = ctRWord.spec := by rw [← hE]; rfl
    have s4 : E.spec 53 = ctRNumber.spec := by rw [← hE]; rfl
    have s5 : E.spec 54 = ctRRead.spec := by rw [← hE]; rfl
    have ep : E.post = fun v k => ∃ k', HLe k' k ∧ φ v k' := by rw [← hE]
    have ei : E.inv = oInv h s i0 := by rw [← hE]
    have em : E.meas = oMeas := by rw [← hE]
    clear hE
    have hz : (i0 : Int) < s.length := by omega
    rw [← then_step]; unfold fm_rone
    by_cases k1 : kdi (bt s i0) = 1
    · iterate 4 (try simp only [then_step]; try simp [go_sem, s1, ctKind, hz, k1])
      have hin : inB (bt s i0) = true := by simp [inB, k1]
      have hone : one s i0 = ⟨0, nameK (bt s i0) (sub s i0 (i0 + rn inB s i0)), sub s i0 (i0 + rn inB s i0), 0, i0 + rn inB s i0⟩ := by unfold one; rw [if_pos (.inl k1)]
      have hle := rn_le (p := inB) (s := s) (i := i0) (by omega)
      rw [hone, if_pos rfl] at hφ
      rw [then_step, th_call, if_pos (by rfl), s2]
      refine ⟨s, i0, rfl, by omega, by omega, by omega, (fun h => by cases h), ?_⟩
      rw [Int.toNat_natCast]
      simp [go_sem]
      generalize rn inB s i0 = N at *
      have e1 : ((i0 : Int) + N).toNat = i0 + N := by omega
      have e2 : List.drop i0 (List.take (i0 + N) s) = sub s i0 (i0 + N) := rfl
      iterate 5 (try simp only [then_step]; try simp [go_sem, s1, ctKind, hz, k1, e1, e2])
      refine ⟨by omega, by omega, by omega, ?_⟩
      rw [s3]
      refine ⟨sub s i0 (i0 + N), rfl, fun k' hk' => ?_⟩
      have hk2' : ¬ kdi (bt s i0) = 2 := by omega
      unfold nameK at hφ
      rw [if_neg hk2'] at hφ
      cases hw : wordB (sub s i0 (i0 + N))
      · rw [hw] at hφ
        refine .inl ⟨rfl, ?_⟩
        iterate 2 (try simp only [then_step]; try simp [go_sem, ep, e1, e2])
        exact ⟨h, hk', by simpa [tkv] using hφ⟩
      · rw [hw] at hφ
        refine .inr ⟨rfl, ?_⟩
        iterate 2 (try simp only [then_step]; try simp [go_sem, ep, e1, e2])
        exact ⟨h, hk', by simpa [tkv] using hφ⟩
    by_cases k2 : kdi (bt s i0) = 2
    · iterate 4 (try simp only [then_step]; try simp [go_sem, s1, ctKind, hz, k2])
      have hin : inB (bt s i0) = true := by simp [inB, k2]
      have hone : one s i0 = ⟨0, nameK (bt s i0) (sub s i0 (i0 + rn inB s i0)), sub s i0 (i0 + rn inB s i0), 0, i0 + rn inB s i0⟩ := by unfold one; rw [if_pos (.inr k2)]
      have hle := rn_le (p := inB) (s := s) (i := i0) (by omega)
      rw [hone, if_pos rfl] at hφ
      rw [then_step, th_call, if_pos (by rfl), s2]
      refine ⟨s, i0, rfl, by omega, by omega, by omega, (fun h => by cases h), ?_⟩
      rw [Int.toNat_natCast]
      simp [go_sem]
      generalize rn inB s i0 = N at *
      have e1 : ((i0 : Int) + N).toNat = i0 + N := by omega
      have e2 : List.drop i0 (List.take (i0 + N) s) = sub s i0 (i0 + N) := rfl
      iterate 5 (try simp only [then_step]; try simp [go_sem, s1, ctKind, hz, k2, e1, e2, ep])
      unfold nameK at hφ
      rw [if_pos k2] at hφ
      exact ⟨by omega, by omega, by omega, h, fun _ _ h => h, by simpa [tkv] using hφ⟩
    by_cases k3 : kdi (bt s i0) = 3
    · iterate 5 (try simp only [then_step]; try simp [go_sem, s1, ctKind, hz, k3])
      have hone : one s i0 = ⟨(nm s i0).1, (nm s i0).2.1, [], (nm s i0).2.2.1, (nm s i0).2.2.2⟩ := by unfold one; rw [if_neg (by omega), if_pos k3]
      rw [hone] at hφ
      rw [then_step, th_call, if_pos (by rfl), s4]
      refine ⟨s, i0, rfl, hi0, hlen, by simp [dgB, k3], ?_⟩
      by_cases hn : (nm s i0).1 = 0
      · rw [if_pos hn] at hφ ⊢
        refine ⟨(fun h => by cases h), ?_⟩
        simp only [tkv]
        simp [go_sem]
        iterate 1 (try simp only [then_step]; try simp [go_sem, ep])
        exact ⟨h, fun _ _ h => h, by simpa [tkv] using hφ⟩
      · rw [if_neg hn] at hφ ⊢
        intro kk
        refine ⟨(fun h => by cases h), ?_⟩
        simp only [tkv]
        simp [go_sem]
        iterate 1 (try simp only [then_step]; try simp [go_sem, ep])
        exact ⟨h, fun _ _ h => h, by simpa [tkv] using hφ kk⟩
    by_cases h34 : bt s i0 = 34
    · have hk34 : kdi 34 = 0 := by decide
      iterate 8 (try simp only [then_step]; try simp [go_sem, s1, ctKind, hz, h34, hk34])
      refine ⟨by omega, ?_⟩
      have hdl : (s.drop i0).length = s.length - i0 := List.length_drop
      have htl : List.drop i0 (List.take s.length s) = s.drop i0 := by rw [List.take_length]
      have hk12 : ¬ (kdi (bt s i0) = 1 ∨ kdi (bt s i0) = 2) := by omega
      rw [then_step, th_call, if_pos (by rfl), s5]
      refine ⟨s.drop i0, by simp [go_sem], by omega, ?_⟩
      cases hq : rdq (s.drop i0) with
      | none =>
        have hone : one s i0 = ⟨4, 0, [], 0, 0⟩ := by
          unfold one; rw [if_neg hk12, if_neg k3, if_pos h34, hq]
        rw [hone, if_neg (by decide)] at hφ
        intro t n
        refine ⟨(fun h => by cases h), ?_⟩
        simp [go_sem]
        iterate 2 (try simp only [then_step]; try simp [go_sem, ep])
        exact ⟨h, fun _ _ h => h, by simpa [tkv] using hφ 0⟩
      | some r =>
        obtain ⟨t, m⟩ := r
        obtain ⟨m1, m2, _⟩ := rdq_some hq
        have hone : one s i0 = ⟨0, 5, t, 0, i0 + m⟩ := by
          unfold one; rw [if_neg hk12, if_neg k3, if_pos h34, hq]
        rw [hone, if_pos rfl] at hφ
        refine ⟨(fun h => by cases h), ?_⟩
        simp [go_sem]
        iterate 3 (try simp only [then_step]; try simp [go_sem, ep])
        exact ⟨by omega, by omega, h, fun _ _ h => h, by simpa [tkv] using hφ⟩
    iterate 7 (try simp only [then_step]; try simp [go_sem, s1, ctKind, hz, k1, k2, k3, h34])
    have hk12 : ¬ (kdi (bt s i0) = 1 ∨ kdi (bt s i0) = 2) := by omega
    have hone := one_sg hk12 k3 h34
    rw [then_step, th_mk]
    intro b hb
    refine loop_intro ?_ ?_
    · rw [ei]
      exact ⟨kdi (bt s i0), 0, 0, 0, 0, 0, 0, 0, [], b, rfl, hb, by omega, fun k y hk => by omega⟩
    rw [ei, em]
    rintro i' bb ss v ll pp hh0 M ⟨kx, a0, a1, j, a3, a4, a5, a6, t, b', hC, hb', hj6, hno⟩ hM
    cases hC
    have hM' : M 0 = ((6 : Int) - j).toNat := hM
    clear hM hb
    have hle' : HLe h (Hp.set h b' ⟨strs TWO, 9⟩) := hle_set hb' _
    have kb : (Hp.set h b' ⟨strs TWO, 9⟩) b' = some ⟨strs TWO, 9⟩ := set_same _ _ _
    generalize hHd : Hp.set h b' ⟨strs TWO, 9⟩ = H at *
    rw [← then_step]
    by_cases hj : j < 6
    · have hjz : (j : Int) < 6 := by omega
      obtain ⟨x, hx⟩ : ∃ x, TWO[j]? = some x := ⟨_, List.getElem?_eq_getElem (show j < TWO.length from hj)⟩
      have hx2 : x.length = 2 := by
        have hall : TWO.all (fun x => decide (x.length = 2)) = true := by decide
        simpa using List.all_eq_true.1 hall x (List.mem_of_getElem? hx)
      have hrd := hread_strs kb hx
      have e1 : ((i0 : Int) + 2).toNat = i0 + 2 := by omega
      have e2 : List.drop i0 (List.take (i0 + 2) s) = sub s i0 (i0 + 2) := rfl
      have nt : x.isPrefixOf (s.drop i0) = false → NoTwo s i0 (j + 1) := fun hf k y hk hy => by
        by_cases e : k = j
        · subst e; rw [hx] at hy; cases hy; exact hf
        · exact hno k y (by omega) hy
      by_cases h2 : i0 + 2 ≤ s.length
      · have h2z : (i0 : Int) + 2 ≤ s.length := by omega
        by_cases hp : sub s i0 (i0 + 2) = x
        · have hsg := sg_two hno hx ((two_pre hx2).2 ⟨h2, hp⟩)
          rw [hsg, if_neg (by intro e; rw [e] at hx2; cases hx2)] at hone
          rw [hone, if_pos rfl] at hφ
          iterate 11 (try simp only [then_step]; try simp [go_sem, ep, hjz, hrd, h2z, e1, e2, hp])
          refine ⟨by omega, by omega, by omega, by omega, by omega, by omega, by omega, by omega, h, hle', ?_⟩
          have hl2 : ((i0 + x.length : Nat) : Int) = (i0 : Int) + 2 := by omega
          simpa [tkv, hl2, hx2] using hφ
        · iterate 11 (try simp only [then_step]; try simp [go_sem, ei, em, hjz, hrd, h2z, e1, e2, hp])
          refine ⟨by omega, by omega, by omega, by omega, by omega, by omega, by omega, by omega, ⟨kx, a0, a1, j + 1, a3, a4, a5, a6, t, b', by rw [hHd, show ((j + 1 : Nat) : Int) = (j : Int) + 1 by omega], hb', by omega, nt ?_⟩, ?_⟩
          · cases hq : x.isPrefixOf (s.drop i0)
            · rfl
            · exact absurd ((two_pre hx2).1 hq).2 hp
          · simp only [oMeas, List.getD_cons_succ, List.getD_cons_zero]
            omega
      · have h2z : ¬ (i0 : Int) + 2 ≤ s.length := by omega
        iterate 11 (try simp only [then_step]; try simp [go_sem, ei, em, hjz, h2z])
        refine ⟨by omega, by omega, by omega, by omega, ⟨kx, a0, a1, j + 1, a3, a4, a5, a6, t, b', by rw [hHd, show ((j + 1 : Nat) : Int) = (j : Int) + 1 by omega], hb', by omega, nt ?_⟩, ?_⟩
        · cases hq : x.isPrefixOf (s.drop i0)
          · rfl
          · exact absurd ((two_pre hx2).1 hq).1 h2
        · simp only [oMeas, List.getD_cons_succ, List.getD_cons_zero]
          omega
    · have hjz : ¬ (j : Int) < 6 := by omega
      iterate 1 (try simp only [then_step]; try simp [go_sem, hjz])
      try rw [then_step]
      refine loop_intro ?_ ?_
      · rw [ei]
        exact ⟨kx, a0, a1, (j : Nat), a3, a4, a5, a6, a0, a1, 0, a3, a4, a5, a6, t, t, b', by rw [hHd]; rfl, hb', by omega, by rw [show j = 6 by omega] at hno; exact hno, fun k y hk => by omega⟩
      · clear hno hM' hj6 hj hjz
        clear hle' kb hHd
        rw [ei, em]
        rintro i' bb ss v ll pp hh1 M1 ⟨kx1, d0, d1, d2, d3, d4, d5, d6, c0, c1, j1, c3, c4, c5, c6, t1, t2, b1, hC, hb1, hj19, hno6, hn1⟩ hM
        cases hC
        have hM' : M1 1 = ((19 : Int) - j1).toNat := hM
        clear hM
        have hle' : HLe h (Hp.set h b1 ⟨strs TWO, 9⟩) := hle_set hb1 _
        generalize hHd : Hp.set h b1 ⟨strs TWO, 9⟩ = H1 at *
        have hONE : ([43, 45, 42, 47, 37, 60, 62, 33, 61, 40, 41, 123, 125, 91, 93, 44, 59, 58, 46] : List UInt8) = ONE := rfl
        have hol : ONE.length = 19 := rfl
        rw [← then_step]
        by_cases hj : j1 < 19
        · have hjz : (j1 : Int) < 19 := by omega
          obtain ⟨c, hc⟩ : ∃ c, ONE[j1]? = some c := ⟨_, List.getElem?_eq_getElem (show j1 < ONE.length from hj)⟩
          have hob : bt ONE j1 = c.toNat := by
            have hjl : j1 < ONE.length := hj
            rw [bt_eq ONE j1 hjl, (List.getElem?_eq_some_iff.1 hc).2]
          have e1 : ((j1 : Int) + 1).toNat = j1 + 1 := by omega
          have e3 : List.drop j1 (List.take (j1 + 1) ONE) = [c] := by
            have hjl : j1 < ONE.length := hj
            have := sub_cons ONE (i := j1) (j := j1 + 1) (by omega) hjl
            rw [sub_same, (List.getElem?_eq_some_iff.1 hc).2] at this
            exact this
          by_cases hp : bt s i0 = bt ONE j1
          · have hsg := sg_one hi0 hno6 hn1 hc (by rw [hp, hob])
            rw [hsg, if_neg (by simp)] at hone
            rw [hone, if_pos rfl] at hφ
            iterate 9 (try simp only [then_step]; try simp [go_sem, ep, hONE, hol, hjz, hz, hp, e1, e3])
            exact ⟨by omega, by omega, by omega, by omega, by omega, by omega, by omega, h, hle', by simpa [tkv] using hφ⟩
          · iterate 9 (try simp only [then_step]; try simp [go_sem, ei, em, hONE, hol, hjz, hz, hp])
            refine ⟨by omega, by omega, ⟨kx1, d0, d1, d2, d3, d4, d5, d6, c0, c1, j1 + 1, c3, c4, c5, c6, t1, t2, b1, by rw [hHd, show ((j1 + 1 : Nat) : Int) = (j1 : Int) + 1 by omega], hb1, by omega, hno6, fun k y hk hy => ?_⟩, ?_⟩
            · by_cases e : k = j1
              · subst e; rw [hc] at hy; cases hy; rw [← hob]; exact hp
              · exact hn1 k y (by omega) hy
            · simp only [oMeas, List.getD_cons_succ, List.getD_cons_zero]
              omega
        · have hjz : ¬ (j1 : Int) < 19 := by omega
          have hsg := sg_none hi0 hno6 (by rw [show j1 = 19 by omega] at hn1; exact hn1)
          rw [hsg, if_pos rfl] at hone
          rw [hone, if_neg (by decide)] at hφ
          iterate 3 (try simp only [then_step]; try simp [go_sem, ep, hONE, hol, hjz])
          exact ⟨h, hle', by simpa [tkv] using hφ 0⟩
end Go.Proofs.YthlakehilhpojaaGreatDoor
namespace Go.Proofs.YthlakehilhpojaaGreatDoor
open Go.RowKit
attribute [local go_sem] says_tt says_ff th_need th_ite th_call th_callK th_load th_store says_ret says_again BE.den IE.den SE.den LE.den AE.den CE.den PE.den VE.den KV.val Got.den Got.cnt exI allI exL allL Ctx.push Ctx.heap Ctx.cut Ctx.bare Ctx.mark Inc.blank List.getD_cons_zero List.getD_cons_succ List.cons_append List.nil_append List.append_nil List.map_cons List.map_nil List.replicate_zero List.replicate_succ specOf ltB_t leB_t ltB_f leB_f slc_val slc_nil slc_inj pt_val pt_nil hle_noHeap hle_refl hread_set hwrite_set set_same set_set noHeap_at B_inj ones_nil and_assoc
def fm_rtokens : Fm := (.mk [] 51 0
  (.ite (.lt (.c 65536) (.len (.x 0)))
  (.ret (.tup [(.one (.sl (.x 0))), (.agg [(.i .i64 (.c 3)), (.i .i64 (.c 0)), (.i .i64 (.c 0))])]))
  (.mk [] 51 0
  (.call (.c true) false 23 [(.one (.s (.x 0))), (.one (.i .i64 (.c 0)))] (.p (.one (.i .i64 (.x 0)))) ⟨1, 0, 0, 0, 0, 0⟩
  (.loop 0 ⟨[(.x 0), (.c 0), (.c 1), (.c 1), (.c 0), (.c 0), (.c 0)], [], [], [], [.nil, (.x 1)], []⟩
  (.need (.c true) (.and (.le (.c 0) (.x 2)) (.le (.x 2) (.len (.x 0))))
  (.need (.c true) (.and (.le (.c (-9223372036854775808)) (.sub (.x 1) (.x 2))) (.le (.sub (.x 1) (.x 2)) (.c 9223372036854775807)))
  (.call (.c true) false 24 [(.one (.s (.sub (.x 0) (.x 2) (.len (.x 0))))), (.one (.i .i64 (.sub (.x 1) (.x 2))))] (.tup [(.one (.i .i64 (.x 8))), (.one (.i .i64 (.x 9)))]) ⟨2, 0, 0, 0, 0, 0⟩
  (.ite (.lt (.c 1) (.x 8))
  (.need (.c true) (.and (.le (.c (-9223372036854775808)) (.sub (.x 8) (.c 1))) (.le (.sub (.x 8) (.c 1)) (.c 9223372036854775807)))
  (.need (.c true) (.and (.le (.c (-9223372036854775808)) (.add (.x 3) (.sub (.x 8) (.c 1)))) (.le (.add (.x 3) (.sub (.x 8) (.c 1))) (.c 9223372036854775807)))
  (.ite (.le (.len (.x 0)) (.x 1))
  (.mk [(.i .u8 (.c 8)), (.i .i64 (.add (.x 3) (.sub (.x 8) (.c 1)))), (.i .i64 (.x 9)), (.i .i64 (.c 0)), (.s (.c []))] 51 1
  (.app (.x 3) (.x 4) 5 48 51
  (.ret (.tup [(.one (.sl (.x 5))), (.agg [(.i .i64 (.c 0)), (.i .i64 (.c 0)), (.i .i64 (.c 0))])]))))
  (.call (.c true) false 25 [(.one (.s (.x 0))), (.one (.i .i64 (.x 1)))] (.tup [(.agg [(.i .u8 (.x 10)), (.i .i64 (.x 11)), (.i .i64 (.x 12)), (.i .i64 (.x 13)), (.s (.x 1))]), (.one (.i .i64 (.x 14))), (.one (.i .i64 (.x 15)))]) ⟨6, 0, 1, 0, 0, 0⟩
  (.ite (.not (.eqI (.x 15) (.c 0)))
  (.ret (.tup [(.one (.sl (.x 0))), (.agg [(.i .i64 (.x 15)), (.i .i64 (.add (.x 3) (.sub (.x 8) (.c 1)))), (.i .i64 (.x 9))])]))
  (.mk [(.i .u8 (.x 10)), (.i .i64 (.add (.x 3) (.sub (.x 8) (.c 1)))), (.i .i64 (.x 9)), (.i .i64 (.x 13)), (.s (.x 1))] 51 1
  (.app (.x 3) (.x 4) 5 48 51
  (.call (.c true) false 23 [(.one (.s (.x 0))), (.one (.i .i64 (.x 14)))] (.p (.one (.i .i64 (.x 16)))) ⟨1, 0, 0, 0, 0, 0⟩
  (.again 0 ⟨1, 0, 1, 0, 2, 0⟩ ⟨8, 0, 1, 0, 4, 0⟩ ⟨[(.x 16), (.x 1), (.add (.x 3) (.sub (.x 8) (.c 1))), (.x 9), (.x 5), (.x 6), (.x 7)], [], [], [], [(.x 2), (.x 5)], []⟩)))))))))
  (.need (.c true) (.and (.le (.c (-9223372036854775808)) (.sub (.x 9) (.c 1))) (.le (.sub (.x 9) (.c 1)) (.c 9223372036854775807)))
  (.need (.c true) (.and (.le (.c (-9223372036854775808)) (.add (.x 4) (.sub (.x 9) (.c 1)))) (.le (.add (.x 4) (.sub (.x 9) (.c 1))) (.c 9223372036854775807)))
  (.ite (.le (.len (.x 0)) (.x 1))
  (.mk [(.i .u8 (.c 8)), (.i .i64 (.x 3)), (.i .i64 (.add (.x 4) (.sub (.x 9) (.c 1)))), (.i .i64 (.c 0)), (.s (.c []))] 51 1
  (.app (.x 3) (.x 4) 5 48 51
  (.ret (.tup [(.one (.sl (.x 5))), (.agg [(.i .i64 (.c 0)), (.i .i64 (.c 0)), (.i .i64 (.c 0))])]))))
  (.call (.c true) false 25 [(.one (.s (.x 0))), (.one (.i .i64 (.x 1)))] (.tup [(.agg [(.i .u8 (.x 10)), (.i .i64 (.x 11)), (.i .i64 (.x 12)), (.i .i64 (.x 13)), (.s (.x 1))]), (.one (.i .i64 (.x 14))), (.one (.i .i64 (.x 15)))]) ⟨6, 0, 1, 0, 0, 0⟩
  (.ite (.not (.eqI (.x 15) (.c 0)))
  (.ret (.tup [(.one (.sl (.x 0))), (.agg [(.i .i64 (.x 15)), (.i .i64 (.x 3)), (.i .i64 (.add (.x 4) (.sub (.x 9) (.c 1))))])]))
  (.mk [(.i .u8 (.x 10)), (.i .i64 (.x 3)), (.i .i64 (.add (.x 4) (.sub (.x 9) (.c 1)))), (.i .i64 (.x 13)), (.s (.x 1))] 51 1
  (.app (.x 3) (.x 4) 5 48 51
  (.call (.c true) false 23 [(.one (.s (.x 0))), (.one (.i .i64 (.x 14)))] (.p (.one (.i .i64 (.x 16)))) ⟨1, 0, 0, 0, 0, 0⟩
  (.again 0 ⟨1, 0, 1, 0, 2, 0⟩ ⟨8, 0, 1, 0, 4, 0⟩ ⟨[(.x 16), (.x 1), (.x 3), (.add (.x 4) (.sub (.x 9) (.c 1))), (.x 5), (.x 6), (.x 7)], [], [], [], [(.x 2), (.x 5)], []⟩))))))))))))))))))
theorem gen_rtokens : genFn ⟨true, []⟩ Tryz.prog (fun l => ([⟨[8, 9, 7, 5, 2, 6], [25, 26, 27, 28, 29, 30, 31, 24, 32, 33, 10, 11, 34, 35, 36, 37, 38, 39, 40, 41, 42, 43, 44, 45, 46, 47, 48, 49, 50, 51, 52, 53, 54, 55, 56, 57, 59, 60, 61, 58, 62, 63, 64, 12, 13, 14, 65, 66, 67, 68, 69, 70, 71, 72, 73, 74, 75, 76, 77, 78, 79, 80, 81, 82], [3, 12]⟩] : List LAnn).getD l ⟨[], [], []⟩) Tryz.f12 = fm_rtokens := by kernel_rfl
theorem ps_rtokens : freshPs Tryz.prog .zero Tryz.f12.params.toList = some ([(.one (.s (.x 0)))], ⟨0, 0, 1, 0, 0, 0⟩) := by kernel_rfl
/-- Rows that are gathered. -/
structure GI (h : Hp) (sl : Slc) (xs : List Value) (ty : TypeId) (sz : Nat) (hh : Hp) : Prop where
  own : OwnS hh sl xs ty sz
  fresh : ∀ z, sl.a = some z → h z.1 = none
  kept : HLe h hh
theorem g_app {E : Env} {C : Ctx} {x y : LE} {f : Fm} {h : Hp} {sl : Slc} {xs : List Value} {ty : TypeId} {sz bytes : Nat} {hh : Hp} (I : GI h sl xs ty sz hh) (h1 : sl.n + 1 ≤ maxLen) (h2 : (sl.n + 1) * bytes ≤ 140737488355328) {b : Nat} (hb : hh b = none) {cs : List Value} (hcs : cs.length = sz) (ho : Ones cs)
    (hx : x.den C = sl) (hy : y.den C = ⟨some (b, 0), 1, 1⟩) (hC : C.h = hh.set b ⟨cs, ty⟩)
    (hk : ∀ s' k', GI h s' (xs ++ cs) ty sz k' → s'.n = sl.n + 1 → f.says E ((C.push ⟨[], [], [], [], [s'], []⟩).heap k')) :
    (Fm.app x y sz bytes ty f).says E C := by
  have hlt : ∀ z, sl.a = some z → z.1 ≠ b := fun z hz e => by
    rcases I.own with ⟨q, _⟩ | ⟨d, o, q1, q2, _⟩
    · rw [q] at hz; cases hz
    · rw [q1] at hz; cases hz; subst e; rw [hb] at q2; cases q2
  rw [says_app, hx, hy, hC]
  refine ⟨xs, cs, own_set I.own hlt _, ⟨by simp, ?_⟩, ho, h1, h2, fun s' k' g1 g2 g3 g4 => ?_⟩
  · rw [hread_set, if_pos (by simp [hcs])]
    simp [List.take_of_length_le, hcs]
  · refine hk s' k' ⟨g1, fun z hz => ?_, fun d o hd => ?_⟩ g2
    · rcases g3 z hz with ⟨y', hy', e⟩ | hn
      · rw [← e]; exact I.fresh y' hy'
      · have m1 : z.1 ≠ b := fun e => by rw [e, set_same] at hn; cases hn
        rw [set_ne _ m1] at hn
        cases hq : h z.1 with
        | none => rfl
        | some o => rw [I.kept _ _ hq] at hn; cases hn
    · refine g4 d o (fun z hz e => by have := I.fresh z hz; rw [e, hd] at this; cases this) ?_
      rw [set_ne _ (fun e => by have := I.kept d o hd; rw [e, hb] at this; cases this)]
      exact I.kept d o hd
theorem adv_one (l : List UInt8) : 1 ≤ (adv (1, 1) l).1 := by
  have : ∀ (l : List UInt8) (p : Int × Int), 1 ≤ p.1 → 1 ≤ (adv p l).1 := by
    intro l
    induction l with
    | nil => intro p h; exact h
    | cons c t ih =>
      intro p h
      refine ih (ad p c.toNat) ?_
      unfold ad; split <;> simp <;> omega
  exact this l (1, 1) (by decide)
theorem adv_rel (p : Int × Int) (l : List UInt8) : adv p l = if 1 < (adv (1, 1) l).1 then (p.1 + ((adv (1, 1) l).1 - 1), (adv (1, 1) l).2) else (p.1, p.2 + ((adv (1, 1) l).2 - 1)) := by
  have key : ∀ r : List UInt8, adv p r.reverse = if 1 < (adv (1, 1) r.reverse).1 then (p.1 + ((adv (1, 1) r.reverse).1 - 1), (adv (1, 1) r.reverse).2) else (p.1, p.2 + ((adv (1, 1) r.reverse).2 - 1)) := by
    intro r
    induction r with
    | nil => simp [adv]
    | cons c t ih =>
      have hs : ∀ q, adv q (c :: t).reverse = ad (adv q t.reverse) c.toNat := fun q => by
        rw [List.reverse_cons, adv_app]; rfl
      have h1 := adv_one t.reverse
      rw [hs p, hs (1, 1), ih]
      generalize adv (1, 1) t.reverse = r at *
      obtain ⟨a, b⟩ := r
      simp only at h1 ⊢
      unfold ad
      have h2 : 1 < a + 1 := by omega
      by_cases hc : (c.toNat : Int) = 10
      · by_cases ha : 1 < a <;> simp [hc, ha, h2] <;> omega
      · by_cases ha : 1 < a <;> simp [hc, ha] <;> omega
  have := key l.reverse
  rwa [List.reverse_reverse] at this
def tInv (h : Hp) (s : List UInt8) (_ : Nat) (C : Ctx) : Prop :=
  ∃ x0 i0 j frm line col d5 d6 d7 n0 o0 l2 sl acc hh m, C = ⟨[x0, (j : Nat), (frm : Nat), line, col, d5, d6, d7], [], [s], [], [n0, o0, l2, sl], [], hh, noM⟩ ∧ GI h sl (tcs acc) TK 5 hh ∧ sl.n = acc.length ∧ acc.length ≤ i0 ∧ i0 ≤ s.length ∧ j = i0 + ski false s i0 ∧ frm ≤ j ∧
    pl s frm = (line, col) ∧ s.length < m + i0 ∧ lexAll s = lexA m s i0 (pl s i0) acc ∧ n0.n = 0
set_option maxRecDepth 100000 in
set_option maxHeartbeats 8000000 in
def ctRTokens : Ct Tryz.prog where
  f := 12
  spec := fun args h φ => ∃ s, args = [.string (B s)] ∧ s.length ≤ 1000000 ∧
    (if 65536 < s.length then ∀ sl : Slc, sl.n = 0 → φ (.tuple #[sl.val, .agg #[.int .i64 3, .int .i64 0, .int .i64 0]]) h
      else if (lexAll s).1.1 = 0 then ∀ sl k, HLe h k → TS k sl (lexAll s).2 → φ (.tuple #[sl.val, .agg #[.int .i64 0, .int .i64 0, .int .i64 0]]) k
      else ∀ sl : Slc, sl.n = 0 → φ (.tuple #[sl.val, .agg #[.int .i64 (lexAll s).1.1, .int .i64 (lexAll s).1.2.1, .int .i64 (lexAll s).1.2.2]]) h)
  ok := by
    rintro args h φ w ⟨s, rfl, hlen, hφ⟩ hH
    refine ct_forget (by_fm Tryz.func12 gen_rtokens ps_rtokens [ctRSkip, ctPlace, ctROne] (fun v k => ∃ k', HLe k' k ∧ φ v k') (tInv h s) (fun _ C => ((s.length : Int) - C.i.getD 1 0).toNat) ⟨[], [], [s], [], [], [], h, noM⟩ ⟨rfl, rfl, rfl, rfl, rfl, rfl⟩ ones_nil ?_ w hH rfl)
    generalize hE : (⟨specOf _, _, _, _⟩ : Env) = E
    have s1 : E.spec 23 = ctRSkip.spec := by rw [← hE]; rfl
    have s2 : E.spec 24 = ctPlace.spec := by rw [← hE]; rfl
    have s3 : E.spec 25 = ctROne.spec := by rw [← hE]; rfl
    have ep : E.post = fun v k => ∃ k', HLe k' k ∧ φ v k' := by rw [← hE]
    have ei : E.inv = tInv h s := by rw [← hE]
    have em : E.meas = fun _ C => ((s.length : Int) - C.i.getD 1 0).toNat := by rw [← hE]
    clear hE
    unfold fm_rtokens
    rw [th_mk]
    intro b0 hb0
    have hle0 : HLe h (h.set b0 ⟨[], TK⟩) := hle_set hb0 _
    rw [then_step, th_ite]
    by_cases h6 : 65536 < s.length
    · rw [if_pos h6] at hφ
      rw [if_pos (by simp [go_sem]; omega), then_step, says_ret, ep]
      exact ⟨h, hle0, hφ ⟨some (b0, 0), 0, 0⟩ rfl⟩
    rw [if_neg h6] at hφ
    rw [if_neg (by simp [go_sem]; omega), then_step, th_mk]
    intro b1 hb1
    rw [then_step, th_call, if_pos (by rfl), s1]
    refine ⟨s, 0, rfl, by omega, by omega, by omega, (fun h => by cases h), ?_⟩
    simp [go_sem]
    rw [then_step]
    refine loop_intro ?_ ?_
    · rw [ei]
      have hb1' : (h.set b0 ⟨[], TK⟩) b1 = none := hb1
      refine ⟨ski false s 0, 0, ski false s 0, 0, 1, 1, 0, 0, 0, ⟨some (b0, 0), 0, 0⟩, ⟨some (b1, 0), 0, 0⟩, ⟨none, 0, 0⟩, ⟨some (b1, 0), 0, 0⟩, [], (h.set b0 ⟨[], TK⟩).set b1 ⟨[], TK⟩, s.length + 1, rfl, ⟨.inr ⟨b1, ⟨[], TK⟩, rfl, set_same _ _ _, rfl, rfl, Nat.le_refl _, Nat.zero_le _, rfl⟩, fun z hz => ?_, fun c o hc => hle_set hb1' _ c o (hle0 c o hc)⟩, rfl, Nat.le_refl _, by omega, by omega, by omega, by unfold pl; rw [sub_same]; rfl, by omega, rfl, rfl⟩
      cases hz
      cases hq : h b1 with
      | none => rfl
      | some o => rw [hle0 b1 o hq] at hb1'; cases hb1'
    · rw [ei, em]
      rintro i' bb ss v ll pp hh0 M ⟨x0, i0, j, frm, line, col, d5, d6, d7, n0, o0, l2, sl, acc, hh, m, hC, G, hn, hacc, hi0, hj, hfr, hpl, hm, hall, hn0⟩ hM
      cases hC
      have hM' : M 0 = ((s.length : Int) - j).toNat := hM
      clear hM hb0 hb1 hle0
      have hjl : j ≤ s.length := hj ▸ ski_le false hi0
      have hpj : adv (pl s frm) (sub s frm j) = pl s j := pl_add hfr hjl
      have hpi : adv (pl s i0) (sub s i0 j) = pl s j := pl_add (by omega) hjl
      have bj := pl_bd hjl
      have bf := pl_bd (show frm ≤ s.length by omega)
      obtain ⟨m', rfl⟩ : ∃ m', m = m' + 1 := ⟨m - 1, by omega⟩
      rw [lexA, ← hj, hpi] at hall
      have hdt : List.take (j - frm) (s.drop frm) = sub s frm j := by unfold sub; rw [List.drop_take]
      have hrel := adv_rel (pl s frm) (sub s frm j)
      rw [hpj, hpl] at hrel
      rw [hpl] at bf
      rw [th_need]
      refine ⟨by simp [go_sem]; omega, ?_⟩
      rw [then_step, th_need]
      refine ⟨by simp [go_sem]; omega, ?_⟩
      rw [then_step, th_call, if_pos (by rfl), s2]
      have hz1 : ((j : Int) - frm).toNat = j - frm := by omega
      refine ⟨s.drop frm, (j : Int) - frm, by simp [go_sem], by omega, by rw [List.length_drop]; omega, by rw [List.length_drop]; omega, (fun h => by cases h), ?_⟩
      have hsub0 : sub (s.drop frm) 0 (j - frm) = sub s frm j := by
        rw [← hdt]; rfl
      rw [hz1, hsub0]
      generalize adv (1, 1) (sub s frm j) = q at *
      obtain ⟨dl, dc⟩ := q
      simp only at hrel
      simp [go_sem]
      by_cases hd : 1 < dl
      · have hdl := hd
        rw [if_pos hd] at hrel
        rw [hrel] at hall bj
        simp only at hall bj
        rw [then_step, th_ite, if_pos (by simp [go_sem]; exact hd)]
        rw [then_step, th_need]
        refine ⟨by simp [go_sem]; omega, ?_⟩
        rw [then_step, th_need]
        refine ⟨by simp [go_sem]; omega, ?_⟩
        rw [then_step, th_ite]
        by_cases hje : j = s.length
        · rw [if_pos (by omega)] at hall
          rw [hall, if_pos rfl] at hφ
          rw [if_pos (by simp [go_sem]; omega), then_step, th_mk]
          intro b hb
          rw [then_step]
          refine g_app G (by unfold maxLen; omega) (by omega) hb (cs := (Tok.mk 8 (line + (dl - 1)) (dc) 0 []).cs) rfl (Tok.ones _) rfl rfl rfl (fun s' k' G' hn' => ?_)
          rw [says_ret, ep]
          exact ⟨k', fun _ _ h => h, hφ s' k' G'.kept (TS.of_own (by rw [tcs_app, tcs_one]; exact G'.own) (by rw [hn', hn]; simp))⟩
        rw [if_neg (by omega)] at hall
        rw [if_neg (by simp [go_sem]; omega), then_step, th_call, if_pos (by rfl), s3]
        have hjlt : j < s.length := by omega
        refine ⟨s, j, rfl, hjlt, by omega, ?_⟩
        by_cases hf : (one s j).f = 0
        · rw [if_pos hf] at hall ⊢
          obtain ⟨o1, o2, _⟩ := one_ok hjlt hf
          refine ⟨(fun h => by cases h), ?_⟩
          simp only [tkv]
          simp [go_sem]
          rw [then_step, th_ite, if_neg (by simp [go_sem]), then_step, th_mk]
          intro b hb
          rw [then_step]
          refine g_app G (by unfold maxLen; omega) (by omega) hb (cs := (Tok.mk (one s j).k (line + (dl - 1)) (dc) (one s j).n (one s j).x).cs) rfl (Tok.ones _) rfl rfl rfl (fun s' k' G' hn' => ?_)
          rw [th_call, if_pos (by rfl), s1]
          refine ⟨s, ((one s j).e : Nat), rfl, by omega, by omega, by omega, (fun h => by cases h), ?_⟩
          rw [Int.toNat_natCast]
          simp [go_sem]
          rw [then_step, says_again, ei, em]
          refine ⟨⟨x0, (one s j).e, (one s j).e + ski false s (one s j).e, j, line + (dl - 1), dc, d5, d6, d7, n0, o0, l2, s', acc ++ [⟨(one s j).k, line + (dl - 1), dc, (one s j).n, (one s j).x⟩], k', m', rfl, by rw [tcs_app, tcs_one]; exact G', by rw [hn', hn]; simp, by simp; omega, o2, rfl, by omega, hrel, by omega, by rw [hall, pl_add (by omega) o2], hn0⟩, ?_⟩
          show ((s.length : Int) - (((one s j).e : Int) + (ski false s (one s j).e : Int))).toNat < M 0
          omega
        · rw [if_neg hf] at hall ⊢
          rw [hall, if_neg hf] at hφ
          intro kk
          refine ⟨(fun h => by cases h), ?_⟩
          simp only [tkv]
          simp [go_sem]
          rw [then_step, th_ite, if_pos (by simp [go_sem]; exact hf), then_step, says_ret, ep]
          exact ⟨h, G.kept, hφ n0 hn0⟩
      · have hdl := hd
        rw [if_neg hd] at hrel
        rw [hrel] at hall bj
        simp only at hall bj
        rw [then_step, th_ite, if_neg (by simp [go_sem]; omega)]
        rw [then_step, th_need]
        refine ⟨by simp [go_sem]; omega, ?_⟩
        rw [then_step, th_need]
        refine ⟨by simp [go_sem]; omega, ?_⟩
        rw [then_step, th_ite]
        by_cases hje : j = s.length
        · rw [if_pos (by omega)] at hall
          rw [hall, if_pos rfl] at hφ
          rw [if_pos (by simp [go_sem]; omega), then_step, th_mk]
          intro b hb
          rw [then_step]
          refine g_app G (by unfold maxLen; omega) (by omega) hb (cs := (Tok.mk 8 (line) (col + (dc - 1)) 0 []).cs) rfl (Tok.ones _) rfl rfl rfl (fun s' k' G' hn' => ?_)
          rw [says_ret, ep]
          exact ⟨k', fun _ _ h => h, hφ s' k' G'.kept (TS.of_own (by rw [tcs_app, tcs_one]; exact G'.own) (by rw [hn', hn]; simp))⟩
        rw [if_neg (by omega)] at hall
        rw [if_neg (by simp [go_sem]; omega), then_step, th_call, if_pos (by rfl), s3]
        have hjlt : j < s.length := by omega
        refine ⟨s, j, rfl, hjlt, by omega, ?_⟩
        by_cases hf : (one s j).f = 0
        · rw [if_pos hf] at hall ⊢
          obtain ⟨o1, o2, _⟩ := one_ok hjlt hf
          refine ⟨(fun h => by cases h), ?_⟩
          simp only [tkv]
          simp [go_sem]
          rw [then_step, th_ite, if_neg (by simp [go_sem]), then_step, th_mk]
          intro b hb
          rw [then_step]
          refine g_app G (by unfold maxLen; omega) (by omega) hb (cs := (Tok.mk (one s j).k (line) (col + (dc - 1)) (one s j).n (one s j).x).cs) rfl (Tok.ones _) rfl rfl rfl (fun s' k' G' hn' => ?_)
          rw [th_call, if_pos (by rfl), s1]
          refine ⟨s, ((one s j).e : Nat), rfl, by omega, by omega, by omega, (fun h => by cases h), ?_⟩
          rw [Int.toNat_natCast]
          simp [go_sem]
          rw [then_step, says_again, ei, em]
          refine ⟨⟨x0, (one s j).e, (one s j).e + ski false s (one s j).e, j, line, col + (dc - 1), d5, d6, d7, n0, o0, l2, s', acc ++ [⟨(one s j).k, line, col + (dc - 1), (one s j).n, (one s j).x⟩], k', m', rfl, by rw [tcs_app, tcs_one]; exact G', by rw [hn', hn]; simp, by simp; omega, o2, rfl, by omega, hrel, by omega, by rw [hall, pl_add (by omega) o2], hn0⟩, ?_⟩
          show ((s.length : Int) - (((one s j).e : Int) + (ski false s (one s j).e : Int))).toNat < M 0
          omega
        · rw [if_neg hf] at hall ⊢
          rw [hall, if_neg hf] at hφ
          intro kk
          refine ⟨(fun h => by cases h), ?_⟩
          simp only [tkv]
          simp [go_sem]
          rw [then_step, th_ite, if_pos (by simp [go_sem]; exact hf), then_step, says_ret, ep]
          exact ⟨h, G.kept, hφ n0 hn0⟩
end Go.Proofs.YthlakehilhpojaaGreatDoor
