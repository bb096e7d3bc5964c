/- hindcastlaw06: texts joined: ParO, ParP, ParQ, ParR, ParS, ParT, ParU, LexS, LexT, LexU, LexP, LexV, ParV, ParW, ParRA. -/
import Derived.Test.YthlakehilhpojaaGreatDoorPef
namespace Go.Proofs.YthlakehilhpojaaGreatDoor
open Go.RowKit
attribute [local go_sem] says_tt says_ff th_need th_ite th_call th_callK th_load th_store says_ret says_again BE.den IE.den SE.den LE.den AE.den CE.den PE.den VE.den KV.val Got.den Got.cnt exI allI exL allL Ctx.push Ctx.heap Ctx.cut Ctx.bare Ctx.mark Inc.blank List.getD_cons_zero List.getD_cons_succ List.cons_append List.nil_append List.append_nil List.map_cons List.map_nil List.replicate_zero List.replicate_succ specOf ltB_t leB_t ltB_f leB_f slc_val slc_nil slc_inj pt_val pt_nil hle_noHeap hle_refl hread_set hwrite_set set_same set_set noHeap_at B_inj ones_nil and_assoc
def fm_ppost : Fm := (.call (.c true) false 93 [(.one (.pt 0))] (.p (.one (.pt 1))) ⟨0, 0, 0, 0, 0, 1⟩
  (.loop 0 ⟨[], [], [], [], [], [(.c .nilp), (.pt 1)]⟩
  (.call (.c true) false 18 [(.one (.pt 0))] (.p (.agg [(.i .u8 (.x 0)), (.i .i64 (.x 1)), (.i .i64 (.x 2)), (.i .i64 (.x 3)), (.s (.x 0))])) ⟨4, 0, 1, 0, 0, 0⟩
  (.call (.c true) false 35 [(.one (.pt 0)), (.one (.s (.c [91])))] (.p (.one (.b (.x 0)))) ⟨0, 1, 0, 0, 0, 0⟩
  (.ite (.x 0)
  (.call (.c true) false 60 [(.one (.pt 0)), (.one (.s (.c [91])))] (.p (.agg [(.i .u8 (.x 4)), (.i .i64 (.x 5)), (.i .i64 (.x 6)), (.i .i64 (.x 7)), (.s (.x 1))])) ⟨4, 0, 1, 0, 0, 0⟩
  (.call (.c true) false 11 [(.one (.pt 0))] (.p (.one (.pt 4))) ⟨0, 0, 0, 0, 0, 1⟩
  (.call (.c true) false 62 [(.one (.pt 0)), (.one (.s (.c [93])))] (.tup []) ⟨0, 0, 0, 0, 0, 0⟩
  (.mk [(.pt 3), (.pt 4)] 49 2
  (.call (.c true) false 80 [(.one (.i .u8 (.c 28))), (.agg [(.i .u8 (.x 0)), (.i .i64 (.x 1)), (.i .i64 (.x 2)), (.i .i64 (.x 3)), (.s (.x 0))]), (.one (.sl (.x 0)))] (.p (.one (.pt 5))) ⟨0, 0, 0, 0, 0, 1⟩
  (.again 0 ⟨0, 0, 0, 0, 0, 2⟩ ⟨0, 0, 0, 0, 0, 4⟩ ⟨[], [], [], [], [], [(.pt 2), (.pt 5)]⟩))))))
  (.call (.c true) false 63 [(.one (.pt 0)), (.one (.s (.c [46])))] (.p (.one (.b (.x 1)))) ⟨0, 1, 0, 0, 0, 0⟩
  (.ite (.x 1)
  (.call (.c true) false 59 [(.one (.pt 0)), (.one (.i .u8 (.c 1)))] (.p (.agg [(.i .u8 (.x 4)), (.i .i64 (.x 5)), (.i .i64 (.x 6)), (.i .i64 (.x 7)), (.s (.x 1))])) ⟨4, 0, 1, 0, 0, 0⟩
  (.mk [(.pt 3)] 49 1
  (.call (.c true) false 58 [(.one (.i .u8 (.c 29))), (.agg [(.i .u8 (.x 0)), (.i .i64 (.x 1)), (.i .i64 (.x 2)), (.i .i64 (.x 3)), (.s (.x 0))]), (.one (.s (.x 1))), (.one (.sl (.x 0)))] (.p (.one (.pt 4))) ⟨0, 0, 0, 0, 0, 1⟩
  (.again 0 ⟨0, 0, 0, 0, 0, 2⟩ ⟨0, 0, 0, 0, 0, 4⟩ ⟨[], [], [], [], [], [(.pt 2), (.pt 4)]⟩))))
  (.ret (.p (.one (.pt 3)))))))))))
theorem gen_ppost : genFn ⟨true, []⟩ Tryz.prog (fun l => ([⟨[3, 2], [8, 9, 4, 12, 13, 11, 14, 15, 16, 17, 5, 18, 19, 20, 21, 22, 23, 24, 26, 27, 25, 28, 29, 30, 31, 32, 33, 34, 10], [4]⟩] : List LAnn).getD l ⟨[], [], []⟩) Tryz.f79 = fm_ppost := by kernel_rfl
theorem ps_ppost : freshPs Tryz.prog .zero Tryz.f79.params.toList = some ([(.one (.pt 0))], ⟨0, 0, 0, 0, 0, 1⟩) := by kernel_rfl
def fm_pcall : Fm := (.call (.c true) false 58 [(.one (.i .u8 (.c 27))), (.agg [(.i .u8 (.x 0)), (.i .i64 (.x 1)), (.i .i64 (.x 2)), (.i .i64 (.x 3)), (.s (.x 0))]), (.one (.s (.x 0))), (.one (.sl .nil))] (.p (.one (.pt 1))) ⟨0, 0, 0, 0, 0, 1⟩
  (.call (.c true) false 60 [(.one (.pt 0)), (.one (.s (.c [40])))] (.p (.agg [(.i .u8 (.x 4)), (.i .i64 (.x 5)), (.i .i64 (.x 6)), (.i .i64 (.x 7)), (.s (.x 1))])) ⟨4, 0, 1, 0, 0, 0⟩
  (.loop 0 ⟨[], [(.c true)], [], [], [], []⟩
  (.call (.c true) false 20 [(.one (.pt 0))] (.p (.one (.b (.x 1)))) ⟨0, 1, 0, 0, 0, 0⟩
  (.call (.not (.x 1)) false 35 [(.one (.pt 0)), (.one (.s (.c [41])))] (.p (.one (.b (.x 2)))) ⟨0, 1, 0, 0, 0, 0⟩
  (.ite (.and (.not (.x 1)) (.not (.x 2)))
  (.ite (.not (.x 0))
  (.call (.c true) false 57 [(.one (.pt 0)), (.one (.s (.c [44])))] (.p (.agg [(.i .u8 (.x 8)), (.i .i64 (.x 9)), (.i .i64 (.x 10)), (.i .i64 (.x 11)), (.s (.x 2))])) ⟨4, 0, 1, 0, 0, 0⟩
  (.load (.c true) (.pt 1 6) 1 [(.sl (.x 0))] ⟨0, 0, 0, 0, 1, 0⟩
  (.need (.c true) (.nnp 1)
  (.need (.c true) (.nnp 1)
  (.callK (.c true) [((.c true), (.pt 1 6), 1)] 11 [(.one (.pt 0))] (.p (.one (.pt 2))) ⟨0, 0, 0, 0, 0, 1⟩
  (.mk [(.pt 2)] 49 1
  (.app (.x 0) (.x 1) 1 8 49
  (.need (.c true) (.nnp 1)
  (.need (.c true) (.nnp 1)
  (.store (.pt 1 6) [(.sl (.x 2))]
  (.again 0 ⟨8, 0, 2, 0, 0, 2⟩ ⟨8, 1, 2, 0, 0, 2⟩ ⟨[], [(.c false)], [], [], [], []⟩)))))))))))
  (.load (.c true) (.pt 1 6) 1 [(.sl (.x 0))] ⟨0, 0, 0, 0, 1, 0⟩
  (.need (.c true) (.nnp 1)
  (.need (.c true) (.nnp 1)
  (.callK (.c true) [((.c true), (.pt 1 6), 1)] 11 [(.one (.pt 0))] (.p (.one (.pt 2))) ⟨0, 0, 0, 0, 0, 1⟩
  (.mk [(.pt 2)] 49 1
  (.app (.x 0) (.x 1) 1 8 49
  (.need (.c true) (.nnp 1)
  (.need (.c true) (.nnp 1)
  (.store (.pt 1 6) [(.sl (.x 2))]
  (.again 0 ⟨8, 0, 2, 0, 0, 2⟩ ⟨8, 1, 2, 0, 0, 2⟩ ⟨[], [(.c false)], [], [], [], []⟩)))))))))))
  (.call (.c true) false 62 [(.one (.pt 0)), (.one (.s (.c [41])))] (.tup []) ⟨0, 0, 0, 0, 0, 0⟩
  (.ret (.p (.one (.pt 1)))))))))))
theorem gen_pcall : genFn ⟨true, []⟩ Tryz.prog (fun l => ([⟨[6], [13, 14, 15, 16, 17, 18, 19, 20, 21, 22, 23, 24, 25, 26, 27, 28, 29, 30, 31, 32, 33, 34, 35], [10]⟩] : List LAnn).getD l ⟨[], [], []⟩) Tryz.f106 = fm_pcall := by kernel_rfl
theorem ps_pcall : freshPs Tryz.prog .zero Tryz.f106.params.toList = some ([(.one (.pt 0)), (.agg [(.i .u8 (.x 0)), (.i .i64 (.x 1)), (.i .i64 (.x 2)), (.i .i64 (.x 3)), (.s (.x 0))])], ⟨4, 0, 1, 0, 0, 1⟩) := by kernel_rfl
def postInv (h : Hp) (b : Nat) (sl : Slc) (L : List Tok) (t : Tr) (q : PS) (n : Nat) : Nat → Ctx → Prop := fun _ C =>
  ∃ x0 x1 v x p1 k1 g1 m1, C = ⟨[], [], [], [], [], [some (b, 0), x0, x1, some (v, 0)], k1, noM⟩ ∧ At h b sl L p1 k1 g1 ∧ It g1 v x ∧ m1 ≤ n ∧ pPost L m1 x p1 = some (t, q) ∧ p1.d + m1 ≤ 1000000000000
set_option maxHeartbeats 4000000 in
theorem post_ok {n : Nat} (HE : ExprOk n) (HA : AtomOk n) : PostOk n := by
  rintro args h φ w ⟨m, hm, b, sl, L, p, t, q, rfl, W, hr, hd, hφ⟩ hH
  refine by_fm Tryz.func79 gen_ppost ps_ppost [ctNow, ctIs, ctOpen, ctShut, ctMake1, ctTry, ctPWord, ctNamed, ctExpr HE, ctAtom HA] φ (postInv h b sl L t q n) (fun _ => measP b L.length) ⟨[], [], [], [], [], [some (b, 0)], h, noM⟩ ⟨rfl, rfl, rfl, rfl, rfl, rfl⟩ ones_nil ?_ w hH rfl
  generalize hE : (⟨specOf _, _, _, _⟩ : Env) = E
  have s_ctNow : E.spec 18 = (ctNow).spec := by rw [← hE]; rfl
  have s_ctIs : E.spec 35 = (ctIs).spec := by rw [← hE]; rfl
  have s_ctOpen : E.spec 60 = (ctOpen).spec := by rw [← hE]; rfl
  have s_ctShut : E.spec 62 = (ctShut).spec := by rw [← hE]; rfl
  have s_ctMake1 : E.spec 80 = (ctMake1).spec := by rw [← hE]; rfl
  have s_ctTry : E.spec 63 = (ctTry).spec := by rw [← hE]; rfl
  have s_ctPWord : E.spec 59 = (ctPWord).spec := by rw [← hE]; rfl
  have s_ctNamed : E.spec 58 = (ctNamed).spec := by rw [← hE]; rfl
  have s_ctE : E.spec 11 = (ctExpr HE).spec := by rw [← hE]; rfl
  have s_ctA : E.spec 93 = (ctAtom HA).spec := by rw [← hE]; rfl
  have ep : E.post = φ := by rw [← hE]
  have ei : E.inv = (postInv h b sl L t q n) := by rw [← hE]
  have em : E.meas = (fun _ => measP b L.length) := by rw [← hE]
  clear hE
  unfold fm_ppost
  unfold runPost at hr
  simp only [Option.bind_eq_some_iff] at hr
  obtain ⟨⟨x, r⟩, h1, h2⟩ := hr
  rw [th_call, if_pos (by rfl), s_ctA]
  refine ⟨m, hm, b, sl, L, p, x, r, rfl, W, h1, hd, fun v k g A1 hI => ?_⟩
  simp [go_sem, ptrv]; refine ⟨some (v, 0), rfl, ?_⟩
  have hrd := ((advE W.lw m).2.2.2.2.1 _ _ _ h1).d
  rw [then_step]
  refine loop_intro ?_ ?_
  · rw [ei]
    exact ⟨some (v, 0), none, v, x, r, k, g, m, rfl, A1, hI, by omega, h2, by dsimp only at *; omega⟩
  rw [ei, em]
  rintro i' bb ss v' ll pp hh0 M ⟨x0, x1, v, x, p1, k1, g1, m1, hC, A1, hI, hm1, hb1, hd1⟩ hM
  cases hC
  have hM : M 0 = mu L p1 := hM.trans (measP_eq A1.pw rfl)
  clear h1 h2
  cases m1 with
  | zero => cases hb1
  | succ m1 =>
  rw [pPost] at hb1
  rw [th_call, if_pos (by rfl), s_ctNow]
  refine ⟨b, sl, L, p1, rfl, A1.pw, ?_⟩
  simp [go_sem, tokv, tkv]
  rw [then_step, th_call, if_pos (by rfl), s_ctIs]
  refine ⟨b, sl, L, p1, [91], rfl, A1.pw, ?_⟩
  have hd0 := A1.pw.d0
  cases c1 : pIs L [91] p1 with
  | true =>
    rw [if_pos c1] at hb1
    simp only [Option.bind_eq_some_iff] at hb1
    obtain ⟨⟨y, r1⟩, h3, h4⟩ := hb1
    simp [go_sem]
    rw [then_step, th_ite, if_pos (by simp [go_sem])]
    rw [then_step, th_call, if_pos (by rfl), s_ctOpen]
    refine ⟨b, sl, L, p1, [91], rfl, A1.pw, ?_⟩
    simp [go_sem, tokv, tkv]
    have Ao := adv_open W.lw [91] p1
    have hod := Ao.d
    have A2 := A1.open [91] (by omega)
    rw [then_step, th_call, if_pos (by rfl), s_ctE]
    refine ⟨m1, by omega, b, sl, L, _, y, r1, rfl, A2.pw, h3, by omega, fun v2 k2 g2 A3 hI2 => ?_⟩
    simp [go_sem, ptrv]; refine ⟨some (v2, 0), rfl, ?_⟩
    have A4 := A2.then A3
    have Ad := (advE W.lw m1).1 _ _ _ _ h3
    have hrd1 := Ad.d
    rw [then_step, th_call, if_pos (by rfl), s_ctShut]
    refine ⟨b, sl, L, r1, [93], rfl, A4.pw, ?_⟩
    have A5 := A4.shut [93] (by omega)
    have As := adv_shut W.lw [93] r1
    have hsd := As.d
    simp [go_sem]
    rw [then_step, th_mk]
    intro kb hkb
    simp [go_sem]
    rw [then_step, th_call, if_pos (by rfl), s_ctMake1]
    refine ⟨28, tk L p1, ⟨some (kb, 0), 2, 2⟩, rfl, fun v3 hv3 => ?_⟩
    simp [go_sem, ptrv]; refine ⟨some (v3, 0), rfl, ?_⟩
    obtain ⟨A6, I6⟩ := A5.node (vs := [v, v2]) (ts := [x, y]) hkb ⟨It.le (le_uni _ _) _ _ hI, It.le (A2.disj A3) _ _ hI2, trivial⟩ (by simp) hv3 28 (tk L p1).l (tk L p1).c 0 []
    rw [then_step, says_again, ei, em]
    refine ⟨⟨_, _, v3, _, pShut L [93] r1, _, _, m1, rfl, A6, I6, by omega, h4, by omega⟩, ?_⟩
    show measP b L.length _ < M 0
    rw [hM]
    refine Nat.lt_of_le_of_lt (Nat.le_of_eq (measP_eq A6.pw rfl)) ?_
    have m1 := mu_lt (went_open c1) (is_k c1).1 A1.pw.at'
    have m2 := mu_le (Ad.trans As)
    omega
  | false =>
  rw [c1, if_neg (by decide)] at hb1
  simp [go_sem]
  rw [then_step, th_ite, if_neg (by simp [go_sem])]
  rw [then_step, th_call, if_pos (by rfl), s_ctTry]
  refine ⟨b, sl, L, p1, [46], rfl, A1.pw, ?_⟩
  cases c2 : pIs L [46] p1 with
  | true =>
    rw [if_pos c2] at hb1
    rw [if_pos rfl]
    simp [go_sem]
    rw [then_step, th_ite, if_pos (by simp [go_sem])]
    have A2 := A1.pass
    rw [then_step, th_call, if_pos (by rfl), s_ctPWord]
    refine ⟨b, sl, L, _, 1, rfl, A2.pw, ?_⟩
    simp [go_sem, tokv, tkv]
    have A3 := A2.word 1
    rw [set_set] at A3
    rw [then_step, th_mk]
    intro kb hkb
    simp [go_sem]
    rw [then_step, th_call, if_pos (by rfl), s_ctNamed]
    refine ⟨29, tk L p1, (tk L (pPass L p1)).x, ⟨some (kb, 0), 1, 1⟩, rfl, fun v3 hv3 => ?_⟩
    simp [go_sem, ptrv]; refine ⟨some (v3, 0), rfl, ?_⟩
    obtain ⟨A6, I6⟩ := A3.node (vs := [v]) (ts := [x]) hkb ⟨hI, trivial⟩ (by simp) hv3 29 (tk L p1).l (tk L p1).c 0 (tk L (pPass L p1)).x
    have Ap := adv_pass W.lw p1
    have Aw := adv_word W.lw 1 (pPass L p1)
    have hwd := (Ap.trans Aw).d
    rw [then_step, says_again, ei, em]
    refine ⟨⟨_, _, v3, _, _, _, _, m1, rfl, A6, I6, by omega, hb1, by omega⟩, ?_⟩
    show measP b L.length _ < M 0
    rw [hM]
    refine Nat.lt_of_le_of_lt (Nat.le_of_eq (measP_eq A6.pw rfl)) ?_
    have m1 := mu_lt (went_is c2) (is_k c2).1 A1.pw.at'
    have m2 := mu_le Aw
    omega
  | false =>
  rw [c2, if_neg (by decide)] at hb1
  cases hb1
  rw [if_neg (by decide)]
  simp [go_sem]
  rw [then_step, th_ite, if_neg (by simp [go_sem])]
  simp only [then_step]; simp [go_sem, ep]
  exact hφ v _ _ A1 hI
def runCall (L : List Tok) (n : Nat) (t0 : Tok) (p : PS) : Option (Tr × PS) := (pArgs L n true [] (pOpen L [40] p)).map fun r => (nd 27 t0 0 t0.x r.1, pShut L [41] r.2)
/-- A function that takes a tree, behind a token. -/
def prodT (f : List Tok → Nat → Tok → PS → Option (Tr × PS)) (n : Nat) (args : List Value) (h : Hp) (φ : Value → Hp → Prop) : Prop :=
  ∃ m, m ≤ n ∧ ∃ b sl L p t q t0, args = [ptrv b, tokv t0] ∧ PW h b sl L p ∧ f L m t0 p = some (t, q) ∧ p.d + m + 1 ≤ 1000000000000 ∧ ∀ v k g, At h b sl L q k g → It g v t → φ (ptrv v) k
def CallOk (n : Nat) : Prop := ∀ args h φ w, prodT runCall n args h φ → Holds h w → Calls Tryz.prog 106 args.toArray w fun e w' => ∃ v k, e = .returned v ∧ φ v k ∧ Holds k w' ∧ Fr w.heap.size h k w w'
def ctCall {n : Nat} (H : CallOk n) : Ct Tryz.prog := ⟨106, prodT runCall n, H⟩
def callInv (h : Hp) (b : Nat) (sl : Slc) (L : List Tok) (t0 : Tok) (rl : List Tr) (r : PS) (d : Int) (n : Nat) : Nat → Ctx → Prop := fun _ C =>
  ∃ i4 i5 i6 i7 s1 first o s vs ts p1 k1 g1 m1, C = ⟨[t0.k, t0.l, t0.c, t0.n, i4, i5, i6, i7], [first], [t0.x, s1], [], [], [some (b, 0), some (o, 0)], k1, noM⟩ ∧ Out h b sl L p1 k1 g1 o 27 t0.l t0.c 0 t0.x s vs ts ∧ m1 ≤ n ∧
    pArgs L m1 first ts p1 = some (rl, r) ∧ p1.d + m1 ≤ 1000000000000 ∧ vs.length + mu L p1 ≤ L.length ∧ p1.d = d
theorem mu_top (L : List Tok) (p : PS) : mu L p ≤ L.length := by unfold mu; split <;> omega
set_option maxHeartbeats 4000000 in
theorem call_ok {n : Nat} (HE : ExprOk n) : CallOk n := by
  rintro args h φ w ⟨m, hm, b, sl, L, p, t, q, t0, rfl, W, hr, hd, hφ⟩ hH
  unfold runCall at hr
  simp only [Option.map_eq_some_iff] at hr
  obtain ⟨⟨rl, r⟩, h1, h2⟩ := hr
  cases h2
  refine by_fm Tryz.func106 gen_pcall ps_pcall [ctNamed, ctOpen, ctBad, ctIs, ctMust, ctShut, ctExpr HE] φ (callInv h b sl L t0 rl r (p.d + 1) n) (fun _ => measP b L.length) ⟨[t0.k, t0.l, t0.c, t0.n], [], [t0.x], [], [], [some (b, 0)], h, noM⟩ ⟨rfl, rfl, rfl, rfl, rfl, rfl⟩ ones_nil ?_ w hH rfl
  generalize hE : (⟨specOf _, _, _, _⟩ : Env) = E
  have s_ctNamed : E.spec 58 = (ctNamed).spec := by rw [← hE]; rfl
  have s_ctOpen : E.spec 60 = (ctOpen).spec := by rw [← hE]; rfl
  have s_ctBad : E.spec 20 = (ctBad).spec := by rw [← hE]; rfl
  have s_ctIs : E.spec 35 = (ctIs).spec := by rw [← hE]; rfl
  have s_ctMust : E.spec 57 = (ctMust).spec := by rw [← hE]; rfl
  have s_ctShut : E.spec 62 = (ctShut).spec := by rw [← hE]; rfl
  have s_ctE : E.spec 11 = (ctExpr HE).spec := by rw [← hE]; rfl
  have ep : E.post = φ := by rw [← hE]
  have ei : E.inv = (callInv h b sl L t0 rl r (p.d + 1) n) := by rw [← hE]
  have em : E.meas = (fun _ => measP b L.length) := by rw [← hE]
  clear hE
  unfold fm_pcall
  have A := At.start W
  have hd0 := W.d0
  have hlen := W.len
  rw [th_call, if_pos (by rfl), s_ctNamed]
  refine ⟨27, t0, t0.x, ⟨none, 0, 0⟩, rfl, fun o ho => ?_⟩
  simp [go_sem, ptrv]; refine ⟨some (o, 0), rfl, ?_⟩
  have O := A.out ho 27 t0.l t0.c 0 t0.x
  rw [then_step, th_call, if_pos (by rfl), s_ctOpen]
  refine ⟨b, sl, L, p, [40], rfl, O.at'.pw, ?_⟩
  simp [go_sem, tokv, tkv]
  have hod := (adv_open W.lw [40] p).d
  have O1 := O.open [40] (by omega)
  rw [then_step]
  refine loop_intro ?_ ?_
  · rw [ei]
    exact ⟨_, _, _, _, _, true, o, ⟨none, 0, 0⟩, [], [], _, _, _, m, rfl, O1, hm, h1, by omega, by have := mu_top L (pOpen L [40] p); simp; omega, hod⟩
  rw [ei, em]
  rintro i' bb ss v' ll pp hh0 M ⟨i4, i5, i6, i7, s1, first, o, s, vs, ts, p1, k1, g1, m1, hC, O1, hm1, hb1, hd1, hmu, hpd⟩ hM
  cases hC
  have hM : M 0 = mu L p1 := hM.trans (measP_eq O1.at'.pw rfl)
  clear h1 hod O ho
  cases m1 with
  | zero => cases hb1
  | succ m1 =>
  rw [pArgs] at hb1
  have stop : (p1.bad || pIs L [41] p1) = true → ∀ bs M, Then E (.call (.c true) false 62 [(.one (.pt 0)), (.one (.s (.c [41])))] (.tup []) ⟨0, 0, 0, 0, 0, 0⟩ (.ret (.p (.one (.pt 1))))) ⟨[t0.k, t0.l, t0.c, t0.n, i4, i5, i6, i7], bs, [t0.x, s1], [], [], [some (b, 0), some (o, 0)], hh0, M⟩ := by
    intro hc bs M
    rw [if_pos hc] at hb1
    cases hb1
    rw [then_step, th_call, if_pos (by rfl), s_ctShut]
    refine ⟨b, sl, L, _, [41], rfl, O1.at'.pw, ?_⟩
    have O2 := O1.shut [41] (by omega)
    simp [go_sem]
    simp only [then_step]; simp [go_sem, ep]
    obtain ⟨g', A', I'⟩ := O2.done
    exact hφ o _ g' A' I'
  rw [th_call, if_pos (by rfl), s_ctBad]
  refine ⟨b, sl, L, p1, rfl, O1.at'.pw, ?_⟩
  simp [go_sem]
  cases c0 : p1.bad with
  | true =>
    rw [then_step, th_call, if_neg (by simp [go_sem])]
    simp [go_sem]
    rw [then_step, th_ite, if_neg (by simp [go_sem])]
    exact stop (by rw [c0]; rfl) _ _
  | false =>
  rw [then_step, th_call, if_pos (by simp [go_sem]), s_ctIs]
  refine ⟨b, sl, L, p1, [41], rfl, O1.at'.pw, ?_⟩
  simp [go_sem]
  cases c1 : pIs L [41] p1 with
  | true =>
    rw [then_step, th_ite, if_neg (by simp [go_sem])]
    exact stop (by rw [c1]; simp) _ _
  | false =>
  clear stop
  rw [if_neg (by rw [c0, c1]; decide)] at hb1
  simp only [Option.bind_eq_some_iff] at hb1
  obtain ⟨⟨y, r1⟩, h3, h4⟩ := hb1
  rw [then_step, th_ite, if_pos (by simp [go_sem])]
  have hmp := mu_pos c0 O1.at'.pw.at'
  have more : ∀ (p2 : PS) (k2 : Hp) (bs : List Bool) (is' : List Int) (ss' : List (List UInt8)), Out h b sl L p2 k2 g1 o 27 t0.l t0.c 0 t0.x s vs ts → Adv L p1 p2 0 → pBin L m1 1 p2 = some (y, r1) →
      Then E (Fm.load (.c true) (.pt 1 6) 1 [(.sl (.x 0))] ⟨0, 0, 0, 0, 1, 0⟩
  (.need (.c true) (.nnp 1)
  (.need (.c true) (.nnp 1)
  (.callK (.c true) [((.c true), (.pt 1 6), 1)] 11 [(.one (.pt 0))] (.p (.one (.pt 2))) ⟨0, 0, 0, 0, 0, 1⟩
  (.mk [(.pt 2)] PI 1
  (.app (.x 0) (.x 1) 1 8 PI
  (.need (.c true) (.nnp 1)
  (.need (.c true) (.nnp 1)
  (.store (.pt 1 6) [(.sl (.x 2))]
  (.again 0 ⟨8, 0, 2, 0, 0, 2⟩ ⟨8, 1, 2, 0, 0, 2⟩ ⟨[], [(.c false)], [], [], [], []⟩)))))))))) ⟨[t0.k, t0.l, t0.c, t0.n, i4, i5, i6, i7] ++ is', bs, [t0.x, s1] ++ ss', [], [], [some (b, 0), some (o, 0)], k2, M⟩ := by
    intro p2 k2 bs is' ss' O2 Ap2 h3
    have hpd2 := Ap2.d
    have hbl := O2.blk
    rw [then_step, th_load, if_pos (by rfl)]
    simp [go_sem, hread_of hbl, itc]
    rw [then_step, th_need]
    refine ⟨by simp [go_sem], ?_⟩
    rw [then_step, th_need]
    refine ⟨by simp [go_sem], ?_⟩
    rw [then_step, th_callK, if_pos (by rfl), s_ctE]
    refine ⟨m1, by omega, b, sl, L, p2, y, r1, rfl, O2.at'.pw, h3, by omega, fun v2 k3 g3 A3 hI2 => ?_⟩
    have O3 := O2.then A3
    have Ad := (advE W.lw m1).1 _ _ _ _ h3
    have hrd1 := Ad.d
    have hbl3 := O3.blk
    simp [go_sem, ptrv]
    refine ⟨by rw [hread_of hbl, hread_of hbl3], some (v2, 0), rfl, ?_⟩
    rw [then_step, th_mk]
    intro kb hkb
    simp [go_sem]
    rw [then_step]
    have hkl := mu_top L p1
    refine out_app O3 (It.le (O2.at'.disj A3) _ _ hI2) (by omega) hkb rfl rfl rfl fun s' k4 hk4 O4 => ?_
    rw [th_need]
    refine ⟨by simp [go_sem], ?_⟩
    rw [then_step, th_need]
    refine ⟨by simp [go_sem], ?_⟩
    rw [then_step, th_store]
    refine ⟨_, by simp [go_sem, hwrite_of hk4, itc]; rfl, ?_⟩
    rw [then_step, says_again, ei, em]
    have hw := mu_went (((wentE W.lw m1).1 _ _ _ _ h3)) Ad O2.at'.pw.at'
    have hm2 := mu_le Ap2
    refine ⟨⟨_, _, _, _, _, false, o, s', vs ++ [v2], ts ++ [y], r1, _, _, m1, rfl, O4, by omega, h4, by omega, by simp; omega, by omega⟩, ?_⟩
    show measP b L.length _ < M 0
    rw [hM]
    refine Nat.lt_of_le_of_lt (Nat.le_of_eq (measP_eq O4.at'.pw rfl)) ?_
    omega
  cases first with
  | true =>
    rw [then_step, th_ite, if_neg (by simp [go_sem])]
    exact more p1 hh0 _ [] [] O1 (Adv.refl p1) h3
  | false =>
    rw [then_step, th_ite, if_pos (by simp [go_sem])]
    rw [then_step, th_call, if_pos (by rfl), s_ctMust]
    refine ⟨b, sl, L, p1, [44], rfl, O1.at'.pw, ?_⟩
    simp [go_sem, tokv, tkv]
    exact more (pMust L [44] p1) _ _ [_, _, _, _] [_] (O1.must [44]) (adv_must W.lw [44] p1) h3
end Go.Proofs.YthlakehilhpojaaGreatDoor
namespace Go.Proofs.YthlakehilhpojaaGreatDoor
open Go.RowKit
attribute [local go_sem] says_tt says_ff th_need th_ite th_call th_callK th_load th_store says_ret says_again BE.den IE.den SE.den LE.den AE.den CE.den PE.den VE.den KV.val Got.den Got.cnt exI allI exL allL Ctx.push Ctx.heap Ctx.cut Ctx.bare Ctx.mark Inc.blank List.getD_cons_zero List.getD_cons_succ List.cons_append List.nil_append List.append_nil List.map_cons List.map_nil List.replicate_zero List.replicate_succ specOf ltB_t leB_t ltB_f leB_f slc_val slc_nil slc_inj pt_val pt_nil hle_noHeap hle_refl hread_set hwrite_set set_same set_set noHeap_at B_inj ones_nil and_assoc
def fm_pmake : Fm := (.call (.c true) false 18 [(.one (.pt 0))] (.p (.agg [(.i .u8 (.x 4)), (.i .i64 (.x 5)), (.i .i64 (.x 6)), (.i .i64 (.x 7)), (.s (.x 1))])) ⟨4, 0, 1, 0, 0, 0⟩
  (.call (.not (.eqI (.x 4) (.c 2))) false 35 [(.one (.pt 0)), (.one (.s (.c [91])))] (.p (.one (.b (.x 0)))) ⟨0, 1, 0, 0, 0, 0⟩
  (.ite (.and (.not (.eqI (.x 4) (.c 2))) (.not (.x 0)))
  (.call (.c true) false 19 [(.one (.pt 0)), (.one (.i .i64 (.c 5)))] (.tup []) ⟨0, 0, 0, 0, 0, 0⟩
  (.call (.c true) false 64 [(.one (.pt 0))] (.p (.one (.pt 1))) ⟨0, 0, 0, 0, 0, 1⟩
  (.mk [(.pt 1)] 49 1
  (.call (.c true) false 80 [(.one (.i .u8 (.c 32))), (.agg [(.i .u8 (.x 0)), (.i .i64 (.x 1)), (.i .i64 (.x 2)), (.i .i64 (.x 3)), (.s (.x 0))]), (.one (.sl (.x 0)))] (.p (.one (.pt 2))) ⟨0, 0, 0, 0, 0, 1⟩
  (.call (.c true) false 60 [(.one (.pt 0)), (.one (.s (.c [40])))] (.p (.agg [(.i .u8 (.x 8)), (.i .i64 (.x 9)), (.i .i64 (.x 10)), (.i .i64 (.x 11)), (.s (.x 2))])) ⟨4, 0, 1, 0, 0, 0⟩
  (.need (.c true) (.nnp 1)
  (.need (.c true) (.nnp 1)
  (.need (.c true) (.nnp 1)
  (.load (.c true) (.pt 1 0) 1 [(.i .u8 (.x 12))] ⟨1, 0, 0, 0, 0, 0⟩
  (.ite (.eqI (.x 12) (.c 20))
  (.load (.c true) (.pt 2 6) 1 [(.sl (.x 1))] ⟨0, 0, 0, 0, 1, 0⟩
  (.need (.c true) (.nnp 2)
  (.need (.c true) (.nnp 2)
  (.callK (.c true) [((.c true), (.pt 2 6), 1)] 11 [(.one (.pt 0))] (.p (.one (.pt 3))) ⟨0, 0, 0, 0, 0, 1⟩
  (.mk [(.pt 3)] 49 1
  (.app (.x 1) (.x 2) 1 8 49
  (.need (.c true) (.nnp 2)
  (.need (.c true) (.nnp 2)
  (.store (.pt 2 6) [(.sl (.x 3))]
  (.call (.c true) false 62 [(.one (.pt 0)), (.one (.s (.c [41])))] (.tup []) ⟨0, 0, 0, 0, 0, 0⟩
  (.ret (.p (.one (.pt 2))))))))))))))
  (.call (.c true) false 62 [(.one (.pt 0)), (.one (.s (.c [41])))] (.tup []) ⟨0, 0, 0, 0, 0, 0⟩
  (.ret (.p (.one (.pt 2)))))))))))))))
  (.call (.c true) false 64 [(.one (.pt 0))] (.p (.one (.pt 1))) ⟨0, 0, 0, 0, 0, 1⟩
  (.mk [(.pt 1)] 49 1
  (.call (.c true) false 80 [(.one (.i .u8 (.c 32))), (.agg [(.i .u8 (.x 0)), (.i .i64 (.x 1)), (.i .i64 (.x 2)), (.i .i64 (.x 3)), (.s (.x 0))]), (.one (.sl (.x 0)))] (.p (.one (.pt 2))) ⟨0, 0, 0, 0, 0, 1⟩
  (.call (.c true) false 60 [(.one (.pt 0)), (.one (.s (.c [40])))] (.p (.agg [(.i .u8 (.x 8)), (.i .i64 (.x 9)), (.i .i64 (.x 10)), (.i .i64 (.x 11)), (.s (.x 2))])) ⟨4, 0, 1, 0, 0, 0⟩
  (.need (.c true) (.nnp 1)
  (.need (.c true) (.nnp 1)
  (.need (.c true) (.nnp 1)
  (.load (.c true) (.pt 1 0) 1 [(.i .u8 (.x 12))] ⟨1, 0, 0, 0, 0, 0⟩
  (.ite (.eqI (.x 12) (.c 20))
  (.load (.c true) (.pt 2 6) 1 [(.sl (.x 1))] ⟨0, 0, 0, 0, 1, 0⟩
  (.need (.c true) (.nnp 2)
  (.need (.c true) (.nnp 2)
  (.callK (.c true) [((.c true), (.pt 2 6), 1)] 11 [(.one (.pt 0))] (.p (.one (.pt 3))) ⟨0, 0, 0, 0, 0, 1⟩
  (.mk [(.pt 3)] 49 1
  (.app (.x 1) (.x 2) 1 8 49
  (.need (.c true) (.nnp 2)
  (.need (.c true) (.nnp 2)
  (.store (.pt 2 6) [(.sl (.x 3))]
  (.call (.c true) false 62 [(.one (.pt 0)), (.one (.s (.c [41])))] (.tup []) ⟨0, 0, 0, 0, 0, 0⟩
  (.ret (.p (.one (.pt 2))))))))))))))
  (.call (.c true) false 62 [(.one (.pt 0)), (.one (.s (.c [41])))] (.tup []) ⟨0, 0, 0, 0, 0, 0⟩
  (.ret (.p (.one (.pt 2)))))))))))))))))
theorem gen_pmake : genFn ⟨true, []⟩ Tryz.prog (fun l => ([] : List LAnn).getD l ⟨[], [], []⟩) Tryz.f107 = fm_pmake := by kernel_rfl
theorem ps_pmake : freshPs Tryz.prog .zero Tryz.f107.params.toList = some ([(.one (.pt 0)), (.agg [(.i .u8 (.x 0)), (.i .i64 (.x 1)), (.i .i64 (.x 2)), (.i .i64 (.x 3)), (.s (.x 0))])], ⟨4, 0, 1, 0, 0, 1⟩) := by kernel_rfl
def fm_patom : Fm := (.call (.c true) false 18 [(.one (.pt 0))] (.p (.agg [(.i .u8 (.x 0)), (.i .i64 (.x 1)), (.i .i64 (.x 2)), (.i .i64 (.x 3)), (.s (.x 0))])) ⟨4, 0, 1, 0, 0, 0⟩
  (.call (.c true) false 20 [(.one (.pt 0))] (.p (.one (.b (.x 0)))) ⟨0, 1, 0, 0, 0, 0⟩
  (.ite (.x 0)
  (.call (.c true) false 80 [(.one (.i .u8 (.c 25))), (.agg [(.i .u8 (.x 0)), (.i .i64 (.x 1)), (.i .i64 (.x 2)), (.i .i64 (.x 3)), (.s (.x 0))]), (.one (.sl .nil))] (.p (.one (.pt 1))) ⟨0, 0, 0, 0, 0, 1⟩
  (.ret (.p (.one (.pt 1)))))
  (.ite (.eqI (.x 0) (.c 3))
  (.call (.c true) false 48 [(.one (.pt 0))] (.p (.agg [(.i .u8 (.x 4)), (.i .i64 (.x 5)), (.i .i64 (.x 6)), (.i .i64 (.x 7)), (.s (.x 1))])) ⟨4, 0, 1, 0, 0, 0⟩
  (.call (.c true) false 49 [(.one (.i .u8 (.c 21))), (.agg [(.i .u8 (.x 4)), (.i .i64 (.x 5)), (.i .i64 (.x 6)), (.i .i64 (.x 7)), (.s (.x 1))]), (.one (.i .i64 (.x 3))), (.one (.sl .nil))] (.p (.one (.pt 1))) ⟨0, 0, 0, 0, 0, 1⟩
  (.ret (.p (.one (.pt 1))))))
  (.ite (.eqI (.x 0) (.c 4))
  (.call (.c true) false 48 [(.one (.pt 0))] (.p (.agg [(.i .u8 (.x 4)), (.i .i64 (.x 5)), (.i .i64 (.x 6)), (.i .i64 (.x 7)), (.s (.x 1))])) ⟨4, 0, 1, 0, 0, 0⟩
  (.call (.c true) false 49 [(.one (.i .u8 (.c 22))), (.agg [(.i .u8 (.x 4)), (.i .i64 (.x 5)), (.i .i64 (.x 6)), (.i .i64 (.x 7)), (.s (.x 1))]), (.one (.i .i64 (.x 3))), (.one (.sl .nil))] (.p (.one (.pt 1))) ⟨0, 0, 0, 0, 0, 1⟩
  (.ret (.p (.one (.pt 1))))))
  (.ite (.eqI (.x 0) (.c 5))
  (.call (.c true) false 48 [(.one (.pt 0))] (.p (.agg [(.i .u8 (.x 4)), (.i .i64 (.x 5)), (.i .i64 (.x 6)), (.i .i64 (.x 7)), (.s (.x 1))])) ⟨4, 0, 1, 0, 0, 0⟩
  (.call (.c true) false 58 [(.one (.i .u8 (.c 23))), (.agg [(.i .u8 (.x 4)), (.i .i64 (.x 5)), (.i .i64 (.x 6)), (.i .i64 (.x 7)), (.s (.x 1))]), (.one (.s (.x 0))), (.one (.sl .nil))] (.p (.one (.pt 1))) ⟨0, 0, 0, 0, 0, 1⟩
  (.ret (.p (.one (.pt 1))))))
  (.call (.c true) false 63 [(.one (.pt 0)), (.one (.s (.c [116, 114, 117, 101])))] (.p (.one (.b (.x 1)))) ⟨0, 1, 0, 0, 0, 0⟩
  (.ite (.x 1)
  (.call (.c true) false 49 [(.one (.i .u8 (.c 24))), (.agg [(.i .u8 (.x 0)), (.i .i64 (.x 1)), (.i .i64 (.x 2)), (.i .i64 (.x 3)), (.s (.x 0))]), (.one (.i .i64 (.c 1))), (.one (.sl .nil))] (.p (.one (.pt 1))) ⟨0, 0, 0, 0, 0, 1⟩
  (.ret (.p (.one (.pt 1)))))
  (.call (.c true) false 63 [(.one (.pt 0)), (.one (.s (.c [102, 97, 108, 115, 101])))] (.p (.one (.b (.x 2)))) ⟨0, 1, 0, 0, 0, 0⟩
  (.ite (.x 2)
  (.call (.c true) false 49 [(.one (.i .u8 (.c 24))), (.agg [(.i .u8 (.x 0)), (.i .i64 (.x 1)), (.i .i64 (.x 2)), (.i .i64 (.x 3)), (.s (.x 0))]), (.one (.i .i64 (.c 0))), (.one (.sl .nil))] (.p (.one (.pt 1))) ⟨0, 0, 0, 0, 0, 1⟩
  (.ret (.p (.one (.pt 1)))))
  (.call (.c true) false 63 [(.one (.pt 0)), (.one (.s (.c [110, 105, 108])))] (.p (.one (.b (.x 3)))) ⟨0, 1, 0, 0, 0, 0⟩
  (.ite (.x 3)
  (.call (.c true) false 80 [(.one (.i .u8 (.c 25))), (.agg [(.i .u8 (.x 0)), (.i .i64 (.x 1)), (.i .i64 (.x 2)), (.i .i64 (.x 3)), (.s (.x 0))]), (.one (.sl .nil))] (.p (.one (.pt 1))) ⟨0, 0, 0, 0, 0, 1⟩
  (.ret (.p (.one (.pt 1)))))
  (.ite (.eqI (.x 0) (.c 1))
  (.call (.c true) false 48 [(.one (.pt 0))] (.p (.agg [(.i .u8 (.x 4)), (.i .i64 (.x 5)), (.i .i64 (.x 6)), (.i .i64 (.x 7)), (.s (.x 1))])) ⟨4, 0, 1, 0, 0, 0⟩
  (.call (.c true) false 35 [(.one (.pt 0)), (.one (.s (.c [40])))] (.p (.one (.b (.x 4)))) ⟨0, 1, 0, 0, 0, 0⟩
  (.ite (.x 4)
  (.call (.c true) false 106 [(.one (.pt 0)), (.agg [(.i .u8 (.x 0)), (.i .i64 (.x 1)), (.i .i64 (.x 2)), (.i .i64 (.x 3)), (.s (.x 0))])] (.p (.one (.pt 1))) ⟨0, 0, 0, 0, 0, 1⟩
  (.ret (.p (.one (.pt 1)))))
  (.call (.c true) false 58 [(.one (.i .u8 (.c 26))), (.agg [(.i .u8 (.x 0)), (.i .i64 (.x 1)), (.i .i64 (.x 2)), (.i .i64 (.x 3)), (.s (.x 0))]), (.one (.s (.x 0))), (.one (.sl .nil))] (.p (.one (.pt 1))) ⟨0, 0, 0, 0, 0, 1⟩
  (.ret (.p (.one (.pt 1))))))))
  (.call (.c true) false 35 [(.one (.pt 0)), (.one (.s (.c [40])))] (.p (.one (.b (.x 4)))) ⟨0, 1, 0, 0, 0, 0⟩
  (.ite (.x 4)
  (.call (.c true) false 60 [(.one (.pt 0)), (.one (.s (.c [40])))] (.p (.agg [(.i .u8 (.x 4)), (.i .i64 (.x 5)), (.i .i64 (.x 6)), (.i .i64 (.x 7)), (.s (.x 1))])) ⟨4, 0, 1, 0, 0, 0⟩
  (.call (.c true) false 11 [(.one (.pt 0))] (.p (.one (.pt 1))) ⟨0, 0, 0, 0, 0, 1⟩
  (.call (.c true) false 62 [(.one (.pt 0)), (.one (.s (.c [41])))] (.tup []) ⟨0, 0, 0, 0, 0, 0⟩
  (.ret (.p (.one (.pt 1)))))))
  (.call (.c true) false 63 [(.one (.pt 0)), (.one (.s (.c [109, 97, 107, 101])))] (.p (.one (.b (.x 5)))) ⟨0, 1, 0, 0, 0, 0⟩
  (.ite (.x 5)
  (.call (.c true) false 107 [(.one (.pt 0)), (.agg [(.i .u8 (.x 0)), (.i .i64 (.x 1)), (.i .i64 (.x 2)), (.i .i64 (.x 3)), (.s (.x 0))])] (.p (.one (.pt 1))) ⟨0, 0, 0, 0, 0, 1⟩
  (.ret (.p (.one (.pt 1)))))
  (.call (.c true) false 19 [(.one (.pt 0)), (.one (.i .i64 (.c 5)))] (.tup []) ⟨0, 0, 0, 0, 0, 0⟩
  (.call (.c true) false 80 [(.one (.i .u8 (.c 25))), (.agg [(.i .u8 (.x 0)), (.i .i64 (.x 1)), (.i .i64 (.x 2)), (.i .i64 (.x 3)), (.s (.x 0))]), (.one (.sl .nil))] (.p (.one (.pt 1))) ⟨0, 0, 0, 0, 0, 1⟩
  (.ret (.p (.one (.pt 1)))))))))))))))))))))))
theorem gen_patom : genFn ⟨true, []⟩ Tryz.prog (fun l => ([] : List LAnn).getD l ⟨[], [], []⟩) Tryz.f93 = fm_patom := by kernel_rfl
theorem ps_patom : freshPs Tryz.prog .zero Tryz.f93.params.toList = some ([(.one (.pt 0))], ⟨0, 0, 0, 0, 0, 1⟩) := by kernel_rfl
def pHd (L : List Tok) (p : PS) : PS := if !((tk L p).k == 2) && !pIs L [91] p then pFail L 5 p else p
theorem pHead_eq (L : List Tok) (p : PS) : pHead L p = pHd L (pPass L p) := rfl
theorem adv_hd {L : List Tok} (p : PS) : Adv L p (pHd L p) 0 := by
  unfold pHd; split
  · exact adv_fail 5 p
  · exact Adv.refl p
def runMake (L : List Tok) (n : Nat) (t0 : Tok) (p : PS) : Option (Tr × PS) :=
  (pKind L n (pHd L p)).bind fun r =>
    if r.1.k = 20 then (pBin L n 1 (pOpen L [40] r.2)).map fun y => (nd 32 t0 0 [] [r.1, y.1], pShut L [41] y.2)
    else some (nd 32 t0 0 [] [r.1], pShut L [41] (pOpen L [40] r.2))
def MakeOk (n : Nat) : Prop := ∀ args h φ w, prodT runMake n args h φ → Holds h w → Calls Tryz.prog 107 args.toArray w fun e w' => ∃ v k, e = .returned v ∧ φ v k ∧ Holds k w' ∧ Fr w.heap.size h k w w'
def ctMake {n : Nat} (H : MakeOk n) : Ct Tryz.prog := ⟨107, prodT runMake n, H⟩
def ctPKind (n : Nat) : Ct Tryz.prog := ⟨64, prod pKind n, kind_ok n⟩
theorem it_read0 {h : Hp} {v : Nat} {k l c n : Int} {x : List UInt8} {s : Slc} (hx : h v = some ⟨itc k l c n x s, IT⟩) : hread h (some (v, 0)) 1 = some [.int .u8 k] := by rw [hread_of hx]; rfl
theorem it_read6 {h : Hp} {v : Nat} {k l c n : Int} {x : List UInt8} {s : Slc} (hx : h v = some ⟨itc k l c n x s, IT⟩) : hread h (some (v, 6)) 1 = some [s.val] := by rw [hread_of hx]; rfl
theorem It.head {h : Hp} {v : Nat} {t : Tr} (hi : It h v t) : ∃ l c n x s, h v = some ⟨itc t.k l c n x s, IT⟩ := by
  cases t with
  | nd k l c n x ks => obtain ⟨s, vs, h1, _⟩ := hi; exact ⟨l, c, n, x, s, h1⟩
set_option maxHeartbeats 4000000 in
theorem make_ok {n : Nat} (HE : ExprOk n) : MakeOk n := by
  rintro args h φ w ⟨m, hm, b, sl, L, p, t, q, t0, rfl, W, hr, hd, hφ⟩ hH
  refine by_fm Tryz.func107 gen_pmake ps_pmake [ctNow, ctIs, ctFail, ctMake1, ctOpen, ctShut, ctPKind n, ctExpr HE] φ (noInv) (noMeas) ⟨[t0.k, t0.l, t0.c, t0.n], [], [t0.x], [], [], [some (b, 0)], h, noM⟩ ⟨rfl, rfl, rfl, rfl, rfl, rfl⟩ ones_nil ?_ w hH rfl
  generalize hE : (⟨specOf _, _, _, _⟩ : Env) = E
  have s_ctNow : E.spec 18 = (ctNow).spec := by rw [← hE]; rfl
  have s_ctIs : E.spec 35 = (ctIs).spec := by rw [← hE]; rfl
  have s_ctFail : E.spec 19 = (ctFail).spec := by rw [← hE]; rfl
  have s_ctMake1 : E.spec 80 = (ctMake1).spec := by rw [← hE]; rfl
  have s_ctOpen : E.spec 60 = (ctOpen).spec := by rw [← hE]; rfl
  have s_ctShut : E.spec 62 = (ctShut).spec := by rw [← hE]; rfl
  have s_ctK : E.spec 64 = (ctPKind n).spec := by rw [← hE]; rfl
  have s_ctE : E.spec 11 = (ctExpr HE).spec := by rw [← hE]; rfl
  have ep : E.post = φ := by rw [← hE]
  clear hE
  unfold fm_pmake
  have A := At.start W
  have hd0 := W.d0
  unfold runMake at hr
  simp only [Option.bind_eq_some_iff] at hr
  obtain ⟨⟨x, r⟩, h1, h2⟩ := hr
  have Ah := adv_hd (L := L) p
  have Ak := adv_kind W.lw m _ h1
  have hhd := Ah.d
  have hkd := Ak.d
  have Ao := adv_open W.lw [40] r
  have hod := Ao.d
  have rest : ∀ (hh : Hp) (k1 l1 c1 n1 : Int) (x1 : List UInt8) (y : Bool), At h b sl L (pHd L p) hh noHeap → Then E fm_pmake.k.k.e ⟨[t0.k, t0.l, t0.c, t0.n, k1, l1, c1, n1], [y], [t0.x, x1], [], [], [some (b, 0)], hh, noM⟩ := by
    intro hh k1 l1 c1 n1 x1 y A1
    unfold fm_pmake
    simp only [Fm.k, Fm.e]
    rw [then_step, th_call, if_pos (by rfl), s_ctK]
    refine ⟨m, hm, b, sl, L, _, x, r, rfl, A1.pw, h1, by omega, fun v k g A2 hI => ?_⟩
    simp [go_sem, ptrv]; refine ⟨some (v, 0), rfl, ?_⟩
    have A3 := A1.then A2
    have hI3 := It.le (A1.disj A2) _ _ hI
    rw [then_step, th_mk]
    intro kb hkb
    simp [go_sem]
    rw [then_step, th_call, if_pos (by rfl), s_ctMake1]
    refine ⟨32, t0, ⟨some (kb, 0), 1, 1⟩, rfl, fun o ho => ?_⟩
    simp [go_sem, ptrv]; refine ⟨some (o, 0), rfl, ?_⟩
    have O := A3.outs (vs := [v]) (ts := [x]) hkb ⟨hI3, trivial⟩ (by simp) ho 32 t0.l t0.c 0 []
    rw [then_step, th_call, if_pos (by rfl), s_ctOpen]
    refine ⟨b, sl, L, r, [40], rfl, O.at'.pw, ?_⟩
    simp [go_sem, tokv, tkv]
    have O1 := O.open [40] (by omega)
    obtain ⟨xl, xc, xn, xx, xs, hx⟩ := (It.le O1.at'.le _ _ hI3).head
    iterate 3 (rw [then_step, th_need]; refine ⟨by simp [go_sem], ?_⟩)
    rw [then_step, th_load, if_pos (by rfl)]
    have hxr := it_read0 hx
    simp [go_sem]
    refine ⟨x.k, hxr, ?_⟩
    by_cases c20 : x.k = 20
    · rw [if_pos c20] at h2
      simp only [Option.map_eq_some_iff] at h2
      obtain ⟨⟨y, u⟩, h3, h4⟩ := h2
      cases h4
      rw [then_step, th_ite, if_pos (by simp [go_sem, c20])]
      have hbl := O1.blk
      have hsr := it_read6 hbl
      rw [then_step, th_load, if_pos (by rfl)]
      simp [go_sem]
      refine ⟨⟨some (kb, 0), 1, 1⟩, hsr, ?_⟩
      iterate 2 (rw [then_step, th_need]; refine ⟨by simp [go_sem], ?_⟩)
      rw [then_step, th_callK, if_pos (by rfl), s_ctE]
      refine ⟨m, hm, b, sl, L, _, y, u, rfl, O1.at'.pw, h3, by omega, fun v2 k3 g3 A5 hI2 => ?_⟩
      have O3 := O1.then A5
      have Ad := (advE W.lw m).1 _ _ _ _ h3
      have hrd1 := Ad.d
      have hbl3 := O3.blk
      have hsr3 := it_read6 hbl3
      simp [go_sem, ptrv]
      refine ⟨hsr3.trans hsr.symm, some (v2, 0), rfl, ?_⟩
      rw [then_step, th_mk]
      intro kb2 hkb2
      simp [go_sem]
      rw [then_step]
      refine out_app O3 (It.le (O1.at'.disj A5) _ _ hI2) (by simp) hkb2 rfl rfl rfl fun s' k4 hk4 O4 => ?_
      rw [th_need]
      refine ⟨by simp [go_sem], ?_⟩
      rw [then_step, th_need]
      refine ⟨by simp [go_sem], ?_⟩
      rw [then_step, th_store]
      refine ⟨_, by simp [go_sem, hwrite_of hk4, itc]; rfl, ?_⟩
      rw [then_step, th_call, if_pos (by rfl), s_ctShut]
      refine ⟨b, sl, L, u, [41], rfl, O4.at'.pw, ?_⟩
      have O5 := O4.shut [41] (by omega)
      simp [go_sem]
      simp only [then_step]; simp [go_sem, ep]
      obtain ⟨g', A', I'⟩ := O5.done
      exact hφ o _ g' A' I'
    · rw [if_neg c20] at h2
      cases h2
      rw [then_step, th_ite, if_neg (by simp [go_sem, c20])]
      rw [then_step, th_call, if_pos (by rfl), s_ctShut]
      refine ⟨b, sl, L, _, [41], rfl, O1.at'.pw, ?_⟩
      have O5 := O1.shut [41] (by omega)
      rw [set_set] at O5
      simp [go_sem]
      simp only [then_step]; simp [go_sem, ep]
      obtain ⟨g', A', I'⟩ := O5.done
      exact hφ o _ g' A' I'
  unfold fm_pmake at rest
  simp only [Fm.k, Fm.e] at rest
  rw [th_call, if_pos (by rfl), s_ctNow]
  refine ⟨b, sl, L, p, rfl, W, ?_⟩
  simp [go_sem, tokv, tkv]
  by_cases c2 : (tk L p).k = 2
  · have hp : pHd L p = p := by unfold pHd; rw [c2]; rfl
    rw [then_step, th_call, if_neg (by simp [go_sem, c2])]
    simp [go_sem]
    rw [then_step, th_ite, if_neg (by simp [go_sem, c2])]
    exact rest h _ _ _ _ _ _ (hp.symm ▸ A)
  rw [then_step, th_call, if_pos (by simp [go_sem, c2]), s_ctIs]
  refine ⟨b, sl, L, p, [91], rfl, W, ?_⟩
  simp [go_sem]
  cases c3 : pIs L [91] p with
  | true =>
    have hp : pHd L p = p := by unfold pHd; rw [c3]; simp
    rw [then_step, th_ite, if_neg (by simp [go_sem])]
    exact rest h _ _ _ _ _ _ (hp.symm ▸ A)
  | false =>
    have hp : pHd L p = pFail L 5 p := by unfold pHd; rw [c3]; simp [c2]
    rw [then_step, th_ite, if_pos (by simp [go_sem, c2])]
    rw [then_step, th_call, if_pos (by rfl), s_ctFail]
    refine ⟨b, sl, L, p, 5, rfl, W, ?_⟩
    simp [go_sem]
    have A1 := A.fail 5
    rw [← hp] at A1
    rw [← hp]
    exact rest _ _ _ _ _ _ _ A1
set_option maxHeartbeats 8000000 in
theorem atom_ok {n : Nat} (HE : ExprOk n) (HC : CallOk n) (HM : MakeOk n) : AtomOk (n + 1) := by
  rintro args h φ w ⟨m, hm, b, sl, L, p, t, q, rfl, W, hr, hd, hφ⟩ hH
  cases m with
  | zero => cases hr
  | succ m =>
  refine by_fm Tryz.func93 gen_patom ps_patom [ctNow, ctBad, ctMake1, ctPPass, ctNumbered, ctNamed, ctTry, ctIs, ctOpen, ctShut, ctFail, ctCall HC, ctMake HM, ctExpr HE] φ (noInv) (noMeas) ⟨[], [], [], [], [], [some (b, 0)], h, noM⟩ ⟨rfl, rfl, rfl, rfl, rfl, rfl⟩ ones_nil ?_ w hH rfl
  generalize hE : (⟨specOf _, _, _, _⟩ : Env) = E
  have s_ctNow : E.spec 18 = (ctNow).spec := by rw [← hE]; rfl
  have s_ctBad : E.spec 20 = (ctBad).spec := by rw [← hE]; rfl
  have s_ctMake1 : E.spec 80 = (ctMake1).spec := by rw [← hE]; rfl
  have s_ctPPass : E.spec 48 = (ctPPass).spec := by rw [← hE]; rfl
  have s_ctNumbered : E.spec 49 = (ctNumbered).spec := by rw [← hE]; rfl
  have s_ctNamed : E.spec 58 = (ctNamed).spec := by rw [← hE]; rfl
  have s_ctTry : E.spec 63 = (ctTry).spec := by rw [← hE]; rfl
  have s_ctIs : E.spec 35 = (ctIs).spec := by rw [← hE]; rfl
  have s_ctOpen : E.spec 60 = (ctOpen).spec := by rw [← hE]; rfl
  have s_ctShut : E.spec 62 = (ctShut).spec := by rw [← hE]; rfl
  have s_ctFail : E.spec 19 = (ctFail).spec := by rw [← hE]; rfl
  have s_ctC : E.spec 106 = (ctCall HC).spec := by rw [← hE]; rfl
  have s_ctM : E.spec 107 = (ctMake HM).spec := by rw [← hE]; rfl
  have s_ctE : E.spec 11 = (ctExpr HE).spec := by rw [← hE]; rfl
  have ep : E.post = φ := by rw [← hE]
  clear hE
  unfold fm_patom
  have A := At.start W
  have hd0 := W.d0
  have fin : ∀ {k n' : Int} {q' : PS} {kk : Hp} (A' : At h b sl L q' kk noHeap) (x : List UInt8), some (nd k (tk L p) n' x [], q') = some (t, q) → ∀ v, kk v = none → φ (ptrv v) (kk.set v ⟨itc k (tk L p).l (tk L p).c n' x ⟨none, 0, 0⟩, IT⟩) := by
    intro k n' q' kk A' x he v hv
    cases he
    exact hφ v _ _ (A'.new hv _) (A'.leaf hv ..)
  rw [pAtom] at hr
  rw [th_call, if_pos (by rfl), s_ctNow]
  refine ⟨b, sl, L, p, rfl, W, ?_⟩
  simp [go_sem, tokv, tkv]
  rw [then_step, th_call, if_pos (by rfl), s_ctBad]
  refine ⟨b, sl, L, p, rfl, W, ?_⟩
  simp [go_sem]
  cases c0 : p.bad with
  | true =>
    rw [if_pos c0] at hr
    rw [then_step, th_ite, if_pos (by simp [go_sem])]
    rw [then_step, th_call, if_pos (by rfl), s_ctMake1]
    refine ⟨25, tk L p, ⟨none, 0, 0⟩, rfl, fun v hv => ?_⟩
    simp [go_sem, ptrv]; refine ⟨some (v, 0), rfl, ?_⟩
    simp only [then_step]; simp [go_sem, ep]
    exact fin A [] hr v hv
  | false =>
  rw [c0, if_neg (by decide)] at hr
  rw [then_step, th_ite, if_neg (by simp [go_sem])]
  by_cases c1 : (tk L p).k = 3
  · rw [if_pos c1] at hr
    rw [then_step, th_ite, if_pos (by simp [go_sem, c1])]
    rw [then_step, th_call, if_pos (by rfl), s_ctPPass]
    refine ⟨b, sl, L, p, rfl, W, ?_⟩
    simp [go_sem, tokv, tkv]
    rw [then_step, th_call, if_pos (by rfl), s_ctNumbered]
    refine ⟨21, tk L p, (tk L p).n, ⟨none, 0, 0⟩, rfl, fun v hv => ?_⟩
    simp [go_sem, ptrv]; refine ⟨some (v, 0), rfl, ?_⟩
    simp only [then_step]; simp [go_sem, ep]
    exact fin A.pass [] hr v hv
  rw [if_neg c1] at hr
  rw [then_step, th_ite, if_neg (by simp [go_sem, c1])]
  by_cases c2 : (tk L p).k = 4
  · rw [if_pos c2] at hr
    rw [then_step, th_ite, if_pos (by simp [go_sem, c2])]
    rw [then_step, th_call, if_pos (by rfl), s_ctPPass]
    refine ⟨b, sl, L, p, rfl, W, ?_⟩
    simp [go_sem, tokv, tkv]
    rw [then_step, th_call, if_pos (by rfl), s_ctNumbered]
    refine ⟨22, tk L p, (tk L p).n, ⟨none, 0, 0⟩, rfl, fun v hv => ?_⟩
    simp [go_sem, ptrv]; refine ⟨some (v, 0), rfl, ?_⟩
    simp only [then_step]; simp [go_sem, ep]
    exact fin A.pass [] hr v hv
  rw [if_neg c2] at hr
  rw [then_step, th_ite, if_neg (by simp [go_sem, c2])]
  by_cases c3 : (tk L p).k = 5
  · rw [if_pos c3] at hr
    rw [then_step, th_ite, if_pos (by simp [go_sem, c3])]
    rw [then_step, th_call, if_pos (by rfl), s_ctPPass]
    refine ⟨b, sl, L, p, rfl, W, ?_⟩
    simp [go_sem, tokv, tkv]
    rw [then_step, th_call, if_pos (by rfl), s_ctNamed]
    refine ⟨23, tk L p, (tk L p).x, ⟨none, 0, 0⟩, rfl, fun v hv => ?_⟩
    simp [go_sem, ptrv]; refine ⟨some (v, 0), rfl, ?_⟩
    simp only [then_step]; simp [go_sem, ep]
    exact fin A.pass _ hr v hv
  rw [if_neg c3] at hr
  rw [then_step, th_ite, if_neg (by simp [go_sem, c3])]
  rw [then_step, th_call, if_pos (by rfl), s_ctTry]
  refine ⟨b, sl, L, p, wTrue, rfl, W, ?_⟩
  cases c4 : pIs L wTrue p with
  | true =>
    rw [if_pos c4] at hr
    rw [if_pos rfl]
    simp [go_sem]
    rw [then_step, th_ite, if_pos (by simp [go_sem])]
    rw [then_step, th_call, if_pos (by rfl), s_ctNumbered]
    refine ⟨24, tk L p, 1, ⟨none, 0, 0⟩, rfl, fun v hv => ?_⟩
    simp [go_sem, ptrv]; refine ⟨some (v, 0), rfl, ?_⟩
    simp only [then_step]; simp [go_sem, ep]
    exact fin A.pass [] hr v hv
  | false =>
  rw [c4, if_neg (by decide)] at hr
  rw [if_neg (by decide)]
  simp [go_sem]
  rw [then_step, th_ite, if_neg (by simp [go_sem])]
  rw [then_step, th_call, if_pos (by rfl), s_ctTry]
  refine ⟨b, sl, L, p, wFalse, rfl, W, ?_⟩
  cases c5 : pIs L wFalse p with
  | true =>
    rw [if_pos c5] at hr
    rw [if_pos rfl]
    simp [go_sem]
    rw [then_step, th_ite, if_pos (by simp [go_sem])]
    rw [then_step, th_call, if_pos (by rfl), s_ctNumbered]
    refine ⟨24, tk L p, 0, ⟨none, 0, 0⟩, rfl, fun v hv => ?_⟩
    simp [go_sem, ptrv]; refine ⟨some (v, 0), rfl, ?_⟩
    simp only [then_step]; simp [go_sem, ep]
    exact fin A.pass [] hr v hv
  | false =>
  rw [c5, if_neg (by decide)] at hr
  rw [if_neg (by decide)]
  simp [go_sem]
  rw [then_step, th_ite, if_neg (by simp [go_sem])]
  rw [then_step, th_call, if_pos (by rfl), s_ctTry]
  refine ⟨b, sl, L, p, wNil, rfl, W, ?_⟩
  cases c6 : pIs L wNil p with
  | true =>
    rw [if_pos c6] at hr
    rw [if_pos rfl]
    simp [go_sem]
    rw [then_step, th_ite, if_pos (by simp [go_sem])]
    rw [then_step, th_call, if_pos (by rfl), s_ctMake1]
    refine ⟨25, tk L p, ⟨none, 0, 0⟩, rfl, fun v hv => ?_⟩
    simp [go_sem, ptrv]; refine ⟨some (v, 0), rfl, ?_⟩
    simp only [then_step]; simp [go_sem, ep]
    exact fin A.pass [] hr v hv
  | false =>
  rw [c6, if_neg (by decide)] at hr
  rw [if_neg (by decide)]
  simp [go_sem]
  rw [then_step, th_ite, if_neg (by simp [go_sem])]
  by_cases c7 : (tk L p).k = 1
  · rw [if_pos c7] at hr
    rw [then_step, th_ite, if_pos (by simp [go_sem, c7])]
    rw [then_step, th_call, if_pos (by rfl), s_ctPPass]
    refine ⟨b, sl, L, p, rfl, W, ?_⟩
    simp [go_sem, tokv, tkv]
    have A1 := A.pass
    have hpd := (adv_pass W.lw p).d
    rw [then_step, th_call, if_pos (by rfl), s_ctIs]
    refine ⟨b, sl, L, _, [40], rfl, A1.pw, ?_⟩
    simp [go_sem]
    cases c8 : pIs L [40] (pPass L p) with
    | true =>
      rw [if_pos c8] at hr
      rw [then_step, th_ite, if_pos (by simp [go_sem])]
      rw [then_step, th_call, if_pos (by rfl), s_ctC]
      refine ⟨m, by omega, b, sl, L, _, t, q, tk L p, rfl, A1.pw, hr, by omega, fun v k g A2 hI => ?_⟩
      simp [go_sem, ptrv]; refine ⟨some (v, 0), rfl, ?_⟩
      simp only [then_step]; simp [go_sem, ep]
      exact hφ v _ _ (A1.then A2) (It.le (A1.disj A2) _ _ hI)
    | false =>
      rw [c8, if_neg (by decide)] at hr
      rw [then_step, th_ite, if_neg (by simp [go_sem])]
      rw [then_step, th_call, if_pos (by rfl), s_ctNamed]
      refine ⟨26, tk L p, (tk L p).x, ⟨none, 0, 0⟩, rfl, fun v hv => ?_⟩
      simp [go_sem, ptrv]; refine ⟨some (v, 0), rfl, ?_⟩
      simp only [then_step]; simp [go_sem, ep]
      exact fin A1 _ hr v hv
  rw [if_neg c7] at hr
  rw [then_step, th_ite, if_neg (by simp [go_sem, c7])]
  rw [then_step, th_call, if_pos (by rfl), s_ctIs]
  refine ⟨b, sl, L, p, [40], rfl, W, ?_⟩
  simp [go_sem]
  cases c9 : pIs L [40] p with
  | true =>
    rw [if_pos c9] at hr
    simp only [Option.map_eq_some_iff] at hr
    obtain ⟨⟨x, r⟩, h1, h2⟩ := hr
    cases h2
    rw [then_step, th_ite, if_pos (by simp [go_sem])]
    rw [then_step, th_call, if_pos (by rfl), s_ctOpen]
    refine ⟨b, sl, L, p, [40], rfl, W, ?_⟩
    simp [go_sem, tokv, tkv]
    have hod := (adv_open W.lw [40] p).d
    have A1 := A.open [40] (by omega)
    rw [then_step, th_call, if_pos (by rfl), s_ctE]
    refine ⟨m, by omega, b, sl, L, _, x, r, rfl, A1.pw, h1, by omega, fun v k g A2 hI => ?_⟩
    simp [go_sem, ptrv]; refine ⟨some (v, 0), rfl, ?_⟩
    have A3 := A1.then A2
    have hkd := ((advE W.lw m).1 _ _ _ _ h1).d
    rw [then_step, th_call, if_pos (by rfl), s_ctShut]
    refine ⟨b, sl, L, r, [41], rfl, A3.pw, ?_⟩
    simp [go_sem]
    simp only [then_step]; simp [go_sem, ep]
    exact hφ v _ _ (A3.shut [41] (by omega)) (It.le (A1.disj A2) _ _ hI)
  | false =>
  rw [c9, if_neg (by decide)] at hr
  rw [then_step, th_ite, if_neg (by simp [go_sem])]
  rw [then_step, th_call, if_pos (by rfl), s_ctTry]
  refine ⟨b, sl, L, p, wMake, rfl, W, ?_⟩
  cases c10 : pIs L wMake p with
  | true =>
    rw [if_pos c10] at hr
    rw [if_pos rfl]
    simp [go_sem]
    rw [then_step, th_ite, if_pos (by simp [go_sem])]
    have A1 := A.pass
    have hpd := (adv_pass W.lw p).d
    rw [then_step, th_call, if_pos (by rfl), s_ctM]
    refine ⟨m, by omega, b, sl, L, _, t, q, tk L p, rfl, A1.pw, hr, by omega, fun v k g A2 hI => ?_⟩
    simp [go_sem, ptrv]; refine ⟨some (v, 0), rfl, ?_⟩
    simp only [then_step]; simp [go_sem, ep]
    exact hφ v _ _ (A1.then A2) (It.le (A1.disj A2) _ _ hI)
  | false =>
    rw [c10, if_neg (by decide)] at hr
    rw [if_neg (by decide)]
    simp [go_sem]
    rw [then_step, th_ite, if_neg (by simp [go_sem])]
    rw [then_step, th_call, if_pos (by rfl), s_ctFail]
    refine ⟨b, sl, L, p, 5, rfl, W, ?_⟩
    simp [go_sem]
    rw [then_step, th_call, if_pos (by rfl), s_ctMake1]
    refine ⟨25, tk L p, ⟨none, 0, 0⟩, rfl, fun v hv => ?_⟩
    simp [go_sem, ptrv]; refine ⟨some (v, 0), rfl, ?_⟩
    simp only [then_step]; simp [go_sem, ep]
    exact fin (A.fail 5) [] hr v hv
/-- Expressions are taken. -/
theorem ex_ok : ∀ n, BinOk n ∧ UnOk n ∧ AtomOk n
  | 0 => by
    refine ⟨?_, ?_, ?_⟩
    · rintro args h φ w ⟨m, hm, b, sl, L, p, t, q, lvl, rfl, _, W, hr, _⟩ hH
      obtain rfl : m = 0 := by omega
      cases hr
    · rintro args h φ w ⟨m, hm, b, sl, L, p, t, q, rfl, W, hr, _⟩ hH
      obtain rfl : m = 0 := by omega
      cases hr
    · rintro args h φ w ⟨m, hm, b, sl, L, p, t, q, rfl, W, hr, _⟩ hH
      obtain rfl : m = 0 := by omega
      cases hr
  | n + 1 => by
    obtain ⟨HB, HU, HA⟩ := ex_ok n
    have HE := expr_ok HB
    exact ⟨bin_ok HB HU, un_ok HU (post_ok HE HA), atom_ok HE (call_ok HE) (make_ok HE)⟩
theorem expr_all (n : Nat) : ExprOk n := expr_ok (ex_ok n).1
end Go.Proofs.YthlakehilhpojaaGreatDoor
namespace Go.Proofs.YthlakehilhpojaaGreatDoor
open Go.RowKit
attribute [local go_sem] says_tt says_ff th_need th_ite th_call th_callK th_load th_store says_ret says_again BE.den IE.den SE.den LE.den AE.den CE.den PE.den VE.den KV.val Got.den Got.cnt exI allI exL allL Ctx.push Ctx.heap Ctx.cut Ctx.bare Ctx.mark Inc.blank List.getD_cons_zero List.getD_cons_succ List.cons_append List.nil_append List.append_nil List.map_cons List.map_nil List.replicate_zero List.replicate_succ specOf ltB_t leB_t ltB_f leB_f slc_val slc_nil slc_inj pt_val pt_nil hle_noHeap hle_refl hread_set hwrite_set set_same set_set noHeap_at B_inj ones_nil and_assoc
def fm_ptyped : Fm := (.call (.c true) false 59 [(.one (.pt 0)), (.one (.i .u8 (.c 1)))] (.p (.agg [(.i .u8 (.x 1)), (.i .i64 (.x 2)), (.i .i64 (.x 3)), (.i .i64 (.x 4)), (.s (.x 0))])) ⟨4, 0, 1, 0, 0, 0⟩
  (.call (.c true) false 57 [(.one (.pt 0)), (.one (.s (.c [58])))] (.p (.agg [(.i .u8 (.x 5)), (.i .i64 (.x 6)), (.i .i64 (.x 7)), (.i .i64 (.x 8)), (.s (.x 1))])) ⟨4, 0, 1, 0, 0, 0⟩
  (.call (.c true) false 64 [(.one (.pt 0))] (.p (.one (.pt 1))) ⟨0, 0, 0, 0, 0, 1⟩
  (.mk [(.pt 1)] 49 1
  (.call (.c true) false 58 [(.one (.i .u8 (.x 0))), (.agg [(.i .u8 (.x 1)), (.i .i64 (.x 2)), (.i .i64 (.x 3)), (.i .i64 (.x 4)), (.s (.x 0))]), (.one (.s (.x 0))), (.one (.sl (.x 0)))] (.p (.one (.pt 2))) ⟨0, 0, 0, 0, 0, 1⟩
  (.ret (.p (.one (.pt 2)))))))))
theorem gen_ptyped : genFn ⟨true, []⟩ Tryz.prog (fun l => ([] : List LAnn).getD l ⟨[], [], []⟩) Tryz.f61 = fm_ptyped := by kernel_rfl
theorem ps_ptyped : freshPs Tryz.prog .zero Tryz.f61.params.toList = some ([(.one (.pt 0)), (.one (.i .u8 (.x 0)))], ⟨1, 0, 0, 0, 0, 1⟩) := by kernel_rfl
def fm_precord : Fm := (.call (.c true) false 57 [(.one (.pt 0)), (.one (.s (.c [114, 101, 99])))] (.p (.agg [(.i .u8 (.x 0)), (.i .i64 (.x 1)), (.i .i64 (.x 2)), (.i .i64 (.x 3)), (.s (.x 0))])) ⟨4, 0, 1, 0, 0, 0⟩
  (.call (.c true) false 59 [(.one (.pt 0)), (.one (.i .u8 (.c 2)))] (.p (.agg [(.i .u8 (.x 4)), (.i .i64 (.x 5)), (.i .i64 (.x 6)), (.i .i64 (.x 7)), (.s (.x 1))])) ⟨4, 0, 1, 0, 0, 0⟩
  (.call (.c true) false 58 [(.one (.i .u8 (.c 2))), (.agg [(.i .u8 (.x 0)), (.i .i64 (.x 1)), (.i .i64 (.x 2)), (.i .i64 (.x 3)), (.s (.x 0))]), (.one (.s (.x 1))), (.one (.sl .nil))] (.p (.one (.pt 1))) ⟨0, 0, 0, 0, 0, 1⟩
  (.call (.c true) false 60 [(.one (.pt 0)), (.one (.s (.c [123])))] (.p (.agg [(.i .u8 (.x 8)), (.i .i64 (.x 9)), (.i .i64 (.x 10)), (.i .i64 (.x 11)), (.s (.x 2))])) ⟨4, 0, 1, 0, 0, 0⟩
  (.loop 0 ⟨[], [], [], [], [], []⟩
  (.call (.c true) false 20 [(.one (.pt 0))] (.p (.one (.b (.x 0)))) ⟨0, 1, 0, 0, 0, 0⟩
  (.call (.not (.x 0)) false 35 [(.one (.pt 0)), (.one (.s (.c [125])))] (.p (.one (.b (.x 1)))) ⟨0, 1, 0, 0, 0, 0⟩
  (.ite (.and (.not (.x 0)) (.not (.x 1)))
  (.load (.c true) (.pt 1 6) 1 [(.sl (.x 0))] ⟨0, 0, 0, 0, 1, 0⟩
  (.need (.c true) (.nnp 1)
  (.need (.c true) (.nnp 1)
  (.callK (.c true) [((.c true), (.pt 1 6), 1)] 61 [(.one (.pt 0)), (.one (.i .u8 (.c 3)))] (.p (.one (.pt 2))) ⟨0, 0, 0, 0, 0, 1⟩
  (.mk [(.pt 2)] 49 1
  (.app (.x 0) (.x 1) 1 8 49
  (.need (.c true) (.nnp 1)
  (.need (.c true) (.nnp 1)
  (.store (.pt 1 6) [(.sl (.x 2))]
  (.call (.c true) false 57 [(.one (.pt 0)), (.one (.s (.c [59])))] (.p (.agg [(.i .u8 (.x 12)), (.i .i64 (.x 13)), (.i .i64 (.x 14)), (.i .i64 (.x 15)), (.s (.x 3))])) ⟨4, 0, 1, 0, 0, 0⟩
  (.again 0 ⟨12, 0, 3, 0, 0, 2⟩ ⟨12, 0, 3, 0, 0, 2⟩ ⟨[], [], [], [], [], []⟩)))))))))))
  (.call (.c true) false 62 [(.one (.pt 0)), (.one (.s (.c [125])))] (.tup []) ⟨0, 0, 0, 0, 0, 0⟩
  (.ret (.p (.one (.pt 1)))))))))))))
theorem gen_precord : genFn ⟨true, []⟩ Tryz.prog (fun l => ([⟨[], [14, 15, 16, 17, 18, 19, 20, 21, 22, 23, 24, 25, 26, 27, 28, 29, 30, 31, 32, 33, 34], [11]⟩] : List LAnn).getD l ⟨[], [], []⟩) Tryz.f36 = fm_precord := by kernel_rfl
theorem ps_precord : freshPs Tryz.prog .zero Tryz.f36.params.toList = some ([(.one (.pt 0))], ⟨0, 0, 0, 0, 0, 1⟩) := by kernel_rfl
def fm_pplain : Fm := (.call (.c true) false 11 [(.one (.pt 0))] (.p (.one (.pt 1))) ⟨0, 0, 0, 0, 0, 1⟩
  (.need (.c true) (.nnp 1)
  (.need (.c true) (.nnp 1)
  (.need (.c true) (.nnp 1)
  (.load (.c true) (.pt 1 0) 1 [(.i .u8 (.x 4))] ⟨1, 0, 0, 0, 0, 0⟩
  (.mk [(.pt 1)] 49 1
  (.call (.c true) false 80 [(.one (.i .u8 (.c 13))), (.agg [(.i .u8 (.x 0)), (.i .i64 (.x 1)), (.i .i64 (.x 2)), (.i .i64 (.x 3)), (.s (.x 0))]), (.one (.sl (.x 0)))] (.p (.one (.pt 2))) ⟨0, 0, 0, 0, 0, 1⟩
  (.call (.c true) false 20 [(.one (.pt 0))] (.p (.one (.b (.x 0)))) ⟨0, 1, 0, 0, 0, 0⟩
  (.ite (.x 0)
  (.ret (.p (.one (.pt 2))))
  (.call (.c true) false 35 [(.one (.pt 0)), (.one (.s (.c [61])))] (.p (.one (.b (.x 1)))) ⟨0, 1, 0, 0, 0, 0⟩
  (.ite (.and (.x 1) (.or (.or (.eqI (.x 4) (.c 26)) (.eqI (.x 4) (.c 28))) (.eqI (.x 4) (.c 29))))
  (.call (.c true) false 48 [(.one (.pt 0))] (.p (.agg [(.i .u8 (.x 5)), (.i .i64 (.x 6)), (.i .i64 (.x 7)), (.i .i64 (.x 8)), (.s (.x 1))])) ⟨4, 0, 1, 0, 0, 0⟩
  (.call (.c true) false 11 [(.one (.pt 0))] (.p (.one (.pt 3))) ⟨0, 0, 0, 0, 0, 1⟩
  (.mk [(.pt 1), (.pt 3)] 49 2
  (.call (.c true) false 80 [(.one (.i .u8 (.c 8))), (.agg [(.i .u8 (.x 0)), (.i .i64 (.x 1)), (.i .i64 (.x 2)), (.i .i64 (.x 3)), (.s (.x 0))]), (.one (.sl (.x 1)))] (.p (.one (.pt 4))) ⟨0, 0, 0, 0, 0, 1⟩
  (.call (.c true) false 57 [(.one (.pt 0)), (.one (.s (.c [59])))] (.p (.agg [(.i .u8 (.x 9)), (.i .i64 (.x 10)), (.i .i64 (.x 11)), (.i .i64 (.x 12)), (.s (.x 2))])) ⟨4, 0, 1, 0, 0, 0⟩
  (.ret (.p (.one (.pt 4)))))))))
  (.call (.c true) false 35 [(.one (.pt 0)), (.one (.s (.c [61])))] (.p (.one (.b (.x 2)))) ⟨0, 1, 0, 0, 0, 0⟩
  (.ite (.x 2)
  (.ite (.x 2)
  (.call (.c true) false 19 [(.one (.pt 0)), (.one (.i .i64 (.c 5)))] (.tup []) ⟨0, 0, 0, 0, 0, 0⟩
  (.call (.c true) false 57 [(.one (.pt 0)), (.one (.s (.c [59])))] (.p (.agg [(.i .u8 (.x 5)), (.i .i64 (.x 6)), (.i .i64 (.x 7)), (.i .i64 (.x 8)), (.s (.x 1))])) ⟨4, 0, 1, 0, 0, 0⟩
  (.ret (.p (.one (.pt 2))))))
  (.call (.c true) false 57 [(.one (.pt 0)), (.one (.s (.c [59])))] (.p (.agg [(.i .u8 (.x 5)), (.i .i64 (.x 6)), (.i .i64 (.x 7)), (.i .i64 (.x 8)), (.s (.x 1))])) ⟨4, 0, 1, 0, 0, 0⟩
  (.ret (.p (.one (.pt 2))))))
  (.ite (.not (.eqI (.x 4) (.c 27)))
  (.call (.c true) false 19 [(.one (.pt 0)), (.one (.i .i64 (.c 5)))] (.tup []) ⟨0, 0, 0, 0, 0, 0⟩
  (.call (.c true) false 57 [(.one (.pt 0)), (.one (.s (.c [59])))] (.p (.agg [(.i .u8 (.x 5)), (.i .i64 (.x 6)), (.i .i64 (.x 7)), (.i .i64 (.x 8)), (.s (.x 1))])) ⟨4, 0, 1, 0, 0, 0⟩
  (.ret (.p (.one (.pt 2))))))
  (.call (.c true) false 57 [(.one (.pt 0)), (.one (.s (.c [59])))] (.p (.agg [(.i .u8 (.x 5)), (.i .i64 (.x 6)), (.i .i64 (.x 7)), (.i .i64 (.x 8)), (.s (.x 1))])) ⟨4, 0, 1, 0, 0, 0⟩
  (.ret (.p (.one (.pt 2)))))))))))))))))))
theorem gen_pplain : genFn ⟨true, []⟩ Tryz.prog (fun l => ([] : List LAnn).getD l ⟨[], [], []⟩) Tryz.f99 = fm_pplain := by kernel_rfl
theorem ps_pplain : freshPs Tryz.prog .zero Tryz.f99.params.toList = some ([(.one (.pt 0)), (.agg [(.i .u8 (.x 0)), (.i .i64 (.x 1)), (.i .i64 (.x 2)), (.i .i64 (.x 3)), (.s (.x 0))])], ⟨4, 0, 1, 0, 0, 1⟩) := by kernel_rfl
/-- A function that takes a tree, told its kind. -/
def prodK (f : List Tok → Nat → Int → PS → Option (Tr × PS)) (n : Nat) (args : List Value) (h : Hp) (φ : Value → Hp → Prop) : Prop :=
  ∃ m, m ≤ n ∧ ∃ b sl L p t q kd, args = [ptrv b, .int .u8 kd] ∧ PW h b sl L p ∧ f L m kd p = some (t, q) ∧ p.d + m ≤ 1000000000000 ∧ ∀ v k g, At h b sl L q k g → It g v t → φ (ptrv v) k
theorem typed_ok (n : Nat) : ∀ args h φ w, prodK pTyped n args h φ → Holds h w → Calls Tryz.prog 61 args.toArray w fun e w' => ∃ v k, e = .returned v ∧ φ v k ∧ Holds k w' ∧ Fr w.heap.size h k w w' := by
  rintro args h φ w ⟨m, hm, b, sl, L, p, t, q, kd, rfl, W, hr, hd, hφ⟩ hH
  refine by_fm Tryz.func61 gen_ptyped ps_ptyped [ctPWord, ctMust, ctNamed, ctPKind n] φ (noInv) (noMeas) ⟨[kd], [], [], [], [], [some (b, 0)], h, noM⟩ ⟨rfl, rfl, rfl, rfl, rfl, rfl⟩ ones_nil ?_ w hH rfl
  generalize hE : (⟨specOf _, _, _, _⟩ : Env) = E
  have s_ctPWord : E.spec 59 = (ctPWord).spec := by rw [← hE]; rfl
  have s_ctMust : E.spec 57 = (ctMust).spec := by rw [← hE]; rfl
  have s_ctNamed : E.spec 58 = (ctNamed).spec := by rw [← hE]; rfl
  have s_ctK : E.spec 64 = (ctPKind n).spec := by rw [← hE]; rfl
  have ep : E.post = φ := by rw [← hE]
  clear hE
  unfold fm_ptyped
  unfold pTyped at hr
  simp only [Option.map_eq_some_iff] at hr
  obtain ⟨⟨x, r⟩, h1, h2⟩ := hr
  cases h2
  have A := At.start W
  rw [th_call, if_pos (by rfl), s_ctPWord]
  refine ⟨b, sl, L, p, 1, rfl, W, ?_⟩
  simp [go_sem, tokv, tkv]
  have A1 := A.word 1
  rw [then_step, th_call, if_pos (by rfl), s_ctMust]
  refine ⟨b, sl, L, _, [58], rfl, A1.pw, ?_⟩
  simp [go_sem, tokv, tkv]
  have A2 := A1.must [58]
  have hd2 := ((adv_word W.lw 1 p).trans (adv_must W.lw [58] _)).d
  rw [set_set] at A2
  rw [then_step, th_call, if_pos (by rfl), s_ctK]
  refine ⟨m, hm, b, sl, L, _, x, r, rfl, A2.pw, h1, by omega, fun v k g A3 hI => ?_⟩
  simp [go_sem, ptrv]; refine ⟨some (v, 0), rfl, ?_⟩
  have A4 := A2.then A3
  rw [then_step, th_mk]
  intro kb hkb
  simp [go_sem]
  rw [then_step, th_call, if_pos (by rfl), s_ctNamed]
  refine ⟨kd, tk L p, (tk L p).x, ⟨some (kb, 0), 1, 1⟩, rfl, fun v3 hv3 => ?_⟩
  simp [go_sem, ptrv]; refine ⟨some (v3, 0), rfl, ?_⟩
  simp only [then_step]; simp [go_sem, ep]
  obtain ⟨A5, I5⟩ := A4.node (vs := [v]) (ts := [x]) hkb ⟨It.le (A2.disj A3) _ _ hI, trivial⟩ (by simp) hv3 kd (tk L p).l (tk L p).c 0 (tk L p).x
  exact hφ v3 _ _ A5 I5
def ctTyped (n : Nat) : Ct Tryz.prog := ⟨61, prodK pTyped n, typed_ok n⟩
def recInv (h : Hp) (b : Nat) (sl : Slc) (L : List Tok) (kk l c nn : Int) (x : List UInt8) (rl : List Tr) (r : PS) (d : Int) (n : Nat) : Nat → Ctx → Prop := fun _ C =>
  ∃ i0 i1 i2 i3 i4 i5 i6 i7 i8 i9 i10 i11 s0 s1 s2 o s vs ts p1 k1 g1 m1, C = ⟨[i0, i1, i2, i3, i4, i5, i6, i7, i8, i9, i10, i11], [], [s0, s1, s2], [], [], [some (b, 0), some (o, 0)], k1, noM⟩ ∧ Out h b sl L p1 k1 g1 o kk l c nn x s vs ts ∧ m1 ≤ n ∧
    pFields L m1 ts p1 = some (rl, r) ∧ p1.d + m1 ≤ 1000000000001 ∧ vs.length + mu L p1 ≤ L.length ∧ p1.d = d
set_option maxHeartbeats 4000000 in
theorem record_ok (n : Nat) : ∀ args h φ w, prod pRecord n args h φ → Holds h w → Calls Tryz.prog 36 args.toArray w fun e w' => ∃ v k, e = .returned v ∧ φ v k ∧ Holds k w' ∧ Fr w.heap.size h k w w' := by
  rintro args h φ w ⟨m, hm, b, sl, L, p, t, q, rfl, W, hr, hd, hφ⟩ hH
  unfold pRecord at hr
  simp only [Option.map_eq_some_iff] at hr
  obtain ⟨⟨rl, r⟩, h1, h2⟩ := hr
  cases h2
  cases m with
  | zero => cases h1
  | succ m =>
  refine by_fm Tryz.func36 gen_precord ps_precord [ctMust, ctPWord, ctNamed, ctOpen, ctBad, ctIs, ctShut, ctTyped n] φ (recInv h b sl L 2 (tk L p).l (tk L p).c 0 (tk L (pMust L wRec p)).x rl r (p.d + 1) (m + 1)) (fun _ => measP b L.length) ⟨[], [], [], [], [], [some (b, 0)], h, noM⟩ ⟨rfl, rfl, rfl, rfl, rfl, rfl⟩ ones_nil ?_ w hH rfl
  generalize hE : (⟨specOf _, _, _, _⟩ : Env) = E
  have s_ctMust : E.spec 57 = (ctMust).spec := by rw [← hE]; rfl
  have s_ctPWord : E.spec 59 = (ctPWord).spec := by rw [← hE]; rfl
  have s_ctNamed : E.spec 58 = (ctNamed).spec := by rw [← hE]; rfl
  have s_ctOpen : E.spec 60 = (ctOpen).spec := by rw [← hE]; rfl
  have s_ctBad : E.spec 20 = (ctBad).spec := by rw [← hE]; rfl
  have s_ctIs : E.spec 35 = (ctIs).spec := by rw [← hE]; rfl
  have s_ctShut : E.spec 62 = (ctShut).spec := by rw [← hE]; rfl
  have s_ctT : E.spec 61 = (ctTyped n).spec := by rw [← hE]; rfl
  have ep : E.post = φ := by rw [← hE]
  have ei : E.inv = (recInv h b sl L 2 (tk L p).l (tk L p).c 0 (tk L (pMust L wRec p)).x rl r (p.d + 1) (m + 1)) := by rw [← hE]
  have em : E.meas = (fun _ => measP b L.length) := by rw [← hE]
  clear hE
  unfold fm_precord
  have A := At.start W
  have hd0 := W.d0
  have hlen := W.len
  rw [th_call, if_pos (by rfl), s_ctMust]
  refine ⟨b, sl, L, p, wRec, rfl, W, ?_⟩
  simp [go_sem, tokv, tkv]
  have A1 := A.must wRec
  rw [then_step, th_call, if_pos (by rfl), s_ctPWord]
  refine ⟨b, sl, L, _, 2, rfl, A1.pw, ?_⟩
  simp [go_sem, tokv, tkv]
  have A2 := A1.word 2
  rw [set_set] at A2
  rw [then_step, th_call, if_pos (by rfl), s_ctNamed]
  refine ⟨2, tk L p, (tk L (pMust L wRec p)).x, ⟨none, 0, 0⟩, rfl, fun o ho => ?_⟩
  simp [go_sem, ptrv]; refine ⟨some (o, 0), rfl, ?_⟩
  have O := A2.out ho 2 (tk L p).l (tk L p).c 0 (tk L (pMust L wRec p)).x
  rw [then_step, th_call, if_pos (by rfl), s_ctOpen]
  refine ⟨b, sl, L, _, [123], rfl, O.at'.pw, ?_⟩
  simp [go_sem, tokv, tkv]
  have hod := (((adv_must W.lw wRec p).trans (adv_word W.lw 2 _)).trans (adv_open W.lw [123] _)).d
  have hod2 := ((adv_must W.lw wRec p).trans (adv_word W.lw 2 _)).d
  have O1 := O.open [123] (by omega)
  rw [then_step]
  refine loop_intro ?_ ?_
  · rw [ei]
    exact ⟨_, _, _, _, _, _, _, _, _, _, _, _, _, _, _, o, ⟨none, 0, 0⟩, [], [], _, _, _, m + 1, rfl, O1, Nat.le_refl _, h1, by omega, by have := mu_top L (pOpen L [123] (pWord L 2 (pMust L wRec p))); simp; omega, by omega⟩
  rw [ei, em]
  rintro i' bb ss v' ll pp hh0 M ⟨i0, i1, i2, i3, i4, i5, i6, i7, i8, i9, i10, i11, s0, s1, s2, o, s, vs, ts, p1, k1, g1, m1, hC, O1, hm1, hb1, hd1, hmu, hpd⟩ hM
  cases hC
  have hM : M 0 = mu L p1 := hM.trans (measP_eq O1.at'.pw rfl)
  clear h1 hod O ho
  cases m1 with
  | zero => cases hb1
  | succ m1 =>
  rw [pFields] at hb1
  have stop : (p1.bad || pIs L [125] p1) = true → ∀ bs M, Then E (.call (.c true) false 62 [(.one (.pt 0)), (.one (.s (.c [125])))] (.tup []) ⟨0, 0, 0, 0, 0, 0⟩ (.ret (.p (.one (.pt 1))))) ⟨[i0, i1, i2, i3, i4, i5, i6, i7, i8, i9, i10, i11], bs, [s0, s1, s2], [], [], [some (b, 0), some (o, 0)], hh0, M⟩ := by
    intro hc bs M
    rw [if_pos hc] at hb1
    cases hb1
    rw [then_step, th_call, if_pos (by rfl), s_ctShut]
    refine ⟨b, sl, L, _, [125], rfl, O1.at'.pw, ?_⟩
    have O2 := O1.shut [125] (by omega)
    simp [go_sem]
    simp only [then_step]; simp [go_sem, ep]
    obtain ⟨g', A', I'⟩ := O2.done
    exact hφ o _ g' A' I'
  rw [th_call, if_pos (by rfl), s_ctBad]
  refine ⟨b, sl, L, p1, rfl, O1.at'.pw, ?_⟩
  simp [go_sem]
  cases c0 : p1.bad with
  | true =>
    rw [then_step, th_call, if_neg (by simp [go_sem])]
    simp [go_sem]
    rw [then_step, th_ite, if_neg (by simp [go_sem])]
    exact stop (by rw [c0]; rfl) _ _
  | false =>
  rw [then_step, th_call, if_pos (by simp [go_sem]), s_ctIs]
  refine ⟨b, sl, L, p1, [125], rfl, O1.at'.pw, ?_⟩
  simp [go_sem]
  cases c1 : pIs L [125] p1 with
  | true =>
    rw [then_step, th_ite, if_neg (by simp [go_sem])]
    exact stop (by rw [c1]; simp) _ _
  | false =>
  clear stop
  rw [if_neg (by rw [c0, c1]; decide)] at hb1
  simp only [Option.bind_eq_some_iff] at hb1
  obtain ⟨⟨y, r1⟩, h3, h4⟩ := hb1
  rw [then_step, th_ite, if_pos (by simp [go_sem])]
  have hmp := mu_pos c0 O1.at'.pw.at'
  have hkl := mu_top L p1
  obtain ⟨Ad, Wd⟩ := adv_typed W.lw h3
  have hrd1 := Ad.d
  refine grow (on := 1) (li := 0) (pi := 2) O1 rfl rfl rfl (by decide) (by omega) (fun ψ hψ => by rw [s_ctT]; exact ⟨m1, by omega, b, sl, L, p1, y, r1, 3, rfl, O1.at'.pw, h3, by omega, hψ⟩) fun v2 kb s' k5 g5 O4 => ?_
  simp only [List.nil_append, List.cons_append]
  rw [then_step, th_call, if_pos (by rfl), s_ctMust]
  refine ⟨b, sl, L, r1, [59], rfl, O4.at'.pw, ?_⟩
  have O5 := O4.must [59]
  have Am := adv_must W.lw [59] r1
  have hmd := Am.d
  simp [go_sem, tokv, tkv]
  rw [then_step, says_again, ei, em]
  have hw := mu_went Wd Ad O1.at'.pw.at'
  have hm2 := mu_le Am
  refine ⟨⟨_, _, _, _, _, _, _, _, _, _, _, _, _, _, _, o, s', vs ++ [v2], ts ++ [y], _, _, _, m1, rfl, O5, by omega, h4, by omega, by simp; omega, by omega⟩, ?_⟩
  show measP b L.length _ < M 0
  rw [hM]
  refine Nat.lt_of_le_of_lt (Nat.le_of_eq (measP_eq O5.at'.pw rfl)) ?_
  omega
def ctRecord (n : Nat) : Ct Tryz.prog := ⟨36, prod pRecord n, record_ok n⟩
theorem At.node_its {h : Hp} {b : Nat} {sl : Slc} {L : List Tok} {p : PS} {k g : Hp} (A : At h b sl L p k g) {kb v : Nat} {vs : List Nat} {ts : List Tr} (hkb : k kb = none) (hI : Its g vs ts) (hv : (k.set kb ⟨vs.map ptrv, PI⟩) v = none) (kk l c n : Int) (x : List UInt8) :
    Its ((g.set kb ⟨vs.map ptrv, PI⟩).set v ⟨itc kk l c n x ⟨some (kb, 0), vs.length, vs.length⟩, IT⟩) vs ts := Its.le ((A.new hkb _).gnew hv _) _ _ (Its.le (A.gnew hkb _) _ _ hI)
def runPlain (L : List Tok) (n : Nat) (t0 : Tok) (p : PS) : Option (Tr × PS) := pPlain L n t0 p
theorem plain_ok (n : Nat) : ∀ args h φ w, prodT runPlain n args h φ → Holds h w → Calls Tryz.prog 99 args.toArray w fun e w' => ∃ v k, e = .returned v ∧ φ v k ∧ Holds k w' ∧ Fr w.heap.size h k w w' := by
  rintro args h φ w ⟨m, hm, b, sl, L, p, t, q, t0, rfl, W, hr, hd, hφ⟩ hH
  refine by_fm Tryz.func99 gen_pplain ps_pplain [ctBad, ctIs, ctPPass, ctMust, ctFail, ctMake1, ctExpr (expr_all n)] φ (noInv) (noMeas) ⟨[t0.k, t0.l, t0.c, t0.n], [], [t0.x], [], [], [some (b, 0)], h, noM⟩ ⟨rfl, rfl, rfl, rfl, rfl, rfl⟩ ones_nil ?_ w hH rfl
  generalize hE : (⟨specOf _, _, _, _⟩ : Env) = E
  have s_ctBad : E.spec 20 = (ctBad).spec := by rw [← hE]; rfl
  have s_ctIs : E.spec 35 = (ctIs).spec := by rw [← hE]; rfl
  have s_ctPPass : E.spec 48 = (ctPPass).spec := by rw [← hE]; rfl
  have s_ctMust : E.spec 57 = (ctMust).spec := by rw [← hE]; rfl
  have s_ctFail : E.spec 19 = (ctFail).spec := by rw [← hE]; rfl
  have s_ctMake1 : E.spec 80 = (ctMake1).spec := by rw [← hE]; rfl
  have s_ctE : E.spec 11 = (ctExpr (expr_all n)).spec := by rw [← hE]; rfl
  have ep : E.post = φ := by rw [← hE]
  clear hE
  unfold fm_pplain
  have A := At.start W
  unfold runPlain pPlain at hr
  simp only [Option.bind_eq_some_iff] at hr
  obtain ⟨⟨x, r⟩, h1, h2⟩ := hr
  dsimp only at h2
  rw [th_call, if_pos (by rfl), s_ctE]
  refine ⟨m, hm, b, sl, L, p, x, r, rfl, W, h1, by omega, fun v k g A1 hI => ?_⟩
  simp [go_sem, ptrv]; refine ⟨some (v, 0), rfl, ?_⟩
  have hd1 := ((advE W.lw m).1 _ _ _ _ h1).d
  obtain ⟨xl, xc, xn, xx, xs, hx⟩ := (It.le A1.le _ _ hI).head
  iterate 3 (rw [then_step, th_need]; refine ⟨by simp [go_sem], ?_⟩)
  rw [then_step, th_load, if_pos (by rfl)]
  have hxr := it_read0 hx
  simp [go_sem]
  refine ⟨x.k, hxr, ?_⟩
  rw [then_step, th_mk]
  intro kb hkb
  simp [go_sem]
  rw [then_step, th_call, if_pos (by rfl), s_ctMake1]
  refine ⟨13, t0, ⟨some (kb, 0), 1, 1⟩, rfl, fun o ho => ?_⟩
  simp [go_sem, ptrv]; refine ⟨some (o, 0), rfl, ?_⟩
  obtain ⟨A5, I5⟩ := A1.node (vs := [v]) (ts := [x]) hkb ⟨hI, trivial⟩ (by simp) ho 13 t0.l t0.c 0 []
  have hI5 := (A1.node_its (vs := [v]) (ts := [x]) hkb ⟨hI, trivial⟩ ho 13 t0.l t0.c 0 []).1
  rw [then_step, th_call, if_pos (by rfl), s_ctBad]
  refine ⟨b, sl, L, r, rfl, A5.pw, ?_⟩
  simp [go_sem]
  cases c0 : r.bad with
  | true =>
    rw [if_pos c0] at h2
    cases h2
    rw [then_step, th_ite, if_pos (by simp [go_sem])]
    simp only [then_step]; simp [go_sem, ep]
    exact hφ o _ _ A5 I5
  | false =>
  rw [c0, if_neg (by decide)] at h2
  rw [then_step, th_ite, if_neg (by simp [go_sem])]
  rw [then_step, th_call, if_pos (by rfl), s_ctIs]
  refine ⟨b, sl, L, r, [61], rfl, A5.pw, ?_⟩
  simp [go_sem]
  by_cases cs : (pIs L [61] r && (x.k == 26 || x.k == 28 || x.k == 29)) = true
  · rw [if_pos cs] at h2
    simp only [Option.map_eq_some_iff] at h2
    obtain ⟨⟨y, u⟩, h3, h4⟩ := h2
    cases h4
    rw [then_step, th_ite, if_pos (by simpa [go_sem] using cs)]
    rw [then_step, th_call, if_pos (by rfl), s_ctPPass]
    refine ⟨b, sl, L, r, rfl, A5.pw, ?_⟩
    simp [go_sem, tokv, tkv]
    have A6 := A5.pass
    have hpd := (adv_pass W.lw r).d
    rw [then_step, th_call, if_pos (by rfl), s_ctE]
    refine ⟨m, hm, b, sl, L, _, y, u, rfl, A6.pw, h3, by omega, fun v2 k2 g2 A7 hI2 => ?_⟩
    simp [go_sem, ptrv]; refine ⟨some (v2, 0), rfl, ?_⟩
    have A8 := A6.then A7
    rw [then_step, th_mk]
    intro kb2 hkb2
    simp [go_sem]
    rw [then_step, th_call, if_pos (by rfl), s_ctMake1]
    refine ⟨8, t0, ⟨some (kb2, 0), 2, 2⟩, rfl, fun o2 ho2 => ?_⟩
    simp [go_sem, ptrv]; refine ⟨some (o2, 0), rfl, ?_⟩
    obtain ⟨A9, I9⟩ := A8.node (vs := [v, v2]) (ts := [x, y]) hkb2 ⟨It.le (le_uni _ _) _ _ hI5, It.le (A6.disj A7) _ _ hI2, trivial⟩ (by simp) ho2 8 t0.l t0.c 0 []
    rw [then_step, th_call, if_pos (by rfl), s_ctMust]
    refine ⟨b, sl, L, u, [59], rfl, A9.pw, ?_⟩
    simp [go_sem, tokv, tkv]
    simp only [then_step]; simp [go_sem, ep]
    exact hφ o2 _ _ (A9.must [59]) I9
  rw [if_neg cs] at h2
  rw [then_step, th_ite, if_neg (by simpa [go_sem] using cs)]
  rw [then_step, th_call, if_pos (by rfl), s_ctIs]
  refine ⟨b, sl, L, r, [61], rfl, A5.pw, ?_⟩
  simp [go_sem]
  by_cases cf : (pIs L [61] r || !(x.k == 27)) = true
  · rw [if_pos cf] at h2
    cases h2
    cases c1 : pIs L [61] r with
    | true =>
      iterate 2 (rw [then_step, th_ite, if_pos (by simp [go_sem])])
      rw [then_step, th_call, if_pos (by rfl), s_ctFail]
      refine ⟨b, sl, L, r, 5, rfl, A5.pw, ?_⟩
      simp [go_sem]
      have A6 := A5.fail 5
      rw [then_step, th_call, if_pos (by rfl), s_ctMust]
      refine ⟨b, sl, L, _, [59], rfl, A6.pw, ?_⟩
      simp [go_sem, tokv, tkv]
      simp only [then_step]; simp [go_sem, ep]
      have A7 := A6.must [59]
      rw [set_set] at A7
      exact hφ o _ _ A7 I5
    | false =>
      rw [c1] at cf
      rw [then_step, th_ite, if_neg (by simp [go_sem])]
      rw [then_step, th_ite, if_pos (by simpa [go_sem] using cf)]
      rw [then_step, th_call, if_pos (by rfl), s_ctFail]
      refine ⟨b, sl, L, r, 5, rfl, A5.pw, ?_⟩
      simp [go_sem]
      have A6 := A5.fail 5
      rw [then_step, th_call, if_pos (by rfl), s_ctMust]
      refine ⟨b, sl, L, _, [59], rfl, A6.pw, ?_⟩
      simp [go_sem, tokv, tkv]
      simp only [then_step]; simp [go_sem, ep]
      have A7 := A6.must [59]
      rw [set_set] at A7
      exact hφ o _ _ A7 I5
  · rw [if_neg cf] at h2
    cases h2
    simp only [Bool.or_eq_true, not_or, Bool.not_eq_true] at cf
    rw [cf.1]
    rw [then_step, th_ite, if_neg (by simp [go_sem])]
    rw [then_step, th_ite, if_neg (by simpa [go_sem] using cf.2)]
    rw [then_step, th_call, if_pos (by rfl), s_ctMust]
    refine ⟨b, sl, L, _, [59], rfl, A5.pw, ?_⟩
    simp [go_sem, tokv, tkv]
    simp only [then_step]; simp [go_sem, ep]
    exact hφ o _ _ (A5.must [59]) I5
def ctPlain (n : Nat) : Ct Tryz.prog := ⟨99, prodT runPlain n, plain_ok n⟩
end Go.Proofs.YthlakehilhpojaaGreatDoor
namespace Go.Proofs.YthlakehilhpojaaGreatDoor
open Go.RowKit
attribute [local go_sem] says_tt says_ff th_need th_ite th_call th_callK th_load th_store says_ret says_again BE.den IE.den SE.den LE.den AE.den CE.den PE.den VE.den KV.val Got.den Got.cnt exI allI exL allL Ctx.push Ctx.heap Ctx.cut Ctx.bare Ctx.mark Inc.blank List.getD_cons_zero List.getD_cons_succ List.cons_append List.nil_append List.append_nil List.map_cons List.map_nil List.replicate_zero List.replicate_succ specOf ltB_t leB_t ltB_f leB_f slc_val slc_nil slc_inj pt_val pt_nil hle_noHeap hle_refl hread_set hwrite_set set_same set_set noHeap_at B_inj ones_nil and_assoc
def fm_pblock : Fm := (.call (.c true) false 60 [(.one (.pt 0)), (.one (.s (.c [123])))] (.p (.agg [(.i .u8 (.x 0)), (.i .i64 (.x 1)), (.i .i64 (.x 2)), (.i .i64 (.x 3)), (.s (.x 0))])) ⟨4, 0, 1, 0, 0, 0⟩
  (.call (.c true) false 80 [(.one (.i .u8 (.c 6))), (.agg [(.i .u8 (.x 0)), (.i .i64 (.x 1)), (.i .i64 (.x 2)), (.i .i64 (.x 3)), (.s (.x 0))]), (.one (.sl .nil))] (.p (.one (.pt 1))) ⟨0, 0, 0, 0, 0, 1⟩
  (.loop 0 ⟨[], [], [], [], [], []⟩
  (.call (.c true) false 20 [(.one (.pt 0))] (.p (.one (.b (.x 0)))) ⟨0, 1, 0, 0, 0, 0⟩
  (.call (.not (.x 0)) false 35 [(.one (.pt 0)), (.one (.s (.c [125])))] (.p (.one (.b (.x 1)))) ⟨0, 1, 0, 0, 0, 0⟩
  (.ite (.and (.not (.x 0)) (.not (.x 1)))
  (.load (.c true) (.pt 1 6) 1 [(.sl (.x 0))] ⟨0, 0, 0, 0, 1, 0⟩
  (.need (.c true) (.nnp 1)
  (.need (.c true) (.nnp 1)
  (.callK (.c true) [((.c true), (.pt 1 6), 1)] 86 [(.one (.pt 0))] (.p (.one (.pt 2))) ⟨0, 0, 0, 0, 0, 1⟩
  (.mk [(.pt 2)] 49 1
  (.app (.x 0) (.x 1) 1 8 49
  (.need (.c true) (.nnp 1)
  (.need (.c true) (.nnp 1)
  (.store (.pt 1 6) [(.sl (.x 2))]
  (.again 0 ⟨4, 0, 1, 0, 0, 2⟩ ⟨4, 0, 1, 0, 0, 2⟩ ⟨[], [], [], [], [], []⟩))))))))))
  (.call (.c true) false 62 [(.one (.pt 0)), (.one (.s (.c [125])))] (.tup []) ⟨0, 0, 0, 0, 0, 0⟩
  (.ret (.p (.one (.pt 1)))))))))))
theorem gen_pblock : genFn ⟨true, []⟩ Tryz.prog (fun l => ([⟨[], [7, 8, 9, 10, 11, 12, 13, 14, 15, 16, 17, 18, 19, 20, 21, 22, 23, 24, 25], [6]⟩] : List LAnn).getD l ⟨[], [], []⟩) Tryz.f65 = fm_pblock := by kernel_rfl
theorem ps_pblock : freshPs Tryz.prog .zero Tryz.f65.params.toList = some ([(.one (.pt 0))], ⟨0, 0, 0, 0, 0, 1⟩) := by kernel_rfl
def fm_pstat : Fm := (.call (.c true) false 18 [(.one (.pt 0))] (.p (.agg [(.i .u8 (.x 0)), (.i .i64 (.x 1)), (.i .i64 (.x 2)), (.i .i64 (.x 3)), (.s (.x 0))])) ⟨4, 0, 1, 0, 0, 0⟩
  (.call (.c true) false 63 [(.one (.pt 0)), (.one (.s (.c [118, 97, 114])))] (.p (.one (.b (.x 0)))) ⟨0, 1, 0, 0, 0, 0⟩
  (.ite (.x 0)
  (.call (.c true) false 59 [(.one (.pt 0)), (.one (.i .u8 (.c 1)))] (.p (.agg [(.i .u8 (.x 4)), (.i .i64 (.x 5)), (.i .i64 (.x 6)), (.i .i64 (.x 7)), (.s (.x 1))])) ⟨4, 0, 1, 0, 0, 0⟩
  (.call (.c true) false 57 [(.one (.pt 0)), (.one (.s (.c [58])))] (.p (.agg [(.i .u8 (.x 8)), (.i .i64 (.x 9)), (.i .i64 (.x 10)), (.i .i64 (.x 11)), (.s (.x 2))])) ⟨4, 0, 1, 0, 0, 0⟩
  (.call (.c true) false 64 [(.one (.pt 0))] (.p (.one (.pt 1))) ⟨0, 0, 0, 0, 0, 1⟩
  (.call (.c true) false 57 [(.one (.pt 0)), (.one (.s (.c [61])))] (.p (.agg [(.i .u8 (.x 12)), (.i .i64 (.x 13)), (.i .i64 (.x 14)), (.i .i64 (.x 15)), (.s (.x 3))])) ⟨4, 0, 1, 0, 0, 0⟩
  (.call (.c true) false 11 [(.one (.pt 0))] (.p (.one (.pt 2))) ⟨0, 0, 0, 0, 0, 1⟩
  (.call (.c true) false 57 [(.one (.pt 0)), (.one (.s (.c [59])))] (.p (.agg [(.i .u8 (.x 16)), (.i .i64 (.x 17)), (.i .i64 (.x 18)), (.i .i64 (.x 19)), (.s (.x 4))])) ⟨4, 0, 1, 0, 0, 0⟩
  (.mk [(.pt 1), (.pt 2)] 49 2
  (.call (.c true) false 58 [(.one (.i .u8 (.c 7))), (.agg [(.i .u8 (.x 0)), (.i .i64 (.x 1)), (.i .i64 (.x 2)), (.i .i64 (.x 3)), (.s (.x 0))]), (.one (.s (.x 1))), (.one (.sl (.x 0)))] (.p (.one (.pt 3))) ⟨0, 0, 0, 0, 0, 1⟩
  (.ret (.p (.one (.pt 3))))))))))))
  (.call (.c true) false 63 [(.one (.pt 0)), (.one (.s (.c [105, 102])))] (.p (.one (.b (.x 1)))) ⟨0, 1, 0, 0, 0, 0⟩
  (.ite (.x 1)
  (.call (.c true) false 11 [(.one (.pt 0))] (.p (.one (.pt 1))) ⟨0, 0, 0, 0, 0, 1⟩
  (.call (.c true) false 65 [(.one (.pt 0))] (.p (.one (.pt 2))) ⟨0, 0, 0, 0, 0, 1⟩
  (.mk [(.pt 1), (.pt 2)] 49 2
  (.call (.c true) false 80 [(.one (.i .u8 (.c 9))), (.agg [(.i .u8 (.x 0)), (.i .i64 (.x 1)), (.i .i64 (.x 2)), (.i .i64 (.x 3)), (.s (.x 0))]), (.one (.sl (.x 0)))] (.p (.one (.pt 3))) ⟨0, 0, 0, 0, 0, 1⟩
  (.call (.c true) false 63 [(.one (.pt 0)), (.one (.s (.c [101, 108, 115, 101])))] (.p (.one (.b (.x 2)))) ⟨0, 1, 0, 0, 0, 0⟩
  (.ite (.x 2)
  (.load (.c true) (.pt 3 6) 1 [(.sl (.x 1))] ⟨0, 0, 0, 0, 1, 0⟩
  (.need (.c true) (.nnp 3)
  (.need (.c true) (.nnp 3)
  (.callK (.c true) [((.c true), (.pt 3 6), 1)] 65 [(.one (.pt 0))] (.p (.one (.pt 4))) ⟨0, 0, 0, 0, 0, 1⟩
  (.mk [(.pt 4)] 49 1
  (.app (.x 1) (.x 2) 1 8 49
  (.need (.c true) (.nnp 3)
  (.need (.c true) (.nnp 3)
  (.store (.pt 3 6) [(.sl (.x 3))]
  (.ret (.p (.one (.pt 3)))))))))))))
  (.ret (.p (.one (.pt 3))))))))))
  (.call (.c true) false 63 [(.one (.pt 0)), (.one (.s (.c [119, 104, 105, 108, 101])))] (.p (.one (.b (.x 2)))) ⟨0, 1, 0, 0, 0, 0⟩
  (.ite (.x 2)
  (.call (.c true) false 11 [(.one (.pt 0))] (.p (.one (.pt 1))) ⟨0, 0, 0, 0, 0, 1⟩
  (.call (.c true) false 65 [(.one (.pt 0))] (.p (.one (.pt 2))) ⟨0, 0, 0, 0, 0, 1⟩
  (.mk [(.pt 1), (.pt 2)] 49 2
  (.call (.c true) false 80 [(.one (.i .u8 (.c 10))), (.agg [(.i .u8 (.x 0)), (.i .i64 (.x 1)), (.i .i64 (.x 2)), (.i .i64 (.x 3)), (.s (.x 0))]), (.one (.sl (.x 0)))] (.p (.one (.pt 3))) ⟨0, 0, 0, 0, 0, 1⟩
  (.ret (.p (.one (.pt 3))))))))
  (.call (.c true) false 63 [(.one (.pt 0)), (.one (.s (.c [114, 101, 116, 117, 114, 110])))] (.p (.one (.b (.x 3)))) ⟨0, 1, 0, 0, 0, 0⟩
  (.ite (.x 3)
  (.call (.c true) false 80 [(.one (.i .u8 (.c 11))), (.agg [(.i .u8 (.x 0)), (.i .i64 (.x 1)), (.i .i64 (.x 2)), (.i .i64 (.x 3)), (.s (.x 0))]), (.one (.sl .nil))] (.p (.one (.pt 1))) ⟨0, 0, 0, 0, 0, 1⟩
  (.call (.c true) false 35 [(.one (.pt 0)), (.one (.s (.c [59])))] (.p (.one (.b (.x 4)))) ⟨0, 1, 0, 0, 0, 0⟩
  (.ite (.not (.x 4))
  (.load (.c true) (.pt 1 6) 1 [(.sl (.x 0))] ⟨0, 0, 0, 0, 1, 0⟩
  (.need (.c true) (.nnp 1)
  (.need (.c true) (.nnp 1)
  (.callK (.c true) [((.c true), (.pt 1 6), 1)] 11 [(.one (.pt 0))] (.p (.one (.pt 2))) ⟨0, 0, 0, 0, 0, 1⟩
  (.mk [(.pt 2)] 49 1
  (.app (.x 0) (.x 1) 1 8 49
  (.need (.c true) (.nnp 1)
  (.need (.c true) (.nnp 1)
  (.store (.pt 1 6) [(.sl (.x 2))]
  (.call (.c true) false 57 [(.one (.pt 0)), (.one (.s (.c [59])))] (.p (.agg [(.i .u8 (.x 4)), (.i .i64 (.x 5)), (.i .i64 (.x 6)), (.i .i64 (.x 7)), (.s (.x 1))])) ⟨4, 0, 1, 0, 0, 0⟩
  (.ret (.p (.one (.pt 1))))))))))))))
  (.call (.c true) false 57 [(.one (.pt 0)), (.one (.s (.c [59])))] (.p (.agg [(.i .u8 (.x 4)), (.i .i64 (.x 5)), (.i .i64 (.x 6)), (.i .i64 (.x 7)), (.s (.x 1))])) ⟨4, 0, 1, 0, 0, 0⟩
  (.ret (.p (.one (.pt 1))))))))
  (.call (.c true) false 63 [(.one (.pt 0)), (.one (.s (.c [112, 114, 105, 110, 116])))] (.p (.one (.b (.x 4)))) ⟨0, 1, 0, 0, 0, 0⟩
  (.ite (.x 4)
  (.call (.c true) false 11 [(.one (.pt 0))] (.p (.one (.pt 1))) ⟨0, 0, 0, 0, 0, 1⟩
  (.mk [(.pt 1)] 49 1
  (.call (.c true) false 80 [(.one (.i .u8 (.c 12))), (.agg [(.i .u8 (.x 0)), (.i .i64 (.x 1)), (.i .i64 (.x 2)), (.i .i64 (.x 3)), (.s (.x 0))]), (.one (.sl (.x 0)))] (.p (.one (.pt 2))) ⟨0, 0, 0, 0, 0, 1⟩
  (.call (.c true) false 57 [(.one (.pt 0)), (.one (.s (.c [59])))] (.p (.agg [(.i .u8 (.x 4)), (.i .i64 (.x 5)), (.i .i64 (.x 6)), (.i .i64 (.x 7)), (.s (.x 1))])) ⟨4, 0, 1, 0, 0, 0⟩
  (.ret (.p (.one (.pt 2))))))))
  (.call (.c true) false 99 [(.one (.pt 0)), (.agg [(.i .u8 (.x 0)), (.i .i64 (.x 1)), (.i .i64 (.x 2)), (.i .i64 (.x 3)), (.s (.x 0))])] (.p (.one (.pt 1))) ⟨0, 0, 0, 0, 0, 1⟩
  (.ret (.p (.one (.pt 1))))))))))))))))
theorem gen_pstat : genFn ⟨true, []⟩ Tryz.prog (fun l => ([] : List LAnn).getD l ⟨[], [], []⟩) Tryz.f86 = fm_pstat := by kernel_rfl
theorem ps_pstat : freshPs Tryz.prog .zero Tryz.f86.params.toList = some ([(.one (.pt 0))], ⟨0, 0, 0, 0, 0, 1⟩) := by kernel_rfl
def BlockOk (n : Nat) : Prop := ∀ args h φ w, prod pBlock n args h φ → Holds h w → Calls Tryz.prog 65 args.toArray w fun e w' => ∃ v k, e = .returned v ∧ φ v k ∧ Holds k w' ∧ Fr w.heap.size h k w w'
def StatOk (n : Nat) : Prop := ∀ args h φ w, prod pStat n args h φ → Holds h w → Calls Tryz.prog 86 args.toArray w fun e w' => ∃ v k, e = .returned v ∧ φ v k ∧ Holds k w' ∧ Fr w.heap.size h k w w'
def ctBlock {n : Nat} (H : BlockOk n) : Ct Tryz.prog := ⟨65, prod pBlock n, H⟩
def ctStat {n : Nat} (H : StatOk n) : Ct Tryz.prog := ⟨86, prod pStat n, H⟩
def blockInv (h : Hp) (b : Nat) (sl : Slc) (L : List Tok) (l c : Int) (rl : List Tr) (r : PS) (d : Int) (n : Nat) : Nat → Ctx → Prop := fun _ C =>
  ∃ i0 i1 i2 i3 s0 o s vs ts p1 k1 g1 m1, C = ⟨[i0, i1, i2, i3], [], [s0], [], [], [some (b, 0), some (o, 0)], k1, noM⟩ ∧ Out h b sl L p1 k1 g1 o 6 l c 0 [] s vs ts ∧ m1 ≤ n ∧
    pStats L m1 ts p1 = some (rl, r) ∧ p1.d + m1 ≤ 1000000000000 ∧ vs.length + mu L p1 ≤ L.length ∧ p1.d = d
set_option maxHeartbeats 4000000 in
theorem block_ok {n : Nat} (HS : StatOk n) : BlockOk (n + 1) := by
  rintro args h φ w ⟨m, hm, b, sl, L, p, t, q, rfl, W, hr, hd, hφ⟩ hH
  cases m with
  | zero => cases hr
  | succ m =>
  rw [pBlock] at hr
  simp only [Option.map_eq_some_iff] at hr
  obtain ⟨⟨rl, r⟩, h1, h2⟩ := hr
  cases h2
  refine by_fm Tryz.func65 gen_pblock ps_pblock [ctMake1, ctOpen, ctBad, ctIs, ctShut, ctStat HS] φ (blockInv h b sl L (tk L p).l (tk L p).c rl r (p.d + 1) n) (fun _ => measP b L.length) ⟨[], [], [], [], [], [some (b, 0)], h, noM⟩ ⟨rfl, rfl, rfl, rfl, rfl, rfl⟩ ones_nil ?_ w hH rfl
  generalize hE : (⟨specOf _, _, _, _⟩ : Env) = E
  have s_ctMake1 : E.spec 80 = (ctMake1).spec := by rw [← hE]; rfl
  have s_ctOpen : E.spec 60 = (ctOpen).spec := by rw [← hE]; rfl
  have s_ctBad : E.spec 20 = (ctBad).spec := by rw [← hE]; rfl
  have s_ctIs : E.spec 35 = (ctIs).spec := by rw [← hE]; rfl
  have s_ctShut : E.spec 62 = (ctShut).spec := by rw [← hE]; rfl
  have s_ctS : E.spec 86 = (ctStat HS).spec := by rw [← hE]; rfl
  have ep : E.post = φ := by rw [← hE]
  have ei : E.inv = (blockInv h b sl L (tk L p).l (tk L p).c rl r (p.d + 1) n) := by rw [← hE]
  have em : E.meas = (fun _ => measP b L.length) := by rw [← hE]
  clear hE
  unfold fm_pblock
  have A := At.start W
  have hd0 := W.d0
  have hlen := W.len
  rw [th_call, if_pos (by rfl), s_ctOpen]
  refine ⟨b, sl, L, p, [123], rfl, W, ?_⟩
  simp [go_sem, tokv, tkv]
  have A1 := A.open [123] (by omega)
  have hod := (adv_open W.lw [123] p).d
  rw [then_step, th_call, if_pos (by rfl), s_ctMake1]
  refine ⟨6, tk L p, ⟨none, 0, 0⟩, rfl, fun o ho => ?_⟩
  simp [go_sem, ptrv]; refine ⟨some (o, 0), rfl, ?_⟩
  have O := A1.out ho 6 (tk L p).l (tk L p).c 0 []
  rw [then_step]
  refine loop_intro ?_ ?_
  · rw [ei]
    exact ⟨_, _, _, _, _, o, ⟨none, 0, 0⟩, [], [], _, _, _, m, rfl, O, by omega, h1, by omega, by have := mu_top L (pOpen L [123] p); simp; omega, by omega⟩
  rw [ei, em]
  rintro i' bb ss v' ll pp hh0 M ⟨i0, i1, i2, i3, s0, o, s, vs, ts, p1, k1, g1, m1, hC, O1, hm1, hb1, hd1, hmu, hpd⟩ hM
  cases hC
  have hM : M 0 = mu L p1 := hM.trans (measP_eq O1.at'.pw rfl)
  clear h1 hod O ho
  cases m1 with
  | zero => cases hb1
  | succ m1 =>
  rw [pStats] at hb1
  have stop : (p1.bad || pIs L [125] p1) = true → ∀ bs M, Then E (.call (.c true) false 62 [(.one (.pt 0)), (.one (.s (.c [125])))] (.tup []) ⟨0, 0, 0, 0, 0, 0⟩ (.ret (.p (.one (.pt 1))))) ⟨[i0, i1, i2, i3], bs, [s0], [], [], [some (b, 0), some (o, 0)], hh0, M⟩ := by
    intro hc bs M
    rw [if_pos hc] at hb1
    cases hb1
    rw [then_step, th_call, if_pos (by rfl), s_ctShut]
    refine ⟨b, sl, L, _, [125], rfl, O1.at'.pw, ?_⟩
    have O2 := O1.shut [125] (by omega)
    simp [go_sem]
    simp only [then_step]; simp [go_sem, ep]
    obtain ⟨g', A', I'⟩ := O2.done
    exact hφ o _ g' A' I'
  rw [th_call, if_pos (by rfl), s_ctBad]
  refine ⟨b, sl, L, p1, rfl, O1.at'.pw, ?_⟩
  simp [go_sem]
  cases c0 : p1.bad with
  | true =>
    rw [then_step, th_call, if_neg (by simp [go_sem])]
    simp [go_sem]
    rw [then_step, th_ite, if_neg (by simp [go_sem])]
    exact stop (by rw [c0]; rfl) _ _
  | false =>
  rw [then_step, th_call, if_pos (by simp [go_sem]), s_ctIs]
  refine ⟨b, sl, L, p1, [125], rfl, O1.at'.pw, ?_⟩
  simp [go_sem]
  cases c1 : pIs L [125] p1 with
  | true =>
    rw [then_step, th_ite, if_neg (by simp [go_sem])]
    exact stop (by rw [c1]; simp) _ _
  | false =>
  clear stop
  rw [if_neg (by rw [c0, c1]; decide)] at hb1
  simp only [Option.bind_eq_some_iff] at hb1
  obtain ⟨⟨y, r1⟩, h3, h4⟩ := hb1
  rw [then_step, th_ite, if_pos (by simp [go_sem])]
  have hmp := mu_pos c0 O1.at'.pw.at'
  have hkl := mu_top L p1
  obtain ⟨Ad, Wd⟩ := (advS W.lw m1).1 _ _ _ h3
  have hrd1 := Ad.d
  refine grow (on := 1) (li := 0) (pi := 2) O1 rfl rfl rfl (by decide) (by omega) (fun ψ hψ => by rw [s_ctS]; exact ⟨m1, by omega, b, sl, L, p1, y, r1, rfl, O1.at'.pw, h3, by omega, hψ⟩) fun v2 kb s' k5 g5 O4 => ?_
  simp only [List.nil_append, List.cons_append]
  rw [then_step, says_again, ei, em]
  have hw := mu_went Wd Ad O1.at'.pw.at'
  refine ⟨⟨_, _, _, _, _, o, s', vs ++ [v2], ts ++ [y], _, _, _, m1, rfl, O4, by omega, h4, by omega, by simp; omega, by omega⟩, ?_⟩
  show measP b L.length _ < M 0
  rw [hM]
  refine Nat.lt_of_le_of_lt (Nat.le_of_eq (measP_eq O4.at'.pw rfl)) ?_
  omega
set_option maxHeartbeats 8000000 in
theorem stat_ok {n : Nat} (HB : BlockOk n) : StatOk (n + 1) := by
  rintro args h φ w ⟨m, hm, b, sl, L, p, t, q, rfl, W, hr, hd, hφ⟩ hH
  cases m with
  | zero => cases hr
  | succ m =>
  refine by_fm Tryz.func86 gen_pstat ps_pstat [ctNow, ctTry, ctPWord, ctMust, ctNamed, ctMake1, ctIs, ctPKind n, ctExpr (expr_all n), ctBlock HB, ctPlain n] φ (noInv) (noMeas) ⟨[], [], [], [], [], [some (b, 0)], h, noM⟩ ⟨rfl, rfl, rfl, rfl, rfl, rfl⟩ ones_nil ?_ w hH rfl
  generalize hE : (⟨specOf _, _, _, _⟩ : Env) = E
  have s_ctNow : E.spec 18 = (ctNow).spec := by rw [← hE]; rfl
  have s_ctTry : E.spec 63 = (ctTry).spec := by rw [← hE]; rfl
  have s_ctPWord : E.spec 59 = (ctPWord).spec := by rw [← hE]; rfl
  have s_ctMust : E.spec 57 = (ctMust).spec := by rw [← hE]; rfl
  have s_ctNamed : E.spec 58 = (ctNamed).spec := by rw [← hE]; rfl
  have s_ctMake1 : E.spec 80 = (ctMake1).spec := by rw [← hE]; rfl
  have s_ctIs : E.spec 35 = (ctIs).spec := by rw [← hE]; rfl
  have s_ctK : E.spec 64 = (ctPKind n).spec := by rw [← hE]; rfl
  have s_ctE : E.spec 11 = (ctExpr (expr_all n)).spec := by rw [← hE]; rfl
  have s_ctB : E.spec 65 = (ctBlock HB).spec := by rw [← hE]; rfl
  have s_ctPl : E.spec 99 = (ctPlain n).spec := by rw [← hE]; rfl
  have ep : E.post = φ := by rw [← hE]
  clear hE
  unfold fm_pstat
  have A := At.start W
  have hd0 := W.d0
  have hlen := W.len
  have A1 := A.pass
  have hpd := (adv_pass W.lw p).d
  have hE := (advE W.lw m).1
  have hB := (advS W.lw m).2.1
  rw [pStat] at hr
  dsimp only at hr
  rw [th_call, if_pos (by rfl), s_ctNow]
  refine ⟨b, sl, L, p, rfl, W, ?_⟩
  simp [go_sem, tokv, tkv]
  rw [then_step, th_call, if_pos (by rfl), s_ctTry]
  refine ⟨b, sl, L, p, wVar, rfl, W, ?_⟩
  cases c1 : pIs L wVar p with
  | true =>
    rw [if_pos c1] at hr
    simp only [Option.bind_eq_some_iff, Option.map_eq_some_iff] at hr
    obtain ⟨⟨x, r⟩, h1, ⟨y, u⟩, h2, h3⟩ := hr
    cases h3
    rw [if_pos rfl]
    simp [go_sem]
    rw [then_step, th_ite, if_pos (by simp [go_sem])]
    rw [then_step, th_call, if_pos (by rfl), s_ctPWord]
    refine ⟨b, sl, L, _, 1, rfl, A1.pw, ?_⟩
    simp [go_sem, tokv, tkv]
    have A2 := A1.word 1
    rw [set_set] at A2
    rw [then_step, th_call, if_pos (by rfl), s_ctMust]
    refine ⟨b, sl, L, _, [58], rfl, A2.pw, ?_⟩
    simp [go_sem, tokv, tkv]
    have A3 := A2.must [58]
    rw [set_set] at A3
    have hd3 := (((adv_pass W.lw p).trans (adv_word W.lw 1 _)).trans (adv_must W.lw [58] _)).d
    rw [then_step, th_call, if_pos (by rfl), s_ctK]
    refine ⟨m, by omega, b, sl, L, _, x, r, rfl, A3.pw, h1, by omega, fun v k g A4 hI => ?_⟩
    simp [go_sem, ptrv]; refine ⟨some (v, 0), rfl, ?_⟩
    have A5 := A3.then A4
    have hkd := (adv_kind W.lw m _ h1).d
    have hI5 := It.le (A3.disj A4) _ _ hI
    rw [then_step, th_call, if_pos (by rfl), s_ctMust]
    refine ⟨b, sl, L, r, [61], rfl, A5.pw, ?_⟩
    simp [go_sem, tokv, tkv]
    have A6 := A5.must [61]
    have hmd := (adv_must W.lw [61] r).d
    rw [then_step, th_call, if_pos (by rfl), s_ctE]
    refine ⟨m, by omega, b, sl, L, _, y, u, rfl, A6.pw, h2, by omega, fun v2 k2 g2 A7 hI2 => ?_⟩
    simp [go_sem, ptrv]; refine ⟨some (v2, 0), rfl, ?_⟩
    have A8 := A6.then A7
    rw [then_step, th_call, if_pos (by rfl), s_ctMust]
    refine ⟨b, sl, L, u, [59], rfl, A8.pw, ?_⟩
    simp [go_sem, tokv, tkv]
    have A9 := A8.must [59]
    rw [then_step, th_mk]
    intro kb hkb
    simp [go_sem]
    rw [then_step, th_call, if_pos (by rfl), s_ctNamed]
    refine ⟨7, tk L p, (tk L (pPass L p)).x, ⟨some (kb, 0), 2, 2⟩, rfl, fun o ho => ?_⟩
    simp [go_sem, ptrv]; refine ⟨some (o, 0), rfl, ?_⟩
    simp only [then_step]; simp [go_sem, ep]
    obtain ⟨A10, I10⟩ := A9.node (vs := [v, v2]) (ts := [x, y]) hkb ⟨It.le (le_uni _ _) _ _ hI5, It.le (A6.disj A7) _ _ hI2, trivial⟩ (by simp) ho 7 (tk L p).l (tk L p).c 0 (tk L (pPass L p)).x
    exact hφ o _ _ A10 I10
  | false =>
  rw [c1, if_neg (by decide)] at hr
  rw [if_neg (by decide)]
  simp [go_sem]
  rw [then_step, th_ite, if_neg (by simp [go_sem])]
  rw [then_step, th_call, if_pos (by rfl), s_ctTry]
  refine ⟨b, sl, L, p, wIf, rfl, W, ?_⟩
  cases c2 : pIs L wIf p with
  | true =>
    rw [if_pos c2] at hr
    simp only [Option.bind_eq_some_iff] at hr
    obtain ⟨⟨x, r⟩, h1, ⟨y, u⟩, h2, h3⟩ := hr
    rw [if_pos rfl]
    simp [go_sem]
    rw [then_step, th_ite, if_pos (by simp [go_sem])]
    have hrd := (hE _ _ _ _ h1).d
    have hud : u.d = r.d + 0 := (hB _ _ _ h2).1.d
    rw [then_step, th_call, if_pos (by rfl), s_ctE]
    refine ⟨m, by omega, b, sl, L, _, x, r, rfl, A1.pw, h1, by omega, fun v k g A4 hI => ?_⟩
    simp [go_sem, ptrv]; refine ⟨some (v, 0), rfl, ?_⟩
    have A5 := A1.then A4
    have hI5 := It.le (A1.disj A4) _ _ hI
    rw [then_step, th_call, if_pos (by rfl), s_ctB]
    refine ⟨m, by omega, b, sl, L, _, y, u, rfl, A5.pw, h2, by omega, fun v2 k2 g2 A6 hI2 => ?_⟩
    simp [go_sem, ptrv]; refine ⟨some (v2, 0), rfl, ?_⟩
    have A7 := A5.then A6
    rw [then_step, th_mk]
    intro kb hkb
    simp [go_sem]
    rw [then_step, th_call, if_pos (by rfl), s_ctMake1]
    refine ⟨9, tk L p, ⟨some (kb, 0), 2, 2⟩, rfl, fun o ho => ?_⟩
    simp [go_sem, ptrv]; refine ⟨some (o, 0), rfl, ?_⟩
    have O := A7.outs (vs := [v, v2]) (ts := [x, y]) hkb ⟨It.le (le_uni _ _) _ _ hI5, It.le (A5.disj A6) _ _ hI2, trivial⟩ (by simp) ho 9 (tk L p).l (tk L p).c 0 []
    rw [then_step, th_call, if_pos (by rfl), s_ctTry]
    refine ⟨b, sl, L, u, wElse, rfl, O.at'.pw, ?_⟩
    cases c3 : pIs L wElse u with
    | true =>
      rw [if_pos c3] at h3
      simp only [Option.map_eq_some_iff] at h3
      obtain ⟨⟨z, u2⟩, h4, h5⟩ := h3
      cases h5
      rw [if_pos rfl]
      simp [go_sem]
      rw [then_step, th_ite, if_pos (by simp [go_sem])]
      have O1 := O.pass
      have hpd2 := (adv_pass W.lw u).d
      refine grow (on := 3) (li := 1) (pi := 4) O1 rfl rfl rfl (by decide) (by simp) (fun ψ hψ => by rw [s_ctB]; exact ⟨m, by omega, b, sl, L, _, z, u2, rfl, O1.at'.pw, h4, by omega, hψ⟩) fun v3 kb3 s' k5 g5 O4 => ?_
      simp only [List.nil_append, List.cons_append]
      simp only [then_step]; simp [go_sem, ep]
      obtain ⟨g', A', I'⟩ := O4.done
      exact hφ o _ g' A' I'
    | false =>
      rw [c3, if_neg (by decide)] at h3
      cases h3
      rw [if_neg (by decide)]
      simp [go_sem]
      rw [then_step, th_ite, if_neg (by simp [go_sem])]
      simp only [then_step]; simp [go_sem, ep]
      obtain ⟨g', A', I'⟩ := O.done
      exact hφ o _ g' A' I'
  | false =>
  rw [c2, if_neg (by decide)] at hr
  rw [if_neg (by decide)]
  simp [go_sem]
  rw [then_step, th_ite, if_neg (by simp [go_sem])]
  rw [then_step, th_call, if_pos (by rfl), s_ctTry]
  refine ⟨b, sl, L, p, wWhile, rfl, W, ?_⟩
  cases c3 : pIs L wWhile p with
  | true =>
    rw [if_pos c3] at hr
    simp only [Option.bind_eq_some_iff, Option.map_eq_some_iff] at hr
    obtain ⟨⟨x, r⟩, h1, ⟨y, u⟩, h2, h3⟩ := hr
    cases h3
    rw [if_pos rfl]
    simp [go_sem]
    rw [then_step, th_ite, if_pos (by simp [go_sem])]
    have hrd := (hE _ _ _ _ h1).d
    rw [then_step, th_call, if_pos (by rfl), s_ctE]
    refine ⟨m, by omega, b, sl, L, _, x, r, rfl, A1.pw, h1, by omega, fun v k g A4 hI => ?_⟩
    simp [go_sem, ptrv]; refine ⟨some (v, 0), rfl, ?_⟩
    have A5 := A1.then A4
    have hI5 := It.le (A1.disj A4) _ _ hI
    rw [then_step, th_call, if_pos (by rfl), s_ctB]
    refine ⟨m, by omega, b, sl, L, _, y, u, rfl, A5.pw, h2, by omega, fun v2 k2 g2 A6 hI2 => ?_⟩
    simp [go_sem, ptrv]; refine ⟨some (v2, 0), rfl, ?_⟩
    have A7 := A5.then A6
    rw [then_step, th_mk]
    intro kb hkb
    simp [go_sem]
    rw [then_step, th_call, if_pos (by rfl), s_ctMake1]
    refine ⟨10, tk L p, ⟨some (kb, 0), 2, 2⟩, rfl, fun o ho => ?_⟩
    simp [go_sem, ptrv]; refine ⟨some (o, 0), rfl, ?_⟩
    simp only [then_step]; simp [go_sem, ep]
    obtain ⟨A10, I10⟩ := A7.node (vs := [v, v2]) (ts := [x, y]) hkb ⟨It.le (le_uni _ _) _ _ hI5, It.le (A5.disj A6) _ _ hI2, trivial⟩ (by simp) ho 10 (tk L p).l (tk L p).c 0 []
    exact hφ o _ _ A10 I10
  | false =>
  rw [c3, if_neg (by decide)] at hr
  rw [if_neg (by decide)]
  simp [go_sem]
  rw [then_step, th_ite, if_neg (by simp [go_sem])]
  rw [then_step, th_call, if_pos (by rfl), s_ctTry]
  refine ⟨b, sl, L, p, wReturn, rfl, W, ?_⟩
  cases c4 : pIs L wReturn p with
  | true =>
    rw [if_pos c4] at hr
    rw [if_pos rfl]
    simp [go_sem]
    rw [then_step, th_ite, if_pos (by simp [go_sem])]
    rw [then_step, th_call, if_pos (by rfl), s_ctMake1]
    refine ⟨11, tk L p, ⟨none, 0, 0⟩, rfl, fun o ho => ?_⟩
    simp [go_sem, ptrv]; refine ⟨some (o, 0), rfl, ?_⟩
    have O := A1.out ho 11 (tk L p).l (tk L p).c 0 []
    rw [then_step, th_call, if_pos (by rfl), s_ctIs]
    refine ⟨b, sl, L, _, [59], rfl, O.at'.pw, ?_⟩
    simp [go_sem]
    cases c5 : pIs L [59] (pPass L p) with
    | true =>
      rw [if_pos c5] at hr
      cases hr
      rw [then_step, th_ite, if_neg (by simp [go_sem])]
      rw [then_step, th_call, if_pos (by rfl), s_ctMust]
      refine ⟨b, sl, L, _, [59], rfl, O.at'.pw, ?_⟩
      simp [go_sem, tokv, tkv]
      have O2 := O.must [59]
      simp only [then_step]; simp [go_sem, ep]
      obtain ⟨g', A', I'⟩ := O2.done
      exact hφ o _ g' A' I'
    | false =>
      rw [c5, if_neg (by decide)] at hr
      simp only [Option.map_eq_some_iff] at hr
      obtain ⟨⟨x, r⟩, h1, h2⟩ := hr
      cases h2
      rw [then_step, th_ite, if_pos (by simp [go_sem])]
      refine grow (on := 1) (li := 0) (pi := 2) O rfl rfl rfl (by decide) (by simp) (fun ψ hψ => by rw [s_ctE]; exact ⟨m, by omega, b, sl, L, _, x, r, rfl, O.at'.pw, h1, by omega, hψ⟩) fun v3 kb3 s' k5 g5 O4 => ?_
      simp only [List.nil_append, List.cons_append]
      rw [then_step, th_call, if_pos (by rfl), s_ctMust]
      refine ⟨b, sl, L, _, [59], rfl, O4.at'.pw, ?_⟩
      simp [go_sem, tokv, tkv]
      have O5 := O4.must [59]
      simp only [then_step]; simp [go_sem, ep]
      obtain ⟨g', A', I'⟩ := O5.done
      exact hφ o _ g' A' I'
  | false =>
  rw [c4, if_neg (by decide)] at hr
  rw [if_neg (by decide)]
  simp [go_sem]
  rw [then_step, th_ite, if_neg (by simp [go_sem])]
  rw [then_step, th_call, if_pos (by rfl), s_ctTry]
  refine ⟨b, sl, L, p, wPrint, rfl, W, ?_⟩
  cases c6 : pIs L wPrint p with
  | true =>
    rw [if_pos c6] at hr
    simp only [Option.map_eq_some_iff] at hr
    obtain ⟨⟨x, r⟩, h1, h2⟩ := hr
    cases h2
    rw [if_pos rfl]
    simp [go_sem]
    rw [then_step, th_ite, if_pos (by simp [go_sem])]
    rw [then_step, th_call, if_pos (by rfl), s_ctE]
    refine ⟨m, by omega, b, sl, L, _, x, r, rfl, A1.pw, h1, by omega, fun v k g A4 hI => ?_⟩
    simp [go_sem, ptrv]; refine ⟨some (v, 0), rfl, ?_⟩
    have A5 := A1.then A4
    have hI5 := It.le (A1.disj A4) _ _ hI
    rw [then_step, th_mk]
    intro kb hkb
    simp [go_sem]
    rw [then_step, th_call, if_pos (by rfl), s_ctMake1]
    refine ⟨12, tk L p, ⟨some (kb, 0), 1, 1⟩, rfl, fun o ho => ?_⟩
    simp [go_sem, ptrv]; refine ⟨some (o, 0), rfl, ?_⟩
    obtain ⟨A6, I6⟩ := A5.node (vs := [v]) (ts := [x]) hkb ⟨hI5, trivial⟩ (by simp) ho 12 (tk L p).l (tk L p).c 0 []
    rw [then_step, th_call, if_pos (by rfl), s_ctMust]
    refine ⟨b, sl, L, _, [59], rfl, A6.pw, ?_⟩
    simp [go_sem, tokv, tkv]
    simp only [then_step]; simp [go_sem, ep]
    exact hφ o _ _ (A6.must [59]) I6
  | false =>
  rw [c6, if_neg (by decide)] at hr
  rw [if_neg (by decide)]
  simp [go_sem]
  rw [then_step, th_ite, if_neg (by simp [go_sem])]
  rw [then_step, th_call, if_pos (by rfl), s_ctPl]
  refine ⟨m, by omega, b, sl, L, p, t, q, tk L p, rfl, W, hr, by omega, fun v k g A4 hI => ?_⟩
  simp [go_sem, ptrv]; refine ⟨some (v, 0), rfl, ?_⟩
  simp only [then_step]; simp [go_sem, ep]
  exact hφ v k g A4 hI
theorem st_ok : ∀ n, BlockOk n ∧ StatOk n
  | 0 => by
    refine ⟨?_, ?_⟩ <;>
    · rintro args h φ w ⟨m, hm, b, sl, L, p, t, q, rfl, W, hr, _⟩ hH
      obtain rfl : m = 0 := by omega
      cases hr
  | n + 1 => ⟨block_ok (st_ok n).2, stat_ok (st_ok n).1⟩
end Go.Proofs.YthlakehilhpojaaGreatDoor
namespace Go.Proofs.YthlakehilhpojaaGreatDoor
open Go.RowKit
attribute [local go_sem] says_tt says_ff th_need th_ite th_call th_callK th_load th_store says_ret says_again BE.den IE.den SE.den LE.den AE.den CE.den PE.den VE.den KV.val Got.den Got.cnt exI allI exL allL Ctx.push Ctx.heap Ctx.cut Ctx.bare Ctx.mark Inc.blank List.getD_cons_zero List.getD_cons_succ List.cons_append List.nil_append List.append_nil List.map_cons List.map_nil List.replicate_zero List.replicate_succ specOf ltB_t leB_t ltB_f leB_f slc_val slc_nil slc_inj pt_val pt_nil hle_noHeap hle_refl hread_set hwrite_set set_same set_set noHeap_at B_inj ones_nil and_assoc
def fm_pfun : Fm := (.call (.c true) false 57 [(.one (.pt 0)), (.one (.s (.c [102, 110])))] (.p (.agg [(.i .u8 (.x 0)), (.i .i64 (.x 1)), (.i .i64 (.x 2)), (.i .i64 (.x 3)), (.s (.x 0))])) ⟨4, 0, 1, 0, 0, 0⟩
  (.call (.c true) false 59 [(.one (.pt 0)), (.one (.i .u8 (.c 1)))] (.p (.agg [(.i .u8 (.x 4)), (.i .i64 (.x 5)), (.i .i64 (.x 6)), (.i .i64 (.x 7)), (.s (.x 1))])) ⟨4, 0, 1, 0, 0, 0⟩
  (.call (.c true) false 58 [(.one (.i .u8 (.c 4))), (.agg [(.i .u8 (.x 0)), (.i .i64 (.x 1)), (.i .i64 (.x 2)), (.i .i64 (.x 3)), (.s (.x 0))]), (.one (.s (.x 1))), (.one (.sl .nil))] (.p (.one (.pt 1))) ⟨0, 0, 0, 0, 0, 1⟩
  (.call (.c true) false 60 [(.one (.pt 0)), (.one (.s (.c [40])))] (.p (.agg [(.i .u8 (.x 8)), (.i .i64 (.x 9)), (.i .i64 (.x 10)), (.i .i64 (.x 11)), (.s (.x 2))])) ⟨4, 0, 1, 0, 0, 0⟩
  (.loop 0 ⟨[], [(.c true)], [], [], [], []⟩
  (.call (.c true) false 20 [(.one (.pt 0))] (.p (.one (.b (.x 1)))) ⟨0, 1, 0, 0, 0, 0⟩
  (.call (.not (.x 1)) false 35 [(.one (.pt 0)), (.one (.s (.c [41])))] (.p (.one (.b (.x 2)))) ⟨0, 1, 0, 0, 0, 0⟩
  (.ite (.and (.not (.x 1)) (.not (.x 2)))
  (.ite (.not (.x 0))
  (.call (.c true) false 57 [(.one (.pt 0)), (.one (.s (.c [44])))] (.p (.agg [(.i .u8 (.x 12)), (.i .i64 (.x 13)), (.i .i64 (.x 14)), (.i .i64 (.x 15)), (.s (.x 3))])) ⟨4, 0, 1, 0, 0, 0⟩
  (.load (.c true) (.pt 1 6) 1 [(.sl (.x 0))] ⟨0, 0, 0, 0, 1, 0⟩
  (.need (.c true) (.nnp 1)
  (.need (.c true) (.nnp 1)
  (.callK (.c true) [((.c true), (.pt 1 6), 1)] 61 [(.one (.pt 0)), (.one (.i .u8 (.c 5)))] (.p (.one (.pt 2))) ⟨0, 0, 0, 0, 0, 1⟩
  (.mk [(.pt 2)] 49 1
  (.app (.x 0) (.x 1) 1 8 49
  (.need (.c true) (.nnp 1)
  (.need (.c true) (.nnp 1)
  (.store (.pt 1 6) [(.sl (.x 2))]
  (.need (.c true) (.nnp 1)
  (.need (.c true) (.nnp 1)
  (.need (.c true) (.nnp 1)
  (.load (.c true) (.pt 1 4) 1 [(.i .i64 (.x 16))] ⟨1, 0, 0, 0, 0, 0⟩
  (.need (.c true) (.and (.le (.c (-9223372036854775808)) (.add (.x 16) (.c 1))) (.le (.add (.x 16) (.c 1)) (.c 9223372036854775807)))
  (.need (.c true) (.nnp 1)
  (.need (.c true) (.nnp 1)
  (.need (.c true) (.nnp 1)
  (.store (.pt 1 4) [(.i .i64 (.add (.x 16) (.c 1)))]
  (.again 0 ⟨12, 0, 3, 0, 0, 2⟩ ⟨12, 1, 3, 0, 0, 2⟩ ⟨[], [(.c false)], [], [], [], []⟩))))))))))))))))))))
  (.load (.c true) (.pt 1 6) 1 [(.sl (.x 0))] ⟨0, 0, 0, 0, 1, 0⟩
  (.need (.c true) (.nnp 1)
  (.need (.c true) (.nnp 1)
  (.callK (.c true) [((.c true), (.pt 1 6), 1)] 61 [(.one (.pt 0)), (.one (.i .u8 (.c 5)))] (.p (.one (.pt 2))) ⟨0, 0, 0, 0, 0, 1⟩
  (.mk [(.pt 2)] 49 1
  (.app (.x 0) (.x 1) 1 8 49
  (.need (.c true) (.nnp 1)
  (.need (.c true) (.nnp 1)
  (.store (.pt 1 6) [(.sl (.x 2))]
  (.need (.c true) (.nnp 1)
  (.need (.c true) (.nnp 1)
  (.need (.c true) (.nnp 1)
  (.load (.c true) (.pt 1 4) 1 [(.i .i64 (.x 12))] ⟨1, 0, 0, 0, 0, 0⟩
  (.need (.c true) (.and (.le (.c (-9223372036854775808)) (.add (.x 12) (.c 1))) (.le (.add (.x 12) (.c 1)) (.c 9223372036854775807)))
  (.need (.c true) (.nnp 1)
  (.need (.c true) (.nnp 1)
  (.need (.c true) (.nnp 1)
  (.store (.pt 1 4) [(.i .i64 (.add (.x 12) (.c 1)))]
  (.again 0 ⟨12, 0, 3, 0, 0, 2⟩ ⟨12, 1, 3, 0, 0, 2⟩ ⟨[], [(.c false)], [], [], [], []⟩))))))))))))))))))))
  (.call (.c true) false 62 [(.one (.pt 0)), (.one (.s (.c [41])))] (.tup []) ⟨0, 0, 0, 0, 0, 0⟩
  (.new [(.i .u8 (.c 14)), (.i .i64 (.c 0)), (.i .i64 (.c 0)), (.i .i64 (.c 0)), (.i .i64 (.c 0)), (.s (.c [])), (.sl .nil)] 72
  (.call (.c true) false 63 [(.one (.pt 0)), (.one (.s (.c [58])))] (.p (.one (.b (.x 3)))) ⟨0, 1, 0, 0, 0, 0⟩
  (.ite (.x 3)
  (.call (.c true) false 64 [(.one (.pt 0))] (.p (.one (.pt 3))) ⟨0, 0, 0, 0, 0, 1⟩
  (.load (.c true) (.pt 1 6) 1 [(.sl (.x 0))] ⟨0, 0, 0, 0, 1, 0⟩
  (.need (.c true) (.nnp 1)
  (.need (.c true) (.nnp 1)
  (.callK (.c true) [((.c true), (.pt 1 6), 1)] 65 [(.one (.pt 0))] (.p (.one (.pt 4))) ⟨0, 0, 0, 0, 0, 1⟩
  (.mk [(.pt 3), (.pt 4)] 49 2
  (.app (.x 0) (.x 1) 1 8 49
  (.need (.c true) (.nnp 1)
  (.need (.c true) (.nnp 1)
  (.store (.pt 1 6) [(.sl (.x 2))]
  (.ret (.p (.one (.pt 1))))))))))))))
  (.load (.c true) (.pt 1 6) 1 [(.sl (.x 0))] ⟨0, 0, 0, 0, 1, 0⟩
  (.need (.c true) (.nnp 1)
  (.need (.c true) (.nnp 1)
  (.callK (.c true) [((.c true), (.pt 1 6), 1)] 65 [(.one (.pt 0))] (.p (.one (.pt 3))) ⟨0, 0, 0, 0, 0, 1⟩
  (.mk [(.pt 2), (.pt 3)] 49 2
  (.app (.x 0) (.x 1) 1 8 49
  (.need (.c true) (.nnp 1)
  (.need (.c true) (.nnp 1)
  (.store (.pt 1 6) [(.sl (.x 2))]
  (.ret (.p (.one (.pt 1)))))))))))))))))))))))))
theorem gen_pfun : genFn ⟨true, [52]⟩ Tryz.prog (fun l => ([⟨[5], [16, 17, 18, 19, 20, 21, 22, 23, 24, 25, 26, 27, 28, 29, 30, 31, 32, 33, 34, 35, 36, 37, 38, 39, 40, 41, 42, 43, 44, 45, 46, 47], [13]⟩] : List LAnn).getD l ⟨[], [], []⟩) Tryz.f37 = fm_pfun := by kernel_rfl
theorem ps_pfun : freshPs Tryz.prog .zero Tryz.f37.params.toList = some ([(.one (.pt 0))], ⟨0, 0, 0, 0, 0, 1⟩) := by kernel_rfl
def fm_pprog : Fm := (.new [(.i .u8 (.c 1)), (.i .i64 (.c 1)), (.i .i64 (.c 1)), (.i .i64 (.c 0)), (.i .i64 (.c 0)), (.s (.c [])), (.sl .nil)] 72
  (.loop 0 ⟨[], [], [], [], [], []⟩
  (.call (.c true) false 20 [(.one (.pt 0))] (.p (.one (.b (.x 0)))) ⟨0, 1, 0, 0, 0, 0⟩
  (.call (.not (.x 0)) false 18 [(.one (.pt 0))] (.p (.agg [(.i .u8 (.x 0)), (.i .i64 (.x 1)), (.i .i64 (.x 2)), (.i .i64 (.x 3)), (.s (.x 0))])) ⟨4, 0, 1, 0, 0, 0⟩
  (.ite (.and (.not (.x 0)) (.not (.eqI (.x 0) (.c 8))))
  (.call (.c true) false 35 [(.one (.pt 0)), (.one (.s (.c [114, 101, 99])))] (.p (.one (.b (.x 1)))) ⟨0, 1, 0, 0, 0, 0⟩
  (.ite (.x 1)
  (.load (.c true) (.pt 1 6) 1 [(.sl (.x 0))] ⟨0, 0, 0, 0, 1, 0⟩
  (.need (.c true) (.nnp 1)
  (.need (.c true) (.nnp 1)
  (.callK (.c true) [((.c true), (.pt 1 6), 1)] 36 [(.one (.pt 0))] (.p (.one (.pt 2))) ⟨0, 0, 0, 0, 0, 1⟩
  (.mk [(.pt 2)] 49 1
  (.app (.x 0) (.x 1) 1 8 49
  (.need (.c true) (.nnp 1)
  (.need (.c true) (.nnp 1)
  (.store (.pt 1 6) [(.sl (.x 2))]
  (.again 0 ⟨0, 0, 0, 0, 0, 2⟩ ⟨0, 0, 0, 0, 0, 2⟩ ⟨[], [], [], [], [], []⟩))))))))))
  (.call (.c true) false 35 [(.one (.pt 0)), (.one (.s (.c [102, 110])))] (.p (.one (.b (.x 2)))) ⟨0, 1, 0, 0, 0, 0⟩
  (.ite (.x 2)
  (.load (.c true) (.pt 1 6) 1 [(.sl (.x 0))] ⟨0, 0, 0, 0, 1, 0⟩
  (.need (.c true) (.nnp 1)
  (.need (.c true) (.nnp 1)
  (.callK (.c true) [((.c true), (.pt 1 6), 1)] 37 [(.one (.pt 0))] (.p (.one (.pt 2))) ⟨0, 0, 0, 0, 0, 1⟩
  (.mk [(.pt 2)] 49 1
  (.app (.x 0) (.x 1) 1 8 49
  (.need (.c true) (.nnp 1)
  (.need (.c true) (.nnp 1)
  (.store (.pt 1 6) [(.sl (.x 2))]
  (.again 0 ⟨0, 0, 0, 0, 0, 2⟩ ⟨0, 0, 0, 0, 0, 2⟩ ⟨[], [], [], [], [], []⟩))))))))))
  (.call (.c true) false 19 [(.one (.pt 0)), (.one (.i .i64 (.c 5)))] (.tup []) ⟨0, 0, 0, 0, 0, 0⟩
  (.again 0 ⟨0, 0, 0, 0, 0, 2⟩ ⟨0, 0, 0, 0, 0, 2⟩ ⟨[], [], [], [], [], []⟩))))))
  (.ret (.p (.one (.pt 1)))))))))
theorem gen_pprog : genFn ⟨true, [6]⟩ Tryz.prog (fun l => ([⟨[], [7, 8, 9, 10, 11, 12, 13, 14, 15, 19, 20, 18, 21, 22, 23, 24, 25, 26, 27, 28, 29, 30, 31, 33, 34, 32, 35, 36, 37, 38, 39, 40, 41, 42, 43, 44, 45, 16, 17], [6]⟩] : List LAnn).getD l ⟨[], [], []⟩) Tryz.f16 = fm_pprog := by kernel_rfl
theorem ps_pprog : freshPs Tryz.prog .zero Tryz.f16.params.toList = some ([(.one (.pt 0))], ⟨0, 0, 0, 0, 0, 1⟩) := by kernel_rfl
def ctBlk (n : Nat) : Ct Tryz.prog := ctBlock (st_ok n).1
section
variable {h : Hp} {b : Nat} {sl : Slc} {L : List Tok} {p : PS} {k g : Hp} {o : Nat} {kk l c n : Int} {x : List UInt8} {s : Slc} {vs : List Nat} {ts : List Tr}
/-- The node's number is written. -/
theorem Out.num (O : Out h b sl L p k g o kk l c n x s vs ts) (n' : Int) : Out h b sl L p (k.set o ⟨itc kk l c n' x s, IT⟩) g o kk l c n' x s vs ts := by
  refine ⟨⟨fun d y hdb hd => ?_, ⟨?_, O.at'.pw.tok.keep fun d y hty hd => ?_, O.at'.pw.lw, O.at'.pw.len, O.at'.pw.at', O.at'.pw.d0, O.at'.pw.d1⟩, O.at'.hb, fun d y hd => ?_, O.at'.fr⟩, set_same _ _ _, O.ho, O.go, O.kids.keep fun z cs hz hc => ?_, O.hs, O.its⟩
  · rw [set_ne _ (fun e => by rw [e, O.ho] at hd; cases hd)]; exact O.at'.kp d y hdb hd
  · rw [set_ne _ O.ob.symm]; exact O.at'.pw.blk
  · rw [set_ne _ (fun e => by rw [e, O.blk] at hd; cases hd; exact it_tk hty)]; exact hd
  · rw [set_ne _ (fun e => by rw [e, O.go] at hd; cases hd)]; exact O.at'.le d y hd
  · rw [set_ne _ (O.zo hz)]; exact hc
/-- A tree that stands aside for now. -/
theorem Out.aside (O : Out h b sl L p k g o kk l c n x s vs ts) {v : Nat} (hv : k v = none) (y : HO) : Out h b sl L p (k.set v y) (g.set v y) o kk l c n x s vs ts := by
  refine ⟨O.at'.new hv y, by rw [set_ne _ (fun e => by rw [← e, O.blk] at hv; cases hv)]; exact O.blk, O.ho, by rw [set_ne _ (fun e => by rw [← e, O.blk] at hv; cases hv)]; exact O.go, O.kids.keep fun z cs hz hc => ?_, fun z hz => ?_, Its.le (O.at'.gnew hv y) _ _ O.its⟩
  · rw [set_ne _ (fun e => by rw [e, hv] at hc; cases hc)]; exact hc
  · obtain ⟨cs, h1⟩ := O.kids.blk hz
    refine ⟨(O.hs z hz).1, ?_⟩
    rw [set_ne _ (fun e => by rw [e, hv] at h1; cases h1)]; exact (O.hs z hz).2
end
def funInv (h : Hp) (b : Nat) (sl : Slc) (L : List Tok) (l c : Int) (x : List UInt8) (rl : List Tr) (r : PS) (d : Int) (n : Nat) : Nat → Ctx → Prop := fun _ C =>
  ∃ i0 i1 i2 i3 i4 i5 i6 i7 i8 i9 i10 i11 s0 s1 s2 first o s vs ts p1 k1 g1 m1, C = ⟨[i0, i1, i2, i3, i4, i5, i6, i7, i8, i9, i10, i11], [first], [s0, s1, s2], [], [], [some (b, 0), some (o, 0)], k1, noM⟩ ∧ Out h b sl L p1 k1 g1 o 4 l c (ts.length : Nat) x s vs ts ∧ m1 ≤ n ∧
    pParams L m1 first ts p1 = some (rl, r) ∧ p1.d + m1 ≤ 1000000000001 ∧ vs.length + mu L p1 ≤ L.length ∧ p1.d = d
theorem itc_num {k'' : Hp} {o : Nat} {kk l c n : Int} {x : List UInt8} {s : Slc} (hk4 : k'' o = some ⟨itc kk l c n x s, IT⟩) (n' : Int) : hwrite k'' (some (o, 4)) [.int .i64 n'] = some (k''.set o ⟨itc kk l c n' x s, IT⟩) := by
  simp [hwrite_of hk4, itc]
theorem it_read4 {h : Hp} {v : Nat} {k l c n : Int} {x : List UInt8} {s : Slc} (hx : h v = some ⟨itc k l c n x s, IT⟩) : hread h (some (v, 4)) 1 = some [.int .i64 n] := by rw [hread_of hx]; rfl
/-- The row of children that is laid behind: two at once. -/
theorem two {E : Env} {fc : FuncId} {h : Hp} {b : Nat} {sl : Slc} {L : List Tok} {p : PS} {k g : Hp} {o : Nat} {kk l c n : Int} {x : List UInt8} {s : Slc} {vs : List Nat} {ts : List Tr} {i : List Int} {bb : List Bool} {ss : List (List UInt8)} {pp : List (Option (Nat × Nat))} {M : Nat → Nat} {on rn pi u : Nat} {q : PS} {t tu : Tr}
    (O : Out h b sl L p k g o kk l c n x s vs ts) (hu : It g u tu) (ho : pp.getD on none = some (o, 0)) (hr : pp.getD rn none = some (u, 0)) (hp : pp.length = pi) (hol : on < pi) (hrl : rn < pi) (hn : vs.length ≤ 2000000)
    (hs : ∀ φ : Value → Hp → Prop, (∀ v k' g', At k b sl L q k' g' → It g' v t → φ (ptrv v) k') → E.spec fc [ptrv b] k φ) (hb0 : pp.getD 0 none = some (b, 0))
    (hk : ∀ k5, (∃ g', At h b sl L q k5 g' ∧ It g' o (.nd kk l c n x (ts ++ [tu, t]))) → E.post (ptrv o) k5) :
    Then E (.load (.c true) (.pt on 6) 1 [(.sl (.x 0))] ⟨0, 0, 0, 0, 1, 0⟩ (.need (.c true) (.nnp on) (.need (.c true) (.nnp on) (.callK (.c true) [((.c true), (.pt on 6), 1)] fc [(.one (.pt 0))] (.p (.one (.pt pi))) ⟨0, 0, 0, 0, 0, 1⟩
      (.mk [(.pt rn), (.pt pi)] PI 2 (.app (.x 0) (.x 1) 1 8 PI (.need (.c true) (.nnp on) (.need (.c true) (.nnp on) (.store (.pt on 6) [(.sl (.x 2))] (.ret (.p (.one (.pt on))))))))))))) ⟨i, bb, ss, [], [], pp, k, M⟩ := by
  subst hp
  have get : ∀ {j : Nat} {y}, pp.getD j none = some y → pp[j]? = some (some y) := fun {j y} hj => by
    rw [List.getD_eq_getElem?_getD] at hj
    cases hq : pp[j]? with
    | none => rw [hq] at hj; cases hj
    | some z => rw [hq] at hj; exact congrArg some hj
  have ho' := get ho
  have hr' := get hr
  have hb' := get hb0
  have hb1 := O.blk
  have hlo : ∀ (u : List (Option (Nat × Nat))), (pp ++ u)[on]? = some (some (o, 0)) := fun u => by rw [List.getElem?_append_left hol]; exact ho'
  have hlr : ∀ (w : List (Option (Nat × Nat))), (pp ++ w)[rn]? = some (some (u, 0)) := fun w => by rw [List.getElem?_append_left hrl]; exact hr'
  rw [then_step, th_load, if_pos (by rfl)]
  refine (exI_iff _ _).2 ⟨⟨[], [], [], [], [s], []⟩, rfl, ones_nil, ?_, ?_⟩
  · simp [AE.den, CE.den, LE.den, Ctx.push, ho', hread_of hb1, itc]
  rw [then_step, th_need]
  refine ⟨by simp [BE.den, Ctx.push, ho'], ?_⟩
  rw [then_step, th_need]
  refine ⟨by simp [BE.den, Ctx.push, ho'], ?_⟩
  rw [then_step, th_callK, if_pos (by rfl)]
  simp only [Ctx.push, List.append_nil, List.nil_append, List.map_cons, List.map_nil, PE.den, CE.den, hb0, Option.map_some]
  refine hs _ fun v k' g' A' hI' => ?_
  have O' := O.then A'
  have hb2 := O'.blk
  refine ⟨fun y hy _ => ?_, (exI_iff _ _).2 ⟨⟨[], [], [], [], [], [some (v, 0)]⟩, rfl, ones_nil, ?_, ?_⟩⟩
  · rw [List.mem_singleton] at hy; subst hy
    simp [AE.den, ho', hread_of hb1, hread_of hb2]
  · simp [VE.den, PE.den, CE.den, ptrv]
  rw [then_step, th_mk]
  intro kb hkb
  have hkb' : k' kb = none := hkb
  rw [then_step]
  refine out_apps (us := [u, v]) (rs := [tu, t]) O' ⟨It.le (le_uni _ _) _ _ hu, It.le (O.at'.disj A') _ _ hI', trivial⟩ hn ⟨by simp, by simp⟩ hkb' ?_ ?_ ?_ fun s' k4 hk4 O4 => ?_
  · simp [LE.den, Ctx.push, Ctx.heap]
  · simp [LE.den, Ctx.push, Ctx.heap]
  · simp [CE.den, Ctx.push, Ctx.heap, ptrv, hlr]
  rw [th_need]
  refine ⟨by simp [BE.den, Ctx.push, Ctx.heap, hlo], ?_⟩
  rw [then_step, th_need]
  refine ⟨by simp [BE.den, Ctx.push, Ctx.heap, hlo], ?_⟩
  rw [then_step, th_store]
  refine ⟨k4.set o ⟨itc kk l c n x s', IT⟩, ?_, ?_⟩
  · have e := itc_store hk4 s'
    simpa [AE.den, CE.den, LE.den, Ctx.push, Ctx.heap, hlo] using e
  · rw [then_step, says_ret]
    have e := hk _ O4.done
    simpa [VE.den, PE.den, CE.den, Ctx.push, Ctx.heap, hlo, ptrv] using e
set_option maxHeartbeats 8000000 in
theorem fun_ok (n : Nat) : ∀ args h φ w, prod pFn n args h φ → Holds h w → Calls Tryz.prog 37 args.toArray w fun e w' => ∃ v k, e = .returned v ∧ φ v k ∧ Holds k w' ∧ Fr w.heap.size h k w w' := by
  rintro args h φ w ⟨m, hm, b, sl, L, p, t, q, rfl, W, hr, hd, hφ⟩ hH
  unfold pFn at hr
  dsimp only at hr
  simp only [Option.map_eq_some_iff, Option.bind_eq_some_iff] at hr
  obtain ⟨⟨rl, r⟩, h1, ⟨kt, r2⟩, hk1, ⟨bt, r3⟩, hb1', h2⟩ := hr
  cases h2
  dsimp only at hk1 hb1' hφ
  cases m with
  | zero => cases h1
  | succ m =>
  refine by_fm Tryz.func37 gen_pfun ps_pfun [ctMust, ctPWord, ctNamed, ctOpen, ctBad, ctIs, ctShut, ctTry, ctTyped n, ctPKind n, ctBlk n] φ (funInv h b sl L (tk L p).l (tk L p).c (tk L (pMust L wFn p)).x rl r (p.d + 1) (m + 1)) (fun _ => measP b L.length) ⟨[], [], [], [], [], [some (b, 0)], h, noM⟩ ⟨rfl, rfl, rfl, rfl, rfl, rfl⟩ ones_nil ?_ w hH rfl
  generalize hE : (⟨specOf _, _, _, _⟩ : Env) = E
  have s_ctMust : E.spec 57 = (ctMust).spec := by rw [← hE]; rfl
  have s_ctPWord : E.spec 59 = (ctPWord).spec := by rw [← hE]; rfl
  have s_ctNamed : E.spec 58 = (ctNamed).spec := by rw [← hE]; rfl
  have s_ctOpen : E.spec 60 = (ctOpen).spec := by rw [← hE]; rfl
  have s_ctBad : E.spec 20 = (ctBad).spec := by rw [← hE]; rfl
  have s_ctIs : E.spec 35 = (ctIs).spec := by rw [← hE]; rfl
  have s_ctShut : E.spec 62 = (ctShut).spec := by rw [← hE]; rfl
  have s_ctTry : E.spec 63 = (ctTry).spec := by rw [← hE]; rfl
  have s_ctT : E.spec 61 = (ctTyped n).spec := by rw [← hE]; rfl
  have s_ctK : E.spec 64 = (ctPKind n).spec := by rw [← hE]; rfl
  have s_ctB : E.spec 65 = (ctBlk n).spec := by rw [← hE]; rfl
  have ep : E.post = φ := by rw [← hE]
  have ei : E.inv = (funInv h b sl L (tk L p).l (tk L p).c (tk L (pMust L wFn p)).x rl r (p.d + 1) (m + 1)) := by rw [← hE]
  have em : E.meas = (fun _ => measP b L.length) := by rw [← hE]
  clear hE
  unfold fm_pfun
  have A := At.start W
  have hd0 := W.d0
  have hlen := W.len
  rw [th_call, if_pos (by rfl), s_ctMust]
  refine ⟨b, sl, L, p, wFn, rfl, W, ?_⟩
  simp [go_sem, tokv, tkv]
  have A1 := A.must wFn
  rw [then_step, th_call, if_pos (by rfl), s_ctPWord]
  refine ⟨b, sl, L, _, 1, rfl, A1.pw, ?_⟩
  simp [go_sem, tokv, tkv]
  have A2 := A1.word 1
  rw [set_set] at A2
  rw [then_step, th_call, if_pos (by rfl), s_ctNamed]
  refine ⟨4, tk L p, (tk L (pMust L wFn p)).x, ⟨none, 0, 0⟩, rfl, fun o ho => ?_⟩
  simp [go_sem, ptrv]; refine ⟨some (o, 0), rfl, ?_⟩
  have O := A2.out ho 4 (tk L p).l (tk L p).c 0 (tk L (pMust L wFn p)).x
  rw [then_step, th_call, if_pos (by rfl), s_ctOpen]
  refine ⟨b, sl, L, _, [40], rfl, O.at'.pw, ?_⟩
  simp [go_sem, tokv, tkv]
  have hod := (((adv_must W.lw wFn p).trans (adv_word W.lw 1 _)).trans (adv_open W.lw [40] _)).d
  have hod2 := ((adv_must W.lw wFn p).trans (adv_word W.lw 1 _)).d
  have O1 := O.open [40] (by omega)
  rw [then_step]
  refine loop_intro ?_ ?_
  · rw [ei]
    exact ⟨_, _, _, _, _, _, _, _, _, _, _, _, _, _, _, true, o, ⟨none, 0, 0⟩, [], [], _, _, _, m + 1, rfl, O1, Nat.le_refl _, h1, by omega, by have := mu_top L (pOpen L [40] (pWord L 1 (pMust L wFn p))); simp; omega, by omega⟩
  rw [ei, em]
  rintro i' bb ss v' ll pp hh0 M ⟨i0, i1, i2, i3, i4, i5, i6, i7, i8, i9, i10, i11, s0, s1, s2, first, o, s, vs, ts, p1, k1, g1, m1, hC, O1, hm1, hb1, hd1, hmu, hpd⟩ hM
  cases hC
  have hM : M 0 = mu L p1 := hM.trans (measP_eq O1.at'.pw rfl)
  clear h1 hod O ho
  cases m1 with
  | zero => cases hb1
  | succ m1 =>
  rw [pParams] at hb1
  have htl := O1.its.len
  have hkl := mu_top L p1
  have stop : (p1.bad || pIs L [41] p1) = true → ∀ bs M, Then E (.call (.c true) false 62 [(.one (.pt 0)), (.one (.s (.c [41])))] (.tup []) ⟨0, 0, 0, 0, 0, 0⟩ fm_pfun.k.k.k.k.k.k.k.e.k) ⟨[i0, i1, i2, i3, i4, i5, i6, i7, i8, i9, i10, i11], [first] ++ [p1.bad] ++ [bs], [s0, s1, s2], [], [], [some (b, 0), some (o, 0)], hh0, M⟩ := by
    intro hc bs M
    rw [if_pos hc] at hb1
    cases hb1
    unfold fm_pfun
    simp only [Fm.k, Fm.e]
    rw [then_step, th_call, if_pos (by rfl), s_ctShut]
    refine ⟨b, sl, L, _, [41], rfl, O1.at'.pw, ?_⟩
    have O2 := O1.shut [41] (by omega)
    have hsd := (adv_shut W.lw [41] r).d
    simp [go_sem]
    rw [then_step, th_new]
    intro nv hnv
    simp [go_sem]
    have O3 := O2.aside hnv ⟨itc 14 0 0 0 [] ⟨none, 0, 0⟩, IT⟩
    have I3 : It _ nv (.nd 14 0 0 0 [] []) := O2.at'.leaf hnv 14 0 0 0 []
    rw [then_step, th_call, if_pos (by rfl), s_ctTry]
    refine ⟨b, sl, L, _, [58], rfl, O3.at'.pw, ?_⟩
    cases c3 : pIs L [58] (pShut L [41] r) with
    | true =>
      rw [if_pos c3] at hk1
      rw [if_pos rfl]
      simp [go_sem]
      rw [then_step, th_ite, if_pos (by simp [go_sem])]
      have O4 := O3.pass
      have hpd4 := (adv_pass W.lw (pShut L [41] r)).d
      have hkd := (adv_kind W.lw _ _ hk1).d
      rw [then_step, th_call, if_pos (by rfl), s_ctK]
      refine ⟨m + 1, by omega, b, sl, L, _, kt, r2, rfl, O4.at'.pw, hk1, by omega, fun v k g A4 hI => ?_⟩
      simp [go_sem, ptrv]; refine ⟨some (v, 0), rfl, ?_⟩
      have O5 := O4.then A4
      refine two (rn := 3) (pi := 4) O5 (It.le (O4.at'.disj A4) _ _ hI) rfl rfl rfl (by decide) (by decide) (by omega) (fun ψ hψ => by rw [s_ctB]; exact ⟨m + 1, by omega, b, sl, L, _, _, _, rfl, O5.at'.pw, hb1', by omega, hψ⟩) rfl fun k5 hk5 => ?_
      obtain ⟨g', A', I'⟩ := hk5
      rw [ep]
      exact hφ o _ g' A' I'
    | false =>
      rw [c3, if_neg (by decide)] at hk1
      cases hk1
      rw [if_neg (by decide)]
      simp [go_sem]
      rw [then_step, th_ite, if_neg (by simp [go_sem])]
      refine two (rn := 2) (pi := 3) O3 I3 rfl rfl rfl (by decide) (by decide) (by omega) (fun ψ hψ => by rw [s_ctB]; exact ⟨m + 1, by omega, b, sl, L, _, _, _, rfl, O3.at'.pw, hb1', by omega, hψ⟩) rfl fun k5 hk5 => ?_
      obtain ⟨g', A', I'⟩ := hk5
      rw [ep]
      exact hφ o _ g' A' I'
  unfold fm_pfun at stop
  simp only [Fm.k, Fm.e] at stop
  rw [th_call, if_pos (by rfl), s_ctBad]
  refine ⟨b, sl, L, p1, rfl, O1.at'.pw, ?_⟩
  simp [go_sem]
  cases c0 : p1.bad with
  | true =>
    rw [then_step, th_call, if_neg (by simp [go_sem])]
    simp [go_sem]
    rw [then_step, th_ite, if_neg (by simp [go_sem])]
    have := stop (by rw [c0]; rfl) false M
    rw [c0] at this
    exact this
  | false =>
  rw [then_step, th_call, if_pos (by simp [go_sem]), s_ctIs]
  refine ⟨b, sl, L, p1, [41], rfl, O1.at'.pw, ?_⟩
  simp [go_sem]
  cases c1 : pIs L [41] p1 with
  | true =>
    rw [then_step, th_ite, if_neg (by simp [go_sem])]
    have := stop (by rw [c1]; simp) true M
    rw [c0] at this
    exact this
  | false =>
  clear stop
  rw [if_neg (by rw [c0, c1]; decide)] at hb1
  simp only [Option.bind_eq_some_iff] at hb1
  obtain ⟨⟨y, r1⟩, h3, h4⟩ := hb1
  rw [then_step, th_ite, if_pos (by simp [go_sem])]
  have hmp := mu_pos c0 O1.at'.pw.at'
  obtain ⟨Ad, Wd⟩ := adv_typed W.lw h3
  have hrd1 := Ad.d
  cases first with
  | true =>
    rw [if_pos rfl] at h3 Ad Wd hrd1
    rw [then_step, th_ite, if_neg (by simp [go_sem])]
    refine grow (on := 1) (li := 0) (pi := 2) O1 rfl rfl rfl (by decide) (by omega) (fun ψ hψ => by rw [s_ctT]; exact ⟨m1, by omega, b, sl, L, _, y, r1, 5, rfl, O1.at'.pw, h3, by omega, hψ⟩) fun v2 kb s' k5 g5 O4 => ?_
    simp only [List.nil_append, List.cons_append]
    have hn4 := it_read4 O4.blk
    iterate 3 (rw [then_step, th_need]; refine ⟨by simp [go_sem], ?_⟩)
    rw [then_step, th_load, if_pos (by rfl)]
    simp [go_sem]
    refine ⟨_, hn4, ?_⟩
    rw [then_step, th_need]
    refine ⟨by simp [go_sem]; omega, ?_⟩
    iterate 3 (rw [then_step, th_need]; refine ⟨by simp [go_sem], ?_⟩)
    rw [then_step, th_store]
    refine ⟨_, by simp [go_sem, itc_num O4.blk]; rfl, ?_⟩
    have O5 := O4.num ((ts.length : Int) + 1)
    dsimp only at h4
    have el : (((ts ++ [y]).length : Nat) : Int) = (ts.length : Int) + 1 := by simp
    rw [then_step, says_again, ei, em]
    have hw := mu_went Wd Ad O1.at'.pw.at'
    refine ⟨⟨_, _, _, _, _, _, _, _, _, _, _, _, _, _, _, false, o, s', vs ++ [v2], ts ++ [y], _, _, _, m1, rfl, by rw [el]; exact O5, by omega, h4, by omega, by simp; omega, by omega⟩, ?_⟩
    show measP b L.length _ < M 0
    rw [hM]
    refine Nat.lt_of_le_of_lt (Nat.le_of_eq (measP_eq O5.at'.pw rfl)) ?_
    omega
  | false =>
    rw [if_neg (by decide)] at h3 Ad Wd hrd1
    rw [then_step, th_ite, if_pos (by simp [go_sem])]
    rw [then_step, th_call, if_pos (by rfl), s_ctMust]
    refine ⟨b, sl, L, p1, [44], rfl, O1.at'.pw, ?_⟩
    simp [go_sem, tokv, tkv]
    have O2 := O1.must [44]
    have Am := adv_must W.lw [44] p1
    have hmd := Am.d
    have hm2 := mu_le Am
    refine grow (on := 1) (li := 0) (pi := 2) O2 rfl rfl rfl (by decide) (by omega) (fun ψ hψ => by rw [s_ctT]; exact ⟨m1, by omega, b, sl, L, _, y, r1, 5, rfl, O2.at'.pw, h3, by omega, hψ⟩) fun v2 kb s' k5 g5 O4 => ?_
    simp only [List.nil_append, List.cons_append]
    have hn4 := it_read4 O4.blk
    iterate 3 (rw [then_step, th_need]; refine ⟨by simp [go_sem], ?_⟩)
    rw [then_step, th_load, if_pos (by rfl)]
    simp [go_sem]
    refine ⟨_, hn4, ?_⟩
    rw [then_step, th_need]
    refine ⟨by simp [go_sem]; omega, ?_⟩
    iterate 3 (rw [then_step, th_need]; refine ⟨by simp [go_sem], ?_⟩)
    rw [then_step, th_store]
    refine ⟨_, by simp [go_sem, itc_num O4.blk]; rfl, ?_⟩
    have O5 := O4.num ((ts.length : Int) + 1)
    dsimp only at h4
    have el : (((ts ++ [y]).length : Nat) : Int) = (ts.length : Int) + 1 := by simp
    rw [then_step, says_again, ei, em]
    have hw := mu_went Wd Ad O2.at'.pw.at'
    refine ⟨⟨_, _, _, _, _, _, _, _, _, _, _, _, _, _, _, false, o, s', vs ++ [v2], ts ++ [y], _, _, _, m1, rfl, by rw [el]; exact O5, by omega, h4, by omega, by simp; omega, by omega⟩, ?_⟩
    show measP b L.length _ < M 0
    rw [hM]
    refine Nat.lt_of_le_of_lt (Nat.le_of_eq (measP_eq O5.at'.pw rfl)) ?_
    omega
def ctFun (n : Nat) : Ct Tryz.prog := ⟨37, prod pFn n, fun_ok n⟩
end Go.Proofs.YthlakehilhpojaaGreatDoor
namespace Go.Proofs.YthlakehilhpojaaGreatDoor
open Go.RowKit
attribute [local go_sem] says_tt says_ff th_need th_ite th_call th_callK th_load th_store says_ret says_again BE.den IE.den SE.den LE.den AE.den CE.den PE.den VE.den KV.val Got.den Got.cnt exI allI exL allL Ctx.push Ctx.heap Ctx.cut Ctx.bare Ctx.mark Inc.blank List.getD_cons_zero List.getD_cons_succ List.cons_append List.nil_append List.append_nil List.map_cons List.map_nil List.replicate_zero List.replicate_succ specOf ltB_t leB_t ltB_f leB_f slc_val slc_nil slc_inj pt_val pt_nil hle_noHeap hle_refl hread_set hwrite_set set_same set_set noHeap_at B_inj ones_nil and_assoc
def fm_lay : Fm := (.need (.c true) (.nnp 0)
  (.need (.c true) (.nnp 0)
  (.load (.c true) (.pt 0 0) 6 [(.i .u8 (.x 0)), (.i .i64 (.x 1)), (.i .i64 (.x 2)), (.i .i64 (.x 3)), (.i .i64 (.x 4)), (.s (.x 0))] ⟨5, 0, 1, 0, 0, 0⟩
  (.mk [(.i .u8 (.x 0)), (.i .i64 (.x 1)), (.i .i64 (.x 2)), (.i .i64 (.x 3)), (.i .i64 (.x 4)), (.s (.x 0))] 32 1
  (.app (.x 0) (.x 1) 6 56 32
  (.need (.c true) (.nnp 0)
  (.need (.c true) (.nnp 0)
  (.load (.c true) (.pt 0 6) 1 [(.sl (.x 3))] ⟨0, 0, 0, 0, 1, 0⟩
  (.loop 0 ⟨[(.c 0)], [], [], [], [(.x 2)], []⟩
  (.ite (.lt (.x 5) (.cnt (.x 3)))
  (.need (.c true) (.and (.and (.le (.c 0) (.x 5)) (.lt (.x 5) (.cnt (.x 3)))) (.nns (.x 3)))
  (.load (.c true) (.el (.x 3) (.x 5) 1 0) 1 [(.pt 1)] ⟨0, 0, 0, 0, 0, 1⟩
  (.call (.c true) false 21 [(.one (.pt 1)), (.one (.sl (.x 4)))] (.p (.one (.sl (.x 5)))) ⟨0, 0, 0, 0, 1, 0⟩
  (.need (.c true) (.and (.le (.c (-9223372036854775808)) (.add (.x 5) (.c 1))) (.le (.add (.x 5) (.c 1)) (.c 9223372036854775807)))
  (.again 0 ⟨5, 0, 1, 0, 4, 1⟩ ⟨6, 0, 1, 0, 5, 1⟩ ⟨[(.add (.x 5) (.c 1))], [], [], [], [(.x 5)], []⟩)))))
  (.need (.c true) (.and (.le (.c (-9223372036854775808)) (.sub (.cnt (.x 4)) (.cnt (.x 0)))) (.le (.sub (.cnt (.x 4)) (.cnt (.x 0))) (.c 9223372036854775807)))
  (.need (.c true) (.and (.le (.c (-9223372036854775808)) (.sub (.sub (.cnt (.x 4)) (.cnt (.x 0))) (.c 1))) (.le (.sub (.sub (.cnt (.x 4)) (.cnt (.x 0))) (.c 1)) (.c 9223372036854775807)))
  (.need (.c true) (.and (.and (.le (.c 0) (.cnt (.x 0))) (.lt (.cnt (.x 0)) (.cnt (.x 4)))) (.nns (.x 4)))
  (.need (.c true) (.nns (.x 4))
  (.store (.el (.x 4) (.cnt (.x 0)) 6 3) [(.i .i64 (.sub (.sub (.cnt (.x 4)) (.cnt (.x 0))) (.c 1)))]
  (.ret (.p (.one (.sl (.x 4))))))))))))))))))))
theorem gen_lay : genFn ⟨true, []⟩ Tryz.prog (fun l => ([⟨[1, 22], [23, 24, 25, 7, 26, 27, 28, 29], []⟩] : List LAnn).getD l ⟨[], [], []⟩) Tryz.f21 = fm_lay := by kernel_rfl
theorem ps_lay : freshPs Tryz.prog .zero Tryz.f21.params.toList = some ([(.one (.pt 0)), (.one (.sl (.x 0)))], ⟨0, 0, 0, 0, 1, 1⟩) := by kernel_rfl
def progInv (h : Hp) (b : Nat) (sl : Slc) (L : List Tok) (rl : List Tr) (r : PS) (n : Nat) : Nat → Ctx → Prop := fun _ C =>
  ∃ o s vs ts p1 k1 g1 m1, C = ⟨[], [], [], [], [], [some (b, 0), some (o, 0)], k1, noM⟩ ∧ Out h b sl L p1 k1 g1 o 1 1 1 0 [] s vs ts ∧ m1 ≤ n ∧
    pProgL L m1 ts p1 = some (rl, r) ∧ p1.d + m1 ≤ 1000000000000 ∧ vs.length + mu L p1 ≤ L.length
def runProg (L : List Tok) (n : Nat) (p : PS) : Option (Tr × PS) := pProg L n p
set_option maxHeartbeats 8000000 in
theorem prog_ok (n : Nat) : ∀ args h φ w, prod runProg n args h φ → Holds h w → Calls Tryz.prog 16 args.toArray w fun e w' => ∃ v k, e = .returned v ∧ φ v k ∧ Holds k w' ∧ Fr w.heap.size h k w w' := by
  rintro args h φ w ⟨m, hm, b, sl, L, p, t, q, rfl, W, hr, hd, hφ⟩ hH
  unfold runProg pProg at hr
  simp only [Option.map_eq_some_iff] at hr
  obtain ⟨⟨rl, r⟩, h1, h2⟩ := hr
  cases h2
  refine by_fm Tryz.func16 gen_pprog ps_pprog [ctBad, ctNow, ctIs, ctFail, ctRecord n, ctFun n] φ (progInv h b sl L rl r n) (fun _ => measP b L.length) ⟨[], [], [], [], [], [some (b, 0)], h, noM⟩ ⟨rfl, rfl, rfl, rfl, rfl, rfl⟩ ones_nil ?_ w hH rfl
  generalize hE : (⟨specOf _, _, _, _⟩ : Env) = E
  have s_ctBad : E.spec 20 = (ctBad).spec := by rw [← hE]; rfl
  have s_ctNow : E.spec 18 = (ctNow).spec := by rw [← hE]; rfl
  have s_ctIs : E.spec 35 = (ctIs).spec := by rw [← hE]; rfl
  have s_ctFail : E.spec 19 = (ctFail).spec := by rw [← hE]; rfl
  have s_ctR : E.spec 36 = (ctRecord n).spec := by rw [← hE]; rfl
  have s_ctF : E.spec 37 = (ctFun n).spec := by rw [← hE]; rfl
  have ep : E.post = φ := by rw [← hE]
  have ei : E.inv = (progInv h b sl L rl r n) := by rw [← hE]
  have em : E.meas = (fun _ => measP b L.length) := by rw [← hE]
  clear hE
  unfold fm_pprog
  have A := At.start W
  have hlen := W.len
  rw [th_new]
  intro o ho
  simp [go_sem]
  have O := A.out ho 1 1 1 0 []
  rw [then_step]
  refine loop_intro ?_ ?_
  · rw [ei]
    exact ⟨o, ⟨none, 0, 0⟩, [], [], _, _, _, m, rfl, O, hm, h1, hd, by have := mu_top L p; simp; omega⟩
  rw [ei, em]
  rintro i' bb ss v' ll pp hh0 M ⟨o, s, vs, ts, p1, k1, g1, m1, hC, O1, hm1, hb1, hd1, hmu⟩ hM
  cases hC
  have hM : M 0 = mu L p1 := hM.trans (measP_eq O1.at'.pw rfl)
  clear h1 O ho
  cases m1 with
  | zero => cases hb1
  | succ m1 =>
  rw [pProgL] at hb1
  have stop : (p1.bad || (tk L p1).k == 8) = true → φ (ptrv o) hh0 := by
    intro hc
    rw [if_pos hc] at hb1
    cases hb1
    obtain ⟨g', A', I'⟩ := O1.done
    exact hφ o _ g' A' I'
  rw [th_call, if_pos (by rfl), s_ctBad]
  refine ⟨b, sl, L, p1, rfl, O1.at'.pw, ?_⟩
  simp [go_sem]
  cases c0 : p1.bad with
  | true =>
    rw [then_step, th_call, if_neg (by simp [go_sem])]
    simp [go_sem]
    rw [then_step, th_ite, if_neg (by simp [go_sem])]
    simp only [then_step]; simp [go_sem, ep]
    exact stop (by rw [c0]; rfl)
  | false =>
  rw [then_step, th_call, if_pos (by simp [go_sem]), s_ctNow]
  refine ⟨b, sl, L, p1, rfl, O1.at'.pw, ?_⟩
  simp [go_sem, tokv, tkv]
  by_cases c8 : (tk L p1).k = 8
  · rw [then_step, th_ite, if_neg (by simp [go_sem, c8])]
    simp only [then_step]; simp [go_sem, ep]
    exact stop (by rw [c8]; simp)
  clear stop
  rw [if_neg (by rw [c0]; simp [c8])] at hb1
  rw [then_step, th_ite, if_pos (by simp [go_sem, c8])]
  have hmp := mu_pos c0 O1.at'.pw.at'
  have hkl := mu_top L p1
  rw [then_step, th_call, if_pos (by rfl), s_ctIs]
  refine ⟨b, sl, L, p1, wRec, rfl, O1.at'.pw, ?_⟩
  simp [go_sem]
  cases c1 : pIs L wRec p1 with
  | true =>
    rw [if_pos c1] at hb1
    simp only [Option.bind_eq_some_iff] at hb1
    obtain ⟨⟨y, r1⟩, h3, h4⟩ := hb1
    dsimp only at h4
    rw [then_step, th_ite, if_pos (by simp [go_sem])]
    obtain ⟨Ad, Wd⟩ := adv_record W.lw h3
    have hrd1 := Ad.d
    refine grow (on := 1) (li := 0) (pi := 2) O1 rfl rfl rfl (by decide) (by omega) (fun ψ hψ => by rw [s_ctR]; exact ⟨m1, by omega, b, sl, L, p1, y, r1, rfl, O1.at'.pw, h3, by omega, hψ⟩) fun v2 kb s' k5 g5 O4 => ?_
    simp only [List.nil_append, List.cons_append]
    rw [then_step, says_again, ei, em]
    have hw := mu_went Wd Ad O1.at'.pw.at'
    refine ⟨⟨o, s', vs ++ [v2], ts ++ [y], r1, _, _, m1, rfl, O4, by omega, h4, by omega, by simp; omega⟩, ?_⟩
    show measP b L.length _ < M 0
    rw [hM]
    refine Nat.lt_of_le_of_lt (Nat.le_of_eq (measP_eq O4.at'.pw rfl)) ?_
    omega
  | false =>
  rw [c1, if_neg (by decide)] at hb1
  rw [then_step, th_ite, if_neg (by simp [go_sem])]
  rw [then_step, th_call, if_pos (by rfl), s_ctIs]
  refine ⟨b, sl, L, p1, wFn, rfl, O1.at'.pw, ?_⟩
  simp [go_sem]
  cases c2 : pIs L wFn p1 with
  | true =>
    rw [if_pos c2] at hb1
    simp only [Option.bind_eq_some_iff] at hb1
    obtain ⟨⟨y, r1⟩, h3, h4⟩ := hb1
    dsimp only at h4
    rw [then_step, th_ite, if_pos (by simp [go_sem])]
    obtain ⟨Ad, Wd⟩ := adv_fn W.lw h3
    have hrd1 := Ad.d
    refine grow (on := 1) (li := 0) (pi := 2) O1 rfl rfl rfl (by decide) (by omega) (fun ψ hψ => by rw [s_ctF]; exact ⟨m1, by omega, b, sl, L, p1, y, r1, rfl, O1.at'.pw, h3, by omega, hψ⟩) fun v2 kb s' k5 g5 O4 => ?_
    simp only [List.nil_append, List.cons_append]
    rw [then_step, says_again, ei, em]
    have hw := mu_went Wd Ad O1.at'.pw.at'
    refine ⟨⟨o, s', vs ++ [v2], ts ++ [y], r1, _, _, m1, rfl, O4, by omega, h4, by omega, by simp; omega⟩, ?_⟩
    show measP b L.length _ < M 0
    rw [hM]
    refine Nat.lt_of_le_of_lt (Nat.le_of_eq (measP_eq O4.at'.pw rfl)) ?_
    omega
  | false =>
    rw [c2, if_neg (by decide)] at hb1
    rw [then_step, th_ite, if_neg (by simp [go_sem])]
    rw [then_step, th_call, if_pos (by rfl), s_ctFail]
    refine ⟨b, sl, L, p1, 5, rfl, O1.at'.pw, ?_⟩
    simp [go_sem]
    have O2 := O1.fail 5
    have Af := adv_fail (L := L) 5 p1
    have hfd := Af.d
    have h0 : mu L (pFail L 5 p1) = 0 := by unfold mu; rw [if_pos (bad_fail (by decide) p1)]
    rw [then_step, says_again, ei, em]
    refine ⟨⟨o, s, vs, ts, _, _, _, m1, rfl, O2, by omega, hb1, by omega, by omega⟩, ?_⟩
    show measP b L.length _ < M 0
    rw [hM]
    refine Nat.lt_of_le_of_lt (Nat.le_of_eq (measP_eq O2.at'.pw rfl)) ?_
    omega
def ctProg (n : Nat) : Ct Tryz.prog := ⟨16, prod runProg n, prog_ok n⟩
def ND : TypeId := 32
def Nod.cs (x : Nod) : List Value := [.int .u8 x.k, .int .i64 x.l, .int .i64 x.c, .int .i64 (x.z : Nat), .int .i64 x.n, .string (B x.x)]
def ncs (l : List Nod) : List Value := l.flatMap Nod.cs
theorem ncs_len (l : List Nod) : (ncs l).length = l.length * 6 := by
  induction l with
  | nil => rfl
  | cons a l ih => simp only [ncs, List.flatMap_cons, List.length_append, List.length_cons] at *; rw [ih]; simp [Nod.cs]; omega
theorem ncs_app (a b : List Nod) : ncs (a ++ b) = ncs a ++ ncs b := by simp [ncs]
theorem ncs_cons (x : Nod) (l : List Nod) : ncs (x :: l) = x.cs ++ ncs l := by simp [ncs]
/-- One cell of a slice's own block is written. -/
theorem OwnS.poke {k : Hp} {s : Slc} {xs : List Value} {ty : TypeId} {sz : Nat} (ho : OwnS k s xs ty sz) {j : Nat} (hj : j < xs.length) (u : Value) :
    ∃ c o, s.a = some (c, 0) ∧ k c = some o ∧ hwrite k (some (c, j)) [u] = some (k.set c ⟨o.cs.take j ++ [u] ++ o.cs.drop (j + 1), o.ty⟩) ∧ OwnS (k.set c ⟨o.cs.take j ++ [u] ++ o.cs.drop (j + 1), o.ty⟩) s (xs.take j ++ [u] ++ xs.drop (j + 1)) ty sz := by
  rcases ho with ⟨_, hx⟩ | ⟨c, o, h1, h2, h3, h4, h5, h6, h7⟩
  · rw [hx] at hj; cases hj
  · have hle : s.n * sz ≤ o.cs.length := by rw [h4]; exact Nat.mul_le_mul_right _ h5
    have hxl : xs.length = s.n * sz := by rw [h7, List.length_take]; omega
    have hjo : j < o.cs.length := by omega
    refine ⟨c, o, h1, h2, by rw [hwrite_of h2, if_pos (by simp; omega)]; rfl, .inr ⟨c, _, h1, set_same _ _ _, h3, ?_, h5, h6, ?_⟩⟩
    · simp only [List.length_append, List.length_take, List.length_drop, List.length_cons, List.length_nil]
      omega
    · simp only
      rw [h7, List.take_take, Nat.min_eq_left (by omega)]
      have hl : (o.cs.take j ++ [u]).length = j + 1 := by simp; omega
      rw [List.take_append (l₁ := o.cs.take j ++ [u]), List.take_of_length_le (l := o.cs.take j ++ [u]) (by omega), hl, List.drop_take]
end Go.Proofs.YthlakehilhpojaaGreatDoor
namespace Go.Proofs.YthlakehilhpojaaGreatDoor
open Go.RowKit
attribute [local go_sem] says_tt says_ff th_need th_ite th_call th_callK th_load th_store says_ret says_again BE.den IE.den SE.den LE.den AE.den CE.den PE.den VE.den KV.val Got.den Got.cnt exI allI exL allL Ctx.push Ctx.heap Ctx.cut Ctx.bare Ctx.mark Inc.blank List.getD_cons_zero List.getD_cons_succ List.cons_append List.nil_append List.append_nil List.map_cons List.map_nil List.replicate_zero List.replicate_succ specOf ltB_t leB_t ltB_f leB_f slc_val slc_nil slc_inj pt_val pt_nil hle_noHeap hle_refl hread_set hwrite_set set_same set_set noHeap_at B_inj ones_nil and_assoc
def layS (N : Nat) (args : List Value) (h : Hp) (φ : Value → Hp → Prop) : Prop :=
  ∃ v t s acc, args = [ptrv v, s.val] ∧ t.n ≤ N ∧ It h v t ∧ OwnS h s (ncs acc) ND 6 ∧ s.n = acc.length ∧ acc.length + t.n ≤ 2000000 ∧
    ∀ s' k, OwnS k s' (ncs (acc ++ t.nods)) ND 6 → s'.n = acc.length + t.n → (∀ c o, (∀ z, s.a = some z → z.1 ≠ c) → h c = some o → k c = some o) → (∀ z, s'.a = some z → (∃ y, s.a = some y ∧ y.1 = z.1) ∨ h z.1 = none) → φ s'.val k
def LayOk (N : Nat) : Prop := ∀ args h φ w, layS N args h φ → Holds h w → Calls Tryz.prog 21 args.toArray w fun e w' => ∃ v k, e = .returned v ∧ φ v k ∧ Holds k w' ∧ Fr w.heap.size h k w w'
def ctLay {N : Nat} (H : LayOk N) : Ct Tryz.prog := ⟨21, layS N, H⟩
theorem nd_it : ND ≠ IT := by decide
theorem nd_pi : ND ≠ PI := by decide
theorem OwnS.ty {h : Hp} {s : Slc} {xs : List Value} {ty : TypeId} {sz : Nat} (ho : OwnS h s xs ty sz) {z : Nat × Nat} (hz : s.a = some z) : ∃ cs, h z.1 = some ⟨cs, ty⟩ := by
  rcases ho with ⟨h1, _⟩ | ⟨c, o, h1, h2, h3, _⟩
  · rw [h1] at hz; cases hz
  · rw [h1] at hz; cases hz
    obtain ⟨cs, ty'⟩ := o
    simp only at h3; subst h3
    exact ⟨cs, h2⟩
mutual
theorem It.keep {h k : Hp} (hk : ∀ c o, o.ty ≠ ND → h c = some o → k c = some o) : ∀ (v : Nat) (t : Tr), It h v t → It k v t
  | v, .nd _ _ _ _ _ ks, hi => by
    obtain ⟨sl, vs, h1, h2, h3⟩ := hi
    exact ⟨sl, vs, hk _ _ nd_it.symm h1, h2.keep fun z cs _ hc => hk _ _ nd_pi.symm hc, Its.keep hk vs ks h3⟩
theorem Its.keep {h k : Hp} (hk : ∀ c o, o.ty ≠ ND → h c = some o → k c = some o) : ∀ (vs : List Nat) (ts : List Tr), Its h vs ts → Its k vs ts
  | [], [], _ => trivial
  | v :: vs, t :: ts, hi => ⟨It.keep hk v t hi.1, Its.keep hk vs ts hi.2⟩
  | [], _ :: _, hi => hi
  | _ :: _, [], hi => hi
end
theorem Its.get {h : Hp} : ∀ {vs : List Nat} {ts : List Tr}, Its h vs ts → ∀ (j : Nat) (hj : j < ts.length), ∃ v, vs[j]? = some v ∧ It h v ts[j]
  | v :: vs, t :: ts, hi, 0, _ => ⟨v, rfl, hi.1⟩
  | v :: vs, t :: ts, hi, j + 1, hj => by
    obtain ⟨u, h1, h2⟩ := Its.get hi.2 j (by simpa using hj)
    exact ⟨u, by simpa using h1, by simpa using h2⟩
  | [], [], _, j, hj => by cases hj
  | [], _ :: _, hi, _, _ => by cases hi
  | _ :: _, [], hi, _, _ => by cases hi
theorem Kids.read {h : Hp} {s : Slc} {vs : List Nat} (K : Kids h s vs) {j v : Nat} (hv : vs[j]? = some v) : s.a.isSome = true ∧ hread h (s.a.map fun x => (x.1, x.2 + j * 1 + 0)) 1 = some [ptrv v] := by
  have hj := (List.getElem?_eq_some_iff.1 hv).1
  rcases K.own with ⟨h1, h2⟩ | ⟨c, o, h1, h2, h3, h4, h5, h6, h7⟩
  · have := congrArg List.length h2; simp at this; rw [this] at hj; cases hj
  · have hl := K.len
    rw [h1]
    refine ⟨rfl, ?_⟩
    simp only [Option.map_some, Nat.zero_add, Nat.mul_one, Nat.add_zero]
    rw [hread_of h2, if_pos (by omega)]
    have e : (o.cs.take (s.n * 1))[j]? = some (ptrv v) := by rw [← h7, List.getElem?_map, hv]; rfl
    rw [List.getElem?_take, if_pos (by omega)] at e
    rw [List.drop_eq_getElem_cons (by omega)]
    have e2 : o.cs[j]'(by omega) = ptrv v := by
      have := List.getElem?_eq_getElem (l := o.cs) (i := j) (by omega)
      rw [this] at e; exact Option.some.inj e
    rw [e2]; rfl
theorem nodss_take_succ {ks : List Tr} {j : Nat} (hj : j < ks.length) : Tr.nodss (ks.take (j + 1)) = Tr.nodss (ks.take j) ++ ks[j].nods := by
  rw [List.take_succ_eq_append_getElem hj, nodss_app, nodss_cons, nodss_nil, List.append_nil]
mutual
theorem Tr.n_sz : ∀ t : Tr, t.n = t.sz + 1
  | .nd k l c n x ks => by
    have := Tr.ns_szs ks
    simp only [Tr.n, Tr.nods, List.length_cons, Tr.sz]
    simp only [Tr.ns] at this
    omega
theorem Tr.ns_szs : ∀ ks : List Tr, Tr.ns ks = Tr.szs ks
  | [] => rfl
  | t :: ks => by
    rw [ns_cons, Tr.n_sz t, Tr.ns_szs ks, Tr.szs]
end
theorem ns_ge : ∀ ks : List Tr, ks.length ≤ Tr.ns ks
  | [] => Nat.zero_le _
  | t :: ks => by
    have := ns_ge ks
    rw [ns_cons, Tr.n_sz t, List.length_cons]; omega
structure LI (h : Hp) (s : Slc) (acc : List Nod) (nd0 : Nod) (ks : List Tr) (j : Nat) (s4 : Slc) (k1 : Hp) : Prop where
  own : OwnS k1 s4 (ncs (acc ++ nd0 :: Tr.nodss (ks.take j))) ND 6
  len : s4.n = acc.length + 1 + Tr.ns (ks.take j)
  kp : ∀ c o, (∀ z, s.a = some z → z.1 ≠ c) → h c = some o → k1 c = some o
  fr : ∀ z, s4.a = some z → (∃ y, s.a = some y ∧ y.1 = z.1) ∨ h z.1 = none
def layInv (h : Hp) (s : Slc) (acc : List Nod) (nd0 : Nod) (ks : List Tr) (v : Nat) (ksl : Slc) : Nat → Ctx → Prop := fun _ C =>
  ∃ a0 a1 a2 a3 a4 x0 l1 l2 s4 k1, ∃ j : Nat, C = ⟨[a0, a1, a2, a3, a4, (j : Nat)], [], [x0], [], [s, l1, l2, ksl, s4], [some (v, 0)], k1, noM⟩ ∧ j ≤ ks.length ∧ LI h s acc nd0 ks j s4 k1
set_option maxHeartbeats 8000000 in
theorem lay_ok : ∀ N, LayOk N
  | 0 => by
    rintro args h φ w ⟨v, t, s, acc, rfl, ht, _⟩ hH
    rw [t.n_sz] at ht; omega
  | N + 1 => by
    have ih := lay_ok N
    rintro args h φ w ⟨v, t, s, acc, rfl, ht, hI, hown, hsn, hmax, hφ⟩ hH
    cases t with
    | nd k l c n x ks =>
    have hIall := hI
    obtain ⟨ksl, vs, hv, hK, hIs⟩ := hI
    have hnn : (Tr.nd k l c n x ks).n = Tr.ns ks + 1 := by simp [Tr.n, Tr.ns, Tr.nods]
    have hkl := hIs.len
    have hge := ns_ge ks
    have hksn := hK.len
    rw [hnn] at ht hmax hφ
    obtain ⟨nd0, hnd0⟩ : ∃ y : Nod, y = ⟨k, l, c, 0, n, x⟩ := ⟨_, rfl⟩
    have hnc : nd0.cs = [.int .u8 k, .int .i64 l, .int .i64 c, .int .i64 0, .int .i64 n, .string (B x)] := by rw [hnd0]; rfl
    refine ct_forget (by_fm Tryz.func21 gen_lay ps_lay [ctLay ih] (fun v k => ∃ k', HLe k' k ∧ φ v k') (layInv h s acc nd0 ks v ksl) (fun _ C => ((ks.length : Int) - C.i.getD 5 0).toNat) ⟨[], [], [], [], [s], [some (v, 0)], h, noM⟩ ⟨rfl, rfl, rfl, rfl, rfl, rfl⟩ ones_nil ?_ w hH rfl)
    generalize hE : (⟨specOf _, _, _, _⟩ : Env) = E
    have s_ctL : E.spec 21 = (ctLay ih).spec := by rw [← hE]; rfl
    have ep : E.post = (fun v k => ∃ k', HLe k' k ∧ φ v k') := by rw [← hE]
    have ei : E.inv = (layInv h s acc nd0 ks v ksl) := by rw [← hE]
    have em : E.meas = (fun _ C => ((ks.length : Int) - C.i.getD 5 0).toNat) := by rw [← hE]
    clear hE
    unfold fm_lay
    have hsb : ∀ z, s.a = some z → ∃ cs, h z.1 = some ⟨cs, ND⟩ := fun z hz => hown.ty hz
    have hvs : ∀ z, s.a = some z → z.1 ≠ v := fun z hz e => by
      obtain ⟨cs, h1⟩ := hsb z hz
      rw [e, hv] at h1; exact nd_it (HO.mk.inj (Option.some.inj h1)).2.symm
    rw [th_need]
    refine ⟨by simp [go_sem], ?_⟩
    rw [then_step, th_need]
    refine ⟨by simp [go_sem], ?_⟩
    have hr0 : hread h (some (v, 0)) 6 = some [.int .u8 k, .int .i64 l, .int .i64 c, .int .i64 0, .int .i64 n, .string (B x)] := by rw [hread_of hv]; rfl
    rw [then_step, th_load, if_pos (by rfl)]
    refine (exI_iff _ _).2 ⟨⟨[k, l, c, 0, n], [], [x], [], [], []⟩, rfl, ones_nil, hr0, ?_⟩
    rw [then_step, th_mk]
    intro nb hnb
    have hnb' : h nb = none := hnb
    rw [then_step, says_app]
    have hm : (2000001 : Nat) ≤ maxLen := by decide
    have hnsb : ∀ z, s.a = some z → z.1 ≠ nb := fun z hz e => by
      obtain ⟨cs, h1⟩ := hsb z hz
      rw [e, hnb'] at h1; cases h1
    have hx1 : ∀ (C : Ctx), C.l = [s, ⟨some (nb, 0), 1, 1⟩] → ((LE.x 0).den C) = s ∧ ((LE.x 1).den C) = ⟨some (nb, 0), 1, 1⟩ := fun C hC => by simp [LE.den, hC]
    refine ⟨ncs acc, nd0.cs, own_set hown hnsb _, ⟨by simp [go_sem], ?_⟩, ?_, ?_, ?_, ?_⟩
    · simp [go_sem, hnc]
    · intro u hu
      simp only [hnc, List.mem_cons, List.not_mem_nil, or_false] at hu
      rcases hu with rfl | rfl | rfl | rfl | rfl | rfl <;> rfl
    · simp [go_sem]; omega
    · simp [go_sem]; omega
    intro s4 k1 g1 g2 g3 g4
    have g2' : s4.n = s.n + 1 := g2
    have kp1 : ∀ c o, (∀ z, s.a = some z → z.1 ≠ c) → h c = some o → k1 c = some o := fun c o hc ho => g4 c o hc (by
      show (h.set nb _) c = some o
      rw [set_ne _ (fun e => by rw [e, hnb'] at ho; cases ho)]; exact ho)
    have L0 : LI h s acc nd0 ks 0 s4 k1 := by
      have g1' : OwnS k1 s4 (ncs acc ++ nd0.cs) ND 6 := g1
      refine ⟨by rw [List.take_zero, nodss_nil, ncs_app, ncs_cons]; show OwnS k1 s4 (ncs acc ++ (nd0.cs ++ [])) ND 6; rw [List.append_nil]; exact g1', by rw [List.take_zero, ns_nil, g2', hsn], kp1, fun z hz => ?_⟩
      rcases g3 z hz with hh | hh
      · exact .inl hh
      · have hh' : (h.set nb ⟨nd0.cs, ND⟩) z.1 = none := by rw [hnc]; exact hh
        rw [set_ne _ (fun e => by rw [e, set_same] at hh'; cases hh')] at hh'
        exact .inr hh'
    rw [th_need]
    refine ⟨by simp [go_sem], ?_⟩
    rw [then_step, th_need]
    refine ⟨by simp [go_sem], ?_⟩
    have hr6 : hread k1 (some (v, 6)) 1 = some [ksl.val] := it_read6 (kp1 v _ hvs hv)
    rw [then_step, th_load, if_pos (by rfl)]
    refine (exI_iff _ _).2 ⟨⟨[], [], [], [], [ksl], []⟩, rfl, ones_nil, hr6, ?_⟩
    simp [go_sem]
    rw [then_step]
    refine loop_intro ?_ ?_
    · rw [ei]
      exact ⟨_, _, _, _, _, _, _, _, s4, k1, 0, rfl, Nat.zero_le _, L0⟩
    rw [ei, em]
    rintro i' bb ss v' ll pp hh0 M ⟨a0, a1, a2, a3, a4, x0, l1, l2, s4, k1, j, hC, hj, I⟩ hM
    cases hC
    have hM' : M 0 = ((ks.length : Int) - j).toNat := hM
    clear hM L0 g1 g2 g3 g4 g2' kp1 hr6 hr0 hx1 hnb hnb' hnsb
    have hIk : Its hh0 vs ks := Its.keep (fun c o ho hc => I.kp c o (fun z hz e => by
      obtain ⟨cs, h1⟩ := hsb z hz
      rw [e, hc] at h1; cases h1; exact ho rfl) hc) _ _ hIs
    have hKk : Kids hh0 ksl vs := hK.keep fun z cs hz hc => I.kp _ _ (fun y hy e => by
      obtain ⟨cs', h1⟩ := hsb y hy
      rw [e, hc] at h1; exact nd_pi (HO.mk.inj (Option.some.inj h1)).2.symm) hc
    by_cases hjl : j < ks.length
    · obtain ⟨u, hu, hIu⟩ := hIk.get j hjl
      obtain ⟨hsome, hread1⟩ := hKk.read hu
      have e1 := nodss_take_succ hjl
      have hns : Tr.ns (ks.take (j + 1)) = Tr.ns (ks.take j) + ks[j].n := by simp only [Tr.ns, Tr.n, e1, List.length_append]
      have hle2 : Tr.ns (ks.take (j + 1)) ≤ Tr.ns ks := by
        have := ns_app (ks.take (j + 1)) (ks.drop (j + 1))
        rw [List.take_append_drop] at this; omega
      rw [th_ite, if_pos (by simp [go_sem]; omega)]
      rw [then_step, th_need]
      refine ⟨by simp [go_sem]; exact ⟨by omega, hsome⟩, ?_⟩
      rw [then_step, th_load, if_pos (by rfl)]
      refine (exI_iff _ _).2 ⟨⟨[], [], [], [], [], [some (u, 0)]⟩, rfl, ones_nil, ?_, ?_⟩
      · simpa [go_sem, ptrv] using hread1
      rw [then_step, th_call, if_pos (by rfl), s_ctL]
      refine ⟨u, ks[j], s4, acc ++ nd0 :: Tr.nodss (ks.take j), by simp [go_sem, ptrv], by omega, hIu, I.own, by rw [I.len]; simp [Tr.ns]; omega, by simp [Tr.ns] at hns hle2 hmax ⊢; omega, fun s5 k2 q1 q2 q3 q4 => ?_⟩
      have q1' : OwnS k2 s5 (ncs (acc ++ nd0 :: Tr.nodss (ks.take (j + 1)))) ND 6 := by rw [e1]; simpa using q1
      have I' : LI h s acc nd0 ks (j + 1) s5 k2 := by
        refine ⟨q1', by rw [q2, hns]; simp [Tr.ns]; omega, fun c o hc ho => q3 c o (fun z hz e => ?_) (I.kp c o hc ho), fun z hz => ?_⟩
        · rcases I.fr z hz with ⟨y, hy, e2⟩ | hn
          · exact hc y hy (e2.trans e)
          · rw [e, ho] at hn; cases hn
        · rcases q4 z hz with ⟨y, hy, e2⟩ | hn
          · rcases I.fr y hy with ⟨y', hy', e3⟩ | hn
            · exact .inl ⟨y', hy', e3.trans e2⟩
            · exact .inr (by rw [← e2]; exact hn)
          · by_cases hex : ∃ y, s.a = some y ∧ y.1 = z.1
            · exact .inl hex
            · cases hq : h z.1 with
              | none => exact .inr rfl
              | some o => have hn' : hh0 z.1 = none := hn; rw [I.kp z.1 o (fun y hy e => hex ⟨y, hy, e⟩) hq] at hn'; cases hn'
      simp [go_sem]
      rw [then_step, th_need]
      refine ⟨by simp [go_sem]; omega, ?_⟩
      rw [then_step, says_again, ei, em]
      refine ⟨⟨_, _, _, _, _, _, _, _, s5, k2, j + 1, rfl, by omega, I'⟩, ?_⟩
      simp [go_sem]
      omega
    · obtain rfl : j = ks.length := by omega
      have hown4 := I.own
      rw [List.take_length] at hown4
      have hlen4 := I.len
      rw [List.take_length] at hlen4
      have hcl : (ncs (acc ++ nd0 :: Tr.nodss ks)).length = (acc.length + 1 + Tr.ns ks) * 6 := by rw [ncs_len]; simp [Tr.ns]; omega
      obtain ⟨cb, o, p1, p2, p3, p4⟩ := hown4.poke (j := acc.length * 6 + 3) (by omega) (.int .i64 (Tr.ns ks : Nat))
      have hz : ((s4.n : Int) - s.n - 1) = (Tr.ns ks : Nat) := by omega
      rw [th_ite, if_neg (by simp [go_sem]; omega)]
      rw [then_step, th_need]
      refine ⟨by simp [go_sem]; omega, ?_⟩
      rw [then_step, th_need]
      refine ⟨by simp [go_sem]; omega, ?_⟩
      rw [then_step, th_need]
      refine ⟨by simp [go_sem, p1]; omega, ?_⟩
      rw [then_step, th_need]
      refine ⟨by simp [go_sem, p1], ?_⟩
      rw [then_step, th_store]
      refine ⟨_, by simp only [AE.den, CE.den, IE.den, LE.den, List.map_cons, List.map_nil, List.getD_cons_zero, List.getD_cons_succ]; simp only [p1, Option.map_some, Nat.zero_add, hz]; rw [hsn]; exact p3, ?_⟩
      rw [then_step, says_ret, ep]
      refine ⟨_, fun _ _ h => h, ?_⟩
      refine hφ s4 _ ?_ (by omega) (fun c' o' hc ho' => ?_) I.fr
      · have e : (ncs (acc ++ nd0 :: Tr.nodss ks)).take (acc.length * 6 + 3) ++ [Value.int .i64 (Tr.ns ks : Nat)] ++ (ncs (acc ++ nd0 :: Tr.nodss ks)).drop (acc.length * 6 + 3 + 1) = ncs (acc ++ (Tr.nd k l c n x ks).nods) := by
          have hal := ncs_len acc
          rw [Tr.nods, ← Tr.ns_szs, ncs_app, ncs_cons, ncs_app, ncs_cons]
          have t1 : (ncs acc ++ (nd0.cs ++ ncs (Tr.nodss ks))).take (acc.length * 6 + 3) = ncs acc ++ nd0.cs.take 3 := by
            rw [List.take_append, List.take_of_length_le (by omega), hal, show acc.length * 6 + 3 - acc.length * 6 = 3 by omega]; rfl
          have t2 : (ncs acc ++ (nd0.cs ++ ncs (Tr.nodss ks))).drop (acc.length * 6 + 3 + 1) = nd0.cs.drop 4 ++ ncs (Tr.nodss ks) := by
            rw [List.drop_append, List.drop_of_length_le (by omega), hal, show acc.length * 6 + 3 + 1 - acc.length * 6 = 4 by omega]; rfl
          rw [t1, t2]
          rw [hnc]; simp [Nod.cs]
        rw [← e]; exact p4
      · have hcc : c' ≠ cb := fun e => by
          rcases I.fr _ p1 with ⟨y, hy, e2⟩ | hn
          · exact hc y hy (e2.trans e.symm)
          · rw [← e, ho'] at hn; cases hn
        show (hh0.set cb _) c' = some o'
        rw [set_ne _ hcc]
        exact I.kp c' o' hc ho'
end Go.Proofs.YthlakehilhpojaaGreatDoor
namespace Go.Proofs.YthlakehilhpojaaGreatDoor
open Go.RowKit
attribute [local go_sem] says_tt says_ff th_need th_ite th_call th_callK th_load th_store th_mk th_new th_mks th_str says_ret says_again says_app BE.den IE.den SE.den LE.den AE.den CE.den PE.den VE.den KV.val Got.den Got.cnt exI allI exL allL Ctx.push Ctx.heap Ctx.cut Ctx.bare Ctx.mark Inc.blank List.getD_cons_zero List.getD_cons_succ List.cons_append List.nil_append List.append_nil List.map_cons List.map_nil List.replicate_zero List.replicate_succ specOf ltB_t leB_t ltB_f leB_f slc_val slc_nil slc_inj pt_val pt_nil hle_noHeap hle_refl hread_set hwrite_set set_same set_set noHeap_at B_inj ones_nil and_assoc
def fm_wbyte : Fm := (.call (.c true) false 111 [(.one (.pt 0))] (.tup []) ⟨0, 0, 0, 0, 0, 0⟩
  (.need (.c true) (.nnp 0)
  (.need (.c true) (.nnp 0)
  (.load (.c true) (.pt 0 1) 1 [(.sl (.x 0))] ⟨0, 0, 0, 0, 1, 0⟩
  (.mk [(.i .u8 (.x 0))] 5 1
  (.app (.x 0) (.x 1) 1 1 5
  (.need (.c true) (.nnp 0)
  (.need (.c true) (.nnp 0)
  (.store (.pt 0 1) [(.sl (.x 2))]
  (.ret (.p (.one (.c .niliface)))))))))))))
theorem gen_wbyte : genFn ⟨true, []⟩ Tryz.prog (fun l => ([] : List LAnn).getD l ⟨[], [], []⟩) Tryz.f104 = fm_wbyte := by kernel_rfl
theorem ps_wbyte : freshPs Tryz.prog .zero Tryz.f104.params.toList = some ([(.one (.pt 0)), (.one (.i .u8 (.x 0)))], ⟨1, 0, 0, 0, 0, 1⟩) := by kernel_rfl
def BT : TypeId := 127
theorem setCell_heap {w : World} {b : Nat} {c0 c1 v : Value} {T : TypeId} (hb : w.heap[b]? = some (.cells #[c0, c1] T (0, 0))) : (w.setCell ⟨b, 0, none⟩ v).heap[b]? = some (.cells #[v, c1] T (0, 0)) := by
  simp [World.setCell, Array.getElem?_modify, hb]
theorem setCell_other {w : World} {b c : Nat} (hc : c ≠ b) (v : Value) : (w.setCell ⟨b, 0, none⟩ v).heap[c]? = w.heap[c]? := by
  simp [World.setCell, Array.getElem?_modify, Ne.symm hc]
set_option maxHeartbeats 1000000 in
set_option maxRecDepth 100000 in
theorem cc_used (b : Nat) (w : World) (h0 : w.cell? ⟨b, 0, none⟩ = some (.pointer (some ⟨b, 0, none⟩))) :
    Calls Tryz.prog 111 #[.pointer (some ⟨b, 0, none⟩)] w fun e w' => e = .returned (.tuple #[]) ∧ w' = w := by
  obtain ⟨j, hj, _⟩ := Option.map_eq_some_iff.1 (show (Tryz.prog.info? BT).map (·.size) = some 2 by kernel_rfl)
  go_enter Tryz.func111, Tryz.ntmps111
  go_wp2
  rw [Lib.run_neq_ptr_same w _ Tryz.underlying125 hj]
  go_wp2
  go_end0
  exact ⟨rfl, rfl⟩
set_option maxHeartbeats 1000000 in
set_option maxRecDepth 100000 in
theorem cc_fresh (b : Nat) (w : World) (h0 : w.cell? ⟨b, 0, none⟩ = some (.pointer none)) (hsh : w.shape? b = some (BT, 2)) (hfz : w.frozen? ⟨b, 0, none⟩ = false) :
    Calls Tryz.prog 111 #[.pointer (some ⟨b, 0, none⟩)] w fun e w' => e = .returned (.tuple #[]) ∧ w' = w.setCell ⟨b, 0, none⟩ (.pointer (some ⟨b, 0, none⟩)) := by
  obtain ⟨j, hj, hjs⟩ := Option.map_eq_some_iff.1 (show (Tryz.prog.info? BT).map (·.size) = some 2 by kernel_rfl)
  go_enter Tryz.func111, Tryz.ntmps111
  go_wp2
  rw [Lib.run_to_unsafe w ⟨b, 0, none⟩ Tryz.underlying125 Tryz.underlying144 hj (by rw [hjs]; decide) hsh (Nat.zero_lt_succ 1)]
  simp only [Result.andThen]
  rw [Oper.upon_value]
  go_wp2
  rw [run_callFunc_extern Tryz.func116 (by kernel_rfl) (by kernel_rfl) (by kernel_rfl) (e := Extern.AbiNoEscape.same) (by kernel_rfl)]
  rw [Lib.run_noEscape]
  simp only [Result.andThen]
  rw [Oper.upon_value]
  go_wp2
  rw [Lib.run_from_unsafe w ⟨b, 0, none⟩ Tryz.underlying144 Tryz.underlying125 hj hsh (by kernel_rfl)]
  simp only [Result.andThen]
  rw [Oper.upon_value]
  go_wp2
  go_end0
  exact ⟨rfl, rfl⟩
/-- A builder's cells. -/
def bld (b : Nat) (used : Bool) (sl : Slc) : List Value := [if used then .pointer (some ⟨b, 0, none⟩) else .pointer none, sl.val]
def ctCopyCheck : Ct Tryz.prog where
  f := 111
  spec := fun args h φ => ∃ b used sl, args = [.pointer (some ⟨b, 0, none⟩)] ∧ h b = some ⟨bld b used sl, BT⟩ ∧ φ (.tuple #[]) (h.set b ⟨bld b true sl, BT⟩)
  ok := by
    rintro args h φ w ⟨b, used, sl, rfl, hb, hφ⟩ hH
    have hw := hH b _ hb
    have hlt := (Array.getElem?_eq_some_iff.1 hw).1
    cases used with
    | true =>
      rw [← set_self hb] at hφ
      refine (cc_used b w (by rw [Lib.cell_of_heap hw]; rfl)).mono ?_
      rintro e w' ⟨rfl, rfl⟩
      exact ⟨_, h, rfl, hφ, hH, Fr.refl _ _ _⟩
    | false =>
      refine (cc_fresh b w (by rw [Lib.cell_of_heap hw]; rfl) (by simp [World.shape?, hw, bld]) (Lib.frozen_of_heap hw 0)).mono ?_
      rintro e w' ⟨rfl, rfl⟩
      refine ⟨_, _, rfl, hφ, fun c o hc => ?_, ⟨rfl, rfl, rfl, by simp [World.setCell], fun c hc hn => ?_, fun c hc hn => ?_⟩⟩
      · by_cases e : c = b
        · subst e
          rw [set_same] at hc
          cases hc
          exact setCell_heap hw
        · rw [set_ne _ e] at hc
          rw [setCell_other e]
          exact hH c o hc
      · exact setCell_other (fun e => by rw [e, hb] at hn; cases hn) _
      · rw [set_ne _ (fun e => by rw [e, hb] at hn; cases hn)]; exact hn
/-- Bytes' cells. -/
def bcs (l : List UInt8) : List Value := l.map fun c => .int .u8 c.toNat
theorem bcs_app (l m : List UInt8) : bcs (l ++ m) = bcs l ++ bcs m := by simp [bcs]
theorem bcs_len (l : List UInt8) : (bcs l).length = l.length := by simp [bcs]
/-- A builder that holds bytes. -/
structure Bld (h : Hp) (b : Nat) (used : Bool) (sl : Slc) (l : List UInt8) : Prop where
  at_ : h b = some ⟨bld b used sl, BT⟩
  own : OwnS h sl (bcs l) 5 1
  n : sl.n = l.length
  ne : ∀ z, sl.a = some z → z.1 ≠ b
  fit : sl.a = none → l = []
  pos : sl.a ≠ none → l ≠ []
theorem Bld.lt {h : Hp} {b : Nat} {used : Bool} {sl : Slc} {l : List UInt8} (x : Bld h b used sl l) {c : Nat} (hc : h c = none) : ∀ z, sl.a = some z → z.1 ≠ c := fun z hz e => by
  rcases x.own with ⟨h1, _⟩ | ⟨d, o, h1, h2, _⟩
  · rw [h1] at hz; cases hz
  · rw [h1] at hz; cases hz; subst e; rw [hc] at h2; cases h2
theorem ub_cell {c : Int} (h0 : 0 ≤ c) (h1 : c ≤ 255) : Value.int .u8 ((ub c).toNat : Nat) = .int .u8 c := by
  unfold ub
  rw [UInt8.toNat_ofNat']
  congr 1
  omega
set_option maxHeartbeats 2000000 in
def ctWriteByte : Ct Tryz.prog where
  f := 104
  spec := fun args h φ => ∃ b used sl l c, args = [.pointer (some ⟨b, 0, none⟩), .int .u8 c] ∧ Bld h b used sl l ∧ 0 ≤ c ∧ c ≤ 255 ∧ l.length ≤ 1000000 ∧
    ∀ sl' k, Bld k b true sl' (l ++ [ub c]) → (∀ c o, c ≠ b → (∀ z, sl.a = some z → z.1 ≠ c) → h c = some o → k c = some o) → (∀ z, sl'.a = some z → (∃ y, sl.a = some y ∧ y.1 = z.1) ∨ h z.1 = none) → φ .nilIface k
  ok := by
    rintro args h φ w ⟨b, used, sl, l, c, rfl, X, c0, c1, hl, hφ⟩ hH
    refine by_fm Tryz.func104 gen_wbyte ps_wbyte [ctCopyCheck] φ noInv noMeas ⟨[c], [], [], [], [], [some (b, 0)], h, noM⟩ ⟨rfl, rfl, rfl, rfl, rfl, rfl⟩ ones_nil ?_ w hH rfl
    generalize hE : (⟨specOf _, _, _, _⟩ : Env) = E
    have s1 : E.spec 111 = ctCopyCheck.spec := by rw [← hE]; rfl
    have ep : E.post = φ := by rw [← hE]
    clear hE
    unfold fm_wbyte
    rw [th_call, if_pos (by rfl), s1]
    refine ⟨b, used, sl, rfl, X.at_, ?_⟩
    simp [go_sem]
    iterate 3 (simp only [then_step]; simp [go_sem, bld])
    simp only [then_step, th_mk]
    intro b1 hb1
    rw [says_app]
    have hb1' : (h.set b ⟨bld b true sl, BT⟩) b1 = none := hb1
    have n1 : b1 ≠ b := fun e => by rw [e, set_same] at hb1'; cases hb1'
    have hb1h : h b1 = none := by rw [set_ne _ n1] at hb1'; exact hb1'
    have hcs : [Value.int .u8 c] = bcs [ub c] := by simp [bcs, ub_cell c0 c1]
    have hn := X.n
    refine ⟨bcs l, bcs [ub c], own_set (own_set X.own X.ne _) (X.lt hb1h) _, ⟨by simp [go_sem], ?_⟩, ?_, ?_, ?_, ?_⟩
    · rw [← hcs]; simp [go_sem]
    · rw [← hcs]; intro u hu; simp at hu; subst hu; rfl
    · show sl.n + 1 ≤ maxLen; unfold maxLen; omega
    · show (sl.n + 1) * 1 ≤ _; omega
    intro s' k h1 h2 h3 h4
    have h2' : s'.n = sl.n + 1 := h2
    have hsl : (LE.den (⟨[c], [], [], [], [sl], [some (b, 0)], h.set b ⟨bld b true sl, BT⟩, noM⟩ : Ctx) (.x 0)) = sl := rfl
    have kb : k b = some ⟨bld b true sl, BT⟩ := h4 b _ X.ne (by
      show ((h.set b ⟨bld b true sl, BT⟩).set b1 _) b = _
      rw [set_ne _ n1.symm, set_same])
    have fb : ∀ z, s'.a = some z → z.1 ≠ b ∧ ((∃ y, sl.a = some y ∧ y.1 = z.1) ∨ h z.1 = none) := fun z hz => by
      rcases h3 z hz with ⟨y, hy, e⟩ | hn
      · exact ⟨by rw [← e]; exact X.ne y hy, .inl ⟨y, hy, e⟩⟩
      · have hn' : ((h.set b ⟨bld b true sl, BT⟩).set b1 ⟨[Value.int .u8 c], 5⟩) z.1 = none := hn
        have m1 : z.1 ≠ b1 := fun e => by rw [e, set_same] at hn'; cases hn'
        rw [set_ne _ m1] at hn'
        have m2 : z.1 ≠ b := fun e => by rw [e, set_same] at hn'; cases hn'
        rw [set_ne _ m2] at hn'
        exact ⟨m2, .inr hn'⟩
    have hfin : φ .nilIface (k.set b ⟨bld b true s', BT⟩) := by
      refine hφ s' _ ⟨set_same _ _ _, own_set (by rw [bcs_app]; exact h1) (fun z hz => (fb z hz).1) _, by rw [h2', hn]; simp, fun z hz => (fb z hz).1, fun hz => ?_, fun _ => by simp⟩ (fun d o hd hz ho => ?_) (fun z hz => (fb z hz).2)
      · exfalso
        rcases h1 with ⟨q, _⟩ | ⟨d, o, q, _⟩
        · rw [q] at h2'; simp at h2'
        · rw [q] at hz; cases hz
      · rw [set_ne _ hd]
        refine h4 d o hz ?_
        show ((h.set b ⟨bld b true sl, BT⟩).set b1 _) d = _
        rw [set_ne _ (fun e => by rw [e, hb1h] at ho; cases ho), set_ne _ hd]
        exact ho
    have kk := set_self kb
    rw [kk]
    rw [← then_step]
    iterate 4 (try simp only [then_step]; try simp [go_sem, ep, bld])
    exact hfin
set_option maxHeartbeats 2000000 in
set_option maxRecDepth 100000 in
theorem str_row (b g cap : Nat) (q : Value) (cur : Array Value) (l : List UInt8) (w : World) (hbk : w.heap[b]? = some (.cells #[q, .slice (some ⟨g, 0, none⟩) l.length cap] BT (0, 0))) (hg : w.heap[g]? = some (.cells cur 5 (0, 0))) (h0 : l ≠ []) (hcap : l.length ≤ cap) (hcm : cap ≤ maxLen)
    (hcs : cur.size = cap) (hcur : ∀ (j : Nat) (x : UInt8), l[j]? = some x → cur[j]? = some (Value.int .u8 x.toNat)) :
    Calls Tryz.prog 103 #[.pointer (some ⟨b, 0, none⟩)] w fun e w' => e = .returned (.string ⟨l.toArray⟩) ∧ w' = w.drew.freeze ⟨g, 0, none⟩ l.length := by
  have hl0 : l.length ≠ 0 := by simpa using h0
  have c1 : w.drew.cell? ⟨b, 1, none⟩ = some (.slice (some ⟨g, 0, none⟩) l.length cap) := by
    have : w.drew.heap[b]? = some (.cells #[q, .slice (some ⟨g, 0, none⟩) l.length cap] BT (0, 0)) := hbk
    rw [Lib.cell_of_heap this]; rfl
  have hSD : (Builtin.unsafeSliceData_ #[105] 134 #[.slice (some ⟨g, 0, none⟩) l.length cap]).run Tryz.prog w.drew = .ok (.pointer (some ⟨g, 0, none⟩)) w.drew :=
    Lib.run_unsafeSliceData_row _ _ _ _ _ _ (by omega)
  have hUS : (Builtin.unsafeString_ #[134, 3] 9 #[.pointer (some ⟨g, 0, none⟩), .int .i64 l.length]).run Tryz.prog w.drew = .ok (.string ⟨l.toArray⟩) (w.drew.freeze ⟨g, 0, none⟩ l.length) := by
    refine Lib.run_unsafeString_row w.drew 134 3 9 5 Tryz.underlying134 (by kernel_rfl) g cur.size (by have hg' : w.drew.heap[g]? = some (.cells cur 5 (0, 0)) := hg; simp [World.shape?, hg']) l h0 (by omega) (by unfold maxLen at hcm; omega) ?_
    intro j x hx
    rw [addr_add, Nat.zero_add]
    have hg' : w.drew.heap[g]? = some (.cells cur 5 (0, 0)) := hg
    rw [Lib.cell_of_heap hg']
    exact hcur j x hx
  have mixed : Tryz.prog.follows .mixedOrders = true := by kernel_rfl
  go_enter Tryz.func103, Tryz.ntmps103
  go_wp2
  go_region_o
  all_goals (go_wp2; go_ret; exact ⟨rfl, rfl⟩)
set_option maxHeartbeats 2000000 in
set_option maxRecDepth 100000 in
theorem str_nil (b : Nat) (q : Value) (w : World) (hbk : w.heap[b]? = some (.cells #[q, .slice none 0 0] BT (0, 0))) :
    Calls Tryz.prog 103 #[.pointer (some ⟨b, 0, none⟩)] w fun e w' => e = .returned (.string ⟨#[]⟩) ∧ w' = w.drew := by
  have c1 : w.drew.cell? ⟨b, 1, none⟩ = some (.slice none 0 0) := by
    have : w.drew.heap[b]? = some (.cells #[q, .slice none 0 0] BT (0, 0)) := hbk
    rw [Lib.cell_of_heap this]; rfl
  have hSD : (Builtin.unsafeSliceData_ #[105] 134 #[.slice none 0 0]).run Tryz.prog w.drew = .ok (.pointer none) w.drew := Lib.run_unsafeSliceData_nil _ _ _ _ _
  have hUS : (Builtin.unsafeString_ #[134, 3] 9 #[.pointer none, .int .i64 0]).run Tryz.prog w.drew = .ok (.string .empty) w.drew := Lib.run_unsafeString_none w.drew _ _ _ none
  have mixed : Tryz.prog.follows .mixedOrders = true := by kernel_rfl
  go_enter Tryz.func103, Tryz.ntmps103
  go_wp2
  go_region_o
  all_goals (go_wp2; go_ret; exact ⟨rfl, rfl⟩)
/-- Without a slice's block. -/
def Hp.drop (h : Hp) (s : Slc) : Hp := match s.a with
  | some z => h.del z.1
  | none => h
def ctString : Ct Tryz.prog where
  f := 103
  spec := fun args h φ => ∃ b used sl l, args = [.pointer (some ⟨b, 0, none⟩)] ∧ Bld h b used sl l ∧ φ (.string (B l)) (h.drop sl)
  ok := by
    rintro args h φ w ⟨b, used, sl, l, rfl, X, hφ⟩ hH
    have hw := hH b _ X.at_
    rcases X.own with ⟨h1, hx⟩ | ⟨g, o, h1, h2, h3, h4, h5, h6, h7⟩
    · subst h1
      have hl : l = [] := X.fit rfl
      subst hl
      refine (str_nil b _ w hw).mono ?_
      rintro e w' ⟨rfl, rfl⟩
      exact ⟨_, h, rfl, hφ, fun c o hc => hH c o hc, ⟨rfl, rfl, rfl, Nat.le_refl _, fun _ _ _ => rfl, fun _ _ hn => hn⟩⟩
    · have hl : l ≠ [] := X.pos (by rw [h1]; simp)
      have hg := hH g o h2
      have hn := X.n
      have hcells : bcs l = o.cs.take l.length := by rw [h7, hn, Nat.mul_one]
      obtain ⟨a, n, c⟩ := sl
      simp only at h1 hn h4 h5 h6
      subst h1 hn
      refine (str_row b g c _ o.cs.toArray l w hw (by rw [← h3]; exact hg) hl h5 h6 (by simp [h4]) (fun j x hj => ?_)).mono ?_
      · have hlt := (List.getElem?_eq_some_iff.1 hj).1
        have : (bcs l)[j]? = some (Value.int .u8 x.toNat) := by simp [bcs, hj]
        rw [hcells, List.getElem?_take, if_pos hlt] at this
        simpa using this
      · rintro e w' ⟨rfl, rfl⟩
        have hfz : ∀ k, k ≠ g → (w.drew.freeze ⟨g, 0, none⟩ l.length).heap[k]? = w.heap[k]? := fun k hk => by
          unfold World.freeze
          split
          · rfl
          · simp only [Array.getElem?_modify, if_neg hk.symm]; rfl
        have hφ' : φ (.string (B l)) (h.del g) := hφ
        refine ⟨_, h.del g, rfl, hφ', fun k o' hk => ?_, ⟨?_, ?_, ?_, ?_, fun k _ hk => ?_, fun k _ hk => ?_⟩⟩
        · have hkg : k ≠ g := fun e => by rw [e] at hk; simp [Hp.del] at hk
          rw [hfz k hkg]
          refine hH k o' ?_
          simp only [Hp.del, if_neg hkg] at hk
          exact hk
        · unfold World.freeze; split <;> rfl
        · unfold World.freeze; split <;> rfl
        · unfold World.freeze; split <;> rfl
        · unfold World.freeze; split
          · exact Nat.le_refl _
          · show w.heap.size ≤ (w.drew.heap.modify g _).size
            rw [Array.size_modify]; exact Nat.le_refl _
        · exact hfz k (fun e => by rw [e, h2] at hk; cases hk)
        · simp only [Hp.del]; split
          · rfl
          · exact hk
end Go.Proofs.YthlakehilhpojaaGreatDoor
namespace Go.Proofs.YthlakehilhpojaaGreatDoor
open Go.RowKit
attribute [local go_sem] says_tt says_ff th_need th_ite th_call th_callK th_load th_store th_mk th_new th_mks th_str says_ret says_again says_app BE.den IE.den SE.den LE.den AE.den CE.den PE.den VE.den KV.val Got.den Got.cnt exI allI exL allL Ctx.push Ctx.heap Ctx.cut Ctx.bare Ctx.mark Inc.blank List.getD_cons_zero List.getD_cons_succ List.cons_append List.nil_append List.append_nil List.map_cons List.map_nil List.replicate_zero List.replicate_succ specOf ltB_t leB_t ltB_f leB_f slc_val slc_nil slc_inj pt_val pt_nil hle_noHeap hle_refl hread_set hwrite_set set_same set_set noHeap_at B_inj ones_nil and_assoc
def fm_qdigit : Fm := (.ite (.and (.le (.c 65) (.x 0)) (.le (.x 0) (.c 70)))
  (.call (.c true) false 112 [(.one (.s (.c [48, 49, 50, 51, 52, 53, 54, 55, 56, 57, 97, 98, 99, 100, 101, 102]))), (.one (.i .u8 (.wr .u8 (.add (.x 0) (.c 32)))))] (.p (.one (.i .i64 (.x 1)))) ⟨1, 0, 0, 0, 0, 0⟩
  (.ret (.p (.one (.i .i64 (.x 1))))))
  (.call (.c true) false 112 [(.one (.s (.c [48, 49, 50, 51, 52, 53, 54, 55, 56, 57, 97, 98, 99, 100, 101, 102]))), (.one (.i .u8 (.x 0)))] (.p (.one (.i .i64 (.x 1)))) ⟨1, 0, 0, 0, 0, 0⟩
  (.ret (.p (.one (.i .i64 (.x 1)))))))
theorem gen_qdigit : genFn ⟨true, []⟩ Tryz.prog (fun l => ([] : List LAnn).getD l ⟨[], [], []⟩) Tryz.f105 = fm_qdigit := by kernel_rfl
theorem ps_qdigit : freshPs Tryz.prog .zero Tryz.f105.params.toList = some ([(.one (.i .u8 (.x 0)))], ⟨1, 0, 0, 0, 0, 0⟩) := by kernel_rfl
def fm_qread : Fm := (.need (.not (.eqS (.x 0) (.c []))) (.and (.le (.c 0) (.c 0)) (.lt (.c 0) (.len (.x 0))))
  (.ite (.or (.eqS (.x 0) (.c [])) (.not (.eqI (.at (.x 0) (.c 0)) (.c 34))))
  (.ret (.tup [(.one (.s (.c []))), (.one (.i .i64 (.c 0))), (.one (.b (.c false)))]))
  (.new [(.c .nilp), (.sl .nil)] 127
  (.loop 0 ⟨[(.c 0), (.c 1)], [(.c false)], [(.c [])], [], [], []⟩
  (.need (.not (.eqI (.x 1) (.len (.x 0)))) (.and (.le (.c 0) (.x 1)) (.lt (.x 1) (.len (.x 0))))
  (.need (.not (.or (.eqI (.x 1) (.len (.x 0))) (.lt (.at (.x 0) (.x 1)) (.c 32)))) (.and (.le (.c 0) (.x 1)) (.lt (.x 1) (.len (.x 0))))
  (.ite (.or (.or (.eqI (.x 1) (.len (.x 0))) (.lt (.at (.x 0) (.x 1)) (.c 32))) (.lt (.c 126) (.at (.x 0) (.x 1))))
  (.ret (.tup [(.one (.s (.c []))), (.one (.i .i64 (.x 1))), (.one (.b (.c false)))]))
  (.need (.c true) (.and (.le (.c 0) (.x 1)) (.lt (.x 1) (.len (.x 0))))
  (.ite (.eqI (.at (.x 0) (.x 1)) (.c 34))
  (.call (.c true) false 103 [(.one (.pt 0))] (.p (.one (.s (.x 2)))) ⟨0, 0, 1, 0, 0, 0⟩
  (.need (.c true) (.and (.le (.c (-9223372036854775808)) (.add (.x 1) (.c 1))) (.le (.add (.x 1) (.c 1)) (.c 9223372036854775807)))
  (.ret (.tup [(.one (.s (.x 2))), (.one (.i .i64 (.add (.x 1) (.c 1)))), (.one (.b (.c true)))]))))
  (.ite (.not (.eqI (.at (.x 0) (.x 1)) (.c 92)))
  (.call (.c true) false 104 [(.one (.pt 0)), (.one (.i .u8 (.at (.x 0) (.x 1))))] (.p (.one (.v 0))) ⟨0, 0, 0, 1, 0, 0⟩
  (.need (.c true) (.and (.le (.c (-9223372036854775808)) (.add (.x 1) (.c 1))) (.le (.add (.x 1) (.c 1)) (.c 9223372036854775807)))
  (.again 0 ⟨0, 0, 1, 0, 0, 1⟩ ⟨2, 1, 2, 0, 0, 1⟩ ⟨[(.x 0), (.add (.x 1) (.c 1))], [(.x 0)], [(.x 1)], [], [], []⟩)))
  (.need (.c true) (.and (.le (.c (-9223372036854775808)) (.add (.x 1) (.c 1))) (.le (.add (.x 1) (.c 1)) (.c 9223372036854775807)))
  (.ite (.eqI (.add (.x 1) (.c 1)) (.len (.x 0)))
  (.ret (.tup [(.one (.s (.c []))), (.one (.i .i64 (.add (.x 1) (.c 1)))), (.one (.b (.c false)))]))
  (.need (.c true) (.and (.le (.c 0) (.add (.x 1) (.c 1))) (.lt (.add (.x 1) (.c 1)) (.len (.x 0))))
  (.ite (.eqI (.at (.x 0) (.add (.x 1) (.c 1))) (.c 34))
  (.ite (.eqI (.at (.x 0) (.add (.x 1) (.c 1))) (.c 34))
  (.need (.c true) (.and (.le (.c 0) (.add (.x 1) (.c 1))) (.lt (.add (.x 1) (.c 1)) (.len (.x 0))))
  (.call (.c true) false 104 [(.one (.pt 0)), (.one (.i .u8 (.at (.x 0) (.add (.x 1) (.c 1)))))] (.p (.one (.v 0))) ⟨0, 0, 0, 1, 0, 0⟩
  (.need (.c true) (.and (.le (.c (-9223372036854775808)) (.add (.add (.x 1) (.c 1)) (.c 1))) (.le (.add (.add (.x 1) (.c 1)) (.c 1)) (.c 9223372036854775807)))
  (.again 0 ⟨0, 0, 1, 0, 0, 1⟩ ⟨2, 1, 2, 0, 0, 1⟩ ⟨[(.x 0), (.add (.add (.x 1) (.c 1)) (.c 1))], [(.x 0)], [(.x 1)], [], [], []⟩))))
  (.ite (.eqI (.at (.x 0) (.add (.x 1) (.c 1))) (.c 110))
  (.call (.c true) false 104 [(.one (.pt 0)), (.one (.i .u8 (.c 10)))] (.p (.one (.v 0))) ⟨0, 0, 0, 1, 0, 0⟩
  (.need (.c true) (.and (.le (.c (-9223372036854775808)) (.add (.add (.x 1) (.c 1)) (.c 1))) (.le (.add (.add (.x 1) (.c 1)) (.c 1)) (.c 9223372036854775807)))
  (.again 0 ⟨0, 0, 1, 0, 0, 1⟩ ⟨2, 1, 2, 0, 0, 1⟩ ⟨[(.x 0), (.add (.add (.x 1) (.c 1)) (.c 1))], [(.x 0)], [(.x 1)], [], [], []⟩)))
  (.ite (.eqI (.at (.x 0) (.add (.x 1) (.c 1))) (.c 116))
  (.call (.c true) false 104 [(.one (.pt 0)), (.one (.i .u8 (.c 9)))] (.p (.one (.v 0))) ⟨0, 0, 0, 1, 0, 0⟩
  (.need (.c true) (.and (.le (.c (-9223372036854775808)) (.add (.add (.x 1) (.c 1)) (.c 1))) (.le (.add (.add (.x 1) (.c 1)) (.c 1)) (.c 9223372036854775807)))
  (.again 0 ⟨0, 0, 1, 0, 0, 1⟩ ⟨2, 1, 2, 0, 0, 1⟩ ⟨[(.x 0), (.add (.add (.x 1) (.c 1)) (.c 1))], [(.x 0)], [(.x 1)], [], [], []⟩)))
  (.ite (.eqI (.at (.x 0) (.add (.x 1) (.c 1))) (.c 120))
  (.loop 1 ⟨[(.x 0), (.add (.x 1) (.c 1)), (.c 0), (.c 0)], [(.x 0)], [(.x 1)], [], [], []⟩
  (.ite (.lt (.x 5) (.c 2))
  (.need (.c true) (.and (.le (.c (-9223372036854775808)) (.add (.x 3) (.c 1))) (.le (.add (.x 3) (.c 1)) (.c 9223372036854775807)))
  (.need (.not (.eqI (.add (.x 3) (.c 1)) (.len (.x 0)))) (.and (.le (.c 0) (.add (.x 3) (.c 1))) (.lt (.add (.x 3) (.c 1)) (.len (.x 0))))
  (.call (.not (.eqI (.add (.x 3) (.c 1)) (.len (.x 0)))) false 105 [(.one (.i .u8 (.at (.x 0) (.add (.x 3) (.c 1)))))] (.p (.one (.i .i64 (.x 6)))) ⟨1, 0, 0, 0, 0, 0⟩
  (.ite (.or (.eqI (.add (.x 3) (.c 1)) (.len (.x 0))) (.lt (.x 6) (.c 0)))
  (.ret (.tup [(.one (.s (.c []))), (.one (.i .i64 (.add (.x 3) (.c 1)))), (.one (.b (.c false)))]))
  (.need (.c true) (.and (.le (.c (-9223372036854775808)) (.mul (.c 16) (.x 4))) (.le (.mul (.c 16) (.x 4)) (.c 9223372036854775807)))
  (.need (.c true) (.and (.le (.c 0) (.add (.x 3) (.c 1))) (.lt (.add (.x 3) (.c 1)) (.len (.x 0))))
  (.call (.c true) false 105 [(.one (.i .u8 (.at (.x 0) (.add (.x 3) (.c 1)))))] (.p (.one (.i .i64 (.x 7)))) ⟨1, 0, 0, 0, 0, 0⟩
  (.need (.c true) (.and (.le (.c (-9223372036854775808)) (.add (.mul (.c 16) (.x 4)) (.x 7))) (.le (.add (.mul (.c 16) (.x 4)) (.x 7)) (.c 9223372036854775807)))
  (.need (.c true) (.and (.le (.c (-9223372036854775808)) (.add (.x 5) (.c 1))) (.le (.add (.x 5) (.c 1)) (.c 9223372036854775807)))
  (.again 1 ⟨2, 1, 2, 0, 0, 1⟩ ⟨6, 2, 3, 0, 0, 1⟩ ⟨[(.x 2), (.add (.x 3) (.c 1)), (.add (.mul (.c 16) (.x 4)) (.x 7)), (.add (.x 5) (.c 1))], [(.x 1)], [(.x 2)], [], [], []⟩))))))))))
  (.call (.c true) false 104 [(.one (.pt 0)), (.one (.i .u8 (.wr .u8 (.x 4))))] (.p (.one (.v 0))) ⟨0, 0, 0, 1, 0, 0⟩
  (.need (.c true) (.and (.le (.c (-9223372036854775808)) (.add (.x 3) (.c 1))) (.le (.add (.x 3) (.c 1)) (.c 9223372036854775807)))
  (.again 0 ⟨0, 0, 1, 0, 0, 1⟩ ⟨2, 1, 2, 0, 0, 1⟩ ⟨[(.x 2), (.add (.x 3) (.c 1))], [(.x 1)], [(.x 2)], [], [], []⟩)))))
  (.ret (.tup [(.one (.s (.c []))), (.one (.i .i64 (.add (.x 1) (.c 1)))), (.one (.b (.c false)))]))))))
  (.ite (.eqI (.at (.x 0) (.add (.x 1) (.c 1))) (.c 92))
  (.need (.c true) (.and (.le (.c 0) (.add (.x 1) (.c 1))) (.lt (.add (.x 1) (.c 1)) (.len (.x 0))))
  (.call (.c true) false 104 [(.one (.pt 0)), (.one (.i .u8 (.at (.x 0) (.add (.x 1) (.c 1)))))] (.p (.one (.v 0))) ⟨0, 0, 0, 1, 0, 0⟩
  (.need (.c true) (.and (.le (.c (-9223372036854775808)) (.add (.add (.x 1) (.c 1)) (.c 1))) (.le (.add (.add (.x 1) (.c 1)) (.c 1)) (.c 9223372036854775807)))
  (.again 0 ⟨0, 0, 1, 0, 0, 1⟩ ⟨2, 1, 2, 0, 0, 1⟩ ⟨[(.x 0), (.add (.add (.x 1) (.c 1)) (.c 1))], [(.x 0)], [(.x 1)], [], [], []⟩))))
  (.ite (.eqI (.at (.x 0) (.add (.x 1) (.c 1))) (.c 110))
  (.call (.c true) false 104 [(.one (.pt 0)), (.one (.i .u8 (.c 10)))] (.p (.one (.v 0))) ⟨0, 0, 0, 1, 0, 0⟩
  (.need (.c true) (.and (.le (.c (-9223372036854775808)) (.add (.add (.x 1) (.c 1)) (.c 1))) (.le (.add (.add (.x 1) (.c 1)) (.c 1)) (.c 9223372036854775807)))
  (.again 0 ⟨0, 0, 1, 0, 0, 1⟩ ⟨2, 1, 2, 0, 0, 1⟩ ⟨[(.x 0), (.add (.add (.x 1) (.c 1)) (.c 1))], [(.x 0)], [(.x 1)], [], [], []⟩)))
  (.ite (.eqI (.at (.x 0) (.add (.x 1) (.c 1))) (.c 116))
  (.call (.c true) false 104 [(.one (.pt 0)), (.one (.i .u8 (.c 9)))] (.p (.one (.v 0))) ⟨0, 0, 0, 1, 0, 0⟩
  (.need (.c true) (.and (.le (.c (-9223372036854775808)) (.add (.add (.x 1) (.c 1)) (.c 1))) (.le (.add (.add (.x 1) (.c 1)) (.c 1)) (.c 9223372036854775807)))
  (.again 0 ⟨0, 0, 1, 0, 0, 1⟩ ⟨2, 1, 2, 0, 0, 1⟩ ⟨[(.x 0), (.add (.add (.x 1) (.c 1)) (.c 1))], [(.x 0)], [(.x 1)], [], [], []⟩)))
  (.ite (.eqI (.at (.x 0) (.add (.x 1) (.c 1))) (.c 120))
  (.loop 1 ⟨[(.x 0), (.add (.x 1) (.c 1)), (.c 0), (.c 0)], [(.x 0)], [(.x 1)], [], [], []⟩
  (.ite (.lt (.x 5) (.c 2))
  (.need (.c true) (.and (.le (.c (-9223372036854775808)) (.add (.x 3) (.c 1))) (.le (.add (.x 3) (.c 1)) (.c 9223372036854775807)))
  (.need (.not (.eqI (.add (.x 3) (.c 1)) (.len (.x 0)))) (.and (.le (.c 0) (.add (.x 3) (.c 1))) (.lt (.add (.x 3) (.c 1)) (.len (.x 0))))
  (.call (.not (.eqI (.add (.x 3) (.c 1)) (.len (.x 0)))) false 105 [(.one (.i .u8 (.at (.x 0) (.add (.x 3) (.c 1)))))] (.p (.one (.i .i64 (.x 6)))) ⟨1, 0, 0, 0, 0, 0⟩
  (.ite (.or (.eqI (.add (.x 3) (.c 1)) (.len (.x 0))) (.lt (.x 6) (.c 0)))
  (.ret (.tup [(.one (.s (.c []))), (.one (.i .i64 (.add (.x 3) (.c 1)))), (.one (.b (.c false)))]))
  (.need (.c true) (.and (.le (.c (-9223372036854775808)) (.mul (.c 16) (.x 4))) (.le (.mul (.c 16) (.x 4)) (.c 9223372036854775807)))
  (.need (.c true) (.and (.le (.c 0) (.add (.x 3) (.c 1))) (.lt (.add (.x 3) (.c 1)) (.len (.x 0))))
  (.call (.c true) false 105 [(.one (.i .u8 (.at (.x 0) (.add (.x 3) (.c 1)))))] (.p (.one (.i .i64 (.x 7)))) ⟨1, 0, 0, 0, 0, 0⟩
  (.need (.c true) (.and (.le (.c (-9223372036854775808)) (.add (.mul (.c 16) (.x 4)) (.x 7))) (.le (.add (.mul (.c 16) (.x 4)) (.x 7)) (.c 9223372036854775807)))
  (.need (.c true) (.and (.le (.c (-9223372036854775808)) (.add (.x 5) (.c 1))) (.le (.add (.x 5) (.c 1)) (.c 9223372036854775807)))
  (.again 1 ⟨2, 1, 2, 0, 0, 1⟩ ⟨6, 2, 3, 0, 0, 1⟩ ⟨[(.x 2), (.add (.x 3) (.c 1)), (.add (.mul (.c 16) (.x 4)) (.x 7)), (.add (.x 5) (.c 1))], [(.x 1)], [(.x 2)], [], [], []⟩))))))))))
  (.call (.c true) false 104 [(.one (.pt 0)), (.one (.i .u8 (.wr .u8 (.x 4))))] (.p (.one (.v 0))) ⟨0, 0, 0, 1, 0, 0⟩
  (.need (.c true) (.and (.le (.c (-9223372036854775808)) (.add (.x 3) (.c 1))) (.le (.add (.x 3) (.c 1)) (.c 9223372036854775807)))
  (.again 0 ⟨0, 0, 1, 0, 0, 1⟩ ⟨2, 1, 2, 0, 0, 1⟩ ⟨[(.x 2), (.add (.x 3) (.c 1))], [(.x 1)], [(.x 2)], [], [], []⟩)))))
  (.ret (.tup [(.one (.s (.c []))), (.one (.i .i64 (.add (.x 1) (.c 1)))), (.one (.b (.c false)))]))))))))))))))))))))
theorem gen_qread : genFn ⟨true, [5]⟩ Tryz.prog (fun l => ([⟨[2, 3, 4, 6], [16, 17, 18, 19, 20, 21, 22, 23, 24, 25, 26, 27, 28, 29, 30, 31, 32, 33, 34, 35, 7, 37, 38, 36, 39, 40, 41, 43, 44, 42, 45, 46, 47, 48, 49, 50, 51, 52, 53, 54, 55, 56, 57, 58, 61, 60, 62, 63, 64, 65, 66, 68, 67, 69, 71, 70, 72, 74, 73, 8, 75, 76, 77, 78, 79, 80, 81, 82, 83, 84, 85, 86, 87, 88, 89, 90, 91, 92, 93, 94, 95, 96, 97, 98, 99, 100, 101, 59, 102, 103], []⟩, ⟨[6, 2, 3, 4, 8, 75], [76, 77, 78, 79, 80, 81, 82, 83, 84, 85, 86, 87, 88, 89, 90, 91, 92, 93, 94, 95, 96, 97, 98], []⟩] : List LAnn).getD l ⟨[], [], []⟩) Tryz.f91 = fm_qread := by kernel_rfl
theorem ps_qread : freshPs Tryz.prog .zero Tryz.f91.params.toList = some ([(.one (.s (.x 0)))], ⟨0, 0, 1, 0, 0, 0⟩) := by kernel_rfl
def fm_qend : Fm := (.call (.c true) false 91 [(.one (.s (.x 0)))] (.tup [(.one (.s (.x 1))), (.one (.i .i64 (.x 0))), (.one (.b (.x 0)))]) ⟨1, 1, 1, 0, 0, 0⟩
  (.ret (.tup [(.one (.i .i64 (.x 0))), (.one (.b (.x 0)))])))
theorem gen_qend : genFn ⟨true, []⟩ Tryz.prog (fun l => ([] : List LAnn).getD l ⟨[], [], []⟩) Tryz.f73 = fm_qend := by kernel_rfl
theorem ps_qend : freshPs Tryz.prog .zero Tryz.f73.params.toList = some ([(.one (.s (.x 0)))], ⟨0, 0, 1, 0, 0, 0⟩) := by kernel_rfl
def fm_qunq : Fm := (.call (.c true) false 91 [(.one (.s (.x 0)))] (.tup [(.one (.s (.x 1))), (.one (.i .i64 (.x 0))), (.one (.b (.x 0)))]) ⟨1, 1, 1, 0, 0, 0⟩
  (.ite (.or (.not (.x 0)) (.not (.eqI (.x 0) (.len (.x 0)))))
  (.ret (.tup [(.one (.s (.c []))), (.one (.i .i64 (.c 2)))]))
  (.ret (.tup [(.one (.s (.x 1))), (.one (.i .i64 (.c 0)))]))))
theorem gen_qunq : genFn ⟨true, []⟩ Tryz.prog (fun l => ([] : List LAnn).getD l ⟨[], [], []⟩) Tryz.f74 = fm_qunq := by kernel_rfl
theorem ps_qunq : freshPs Tryz.prog .zero Tryz.f74.params.toList = some ([(.one (.s (.x 0)))], ⟨0, 0, 1, 0, 0, 0⟩) := by kernel_rfl
def fm_literal : Fm := (.load (.c true) (.pt 0 0) 1 [(.s (.x 1))] ⟨0, 0, 1, 0, 0, 0⟩
  (.load (.c true) (.pt 0 1) 1 [(.i .i64 (.x 4))] ⟨1, 0, 0, 0, 0, 0⟩
  (.need (.c true) (.nnp 0)
  (.need (.c true) (.nnp 0)
  (.need (.c true) (.nnp 0)
  (.need (.c true) (.nnp 0)
  (.need (.c true) (.and (.le (.c 0) (.x 4)) (.le (.x 4) (.len (.x 1))))
  (.callK (.c true) [((.c true), (.pt 0 0), 1), ((.c true), (.pt 0 1), 1)] 73 [(.one (.s (.sub (.x 1) (.x 4) (.len (.x 1)))))] (.tup [(.one (.i .i64 (.x 5))), (.one (.b (.x 0)))]) ⟨1, 1, 0, 0, 0, 0⟩
  (.ite (.not (.x 0))
  (.ret (.tup [(.agg [(.i .u8 (.c 0)), (.i .i64 (.c 0)), (.i .i64 (.c 0)), (.i .i64 (.c 0)), (.s (.c []))]), (.one (.i .i64 (.c 4)))]))
  (.load (.c true) (.pt 0 0) 1 [(.s (.x 2))] ⟨0, 0, 1, 0, 0, 0⟩
  (.load (.c true) (.pt 0 1) 1 [(.i .i64 (.x 6))] ⟨1, 0, 0, 0, 0, 0⟩
  (.load (.c true) (.pt 0 1) 1 [(.i .i64 (.x 7))] ⟨1, 0, 0, 0, 0, 0⟩
  (.need (.c true) (.nnp 0)
  (.need (.c true) (.nnp 0)
  (.need (.c true) (.nnp 0)
  (.need (.c true) (.nnp 0)
  (.need (.c true) (.nnp 0)
  (.need (.c true) (.nnp 0)
  (.need (.c true) (.and (.le (.c (-9223372036854775808)) (.add (.x 7) (.x 5))) (.le (.add (.x 7) (.x 5)) (.c 9223372036854775807)))
  (.need (.c true) (.and (.and (.le (.c 0) (.add (.x 7) (.x 5))) (.le (.add (.x 7) (.x 5)) (.len (.x 2)))) (.and (.le (.c 0) (.x 6)) (.le (.x 6) (.add (.x 7) (.x 5)))))
  (.callK (.c true) [((.c true), (.pt 0 0), 1), ((.c true), (.pt 0 1), 1), ((.c true), (.pt 0 1), 1)] 74 [(.one (.s (.sub (.x 2) (.x 6) (.add (.x 7) (.x 5)))))] (.tup [(.one (.s (.x 3))), (.one (.i .i64 (.x 8)))]) ⟨1, 0, 1, 0, 0, 0⟩
  (.call (.c true) false 66 [(.one (.pt 0)), (.one (.i .i64 (.x 5)))] (.tup []) ⟨0, 0, 0, 0, 0, 0⟩
  (.ret (.tup [(.agg [(.i .u8 (.c 5)), (.i .i64 (.x 1)), (.i .i64 (.x 2)), (.i .i64 (.x 3)), (.s (.x 3))]), (.one (.i .i64 (.x 8)))]))))))))))))))))))))))))
theorem gen_literal : genFn ⟨true, []⟩ Tryz.prog (fun l => ([] : List LAnn).getD l ⟨[], [], []⟩) Tryz.f44 = fm_literal := by kernel_rfl
theorem ps_literal : freshPs Tryz.prog .zero Tryz.f44.params.toList = some ([(.one (.pt 0)), (.agg [(.i .u8 (.x 0)), (.i .i64 (.x 1)), (.i .i64 (.x 2)), (.i .i64 (.x 3)), (.s (.x 0))])], ⟨4, 0, 1, 0, 0, 1⟩) := by kernel_rfl
def HD : List UInt8 := [48, 49, 50, 51, 52, 53, 54, 55, 56, 57, 97, 98, 99, 100, 101, 102]
def ctIndexByte : Ct Tryz.prog where
  f := 112
  spec := fun args h φ => ∃ s c, args = [.string (B s), .int .u8 c] ∧ φ (.int .i64 (Lib.indexByte s c.toNat.toUInt8)) h
  ok := by
    rintro args h φ w ⟨s, c, rfl, hφ⟩ hH
    exact ct_same (v := .int .i64 (Lib.indexByte s c.toNat.toUInt8)) ((Tryz.strings_IndexByte (B s) c w).mono fun e w' ⟨he, hw⟩ => ⟨he, hw.symm⟩) hφ hH
theorem hd_low (c : Int) (h0 : 0 ≤ c) (h1 : c ≤ 255) : Lib.indexByte HD c.toNat.toUInt8 = if 48 ≤ c ∧ c ≤ 57 then c - 48 else if 97 ≤ c ∧ c ≤ 102 then c - 87 else -1 := by
  have hall : ∀ n : Fin 256, Lib.indexByte HD n.val.toUInt8 = if 48 ≤ (n.val : Int) ∧ (n.val : Int) ≤ 57 then (n.val : Int) - 48 else if 97 ≤ (n.val : Int) ∧ (n.val : Int) ≤ 102 then (n.val : Int) - 87 else -1 := by decide +kernel
  have := hall ⟨c.toNat, by omega⟩
  simp only [Int.toNat_of_nonneg h0] at this
  exact this
def ctQDigit : Ct Tryz.prog where
  f := 105
  spec := fun args h φ => ∃ c : Int, args = [.int .u8 c] ∧ 0 ≤ c ∧ c ≤ 255 ∧ φ (.int .i64 (hx c)) h
  ok := by
    rintro args h φ w ⟨c, rfl, c0, c1, hφ⟩ hH
    refine by_fm Tryz.func105 gen_qdigit ps_qdigit [ctIndexByte] φ noInv noMeas ⟨[c], [], [], [], [], [], h, noM⟩ ⟨rfl, rfl, rfl, rfl, rfl, rfl⟩ ones_nil ?_ w hH rfl
    generalize hE : (⟨specOf _, _, _, _⟩ : Env) = E
    have s1 : E.spec 112 = ctIndexByte.spec := by rw [← hE]; rfl
    have ep : E.post = φ := by rw [← hE]
    clear hE
    unfold fm_qdigit
    rw [th_ite]
    by_cases hc : 65 ≤ c ∧ c ≤ 70
    · rw [if_pos (by simp [go_sem, hc.1, hc.2]), then_step, th_call, if_pos (by rfl), s1]
      have hw : IntKind.u8.wrap (c + 32) = c + 32 := by rw [IntKind.wrap_u8]; omega
      refine ⟨HD, c + 32, by simp [go_sem, hw, HD], ?_⟩
      rw [hd_low _ (by omega) (by omega), if_neg (by omega), if_pos (by omega)]
      have e : hx c = c + 32 - 87 := by
        unfold hx; rw [if_neg (by omega), if_neg (by omega), if_pos hc]; omega
      rw [← e]
      simp [go_sem]
      simp only [then_step]; simp [go_sem, ep, hφ]
    · rw [if_neg (by simp [go_sem]; omega), then_step, th_call, if_pos (by rfl), s1]
      refine ⟨HD, c, by simp [go_sem, HD], ?_⟩
      have e : hx c = if 48 ≤ c ∧ c ≤ 57 then c - 48 else if 97 ≤ c ∧ c ≤ 102 then c - 87 else -1 := by
        unfold hx; rw [if_neg hc]
      rw [hd_low _ c0 c1, ← e]
      simp [go_sem]
      simp only [then_step]; simp [go_sem, ep, hφ]
end Go.Proofs.YthlakehilhpojaaGreatDoor
namespace Go.Proofs.YthlakehilhpojaaGreatDoor
open Go.RowKit
attribute [local go_sem] says_tt says_ff th_need th_ite th_call th_callK th_load th_store th_mk th_new th_mks th_str says_ret says_again says_app BE.den IE.den SE.den LE.den AE.den CE.den PE.den VE.den KV.val Got.den Got.cnt exI allI exL allL Ctx.push Ctx.heap Ctx.cut Ctx.bare Ctx.mark Inc.blank List.getD_cons_zero List.getD_cons_succ List.cons_append List.nil_append List.append_nil List.map_cons List.map_nil List.replicate_zero List.replicate_succ specOf ltB_t leB_t ltB_f leB_f slc_val slc_nil slc_inj pt_val pt_nil hle_noHeap hle_refl hread_set hwrite_set set_same set_set noHeap_at B_inj ones_nil and_assoc
/-- What is known at a byte of a literal. -/
structure QI (h : Hp) (s : List UInt8) (b : Nat) (i : Nat) (used : Bool) (sl : Slc) (acc : List UInt8) (hh : Hp) : Prop where
  bld : Bld hh b used sl acc
  kept : HLe h hh
  nb : h b = none
  fresh : ∀ z, sl.a = some z → h z.1 = none
  lo : 1 ≤ i
  le : i ≤ s.length
  cnt : acc.length ≤ i
  all : ∃ m, s.length < m + i ∧ rdA s.length s 1 [] = rdA m s i acc
def qInv (h : Hp) (s : List UInt8) : Nat → Ctx → Prop
  | 0, C => ∃ x0 i y t b used sl acc hh, C = ⟨[x0, (i : Nat)], [y], [s, t], [], [], [some (b, 0)], hh, noM⟩ ∧ QI h s b i used sl acc hh
  | _ + 1, C => ∃ x0 i x2 j n k y y' t t' b used sl acc hh, C = ⟨[x0, (i : Nat), x2, (j : Nat), n, (k : Nat)], [y, y'], [s, t, t'], [], [], [some (b, 0)], hh, noM⟩ ∧ QI h s b i used sl acc hh ∧
    i + 1 < s.length ∧ bt s i = 92 ∧ bt s (i + 1) = 120 ∧ j = i + 1 + k ∧ ((k = 0 ∧ n = 0) ∨ (k = 1 ∧ i + 2 < s.length ∧ n = hx (bt s (i + 2)) ∧ 0 ≤ n) ∨ (k = 2 ∧ i + 3 < s.length ∧ n = 16 * hx (bt s (i + 2)) + hx (bt s (i + 3)) ∧ 0 ≤ hx (bt s (i + 2)) ∧ 0 ≤ hx (bt s (i + 3))))
def qMeas (s : List UInt8) : Nat → Ctx → Nat
  | 0, C => ((s.length : Int) - C.i.getD 1 0).toNat
  | _ + 1, C => (2 - C.i.getD 5 0).toNat
/-- A loop within another one: the names of outside stay. -/
theorem loop_in {E : Env} {o : Nat} {g : Got} {k : Fm} {C : Ctx} (h1 : E.inv o (C.push (g.den C)).bare)
    (h2 : ∀ (x : Inc) h M, x.cnt = g.cnt → E.inv o ((C.push x).heap h).bare → M o = E.meas o ((C.push x).heap h).bare → (∀ j, j ≠ o → M j = C.m j) → k.says E ⟨C.i ++ x.i, C.b ++ x.b, C.s ++ x.s, C.v ++ x.v, C.l ++ x.l, C.p ++ x.p, h, M⟩) : (Fm.loop o g k).says E C := by
  refine ⟨h1, (allI_iff _ _).2 fun x hx _ h hi => ?_⟩
  exact h2 x h (fun j => if j = o then E.meas o ((C.push x).heap h).bare else C.m j) hx hi (by simp) (fun j hj => by simp [hj])
theorem bt_bd (s : List UInt8) (i : Nat) : 0 ≤ bt s i ∧ bt s i ≤ 255 := by
  unfold bt
  have := (s.getD i 0).toNat_lt
  omega
/-- A byte more. -/
theorem QI.next {h : Hp} {s : List UInt8} {b i i' : Nat} {used : Bool} {sl : Slc} {acc : List UInt8} {hh : Hp} (Q : QI h s b i used sl acc hh) {x : UInt8} {sl' : Slc} {k : Hp} (h1 : Bld k b true sl' (acc ++ [x])) (h2 : ∀ c o, c ≠ b → (∀ z, sl.a = some z → z.1 ≠ c) → hh c = some o → k c = some o)
    (h3 : ∀ z, sl'.a = some z → (∃ y, sl.a = some y ∧ y.1 = z.1) ∨ hh z.1 = none) (hi : i < i') (hl : i' ≤ s.length) (hs : ∀ m, rdA (m + 1) s i acc = rdA m s i' (acc ++ [x])) : QI h s b i' true sl' (acc ++ [x]) k := by
  refine ⟨h1, fun c o hc => h2 c o (fun e => by rw [e, Q.nb] at hc; cases hc) (fun z hz e => by have := Q.fresh z hz; rw [e, hc] at this; cases this) (Q.kept c o hc), Q.nb, fun z hz => ?_, by have := Q.lo; omega, hl, by have := Q.cnt; simp; omega, ?_⟩
  · rcases h3 z hz with ⟨y, hy, e⟩ | hn
    · rw [← e]; exact Q.fresh y hy
    · cases hq : h z.1 with
      | none => rfl
      | some o => rw [Q.kept _ _ hq] at hn; cases hn
  · obtain ⟨m, hm, he⟩ := Q.all
    have hle := Q.le
    obtain ⟨m', rfl⟩ : ∃ m', m = m' + 1 := ⟨m - 1, by omega⟩
    exact ⟨m', by omega, by rw [he, hs]⟩
theorem QI.stop {h : Hp} {s : List UInt8} {b i : Nat} {used : Bool} {sl : Slc} {acc : List UInt8} {hh : Hp} (Q : QI h s b i used sl acc hh) {r : Option (List UInt8 × Nat)} (hs : ∀ m, rdA (m + 1) s i acc = r) : rdA s.length s 1 [] = r := by
  obtain ⟨m, hm, he⟩ := Q.all
  have hle := Q.le
  obtain ⟨m', rfl⟩ : ∃ m', m = m' + 1 := ⟨m - 1, by omega⟩
  rw [he, hs]
theorem hx_hi (b : Int) : hx b ≤ 15 := by
  unfold hx; split
  · omega
  · split
    · omega
    · split <;> omega
theorem ones1 {v : Value} (h : v.oneCell' = true) : Ones [v] := fun u hu => by simp at hu; subst hu; exact h
set_option maxRecDepth 100000 in
set_option maxHeartbeats 8000000 in
def ctRead : Ct Tryz.prog where
  f := 91
  spec := fun args h φ => ∃ s, args = [.string (B s)] ∧ s.length ≤ 100000 ∧
    (match rdq s with
      | some (t, e) => φ (.tuple #[.string (B t), .int .i64 (e : Nat), .bool true]) h
      | none => ∀ t n, φ (.tuple #[.string (B t), .int .i64 n, .bool false]) h)
  ok := by
    rintro args h φ w ⟨s, rfl, hlen, hφ⟩ hH
    refine ct_forget (by_fm Tryz.func91 gen_qread ps_qread [ctString, ctWriteByte, ctQDigit] (fun v k => ∃ k', HLe k' k ∧ φ v k') (qInv h s) (qMeas s) ⟨[], [], [s], [], [], [], h, noM⟩ ⟨rfl, rfl, rfl, rfl, rfl, rfl⟩ ones_nil ?_ w hH rfl)
    generalize hE : (⟨specOf _, _, _, _⟩ : Env) = E
    have s1 : E.spec 103 = ctString.spec := by rw [← hE]; rfl
    have s2 : E.spec 104 = ctWriteByte.spec := by rw [← hE]; rfl
    have s3 : E.spec 105 = ctQDigit.spec := by rw [← hE]; rfl
    have ep : E.post = fun v k => ∃ k', HLe k' k ∧ φ v k' := by rw [← hE]
    have ei : E.inv = qInv h s := by rw [← hE]
    have em : E.meas = qMeas s := by rw [← hE]
    clear hE
    unfold rdq at hφ
    have no : ∀ {hh}, HLe h hh → rdA s.length s 1 [] = none → ∀ t n, ∃ k', HLe k' hh ∧ φ (.tuple #[.string (B t), .int .i64 n, .bool false]) k' := fun hle hr t n => by
      refine ⟨h, hle, ?_⟩
      rw [hr] at hφ
      split at hφ
      · rename_i heq; split at heq <;> cases heq
      · exact hφ t n
    rw [← then_step]; unfold fm_qread
    by_cases hs0 : s = []
    · subst hs0
      rw [if_pos (.inl rfl)] at hφ
      iterate 3 (try simp only [then_step]; try simp [go_sem, ep])
      exact ⟨h, fun _ _ h => h, hφ _ _⟩
    have hpos : 0 < s.length := List.length_pos_iff.2 hs0
    by_cases h34 : bt s 0 = 34
    · rw [if_neg (by omega)] at hφ
      have wr : ∀ {hh used sl acc i b} (Q : QI h s b i used sl acc hh) (x : Int), 0 ≤ x → x ≤ 255 → ∀ {i'}, i < i' → i' ≤ s.length → (∀ m, rdA (m + 1) s i acc = rdA m s i' (acc ++ [ub x])) → ∀ ψ : Value → Hp → Prop,
          (∀ sl' k', QI h s b i' true sl' (acc ++ [ub x]) k' → ψ .nilIface k') → ctWriteByte.spec [.pointer (some ⟨b, 0, none⟩), .int .u8 x] hh ψ := by
        intro hh used sl acc i b Q x x0 x1 i' h1 h2 h3 ψ h4
        have := Q.cnt
        have := Q.le
        exact ⟨b, used, sl, acc, x, rfl, Q.bld, x0, x1, by omega, fun sl' k hB hf hr => h4 sl' k (Q.next hB hf hr h1 h2 h3)⟩
      iterate 2 (simp only [then_step]; simp [go_sem, hs0, h34])
      simp only [then_step, th_new]
      refine ⟨hpos, fun b hb => ?_⟩
      refine loop_intro ?_ ?_
      · rw [ei]
        refine ⟨0, 1, false, [], b, false, ⟨none, 0, 0⟩, [], h.set b ⟨bld b false ⟨none, 0, 0⟩, BT⟩, rfl, ⟨⟨set_same _ _ _, .inl ⟨rfl, rfl⟩, rfl, fun _ hz => (by cases hz), fun _ => rfl, fun hz => absurd rfl hz⟩, hle_set hb _, hb, fun _ hz => (by cases hz), Nat.le_refl _, hpos, Nat.zero_le _, s.length, by omega, rfl⟩⟩
      · rw [ei, em]
        rintro i' bb ss v ll pp hh0 M ⟨x0, i, y, t, b', used, sl, acc, hh, hC, Q⟩ hM
        cases hC
        have hM' : M 0 = ((s.length : Int) - i).toNat := hM
        clear hM hb
        have hile := Q.le
        have hibd := bt_bd s i
        rw [← then_step]
        by_cases hil : i = s.length
        · have hz : (i : Int) = s.length := by omega
          iterate 5 (try simp only [then_step]; try simp [go_sem, ep, hz])
          exact no Q.kept (Q.stop fun m => by rw [rdA, if_pos (.inl (by omega))]) _ _
        have hlt : i < s.length := by omega
        have hz : ¬ (i : Int) = s.length := by omega
        have hz2 : (i : Int) < s.length := by omega
        by_cases hpr : bt s i < 32 ∨ 126 < bt s i
        · iterate 4 (try simp only [then_step]; try simp [go_sem, ep, hz, hz2, hpr])
          exact no Q.kept (Q.stop fun m => by rw [rdA, if_pos (.inr hpr)]) _ _
        have p1 : ¬ bt s i < 32 := by omega
        have p2 : ¬ 126 < bt s i := by omega
        by_cases q34 : bt s i = 34
        · iterate 6 (try simp only [then_step]; try simp [go_sem, hz, hz2, q34])
          have hr : rdA s.length s 1 [] = some (acc, i + 1) := Q.stop fun m => by rw [rdA, if_neg (by omega), if_pos q34]
          rw [hr] at hφ
          rw [s1]
          refine ⟨b', used, sl, acc, rfl, Q.bld, ?_⟩
          refine ⟨acc, rfl, ?_⟩
          have hd : HLe h (hh0.drop sl) := fun c o hc => by
            have h1 := Q.kept c o hc
            unfold Hp.drop
            cases hsa : sl.a with
            | none => exact h1
            | some z =>
              simp only [Hp.del]
              rw [if_neg (fun e => by have := Q.fresh z hsa; rw [← e, hc] at this; cases this)]
              exact h1
          iterate 3 (try simp only [then_step]; try simp [go_sem, ep])
          refine ⟨by omega, by omega, h, hd, ?_⟩
          simpa using hφ
        by_cases q92 : bt s i = 92
        · have e1 : ((i : Int) + 1).toNat = i + 1 := by omega
          have hibd1 := bt_bd s (i + 1)
          by_cases hi1 : i + 1 = s.length
          · have hz1 : (i : Int) + 1 = s.length := by omega
            iterate 12 (try simp only [then_step]; try simp [go_sem, ep, hz, hz2, q92, hz1])
            exact ⟨by omega, no Q.kept (Q.stop fun m => by rw [rdA, if_neg (by omega), if_neg q34, if_neg (fun h => h q92), if_pos (by omega)]) _ _⟩
          have hz1 : ¬ (i : Int) + 1 = s.length := by omega
          have hz3 : (i : Int) + 1 < s.length := by omega
          have fin2 : ∀ {sl' k' acc'}, QI h s b' (i + 2) true sl' acc' k' → E.inv 0 ⟨[x0, ↑i + 1 + 1], [y], [s, t], [], [], [some (b', 0)], k', noM⟩ ∧ E.meas 0 ⟨[x0, ↑i + 1 + 1], [y], [s, t], [], [], [some (b', 0)], k', noM⟩ < M 0 := by
            intro sl' k' acc' Q'
            rw [ei, em]
            refine ⟨⟨x0, i + 2, y, t, b', true, sl', acc', k', by rw [show ((i + 2 : Nat) : Int) = (i : Int) + 1 + 1 by omega], Q'⟩, ?_⟩
            simp only [qMeas, List.getD_cons_succ, List.getD_cons_zero]
            omega
          by_cases c34 : bt s (i + 1) = 34
          · iterate 18 (try simp only [then_step]; try simp [go_sem, hz, hz1, hz3, hz2, q92, e1, c34])
            refine ⟨by omega, by omega, by omega, ?_⟩
            rw [s2]
            exact wr Q 34 (by omega) (by omega) (i' := i + 2) (by omega) (by omega) (fun m => by rw [rdA, if_neg (by omega), if_neg q34, if_neg (fun h => h q92), if_neg (by omega), if_pos (.inl c34), c34]) _ (fun sl' k' Q' => ⟨.nilIface, ones1 rfl, rfl, by omega, by omega, fin2 Q'⟩)
          by_cases c92 : bt s (i + 1) = 92
          · iterate 18 (try simp only [then_step]; try simp [go_sem, hz, hz1, hz3, hz2, q92, e1, c92])
            refine ⟨by omega, by omega, by omega, ?_⟩
            rw [s2]
            exact wr Q 92 (by omega) (by omega) (i' := i + 2) (by omega) (by omega) (fun m => by rw [rdA, if_neg (by omega), if_neg q34, if_neg (fun h => h q92), if_neg (by omega), if_pos (.inr c92), c92]) _ (fun sl' k' Q' => ⟨.nilIface, ones1 rfl, rfl, by omega, by omega, fin2 Q'⟩)
          by_cases c110 : bt s (i + 1) = 110
          · iterate 18 (try simp only [then_step]; try simp [go_sem, hz, hz1, hz3, hz2, q92, e1, c110])
            refine ⟨by omega, by omega, by omega, ?_⟩
            rw [s2]
            exact wr Q 10 (by omega) (by omega) (i' := i + 2) (by omega) (by omega) (fun m => by rw [rdA, if_neg (by omega), if_neg q34, if_neg (fun h => h q92), if_neg (by omega), if_neg (by omega), if_pos c110]; rfl) _ (fun sl' k' Q' => ⟨.nilIface, ones1 rfl, rfl, by omega, by omega, fin2 Q'⟩)
          by_cases c116 : bt s (i + 1) = 116
          · iterate 18 (try simp only [then_step]; try simp [go_sem, hz, hz1, hz3, hz2, q92, e1, c116])
            refine ⟨by omega, by omega, by omega, ?_⟩
            rw [s2]
            exact wr Q 9 (by omega) (by omega) (i' := i + 2) (by omega) (by omega) (fun m => by rw [rdA, if_neg (by omega), if_neg q34, if_neg (fun h => h q92), if_neg (by omega), if_neg (by omega), if_neg c110, if_pos c116]; rfl) _ (fun sl' k' Q' => ⟨.nilIface, ones1 rfl, rfl, by omega, by omega, fin2 Q'⟩)
          by_cases c120 : bt s (i + 1) = 120
          · iterate 18 (try simp only [then_step]; try simp [go_sem, hz, hz1, hz3, hz2, q92, e1, c120])
            refine ⟨by omega, by omega, by omega, ?_⟩
            refine loop_in ?_ ?_
            · rw [ei]
              exact ⟨x0, i, x0, i + 1, 0, 0, y, y, t, t, b', used, sl, acc, hh0, by simp [go_sem, Ctx.bare, Got.den], Q, by omega, q92, c120, rfl, .inl ⟨rfl, rfl⟩⟩
            · rintro ⟨xi, xb, xs, xv, xl, xp⟩ h' M' hc hinv hm hM1
              rw [ei] at hinv
              rw [em] at hm
              obtain ⟨x0', i2, x2, j, n, k, y1, y2, t1, t2, b2, used2, sl2, acc2, hh2, hC, Q2, a1, a2, a3, a4, a5⟩ := hinv
              simp [Ctx.push, Ctx.heap, Ctx.bare] at hC
              obtain ⟨⟨rfl, hii, rfl⟩, ⟨rfl, rfl⟩, ⟨rfl, rfl⟩, rfl, rfl, ⟨rfl, rfl⟩, rfl⟩ := hC
              obtain rfl : i2 = i := by omega
              have hm' : M' 1 = ((2 : Int) - k).toNat := hm
              have hM0 : M' 0 = M 0 := hM1 0 (by decide)
              clear hm hM1 hc
              have hno : ¬ (i2 + 3 < s.length ∧ 0 ≤ hx (bt s (i2 + 2)) ∧ 0 ≤ hx (bt s (i2 + 3))) → rdA s.length s 1 [] = none := fun hn => Q2.stop fun m => by
                rw [rdA, if_neg (by omega), if_neg q34, if_neg (fun h => h q92), if_neg (by omega), if_neg (by omega), if_neg (by omega), if_neg (by omega), if_pos c120, if_neg hn]
              have e2 : ((j : Int) + 1).toNat = j + 1 := by omega
              have hjd := bt_bd s (j + 1)
              have hx15 := hx_hi (bt s (i2 + 2))
              have hx16 := hx_hi (bt s (i2 + 3))
              have hx17 := hx_hi (bt s (j + 1))
              rw [← then_step]
              by_cases hk : k < 2
              · have hkz : (k : Int) < 2 := by omega
                have hjj : j + 1 = i2 + 2 ∨ j + 1 = i2 + 3 := by omega
                by_cases hjl : j + 1 = s.length
                · have hjz : (j : Int) + 1 = s.length := by omega
                  iterate 12 (try simp only [then_step]; try simp [go_sem, ep, hkz, hjz])
                  exact ⟨by omega, no Q2.kept (hno (by omega)) _ _⟩
                have hjz : ¬ (j : Int) + 1 = s.length := by omega
                have hjz3 : (j : Int) + 1 < s.length := by omega
                by_cases hneg : hx (bt s (j + 1)) < 0
                · iterate 12 (try simp only [then_step]; try simp [go_sem, ep, s3, ctQDigit, hkz, hjz, hjz3, e2, hjd.1, hjd.2, hneg])
                  exact ⟨by omega, by omega, by omega, no Q2.kept (hno (by
                    rintro ⟨_, g1, g2⟩
                    rcases hjj with e | e <;> rw [e] at hneg <;> omega)) _ _⟩
                · iterate 12 (try simp only [then_step]; try simp [go_sem, s3, ctQDigit, hkz, hjz, hjz3, e2, hjd.1, hjd.2, hneg])
                  refine ⟨by omega, by omega, by omega, by omega, by omega, by omega, by omega, by omega, by omega, by omega, ?_, ?_⟩
                  · rw [ei]
                    refine ⟨x0, i2, x2, j + 1, 16 * n + hx (bt s (j + 1)), k + 1, y, y2, t, t2, b', used2, sl2, acc2, h', by simp, Q2, a1, q92, c120, by omega, ?_⟩
                    rcases a5 with ⟨g1, g2⟩ | ⟨g1, g2, g3, g4⟩ | ⟨g1, _⟩
                    · have e : j + 1 = i2 + 2 := by omega
                      rw [e] at hneg ⊢
                      exact .inr (.inl ⟨by omega, by omega, by omega, by omega⟩)
                    · have e : j + 1 = i2 + 3 := by omega
                      rw [e] at hneg ⊢
                      exact .inr (.inr ⟨by omega, by omega, by rw [g3], by omega, by omega⟩)
                    · omega
                  · rw [em]
                    simp only [qMeas, List.getD_cons_succ, List.getD_cons_zero]
                    omega
              · have hkz : ¬ (k : Int) < 2 := by omega
                have hw : IntKind.u8.wrap n = n := by rw [IntKind.wrap_u8]; omega
                iterate 12 (try simp only [then_step]; try simp [go_sem, hkz, hw])
                obtain ⟨g1, g2, g3, g4, g5⟩ : k = 2 ∧ i2 + 3 < s.length ∧ n = 16 * hx (bt s (i2 + 2)) + hx (bt s (i2 + 3)) ∧ 0 ≤ hx (bt s (i2 + 2)) ∧ 0 ≤ hx (bt s (i2 + 3)) := by
                  rcases a5 with ⟨g1, _⟩ | ⟨g1, _⟩ | g
                  · omega
                  · omega
                  · exact g
                rw [s2]
                refine wr Q2 n (by omega) (by omega) (i' := i2 + 4) (by omega) (by omega) (fun m => by
                  rw [rdA, if_neg (by omega), if_neg q34, if_neg (fun h => h q92), if_neg (by omega), if_neg (by omega), if_neg (by omega), if_neg (by omega), if_pos c120, if_pos ⟨g2, g4, g5⟩, g3]) _ (fun sl' k' Q' => ⟨.nilIface, ones1 rfl, rfl, by omega, by omega, ?_, ?_⟩)
                · rw [ei]
                  exact ⟨x2, i2 + 4, y2, t2, b', true, sl', _, k', by rw [show ((i2 + 4 : Nat) : Int) = (j : Int) + 1 by omega], Q'⟩
                · rw [em]
                  simp only [qMeas, List.getD_cons_succ, List.getD_cons_zero]
                  omega
          · have co : bt s (i + 1) ≠ 34 ∧ bt s (i + 1) ≠ 92 := ⟨c34, c92⟩
            iterate 18 (try simp only [then_step]; try simp [go_sem, ep, hz, hz1, hz3, hz2, q92, e1, c34, c92, c110, c116, c120])
            refine ⟨by omega, by omega, by omega, ?_⟩
            exact no Q.kept (Q.stop fun m => by rw [rdA, if_neg (by omega), if_neg q34, if_neg (fun h => h q92), if_neg (by omega), if_neg (by omega), if_neg c110, if_neg c116, if_neg c120]) _ _
        · iterate 7 (try simp only [then_step]; try simp [go_sem, hz, hz2, p1, p2, q34, q92])
          rw [s2]
          refine wr Q (bt s i) hibd.1 hibd.2 (Nat.lt_succ_self i) (by omega) (fun m => by rw [rdA, if_neg (by omega), if_neg q34, if_pos q92]) _ (fun sl' k' Q' => ?_)
          refine ⟨.nilIface, fun u hu => by simp at hu; subst hu; rfl, rfl, ?_⟩
          iterate 2 (try simp only [then_step]; try simp [go_sem, ei, em])
          refine ⟨by omega, by omega, ⟨x0, i + 1, y, t, b', true, sl', _, k', by simp, Q'⟩, ?_⟩
          simp only [qMeas, List.getD_cons_succ, List.getD_cons_zero]
          omega
    · rw [if_pos (.inr h34)] at hφ
      iterate 3 (try simp only [then_step]; try simp [go_sem, ep, hs0, h34])
      refine ⟨by omega, h, fun _ _ h => h, hφ _ _⟩
end Go.Proofs.YthlakehilhpojaaGreatDoor
namespace Go.Proofs.YthlakehilhpojaaGreatDoor
open Go.RowKit
attribute [local go_sem] says_tt says_ff th_need th_ite th_call th_callK th_load th_store th_mk th_new th_mks th_str says_ret says_again says_app BE.den IE.den SE.den LE.den AE.den CE.den PE.den VE.den KV.val Got.den Got.cnt exI allI exL allL Ctx.push Ctx.heap Ctx.cut Ctx.bare Ctx.mark Inc.blank List.getD_cons_zero List.getD_cons_succ List.cons_append List.nil_append List.append_nil List.map_cons List.map_nil List.replicate_zero List.replicate_succ specOf ltB_t leB_t ltB_f leB_f slc_val slc_nil slc_inj pt_val pt_nil hle_noHeap hle_refl hread_set hwrite_set set_same set_set noHeap_at B_inj ones_nil and_assoc
theorem sm34 : smB 34 = false := by decide
theorem gr34 : grB 34 = false := by decide
theorem dg34 : dgB 34 = false := by decide
set_option maxRecDepth 100000 in
set_option maxHeartbeats 8000000 in
/-- All tokens, where literals are known. -/
theorem tokens_ok (cl : Ct Tryz.prog) (hcl : cl.f = 44) (good : List UInt8 → Prop)
    (hl : ∀ (b : Nat) (k l c n : Int) (x s : List UInt8) (a : Nat) (L Co : Int) (T : TypeId) (h : Hp) (φ : Value → Hp → Prop), good s → h b = some ⟨rc s a L Co, T⟩ → a < s.length → bt s a = 34 → s.length ≤ 100000 → 0 ≤ Co → Co ≤ 500000 →
      (match rdq (s.drop a) with
        | some (t, m) => φ (.tuple #[tkv 5 l c n t, .int .i64 0]) (Hp.set h b ⟨rc s (a + m : Nat) L (Co + m), T⟩)
        | none => φ (.tuple #[tkv 0 0 0 0 [], .int .i64 4]) h) → cl.spec [.pointer (some ⟨b, 0, none⟩), tkv k l c n x] h φ)
    (s : List UInt8) (hg : good s) (h : Hp) (φ : Value → Hp → Prop) (w : World)
    (hφ : if 65536 < s.length then φ (.tuple #[.slice none 0 0, .agg #[.int .i64 3, .int .i64 0, .int .i64 0]]) h
      else if (lexAll s).1.1 = 0 then ∀ sl k, HLe h k → OwnS k sl (tcs (lexAll s).2) TK 5 → sl.n = (lexAll s).2.length → φ (.tuple #[sl.val, .agg #[.int .i64 0, .int .i64 0, .int .i64 0]]) k
      else φ (.tuple #[.slice none 0 0, .agg #[.int .i64 (lexAll s).1.1, .int .i64 (lexAll s).1.2.1, .int .i64 (lexAll s).1.2.2]]) h) (hH : Holds h w) :
    Calls Tryz.prog 17 #[.string (B s)] w fun e w' => ∃ v k, e = .returned v ∧ φ v k ∧ Holds k w' ∧ Fr w.heap.size h k w w' := by
  refine ct_forget (by_fm Tryz.func17 gen_tokens ps_tokens [ctSkip, ctSmall, ctGreat, ctName, ctDigit, ctNumber, cl, ctSign] (fun v k => ∃ k', HLe k' k ∧ φ v k') (tkInv h s) (fun _ C => (s.length - atOf C.h (rbOf C)).toNat) ⟨[], [], [s], [], [], [], h, noM⟩ ⟨rfl, rfl, rfl, rfl, rfl, rfl⟩ ones_nil ?_ w hH rfl)
  generalize hE : (⟨specOf _, _, _, _⟩ : Env) = E
  have s1 : E.spec 38 = ctSkip.spec := by rw [← hE]; rfl
  have s2 : E.spec 39 = ctSmall.spec := by rw [← hE]; rfl
  have s3 : E.spec 40 = ctGreat.spec := by rw [← hE]; rfl
  have s4 : E.spec 41 = ctName.spec := by rw [← hE]; rfl
  have s5 : E.spec 42 = ctDigit.spec := by rw [← hE]; rfl
  have s6 : E.spec 43 = ctNumber.spec := by rw [← hE]; rfl
  have s7 : E.spec 44 = cl.spec := by
    rw [← hE]; funext a h φ
    simp [specOf, hcl, ctSkip, ctSmall, ctGreat, ctName, ctDigit, ctNumber]
  have s8 : E.spec 45 = ctSign.spec := by
    rw [← hE]; funext a h φ
    simp [specOf, hcl, ctSkip, ctSmall, ctGreat, ctName, ctDigit, ctNumber, ctSign]
  have ep : E.post = fun v k => ∃ k', HLe k' k ∧ φ v k' := by rw [← hE]
  have ei : E.inv = tkInv h s := by rw [← hE]
  have em : E.meas = fun _ C => (s.length - atOf C.h (rbOf C)).toNat := by rw [← hE]
  clear hE
  rw [← then_step]; unfold fm_tokens
  simp only [then_step, th_ite]
  by_cases hlen : 65536 < s.length
  · rw [if_pos hlen] at hφ
    have h2 : (65536 : Int) < s.length := by omega
    simp [go_sem, h2, ep]
    exact ⟨_, (fun _ _ h => h), hφ⟩
  · rw [if_neg hlen] at hφ
    have h2 : ¬ (65536 : Int) < s.length := by omega
    simp [go_sem, h2]
    try simp only [then_step]
    try simp only [th_new]
    intro rb hrb
    try simp only [then_step]
    refine loop_intro ?_ ?_
    · rw [ei]
      refine ⟨0, 0, 0, ⟨none, 0, 0⟩, ⟨none, 0, 0⟩, rb, 0, s.length + 1, [], h, rfl, ⟨by omega, by omega, Nat.le_refl _, rfl, .inl ⟨rfl, rfl⟩, rfl, (fun z hz => by cases hz), (fun _ _ h => h), hrb⟩⟩
    · rw [ei, em]
      rintro i' bb ss v ll pp hh0 M ⟨x0, x1, x2, l0, sl, rb', i, m, acc, hh, hC, I⟩ hM
      cases hC
      simp only [rbOf, List.getD_cons_zero, Option.getD_some, atOf_set] at hM
      have hile := I.le
      have hifu := I.fuel
      obtain ⟨j, hj⟩ : ∃ j, j = i + ski false s i := ⟨_, rfl⟩
      have hjl : j ≤ s.length := hj ▸ ski_le false I.le
      have hij : i ≤ j := by omega
      have hpj : adv (pl s i) (sub s i j) = pl s j := pl_add hij hjl
      have bi := pl_bd I.le
      have bj := pl_bd hjl
      rw [th_call, if_pos (by rfl), s1]
      refine ⟨rb', s, i, pl s i, RD, rfl, set_same _ _ _, I.le, by omega, by omega, by omega, by omega, by omega, ?_⟩
      rw [← hj, hpj]
      simp [go_sem]
      generalize hLc : pl s j = q at *
      obtain ⟨L, Co⟩ := q
      simp only at bj ⊢
      iterate 9 (simp only [then_step]; simp [go_sem, rc])
      obtain ⟨m', rfl⟩ : ∃ m', m = m' + 1 := ⟨m - 1, by omega⟩
      have hall := I.all
      rw [lexA, ← hj, hpj] at hall
      by_cases hje : j = s.length
      · have hz : (j : Int) = s.length := by omega
        rw [if_pos (by omega)] at hall
        rw [hall, if_pos rfl] at hφ
        simp only [then_step, th_ite]
        simp [go_sem, hz]
        intro b hb
        rw [then_step]
        refine tk_app (cs := (Tok.mk 8 L Co 0 []).cs) I (by omega) (b := b) hb rfl (Tok.ones _) rfl rfl rfl ?_
        intro s' k' h1 h2 h3 h4
        obtain ⟨e1, e2, e3⟩ := tk_more I hb h3 h4
        rw [says_ret, ep]
        exact ⟨k', fun _ _ h => h, hφ s' k' e2 (by rw [tcs_app, tcs_one]; exact h1) (by rw [h2, I.n]; simp)⟩
      · have hz : ¬ (j : Int) = s.length := by omega
        have hjlt : j < s.length := by omega
        have hjz : (j : Int) < s.length := by omega
        rw [if_neg (by omega)] at hall
        have hbad : (one s j).f ≠ 0 → ∃ k', HLe k' (hh.set rb' ⟨[.string (B s), .int .i64 j, .int .i64 L, .int .i64 Co], RD⟩) ∧ φ (.tuple #[.slice none 0 0, .agg #[.int .i64 (one s j).f, .int .i64 L, .int .i64 Co]]) k' := by
          intro hf
          rw [if_neg hf] at hall
          rw [hall, if_neg hf] at hφ
          refine ⟨h, fun c o hc => ?_, hφ⟩
          rw [set_ne _ (fun e => by rw [e, I.nrb] at hc; cases hc)]
          exact I.kept c o hc
        have hpt : (one s j).f = 0 → pl s (one s j).e = (L, Co + ((one s j).e : Int) - j) := fun hf => by rw [pl_tok hjlt hf, hLc]
        have hH1 : ∀ v, (hh.set rb' ⟨[.string (B s), .int .i64 j, .int .i64 L, .int .i64 Co], v⟩) rb' = some ⟨rc s j L Co, v⟩ := fun v => by rw [set_same]; rfl
        have e1 : smB (bt s j) = decide (kdi (bt s j) = 1) := rfl
        have e2 : grB (bt s j) = decide (kdi (bt s j) = 2) := rfl
        have e3 : dgB (bt s j) = decide (kdi (bt s j) = 3) := rfl
        have hk5 : smB (bt s j) = true ∨ (smB (bt s j) = false ∧ grB (bt s j) = true) ∨ (smB (bt s j) = false ∧ grB (bt s j) = false ∧ dgB (bt s j) = true) ∨ (smB (bt s j) = false ∧ grB (bt s j) = false ∧ dgB (bt s j) = false ∧ bt s j = 34) ∨ (smB (bt s j) = false ∧ grB (bt s j) = false ∧ dgB (bt s j) = false ∧ bt s j ≠ 34) := by
          cases smB (bt s j) <;> cases grB (bt s j) <;> cases dgB (bt s j) <;> simp <;> omega
        simp only [then_step, th_ite]
        simp [go_sem, hz]
        rcases hk5 with h1 | ⟨h1, h1'⟩ | ⟨h1, h1', h1''⟩ | ⟨h1, h1', h1'', h34⟩ | ⟨h1, h1', h1'', h34⟩
        · iterate 7 (try simp only [then_step]; try simp [go_sem, s2, ctSmall, hjz, h1])
          have hin : inB (bt s j) = true := by
            rw [inB, decide_eq_true_eq]
            simp only [e1, decide_eq_true_eq] at h1
            omega
          have hone : one s j = ⟨0, nameK (bt s j) (sub s j (j + rn inB s j)), sub s j (j + rn inB s j), 0, j + rn inB s j⟩ := by
            unfold one
            rw [if_pos (by simp only [e1, decide_eq_true_eq] at h1; omega)]
          have hf : (one s j).f = 0 := by rw [hone]
          rw [s4]
          refine ⟨rb', 0, L, Co, 0, [], s, j, L, Co, RD, rfl, hH1 RD, by omega, hjz, by omega, by omega, by omega, by rw [Int.toNat_natCast]; exact hin, ?_⟩
          rw [Int.toNat_natCast]
          refine ⟨_, _, _, _, _, rfl, ?_⟩
          rw [then_step, th_ite, if_pos (by rfl), then_step, set_set]
          exact tk_push I (by omega) ei em hj hjlt hf (by rw [hone]; simp) (by rw [hpt hf]) (by rw [hpt hf, hone]; simp; omega) hM (by rw [hone, hLc]; rfl)
        · iterate 7 (try simp only [then_step]; try simp [go_sem, s2, s3, ctSmall, ctGreat, hjz, h1, h1'])
          have hin : inB (bt s j) = true := by
            rw [inB, decide_eq_true_eq]
            simp only [e1, e2, decide_eq_true_eq] at h1 h1'
            omega
          have hone : one s j = ⟨0, nameK (bt s j) (sub s j (j + rn inB s j)), sub s j (j + rn inB s j), 0, j + rn inB s j⟩ := by
            unfold one
            rw [if_pos (by simp only [e1, e2, decide_eq_true_eq] at h1 h1'; omega)]
          have hf : (one s j).f = 0 := by rw [hone]
          rw [s4]
          refine ⟨rb', 0, L, Co, 0, [], s, j, L, Co, RD, rfl, hH1 RD, by omega, hjz, by omega, by omega, by omega, by rw [Int.toNat_natCast]; exact hin, ?_⟩
          rw [Int.toNat_natCast]
          refine ⟨_, _, _, _, _, rfl, ?_⟩
          rw [then_step, th_ite, if_pos (by rfl), then_step, set_set]
          exact tk_push I (by omega) ei em hj hjlt hf (by rw [hone]; simp) (by rw [hpt hf]) (by rw [hpt hf, hone]; simp; omega) hM (by rw [hone, hLc]; rfl)
        · iterate 9 (try simp only [then_step]; try simp [go_sem, s2, s3, s5, ctSmall, ctGreat, ctDigit, hjz, h1, h1', h1''])
          have hk : ¬ (kdi (bt s j) = 1 ∨ kdi (bt s j) = 2) := by
            simp only [e1, e2, decide_eq_false_iff_not] at h1 h1'
            omega
          have hone : one s j = ⟨(nm s j).1, (nm s j).2.1, [], (nm s j).2.2.1, (nm s j).2.2.2⟩ := by
            unfold one
            rw [if_neg hk, if_pos (by simpa [e3] using h1'')]
          rw [s6]
          refine ⟨rb', 0, L, Co, 0, [], s, j, L, Co, RD, rfl, hH1 RD, by omega, hjz, by omega, by omega, by omega, by rw [Int.toNat_natCast]; exact h1'', ?_⟩
          rw [Int.toNat_natCast]
          by_cases hn : (nm s j).1 = 0
          · rw [if_pos hn]
            have hf : (one s j).f = 0 := by rw [hone]; exact hn
            refine ⟨_, _, _, _, _, _, rfl, ?_⟩
            rw [then_step, th_ite, if_pos (by rfl), then_step, set_set]
            exact tk_push I (by omega) ei em hj hjlt hf (by rw [hone]) (by rw [hpt hf]) (by rw [hpt hf, hone]) hM (by rw [hone, hLc]; rfl)
          · rw [if_neg hn]
            refine ⟨_, _, _, _, _, _, rfl, ?_⟩
            rw [then_step, th_ite, if_neg (by simp [go_sem]; exact hn)]
            iterate 9 (try simp only [then_step]; try simp [go_sem, ep])
            have hb := hbad (by rw [hone]; exact hn)
            rw [hone] at hb
            simpa [Slc.val] using hb
        · iterate 10 (try simp only [then_step]; try simp [go_sem, s2, s3, s5, ctSmall, ctGreat, ctDigit, hjz, h34, sm34, gr34, dg34])
          have hk : ¬ (kdi (bt s j) = 1 ∨ kdi (bt s j) = 2) := by
            simp only [e1, e2, decide_eq_false_iff_not] at h1 h1'
            omega
          have hk3 : ¬ kdi (bt s j) = 3 := by simpa [e3] using h1''
          rw [s7]
          refine hl rb' 0 L Co 0 [] s j L Co RD _ _ hg (hH1 RD) hjlt h34 (by omega) (by omega) (by omega) ?_
          cases hq : rdq (s.drop j) with
          | some r =>
            obtain ⟨x, m1⟩ := r
            have hone : one s j = ⟨0, 5, x, 0, j + m1⟩ := by
              unfold one
              rw [if_neg hk, if_neg hk3, if_pos h34, hq]
            have hf : (one s j).f = 0 := by rw [hone]
            refine ⟨_, _, _, _, _, _, rfl, ?_⟩
            rw [then_step, th_ite, if_pos (by rfl), then_step, set_set]
            exact tk_push I (by omega) ei em hj hjlt hf (by rw [hone]) (by rw [hpt hf]) (by rw [hpt hf, hone]; simp; omega) hM (by rw [hone, hLc]; rfl)
          | none =>
            have hone : one s j = ⟨4, 0, [], 0, 0⟩ := by
              unfold one
              rw [if_neg hk, if_neg hk3, if_pos h34, hq]
            refine ⟨_, _, _, _, _, _, rfl, ?_⟩
            rw [then_step, th_ite, if_neg (by simp [go_sem])]
            iterate 9 (try simp only [then_step]; try simp [go_sem, ep])
            have hb := hbad (by rw [hone]; simp)
            rw [hone] at hb
            simpa [Slc.val] using hb
        · iterate 10 (try simp only [then_step]; try simp [go_sem, s2, s3, s5, ctSmall, ctGreat, ctDigit, hjz, h1, h1', h1'', h34])
          have hk : ¬ (kdi (bt s j) = 1 ∨ kdi (bt s j) = 2) := by
            simp only [e1, e2, decide_eq_false_iff_not] at h1 h1'
            omega
          have hk3 : ¬ kdi (bt s j) = 3 := by simpa [e3] using h1''
          rw [s8]
          refine ⟨rb', 0, L, Co, 0, [], s, j, L, Co, RD, rfl, hH1 RD, by omega, by omega, by omega, by omega, by omega, ?_⟩
          rw [Int.toNat_natCast]
          by_cases hn : sg (s.drop j) = []
          · rw [if_pos hn]
            have hone : one s j = ⟨4, 0, [], 0, 0⟩ := by
              unfold one
              rw [if_neg hk, if_neg hk3, if_neg h34, if_pos hn]
            refine ⟨_, _, _, _, _, _, rfl, ?_⟩
            rw [then_step, th_ite, if_neg (by simp [go_sem])]
            iterate 9 (try simp only [then_step]; try simp [go_sem, ep])
            have hb := hbad (by rw [hone]; simp)
            rw [hone] at hb
            simpa [Slc.val] using hb
          · rw [if_neg hn]
            have hone : one s j = ⟨0, 7, sg (s.drop j), 0, j + (sg (s.drop j)).length⟩ := by
              unfold one
              rw [if_neg hk, if_neg hk3, if_neg h34, if_neg hn]
            have hf : (one s j).f = 0 := by rw [hone]
            refine ⟨_, _, _, _, _, _, rfl, ?_⟩
            rw [then_step, th_ite, if_pos (by rfl), then_step, set_set]
            exact tk_push I (by omega) ei em hj hjlt hf (by rw [hone]; simp) (by rw [hpt hf]) (by rw [hpt hf, hone]; simp; omega) hM (by rw [hone, hLc]; rfl)
end Go.Proofs.YthlakehilhpojaaGreatDoor
namespace Go.Proofs.YthlakehilhpojaaGreatDoor
open Go.RowKit
attribute [local go_sem] says_tt says_ff th_need th_ite th_call th_callK th_load th_store th_mk th_new th_mks th_str says_ret says_again says_app BE.den IE.den SE.den LE.den AE.den CE.den PE.den VE.den KV.val Got.den Got.cnt exI allI exL allL Ctx.push Ctx.heap Ctx.cut Ctx.bare Ctx.mark Inc.blank List.getD_cons_zero List.getD_cons_succ List.cons_append List.nil_append List.append_nil List.map_cons List.map_nil List.replicate_zero List.replicate_succ specOf ltB_t leB_t ltB_f leB_f slc_val slc_nil slc_inj pt_val pt_nil hle_noHeap hle_refl hread_set hwrite_set set_same set_set noHeap_at B_inj ones_nil and_assoc
def ctEnd : Ct Tryz.prog where
  f := 73
  spec := fun args h φ => ∃ s, args = [.string (B s)] ∧ s.length ≤ 100000 ∧
    (match rdq s with
      | some (_, e) => φ (.tuple #[.int .i64 (e : Nat), .bool true]) h
      | none => ∀ n, φ (.tuple #[.int .i64 n, .bool false]) h)
  ok := by
    rintro args h φ w ⟨s, rfl, hlen, hφ⟩ hH
    refine by_fm Tryz.func73 gen_qend ps_qend [ctRead] φ noInv noMeas ⟨[], [], [s], [], [], [], h, noM⟩ ⟨rfl, rfl, rfl, rfl, rfl, rfl⟩ ones_nil ?_ w hH rfl
    generalize hE : (⟨specOf _, _, _, _⟩ : Env) = E
    have s1 : E.spec 91 = ctRead.spec := by rw [← hE]; rfl
    have ep : E.post = φ := by rw [← hE]
    clear hE
    unfold fm_qend
    rw [th_call, if_pos (by rfl), s1]
    refine ⟨s, rfl, hlen, ?_⟩
    cases hq : rdq s with
    | some r =>
      obtain ⟨t, e⟩ := r
      rw [hq] at hφ
      simp [go_sem]
      simp only [then_step]; simp [go_sem, ep]; exact hφ
    | none =>
      rw [hq] at hφ
      simp [go_sem]
      intro t n
      simp only [then_step]; simp [go_sem, ep]; exact hφ n
def ctUnquote : Ct Tryz.prog where
  f := 74
  spec := fun args h φ => ∃ s, args = [.string (B s)] ∧ s.length ≤ 100000 ∧ ∃ t, rdq s = some (t, s.length) ∧ φ (.tuple #[.string (B t), .int .i64 0]) h
  ok := by
    rintro args h φ w ⟨s, rfl, hlen, t, hq, hφ⟩ hH
    refine by_fm Tryz.func74 gen_qunq ps_qunq [ctRead] φ noInv noMeas ⟨[], [], [s], [], [], [], h, noM⟩ ⟨rfl, rfl, rfl, rfl, rfl, rfl⟩ ones_nil ?_ w hH rfl
    generalize hE : (⟨specOf _, _, _, _⟩ : Env) = E
    have s1 : E.spec 91 = ctRead.spec := by rw [← hE]; rfl
    have ep : E.post = φ := by rw [← hE]
    clear hE
    unfold fm_qunq
    rw [th_call, if_pos (by rfl), s1]
    refine ⟨s, rfl, hlen, ?_⟩
    rw [hq]
    simp [go_sem]
    iterate 2 (try simp only [then_step]; try simp [go_sem, ep])
    exact hφ
set_option maxHeartbeats 2000000 in
def ctLiteral : Ct Tryz.prog where
  f := 44
  spec := fun args h φ => ∃ b k l c n x s a L Co T, args = [.pointer (some ⟨b, 0, none⟩), tkv k l c n x] ∧ h b = some ⟨rc s (a : Nat) L Co, T⟩ ∧ a < s.length ∧ s.length ≤ 100000 ∧ 0 ≤ Co ∧ Co ≤ 500000 ∧
    (match rdq (s.drop a) with
      | some (t, m) => φ (.tuple #[tkv 5 l c n t, .int .i64 0]) (Hp.set h b ⟨rc s (a + m : Nat) L (Co + m), T⟩)
      | none => φ (.tuple #[tkv 0 0 0 0 [], .int .i64 4]) h)
  ok := by
    rintro args h φ w ⟨b, k, l, c, n, x, s, a, L, Co, T, rfl, hb, ha, hlen, c0, c1, hφ⟩ hH
    obtain ⟨h, rfl⟩ : ∃ h', h = Hp.set h' b ⟨rc s a L Co, T⟩ := ⟨h, set_self hb⟩
    simp only [set_set] at hφ
    refine by_fm Tryz.func44 gen_literal ps_literal [ctEnd, ctUnquote, ctPass] φ noInv noMeas ⟨[k, l, c, n], [], [x], [], [], [some (b, 0)], h.set b ⟨rc s a L Co, T⟩, noM⟩ ⟨rfl, rfl, rfl, rfl, rfl, rfl⟩ ones_nil ?_ w hH rfl
    generalize hE : (⟨specOf _, _, _, _⟩ : Env) = E
    have s1 : E.spec 73 = ctEnd.spec := by rw [← hE]; rfl
    have s2 : E.spec 74 = ctUnquote.spec := by rw [← hE]; rfl
    have s3 : E.spec 66 = ctPass.spec := by rw [← hE]; rfl
    have ep : E.post = φ := by rw [← hE]
    clear hE
    have haz : (a : Int) ≤ s.length := by omega
    have htl : List.take s.length s = s := List.take_length
    have hdl : (s.drop a).length = s.length - a := List.length_drop
    rw [← then_step]; unfold fm_literal
    iterate 9 (try simp only [then_step]; try simp [go_sem, rc, haz, htl])
    rw [s1]
    refine ⟨s.drop a, rfl, by omega, ?_⟩
    cases hq : rdq (s.drop a) with
    | none =>
      rw [hq] at hφ
      refine fun n => ⟨by simp [hread_set], by simp [hread_set], n, .inl ⟨rfl, ?_⟩⟩
      simp only [then_step]; simp [go_sem, ep]; exact hφ
    | some r =>
      obtain ⟨t, m⟩ := r
      rw [hq] at hφ
      obtain ⟨m1, m2, _⟩ := rdq_some hq
      rw [hdl] at m2
      refine ⟨by simp [hread_set], by simp [hread_set], m, .inr ⟨rfl, ?_⟩⟩
      have e1 : ((a : Int) + m).toNat = a + m := by omega
      have hdt : List.drop a (List.take (a + m) s) = (s.drop a).take m := by
        rw [List.drop_take]; congr 1; omega
      iterate 12 (try simp only [then_step]; try simp [go_sem, e1])
      refine ⟨by omega, by omega, by omega, by omega, by omega, ?_⟩
      rw [s2, hdt]
      have hl2 : ((s.drop a).take m).length = m := by rw [List.length_take, hdl]; omega
      refine ⟨(s.drop a).take m, rfl, by omega, t, by rw [hl2]; exact rdq_take hq, ?_⟩
      refine ⟨by simp [hread_set], by simp [hread_set], 0, t, rfl, ?_⟩
      rw [then_step, th_call, if_pos (by rfl), s3]
      refine ⟨b, s, a, L, Co, T, m, rfl, set_same _ _ _, by omega, by omega, by omega, by omega, by omega, by omega, ?_⟩
      rw [set_set]
      simp [go_sem]
      simp only [then_step]; simp [go_sem, ep]
      simpa [rc, tkv] using hφ
/-- Tokens of whatever text. -/
def ctTokens : Ct Tryz.prog where
  f := 17
  spec := fun args h φ => ∃ s, args = [.string (B s)] ∧
    (if 65536 < s.length then φ (.tuple #[.slice none 0 0, .agg #[.int .i64 3, .int .i64 0, .int .i64 0]]) h
      else if (lexAll s).1.1 = 0 then ∀ sl k, HLe h k → OwnS k sl (tcs (lexAll s).2) TK 5 → sl.n = (lexAll s).2.length → φ (.tuple #[sl.val, .agg #[.int .i64 0, .int .i64 0, .int .i64 0]]) k
      else φ (.tuple #[.slice none 0 0, .agg #[.int .i64 (lexAll s).1.1, .int .i64 (lexAll s).1.2.1, .int .i64 (lexAll s).1.2.2]]) h)
  ok := by
    rintro args h φ w ⟨s, rfl, hφ⟩ hH
    refine tokens_ok ctLiteral rfl (fun _ => True) ?_ s trivial h φ w hφ hH
    intro b k l c n x s a L Co T h φ _ hb ha _ h1 h2 h3 h4
    exact ⟨b, k, l, c, n, x, s, a, L, Co, T, rfl, hb, ha, h1, h2, h3, h4⟩
end Go.Proofs.YthlakehilhpojaaGreatDoor
namespace Go.Proofs.YthlakehilhpojaaGreatDoor
open Go.RowKit
attribute [local go_sem] says_tt says_ff th_need th_ite th_call th_callK th_load th_store says_ret says_again BE.den IE.den SE.den LE.den AE.den CE.den PE.den VE.den KV.val Got.den Got.cnt exI allI exL allL Ctx.push Ctx.heap Ctx.cut Ctx.bare Ctx.mark Inc.blank List.getD_cons_zero List.getD_cons_succ List.cons_append List.nil_append List.append_nil List.map_cons List.map_nil List.replicate_zero List.replicate_succ specOf ltB_t leB_t ltB_f leB_f slc_val slc_nil slc_inj pt_val pt_nil hle_noHeap hle_refl hread_set hwrite_set set_same set_set noHeap_at B_inj ones_nil and_assoc
def fm_prunE : Fm := (.call (.c true) false 17 [(.one (.s (.x 0)))] (.tup [(.one (.sl (.x 0))), (.agg [(.i .i64 (.x 0)), (.i .i64 (.x 1)), (.i .i64 (.x 2))])]) ⟨3, 0, 0, 0, 1, 0⟩
  (.ite (.not (.eqI (.x 0) (.c 0)))
  (.ret (.tup [(.one (.sl .nil)), (.agg [(.i .i64 (.x 0)), (.i .i64 (.x 1)), (.i .i64 (.x 2))])]))
  (.new [(.sl (.x 0)), (.i .i64 (.c 0)), (.i .i64 (.c 0)), (.i .i64 (.c 0)), (.i .i64 (.c 0)), (.i .i64 (.c 0))] 48
  (.call (.c true) false 11 [(.one (.pt 0))] (.p (.one (.pt 1))) ⟨0, 0, 0, 0, 0, 1⟩
  (.call (.c true) false 18 [(.one (.pt 0))] (.p (.agg [(.i .u8 (.x 3)), (.i .i64 (.x 4)), (.i .i64 (.x 5)), (.i .i64 (.x 6)), (.s (.x 1))])) ⟨4, 0, 1, 0, 0, 0⟩
  (.ite (.not (.eqI (.x 3) (.c 8)))
  (.call (.c true) false 19 [(.one (.pt 0)), (.one (.i .i64 (.c 5)))] (.tup []) ⟨0, 0, 0, 0, 0, 0⟩
  (.call (.c true) false 20 [(.one (.pt 0))] (.p (.one (.b (.x 0)))) ⟨0, 1, 0, 0, 0, 0⟩
  (.ite (.x 0)
  (.load (.c true) (.pt 0 3) 3 [(.i .i64 (.x 7)), (.i .i64 (.x 8)), (.i .i64 (.x 9))] ⟨3, 0, 0, 0, 0, 0⟩
  (.need (.c true) (.nnp 0)
  (.need (.c true) (.nnp 0)
  (.ret (.tup [(.one (.sl .nil)), (.agg [(.i .i64 (.x 7)), (.i .i64 (.x 8)), (.i .i64 (.x 9))])])))))
  (.call (.c true) false 21 [(.one (.pt 1)), (.one (.sl .nil))] (.p (.one (.sl (.x 1)))) ⟨0, 0, 0, 0, 1, 0⟩
  (.ret (.tup [(.one (.sl (.x 1))), (.agg [(.i .i64 (.c 0)), (.i .i64 (.c 0)), (.i .i64 (.c 0))])]))))))
  (.call (.c true) false 20 [(.one (.pt 0))] (.p (.one (.b (.x 0)))) ⟨0, 1, 0, 0, 0, 0⟩
  (.ite (.x 0)
  (.load (.c true) (.pt 0 3) 3 [(.i .i64 (.x 7)), (.i .i64 (.x 8)), (.i .i64 (.x 9))] ⟨3, 0, 0, 0, 0, 0⟩
  (.need (.c true) (.nnp 0)
  (.need (.c true) (.nnp 0)
  (.ret (.tup [(.one (.sl .nil)), (.agg [(.i .i64 (.x 7)), (.i .i64 (.x 8)), (.i .i64 (.x 9))])])))))
  (.call (.c true) false 21 [(.one (.pt 1)), (.one (.sl .nil))] (.p (.one (.sl (.x 1)))) ⟨0, 0, 0, 0, 1, 0⟩
  (.ret (.tup [(.one (.sl (.x 1))), (.agg [(.i .i64 (.c 0)), (.i .i64 (.c 0)), (.i .i64 (.c 0))])])))))))))))
theorem gen_prunE : genFnP ⟨true, [21]⟩ Tryz.prog (fun l => ([] : List LAnn).getD l ⟨[], [], []⟩) Tryz.f10 [.one (.s (.x 0)), .one (.c (.fn 11))] ⟨0, 0, 1, 0, 0, 0⟩ = fm_prunE := by kernel_rfl
def fm_prunP : Fm := (.call (.c true) false 17 [(.one (.s (.x 0)))] (.tup [(.one (.sl (.x 0))), (.agg [(.i .i64 (.x 0)), (.i .i64 (.x 1)), (.i .i64 (.x 2))])]) ⟨3, 0, 0, 0, 1, 0⟩
  (.ite (.not (.eqI (.x 0) (.c 0)))
  (.ret (.tup [(.one (.sl .nil)), (.agg [(.i .i64 (.x 0)), (.i .i64 (.x 1)), (.i .i64 (.x 2))])]))
  (.new [(.sl (.x 0)), (.i .i64 (.c 0)), (.i .i64 (.c 0)), (.i .i64 (.c 0)), (.i .i64 (.c 0)), (.i .i64 (.c 0))] 48
  (.call (.c true) false 16 [(.one (.pt 0))] (.p (.one (.pt 1))) ⟨0, 0, 0, 0, 0, 1⟩
  (.call (.c true) false 18 [(.one (.pt 0))] (.p (.agg [(.i .u8 (.x 3)), (.i .i64 (.x 4)), (.i .i64 (.x 5)), (.i .i64 (.x 6)), (.s (.x 1))])) ⟨4, 0, 1, 0, 0, 0⟩
  (.ite (.not (.eqI (.x 3) (.c 8)))
  (.call (.c true) false 19 [(.one (.pt 0)), (.one (.i .i64 (.c 5)))] (.tup []) ⟨0, 0, 0, 0, 0, 0⟩
  (.call (.c true) false 20 [(.one (.pt 0))] (.p (.one (.b (.x 0)))) ⟨0, 1, 0, 0, 0, 0⟩
  (.ite (.x 0)
  (.load (.c true) (.pt 0 3) 3 [(.i .i64 (.x 7)), (.i .i64 (.x 8)), (.i .i64 (.x 9))] ⟨3, 0, 0, 0, 0, 0⟩
  (.need (.c true) (.nnp 0)
  (.need (.c true) (.nnp 0)
  (.ret (.tup [(.one (.sl .nil)), (.agg [(.i .i64 (.x 7)), (.i .i64 (.x 8)), (.i .i64 (.x 9))])])))))
  (.call (.c true) false 21 [(.one (.pt 1)), (.one (.sl .nil))] (.p (.one (.sl (.x 1)))) ⟨0, 0, 0, 0, 1, 0⟩
  (.ret (.tup [(.one (.sl (.x 1))), (.agg [(.i .i64 (.c 0)), (.i .i64 (.c 0)), (.i .i64 (.c 0))])]))))))
  (.call (.c true) false 20 [(.one (.pt 0))] (.p (.one (.b (.x 0)))) ⟨0, 1, 0, 0, 0, 0⟩
  (.ite (.x 0)
  (.load (.c true) (.pt 0 3) 3 [(.i .i64 (.x 7)), (.i .i64 (.x 8)), (.i .i64 (.x 9))] ⟨3, 0, 0, 0, 0, 0⟩
  (.need (.c true) (.nnp 0)
  (.need (.c true) (.nnp 0)
  (.ret (.tup [(.one (.sl .nil)), (.agg [(.i .i64 (.x 7)), (.i .i64 (.x 8)), (.i .i64 (.x 9))])])))))
  (.call (.c true) false 21 [(.one (.pt 1)), (.one (.sl .nil))] (.p (.one (.sl (.x 1)))) ⟨0, 0, 0, 0, 1, 0⟩
  (.ret (.tup [(.one (.sl (.x 1))), (.agg [(.i .i64 (.c 0)), (.i .i64 (.c 0)), (.i .i64 (.c 0))])])))))))))))
theorem gen_prunP : genFnP ⟨true, [21]⟩ Tryz.prog (fun l => ([] : List LAnn).getD l ⟨[], [], []⟩) Tryz.f10 [.one (.s (.x 0)), .one (.c (.fn 16))] ⟨0, 0, 1, 0, 0, 0⟩ = fm_prunP := by kernel_rfl
def fm_pExpr : Fm := (.call (.c true) false 10 [(.one (.s (.x 0))), (.one (.c (.fn 11)))] (.tup [(.one (.sl (.x 0))), (.agg [(.i .i64 (.x 0)), (.i .i64 (.x 1)), (.i .i64 (.x 2))])]) ⟨3, 0, 0, 0, 1, 0⟩
  (.ret (.tup [(.one (.sl (.x 0))), (.agg [(.i .i64 (.x 0)), (.i .i64 (.x 1)), (.i .i64 (.x 2))])])))
theorem gen_pExpr : genFn ⟨true, []⟩ Tryz.prog (fun l => ([] : List LAnn).getD l ⟨[], [], []⟩) Tryz.f5 = fm_pExpr := by kernel_rfl
theorem ps_pExpr : freshPs Tryz.prog .zero Tryz.f5.params.toList = some ([(.one (.s (.x 0)))], ⟨0, 0, 1, 0, 0, 0⟩) := by kernel_rfl
def fm_pParse : Fm := (.call (.c true) false 10 [(.one (.s (.x 0))), (.one (.c (.fn 16)))] (.tup [(.one (.sl (.x 0))), (.agg [(.i .i64 (.x 0)), (.i .i64 (.x 1)), (.i .i64 (.x 2))])]) ⟨3, 0, 0, 0, 1, 0⟩
  (.ret (.tup [(.one (.sl (.x 0))), (.agg [(.i .i64 (.x 0)), (.i .i64 (.x 1)), (.i .i64 (.x 2))])])))
theorem gen_pParse : genFn ⟨true, []⟩ Tryz.prog (fun l => ([] : List LAnn).getD l ⟨[], [], []⟩) Tryz.f9 = fm_pParse := by kernel_rfl
theorem ps_pParse : freshPs Tryz.prog .zero Tryz.f9.params.toList = some ([(.one (.s (.x 0)))], ⟨0, 0, 1, 0, 0, 0⟩) := by kernel_rfl
def fltv (f : Int × Int × Int) : Value := .agg #[.int .i64 f.1, .int .i64 f.2.1, .int .i64 f.2.2]
/-- What a text's tree is, as it is handed back. -/
def parseS (prog : Bool) (s : List UInt8) (h : Hp) (φ : Value → Hp → Prop) : Prop :=
  if 65536 < s.length then φ (.tuple #[.slice none 0 0, fltv (3, 0, 0)]) h
  else ∀ f t, parseT prog s = some (f, t) → (if f.1 = 0 then ∀ sl k, HLe h k → OwnS k sl (ncs t.nods) ND 6 → sl.n = t.n → φ (.tuple #[sl.val, fltv (0, 0, 0)]) k else φ (.tuple #[.slice none 0 0, fltv f]) h)
theorem own_tks {h : Hp} {s : Slc} {L : List Tok} (ho : OwnS h s (tcs L) TK 5) (hn : s.n = L.length) (hL : 0 < L.length) : Tks h s L := by
  rcases ho with ⟨h1, h2⟩ | ⟨b, o, h1, h2, h3, h4, h5, h6, h7⟩
  · have := congrArg List.length h2; rw [tcs_len] at this; simp at this; omega
  · obtain ⟨cs, ty⟩ := o
    simp only at h3 h4 h7; subst h3
    refine ⟨b, s.c, cs.drop (s.n * 5), ?_, ?_⟩
    · cases s; simp only at h1 hn ⊢; rw [h1, hn]
    · rw [h2]; congr 2; rw [h7]; exact (List.take_append_drop _ _).symm
set_option maxHeartbeats 4000000 in
def ctRunE : Ct Tryz.prog where
  f := 10
  spec := fun args h φ => ∃ s, args = [.string (B s), .func (.func 11) #[] #[]] ∧ parseS false s h φ
  ok := by
    rintro args h φ w ⟨s, rfl, hφ⟩ hH
    refine ct_forget (by_fmP Tryz.func10 gen_prunE [ctTokens, ctNow, ctFail, ctBad, ctLay (lay_ok 1000000), ctExpr (expr_all (fuelOf (lexAll s).2))] (fun v k => ∃ k', HLe k' k ∧ φ v k') noInv noMeas ⟨[], [], [s], [], [], [], h, noM⟩ ⟨rfl, rfl, rfl, rfl, rfl, rfl⟩ ones_nil ?_ w hH rfl)
    generalize hE : (⟨specOf _, _, _, _⟩ : Env) = E
    have s_ctTokens : E.spec 17 = ctTokens.spec := by rw [← hE]; rfl
    have s_ctNow : E.spec 18 = ctNow.spec := by rw [← hE]; rfl
    have s_ctFail : E.spec 19 = ctFail.spec := by rw [← hE]; rfl
    have s_ctBad : E.spec 20 = ctBad.spec := by rw [← hE]; rfl
    have s_ctL : E.spec 21 = (ctLay (lay_ok 1000000)).spec := by rw [← hE]; rfl
    have s_ctX : E.spec 11 = (ctExpr (expr_all (fuelOf (lexAll s).2))).spec := by rw [← hE]; rfl
    have ep : E.post = fun v k => ∃ k', HLe k' k ∧ φ v k' := by rw [← hE]
    clear hE
    unfold fm_prunE
    unfold parseS at hφ
    rw [th_call, if_pos (by rfl), s_ctTokens]
    refine ⟨s, rfl, ?_⟩
    by_cases h6 : 65536 < s.length
    · rw [if_pos h6] at hφ ⊢
      simp [go_sem]
      rw [then_step, th_ite, if_pos (by simp [go_sem])]
      simp only [then_step]; simp [go_sem, ep]
      exact ⟨h, fun _ _ h => h, hφ⟩
    rw [if_neg h6] at hφ ⊢
    obtain ⟨⟨f, t⟩, hft⟩ := parse_some false s
    have hφ := hφ f t hft
    by_cases hl : (lexAll s).1.1 = 0
    rotate_left
    · rw [if_neg hl]
      have e := hft
      unfold parseT at e
      rw [if_pos hl] at e
      cases e
      rw [if_neg hl] at hφ
      simp [go_sem]
      rw [then_step, th_ite, if_pos (by simp [go_sem]; exact hl)]
      simp only [then_step]; simp [go_sem, ep]
      exact ⟨h, fun _ _ h => h, hφ⟩
    rw [if_pos hl]
    intro sl k hk hown hsn
    have T := toks_of hl
    generalize hLe : (lexAll s).2 = L at *
    have htk := own_tks hown hsn T.lw.pos
    simp [go_sem]
    rw [then_step, th_ite, if_neg (by simp [go_sem])]
    rw [then_step, th_new]
    intro b hb
    have hb' : k b = none := hb
    simp [go_sem]
    have hlen := T.len
    have W : PW (k.set b ⟨pcs sl p0, PT⟩) b sl L p0 := ⟨set_same _ _ _, htk.keep fun c o _ hc => by rw [set_ne _ (fun e => by rw [e, hb'] at hc; cases hc)]; exact hc, T.lw, by omega, T.lw.pos, by decide, by decide⟩
    have hft' : (runExpr L (fuelOf L) p0).map (fun r => ((endP L r.2).f, r.1)) = some (f, t) := by
      have e := hft
      unfold parseT at e
      rw [if_neg (by rw [hl]; decide), hLe] at e
      exact e
    simp only [Option.map_eq_some_iff] at hft'
    obtain ⟨⟨t', q⟩, h1, h2⟩ := hft'
    cases h2
    dsimp only at hφ
    have Ad : Adv L p0 q 0 := by
      exact (advE T.lw _).1 _ _ _ _ h1
    rw [then_step, th_call, if_pos (by rfl), s_ctX]
    refine ⟨fuelOf L, Nat.le_refl _, b, sl, L, p0, t', q, rfl, W, h1, by unfold fuelOf; simp [p0]; omega, fun v k2 g A hI => ?_⟩
    simp [go_sem, ptrv]; refine ⟨some (v, 0), rfl, ?_⟩
    have keep : ∀ k3, Keeps b (k.set b ⟨pcs sl p0, PT⟩) k3 → HLe h k3 := fun k3 h3 c o hc => by
      have hcb : c ≠ b := fun e => by have := hk c o hc; rw [e, hb'] at this; cases this
      exact h3 c o hcb (by rw [set_ne _ hcb]; exact hk c o hc)
    rw [then_step, th_call, if_pos (by rfl), s_ctNow]
    refine ⟨b, sl, L, q, rfl, A.pw, ?_⟩
    simp [go_sem, tokv, tkv]
    have fin : ∀ (q' : PS) (k3 : Hp) (is' : List Int) (ss' : List (List UInt8)) (A3 : At (k.set b ⟨pcs sl p0, PT⟩) b sl L q' k3 g), q' = endP L q → 
        Then E (.call (.c true) false 20 [(.one (.pt 0))] (.p (.one (.b (.x 0)))) ⟨0, 1, 0, 0, 0, 0⟩
  (.ite (.x 0)
  (.load (.c true) (.pt 0 3) 3 [(.i .i64 (.x 7)), (.i .i64 (.x 8)), (.i .i64 (.x 9))] ⟨3, 0, 0, 0, 0, 0⟩
  (.need (.c true) (.nnp 0)
  (.need (.c true) (.nnp 0)
  (.ret (.tup [(.one (.sl .nil)), (.agg [(.i .i64 (.x 7)), (.i .i64 (.x 8)), (.i .i64 (.x 9))])])))))
  (.call (.c true) false 21 [(.one (.pt 1)), (.one (.sl .nil))] (.p (.one (.sl (.x 1)))) ⟨0, 0, 0, 0, 1, 0⟩
  (.ret (.tup [(.one (.sl (.x 1))), (.agg [(.i .i64 (.c 0)), (.i .i64 (.c 0)), (.i .i64 (.c 0))])]))))) ⟨[0, 0, 0, (tk L q).k, (tk L q).l, (tk L q).c, (tk L q).n], [], [s, (tk L q).x], [], [sl], [some (b, 0), some (v, 0)], k3, noM⟩ := by
      intro q' k3 is' ss' A3 hq'
      rw [← hq'] at hφ hft
      rw [then_step, th_call, if_pos (by rfl), s_ctBad]
      refine ⟨b, sl, L, q', rfl, A3.pw, ?_⟩
      simp [go_sem]
      cases c0 : q'.bad with
      | true =>
        have hf : ¬ q'.f.1 = 0 := fun e => by unfold PS.bad at c0; rw [e] at c0; cases c0
        rw [if_neg hf] at hφ
        rw [then_step, th_ite, if_pos (by simp [go_sem])]
        have hr3 : hread k3 (some (b, 3)) 3 = some [.int .i64 q'.f.1, .int .i64 q'.f.2.1, .int .i64 q'.f.2.2] := by rw [hread_of A3.pw.blk]; rfl
        rw [then_step, th_load, if_pos (by rfl)]
        refine (exI_iff _ _).2 ⟨⟨[q'.f.1, q'.f.2.1, q'.f.2.2], [], [], [], [], []⟩, rfl, ones_nil, hr3, ?_⟩
        rw [then_step, th_need]
        refine ⟨by simp [go_sem], ?_⟩
        rw [then_step, th_need]
        refine ⟨by simp [go_sem], ?_⟩
        simp only [then_step]; simp [go_sem, ep]
        exact ⟨h, keep k3 A3.kp, hφ⟩
      | false =>
        have hf : q'.f.1 = 0 := by unfold PS.bad at c0; simpa using c0
        rw [if_pos hf] at hφ
        rw [then_step, th_ite, if_neg (by simp [go_sem])]
        obtain ⟨_, htn, _⟩ := parse_red hft hf
        dsimp only at htn
        rw [then_step, th_call, if_pos (by rfl), s_ctL]
        refine ⟨v, t', ⟨none, 0, 0⟩, [], rfl, by omega, It.le A3.le _ _ hI, .inl ⟨rfl, rfl⟩, rfl, by simp; omega, fun s' k4 r1 r2 r3 r4 => ?_⟩
        simp [go_sem]
        simp only [then_step]; simp [go_sem, ep]
        refine ⟨k4, fun _ _ h => h, hφ s' k4 (fun c o hc => r3 c o (fun _ hz => (by cases hz)) (keep k3 A3.kp c o hc)) (by simpa using r1) (by simpa using r2)⟩
    by_cases c8 : (tk L q).k = 8
    · rw [then_step, th_ite, if_neg (by simp [go_sem, c8])]
      exact fin q k2 [] [] A (by unfold endP; rw [if_pos c8])
    · rw [then_step, th_ite, if_pos (by simp [go_sem, c8])]
      rw [then_step, th_call, if_pos (by rfl), s_ctFail]
      refine ⟨b, sl, L, q, 5, rfl, A.pw, ?_⟩
      simp [go_sem]
      exact fin (pFail L 5 q) _ [] [] (A.fail 5) (by unfold endP; rw [if_neg c8])
set_option maxHeartbeats 4000000 in
def ctRunP : Ct Tryz.prog where
  f := 10
  spec := fun args h φ => ∃ s, args = [.string (B s), .func (.func 16) #[] #[]] ∧ parseS true s h φ
  ok := by
    rintro args h φ w ⟨s, rfl, hφ⟩ hH
    refine ct_forget (by_fmP Tryz.func10 gen_prunP [ctTokens, ctNow, ctFail, ctBad, ctLay (lay_ok 1000000), ctProg (fuelOf (lexAll s).2)] (fun v k => ∃ k', HLe k' k ∧ φ v k') noInv noMeas ⟨[], [], [s], [], [], [], h, noM⟩ ⟨rfl, rfl, rfl, rfl, rfl, rfl⟩ ones_nil ?_ w hH rfl)
    generalize hE : (⟨specOf _, _, _, _⟩ : Env) = E
    have s_ctTokens : E.spec 17 = ctTokens.spec := by rw [← hE]; rfl
    have s_ctNow : E.spec 18 = ctNow.spec := by rw [← hE]; rfl
    have s_ctFail : E.spec 19 = ctFail.spec := by rw [← hE]; rfl
    have s_ctBad : E.spec 20 = ctBad.spec := by rw [← hE]; rfl
    have s_ctL : E.spec 21 = (ctLay (lay_ok 1000000)).spec := by rw [← hE]; rfl
    have s_ctX : E.spec 16 = (ctProg (fuelOf (lexAll s).2)).spec := by rw [← hE]; rfl
    have ep : E.post = fun v k => ∃ k', HLe k' k ∧ φ v k' := by rw [← hE]
    clear hE
    unfold fm_prunP
    unfold parseS at hφ
    rw [th_call, if_pos (by rfl), s_ctTokens]
    refine ⟨s, rfl, ?_⟩
    by_cases h6 : 65536 < s.length
    · rw [if_pos h6] at hφ ⊢
      simp [go_sem]
      rw [then_step, th_ite, if_pos (by simp [go_sem])]
      simp only [then_step]; simp [go_sem, ep]
      exact ⟨h, fun _ _ h => h, hφ⟩
    rw [if_neg h6] at hφ ⊢
    obtain ⟨⟨f, t⟩, hft⟩ := parse_some true s
    have hφ := hφ f t hft
    by_cases hl : (lexAll s).1.1 = 0
    rotate_left
    · rw [if_neg hl]
      have e := hft
      unfold parseT at e
      rw [if_pos hl] at e
      cases e
      rw [if_neg hl] at hφ
      simp [go_sem]
      rw [then_step, th_ite, if_pos (by simp [go_sem]; exact hl)]
      simp only [then_step]; simp [go_sem, ep]
      exact ⟨h, fun _ _ h => h, hφ⟩
    rw [if_pos hl]
    intro sl k hk hown hsn
    have T := toks_of hl
    generalize hLe : (lexAll s).2 = L at *
    have htk := own_tks hown hsn T.lw.pos
    simp [go_sem]
    rw [then_step, th_ite, if_neg (by simp [go_sem])]
    rw [then_step, th_new]
    intro b hb
    have hb' : k b = none := hb
    simp [go_sem]
    have hlen := T.len
    have W : PW (k.set b ⟨pcs sl p0, PT⟩) b sl L p0 := ⟨set_same _ _ _, htk.keep fun c o _ hc => by rw [set_ne _ (fun e => by rw [e, hb'] at hc; cases hc)]; exact hc, T.lw, by omega, T.lw.pos, by decide, by decide⟩
    have hft' : (runProg L (fuelOf L) p0).map (fun r => ((endP L r.2).f, r.1)) = some (f, t) := by
      have e := hft
      unfold parseT at e
      rw [if_neg (by rw [hl]; decide), hLe] at e
      exact e
    simp only [Option.map_eq_some_iff] at hft'
    obtain ⟨⟨t', q⟩, h1, h2⟩ := hft'
    cases h2
    dsimp only at hφ
    have Ad : Adv L p0 q 0 := by
      have h1' := h1; unfold runProg pProg at h1'; simp only [Option.map_eq_some_iff] at h1'; obtain ⟨⟨rl, r⟩, h3, h4⟩ := h1'; cases h4; exact adv_progL T.lw _ _ _ h3
    rw [then_step, th_call, if_pos (by rfl), s_ctX]
    refine ⟨fuelOf L, Nat.le_refl _, b, sl, L, p0, t', q, rfl, W, h1, by unfold fuelOf; simp [p0]; omega, fun v k2 g A hI => ?_⟩
    simp [go_sem, ptrv]; refine ⟨some (v, 0), rfl, ?_⟩
    have keep : ∀ k3, Keeps b (k.set b ⟨pcs sl p0, PT⟩) k3 → HLe h k3 := fun k3 h3 c o hc => by
      have hcb : c ≠ b := fun e => by have := hk c o hc; rw [e, hb'] at this; cases this
      exact h3 c o hcb (by rw [set_ne _ hcb]; exact hk c o hc)
    rw [then_step, th_call, if_pos (by rfl), s_ctNow]
    refine ⟨b, sl, L, q, rfl, A.pw, ?_⟩
    simp [go_sem, tokv, tkv]
    have fin : ∀ (q' : PS) (k3 : Hp) (is' : List Int) (ss' : List (List UInt8)) (A3 : At (k.set b ⟨pcs sl p0, PT⟩) b sl L q' k3 g), q' = endP L q → 
        Then E (.call (.c true) false 20 [(.one (.pt 0))] (.p (.one (.b (.x 0)))) ⟨0, 1, 0, 0, 0, 0⟩
  (.ite (.x 0)
  (.load (.c true) (.pt 0 3) 3 [(.i .i64 (.x 7)), (.i .i64 (.x 8)), (.i .i64 (.x 9))] ⟨3, 0, 0, 0, 0, 0⟩
  (.need (.c true) (.nnp 0)
  (.need (.c true) (.nnp 0)
  (.ret (.tup [(.one (.sl .nil)), (.agg [(.i .i64 (.x 7)), (.i .i64 (.x 8)), (.i .i64 (.x 9))])])))))
  (.call (.c true) false 21 [(.one (.pt 1)), (.one (.sl .nil))] (.p (.one (.sl (.x 1)))) ⟨0, 0, 0, 0, 1, 0⟩
  (.ret (.tup [(.one (.sl (.x 1))), (.agg [(.i .i64 (.c 0)), (.i .i64 (.c 0)), (.i .i64 (.c 0))])]))))) ⟨[0, 0, 0, (tk L q).k, (tk L q).l, (tk L q).c, (tk L q).n], [], [s, (tk L q).x], [], [sl], [some (b, 0), some (v, 0)], k3, noM⟩ := by
      intro q' k3 is' ss' A3 hq'
      rw [← hq'] at hφ hft
      rw [then_step, th_call, if_pos (by rfl), s_ctBad]
      refine ⟨b, sl, L, q', rfl, A3.pw, ?_⟩
      simp [go_sem]
      cases c0 : q'.bad with
      | true =>
        have hf : ¬ q'.f.1 = 0 := fun e => by unfold PS.bad at c0; rw [e] at c0; cases c0
        rw [if_neg hf] at hφ
        rw [then_step, th_ite, if_pos (by simp [go_sem])]
        have hr3 : hread k3 (some (b, 3)) 3 = some [.int .i64 q'.f.1, .int .i64 q'.f.2.1, .int .i64 q'.f.2.2] := by rw [hread_of A3.pw.blk]; rfl
        rw [then_step, th_load, if_pos (by rfl)]
        refine (exI_iff _ _).2 ⟨⟨[q'.f.1, q'.f.2.1, q'.f.2.2], [], [], [], [], []⟩, rfl, ones_nil, hr3, ?_⟩
        rw [then_step, th_need]
        refine ⟨by simp [go_sem], ?_⟩
        rw [then_step, th_need]
        refine ⟨by simp [go_sem], ?_⟩
        simp only [then_step]; simp [go_sem, ep]
        exact ⟨h, keep k3 A3.kp, hφ⟩
      | false =>
        have hf : q'.f.1 = 0 := by unfold PS.bad at c0; simpa using c0
        rw [if_pos hf] at hφ
        rw [then_step, th_ite, if_neg (by simp [go_sem])]
        obtain ⟨_, htn, _⟩ := parse_red hft hf
        dsimp only at htn
        rw [then_step, th_call, if_pos (by rfl), s_ctL]
        refine ⟨v, t', ⟨none, 0, 0⟩, [], rfl, by omega, It.le A3.le _ _ hI, .inl ⟨rfl, rfl⟩, rfl, by simp; omega, fun s' k4 r1 r2 r3 r4 => ?_⟩
        simp [go_sem]
        simp only [then_step]; simp [go_sem, ep]
        refine ⟨k4, fun _ _ h => h, hφ s' k4 (fun c o hc => r3 c o (fun _ hz => (by cases hz)) (keep k3 A3.kp c o hc)) (by simpa using r1) (by simpa using r2)⟩
    by_cases c8 : (tk L q).k = 8
    · rw [then_step, th_ite, if_neg (by simp [go_sem, c8])]
      exact fin q k2 [] [] A (by unfold endP; rw [if_pos c8])
    · rw [then_step, th_ite, if_pos (by simp [go_sem, c8])]
      rw [then_step, th_call, if_pos (by rfl), s_ctFail]
      refine ⟨b, sl, L, q, 5, rfl, A.pw, ?_⟩
      simp [go_sem]
      exact fin (pFail L 5 q) _ [] [] (A.fail 5) (by unfold endP; rw [if_neg c8])
def ctPExpr : Ct Tryz.prog where
  f := 5
  spec := fun args h φ => ∃ s, args = [.string (B s)] ∧ parseS false s h φ
  ok := by
    rintro args h φ w ⟨s, rfl, hφ⟩ hH
    refine by_fm Tryz.func5 gen_pExpr ps_pExpr [ctRunE] φ (noInv) (noMeas) ⟨[], [], [s], [], [], [], h, noM⟩ ⟨rfl, rfl, rfl, rfl, rfl, rfl⟩ ones_nil ?_ w hH rfl
    generalize hE : (⟨specOf _, _, _, _⟩ : Env) = E
    have s_ctRunE : E.spec 10 = (ctRunE).spec := by rw [← hE]; rfl
    have ep : E.post = φ := by rw [← hE]
    clear hE
    unfold fm_pExpr
    rw [th_call, if_pos (by rfl), s_ctRunE]
    refine ⟨s, rfl, ?_⟩
    unfold parseS at hφ ⊢
    split
    · rename_i h6
      rw [if_pos h6] at hφ
      simp [go_sem, fltv]
      simp only [then_step]; simp [go_sem, ep]
      exact hφ
    · rename_i h6
      rw [if_neg h6] at hφ
      intro f t hft
      have hφ := hφ f t hft
      split
      · rename_i hf
        rw [if_pos hf] at hφ
        intro sl k hk ho hn
        simp [go_sem, fltv]
        simp only [then_step]; simp [go_sem, ep]
        exact hφ sl k hk ho hn
      · rename_i hf
        rw [if_neg hf] at hφ
        simp [go_sem, fltv]
        simp only [then_step]; simp [go_sem, ep]
        exact hφ
def ctPParse : Ct Tryz.prog where
  f := 9
  spec := fun args h φ => ∃ s, args = [.string (B s)] ∧ parseS true s h φ
  ok := by
    rintro args h φ w ⟨s, rfl, hφ⟩ hH
    refine by_fm Tryz.func9 gen_pParse ps_pParse [ctRunP] φ (noInv) (noMeas) ⟨[], [], [s], [], [], [], h, noM⟩ ⟨rfl, rfl, rfl, rfl, rfl, rfl⟩ ones_nil ?_ w hH rfl
    generalize hE : (⟨specOf _, _, _, _⟩ : Env) = E
    have s_ctRunP : E.spec 10 = (ctRunP).spec := by rw [← hE]; rfl
    have ep : E.post = φ := by rw [← hE]
    clear hE
    unfold fm_pParse
    rw [th_call, if_pos (by rfl), s_ctRunP]
    refine ⟨s, rfl, ?_⟩
    unfold parseS at hφ ⊢
    split
    · rename_i h6
      rw [if_pos h6] at hφ
      simp [go_sem, fltv]
      simp only [then_step]; simp [go_sem, ep]
      exact hφ
    · rename_i h6
      rw [if_neg h6] at hφ
      intro f t hft
      have hφ := hφ f t hft
      split
      · rename_i hf
        rw [if_pos hf] at hφ
        intro sl k hk ho hn
        simp [go_sem, fltv]
        simp only [then_step]; simp [go_sem, ep]
        exact hφ sl k hk ho hn
      · rename_i hf
        rw [if_neg hf] at hφ
        simp [go_sem, fltv]
        simp only [then_step]; simp [go_sem, ep]
        exact hφ
end Go.Proofs.YthlakehilhpojaaGreatDoor
namespace Go.Proofs.YthlakehilhpojaaGreatDoor
open Go.RowKit
attribute [local go_sem] says_tt says_ff th_need th_ite th_call th_callK th_load th_store says_ret says_again BE.den IE.den SE.den LE.den AE.den CE.den PE.den VE.den KV.val Got.den Got.cnt exI allI exL allL Ctx.push Ctx.heap Ctx.cut Ctx.bare Ctx.mark Inc.blank List.getD_cons_zero List.getD_cons_succ List.cons_append List.nil_append List.append_nil List.map_cons List.map_nil List.replicate_zero List.replicate_succ specOf ltB_t leB_t ltB_f leB_f slc_val slc_nil slc_inj pt_val pt_nil hle_noHeap hle_refl hread_set hwrite_set set_same set_set noHeap_at B_inj ones_nil and_assoc
def fm_awake06 : Fm := (.call (.c true) false 5 [(.one (.s (.c [49, 32, 43, 32, 50, 32, 42, 32, 120])))] (.tup [(.one (.sl (.x 0))), (.agg [(.i .i64 (.x 0)), (.i .i64 (.x 1)), (.i .i64 (.x 2))])]) ⟨3, 0, 0, 0, 1, 0⟩
  (.call (.c true) false 5 [(.one (.s (.c [97, 32, 61, 61, 32, 98, 32, 61, 61, 32, 99])))] (.tup [(.one (.sl (.x 1))), (.agg [(.i .i64 (.x 3)), (.i .i64 (.x 4)), (.i .i64 (.x 5))])]) ⟨3, 0, 0, 0, 1, 0⟩
  (.call (.c true) false 9 [(.one (.s (.c [102, 110, 32, 102, 40, 41, 32, 123, 32, 51, 32, 61, 32, 120, 59, 32, 125])))] (.tup [(.one (.sl (.x 2))), (.agg [(.i .i64 (.x 6)), (.i .i64 (.x 7)), (.i .i64 (.x 8))])]) ⟨3, 0, 0, 0, 1, 0⟩
  (.need (.and (.eqI (.x 0) (.c 0)) (.eqI (.cnt (.x 0)) (.c 5))) (.and (.and (.le (.c 0) (.c 0)) (.lt (.c 0) (.cnt (.x 0)))) (.nns (.x 0)))
  (.load (.and (.eqI (.x 0) (.c 0)) (.eqI (.cnt (.x 0)) (.c 5))) (.el (.x 0) (.c 0) 6 0) 6 [(.i .u8 (.x 9)), (.i .i64 (.x 10)), (.i .i64 (.x 11)), (.i .i64 (.x 12)), (.i .i64 (.x 13)), (.s (.x 0))] ⟨5, 0, 1, 0, 0, 0⟩
  (.ret (.p (.one (.b (.and (.and (.and (.and (.eqI (.x 0) (.c 0)) (.eqI (.cnt (.x 0)) (.c 5))) (.and (.eqI (.x 9) (.c 31)) (.and (.eqI (.x 10) (.c 1)) (.and (.eqI (.x 11) (.c 3)) (.and (.eqI (.x 12) (.c 4)) (.and (.eqI (.x 13) (.c 1)) (.eqS (.x 0) (.c [])))))))) (.and (.eqI (.x 3) (.c 5)) (.and (.eqI (.x 4) (.c 1)) (.eqI (.x 5) (.c 8))))) (.and (.eqI (.x 6) (.c 5)) (.and (.eqI (.x 7) (.c 1)) (.eqI (.x 8) (.c 12))))))))))))))
theorem gen_awake06 : genFn ⟨true, []⟩ Tryz.prog (fun l => ([] : List LAnn).getD l ⟨[], [], []⟩) Tryz.f4 = fm_awake06 := by kernel_rfl
theorem ps_awake06 : freshPs Tryz.prog .zero Tryz.f4.params.toList = some ([], ⟨0, 0, 0, 0, 0, 0⟩) := by kernel_rfl
/-- A row of nodes. -/
def NS (h : Hp) (sl : Slc) (l : List Nod) : Prop := sl.n = l.length ∧ (l = [] ∨ ∃ b c T r, sl = ⟨some (b, 0), l.length, c⟩ ∧ h b = some ⟨ncs l ++ r, T⟩)
theorem NS.nil {h : Hp} {sl : Slc} (hn : sl.n = 0) : NS h sl [] := ⟨hn, .inl rfl⟩
theorem NS.of_own {h : Hp} {sl : Slc} {l : List Nod} {T : TypeId} (ho : OwnS h sl (ncs l) T 6) (hn : sl.n = l.length) : NS h sl l := by
  refine ⟨hn, ?_⟩
  rcases ho with ⟨_, hx⟩ | ⟨b, o, h1, h2, _, h4, h5, _, h7⟩
  · left
    cases l with
    | nil => rfl
    | cons a l => have := congrArg List.length hx; rw [ncs_len] at this; simp at this
  · right
    obtain ⟨cs, T'⟩ := o
    refine ⟨b, sl.c, T', cs.drop (sl.n * 6), ?_, ?_⟩
    · rw [← hn, ← h1]
    · rw [h2, h7]; simp only [List.take_append_drop]
theorem NS.le {h k : Hp} {sl : Slc} {l : List Nod} (ht : NS h sl l) (hl : HLe h k) : NS k sl l := by
  refine ⟨ht.1, ?_⟩
  rcases ht.2 with h0 | ⟨b, c, T, r, h1, h2⟩
  · exact .inl h0
  · exact .inr ⟨b, c, T, r, h1, hl _ _ h2⟩
theorem ncs_drop (l : List Nod) (j : Nat) : (ncs l).drop (j * 6) = ncs (l.drop j) := by
  induction l generalizing j with
  | nil => simp [ncs]
  | cons a l ih =>
    cases j with
    | zero => simp
    | succ j =>
      rw [ncs_cons, show (j + 1) * 6 = a.cs.length + j * 6 by simp [Nod.cs]; omega, List.drop_append, List.drop_succ_cons, ← ih]
      simp
/-- Some cells of a node. -/
theorem NS.read {h : Hp} {b : Nat} {l : List Nod} {r : List Value} {T : TypeId} (hb : h b = some ⟨ncs l ++ r, T⟩) {j : Nat} (hj : j < l.length) {off n : Nat} (ho : off + n ≤ 6) :
    hread h (some (b, j * 6 + off)) n = some ((l[j].cs.drop off).take n) := by
  have hlen := ncs_len l
  have hcs : l[j].cs.length = 6 := by simp [Nod.cs]
  rw [hread_of hb, if_pos (by simp only [List.length_append]; omega)]
  simp only
  rw [← List.drop_drop, List.drop_append_of_le_length (by omega), ncs_drop, List.drop_eq_getElem_cons hj, ncs_cons, List.append_assoc, List.drop_append_of_le_length (by omega), List.take_append_of_le_length (by rw [List.length_drop]; omega)]
theorem NS.slc {h : Hp} {sl : Slc} {l : List Nod} (ht : NS h sl l) {j : Nat} (hj : j < l.length) : ∃ b c T r, sl = ⟨some (b, 0), l.length, c⟩ ∧ h b = some ⟨ncs l ++ r, T⟩ := by
  rcases ht.2 with rfl | ht
  · simp at hj
  · exact ht
def E1 : List UInt8 := [49, 32, 43, 32, 50, 32, 42, 32, 120]
def E2 : List UInt8 := [97, 32, 61, 61, 32, 98, 32, 61, 61, 32, 99]
def E3 : List UInt8 := [102, 110, 32, 102, 40, 41, 32, 123, 32, 51, 32, 61, 32, 120, 59, 32, 125]
set_option maxRecDepth 100000 in
theorem ex1 : (parseT false E1).map (fun r => (r.1, r.2.nods)) = some ((0, 0, 0), [⟨31, 1, 3, 4, 1, []⟩, ⟨21, 1, 1, 0, 1, []⟩, ⟨31, 1, 7, 2, 3, []⟩, ⟨21, 1, 5, 0, 2, []⟩, ⟨26, 1, 9, 0, 0, [120]⟩]) := by decide +kernel
set_option maxRecDepth 100000 in
theorem ex2 : (parseT false E2).map (fun r => r.1) = some (5, 1, 8) := by decide +kernel
set_option maxRecDepth 100000 in
theorem ex3 : (parseT true E3).map (fun r => r.1) = some (5, 1, 12) := by decide +kernel
set_option maxHeartbeats 4000000 in
def ctAwake06 : Ct Tryz.prog where
  f := 4
  spec := fun args h φ => args = [] ∧ φ (.bool true) h
  ok := by
    rintro args h φ w ⟨rfl, hφ⟩ hH
    refine ct_forget (by_fm Tryz.func4 gen_awake06 ps_awake06 [ctPExpr, ctPParse] (fun v k => ∃ k', HLe k' k ∧ φ v k') (noInv) (noMeas) ⟨[], [], [], [], [], [], h, noM⟩ ⟨rfl, rfl, rfl, rfl, rfl, rfl⟩ ones_nil ?_ w hH rfl)
    generalize hE : (⟨specOf _, _, _, _⟩ : Env) = E
    have s_ctPExpr : E.spec 5 = (ctPExpr).spec := by rw [← hE]; rfl
    have s_ctPParse : E.spec 9 = (ctPParse).spec := by rw [← hE]; rfl
    have ep : E.post = (fun v k => ∃ k', HLe k' k ∧ φ v k') := by rw [← hE]
    clear hE
    unfold fm_awake06
    rw [th_call, if_pos (by rfl), s_ctPExpr]
    refine ⟨E1, rfl, ?_⟩
    unfold parseS
    rw [if_neg (by decide)]
    intro f t hft
    have e := ex1
    rw [hft] at e
    obtain ⟨rfl, hnods⟩ := Prod.mk.inj (Option.some.inj e)
    rw [if_pos rfl]
    intro sl k hk ho hn
    rw [hnods] at ho
    have hn5 : sl.n = 5 := by rw [hn]; show t.nods.length = 5; rw [hnods]; rfl
    have hNS := NS.of_own ho hn5
    simp [go_sem, fltv]
    rw [then_step, th_call, if_pos (by rfl), s_ctPExpr]
    refine ⟨E2, rfl, ?_⟩
    unfold parseS
    rw [if_neg (by decide)]
    intro f2 t2 hft2
    have e := ex2
    rw [hft2] at e
    obtain rfl := Option.some.inj e
    rw [if_neg (by decide)]
    simp [go_sem, fltv]
    rw [then_step, th_call, if_pos (by rfl), s_ctPParse]
    refine ⟨E3, rfl, ?_⟩
    unfold parseS
    rw [if_neg (by decide)]
    intro f3 t3 hft3
    have e := ex3
    rw [hft3] at e
    obtain rfl := Option.some.inj e
    rw [if_neg (by decide)]
    simp [go_sem, fltv]
    obtain ⟨b, c, T, r, rfl, hb⟩ := hNS.slc (j := 0) (by decide)
    have hr := NS.read hb (j := 0) (by decide) (off := 0) (n := 6) (by decide)
    rw [then_step, th_need]
    refine ⟨by simp [go_sem], ?_⟩
    rw [then_step, th_load, if_pos (by simp [go_sem])]
    refine (exI_iff _ _).2 ⟨⟨[31, 1, 3, 4, 1], [], [[]], [], [], []⟩, rfl, ones_nil, hr, ?_⟩
    simp only [then_step]; simp [go_sem, ep]
    exact ⟨h, hk, hφ⟩
end Go.Proofs.YthlakehilhpojaaGreatDoor
namespace Go.Proofs.YthlakehilhpojaaGreatDoor
open Go.RowKit
attribute [local go_sem] says_tt says_ff th_need th_ite th_call th_callK th_load th_store th_mk th_new th_mks th_str says_ret says_again says_app BE.den IE.den SE.den LE.den AE.den CE.den PE.den VE.den KV.val Got.den Got.cnt exI allI exL allL Ctx.push Ctx.heap Ctx.cut Ctx.bare Ctx.mark Inc.blank List.getD_cons_zero List.getD_cons_succ List.cons_append List.nil_append List.append_nil List.map_cons List.map_nil List.replicate_zero List.replicate_succ specOf ltB_t leB_t ltB_f leB_f slc_val slc_nil slc_inj pt_val pt_nil hle_noHeap hle_refl hread_set hwrite_set set_same set_set noHeap_at B_inj ones_nil and_assoc
def fm_rnow : Fm := (.need (.c true) (.and (.and (.le (.c 0) (.x 0)) (.lt (.x 0) (.cnt (.x 0)))) (.nns (.x 0)))
  (.load (.c true) (.el (.x 0) (.x 0) 5 0) 5 [(.i .u8 (.x 5)), (.i .i64 (.x 6)), (.i .i64 (.x 7)), (.i .i64 (.x 8)), (.s (.x 0))] ⟨4, 0, 1, 0, 0, 0⟩
  (.ret (.p (.agg [(.i .u8 (.x 5)), (.i .i64 (.x 6)), (.i .i64 (.x 7)), (.i .i64 (.x 8)), (.s (.x 0))])))))
theorem gen_rnow : genFn ⟨true, []⟩ Tryz.prog (fun l => ([] : List LAnn).getD l ⟨[], [], []⟩) Tryz.f29 = fm_rnow := by kernel_rfl
theorem ps_rnow : freshPs Tryz.prog .zero Tryz.f29.params.toList = some ([(.agg [(.sl (.x 0)), (.i .i64 (.x 0)), (.i .i64 (.x 1)), (.i .i64 (.x 2)), (.i .i64 (.x 3)), (.i .i64 (.x 4))])], ⟨5, 0, 0, 0, 1, 0⟩) := by kernel_rfl
def fm_rbad : Fm := (.ret (.p (.one (.b (.not (.eqI (.x 2) (.c 0)))))))
theorem gen_rbad : genFn ⟨true, []⟩ Tryz.prog (fun l => ([] : List LAnn).getD l ⟨[], [], []⟩) Tryz.f34 = fm_rbad := by kernel_rfl
theorem ps_rbad : freshPs Tryz.prog .zero Tryz.f34.params.toList = some ([(.agg [(.sl (.x 0)), (.i .i64 (.x 0)), (.i .i64 (.x 1)), (.i .i64 (.x 2)), (.i .i64 (.x 3)), (.i .i64 (.x 4))])], ⟨5, 0, 0, 0, 1, 0⟩) := by kernel_rfl
def fm_rfail : Fm := (.call (.c true) false 34 [(.agg [(.sl (.x 0)), (.i .i64 (.x 0)), (.i .i64 (.x 1)), (.i .i64 (.x 2)), (.i .i64 (.x 3)), (.i .i64 (.x 4))])] (.p (.one (.b (.x 0)))) ⟨0, 1, 0, 0, 0, 0⟩
  (.ite (.not (.x 0))
  (.call (.c true) false 29 [(.agg [(.sl (.x 0)), (.i .i64 (.x 0)), (.i .i64 (.x 1)), (.i .i64 (.x 2)), (.i .i64 (.x 3)), (.i .i64 (.x 4))])] (.p (.agg [(.i .u8 (.x 6)), (.i .i64 (.x 7)), (.i .i64 (.x 8)), (.i .i64 (.x 9)), (.s (.x 0))])) ⟨4, 0, 1, 0, 0, 0⟩
  (.call (.c true) false 29 [(.agg [(.sl (.x 0)), (.i .i64 (.x 0)), (.i .i64 (.x 1)), (.i .i64 (.x 2)), (.i .i64 (.x 3)), (.i .i64 (.x 4))])] (.p (.agg [(.i .u8 (.x 10)), (.i .i64 (.x 11)), (.i .i64 (.x 12)), (.i .i64 (.x 13)), (.s (.x 1))])) ⟨4, 0, 1, 0, 0, 0⟩
  (.ret (.p (.agg [(.sl (.x 0)), (.i .i64 (.x 0)), (.i .i64 (.x 1)), (.i .i64 (.x 5)), (.i .i64 (.x 7)), (.i .i64 (.x 12))])))))
  (.ret (.p (.agg [(.sl (.x 0)), (.i .i64 (.x 0)), (.i .i64 (.x 1)), (.i .i64 (.x 2)), (.i .i64 (.x 3)), (.i .i64 (.x 4))])))))
theorem gen_rfail : genFn ⟨true, []⟩ Tryz.prog (fun l => ([] : List LAnn).getD l ⟨[], [], []⟩) Tryz.f33 = fm_rfail := by kernel_rfl
theorem ps_rfail : freshPs Tryz.prog .zero Tryz.f33.params.toList = some ([(.agg [(.sl (.x 0)), (.i .i64 (.x 0)), (.i .i64 (.x 1)), (.i .i64 (.x 2)), (.i .i64 (.x 3)), (.i .i64 (.x 4))]), (.one (.i .i64 (.x 5)))], ⟨6, 0, 0, 0, 1, 0⟩) := by kernel_rfl
def fm_ris : Fm := (.call (.c true) false 29 [(.agg [(.sl (.x 0)), (.i .i64 (.x 0)), (.i .i64 (.x 1)), (.i .i64 (.x 2)), (.i .i64 (.x 3)), (.i .i64 (.x 4))])] (.p (.agg [(.i .u8 (.x 5)), (.i .i64 (.x 6)), (.i .i64 (.x 7)), (.i .i64 (.x 8)), (.s (.x 1))])) ⟨4, 0, 1, 0, 0, 0⟩
  (.call (.c true) false 34 [(.agg [(.sl (.x 0)), (.i .i64 (.x 0)), (.i .i64 (.x 1)), (.i .i64 (.x 2)), (.i .i64 (.x 3)), (.i .i64 (.x 4))])] (.p (.one (.b (.x 0)))) ⟨0, 1, 0, 0, 0, 0⟩
  (.ret (.p (.one (.b (.and (.and (.not (.x 0)) (.or (.eqI (.x 5) (.c 6)) (.eqI (.x 5) (.c 7)))) (.eqS (.x 1) (.x 0)))))))))
theorem gen_ris : genFn ⟨true, []⟩ Tryz.prog (fun l => ([] : List LAnn).getD l ⟨[], [], []⟩) Tryz.f28 = fm_ris := by kernel_rfl
theorem ps_ris : freshPs Tryz.prog .zero Tryz.f28.params.toList = some ([(.agg [(.sl (.x 0)), (.i .i64 (.x 0)), (.i .i64 (.x 1)), (.i .i64 (.x 2)), (.i .i64 (.x 3)), (.i .i64 (.x 4))]), (.one (.s (.x 0)))], ⟨5, 0, 1, 0, 1, 0⟩) := by kernel_rfl
def fm_rmust : Fm := (.call (.c true) false 28 [(.agg [(.sl (.x 0)), (.i .i64 (.x 0)), (.i .i64 (.x 1)), (.i .i64 (.x 2)), (.i .i64 (.x 3)), (.i .i64 (.x 4))]), (.one (.s (.x 0)))] (.p (.one (.b (.x 0)))) ⟨0, 1, 0, 0, 0, 0⟩
  (.ite (.not (.x 0))
  (.call (.c true) false 33 [(.agg [(.sl (.x 0)), (.i .i64 (.x 0)), (.i .i64 (.x 1)), (.i .i64 (.x 2)), (.i .i64 (.x 3)), (.i .i64 (.x 4))]), (.one (.i .i64 (.c 5)))] (.p (.agg [(.sl (.x 1)), (.i .i64 (.x 5)), (.i .i64 (.x 6)), (.i .i64 (.x 7)), (.i .i64 (.x 8)), (.i .i64 (.x 9))])) ⟨5, 0, 0, 0, 1, 0⟩
  (.ret (.p (.agg [(.sl (.x 1)), (.i .i64 (.x 5)), (.i .i64 (.x 6)), (.i .i64 (.x 7)), (.i .i64 (.x 8)), (.i .i64 (.x 9))]))))
  (.need (.c true) (.and (.le (.c (-9223372036854775808)) (.add (.x 0) (.c 1))) (.le (.add (.x 0) (.c 1)) (.c 9223372036854775807)))
  (.ret (.p (.agg [(.sl (.x 0)), (.i .i64 (.add (.x 0) (.c 1))), (.i .i64 (.x 1)), (.i .i64 (.x 2)), (.i .i64 (.x 3)), (.i .i64 (.x 4))]))))))
theorem gen_rmust : genFn ⟨true, []⟩ Tryz.prog (fun l => ([] : List LAnn).getD l ⟨[], [], []⟩) Tryz.f30 = fm_rmust := by kernel_rfl
theorem ps_rmust : freshPs Tryz.prog .zero Tryz.f30.params.toList = some ([(.agg [(.sl (.x 0)), (.i .i64 (.x 0)), (.i .i64 (.x 1)), (.i .i64 (.x 2)), (.i .i64 (.x 3)), (.i .i64 (.x 4))]), (.one (.s (.x 0)))], ⟨5, 0, 1, 0, 1, 0⟩) := by kernel_rfl
def fm_ropens : Fm := (.call (.c true) false 28 [(.agg [(.sl (.x 0)), (.i .i64 (.x 0)), (.i .i64 (.x 1)), (.i .i64 (.x 2)), (.i .i64 (.x 3)), (.i .i64 (.x 4))]), (.one (.s (.x 0)))] (.p (.one (.b (.x 0)))) ⟨0, 1, 0, 0, 0, 0⟩
  (.ite (.and (.x 0) (.le (.c 40) (.x 1)))
  (.call (.c true) false 33 [(.agg [(.sl (.x 0)), (.i .i64 (.x 0)), (.i .i64 (.x 1)), (.i .i64 (.x 2)), (.i .i64 (.x 3)), (.i .i64 (.x 4))]), (.one (.i .i64 (.c 6)))] (.p (.agg [(.sl (.x 1)), (.i .i64 (.x 5)), (.i .i64 (.x 6)), (.i .i64 (.x 7)), (.i .i64 (.x 8)), (.i .i64 (.x 9))])) ⟨5, 0, 0, 0, 1, 0⟩
  (.ret (.p (.agg [(.sl (.x 1)), (.i .i64 (.x 5)), (.i .i64 (.x 6)), (.i .i64 (.x 7)), (.i .i64 (.x 8)), (.i .i64 (.x 9))]))))
  (.call (.c true) false 30 [(.agg [(.sl (.x 0)), (.i .i64 (.x 0)), (.i .i64 (.x 1)), (.i .i64 (.x 2)), (.i .i64 (.x 3)), (.i .i64 (.x 4))]), (.one (.s (.x 0)))] (.p (.agg [(.sl (.x 1)), (.i .i64 (.x 5)), (.i .i64 (.x 6)), (.i .i64 (.x 7)), (.i .i64 (.x 8)), (.i .i64 (.x 9))])) ⟨5, 0, 0, 0, 1, 0⟩
  (.need (.c true) (.and (.le (.c (-9223372036854775808)) (.add (.x 6) (.c 1))) (.le (.add (.x 6) (.c 1)) (.c 9223372036854775807)))
  (.ret (.p (.agg [(.sl (.x 1)), (.i .i64 (.x 5)), (.i .i64 (.add (.x 6) (.c 1))), (.i .i64 (.x 7)), (.i .i64 (.x 8)), (.i .i64 (.x 9))])))))))
theorem gen_ropens : genFn ⟨true, []⟩ Tryz.prog (fun l => ([] : List LAnn).getD l ⟨[], [], []⟩) Tryz.f56 = fm_ropens := by kernel_rfl
theorem ps_ropens : freshPs Tryz.prog .zero Tryz.f56.params.toList = some ([(.agg [(.sl (.x 0)), (.i .i64 (.x 0)), (.i .i64 (.x 1)), (.i .i64 (.x 2)), (.i .i64 (.x 3)), (.i .i64 (.x 4))]), (.one (.s (.x 0)))], ⟨5, 0, 1, 0, 1, 0⟩) := by kernel_rfl
def fm_rshuts : Fm := (.call (.c true) false 30 [(.agg [(.sl (.x 0)), (.i .i64 (.x 0)), (.i .i64 (.x 1)), (.i .i64 (.x 2)), (.i .i64 (.x 3)), (.i .i64 (.x 4))]), (.one (.s (.x 0)))] (.p (.agg [(.sl (.x 1)), (.i .i64 (.x 5)), (.i .i64 (.x 6)), (.i .i64 (.x 7)), (.i .i64 (.x 8)), (.i .i64 (.x 9))])) ⟨5, 0, 0, 0, 1, 0⟩
  (.need (.c true) (.and (.le (.c (-9223372036854775808)) (.sub (.x 6) (.c 1))) (.le (.sub (.x 6) (.c 1)) (.c 9223372036854775807)))
  (.ret (.p (.agg [(.sl (.x 1)), (.i .i64 (.x 5)), (.i .i64 (.sub (.x 6) (.c 1))), (.i .i64 (.x 7)), (.i .i64 (.x 8)), (.i .i64 (.x 9))])))))
theorem gen_rshuts : genFn ⟨true, []⟩ Tryz.prog (fun l => ([] : List LAnn).getD l ⟨[], [], []⟩) Tryz.f84 = fm_rshuts := by kernel_rfl
theorem ps_rshuts : freshPs Tryz.prog .zero Tryz.f84.params.toList = some ([(.agg [(.sl (.x 0)), (.i .i64 (.x 0)), (.i .i64 (.x 1)), (.i .i64 (.x 2)), (.i .i64 (.x 3)), (.i .i64 (.x 4))]), (.one (.s (.x 0)))], ⟨5, 0, 1, 0, 1, 0⟩) := by kernel_rfl
def fm_rword6 : Fm := (.call (.c true) false 29 [(.agg [(.sl (.x 0)), (.i .i64 (.x 0)), (.i .i64 (.x 1)), (.i .i64 (.x 2)), (.i .i64 (.x 3)), (.i .i64 (.x 4))])] (.p (.agg [(.i .u8 (.x 6)), (.i .i64 (.x 7)), (.i .i64 (.x 8)), (.i .i64 (.x 9)), (.s (.x 0))])) ⟨4, 0, 1, 0, 0, 0⟩
  (.call (.c true) false 34 [(.agg [(.sl (.x 0)), (.i .i64 (.x 0)), (.i .i64 (.x 1)), (.i .i64 (.x 2)), (.i .i64 (.x 3)), (.i .i64 (.x 4))])] (.p (.one (.b (.x 0)))) ⟨0, 1, 0, 0, 0, 0⟩
  (.ite (.or (.x 0) (.not (.eqI (.x 6) (.x 5))))
  (.call (.c true) false 33 [(.agg [(.sl (.x 0)), (.i .i64 (.x 0)), (.i .i64 (.x 1)), (.i .i64 (.x 2)), (.i .i64 (.x 3)), (.i .i64 (.x 4))]), (.one (.i .i64 (.c 5)))] (.p (.agg [(.sl (.x 1)), (.i .i64 (.x 10)), (.i .i64 (.x 11)), (.i .i64 (.x 12)), (.i .i64 (.x 13)), (.i .i64 (.x 14))])) ⟨5, 0, 0, 0, 1, 0⟩
  (.ret (.tup [(.agg [(.i .u8 (.x 6)), (.i .i64 (.x 7)), (.i .i64 (.x 8)), (.i .i64 (.x 9)), (.s (.x 0))]), (.agg [(.sl (.x 1)), (.i .i64 (.x 10)), (.i .i64 (.x 11)), (.i .i64 (.x 12)), (.i .i64 (.x 13)), (.i .i64 (.x 14))])])))
  (.need (.c true) (.and (.le (.c (-9223372036854775808)) (.add (.x 0) (.c 1))) (.le (.add (.x 0) (.c 1)) (.c 9223372036854775807)))
  (.ret (.tup [(.agg [(.i .u8 (.x 6)), (.i .i64 (.x 7)), (.i .i64 (.x 8)), (.i .i64 (.x 9)), (.s (.x 0))]), (.agg [(.sl (.x 0)), (.i .i64 (.add (.x 0) (.c 1))), (.i .i64 (.x 1)), (.i .i64 (.x 2)), (.i .i64 (.x 3)), (.i .i64 (.x 4))])]))))))
theorem gen_rword6 : genFn ⟨true, []⟩ Tryz.prog (fun l => ([] : List LAnn).getD l ⟨[], [], []⟩) Tryz.f85 = fm_rword6 := by kernel_rfl
theorem ps_rword6 : freshPs Tryz.prog .zero Tryz.f85.params.toList = some ([(.agg [(.sl (.x 0)), (.i .i64 (.x 0)), (.i .i64 (.x 1)), (.i .i64 (.x 2)), (.i .i64 (.x 3)), (.i .i64 (.x 4))]), (.one (.i .u8 (.x 5)))], ⟨6, 0, 0, 0, 1, 0⟩) := by kernel_rfl
/-- The reference's state. -/
def rv (sl : Slc) (r : PS) : Value := .agg #[sl.val, .int .i64 r.a, .int .i64 r.d, .int .i64 r.f.1, .int .i64 r.f.2.1, .int .i64 r.f.2.2]
/-- A word begins with a letter. -/
def Letters (L : List Tok) : Prop := ∀ t ∈ L, t.k = 6 → ∃ c r, t.x = c :: r ∧ (kdi c.toNat = 1 ∨ kdi c.toNat = 2)
/-- The reference's state in memory. -/
structure RW (h : Hp) (sl : Slc) (L : List Tok) (r : PS) : Prop where
  tok : TS h sl L
  lw : LW L
  let' : Letters L
  len : L.length ≤ 1000000
  at' : r.a < L.length
  d0 : -1000000000 ≤ r.d
  d1 : r.d ≤ 1000000000
def rOpen (L : List Tok) (s : List UInt8) (r : PS) : PS :=
  if pIs L s r && decide (40 ≤ r.d) then pFail L 6 r else { pMust L s r with d := (pMust L s r).d + 1 }
theorem RW.le {h k : Hp} {sl : Slc} {L : List Tok} {r : PS} (W : RW h sl L r) (hl : HLe h k) : RW k sl L r :=
  ⟨W.tok.le hl, W.lw, W.let', W.len, W.at', W.d0, W.d1⟩
theorem RW.go {h : Hp} {sl : Slc} {L : List Tok} {r q : PS} {e : Int} (W : RW h sl L r) (A : Adv L r q e) (h0 : -1000000000 ≤ r.d + e) (h1 : r.d + e ≤ 1000000000) : RW h sl L q :=
  ⟨W.tok, W.lw, W.let', W.len, A.v W.at', by rw [A.d]; exact h0, by rw [A.d]; exact h1⟩
theorem RW.go0 {h : Hp} {sl : Slc} {L : List Tok} {r q : PS} (W : RW h sl L r) (A : Adv L r q 0) : RW h sl L q :=
  W.go A (by have := W.d0; omega) (by have := W.d1; omega)
theorem is_not8 {L : List Tok} {s : List UInt8} {p : PS} (h : pIs L s p = true) : (tk L p).k ≠ 8 := by
  unfold pIs at h
  simp only [Bool.and_eq_true, Bool.or_eq_true, beq_iff_eq] at h
  omega
def ctRNow : Ct Tryz.prog where
  f := 29
  spec := fun args h φ => ∃ sl L r, args = [rv sl r] ∧ RW h sl L r ∧ φ (tokv (tk L r)) h
  ok := by
    rintro args h φ w ⟨sl, L, r, rfl, W, hφ⟩ hH
    refine by_fm Tryz.func29 gen_rnow ps_rnow [] φ (noInv) (noMeas) ⟨[(r.a : Int), r.d, r.f.1, r.f.2.1, r.f.2.2], [], [], [], [sl], [], h, noM⟩ ⟨rfl, rfl, rfl, rfl, rfl, rfl⟩ ones_nil ?_ w hH rfl
    generalize hE : (⟨specOf _, _, _, _⟩ : Env) = E
    have ep : E.post = φ := by rw [← hE]
    clear hE
    unfold fm_rnow
    have ha := W.at'
    obtain ⟨tb, c, TT, y, rfl, ht⟩ := W.tok.slc ha
    have hr := tok_read ht ha
    have haz : (r.a : Int) < L.length := by omega
    rw [← then_step]
    iterate 9 (try simp only [then_step]; try simp [go_sem, haz, ep, hr])
    exact hφ
def ctRBad : Ct Tryz.prog where
  f := 34
  spec := fun args h φ => ∃ sl r, args = [rv sl r] ∧ φ (.bool r.bad) h
  ok := by
    rintro args h φ w ⟨sl, r, rfl, hφ⟩ hH
    refine by_fm Tryz.func34 gen_rbad ps_rbad [] φ (noInv) (noMeas) ⟨[(r.a : Int), r.d, r.f.1, r.f.2.1, r.f.2.2], [], [], [], [sl], [], h, noM⟩ ⟨rfl, rfl, rfl, rfl, rfl, rfl⟩ ones_nil ?_ w hH rfl
    generalize hE : (⟨specOf _, _, _, _⟩ : Env) = E
    have ep : E.post = φ := by rw [← hE]
    clear hE
    unfold fm_rbad
    rw [← then_step]
    iterate 3 (try simp only [then_step]; try simp [go_sem, ep])
    exact hφ
def ctRFail : Ct Tryz.prog where
  f := 33
  spec := fun args h φ => ∃ sl L r e, args = [rv sl r, .int .i64 e] ∧ RW h sl L r ∧ φ (rv sl (pFail L e r)) h
  ok := by
    rintro args h φ w ⟨sl, L, r, e, rfl, W, hφ⟩ hH
    refine by_fm Tryz.func33 gen_rfail ps_rfail [ctRBad, ctRNow] φ (noInv) (noMeas) ⟨[(r.a : Int), r.d, r.f.1, r.f.2.1, r.f.2.2, e], [], [], [], [sl], [], h, noM⟩ ⟨rfl, rfl, rfl, rfl, rfl, rfl⟩ ones_nil ?_ w hH rfl
    generalize hE : (⟨specOf _, _, _, _⟩ : Env) = E
    have s_ctRBad : E.spec 34 = (ctRBad).spec := by rw [← hE]; rfl
    have s_ctRNow : E.spec 29 = (ctRNow).spec := by rw [← hE]; rfl
    have ep : E.post = φ := by rw [← hE]
    clear hE
    unfold fm_rfail
    rw [th_call, if_pos (by rfl), s_ctRBad]
    refine ⟨sl, r, rfl, ?_⟩
    unfold pFail at hφ
    cases hc : r.bad with
    | true =>
      rw [hc, if_pos rfl] at hφ
      simp [go_sem]
      rw [then_step, th_ite, if_neg (by simp [go_sem])]
      simp only [then_step]; simp [go_sem, ep]
      exact hφ
    | false =>
      rw [hc, if_neg (by decide)] at hφ
      simp [go_sem]
      rw [then_step, th_ite, if_pos (by simp [go_sem])]
      rw [then_step, th_call, if_pos (by rfl), s_ctRNow]
      refine ⟨sl, L, r, rfl, W, ?_⟩
      simp [go_sem, tokv, tkv]
      rw [then_step, th_call, if_pos (by rfl), s_ctRNow]
      refine ⟨sl, L, r, rfl, W, ?_⟩
      simp [go_sem, tokv, tkv]
      simp only [then_step]; simp [go_sem, ep]
      exact hφ
def ctRIs : Ct Tryz.prog where
  f := 28
  spec := fun args h φ => ∃ sl L r s, args = [rv sl r, .string (B s)] ∧ RW h sl L r ∧ φ (.bool (pIs L s r)) h
  ok := by
    rintro args h φ w ⟨sl, L, r, s, rfl, W, hφ⟩ hH
    refine by_fm Tryz.func28 gen_ris ps_ris [ctRNow, ctRBad] φ (noInv) (noMeas) ⟨[(r.a : Int), r.d, r.f.1, r.f.2.1, r.f.2.2], [], [s], [], [sl], [], h, noM⟩ ⟨rfl, rfl, rfl, rfl, rfl, rfl⟩ ones_nil ?_ w hH rfl
    generalize hE : (⟨specOf _, _, _, _⟩ : Env) = E
    have s_ctRNow : E.spec 29 = (ctRNow).spec := by rw [← hE]; rfl
    have s_ctRBad : E.spec 34 = (ctRBad).spec := by rw [← hE]; rfl
    have ep : E.post = φ := by rw [← hE]
    clear hE
    unfold fm_ris
    rw [th_call, if_pos (by rfl), s_ctRNow]
    refine ⟨sl, L, r, rfl, W, ?_⟩
    simp [go_sem, tokv, tkv]
    rw [then_step, th_call, if_pos (by rfl), s_ctRBad]
    refine ⟨sl, r, rfl, ?_⟩
    iterate 3 (try simp only [then_step]; try simp [go_sem, ep])
    exact hφ
def ctRMust : Ct Tryz.prog where
  f := 30
  spec := fun args h φ => ∃ sl L r s, args = [rv sl r, .string (B s)] ∧ RW h sl L r ∧ φ (rv sl (pMust L s r)) h
  ok := by
    rintro args h φ w ⟨sl, L, r, s, rfl, W, hφ⟩ hH
    refine by_fm Tryz.func30 gen_rmust ps_rmust [ctRIs, ctRFail] φ (noInv) (noMeas) ⟨[(r.a : Int), r.d, r.f.1, r.f.2.1, r.f.2.2], [], [s], [], [sl], [], h, noM⟩ ⟨rfl, rfl, rfl, rfl, rfl, rfl⟩ ones_nil ?_ w hH rfl
    generalize hE : (⟨specOf _, _, _, _⟩ : Env) = E
    have s_ctRIs : E.spec 28 = (ctRIs).spec := by rw [← hE]; rfl
    have s_ctRFail : E.spec 33 = (ctRFail).spec := by rw [← hE]; rfl
    have ep : E.post = φ := by rw [← hE]
    clear hE
    unfold fm_rmust
    have hl := W.len
    have ha := W.at'
    rw [th_call, if_pos (by rfl), s_ctRIs]
    refine ⟨sl, L, r, s, rfl, W, ?_⟩
    unfold pMust at hφ
    cases hc : pIs L s r with
    | true =>
      rw [hc, if_pos rfl] at hφ
      unfold pPass at hφ
      rw [if_neg (is_not8 hc)] at hφ
      simp [go_sem]
      rw [then_step, th_ite, if_neg (by simp [go_sem])]
      rw [then_step, th_need]
      refine ⟨by simp [go_sem]; omega, ?_⟩
      simp only [then_step]; simp [go_sem, ep]
      simpa [rv] using hφ
    | false =>
      rw [hc, if_neg (by decide)] at hφ
      simp [go_sem]
      rw [then_step, th_ite, if_pos (by simp [go_sem])]
      rw [then_step, th_call, if_pos (by rfl), s_ctRFail]
      refine ⟨sl, L, r, 5, rfl, W, ?_⟩
      simp [go_sem, rv]
      simp only [then_step]; simp [go_sem, ep]
      exact hφ
end Go.Proofs.YthlakehilhpojaaGreatDoor
