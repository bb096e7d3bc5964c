/- hindcastlaw07: texts joined: ParO, ParP, ParS, ParT, ParU, LexT, LexU, LexP, LexV, ParV, TreF, TreN, TreT, TreR, TreS, TreB, TreC. -/
import Derived.Test.YtllbpdllkkcajaaGreatDoorPtg
namespace Go.Proofs.YtllbpdllkkcajaaGreatDoor
open Go.RowKit
attribute [local go_sem] says_tt says_ff th_need th_ite th_call th_callK th_load th_store says_ret says_again BE.den IE.den SE.den LE.den AE.den CE.den PE.den VE.den KV.val Got.den Got.cnt exI allI exL allL Ctx.push Ctx.heap Ctx.cut Ctx.bare Ctx.mark Inc.blank List.getD_cons_zero List.getD_cons_succ List.cons_append List.nil_append List.append_nil List.map_cons List.map_nil List.replicate_zero List.replicate_succ specOf specL dynId ltB_t leB_t ltB_f leB_f slc_val slc_nil slc_inj pt_val pt_nil hle_noHeap hle_refl hread_set hwrite_set set_same set_set noHeap_at B_inj ones_nil and_assoc
def fm_ppost : Fm := (.call (.c true) false 145 [(.one (.pt 0))] (.p (.one (.pt 1))) ⟨0, 0, 0, 0, 0, 1⟩
  (.loop 0 ⟨[], [], [], [], [], [(.c .nilp), (.pt 1)]⟩
  (.call (.c true) false 44 [(.one (.pt 0))] (.p (.agg [(.i .u8 (.x 0)), (.i .i64 (.x 1)), (.i .i64 (.x 2)), (.i .i64 (.x 3)), (.s (.x 0))])) ⟨4, 0, 1, 0, 0, 0⟩
  (.call (.c true) false 69 [(.one (.pt 0)), (.one (.s (.c [91])))] (.p (.one (.b (.x 0)))) ⟨0, 1, 0, 0, 0, 0⟩
  (.ite (.x 0)
  (.call (.c true) false 108 [(.one (.pt 0)), (.one (.s (.c [91])))] (.p (.agg [(.i .u8 (.x 4)), (.i .i64 (.x 5)), (.i .i64 (.x 6)), (.i .i64 (.x 7)), (.s (.x 1))])) ⟨4, 0, 1, 0, 0, 0⟩
  (.call (.c true) false 22 [(.one (.pt 0))] (.p (.one (.pt 4))) ⟨0, 0, 0, 0, 0, 1⟩
  (.call (.c true) false 110 [(.one (.pt 0)), (.one (.s (.c [93])))] (.tup []) ⟨0, 0, 0, 0, 0, 0⟩
  (.mk [(.pt 3), (.pt 4)] 71 2
  (.call (.c true) false 128 [(.one (.i .u8 (.c 28))), (.agg [(.i .u8 (.x 0)), (.i .i64 (.x 1)), (.i .i64 (.x 2)), (.i .i64 (.x 3)), (.s (.x 0))]), (.one (.sl (.x 0)))] (.p (.one (.pt 5))) ⟨0, 0, 0, 0, 0, 1⟩
  (.again 0 ⟨0, 0, 0, 0, 0, 2⟩ ⟨0, 0, 0, 0, 0, 4⟩ ⟨[], [], [], [], [], [(.pt 2), (.pt 5)]⟩))))))
  (.call (.c true) false 111 [(.one (.pt 0)), (.one (.s (.c [46])))] (.p (.one (.b (.x 1)))) ⟨0, 1, 0, 0, 0, 0⟩
  (.ite (.x 1)
  (.call (.c true) false 107 [(.one (.pt 0)), (.one (.i .u8 (.c 1)))] (.p (.agg [(.i .u8 (.x 4)), (.i .i64 (.x 5)), (.i .i64 (.x 6)), (.i .i64 (.x 7)), (.s (.x 1))])) ⟨4, 0, 1, 0, 0, 0⟩
  (.mk [(.pt 3)] 71 1
  (.call (.c true) false 106 [(.one (.i .u8 (.c 29))), (.agg [(.i .u8 (.x 0)), (.i .i64 (.x 1)), (.i .i64 (.x 2)), (.i .i64 (.x 3)), (.s (.x 0))]), (.one (.s (.x 1))), (.one (.sl (.x 0)))] (.p (.one (.pt 4))) ⟨0, 0, 0, 0, 0, 1⟩
  (.again 0 ⟨0, 0, 0, 0, 0, 2⟩ ⟨0, 0, 0, 0, 0, 4⟩ ⟨[], [], [], [], [], [(.pt 2), (.pt 4)]⟩))))
  (.ret (.p (.one (.pt 3)))))))))))
theorem gen_ppost : genFn ⟨true, []⟩ Tryz.prog (fun l => ([⟨[3, 2], [8, 9, 4, 12, 13, 11, 14, 15, 16, 17, 5, 18, 19, 20, 21, 22, 23, 24, 26, 27, 25, 28, 29, 30, 31, 32, 33, 34, 10], [4]⟩] : List LAnn).getD l ⟨[], [], []⟩) Tryz.f127 = fm_ppost := by kernel_rfl
theorem ps_ppost : freshPs Tryz.prog .zero Tryz.f127.params.toList = some ([(.one (.pt 0))], ⟨0, 0, 0, 0, 0, 1⟩) := by kernel_rfl
def fm_pcall : Fm := (.call (.c true) false 106 [(.one (.i .u8 (.c 27))), (.agg [(.i .u8 (.x 0)), (.i .i64 (.x 1)), (.i .i64 (.x 2)), (.i .i64 (.x 3)), (.s (.x 0))]), (.one (.s (.x 0))), (.one (.sl .nil))] (.p (.one (.pt 1))) ⟨0, 0, 0, 0, 0, 1⟩
  (.call (.c true) false 108 [(.one (.pt 0)), (.one (.s (.c [40])))] (.p (.agg [(.i .u8 (.x 4)), (.i .i64 (.x 5)), (.i .i64 (.x 6)), (.i .i64 (.x 7)), (.s (.x 1))])) ⟨4, 0, 1, 0, 0, 0⟩
  (.loop 0 ⟨[], [(.c true)], [], [], [], []⟩
  (.call (.c true) false 46 [(.one (.pt 0))] (.p (.one (.b (.x 1)))) ⟨0, 1, 0, 0, 0, 0⟩
  (.call (.not (.x 1)) false 69 [(.one (.pt 0)), (.one (.s (.c [41])))] (.p (.one (.b (.x 2)))) ⟨0, 1, 0, 0, 0, 0⟩
  (.ite (.and (.not (.x 1)) (.not (.x 2)))
  (.ite (.not (.x 0))
  (.call (.c true) false 105 [(.one (.pt 0)), (.one (.s (.c [44])))] (.p (.agg [(.i .u8 (.x 8)), (.i .i64 (.x 9)), (.i .i64 (.x 10)), (.i .i64 (.x 11)), (.s (.x 2))])) ⟨4, 0, 1, 0, 0, 0⟩
  (.load (.c true) (.pt 1 6) 1 [(.sl (.x 0))] ⟨0, 0, 0, 0, 1, 0⟩
  (.need (.c true) (.nnp 1)
  (.need (.c true) (.nnp 1)
  (.callK (.c true) [((.c true), (.pt 1 6), 1)] 22 [(.one (.pt 0))] (.p (.one (.pt 2))) ⟨0, 0, 0, 0, 0, 1⟩
  (.mk [(.pt 2)] 71 1
  (.app (.x 0) (.x 1) 1 8 71
  (.need (.c true) (.nnp 1)
  (.need (.c true) (.nnp 1)
  (.store (.pt 1 6) [(.sl (.x 2))]
  (.again 0 ⟨8, 0, 2, 0, 0, 2⟩ ⟨8, 1, 2, 0, 0, 2⟩ ⟨[], [(.c false)], [], [], [], []⟩)))))))))))
  (.load (.c true) (.pt 1 6) 1 [(.sl (.x 0))] ⟨0, 0, 0, 0, 1, 0⟩
  (.need (.c true) (.nnp 1)
  (.need (.c true) (.nnp 1)
  (.callK (.c true) [((.c true), (.pt 1 6), 1)] 22 [(.one (.pt 0))] (.p (.one (.pt 2))) ⟨0, 0, 0, 0, 0, 1⟩
  (.mk [(.pt 2)] 71 1
  (.app (.x 0) (.x 1) 1 8 71
  (.need (.c true) (.nnp 1)
  (.need (.c true) (.nnp 1)
  (.store (.pt 1 6) [(.sl (.x 2))]
  (.again 0 ⟨8, 0, 2, 0, 0, 2⟩ ⟨8, 1, 2, 0, 0, 2⟩ ⟨[], [(.c false)], [], [], [], []⟩)))))))))))
  (.call (.c true) false 110 [(.one (.pt 0)), (.one (.s (.c [41])))] (.tup []) ⟨0, 0, 0, 0, 0, 0⟩
  (.ret (.p (.one (.pt 1)))))))))))
theorem gen_pcall : genFn ⟨true, []⟩ Tryz.prog (fun l => ([⟨[6], [13, 14, 15, 16, 17, 18, 19, 20, 21, 22, 23, 24, 25, 26, 27, 28, 29, 30, 31, 32, 33, 34, 35], [10]⟩] : List LAnn).getD l ⟨[], [], []⟩) Tryz.f159 = fm_pcall := by kernel_rfl
theorem ps_pcall : freshPs Tryz.prog .zero Tryz.f159.params.toList = some ([(.one (.pt 0)), (.agg [(.i .u8 (.x 0)), (.i .i64 (.x 1)), (.i .i64 (.x 2)), (.i .i64 (.x 3)), (.s (.x 0))])], ⟨4, 0, 1, 0, 0, 1⟩) := by kernel_rfl
def postInv (h : Hp) (b : Nat) (sl : Slc) (L : List Tok) (t : Tr) (q : PS) (n : Nat) : Nat → Ctx → Prop := fun _ C =>
  ∃ x0 x1 v x p1 k1 g1 m1, C = ⟨[], [], [], [], [], [some (b, 0), x0, x1, some (v, 0)], k1, noM⟩ ∧ At h b sl L p1 k1 g1 ∧ It g1 v x ∧ m1 ≤ n ∧ pPost L m1 x p1 = some (t, q) ∧ p1.d + m1 ≤ 1000000000000
set_option maxHeartbeats 4000000 in
theorem post_ok {n : Nat} (HE : ExprOk n) (HA : AtomOk n) : PostOk n := by
  rintro args h φ w ⟨m, hm, b, sl, L, p, t, q, rfl, W, hr, hd, hφ⟩ hH
  refine by_fm Tryz.func127 gen_ppost ps_ppost [ctNow, ctIs, ctOpen, ctShut, ctMake1, ctTry, ctPWord, ctNamed, ctExpr HE, ctAtom HA] φ (postInv h b sl L t q n) (fun _ => measP b L.length) ⟨[], [], [], [], [], [some (b, 0)], h, noM⟩ ⟨rfl, rfl, rfl, rfl, rfl, rfl⟩ ones_nil ?_ w hH rfl
  generalize hE : (⟨specOf _, _, _, _⟩ : Env) = E
  have s_ctNow : E.spec 44 = (ctNow).spec := by rw [← hE]; rfl
  have s_ctIs : E.spec 69 = (ctIs).spec := by rw [← hE]; rfl
  have s_ctOpen : E.spec 108 = (ctOpen).spec := by rw [← hE]; rfl
  have s_ctShut : E.spec 110 = (ctShut).spec := by rw [← hE]; rfl
  have s_ctMake1 : E.spec 128 = (ctMake1).spec := by rw [← hE]; rfl
  have s_ctTry : E.spec 111 = (ctTry).spec := by rw [← hE]; rfl
  have s_ctPWord : E.spec 107 = (ctPWord).spec := by rw [← hE]; rfl
  have s_ctNamed : E.spec 106 = (ctNamed).spec := by rw [← hE]; rfl
  have s_ctE : E.spec 22 = (ctExpr HE).spec := by rw [← hE]; rfl
  have s_ctA : E.spec 145 = (ctAtom HA).spec := by rw [← hE]; rfl
  have ep : E.post = φ := by rw [← hE]
  have ei : E.inv = (postInv h b sl L t q n) := by rw [← hE]
  have em : E.meas = (fun _ => measP b L.length) := by rw [← hE]
  clear hE
  unfold fm_ppost
  unfold runPost at hr
  simp only [Option.bind_eq_some_iff] at hr
  obtain ⟨⟨x, r⟩, h1, h2⟩ := hr
  rw [th_call, if_pos (by rfl), s_ctA]
  refine ⟨m, hm, b, sl, L, p, x, r, rfl, W, h1, hd, fun v k g A1 hI => ?_⟩
  simp [go_sem, ptrv]; refine ⟨some (v, 0), rfl, ?_⟩
  have hrd := ((advE W.lw m).2.2.2.2.1 _ _ _ h1).d
  rw [then_step]
  refine loop_intro ?_ ?_
  · rw [ei]
    exact ⟨some (v, 0), none, v, x, r, k, g, m, rfl, A1, hI, by omega, h2, by dsimp only at *; omega⟩
  rw [ei, em]
  rintro i' bb ss v' ll pp hh0 M ⟨x0, x1, v, x, p1, k1, g1, m1, hC, A1, hI, hm1, hb1, hd1⟩ hM
  cases hC
  have hM : M 0 = mu L p1 := hM.trans (measP_eq A1.pw rfl)
  clear h1 h2
  cases m1 with
  | zero => cases hb1
  | succ m1 =>
  rw [pPost] at hb1
  rw [th_call, if_pos (by rfl), s_ctNow]
  refine ⟨b, sl, L, p1, rfl, A1.pw, ?_⟩
  simp [go_sem, tokv, tkv]
  rw [then_step, th_call, if_pos (by rfl), s_ctIs]
  refine ⟨b, sl, L, p1, [91], rfl, A1.pw, ?_⟩
  have hd0 := A1.pw.d0
  cases c1 : pIs L [91] p1 with
  | true =>
    rw [if_pos c1] at hb1
    simp only [Option.bind_eq_some_iff] at hb1
    obtain ⟨⟨y, r1⟩, h3, h4⟩ := hb1
    simp [go_sem]
    rw [then_step, th_ite, if_pos (by simp [go_sem])]
    rw [then_step, th_call, if_pos (by rfl), s_ctOpen]
    refine ⟨b, sl, L, p1, [91], rfl, A1.pw, ?_⟩
    simp [go_sem, tokv, tkv]
    have Ao := adv_open W.lw [91] p1
    have hod := Ao.d
    have A2 := A1.open [91] (by omega)
    rw [then_step, th_call, if_pos (by rfl), s_ctE]
    refine ⟨m1, by omega, b, sl, L, _, y, r1, rfl, A2.pw, h3, by omega, fun v2 k2 g2 A3 hI2 => ?_⟩
    simp [go_sem, ptrv]; refine ⟨some (v2, 0), rfl, ?_⟩
    have A4 := A2.then A3
    have Ad := (advE W.lw m1).1 _ _ _ _ h3
    have hrd1 := Ad.d
    rw [then_step, th_call, if_pos (by rfl), s_ctShut]
    refine ⟨b, sl, L, r1, [93], rfl, A4.pw, ?_⟩
    have A5 := A4.shut [93] (by omega)
    have As := adv_shut W.lw [93] r1
    have hsd := As.d
    simp [go_sem]
    rw [then_step, th_mk]
    intro kb hkb
    simp [go_sem]
    rw [then_step, th_call, if_pos (by rfl), s_ctMake1]
    refine ⟨28, tk L p1, ⟨some (kb, 0), 2, 2⟩, rfl, fun v3 hv3 => ?_⟩
    simp [go_sem, ptrv]; refine ⟨some (v3, 0), rfl, ?_⟩
    obtain ⟨A6, I6⟩ := A5.node (vs := [v, v2]) (ts := [x, y]) hkb ⟨It.le (le_uni _ _) _ _ hI, It.le (A2.disj A3) _ _ hI2, trivial⟩ (by simp) hv3 28 (tk L p1).l (tk L p1).c 0 []
    rw [then_step, says_again, ei, em]
    refine ⟨⟨_, _, v3, _, pShut L [93] r1, _, _, m1, rfl, A6, I6, by omega, h4, by omega⟩, ?_⟩
    show measP b L.length _ < M 0
    rw [hM]
    refine Nat.lt_of_le_of_lt (Nat.le_of_eq (measP_eq A6.pw rfl)) ?_
    have m1 := mu_lt (went_open c1) (is_k c1).1 A1.pw.at'
    have m2 := mu_le (Ad.trans As)
    omega
  | false =>
  rw [c1, if_neg (by decide)] at hb1
  simp [go_sem]
  rw [then_step, th_ite, if_neg (by simp [go_sem])]
  rw [then_step, th_call, if_pos (by rfl), s_ctTry]
  refine ⟨b, sl, L, p1, [46], rfl, A1.pw, ?_⟩
  cases c2 : pIs L [46] p1 with
  | true =>
    rw [if_pos c2] at hb1
    rw [if_pos rfl]
    simp [go_sem]
    rw [then_step, th_ite, if_pos (by simp [go_sem])]
    have A2 := A1.pass
    rw [then_step, th_call, if_pos (by rfl), s_ctPWord]
    refine ⟨b, sl, L, _, 1, rfl, A2.pw, ?_⟩
    simp [go_sem, tokv, tkv]
    have A3 := A2.word 1
    rw [set_set] at A3
    rw [then_step, th_mk]
    intro kb hkb
    simp [go_sem]
    rw [then_step, th_call, if_pos (by rfl), s_ctNamed]
    refine ⟨29, tk L p1, (tk L (pPass L p1)).x, ⟨some (kb, 0), 1, 1⟩, rfl, fun v3 hv3 => ?_⟩
    simp [go_sem, ptrv]; refine ⟨some (v3, 0), rfl, ?_⟩
    obtain ⟨A6, I6⟩ := A3.node (vs := [v]) (ts := [x]) hkb ⟨hI, trivial⟩ (by simp) hv3 29 (tk L p1).l (tk L p1).c 0 (tk L (pPass L p1)).x
    have Ap := adv_pass W.lw p1
    have Aw := adv_word W.lw 1 (pPass L p1)
    have hwd := (Ap.trans Aw).d
    rw [then_step, says_again, ei, em]
    refine ⟨⟨_, _, v3, _, _, _, _, m1, rfl, A6, I6, by omega, hb1, by omega⟩, ?_⟩
    show measP b L.length _ < M 0
    rw [hM]
    refine Nat.lt_of_le_of_lt (Nat.le_of_eq (measP_eq A6.pw rfl)) ?_
    have m1 := mu_lt (went_is c2) (is_k c2).1 A1.pw.at'
    have m2 := mu_le Aw
    omega
  | false =>
  rw [c2, if_neg (by decide)] at hb1
  cases hb1
  rw [if_neg (by decide)]
  simp [go_sem]
  rw [then_step, th_ite, if_neg (by simp [go_sem])]
  simp only [then_step]; simp [go_sem, ep]
  exact hφ v _ _ A1 hI
def runCall (L : List Tok) (n : Nat) (t0 : Tok) (p : PS) : Option (Tr × PS) := (pArgs L n true [] (pOpen L [40] p)).map fun r => (nd 27 t0 0 t0.x r.1, pShut L [41] r.2)
/-- A function that takes a tree, behind a token. -/
def prodT (f : List Tok → Nat → Tok → PS → Option (Tr × PS)) (n : Nat) (args : List Value) (h : Hp) (φ : Value → Hp → Prop) : Prop :=
  ∃ m, m ≤ n ∧ ∃ b sl L p t q t0, args = [ptrv b, tokv t0] ∧ PW h b sl L p ∧ f L m t0 p = some (t, q) ∧ p.d + m + 1 ≤ 1000000000000 ∧ ∀ v k g, At h b sl L q k g → It g v t → φ (ptrv v) k
def CallOk (n : Nat) : Prop := ∀ args h φ w, prodT runCall n args h φ → Holds h w → Calls Tryz.prog 159 args.toArray w fun e w' => ∃ v k, e = .returned v ∧ φ v k ∧ Holds k w' ∧ Fr w.heap.size h k w w'
def ctCall {n : Nat} (H : CallOk n) : Ct Tryz.prog := ⟨159, prodT runCall n, H⟩
def callInv (h : Hp) (b : Nat) (sl : Slc) (L : List Tok) (t0 : Tok) (rl : List Tr) (r : PS) (d : Int) (n : Nat) : Nat → Ctx → Prop := fun _ C =>
  ∃ i4 i5 i6 i7 s1 first o s vs ts p1 k1 g1 m1, C = ⟨[t0.k, t0.l, t0.c, t0.n, i4, i5, i6, i7], [first], [t0.x, s1], [], [], [some (b, 0), some (o, 0)], k1, noM⟩ ∧ Out h b sl L p1 k1 g1 o 27 t0.l t0.c 0 t0.x s vs ts ∧ m1 ≤ n ∧
    pArgs L m1 first ts p1 = some (rl, r) ∧ p1.d + m1 ≤ 1000000000000 ∧ vs.length + mu L p1 ≤ L.length ∧ p1.d = d
theorem mu_top (L : List Tok) (p : PS) : mu L p ≤ L.length := by unfold mu; split <;> omega
set_option maxHeartbeats 4000000 in
theorem call_ok {n : Nat} (HE : ExprOk n) : CallOk n := by
  rintro args h φ w ⟨m, hm, b, sl, L, p, t, q, t0, rfl, W, hr, hd, hφ⟩ hH
  unfold runCall at hr
  simp only [Option.map_eq_some_iff] at hr
  obtain ⟨⟨rl, r⟩, h1, h2⟩ := hr
  cases h2
  refine by_fm Tryz.func159 gen_pcall ps_pcall [ctNamed, ctOpen, ctBad, ctIs, ctMust, ctShut, ctExpr HE] φ (callInv h b sl L t0 rl r (p.d + 1) n) (fun _ => measP b L.length) ⟨[t0.k, t0.l, t0.c, t0.n], [], [t0.x], [], [], [some (b, 0)], h, noM⟩ ⟨rfl, rfl, rfl, rfl, rfl, rfl⟩ ones_nil ?_ w hH rfl
  generalize hE : (⟨specOf _, _, _, _⟩ : Env) = E
  have s_ctNamed : E.spec 106 = (ctNamed).spec := by rw [← hE]; rfl
  have s_ctOpen : E.spec 108 = (ctOpen).spec := by rw [← hE]; rfl
  have s_ctBad : E.spec 46 = (ctBad).spec := by rw [← hE]; rfl
  have s_ctIs : E.spec 69 = (ctIs).spec := by rw [← hE]; rfl
  have s_ctMust : E.spec 105 = (ctMust).spec := by rw [← hE]; rfl
  have s_ctShut : E.spec 110 = (ctShut).spec := by rw [← hE]; rfl
  have s_ctE : E.spec 22 = (ctExpr HE).spec := by rw [← hE]; rfl
  have ep : E.post = φ := by rw [← hE]
  have ei : E.inv = (callInv h b sl L t0 rl r (p.d + 1) n) := by rw [← hE]
  have em : E.meas = (fun _ => measP b L.length) := by rw [← hE]
  clear hE
  unfold fm_pcall
  have A := At.start W
  have hd0 := W.d0
  have hlen := W.len
  rw [th_call, if_pos (by rfl), s_ctNamed]
  refine ⟨27, t0, t0.x, ⟨none, 0, 0⟩, rfl, fun o ho => ?_⟩
  simp [go_sem, ptrv]; refine ⟨some (o, 0), rfl, ?_⟩
  have O := A.out ho 27 t0.l t0.c 0 t0.x
  rw [then_step, th_call, if_pos (by rfl), s_ctOpen]
  refine ⟨b, sl, L, p, [40], rfl, O.at'.pw, ?_⟩
  simp [go_sem, tokv, tkv]
  have hod := (adv_open W.lw [40] p).d
  have O1 := O.open [40] (by omega)
  rw [then_step]
  refine loop_intro ?_ ?_
  · rw [ei]
    exact ⟨_, _, _, _, _, true, o, ⟨none, 0, 0⟩, [], [], _, _, _, m, rfl, O1, hm, h1, by omega, by have := mu_top L (pOpen L [40] p); simp; omega, hod⟩
  rw [ei, em]
  rintro i' bb ss v' ll pp hh0 M ⟨i4, i5, i6, i7, s1, first, o, s, vs, ts, p1, k1, g1, m1, hC, O1, hm1, hb1, hd1, hmu, hpd⟩ hM
  cases hC
  have hM : M 0 = mu L p1 := hM.trans (measP_eq O1.at'.pw rfl)
  clear h1 hod O ho
  cases m1 with
  | zero => cases hb1
  | succ m1 =>
  rw [pArgs] at hb1
  have stop : (p1.bad || pIs L [41] p1) = true → ∀ bs M, Then E (.call (.c true) false 110 [(.one (.pt 0)), (.one (.s (.c [41])))] (.tup []) ⟨0, 0, 0, 0, 0, 0⟩ (.ret (.p (.one (.pt 1))))) ⟨[t0.k, t0.l, t0.c, t0.n, i4, i5, i6, i7], bs, [t0.x, s1], [], [], [some (b, 0), some (o, 0)], hh0, M⟩ := by
    intro hc bs M
    rw [if_pos hc] at hb1
    cases hb1
    rw [then_step, th_call, if_pos (by rfl), s_ctShut]
    refine ⟨b, sl, L, _, [41], rfl, O1.at'.pw, ?_⟩
    have O2 := O1.shut [41] (by omega)
    simp [go_sem]
    simp only [then_step]; simp [go_sem, ep]
    obtain ⟨g', A', I'⟩ := O2.done
    exact hφ o _ g' A' I'
  rw [th_call, if_pos (by rfl), s_ctBad]
  refine ⟨b, sl, L, p1, rfl, O1.at'.pw, ?_⟩
  simp [go_sem]
  cases c0 : p1.bad with
  | true =>
    rw [then_step, th_call, if_neg (by simp [go_sem])]
    simp [go_sem]
    rw [then_step, th_ite, if_neg (by simp [go_sem])]
    exact stop (by rw [c0]; rfl) _ _
  | false =>
  rw [then_step, th_call, if_pos (by simp [go_sem]), s_ctIs]
  refine ⟨b, sl, L, p1, [41], rfl, O1.at'.pw, ?_⟩
  simp [go_sem]
  cases c1 : pIs L [41] p1 with
  | true =>
    rw [then_step, th_ite, if_neg (by simp [go_sem])]
    exact stop (by rw [c1]; simp) _ _
  | false =>
  clear stop
  rw [if_neg (by rw [c0, c1]; decide)] at hb1
  simp only [Option.bind_eq_some_iff] at hb1
  obtain ⟨⟨y, r1⟩, h3, h4⟩ := hb1
  rw [then_step, th_ite, if_pos (by simp [go_sem])]
  have hmp := mu_pos c0 O1.at'.pw.at'
  have more : ∀ (p2 : PS) (k2 : Hp) (bs : List Bool) (is' : List Int) (ss' : List (List UInt8)), Out h b sl L p2 k2 g1 o 27 t0.l t0.c 0 t0.x s vs ts → Adv L p1 p2 0 → pBin L m1 1 p2 = some (y, r1) →
      Then E (Fm.load (.c true) (.pt 1 6) 1 [(.sl (.x 0))] ⟨0, 0, 0, 0, 1, 0⟩
  (.need (.c true) (.nnp 1)
  (.need (.c true) (.nnp 1)
  (.callK (.c true) [((.c true), (.pt 1 6), 1)] 22 [(.one (.pt 0))] (.p (.one (.pt 2))) ⟨0, 0, 0, 0, 0, 1⟩
  (.mk [(.pt 2)] PI 1
  (.app (.x 0) (.x 1) 1 8 PI
  (.need (.c true) (.nnp 1)
  (.need (.c true) (.nnp 1)
  (.store (.pt 1 6) [(.sl (.x 2))]
  (.again 0 ⟨8, 0, 2, 0, 0, 2⟩ ⟨8, 1, 2, 0, 0, 2⟩ ⟨[], [(.c false)], [], [], [], []⟩)))))))))) ⟨[t0.k, t0.l, t0.c, t0.n, i4, i5, i6, i7] ++ is', bs, [t0.x, s1] ++ ss', [], [], [some (b, 0), some (o, 0)], k2, M⟩ := by
    intro p2 k2 bs is' ss' O2 Ap2 h3
    have hpd2 := Ap2.d
    have hbl := O2.blk
    rw [then_step, th_load, if_pos (by rfl)]
    simp [go_sem, hread_of hbl, itc]
    rw [then_step, th_need]
    refine ⟨by simp [go_sem], ?_⟩
    rw [then_step, th_need]
    refine ⟨by simp [go_sem], ?_⟩
    rw [then_step, th_callK, if_pos (by rfl), s_ctE]
    refine ⟨m1, by omega, b, sl, L, p2, y, r1, rfl, O2.at'.pw, h3, by omega, fun v2 k3 g3 A3 hI2 => ?_⟩
    have O3 := O2.then A3
    have Ad := (advE W.lw m1).1 _ _ _ _ h3
    have hrd1 := Ad.d
    have hbl3 := O3.blk
    simp [go_sem, ptrv]
    refine ⟨by rw [hread_of hbl, hread_of hbl3], some (v2, 0), rfl, ?_⟩
    rw [then_step, th_mk]
    intro kb hkb
    simp [go_sem]
    rw [then_step]
    have hkl := mu_top L p1
    refine out_app O3 (It.le (O2.at'.disj A3) _ _ hI2) (by omega) hkb rfl rfl rfl fun s' k4 hk4 O4 => ?_
    rw [th_need]
    refine ⟨by simp [go_sem], ?_⟩
    rw [then_step, th_need]
    refine ⟨by simp [go_sem], ?_⟩
    rw [then_step, th_store]
    refine ⟨_, by simp [go_sem, hwrite_of hk4, itc]; rfl, ?_⟩
    rw [then_step, says_again, ei, em]
    have hw := mu_went (((wentE W.lw m1).1 _ _ _ _ h3)) Ad O2.at'.pw.at'
    have hm2 := mu_le Ap2
    refine ⟨⟨_, _, _, _, _, false, o, s', vs ++ [v2], ts ++ [y], r1, _, _, m1, rfl, O4, by omega, h4, by omega, by simp; omega, by omega⟩, ?_⟩
    show measP b L.length _ < M 0
    rw [hM]
    refine Nat.lt_of_le_of_lt (Nat.le_of_eq (measP_eq O4.at'.pw rfl)) ?_
    omega
  cases first with
  | true =>
    rw [then_step, th_ite, if_neg (by simp [go_sem])]
    exact more p1 hh0 _ [] [] O1 (Adv.refl p1) h3
  | false =>
    rw [then_step, th_ite, if_pos (by simp [go_sem])]
    rw [then_step, th_call, if_pos (by rfl), s_ctMust]
    refine ⟨b, sl, L, p1, [44], rfl, O1.at'.pw, ?_⟩
    simp [go_sem, tokv, tkv]
    exact more (pMust L [44] p1) _ _ [_, _, _, _] [_] (O1.must [44]) (adv_must W.lw [44] p1) h3
def fm_pmake : Fm := (.call (.c true) false 44 [(.one (.pt 0))] (.p (.agg [(.i .u8 (.x 4)), (.i .i64 (.x 5)), (.i .i64 (.x 6)), (.i .i64 (.x 7)), (.s (.x 1))])) ⟨4, 0, 1, 0, 0, 0⟩
  (.call (.not (.eqI (.x 4) (.c 2))) false 69 [(.one (.pt 0)), (.one (.s (.c [91])))] (.p (.one (.b (.x 0)))) ⟨0, 1, 0, 0, 0, 0⟩
  (.ite (.and (.not (.eqI (.x 4) (.c 2))) (.not (.x 0)))
  (.call (.c true) false 45 [(.one (.pt 0)), (.one (.i .i64 (.c 5)))] (.tup []) ⟨0, 0, 0, 0, 0, 0⟩
  (.call (.c true) false 112 [(.one (.pt 0))] (.p (.one (.pt 1))) ⟨0, 0, 0, 0, 0, 1⟩
  (.mk [(.pt 1)] 71 1
  (.call (.c true) false 128 [(.one (.i .u8 (.c 32))), (.agg [(.i .u8 (.x 0)), (.i .i64 (.x 1)), (.i .i64 (.x 2)), (.i .i64 (.x 3)), (.s (.x 0))]), (.one (.sl (.x 0)))] (.p (.one (.pt 2))) ⟨0, 0, 0, 0, 0, 1⟩
  (.call (.c true) false 108 [(.one (.pt 0)), (.one (.s (.c [40])))] (.p (.agg [(.i .u8 (.x 8)), (.i .i64 (.x 9)), (.i .i64 (.x 10)), (.i .i64 (.x 11)), (.s (.x 2))])) ⟨4, 0, 1, 0, 0, 0⟩
  (.need (.c true) (.nnp 1)
  (.need (.c true) (.nnp 1)
  (.need (.c true) (.nnp 1)
  (.load (.c true) (.pt 1 0) 1 [(.i .u8 (.x 12))] ⟨1, 0, 0, 0, 0, 0⟩
  (.ite (.eqI (.x 12) (.c 20))
  (.load (.c true) (.pt 2 6) 1 [(.sl (.x 1))] ⟨0, 0, 0, 0, 1, 0⟩
  (.need (.c true) (.nnp 2)
  (.need (.c true) (.nnp 2)
  (.callK (.c true) [((.c true), (.pt 2 6), 1)] 22 [(.one (.pt 0))] (.p (.one (.pt 3))) ⟨0, 0, 0, 0, 0, 1⟩
  (.mk [(.pt 3)] 71 1
  (.app (.x 1) (.x 2) 1 8 71
  (.need (.c true) (.nnp 2)
  (.need (.c true) (.nnp 2)
  (.store (.pt 2 6) [(.sl (.x 3))]
  (.call (.c true) false 110 [(.one (.pt 0)), (.one (.s (.c [41])))] (.tup []) ⟨0, 0, 0, 0, 0, 0⟩
  (.ret (.p (.one (.pt 2))))))))))))))
  (.call (.c true) false 110 [(.one (.pt 0)), (.one (.s (.c [41])))] (.tup []) ⟨0, 0, 0, 0, 0, 0⟩
  (.ret (.p (.one (.pt 2)))))))))))))))
  (.call (.c true) false 112 [(.one (.pt 0))] (.p (.one (.pt 1))) ⟨0, 0, 0, 0, 0, 1⟩
  (.mk [(.pt 1)] 71 1
  (.call (.c true) false 128 [(.one (.i .u8 (.c 32))), (.agg [(.i .u8 (.x 0)), (.i .i64 (.x 1)), (.i .i64 (.x 2)), (.i .i64 (.x 3)), (.s (.x 0))]), (.one (.sl (.x 0)))] (.p (.one (.pt 2))) ⟨0, 0, 0, 0, 0, 1⟩
  (.call (.c true) false 108 [(.one (.pt 0)), (.one (.s (.c [40])))] (.p (.agg [(.i .u8 (.x 8)), (.i .i64 (.x 9)), (.i .i64 (.x 10)), (.i .i64 (.x 11)), (.s (.x 2))])) ⟨4, 0, 1, 0, 0, 0⟩
  (.need (.c true) (.nnp 1)
  (.need (.c true) (.nnp 1)
  (.need (.c true) (.nnp 1)
  (.load (.c true) (.pt 1 0) 1 [(.i .u8 (.x 12))] ⟨1, 0, 0, 0, 0, 0⟩
  (.ite (.eqI (.x 12) (.c 20))
  (.load (.c true) (.pt 2 6) 1 [(.sl (.x 1))] ⟨0, 0, 0, 0, 1, 0⟩
  (.need (.c true) (.nnp 2)
  (.need (.c true) (.nnp 2)
  (.callK (.c true) [((.c true), (.pt 2 6), 1)] 22 [(.one (.pt 0))] (.p (.one (.pt 3))) ⟨0, 0, 0, 0, 0, 1⟩
  (.mk [(.pt 3)] 71 1
  (.app (.x 1) (.x 2) 1 8 71
  (.need (.c true) (.nnp 2)
  (.need (.c true) (.nnp 2)
  (.store (.pt 2 6) [(.sl (.x 3))]
  (.call (.c true) false 110 [(.one (.pt 0)), (.one (.s (.c [41])))] (.tup []) ⟨0, 0, 0, 0, 0, 0⟩
  (.ret (.p (.one (.pt 2))))))))))))))
  (.call (.c true) false 110 [(.one (.pt 0)), (.one (.s (.c [41])))] (.tup []) ⟨0, 0, 0, 0, 0, 0⟩
  (.ret (.p (.one (.pt 2)))))))))))))))))
theorem gen_pmake : genFn ⟨true, []⟩ Tryz.prog (fun l => ([] : List LAnn).getD l ⟨[], [], []⟩) Tryz.f160 = fm_pmake := by kernel_rfl
theorem ps_pmake : freshPs Tryz.prog .zero Tryz.f160.params.toList = some ([(.one (.pt 0)), (.agg [(.i .u8 (.x 0)), (.i .i64 (.x 1)), (.i .i64 (.x 2)), (.i .i64 (.x 3)), (.s (.x 0))])], ⟨4, 0, 1, 0, 0, 1⟩) := by kernel_rfl
def fm_patom : Fm := (.call (.c true) false 44 [(.one (.pt 0))] (.p (.agg [(.i .u8 (.x 0)), (.i .i64 (.x 1)), (.i .i64 (.x 2)), (.i .i64 (.x 3)), (.s (.x 0))])) ⟨4, 0, 1, 0, 0, 0⟩
  (.call (.c true) false 46 [(.one (.pt 0))] (.p (.one (.b (.x 0)))) ⟨0, 1, 0, 0, 0, 0⟩
  (.ite (.x 0)
  (.call (.c true) false 128 [(.one (.i .u8 (.c 25))), (.agg [(.i .u8 (.x 0)), (.i .i64 (.x 1)), (.i .i64 (.x 2)), (.i .i64 (.x 3)), (.s (.x 0))]), (.one (.sl .nil))] (.p (.one (.pt 1))) ⟨0, 0, 0, 0, 0, 1⟩
  (.ret (.p (.one (.pt 1)))))
  (.ite (.eqI (.x 0) (.c 3))
  (.call (.c true) false 82 [(.one (.pt 0))] (.p (.agg [(.i .u8 (.x 4)), (.i .i64 (.x 5)), (.i .i64 (.x 6)), (.i .i64 (.x 7)), (.s (.x 1))])) ⟨4, 0, 1, 0, 0, 0⟩
  (.call (.c true) false 83 [(.one (.i .u8 (.c 21))), (.agg [(.i .u8 (.x 4)), (.i .i64 (.x 5)), (.i .i64 (.x 6)), (.i .i64 (.x 7)), (.s (.x 1))]), (.one (.i .i64 (.x 3))), (.one (.sl .nil))] (.p (.one (.pt 1))) ⟨0, 0, 0, 0, 0, 1⟩
  (.ret (.p (.one (.pt 1))))))
  (.ite (.eqI (.x 0) (.c 4))
  (.call (.c true) false 82 [(.one (.pt 0))] (.p (.agg [(.i .u8 (.x 4)), (.i .i64 (.x 5)), (.i .i64 (.x 6)), (.i .i64 (.x 7)), (.s (.x 1))])) ⟨4, 0, 1, 0, 0, 0⟩
  (.call (.c true) false 83 [(.one (.i .u8 (.c 22))), (.agg [(.i .u8 (.x 4)), (.i .i64 (.x 5)), (.i .i64 (.x 6)), (.i .i64 (.x 7)), (.s (.x 1))]), (.one (.i .i64 (.x 3))), (.one (.sl .nil))] (.p (.one (.pt 1))) ⟨0, 0, 0, 0, 0, 1⟩
  (.ret (.p (.one (.pt 1))))))
  (.ite (.eqI (.x 0) (.c 5))
  (.call (.c true) false 82 [(.one (.pt 0))] (.p (.agg [(.i .u8 (.x 4)), (.i .i64 (.x 5)), (.i .i64 (.x 6)), (.i .i64 (.x 7)), (.s (.x 1))])) ⟨4, 0, 1, 0, 0, 0⟩
  (.call (.c true) false 106 [(.one (.i .u8 (.c 23))), (.agg [(.i .u8 (.x 4)), (.i .i64 (.x 5)), (.i .i64 (.x 6)), (.i .i64 (.x 7)), (.s (.x 1))]), (.one (.s (.x 0))), (.one (.sl .nil))] (.p (.one (.pt 1))) ⟨0, 0, 0, 0, 0, 1⟩
  (.ret (.p (.one (.pt 1))))))
  (.call (.c true) false 111 [(.one (.pt 0)), (.one (.s (.c [116, 114, 117, 101])))] (.p (.one (.b (.x 1)))) ⟨0, 1, 0, 0, 0, 0⟩
  (.ite (.x 1)
  (.call (.c true) false 83 [(.one (.i .u8 (.c 24))), (.agg [(.i .u8 (.x 0)), (.i .i64 (.x 1)), (.i .i64 (.x 2)), (.i .i64 (.x 3)), (.s (.x 0))]), (.one (.i .i64 (.c 1))), (.one (.sl .nil))] (.p (.one (.pt 1))) ⟨0, 0, 0, 0, 0, 1⟩
  (.ret (.p (.one (.pt 1)))))
  (.call (.c true) false 111 [(.one (.pt 0)), (.one (.s (.c [102, 97, 108, 115, 101])))] (.p (.one (.b (.x 2)))) ⟨0, 1, 0, 0, 0, 0⟩
  (.ite (.x 2)
  (.call (.c true) false 83 [(.one (.i .u8 (.c 24))), (.agg [(.i .u8 (.x 0)), (.i .i64 (.x 1)), (.i .i64 (.x 2)), (.i .i64 (.x 3)), (.s (.x 0))]), (.one (.i .i64 (.c 0))), (.one (.sl .nil))] (.p (.one (.pt 1))) ⟨0, 0, 0, 0, 0, 1⟩
  (.ret (.p (.one (.pt 1)))))
  (.call (.c true) false 111 [(.one (.pt 0)), (.one (.s (.c [110, 105, 108])))] (.p (.one (.b (.x 3)))) ⟨0, 1, 0, 0, 0, 0⟩
  (.ite (.x 3)
  (.call (.c true) false 128 [(.one (.i .u8 (.c 25))), (.agg [(.i .u8 (.x 0)), (.i .i64 (.x 1)), (.i .i64 (.x 2)), (.i .i64 (.x 3)), (.s (.x 0))]), (.one (.sl .nil))] (.p (.one (.pt 1))) ⟨0, 0, 0, 0, 0, 1⟩
  (.ret (.p (.one (.pt 1)))))
  (.ite (.eqI (.x 0) (.c 1))
  (.call (.c true) false 82 [(.one (.pt 0))] (.p (.agg [(.i .u8 (.x 4)), (.i .i64 (.x 5)), (.i .i64 (.x 6)), (.i .i64 (.x 7)), (.s (.x 1))])) ⟨4, 0, 1, 0, 0, 0⟩
  (.call (.c true) false 69 [(.one (.pt 0)), (.one (.s (.c [40])))] (.p (.one (.b (.x 4)))) ⟨0, 1, 0, 0, 0, 0⟩
  (.ite (.x 4)
  (.call (.c true) false 159 [(.one (.pt 0)), (.agg [(.i .u8 (.x 0)), (.i .i64 (.x 1)), (.i .i64 (.x 2)), (.i .i64 (.x 3)), (.s (.x 0))])] (.p (.one (.pt 1))) ⟨0, 0, 0, 0, 0, 1⟩
  (.ret (.p (.one (.pt 1)))))
  (.call (.c true) false 106 [(.one (.i .u8 (.c 26))), (.agg [(.i .u8 (.x 0)), (.i .i64 (.x 1)), (.i .i64 (.x 2)), (.i .i64 (.x 3)), (.s (.x 0))]), (.one (.s (.x 0))), (.one (.sl .nil))] (.p (.one (.pt 1))) ⟨0, 0, 0, 0, 0, 1⟩
  (.ret (.p (.one (.pt 1))))))))
  (.call (.c true) false 69 [(.one (.pt 0)), (.one (.s (.c [40])))] (.p (.one (.b (.x 4)))) ⟨0, 1, 0, 0, 0, 0⟩
  (.ite (.x 4)
  (.call (.c true) false 108 [(.one (.pt 0)), (.one (.s (.c [40])))] (.p (.agg [(.i .u8 (.x 4)), (.i .i64 (.x 5)), (.i .i64 (.x 6)), (.i .i64 (.x 7)), (.s (.x 1))])) ⟨4, 0, 1, 0, 0, 0⟩
  (.call (.c true) false 22 [(.one (.pt 0))] (.p (.one (.pt 1))) ⟨0, 0, 0, 0, 0, 1⟩
  (.call (.c true) false 110 [(.one (.pt 0)), (.one (.s (.c [41])))] (.tup []) ⟨0, 0, 0, 0, 0, 0⟩
  (.ret (.p (.one (.pt 1)))))))
  (.call (.c true) false 111 [(.one (.pt 0)), (.one (.s (.c [109, 97, 107, 101])))] (.p (.one (.b (.x 5)))) ⟨0, 1, 0, 0, 0, 0⟩
  (.ite (.x 5)
  (.call (.c true) false 160 [(.one (.pt 0)), (.agg [(.i .u8 (.x 0)), (.i .i64 (.x 1)), (.i .i64 (.x 2)), (.i .i64 (.x 3)), (.s (.x 0))])] (.p (.one (.pt 1))) ⟨0, 0, 0, 0, 0, 1⟩
  (.ret (.p (.one (.pt 1)))))
  (.call (.c true) false 45 [(.one (.pt 0)), (.one (.i .i64 (.c 5)))] (.tup []) ⟨0, 0, 0, 0, 0, 0⟩
  (.call (.c true) false 128 [(.one (.i .u8 (.c 25))), (.agg [(.i .u8 (.x 0)), (.i .i64 (.x 1)), (.i .i64 (.x 2)), (.i .i64 (.x 3)), (.s (.x 0))]), (.one (.sl .nil))] (.p (.one (.pt 1))) ⟨0, 0, 0, 0, 0, 1⟩
  (.ret (.p (.one (.pt 1)))))))))))))))))))))))
theorem gen_patom : genFn ⟨true, []⟩ Tryz.prog (fun l => ([] : List LAnn).getD l ⟨[], [], []⟩) Tryz.f145 = fm_patom := by kernel_rfl
theorem ps_patom : freshPs Tryz.prog .zero Tryz.f145.params.toList = some ([(.one (.pt 0))], ⟨0, 0, 0, 0, 0, 1⟩) := by kernel_rfl
def pHd (L : List Tok) (p : PS) : PS := if !((tk L p).k == 2) && !pIs L [91] p then pFail L 5 p else p
theorem adv_hd {L : List Tok} (p : PS) : Adv L p (pHd L p) 0 := by
  unfold pHd; split
  · exact adv_fail 5 p
  · exact Adv.refl p
def runMake (L : List Tok) (n : Nat) (t0 : Tok) (p : PS) : Option (Tr × PS) :=
  (pKind L n (pHd L p)).bind fun r =>
    if r.1.k = 20 then (pBin L n 1 (pOpen L [40] r.2)).map fun y => (nd 32 t0 0 [] [r.1, y.1], pShut L [41] y.2)
    else some (nd 32 t0 0 [] [r.1], pShut L [41] (pOpen L [40] r.2))
def MakeOk (n : Nat) : Prop := ∀ args h φ w, prodT runMake n args h φ → Holds h w → Calls Tryz.prog 160 args.toArray w fun e w' => ∃ v k, e = .returned v ∧ φ v k ∧ Holds k w' ∧ Fr w.heap.size h k w w'
def ctMake {n : Nat} (H : MakeOk n) : Ct Tryz.prog := ⟨160, prodT runMake n, H⟩
def ctPKind (n : Nat) : Ct Tryz.prog := ⟨112, prod pKind n, kind_ok n⟩
theorem it_read0 {h : Hp} {v : Nat} {k l c n : Int} {x : List UInt8} {s : Slc} (hx : h v = some ⟨itc k l c n x s, IT⟩) : hread h (some (v, 0)) 1 = some [.int .u8 k] := by rw [hread_of hx]; rfl
theorem it_read6 {h : Hp} {v : Nat} {k l c n : Int} {x : List UInt8} {s : Slc} (hx : h v = some ⟨itc k l c n x s, IT⟩) : hread h (some (v, 6)) 1 = some [s.val] := by rw [hread_of hx]; rfl
theorem It.head {h : Hp} {v : Nat} {t : Tr} (hi : It h v t) : ∃ l c n x s, h v = some ⟨itc t.k l c n x s, IT⟩ := by
  cases t with
  | nd k l c n x ks => obtain ⟨s, vs, h1, _⟩ := hi; exact ⟨l, c, n, x, s, h1⟩
set_option maxHeartbeats 4000000 in
theorem make_ok {n : Nat} (HE : ExprOk n) : MakeOk n := by
  rintro args h φ w ⟨m, hm, b, sl, L, p, t, q, t0, rfl, W, hr, hd, hφ⟩ hH
  refine by_fm Tryz.func160 gen_pmake ps_pmake [ctNow, ctIs, ctFail, ctMake1, ctOpen, ctShut, ctPKind n, ctExpr HE] φ (noInv) (noMeas) ⟨[t0.k, t0.l, t0.c, t0.n], [], [t0.x], [], [], [some (b, 0)], h, noM⟩ ⟨rfl, rfl, rfl, rfl, rfl, rfl⟩ ones_nil ?_ w hH rfl
  generalize hE : (⟨specOf _, _, _, _⟩ : Env) = E
  have s_ctNow : E.spec 44 = (ctNow).spec := by rw [← hE]; rfl
  have s_ctIs : E.spec 69 = (ctIs).spec := by rw [← hE]; rfl
  have s_ctFail : E.spec 45 = (ctFail).spec := by rw [← hE]; rfl
  have s_ctMake1 : E.spec 128 = (ctMake1).spec := by rw [← hE]; rfl
  have s_ctOpen : E.spec 108 = (ctOpen).spec := by rw [← hE]; rfl
  have s_ctShut : E.spec 110 = (ctShut).spec := by rw [← hE]; rfl
  have s_ctK : E.spec 112 = (ctPKind n).spec := by rw [← hE]; rfl
  have s_ctE : E.spec 22 = (ctExpr HE).spec := by rw [← hE]; rfl
  have ep : E.post = φ := by rw [← hE]
  clear hE
  unfold fm_pmake
  have A := At.start W
  have hd0 := W.d0
  unfold runMake at hr
  simp only [Option.bind_eq_some_iff] at hr
  obtain ⟨⟨x, r⟩, h1, h2⟩ := hr
  have Ah := adv_hd (L := L) p
  have Ak := adv_kind W.lw m _ h1
  have hhd := Ah.d
  have hkd := Ak.d
  have Ao := adv_open W.lw [40] r
  have hod := Ao.d
  have rest : ∀ (hh : Hp) (k1 l1 c1 n1 : Int) (x1 : List UInt8) (y : Bool), At h b sl L (pHd L p) hh noHeap → Then E fm_pmake.k.k.e ⟨[t0.k, t0.l, t0.c, t0.n, k1, l1, c1, n1], [y], [t0.x, x1], [], [], [some (b, 0)], hh, noM⟩ := by
    intro hh k1 l1 c1 n1 x1 y A1
    unfold fm_pmake
    simp only [Fm.k, Fm.e]
    rw [then_step, th_call, if_pos (by rfl), s_ctK]
    refine ⟨m, hm, b, sl, L, _, x, r, rfl, A1.pw, h1, by omega, fun v k g A2 hI => ?_⟩
    simp [go_sem, ptrv]; refine ⟨some (v, 0), rfl, ?_⟩
    have A3 := A1.then A2
    have hI3 := It.le (A1.disj A2) _ _ hI
    rw [then_step, th_mk]
    intro kb hkb
    simp [go_sem]
    rw [then_step, th_call, if_pos (by rfl), s_ctMake1]
    refine ⟨32, t0, ⟨some (kb, 0), 1, 1⟩, rfl, fun o ho => ?_⟩
    simp [go_sem, ptrv]; refine ⟨some (o, 0), rfl, ?_⟩
    have O := A3.outs (vs := [v]) (ts := [x]) hkb ⟨hI3, trivial⟩ (by simp) ho 32 t0.l t0.c 0 []
    rw [then_step, th_call, if_pos (by rfl), s_ctOpen]
    refine ⟨b, sl, L, r, [40], rfl, O.at'.pw, ?_⟩
    simp [go_sem, tokv, tkv]
    have O1 := O.open [40] (by omega)
    obtain ⟨xl, xc, xn, xx, xs, hx⟩ := (It.le O1.at'.le _ _ hI3).head
    iterate 3 (rw [then_step, th_need]; refine ⟨by simp [go_sem], ?_⟩)
    rw [then_step, th_load, if_pos (by rfl)]
    have hxr := it_read0 hx
    simp [go_sem]
    refine ⟨x.k, hxr, ?_⟩
    by_cases c20 : x.k = 20
    · rw [if_pos c20] at h2
      simp only [Option.map_eq_some_iff] at h2
      obtain ⟨⟨y, u⟩, h3, h4⟩ := h2
      cases h4
      rw [then_step, th_ite, if_pos (by simp [go_sem, c20])]
      have hbl := O1.blk
      have hsr := it_read6 hbl
      rw [then_step, th_load, if_pos (by rfl)]
      simp [go_sem]
      refine ⟨⟨some (kb, 0), 1, 1⟩, hsr, ?_⟩
      iterate 2 (rw [then_step, th_need]; refine ⟨by simp [go_sem], ?_⟩)
      rw [then_step, th_callK, if_pos (by rfl), s_ctE]
      refine ⟨m, hm, b, sl, L, _, y, u, rfl, O1.at'.pw, h3, by omega, fun v2 k3 g3 A5 hI2 => ?_⟩
      have O3 := O1.then A5
      have Ad := (advE W.lw m).1 _ _ _ _ h3
      have hrd1 := Ad.d
      have hbl3 := O3.blk
      have hsr3 := it_read6 hbl3
      simp [go_sem, ptrv]
      refine ⟨hsr3.trans hsr.symm, some (v2, 0), rfl, ?_⟩
      rw [then_step, th_mk]
      intro kb2 hkb2
      simp [go_sem]
      rw [then_step]
      refine out_app O3 (It.le (O1.at'.disj A5) _ _ hI2) (by simp) hkb2 rfl rfl rfl fun s' k4 hk4 O4 => ?_
      rw [th_need]
      refine ⟨by simp [go_sem], ?_⟩
      rw [then_step, th_need]
      refine ⟨by simp [go_sem], ?_⟩
      rw [then_step, th_store]
      refine ⟨_, by simp [go_sem, hwrite_of hk4, itc]; rfl, ?_⟩
      rw [then_step, th_call, if_pos (by rfl), s_ctShut]
      refine ⟨b, sl, L, u, [41], rfl, O4.at'.pw, ?_⟩
      have O5 := O4.shut [41] (by omega)
      simp [go_sem]
      simp only [then_step]; simp [go_sem, ep]
      obtain ⟨g', A', I'⟩ := O5.done
      exact hφ o _ g' A' I'
    · rw [if_neg c20] at h2
      cases h2
      rw [then_step, th_ite, if_neg (by simp [go_sem, c20])]
      rw [then_step, th_call, if_pos (by rfl), s_ctShut]
      refine ⟨b, sl, L, _, [41], rfl, O1.at'.pw, ?_⟩
      have O5 := O1.shut [41] (by omega)
      rw [set_set] at O5
      simp [go_sem]
      simp only [then_step]; simp [go_sem, ep]
      obtain ⟨g', A', I'⟩ := O5.done
      exact hφ o _ g' A' I'
  unfold fm_pmake at rest
  simp only [Fm.k, Fm.e] at rest
  rw [th_call, if_pos (by rfl), s_ctNow]
  refine ⟨b, sl, L, p, rfl, W, ?_⟩
  simp [go_sem, tokv, tkv]
  by_cases c2 : (tk L p).k = 2
  · have hp : pHd L p = p := by unfold pHd; rw [c2]; rfl
    rw [then_step, th_call, if_neg (by simp [go_sem, c2])]
    simp [go_sem]
    rw [then_step, th_ite, if_neg (by simp [go_sem, c2])]
    exact rest h _ _ _ _ _ _ (hp.symm ▸ A)
  rw [then_step, th_call, if_pos (by simp [go_sem, c2]), s_ctIs]
  refine ⟨b, sl, L, p, [91], rfl, W, ?_⟩
  simp [go_sem]
  cases c3 : pIs L [91] p with
  | true =>
    have hp : pHd L p = p := by unfold pHd; rw [c3]; simp
    rw [then_step, th_ite, if_neg (by simp [go_sem])]
    exact rest h _ _ _ _ _ _ (hp.symm ▸ A)
  | false =>
    have hp : pHd L p = pFail L 5 p := by unfold pHd; rw [c3]; simp [c2]
    rw [then_step, th_ite, if_pos (by simp [go_sem, c2])]
    rw [then_step, th_call, if_pos (by rfl), s_ctFail]
    refine ⟨b, sl, L, p, 5, rfl, W, ?_⟩
    simp [go_sem]
    have A1 := A.fail 5
    rw [← hp] at A1
    rw [← hp]
    exact rest _ _ _ _ _ _ _ A1
set_option maxHeartbeats 8000000 in
theorem atom_ok {n : Nat} (HE : ExprOk n) (HC : CallOk n) (HM : MakeOk n) : AtomOk (n + 1) := by
  rintro args h φ w ⟨m, hm, b, sl, L, p, t, q, rfl, W, hr, hd, hφ⟩ hH
  cases m with
  | zero => cases hr
  | succ m =>
  refine by_fm Tryz.func145 gen_patom ps_patom [ctNow, ctBad, ctMake1, ctPPass, ctNumbered, ctNamed, ctTry, ctIs, ctOpen, ctShut, ctFail, ctCall HC, ctMake HM, ctExpr HE] φ (noInv) (noMeas) ⟨[], [], [], [], [], [some (b, 0)], h, noM⟩ ⟨rfl, rfl, rfl, rfl, rfl, rfl⟩ ones_nil ?_ w hH rfl
  generalize hE : (⟨specOf _, _, _, _⟩ : Env) = E
  have s_ctNow : E.spec 44 = (ctNow).spec := by rw [← hE]; rfl
  have s_ctBad : E.spec 46 = (ctBad).spec := by rw [← hE]; rfl
  have s_ctMake1 : E.spec 128 = (ctMake1).spec := by rw [← hE]; rfl
  have s_ctPPass : E.spec 82 = (ctPPass).spec := by rw [← hE]; rfl
  have s_ctNumbered : E.spec 83 = (ctNumbered).spec := by rw [← hE]; rfl
  have s_ctNamed : E.spec 106 = (ctNamed).spec := by rw [← hE]; rfl
  have s_ctTry : E.spec 111 = (ctTry).spec := by rw [← hE]; rfl
  have s_ctIs : E.spec 69 = (ctIs).spec := by rw [← hE]; rfl
  have s_ctOpen : E.spec 108 = (ctOpen).spec := by rw [← hE]; rfl
  have s_ctShut : E.spec 110 = (ctShut).spec := by rw [← hE]; rfl
  have s_ctFail : E.spec 45 = (ctFail).spec := by rw [← hE]; rfl
  have s_ctC : E.spec 159 = (ctCall HC).spec := by rw [← hE]; rfl
  have s_ctM : E.spec 160 = (ctMake HM).spec := by rw [← hE]; rfl
  have s_ctE : E.spec 22 = (ctExpr HE).spec := by rw [← hE]; rfl
  have ep : E.post = φ := by rw [← hE]
  clear hE
  unfold fm_patom
  have A := At.start W
  have hd0 := W.d0
  have fin : ∀ {k n' : Int} {q' : PS} {kk : Hp} (A' : At h b sl L q' kk noHeap) (x : List UInt8), some (nd k (tk L p) n' x [], q') = some (t, q) → ∀ v, kk v = none → φ (ptrv v) (kk.set v ⟨itc k (tk L p).l (tk L p).c n' x ⟨none, 0, 0⟩, IT⟩) := by
    intro k n' q' kk A' x he v hv
    cases he
    exact hφ v _ _ (A'.new hv _) (A'.leaf hv ..)
  rw [pAtom] at hr
  rw [th_call, if_pos (by rfl), s_ctNow]
  refine ⟨b, sl, L, p, rfl, W, ?_⟩
  simp [go_sem, tokv, tkv]
  rw [then_step, th_call, if_pos (by rfl), s_ctBad]
  refine ⟨b, sl, L, p, rfl, W, ?_⟩
  simp [go_sem]
  cases c0 : p.bad with
  | true =>
    rw [if_pos c0] at hr
    rw [then_step, th_ite, if_pos (by simp [go_sem])]
    rw [then_step, th_call, if_pos (by rfl), s_ctMake1]
    refine ⟨25, tk L p, ⟨none, 0, 0⟩, rfl, fun v hv => ?_⟩
    simp [go_sem, ptrv]; refine ⟨some (v, 0), rfl, ?_⟩
    simp only [then_step]; simp [go_sem, ep]
    exact fin A [] hr v hv
  | false =>
  rw [c0, if_neg (by decide)] at hr
  rw [then_step, th_ite, if_neg (by simp [go_sem])]
  by_cases c1 : (tk L p).k = 3
  · rw [if_pos c1] at hr
    rw [then_step, th_ite, if_pos (by simp [go_sem, c1])]
    rw [then_step, th_call, if_pos (by rfl), s_ctPPass]
    refine ⟨b, sl, L, p, rfl, W, ?_⟩
    simp [go_sem, tokv, tkv]
    rw [then_step, th_call, if_pos (by rfl), s_ctNumbered]
    refine ⟨21, tk L p, (tk L p).n, ⟨none, 0, 0⟩, rfl, fun v hv => ?_⟩
    simp [go_sem, ptrv]; refine ⟨some (v, 0), rfl, ?_⟩
    simp only [then_step]; simp [go_sem, ep]
    exact fin A.pass [] hr v hv
  rw [if_neg c1] at hr
  rw [then_step, th_ite, if_neg (by simp [go_sem, c1])]
  by_cases c2 : (tk L p).k = 4
  · rw [if_pos c2] at hr
    rw [then_step, th_ite, if_pos (by simp [go_sem, c2])]
    rw [then_step, th_call, if_pos (by rfl), s_ctPPass]
    refine ⟨b, sl, L, p, rfl, W, ?_⟩
    simp [go_sem, tokv, tkv]
    rw [then_step, th_call, if_pos (by rfl), s_ctNumbered]
    refine ⟨22, tk L p, (tk L p).n, ⟨none, 0, 0⟩, rfl, fun v hv => ?_⟩
    simp [go_sem, ptrv]; refine ⟨some (v, 0), rfl, ?_⟩
    simp only [then_step]; simp [go_sem, ep]
    exact fin A.pass [] hr v hv
  rw [if_neg c2] at hr
  rw [then_step, th_ite, if_neg (by simp [go_sem, c2])]
  by_cases c3 : (tk L p).k = 5
  · rw [if_pos c3] at hr
    rw [then_step, th_ite, if_pos (by simp [go_sem, c3])]
    rw [then_step, th_call, if_pos (by rfl), s_ctPPass]
    refine ⟨b, sl, L, p, rfl, W, ?_⟩
    simp [go_sem, tokv, tkv]
    rw [then_step, th_call, if_pos (by rfl), s_ctNamed]
    refine ⟨23, tk L p, (tk L p).x, ⟨none, 0, 0⟩, rfl, fun v hv => ?_⟩
    simp [go_sem, ptrv]; refine ⟨some (v, 0), rfl, ?_⟩
    simp only [then_step]; simp [go_sem, ep]
    exact fin A.pass _ hr v hv
  rw [if_neg c3] at hr
  rw [then_step, th_ite, if_neg (by simp [go_sem, c3])]
  rw [then_step, th_call, if_pos (by rfl), s_ctTry]
  refine ⟨b, sl, L, p, wTrue, rfl, W, ?_⟩
  cases c4 : pIs L wTrue p with
  | true =>
    rw [if_pos c4] at hr
    rw [if_pos rfl]
    simp [go_sem]
    rw [then_step, th_ite, if_pos (by simp [go_sem])]
    rw [then_step, th_call, if_pos (by rfl), s_ctNumbered]
    refine ⟨24, tk L p, 1, ⟨none, 0, 0⟩, rfl, fun v hv => ?_⟩
    simp [go_sem, ptrv]; refine ⟨some (v, 0), rfl, ?_⟩
    simp only [then_step]; simp [go_sem, ep]
    exact fin A.pass [] hr v hv
  | false =>
  rw [c4, if_neg (by decide)] at hr
  rw [if_neg (by decide)]
  simp [go_sem]
  rw [then_step, th_ite, if_neg (by simp [go_sem])]
  rw [then_step, th_call, if_pos (by rfl), s_ctTry]
  refine ⟨b, sl, L, p, wFalse, rfl, W, ?_⟩
  cases c5 : pIs L wFalse p with
  | true =>
    rw [if_pos c5] at hr
    rw [if_pos rfl]
    simp [go_sem]
    rw [then_step, th_ite, if_pos (by simp [go_sem])]
    rw [then_step, th_call, if_pos (by rfl), s_ctNumbered]
    refine ⟨24, tk L p, 0, ⟨none, 0, 0⟩, rfl, fun v hv => ?_⟩
    simp [go_sem, ptrv]; refine ⟨some (v, 0), rfl, ?_⟩
    simp only [then_step]; simp [go_sem, ep]
    exact fin A.pass [] hr v hv
  | false =>
  rw [c5, if_neg (by decide)] at hr
  rw [if_neg (by decide)]
  simp [go_sem]
  rw [then_step, th_ite, if_neg (by simp [go_sem])]
  rw [then_step, th_call, if_pos (by rfl), s_ctTry]
  refine ⟨b, sl, L, p, wNil, rfl, W, ?_⟩
  cases c6 : pIs L wNil p with
  | true =>
    rw [if_pos c6] at hr
    rw [if_pos rfl]
    simp [go_sem]
    rw [then_step, th_ite, if_pos (by simp [go_sem])]
    rw [then_step, th_call, if_pos (by rfl), s_ctMake1]
    refine ⟨25, tk L p, ⟨none, 0, 0⟩, rfl, fun v hv => ?_⟩
    simp [go_sem, ptrv]; refine ⟨some (v, 0), rfl, ?_⟩
    simp only [then_step]; simp [go_sem, ep]
    exact fin A.pass [] hr v hv
  | false =>
  rw [c6, if_neg (by decide)] at hr
  rw [if_neg (by decide)]
  simp [go_sem]
  rw [then_step, th_ite, if_neg (by simp [go_sem])]
  by_cases c7 : (tk L p).k = 1
  · rw [if_pos c7] at hr
    rw [then_step, th_ite, if_pos (by simp [go_sem, c7])]
    rw [then_step, th_call, if_pos (by rfl), s_ctPPass]
    refine ⟨b, sl, L, p, rfl, W, ?_⟩
    simp [go_sem, tokv, tkv]
    have A1 := A.pass
    have hpd := (adv_pass W.lw p).d
    rw [then_step, th_call, if_pos (by rfl), s_ctIs]
    refine ⟨b, sl, L, _, [40], rfl, A1.pw, ?_⟩
    simp [go_sem]
    cases c8 : pIs L [40] (pPass L p) with
    | true =>
      rw [if_pos c8] at hr
      rw [then_step, th_ite, if_pos (by simp [go_sem])]
      rw [then_step, th_call, if_pos (by rfl), s_ctC]
      refine ⟨m, by omega, b, sl, L, _, t, q, tk L p, rfl, A1.pw, hr, by omega, fun v k g A2 hI => ?_⟩
      simp [go_sem, ptrv]; refine ⟨some (v, 0), rfl, ?_⟩
      simp only [then_step]; simp [go_sem, ep]
      exact hφ v _ _ (A1.then A2) (It.le (A1.disj A2) _ _ hI)
    | false =>
      rw [c8, if_neg (by decide)] at hr
      rw [then_step, th_ite, if_neg (by simp [go_sem])]
      rw [then_step, th_call, if_pos (by rfl), s_ctNamed]
      refine ⟨26, tk L p, (tk L p).x, ⟨none, 0, 0⟩, rfl, fun v hv => ?_⟩
      simp [go_sem, ptrv]; refine ⟨some (v, 0), rfl, ?_⟩
      simp only [then_step]; simp [go_sem, ep]
      exact fin A1 _ hr v hv
  rw [if_neg c7] at hr
  rw [then_step, th_ite, if_neg (by simp [go_sem, c7])]
  rw [then_step, th_call, if_pos (by rfl), s_ctIs]
  refine ⟨b, sl, L, p, [40], rfl, W, ?_⟩
  simp [go_sem]
  cases c9 : pIs L [40] p with
  | true =>
    rw [if_pos c9] at hr
    simp only [Option.map_eq_some_iff] at hr
    obtain ⟨⟨x, r⟩, h1, h2⟩ := hr
    cases h2
    rw [then_step, th_ite, if_pos (by simp [go_sem])]
    rw [then_step, th_call, if_pos (by rfl), s_ctOpen]
    refine ⟨b, sl, L, p, [40], rfl, W, ?_⟩
    simp [go_sem, tokv, tkv]
    have hod := (adv_open W.lw [40] p).d
    have A1 := A.open [40] (by omega)
    rw [then_step, th_call, if_pos (by rfl), s_ctE]
    refine ⟨m, by omega, b, sl, L, _, x, r, rfl, A1.pw, h1, by omega, fun v k g A2 hI => ?_⟩
    simp [go_sem, ptrv]; refine ⟨some (v, 0), rfl, ?_⟩
    have A3 := A1.then A2
    have hkd := ((advE W.lw m).1 _ _ _ _ h1).d
    rw [then_step, th_call, if_pos (by rfl), s_ctShut]
    refine ⟨b, sl, L, r, [41], rfl, A3.pw, ?_⟩
    simp [go_sem]
    simp only [then_step]; simp [go_sem, ep]
    exact hφ v _ _ (A3.shut [41] (by omega)) (It.le (A1.disj A2) _ _ hI)
  | false =>
  rw [c9, if_neg (by decide)] at hr
  rw [then_step, th_ite, if_neg (by simp [go_sem])]
  rw [then_step, th_call, if_pos (by rfl), s_ctTry]
  refine ⟨b, sl, L, p, wMake, rfl, W, ?_⟩
  cases c10 : pIs L wMake p with
  | true =>
    rw [if_pos c10] at hr
    rw [if_pos rfl]
    simp [go_sem]
    rw [then_step, th_ite, if_pos (by simp [go_sem])]
    have A1 := A.pass
    have hpd := (adv_pass W.lw p).d
    rw [then_step, th_call, if_pos (by rfl), s_ctM]
    refine ⟨m, by omega, b, sl, L, _, t, q, tk L p, rfl, A1.pw, hr, by omega, fun v k g A2 hI => ?_⟩
    simp [go_sem, ptrv]; refine ⟨some (v, 0), rfl, ?_⟩
    simp only [then_step]; simp [go_sem, ep]
    exact hφ v _ _ (A1.then A2) (It.le (A1.disj A2) _ _ hI)
  | false =>
    rw [c10, if_neg (by decide)] at hr
    rw [if_neg (by decide)]
    simp [go_sem]
    rw [then_step, th_ite, if_neg (by simp [go_sem])]
    rw [then_step, th_call, if_pos (by rfl), s_ctFail]
    refine ⟨b, sl, L, p, 5, rfl, W, ?_⟩
    simp [go_sem]
    rw [then_step, th_call, if_pos (by rfl), s_ctMake1]
    refine ⟨25, tk L p, ⟨none, 0, 0⟩, rfl, fun v hv => ?_⟩
    simp [go_sem, ptrv]; refine ⟨some (v, 0), rfl, ?_⟩
    simp only [then_step]; simp [go_sem, ep]
    exact fin (A.fail 5) [] hr v hv
/-- Expressions are taken. -/
theorem ex_ok : ∀ n, BinOk n ∧ UnOk n ∧ AtomOk n
  | 0 => by
    refine ⟨?_, ?_, ?_⟩
    · rintro args h φ w ⟨m, hm, b, sl, L, p, t, q, lvl, rfl, _, W, hr, _⟩ hH
      obtain rfl : m = 0 := by omega
      cases hr
    · rintro args h φ w ⟨m, hm, b, sl, L, p, t, q, rfl, W, hr, _⟩ hH
      obtain rfl : m = 0 := by omega
      cases hr
    · rintro args h φ w ⟨m, hm, b, sl, L, p, t, q, rfl, W, hr, _⟩ hH
      obtain rfl : m = 0 := by omega
      cases hr
  | n + 1 => by
    obtain ⟨HB, HU, HA⟩ := ex_ok n
    have HE := expr_ok HB
    exact ⟨bin_ok HB HU, un_ok HU (post_ok HE HA), atom_ok HE (call_ok HE) (make_ok HE)⟩
theorem expr_all (n : Nat) : ExprOk n := expr_ok (ex_ok n).1
section
variable {h : Hp} {b : Nat} {sl : Slc} {L : List Tok} {p : PS} {k g : Hp} {o : Nat} {kk l c n : Int} {x : List UInt8} {s : Slc} {vs : List Nat} {ts : List Tr}
/-- The node's number is written. -/
theorem Out.num (O : Out h b sl L p k g o kk l c n x s vs ts) (n' : Int) : Out h b sl L p (k.set o ⟨itc kk l c n' x s, IT⟩) g o kk l c n' x s vs ts := by
  refine ⟨⟨fun d y hdb hd => ?_, ⟨?_, O.at'.pw.tok.keep fun d y hty hd => ?_, O.at'.pw.lw, O.at'.pw.len, O.at'.pw.at', O.at'.pw.d0, O.at'.pw.d1⟩, O.at'.hb, fun d y hd => ?_, O.at'.fr⟩, set_same _ _ _, O.ho, O.go, O.kids.keep fun z cs hz hc => ?_, O.hs, O.its⟩
  · rw [set_ne _ (fun e => by rw [e, O.ho] at hd; cases hd)]; exact O.at'.kp d y hdb hd
  · rw [set_ne _ O.ob.symm]; exact O.at'.pw.blk
  · rw [set_ne _ (fun e => by rw [e, O.blk] at hd; cases hd; exact it_tk hty)]; exact hd
  · rw [set_ne _ (fun e => by rw [e, O.go] at hd; cases hd)]; exact O.at'.le d y hd
  · rw [set_ne _ (O.zo hz)]; exact hc
end
/-- The row of children that is laid behind: two at once. -/
theorem two {E : Env} {fc : FuncId} {h : Hp} {b : Nat} {sl : Slc} {L : List Tok} {p : PS} {k g : Hp} {o : Nat} {kk l c n : Int} {x : List UInt8} {s : Slc} {vs : List Nat} {ts : List Tr} {i : List Int} {bb : List Bool} {ss : List (List UInt8)} {pp : List (Option (Nat × Nat))} {M : Nat → Nat} {on rn pi u : Nat} {q : PS} {t tu : Tr}
    (O : Out h b sl L p k g o kk l c n x s vs ts) (hu : It g u tu) (ho : pp.getD on none = some (o, 0)) (hr : pp.getD rn none = some (u, 0)) (hp : pp.length = pi) (hol : on < pi) (hrl : rn < pi) (hn : vs.length ≤ 2000000)
    (hs : ∀ φ : Value → Hp → Prop, (∀ v k' g', At k b sl L q k' g' → It g' v t → φ (ptrv v) k') → E.spec fc [ptrv b] k φ) (hb0 : pp.getD 0 none = some (b, 0))
    (hk : ∀ k5, (∃ g', At h b sl L q k5 g' ∧ It g' o (.nd kk l c n x (ts ++ [tu, t]))) → E.post (ptrv o) k5) :
    Then E (.load (.c true) (.pt on 6) 1 [(.sl (.x 0))] ⟨0, 0, 0, 0, 1, 0⟩ (.need (.c true) (.nnp on) (.need (.c true) (.nnp on) (.callK (.c true) [((.c true), (.pt on 6), 1)] fc [(.one (.pt 0))] (.p (.one (.pt pi))) ⟨0, 0, 0, 0, 0, 1⟩
      (.mk [(.pt rn), (.pt pi)] PI 2 (.app (.x 0) (.x 1) 1 8 PI (.need (.c true) (.nnp on) (.need (.c true) (.nnp on) (.store (.pt on 6) [(.sl (.x 2))] (.ret (.p (.one (.pt on))))))))))))) ⟨i, bb, ss, [], [], pp, k, M⟩ := by
  subst hp
  have get : ∀ {j : Nat} {y}, pp.getD j none = some y → pp[j]? = some (some y) := fun {j y} hj => by
    rw [List.getD_eq_getElem?_getD] at hj
    cases hq : pp[j]? with
    | none => rw [hq] at hj; cases hj
    | some z => rw [hq] at hj; exact congrArg some hj
  have ho' := get ho
  have hr' := get hr
  have hb' := get hb0
  have hb1 := O.blk
  have hlo : ∀ (u : List (Option (Nat × Nat))), (pp ++ u)[on]? = some (some (o, 0)) := fun u => by rw [List.getElem?_append_left hol]; exact ho'
  have hlr : ∀ (w : List (Option (Nat × Nat))), (pp ++ w)[rn]? = some (some (u, 0)) := fun w => by rw [List.getElem?_append_left hrl]; exact hr'
  rw [then_step, th_load, if_pos (by rfl)]
  refine (exI_iff _ _).2 ⟨⟨[], [], [], [], [s], []⟩, rfl, ones_nil, ?_, ?_⟩
  · simp [AE.den, CE.den, LE.den, Ctx.push, ho', hread_of hb1, itc]
  rw [then_step, th_need]
  refine ⟨by simp [BE.den, Ctx.push, ho'], ?_⟩
  rw [then_step, th_need]
  refine ⟨by simp [BE.den, Ctx.push, ho'], ?_⟩
  rw [then_step, th_callK, if_pos (by rfl)]
  simp only [Ctx.push, List.append_nil, List.nil_append, List.map_cons, List.map_nil, PE.den, CE.den, hb0, Option.map_some]
  refine hs _ fun v k' g' A' hI' => ?_
  have O' := O.then A'
  have hb2 := O'.blk
  refine ⟨fun y hy _ => ?_, (exI_iff _ _).2 ⟨⟨[], [], [], [], [], [some (v, 0)]⟩, rfl, ones_nil, ?_, ?_⟩⟩
  · rw [List.mem_singleton] at hy; subst hy
    simp [AE.den, ho', hread_of hb1, hread_of hb2]
  · simp [VE.den, PE.den, CE.den, ptrv]
  rw [then_step, th_mk]
  intro kb hkb
  have hkb' : k' kb = none := hkb
  rw [then_step]
  refine out_apps (us := [u, v]) (rs := [tu, t]) O' ⟨It.le (le_uni _ _) _ _ hu, It.le (O.at'.disj A') _ _ hI', trivial⟩ hn ⟨by simp, by simp⟩ hkb' ?_ ?_ ?_ fun s' k4 hk4 O4 => ?_
  · simp [LE.den, Ctx.push, Ctx.heap]
  · simp [LE.den, Ctx.push, Ctx.heap]
  · simp [CE.den, Ctx.push, Ctx.heap, ptrv, hlr]
  rw [th_need]
  refine ⟨by simp [BE.den, Ctx.push, Ctx.heap, hlo], ?_⟩
  rw [then_step, th_need]
  refine ⟨by simp [BE.den, Ctx.push, Ctx.heap, hlo], ?_⟩
  rw [then_step, th_store]
  refine ⟨k4.set o ⟨itc kk l c n x s', IT⟩, ?_, ?_⟩
  · have e := itc_store hk4 s'
    simpa [AE.den, CE.den, LE.den, Ctx.push, Ctx.heap, hlo] using e
  · rw [then_step, says_ret]
    have e := hk _ O4.done
    simpa [VE.den, PE.den, CE.den, Ctx.push, Ctx.heap, hlo, ptrv] using e
def fm_lay : Fm := (.need (.c true) (.nnp 0)
  (.need (.c true) (.nnp 0)
  (.load (.c true) (.pt 0 0) 6 [(.i .u8 (.x 0)), (.i .i64 (.x 1)), (.i .i64 (.x 2)), (.i .i64 (.x 3)), (.i .i64 (.x 4)), (.s (.x 0))] ⟨5, 0, 1, 0, 0, 0⟩
  (.mk [(.i .u8 (.x 0)), (.i .i64 (.x 1)), (.i .i64 (.x 2)), (.i .i64 (.x 3)), (.i .i64 (.x 4)), (.s (.x 0))] 52 1
  (.app (.x 0) (.x 1) 6 56 52
  (.need (.c true) (.nnp 0)
  (.need (.c true) (.nnp 0)
  (.load (.c true) (.pt 0 6) 1 [(.sl (.x 3))] ⟨0, 0, 0, 0, 1, 0⟩
  (.loop 0 ⟨[(.c 0)], [], [], [], [(.x 2)], []⟩
  (.ite (.lt (.x 5) (.cnt (.x 3)))
  (.need (.c true) (.and (.and (.le (.c 0) (.x 5)) (.lt (.x 5) (.cnt (.x 3)))) (.nns (.x 3)))
  (.load (.c true) (.el (.x 3) (.x 5) 1 0) 1 [(.pt 1)] ⟨0, 0, 0, 0, 0, 1⟩
  (.call (.c true) false 47 [(.one (.pt 1)), (.one (.sl (.x 4)))] (.p (.one (.sl (.x 5)))) ⟨0, 0, 0, 0, 1, 0⟩
  (.need (.c true) (.and (.le (.c (-9223372036854775808)) (.add (.x 5) (.c 1))) (.le (.add (.x 5) (.c 1)) (.c 9223372036854775807)))
  (.again 0 ⟨5, 0, 1, 0, 4, 1⟩ ⟨6, 0, 1, 0, 5, 1⟩ ⟨[(.add (.x 5) (.c 1))], [], [], [], [(.x 5)], []⟩)))))
  (.need (.c true) (.and (.le (.c (-9223372036854775808)) (.sub (.cnt (.x 4)) (.cnt (.x 0)))) (.le (.sub (.cnt (.x 4)) (.cnt (.x 0))) (.c 9223372036854775807)))
  (.need (.c true) (.and (.le (.c (-9223372036854775808)) (.sub (.sub (.cnt (.x 4)) (.cnt (.x 0))) (.c 1))) (.le (.sub (.sub (.cnt (.x 4)) (.cnt (.x 0))) (.c 1)) (.c 9223372036854775807)))
  (.need (.c true) (.and (.and (.le (.c 0) (.cnt (.x 0))) (.lt (.cnt (.x 0)) (.cnt (.x 4)))) (.nns (.x 4)))
  (.need (.c true) (.nns (.x 4))
  (.store (.el (.x 4) (.cnt (.x 0)) 6 3) [(.i .i64 (.sub (.sub (.cnt (.x 4)) (.cnt (.x 0))) (.c 1)))]
  (.ret (.p (.one (.sl (.x 4))))))))))))))))))))
theorem gen_lay : genFn ⟨true, []⟩ Tryz.prog (fun l => ([⟨[1, 22], [23, 24, 25, 7, 26, 27, 28, 29], []⟩] : List LAnn).getD l ⟨[], [], []⟩) Tryz.f47 = fm_lay := by kernel_rfl
theorem ps_lay : freshPs Tryz.prog .zero Tryz.f47.params.toList = some ([(.one (.pt 0)), (.one (.sl (.x 0)))], ⟨0, 0, 0, 0, 1, 1⟩) := by kernel_rfl
def ND : TypeId := 52
def Nod.cs (x : Nod) : List Value := [.int .u8 x.k, .int .i64 x.l, .int .i64 x.c, .int .i64 (x.z : Nat), .int .i64 x.n, .string (B x.x)]
def ncs (l : List Nod) : List Value := l.flatMap Nod.cs
theorem ncs_len (l : List Nod) : (ncs l).length = l.length * 6 := by
  induction l with
  | nil => rfl
  | cons a l ih => simp only [ncs, List.flatMap_cons, List.length_append, List.length_cons] at *; rw [ih]; simp [Nod.cs]; omega
theorem ncs_app (a b : List Nod) : ncs (a ++ b) = ncs a ++ ncs b := by simp [ncs]
theorem ncs_cons (x : Nod) (l : List Nod) : ncs (x :: l) = x.cs ++ ncs l := by simp [ncs]
/-- One cell of a slice's own block is written. -/
theorem OwnS.poke {k : Hp} {s : Slc} {xs : List Value} {ty : TypeId} {sz : Nat} (ho : OwnS k s xs ty sz) {j : Nat} (hj : j < xs.length) (u : Value) :
    ∃ c o, s.a = some (c, 0) ∧ k c = some o ∧ hwrite k (some (c, j)) [u] = some (k.set c ⟨o.cs.take j ++ [u] ++ o.cs.drop (j + 1), o.ty⟩) ∧ OwnS (k.set c ⟨o.cs.take j ++ [u] ++ o.cs.drop (j + 1), o.ty⟩) s (xs.take j ++ [u] ++ xs.drop (j + 1)) ty sz := by
  rcases ho with ⟨_, hx⟩ | ⟨c, o, h1, h2, h3, h4, h5, h6, h7⟩
  · rw [hx] at hj; cases hj
  · have hle : s.n * sz ≤ o.cs.length := by rw [h4]; exact Nat.mul_le_mul_right _ h5
    have hxl : xs.length = s.n * sz := by rw [h7, List.length_take]; omega
    have hjo : j < o.cs.length := by omega
    refine ⟨c, o, h1, h2, by rw [hwrite_of h2, if_pos (by simp; omega)]; rfl, .inr ⟨c, _, h1, set_same _ _ _, h3, ?_, h5, h6, ?_⟩⟩
    · simp only [List.length_append, List.length_take, List.length_drop, List.length_cons, List.length_nil]
      omega
    · simp only
      rw [h7, List.take_take, Nat.min_eq_left (by omega)]
      have hl : (o.cs.take j ++ [u]).length = j + 1 := by simp; omega
      rw [List.take_append (l₁ := o.cs.take j ++ [u]), List.take_of_length_le (l := o.cs.take j ++ [u]) (by omega), hl, List.drop_take]
def layS (N : Nat) (args : List Value) (h : Hp) (φ : Value → Hp → Prop) : Prop :=
  ∃ v t s acc, args = [ptrv v, s.val] ∧ t.n ≤ N ∧ It h v t ∧ OwnS h s (ncs acc) ND 6 ∧ s.n = acc.length ∧ acc.length + t.n ≤ 2000000 ∧
    ∀ s' k, OwnS k s' (ncs (acc ++ t.nods)) ND 6 → s'.n = acc.length + t.n → (∀ c o, (∀ z, s.a = some z → z.1 ≠ c) → h c = some o → k c = some o) → (∀ z, s'.a = some z → (∃ y, s.a = some y ∧ y.1 = z.1) ∨ h z.1 = none) → φ s'.val k
def LayOk (N : Nat) : Prop := ∀ args h φ w, layS N args h φ → Holds h w → Calls Tryz.prog 47 args.toArray w fun e w' => ∃ v k, e = .returned v ∧ φ v k ∧ Holds k w' ∧ Fr w.heap.size h k w w'
def ctLay {N : Nat} (H : LayOk N) : Ct Tryz.prog := ⟨47, layS N, H⟩
theorem nd_it : ND ≠ IT := by decide
theorem nd_pi : ND ≠ PI := by decide
theorem OwnS.ty {h : Hp} {s : Slc} {xs : List Value} {ty : TypeId} {sz : Nat} (ho : OwnS h s xs ty sz) {z : Nat × Nat} (hz : s.a = some z) : ∃ cs, h z.1 = some ⟨cs, ty⟩ := by
  rcases ho with ⟨h1, _⟩ | ⟨c, o, h1, h2, h3, _⟩
  · rw [h1] at hz; cases hz
  · rw [h1] at hz; cases hz
    obtain ⟨cs, ty'⟩ := o
    simp only at h3; subst h3
    exact ⟨cs, h2⟩
mutual
theorem It.keep {h k : Hp} (hk : ∀ c o, o.ty ≠ ND → h c = some o → k c = some o) : ∀ (v : Nat) (t : Tr), It h v t → It k v t
  | v, .nd _ _ _ _ _ ks, hi => by
    obtain ⟨sl, vs, h1, h2, h3⟩ := hi
    exact ⟨sl, vs, hk _ _ nd_it.symm h1, h2.keep fun z cs _ hc => hk _ _ nd_pi.symm hc, Its.keep hk vs ks h3⟩
theorem Its.keep {h k : Hp} (hk : ∀ c o, o.ty ≠ ND → h c = some o → k c = some o) : ∀ (vs : List Nat) (ts : List Tr), Its h vs ts → Its k vs ts
  | [], [], _ => trivial
  | v :: vs, t :: ts, hi => ⟨It.keep hk v t hi.1, Its.keep hk vs ts hi.2⟩
  | [], _ :: _, hi => hi
  | _ :: _, [], hi => hi
end
theorem Its.get {h : Hp} : ∀ {vs : List Nat} {ts : List Tr}, Its h vs ts → ∀ (j : Nat) (hj : j < ts.length), ∃ v, vs[j]? = some v ∧ It h v ts[j]
  | v :: vs, t :: ts, hi, 0, _ => ⟨v, rfl, hi.1⟩
  | v :: vs, t :: ts, hi, j + 1, hj => by
    obtain ⟨u, h1, h2⟩ := Its.get hi.2 j (by simpa using hj)
    exact ⟨u, by simpa using h1, by simpa using h2⟩
  | [], [], _, j, hj => by cases hj
  | [], _ :: _, hi, _, _ => by cases hi
  | _ :: _, [], hi, _, _ => by cases hi
theorem Kids.read {h : Hp} {s : Slc} {vs : List Nat} (K : Kids h s vs) {j v : Nat} (hv : vs[j]? = some v) : s.a.isSome = true ∧ hread h (s.a.map fun x => (x.1, x.2 + j * 1 + 0)) 1 = some [ptrv v] := by
  have hj := (List.getElem?_eq_some_iff.1 hv).1
  rcases K.own with ⟨h1, h2⟩ | ⟨c, o, h1, h2, h3, h4, h5, h6, h7⟩
  · have := congrArg List.length h2; simp at this; rw [this] at hj; cases hj
  · have hl := K.len
    rw [h1]
    refine ⟨rfl, ?_⟩
    simp only [Option.map_some, Nat.zero_add, Nat.mul_one, Nat.add_zero]
    rw [hread_of h2, if_pos (by omega)]
    have e : (o.cs.take (s.n * 1))[j]? = some (ptrv v) := by rw [← h7, List.getElem?_map, hv]; rfl
    rw [List.getElem?_take, if_pos (by omega)] at e
    rw [List.drop_eq_getElem_cons (by omega)]
    have e2 : o.cs[j]'(by omega) = ptrv v := by
      have := List.getElem?_eq_getElem (l := o.cs) (i := j) (by omega)
      rw [this] at e; exact Option.some.inj e
    rw [e2]; rfl
theorem nodss_take_succ {ks : List Tr} {j : Nat} (hj : j < ks.length) : Tr.nodss (ks.take (j + 1)) = Tr.nodss (ks.take j) ++ ks[j].nods := by
  rw [List.take_succ_eq_append_getElem hj, nodss_app, nodss_cons, nodss_nil, List.append_nil]
mutual
theorem Tr.n_sz : ∀ t : Tr, t.n = t.sz + 1
  | .nd k l c n x ks => by
    have := Tr.ns_szs ks
    simp only [Tr.n, Tr.nods, List.length_cons, Tr.sz]
    simp only [Tr.ns] at this
    omega
theorem Tr.ns_szs : ∀ ks : List Tr, Tr.ns ks = Tr.szs ks
  | [] => rfl
  | t :: ks => by
    rw [ns_cons, Tr.n_sz t, Tr.ns_szs ks, Tr.szs]
end
theorem ns_ge : ∀ ks : List Tr, ks.length ≤ Tr.ns ks
  | [] => Nat.zero_le _
  | t :: ks => by
    have := ns_ge ks
    rw [ns_cons, Tr.n_sz t, List.length_cons]; omega
structure LI (h : Hp) (s : Slc) (acc : List Nod) (nd0 : Nod) (ks : List Tr) (j : Nat) (s4 : Slc) (k1 : Hp) : Prop where
  own : OwnS k1 s4 (ncs (acc ++ nd0 :: Tr.nodss (ks.take j))) ND 6
  len : s4.n = acc.length + 1 + Tr.ns (ks.take j)
  kp : ∀ c o, (∀ z, s.a = some z → z.1 ≠ c) → h c = some o → k1 c = some o
  fr : ∀ z, s4.a = some z → (∃ y, s.a = some y ∧ y.1 = z.1) ∨ h z.1 = none
def layInv (h : Hp) (s : Slc) (acc : List Nod) (nd0 : Nod) (ks : List Tr) (v : Nat) (ksl : Slc) : Nat → Ctx → Prop := fun _ C =>
  ∃ a0 a1 a2 a3 a4 x0 l1 l2 s4 k1, ∃ j : Nat, C = ⟨[a0, a1, a2, a3, a4, (j : Nat)], [], [x0], [], [s, l1, l2, ksl, s4], [some (v, 0)], k1, noM⟩ ∧ j ≤ ks.length ∧ LI h s acc nd0 ks j s4 k1
set_option maxHeartbeats 8000000 in
theorem lay_ok : ∀ N, LayOk N
  | 0 => by
    rintro args h φ w ⟨v, t, s, acc, rfl, ht, _⟩ hH
    rw [t.n_sz] at ht; omega
  | N + 1 => by
    have ih := lay_ok N
    rintro args h φ w ⟨v, t, s, acc, rfl, ht, hI, hown, hsn, hmax, hφ⟩ hH
    cases t with
    | nd k l c n x ks =>
    have hIall := hI
    obtain ⟨ksl, vs, hv, hK, hIs⟩ := hI
    have hnn : (Tr.nd k l c n x ks).n = Tr.ns ks + 1 := by simp [Tr.n, Tr.ns, Tr.nods]
    have hkl := hIs.len
    have hge := ns_ge ks
    have hksn := hK.len
    rw [hnn] at ht hmax hφ
    obtain ⟨nd0, hnd0⟩ : ∃ y : Nod, y = ⟨k, l, c, 0, n, x⟩ := ⟨_, rfl⟩
    have hnc : nd0.cs = [.int .u8 k, .int .i64 l, .int .i64 c, .int .i64 0, .int .i64 n, .string (B x)] := by rw [hnd0]; rfl
    refine ct_forget (by_fm Tryz.func47 gen_lay ps_lay [ctLay ih] (fun v k => ∃ k', HLe k' k ∧ φ v k') (layInv h s acc nd0 ks v ksl) (fun _ C => ((ks.length : Int) - C.i.getD 5 0).toNat) ⟨[], [], [], [], [s], [some (v, 0)], h, noM⟩ ⟨rfl, rfl, rfl, rfl, rfl, rfl⟩ ones_nil ?_ w hH rfl)
    generalize hE : (⟨specOf _, _, _, _⟩ : Env) = E
    have s_ctL : E.spec 47 = (ctLay ih).spec := by rw [← hE]; rfl
    have ep : E.post = (fun v k => ∃ k', HLe k' k ∧ φ v k') := by rw [← hE]
    have ei : E.inv = (layInv h s acc nd0 ks v ksl) := by rw [← hE]
    have em : E.meas = (fun _ C => ((ks.length : Int) - C.i.getD 5 0).toNat) := by rw [← hE]
    clear hE
    unfold fm_lay
    have hsb : ∀ z, s.a = some z → ∃ cs, h z.1 = some ⟨cs, ND⟩ := fun z hz => hown.ty hz
    have hvs : ∀ z, s.a = some z → z.1 ≠ v := fun z hz e => by
      obtain ⟨cs, h1⟩ := hsb z hz
      rw [e, hv] at h1; exact nd_it (HO.mk.inj (Option.some.inj h1)).2.symm
    rw [th_need]
    refine ⟨by simp [go_sem], ?_⟩
    rw [then_step, th_need]
    refine ⟨by simp [go_sem], ?_⟩
    have hr0 : hread h (some (v, 0)) 6 = some [.int .u8 k, .int .i64 l, .int .i64 c, .int .i64 0, .int .i64 n, .string (B x)] := by rw [hread_of hv]; rfl
    rw [then_step, th_load, if_pos (by rfl)]
    refine (exI_iff _ _).2 ⟨⟨[k, l, c, 0, n], [], [x], [], [], []⟩, rfl, ones_nil, hr0, ?_⟩
    rw [then_step, th_mk]
    intro nb hnb
    have hnb' : h nb = none := hnb
    rw [then_step, says_app]
    have hm : (2000001 : Nat) ≤ maxLen := by decide
    have hnsb : ∀ z, s.a = some z → z.1 ≠ nb := fun z hz e => by
      obtain ⟨cs, h1⟩ := hsb z hz
      rw [e, hnb'] at h1; cases h1
    have hx1 : ∀ (C : Ctx), C.l = [s, ⟨some (nb, 0), 1, 1⟩] → ((LE.x 0).den C) = s ∧ ((LE.x 1).den C) = ⟨some (nb, 0), 1, 1⟩ := fun C hC => by simp [LE.den, hC]
    refine ⟨ncs acc, nd0.cs, own_set hown hnsb _, .inr ⟨by simp [go_sem], ?_⟩, ?_, ?_, ?_, ?_⟩
    · simp [go_sem, hnc]
    · intro u hu
      simp only [hnc, List.mem_cons, List.not_mem_nil, or_false] at hu
      rcases hu with rfl | rfl | rfl | rfl | rfl | rfl <;> rfl
    · simp [go_sem]; omega
    · simp [go_sem]; omega
    intro s4 k1 g1 g2 g3 g4
    have g2' : s4.n = s.n + 1 := g2
    have kp1 : ∀ c o, (∀ z, s.a = some z → z.1 ≠ c) → h c = some o → k1 c = some o := fun c o hc ho => g4 c o hc (by
      show (h.set nb _) c = some o
      rw [set_ne _ (fun e => by rw [e, hnb'] at ho; cases ho)]; exact ho)
    have L0 : LI h s acc nd0 ks 0 s4 k1 := by
      have g1' : OwnS k1 s4 (ncs acc ++ nd0.cs) ND 6 := g1
      refine ⟨by rw [List.take_zero, nodss_nil, ncs_app, ncs_cons]; show OwnS k1 s4 (ncs acc ++ (nd0.cs ++ [])) ND 6; rw [List.append_nil]; exact g1', by rw [List.take_zero, ns_nil, g2', hsn], kp1, fun z hz => ?_⟩
      rcases g3 z hz with hh | hh
      · exact .inl hh
      · have hh' : (h.set nb ⟨nd0.cs, ND⟩) z.1 = none := by rw [hnc]; exact hh
        rw [set_ne _ (fun e => by rw [e, set_same] at hh'; cases hh')] at hh'
        exact .inr hh'
    rw [th_need]
    refine ⟨by simp [go_sem], ?_⟩
    rw [then_step, th_need]
    refine ⟨by simp [go_sem], ?_⟩
    have hr6 : hread k1 (some (v, 6)) 1 = some [ksl.val] := it_read6 (kp1 v _ hvs hv)
    rw [then_step, th_load, if_pos (by rfl)]
    refine (exI_iff _ _).2 ⟨⟨[], [], [], [], [ksl], []⟩, rfl, ones_nil, hr6, ?_⟩
    simp [go_sem]
    rw [then_step]
    refine loop_intro ?_ ?_
    · rw [ei]
      exact ⟨_, _, _, _, _, _, _, _, s4, k1, 0, rfl, Nat.zero_le _, L0⟩
    rw [ei, em]
    rintro i' bb ss v' ll pp hh0 M ⟨a0, a1, a2, a3, a4, x0, l1, l2, s4, k1, j, hC, hj, I⟩ hM
    cases hC
    have hM' : M 0 = ((ks.length : Int) - j).toNat := hM
    clear hM L0 g1 g2 g3 g4 g2' kp1 hr6 hr0 hx1 hnb hnb' hnsb
    have hIk : Its hh0 vs ks := Its.keep (fun c o ho hc => I.kp c o (fun z hz e => by
      obtain ⟨cs, h1⟩ := hsb z hz
      rw [e, hc] at h1; cases h1; exact ho rfl) hc) _ _ hIs
    have hKk : Kids hh0 ksl vs := hK.keep fun z cs hz hc => I.kp _ _ (fun y hy e => by
      obtain ⟨cs', h1⟩ := hsb y hy
      rw [e, hc] at h1; exact nd_pi (HO.mk.inj (Option.some.inj h1)).2.symm) hc
    by_cases hjl : j < ks.length
    · obtain ⟨u, hu, hIu⟩ := hIk.get j hjl
      obtain ⟨hsome, hread1⟩ := hKk.read hu
      have e1 := nodss_take_succ hjl
      have hns : Tr.ns (ks.take (j + 1)) = Tr.ns (ks.take j) + ks[j].n := by simp only [Tr.ns, Tr.n, e1, List.length_append]
      have hle2 : Tr.ns (ks.take (j + 1)) ≤ Tr.ns ks := by
        have := ns_app (ks.take (j + 1)) (ks.drop (j + 1))
        rw [List.take_append_drop] at this; omega
      rw [th_ite, if_pos (by simp [go_sem]; omega)]
      rw [then_step, th_need]
      refine ⟨by simp [go_sem]; exact ⟨by omega, hsome⟩, ?_⟩
      rw [then_step, th_load, if_pos (by rfl)]
      refine (exI_iff _ _).2 ⟨⟨[], [], [], [], [], [some (u, 0)]⟩, rfl, ones_nil, ?_, ?_⟩
      · simpa [go_sem, ptrv] using hread1
      rw [then_step, th_call, if_pos (by rfl), s_ctL]
      refine ⟨u, ks[j], s4, acc ++ nd0 :: Tr.nodss (ks.take j), by simp [go_sem, ptrv], by omega, hIu, I.own, by rw [I.len]; simp [Tr.ns]; omega, by simp [Tr.ns] at hns hle2 hmax ⊢; omega, fun s5 k2 q1 q2 q3 q4 => ?_⟩
      have q1' : OwnS k2 s5 (ncs (acc ++ nd0 :: Tr.nodss (ks.take (j + 1)))) ND 6 := by rw [e1]; simpa using q1
      have I' : LI h s acc nd0 ks (j + 1) s5 k2 := by
        refine ⟨q1', by rw [q2, hns]; simp [Tr.ns]; omega, fun c o hc ho => q3 c o (fun z hz e => ?_) (I.kp c o hc ho), fun z hz => ?_⟩
        · rcases I.fr z hz with ⟨y, hy, e2⟩ | hn
          · exact hc y hy (e2.trans e)
          · rw [e, ho] at hn; cases hn
        · rcases q4 z hz with ⟨y, hy, e2⟩ | hn
          · rcases I.fr y hy with ⟨y', hy', e3⟩ | hn
            · exact .inl ⟨y', hy', e3.trans e2⟩
            · exact .inr (by rw [← e2]; exact hn)
          · by_cases hex : ∃ y, s.a = some y ∧ y.1 = z.1
            · exact .inl hex
            · cases hq : h z.1 with
              | none => exact .inr rfl
              | some o => have hn' : hh0 z.1 = none := hn; rw [I.kp z.1 o (fun y hy e => hex ⟨y, hy, e⟩) hq] at hn'; cases hn'
      simp [go_sem]
      rw [then_step, th_need]
      refine ⟨by simp [go_sem]; omega, ?_⟩
      rw [then_step, says_again, ei, em]
      refine ⟨⟨_, _, _, _, _, _, _, _, s5, k2, j + 1, rfl, by omega, I'⟩, ?_⟩
      simp [go_sem]
      omega
    · obtain rfl : j = ks.length := by omega
      have hown4 := I.own
      rw [List.take_length] at hown4
      have hlen4 := I.len
      rw [List.take_length] at hlen4
      have hcl : (ncs (acc ++ nd0 :: Tr.nodss ks)).length = (acc.length + 1 + Tr.ns ks) * 6 := by rw [ncs_len]; simp [Tr.ns]; omega
      obtain ⟨cb, o, p1, p2, p3, p4⟩ := hown4.poke (j := acc.length * 6 + 3) (by omega) (.int .i64 (Tr.ns ks : Nat))
      have hz : ((s4.n : Int) - s.n - 1) = (Tr.ns ks : Nat) := by omega
      rw [th_ite, if_neg (by simp [go_sem]; omega)]
      rw [then_step, th_need]
      refine ⟨by simp [go_sem]; omega, ?_⟩
      rw [then_step, th_need]
      refine ⟨by simp [go_sem]; omega, ?_⟩
      rw [then_step, th_need]
      refine ⟨by simp [go_sem, p1]; omega, ?_⟩
      rw [then_step, th_need]
      refine ⟨by simp [go_sem, p1], ?_⟩
      rw [then_step, th_store]
      refine ⟨_, by simp only [AE.den, CE.den, IE.den, LE.den, List.map_cons, List.map_nil, List.getD_cons_zero, List.getD_cons_succ]; simp only [p1, Option.map_some, Nat.zero_add, hz]; rw [hsn]; exact p3, ?_⟩
      rw [then_step, says_ret, ep]
      refine ⟨_, fun _ _ h => h, ?_⟩
      refine hφ s4 _ ?_ (by omega) (fun c' o' hc ho' => ?_) I.fr
      · have e : (ncs (acc ++ nd0 :: Tr.nodss ks)).take (acc.length * 6 + 3) ++ [Value.int .i64 (Tr.ns ks : Nat)] ++ (ncs (acc ++ nd0 :: Tr.nodss ks)).drop (acc.length * 6 + 3 + 1) = ncs (acc ++ (Tr.nd k l c n x ks).nods) := by
          have hal := ncs_len acc
          rw [Tr.nods, ← Tr.ns_szs, ncs_app, ncs_cons, ncs_app, ncs_cons]
          have t1 : (ncs acc ++ (nd0.cs ++ ncs (Tr.nodss ks))).take (acc.length * 6 + 3) = ncs acc ++ nd0.cs.take 3 := by
            rw [List.take_append, List.take_of_length_le (by omega), hal, show acc.length * 6 + 3 - acc.length * 6 = 3 by omega]; rfl
          have t2 : (ncs acc ++ (nd0.cs ++ ncs (Tr.nodss ks))).drop (acc.length * 6 + 3 + 1) = nd0.cs.drop 4 ++ ncs (Tr.nodss ks) := by
            rw [List.drop_append, List.drop_of_length_le (by omega), hal, show acc.length * 6 + 3 + 1 - acc.length * 6 = 4 by omega]; rfl
          rw [t1, t2]
          rw [hnc]; simp [Nod.cs]
        rw [← e]; exact p4
      · have hcc : c' ≠ cb := fun e => by
          rcases I.fr _ p1 with ⟨y, hy, e2⟩ | hn
          · exact hc y hy (e2.trans e.symm)
          · rw [← e, ho'] at hn; cases hn
        show (hh0.set cb _) c' = some o'
        rw [set_ne _ hcc]
        exact I.kp c' o' hc ho'
end Go.Proofs.YtllbpdllkkcajaaGreatDoor
namespace Go.Proofs.YtllbpdllkkcajaaGreatDoor
open Go.RowKit
attribute [local go_sem] says_tt says_ff th_need th_ite th_call th_callK th_load th_store th_mk th_new th_mks th_str says_ret says_again says_app BE.den IE.den SE.den LE.den AE.den CE.den PE.den VE.den KV.val Got.den Got.cnt exI allI exL allL Ctx.push Ctx.heap Ctx.cut Ctx.bare Ctx.mark Inc.blank List.getD_cons_zero List.getD_cons_succ List.cons_append List.nil_append List.append_nil List.map_cons List.map_nil List.replicate_zero List.replicate_succ specOf specL dynId ltB_t leB_t ltB_f leB_f slc_val slc_nil slc_inj pt_val pt_nil hle_noHeap hle_refl hread_set hwrite_set set_same set_set noHeap_at B_inj ones_nil and_assoc
def fm_qdigit : Fm := (.ite (.and (.le (.c 65) (.x 0)) (.le (.x 0) (.c 70)))
  (.call (.c true) false 168 [(.one (.s (.c [48, 49, 50, 51, 52, 53, 54, 55, 56, 57, 97, 98, 99, 100, 101, 102]))), (.one (.i .u8 (.wr .u8 (.add (.x 0) (.c 32)))))] (.p (.one (.i .i64 (.x 1)))) ⟨1, 0, 0, 0, 0, 0⟩
  (.ret (.p (.one (.i .i64 (.x 1))))))
  (.call (.c true) false 168 [(.one (.s (.c [48, 49, 50, 51, 52, 53, 54, 55, 56, 57, 97, 98, 99, 100, 101, 102]))), (.one (.i .u8 (.x 0)))] (.p (.one (.i .i64 (.x 1)))) ⟨1, 0, 0, 0, 0, 0⟩
  (.ret (.p (.one (.i .i64 (.x 1)))))))
theorem gen_qdigit : genFn ⟨true, []⟩ Tryz.prog (fun l => ([] : List LAnn).getD l ⟨[], [], []⟩) Tryz.f158 = fm_qdigit := by kernel_rfl
theorem ps_qdigit : freshPs Tryz.prog .zero Tryz.f158.params.toList = some ([(.one (.i .u8 (.x 0)))], ⟨1, 0, 0, 0, 0, 0⟩) := by kernel_rfl
def fm_qread : Fm := (.need (.not (.eqS (.x 0) (.c []))) (.and (.le (.c 0) (.c 0)) (.lt (.c 0) (.len (.x 0))))
  (.ite (.or (.eqS (.x 0) (.c [])) (.not (.eqI (.at (.x 0) (.c 0)) (.c 34))))
  (.ret (.tup [(.one (.s (.c []))), (.one (.i .i64 (.c 0))), (.one (.b (.c false)))]))
  (.new [(.c .nilp), (.sl .nil)] 46
  (.loop 0 ⟨[(.c 0), (.c 1)], [(.c false)], [(.c [])], [], [], []⟩
  (.need (.not (.eqI (.x 1) (.len (.x 0)))) (.and (.le (.c 0) (.x 1)) (.lt (.x 1) (.len (.x 0))))
  (.need (.not (.or (.eqI (.x 1) (.len (.x 0))) (.lt (.at (.x 0) (.x 1)) (.c 32)))) (.and (.le (.c 0) (.x 1)) (.lt (.x 1) (.len (.x 0))))
  (.ite (.or (.or (.eqI (.x 1) (.len (.x 0))) (.lt (.at (.x 0) (.x 1)) (.c 32))) (.lt (.c 126) (.at (.x 0) (.x 1))))
  (.ret (.tup [(.one (.s (.c []))), (.one (.i .i64 (.x 1))), (.one (.b (.c false)))]))
  (.need (.c true) (.and (.le (.c 0) (.x 1)) (.lt (.x 1) (.len (.x 0))))
  (.ite (.eqI (.at (.x 0) (.x 1)) (.c 34))
  (.call (.c true) false 27 [(.one (.pt 0))] (.p (.one (.s (.x 2)))) ⟨0, 0, 1, 0, 0, 0⟩
  (.need (.c true) (.and (.le (.c (-9223372036854775808)) (.add (.x 1) (.c 1))) (.le (.add (.x 1) (.c 1)) (.c 9223372036854775807)))
  (.ret (.tup [(.one (.s (.x 2))), (.one (.i .i64 (.add (.x 1) (.c 1)))), (.one (.b (.c true)))]))))
  (.ite (.not (.eqI (.at (.x 0) (.x 1)) (.c 92)))
  (.call (.c true) false 93 [(.one (.pt 0)), (.one (.i .u8 (.at (.x 0) (.x 1))))] (.p (.one (.v 0))) ⟨0, 0, 0, 1, 0, 0⟩
  (.need (.c true) (.and (.le (.c (-9223372036854775808)) (.add (.x 1) (.c 1))) (.le (.add (.x 1) (.c 1)) (.c 9223372036854775807)))
  (.again 0 ⟨0, 0, 1, 0, 0, 1⟩ ⟨2, 1, 2, 0, 0, 1⟩ ⟨[(.x 0), (.add (.x 1) (.c 1))], [(.x 0)], [(.x 1)], [], [], []⟩)))
  (.need (.c true) (.and (.le (.c (-9223372036854775808)) (.add (.x 1) (.c 1))) (.le (.add (.x 1) (.c 1)) (.c 9223372036854775807)))
  (.ite (.eqI (.add (.x 1) (.c 1)) (.len (.x 0)))
  (.ret (.tup [(.one (.s (.c []))), (.one (.i .i64 (.add (.x 1) (.c 1)))), (.one (.b (.c false)))]))
  (.need (.c true) (.and (.le (.c 0) (.add (.x 1) (.c 1))) (.lt (.add (.x 1) (.c 1)) (.len (.x 0))))
  (.ite (.eqI (.at (.x 0) (.add (.x 1) (.c 1))) (.c 34))
  (.ite (.eqI (.at (.x 0) (.add (.x 1) (.c 1))) (.c 34))
  (.need (.c true) (.and (.le (.c 0) (.add (.x 1) (.c 1))) (.lt (.add (.x 1) (.c 1)) (.len (.x 0))))
  (.call (.c true) false 93 [(.one (.pt 0)), (.one (.i .u8 (.at (.x 0) (.add (.x 1) (.c 1)))))] (.p (.one (.v 0))) ⟨0, 0, 0, 1, 0, 0⟩
  (.need (.c true) (.and (.le (.c (-9223372036854775808)) (.add (.add (.x 1) (.c 1)) (.c 1))) (.le (.add (.add (.x 1) (.c 1)) (.c 1)) (.c 9223372036854775807)))
  (.again 0 ⟨0, 0, 1, 0, 0, 1⟩ ⟨2, 1, 2, 0, 0, 1⟩ ⟨[(.x 0), (.add (.add (.x 1) (.c 1)) (.c 1))], [(.x 0)], [(.x 1)], [], [], []⟩))))
  (.ite (.eqI (.at (.x 0) (.add (.x 1) (.c 1))) (.c 110))
  (.call (.c true) false 93 [(.one (.pt 0)), (.one (.i .u8 (.c 10)))] (.p (.one (.v 0))) ⟨0, 0, 0, 1, 0, 0⟩
  (.need (.c true) (.and (.le (.c (-9223372036854775808)) (.add (.add (.x 1) (.c 1)) (.c 1))) (.le (.add (.add (.x 1) (.c 1)) (.c 1)) (.c 9223372036854775807)))
  (.again 0 ⟨0, 0, 1, 0, 0, 1⟩ ⟨2, 1, 2, 0, 0, 1⟩ ⟨[(.x 0), (.add (.add (.x 1) (.c 1)) (.c 1))], [(.x 0)], [(.x 1)], [], [], []⟩)))
  (.ite (.eqI (.at (.x 0) (.add (.x 1) (.c 1))) (.c 116))
  (.call (.c true) false 93 [(.one (.pt 0)), (.one (.i .u8 (.c 9)))] (.p (.one (.v 0))) ⟨0, 0, 0, 1, 0, 0⟩
  (.need (.c true) (.and (.le (.c (-9223372036854775808)) (.add (.add (.x 1) (.c 1)) (.c 1))) (.le (.add (.add (.x 1) (.c 1)) (.c 1)) (.c 9223372036854775807)))
  (.again 0 ⟨0, 0, 1, 0, 0, 1⟩ ⟨2, 1, 2, 0, 0, 1⟩ ⟨[(.x 0), (.add (.add (.x 1) (.c 1)) (.c 1))], [(.x 0)], [(.x 1)], [], [], []⟩)))
  (.ite (.eqI (.at (.x 0) (.add (.x 1) (.c 1))) (.c 120))
  (.loop 1 ⟨[(.x 0), (.add (.x 1) (.c 1)), (.c 0), (.c 0)], [(.x 0)], [(.x 1)], [], [], []⟩
  (.ite (.lt (.x 5) (.c 2))
  (.need (.c true) (.and (.le (.c (-9223372036854775808)) (.add (.x 3) (.c 1))) (.le (.add (.x 3) (.c 1)) (.c 9223372036854775807)))
  (.need (.not (.eqI (.add (.x 3) (.c 1)) (.len (.x 0)))) (.and (.le (.c 0) (.add (.x 3) (.c 1))) (.lt (.add (.x 3) (.c 1)) (.len (.x 0))))
  (.call (.not (.eqI (.add (.x 3) (.c 1)) (.len (.x 0)))) false 158 [(.one (.i .u8 (.at (.x 0) (.add (.x 3) (.c 1)))))] (.p (.one (.i .i64 (.x 6)))) ⟨1, 0, 0, 0, 0, 0⟩
  (.ite (.or (.eqI (.add (.x 3) (.c 1)) (.len (.x 0))) (.lt (.x 6) (.c 0)))
  (.ret (.tup [(.one (.s (.c []))), (.one (.i .i64 (.add (.x 3) (.c 1)))), (.one (.b (.c false)))]))
  (.need (.c true) (.and (.le (.c (-9223372036854775808)) (.mul (.c 16) (.x 4))) (.le (.mul (.c 16) (.x 4)) (.c 9223372036854775807)))
  (.need (.c true) (.and (.le (.c 0) (.add (.x 3) (.c 1))) (.lt (.add (.x 3) (.c 1)) (.len (.x 0))))
  (.call (.c true) false 158 [(.one (.i .u8 (.at (.x 0) (.add (.x 3) (.c 1)))))] (.p (.one (.i .i64 (.x 7)))) ⟨1, 0, 0, 0, 0, 0⟩
  (.need (.c true) (.and (.le (.c (-9223372036854775808)) (.add (.mul (.c 16) (.x 4)) (.x 7))) (.le (.add (.mul (.c 16) (.x 4)) (.x 7)) (.c 9223372036854775807)))
  (.need (.c true) (.and (.le (.c (-9223372036854775808)) (.add (.x 5) (.c 1))) (.le (.add (.x 5) (.c 1)) (.c 9223372036854775807)))
  (.again 1 ⟨2, 1, 2, 0, 0, 1⟩ ⟨6, 2, 3, 0, 0, 1⟩ ⟨[(.x 2), (.add (.x 3) (.c 1)), (.add (.mul (.c 16) (.x 4)) (.x 7)), (.add (.x 5) (.c 1))], [(.x 1)], [(.x 2)], [], [], []⟩))))))))))
  (.call (.c true) false 93 [(.one (.pt 0)), (.one (.i .u8 (.wr .u8 (.x 4))))] (.p (.one (.v 0))) ⟨0, 0, 0, 1, 0, 0⟩
  (.need (.c true) (.and (.le (.c (-9223372036854775808)) (.add (.x 3) (.c 1))) (.le (.add (.x 3) (.c 1)) (.c 9223372036854775807)))
  (.again 0 ⟨0, 0, 1, 0, 0, 1⟩ ⟨2, 1, 2, 0, 0, 1⟩ ⟨[(.x 2), (.add (.x 3) (.c 1))], [(.x 1)], [(.x 2)], [], [], []⟩)))))
  (.ret (.tup [(.one (.s (.c []))), (.one (.i .i64 (.add (.x 1) (.c 1)))), (.one (.b (.c false)))]))))))
  (.ite (.eqI (.at (.x 0) (.add (.x 1) (.c 1))) (.c 92))
  (.need (.c true) (.and (.le (.c 0) (.add (.x 1) (.c 1))) (.lt (.add (.x 1) (.c 1)) (.len (.x 0))))
  (.call (.c true) false 93 [(.one (.pt 0)), (.one (.i .u8 (.at (.x 0) (.add (.x 1) (.c 1)))))] (.p (.one (.v 0))) ⟨0, 0, 0, 1, 0, 0⟩
  (.need (.c true) (.and (.le (.c (-9223372036854775808)) (.add (.add (.x 1) (.c 1)) (.c 1))) (.le (.add (.add (.x 1) (.c 1)) (.c 1)) (.c 9223372036854775807)))
  (.again 0 ⟨0, 0, 1, 0, 0, 1⟩ ⟨2, 1, 2, 0, 0, 1⟩ ⟨[(.x 0), (.add (.add (.x 1) (.c 1)) (.c 1))], [(.x 0)], [(.x 1)], [], [], []⟩))))
  (.ite (.eqI (.at (.x 0) (.add (.x 1) (.c 1))) (.c 110))
  (.call (.c true) false 93 [(.one (.pt 0)), (.one (.i .u8 (.c 10)))] (.p (.one (.v 0))) ⟨0, 0, 0, 1, 0, 0⟩
  (.need (.c true) (.and (.le (.c (-9223372036854775808)) (.add (.add (.x 1) (.c 1)) (.c 1))) (.le (.add (.add (.x 1) (.c 1)) (.c 1)) (.c 9223372036854775807)))
  (.again 0 ⟨0, 0, 1, 0, 0, 1⟩ ⟨2, 1, 2, 0, 0, 1⟩ ⟨[(.x 0), (.add (.add (.x 1) (.c 1)) (.c 1))], [(.x 0)], [(.x 1)], [], [], []⟩)))
  (.ite (.eqI (.at (.x 0) (.add (.x 1) (.c 1))) (.c 116))
  (.call (.c true) false 93 [(.one (.pt 0)), (.one (.i .u8 (.c 9)))] (.p (.one (.v 0))) ⟨0, 0, 0, 1, 0, 0⟩
  (.need (.c true) (.and (.le (.c (-9223372036854775808)) (.add (.add (.x 1) (.c 1)) (.c 1))) (.le (.add (.add (.x 1) (.c 1)) (.c 1)) (.c 9223372036854775807)))
  (.again 0 ⟨0, 0, 1, 0, 0, 1⟩ ⟨2, 1, 2, 0, 0, 1⟩ ⟨[(.x 0), (.add (.add (.x 1) (.c 1)) (.c 1))], [(.x 0)], [(.x 1)], [], [], []⟩)))
  (.ite (.eqI (.at (.x 0) (.add (.x 1) (.c 1))) (.c 120))
  (.loop 1 ⟨[(.x 0), (.add (.x 1) (.c 1)), (.c 0), (.c 0)], [(.x 0)], [(.x 1)], [], [], []⟩
  (.ite (.lt (.x 5) (.c 2))
  (.need (.c true) (.and (.le (.c (-9223372036854775808)) (.add (.x 3) (.c 1))) (.le (.add (.x 3) (.c 1)) (.c 9223372036854775807)))
  (.need (.not (.eqI (.add (.x 3) (.c 1)) (.len (.x 0)))) (.and (.le (.c 0) (.add (.x 3) (.c 1))) (.lt (.add (.x 3) (.c 1)) (.len (.x 0))))
  (.call (.not (.eqI (.add (.x 3) (.c 1)) (.len (.x 0)))) false 158 [(.one (.i .u8 (.at (.x 0) (.add (.x 3) (.c 1)))))] (.p (.one (.i .i64 (.x 6)))) ⟨1, 0, 0, 0, 0, 0⟩
  (.ite (.or (.eqI (.add (.x 3) (.c 1)) (.len (.x 0))) (.lt (.x 6) (.c 0)))
  (.ret (.tup [(.one (.s (.c []))), (.one (.i .i64 (.add (.x 3) (.c 1)))), (.one (.b (.c false)))]))
  (.need (.c true) (.and (.le (.c (-9223372036854775808)) (.mul (.c 16) (.x 4))) (.le (.mul (.c 16) (.x 4)) (.c 9223372036854775807)))
  (.need (.c true) (.and (.le (.c 0) (.add (.x 3) (.c 1))) (.lt (.add (.x 3) (.c 1)) (.len (.x 0))))
  (.call (.c true) false 158 [(.one (.i .u8 (.at (.x 0) (.add (.x 3) (.c 1)))))] (.p (.one (.i .i64 (.x 7)))) ⟨1, 0, 0, 0, 0, 0⟩
  (.need (.c true) (.and (.le (.c (-9223372036854775808)) (.add (.mul (.c 16) (.x 4)) (.x 7))) (.le (.add (.mul (.c 16) (.x 4)) (.x 7)) (.c 9223372036854775807)))
  (.need (.c true) (.and (.le (.c (-9223372036854775808)) (.add (.x 5) (.c 1))) (.le (.add (.x 5) (.c 1)) (.c 9223372036854775807)))
  (.again 1 ⟨2, 1, 2, 0, 0, 1⟩ ⟨6, 2, 3, 0, 0, 1⟩ ⟨[(.x 2), (.add (.x 3) (.c 1)), (.add (.mul (.c 16) (.x 4)) (.x 7)), (.add (.x 5) (.c 1))], [(.x 1)], [(.x 2)], [], [], []⟩))))))))))
  (.call (.c true) false 93 [(.one (.pt 0)), (.one (.i .u8 (.wr .u8 (.x 4))))] (.p (.one (.v 0))) ⟨0, 0, 0, 1, 0, 0⟩
  (.need (.c true) (.and (.le (.c (-9223372036854775808)) (.add (.x 3) (.c 1))) (.le (.add (.x 3) (.c 1)) (.c 9223372036854775807)))
  (.again 0 ⟨0, 0, 1, 0, 0, 1⟩ ⟨2, 1, 2, 0, 0, 1⟩ ⟨[(.x 2), (.add (.x 3) (.c 1))], [(.x 1)], [(.x 2)], [], [], []⟩)))))
  (.ret (.tup [(.one (.s (.c []))), (.one (.i .i64 (.add (.x 1) (.c 1)))), (.one (.b (.c false)))]))))))))))))))))))))
theorem gen_qread : genFn ⟨true, [5]⟩ Tryz.prog (fun l => ([⟨[2, 3, 4, 6], [16, 17, 18, 19, 20, 21, 22, 23, 24, 25, 26, 27, 28, 29, 30, 31, 32, 33, 34, 35, 7, 37, 38, 36, 39, 40, 41, 43, 44, 42, 45, 46, 47, 48, 49, 50, 51, 52, 53, 54, 55, 56, 57, 58, 61, 60, 62, 63, 64, 65, 66, 68, 67, 69, 71, 70, 72, 74, 73, 8, 75, 76, 77, 78, 79, 80, 81, 82, 83, 84, 85, 86, 87, 88, 89, 90, 91, 92, 93, 94, 95, 96, 97, 98, 99, 100, 101, 59, 102, 103], []⟩, ⟨[6, 2, 3, 4, 8, 75], [76, 77, 78, 79, 80, 81, 82, 83, 84, 85, 86, 87, 88, 89, 90, 91, 92, 93, 94, 95, 96, 97, 98], []⟩] : List LAnn).getD l ⟨[], [], []⟩) Tryz.f143 = fm_qread := by kernel_rfl
theorem ps_qread : freshPs Tryz.prog .zero Tryz.f143.params.toList = some ([(.one (.s (.x 0)))], ⟨0, 0, 1, 0, 0, 0⟩) := by kernel_rfl
def fm_qend : Fm := (.call (.c true) false 143 [(.one (.s (.x 0)))] (.tup [(.one (.s (.x 1))), (.one (.i .i64 (.x 0))), (.one (.b (.x 0)))]) ⟨1, 1, 1, 0, 0, 0⟩
  (.ret (.tup [(.one (.i .i64 (.x 0))), (.one (.b (.x 0)))])))
theorem gen_qend : genFn ⟨true, []⟩ Tryz.prog (fun l => ([] : List LAnn).getD l ⟨[], [], []⟩) Tryz.f121 = fm_qend := by kernel_rfl
theorem ps_qend : freshPs Tryz.prog .zero Tryz.f121.params.toList = some ([(.one (.s (.x 0)))], ⟨0, 0, 1, 0, 0, 0⟩) := by kernel_rfl
def fm_qunq : Fm := (.call (.c true) false 143 [(.one (.s (.x 0)))] (.tup [(.one (.s (.x 1))), (.one (.i .i64 (.x 0))), (.one (.b (.x 0)))]) ⟨1, 1, 1, 0, 0, 0⟩
  (.ite (.or (.not (.x 0)) (.not (.eqI (.x 0) (.len (.x 0)))))
  (.ret (.tup [(.one (.s (.c []))), (.one (.i .i64 (.c 2)))]))
  (.ret (.tup [(.one (.s (.x 1))), (.one (.i .i64 (.c 0)))]))))
theorem gen_qunq : genFn ⟨true, []⟩ Tryz.prog (fun l => ([] : List LAnn).getD l ⟨[], [], []⟩) Tryz.f122 = fm_qunq := by kernel_rfl
theorem ps_qunq : freshPs Tryz.prog .zero Tryz.f122.params.toList = some ([(.one (.s (.x 0)))], ⟨0, 0, 1, 0, 0, 0⟩) := by kernel_rfl
def fm_literal : Fm := (.load (.c true) (.pt 0 0) 1 [(.s (.x 1))] ⟨0, 0, 1, 0, 0, 0⟩
  (.load (.c true) (.pt 0 1) 1 [(.i .i64 (.x 4))] ⟨1, 0, 0, 0, 0, 0⟩
  (.need (.c true) (.nnp 0)
  (.need (.c true) (.nnp 0)
  (.need (.c true) (.nnp 0)
  (.need (.c true) (.nnp 0)
  (.need (.c true) (.and (.le (.c 0) (.x 4)) (.le (.x 4) (.len (.x 1))))
  (.callK (.c true) [((.c true), (.pt 0 0), 1), ((.c true), (.pt 0 1), 1)] 121 [(.one (.s (.sub (.x 1) (.x 4) (.len (.x 1)))))] (.tup [(.one (.i .i64 (.x 5))), (.one (.b (.x 0)))]) ⟨1, 1, 0, 0, 0, 0⟩
  (.ite (.not (.x 0))
  (.ret (.tup [(.agg [(.i .u8 (.c 0)), (.i .i64 (.c 0)), (.i .i64 (.c 0)), (.i .i64 (.c 0)), (.s (.c []))]), (.one (.i .i64 (.c 4)))]))
  (.load (.c true) (.pt 0 0) 1 [(.s (.x 2))] ⟨0, 0, 1, 0, 0, 0⟩
  (.load (.c true) (.pt 0 1) 1 [(.i .i64 (.x 6))] ⟨1, 0, 0, 0, 0, 0⟩
  (.load (.c true) (.pt 0 1) 1 [(.i .i64 (.x 7))] ⟨1, 0, 0, 0, 0, 0⟩
  (.need (.c true) (.nnp 0)
  (.need (.c true) (.nnp 0)
  (.need (.c true) (.nnp 0)
  (.need (.c true) (.nnp 0)
  (.need (.c true) (.nnp 0)
  (.need (.c true) (.nnp 0)
  (.need (.c true) (.and (.le (.c (-9223372036854775808)) (.add (.x 7) (.x 5))) (.le (.add (.x 7) (.x 5)) (.c 9223372036854775807)))
  (.need (.c true) (.and (.and (.le (.c 0) (.add (.x 7) (.x 5))) (.le (.add (.x 7) (.x 5)) (.len (.x 2)))) (.and (.le (.c 0) (.x 6)) (.le (.x 6) (.add (.x 7) (.x 5)))))
  (.callK (.c true) [((.c true), (.pt 0 0), 1), ((.c true), (.pt 0 1), 1), ((.c true), (.pt 0 1), 1)] 122 [(.one (.s (.sub (.x 2) (.x 6) (.add (.x 7) (.x 5)))))] (.tup [(.one (.s (.x 3))), (.one (.i .i64 (.x 8)))]) ⟨1, 0, 1, 0, 0, 0⟩
  (.call (.c true) false 114 [(.one (.pt 0)), (.one (.i .i64 (.x 5)))] (.tup []) ⟨0, 0, 0, 0, 0, 0⟩
  (.ret (.tup [(.agg [(.i .u8 (.c 5)), (.i .i64 (.x 1)), (.i .i64 (.x 2)), (.i .i64 (.x 3)), (.s (.x 3))]), (.one (.i .i64 (.x 8)))]))))))))))))))))))))))))
theorem gen_literal : genFn ⟨true, []⟩ Tryz.prog (fun l => ([] : List LAnn).getD l ⟨[], [], []⟩) Tryz.f78 = fm_literal := by kernel_rfl
theorem ps_literal : freshPs Tryz.prog .zero Tryz.f78.params.toList = some ([(.one (.pt 0)), (.agg [(.i .u8 (.x 0)), (.i .i64 (.x 1)), (.i .i64 (.x 2)), (.i .i64 (.x 3)), (.s (.x 0))])], ⟨4, 0, 1, 0, 0, 1⟩) := by kernel_rfl
def HD : List UInt8 := [48, 49, 50, 51, 52, 53, 54, 55, 56, 57, 97, 98, 99, 100, 101, 102]
def ctIndexByte : Ct Tryz.prog where
  f := 168
  spec := fun args h φ => ∃ s c, args = [.string (B s), .int .u8 c] ∧ φ (.int .i64 (Lib.indexByte s c.toNat.toUInt8)) h
  ok := by
    rintro args h φ w ⟨s, c, rfl, hφ⟩ hH
    exact ct_same (v := .int .i64 (Lib.indexByte s c.toNat.toUInt8)) ((Tryz.strings_IndexByte (B s) c w).mono fun e w' ⟨he, hw⟩ => ⟨he, hw.symm⟩) hφ hH
theorem hd_low (c : Int) (h0 : 0 ≤ c) (h1 : c ≤ 255) : Lib.indexByte HD c.toNat.toUInt8 = if 48 ≤ c ∧ c ≤ 57 then c - 48 else if 97 ≤ c ∧ c ≤ 102 then c - 87 else -1 := by
  have hall : ∀ n : Fin 256, Lib.indexByte HD n.val.toUInt8 = if 48 ≤ (n.val : Int) ∧ (n.val : Int) ≤ 57 then (n.val : Int) - 48 else if 97 ≤ (n.val : Int) ∧ (n.val : Int) ≤ 102 then (n.val : Int) - 87 else -1 := by decide +kernel
  have := hall ⟨c.toNat, by omega⟩
  simp only [Int.toNat_of_nonneg h0] at this
  exact this
def ctQDigit : Ct Tryz.prog where
  f := 158
  spec := fun args h φ => ∃ c : Int, args = [.int .u8 c] ∧ 0 ≤ c ∧ c ≤ 255 ∧ φ (.int .i64 (hx c)) h
  ok := by
    rintro args h φ w ⟨c, rfl, c0, c1, hφ⟩ hH
    refine by_fm Tryz.func158 gen_qdigit ps_qdigit [ctIndexByte] φ noInv noMeas ⟨[c], [], [], [], [], [], h, noM⟩ ⟨rfl, rfl, rfl, rfl, rfl, rfl⟩ ones_nil ?_ w hH rfl
    generalize hE : (⟨specOf _, _, _, _⟩ : Env) = E
    have s1 : E.spec 168 = ctIndexByte.spec := by rw [← hE]; rfl
    have ep : E.post = φ := by rw [← hE]
    clear hE
    unfold fm_qdigit
    rw [th_ite]
    by_cases hc : 65 ≤ c ∧ c ≤ 70
    · rw [if_pos (by simp [go_sem, hc.1, hc.2]), then_step, th_call, if_pos (by rfl), s1]
      have hw : IntKind.u8.wrap (c + 32) = c + 32 := by rw [IntKind.wrap_u8]; omega
      refine ⟨HD, c + 32, by simp [go_sem, hw, HD], ?_⟩
      rw [hd_low _ (by omega) (by omega), if_neg (by omega), if_pos (by omega)]
      have e : hx c = c + 32 - 87 := by
        unfold hx; rw [if_neg (by omega), if_neg (by omega), if_pos hc]; omega
      rw [← e]
      simp [go_sem]
      simp only [then_step]; simp [go_sem, ep, hφ]
    · rw [if_neg (by simp [go_sem]; omega), then_step, th_call, if_pos (by rfl), s1]
      refine ⟨HD, c, by simp [go_sem, HD], ?_⟩
      have e : hx c = if 48 ≤ c ∧ c ≤ 57 then c - 48 else if 97 ≤ c ∧ c ≤ 102 then c - 87 else -1 := by
        unfold hx; rw [if_neg hc]
      rw [hd_low _ c0 c1, ← e]
      simp [go_sem]
      simp only [then_step]; simp [go_sem, ep, hφ]
/-- What is known at a byte of a literal. -/
structure QI (h : Hp) (s : List UInt8) (b : Nat) (i : Nat) (used : Bool) (sl : Slc) (acc : List UInt8) (hh : Hp) : Prop where
  bld : Bld hh b used sl acc
  kept : HLe h hh
  nb : h b = none
  fresh : ∀ z, sl.a = some z → h z.1 = none
  lo : 1 ≤ i
  le : i ≤ s.length
  cnt : acc.length ≤ i
  all : ∃ m, s.length < m + i ∧ rdA s.length s 1 [] = rdA m s i acc
def qInv (h : Hp) (s : List UInt8) : Nat → Ctx → Prop
  | 0, C => ∃ x0 i y t b used sl acc hh, C = ⟨[x0, (i : Nat)], [y], [s, t], [], [], [some (b, 0)], hh, noM⟩ ∧ QI h s b i used sl acc hh
  | _ + 1, C => ∃ x0 i x2 j n k y y' t t' b used sl acc hh, C = ⟨[x0, (i : Nat), x2, (j : Nat), n, (k : Nat)], [y, y'], [s, t, t'], [], [], [some (b, 0)], hh, noM⟩ ∧ QI h s b i used sl acc hh ∧
    i + 1 < s.length ∧ bt s i = 92 ∧ bt s (i + 1) = 120 ∧ j = i + 1 + k ∧ ((k = 0 ∧ n = 0) ∨ (k = 1 ∧ i + 2 < s.length ∧ n = hx (bt s (i + 2)) ∧ 0 ≤ n) ∨ (k = 2 ∧ i + 3 < s.length ∧ n = 16 * hx (bt s (i + 2)) + hx (bt s (i + 3)) ∧ 0 ≤ hx (bt s (i + 2)) ∧ 0 ≤ hx (bt s (i + 3))))
def qMeas (s : List UInt8) : Nat → Ctx → Nat
  | 0, C => ((s.length : Int) - C.i.getD 1 0).toNat
  | _ + 1, C => (2 - C.i.getD 5 0).toNat
/-- A loop within another one: the names of outside stay. -/
theorem loop_in {E : Env} {o : Nat} {g : Got} {k : Fm} {C : Ctx} (h1 : E.inv o (C.push (g.den C)).bare)
    (h2 : ∀ (x : Inc) h M, x.cnt = g.cnt → E.inv o ((C.push x).heap h).bare → M o = E.meas o ((C.push x).heap h).bare → (∀ j, j ≠ o → M j = C.m j) → k.says E ⟨C.i ++ x.i, C.b ++ x.b, C.s ++ x.s, C.v ++ x.v, C.l ++ x.l, C.p ++ x.p, h, M⟩) : (Fm.loop o g k).says E C := by
  refine ⟨h1, (allI_iff _ _).2 fun x hx _ h hi => ?_⟩
  exact h2 x h (fun j => if j = o then E.meas o ((C.push x).heap h).bare else C.m j) hx hi (by simp) (fun j hj => by simp [hj])
theorem bt_bd (s : List UInt8) (i : Nat) : 0 ≤ bt s i ∧ bt s i ≤ 255 := by
  unfold bt
  have := (s.getD i 0).toNat_lt
  omega
/-- A byte more. -/
theorem QI.next {h : Hp} {s : List UInt8} {b i i' : Nat} {used : Bool} {sl : Slc} {acc : List UInt8} {hh : Hp} (Q : QI h s b i used sl acc hh) {x : UInt8} {sl' : Slc} {k : Hp} (h1 : Bld k b true sl' (acc ++ [x])) (h2 : ∀ c o, c ≠ b → (∀ z, sl.a = some z → z.1 ≠ c) → hh c = some o → k c = some o)
    (h3 : ∀ z, sl'.a = some z → (∃ y, sl.a = some y ∧ y.1 = z.1) ∨ hh z.1 = none) (hi : i < i') (hl : i' ≤ s.length) (hs : ∀ m, rdA (m + 1) s i acc = rdA m s i' (acc ++ [x])) : QI h s b i' true sl' (acc ++ [x]) k := by
  refine ⟨h1, fun c o hc => h2 c o (fun e => by rw [e, Q.nb] at hc; cases hc) (fun z hz e => by have := Q.fresh z hz; rw [e, hc] at this; cases this) (Q.kept c o hc), Q.nb, fun z hz => ?_, by have := Q.lo; omega, hl, by have := Q.cnt; simp; omega, ?_⟩
  · rcases h3 z hz with ⟨y, hy, e⟩ | hn
    · rw [← e]; exact Q.fresh y hy
    · cases hq : h z.1 with
      | none => rfl
      | some o => rw [Q.kept _ _ hq] at hn; cases hn
  · obtain ⟨m, hm, he⟩ := Q.all
    have hle := Q.le
    obtain ⟨m', rfl⟩ : ∃ m', m = m' + 1 := ⟨m - 1, by omega⟩
    exact ⟨m', by omega, by rw [he, hs]⟩
theorem QI.stop {h : Hp} {s : List UInt8} {b i : Nat} {used : Bool} {sl : Slc} {acc : List UInt8} {hh : Hp} (Q : QI h s b i used sl acc hh) {r : Option (List UInt8 × Nat)} (hs : ∀ m, rdA (m + 1) s i acc = r) : rdA s.length s 1 [] = r := by
  obtain ⟨m, hm, he⟩ := Q.all
  have hle := Q.le
  obtain ⟨m', rfl⟩ : ∃ m', m = m' + 1 := ⟨m - 1, by omega⟩
  rw [he, hs]
theorem hx_hi (b : Int) : hx b ≤ 15 := by
  unfold hx; split
  · omega
  · split
    · omega
    · split <;> omega
theorem ones1 {v : Value} (h : v.oneCell' = true) : Ones [v] := fun u hu => by simp at hu; subst hu; exact h
set_option maxRecDepth 100000 in
set_option maxHeartbeats 8000000 in
def ctRead : Ct Tryz.prog where
  f := 143
  spec := fun args h φ => ∃ s, args = [.string (B s)] ∧ s.length ≤ 100000 ∧
    (match rdq s with
      | some (t, e) => φ (.tuple #[.string (B t), .int .i64 (e : Nat), .bool true]) h
      | none => ∀ t n, φ (.tuple #[.string (B t), .int .i64 n, .bool false]) h)
  ok := by
    rintro args h φ w ⟨s, rfl, hlen, hφ⟩ hH
    refine ct_forget (by_fm Tryz.func143 gen_qread ps_qread [ctString, ctWriteByte, ctQDigit] (fun v k => ∃ k', HLe k' k ∧ φ v k') (qInv h s) (qMeas s) ⟨[], [], [s], [], [], [], h, noM⟩ ⟨rfl, rfl, rfl, rfl, rfl, rfl⟩ ones_nil ?_ w hH rfl)
    generalize hE : (⟨specOf _, _, _, _⟩ : Env) = E
    have s1 : E.spec 27 = ctString.spec := by rw [← hE]; rfl
    have s2 : E.spec 93 = ctWriteByte.spec := by rw [← hE]; rfl
    have s3 : E.spec 158 = ctQDigit.spec := by rw [← hE]; rfl
    have ep : E.post = fun v k => ∃ k', HLe k' k ∧ φ v k' := by rw [← hE]
    have ei : E.inv = qInv h s := by rw [← hE]
    have em : E.meas = qMeas s := by rw [← hE]
    clear hE
    unfold rdq at hφ
    have no : ∀ {hh}, HLe h hh → rdA s.length s 1 [] = none → ∀ t n, ∃ k', HLe k' hh ∧ φ (.tuple #[.string (B t), .int .i64 n, .bool false]) k' := fun hle hr t n => by
      refine ⟨h, hle, ?_⟩
      rw [hr] at hφ
      split at hφ
      · rename_i heq; split at heq <;> cases heq
      · exact hφ t n
    rw [← then_step]; unfold fm_qread
    by_cases hs0 : s = []
    · subst hs0
      rw [if_pos (.inl rfl)] at hφ
      iterate 3 (try simp only [then_step]; try simp [go_sem, ep])
      exact ⟨h, fun _ _ h => h, hφ _ _⟩
    have hpos : 0 < s.length := List.length_pos_iff.2 hs0
    by_cases h34 : bt s 0 = 34
    · rw [if_neg (by omega)] at hφ
      have wr : ∀ {hh used sl acc i b} (Q : QI h s b i used sl acc hh) (x : Int), 0 ≤ x → x ≤ 255 → ∀ {i'}, i < i' → i' ≤ s.length → (∀ m, rdA (m + 1) s i acc = rdA m s i' (acc ++ [ub x])) → ∀ ψ : Value → Hp → Prop,
          (∀ sl' k', QI h s b i' true sl' (acc ++ [ub x]) k' → ψ .nilIface k') → ctWriteByte.spec [.pointer (some ⟨b, 0, none⟩), .int .u8 x] hh ψ := by
        intro hh used sl acc i b Q x x0 x1 i' h1 h2 h3 ψ h4
        have := Q.cnt
        have := Q.le
        exact ⟨b, used, sl, acc, x, rfl, Q.bld, x0, x1, by omega, fun sl' k hB hf hr => h4 sl' k (Q.next hB hf hr h1 h2 h3)⟩
      iterate 2 (simp only [then_step]; simp [go_sem, hs0, h34])
      simp only [then_step, th_new]
      refine ⟨hpos, fun b hb => ?_⟩
      refine loop_intro ?_ ?_
      · rw [ei]
        refine ⟨0, 1, false, [], b, false, ⟨none, 0, 0⟩, [], h.set b ⟨bld b false ⟨none, 0, 0⟩, BT⟩, rfl, ⟨⟨set_same _ _ _, .inl ⟨rfl, rfl⟩, rfl, fun _ hz => (by cases hz), fun _ => rfl, fun hz => absurd rfl hz⟩, hle_set hb _, hb, fun _ hz => (by cases hz), Nat.le_refl _, hpos, Nat.zero_le _, s.length, by omega, rfl⟩⟩
      · rw [ei, em]
        rintro i' bb ss v ll pp hh0 M ⟨x0, i, y, t, b', used, sl, acc, hh, hC, Q⟩ hM
        cases hC
        have hM' : M 0 = ((s.length : Int) - i).toNat := hM
        clear hM hb
        have hile := Q.le
        have hibd := bt_bd s i
        rw [← then_step]
        by_cases hil : i = s.length
        · have hz : (i : Int) = s.length := by omega
          iterate 5 (try simp only [then_step]; try simp [go_sem, ep, hz])
          exact no Q.kept (Q.stop fun m => by rw [rdA, if_pos (.inl (by omega))]) _ _
        have hlt : i < s.length := by omega
        have hz : ¬ (i : Int) = s.length := by omega
        have hz2 : (i : Int) < s.length := by omega
        by_cases hpr : bt s i < 32 ∨ 126 < bt s i
        · iterate 4 (try simp only [then_step]; try simp [go_sem, ep, hz, hz2, hpr])
          exact no Q.kept (Q.stop fun m => by rw [rdA, if_pos (.inr hpr)]) _ _
        have p1 : ¬ bt s i < 32 := by omega
        have p2 : ¬ 126 < bt s i := by omega
        by_cases q34 : bt s i = 34
        · iterate 6 (try simp only [then_step]; try simp [go_sem, hz, hz2, q34])
          have hr : rdA s.length s 1 [] = some (acc, i + 1) := Q.stop fun m => by rw [rdA, if_neg (by omega), if_pos q34]
          rw [hr] at hφ
          rw [s1]
          refine ⟨b', used, sl, acc, rfl, Q.bld, ?_⟩
          refine ⟨acc, rfl, ?_⟩
          have hd : HLe h (hh0.drop sl) := fun c o hc => by
            have h1 := Q.kept c o hc
            unfold Hp.drop
            cases hsa : sl.a with
            | none => exact h1
            | some z =>
              simp only [Hp.del]
              rw [if_neg (fun e => by have := Q.fresh z hsa; rw [← e, hc] at this; cases this)]
              exact h1
          iterate 3 (try simp only [then_step]; try simp [go_sem, ep])
          refine ⟨by omega, by omega, h, hd, ?_⟩
          simpa using hφ
        by_cases q92 : bt s i = 92
        · have e1 : ((i : Int) + 1).toNat = i + 1 := by omega
          have hibd1 := bt_bd s (i + 1)
          by_cases hi1 : i + 1 = s.length
          · have hz1 : (i : Int) + 1 = s.length := by omega
            iterate 12 (try simp only [then_step]; try simp [go_sem, ep, hz, hz2, q92, hz1])
            exact ⟨by omega, no Q.kept (Q.stop fun m => by rw [rdA, if_neg (by omega), if_neg q34, if_neg (fun h => h q92), if_pos (by omega)]) _ _⟩
          have hz1 : ¬ (i : Int) + 1 = s.length := by omega
          have hz3 : (i : Int) + 1 < s.length := by omega
          have fin2 : ∀ {sl' k' acc'}, QI h s b' (i + 2) true sl' acc' k' → E.inv 0 ⟨[x0, ↑i + 1 + 1], [y], [s, t], [], [], [some (b', 0)], k', noM⟩ ∧ E.meas 0 ⟨[x0, ↑i + 1 + 1], [y], [s, t], [], [], [some (b', 0)], k', noM⟩ < M 0 := by
            intro sl' k' acc' Q'
            rw [ei, em]
            refine ⟨⟨x0, i + 2, y, t, b', true, sl', acc', k', by rw [show ((i + 2 : Nat) : Int) = (i : Int) + 1 + 1 by omega], Q'⟩, ?_⟩
            simp only [qMeas, List.getD_cons_succ, List.getD_cons_zero]
            omega
          by_cases c34 : bt s (i + 1) = 34
          · iterate 18 (try simp only [then_step]; try simp [go_sem, hz, hz1, hz3, hz2, q92, e1, c34])
            refine ⟨by omega, by omega, by omega, ?_⟩
            rw [s2]
            exact wr Q 34 (by omega) (by omega) (i' := i + 2) (by omega) (by omega) (fun m => by rw [rdA, if_neg (by omega), if_neg q34, if_neg (fun h => h q92), if_neg (by omega), if_pos (.inl c34), c34]) _ (fun sl' k' Q' => ⟨.nilIface, ones1 rfl, rfl, by omega, by omega, fin2 Q'⟩)
          by_cases c92 : bt s (i + 1) = 92
          · iterate 18 (try simp only [then_step]; try simp [go_sem, hz, hz1, hz3, hz2, q92, e1, c92])
            refine ⟨by omega, by omega, by omega, ?_⟩
            rw [s2]
            exact wr Q 92 (by omega) (by omega) (i' := i + 2) (by omega) (by omega) (fun m => by rw [rdA, if_neg (by omega), if_neg q34, if_neg (fun h => h q92), if_neg (by omega), if_pos (.inr c92), c92]) _ (fun sl' k' Q' => ⟨.nilIface, ones1 rfl, rfl, by omega, by omega, fin2 Q'⟩)
          by_cases c110 : bt s (i + 1) = 110
          · iterate 18 (try simp only [then_step]; try simp [go_sem, hz, hz1, hz3, hz2, q92, e1, c110])
            refine ⟨by omega, by omega, by omega, ?_⟩
            rw [s2]
            exact wr Q 10 (by omega) (by omega) (i' := i + 2) (by omega) (by omega) (fun m => by rw [rdA, if_neg (by omega), if_neg q34, if_neg (fun h => h q92), if_neg (by omega), if_neg (by omega), if_pos c110]; rfl) _ (fun sl' k' Q' => ⟨.nilIface, ones1 rfl, rfl, by omega, by omega, fin2 Q'⟩)
          by_cases c116 : bt s (i + 1) = 116
          · iterate 18 (try simp only [then_step]; try simp [go_sem, hz, hz1, hz3, hz2, q92, e1, c116])
            refine ⟨by omega, by omega, by omega, ?_⟩
            rw [s2]
            exact wr Q 9 (by omega) (by omega) (i' := i + 2) (by omega) (by omega) (fun m => by rw [rdA, if_neg (by omega), if_neg q34, if_neg (fun h => h q92), if_neg (by omega), if_neg (by omega), if_neg c110, if_pos c116]; rfl) _ (fun sl' k' Q' => ⟨.nilIface, ones1 rfl, rfl, by omega, by omega, fin2 Q'⟩)
          by_cases c120 : bt s (i + 1) = 120
          · iterate 18 (try simp only [then_step]; try simp [go_sem, hz, hz1, hz3, hz2, q92, e1, c120])
            refine ⟨by omega, by omega, by omega, ?_⟩
            refine loop_in ?_ ?_
            · rw [ei]
              exact ⟨x0, i, x0, i + 1, 0, 0, y, y, t, t, b', used, sl, acc, hh0, by simp [go_sem, Ctx.bare, Got.den], Q, by omega, q92, c120, rfl, .inl ⟨rfl, rfl⟩⟩
            · rintro ⟨xi, xb, xs, xv, xl, xp⟩ h' M' hc hinv hm hM1
              rw [ei] at hinv
              rw [em] at hm
              obtain ⟨x0', i2, x2, j, n, k, y1, y2, t1, t2, b2, used2, sl2, acc2, hh2, hC, Q2, a1, a2, a3, a4, a5⟩ := hinv
              simp [Ctx.push, Ctx.heap, Ctx.bare] at hC
              obtain ⟨⟨rfl, hii, rfl⟩, ⟨rfl, rfl⟩, ⟨rfl, rfl⟩, rfl, rfl, ⟨rfl, rfl⟩, rfl⟩ := hC
              obtain rfl : i2 = i := by omega
              have hm' : M' 1 = ((2 : Int) - k).toNat := hm
              have hM0 : M' 0 = M 0 := hM1 0 (by decide)
              clear hm hM1 hc
              have hno : ¬ (i2 + 3 < s.length ∧ 0 ≤ hx (bt s (i2 + 2)) ∧ 0 ≤ hx (bt s (i2 + 3))) → rdA s.length s 1 [] = none := fun hn => Q2.stop fun m => by
                rw [rdA, if_neg (by omega), if_neg q34, if_neg (fun h => h q92), if_neg (by omega), if_neg (by omega), if_neg (by omega), if_neg (by omega), if_pos c120, if_neg hn]
              have e2 : ((j : Int) + 1).toNat = j + 1 := by omega
              have hjd := bt_bd s (j + 1)
              have hx15 := hx_hi (bt s (i2 + 2))
              have hx16 := hx_hi (bt s (i2 + 3))
              have hx17 := hx_hi (bt s (j + 1))
              rw [← then_step]
              by_cases hk : k < 2
              · have hkz : (k : Int) < 2 := by omega
                have hjj : j + 1 = i2 + 2 ∨ j + 1 = i2 + 3 := by omega
                by_cases hjl : j + 1 = s.length
                · have hjz : (j : Int) + 1 = s.length := by omega
                  iterate 12 (try simp only [then_step]; try simp [go_sem, ep, hkz, hjz])
                  exact ⟨by omega, no Q2.kept (hno (by omega)) _ _⟩
                have hjz : ¬ (j : Int) + 1 = s.length := by omega
                have hjz3 : (j : Int) + 1 < s.length := by omega
                by_cases hneg : hx (bt s (j + 1)) < 0
                · iterate 12 (try simp only [then_step]; try simp [go_sem, ep, s3, ctQDigit, hkz, hjz, hjz3, e2, hjd.1, hjd.2, hneg])
                  exact ⟨by omega, by omega, by omega, no Q2.kept (hno (by
                    rintro ⟨_, g1, g2⟩
                    rcases hjj with e | e <;> rw [e] at hneg <;> omega)) _ _⟩
                · iterate 12 (try simp only [then_step]; try simp [go_sem, s3, ctQDigit, hkz, hjz, hjz3, e2, hjd.1, hjd.2, hneg])
                  refine ⟨by omega, by omega, by omega, by omega, by omega, by omega, by omega, by omega, by omega, by omega, ?_, ?_⟩
                  · rw [ei]
                    refine ⟨x0, i2, x2, j + 1, 16 * n + hx (bt s (j + 1)), k + 1, y, y2, t, t2, b', used2, sl2, acc2, h', by simp, Q2, a1, q92, c120, by omega, ?_⟩
                    rcases a5 with ⟨g1, g2⟩ | ⟨g1, g2, g3, g4⟩ | ⟨g1, _⟩
                    · have e : j + 1 = i2 + 2 := by omega
                      rw [e] at hneg ⊢
                      exact .inr (.inl ⟨by omega, by omega, by omega, by omega⟩)
                    · have e : j + 1 = i2 + 3 := by omega
                      rw [e] at hneg ⊢
                      exact .inr (.inr ⟨by omega, by omega, by rw [g3], by omega, by omega⟩)
                    · omega
                  · rw [em]
                    simp only [qMeas, List.getD_cons_succ, List.getD_cons_zero]
                    omega
              · have hkz : ¬ (k : Int) < 2 := by omega
                have hw : IntKind.u8.wrap n = n := by rw [IntKind.wrap_u8]; omega
                iterate 12 (try simp only [then_step]; try simp [go_sem, hkz, hw])
                obtain ⟨g1, g2, g3, g4, g5⟩ : k = 2 ∧ i2 + 3 < s.length ∧ n = 16 * hx (bt s (i2 + 2)) + hx (bt s (i2 + 3)) ∧ 0 ≤ hx (bt s (i2 + 2)) ∧ 0 ≤ hx (bt s (i2 + 3)) := by
                  rcases a5 with ⟨g1, _⟩ | ⟨g1, _⟩ | g
                  · omega
                  · omega
                  · exact g
                rw [s2]
                refine wr Q2 n (by omega) (by omega) (i' := i2 + 4) (by omega) (by omega) (fun m => by
                  rw [rdA, if_neg (by omega), if_neg q34, if_neg (fun h => h q92), if_neg (by omega), if_neg (by omega), if_neg (by omega), if_neg (by omega), if_pos c120, if_pos ⟨g2, g4, g5⟩, g3]) _ (fun sl' k' Q' => ⟨.nilIface, ones1 rfl, rfl, by omega, by omega, ?_, ?_⟩)
                · rw [ei]
                  exact ⟨x2, i2 + 4, y2, t2, b', true, sl', _, k', by rw [show ((i2 + 4 : Nat) : Int) = (j : Int) + 1 by omega], Q'⟩
                · rw [em]
                  simp only [qMeas, List.getD_cons_succ, List.getD_cons_zero]
                  omega
          · have co : bt s (i + 1) ≠ 34 ∧ bt s (i + 1) ≠ 92 := ⟨c34, c92⟩
            iterate 18 (try simp only [then_step]; try simp [go_sem, ep, hz, hz1, hz3, hz2, q92, e1, c34, c92, c110, c116, c120])
            refine ⟨by omega, by omega, by omega, ?_⟩
            exact no Q.kept (Q.stop fun m => by rw [rdA, if_neg (by omega), if_neg q34, if_neg (fun h => h q92), if_neg (by omega), if_neg (by omega), if_neg c110, if_neg c116, if_neg c120]) _ _
        · iterate 7 (try simp only [then_step]; try simp [go_sem, hz, hz2, p1, p2, q34, q92])
          rw [s2]
          refine wr Q (bt s i) hibd.1 hibd.2 (Nat.lt_succ_self i) (by omega) (fun m => by rw [rdA, if_neg (by omega), if_neg q34, if_pos q92]) _ (fun sl' k' Q' => ?_)
          refine ⟨.nilIface, fun u hu => by simp at hu; subst hu; rfl, rfl, ?_⟩
          iterate 2 (try simp only [then_step]; try simp [go_sem, ei, em])
          refine ⟨by omega, by omega, ⟨x0, i + 1, y, t, b', true, sl', _, k', by simp, Q'⟩, ?_⟩
          simp only [qMeas, List.getD_cons_succ, List.getD_cons_zero]
          omega
    · rw [if_pos (.inr h34)] at hφ
      iterate 3 (try simp only [then_step]; try simp [go_sem, ep, hs0, h34])
      refine ⟨by omega, h, fun _ _ h => h, hφ _ _⟩
theorem sm34 : smB 34 = false := by decide
theorem gr34 : grB 34 = false := by decide
theorem dg34 : dgB 34 = false := by decide
set_option maxRecDepth 100000 in
set_option maxHeartbeats 8000000 in
/-- All tokens, where literals are known. -/
theorem tokens_ok (cl : Ct Tryz.prog) (hcl : cl.f = 78) (good : List UInt8 → Prop)
    (hl : ∀ (b : Nat) (k l c n : Int) (x s : List UInt8) (a : Nat) (L Co : Int) (T : TypeId) (h : Hp) (φ : Value → Hp → Prop), good s → h b = some ⟨rc s a L Co, T⟩ → a < s.length → bt s a = 34 → s.length ≤ 100000 → 0 ≤ Co → Co ≤ 500000 →
      (match rdq (s.drop a) with
        | some (t, m) => φ (.tuple #[tkv 5 l c n t, .int .i64 0]) (Hp.set h b ⟨rc s (a + m : Nat) L (Co + m), T⟩)
        | none => φ (.tuple #[tkv 0 0 0 0 [], .int .i64 4]) h) → cl.spec [.pointer (some ⟨b, 0, none⟩), tkv k l c n x] h φ)
    (s : List UInt8) (hg : good s) (h : Hp) (φ : Value → Hp → Prop) (w : World)
    (hφ : if 65536 < s.length then φ (.tuple #[.slice none 0 0, .agg #[.int .i64 3, .int .i64 0, .int .i64 0]]) h
      else if (lexAll s).1.1 = 0 then ∀ sl k, HLe h k → OwnS k sl (tcs (lexAll s).2) TK 5 → sl.n = (lexAll s).2.length → φ (.tuple #[sl.val, .agg #[.int .i64 0, .int .i64 0, .int .i64 0]]) k
      else φ (.tuple #[.slice none 0 0, .agg #[.int .i64 (lexAll s).1.1, .int .i64 (lexAll s).1.2.1, .int .i64 (lexAll s).1.2.2]]) h) (hH : Holds h w) :
    Calls Tryz.prog 43 #[.string (B s)] w fun e w' => ∃ v k, e = .returned v ∧ φ v k ∧ Holds k w' ∧ Fr w.heap.size h k w w' := by
  refine ct_forget (by_fm Tryz.func43 gen_tokens ps_tokens [ctSkip, ctSmall, ctGreat, ctName, ctDigit, ctNumber, cl, ctSign] (fun v k => ∃ k', HLe k' k ∧ φ v k') (tkInv h s) (fun _ C => (s.length - atOf C.h (rbOf C)).toNat) ⟨[], [], [s], [], [], [], h, noM⟩ ⟨rfl, rfl, rfl, rfl, rfl, rfl⟩ ones_nil ?_ w hH rfl)
  generalize hE : (⟨specOf _, _, _, _⟩ : Env) = E
  have s1 : E.spec 72 = ctSkip.spec := by rw [← hE]; rfl
  have s2 : E.spec 73 = ctSmall.spec := by rw [← hE]; rfl
  have s3 : E.spec 74 = ctGreat.spec := by rw [← hE]; rfl
  have s4 : E.spec 75 = ctName.spec := by rw [← hE]; rfl
  have s5 : E.spec 76 = ctDigit.spec := by rw [← hE]; rfl
  have s6 : E.spec 77 = ctNumber.spec := by rw [← hE]; rfl
  have s7 : E.spec 78 = cl.spec := by
    rw [← hE]; funext a h φ
    simp [specOf, specL, dynId, hcl, ctSkip, ctSmall, ctGreat, ctName, ctDigit, ctNumber]
  have s8 : E.spec 79 = ctSign.spec := by
    rw [← hE]; funext a h φ
    simp [specOf, specL, dynId, hcl, ctSkip, ctSmall, ctGreat, ctName, ctDigit, ctNumber, ctSign]
  have ep : E.post = fun v k => ∃ k', HLe k' k ∧ φ v k' := by rw [← hE]
  have ei : E.inv = tkInv h s := by rw [← hE]
  have em : E.meas = fun _ C => (s.length - atOf C.h (rbOf C)).toNat := by rw [← hE]
  clear hE
  rw [← then_step]; unfold fm_tokens
  simp only [then_step, th_ite]
  by_cases hlen : 65536 < s.length
  · rw [if_pos hlen] at hφ
    have h2 : (65536 : Int) < s.length := by omega
    simp [go_sem, h2, ep]
    exact ⟨_, (fun _ _ h => h), hφ⟩
  · rw [if_neg hlen] at hφ
    have h2 : ¬ (65536 : Int) < s.length := by omega
    simp [go_sem, h2]
    try simp only [then_step]
    try simp only [th_new]
    intro rb hrb
    try simp only [then_step]
    refine loop_intro ?_ ?_
    · rw [ei]
      refine ⟨0, 0, 0, ⟨none, 0, 0⟩, ⟨none, 0, 0⟩, rb, 0, s.length + 1, [], h, rfl, ⟨by omega, by omega, Nat.le_refl _, rfl, .inl ⟨rfl, rfl⟩, rfl, (fun z hz => by cases hz), (fun _ _ h => h), hrb⟩⟩
    · rw [ei, em]
      rintro i' bb ss v ll pp hh0 M ⟨x0, x1, x2, l0, sl, rb', i, m, acc, hh, hC, I⟩ hM
      cases hC
      simp only [rbOf, List.getD_cons_zero, Option.getD_some, atOf_set] at hM
      have hile := I.le
      have hifu := I.fuel
      obtain ⟨j, hj⟩ : ∃ j, j = i + ski false s i := ⟨_, rfl⟩
      have hjl : j ≤ s.length := hj ▸ ski_le false I.le
      have hij : i ≤ j := by omega
      have hpj : adv (pl s i) (sub s i j) = pl s j := pl_add hij hjl
      have bi := pl_bd I.le
      have bj := pl_bd hjl
      rw [th_call, if_pos (by rfl), s1]
      refine ⟨rb', s, i, pl s i, RD, rfl, set_same _ _ _, I.le, by omega, by omega, by omega, by omega, by omega, ?_⟩
      rw [← hj, hpj]
      simp [go_sem]
      generalize hLc : pl s j = q at *
      obtain ⟨L, Co⟩ := q
      simp only at bj ⊢
      iterate 9 (simp only [then_step]; simp [go_sem, rc])
      obtain ⟨m', rfl⟩ : ∃ m', m = m' + 1 := ⟨m - 1, by omega⟩
      have hall := I.all
      rw [lexA, ← hj, hpj] at hall
      by_cases hje : j = s.length
      · have hz : (j : Int) = s.length := by omega
        rw [if_pos (by omega)] at hall
        rw [hall, if_pos rfl] at hφ
        simp only [then_step, th_ite]
        simp [go_sem, hz]
        intro b hb
        rw [then_step]
        refine tk_app (cs := (Tok.mk 8 L Co 0 []).cs) I (by omega) (b := b) hb rfl (Tok.ones _) rfl rfl rfl ?_
        intro s' k' h1 h2 h3 h4
        obtain ⟨e1, e2, e3⟩ := tk_more I hb h3 h4
        rw [says_ret, ep]
        exact ⟨k', fun _ _ h => h, hφ s' k' e2 (by rw [tcs_app, tcs_one]; exact h1) (by rw [h2, I.n]; simp)⟩
      · have hz : ¬ (j : Int) = s.length := by omega
        have hjlt : j < s.length := by omega
        have hjz : (j : Int) < s.length := by omega
        rw [if_neg (by omega)] at hall
        have hbad : (one s j).f ≠ 0 → ∃ k', HLe k' (hh.set rb' ⟨[.string (B s), .int .i64 j, .int .i64 L, .int .i64 Co], RD⟩) ∧ φ (.tuple #[.slice none 0 0, .agg #[.int .i64 (one s j).f, .int .i64 L, .int .i64 Co]]) k' := by
          intro hf
          rw [if_neg hf] at hall
          rw [hall, if_neg hf] at hφ
          refine ⟨h, fun c o hc => ?_, hφ⟩
          rw [set_ne _ (fun e => by rw [e, I.nrb] at hc; cases hc)]
          exact I.kept c o hc
        have hpt : (one s j).f = 0 → pl s (one s j).e = (L, Co + ((one s j).e : Int) - j) := fun hf => by rw [pl_tok hjlt hf, hLc]
        have hH1 : ∀ v, (hh.set rb' ⟨[.string (B s), .int .i64 j, .int .i64 L, .int .i64 Co], v⟩) rb' = some ⟨rc s j L Co, v⟩ := fun v => by rw [set_same]; rfl
        have e1 : smB (bt s j) = decide (kdi (bt s j) = 1) := rfl
        have e2 : grB (bt s j) = decide (kdi (bt s j) = 2) := rfl
        have e3 : dgB (bt s j) = decide (kdi (bt s j) = 3) := rfl
        have hk5 : smB (bt s j) = true ∨ (smB (bt s j) = false ∧ grB (bt s j) = true) ∨ (smB (bt s j) = false ∧ grB (bt s j) = false ∧ dgB (bt s j) = true) ∨ (smB (bt s j) = false ∧ grB (bt s j) = false ∧ dgB (bt s j) = false ∧ bt s j = 34) ∨ (smB (bt s j) = false ∧ grB (bt s j) = false ∧ dgB (bt s j) = false ∧ bt s j ≠ 34) := by
          cases smB (bt s j) <;> cases grB (bt s j) <;> cases dgB (bt s j) <;> simp <;> omega
        simp only [then_step, th_ite]
        simp [go_sem, hz]
        rcases hk5 with h1 | ⟨h1, h1'⟩ | ⟨h1, h1', h1''⟩ | ⟨h1, h1', h1'', h34⟩ | ⟨h1, h1', h1'', h34⟩
        · iterate 7 (try simp only [then_step]; try simp [go_sem, s2, ctSmall, hjz, h1])
          have hin : inB (bt s j) = true := by
            rw [inB, decide_eq_true_eq]
            simp only [e1, decide_eq_true_eq] at h1
            omega
          have hone : one s j = ⟨0, nameK (bt s j) (sub s j (j + rn inB s j)), sub s j (j + rn inB s j), 0, j + rn inB s j⟩ := by
            unfold one
            rw [if_pos (by simp only [e1, decide_eq_true_eq] at h1; omega)]
          have hf : (one s j).f = 0 := by rw [hone]
          rw [s4]
          refine ⟨rb', 0, L, Co, 0, [], s, j, L, Co, RD, rfl, hH1 RD, by omega, hjz, by omega, by omega, by omega, by rw [Int.toNat_natCast]; exact hin, ?_⟩
          rw [Int.toNat_natCast]
          refine ⟨_, _, _, _, _, rfl, ?_⟩
          rw [then_step, th_ite, if_pos (by rfl), then_step, set_set]
          exact tk_push I (by omega) ei em hj hjlt hf (by rw [hone]; simp) (by rw [hpt hf]) (by rw [hpt hf, hone]; simp; omega) hM (by rw [hone, hLc]; rfl)
        · iterate 7 (try simp only [then_step]; try simp [go_sem, s2, s3, ctSmall, ctGreat, hjz, h1, h1'])
          have hin : inB (bt s j) = true := by
            rw [inB, decide_eq_true_eq]
            simp only [e1, e2, decide_eq_true_eq] at h1 h1'
            omega
          have hone : one s j = ⟨0, nameK (bt s j) (sub s j (j + rn inB s j)), sub s j (j + rn inB s j), 0, j + rn inB s j⟩ := by
            unfold one
            rw [if_pos (by simp only [e1, e2, decide_eq_true_eq] at h1 h1'; omega)]
          have hf : (one s j).f = 0 := by rw [hone]
          rw [s4]
          refine ⟨rb', 0, L, Co, 0, [], s, j, L, Co, RD, rfl, hH1 RD, by omega, hjz, by omega, by omega, by omega, by rw [Int.toNat_natCast]; exact hin, ?_⟩
          rw [Int.toNat_natCast]
          refine ⟨_, _, _, _, _, rfl, ?_⟩
          rw [then_step, th_ite, if_pos (by rfl), then_step, set_set]
          exact tk_push I (by omega) ei em hj hjlt hf (by rw [hone]; simp) (by rw [hpt hf]) (by rw [hpt hf, hone]; simp; omega) hM (by rw [hone, hLc]; rfl)
        · iterate 9 (try simp only [then_step]; try simp [go_sem, s2, s3, s5, ctSmall, ctGreat, ctDigit, hjz, h1, h1', h1''])
          have hk : ¬ (kdi (bt s j) = 1 ∨ kdi (bt s j) = 2) := by
            simp only [e1, e2, decide_eq_false_iff_not] at h1 h1'
            omega
          have hone : one s j = ⟨(nm s j).1, (nm s j).2.1, [], (nm s j).2.2.1, (nm s j).2.2.2⟩ := by
            unfold one
            rw [if_neg hk, if_pos (by simpa [e3] using h1'')]
          rw [s6]
          refine ⟨rb', 0, L, Co, 0, [], s, j, L, Co, RD, rfl, hH1 RD, by omega, hjz, by omega, by omega, by omega, by rw [Int.toNat_natCast]; exact h1'', ?_⟩
          rw [Int.toNat_natCast]
          by_cases hn : (nm s j).1 = 0
          · rw [if_pos hn]
            have hf : (one s j).f = 0 := by rw [hone]; exact hn
            refine ⟨_, _, _, _, _, _, rfl, ?_⟩
            rw [then_step, th_ite, if_pos (by rfl), then_step, set_set]
            exact tk_push I (by omega) ei em hj hjlt hf (by rw [hone]) (by rw [hpt hf]) (by rw [hpt hf, hone]) hM (by rw [hone, hLc]; rfl)
          · rw [if_neg hn]
            refine ⟨_, _, _, _, _, _, rfl, ?_⟩
            rw [then_step, th_ite, if_neg (by simp [go_sem]; exact hn)]
            iterate 9 (try simp only [then_step]; try simp [go_sem, ep])
            have hb := hbad (by rw [hone]; exact hn)
            rw [hone] at hb
            simpa [Slc.val] using hb
        · iterate 10 (try simp only [then_step]; try simp [go_sem, s2, s3, s5, ctSmall, ctGreat, ctDigit, hjz, h34, sm34, gr34, dg34])
          have hk : ¬ (kdi (bt s j) = 1 ∨ kdi (bt s j) = 2) := by
            simp only [e1, e2, decide_eq_false_iff_not] at h1 h1'
            omega
          have hk3 : ¬ kdi (bt s j) = 3 := by simpa [e3] using h1''
          rw [s7]
          refine hl rb' 0 L Co 0 [] s j L Co RD _ _ hg (hH1 RD) hjlt h34 (by omega) (by omega) (by omega) ?_
          cases hq : rdq (s.drop j) with
          | some r =>
            obtain ⟨x, m1⟩ := r
            have hone : one s j = ⟨0, 5, x, 0, j + m1⟩ := by
              unfold one
              rw [if_neg hk, if_neg hk3, if_pos h34, hq]
            have hf : (one s j).f = 0 := by rw [hone]
            refine ⟨_, _, _, _, _, _, rfl, ?_⟩
            rw [then_step, th_ite, if_pos (by rfl), then_step, set_set]
            exact tk_push I (by omega) ei em hj hjlt hf (by rw [hone]) (by rw [hpt hf]) (by rw [hpt hf, hone]; simp; omega) hM (by rw [hone, hLc]; rfl)
          | none =>
            have hone : one s j = ⟨4, 0, [], 0, 0⟩ := by
              unfold one
              rw [if_neg hk, if_neg hk3, if_pos h34, hq]
            refine ⟨_, _, _, _, _, _, rfl, ?_⟩
            rw [then_step, th_ite, if_neg (by simp [go_sem])]
            iterate 9 (try simp only [then_step]; try simp [go_sem, ep])
            have hb := hbad (by rw [hone]; simp)
            rw [hone] at hb
            simpa [Slc.val] using hb
        · iterate 10 (try simp only [then_step]; try simp [go_sem, s2, s3, s5, ctSmall, ctGreat, ctDigit, hjz, h1, h1', h1'', h34])
          have hk : ¬ (kdi (bt s j) = 1 ∨ kdi (bt s j) = 2) := by
            simp only [e1, e2, decide_eq_false_iff_not] at h1 h1'
            omega
          have hk3 : ¬ kdi (bt s j) = 3 := by simpa [e3] using h1''
          rw [s8]
          refine ⟨rb', 0, L, Co, 0, [], s, j, L, Co, RD, rfl, hH1 RD, by omega, by omega, by omega, by omega, by omega, ?_⟩
          rw [Int.toNat_natCast]
          by_cases hn : sg (s.drop j) = []
          · rw [if_pos hn]
            have hone : one s j = ⟨4, 0, [], 0, 0⟩ := by
              unfold one
              rw [if_neg hk, if_neg hk3, if_neg h34, if_pos hn]
            refine ⟨_, _, _, _, _, _, rfl, ?_⟩
            rw [then_step, th_ite, if_neg (by simp [go_sem])]
            iterate 9 (try simp only [then_step]; try simp [go_sem, ep])
            have hb := hbad (by rw [hone]; simp)
            rw [hone] at hb
            simpa [Slc.val] using hb
          · rw [if_neg hn]
            have hone : one s j = ⟨0, 7, sg (s.drop j), 0, j + (sg (s.drop j)).length⟩ := by
              unfold one
              rw [if_neg hk, if_neg hk3, if_neg h34, if_neg hn]
            have hf : (one s j).f = 0 := by rw [hone]
            refine ⟨_, _, _, _, _, _, rfl, ?_⟩
            rw [then_step, th_ite, if_pos (by rfl), then_step, set_set]
            exact tk_push I (by omega) ei em hj hjlt hf (by rw [hone]; simp) (by rw [hpt hf]) (by rw [hpt hf, hone]; simp; omega) hM (by rw [hone, hLc]; rfl)
def ctEnd : Ct Tryz.prog where
  f := 121
  spec := fun args h φ => ∃ s, args = [.string (B s)] ∧ s.length ≤ 100000 ∧
    (match rdq s with
      | some (_, e) => φ (.tuple #[.int .i64 (e : Nat), .bool true]) h
      | none => ∀ n, φ (.tuple #[.int .i64 n, .bool false]) h)
  ok := by
    rintro args h φ w ⟨s, rfl, hlen, hφ⟩ hH
    refine by_fm Tryz.func121 gen_qend ps_qend [ctRead] φ noInv noMeas ⟨[], [], [s], [], [], [], h, noM⟩ ⟨rfl, rfl, rfl, rfl, rfl, rfl⟩ ones_nil ?_ w hH rfl
    generalize hE : (⟨specOf _, _, _, _⟩ : Env) = E
    have s1 : E.spec 143 = ctRead.spec := by rw [← hE]; rfl
    have ep : E.post = φ := by rw [← hE]
    clear hE
    unfold fm_qend
    rw [th_call, if_pos (by rfl), s1]
    refine ⟨s, rfl, hlen, ?_⟩
    cases hq : rdq s with
    | some r =>
      obtain ⟨t, e⟩ := r
      rw [hq] at hφ
      simp [go_sem]
      simp only [then_step]; simp [go_sem, ep]; exact hφ
    | none =>
      rw [hq] at hφ
      simp [go_sem]
      intro t n
      simp only [then_step]; simp [go_sem, ep]; exact hφ n
def ctUnquote : Ct Tryz.prog where
  f := 122
  spec := fun args h φ => ∃ s, args = [.string (B s)] ∧ s.length ≤ 100000 ∧ ∃ t, rdq s = some (t, s.length) ∧ φ (.tuple #[.string (B t), .int .i64 0]) h
  ok := by
    rintro args h φ w ⟨s, rfl, hlen, t, hq, hφ⟩ hH
    refine by_fm Tryz.func122 gen_qunq ps_qunq [ctRead] φ noInv noMeas ⟨[], [], [s], [], [], [], h, noM⟩ ⟨rfl, rfl, rfl, rfl, rfl, rfl⟩ ones_nil ?_ w hH rfl
    generalize hE : (⟨specOf _, _, _, _⟩ : Env) = E
    have s1 : E.spec 143 = ctRead.spec := by rw [← hE]; rfl
    have ep : E.post = φ := by rw [← hE]
    clear hE
    unfold fm_qunq
    rw [th_call, if_pos (by rfl), s1]
    refine ⟨s, rfl, hlen, ?_⟩
    rw [hq]
    simp [go_sem]
    iterate 2 (try simp only [then_step]; try simp [go_sem, ep])
    exact hφ
set_option maxHeartbeats 2000000 in
def ctLiteral : Ct Tryz.prog where
  f := 78
  spec := fun args h φ => ∃ b k l c n x s a L Co T, args = [.pointer (some ⟨b, 0, none⟩), tkv k l c n x] ∧ h b = some ⟨rc s (a : Nat) L Co, T⟩ ∧ a < s.length ∧ s.length ≤ 100000 ∧ 0 ≤ Co ∧ Co ≤ 500000 ∧
    (match rdq (s.drop a) with
      | some (t, m) => φ (.tuple #[tkv 5 l c n t, .int .i64 0]) (Hp.set h b ⟨rc s (a + m : Nat) L (Co + m), T⟩)
      | none => φ (.tuple #[tkv 0 0 0 0 [], .int .i64 4]) h)
  ok := by
    rintro args h φ w ⟨b, k, l, c, n, x, s, a, L, Co, T, rfl, hb, ha, hlen, c0, c1, hφ⟩ hH
    obtain ⟨h, rfl⟩ : ∃ h', h = Hp.set h' b ⟨rc s a L Co, T⟩ := ⟨h, set_self hb⟩
    simp only [set_set] at hφ
    refine by_fm Tryz.func78 gen_literal ps_literal [ctEnd, ctUnquote, ctPass] φ noInv noMeas ⟨[k, l, c, n], [], [x], [], [], [some (b, 0)], h.set b ⟨rc s a L Co, T⟩, noM⟩ ⟨rfl, rfl, rfl, rfl, rfl, rfl⟩ ones_nil ?_ w hH rfl
    generalize hE : (⟨specOf _, _, _, _⟩ : Env) = E
    have s1 : E.spec 121 = ctEnd.spec := by rw [← hE]; rfl
    have s2 : E.spec 122 = ctUnquote.spec := by rw [← hE]; rfl
    have s3 : E.spec 114 = ctPass.spec := by rw [← hE]; rfl
    have ep : E.post = φ := by rw [← hE]
    clear hE
    have haz : (a : Int) ≤ s.length := by omega
    have htl : List.take s.length s = s := List.take_length
    have hdl : (s.drop a).length = s.length - a := List.length_drop
    rw [← then_step]; unfold fm_literal
    iterate 9 (try simp only [then_step]; try simp [go_sem, rc, haz, htl])
    rw [s1]
    refine ⟨s.drop a, rfl, by omega, ?_⟩
    cases hq : rdq (s.drop a) with
    | none =>
      rw [hq] at hφ
      refine fun n => ⟨by simp [hread_set], by simp [hread_set], n, .inl ⟨rfl, ?_⟩⟩
      simp only [then_step]; simp [go_sem, ep]; exact hφ
    | some r =>
      obtain ⟨t, m⟩ := r
      rw [hq] at hφ
      obtain ⟨m1, m2, _⟩ := rdq_some hq
      rw [hdl] at m2
      refine ⟨by simp [hread_set], by simp [hread_set], m, .inr ⟨rfl, ?_⟩⟩
      have e1 : ((a : Int) + m).toNat = a + m := by omega
      have hdt : List.drop a (List.take (a + m) s) = (s.drop a).take m := by
        rw [List.drop_take]; congr 1; omega
      iterate 12 (try simp only [then_step]; try simp [go_sem, e1])
      refine ⟨by omega, by omega, by omega, by omega, by omega, ?_⟩
      rw [s2, hdt]
      have hl2 : ((s.drop a).take m).length = m := by rw [List.length_take, hdl]; omega
      refine ⟨(s.drop a).take m, rfl, by omega, t, by rw [hl2]; exact rdq_take hq, ?_⟩
      refine ⟨by simp [hread_set], by simp [hread_set], 0, t, rfl, ?_⟩
      rw [then_step, th_call, if_pos (by rfl), s3]
      refine ⟨b, s, a, L, Co, T, m, rfl, set_same _ _ _, by omega, by omega, by omega, by omega, by omega, by omega, ?_⟩
      rw [set_set]
      simp [go_sem]
      simp only [then_step]; simp [go_sem, ep]
      simpa [rc, tkv] using hφ
/-- Tokens of whatever text. -/
def ctTokens : Ct Tryz.prog where
  f := 43
  spec := fun args h φ => ∃ s, args = [.string (B s)] ∧
    (if 65536 < s.length then φ (.tuple #[.slice none 0 0, .agg #[.int .i64 3, .int .i64 0, .int .i64 0]]) h
      else if (lexAll s).1.1 = 0 then ∀ sl k, HLe h k → OwnS k sl (tcs (lexAll s).2) TK 5 → sl.n = (lexAll s).2.length → φ (.tuple #[sl.val, .agg #[.int .i64 0, .int .i64 0, .int .i64 0]]) k
      else φ (.tuple #[.slice none 0 0, .agg #[.int .i64 (lexAll s).1.1, .int .i64 (lexAll s).1.2.1, .int .i64 (lexAll s).1.2.2]]) h)
  ok := by
    rintro args h φ w ⟨s, rfl, hφ⟩ hH
    refine tokens_ok ctLiteral rfl (fun _ => True) ?_ s trivial h φ w hφ hH
    intro b k l c n x s a L Co T h φ _ hb ha _ h1 h2 h3 h4
    exact ⟨b, k, l, c, n, x, s, a, L, Co, T, rfl, hb, ha, h1, h2, h3, h4⟩
end Go.Proofs.YtllbpdllkkcajaaGreatDoor
namespace Go.Proofs.YtllbpdllkkcajaaGreatDoor
open Go.RowKit
attribute [local go_sem] says_tt says_ff th_need th_ite th_call th_callK th_load th_store says_ret says_again BE.den IE.den SE.den LE.den AE.den CE.den PE.den VE.den KV.val Got.den Got.cnt exI allI exL allL Ctx.push Ctx.heap Ctx.cut Ctx.bare Ctx.mark Inc.blank List.getD_cons_zero List.getD_cons_succ List.cons_append List.nil_append List.append_nil List.map_cons List.map_nil List.replicate_zero List.replicate_succ specOf specL dynId ltB_t leB_t ltB_f leB_f slc_val slc_nil slc_inj pt_val pt_nil hle_noHeap hle_refl hread_set hwrite_set set_same set_set noHeap_at B_inj ones_nil and_assoc
def fm_prunE : Fm := (.call (.c true) false 43 [(.one (.s (.x 0)))] (.tup [(.one (.sl (.x 0))), (.agg [(.i .i64 (.x 0)), (.i .i64 (.x 1)), (.i .i64 (.x 2))])]) ⟨3, 0, 0, 0, 1, 0⟩
  (.ite (.not (.eqI (.x 0) (.c 0)))
  (.ret (.tup [(.one (.sl .nil)), (.agg [(.i .i64 (.x 0)), (.i .i64 (.x 1)), (.i .i64 (.x 2))])]))
  (.new [(.sl (.x 0)), (.i .i64 (.c 0)), (.i .i64 (.c 0)), (.i .i64 (.c 0)), (.i .i64 (.c 0)), (.i .i64 (.c 0))] 70
  (.call (.c true) false 22 [(.one (.pt 0))] (.p (.one (.pt 1))) ⟨0, 0, 0, 0, 0, 1⟩
  (.call (.c true) false 44 [(.one (.pt 0))] (.p (.agg [(.i .u8 (.x 3)), (.i .i64 (.x 4)), (.i .i64 (.x 5)), (.i .i64 (.x 6)), (.s (.x 1))])) ⟨4, 0, 1, 0, 0, 0⟩
  (.ite (.not (.eqI (.x 3) (.c 8)))
  (.call (.c true) false 45 [(.one (.pt 0)), (.one (.i .i64 (.c 5)))] (.tup []) ⟨0, 0, 0, 0, 0, 0⟩
  (.call (.c true) false 46 [(.one (.pt 0))] (.p (.one (.b (.x 0)))) ⟨0, 1, 0, 0, 0, 0⟩
  (.ite (.x 0)
  (.load (.c true) (.pt 0 3) 3 [(.i .i64 (.x 7)), (.i .i64 (.x 8)), (.i .i64 (.x 9))] ⟨3, 0, 0, 0, 0, 0⟩
  (.need (.c true) (.nnp 0)
  (.need (.c true) (.nnp 0)
  (.ret (.tup [(.one (.sl .nil)), (.agg [(.i .i64 (.x 7)), (.i .i64 (.x 8)), (.i .i64 (.x 9))])])))))
  (.call (.c true) false 47 [(.one (.pt 1)), (.one (.sl .nil))] (.p (.one (.sl (.x 1)))) ⟨0, 0, 0, 0, 1, 0⟩
  (.ret (.tup [(.one (.sl (.x 1))), (.agg [(.i .i64 (.c 0)), (.i .i64 (.c 0)), (.i .i64 (.c 0))])]))))))
  (.call (.c true) false 46 [(.one (.pt 0))] (.p (.one (.b (.x 0)))) ⟨0, 1, 0, 0, 0, 0⟩
  (.ite (.x 0)
  (.load (.c true) (.pt 0 3) 3 [(.i .i64 (.x 7)), (.i .i64 (.x 8)), (.i .i64 (.x 9))] ⟨3, 0, 0, 0, 0, 0⟩
  (.need (.c true) (.nnp 0)
  (.need (.c true) (.nnp 0)
  (.ret (.tup [(.one (.sl .nil)), (.agg [(.i .i64 (.x 7)), (.i .i64 (.x 8)), (.i .i64 (.x 9))])])))))
  (.call (.c true) false 47 [(.one (.pt 1)), (.one (.sl .nil))] (.p (.one (.sl (.x 1)))) ⟨0, 0, 0, 0, 1, 0⟩
  (.ret (.tup [(.one (.sl (.x 1))), (.agg [(.i .i64 (.c 0)), (.i .i64 (.c 0)), (.i .i64 (.c 0))])])))))))))))
theorem gen_prunE : genFnP ⟨true, [21]⟩ Tryz.prog (fun l => ([] : List LAnn).getD l ⟨[], [], []⟩) Tryz.f21 [.one (.s (.x 0)), .one (.c (.fn 22))] ⟨0, 0, 1, 0, 0, 0⟩ = fm_prunE := by kernel_rfl
def fm_pExpr : Fm := (.call (.c true) false 21 [(.one (.s (.x 0))), (.one (.c (.fn 22)))] (.tup [(.one (.sl (.x 0))), (.agg [(.i .i64 (.x 0)), (.i .i64 (.x 1)), (.i .i64 (.x 2))])]) ⟨3, 0, 0, 0, 1, 0⟩
  (.ret (.tup [(.one (.sl (.x 0))), (.agg [(.i .i64 (.x 0)), (.i .i64 (.x 1)), (.i .i64 (.x 2))])])))
theorem gen_pExpr : genFn ⟨true, []⟩ Tryz.prog (fun l => ([] : List LAnn).getD l ⟨[], [], []⟩) Tryz.f8 = fm_pExpr := by kernel_rfl
theorem ps_pExpr : freshPs Tryz.prog .zero Tryz.f8.params.toList = some ([(.one (.s (.x 0)))], ⟨0, 0, 1, 0, 0, 0⟩) := by kernel_rfl
def fltv (f : Int × Int × Int) : Value := .agg #[.int .i64 f.1, .int .i64 f.2.1, .int .i64 f.2.2]
/-- What a text's tree is, as it is handed back. -/
def parseS (prog : Bool) (s : List UInt8) (h : Hp) (φ : Value → Hp → Prop) : Prop :=
  if 65536 < s.length then φ (.tuple #[.slice none 0 0, fltv (3, 0, 0)]) h
  else ∀ f t, parseT prog s = some (f, t) → (if f.1 = 0 then ∀ sl k, HLe h k → OwnS k sl (ncs t.nods) ND 6 → sl.n = t.n → φ (.tuple #[sl.val, fltv (0, 0, 0)]) k else φ (.tuple #[.slice none 0 0, fltv f]) h)
theorem own_tks {h : Hp} {s : Slc} {L : List Tok} (ho : OwnS h s (tcs L) TK 5) (hn : s.n = L.length) (hL : 0 < L.length) : Tks h s L := by
  rcases ho with ⟨h1, h2⟩ | ⟨b, o, h1, h2, h3, h4, h5, h6, h7⟩
  · have := congrArg List.length h2; rw [tcs_len] at this; simp at this; omega
  · obtain ⟨cs, ty⟩ := o
    simp only at h3 h4 h7; subst h3
    refine ⟨b, s.c, cs.drop (s.n * 5), ?_, ?_⟩
    · cases s; simp only at h1 hn ⊢; rw [h1, hn]
    · rw [h2]; congr 2; rw [h7]; exact (List.take_append_drop _ _).symm
set_option maxHeartbeats 4000000 in
def ctRunE : Ct Tryz.prog where
  f := 21
  spec := fun args h φ => ∃ s, args = [.string (B s), .func (.func 22) #[] #[]] ∧ parseS false s h φ
  ok := by
    rintro args h φ w ⟨s, rfl, hφ⟩ hH
    refine ct_forget (by_fmP Tryz.func21 gen_prunE [ctTokens, ctNow, ctFail, ctBad, ctLay (lay_ok 1000000), ctExpr (expr_all (fuelOf (lexAll s).2))] (fun v k => ∃ k', HLe k' k ∧ φ v k') noInv noMeas ⟨[], [], [s], [], [], [], h, noM⟩ ⟨rfl, rfl, rfl, rfl, rfl, rfl⟩ ones_nil ?_ w hH rfl)
    generalize hE : (⟨specOf _, _, _, _⟩ : Env) = E
    have s_ctTokens : E.spec 43 = ctTokens.spec := by rw [← hE]; rfl
    have s_ctNow : E.spec 44 = ctNow.spec := by rw [← hE]; rfl
    have s_ctFail : E.spec 45 = ctFail.spec := by rw [← hE]; rfl
    have s_ctBad : E.spec 46 = ctBad.spec := by rw [← hE]; rfl
    have s_ctL : E.spec 47 = (ctLay (lay_ok 1000000)).spec := by rw [← hE]; rfl
    have s_ctX : E.spec 22 = (ctExpr (expr_all (fuelOf (lexAll s).2))).spec := by rw [← hE]; rfl
    have ep : E.post = fun v k => ∃ k', HLe k' k ∧ φ v k' := by rw [← hE]
    clear hE
    unfold fm_prunE
    unfold parseS at hφ
    rw [th_call, if_pos (by rfl), s_ctTokens]
    refine ⟨s, rfl, ?_⟩
    by_cases h6 : 65536 < s.length
    · rw [if_pos h6] at hφ ⊢
      simp [go_sem]
      rw [then_step, th_ite, if_pos (by simp [go_sem])]
      simp only [then_step]; simp [go_sem, ep]
      exact ⟨h, fun _ _ h => h, hφ⟩
    rw [if_neg h6] at hφ ⊢
    obtain ⟨⟨f, t⟩, hft⟩ := parse_some false s
    have hφ := hφ f t hft
    by_cases hl : (lexAll s).1.1 = 0
    rotate_left
    · rw [if_neg hl]
      have e := hft
      unfold parseT at e
      rw [if_pos hl] at e
      cases e
      rw [if_neg hl] at hφ
      simp [go_sem]
      rw [then_step, th_ite, if_pos (by simp [go_sem]; exact hl)]
      simp only [then_step]; simp [go_sem, ep]
      exact ⟨h, fun _ _ h => h, hφ⟩
    rw [if_pos hl]
    intro sl k hk hown hsn
    have T := toks_of hl
    generalize hLe : (lexAll s).2 = L at *
    have htk := own_tks hown hsn T.lw.pos
    simp [go_sem]
    rw [then_step, th_ite, if_neg (by simp [go_sem])]
    rw [then_step, th_new]
    intro b hb
    have hb' : k b = none := hb
    simp [go_sem]
    have hlen := T.len
    have W : PW (k.set b ⟨pcs sl p0, PT⟩) b sl L p0 := ⟨set_same _ _ _, htk.keep fun c o _ hc => by rw [set_ne _ (fun e => by rw [e, hb'] at hc; cases hc)]; exact hc, T.lw, by omega, T.lw.pos, by decide, by decide⟩
    have hft' : (runExpr L (fuelOf L) p0).map (fun r => ((endP L r.2).f, r.1)) = some (f, t) := by
      have e := hft
      unfold parseT at e
      rw [if_neg (by rw [hl]; decide), hLe] at e
      exact e
    simp only [Option.map_eq_some_iff] at hft'
    obtain ⟨⟨t', q⟩, h1, h2⟩ := hft'
    cases h2
    dsimp only at hφ
    have Ad : Adv L p0 q 0 := by
      exact (advE T.lw _).1 _ _ _ _ h1
    rw [then_step, th_call, if_pos (by rfl), s_ctX]
    refine ⟨fuelOf L, Nat.le_refl _, b, sl, L, p0, t', q, rfl, W, h1, by unfold fuelOf; simp [p0]; omega, fun v k2 g A hI => ?_⟩
    simp [go_sem, ptrv]; refine ⟨some (v, 0), rfl, ?_⟩
    have keep : ∀ k3, Keeps b (k.set b ⟨pcs sl p0, PT⟩) k3 → HLe h k3 := fun k3 h3 c o hc => by
      have hcb : c ≠ b := fun e => by have := hk c o hc; rw [e, hb'] at this; cases this
      exact h3 c o hcb (by rw [set_ne _ hcb]; exact hk c o hc)
    rw [then_step, th_call, if_pos (by rfl), s_ctNow]
    refine ⟨b, sl, L, q, rfl, A.pw, ?_⟩
    simp [go_sem, tokv, tkv]
    have fin : ∀ (q' : PS) (k3 : Hp) (is' : List Int) (ss' : List (List UInt8)) (A3 : At (k.set b ⟨pcs sl p0, PT⟩) b sl L q' k3 g), q' = endP L q → 
        Then E (.call (.c true) false 46 [(.one (.pt 0))] (.p (.one (.b (.x 0)))) ⟨0, 1, 0, 0, 0, 0⟩
  (.ite (.x 0)
  (.load (.c true) (.pt 0 3) 3 [(.i .i64 (.x 7)), (.i .i64 (.x 8)), (.i .i64 (.x 9))] ⟨3, 0, 0, 0, 0, 0⟩
  (.need (.c true) (.nnp 0)
  (.need (.c true) (.nnp 0)
  (.ret (.tup [(.one (.sl .nil)), (.agg [(.i .i64 (.x 7)), (.i .i64 (.x 8)), (.i .i64 (.x 9))])])))))
  (.call (.c true) false 47 [(.one (.pt 1)), (.one (.sl .nil))] (.p (.one (.sl (.x 1)))) ⟨0, 0, 0, 0, 1, 0⟩
  (.ret (.tup [(.one (.sl (.x 1))), (.agg [(.i .i64 (.c 0)), (.i .i64 (.c 0)), (.i .i64 (.c 0))])]))))) ⟨[0, 0, 0, (tk L q).k, (tk L q).l, (tk L q).c, (tk L q).n], [], [s, (tk L q).x], [], [sl], [some (b, 0), some (v, 0)], k3, noM⟩ := by
      intro q' k3 is' ss' A3 hq'
      rw [← hq'] at hφ hft
      rw [then_step, th_call, if_pos (by rfl), s_ctBad]
      refine ⟨b, sl, L, q', rfl, A3.pw, ?_⟩
      simp [go_sem]
      cases c0 : q'.bad with
      | true =>
        have hf : ¬ q'.f.1 = 0 := fun e => by unfold PS.bad at c0; rw [e] at c0; cases c0
        rw [if_neg hf] at hφ
        rw [then_step, th_ite, if_pos (by simp [go_sem])]
        have hr3 : hread k3 (some (b, 3)) 3 = some [.int .i64 q'.f.1, .int .i64 q'.f.2.1, .int .i64 q'.f.2.2] := by rw [hread_of A3.pw.blk]; rfl
        rw [then_step, th_load, if_pos (by rfl)]
        refine (exI_iff _ _).2 ⟨⟨[q'.f.1, q'.f.2.1, q'.f.2.2], [], [], [], [], []⟩, rfl, ones_nil, hr3, ?_⟩
        rw [then_step, th_need]
        refine ⟨by simp [go_sem], ?_⟩
        rw [then_step, th_need]
        refine ⟨by simp [go_sem], ?_⟩
        simp only [then_step]; simp [go_sem, ep]
        exact ⟨h, keep k3 A3.kp, hφ⟩
      | false =>
        have hf : q'.f.1 = 0 := by unfold PS.bad at c0; simpa using c0
        rw [if_pos hf] at hφ
        rw [then_step, th_ite, if_neg (by simp [go_sem])]
        obtain ⟨_, htn, _⟩ := parse_red hft hf
        dsimp only at htn
        rw [then_step, th_call, if_pos (by rfl), s_ctL]
        refine ⟨v, t', ⟨none, 0, 0⟩, [], rfl, by omega, It.le A3.le _ _ hI, .inl ⟨rfl, rfl⟩, rfl, by simp; omega, fun s' k4 r1 r2 r3 r4 => ?_⟩
        simp [go_sem]
        simp only [then_step]; simp [go_sem, ep]
        refine ⟨k4, fun _ _ h => h, hφ s' k4 (fun c o hc => r3 c o (fun _ hz => (by cases hz)) (keep k3 A3.kp c o hc)) (by simpa using r1) (by simpa using r2)⟩
    by_cases c8 : (tk L q).k = 8
    · rw [then_step, th_ite, if_neg (by simp [go_sem, c8])]
      exact fin q k2 [] [] A (by unfold endP; rw [if_pos c8])
    · rw [then_step, th_ite, if_pos (by simp [go_sem, c8])]
      rw [then_step, th_call, if_pos (by rfl), s_ctFail]
      refine ⟨b, sl, L, q, 5, rfl, A.pw, ?_⟩
      simp [go_sem]
      exact fin (pFail L 5 q) _ [] [] (A.fail 5) (by unfold endP; rw [if_neg c8])
def ctPExpr : Ct Tryz.prog where
  f := 8
  spec := fun args h φ => ∃ s, args = [.string (B s)] ∧ parseS false s h φ
  ok := by
    rintro args h φ w ⟨s, rfl, hφ⟩ hH
    refine by_fm Tryz.func8 gen_pExpr ps_pExpr [ctRunE] φ (noInv) (noMeas) ⟨[], [], [s], [], [], [], h, noM⟩ ⟨rfl, rfl, rfl, rfl, rfl, rfl⟩ ones_nil ?_ w hH rfl
    generalize hE : (⟨specOf _, _, _, _⟩ : Env) = E
    have s_ctRunE : E.spec 21 = (ctRunE).spec := by rw [← hE]; rfl
    have ep : E.post = φ := by rw [← hE]
    clear hE
    unfold fm_pExpr
    rw [th_call, if_pos (by rfl), s_ctRunE]
    refine ⟨s, rfl, ?_⟩
    unfold parseS at hφ ⊢
    split
    · rename_i h6
      rw [if_pos h6] at hφ
      simp [go_sem, fltv]
      simp only [then_step]; simp [go_sem, ep]
      exact hφ
    · rename_i h6
      rw [if_neg h6] at hφ
      intro f t hft
      have hφ := hφ f t hft
      split
      · rename_i hf
        rw [if_pos hf] at hφ
        intro sl k hk ho hn
        simp [go_sem, fltv]
        simp only [then_step]; simp [go_sem, ep]
        exact hφ sl k hk ho hn
      · rename_i hf
        rw [if_neg hf] at hφ
        simp [go_sem, fltv]
        simp only [then_step]; simp [go_sem, ep]
        exact hφ
end Go.Proofs.YtllbpdllkkcajaaGreatDoor
namespace Go.Proofs.YtllbpdllkkcajaaGreatDoor
open Go.RowKit
def Nod.g (x : Nod) : Ng := ⟨x.k, x.l, x.c, x.z, x.n, x.x⟩
def Tr.gs (t : Tr) : List Ng := t.nods.map Nod.g
def Tr.gss (ts : List Tr) : List Ng := (Tr.nodss ts).map Nod.g
theorem gcs_nod (l : List Nod) : gcs (l.map Nod.g) = ncs l := by
  induction l with
  | nil => rfl
  | cons a l ih => rw [List.map_cons, gcs_cons, ih, ncs, ncs, List.flatMap_cons]; rfl
/-- Where trees begin that stand one behind the other. -/
def places : Int → List Tr → List Int
  | _, [] => []
  | p, t :: ts => p :: places (p + t.n) ts
theorem gss_cons (t : Tr) (ts : List Tr) : Tr.gss (t :: ts) = t.gs ++ Tr.gss ts := by simp [Tr.gss, Tr.gs, nodss_cons]
theorem gs_len (t : Tr) : t.gs.length = t.n := by simp [Tr.gs, Tr.n]
theorem gss_len (ts : List Tr) : (Tr.gss ts).length = Tr.ns ts := by simp [Tr.gss, Tr.ns]
theorem sz_n (t : Tr) : t.n = t.sz + 1 := Tr.n_sz t
theorem szs_ns (ts : List Tr) : Tr.szs ts = Tr.ns ts := (Tr.ns_szs ts).symm
theorem gs_nd (k l c n : Int) (x : List UInt8) (ks : List Tr) : (Tr.nd k l c n x ks).gs = ⟨k, l, c, Tr.ns ks, n, x⟩ :: Tr.gss ks := by
  simp [Tr.gs, Tr.gss, Tr.nods, Nod.g, szs_ns]
theorem kids_tree : ∀ (ks : List Tr) (pre post : List Ng) (fuel : Nat), ks.length ≤ fuel → kidsP (pre ++ Tr.gss ks ++ post) ((pre.length : Int) - 1 + Tr.ns ks) fuel pre.length = some (places pre.length ks)
  | [], pre, post, 0, _ => by rw [kidsP, if_neg (by rw [ns_nil]; omega)]; rfl
  | [], pre, post, fuel + 1, _ => by rw [kidsP, if_neg (by rw [ns_nil]; omega)]; rfl
  | t :: ts, pre, post, fuel + 1, hf => by
    obtain ⟨k, l, c, n, x, cs⟩ := t
    have hn : (Tr.nd k l c n x cs).n = Tr.ns cs + 1 := by rw [sz_n, Tr.sz, szs_ns]
    have hget : (pre ++ Tr.gss (.nd k l c n x cs :: ts) ++ post).getD ((pre.length : Int)).toNat ⟨0, 0, 0, 0, 0, []⟩ = ⟨k, l, c, Tr.ns cs, n, x⟩ := by
      rw [gss_cons, gs_nd]
      simp [List.getD_eq_getElem?_getD]
    have hlen : (pre ++ Tr.gss (.nd k l c n x cs :: ts) ++ post).length = pre.length + (Tr.ns cs + 1 + Tr.ns ts) + post.length := by
      rw [List.length_append, List.length_append, gss_len, ns_cons, hn]
    have e : pre ++ Tr.gss (.nd k l c n x cs :: ts) ++ post = (pre ++ (Tr.nd k l c n x cs).gs) ++ Tr.gss ts ++ post := by rw [gss_cons]; simp only [List.append_assoc]
    have ih := kids_tree ts (pre ++ (Tr.nd k l c n x cs).gs) post fuel (by simpa using hf)
    rw [kidsP, if_pos (by rw [ns_cons, hn]; omega), hget]
    simp only
    rw [if_pos (by rw [hlen]; omega), e]
    have h1 : ((pre ++ (Tr.nd k l c n x cs).gs).length : Int) = pre.length + (1 + (Tr.ns cs : Int)) := by rw [List.length_append, gs_len, hn]; omega
    rw [h1] at ih
    rw [show (pre.length : Int) - 1 + Tr.ns (.nd k l c n x cs :: ts) = pre.length + (1 + (Tr.ns cs : Int)) - 1 + Tr.ns ts by rw [ns_cons, hn]; omega, ih, places, hn]
    simp only [Option.map_some]
    congr 3
    omega
end Go.Proofs.YtllbpdllkkcajaaGreatDoor
namespace Go.Proofs.YtllbpdllkkcajaaGreatDoor
open Go.RowKit
attribute [local go_sem] says_tt says_ff th_need th_ite th_call th_callK th_load th_store says_ret says_again BE.den IE.den SE.den LE.den AE.den CE.den PE.den VE.den KV.val Got.den Got.cnt exI allI exL allL Ctx.push Ctx.heap Ctx.cut Ctx.bare Ctx.mark Inc.blank List.getD_cons_zero List.getD_cons_succ List.cons_append List.nil_append List.append_nil List.map_cons List.map_nil List.replicate_zero List.replicate_succ specOf specL dynId ltB_t leB_t ltB_f leB_f slc_val slc_nil slc_inj pt_val pt_nil hle_noHeap hle_refl hread_set hwrite_set set_same set_set noHeap_at B_inj ones_nil and_assoc
def fm_ysign : Fm := (.ite (.eqI (.x 0) (.c 15))
  (.ret (.tup [(.one (.s (.c [124, 124]))), (.one (.i .i64 (.c 1)))]))
  (.ite (.eqI (.x 0) (.c 14))
  (.ret (.tup [(.one (.s (.c [38, 38]))), (.one (.i .i64 (.c 2)))]))
  (.ite (.eqI (.x 0) (.c 6))
  (.ret (.tup [(.one (.s (.c [61, 61]))), (.one (.i .i64 (.c 3)))]))
  (.ite (.eqI (.x 0) (.c 7))
  (.ret (.tup [(.one (.s (.c [33, 61]))), (.one (.i .i64 (.c 3)))]))
  (.ite (.eqI (.x 0) (.c 8))
  (.ret (.tup [(.one (.s (.c [60]))), (.one (.i .i64 (.c 4)))]))
  (.ite (.eqI (.x 0) (.c 9))
  (.ret (.tup [(.one (.s (.c [60, 61]))), (.one (.i .i64 (.c 4)))]))
  (.ite (.eqI (.x 0) (.c 10))
  (.ret (.tup [(.one (.s (.c [62]))), (.one (.i .i64 (.c 4)))]))
  (.ite (.eqI (.x 0) (.c 11))
  (.ret (.tup [(.one (.s (.c [62, 61]))), (.one (.i .i64 (.c 4)))]))
  (.ite (.eqI (.x 0) (.c 1))
  (.ret (.tup [(.one (.s (.c [43]))), (.one (.i .i64 (.c 5)))]))
  (.ite (.eqI (.x 0) (.c 2))
  (.ret (.tup [(.one (.s (.c [45]))), (.one (.i .i64 (.c 5)))]))
  (.ite (.eqI (.x 0) (.c 3))
  (.ret (.tup [(.one (.s (.c [42]))), (.one (.i .i64 (.c 6)))]))
  (.ite (.eqI (.x 0) (.c 4))
  (.ret (.tup [(.one (.s (.c [47]))), (.one (.i .i64 (.c 6)))]))
  (.ret (.tup [(.one (.s (.c [37]))), (.one (.i .i64 (.c 6)))]))))))))))))))
theorem gen_ysign : genFn ⟨true, []⟩ Tryz.prog (fun l => ([] : List LAnn).getD l ⟨[], [], []⟩) Tryz.f96 = fm_ysign := by kernel_rfl
theorem ps_ysign : freshPs Tryz.prog .zero Tryz.f96.params.toList = some ([(.one (.i .i64 (.x 0)))], ⟨1, 0, 0, 0, 0, 0⟩) := by kernel_rfl
def fm_ylevel : Fm := (.ite (.eqI (.x 0) (.c 31))
  (.call (.c true) false 96 [(.one (.i .i64 (.x 4)))] (.tup [(.one (.s (.x 1))), (.one (.i .i64 (.x 5)))]) ⟨1, 0, 1, 0, 0, 0⟩
  (.ret (.p (.one (.i .i64 (.x 5))))))
  (.ite (.eqI (.x 0) (.c 30))
  (.ret (.p (.one (.i .i64 (.c 7)))))
  (.ret (.p (.one (.i .i64 (.c 8)))))))
theorem gen_ylevel : genFn ⟨true, []⟩ Tryz.prog (fun l => ([] : List LAnn).getD l ⟨[], [], []⟩) Tryz.f95 = fm_ylevel := by kernel_rfl
theorem ps_ylevel : freshPs Tryz.prog .zero Tryz.f95.params.toList = some ([(.agg [(.i .u8 (.x 0)), (.i .i64 (.x 1)), (.i .i64 (.x 2)), (.i .i64 (.x 3)), (.i .i64 (.x 4)), (.s (.x 0))])], ⟨5, 0, 1, 0, 0, 0⟩) := by kernel_rfl
def ctYSign : Ct Tryz.prog where
  f := 96
  spec := fun args h φ => ∃ n, args = [.int .i64 n] ∧ φ (.tuple #[.string (B (sgn n).1), .int .i64 ((sgn n).2 : Nat)]) h
  ok := by
    rintro args h φ w ⟨n, rfl, hφ⟩ hH
    refine by_fm Tryz.func96 gen_ysign ps_ysign [] φ (noInv) (noMeas) ⟨[n], [], [], [], [], [], h, noM⟩ ⟨rfl, rfl, rfl, rfl, rfl, rfl⟩ ones_nil ?_ w hH rfl
    generalize hE : (⟨specOf _, _, _, _⟩ : Env) = E
    have ep : E.post = φ := by rw [← hE]
    clear hE
    unfold fm_ysign
    unfold sgn at hφ
    rw [← then_step]
    by_cases c15 : n = 15
    · rw [if_pos c15] at hφ
      rw [then_step, th_ite, if_pos (by simpa [go_sem] using c15), then_step, says_ret, ep]
      exact hφ
    rw [if_neg c15] at hφ
    rw [then_step, th_ite, if_neg (by simpa [go_sem] using c15)]
    by_cases c14 : n = 14
    · rw [if_pos c14] at hφ
      rw [then_step, th_ite, if_pos (by simpa [go_sem] using c14), then_step, says_ret, ep]
      exact hφ
    rw [if_neg c14] at hφ
    rw [then_step, th_ite, if_neg (by simpa [go_sem] using c14)]
    by_cases c6 : n = 6
    · rw [if_pos c6] at hφ
      rw [then_step, th_ite, if_pos (by simpa [go_sem] using c6), then_step, says_ret, ep]
      exact hφ
    rw [if_neg c6] at hφ
    rw [then_step, th_ite, if_neg (by simpa [go_sem] using c6)]
    by_cases c7 : n = 7
    · rw [if_pos c7] at hφ
      rw [then_step, th_ite, if_pos (by simpa [go_sem] using c7), then_step, says_ret, ep]
      exact hφ
    rw [if_neg c7] at hφ
    rw [then_step, th_ite, if_neg (by simpa [go_sem] using c7)]
    by_cases c8 : n = 8
    · rw [if_pos c8] at hφ
      rw [then_step, th_ite, if_pos (by simpa [go_sem] using c8), then_step, says_ret, ep]
      exact hφ
    rw [if_neg c8] at hφ
    rw [then_step, th_ite, if_neg (by simpa [go_sem] using c8)]
    by_cases c9 : n = 9
    · rw [if_pos c9] at hφ
      rw [then_step, th_ite, if_pos (by simpa [go_sem] using c9), then_step, says_ret, ep]
      exact hφ
    rw [if_neg c9] at hφ
    rw [then_step, th_ite, if_neg (by simpa [go_sem] using c9)]
    by_cases c10 : n = 10
    · rw [if_pos c10] at hφ
      rw [then_step, th_ite, if_pos (by simpa [go_sem] using c10), then_step, says_ret, ep]
      exact hφ
    rw [if_neg c10] at hφ
    rw [then_step, th_ite, if_neg (by simpa [go_sem] using c10)]
    by_cases c11 : n = 11
    · rw [if_pos c11] at hφ
      rw [then_step, th_ite, if_pos (by simpa [go_sem] using c11), then_step, says_ret, ep]
      exact hφ
    rw [if_neg c11] at hφ
    rw [then_step, th_ite, if_neg (by simpa [go_sem] using c11)]
    by_cases c1 : n = 1
    · rw [if_pos c1] at hφ
      rw [then_step, th_ite, if_pos (by simpa [go_sem] using c1), then_step, says_ret, ep]
      exact hφ
    rw [if_neg c1] at hφ
    rw [then_step, th_ite, if_neg (by simpa [go_sem] using c1)]
    by_cases c2 : n = 2
    · rw [if_pos c2] at hφ
      rw [then_step, th_ite, if_pos (by simpa [go_sem] using c2), then_step, says_ret, ep]
      exact hφ
    rw [if_neg c2] at hφ
    rw [then_step, th_ite, if_neg (by simpa [go_sem] using c2)]
    by_cases c3 : n = 3
    · rw [if_pos c3] at hφ
      rw [then_step, th_ite, if_pos (by simpa [go_sem] using c3), then_step, says_ret, ep]
      exact hφ
    rw [if_neg c3] at hφ
    rw [then_step, th_ite, if_neg (by simpa [go_sem] using c3)]
    by_cases c4 : n = 4
    · rw [if_pos c4] at hφ
      rw [then_step, th_ite, if_pos (by simpa [go_sem] using c4), then_step, says_ret, ep]
      exact hφ
    rw [if_neg c4] at hφ
    rw [then_step, th_ite, if_neg (by simpa [go_sem] using c4)]
    rw [then_step, says_ret, ep]
    exact hφ
theorem ysgn_lv (n : Int) : (sgn n).2 ≤ 6 := by
  by_cases h : n = 15 ∨ n = 14 ∨ n = 6 ∨ n = 7 ∨ n = 8 ∨ n = 9 ∨ n = 10 ∨ n = 11 ∨ n = 1 ∨ n = 2 ∨ n = 3 ∨ n = 4
  · rcases h with rfl | rfl | rfl | rfl | rfl | rfl | rfl | rfl | rfl | rfl | rfl | rfl <;> decide
  · simp only [not_or] at h
    simp [sgn, h]
/-- How tightly a node holds together. -/
def Ng.lv (x : Ng) : Nat := if x.k = 31 then (sgn x.n).2 else if x.k = 30 then 7 else 8
def ctYLevel : Ct Tryz.prog where
  f := 95
  spec := fun args h φ => ∃ x : Ng, args = [x.v] ∧ φ (.int .i64 (x.lv : Nat)) h
  ok := by
    rintro args h φ w ⟨x, rfl, hφ⟩ hH
    refine by_fm Tryz.func95 gen_ylevel ps_ylevel [ctYSign] φ (noInv) (noMeas) ⟨[x.k, x.l, x.c, x.z, x.n], [], [x.x], [], [], [], h, noM⟩ ⟨rfl, rfl, rfl, rfl, rfl, rfl⟩ ones_nil ?_ w hH rfl
    generalize hE : (⟨specOf _, _, _, _⟩ : Env) = E
    have s_ctYSign : E.spec 96 = (ctYSign).spec := by rw [← hE]; rfl
    have ep : E.post = φ := by rw [← hE]
    clear hE
    unfold fm_ylevel
    unfold Ng.lv at hφ
    by_cases c1 : x.k = 31
    · rw [if_pos c1] at hφ
      rw [th_ite, if_pos (by simpa [go_sem] using c1), then_step, th_call, if_pos (by rfl), s_ctYSign]
      refine ⟨x.n, rfl, ?_⟩
      refine ⟨fun h => (by cases h), (exI_iff _ _).2 ⟨⟨[((sgn x.n).2 : Nat)], [], [(sgn x.n).1], [], [], []⟩, rfl, ones_nil, rfl, ?_⟩⟩
      rw [then_step, says_ret, ep]
      exact hφ
    rw [if_neg c1] at hφ
    rw [th_ite, if_neg (by simpa [go_sem] using c1)]
    by_cases c2 : x.k = 30
    · rw [if_pos c2] at hφ
      rw [then_step, th_ite, if_pos (by simpa [go_sem] using c2), then_step, says_ret, ep]
      exact hφ
    rw [if_neg c2] at hφ
    rw [then_step, th_ite, if_neg (by simpa [go_sem] using c2), then_step, says_ret, ep]
    exact hφ
/-- A tree's root, as a node. -/
def Tr.g : Tr → Ng
  | .nd k l c n x ks => ⟨k, l, c, Tr.ns ks, n, x⟩
theorem Tr.g_lv : ∀ t : Tr, t.g.lv = t.lv
  | .nd _ _ _ _ _ _ => rfl
theorem gs_cons : ∀ t : Tr, ∃ r, t.gs = t.g :: r ∧ r.length = t.sz
  | .nd k l c n x ks => ⟨Tr.gss ks, gs_nd .., by rw [gss_len]; simp [Tr.sz, szs_ns]⟩
/-- A tree stands in a row at a place. -/
def Ps (l : List Ng) (p : Nat) (t : Tr) : Prop := ∃ pre post, l = pre ++ t.gs ++ post ∧ pre.length = p
/-- Trees, one behind the other. -/
def Pss (l : List Ng) (p : Nat) (ts : List Tr) : Prop := ∃ pre post, l = pre ++ Tr.gss ts ++ post ∧ pre.length = p
theorem Ps.kids {l : List Ng} {p : Nat} {k ln c n : Int} {x : List UInt8} {ks : List Tr} (h : Ps l p (.nd k ln c n x ks)) : Pss l (p + 1) ks := by
  obtain ⟨pre, post, rfl, rfl⟩ := h
  exact ⟨pre ++ [⟨k, ln, c, Tr.ns ks, n, x⟩], post, by rw [gs_nd]; simp, by simp⟩
theorem Pss.cons {l : List Ng} {p : Nat} {t : Tr} {ts : List Tr} (h : Pss l p (t :: ts)) : Ps l p t ∧ Pss l (p + t.n) ts := by
  obtain ⟨pre, post, rfl, rfl⟩ := h
  refine ⟨⟨pre, Tr.gss ts ++ post, by rw [gss_cons]; simp, rfl⟩, ⟨pre ++ t.gs, post, by rw [gss_cons]; simp, by rw [List.length_append, gs_len]⟩⟩
theorem Ps.node {l : List Ng} {p : Nat} {t : Tr} (h : Ps l p t) : ∃ hp : p < l.length, l[p] = t.g := by
  obtain ⟨pre, post, rfl, rfl⟩ := h
  obtain ⟨r, hr, _⟩ := gs_cons t
  have hlt : pre.length < (pre ++ t.gs ++ post).length := by rw [hr]; simp
  refine ⟨hlt, ?_⟩
  simp [hr]
theorem Ps.lt {l : List Ng} {p : Nat} {t : Tr} (h : Ps l p t) : p + t.n ≤ l.length := by
  obtain ⟨pre, post, rfl, rfl⟩ := h
  rw [List.length_append, List.length_append, gs_len]; omega
theorem Ps.kidsP {l : List Ng} {p fuel : Nat} {k ln c n : Int} {x : List UInt8} {ks : List Tr} (h : Ps l p (.nd k ln c n x ks)) (hf : ks.length ≤ fuel) : kidsP l ((p : Nat) + (Tr.ns ks : Nat)) fuel ((p : Nat) + 1) = some (places ((p : Nat) + 1) ks) := by
  obtain ⟨pre, post, rfl, rfl⟩ := h
  have := kids_tree ks (pre ++ [⟨k, ln, c, Tr.ns ks, n, x⟩]) post fuel hf
  rw [gs_nd]
  simp only [List.length_append, List.length_cons, List.length_nil, Nat.zero_add, List.append_assoc, List.cons_append, List.nil_append] at this ⊢
  rw [show ((pre.length + 1 : Nat) : Int) = (pre.length : Int) + 1 by omega] at this
  rw [show ((pre.length : Int) + 1 - 1 + (Tr.ns ks : Int)) = pre.length + (Tr.ns ks : Int) by omega] at this
  exact this
theorem places_app : ∀ (a b : List Tr) (p : Int), places p (a ++ b) = places p a ++ places (p + Tr.ns a) b
  | [], b, p => by rw [ns_nil]; simp [places]
  | t :: a, b, p => by
    rw [List.cons_append, places, places, places_app a b, ns_cons, List.cons_append]
    congr 3
    omega
theorem places_len : ∀ (a : List Tr) (p : Int), (places p a).length = a.length
  | [], _ => rfl
  | t :: a, p => by rw [places, List.length_cons, List.length_cons, places_len a]
/-- A row of places in memory. -/
structure IntR (h : Hp) (s : Slc) (ks : List Int) : Prop where
  n : s.n = ks.length
  c : s.n ≤ s.c
  at_ : ks = [] ∨ ∃ b o ob, s.a = some (b, o) ∧ h b = some ob ∧ ob.ty = 3 ∧ (ob.cs.drop o).take ks.length = ics ks ∧ o + ks.length ≤ ob.cs.length
theorem IntR.own {h : Hp} {s : Slc} {ks : List Int} (ho : OwnS h s (ics ks) 3 1) (hn : s.n = ks.length) : IntR h s ks := by
  rcases ho with ⟨rfl, hk⟩ | ⟨b, o, h1, h2, h3, h4, h5, _, h7⟩
  · exact ⟨hn, Nat.le_refl _, .inl (by simpa [ics] using hk)⟩
  · exact ⟨hn, h5, .inr ⟨b, 0, o, h1, h2, h3, by rw [List.drop_zero, ← hn, h7, Nat.mul_one], by omega⟩⟩
theorem IntR.le {h k : Hp} {s : Slc} {ks : List Int} (R : IntR h s ks) (hl : HLe h k) : IntR k s ks :=
  ⟨R.n, R.c, R.at_.imp id fun ⟨b, o, ob, h1, h2, h3⟩ => ⟨b, o, ob, h1, hl _ _ h2, h3⟩⟩
theorem IntR.go {h k : Hp} {b : Nat} {lsl sl sl' : Slc} {used : Bool} {inn : Int} {acc : List UInt8} {s : Slc} {ks : List Int} (R : IntR h s ks) (X : Prn h b lsl used sl inn acc) (G : PGo h k b sl sl') : IntR k s ks := by
  refine ⟨R.n, R.c, R.at_.imp id fun ⟨c, o, ob, h1, h2, h3, h4⟩ => ⟨c, o, ob, h1, G.keep c ob (fun e => ?_) (fun z hz e => ?_) h2, h3, h4⟩⟩
  · rw [e, X.at_] at h2
    cases h2
    exact absurd h3 (show ¬ (YPT = 3) by decide)
  · obtain ⟨o', ho, ht⟩ := X.blk hz
    rw [e, h2] at ho
    cases ho
    rw [h3] at ht
    exact absurd ht (by decide)
theorem IntR.read {h : Hp} {s : Slc} {ks : List Int} (R : IntR h s ks) {j : Nat} (hj : j < ks.length) : ∃ b o, s.a = some (b, o) ∧ hread h (some (b, o + j * 1 + 0)) 1 = some [.int .i64 ks[j]] := by
  rcases R.at_ with rfl | ⟨b, o, ob, h1, h2, h3, h4, h5⟩
  · simp at hj
  · refine ⟨b, o, h1, ?_⟩
    rw [hread_of h2, if_pos (by omega)]
    have e : (ob.cs.drop (o + j * 1 + 0)).take 1 = (((ob.cs.drop o).take ks.length).drop j).take 1 := by
      rw [List.drop_take, List.take_take, List.drop_drop, Nat.mul_one, Nat.add_zero, Nat.min_eq_left (by omega)]
    rw [e, h4, List.drop_eq_getElem_cons (by rw [ics_len]; exact hj)]
    simp [ics]
theorem IntR.tail {h : Hp} {s : Slc} {q : Int} {ks : List Int} (R : IntR h s (q :: ks)) : IntR h ⟨if s.c = 1 then s.a else s.a.map fun x => (x.1, x.2 + 1 * 1), s.n - 1, s.c - 1⟩ ks := by
  have hn := R.n
  have hc := R.c
  rw [List.length_cons] at hn
  refine ⟨by simp [hn], by simp; omega, ?_⟩
  rcases R.at_ with h0 | ⟨b, o, ob, h1, h2, h3, h4, h5⟩
  · cases h0
  · by_cases hk : ks = []
    · exact .inl hk
    · have hp := List.length_pos_iff.2 hk
      rw [List.length_cons] at h4 h5
      refine .inr ⟨b, o + 1, ob, ?_, h2, h3, ?_, by omega⟩
      · rw [if_neg (by omega), h1]; rfl
      · have e : (ob.cs.drop (o + 1)).take ks.length = ((ob.cs.drop o).take (ks.length + 1)).drop 1 := by
          rw [List.drop_take, List.drop_drop]; rfl
        rw [e, h4]; rfl
/-- A type's text, from a row of trees. -/
theorem kindP_tree : ∀ {t : Tr}, WfK t → ∀ {l : List Ng} {p n : Nat}, Ps l p t → t.n ≤ n → kindP l n p = some (ktx t) := by
  intro t W
  induction W with
  | word k ln c h =>
    intro l p n P hn
    obtain ⟨hp, e⟩ := P.node
    cases n with
    | zero => rw [sz_n] at hn; omega
    | succ n =>
      rw [kindP, List.getElem?_eq_getElem hp, e, ktx]
      simp only [Tr.g]
      have : k = 15 ∨ k = 16 ∨ k = 17 ∨ k = 18 := by omega
      rcases this with rfl | rfl | rfl | rfl <;> simp [wInt, wBool, wStr, wComp]
  | big ln c x h =>
    intro l p n P hn
    obtain ⟨hp, e⟩ := P.node
    cases n with
    | zero => rw [sz_n] at hn; omega
    | succ n =>
      rw [kindP, List.getElem?_eq_getElem hp, e, ktx]
      simp [Tr.g]
  | list ln c t h ih =>
    intro l p n P hn
    obtain ⟨hp, e⟩ := P.node
    have hn2 : t.n + 1 ≤ n := by
      have : (Tr.nd 20 ln c 0 [] [t]).n = t.n + 1 := by rw [sz_n, Tr.sz, szs_ns, ns_cons, ns_nil]
      omega
    cases n with
    | zero => omega
    | succ n =>
      rw [kindP, List.getElem?_eq_getElem hp, e, ktx]
      have := ih (Pss.cons P.kids).1 (show t.n ≤ n by omega)
      simp [Tr.g, this]
/-- A node's cells are read. -/
theorem PSt.node {h : Hp} {b : Nat} {lsl sl : Slc} {l : List Ng} {used : Bool} {inn : Int} {acc : List UInt8} (X : PSt h b lsl l used sl inn acc) {p : Nat} {t : Tr} (P : Ps l p t) : ∃ c o, lsl.a = some (c, o) ∧ hread h (some (c, o + p * 6 + 0)) 6 = some t.g.cs ∧ p < lsl.n := by
  obtain ⟨hp, e⟩ := P.node
  have hn := NG.n X.row
  obtain ⟨c, o, ha⟩ := Rows.nn X.row (j := p) (by omega)
  exact ⟨c, o, ha, by rw [NG.node X.row hp ha, e], by omega⟩
def fm_tright : Fm := (.need (.not (.eqI (.cnt (.x 0)) (.c 0))) (.and (.and (.le (.c 0) (.c 0)) (.lt (.c 0) (.cnt (.x 0)))) (.nns (.x 0)))
  (.need (.not (.eqI (.cnt (.x 0)) (.c 0))) (.nns (.x 0))
  (.load (.not (.eqI (.cnt (.x 0)) (.c 0))) (.el (.x 0) (.c 0) 6 3) 1 [(.i .i64 (.x 0))] ⟨1, 0, 0, 0, 0, 0⟩
  (.need (.not (.eqI (.cnt (.x 0)) (.c 0))) (.and (.le (.c (-9223372036854775808)) (.sub (.cnt (.x 0)) (.c 1))) (.le (.sub (.cnt (.x 0)) (.c 1)) (.c 9223372036854775807)))
  (.ite (.or (.eqI (.cnt (.x 0)) (.c 0)) (.not (.eqI (.x 0) (.sub (.cnt (.x 0)) (.c 1)))))
  (.ret (.p (.one (.b (.c false)))))
  (.loop 0 ⟨[(.c 0)], [(.c false)], [], [], [.nil], []⟩
  (.ite (.lt (.x 1) (.cnt (.x 0)))
  (.need (.c true) (.and (.and (.le (.c 0) (.x 1)) (.lt (.x 1) (.cnt (.x 0)))) (.nns (.x 0)))
  (.load (.c true) (.el (.x 0) (.x 1) 6 0) 6 [(.i .u8 (.x 2)), (.i .i64 (.x 3)), (.i .i64 (.x 4)), (.i .i64 (.x 5)), (.i .i64 (.x 6)), (.s (.x 0))] ⟨5, 0, 1, 0, 0, 0⟩
  (.loop 1 ⟨[], [], [], [], [(.x 1)], []⟩
  (.need (.lt (.c 0) (.cnt (.x 2))) (.and (.le (.c (-9223372036854775808)) (.sub (.cnt (.x 2)) (.c 1))) (.le (.sub (.cnt (.x 2)) (.c 1)) (.c 9223372036854775807)))
  (.need (.lt (.c 0) (.cnt (.x 2))) (.and (.and (.le (.c 0) (.sub (.cnt (.x 2)) (.c 1))) (.lt (.sub (.cnt (.x 2)) (.c 1)) (.cnt (.x 2)))) (.nns (.x 2)))
  (.load (.lt (.c 0) (.cnt (.x 2))) (.el (.x 2) (.sub (.cnt (.x 2)) (.c 1)) 1 0) 1 [(.i .i64 (.x 7))] ⟨1, 0, 0, 0, 0, 0⟩
  (.ite (.and (.lt (.c 0) (.cnt (.x 2))) (.eqI (.x 7) (.x 1)))
  (.need (.c true) (.and (.le (.c (-9223372036854775808)) (.sub (.cnt (.x 2)) (.c 1))) (.le (.sub (.cnt (.x 2)) (.c 1)) (.c 9223372036854775807)))
  (.need (.c true) (.and (.and (.le (.c 0) (.sub (.cnt (.x 2)) (.c 1))) (.le (.sub (.cnt (.x 2)) (.c 1)) (.cap (.x 2)))) (.and (.le (.c 0) (.c 0)) (.le (.c 0) (.sub (.cnt (.x 2)) (.c 1)))))
  (.again 1 ⟨7, 1, 1, 0, 2, 0⟩ ⟨7, 1, 1, 0, 3, 0⟩ ⟨[], [], [], [], [(.sub (.x 2) (.c 0) (.sub (.cnt (.x 2)) (.c 1)) 1)], []⟩)))
  (.need (.not (.lt (.x 5) (.c 0))) (.and (.le (.c (-9223372036854775808)) (.sub (.cnt (.x 0)) (.c 1))) (.le (.sub (.cnt (.x 0)) (.c 1)) (.c 9223372036854775807)))
  (.need (.not (.lt (.x 5) (.c 0))) (.and (.le (.c (-9223372036854775808)) (.sub (.sub (.cnt (.x 0)) (.c 1)) (.x 1))) (.le (.sub (.sub (.cnt (.x 0)) (.c 1)) (.x 1)) (.c 9223372036854775807)))
  (.ite (.or (.lt (.x 5) (.c 0)) (.lt (.sub (.sub (.cnt (.x 0)) (.c 1)) (.x 1)) (.x 5)))
  (.ret (.p (.one (.b (.c false)))))
  (.need (.c true) (.and (.le (.c (-9223372036854775808)) (.add (.x 1) (.c 1))) (.le (.add (.x 1) (.c 1)) (.c 9223372036854775807)))
  (.need (.c true) (.and (.le (.c (-9223372036854775808)) (.add (.add (.x 1) (.c 1)) (.x 5))) (.le (.add (.add (.x 1) (.c 1)) (.x 5)) (.c 9223372036854775807)))
  (.need (.lt (.c 0) (.cnt (.x 2))) (.and (.le (.c (-9223372036854775808)) (.sub (.cnt (.x 2)) (.c 1))) (.le (.sub (.cnt (.x 2)) (.c 1)) (.c 9223372036854775807)))
  (.need (.lt (.c 0) (.cnt (.x 2))) (.and (.and (.le (.c 0) (.sub (.cnt (.x 2)) (.c 1))) (.lt (.sub (.cnt (.x 2)) (.c 1)) (.cnt (.x 2)))) (.nns (.x 2)))
  (.load (.lt (.c 0) (.cnt (.x 2))) (.el (.x 2) (.sub (.cnt (.x 2)) (.c 1)) 1 0) 1 [(.i .i64 (.x 8))] ⟨1, 0, 0, 0, 0, 0⟩
  (.ite (.and (.lt (.c 0) (.cnt (.x 2))) (.lt (.x 8) (.add (.add (.x 1) (.c 1)) (.x 5))))
  (.ret (.p (.one (.b (.c false)))))
  (.mk [(.i .i64 (.add (.add (.x 1) (.c 1)) (.x 5)))] 3 1
  (.app (.x 2) (.x 3) 1 8 3
  (.need (.c true) (.and (.le (.c (-9223372036854775808)) (.add (.x 1) (.c 1))) (.le (.add (.x 1) (.c 1)) (.c 9223372036854775807)))
  (.again 0 ⟨1, 0, 0, 0, 1, 0⟩ ⟨2, 1, 0, 0, 2, 0⟩ ⟨[(.add (.x 1) (.c 1))], [(.x 0)], [], [], [(.x 4)], []⟩))))))))))))))))))))
  (.ret (.p (.one (.b (.c true))))))))))))
theorem gen_tright : genFn ⟨true, []⟩ Tryz.prog (fun l => ([⟨[3, 2, 22], [23, 24, 25, 26, 5, 4, 27, 28, 29, 30, 31, 32, 33, 34, 35, 36, 37, 38, 39, 40, 41, 42, 43, 44, 45, 46, 47, 48, 49, 50, 51, 52, 53, 54, 55, 56, 57, 58, 59, 60, 61, 62, 6, 63, 64, 65, 66, 67, 68, 69, 70, 71, 72, 73, 74, 75, 76, 77, 78, 79, 80], [5]⟩, ⟨[3], [27, 28, 29, 30, 31, 32, 33, 34, 35, 36, 37, 38, 39, 40, 41, 42, 43, 44], []⟩] : List LAnn).getD l ⟨[], [], []⟩) Tryz.f23 = fm_tright := by kernel_rfl
theorem ps_tright : freshPs Tryz.prog .zero Tryz.f23.params.toList = some ([(.one (.sl (.x 0)))], ⟨0, 0, 0, 0, 1, 0⟩) := by kernel_rfl
/-- The ends of the trees that are open, without those that end here. -/
def popE (i : Int) : List Int → List Int
  | [] => []
  | e :: st => if e = i then popE i st else e :: st
/-- Do the rest of the nodes fit? -/
def rightF (n : Int) : Int → List Int → List Ng → Bool
  | _, _, [] => true
  | i, st, x :: l => if x.z < 0 ∨ n - 1 - i < x.z then false else
    match popE i st with
    | [] => rightF n (i + 1) [i + 1 + x.z] l
    | e :: st' => if e < i + 1 + x.z then false else rightF n (i + 1) ((i + 1 + x.z) :: e :: st') l
def rightR (l : List Ng) : Bool := match l with
  | [] => false
  | x :: _ => decide (x.z = (l.length : Int) - 1) && rightF l.length 0 [] l
theorem popE_idem (i : Int) : ∀ st, popE i (popE i st) = popE i st
  | [] => rfl
  | e :: st => by
    rw [popE]
    split
    · exact popE_idem i st
    · rename_i h
      rw [popE, if_neg h]
theorem rightF_pop (n i : Int) (st : List Int) : ∀ l, rightF n i (popE i st) l = rightF n i st l
  | [] => rfl
  | x :: l => by rw [rightF, rightF, popE_idem]
theorem own_cut {h : Hp} {s s' : Slc} {xs : List Int} {x : Int} (ho : OwnS h s (ics (xs ++ [x])) 3 1) (hn : s.n = xs.length + 1) (ha : s'.a = s.a) (hn' : s'.n = xs.length) (hc : s'.c = s.c) : OwnS h s' (ics xs) 3 1 := by
  rcases ho with ⟨rfl, hk⟩ | ⟨b, o, h1, h2, h3, h4, h5, h6, h7⟩
  · simp [ics] at hk
  · refine .inr ⟨b, o, ha.trans h1, h2, h3, by rw [hc]; exact h4, by omega, by omega, ?_⟩
    have : (o.cs.take (s.n * 1)).take xs.length = ics xs := by rw [← h7, ics_app, ← ics_len xs]; exact List.take_left
    rw [← this, List.take_take]
    congr 1
    omega
theorem own_last {h : Hp} {s : Slc} {xs : List Int} {x : Int} (ho : OwnS h s (ics (xs ++ [x])) 3 1) (hn : s.n = xs.length + 1) : ∃ b, s.a = some (b, 0) ∧ hread h (some (b, 0 + xs.length * 1 + 0)) 1 = some [.int .i64 x] := by
  obtain ⟨b, o, ha, hr⟩ := (IntR.own ho (by simp [hn])).read (j := xs.length) (by simp)
  rcases ho with ⟨rfl, hk⟩ | ⟨b2, o2, h1, _⟩
  · simp [ics] at hk
  · rw [h1] at ha
    obtain ⟨rfl, rfl⟩ : b2 = b ∧ 0 = o := by simpa using ha
    exact ⟨_, h1, by simpa using hr⟩
/-- The loops' invariants. -/
def rightInv (h : Hp) (sl : Slc) (l : List Ng) (o : Nat) (C : Ctx) : Prop :=
  match o with
  | 0 => ∃ (j : Nat) (z : Int) (bb : Bool) (st : List Int) (s : Slc) (k : Hp), C = ⟨[z, j], [bb], [], [], [sl, s], [], k, noM⟩ ∧ j ≤ l.length ∧ HLe h k ∧ OwnS k s (ics st.reverse) 3 1 ∧ s.n = st.length ∧ st.length ≤ j ∧ (∀ e ∈ st, 0 ≤ e ∧ e ≤ l.length) ∧ (∀ y, s.a = some y → h y.1 = none) ∧ rightF l.length 0 [] l = rightF l.length j st (l.drop j)
  | _ => ∃ (j : Nat) (z : Int) (bb : Bool) (st : List Int) (s s0 : Slc) (k : Hp) (x : Ng), C = ⟨[z, j, x.k, x.l, x.c, x.z, x.n], [bb], [x.x], [], [sl, s0, s], [], k, noM⟩ ∧ j < l.length ∧ l[j]? = some x ∧ HLe h k ∧ OwnS k s (ics st.reverse) 3 1 ∧ s.n = st.length ∧ st.length ≤ j ∧ (∀ e ∈ st, 0 ≤ e ∧ e ≤ l.length) ∧ (∀ y, s.a = some y → h y.1 = none) ∧ rightF l.length 0 [] l = rightF l.length j st (l.drop j)
def rightMeas (l : List Ng) (o : Nat) (C : Ctx) : Nat := match o with
  | 0 => ((l.length : Int) - C.i.getD 1 0).toNat
  | _ => (C.l.getD 2 ⟨none, 0, 0⟩).n
theorem need_i {E : Env} {C : Ctx} {g c : BE} {k : Fm} (h1 : g.den C = true → c.den C = true) (h2 : Then E k C) : (Fm.need g c k).says E C := ⟨h1, h2⟩
/-- A number is looked at, under a guard. -/
theorem load_i {E : Env} {C : Ctx} {g : BE} {a : AE} {k : Fm} {n : Nat} {K : IntKind} (hn : C.i.length = n) (hex : g.den C = true → ∃ v : Int, hread C.h (a.den C) 1 = some [.int K v])
    (h : ∀ v : Int, (g.den C = true → hread C.h (a.den C) 1 = some [.int K v]) → Then E k (C.push ⟨[v], [], [], [], [], []⟩)) : (Fm.load g a 1 [(.i K (.x n))] ⟨1, 0, 0, 0, 0, 0⟩ k).says E C := by
  rw [th_load]
  split
  · rename_i hg
    obtain ⟨v, hv⟩ := hex hg
    refine (exI_iff _ _).2 ⟨⟨[v], [], [], [], [], []⟩, rfl, ones_nil, ?_, h v fun _ => hv⟩
    rw [hv]
    simp [CE.den, IE.den, Ctx.push, hn]
  · rename_i hg
    exact h 0 fun e => absurd e hg
/-- A text is looked at, under a guard. -/
theorem load_s {E : Env} {C : Ctx} {g : BE} {a : AE} {k : Fm} {n : Nat} (hn : C.s.length = n) (hex : g.den C = true → ∃ v : List UInt8, hread C.h (a.den C) 1 = some [.string (B v)])
    (h : ∀ v : List UInt8, (g.den C = true → hread C.h (a.den C) 1 = some [.string (B v)]) → Then E k (C.push ⟨[], [], [v], [], [], []⟩)) : (Fm.load g a 1 [(.s (.x n))] ⟨0, 0, 1, 0, 0, 0⟩ k).says E C := by
  rw [th_load]
  split
  · rename_i hg
    obtain ⟨v, hv⟩ := hex hg
    refine (exI_iff _ _).2 ⟨⟨[], [], [v], [], [], []⟩, rfl, ones_nil, ?_, h v fun _ => hv⟩
    rw [hv]
    simp [CE.den, SE.den, Ctx.push, hn]
  · rename_i hg
    exact h [] fun e => absurd e hg
set_option maxHeartbeats 8000000 in
def ctTRight : Ct Tryz.prog where
  f := 23
  spec := fun args h φ => ∃ sl l, args = [Slc.val sl] ∧ NG h sl l ∧ l.length ≤ 1000000 ∧ φ (.bool (rightR l)) h
  ok := by
    rintro args h φ w ⟨sl, l, rfl, R, hl, hφ⟩ hH
    refine ct_forget (by_fm Tryz.func23 gen_tright ps_tright [] (fun v k => ∃ k', HLe k' k ∧ φ v k') (rightInv h sl l) (fun o C => rightMeas l o C) ⟨[], [], [], [], [sl], [], h, noM⟩ ⟨rfl, rfl, rfl, rfl, rfl, rfl⟩ ones_nil ?_ w hH rfl)
    generalize hE : (⟨specOf _, _, _, _⟩ : Env) = E
    have ep : E.post = (fun v k => ∃ k', HLe k' k ∧ φ v k') := by rw [← hE]
    have ei : E.inv = (rightInv h sl l) := by rw [← hE]
    have em : E.meas = (fun o C => rightMeas l o C) := by rw [← hE]
    clear hE
    unfold fm_tright
    have hn := NG.n R
    have fin : ∀ (C : Ctx) (b : Bool), HLe h C.h → φ (.bool b) h → Then E (.ret (.p (.one (.b (.c b))))) C := by
      intro C b hC hb
      rw [then_step, says_ret, ep]
      exact ⟨h, hC, hb⟩
    cases hl0 : l with
    | nil =>
      rw [hl0] at hn hφ
      have hz : sl.n = 0 := by simpa using hn
      rw [th_need]; refine ⟨by simp [go_sem, hz], ?_⟩
      rw [then_step, th_need]; refine ⟨by simp [go_sem, hz], ?_⟩
      rw [then_step, th_load, if_neg (by simp [go_sem, hz]), then_step, th_need]
      refine ⟨by simp [go_sem, hz], ?_⟩
      rw [then_step, th_ite, if_pos (by simp [go_sem, hz])]
      exact fin _ _ (fun _ _ h => h) hφ
    | cons x0 r =>
      have hpos : 0 < l.length := by rw [hl0]; simp
      have hsn : sl.n ≠ 0 := by omega
      have hRR : rightR l = (decide (x0.z = (l.length : Int) - 1) && rightF l.length 0 [] l) := by rw [hl0]; rfl
      rw [hRR] at hφ
      obtain ⟨b, o, ha⟩ := Rows.nn R (j := 0) (by omega)
      have hr0 := Rows.read (off := 3) (m := 1) R (j := 0) (by omega) (by omega) ha
      rw [← List.drop_drop, gcs_at hpos, show l[0] = x0 by simp [hl0]] at hr0
      clear hl0
      rw [th_need]; refine ⟨by simp [go_sem, ha, hsn] <;> omega, ?_⟩
      rw [then_step, th_need]; refine ⟨by simp [go_sem, ha, hsn], ?_⟩
      rw [then_step, th_load, if_pos (by simp [go_sem, hsn])]
      refine (exI_iff _ _).2 ⟨⟨[x0.z], [], [], [], [], []⟩, rfl, ones_nil, by simpa [go_sem, ha, Ng.cs] using hr0, ?_⟩
      rw [then_step, th_need]; refine ⟨by simp [go_sem, hsn] <;> omega, ?_⟩
      by_cases hz : x0.z = (l.length : Int) - 1
      rotate_left
      · rw [decide_eq_false hz] at hφ
        rw [then_step, th_ite, if_pos (by simp [go_sem, hsn]; omega)]
        exact fin _ _ (fun _ _ h => h) hφ
      rw [decide_eq_true hz, Bool.true_and] at hφ
      rw [then_step, th_ite, if_neg (by simp [go_sem, hsn]; omega), then_step]
      refine loop_intro ?_ ?_
      · rw [ei]
        exact ⟨0, x0.z, false, [], ⟨none, 0, 0⟩, h, rfl, by omega, fun _ _ h => h, .inl ⟨rfl, rfl⟩, rfl, by simp, by simp, fun y hy => (by cases hy), rfl⟩
      rw [ei, em]
      rintro i bbs ss v ll pp hh M ⟨j, z, bb, st, s, k, hC, hj, hle, ho, hsn2, hstj, hse, hfr, hF⟩ hM
      cases hC
      have hM' : M 0 = ((l.length : Int) - j).toNat := hM
      clear hM hr0
      by_cases hjl : j < l.length
      rotate_left
      · have hz2 : ¬ ((j : Int) < sl.n) := by omega
        rw [th_ite, if_neg (by simpa [go_sem] using hz2)]
        rw [List.drop_eq_nil_of_le (by omega), rightF] at hF
        rw [hF] at hφ
        exact fin _ _ hle hφ
      have hz2 : ((j : Int) < sl.n) := by omega
      have R1 := NG.le R hle
      have hnd := NG.node R1 hjl ha
      have hlj : l[j]? = some l[j] := List.getElem?_eq_getElem hjl
      rw [List.drop_eq_getElem_cons hjl] at hF
      rw [th_ite, if_pos (by simpa [go_sem] using hz2)]
      rw [then_step, th_need]; refine ⟨by simp [go_sem, ha] <;> omega, ?_⟩
      generalize l[j] = x at *
      rw [then_step, th_load, if_pos (by rfl)]; refine (exI_iff _ _).2 ⟨⟨[x.k, x.l, x.c, x.z, x.n], [], [x.x], [], [], []⟩, rfl, ones_nil, by simpa [go_sem, ha, Ng.cs] using hnd, ?_⟩
      rw [then_step]
      refine loop_in ?_ ?_
      · rw [ei]
        exact ⟨j, z, bb, st, s, s, hh, x, rfl, hjl, hlj, hle, ho, hsn2, hstj, hse, hfr, by rw [List.drop_eq_getElem_cons hjl, show l[j] = x from Option.some.inj ((List.getElem?_eq_getElem hjl).symm.trans hlj)]; exact hF⟩
      rintro ⟨xi, xb, xs, xv, xl, xp⟩ h' M' hc hinv hm hM1
      rw [ei] at hinv
      rw [em] at hm
      clear hF hfr hse hstj hsn2 ho hle R1 hnd
      obtain ⟨j2, z2, bb2, st, s, s0, k, x2, hC, q1, q2, hle, ho, hsn2, hstj, hse, hfr, hF⟩ := hinv
      simp [Ctx.push, Ctx.heap, Ctx.bare] at hC
      obtain ⟨⟨rfl, hj2, e1, e2, e3, e4, e5, rfl⟩, ⟨rfl, rfl⟩, ⟨e6, rfl⟩, rfl, ⟨rfl, rfl⟩, rfl, rfl⟩ := hC
      obtain rfl : j2 = j := by omega
      clear q1 q2 e1 e2 e3 e4 e5 e6 hj2 hc x2
      have hm' : M' 1 = s.n := hm
      have hM0 : M' 0 = ((l.length : Int) - j2).toNat := (hM1 0 (by decide)).trans hM'
      clear hm hM1 hM'
      rw [List.drop_eq_getElem_cons hjl, show l[j2] = x from Option.some.inj ((List.getElem?_eq_getElem hjl).symm.trans hlj)] at hF
      have hx63 : s.n ≤ 1000000 := by omega
      have hsc : s.n ≤ s.c := (IntR.own ho (by simp [hsn2])).c
      have top : ∀ e st', st = e :: st' → ∃ b, s.a = some (b, 0) ∧ hread h' (some (b, 0 + st'.length * 1 + 0)) 1 = some [.int .i64 e] := fun e st' hs => by
        rw [hs, List.reverse_cons] at ho
        have := own_last ho (by rw [hsn2, hs]; simp)
        simpa using this
      have some1 : 0 < s.n → ∃ e st', st = e :: st' := fun h0 => List.exists_cons_of_length_pos (by omega)
      -- the last of the ends
      have lastE : 0 < s.n → ∃ v : Int, hread h' (s.a.map fun x => (x.1, x.2 + ((s.n : Int) - 1).toNat * 1 + 0)) 1 = some [.int .i64 v] ∧ ∀ u, hread h' (s.a.map fun x => (x.1, x.2 + ((s.n : Int) - 1).toNat * 1 + 0)) 1 = some [.int .i64 u] → ∀ e st', st = e :: st' → u = e := fun h0 => by
        obtain ⟨e, st', hs⟩ := some1 h0
        obtain ⟨b2, hb2, hr2⟩ := top e st' hs
        have hn1 : ((s.n : Int) - 1).toNat = st'.length := by rw [hsn2, hs]; simp
        rw [hb2, hn1]
        refine ⟨e, hr2, fun u hu e2 st2 hs2 => ?_⟩
        have hu' : hread h' (some (b2, 0 + st'.length * 1 + 0)) 1 = some [.int .i64 u] := hu
        rw [hr2] at hu'
        rw [hs] at hs2
        cases hs2
        simpa using hu'.symm
      have nns : 0 < s.n → s.a.isSome = true := fun h0 => by
        obtain ⟨e, st', hs⟩ := some1 h0
        obtain ⟨b2, hb2, hr2⟩ := top e st' hs
        rw [hb2]; rfl
      refine need_i (fun g => by have : 0 < s.n := by simpa [go_sem] using g
                                 simp [go_sem]; omega) ?_
      rw [then_step]
      refine need_i (fun g => by have h0 : 0 < s.n := by simpa [go_sem] using g
                                 simp [go_sem, nns h0]; omega) ?_
      rw [then_step]
      refine load_i rfl (fun g => ?_) fun v hv => ?_
      · have h0 : 0 < s.n := by simpa [go_sem] using g
        obtain ⟨v, hv, _⟩ := lastE h0
        exact ⟨v, hv⟩
      have hv' : ∀ e st', st = e :: st' → v = e := fun e st' hs => by
        have h0 : 0 < s.n := by rw [hsn2, hs]; simp
        obtain ⟨_, _, hu⟩ := lastE h0
        exact hu v (hv (by simpa [go_sem] using h0)) e st' hs
      clear hv
      by_cases hp : ∃ st', st = (j2 : Int) :: st'
      · obtain ⟨st', hs⟩ := hp
        have hvj := hv' _ _ hs
        subst hvj
        have h0 : 0 < s.n := by rw [hsn2, hs]; simp
        rw [then_step, th_ite, if_pos (by simp [go_sem, h0])]
        rw [then_step, th_need]; refine ⟨by simp [go_sem] <;> omega, ?_⟩
        rw [then_step]
        refine need_i (fun _ => by simp [go_sem]; omega) ?_
        rw [then_step, says_again, ei, em]
        refine ⟨⟨j2, z, bb, st', _, _, h', x, rfl, hjl, hlj, hle, own_cut (s := s) (x := (j2 : Int)) (by rw [hs] at ho; simpa using ho) (by rw [hsn2, hs]; simp) ?_ ?_ ?_, ?_, by rw [hs] at hstj; simp at hstj; omega, fun e he => hse e (by rw [hs]; simp [he]), fun y hy => hfr y ?_, ?_⟩, ?_⟩
        · show (if s.c = 0 then s.a else s.a.map fun x => (x.1, x.2 + 0 * 1)) = s.a
          split
          · rfl
          · cases s.a <;> simp
        · show (((s.n : Int) - 1).toNat - 0) = _
          rw [hsn2, hs]; simp
        · rfl
        · show (((s.n : Int) - 1).toNat - 0) = _
          rw [hsn2, hs]; simp
        · have : (if s.c = 0 then s.a else s.a.map fun x => (x.1, x.2 + 0 * 1)) = s.a := by
            split
            · rfl
            · cases s.a <;> simp
          rw [← this]; exact hy
        · rw [List.drop_eq_getElem_cons hjl, show l[j2] = x from Option.some.inj ((List.getElem?_eq_getElem hjl).symm.trans hlj), hF, ← rightF_pop, hs, popE, if_pos rfl, rightF_pop]
        · show (((s.n : Int) - 1).toNat - 0) < M' 1
          omega
      have hpop : popE j2 st = st := by
        cases st with
        | nil => rfl
        | cons e st' => rw [popE, if_neg (fun e2 => hp ⟨st', by rw [e2]⟩)]
      rw [then_step, th_ite, if_neg (fun g => by
        have g' : 0 < s.n ∧ v = (j2 : Int) := by simpa [go_sem] using g
        obtain ⟨e, st', hs⟩ := some1 g'.1
        exact hp ⟨st', by rw [hs, ← hv' _ _ hs, g'.2]⟩), then_step]
      clear hp
      refine need_i (fun _ => by simp [go_sem]; omega) ?_
      rw [then_step]
      refine need_i (fun _ => by simp [go_sem]; omega) ?_
      rw [rightF, hpop] at hF
      by_cases hbad : x.z < 0 ∨ (l.length : Int) - 1 - j2 < x.z
      · rw [if_pos hbad] at hF
        rw [hF] at hφ
        rw [then_step, th_ite, if_pos (by simpa [go_sem, hn] using hbad)]
        exact fin _ _ hle hφ
      rw [if_neg hbad] at hF
      rw [then_step, th_ite, if_neg (by simpa [go_sem, hn] using hbad), then_step]
      refine need_i (fun _ => by simp [go_sem]; omega) ?_
      rw [then_step]
      refine need_i (fun _ => by simp [go_sem]; omega) ?_
      rw [then_step]
      refine need_i (fun g => by have : 0 < s.n := by simpa [go_sem] using g
                                 simp [go_sem]; omega) ?_
      rw [then_step]
      refine need_i (fun g => by have h0 : 0 < s.n := by simpa [go_sem] using g
                                 simp [go_sem, nns h0]; omega) ?_
      rw [then_step]
      refine load_i rfl (fun g => ?_) fun v2 hv2 => ?_
      · have h0 : 0 < s.n := by simpa [go_sem] using g
        obtain ⟨v, hv, _⟩ := lastE h0
        exact ⟨v, hv⟩
      have hv2' : ∀ e st', st = e :: st' → v2 = e := fun e st' hs => by
        have h0 : 0 < s.n := by rw [hsn2, hs]; simp
        obtain ⟨_, _, hu⟩ := lastE h0
        exact hu v2 (hv2 (by simpa [go_sem] using h0)) e st' hs
      clear hv2
      by_cases hlow : 0 < s.n ∧ v2 < (j2 : Int) + 1 + x.z
      · obtain ⟨e, st', hs⟩ := some1 hlow.1
        rw [hs] at hF
        simp only at hF
        have := hv2' _ _ hs
        rw [if_pos (by omega)] at hF
        rw [hF] at hφ
        rw [then_step, th_ite, if_pos (by simpa [go_sem] using hlow)]
        exact fin _ _ hle hφ
      have hF2 : rightF l.length 0 [] l = rightF l.length (j2 + 1 : Int) (((j2 : Int) + 1 + x.z) :: st) (l.drop (j2 + 1)) := by
        rw [hF]
        cases st with
        | nil => rfl
        | cons e st' =>
          have := hv2' _ _ rfl
          have h0 : 0 < s.n := by rw [hsn2]; simp
          simp only
          rw [if_neg (fun h => hlow ⟨h0, by omega⟩)]
      rw [then_step, th_ite, if_neg (by simpa [go_sem] using hlow)]
      rw [then_step, th_mk]; intro b2 hb2
      have hb2' : h' b2 = none := hb2
      rw [then_step, says_app]
      have hle2 := hle_set hb2' ⟨[Value.int .i64 ((j2 : Int) + 1 + x.z)], 3⟩
      refine ⟨ics st.reverse, ics [(j2 : Int) + 1 + x.z], own_le ho hle2, .inr ⟨by simp [go_sem], ?_⟩, ?_, ?_, ?_, ?_⟩
      · simp [go_sem, ics]
      · intro u hu; simp [ics] at hu; subst hu; rfl
      · show s.n + 1 ≤ maxLen; unfold maxLen; omega
      · show (s.n + 1) * 8 ≤ _; omega
      intro s3 k3 g1 g2 g3 g4
      have g2' : s3.n = s.n + 1 := g2
      have hle3 : HLe h k3 := fun c oo hc => g4 c oo (fun y hy e => by
        have := hfr y hy
        rw [e, hc] at this; cases this) (hle2 _ _ (hle _ _ hc))
      rw [th_need]
      refine ⟨by simp [go_sem]; omega, ?_⟩
      rw [then_step, says_again, ei, em]
      refine ⟨⟨j2 + 1, z, bb, ((j2 : Int) + 1 + x.z) :: st, s3, k3, rfl, by omega, hle3, by rw [List.reverse_cons, ics_app]; exact g1, by rw [g2', hsn2]; rfl, by simp; omega, fun e he => ?_, fun q hq => ?_, hF2⟩, ?_⟩
      · rcases List.mem_cons.1 he with rfl | he
        · omega
        · exact hse e he
      · rcases g3 q hq with ⟨q2, hq2, e⟩ | hn2
        · rw [← e]; exact hfr q2 hq2
        · cases hh2 : h q.1 with
          | none => rfl
          | some oo =>
            have : (h'.set b2 ⟨[Value.int .i64 ((j2 : Int) + 1 + x.z)], 3⟩) q.1 = none := hn2
            rw [hle2 _ _ (hle _ _ hh2)] at this
            cases this
      · show (((l.length : Int) - ((j2 : Int) + 1)).toNat) < M' 0
        omega
theorem word_run (s : List UInt8) (w : World) : Calls Tryz.prog 118 #[.string (B s)] w fun e w' => e = .returned (.bool (wordB s)) ∧ Below w.heap.size w w' := by
  have := ctWord.ok [.string (B s)] (fun _ => none) (fun v _ => v = .bool (wordB s)) w ⟨s, rfl, rfl⟩ (fun b o h => by cases h)
  refine this.mono ?_
  rintro e w' ⟨v, k, rfl, rfl, _, F⟩
  exact ⟨rfl, F.os, F.tape, F.output, F.size, fun i hi => F.block i hi rfl⟩
theorem inB_iff (n : Int) : inB n = true ↔ (97 ≤ n ∧ n ≤ 122) ∨ n = 95 ∨ (65 ≤ n ∧ n ≤ 90) ∨ (48 ≤ n ∧ n ≤ 57) := by
  unfold inB kdi
  rw [decide_eq_true_iff]
  split
  · constructor <;> intro h <;> omega
  · split
    · constructor <;> intro h <;> omega
    · split
      · constructor <;> intro h <;> omega
      · constructor <;> intro h <;> omega
def lettersB (p : Int → Bool) (s : List UInt8) : Bool := match s with
  | [] => false
  | c :: _ => p c.toNat && (!wordB s && s.all fun c => inB c.toNat)
set_option maxHeartbeats 4000000 in
set_option maxRecDepth 1000000 in
theorem letters_run (g : FuncId) (p : Int → Bool) (hg : ∀ (c : Int) w, 0 ≤ c → c ≤ 255 → Calls Tryz.prog g #[.int .u8 c] w fun e w' => e = .returned (.bool (p c)) ∧ w' = w) (he : ∀ args w, (callFunc g args).run Tryz.prog w = .ok (.enter g args) w) (l : List UInt8) (w : World) :
    Calls Tryz.prog 129 #[.string (B l), .func (.func g) #[] #[]] w fun e w' => e = .returned (.bool (lettersB p l)) ∧ Below w.heap.size w w' := by
  cases l with
  | nil =>
    have hB0 : (B []).toList.isEmpty = true := by rw [B_toList]; rfl
    go_enter Tryz.func129, Tryz.ntmps129
    go_wp2
    go_ret
    exact ⟨rfl, Below.refl _ _⟩
  | cons c r =>
    have hB0 : (B (c :: r)).toList.isEmpty = false := by rw [B_toList]; rfl
    have hg0 : ∀ h, (B (c :: r))[0]'h = c := fun h => UInt8.toNat.inj (by have := B_get (c :: r) 0 h; rw [bt_zero] at this; omega)
    have hc := c.toNat_lt
    have hgc : ∀ w, Calls Tryz.prog g #[.int .u8 (c.toNat : Nat)] w fun e w' => e = .returned (.bool (p (c.toNat : Nat))) ∧ w' = w := fun w => hg _ w (by omega) (by omega)
    have hcons : c :: r = c :: r := rfl
    revert hcons
    generalize hs : c :: r = s at *
    intro hcons
    have hpos : 0 < s.length := by rw [← hs]; simp
    have hLB : lettersB p s = (p c.toNat && (!wordB s && s.all fun c => inB c.toNat)) := by rw [← hs]; rfl
    rw [hLB]
    cases hp : p c.toNat with
    | false =>
      rw [hp] at hgc
      go_enter Tryz.func129, Tryz.ntmps129
      go_wp2_with (refine (hgc _).mono ?_; rintro e w' ⟨rfl, rfl⟩)
      go_ret
      exact ⟨rfl, Below.refl _ _⟩
    | true =>
      rw [hp] at hgc
      cases hw : wordB s with
      | true =>
        have hwd := word_run s
        rw [hw] at hwd
        have e1 : ∀ args w, (callFunc 118 args).run Tryz.prog w = .ok (.enter 118 args) w := enters_of Tryz.func118 (by kernel_rfl) rfl
        go_enter Tryz.func129, Tryz.ntmps129
        go_wp2_with (refine (hgc _).mono ?_; rintro e w' ⟨rfl, rfl⟩)
        refine (hwd _).mono ?_
        rintro e w1 ⟨rfl, hb1⟩
        go_wp2
        go_ret
        exact ⟨rfl, hb1⟩
      | false =>
        have hwd := word_run s
        rw [hw] at hwd
        have e1 : ∀ args w, (callFunc 118 args).run Tryz.prog w = .ok (.enter 118 args) w := enters_of Tryz.func118 (by kernel_rfl) rfl
        go_enter Tryz.func129, Tryz.ntmps129
        go_wp2_with (refine (hgc _).mono ?_; rintro e w' ⟨rfl, rfl⟩)
        refine (hwd _).mono ?_
        rintro e w1 ⟨rfl, hb1⟩
        have hsz1 := hb1.size
        go_wp2
        go_loopw [22, 23] (fun _ _ wr => ∃ i : Nat, i ≤ s.length ∧ wr.heap[w1.heap.size]? = some (.stringIter (B s) i) ∧ Below w'.heap.size w' wr ∧ (s.take i).all (fun c => inB c.toNat) = true) (fun _ _ wr => s.length - wr.iterPos w1.heap.size)
        case atStart => exact ⟨0, by omega, World.iter_heap _ _ _, hb1.alloc hsz1 _, by simp⟩
        case round =>
          obtain ⟨i, hil, hit, hB, hall⟩ := hrel
          have hwx : w1.heap.size < wr.heap.size := (Array.getElem?_eq_some_iff.1 hit).1
          by_cases hi : i < s.length
          · have hiB : i < (B s).size := by rw [B_size]; exact hi
            have hg : (B s)[i]'hiB = s[i] := UInt8.toNat.inj (by have := B_get s i hiB; rw [bt, List.getD_eq_getElem?_getD, List.getElem?_eq_getElem hi, Option.getD_some] at this; omega)
            have hbad : ∀ m, m = i → inB (s[i].toNat : Nat) = false → (s.all fun c => inB c.toNat) = false := fun m _ h => by
              rw [List.all_eq_false]
              exact ⟨s[i], List.getElem_mem hi, fun hh => by rw [h] at hh; cases hh⟩
            have hgood : inB ((s[i].toNat : Nat) : Int) = true → (s.take (i + 1)).all (fun c => inB c.toNat) = true := fun h => by
              rw [List.take_succ_eq_append_getElem hi, List.all_append, hall, List.all_cons, List.all_nil, Bool.and_true, Bool.true_and]
              exact h
            by_cases hx : s[i].toNat < 128
            · have hnx := fun ty => Lib.run_next_ascii_at (P := Tryz.prog) wr _ (B s) i ty hit hiB (by rw [hg]; exact hx)
              rw [hg] at hnx
              have hit2 := Lib.iterAt_heap wr w1.heap.size (B s) i (i + 1) hit
              have hB2 := Lib.below_iterAt hB (k := w1.heap.size) hsz1 (B s) (i + 1)
              generalize wr.iterAt w1.heap.size (B s) (i + 1) = w2 at *
              generalize s[i] = x at *
              have hin := inB_iff ((x.toNat : Nat) : Int)
              have hx0 : (0 : Int) ≤ x.toNat := by omega
              cases hi2 : inB ((x.toNat : Nat) : Int) with
              | true =>
                have HA := Lib.hid (hgood hi2)
                rw [hi2] at hin
                have HI := Lib.hid (hin.1 rfl)
                clear hgood hbad hg hall hin hi2
                go_wp2
                all_goals first
                  | (exfalso; have := HI.out; (try simp only [bne_iff_ne, ne_eq, bne_eq_false_iff_eq] at *); omega)
                  | (go_roundw; (case rel => exact ⟨i + 1, by omega, hit2, hB2, HA.out⟩); (case measure => simp only [World.iterPos, hit2, hit]; omega))
              | false =>
                have HA := Lib.hid (hbad i rfl hi2)
                have HI := Lib.hid (mt hin.2 (by rw [hi2]; exact Bool.false_ne_true))
                clear hgood hbad hg hall hin hi2
                go_wp2
                all_goals first
                  | (exfalso; have := HI.out; (try simp only [bne_iff_ne, ne_eq, bne_eq_false_iff_eq] at *); omega)
                  | (go_ret; exact ⟨by rw [HA.out]; rfl, hB2⟩)
            · have hnx := fun ty => Lib.run_next_any_at (P := Tryz.prog) wr _ (B s) i ty hit hiB
              obtain ⟨d1, d2⟩ := decode_high (B s) i hiB (by rw [hg]; omega)
              have d3 := decode_le (B s) i
              have hit2 := Lib.iterAt_heap wr w1.heap.size (B s) i (i + (Utf8.decode (B s) i).2) hit
              have hB2 := Lib.below_iterAt hB (k := w1.heap.size) hsz1 (B s) (i + (Utf8.decode (B s) i).2)
              have HA := Lib.hid (hbad i rfl (by
                cases hq : inB ((s[i].toNat : Nat) : Int) with
                | false => rfl
                | true => have := (inB_iff _).1 hq; omega))
              generalize Utf8.decode (B s) i = d at *
              generalize wr.iterAt w1.heap.size (B s) (i + d.2) = w2 at *
              clear hgood hbad hg hall
              go_wp2
              all_goals first
                | (exfalso; (try simp only [bne_iff_ne, ne_eq, bne_eq_false_iff_eq] at *); omega)
                | (go_ret; exact ⟨by rw [HA.out]; rfl, hB2⟩)
          · obtain rfl : i = s.length := by omega
            have hnx := fun ty => Lib.run_next_end_at (P := Tryz.prog) wr _ (B s) s.length ty hit (by rw [B_size]; omega)
            rw [List.take_length] at hall
            have HA := Lib.hid hall
            clear hall
            go_wp2
            go_ret
            exact ⟨by rw [HA.out]; rfl, hB⟩
def fm_tname : Fm := (.call (.c true) false 129 [(.one (.s (.x 0))), (.one (.c (.fn 131)))] (.p (.one (.b (.x 0)))) ⟨0, 1, 0, 0, 0, 0⟩
  (.ret (.p (.one (.b (.x 0))))))
theorem gen_tname : genFn ⟨true, []⟩ Tryz.prog (fun l => ([] : List LAnn).getD l ⟨[], [], []⟩) Tryz.f85 = fm_tname := by kernel_rfl
theorem ps_tname : freshPs Tryz.prog .zero Tryz.f85.params.toList = some ([(.one (.s (.x 0)))], ⟨0, 0, 1, 0, 0, 0⟩) := by kernel_rfl
def fm_tgreat : Fm := (.call (.c true) false 129 [(.one (.s (.x 0))), (.one (.c (.fn 130)))] (.p (.one (.b (.x 0)))) ⟨0, 1, 0, 0, 0, 0⟩
  (.ret (.p (.one (.b (.x 0))))))
theorem gen_tgreat : genFn ⟨true, []⟩ Tryz.prog (fun l => ([] : List LAnn).getD l ⟨[], [], []⟩) Tryz.f84 = fm_tgreat := by kernel_rfl
theorem ps_tgreat : freshPs Tryz.prog .zero Tryz.f84.params.toList = some ([(.one (.s (.x 0)))], ⟨0, 0, 1, 0, 0, 0⟩) := by kernel_rfl
def fm_tfields : Fm := (.ite (.eqI (.x 0) (.c 2))
  (.call (.c true) false 84 [(.one (.s (.x 0)))] (.p (.one (.b (.x 0)))) ⟨0, 1, 0, 0, 0, 0⟩
  (.ret (.p (.one (.b (.and (.x 0) (.eqI (.x 4) (.c 0))))))))
  (.ite (.eqI (.x 0) (.c 19))
  (.call (.c true) false 84 [(.one (.s (.x 0)))] (.p (.one (.b (.x 0)))) ⟨0, 1, 0, 0, 0, 0⟩
  (.ret (.p (.one (.b (.and (.x 0) (.eqI (.x 4) (.c 0))))))))
  (.ite (.eqI (.x 0) (.c 3))
  (.call (.c true) false 85 [(.one (.s (.x 0)))] (.p (.one (.b (.x 0)))) ⟨0, 1, 0, 0, 0, 0⟩
  (.ret (.p (.one (.b (.and (.x 0) (.eqI (.x 4) (.c 0))))))))
  (.ite (.eqI (.x 0) (.c 5))
  (.call (.c true) false 85 [(.one (.s (.x 0)))] (.p (.one (.b (.x 0)))) ⟨0, 1, 0, 0, 0, 0⟩
  (.ret (.p (.one (.b (.and (.x 0) (.eqI (.x 4) (.c 0))))))))
  (.ite (.eqI (.x 0) (.c 7))
  (.call (.c true) false 85 [(.one (.s (.x 0)))] (.p (.one (.b (.x 0)))) ⟨0, 1, 0, 0, 0, 0⟩
  (.ret (.p (.one (.b (.and (.x 0) (.eqI (.x 4) (.c 0))))))))
  (.ite (.eqI (.x 0) (.c 26))
  (.call (.c true) false 85 [(.one (.s (.x 0)))] (.p (.one (.b (.x 0)))) ⟨0, 1, 0, 0, 0, 0⟩
  (.ret (.p (.one (.b (.and (.x 0) (.eqI (.x 4) (.c 0))))))))
  (.ite (.eqI (.x 0) (.c 27))
  (.call (.c true) false 85 [(.one (.s (.x 0)))] (.p (.one (.b (.x 0)))) ⟨0, 1, 0, 0, 0, 0⟩
  (.ret (.p (.one (.b (.and (.x 0) (.eqI (.x 4) (.c 0))))))))
  (.ite (.eqI (.x 0) (.c 29))
  (.call (.c true) false 85 [(.one (.s (.x 0)))] (.p (.one (.b (.x 0)))) ⟨0, 1, 0, 0, 0, 0⟩
  (.ret (.p (.one (.b (.and (.x 0) (.eqI (.x 4) (.c 0))))))))
  (.ite (.eqI (.x 0) (.c 4))
  (.call (.c true) false 85 [(.one (.s (.x 0)))] (.p (.one (.b (.x 0)))) ⟨0, 1, 0, 0, 0, 0⟩
  (.ret (.p (.one (.b (.and (.x 0) (.le (.c 0) (.x 4))))))))
  (.ite (.eqI (.x 0) (.c 21))
  (.ret (.p (.one (.b (.and (.eqS (.x 0) (.c [])) (.le (.c 0) (.x 4)))))))
  (.ite (.eqI (.x 0) (.c 22))
  (.ret (.p (.one (.b (.and (.and (.eqS (.x 0) (.c [])) (.le (.c 0) (.x 4))) (.lt (.x 4) (.c 8388608)))))))
  (.ite (.eqI (.x 0) (.c 23))
  (.ret (.p (.one (.b (.eqI (.x 4) (.c 0))))))
  (.ite (.eqI (.x 0) (.c 24))
  (.ret (.p (.one (.b (.and (.eqS (.x 0) (.c [])) (.or (.eqI (.x 4) (.c 0)) (.eqI (.x 4) (.c 1))))))))
  (.ite (.eqI (.x 0) (.c 30))
  (.ret (.p (.one (.b (.and (.eqS (.x 0) (.c [])) (.or (.eqI (.x 4) (.c 12)) (.eqI (.x 4) (.c 13))))))))
  (.ite (.eqI (.x 0) (.c 31))
  (.ret (.p (.one (.b (.and (.eqS (.x 0) (.c [])) (.or (.or (.and (.le (.c 1) (.x 4)) (.le (.x 4) (.c 11))) (.eqI (.x 4) (.c 14))) (.eqI (.x 4) (.c 15))))))))
  (.ret (.p (.one (.b (.and (.eqS (.x 0) (.c [])) (.eqI (.x 4) (.c 0))))))))))))))))))))))
theorem gen_tfields : genFn ⟨true, [1000005]⟩ Tryz.prog (fun l => ([] : List LAnn).getD l ⟨[], [], []⟩) Tryz.f49 = fm_tfields := by kernel_rfl
theorem ps_tfields : freshPs Tryz.prog .zero Tryz.f49.params.toList = some ([(.agg [(.i .u8 (.x 0)), (.i .i64 (.x 1)), (.i .i64 (.x 2)), (.i .i64 (.x 3)), (.i .i64 (.x 4)), (.s (.x 0))])], ⟨5, 0, 1, 0, 0, 0⟩) := by kernel_rfl
def nmB (c : Int) : Bool := c == 95 || (leB 97 c && leB c 122)
def gtB (c : Int) : Bool := leB 65 c && leB c 90
theorem name1_run (c : Int) (w : World) : Calls Tryz.prog 131 #[.int .u8 c] w fun e w' => e = .returned (.bool (nmB c)) ∧ w' = w := by
  go_enter Tryz.func131, Tryz.ntmps131
  by_cases h95 : c = 95
  · subst h95
    go_wp2
    go_ret
    exact ⟨rfl, rfl⟩
  · by_cases h97 : 97 ≤ c
    · go_wp2
      all_goals first
        | (exfalso; omega)
        | (go_ret; exact ⟨by simp [nmB, leB, h97] <;> (intros; omega), rfl⟩)
    · go_wp2
      all_goals first
        | (exfalso; omega)
        | (go_ret; exact ⟨by simp [nmB, leB] <;> (intros; omega), rfl⟩)
theorem great1_run (c : Int) (w : World) : Calls Tryz.prog 130 #[.int .u8 c] w fun e w' => e = .returned (.bool (gtB c)) ∧ w' = w := by
  go_enter Tryz.func130, Tryz.ntmps130
  by_cases h65 : 65 ≤ c
  · go_wp2
    all_goals first
      | (exfalso; omega)
      | (go_ret; exact ⟨by simp [gtB, leB, h65] <;> (intros; omega), rfl⟩)
  · go_wp2
    all_goals first
      | (exfalso; omega)
      | (go_ret; exact ⟨by simp [gtB, leB] <;> (intros; omega), rfl⟩)
def ctTNameL : Ct Tryz.prog where
  f := 129
  spec := fun args h φ => ∃ s, args = [.string (B s), .func (.func 131) #[] #[]] ∧ φ (.bool (lettersB nmB s)) h
  ok := by
    rintro args h φ w ⟨s, rfl, hφ⟩ hH
    refine (letters_run 131 nmB (fun c w _ _ => name1_run c w) (enters_of Tryz.func131 (by kernel_rfl) rfl) s w).mono ?_
    rintro e w' ⟨rfl, hb⟩
    exact ⟨_, h, rfl, hφ, hH.below hb, Fr.of_below hb⟩
def ctTName : Ct Tryz.prog where
  f := 85
  spec := fun args h φ => ∃ s, args = [.string (B s)] ∧ φ (.bool (lettersB nmB s)) h
  ok := by
    rintro args h φ w ⟨s, rfl, hφ⟩ hH
    refine by_fm Tryz.func85 gen_tname ps_tname [ctTNameL] φ (noInv) (noMeas) ⟨[], [], [s], [], [], [], h, noM⟩ ⟨rfl, rfl, rfl, rfl, rfl, rfl⟩ ones_nil ?_ w hH rfl
    generalize hE : (⟨specOf _, _, _, _⟩ : Env) = E
    have s_ctTNameL : E.spec 129 = (ctTNameL).spec := by rw [← hE]; rfl
    have ep : E.post = φ := by rw [← hE]
    clear hE
    unfold fm_tname
    rw [th_call, if_pos (by rfl), s_ctTNameL]
    refine ⟨s, rfl, ?_⟩
    refine ⟨fun h => (by cases h), (exI_iff _ _).2 ⟨⟨[], [lettersB nmB s], [], [], [], []⟩, rfl, ones_nil, rfl, ?_⟩⟩
    rw [then_step, says_ret, ep]
    exact hφ
def ctTGreatL : Ct Tryz.prog where
  f := 129
  spec := fun args h φ => ∃ s, args = [.string (B s), .func (.func 130) #[] #[]] ∧ φ (.bool (lettersB gtB s)) h
  ok := by
    rintro args h φ w ⟨s, rfl, hφ⟩ hH
    refine (letters_run 130 gtB (fun c w _ _ => great1_run c w) (enters_of Tryz.func130 (by kernel_rfl) rfl) s w).mono ?_
    rintro e w' ⟨rfl, hb⟩
    exact ⟨_, h, rfl, hφ, hH.below hb, Fr.of_below hb⟩
def ctTGreat : Ct Tryz.prog where
  f := 84
  spec := fun args h φ => ∃ s, args = [.string (B s)] ∧ φ (.bool (lettersB gtB s)) h
  ok := by
    rintro args h φ w ⟨s, rfl, hφ⟩ hH
    refine by_fm Tryz.func84 gen_tgreat ps_tgreat [ctTGreatL] φ (noInv) (noMeas) ⟨[], [], [s], [], [], [], h, noM⟩ ⟨rfl, rfl, rfl, rfl, rfl, rfl⟩ ones_nil ?_ w hH rfl
    generalize hE : (⟨specOf _, _, _, _⟩ : Env) = E
    have s_ctTGreatL : E.spec 129 = (ctTGreatL).spec := by rw [← hE]; rfl
    have ep : E.post = φ := by rw [← hE]
    clear hE
    unfold fm_tgreat
    rw [th_call, if_pos (by rfl), s_ctTGreatL]
    refine ⟨s, rfl, ?_⟩
    refine ⟨fun h => (by cases h), (exI_iff _ _).2 ⟨⟨[], [lettersB gtB s], [], [], [], []⟩, rfl, ones_nil, rfl, ?_⟩⟩
    rw [then_step, says_ret, ep]
    exact hφ
/-- May a node's fields be? -/
def fieldsB (x : Ng) : Bool :=
  if x.k = 2 then lettersB gtB x.x && decide (x.n = 0)
  else if x.k = 19 then lettersB gtB x.x && decide (x.n = 0)
  else if x.k = 3 then lettersB nmB x.x && decide (x.n = 0)
  else if x.k = 5 then lettersB nmB x.x && decide (x.n = 0)
  else if x.k = 7 then lettersB nmB x.x && decide (x.n = 0)
  else if x.k = 26 then lettersB nmB x.x && decide (x.n = 0)
  else if x.k = 27 then lettersB nmB x.x && decide (x.n = 0)
  else if x.k = 29 then lettersB nmB x.x && decide (x.n = 0)
  else if x.k = 4 then lettersB nmB x.x && leB 0 x.n
  else if x.k = 21 then x.x == [] && leB 0 x.n
  else if x.k = 22 then x.x == [] && leB 0 x.n && ltB x.n 8388608
  else if x.k = 23 then decide (x.n = 0)
  else if x.k = 24 then x.x == [] && (decide (x.n = 0) || decide (x.n = 1))
  else if x.k = 30 then x.x == [] && (decide (x.n = 12) || decide (x.n = 13))
  else if x.k = 31 then x.x == [] && ((leB 1 x.n && leB x.n 11) || decide (x.n = 14) || decide (x.n = 15))
  else x.x == [] && decide (x.n = 0)
set_option maxHeartbeats 4000000 in
def ctTFields : Ct Tryz.prog where
  f := 49
  spec := fun args h φ => ∃ x : Ng, args = [x.v] ∧ φ (.bool (fieldsB x)) h
  ok := by
    rintro args h φ w ⟨x, rfl, hφ⟩ hH
    refine by_fm Tryz.func49 gen_tfields ps_tfields [ctTName, ctTGreat] φ (noInv) (noMeas) ⟨[x.k, x.l, x.c, x.z, x.n], [], [x.x], [], [], [], h, noM⟩ ⟨rfl, rfl, rfl, rfl, rfl, rfl⟩ ones_nil ?_ w hH rfl
    generalize hE : (⟨specOf _, _, _, _⟩ : Env) = E
    have s_ctTName : E.spec 85 = (ctTName).spec := by rw [← hE]; rfl
    have s_ctTGreat : E.spec 84 = (ctTGreat).spec := by rw [← hE]; rfl
    have ep : E.post = φ := by rw [← hE]
    clear hE
    unfold fm_tfields
    unfold fieldsB at hφ
    rw [← then_step]
    by_cases c2 : x.k = 2
    · rw [if_pos c2] at hφ
      rw [then_step, th_ite, if_pos (by simpa [go_sem] using c2)]
      rw [then_step, th_call, if_pos (by rfl), s_ctTGreat]
      refine ⟨x.x, rfl, ?_⟩
      refine ⟨fun h => (by cases h), (exI_iff _ _).2 ⟨⟨[], [lettersB gtB x.x], [], [], [], []⟩, rfl, ones_nil, rfl, ?_⟩⟩
      rw [then_step, says_ret, ep]
      exact hφ
    rw [if_neg c2] at hφ
    rw [then_step, th_ite, if_neg (by simpa [go_sem] using c2)]
    by_cases c19 : x.k = 19
    · rw [if_pos c19] at hφ
      rw [then_step, th_ite, if_pos (by simpa [go_sem] using c19)]
      rw [then_step, th_call, if_pos (by rfl), s_ctTGreat]
      refine ⟨x.x, rfl, ?_⟩
      refine ⟨fun h => (by cases h), (exI_iff _ _).2 ⟨⟨[], [lettersB gtB x.x], [], [], [], []⟩, rfl, ones_nil, rfl, ?_⟩⟩
      rw [then_step, says_ret, ep]
      exact hφ
    rw [if_neg c19] at hφ
    rw [then_step, th_ite, if_neg (by simpa [go_sem] using c19)]
    by_cases c3 : x.k = 3
    · rw [if_pos c3] at hφ
      rw [then_step, th_ite, if_pos (by simpa [go_sem] using c3)]
      rw [then_step, th_call, if_pos (by rfl), s_ctTName]
      refine ⟨x.x, rfl, ?_⟩
      refine ⟨fun h => (by cases h), (exI_iff _ _).2 ⟨⟨[], [lettersB nmB x.x], [], [], [], []⟩, rfl, ones_nil, rfl, ?_⟩⟩
      rw [then_step, says_ret, ep]
      exact hφ
    rw [if_neg c3] at hφ
    rw [then_step, th_ite, if_neg (by simpa [go_sem] using c3)]
    by_cases c5 : x.k = 5
    · rw [if_pos c5] at hφ
      rw [then_step, th_ite, if_pos (by simpa [go_sem] using c5)]
      rw [then_step, th_call, if_pos (by rfl), s_ctTName]
      refine ⟨x.x, rfl, ?_⟩
      refine ⟨fun h => (by cases h), (exI_iff _ _).2 ⟨⟨[], [lettersB nmB x.x], [], [], [], []⟩, rfl, ones_nil, rfl, ?_⟩⟩
      rw [then_step, says_ret, ep]
      exact hφ
    rw [if_neg c5] at hφ
    rw [then_step, th_ite, if_neg (by simpa [go_sem] using c5)]
    by_cases c7 : x.k = 7
    · rw [if_pos c7] at hφ
      rw [then_step, th_ite, if_pos (by simpa [go_sem] using c7)]
      rw [then_step, th_call, if_pos (by rfl), s_ctTName]
      refine ⟨x.x, rfl, ?_⟩
      refine ⟨fun h => (by cases h), (exI_iff _ _).2 ⟨⟨[], [lettersB nmB x.x], [], [], [], []⟩, rfl, ones_nil, rfl, ?_⟩⟩
      rw [then_step, says_ret, ep]
      exact hφ
    rw [if_neg c7] at hφ
    rw [then_step, th_ite, if_neg (by simpa [go_sem] using c7)]
    by_cases c26 : x.k = 26
    · rw [if_pos c26] at hφ
      rw [then_step, th_ite, if_pos (by simpa [go_sem] using c26)]
      rw [then_step, th_call, if_pos (by rfl), s_ctTName]
      refine ⟨x.x, rfl, ?_⟩
      refine ⟨fun h => (by cases h), (exI_iff _ _).2 ⟨⟨[], [lettersB nmB x.x], [], [], [], []⟩, rfl, ones_nil, rfl, ?_⟩⟩
      rw [then_step, says_ret, ep]
      exact hφ
    rw [if_neg c26] at hφ
    rw [then_step, th_ite, if_neg (by simpa [go_sem] using c26)]
    by_cases c27 : x.k = 27
    · rw [if_pos c27] at hφ
      rw [then_step, th_ite, if_pos (by simpa [go_sem] using c27)]
      rw [then_step, th_call, if_pos (by rfl), s_ctTName]
      refine ⟨x.x, rfl, ?_⟩
      refine ⟨fun h => (by cases h), (exI_iff _ _).2 ⟨⟨[], [lettersB nmB x.x], [], [], [], []⟩, rfl, ones_nil, rfl, ?_⟩⟩
      rw [then_step, says_ret, ep]
      exact hφ
    rw [if_neg c27] at hφ
    rw [then_step, th_ite, if_neg (by simpa [go_sem] using c27)]
    by_cases c29 : x.k = 29
    · rw [if_pos c29] at hφ
      rw [then_step, th_ite, if_pos (by simpa [go_sem] using c29)]
      rw [then_step, th_call, if_pos (by rfl), s_ctTName]
      refine ⟨x.x, rfl, ?_⟩
      refine ⟨fun h => (by cases h), (exI_iff _ _).2 ⟨⟨[], [lettersB nmB x.x], [], [], [], []⟩, rfl, ones_nil, rfl, ?_⟩⟩
      rw [then_step, says_ret, ep]
      exact hφ
    rw [if_neg c29] at hφ
    rw [then_step, th_ite, if_neg (by simpa [go_sem] using c29)]
    by_cases c4 : x.k = 4
    · rw [if_pos c4] at hφ
      rw [then_step, th_ite, if_pos (by simpa [go_sem] using c4)]
      rw [then_step, th_call, if_pos (by rfl), s_ctTName]
      refine ⟨x.x, rfl, ?_⟩
      refine ⟨fun h => (by cases h), (exI_iff _ _).2 ⟨⟨[], [lettersB nmB x.x], [], [], [], []⟩, rfl, ones_nil, rfl, ?_⟩⟩
      rw [then_step, says_ret, ep]
      exact hφ
    rw [if_neg c4] at hφ
    rw [then_step, th_ite, if_neg (by simpa [go_sem] using c4)]
    by_cases c21 : x.k = 21
    · rw [if_pos c21] at hφ
      rw [then_step, th_ite, if_pos (by simpa [go_sem] using c21)]
      rw [then_step, says_ret, ep]
      exact hφ
    rw [if_neg c21] at hφ
    rw [then_step, th_ite, if_neg (by simpa [go_sem] using c21)]
    by_cases c22 : x.k = 22
    · rw [if_pos c22] at hφ
      rw [then_step, th_ite, if_pos (by simpa [go_sem] using c22)]
      rw [then_step, says_ret, ep]
      exact hφ
    rw [if_neg c22] at hφ
    rw [then_step, th_ite, if_neg (by simpa [go_sem] using c22)]
    by_cases c23 : x.k = 23
    · rw [if_pos c23] at hφ
      rw [then_step, th_ite, if_pos (by simpa [go_sem] using c23)]
      rw [then_step, says_ret, ep]
      exact hφ
    rw [if_neg c23] at hφ
    rw [then_step, th_ite, if_neg (by simpa [go_sem] using c23)]
    by_cases c24 : x.k = 24
    · rw [if_pos c24] at hφ
      rw [then_step, th_ite, if_pos (by simpa [go_sem] using c24)]
      rw [then_step, says_ret, ep]
      exact hφ
    rw [if_neg c24] at hφ
    rw [then_step, th_ite, if_neg (by simpa [go_sem] using c24)]
    by_cases c30 : x.k = 30
    · rw [if_pos c30] at hφ
      rw [then_step, th_ite, if_pos (by simpa [go_sem] using c30)]
      rw [then_step, says_ret, ep]
      exact hφ
    rw [if_neg c30] at hφ
    rw [then_step, th_ite, if_neg (by simpa [go_sem] using c30)]
    by_cases c31 : x.k = 31
    · rw [if_pos c31] at hφ
      rw [then_step, th_ite, if_pos (by simpa [go_sem] using c31)]
      rw [then_step, says_ret, ep]
      exact hφ
    rw [if_neg c31] at hφ
    rw [then_step, th_ite, if_neg (by simpa [go_sem] using c31)]
    rw [then_step, says_ret, ep]
    exact hφ
def ctExprn : Ct Tryz.prog where
  f := 92
  spec := fun args h φ => ∃ x, args = [Ng.v x] ∧ φ (.bool (btw 21 32 x)) h
  ok := by
    rintro args h φ w ⟨x, rfl, hφ⟩ hH
    refine ct_forget (by_fm Tryz.func92 gen_exprn ps_exprn [ctBtw, ctBtw1] (fun v k => ∃ k', HLe k' k ∧ φ v k') noInv noMeas ⟨[x.k, x.l, x.c, x.z, x.n], [], [x.x], [], [], [], h, noM⟩ ⟨rfl, rfl, rfl, rfl, rfl, rfl⟩ ones_nil ?_ w hH rfl)
    have hs : specL [ctBtw, ctBtw1] 133 = ctBtw1.spec := rfl
    generalize hE : (⟨specOf _, _, _, _⟩ : Env) = E
    have s1 : E.spec 90 = ctBtw.spec := by rw [← hE]; rfl
    have s2 : E.spec 1000001 = specOf [ctBtw, ctBtw1] dynId := by rw [← hE]; rfl
    have ep : E.post = (fun v k => ∃ k', HLe k' k ∧ φ v k') := by rw [← hE]
    clear hE
    unfold fm_exprn
    rw [th_call, if_pos (by rfl), s1]
    refine ⟨21, 32, rfl, fun p q k hk h1 h2 => ?_⟩
    refine ⟨fun h => (by cases h), (exI_iff _ _).2 ⟨⟨[], [], [], [.func (.func 133) #[] #[.pointer (some ⟨p, 0, none⟩), .pointer (some ⟨q, 0, none⟩)]], [], []⟩, rfl, by intro u hu; simp at hu; subst hu; rfl, rfl, ?_⟩⟩
    rw [then_step, th_call, if_pos (by rfl), s2]
    refine btw_spec (x := x) hs h1 h2 ?_
    refine ⟨fun h => (by cases h), (exI_iff _ _).2 ⟨⟨[], [btw 21 32 x], [], [], [], []⟩, rfl, ones_nil, rfl, ?_⟩⟩
    rw [then_step, says_ret, ep]
    exact ⟨h, hk, hφ⟩
/-- The functions that tell what a node may be. -/
def wants : List (Ct Tryz.prog) := [ctSomeT, ctExprn, ctTblock, ctBtw1, ctOf1]
theorem want_someT (h : Hp) : Want wants h (.func (.func 88) #[] #[]) (btw 15 20) :=
  ⟨_, [], rfl, by kernel_rfl, by decide, fun x k φ _ hφ => ⟨x, rfl, hφ⟩⟩
theorem want_exprn (h : Hp) : Want wants h (.func (.func 92) #[] #[]) (btw 21 32) :=
  ⟨_, [], rfl, by kernel_rfl, by decide, fun x k φ _ hφ => ⟨x, rfl, hφ⟩⟩
theorem want_block (h : Hp) : Want wants h (.func (.func 132) #[] #[]) (fun x => decide (x.k = 6)) :=
  ⟨_, [], rfl, by kernel_rfl, by decide, fun x k φ _ hφ => ⟨x, rfl, hφ⟩⟩
theorem want_btw {h : Hp} {p q : Nat} {a b : Int} {T U : TypeId} (h1 : h p = some ⟨[.int .u8 a], T⟩) (h2 : h q = some ⟨[.int .u8 b], U⟩) :
    Want wants h (.func (.func 133) #[] #[.pointer (some ⟨p, 0, none⟩), .pointer (some ⟨q, 0, none⟩)]) (btw a b) :=
  ⟨_, [.pointer (some ⟨p, 0, none⟩), .pointer (some ⟨q, 0, none⟩)], rfl, by kernel_rfl, by decide, fun x k φ hk hφ => ⟨x, p, q, a, b, _, _, rfl, hk _ _ h1, hk _ _ h2, hφ⟩⟩
theorem want_of {h : Hp} {p : Nat} {sl : Slc} {l : List Int} {T : TypeId} (h1 : h p = some ⟨[Slc.val sl], T⟩) (R : Rows h sl (kcs l) 1) (hl : l.length ≤ 1000) :
    Want wants h (.func (.func 86) #[] #[.pointer (some ⟨p, 0, none⟩)]) (fun x => l.contains x.k) :=
  ⟨_, [.pointer (some ⟨p, 0, none⟩)], rfl, by kernel_rfl, by decide, fun x k φ hk hφ => ⟨x, p, sl, l, _, rfl, hk _ _ h1, R.le hk, hl, hφ⟩⟩
theorem Want.one {cs : List (Ct Tryz.prog)} {h : Hp} {v : Value} {p : Ng → Bool} (W : Want cs h v p) : v.cells = #[v] ∧ v ≠ undef := by
  obtain ⟨f, cap, rfl, _⟩ := W
  exact ⟨rfl, by intro h; cases h⟩
theorem Want.ones {cs : List (Ct Tryz.prog)} {h : Hp} {v : Value} {p : Ng → Bool} (W : Want cs h v p) : Ones [v] := by
  obtain ⟨f, cap, rfl, _⟩ := W
  intro u hu; simp at hu; subst hu; rfl
/-- A node, and its children. -/
def lkv (x : Ng) (sl : Slc) : Value := .agg #[.int .u8 x.k, .int .i64 x.l, .int .i64 x.c, .int .i64 x.z, .int .i64 x.n, .string (B x.x), sl.val]
set_option maxHeartbeats 4000000 in
def ctLAll : Ct Tryz.prog where
  f := 51
  spec := fun args h φ => ∃ x sl l v p, args = [lkv x sl, v] ∧ NG h sl l ∧ l.length ≤ 1000000 ∧ Want wants h v p ∧ φ (.bool (l.all p)) h
  ok := by
    rintro args h φ w ⟨x, sl, l, v, p, rfl, R, hl, W, hφ⟩ hH
    have hn := NG.n R
    refine by_fm Tryz.func51 gen_lall ps_lall wants φ (fun _ C => ∃ j : Nat, C = ⟨[x.k, x.l, x.c, x.z, x.n, j], [false], [x.x], [v], [sl], [], h, noM⟩ ∧ j ≤ l.length ∧ l.all p = (l.drop j).all p) (fun _ C => ((l.length : Int) - C.i.getD 5 0).toNat)
      ⟨[x.k, x.l, x.c, x.z, x.n], [], [x.x], [v], [sl], [], h, noM⟩ ⟨rfl, rfl, rfl, rfl, rfl, rfl⟩ W.ones ?_ w hH rfl
    generalize hE : (⟨specOf _, _, _, _⟩ : Env) = E
    have s2 : E.spec 1000001 = specOf wants dynId := by rw [← hE]; rfl
    have ep : E.post = φ := by rw [← hE]
    have ei : E.inv = (fun _ C => ∃ j : Nat, C = ⟨[x.k, x.l, x.c, x.z, x.n, j], [false], [x.x], [v], [sl], [], h, noM⟩ ∧ j ≤ l.length ∧ l.all p = (l.drop j).all p) := by rw [← hE]
    have em : E.meas = (fun _ C => ((l.length : Int) - C.i.getD 5 0).toNat) := by rw [← hE]
    clear hE
    unfold fm_lall
    refine loop_intro ?_ ?_
    · rw [ei]
      exact ⟨0, rfl, by omega, rfl⟩
    rw [ei, em]
    rintro i bb ss vv ll pp hh M ⟨j, hC, h3, h4⟩ hM
    cases hC
    have hM' : M 0 = ((l.length : Int) - j).toNat := hM
    rw [h4] at hφ
    by_cases hj : j < l.length
    · obtain ⟨b, o, ha⟩ := Rows.nn R (j := j) (by omega)
      have hrd := NG.node R hj ha
      have hz : (j : Int) < sl.n := by omega
      rw [List.drop_eq_getElem_cons hj, List.all_cons] at h4 hφ
      generalize l[j] = y at *
      rw [th_ite, if_pos (by simpa [go_sem] using hz), then_step, th_need]
      refine ⟨by simp [go_sem, hz, ha], ?_⟩
      rw [then_step, th_load, if_pos (by rfl)]
      refine (exI_iff _ _).2 ⟨⟨[y.k, y.l, y.c, y.z, y.n], [], [y.x], [], [], []⟩, rfl, ones_nil, by simpa [go_sem, ha, Ng.cs] using hrd, ?_⟩
      rw [then_step, th_call, if_pos (by rfl), s2]
      refine W.call (x := y) (fun b o h => h) ?_
      refine ⟨fun h => (by cases h), (exI_iff _ _).2 ⟨⟨[], [p y], [], [], [], []⟩, rfl, ones_nil, rfl, ?_⟩⟩
      cases hy : p y with
      | false =>
        rw [hy] at hφ
        rw [then_step, th_ite, if_pos (by simp [go_sem]), then_step, says_ret, ep]
        simpa [go_sem] using hφ
      | true =>
        rw [hy] at hφ h4
        rw [then_step, th_ite, if_neg (by simp [go_sem]), then_step, th_need]
        refine ⟨by simp [go_sem]; omega, ?_⟩
        rw [then_step]
        simp [go_sem, ei, em]
        exact ⟨⟨j + 1, by simp, by omega, by simpa using h4⟩, by omega⟩
    · have hz : ¬ ((j : Int) < sl.n) := by omega
      rw [List.drop_eq_nil_of_le (by omega)] at hφ
      rw [th_ite, if_neg (by simpa [go_sem] using hz), then_step, says_ret, ep]
      simpa [go_sem] using hφ
/-- Are the nodes just these, one behind the other? -/
def rowB : List (Ng → Bool) → List Ng → Bool
  | [], [] => true
  | p :: ps, x :: l => p x && rowB ps l
  | _, _ => false
theorem rowB_len : ∀ {ps : List (Ng → Bool)} {l : List Ng}, ps.length ≠ l.length → rowB ps l = false
  | [], [], h => absurd rfl h
  | [], _ :: _, _ => rfl
  | _ :: _, [], _ => rfl
  | p :: ps, x :: l, h => by rw [rowB, rowB_len (fun e => h (by simp [e])), Bool.and_false]
/-- A row of functions that tell what nodes may be. -/
def Wants (h : Hp) (sl : Slc) (ps : List (Ng → Bool)) : Prop := ∃ vs, Rows h sl vs 1 ∧ vs.length = ps.length ∧ ∀ (i : Nat) v p, vs[i]? = some v → ps[i]? = some p → Want wants h v p
theorem Wants.n {h : Hp} {sl : Slc} {ps : List (Ng → Bool)} (W : Wants h sl ps) : sl.n = ps.length := by
  obtain ⟨vs, R, hl, _⟩ := W
  have := R.1
  omega
theorem wants_nil (h : Hp) : Wants h ⟨none, 0, 0⟩ [] := ⟨[], ⟨rfl, .inl rfl⟩, rfl, fun i v p h => by simp at h⟩
/-- Such a row that was just written. -/
theorem wants_mk {h : Hp} {b n c : Nat} {vs : List Value} {ps : List (Ng → Bool)} {T : TypeId} (hb : h b = some ⟨vs, T⟩) (hn : vs.length = n) (hl : vs.length = ps.length) (H : ∀ (i : Nat) v p, vs[i]? = some v → ps[i]? = some p → Want wants h v p) : Wants h ⟨some (b, 0), n, c⟩ ps :=
  ⟨vs, ⟨by simp [hn], .inr (by rw [hread_of hb, if_pos (by simp [hn])]; simp [← hn])⟩, hl, H⟩
set_option maxHeartbeats 4000000 in
def ctLRow : Ct Tryz.prog where
  f := 87
  spec := fun args h φ => ∃ x sl l ws ps, args = [lkv x sl, Slc.val ws] ∧ NG h sl l ∧ l.length ≤ 1000000 ∧ Wants h ws ps ∧ φ (.bool (rowB ps l)) h
  ok := by
    rintro args h φ w ⟨x, sl, l, ws, ps, rfl, R, hl, W, hφ⟩ hH
    have hn := NG.n R
    have hm := W.n
    obtain ⟨vs, Rv, hvl, hW⟩ := W
    refine by_fm Tryz.func87 gen_lrow ps_lrow wants φ (fun _ C => ∃ j : Nat, C = ⟨[x.k, x.l, x.c, x.z, x.n, j], [false], [x.x], [], [sl, ws], [], h, noM⟩ ∧ j ≤ l.length ∧ rowB ps l = rowB (ps.drop j) (l.drop j)) (fun _ C => ((l.length : Int) - C.i.getD 5 0).toNat)
      ⟨[x.k, x.l, x.c, x.z, x.n], [], [x.x], [], [sl, ws], [], h, noM⟩ ⟨rfl, rfl, rfl, rfl, rfl, rfl⟩ ones_nil ?_ w hH rfl
    generalize hE : (⟨specOf _, _, _, _⟩ : Env) = E
    have s2 : E.spec 1000001 = specOf wants dynId := by rw [← hE]; rfl
    have ep : E.post = φ := by rw [← hE]
    have ei : E.inv = (fun _ C => ∃ j : Nat, C = ⟨[x.k, x.l, x.c, x.z, x.n, j], [false], [x.x], [], [sl, ws], [], h, noM⟩ ∧ j ≤ l.length ∧ rowB ps l = rowB (ps.drop j) (l.drop j)) := by rw [← hE]
    have em : E.meas = (fun _ C => ((l.length : Int) - C.i.getD 5 0).toNat) := by rw [← hE]
    clear hE
    unfold fm_lrow
    by_cases hlen : l.length = ps.length
    rotate_left
    · rw [th_ite, if_pos (by simp [go_sem]; omega), then_step, says_ret, ep]
      rw [rowB_len (fun e => hlen e.symm)] at hφ
      simpa [go_sem] using hφ
    rw [th_ite, if_neg (by simp [go_sem]; omega), then_step]
    refine loop_intro ?_ ?_
    · rw [ei]
      exact ⟨0, rfl, by omega, rfl⟩
    rw [ei, em]
    rintro i bb ss vv ll pp hh M ⟨j, hC, h3, h4⟩ hM
    cases hC
    have hM' : M 0 = ((l.length : Int) - j).toNat := hM
    rw [h4] at hφ
    by_cases hj : j < l.length
    · obtain ⟨b, o, ha⟩ := Rows.nn R (j := j) (by omega)
      obtain ⟨b2, o2, ha2⟩ := Rows.nn Rv (j := j) (by omega)
      have hrd := NG.node R hj ha
      have hrd2 := Rows.read (off := 0) (m := 1) Rv (j := j) (by omega) (by omega) ha2
      rw [Nat.mul_one, Nat.add_zero, Nat.add_zero, List.drop_eq_getElem_cons (by omega)] at hrd2
      have hWj := hW j vs[j] ps[j] (List.getElem?_eq_getElem (by omega)) (List.getElem?_eq_getElem (by omega))
      have hz : (j : Int) < sl.n := by omega
      have hz2 : (j : Int) < ws.n := by omega
      rw [List.drop_eq_getElem_cons hj, List.drop_eq_getElem_cons (by omega : j < ps.length), rowB] at h4 hφ
      generalize l[j] = y at *
      generalize ps[j] = p at *
      generalize vs[j] = v at *
      rw [th_ite, if_pos (by simpa [go_sem] using hz2), then_step, th_need]
      refine ⟨by simp [go_sem, hz2, ha2], ?_⟩
      rw [then_step, th_load, if_pos (by rfl)]
      refine (exI_iff _ _).2 ⟨⟨[], [], [], [v], [], []⟩, rfl, hWj.ones, by simpa [go_sem, ha2] using hrd2, ?_⟩
      rw [then_step, th_need]
      refine ⟨by simp [go_sem, hz, ha], ?_⟩
      rw [then_step, th_load, if_pos (by rfl)]
      refine (exI_iff _ _).2 ⟨⟨[y.k, y.l, y.c, y.z, y.n], [], [y.x], [], [], []⟩, rfl, ones_nil, by simpa [go_sem, ha, Ng.cs] using hrd, ?_⟩
      rw [then_step, th_call, if_pos (by rfl), s2]
      refine hWj.call (x := y) (fun b o h => h) ?_
      refine ⟨fun h => (by cases h), (exI_iff _ _).2 ⟨⟨[], [p y], [], [], [], []⟩, rfl, ones_nil, rfl, ?_⟩⟩
      cases hy : p y with
      | false =>
        rw [hy] at hφ
        rw [then_step, th_ite, if_pos (by simp [go_sem]), then_step, says_ret, ep]
        simpa [go_sem] using hφ
      | true =>
        rw [hy] at hφ h4
        rw [then_step, th_ite, if_neg (by simp [go_sem]), then_step, th_need]
        refine ⟨by simp [go_sem]; omega, ?_⟩
        rw [then_step]
        simp [go_sem, ei, em]
        exact ⟨⟨j + 1, by simp, by omega, by simpa using h4⟩, by omega⟩
    · have hz : ¬ ((j : Int) < ws.n) := by omega
      rw [List.drop_eq_nil_of_le (by omega), List.drop_eq_nil_of_le (by omega)] at hφ
      rw [th_ite, if_neg (by simpa [go_sem] using hz), then_step, says_ret, ep]
      simpa [go_sem, rowB] using hφ
def fm_lstat : Fm := (.ite (.eqI (.x 0) (.c 7))
  (.mk [(.c (.fn 88)), (.c (.fn 92))] 81 2
  (.call (.c true) false 87 [(.agg [(.i .u8 (.x 0)), (.i .i64 (.x 1)), (.i .i64 (.x 2)), (.i .i64 (.x 3)), (.i .i64 (.x 4)), (.s (.x 0)), (.sl (.x 0))]), (.one (.sl (.x 1)))] (.p (.one (.b (.x 0)))) ⟨0, 1, 0, 0, 0, 0⟩
  (.ret (.p (.one (.b (.x 0)))))))
  (.ite (.eqI (.x 0) (.c 8))
  (.mk [(.i .u8 (.c 26)), (.i .u8 (.c 28)), (.i .u8 (.c 29))] 5 3
  (.call (.c true) false 52 [(.one (.sl (.x 1)))] (.p (.one (.v 0))) ⟨0, 0, 0, 1, 0, 0⟩
  (.mk [(.v 0), (.c (.fn 92))] 81 2
  (.call (.c true) false 87 [(.agg [(.i .u8 (.x 0)), (.i .i64 (.x 1)), (.i .i64 (.x 2)), (.i .i64 (.x 3)), (.i .i64 (.x 4)), (.s (.x 0)), (.sl (.x 0))]), (.one (.sl (.x 2)))] (.p (.one (.b (.x 0)))) ⟨0, 1, 0, 0, 0, 0⟩
  (.ret (.p (.one (.b (.x 0)))))))))
  (.ite (.eqI (.x 0) (.c 9))
  (.mk [(.c (.fn 92)), (.c (.fn 132))] 81 2
  (.call (.c true) false 87 [(.agg [(.i .u8 (.x 0)), (.i .i64 (.x 1)), (.i .i64 (.x 2)), (.i .i64 (.x 3)), (.i .i64 (.x 4)), (.s (.x 0)), (.sl (.x 0))]), (.one (.sl (.x 1)))] (.p (.one (.b (.x 0)))) ⟨0, 1, 0, 0, 0, 0⟩
  (.ite (.x 0)
  (.ret (.p (.one (.b (.c true)))))
  (.mk [(.c (.fn 92)), (.c (.fn 132)), (.c (.fn 132))] 81 3
  (.call (.c true) false 87 [(.agg [(.i .u8 (.x 0)), (.i .i64 (.x 1)), (.i .i64 (.x 2)), (.i .i64 (.x 3)), (.i .i64 (.x 4)), (.s (.x 0)), (.sl (.x 0))]), (.one (.sl (.x 2)))] (.p (.one (.b (.x 1)))) ⟨0, 1, 0, 0, 0, 0⟩
  (.ret (.p (.one (.b (.x 1))))))))))
  (.ite (.eqI (.x 0) (.c 10))
  (.mk [(.c (.fn 92)), (.c (.fn 132))] 81 2
  (.call (.c true) false 87 [(.agg [(.i .u8 (.x 0)), (.i .i64 (.x 1)), (.i .i64 (.x 2)), (.i .i64 (.x 3)), (.i .i64 (.x 4)), (.s (.x 0)), (.sl (.x 0))]), (.one (.sl (.x 1)))] (.p (.one (.b (.x 0)))) ⟨0, 1, 0, 0, 0, 0⟩
  (.ret (.p (.one (.b (.x 0)))))))
  (.ite (.eqI (.x 0) (.c 11))
  (.call (.c true) false 87 [(.agg [(.i .u8 (.x 0)), (.i .i64 (.x 1)), (.i .i64 (.x 2)), (.i .i64 (.x 3)), (.i .i64 (.x 4)), (.s (.x 0)), (.sl (.x 0))]), (.one (.sl .nil))] (.p (.one (.b (.x 0)))) ⟨0, 1, 0, 0, 0, 0⟩
  (.ite (.x 0)
  (.ret (.p (.one (.b (.c true)))))
  (.mk [(.c (.fn 92))] 81 1
  (.call (.c true) false 87 [(.agg [(.i .u8 (.x 0)), (.i .i64 (.x 1)), (.i .i64 (.x 2)), (.i .i64 (.x 3)), (.i .i64 (.x 4)), (.s (.x 0)), (.sl (.x 0))]), (.one (.sl (.x 1)))] (.p (.one (.b (.x 1)))) ⟨0, 1, 0, 0, 0, 0⟩
  (.ret (.p (.one (.b (.x 1)))))))))
  (.ite (.eqI (.x 0) (.c 12))
  (.mk [(.c (.fn 92))] 81 1
  (.call (.c true) false 87 [(.agg [(.i .u8 (.x 0)), (.i .i64 (.x 1)), (.i .i64 (.x 2)), (.i .i64 (.x 3)), (.i .i64 (.x 4)), (.s (.x 0)), (.sl (.x 0))]), (.one (.sl (.x 1)))] (.p (.one (.b (.x 0)))) ⟨0, 1, 0, 0, 0, 0⟩
  (.ret (.p (.one (.b (.x 0)))))))
  (.mk [(.i .u8 (.c 27))] 5 1
  (.call (.c true) false 52 [(.one (.sl (.x 1)))] (.p (.one (.v 0))) ⟨0, 0, 0, 1, 0, 0⟩
  (.mk [(.v 0)] 81 1
  (.call (.c true) false 87 [(.agg [(.i .u8 (.x 0)), (.i .i64 (.x 1)), (.i .i64 (.x 2)), (.i .i64 (.x 3)), (.i .i64 (.x 4)), (.s (.x 0)), (.sl (.x 0))]), (.one (.sl (.x 2)))] (.p (.one (.b (.x 0)))) ⟨0, 1, 0, 0, 0, 0⟩
  (.ret (.p (.one (.b (.x 0)))))))))))))))
theorem gen_lstat : genFn ⟨true, []⟩ Tryz.prog (fun l => ([] : List LAnn).getD l ⟨[], [], []⟩) Tryz.f91 = fm_lstat := by kernel_rfl
theorem ps_lstat : freshPs Tryz.prog .zero Tryz.f91.params.toList = some ([(.agg [(.i .u8 (.x 0)), (.i .i64 (.x 1)), (.i .i64 (.x 2)), (.i .i64 (.x 3)), (.i .i64 (.x 4)), (.s (.x 0)), (.sl (.x 0))])], ⟨5, 0, 1, 0, 1, 0⟩) := by kernel_rfl
def fm_lfun : Fm := (.need (.not (.lt (.cnt (.x 0)) (.c 2))) (.and (.le (.c (-9223372036854775808)) (.sub (.cnt (.x 0)) (.c 2))) (.le (.sub (.cnt (.x 0)) (.c 2)) (.c 9223372036854775807)))
  (.need (.not (.or (.lt (.cnt (.x 0)) (.c 2)) (.not (.eqI (.sub (.cnt (.x 0)) (.c 2)) (.x 4))))) (.and (.le (.c (-9223372036854775808)) (.sub (.cnt (.x 0)) (.c 1))) (.le (.sub (.cnt (.x 0)) (.c 1)) (.c 9223372036854775807)))
  (.need (.not (.or (.lt (.cnt (.x 0)) (.c 2)) (.not (.eqI (.sub (.cnt (.x 0)) (.c 2)) (.x 4))))) (.and (.and (.le (.c 0) (.sub (.cnt (.x 0)) (.c 1))) (.lt (.sub (.cnt (.x 0)) (.c 1)) (.cnt (.x 0)))) (.nns (.x 0)))
  (.load (.not (.or (.lt (.cnt (.x 0)) (.c 2)) (.not (.eqI (.sub (.cnt (.x 0)) (.c 2)) (.x 4))))) (.el (.x 0) (.sub (.cnt (.x 0)) (.c 1)) 6 0) 6 [(.i .u8 (.x 5)), (.i .i64 (.x 6)), (.i .i64 (.x 7)), (.i .i64 (.x 8)), (.i .i64 (.x 9)), (.s (.x 1))] ⟨5, 0, 1, 0, 0, 0⟩
  (.call (.not (.or (.lt (.cnt (.x 0)) (.c 2)) (.not (.eqI (.sub (.cnt (.x 0)) (.c 2)) (.x 4))))) false 132 [(.agg [(.i .u8 (.x 5)), (.i .i64 (.x 6)), (.i .i64 (.x 7)), (.i .i64 (.x 8)), (.i .i64 (.x 9)), (.s (.x 1))])] (.p (.one (.b (.x 0)))) ⟨0, 1, 0, 0, 0, 0⟩
  (.need (.not (.or (.or (.lt (.cnt (.x 0)) (.c 2)) (.not (.eqI (.sub (.cnt (.x 0)) (.c 2)) (.x 4)))) (.not (.x 0)))) (.and (.le (.c (-9223372036854775808)) (.sub (.cnt (.x 0)) (.c 2))) (.le (.sub (.cnt (.x 0)) (.c 2)) (.c 9223372036854775807)))
  (.need (.not (.or (.or (.lt (.cnt (.x 0)) (.c 2)) (.not (.eqI (.sub (.cnt (.x 0)) (.c 2)) (.x 4)))) (.not (.x 0)))) (.and (.and (.le (.c 0) (.sub (.cnt (.x 0)) (.c 2))) (.lt (.sub (.cnt (.x 0)) (.c 2)) (.cnt (.x 0)))) (.nns (.x 0)))
  (.need (.not (.or (.or (.lt (.cnt (.x 0)) (.c 2)) (.not (.eqI (.sub (.cnt (.x 0)) (.c 2)) (.x 4)))) (.not (.x 0)))) (.nns (.x 0))
  (.load (.not (.or (.or (.lt (.cnt (.x 0)) (.c 2)) (.not (.eqI (.sub (.cnt (.x 0)) (.c 2)) (.x 4)))) (.not (.x 0)))) (.el (.x 0) (.sub (.cnt (.x 0)) (.c 2)) 6 0) 1 [(.i .u8 (.x 10))] ⟨1, 0, 0, 0, 0, 0⟩
  (.need (.and (.not (.or (.or (.lt (.cnt (.x 0)) (.c 2)) (.not (.eqI (.sub (.cnt (.x 0)) (.c 2)) (.x 4)))) (.not (.x 0)))) (.not (.eqI (.x 10) (.c 14)))) (.and (.le (.c (-9223372036854775808)) (.sub (.cnt (.x 0)) (.c 2))) (.le (.sub (.cnt (.x 0)) (.c 2)) (.c 9223372036854775807)))
  (.need (.and (.not (.or (.or (.lt (.cnt (.x 0)) (.c 2)) (.not (.eqI (.sub (.cnt (.x 0)) (.c 2)) (.x 4)))) (.not (.x 0)))) (.not (.eqI (.x 10) (.c 14)))) (.and (.and (.le (.c 0) (.sub (.cnt (.x 0)) (.c 2))) (.lt (.sub (.cnt (.x 0)) (.c 2)) (.cnt (.x 0)))) (.nns (.x 0)))
  (.load (.and (.not (.or (.or (.lt (.cnt (.x 0)) (.c 2)) (.not (.eqI (.sub (.cnt (.x 0)) (.c 2)) (.x 4)))) (.not (.x 0)))) (.not (.eqI (.x 10) (.c 14)))) (.el (.x 0) (.sub (.cnt (.x 0)) (.c 2)) 6 0) 6 [(.i .u8 (.x 11)), (.i .i64 (.x 12)), (.i .i64 (.x 13)), (.i .i64 (.x 14)), (.i .i64 (.x 15)), (.s (.x 2))] ⟨5, 0, 1, 0, 0, 0⟩
  (.call (.and (.not (.or (.or (.lt (.cnt (.x 0)) (.c 2)) (.not (.eqI (.sub (.cnt (.x 0)) (.c 2)) (.x 4)))) (.not (.x 0)))) (.not (.eqI (.x 10) (.c 14)))) false 88 [(.agg [(.i .u8 (.x 11)), (.i .i64 (.x 12)), (.i .i64 (.x 13)), (.i .i64 (.x 14)), (.i .i64 (.x 15)), (.s (.x 2))])] (.p (.one (.b (.x 1)))) ⟨0, 1, 0, 0, 0, 0⟩
  (.ite (.or (.or (.or (.lt (.cnt (.x 0)) (.c 2)) (.not (.eqI (.sub (.cnt (.x 0)) (.c 2)) (.x 4)))) (.not (.x 0))) (.and (.not (.eqI (.x 10) (.c 14))) (.not (.x 1))))
  (.ret (.p (.one (.b (.c false)))))
  (.need (.c true) (.and (.le (.c (-9223372036854775808)) (.sub (.cnt (.x 0)) (.c 2))) (.le (.sub (.cnt (.x 0)) (.c 2)) (.c 9223372036854775807)))
  (.need (.c true) (.and (.and (.le (.c 0) (.sub (.cnt (.x 0)) (.c 2))) (.le (.sub (.cnt (.x 0)) (.c 2)) (.cap (.x 0)))) (.and (.le (.c 0) (.c 0)) (.le (.c 0) (.sub (.cnt (.x 0)) (.c 2)))))
  (.mk [(.i .u8 (.c 5))] 5 1
  (.call (.c true) false 52 [(.one (.sl (.x 1)))] (.p (.one (.v 0))) ⟨0, 0, 0, 1, 0, 0⟩
  (.call (.c true) false 51 [(.agg [(.i .u8 (.x 0)), (.i .i64 (.x 1)), (.i .i64 (.x 2)), (.i .i64 (.x 3)), (.i .i64 (.x 4)), (.s (.x 0)), (.sl (.sub (.x 0) (.c 0) (.sub (.cnt (.x 0)) (.c 2)) 6))]), (.one (.v 0))] (.p (.one (.b (.x 2)))) ⟨0, 1, 0, 0, 0, 0⟩
  (.ret (.p (.one (.b (.x 2))))))))))))))))))))))))
theorem gen_lfun : genFn ⟨true, []⟩ Tryz.prog (fun l => ([] : List LAnn).getD l ⟨[], [], []⟩) Tryz.f89 = fm_lfun := by kernel_rfl
theorem ps_lfun : freshPs Tryz.prog .zero Tryz.f89.params.toList = some ([(.agg [(.i .u8 (.x 0)), (.i .i64 (.x 1)), (.i .i64 (.x 2)), (.i .i64 (.x 3)), (.i .i64 (.x 4)), (.s (.x 0)), (.sl (.x 0))])], ⟨5, 0, 1, 0, 1, 0⟩) := by kernel_rfl
abbrev wTy : Ng → Bool := btw 15 20
abbrev wE : Ng → Bool := btw 21 32
abbrev wB : Ng → Bool := fun x => decide (x.k = 6)
abbrev wO (l : List Int) : Ng → Bool := fun x => l.contains x.k
/-- May a statement's children be? -/
def stB (k : Int) (l : List Ng) : Bool :=
  if k = 7 then rowB [wTy, wE] l else if k = 8 then rowB [wO [26, 28, 29], wE] l else if k = 9 then rowB [wE, wB] l || rowB [wE, wB, wB] l
  else if k = 10 then rowB [wE, wB] l else if k = 11 then rowB [] l || rowB [wE] l else if k = 12 then rowB [wE] l else rowB [wO [27]] l
theorem hset {h : Hp} {b : Nat} (hb : h b = none) (o : HO) : HLe h (h.set b o) := fun c x hc => by rw [set_ne _ (fun e => by rw [e, hb] at hc; cases hc)]; exact hc
theorem HLe.trans {h k m : Hp} (a : HLe h k) (b : HLe k m) : HLe h m := fun c o hc => b c o (a c o hc)
theorem wants1 {h : Hp} {b c : Nat} {v : Value} {p : Ng → Bool} {T : TypeId} (hb : h b = some ⟨[v], T⟩) (W : Want wants h v p) : Wants h ⟨some (b, 0), 1, c⟩ [p] :=
  wants_mk hb rfl rfl fun i v' p' h1 h2 => by
    match i with
    | 0 => cases h1; cases h2; exact W
    | i + 1 => simp at h1
theorem wants2 {h : Hp} {b c : Nat} {v v2 : Value} {p p2 : Ng → Bool} {T : TypeId} (hb : h b = some ⟨[v, v2], T⟩) (W : Want wants h v p) (W2 : Want wants h v2 p2) : Wants h ⟨some (b, 0), 2, c⟩ [p, p2] :=
  wants_mk hb rfl rfl fun i v' p' h1 h2 => by
    match i with
    | 0 => cases h1; cases h2; exact W
    | 1 => cases h1; cases h2; exact W2
    | i + 2 => simp at h1
theorem wants3 {h : Hp} {b c : Nat} {v v2 v3 : Value} {p p2 p3 : Ng → Bool} {T : TypeId} (hb : h b = some ⟨[v, v2, v3], T⟩) (W : Want wants h v p) (W2 : Want wants h v2 p2) (W3 : Want wants h v3 p3) : Wants h ⟨some (b, 0), 3, c⟩ [p, p2, p3] :=
  wants_mk hb rfl rfl fun i v' p' h1 h2 => by
    match i with
    | 0 => cases h1; cases h2; exact W
    | 1 => cases h1; cases h2; exact W2
    | 2 => cases h1; cases h2; exact W3
    | i + 3 => simp at h1
/-- A row of kinds that was just written. -/
theorem kinds_mk {h : Hp} {b n c : Nat} {l : List Int} {T : TypeId} (hb : h b = some ⟨kcs l, T⟩) (hn : l.length = n) : Rows h ⟨some (b, 0), n, c⟩ (kcs l) 1 :=
  ⟨by simp [kcs_len, hn], .inr (by rw [hread_of hb, if_pos (by simp [kcs_len, hn])]; simp [← hn, ← kcs_len l])⟩
set_option maxHeartbeats 8000000 in
def ctLStat : Ct Tryz.prog where
  f := 91
  spec := fun args h φ => ∃ x sl l, args = [lkv x sl] ∧ NG h sl l ∧ l.length ≤ 1000000 ∧ φ (.bool (stB x.k l)) h
  ok := by
    rintro args h φ w ⟨x, sl, l, rfl, R, hl, hφ⟩ hH
    refine ct_forget (by_fm Tryz.func91 gen_lstat ps_lstat [ctLRow, ctTof] (fun v k => ∃ k', HLe k' k ∧ φ v k') (noInv) (noMeas) ⟨[x.k, x.l, x.c, x.z, x.n], [], [x.x], [], [sl], [], h, noM⟩ ⟨rfl, rfl, rfl, rfl, rfl, rfl⟩ ones_nil ?_ w hH rfl)
    generalize hE : (⟨specOf _, _, _, _⟩ : Env) = E
    have s_ctLRow : E.spec 87 = (ctLRow).spec := by rw [← hE]; rfl
    have s_ctTof : E.spec 52 = (ctTof).spec := by rw [← hE]; rfl
    have ep : E.post = (fun v k => ∃ k', HLe k' k ∧ φ v k') := by rw [← hE]
    clear hE
    unfold fm_lstat
    unfold stB at hφ
    -- a row is asked, and that's it
    have fin : ∀ (C : Ctx) (b : Bool) (e : BE), HLe h C.h → e.den C = b → φ (.bool b) h → Then E (.ret (.p (.one (.b e)))) C := by
      intro C b e hC he hb
      rw [then_step, says_ret, ep]
      refine ⟨h, hC, ?_⟩
      simpa [go_sem, he] using hb
    by_cases h7 : x.k = 7
    · rw [if_pos h7] at hφ
      rw [th_ite, if_pos (by simpa [go_sem] using h7), then_step, th_mk]
      intro b hb
      have hb' := hset hb
      rw [then_step, th_call, if_pos (by rfl), s_ctLRow]
      refine ⟨x, sl, l, _, _, rfl, R.le (hb' _), hl, wants2 (set_same _ _ _) (want_someT _) (want_exprn _), ?_⟩
      refine ⟨fun h => (by cases h), (exI_iff _ _).2 ⟨⟨[], [_], [], [], [], []⟩, rfl, ones_nil, rfl, ?_⟩⟩
      exact fin _ _ _ (hb' _) rfl hφ
    rw [if_neg h7] at hφ
    rw [th_ite, if_neg (by simpa [go_sem] using h7), then_step]
    by_cases h8 : x.k = 8
    · rw [if_pos h8] at hφ
      rw [th_ite, if_pos (by simpa [go_sem] using h8), then_step, th_mk]
      intro b hb
      have hb' := hset hb
      rw [then_step, th_call, if_pos (by rfl), s_ctTof]
      refine ⟨_, rfl, fun p k T hk hp => ?_⟩
      refine ⟨fun h => (by cases h), (exI_iff _ _).2 ⟨⟨[], [], [], [_], [], []⟩, rfl, by intro u hu; simp at hu; subst hu; rfl, rfl, ?_⟩⟩
      have hkk := HLe.trans (hb' _) hk
      have hro : Rows k ⟨some (b, 0), 3, 3⟩ (kcs [26, 28, 29]) 1 := kinds_mk (hk _ _ (set_same _ _ _)) rfl
      have hw := want_of hp hro (by decide)
      rw [then_step, th_mk]
      intro b2 hb2
      have hb2' := hset hb2
      rw [then_step, th_call, if_pos (by rfl), s_ctLRow]
      refine ⟨x, sl, l, _, _, rfl, R.le (HLe.trans hkk (hb2' _)), hl, wants2 (set_same _ _ _) (hw.le (hb2' _)) (want_exprn _), ?_⟩
      refine ⟨fun h => (by cases h), (exI_iff _ _).2 ⟨⟨[], [_], [], [], [], []⟩, rfl, ones_nil, rfl, ?_⟩⟩
      exact fin _ _ _ (HLe.trans hkk (hb2' _)) rfl hφ
    rw [if_neg h8] at hφ
    rw [th_ite, if_neg (by simpa [go_sem] using h8), then_step]
    by_cases h9 : x.k = 9
    · rw [if_pos h9] at hφ
      rw [th_ite, if_pos (by simpa [go_sem] using h9), then_step, th_mk]
      intro b hb
      have hb' := hset hb
      rw [then_step, th_call, if_pos (by rfl), s_ctLRow]
      refine ⟨x, sl, l, _, _, rfl, R.le (hb' _), hl, wants2 (set_same _ _ _) (want_exprn _) (want_block _), ?_⟩
      refine ⟨fun h => (by cases h), (exI_iff _ _).2 ⟨⟨[], [_], [], [], [], []⟩, rfl, ones_nil, rfl, ?_⟩⟩
      cases hc : rowB [wE, wB] l with
      | true =>
        rw [hc] at hφ
        rw [then_step, th_ite, if_pos (by simp [go_sem])]
        exact fin _ _ _ (hb' _) rfl hφ
      | false =>
        rw [hc, Bool.false_or] at hφ
        rw [then_step, th_ite, if_neg (by simp [go_sem]), then_step, th_mk]
        intro b2 hb2
        have hb2' := hset hb2
        rw [then_step, th_call, if_pos (by rfl), s_ctLRow]
        refine ⟨x, sl, l, _, _, rfl, R.le (HLe.trans (hb' _) (hb2' _)), hl, wants3 (set_same _ _ _) (want_exprn _) (want_block _) (want_block _), ?_⟩
        refine ⟨fun h => (by cases h), (exI_iff _ _).2 ⟨⟨[], [_], [], [], [], []⟩, rfl, ones_nil, rfl, ?_⟩⟩
        exact fin _ _ _ (HLe.trans (hb' _) (hb2' _)) rfl hφ
    rw [if_neg h9] at hφ
    rw [th_ite, if_neg (by simpa [go_sem] using h9), then_step]
    by_cases h10 : x.k = 10
    · rw [if_pos h10] at hφ
      rw [th_ite, if_pos (by simpa [go_sem] using h10), then_step, th_mk]
      intro b hb
      have hb' := hset hb
      rw [then_step, th_call, if_pos (by rfl), s_ctLRow]
      refine ⟨x, sl, l, _, _, rfl, R.le (hb' _), hl, wants2 (set_same _ _ _) (want_exprn _) (want_block _), ?_⟩
      refine ⟨fun h => (by cases h), (exI_iff _ _).2 ⟨⟨[], [_], [], [], [], []⟩, rfl, ones_nil, rfl, ?_⟩⟩
      exact fin _ _ _ (hb' _) rfl hφ
    rw [if_neg h10] at hφ
    rw [th_ite, if_neg (by simpa [go_sem] using h10), then_step]
    by_cases h11 : x.k = 11
    · rw [if_pos h11] at hφ
      rw [th_ite, if_pos (by simpa [go_sem] using h11), then_step, th_call, if_pos (by rfl), s_ctLRow]
      refine ⟨x, sl, l, _, _, rfl, R, hl, wants_nil _, ?_⟩
      refine ⟨fun h => (by cases h), (exI_iff _ _).2 ⟨⟨[], [_], [], [], [], []⟩, rfl, ones_nil, rfl, ?_⟩⟩
      cases hc : rowB [] l with
      | true =>
        rw [hc] at hφ
        rw [then_step, th_ite, if_pos (by simp [go_sem])]
        exact fin _ _ _ (fun _ _ h => h) rfl hφ
      | false =>
        rw [hc, Bool.false_or] at hφ
        rw [then_step, th_ite, if_neg (by simp [go_sem]), then_step, th_mk]
        intro b2 hb2
        have hb2' := hset hb2
        rw [then_step, th_call, if_pos (by rfl), s_ctLRow]
        refine ⟨x, sl, l, _, _, rfl, R.le (HLe.trans (fun _ _ h => h) (hb2' _)), hl, wants1 (set_same _ _ _) (want_exprn _), ?_⟩
        refine ⟨fun h => (by cases h), (exI_iff _ _).2 ⟨⟨[], [_], [], [], [], []⟩, rfl, ones_nil, rfl, ?_⟩⟩
        exact fin _ _ _ (HLe.trans (fun _ _ h => h) (hb2' _)) rfl hφ
    rw [if_neg h11] at hφ
    rw [th_ite, if_neg (by simpa [go_sem] using h11), then_step]
    by_cases h12 : x.k = 12
    · rw [if_pos h12] at hφ
      rw [th_ite, if_pos (by simpa [go_sem] using h12), then_step, th_mk]
      intro b hb
      have hb' := hset hb
      rw [then_step, th_call, if_pos (by rfl), s_ctLRow]
      refine ⟨x, sl, l, _, _, rfl, R.le (hb' _), hl, wants1 (set_same _ _ _) (want_exprn _), ?_⟩
      refine ⟨fun h => (by cases h), (exI_iff _ _).2 ⟨⟨[], [_], [], [], [], []⟩, rfl, ones_nil, rfl, ?_⟩⟩
      exact fin _ _ _ (hb' _) rfl hφ
    rw [if_neg h12] at hφ
    rw [th_ite, if_neg (by simpa [go_sem] using h12), then_step]
    rw [th_mk]
    intro b hb
    have hb' := hset hb
    rw [then_step, th_call, if_pos (by rfl), s_ctTof]
    refine ⟨_, rfl, fun p k T hk hp => ?_⟩
    refine ⟨fun h => (by cases h), (exI_iff _ _).2 ⟨⟨[], [], [], [_], [], []⟩, rfl, by intro u hu; simp at hu; subst hu; rfl, rfl, ?_⟩⟩
    have hkk := HLe.trans (hb' _) hk
    have hro : Rows k ⟨some (b, 0), 1, 1⟩ (kcs [27]) 1 := kinds_mk (hk _ _ (set_same _ _ _)) rfl
    have hw := want_of hp hro (by decide)
    rw [then_step, th_mk]
    intro b2 hb2
    have hb2' := hset hb2
    rw [then_step, th_call, if_pos (by rfl), s_ctLRow]
    refine ⟨x, sl, l, _, _, rfl, R.le (HLe.trans hkk (hb2' _)), hl, wants1 (set_same _ _ _) (hw.le (hb2' _)), ?_⟩
    refine ⟨fun h => (by cases h), (exI_iff _ _).2 ⟨⟨[], [_], [], [], [], []⟩, rfl, ones_nil, rfl, ?_⟩⟩
    exact fin _ _ _ (HLe.trans hkk (hb2' _)) rfl hφ
def ng0 : Ng := ⟨0, 0, 0, 0, 0, []⟩
/-- May a function's children be? -/
def fnB (n : Int) (l : List Ng) : Bool :=
  decide (2 ≤ l.length) && decide ((l.length : Int) - 2 = n) && decide ((l.getD (l.length - 1) ng0).k = 6) && (decide ((l.getD (l.length - 2) ng0).k = 14) || wTy (l.getD (l.length - 2) ng0)) && (l.take (l.length - 2)).all (wO [5])
theorem NG.take {h : Hp} {sl : Slc} {l : List Ng} (R : NG h sl l) {m c : Nat} (hm : m ≤ l.length) : NG h ⟨sl.a, m, c⟩ (l.take m) := by
  have hn := NG.n R
  have e : gcs (l.take m) = (gcs l).take (m * 6) := by
    have h1 : gcs l = gcs (l.take m) ++ gcs (l.drop m) := by rw [← gcs_app, List.take_append_drop]
    have h2 : (gcs (l.take m)).length = m * 6 := by rw [gcs_len, List.length_take]; omega
    rw [h1, ← h2, List.take_left]
  refine ⟨by rw [gcs_len, List.length_take]; show _ = m * 6; omega, ?_⟩
  by_cases h0 : m = 0
  · exact .inl h0
  right
  obtain ⟨b, o, ha⟩ := Rows.nn R (j := 0) (by omega)
  rcases R.2 with h1 | hr
  · omega
  · show hread h sl.a (m * 6) = _
    rw [ha] at hr ⊢
    have := hread_in hr (k := 0) (m := m * 6) (by omega)
    rw [e]
    simpa using this
set_option maxRecDepth 100000 in
set_option maxHeartbeats 8000000 in
def ctLFun : Ct Tryz.prog where
  f := 89
  spec := fun args h φ => ∃ x sl l, args = [lkv x sl] ∧ NG h sl l ∧ l.length ≤ 1000000 ∧ sl.n ≤ sl.c ∧ φ (.bool (fnB x.n l)) h
  ok := by
    rintro args h φ w ⟨x, sl, l, rfl, R, hl, hc, hφ⟩ hH
    refine ct_forget (by_fm Tryz.func89 gen_lfun ps_lfun [ctTblock, ctSomeT, ctTof, ctLAll] (fun v k => ∃ k', HLe k' k ∧ φ v k') (noInv) (noMeas) ⟨[x.k, x.l, x.c, x.z, x.n], [], [x.x], [], [sl], [], h, noM⟩ ⟨rfl, rfl, rfl, rfl, rfl, rfl⟩ ones_nil ?_ w hH rfl)
    generalize hE : (⟨specOf _, _, _, _⟩ : Env) = E
    have s_ctTblock : E.spec 132 = (ctTblock).spec := by rw [← hE]; rfl
    have s_ctSomeT : E.spec 88 = (ctSomeT).spec := by rw [← hE]; rfl
    have s_ctTof : E.spec 52 = (ctTof).spec := by rw [← hE]; rfl
    have s_ctLAll : E.spec 51 = (ctLAll).spec := by rw [← hE]; rfl
    have ep : E.post = (fun v k => ∃ k', HLe k' k ∧ φ v k') := by rw [← hE]
    clear hE
    unfold fm_lfun
    have hn := NG.n R
    unfold fnB at hφ
    by_cases h2 : 2 ≤ l.length
    rotate_left
    · rw [decide_eq_false h2] at hφ
      have hz : ¬ ((2 : Int) ≤ sl.n) := by omega
      rw [← then_step]
      iterate 16 (try simp only [then_step]; try simp [go_sem, hz])
      rw [ep]
      exact ⟨h, fun _ _ h => h, by simpa using hφ⟩
    have hz : ¬ ((sl.n : Int) < 2) := by omega
    have hz' : (2 : Int) ≤ sl.n := by omega
    have r1 : (-9223372036854775808 : Int) ≤ sl.n - 2 := by omega
    have r2 : (sl.n : Int) - 2 ≤ 9223372036854775807 := by omega
    have r3 : (-9223372036854775808 : Int) ≤ sl.n - 1 := by omega
    have r4 : (sl.n : Int) - 1 ≤ 9223372036854775807 := by omega
    rw [decide_eq_true h2, Bool.true_and] at hφ
    by_cases hx : (l.length : Int) - 2 = x.n
    rotate_left
    · rw [decide_eq_false hx] at hφ
      have hx' : ¬ ((sl.n : Int) - 2 = x.n) := by omega
      rw [← then_step]
      iterate 16 (try simp only [then_step]; try simp [go_sem, hz', hx', r1, r2])
      rw [ep]
      exact ⟨h, fun _ _ h => h, by simpa using hφ⟩
    have hx' : (sl.n : Int) - 2 = x.n := by omega
    rw [decide_eq_true hx, Bool.true_and] at hφ
    obtain ⟨b, o, ha⟩ := Rows.nn R (j := 0) (by omega)
    have rd1 := NG.node R (j := l.length - 1) (by omega) ha
    have rd2 := NG.node R (j := l.length - 2) (by omega) ha
    have rdk := Rows.read (off := 0) (m := 1) R (j := l.length - 2) (by omega) (by omega) ha
    rw [Nat.add_zero, Nat.add_zero, gcs_at (by omega)] at rdk
    rw [List.getD_eq_getElem?_getD, List.getD_eq_getElem?_getD, List.getElem?_eq_getElem (by omega : l.length - 1 < l.length), List.getElem?_eq_getElem (by omega : l.length - 2 < l.length), Option.getD_some, Option.getD_some] at hφ
    generalize l[l.length - 1] = y at *
    generalize l[l.length - 2] = z at *
    have q1 : ((sl.n : Int) - 1).toNat = l.length - 1 := by omega
    have q2 : ((sl.n : Int) - 2).toNat = l.length - 2 := by omega
    have q3 : (0 : Int) ≤ sl.n - 1 := by omega
    have q4 : (0 : Int) ≤ sl.n - 2 := by omega
    have q5 : (1 : Int) ≤ sl.n := by omega
    rw [th_need]
    refine ⟨by simp [go_sem]; omega, ?_⟩
    rw [then_step, th_need]
    refine ⟨by simp [go_sem, hx'] <;> omega, ?_⟩
    rw [then_step, th_need]
    refine ⟨by simp [go_sem, hx', ha]; omega, ?_⟩
    rw [then_step, th_load, if_pos (by simp [go_sem, hx', hz'])]
    refine (exI_iff _ _).2 ⟨⟨[y.k, y.l, y.c, y.z, y.n], [], [y.x], [], [], []⟩, rfl, ones_nil, by simpa [go_sem, ha, Ng.cs, q1] using rd1, ?_⟩
    rw [then_step, th_call, if_pos (by simp [go_sem, hx', hz']), s_ctTblock]
    refine ⟨y, rfl, ?_⟩
    by_cases hy : y.k = 6
    rotate_left
    · rw [decide_eq_false hy] at hφ
      refine ⟨fun h => (by cases h), (exI_iff _ _).2 ⟨⟨[], [false], [], [], [], []⟩, rfl, ones_nil, by rw [decide_eq_false hy]; rfl, ?_⟩⟩
      iterate 14 (try simp only [then_step]; try simp [go_sem, hx'])
      rw [ep]
      exact ⟨h, fun _ _ h => h, by simpa using hφ⟩
    rw [decide_eq_true hy, Bool.true_and] at hφ
    refine ⟨fun h => (by cases h), (exI_iff _ _).2 ⟨⟨[], [true], [], [], [], []⟩, rfl, ones_nil, by rw [decide_eq_true hy]; rfl, ?_⟩⟩
    rw [then_step, th_need]
    refine ⟨by simp [go_sem, hx'] <;> omega, ?_⟩
    rw [then_step, th_need]
    refine ⟨by simp [go_sem, hx', ha] <;> omega, ?_⟩
    rw [then_step, th_need]
    refine ⟨by simp [go_sem, hx', ha], ?_⟩
    rw [then_step, th_load, if_pos (by simp [go_sem, hx', hz'])]
    refine (exI_iff _ _).2 ⟨⟨[z.k], [], [], [], [], []⟩, rfl, ones_nil, by simpa [go_sem, ha, Ng.cs, q2] using rdk, ?_⟩
    -- the last but one may be; the others are looked at
    have last : ∀ (i1 i2 i3 i4 i5 i6 i7 i8 i9 i10 i11 : Int) (b0 b1 : Bool) (t1 t2 : List UInt8), (b0 && (decide (i6 = 14) || b1)) = true → φ (.bool ((l.take (l.length - 2)).all (wO [5]))) h →
        Then E (.need (.c true) (.and (.le (.c (-9223372036854775808)) (.sub (.cnt (.x 0)) (.c 2))) (.le (.sub (.cnt (.x 0)) (.c 2)) (.c 9223372036854775807)))
          (.need (.c true) (.and (.and (.le (.c 0) (.sub (.cnt (.x 0)) (.c 2))) (.le (.sub (.cnt (.x 0)) (.c 2)) (.cap (.x 0)))) (.and (.le (.c 0) (.c 0)) (.le (.c 0) (.sub (.cnt (.x 0)) (.c 2)))))
          (.mk [(.i .u8 (.c 5))] 5 1
          (.call (.c true) false 52 [(.one (.sl (.x 1)))] (.p (.one (.v 0))) ⟨0, 0, 0, 1, 0, 0⟩
          (.call (.c true) false 51 [(.agg [(.i .u8 (.x 0)), (.i .i64 (.x 1)), (.i .i64 (.x 2)), (.i .i64 (.x 3)), (.i .i64 (.x 4)), (.s (.x 0)), (.sl (.sub (.x 0) (.c 0) (.sub (.cnt (.x 0)) (.c 2)) 6))]), (.one (.v 0))] (.p (.one (.b (.x 2)))) ⟨0, 1, 0, 0, 0, 0⟩
          (.ret (.p (.one (.b (.x 2)))))))))) ⟨[x.k, x.l, x.c, x.z, x.n, i1, i2, i3, i4, i5, i6, i7, i8, i9, i10, i11], [b0, b1], [x.x, t1, t2], [], [sl], [], h, noM⟩ := by
      intro i1 i2 i3 i4 i5 i6 i7 i8 i9 i10 i11 b0 b1 t1 t2 _ hφ
      rw [then_step, th_need]
      refine ⟨by simp [go_sem] <;> omega, ?_⟩
      rw [then_step, th_need]
      refine ⟨by simp [go_sem] <;> omega, ?_⟩
      rw [then_step, th_mk]
      intro b2 hb2
      have hb2' := hset hb2
      rw [then_step, th_call, if_pos (by rfl), s_ctTof]
      refine ⟨_, rfl, fun p k T hk hp => ?_⟩
      refine ⟨fun h => (by cases h), (exI_iff _ _).2 ⟨⟨[], [], [], [_], [], []⟩, rfl, by intro u hu; simp at hu; subst hu; rfl, rfl, ?_⟩⟩
      have hkk := HLe.trans (hb2' _) hk
      have hro : Rows k ⟨some (b2, 0), 1, 1⟩ (kcs [5]) 1 := kinds_mk (hk _ _ (set_same _ _ _)) rfl
      have hw := want_of hp hro (by decide)
      rw [then_step, th_call, if_pos (by rfl), s_ctLAll]
      have hsub : (LE.den (⟨[x.k, x.l, x.c, x.z, x.n, i1, i2, i3, i4, i5, i6, i7, i8, i9, i10, i11], [b0, b1], [x.x, t1, t2], [], [sl], [], h, noM⟩ : Ctx) (.sub (.x 0) (.c 0) (.sub (.cnt (.x 0)) (.c 2)) 6)) = ⟨sl.a, l.length - 2, sl.c⟩ := by
        show (⟨if sl.c = 0 then sl.a else sl.a.map fun x => (x.1, x.2 + 0 * 6), ((sl.n : Int) - 2).toNat - 0, sl.c - 0⟩ : Slc) = _
        rw [q2, ha]
        simp
      have hNG : NG k ⟨sl.a, l.length - 2, sl.c⟩ (l.take (l.length - 2)) := (NG.take R (by omega)).le hkk
      refine ⟨x, ⟨sl.a, l.length - 2, sl.c⟩, l.take (l.length - 2), _, _, by rw [← hsub]; rfl, hNG, by rw [List.length_take]; omega, hw, ?_⟩
      refine ⟨fun h => (by cases h), (exI_iff _ _).2 ⟨⟨[], [_], [], [], [], []⟩, rfl, ones_nil, rfl, ?_⟩⟩
      rw [then_step, says_ret, ep]
      exact ⟨h, hkk, hφ⟩
    by_cases hk : z.k = 14
    · rw [decide_eq_true hk, Bool.true_or, Bool.true_and] at hφ
      rw [then_step, th_need]
      refine ⟨by simp [go_sem, hk], ?_⟩
      rw [then_step, th_need]
      refine ⟨by simp [go_sem, hk], ?_⟩
      rw [then_step, th_load, if_neg (by simp [go_sem, hk]), then_step, th_call, if_neg (by simp [go_sem, hk]), then_step, th_ite, if_neg (by simp [go_sem, hk, hz', hx'])]
      exact last _ _ _ _ _ _ _ _ _ _ _ _ _ _ _ (by simp [hk]) hφ
    · rw [decide_eq_false hk, Bool.false_or] at hφ
      rw [then_step, th_need]
      refine ⟨by simp [go_sem] <;> omega, ?_⟩
      rw [then_step, th_need]
      refine ⟨by simp [go_sem, ha] <;> omega, ?_⟩
      rw [then_step, th_load, if_pos (by simp [go_sem, hz', hx', hk])]
      refine (exI_iff _ _).2 ⟨⟨[z.k, z.l, z.c, z.z, z.n], [], [z.x], [], [], []⟩, rfl, ones_nil, by simpa [go_sem, ha, Ng.cs, q2] using rd2, ?_⟩
      rw [then_step, th_call, if_pos (by simp [go_sem, hz', hx', hk]), s_ctSomeT]
      refine ⟨z, rfl, ?_⟩
      cases hw : wTy z with
      | false =>
        rw [hw] at hφ
        refine ⟨fun h => (by cases h), (exI_iff _ _).2 ⟨⟨[], [false], [], [], [], []⟩, rfl, ones_nil, by rw [show btw 15 20 z = false from hw]; rfl, ?_⟩⟩
        rw [then_step, th_ite, if_pos (by simp [go_sem, hk]), then_step, says_ret, ep]
        exact ⟨h, fun _ _ h => h, by simpa [go_sem] using hφ⟩
      | true =>
        rw [hw, Bool.true_and] at hφ
        refine ⟨fun h => (by cases h), (exI_iff _ _).2 ⟨⟨[], [true], [], [], [], []⟩, rfl, ones_nil, by rw [show btw 15 20 z = true from hw]; rfl, ?_⟩⟩
        rw [then_step, th_ite, if_neg (by simp [go_sem, hz', hx'])]
        exact last _ _ _ _ _ _ _ _ _ _ _ _ _ _ _ (by simp) hφ
end Go.Proofs.YtllbpdllkkcajaaGreatDoor
