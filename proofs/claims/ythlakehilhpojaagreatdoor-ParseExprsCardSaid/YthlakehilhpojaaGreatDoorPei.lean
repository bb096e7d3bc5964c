/- The law hindcastlaw06.ParseExprs: the statement, out of its walk: it answers true whatever it is handed, and what it was handed reads as before. (Texts joined: ParRJ, ParRK, ParZZ, Card, Laid, LawExprs.) -/
import Derived.Test.YthlakehilhpojaaGreatDoorPeh
namespace Go.Proofs.YthlakehilhpojaaGreatDoor
open Go.RowKit
attribute [local go_sem] says_tt says_ff th_need th_ite th_call th_callK th_load th_store says_ret says_again BE.den IE.den SE.den LE.den AE.den CE.den PE.den VE.den KV.val Got.den Got.cnt exI allI exL allL Ctx.push Ctx.heap Ctx.cut Ctx.bare Ctx.mark Inc.blank List.getD_cons_zero List.getD_cons_succ List.cons_append List.nil_append List.append_nil List.map_cons List.map_nil List.replicate_zero List.replicate_succ specOf ltB_t leB_t ltB_f leB_f slc_val slc_nil slc_inj pt_val pt_nil hle_noHeap hle_refl hread_set hwrite_set set_same set_set noHeap_at B_inj ones_nil and_assoc
def fm_rdone : Fm := (.call (.c true) false 29 [(.agg [(.sl (.x 1)), (.i .i64 (.x 0)), (.i .i64 (.x 1)), (.i .i64 (.x 2)), (.i .i64 (.x 3)), (.i .i64 (.x 4))])] (.p (.agg [(.i .u8 (.x 5)), (.i .i64 (.x 6)), (.i .i64 (.x 7)), (.i .i64 (.x 8)), (.s (.x 0))])) ⟨4, 0, 1, 0, 0, 0⟩
  (.ite (.not (.eqI (.x 5) (.c 8)))
  (.call (.c true) false 33 [(.agg [(.sl (.x 1)), (.i .i64 (.x 0)), (.i .i64 (.x 1)), (.i .i64 (.x 2)), (.i .i64 (.x 3)), (.i .i64 (.x 4))]), (.one (.i .i64 (.c 5)))] (.p (.agg [(.sl (.x 2)), (.i .i64 (.x 9)), (.i .i64 (.x 10)), (.i .i64 (.x 11)), (.i .i64 (.x 12)), (.i .i64 (.x 13))])) ⟨5, 0, 0, 0, 1, 0⟩
  (.call (.c true) false 34 [(.agg [(.sl (.x 2)), (.i .i64 (.x 9)), (.i .i64 (.x 10)), (.i .i64 (.x 11)), (.i .i64 (.x 12)), (.i .i64 (.x 13))])] (.p (.one (.b (.x 0)))) ⟨0, 1, 0, 0, 0, 0⟩
  (.ite (.x 0)
  (.mk [] 32 0
  (.ret (.tup [(.one (.sl (.x 3))), (.agg [(.i .i64 (.x 11)), (.i .i64 (.x 12)), (.i .i64 (.x 13))])])))
  (.ret (.tup [(.one (.sl (.x 0))), (.agg [(.i .i64 (.c 0)), (.i .i64 (.c 0)), (.i .i64 (.c 0))])])))))
  (.call (.c true) false 34 [(.agg [(.sl (.x 1)), (.i .i64 (.x 0)), (.i .i64 (.x 1)), (.i .i64 (.x 2)), (.i .i64 (.x 3)), (.i .i64 (.x 4))])] (.p (.one (.b (.x 0)))) ⟨0, 1, 0, 0, 0, 0⟩
  (.ite (.x 0)
  (.mk [] 32 0
  (.ret (.tup [(.one (.sl (.x 2))), (.agg [(.i .i64 (.x 2)), (.i .i64 (.x 3)), (.i .i64 (.x 4))])])))
  (.ret (.tup [(.one (.sl (.x 0))), (.agg [(.i .i64 (.c 0)), (.i .i64 (.c 0)), (.i .i64 (.c 0))])]))))))
theorem gen_rdone : genFn ⟨true, []⟩ Tryz.prog (fun l => ([] : List LAnn).getD l ⟨[], [], []⟩) Tryz.f14 = fm_rdone := by kernel_rfl
theorem ps_rdone : freshPs Tryz.prog .zero Tryz.f14.params.toList = some ([(.one (.sl (.x 0))), (.agg [(.sl (.x 1)), (.i .i64 (.x 0)), (.i .i64 (.x 1)), (.i .i64 (.x 2)), (.i .i64 (.x 3)), (.i .i64 (.x 4))])], ⟨5, 0, 0, 0, 2, 0⟩) := by kernel_rfl
def fm_rExpr : Fm := (.call (.c true) false 12 [(.one (.s (.x 0)))] (.tup [(.one (.sl (.x 0))), (.agg [(.i .i64 (.x 0)), (.i .i64 (.x 1)), (.i .i64 (.x 2))])]) ⟨3, 0, 0, 0, 1, 0⟩
  (.ite (.not (.eqI (.x 0) (.c 0)))
  (.mk [] 32 0
  (.ret (.tup [(.one (.sl (.x 1))), (.agg [(.i .i64 (.x 0)), (.i .i64 (.x 1)), (.i .i64 (.x 2))])])))
  (.call (.c true) false 13 [(.agg [(.sl (.x 0)), (.i .i64 (.c 0)), (.i .i64 (.c 0)), (.i .i64 (.c 0)), (.i .i64 (.c 0)), (.i .i64 (.c 0))]), (.one (.i .i64 (.c 1)))] (.tup [(.one (.sl (.x 1))), (.agg [(.sl (.x 2)), (.i .i64 (.x 3)), (.i .i64 (.x 4)), (.i .i64 (.x 5)), (.i .i64 (.x 6)), (.i .i64 (.x 7))])]) ⟨5, 0, 0, 0, 2, 0⟩
  (.call (.c true) false 14 [(.one (.sl (.x 1))), (.agg [(.sl (.x 2)), (.i .i64 (.x 3)), (.i .i64 (.x 4)), (.i .i64 (.x 5)), (.i .i64 (.x 6)), (.i .i64 (.x 7))])] (.tup [(.one (.sl (.x 3))), (.agg [(.i .i64 (.x 8)), (.i .i64 (.x 9)), (.i .i64 (.x 10))])]) ⟨3, 0, 0, 0, 1, 0⟩
  (.ret (.tup [(.one (.sl (.x 3))), (.agg [(.i .i64 (.x 8)), (.i .i64 (.x 9)), (.i .i64 (.x 10))])]))))))
theorem gen_rExpr : genFn ⟨true, []⟩ Tryz.prog (fun l => ([] : List LAnn).getD l ⟨[], [], []⟩) Tryz.f6 = fm_rExpr := by kernel_rfl
theorem ps_rExpr : freshPs Tryz.prog .zero Tryz.f6.params.toList = some ([(.one (.s (.x 0)))], ⟨0, 0, 1, 0, 0, 0⟩) := by kernel_rfl
theorem end_fail {L : List Tok} {r : PS} (h : ¬ (tk L r).k = 8) : endP L r = pFail L 5 r := by unfold endP; rw [if_neg h]
theorem Lk.endP {L : List Tok} {p r : PS} (k : Lk p r) : Lk (endP L p) (endP L r) := by
  unfold Go.Proofs.YthlakehilhpojaaGreatDoor.endP
  rw [k.tk]
  split
  · exact k
  · exact k.fail 5
theorem end_good {L : List Tok} {p : PS} (h : (endP L p).bad = false) : p.bad = false := by
  unfold endP at h
  split at h
  · exact h
  · rw [bad_fail (by decide)] at h; cases h
def ctDone06 : Ct Tryz.prog where
  f := 14
  spec := fun args h φ => ∃ (s sl : Slc) (L : List Tok) (r : PS), args = [s.val, rv sl r] ∧ RW h sl L r ∧ (if (endP L r).bad = true then ∀ (s' : Slc) k, HLe h k → s'.n = 0 → φ (.tuple #[s'.val, fltv (endP L r).f]) k else φ (.tuple #[s.val, fltv (0, 0, 0)]) h)
  ok := by
    rintro args h φ w ⟨s, sl, L, r, rfl, W, hφ⟩ hH
    refine by_fm Tryz.func14 gen_rdone ps_rdone [ctRNow, ctRFail, ctRBad] φ (noInv) (noMeas) ⟨[(r.a : Int), r.d, r.f.1, r.f.2.1, r.f.2.2], [], [], [], [s, sl], [], h, noM⟩ ⟨rfl, rfl, rfl, rfl, rfl, rfl⟩ ones_nil ?_ w hH rfl
    generalize hE : (⟨specOf _, _, _, _⟩ : Env) = E
    have s_ctRNow : E.spec 29 = (ctRNow).spec := by rw [← hE]; rfl
    have s_ctRFail : E.spec 33 = (ctRFail).spec := by rw [← hE]; rfl
    have s_ctRBad : E.spec 34 = (ctRBad).spec := by rw [← hE]; rfl
    have ep : E.post = φ := by rw [← hE]
    clear hE
    unfold fm_rdone
    rw [th_call, if_pos (by rfl), s_ctRNow]
    refine ⟨sl, L, r, by simp [go_sem, rv], W, ?_⟩
    simp [go_sem, tokv, tkv]
    by_cases h8 : (tk L r).k = 8
    · have he : endP L r = r := by unfold endP; rw [if_pos h8]
      rw [he] at hφ
      rw [then_step, th_ite, if_neg (by simp [go_sem, h8])]
      rw [then_step, th_call, if_pos (by rfl), s_ctRBad]
      refine ⟨sl, r, by simp [go_sem, rv], ?_⟩
      simp [go_sem]
      cases hb : r.bad with
      | true =>
        rw [if_pos hb] at hφ
        rw [then_step, th_ite, if_pos (by simp [go_sem])]
        rw [then_step, th_mk]
        intro nb hnb
        have hnb' : h nb = none := hnb
        simp [go_sem]
        rw [then_step, says_ret, ep]
        exact hφ ⟨some (nb, 0), 0, 0⟩ _ (hle_set hnb' _) rfl
      | false =>
        rw [if_neg (by rw [hb]; decide)] at hφ
        rw [then_step, th_ite, if_neg (by simp [go_sem])]
        rw [then_step, says_ret, ep]
        exact hφ
    · have he := end_fail h8
      have hbf := bad_fail (L := L) (e := 5) (by decide) r
      rw [he, if_pos hbf] at hφ
      rw [then_step, th_ite, if_pos (by simp [go_sem, h8])]
      rw [then_step, th_call, if_pos (by rfl), s_ctRFail]
      refine ⟨sl, L, r, 5, by simp [go_sem, rv], W, ?_⟩
      simp [go_sem, rv]
      rw [then_step, th_call, if_pos (by rfl), s_ctRBad]
      refine ⟨sl, pFail L 5 r, by simp [go_sem, rv], ?_⟩
      simp [go_sem]
      rw [hbf]
      rw [then_step, th_ite, if_pos (by simp [go_sem])]
      rw [then_step, th_mk]
      intro nb hnb
      have hnb' : h nb = none := hnb
      simp [go_sem]
      rw [then_step, says_ret, ep]
      exact hφ ⟨some (nb, 0), 0, 0⟩ _ (hle_set hnb' _) rfl
theorem letters_of {s : List UInt8} {L : List Tok} (T : Toks s L) : Letters L := fun t ht h6 => by
  rcases T.tok t ht with h8 | hin
  · rw [h6] at h8; cases h8
  · exact tok_word hin h6
def ctRefExpr : Ct Tryz.prog where
  f := 6
  spec := fun args h φ => ∃ s, args = [.string (B s)] ∧ s.length ≤ 65536 ∧ ∀ f t, parseT false s = some (f, t) → if f.1 = 0 then ∀ (sl : Slc) k, HLe h k → NS k sl t.nods → φ (.tuple #[sl.val, fltv (0, 0, 0)]) k else ∀ (sl : Slc) k, HLe h k → sl.n = 0 → φ (.tuple #[sl.val, fltv f]) k
  ok := by
    rintro args h φ w ⟨s, rfl, hlen, hφ⟩ hH
    refine by_fm Tryz.func6 gen_rExpr ps_rExpr [ctRTokens, ctDone06, ctExprR (ex_ok06 (fuelOf (lexAll s).2)).1] φ (noInv) (noMeas) ⟨[], [], [s], [], [], [], h, noM⟩ ⟨rfl, rfl, rfl, rfl, rfl, rfl⟩ ones_nil ?_ w hH rfl
    generalize hE : (⟨specOf _, _, _, _⟩ : Env) = E
    have s_ctRTokens : E.spec 12 = (ctRTokens).spec := by rw [← hE]; rfl
    have s_ctDone06 : E.spec 14 = (ctDone06).spec := by rw [← hE]; rfl
    have s_ctE : E.spec 13 = (ctExprR (ex_ok06 (fuelOf (lexAll s).2)).1).spec := by rw [← hE]; rfl
    have ep : E.post = φ := by rw [← hE]
    clear hE
    unfold fm_rExpr
    obtain ⟨⟨f, t⟩, hft⟩ := parse_some false s
    have hφ := hφ f t hft
    rw [th_call, if_pos (by rfl), s_ctRTokens]
    refine ⟨s, rfl, by omega, ?_⟩
    rw [if_neg (by omega)]
    by_cases hl : (lexAll s).1.1 = 0
    rotate_left
    · rw [if_neg hl]
      have e := hft
      unfold parseT at e
      rw [if_pos hl] at e
      cases e
      rw [if_neg hl] at hφ
      intro sl0 _
      simp [go_sem]
      rw [then_step, th_ite, if_pos (by simp [go_sem]; exact hl)]
      rw [then_step, th_mk]
      intro nb hnb
      have hnb' : h nb = none := hnb
      simp [go_sem]
      rw [then_step, says_ret, ep]
      exact hφ ⟨some (nb, 0), 0, 0⟩ _ (hle_set hnb' _) rfl
    rw [if_pos hl]
    intro sl k hk hts
    have T := toks_of hl
    have hft' : (pBin (lexAll s).2 (fuelOf (lexAll s).2) 1 p0).map (fun r => ((endP (lexAll s).2 r.2).f, r.1)) = some (f, t) := by
      have e := hft
      unfold parseT at e
      rw [if_neg (by simpa using hl)] at e
      simpa using e
    clear hft
    generalize hLe : (lexAll s).2 = L at *
    have hLl := T.len
    simp only [Option.map_eq_some_iff] at hft'
    obtain ⟨⟨t', q⟩, h1, h2⟩ := hft'
    cases h2
    have hlk : Lk p0 p0 := ⟨rfl, rfl, fun _ => rfl, by decide, Int.le_refl _⟩
    have W : RW k sl L p0 := ⟨hts, T.lw, letters_of T, by omega, T.lw.pos, by decide, by decide⟩
    have R : LR k sl L p0 p0 (fuelOf L) := ⟨W, hlk, fun _ => by decide, Int.le_refl _, by show (0 : Int) + _ ≤ _; unfold fuelOf; omega⟩
    have A := (advE T.lw _).1 _ _ _ _ h1
    simp [go_sem]
    rw [then_step, th_ite, if_neg (by simp [go_sem])]
    rw [then_step, th_call, if_pos (by rfl), s_ctE]
    refine ⟨fuelOf L, Nat.le_refl _, sl, L, p0, p0, t', q, 1, by simp [go_sem, rv, p0], by omega, by omega, R, h1, fun s3 k3 l3 r3 g1 g2 g3 g4 g5 g6 => ?_⟩
    have RN := R.next A g6 g1 (Nat.le_refl _)
    have hk2 := hle_trans hk g1
    have LE := g6.endP (L := L)
    simp [go_sem, rv]
    rw [then_step, th_call, if_pos (by rfl), s_ctDone06]
    refine ⟨s3, sl, L, r3, by simp [go_sem, rv], RN.W, ?_⟩
    rw [LE.bad, LE.f]
    by_cases hf : (endP L q).f.1 = 0
    · have hb : (endP L q).bad = false := by unfold PS.bad; rw [hf]; rfl
      rw [if_pos hf] at hφ
      rw [if_neg (by rw [hb]; decide)]
      simp [go_sem, fltv]
      rw [then_step, says_ret, ep]
      have e := g5 (end_good hb)
      subst e
      obtain ⟨b, c, TT, r, e1, e2⟩ := g2
      exact hφ s3 k3 hk2 ⟨by rw [e1], .inr ⟨b, c, TT, r, e1, e2⟩⟩
    · have hb : (endP L q).bad = true := by unfold PS.bad; simp [hf]
      rw [if_neg hf] at hφ
      rw [if_pos hb]
      intro s4 k4 e1 e2
      simp [go_sem, fltv]
      rw [then_step, says_ret, ep]
      exact hφ s4 k4 (hle_trans hk2 e1) e2
end Go.Proofs.YthlakehilhpojaaGreatDoor
namespace Go.Proofs.YthlakehilhpojaaGreatDoor
open Go.RowKit
attribute [local go_sem] says_tt says_ff th_need th_ite th_call th_callK th_load th_store says_ret says_again BE.den IE.den SE.den LE.den AE.den CE.den PE.den VE.den KV.val Got.den Got.cnt exI allI exL allL Ctx.push Ctx.heap Ctx.cut Ctx.bare Ctx.mark Inc.blank List.getD_cons_zero List.getD_cons_succ List.cons_append List.nil_append List.append_nil List.map_cons List.map_nil List.replicate_zero List.replicate_succ specOf ltB_t leB_t ltB_f leB_f slc_val slc_nil slc_inj pt_val pt_nil hle_noHeap hle_refl hread_set hwrite_set set_same set_set noHeap_at B_inj ones_nil and_assoc
def fm_r5end : Fm := (.need (.not (.le (.cnt (.x 0)) (.x 0))) (.and (.and (.le (.c 0) (.x 0)) (.lt (.x 0) (.cnt (.x 0)))) (.nns (.x 0)))
  (.need (.not (.le (.cnt (.x 0)) (.x 0))) (.nns (.x 0))
  (.load (.not (.le (.cnt (.x 0)) (.x 0))) (.el (.x 0) (.x 0) 6 3) 1 [(.i .i64 (.x 1))] ⟨1, 0, 0, 0, 0, 0⟩
  (.need (.not (.or (.le (.cnt (.x 0)) (.x 0)) (.lt (.x 1) (.c 0)))) (.and (.and (.le (.c 0) (.x 0)) (.lt (.x 0) (.cnt (.x 0)))) (.nns (.x 0)))
  (.need (.not (.or (.le (.cnt (.x 0)) (.x 0)) (.lt (.x 1) (.c 0)))) (.nns (.x 0))
  (.load (.not (.or (.le (.cnt (.x 0)) (.x 0)) (.lt (.x 1) (.c 0)))) (.el (.x 0) (.x 0) 6 3) 1 [(.i .i64 (.x 2))] ⟨1, 0, 0, 0, 0, 0⟩
  (.need (.not (.or (.le (.cnt (.x 0)) (.x 0)) (.lt (.x 1) (.c 0)))) (.and (.le (.c (-9223372036854775808)) (.sub (.cnt (.x 0)) (.c 1))) (.le (.sub (.cnt (.x 0)) (.c 1)) (.c 9223372036854775807)))
  (.need (.not (.or (.le (.cnt (.x 0)) (.x 0)) (.lt (.x 1) (.c 0)))) (.and (.le (.c (-9223372036854775808)) (.sub (.sub (.cnt (.x 0)) (.c 1)) (.x 0))) (.le (.sub (.sub (.cnt (.x 0)) (.c 1)) (.x 0)) (.c 9223372036854775807)))
  (.ite (.or (.or (.le (.cnt (.x 0)) (.x 0)) (.lt (.x 1) (.c 0))) (.lt (.sub (.sub (.cnt (.x 0)) (.c 1)) (.x 0)) (.x 2)))
  (.ret (.p (.one (.i .i64 (.c (-1))))))
  (.need (.c true) (.and (.le (.c (-9223372036854775808)) (.add (.x 0) (.c 1))) (.le (.add (.x 0) (.c 1)) (.c 9223372036854775807)))
  (.need (.c true) (.and (.and (.le (.c 0) (.x 0)) (.lt (.x 0) (.cnt (.x 0)))) (.nns (.x 0)))
  (.need (.c true) (.nns (.x 0))
  (.load (.c true) (.el (.x 0) (.x 0) 6 3) 1 [(.i .i64 (.x 3))] ⟨1, 0, 0, 0, 0, 0⟩
  (.need (.c true) (.and (.le (.c (-9223372036854775808)) (.add (.add (.x 0) (.c 1)) (.x 3))) (.le (.add (.add (.x 0) (.c 1)) (.x 3)) (.c 9223372036854775807)))
  (.need (.c true) (.and (.le (.c (-9223372036854775808)) (.add (.x 0) (.c 1))) (.le (.add (.x 0) (.c 1)) (.c 9223372036854775807)))
  (.loop 0 ⟨[(.add (.x 0) (.c 1))], [], [], [], [], []⟩
  (.ite (.and (.le (.c 0) (.x 4)) (.lt (.x 4) (.add (.add (.x 0) (.c 1)) (.x 3))))
  (.call (.c true) false 15 [(.one (.sl (.x 0))), (.one (.i .i64 (.x 4)))] (.p (.one (.i .i64 (.x 5)))) ⟨1, 0, 0, 0, 0, 0⟩
  (.again 0 ⟨4, 0, 0, 0, 1, 0⟩ ⟨5, 0, 0, 0, 1, 0⟩ ⟨[(.x 5)], [], [], [], [], []⟩))
  (.ite (.not (.eqI (.x 4) (.add (.add (.x 0) (.c 1)) (.x 3))))
  (.ret (.p (.one (.i .i64 (.c (-1))))))
  (.ret (.p (.one (.i .i64 (.add (.add (.x 0) (.c 1)) (.x 3))))))))))))))))))))))))
theorem gen_r5end : genFn ⟨true, []⟩ Tryz.prog (fun l => ([⟨[6], [42, 43, 44, 45, 46, 47, 48, 49, 50, 51], []⟩] : List LAnn).getD l ⟨[], [], []⟩) Tryz.f15 = fm_r5end := by kernel_rfl
theorem ps_r5end : freshPs Tryz.prog .zero Tryz.f15.params.toList = some ([(.one (.sl (.x 0))), (.one (.i .i64 (.x 0)))], ⟨1, 0, 0, 0, 1, 0⟩) := by kernel_rfl
def fm_r5right : Fm := (.call (.lt (.c 0) (.cnt (.x 0))) false 15 [(.one (.sl (.x 0))), (.one (.i .i64 (.c 0)))] (.p (.one (.i .i64 (.x 0)))) ⟨1, 0, 0, 0, 0, 0⟩
  (.ret (.p (.one (.b (.and (.lt (.c 0) (.cnt (.x 0))) (.eqI (.x 0) (.cnt (.x 0)))))))))
theorem gen_r5right : genFn ⟨true, []⟩ Tryz.prog (fun l => ([] : List LAnn).getD l ⟨[], [], []⟩) Tryz.f8 = fm_r5right := by kernel_rfl
theorem ps_r5right : freshPs Tryz.prog .zero Tryz.f8.params.toList = some ([(.one (.sl (.x 0)))], ⟨0, 0, 0, 0, 1, 0⟩) := by kernel_rfl
def fm_r5equal : Fm := (.ite (.not (.eqI (.cnt (.x 0)) (.cnt (.x 1))))
  (.ret (.p (.one (.b (.c false)))))
  (.loop 0 ⟨[(.c 0)], [(.c false)], [], [], [], []⟩
  (.ite (.lt (.x 0) (.cnt (.x 0)))
  (.load (.c true) (.el (.x 0) (.x 0) 6 0) 6 [(.i .u8 (.x 1)), (.i .i64 (.x 2)), (.i .i64 (.x 3)), (.i .i64 (.x 4)), (.i .i64 (.x 5)), (.s (.x 0))] ⟨5, 0, 1, 0, 0, 0⟩
  (.load (.c true) (.el (.x 1) (.x 0) 6 0) 6 [(.i .u8 (.x 6)), (.i .i64 (.x 7)), (.i .i64 (.x 8)), (.i .i64 (.x 9)), (.i .i64 (.x 10)), (.s (.x 1))] ⟨5, 0, 1, 0, 0, 0⟩
  (.need (.c true) (.and (.and (.le (.c 0) (.x 0)) (.lt (.x 0) (.cnt (.x 0)))) (.nns (.x 0)))
  (.need (.c true) (.and (.and (.le (.c 0) (.x 0)) (.lt (.x 0) (.cnt (.x 1)))) (.nns (.x 1)))
  (.ite (.not (.and (.eqI (.x 1) (.x 6)) (.and (.eqI (.x 2) (.x 7)) (.and (.eqI (.x 3) (.x 8)) (.and (.eqI (.x 4) (.x 9)) (.and (.eqI (.x 5) (.x 10)) (.eqS (.x 0) (.x 1))))))))
  (.ret (.p (.one (.b (.c false)))))
  (.need (.c true) (.and (.le (.c (-9223372036854775808)) (.add (.x 0) (.c 1))) (.le (.add (.x 0) (.c 1)) (.c 9223372036854775807)))
  (.again 0 ⟨0, 0, 0, 0, 2, 0⟩ ⟨1, 1, 0, 0, 2, 0⟩ ⟨[(.add (.x 0) (.c 1))], [(.x 0)], [], [], [], []⟩)))))))
  (.ret (.p (.one (.b (.c true))))))))
theorem gen_r5equal : genFn ⟨true, []⟩ Tryz.prog (fun l => ([⟨[4, 13], [14, 15, 5, 16, 17, 18, 19, 20, 21, 22, 23, 24, 25], []⟩] : List LAnn).getD l ⟨[], [], []⟩) Tryz.f7 = fm_r5equal := by kernel_rfl
theorem ps_r5equal : freshPs Tryz.prog .zero Tryz.f7.params.toList = some ([(.one (.sl (.x 0))), (.one (.sl (.x 1)))], ⟨0, 0, 0, 0, 2, 0⟩) := by kernel_rfl
/-- A tree stands in a row at a place. -/
def StandsAt (N : List Nod) (at' : Nat) (t : Tr) : Prop := ∃ rest, N.drop at' = t.nods ++ rest
theorem nods_cons (t : Tr) : ∃ k l c n x ks, t = .nd k l c n x ks ∧ t.nods = ⟨k, l, c, Tr.ns ks, n, x⟩ :: Tr.nodss ks := by
  cases t with
  | nd k l c n x ks => exact ⟨k, l, c, n, x, ks, rfl, by rw [Tr.nods, Tr.ns_szs]⟩
theorem Tr.n_pos (t : Tr) : 0 < t.n := by
  obtain ⟨k, l, c, n, x, ks, _, e⟩ := nods_cons t
  unfold Tr.n; rw [e]; simp
theorem drop_lt {N : List Nod} {a : Nat} {x : Nod} {r : List Nod} (h : N.drop a = x :: r) : ∃ h : a < N.length, N[a] = x ∧ N.drop (a + 1) = r ∧ r.length = N.length - 1 - a := by
  have hl : a < N.length := by
    have := congrArg List.length h
    rw [List.length_drop, List.length_cons] at this; omega
  rw [List.drop_eq_getElem_cons hl] at h
  injection h with h1 h2
  exact ⟨hl, h1, h2, by rw [← h2, List.length_drop]; omega⟩
def endS (n : Nat) (args : List Value) (h : Hp) (φ : Value → Hp → Prop) : Prop :=
  ∃ m, m < n ∧ ∃ sl N, ∃ at' : Nat, ∃ t : Tr, ∃ rest, args = [sl.val, .int .i64 at'] ∧ NS h sl N ∧ N.length ≤ 2000000 ∧ N.drop at' = t.nods ++ rest ∧ t.n = m ∧ φ (.int .i64 ((at' + t.n : Nat) : Int)) h
def EndOk (n : Nat) : Prop := ∀ args h φ w, endS n args h φ → Holds h w → Calls Tryz.prog 15 args.toArray w fun e w' => ∃ v k, e = .returned v ∧ φ v k ∧ Holds k w' ∧ Fr w.heap.size h k w w'
def ctEnd5 {n : Nat} (H : EndOk n) : Ct Tryz.prog := ⟨15, endS n, H⟩
def endInv (h : Hp) (sl : Slc) (N : List Nod) (at' : Nat) (ks : List Tr) (rest : List Nod) : Nat → Ctx → Prop := fun _ C =>
  ∃ a b ks2, ∃ k : Nat, C = ⟨[(at' : Int), a, b, (Tr.ns ks : Nat), (k : Int)], [], [], [], [sl], [], h, noM⟩ ∧ N.drop k = Tr.nodss ks2 ++ rest ∧ k + Tr.ns ks2 = at' + 1 + Tr.ns ks ∧ Tr.ns ks2 ≤ Tr.ns ks
set_option maxHeartbeats 4000000 in
theorem end_ok5 : ∀ n, EndOk n
  | 0 => by
    rintro args h φ w ⟨m, hm, _⟩ hH
    omega
  | n + 1 => by
    have ih := end_ok5 n
    rintro args h φ w ⟨m, hm, sl, N, at', t, rest, rfl, hN, hmax, hd, htn, hφ⟩ hH
    obtain ⟨k, l, c, nn, x, ks, rfl, hnod⟩ := nods_cons t
    rw [hnod, List.cons_append] at hd
    obtain ⟨hlt, hget, hd1, hrl⟩ := drop_lt hd
    obtain ⟨b, cap, T, r, hsl, hb⟩ := hN.slc hlt
    have hn1 : (Tr.nd k l c nn x ks).n = Tr.ns ks + 1 := by unfold Tr.n; rw [hnod, List.length_cons]; rfl
    have hz : Tr.ns ks ≤ N.length - 1 - at' := by
      rw [← hrl, List.length_append]; unfold Tr.ns; omega
    have hread3 : hread h (sl.a.map fun x => (x.1, x.2 + at' * 6 + 3)) 1 = some [.int .i64 (Tr.ns ks : Nat)] := by
      rw [hsl]
      simp only [Option.map_some, Nat.zero_add]
      rw [NS.read hb hlt (off := 3) (n := 1) (by decide), hget]
      rfl
    have hsn := hN.1
    have hsa : sl.a.isSome = true := by rw [hsl]; rfl
    refine by_fm Tryz.func15 gen_r5end ps_r5end [ctEnd5 ih] φ (endInv h sl N at' ks rest) (fun _ C => ((at' : Int) + 1 + (Tr.ns ks : Nat) - C.i.getD 4 0).toNat) ⟨[(at' : Int)], [], [], [], [sl], [], h, noM⟩ ⟨rfl, rfl, rfl, rfl, rfl, rfl⟩ ones_nil ?_ w hH rfl
    generalize hE : (⟨specOf _, _, _, _⟩ : Env) = E
    have s_ctE : E.spec 15 = (ctEnd5 ih).spec := by rw [← hE]; rfl
    have ep : E.post = φ := by rw [← hE]
    have ei : E.inv = (endInv h sl N at' ks rest) := by rw [← hE]
    have em : E.meas = (fun _ C => ((at' : Int) + 1 + (Tr.ns ks : Nat) - C.i.getD 4 0).toNat) := by rw [← hE]
    clear hE
    unfold fm_r5end
    iterate 2 (rw [th_need]; refine ⟨by simp [go_sem, hsn, hsa] <;> omega, ?_⟩; rw [then_step])
    rw [th_load, if_pos (by simp [go_sem, hsn] <;> omega)]
    refine (exI_iff _ _).2 ⟨⟨[(Tr.ns ks : Nat)], [], [], [], [], []⟩, rfl, ones_nil, by simpa [go_sem] using hread3, ?_⟩
    iterate 2 (rw [then_step, th_need]; refine ⟨by simp [go_sem, hsn, hsa] <;> omega, ?_⟩)
    rw [then_step, th_load, if_pos (by simp [go_sem, hsn] <;> omega)]
    refine (exI_iff _ _).2 ⟨⟨[(Tr.ns ks : Nat)], [], [], [], [], []⟩, rfl, ones_nil, by simpa [go_sem] using hread3, ?_⟩
    iterate 2 (rw [then_step, th_need]; refine ⟨by simp [go_sem, hsn] <;> omega, ?_⟩)
    rw [then_step, th_ite, if_neg (by simp [go_sem, hsn] <;> omega)]
    iterate 3 (rw [then_step, th_need]; refine ⟨by simp [go_sem, hsn, hsa] <;> omega, ?_⟩)
    rw [then_step, th_load, if_pos (by simp [go_sem])]
    refine (exI_iff _ _).2 ⟨⟨[(Tr.ns ks : Nat)], [], [], [], [], []⟩, rfl, ones_nil, by simpa [go_sem] using hread3, ?_⟩
    iterate 2 (rw [then_step, th_need]; refine ⟨by simp [go_sem] <;> omega, ?_⟩)
    rw [then_step]
    refine loop_intro ?_ ?_
    · rw [ei]
      exact ⟨_, _, ks, at' + 1, rfl, hd1, by omega, Nat.le_refl _⟩
    rw [ei, em]
    rintro i' bb ss v' ll pp hh0 M ⟨a1, b1, ks2, j, hC, hj1, hj2, hj3⟩ hM
    cases hC
    have hM : M 0 = ((at' : Int) + 1 + (Tr.ns ks : Nat) - (j : Int)).toNat := hM
    cases ks2 with
    | nil =>
      have h0 : Tr.ns [] = 0 := rfl
      rw [h0] at hj2
      rw [th_ite, if_neg (by simp [go_sem] <;> omega)]
      rw [then_step, th_ite, if_neg (by simp [go_sem] <;> omega)]
      rw [then_step, says_ret, ep]
      rw [hn1] at hφ
      simp [go_sem]
      have e : ((at' + (Tr.ns ks + 1) : Nat) : Int) = (at' : Int) + 1 + (Tr.ns ks : Nat) := by omega
      rw [e] at hφ
      exact hφ
    | cons u us =>
      have hu := u.n_pos
      have hns : Tr.ns (u :: us) = u.n + Tr.ns us := by unfold Tr.ns Tr.n; rw [nodss_cons, List.length_append]
      rw [nodss_cons, List.append_assoc] at hj1
      rw [th_ite, if_pos (by simp [go_sem] <;> omega)]
      rw [then_step, th_call, if_pos (by rfl), s_ctE]
      refine ⟨u.n, by omega, sl, N, j, u, _, by simp [go_sem], hN, hmax, hj1, rfl, ?_⟩
      simp [go_sem]
      rw [then_step, says_again, ei, em]
      refine ⟨⟨_, _, us, j + u.n, rfl, ?_, by omega, by omega⟩, ?_⟩
      · rw [← List.drop_drop, hj1]
        unfold Tr.n
        rw [List.drop_left]
      · show ((at' : Int) + 1 + (Tr.ns ks : Nat) - ((j : Int) + (u.n : Int))).toNat < M 0
        omega
def ctRight5 : Ct Tryz.prog where
  f := 8
  spec := fun args h φ => ∃ sl t, args = [sl.val] ∧ NS h sl (Tr.nods t) ∧ t.n ≤ 2000000 ∧ φ (.bool true) h
  ok := by
    rintro args h φ w ⟨sl, t, rfl, hN, hmax, hφ⟩ hH
    have hp := t.n_pos
    have hsn : sl.n = t.n := hN.1
    refine by_fm Tryz.func8 gen_r5right ps_r5right [ctEnd5 (end_ok5 (t.n + 1))] φ (noInv) (noMeas) ⟨[], [], [], [], [sl], [], h, noM⟩ ⟨rfl, rfl, rfl, rfl, rfl, rfl⟩ ones_nil ?_ w hH rfl
    generalize hE : (⟨specOf _, _, _, _⟩ : Env) = E
    have s_ctE : E.spec 15 = (ctEnd5 (end_ok5 (t.n + 1))).spec := by rw [← hE]; rfl
    have ep : E.post = φ := by rw [← hE]
    clear hE
    unfold fm_r5right
    rw [th_call, if_pos (by simp [go_sem, hsn]; omega), s_ctE]
    refine ⟨t.n, by omega, sl, t.nods, 0, t, [], by simp [go_sem], hN, hmax, by simp, rfl, ?_⟩
    simp [go_sem]
    rw [then_step, says_ret, ep]
    have hb : ltB 0 (t.n : Int) = true := by unfold ltB; rw [decide_eq_true_eq]; omega
    simp [go_sem, hsn, hb]
    exact hφ
def eqInv (h : Hp) (a b : Slc) (N : List Nod) : Nat → Ctx → Prop := fun _ C => ∃ j : Nat, ∃ y, C = ⟨[(j : Int)], [y], [], [], [a, b], [], h, noM⟩ ∧ j ≤ N.length
set_option maxHeartbeats 4000000 in
def ctEqual5 : Ct Tryz.prog where
  f := 7
  spec := fun args h φ => ∃ a b N, args = [a.val, b.val] ∧ NS h a N ∧ NS h b N ∧ N.length ≤ 2000000 ∧ φ (.bool true) h
  ok := by
    rintro args h φ w ⟨a, b, N, rfl, hA, hB, hmax, hφ⟩ hH
    have han := hA.1
    have hbn := hB.1
    refine by_fm Tryz.func7 gen_r5equal ps_r5equal [] φ (eqInv h a b N) (fun _ C => ((N.length : Int) - C.i.getD 0 0).toNat) ⟨[], [], [], [], [a, b], [], h, noM⟩ ⟨rfl, rfl, rfl, rfl, rfl, rfl⟩ ones_nil ?_ w hH rfl
    generalize hE : (⟨specOf _, _, _, _⟩ : Env) = E
    have ep : E.post = φ := by rw [← hE]
    have ei : E.inv = (eqInv h a b N) := by rw [← hE]
    have em : E.meas = (fun _ C => ((N.length : Int) - C.i.getD 0 0).toNat) := by rw [← hE]
    clear hE
    unfold fm_r5equal
    rw [th_ite, if_neg (by simp [go_sem, han, hbn])]
    rw [then_step]
    refine loop_intro ?_ ?_
    · rw [ei]
      exact ⟨0, _, rfl, Nat.zero_le _⟩
    rw [ei, em]
    rintro i' bb ss v' ll pp hh0 M ⟨j, y, hC, hj⟩ hM
    cases hC
    have hM : M 0 = ((N.length : Int) - (j : Int)).toNat := hM
    by_cases hjl : j < N.length
    · obtain ⟨ab, ac, AT, ar, ha, hab⟩ := hA.slc hjl
      obtain ⟨bb, bc, BT', br, hbs, hbb⟩ := hB.slc hjl
      have ra := NS.read hab hjl (off := 0) (n := 6) (by decide)
      have rb := NS.read hbb hjl (off := 0) (n := 6) (by decide)
      have hra : hread h (a.a.map fun x => (x.1, x.2 + j * 6 + 0)) 6 = some N[j].cs := by rw [ha]; simpa [Nod.cs] using ra
      have hrb : hread h (b.a.map fun x => (x.1, x.2 + j * 6 + 0)) 6 = some N[j].cs := by rw [hbs]; simpa [Nod.cs] using rb
      have haa : a.a.isSome = true := by rw [ha]; rfl
      have hba : b.a.isSome = true := by rw [hbs]; rfl
      rw [th_ite, if_pos (by simp [go_sem, han] <;> omega)]
      rw [then_step, th_load, if_pos (by rfl)]
      refine (exI_iff _ _).2 ⟨⟨[N[j].k, N[j].l, N[j].c, (N[j].z : Nat), N[j].n], [], [N[j].x], [], [], []⟩, rfl, ones_nil, by simpa [go_sem, Nod.cs] using hra, ?_⟩
      rw [then_step, th_load, if_pos (by rfl)]
      refine (exI_iff _ _).2 ⟨⟨[N[j].k, N[j].l, N[j].c, (N[j].z : Nat), N[j].n], [], [N[j].x], [], [], []⟩, rfl, ones_nil, by simpa [go_sem, Nod.cs] using hrb, ?_⟩
      rw [then_step, th_need]
      refine ⟨by simp [go_sem, han, haa] <;> omega, ?_⟩
      rw [then_step, th_need]
      refine ⟨by simp [go_sem, hbn, hba] <;> omega, ?_⟩
      rw [then_step, th_ite, if_neg (by simp [go_sem])]
      rw [then_step, th_need]
      refine ⟨by simp [go_sem] <;> omega, ?_⟩
      rw [then_step, says_again, ei, em]
      refine ⟨⟨j + 1, _, rfl, hjl⟩, ?_⟩
      show ((N.length : Int) - ((j : Int) + 1)).toNat < M 0
      omega
    · rw [th_ite, if_neg (by simp [go_sem, han] <;> omega)]
      rw [then_step, says_ret, ep]
      exact hφ
end Go.Proofs.YthlakehilhpojaaGreatDoor
namespace Go.Proofs.YthlakehilhpojaaGreatDoor
open Go.RowKit
attribute [local go_sem] says_tt says_ff th_need th_ite th_call th_callK th_load th_store says_ret says_again BE.den IE.den SE.den LE.den AE.den CE.den PE.den VE.den KV.val Got.den Got.cnt exI allI exL allL Ctx.push Ctx.heap Ctx.cut Ctx.bare Ctx.mark Inc.blank List.getD_cons_zero List.getD_cons_succ List.cons_append List.nil_append List.append_nil List.map_cons List.map_nil List.replicate_zero List.replicate_succ specOf ltB_t leB_t ltB_f leB_f slc_val slc_nil slc_inj pt_val pt_nil hle_noHeap hle_refl hread_set hwrite_set set_same set_set noHeap_at B_inj ones_nil and_assoc
def fm_lexprs : Fm := (.ite (.lt (.c 3000) (.len (.x 0)))
  (.call (.c true) false 4 [] (.p (.one (.b (.x 0)))) ⟨0, 1, 0, 0, 0, 0⟩
  (.ret (.p (.one (.b (.x 0))))))
  (.call (.c true) false 5 [(.one (.s (.x 0)))] (.tup [(.one (.sl (.x 0))), (.agg [(.i .i64 (.x 0)), (.i .i64 (.x 1)), (.i .i64 (.x 2))])]) ⟨3, 0, 0, 0, 1, 0⟩
  (.call (.c true) false 6 [(.one (.s (.x 0)))] (.tup [(.one (.sl (.x 1))), (.agg [(.i .i64 (.x 3)), (.i .i64 (.x 4)), (.i .i64 (.x 5))])]) ⟨3, 0, 0, 0, 1, 0⟩
  (.call (.c true) false 7 [(.one (.sl (.x 0))), (.one (.sl (.x 1)))] (.p (.one (.b (.x 0)))) ⟨0, 1, 0, 0, 0, 0⟩
  (.ite (.or (.not (.x 0)) (.not (.and (.eqI (.x 0) (.x 3)) (.and (.eqI (.x 1) (.x 4)) (.eqI (.x 2) (.x 5))))))
  (.ret (.p (.one (.b (.c false)))))
  (.call (.eqI (.x 0) (.c 0)) false 8 [(.one (.sl (.x 0)))] (.p (.one (.b (.x 1)))) ⟨0, 1, 0, 0, 0, 0⟩
  (.need (.and (.eqI (.x 0) (.c 0)) (.x 1)) (.and (.and (.le (.c 0) (.c 0)) (.lt (.c 0) (.cnt (.x 0)))) (.nns (.x 0)))
  (.need (.and (.eqI (.x 0) (.c 0)) (.x 1)) (.nns (.x 0))
  (.load (.and (.eqI (.x 0) (.c 0)) (.x 1)) (.el (.x 0) (.c 0) 6 0) 1 [(.i .u8 (.x 6))] ⟨1, 0, 0, 0, 0, 0⟩
  (.need (.and (.eqI (.x 0) (.c 0)) (.and (.x 1) (.le (.c 21) (.x 6)))) (.and (.and (.le (.c 0) (.c 0)) (.lt (.c 0) (.cnt (.x 0)))) (.nns (.x 0)))
  (.need (.and (.eqI (.x 0) (.c 0)) (.and (.x 1) (.le (.c 21) (.x 6)))) (.nns (.x 0))
  (.load (.and (.eqI (.x 0) (.c 0)) (.and (.x 1) (.le (.c 21) (.x 6)))) (.el (.x 0) (.c 0) 6 0) 1 [(.i .u8 (.x 7))] ⟨1, 0, 0, 0, 0, 0⟩
  (.call (.or (.not (.eqI (.x 0) (.c 0))) (.and (.and (.x 1) (.le (.c 21) (.x 6))) (.le (.x 7) (.c 32)))) false 4 [] (.p (.one (.b (.x 2)))) ⟨0, 1, 0, 0, 0, 0⟩
  (.ret (.p (.one (.b (.and (.or (.not (.eqI (.x 0) (.c 0))) (.and (.and (.x 1) (.le (.c 21) (.x 6))) (.le (.x 7) (.c 32)))) (.x 2)))))))))))))))))))
theorem gen_lexprs : genFn ⟨true, []⟩ Tryz.prog (fun l => ([] : List LAnn).getD l ⟨[], [], []⟩) Tryz.f3 = fm_lexprs := by kernel_rfl
theorem ps_lexprs : freshPs Tryz.prog .zero Tryz.f3.params.toList = some ([(.one (.s (.x 0)))], ⟨0, 0, 1, 0, 0, 0⟩) := by kernel_rfl
set_option maxHeartbeats 4000000 in
theorem law_exprs_l (s : List UInt8) (w : World) : Calls Tryz.prog 3 #[.string (B s)] w fun e w' => e = .returned (.bool true) ∧ Below w.heap.size w w' := by
  refine by_fm0 Tryz.func3 gen_lexprs ps_lexprs [ctAwake06, ctPExpr, ctRefExpr, ctEqual5, ctRight5] _ noInv noMeas ⟨[], [], [s], [], [], [], noHeap, noM⟩ rfl ⟨rfl, rfl, rfl, rfl, rfl, rfl⟩ ones_nil ?_ w rfl
  generalize hE : (⟨specOf _, _, _, _⟩ : Env) = E
  have s_a : E.spec 4 = ctAwake06.spec := by rw [← hE]; rfl
  have s_p : E.spec 5 = ctPExpr.spec := by rw [← hE]; rfl
  have s_q : E.spec 6 = ctRefExpr.spec := by rw [← hE]; rfl
  have s_e : E.spec 7 = ctEqual5.spec := by rw [← hE]; rfl
  have s_r : E.spec 8 = ctRight5.spec := by rw [← hE]; rfl
  have ep : E.post = fun v _ => v = .bool true := by rw [← hE]
  clear hE
  unfold fm_lexprs
  by_cases hlen : 3000 < s.length
  · rw [th_ite, if_pos (by simp [go_sem]; omega)]
    rw [then_step, th_call, if_pos (by rfl), s_a]
    refine ⟨rfl, ?_⟩
    simp [go_sem]
    simp only [then_step]; simp [go_sem, ep]
  rw [th_ite, if_neg (by simp [go_sem]; omega)]
  obtain ⟨⟨f, t⟩, hft⟩ := parse_some false s
  rw [then_step, th_call, if_pos (by rfl), s_p]
  refine ⟨s, rfl, ?_⟩
  unfold parseS
  rw [if_neg (by omega)]
  intro f' t' hft'
  rw [hft] at hft'
  cases hft'
  by_cases hf : f.1 = 0
  · obtain ⟨hl0, htn, hkd, _⟩ := parse_red hft hf
    obtain ⟨⟨k1, k2⟩, _⟩ := hkd rfl
    rw [if_pos hf]
    intro sl k hk ho hn
    have hNS : NS k sl t.nods := NS.of_own ho (by rw [hn]; rfl)
    have htl : t.nods.length = t.n := rfl
    simp [go_sem, fltv]
    rw [then_step, th_call, if_pos (by rfl), s_q]
    refine ⟨s, rfl, by omega, fun f2 t2 hft2 => ?_⟩
    rw [hft] at hft2
    cases hft2
    rw [if_pos hf]
    intro s2 h2 hk2 hNS2
    simp [go_sem, fltv]
    rw [then_step, th_call, if_pos (by rfl), s_e]
    refine ⟨sl, s2, t.nods, by simp [go_sem], hNS.le hk2, hNS2, by omega, ?_⟩
    simp [go_sem]
    rw [then_step, th_ite, if_neg (by simp [go_sem])]
    rw [then_step, th_call, if_pos (by simp [go_sem]), s_r]
    refine ⟨sl, t, by simp [go_sem], hNS.le hk2, by omega, ?_⟩
    have hpos : 0 < t.nods.length := t.n_pos
    have hsn := hNS.1
    obtain ⟨b, c, T, r, hsl, hb⟩ := (hNS.le hk2).slc hpos
    have hsa : sl.a.isSome = true := by rw [hsl]; rfl
    have hk0 : t.nods[0].k = t.k := by cases t; rfl
    have hrd : hread h2 (sl.a.map fun x => (x.1, x.2)) 1 = some [.int .u8 t.k] := by
      have := NS.read hb hpos (off := 0) (n := 1) (by decide)
      rw [hsl, ← hk0]; simpa [Nod.cs] using this
    simp [go_sem]
    iterate 2 (rw [then_step, th_need]; refine ⟨by simp [go_sem, hsn, hsa] <;> omega, ?_⟩)
    rw [then_step, th_load, if_pos (by simp [go_sem])]
    refine (exI_iff _ _).2 ⟨⟨[t.k], [], [], [], [], []⟩, rfl, ones_nil, by simpa [go_sem] using hrd, ?_⟩
    iterate 2 (rw [then_step, th_need]; refine ⟨by simp [go_sem, hsn, hsa] <;> omega, ?_⟩)
    rw [then_step, th_load, if_pos (by simp [go_sem]; omega)]
    refine (exI_iff _ _).2 ⟨⟨[t.k], [], [], [], [], []⟩, rfl, ones_nil, by simpa [go_sem] using hrd, ?_⟩
    rw [then_step, th_call, if_pos (by simp [go_sem]; omega), s_a]
    refine ⟨rfl, ?_⟩
    simp [go_sem]
    simp only [then_step]; simp [go_sem, ep]
    omega
  · rw [if_neg hf]
    simp [go_sem, fltv]
    rw [then_step, th_call, if_pos (by rfl), s_q]
    refine ⟨s, rfl, by omega, fun f2 t2 hft2 => ?_⟩
    rw [hft] at hft2
    cases hft2
    rw [if_neg hf]
    intro s2 h2 hk2 hn2
    simp [go_sem, fltv]
    rw [then_step, th_call, if_pos (by rfl), s_e]
    refine ⟨⟨none, 0, 0⟩, s2, [], by simp [go_sem, Slc.val], NS.nil rfl, NS.nil hn2, by simp, ?_⟩
    simp [go_sem]
    rw [then_step, th_ite, if_neg (by simp [go_sem])]
    rw [then_step, th_call, if_neg (by simp [go_sem]; exact hf)]
    simp [go_sem]
    iterate 2 (rw [then_step, th_need]; refine ⟨by simp [go_sem], ?_⟩)
    rw [then_step, th_load, if_neg (by simp [go_sem])]
    iterate 2 (rw [then_step, th_need]; refine ⟨by simp [go_sem], ?_⟩)
    rw [then_step, th_load, if_neg (by simp [go_sem])]
    rw [then_step, th_call, if_pos (by simp [go_sem, hf]), s_a]
    refine ⟨rfl, ?_⟩
    simp [go_sem]
    simp only [then_step]; simp [go_sem, ep, hf]
theorem law_exprs (s : ByteArray) (w : World) : Calls Tryz.prog 3 #[.string s] w fun e w' => e = .returned (.bool true) ∧ Below w.heap.size w w' := by
  rw [string_B s]; exact law_exprs_l _ w
end Go.Proofs.YthlakehilhpojaaGreatDoor
namespace Go.Proofs.YthlakehilhpojaaGreatDoor
open Go.ChangeShapes Go.WideShapes Go.ChangeAt Go.RowKit

theorem own : ownKnob Tryz.prog.godebug = none := by kernel_rfl
theorem laidOutB : laidOutB Tryz.prog = true := by kernel_rfl

/-- Arguments below a world's end read again as they did. -/
theorem all_stay {H : Type} {enc : TypeId × Value → H} {W W' : World} (hb : Below W.heap.size W W') :
    ∀ (ts : List TypeId) (vs : List Value) (ds : List (DataW H)) (ps : List MemPlace), (∀ t ∈ ts, Tryz.prog.readableRec t = true ∧ t < Tryz.prog.types.size) → (∀ x ∈ ps, x.block < W.heap.size) →
    DataW.TrodAll enc Tryz.prog W 0 (fun _ => true) true ts vs ds ps → DataW.TrodAll enc Tryz.prog W' 0 (fun b => decide (b < W.heap.size)) true ts vs ds ps := by
  intro ts
  induction ts with
  | nil =>
    intro vs ds ps _ _ h
    obtain ⟨rfl, rfl, rfl⟩ := trodAll_nil h
    exact trodAll_mk0
  | cons t ts ih =>
    intro vs ds ps ht hp h
    obtain ⟨v, vs', d, ds', p, q, rfl, rfl, rfl, h1, h2⟩ := trodAll_cons h
    have h3 := ht t (by simp)
    exact trodAll_cons_mk (Below.trod laidOutB h3.1 h3.2 h1 hb (fun x hx => hp x (by simp [hx]))) (ih vs' ds' q (fun u hu => ht u (by simp [hu])) (fun x hx => hp x (by simp [hx])) h2)

/-- A LAW's END: it answers true, and below the world's end nothing has turned. -/
theorem law_end {H : Type} {enc : TypeId × Value → H} {s : ChangeSpec} {f : Func} {W W' : World} {args : Array Value} {ds gs : List (DataW H)} {before : List MemPlace}
    (hv : s.vars = []) (hres : f.resultTypes.toList = [4]) (hs1 : f.resultTypes.size = 1) (hts : ∀ t ∈ f.params.toList, Tryz.prog.readableRec t = true ∧ t < Tryz.prog.types.size)
    (hfn : s.fn H ds = { results := [.lit (.bool true)], args := ds })
    (hW : DataW.Whole enc Tryz.prog f.params.toList s.vars false W args.toList ds gs before) (hb : Below W.heap.size W W') :
    s.post enc Tryz.prog f false true false false W args (.bool true) W' := by
  have hW0 := hW
  have hlt := hW.lt
  obtain ⟨p, q, hA, hV, hpq, hfz, hnd⟩ := hW
  rw [hv] at hV
  obtain ⟨rfl, rfl⟩ := trodVars_none hV
  rw [List.append_nil] at hpq
  subst hpq
  have e : s.fn H (ds ++ []) = { results := [.lit (.bool true)], args := ds } := by rw [List.append_nil]; exact hfn
  refine ⟨ds, [], before, [], before, [], hW0, ?_, ?_, ?_, hb.frame _, fun h => by cases h⟩
  · rw [e, hres, hs1]
    exact trodAll_mk1 (shut_bool Tryz.underlying4 true)
  · rw [e]
    exact all_stay hb _ _ _ _ hts hlt hA
  · rw [e, hv]; rfl
end Go.Proofs.YthlakehilhpojaaGreatDoor
namespace Go.Proofs.YthlakehilhpojaaGreatDoor
open Go.ChangeShapes Go.WideShapes Go.ChangeAt Go.RowKit

def firstCells : Array Value := (Lib.firstTab.map (Value.int .u8)).toArray
def acceptCells : Array Value := #[.int .u8 128, .int .u8 191, .int .u8 160, .int .u8 191, .int .u8 128, .int .u8 159, .int .u8 144, .int .u8 191, .int .u8 128, .int .u8 143, .int .u8 0, .int .u8 0, .int .u8 0, .int .u8 0, .int .u8 0, .int .u8 0, .int .u8 0, .int .u8 0, .int .u8 0, .int .u8 0, .int .u8 0, .int .u8 0, .int .u8 0, .int .u8 0, .int .u8 0, .int .u8 0, .int .u8 0, .int .u8 0, .int .u8 0, .int .u8 0, .int .u8 0, .int .u8 0]
def putCells (c : Array Value) : Obj → Obj
  | .cells _ t frozen => .cells c t frozen
  | o => o
noncomputable def laidWorld (os : Os) : World :=
  { World.holding Tryz.prog os ⟨#[], #[], []⟩ with heap := ((World.holding Tryz.prog os ⟨#[], #[], []⟩).heap.modify 0 (putCells firstCells)).modify 1 (putCells acceptCells) }
end Go.Proofs.YthlakehilhpojaaGreatDoor
namespace Go.Proofs.YthlakehilhpojaaGreatDoor.parseExprs
open Go.ChangeShapes Go.WideShapes Go.ChangeAt Go.RowKit Go.Joins
open Go.ChangeMaps (open_string)

theorem param_types : ∀ t ∈ Tryz.f3.params.toList, Tryz.prog.readableRec t = true ∧ t < Tryz.prog.types.size := by
  rw [Tryz.params3]
  intro t ht
  have hm : t ∈ [9] := by simpa using ht
  have hall : ([9].all fun u => Tryz.prog.readableRec u && decide (u < Tryz.prog.types.size)) = true := by kernel_rfl
  have := List.all_eq_true.1 hall t hm
  simpa using this

set_option maxRecDepth 100000 in
theorem contract (H : Type) (enc : TypeId × Value → H) (W : World) (base : Nat) (args : Array Value) (ds gs : List (DataW H)) (before : List MemPlace)
    (hval : ∀ (j : Nat) t v, Tryz.f3.params[j]? = some t → args[j]? = some v → Value.okWide Tryz.prog W .any base t v)
    (hW : DataW.Whole enc Tryz.prog Tryz.f3.params.toList Rows.parseExprsSpec.vars false W args.toList ds gs before) (_hL : laidMetH Tryz.prog Rows.parseExprsRow.laid W) :
    Calls Tryz.prog 3 args W fun e W' => ∃ v, e = .returned v ∧ Rows.parseExprsSpec.post enc Tryz.prog Tryz.f3 false true false false W args v W' := by
  have hW' := hW
  obtain ⟨p, q, hA0, hV, rfl, hfz, hnd⟩ := hW
  have hA : DataW.TrodAll enc Tryz.prog W 0 (fun _ => true) true Tryz.f3.params.toList args.toList ds p := hA0
  rw [Tryz.params3] at hA hval
  obtain ⟨v0, vs0, d0, ds0, p0, q0, hargs, rfl, rfl, h0, r0⟩ := trodAll_cons hA
  obtain ⟨rfl, rfl, rfl⟩ := trodAll_nil r0
  obtain rfl : args = #[v0] := by cases args; simp_all
  obtain ⟨x0, rfl, rfl, rfl, w0⟩ := open_string Tryz.underlying9 (hval 0 9 v0 rfl rfl) h0
  refine (law_exprs x0 W).mono fun e W' ⟨he, hb⟩ => ?_
  subst he
  exact ⟨_, rfl, law_end rfl (by kernel_rfl) (by kernel_rfl) param_types rfl hW' hb⟩

theorem laid_met (os : Os) : laidMet Tryz.prog Rows.parseExprsRow.laid ((laidWorld os).forCall (fun _ _ => 0) ⟨#[], #[.string ⟨#[]⟩], []⟩).memory :=
  laidMet_of_run' 8 (by kernel_rfl) (by kernel_rfl)
theorem reads (os : Os) {H : Type} (enc : TypeId × Value → H) : ∃ places, DataW.whole enc Tryz.prog ((laidWorld os).forCall (fun _ _ => 0) ⟨#[], #[.string ⟨#[]⟩], []⟩).memory Tryz.f3.params.toList Rows.parseExprsSpec.vars false (#[.string ⟨#[]⟩] : Array Value).toList 8 = some ([.lit (.string [])], [], places) :=
  ⟨[], by kernel_rfl⟩

set_option maxRecDepth 100000 in
theorem lifted (os : Os) (started : os.Started) (H : Type) (enc : TypeId × Value → H) (F : Stop.Interp) :
    ReturnsInHanded {} Tryz.checked os 3 .any ((OpenSpec.ofChange Rows.parseExprsSpec).preRow enc Tryz.prog Tryz.f3 Rows.parseExprsRow.domain false Rows.parseExprsRow.laid) (((OpenSpec.ofChange Rows.parseExprsSpec).at F).post enc Tryz.prog Tryz.f3 false true false false) := by
  obtain ⟨places, hx⟩ := reads os enc
  refine returnsInHanded_of_row (C := Tryz.checked) (s := OpenSpec.ofChange Rows.parseExprsSpec) own started (by kernel_rfl) Tryz.func3
    (witness_row_at (enc := enc) (C := Tryz.checked) false (laidWorld os) #[.string ⟨#[]⟩] rfl (by kernel_rfl) (by kernel_rfl) (by kernel_rfl)
      (OpenSpec.preRow_of_cond 8 hx (by kernel_rfl) (fun k hk => by cases hk) (by kernel_rfl) (laid_met os))) ?_
  intro W base args ds gs before hval hW _ _ _ hL _ _
  exact contract H enc W base args ds gs before hval hW hL

theorem said : Rows.ParseExprsSaid :=
  OpenClaim.holds_of_cond 3 Tryz.f3 rfl rfl rfl rfl rfl rfl rfl ⟨rfl, rfl, rfl, rfl, rfl⟩ rfl rfl rfl rfl rfl (by kernel_rfl) Tryz.func3 (by kernel_rfl)
    (of_decide_eq_true (by kernel_rfl)) (by unfold Func.isWrapper; first | (rw [if_pos (by decide +kernel)]; kernel_rfl) | (rw [if_neg (by decide +kernel)]; exact ⟨rfl, rfl⟩))
    (fun os started H enc _ F => by rw [OpenClaim.pre_eq_preRow]; exact lifted os started H enc F)

theorem plain (f : FuncId) (fn : Func) (hf : Tryz.pinned.checked.prog.funcNamed "hindcast/hindcastlaw06.ParseExprs" = some f) (hfn : Tryz.pinned.checked.prog.funcs[f]? = some fn) :
    false = Tryz.pinned.checked.prog.looks [] ∧ ∀ (j : Nat) t, fn.params[j]? = some t → Tryz.pinned.checked.prog.wantsStandIn t = false := by
  obtain rfl : f = 3 := Option.some.inj ((show Tryz.prog.funcNamed "hindcast/hindcastlaw06.ParseExprs" = some 3 by kernel_rfl).symm.trans hf) |>.symm
  obtain rfl : fn = Tryz.f3 := (Option.some.inj (Tryz.func3.symm.trans hfn)).symm
  refine ⟨by kernel_rfl, fun j t ht => ?_⟩
  rw [Tryz.params3] at ht
  have hm : t ∈ [9] := by simpa using Array.mem_of_getElem? ht
  have hall : ([9].all fun u => !Tryz.prog.wantsStandIn u) = true := by kernel_rfl
  exact (show Tryz.prog.wantsStandIn t = false by simpa using List.all_eq_true.1 hall t hm)

/-- THE CARD. -/
theorem card : Rows.ParseExprsCardSaid :=
  Claim7.holds_tied_plain_at .later [] _ _ _ _ said (fun _ h => by cases h) (by kernel_rfl) (fun _ h => by cases h) parseExprs_row_tie rfl ⟨rfl, rfl⟩ (by kernel_rfl) rfl plain (by kernel_rfl)
end Go.Proofs.YthlakehilhpojaaGreatDoor.parseExprs
