/- Tokens, part ZB: the reference's tokens. -/
import Derived.Test.YtogalfbemmcaaaaDoorLexZA
import Derived.Test.YtogalfbemmcaaaaDoorLexO
namespace Go.Proofs.YtogalfbemmcaaaaDoor
open Go.RowKit
attribute [local go_sem] says_tt says_ff th_need th_ite th_call th_load th_store says_ret says_again BE.den IE.den SE.den LE.den AE.den CE.den PE.den VE.den KV.val Got.den Got.cnt exI allI exL allL Ctx.push Ctx.heap Ctx.cut Ctx.bare Ctx.mark Inc.blank List.getD_cons_zero List.getD_cons_succ List.cons_append List.nil_append List.append_nil List.map_cons List.map_nil List.replicate_zero List.replicate_succ specOf ltB_t leB_t ltB_f leB_f slc_val slc_nil slc_inj pt_val pt_nil hle_noHeap hle_refl hread_set hwrite_set set_same set_set noHeap_at B_inj ones_nil and_assoc
def fm_rtokens : Fm := (.mk [] 33 0
  (.ite (.lt (.c 65536) (.len (.x 0)))
  (.ret (.tup [(.one (.sl (.x 0))), (.agg [(.i .i64 (.c 3)), (.i .i64 (.c 0)), (.i .i64 (.c 0))])]))
  (.mk [] 33 0
  (.call (.c true) false 24 [(.one (.s (.x 0))), (.one (.i .i64 (.c 0)))] (.p (.one (.i .i64 (.x 0)))) ⟨1, 0, 0, 0, 0, 0⟩
  (.loop 0 ⟨[(.x 0), (.c 0), (.c 1), (.c 1), (.c 0), (.c 0), (.c 0)], [], [], [], [.nil, (.x 1)], []⟩
  (.need (.c true) (.and (.le (.c 0) (.x 2)) (.le (.x 2) (.len (.x 0))))
  (.need (.c true) (.and (.le (.c (-9223372036854775808)) (.sub (.x 1) (.x 2))) (.le (.sub (.x 1) (.x 2)) (.c 9223372036854775807)))
  (.call (.c true) false 25 [(.one (.s (.sub (.x 0) (.x 2) (.len (.x 0))))), (.one (.i .i64 (.sub (.x 1) (.x 2))))] (.tup [(.one (.i .i64 (.x 8))), (.one (.i .i64 (.x 9)))]) ⟨2, 0, 0, 0, 0, 0⟩
  (.ite (.lt (.c 1) (.x 8))
  (.need (.c true) (.and (.le (.c (-9223372036854775808)) (.sub (.x 8) (.c 1))) (.le (.sub (.x 8) (.c 1)) (.c 9223372036854775807)))
  (.need (.c true) (.and (.le (.c (-9223372036854775808)) (.add (.x 3) (.sub (.x 8) (.c 1)))) (.le (.add (.x 3) (.sub (.x 8) (.c 1))) (.c 9223372036854775807)))
  (.ite (.le (.len (.x 0)) (.x 1))
  (.mk [(.i .u8 (.c 8)), (.i .i64 (.add (.x 3) (.sub (.x 8) (.c 1)))), (.i .i64 (.x 9)), (.i .i64 (.c 0)), (.s (.c []))] 33 1
  (.app (.x 3) (.x 4) 5 48 33
  (.ret (.tup [(.one (.sl (.x 5))), (.agg [(.i .i64 (.c 0)), (.i .i64 (.c 0)), (.i .i64 (.c 0))])]))))
  (.call (.c true) false 13 [(.one (.s (.x 0))), (.one (.i .i64 (.x 1)))] (.tup [(.agg [(.i .u8 (.x 10)), (.i .i64 (.x 11)), (.i .i64 (.x 12)), (.i .i64 (.x 13)), (.s (.x 1))]), (.one (.i .i64 (.x 14))), (.one (.i .i64 (.x 15)))]) ⟨6, 0, 1, 0, 0, 0⟩
  (.ite (.not (.eqI (.x 15) (.c 0)))
  (.ret (.tup [(.one (.sl (.x 0))), (.agg [(.i .i64 (.x 15)), (.i .i64 (.add (.x 3) (.sub (.x 8) (.c 1)))), (.i .i64 (.x 9))])]))
  (.mk [(.i .u8 (.x 10)), (.i .i64 (.add (.x 3) (.sub (.x 8) (.c 1)))), (.i .i64 (.x 9)), (.i .i64 (.x 13)), (.s (.x 1))] 33 1
  (.app (.x 3) (.x 4) 5 48 33
  (.call (.c true) false 24 [(.one (.s (.x 0))), (.one (.i .i64 (.x 14)))] (.p (.one (.i .i64 (.x 16)))) ⟨1, 0, 0, 0, 0, 0⟩
  (.again 0 ⟨1, 0, 1, 0, 2, 0⟩ ⟨8, 0, 1, 0, 4, 0⟩ ⟨[(.x 16), (.x 1), (.add (.x 3) (.sub (.x 8) (.c 1))), (.x 9), (.x 5), (.x 6), (.x 7)], [], [], [], [(.x 2), (.x 5)], []⟩)))))))))
  (.need (.c true) (.and (.le (.c (-9223372036854775808)) (.sub (.x 9) (.c 1))) (.le (.sub (.x 9) (.c 1)) (.c 9223372036854775807)))
  (.need (.c true) (.and (.le (.c (-9223372036854775808)) (.add (.x 4) (.sub (.x 9) (.c 1)))) (.le (.add (.x 4) (.sub (.x 9) (.c 1))) (.c 9223372036854775807)))
  (.ite (.le (.len (.x 0)) (.x 1))
  (.mk [(.i .u8 (.c 8)), (.i .i64 (.x 3)), (.i .i64 (.add (.x 4) (.sub (.x 9) (.c 1)))), (.i .i64 (.c 0)), (.s (.c []))] 33 1
  (.app (.x 3) (.x 4) 5 48 33
  (.ret (.tup [(.one (.sl (.x 5))), (.agg [(.i .i64 (.c 0)), (.i .i64 (.c 0)), (.i .i64 (.c 0))])]))))
  (.call (.c true) false 13 [(.one (.s (.x 0))), (.one (.i .i64 (.x 1)))] (.tup [(.agg [(.i .u8 (.x 10)), (.i .i64 (.x 11)), (.i .i64 (.x 12)), (.i .i64 (.x 13)), (.s (.x 1))]), (.one (.i .i64 (.x 14))), (.one (.i .i64 (.x 15)))]) ⟨6, 0, 1, 0, 0, 0⟩
  (.ite (.not (.eqI (.x 15) (.c 0)))
  (.ret (.tup [(.one (.sl (.x 0))), (.agg [(.i .i64 (.x 15)), (.i .i64 (.x 3)), (.i .i64 (.add (.x 4) (.sub (.x 9) (.c 1))))])]))
  (.mk [(.i .u8 (.x 10)), (.i .i64 (.x 3)), (.i .i64 (.add (.x 4) (.sub (.x 9) (.c 1)))), (.i .i64 (.x 13)), (.s (.x 1))] 33 1
  (.app (.x 3) (.x 4) 5 48 33
  (.call (.c true) false 24 [(.one (.s (.x 0))), (.one (.i .i64 (.x 14)))] (.p (.one (.i .i64 (.x 16)))) ⟨1, 0, 0, 0, 0, 0⟩
  (.again 0 ⟨1, 0, 1, 0, 2, 0⟩ ⟨8, 0, 1, 0, 4, 0⟩ ⟨[(.x 16), (.x 1), (.x 3), (.add (.x 4) (.sub (.x 9) (.c 1))), (.x 5), (.x 6), (.x 7)], [], [], [], [(.x 2), (.x 5)], []⟩))))))))))))))))))
theorem gen_rtokens : genFn ⟨true, []⟩ Tryd.prog (fun l => ([⟨[8, 9, 7, 5, 2, 6], [25, 26, 27, 28, 29, 30, 31, 24, 32, 33, 10, 11, 34, 35, 36, 37, 38, 39, 40, 41, 42, 43, 44, 45, 46, 47, 48, 49, 50, 51, 52, 53, 54, 55, 56, 57, 59, 60, 61, 58, 62, 63, 64, 12, 13, 14, 65, 66, 67, 68, 69, 70, 71, 72, 73, 74, 75, 76, 77, 78, 79, 80, 81, 82], [3, 12]⟩] : List LAnn).getD l ⟨[], [], []⟩) Tryd.f10 = fm_rtokens := by kernel_rfl
theorem ps_rtokens : freshPs Tryd.prog .zero Tryd.f10.params.toList = some ([(.one (.s (.x 0)))], ⟨0, 0, 1, 0, 0, 0⟩) := by kernel_rfl
/-- Rows that are gathered. -/
structure GI (h : Hp) (sl : Slc) (xs : List Value) (ty : TypeId) (sz : Nat) (hh : Hp) : Prop where
  own : OwnS hh sl xs ty sz
  fresh : ∀ z, sl.a = some z → h z.1 = none
  kept : HLe h hh
theorem g_app {E : Env} {C : Ctx} {x y : LE} {f : Fm} {h : Hp} {sl : Slc} {xs : List Value} {ty : TypeId} {sz bytes : Nat} {hh : Hp} (I : GI h sl xs ty sz hh) (h1 : sl.n + 1 ≤ maxLen) (h2 : (sl.n + 1) * bytes ≤ 140737488355328) {b : Nat} (hb : hh b = none) {cs : List Value} (hcs : cs.length = sz) (ho : Ones cs)
    (hx : x.den C = sl) (hy : y.den C = ⟨some (b, 0), 1, 1⟩) (hC : C.h = hh.set b ⟨cs, ty⟩)
    (hk : ∀ s' k', GI h s' (xs ++ cs) ty sz k' → s'.n = sl.n + 1 → f.says E ((C.push ⟨[], [], [], [], [s'], []⟩).heap k')) :
    (Fm.app x y sz bytes ty f).says E C := by
  have hlt : ∀ z, sl.a = some z → z.1 ≠ b := fun z hz e => by
    rcases I.own with ⟨q, _⟩ | ⟨d, o, q1, q2, _⟩
    · rw [q] at hz; cases hz
    · rw [q1] at hz; cases hz; subst e; rw [hb] at q2; cases q2
  rw [says_app, hx, hy, hC]
  refine ⟨xs, cs, own_set I.own hlt _, ⟨by simp, ?_⟩, ho, h1, h2, fun s' k' g1 g2 g3 g4 => ?_⟩
  · rw [hread_set, if_pos (by simp [hcs])]
    simp [List.take_of_length_le, hcs]
  · refine hk s' k' ⟨g1, fun z hz => ?_, fun d o hd => ?_⟩ g2
    · rcases g3 z hz with ⟨y', hy', e⟩ | hn
      · rw [← e]; exact I.fresh y' hy'
      · have m1 : z.1 ≠ b := fun e => by rw [e, set_same] at hn; cases hn
        rw [set_ne _ m1] at hn
        cases hq : h z.1 with
        | none => rfl
        | some o => rw [I.kept _ _ hq] at hn; cases hn
    · refine g4 d o (fun z hz e => by have := I.fresh z hz; rw [e, hd] at this; cases this) ?_
      rw [set_ne _ (fun e => by have := I.kept d o hd; rw [e, hb] at this; cases this)]
      exact I.kept d o hd
theorem adv_one (l : List UInt8) : 1 ≤ (adv (1, 1) l).1 := by
  have : ∀ (l : List UInt8) (p : Int × Int), 1 ≤ p.1 → 1 ≤ (adv p l).1 := by
    intro l
    induction l with
    | nil => intro p h; exact h
    | cons c t ih =>
      intro p h
      refine ih (ad p c.toNat) ?_
      unfold ad; split <;> simp <;> omega
  exact this l (1, 1) (by decide)
theorem adv_rel (p : Int × Int) (l : List UInt8) : adv p l = if 1 < (adv (1, 1) l).1 then (p.1 + ((adv (1, 1) l).1 - 1), (adv (1, 1) l).2) else (p.1, p.2 + ((adv (1, 1) l).2 - 1)) := by
  have key : ∀ r : List UInt8, adv p r.reverse = if 1 < (adv (1, 1) r.reverse).1 then (p.1 + ((adv (1, 1) r.reverse).1 - 1), (adv (1, 1) r.reverse).2) else (p.1, p.2 + ((adv (1, 1) r.reverse).2 - 1)) := by
    intro r
    induction r with
    | nil => simp [adv]
    | cons c t ih =>
      have hs : ∀ q, adv q (c :: t).reverse = ad (adv q t.reverse) c.toNat := fun q => by
        rw [List.reverse_cons, adv_app]; rfl
      have h1 := adv_one t.reverse
      rw [hs p, hs (1, 1), ih]
      generalize adv (1, 1) t.reverse = r at *
      obtain ⟨a, b⟩ := r
      simp only at h1 ⊢
      unfold ad
      have h2 : 1 < a + 1 := by omega
      by_cases hc : (c.toNat : Int) = 10
      · by_cases ha : 1 < a <;> simp [hc, ha, h2] <;> omega
      · by_cases ha : 1 < a <;> simp [hc, ha] <;> omega
  have := key l.reverse
  rwa [List.reverse_reverse] at this
def tInv (h : Hp) (s : List UInt8) (_ : Nat) (C : Ctx) : Prop :=
  ∃ x0 i0 j frm line col d5 d6 d7 n0 o0 l2 sl acc hh m, C = ⟨[x0, (j : Nat), (frm : Nat), line, col, d5, d6, d7], [], [s], [], [n0, o0, l2, sl], [], hh, noM⟩ ∧ GI h sl (tcs acc) TK 5 hh ∧ sl.n = acc.length ∧ acc.length ≤ i0 ∧ i0 ≤ s.length ∧ j = i0 + ski false s i0 ∧ frm ≤ j ∧
    pl s frm = (line, col) ∧ s.length < m + i0 ∧ lexAll s = lexA m s i0 (pl s i0) acc ∧ n0.n = 0
set_option maxRecDepth 100000 in
set_option maxHeartbeats 8000000 in
def ctRTokens : Ct Tryd.prog where
  f := 10
  spec := fun args h φ => ∃ s, args = [.string (B s)] ∧ s.length ≤ 1000000 ∧
    (if 65536 < s.length then ∀ sl : Slc, sl.n = 0 → φ (.tuple #[sl.val, .agg #[.int .i64 3, .int .i64 0, .int .i64 0]]) h
      else if (lexAll s).1.1 = 0 then ∀ sl k, HLe h k → TS k sl (lexAll s).2 → φ (.tuple #[sl.val, .agg #[.int .i64 0, .int .i64 0, .int .i64 0]]) k
      else ∀ sl : Slc, sl.n = 0 → φ (.tuple #[sl.val, .agg #[.int .i64 (lexAll s).1.1, .int .i64 (lexAll s).1.2.1, .int .i64 (lexAll s).1.2.2]]) h)
  ok := by
    rintro args h φ w ⟨s, rfl, hlen, hφ⟩ hH
    refine ct_forget (by_fm Tryd.func10 gen_rtokens ps_rtokens [ctRSkip, ctPlace, ctROne] (fun v k => ∃ k', HLe k' k ∧ φ v k') (tInv h s) (fun _ C => ((s.length : Int) - C.i.getD 1 0).toNat) ⟨[], [], [s], [], [], [], h, noM⟩ ⟨rfl, rfl, rfl, rfl, rfl, rfl⟩ ones_nil ?_ w hH rfl)
    generalize hE : (⟨specOf _, _, _, _⟩ : Env) = E
    have s1 : E.spec 24 = ctRSkip.spec := by rw [← hE]; rfl
    have s2 : E.spec 25 = ctPlace.spec := by rw [← hE]; rfl
    have s3 : E.spec 13 = ctROne.spec := by rw [← hE]; rfl
    have ep : E.post = fun v k => ∃ k', HLe k' k ∧ φ v k' := by rw [← hE]
    have ei : E.inv = tInv h s := by rw [← hE]
    have em : E.meas = fun _ C => ((s.length : Int) - C.i.getD 1 0).toNat := by rw [← hE]
    clear hE
    unfold fm_rtokens
    rw [th_mk]
    intro b0 hb0
    have hle0 : HLe h (h.set b0 ⟨[], TK⟩) := hle_set hb0 _
    rw [then_step, th_ite]
    by_cases h6 : 65536 < s.length
    · rw [if_pos h6] at hφ
      rw [if_pos (by simp [go_sem]; omega), then_step, says_ret, ep]
      exact ⟨h, hle0, hφ ⟨some (b0, 0), 0, 0⟩ rfl⟩
    rw [if_neg h6] at hφ
    rw [if_neg (by simp [go_sem]; omega), then_step, th_mk]
    intro b1 hb1
    rw [then_step, th_call, if_pos (by rfl), s1]
    refine ⟨s, 0, rfl, by omega, by omega, by omega, (fun h => by cases h), ?_⟩
    simp [go_sem]
    rw [then_step]
    refine loop_intro ?_ ?_
    · rw [ei]
      have hb1' : (h.set b0 ⟨[], TK⟩) b1 = none := hb1
      refine ⟨ski false s 0, 0, ski false s 0, 0, 1, 1, 0, 0, 0, ⟨some (b0, 0), 0, 0⟩, ⟨some (b1, 0), 0, 0⟩, ⟨none, 0, 0⟩, ⟨some (b1, 0), 0, 0⟩, [], (h.set b0 ⟨[], TK⟩).set b1 ⟨[], TK⟩, s.length + 1, rfl, ⟨.inr ⟨b1, ⟨[], TK⟩, rfl, set_same _ _ _, rfl, rfl, Nat.le_refl _, Nat.zero_le _, rfl⟩, fun z hz => ?_, fun c o hc => hle_set hb1' _ c o (hle0 c o hc)⟩, rfl, Nat.le_refl _, by omega, by omega, by omega, by unfold pl; rw [sub_same]; rfl, by omega, rfl, rfl⟩
      cases hz
      cases hq : h b1 with
      | none => rfl
      | some o => rw [hle0 b1 o hq] at hb1'; cases hb1'
    · rw [ei, em]
      rintro i' bb ss v ll pp hh0 M ⟨x0, i0, j, frm, line, col, d5, d6, d7, n0, o0, l2, sl, acc, hh, m, hC, G, hn, hacc, hi0, hj, hfr, hpl, hm, hall, hn0⟩ hM
      cases hC
      have hM' : M 0 = ((s.length : Int) - j).toNat := hM
      clear hM hb0 hb1 hle0
      have hjl : j ≤ s.length := hj ▸ ski_le false hi0
      have hpj : adv (pl s frm) (sub s frm j) = pl s j := pl_add hfr hjl
      have hpi : adv (pl s i0) (sub s i0 j) = pl s j := pl_add (by omega) hjl
      have bj := pl_bd hjl
      have bf := pl_bd (show frm ≤ s.length by omega)
      obtain ⟨m', rfl⟩ : ∃ m', m = m' + 1 := ⟨m - 1, by omega⟩
      rw [lexA, ← hj, hpi] at hall
      have hdt : List.take (j - frm) (s.drop frm) = sub s frm j := by unfold sub; rw [List.drop_take]
      have hrel := adv_rel (pl s frm) (sub s frm j)
      rw [hpj, hpl] at hrel
      rw [hpl] at bf
      rw [th_need]
      refine ⟨by simp [go_sem]; omega, ?_⟩
      rw [then_step, th_need]
      refine ⟨by simp [go_sem]; omega, ?_⟩
      rw [then_step, th_call, if_pos (by rfl), s2]
      have hz1 : ((j : Int) - frm).toNat = j - frm := by omega
      refine ⟨s.drop frm, (j : Int) - frm, by simp [go_sem], by omega, by rw [List.length_drop]; omega, by rw [List.length_drop]; omega, (fun h => by cases h), ?_⟩
      have hsub0 : sub (s.drop frm) 0 (j - frm) = sub s frm j := by
        rw [← hdt]; rfl
      rw [hz1, hsub0]
      generalize adv (1, 1) (sub s frm j) = q at *
      obtain ⟨dl, dc⟩ := q
      simp only at hrel
      simp [go_sem]
      by_cases hd : 1 < dl
      · have hdl := hd
        rw [if_pos hd] at hrel
        rw [hrel] at hall bj
        simp only at hall bj
        rw [then_step, th_ite, if_pos (by simp [go_sem]; exact hd)]
        rw [then_step, th_need]
        refine ⟨by simp [go_sem]; omega, ?_⟩
        rw [then_step, th_need]
        refine ⟨by simp [go_sem]; omega, ?_⟩
        rw [then_step, th_ite]
        by_cases hje : j = s.length
        · rw [if_pos (by omega)] at hall
          rw [hall, if_pos rfl] at hφ
          rw [if_pos (by simp [go_sem]; omega), then_step, th_mk]
          intro b hb
          rw [then_step]
          refine g_app G (by unfold maxLen; omega) (by omega) hb (cs := (Tok.mk 8 (line + (dl - 1)) (dc) 0 []).cs) rfl (Tok.ones _) rfl rfl rfl (fun s' k' G' hn' => ?_)
          rw [says_ret, ep]
          exact ⟨k', fun _ _ h => h, hφ s' k' G'.kept (TS.of_own (by rw [tcs_app, tcs_one]; exact G'.own) (by rw [hn', hn]; simp))⟩
        rw [if_neg (by omega)] at hall
        rw [if_neg (by simp [go_sem]; omega), then_step, th_call, if_pos (by rfl), s3]
        have hjlt : j < s.length := by omega
        refine ⟨s, j, rfl, hjlt, by omega, ?_⟩
        by_cases hf : (one s j).f = 0
        · rw [if_pos hf] at hall ⊢
          obtain ⟨o1, o2, _⟩ := one_ok hjlt hf
          refine ⟨(fun h => by cases h), ?_⟩
          simp only [tkv]
          simp [go_sem]
          rw [then_step, th_ite, if_neg (by simp [go_sem]), then_step, th_mk]
          intro b hb
          rw [then_step]
          refine g_app G (by unfold maxLen; omega) (by omega) hb (cs := (Tok.mk (one s j).k (line + (dl - 1)) (dc) (one s j).n (one s j).x).cs) rfl (Tok.ones _) rfl rfl rfl (fun s' k' G' hn' => ?_)
          rw [th_call, if_pos (by rfl), s1]
          refine ⟨s, ((one s j).e : Nat), rfl, by omega, by omega, by omega, (fun h => by cases h), ?_⟩
          rw [Int.toNat_natCast]
          simp [go_sem]
          rw [then_step, says_again, ei, em]
          refine ⟨⟨x0, (one s j).e, (one s j).e + ski false s (one s j).e, j, line + (dl - 1), dc, d5, d6, d7, n0, o0, l2, s', acc ++ [⟨(one s j).k, line + (dl - 1), dc, (one s j).n, (one s j).x⟩], k', m', rfl, by rw [tcs_app, tcs_one]; exact G', by rw [hn', hn]; simp, by simp; omega, o2, rfl, by omega, hrel, by omega, by rw [hall, pl_add (by omega) o2], hn0⟩, ?_⟩
          show ((s.length : Int) - (((one s j).e : Int) + (ski false s (one s j).e : Int))).toNat < M 0
          omega
        · rw [if_neg hf] at hall ⊢
          rw [hall, if_neg hf] at hφ
          intro kk
          refine ⟨(fun h => by cases h), ?_⟩
          simp only [tkv]
          simp [go_sem]
          rw [then_step, th_ite, if_pos (by simp [go_sem]; exact hf), then_step, says_ret, ep]
          exact ⟨h, G.kept, hφ n0 hn0⟩
      · have hdl := hd
        rw [if_neg hd] at hrel
        rw [hrel] at hall bj
        simp only at hall bj
        rw [then_step, th_ite, if_neg (by simp [go_sem]; omega)]
        rw [then_step, th_need]
        refine ⟨by simp [go_sem]; omega, ?_⟩
        rw [then_step, th_need]
        refine ⟨by simp [go_sem]; omega, ?_⟩
        rw [then_step, th_ite]
        by_cases hje : j = s.length
        · rw [if_pos (by omega)] at hall
          rw [hall, if_pos rfl] at hφ
          rw [if_pos (by simp [go_sem]; omega), then_step, th_mk]
          intro b hb
          rw [then_step]
          refine g_app G (by unfold maxLen; omega) (by omega) hb (cs := (Tok.mk 8 (line) (col + (dc - 1)) 0 []).cs) rfl (Tok.ones _) rfl rfl rfl (fun s' k' G' hn' => ?_)
          rw [says_ret, ep]
          exact ⟨k', fun _ _ h => h, hφ s' k' G'.kept (TS.of_own (by rw [tcs_app, tcs_one]; exact G'.own) (by rw [hn', hn]; simp))⟩
        rw [if_neg (by omega)] at hall
        rw [if_neg (by simp [go_sem]; omega), then_step, th_call, if_pos (by rfl), s3]
        have hjlt : j < s.length := by omega
        refine ⟨s, j, rfl, hjlt, by omega, ?_⟩
        by_cases hf : (one s j).f = 0
        · rw [if_pos hf] at hall ⊢
          obtain ⟨o1, o2, _⟩ := one_ok hjlt hf
          refine ⟨(fun h => by cases h), ?_⟩
          simp only [tkv]
          simp [go_sem]
          rw [then_step, th_ite, if_neg (by simp [go_sem]), then_step, th_mk]
          intro b hb
          rw [then_step]
          refine g_app G (by unfold maxLen; omega) (by omega) hb (cs := (Tok.mk (one s j).k (line) (col + (dc - 1)) (one s j).n (one s j).x).cs) rfl (Tok.ones _) rfl rfl rfl (fun s' k' G' hn' => ?_)
          rw [th_call, if_pos (by rfl), s1]
          refine ⟨s, ((one s j).e : Nat), rfl, by omega, by omega, by omega, (fun h => by cases h), ?_⟩
          rw [Int.toNat_natCast]
          simp [go_sem]
          rw [then_step, says_again, ei, em]
          refine ⟨⟨x0, (one s j).e, (one s j).e + ski false s (one s j).e, j, line, col + (dc - 1), d5, d6, d7, n0, o0, l2, s', acc ++ [⟨(one s j).k, line, col + (dc - 1), (one s j).n, (one s j).x⟩], k', m', rfl, by rw [tcs_app, tcs_one]; exact G', by rw [hn', hn]; simp, by simp; omega, o2, rfl, by omega, hrel, by omega, by rw [hall, pl_add (by omega) o2], hn0⟩, ?_⟩
          show ((s.length : Int) - (((one s j).e : Int) + (ski false s (one s j).e : Int))).toNat < M 0
          omega
        · rw [if_neg hf] at hall ⊢
          rw [hall, if_neg hf] at hφ
          intro kk
          refine ⟨(fun h => by cases h), ?_⟩
          simp only [tkv]
          simp [go_sem]
          rw [then_step, th_ite, if_pos (by simp [go_sem]; exact hf), then_step, says_ret, ep]
          exact ⟨h, G.kept, hφ n0 hn0⟩
end Go.Proofs.YtogalfbemmcaaaaDoor
