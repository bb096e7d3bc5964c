/- hindcastlaw07: texts joined: TreD, TreU, TreV, TreO, TreP, TreW, TreX, TreY, TreZ, PreB, PreC, PreD, PreE, PreF, PreG, PreH, PreI, PreJ. -/
import Derived.Test.YtllbpdllkkcajaaGreatDoorPth
namespace Go.Proofs.YtllbpdllkkcajaaGreatDoor
open Go.RowKit
attribute [local go_sem] says_tt says_ff th_need th_ite th_call th_callK th_load th_store says_ret says_again BE.den IE.den SE.den LE.den AE.den CE.den PE.den VE.den KV.val Got.den Got.cnt exI allI exL allL Ctx.push Ctx.heap Ctx.cut Ctx.bare Ctx.mark Inc.blank List.getD_cons_zero List.getD_cons_succ List.cons_append List.nil_append List.append_nil List.map_cons List.map_nil List.replicate_zero List.replicate_succ specOf specL dynId ltB_t leB_t ltB_f leB_f slc_val slc_nil slc_inj pt_val pt_nil hle_noHeap hle_refl hread_set hwrite_set set_same set_set noHeap_at B_inj ones_nil and_assoc
def fm_lright : Fm := (.ite (.eqI (.x 0) (.c 2))
  (.mk [(.i .u8 (.c 3))] 5 1
  (.call (.c true) false 52 [(.one (.sl (.x 1)))] (.p (.one (.v 0))) ⟨0, 0, 0, 1, 0, 0⟩
  (.call (.c true) false 51 [(.agg [(.i .u8 (.x 0)), (.i .i64 (.x 1)), (.i .i64 (.x 2)), (.i .i64 (.x 3)), (.i .i64 (.x 4)), (.s (.x 0)), (.sl (.x 0))]), (.one (.v 0))] (.p (.one (.b (.x 0)))) ⟨0, 1, 0, 0, 0, 0⟩
  (.ret (.p (.one (.b (.x 0))))))))
  (.ite (.eqI (.x 0) (.c 3))
  (.mk [(.c (.fn 88))] 81 1
  (.call (.c true) false 87 [(.agg [(.i .u8 (.x 0)), (.i .i64 (.x 1)), (.i .i64 (.x 2)), (.i .i64 (.x 3)), (.i .i64 (.x 4)), (.s (.x 0)), (.sl (.x 0))]), (.one (.sl (.x 1)))] (.p (.one (.b (.x 0)))) ⟨0, 1, 0, 0, 0, 0⟩
  (.ret (.p (.one (.b (.x 0)))))))
  (.ite (.eqI (.x 0) (.c 5))
  (.mk [(.c (.fn 88))] 81 1
  (.call (.c true) false 87 [(.agg [(.i .u8 (.x 0)), (.i .i64 (.x 1)), (.i .i64 (.x 2)), (.i .i64 (.x 3)), (.i .i64 (.x 4)), (.s (.x 0)), (.sl (.x 0))]), (.one (.sl (.x 1)))] (.p (.one (.b (.x 0)))) ⟨0, 1, 0, 0, 0, 0⟩
  (.ret (.p (.one (.b (.x 0)))))))
  (.ite (.eqI (.x 0) (.c 20))
  (.mk [(.c (.fn 88))] 81 1
  (.call (.c true) false 87 [(.agg [(.i .u8 (.x 0)), (.i .i64 (.x 1)), (.i .i64 (.x 2)), (.i .i64 (.x 3)), (.i .i64 (.x 4)), (.s (.x 0)), (.sl (.x 0))]), (.one (.sl (.x 1)))] (.p (.one (.b (.x 0)))) ⟨0, 1, 0, 0, 0, 0⟩
  (.ret (.p (.one (.b (.x 0)))))))
  (.ite (.eqI (.x 0) (.c 4))
  (.call (.c true) false 89 [(.agg [(.i .u8 (.x 0)), (.i .i64 (.x 1)), (.i .i64 (.x 2)), (.i .i64 (.x 3)), (.i .i64 (.x 4)), (.s (.x 0)), (.sl (.x 0))])] (.p (.one (.b (.x 0)))) ⟨0, 1, 0, 0, 0, 0⟩
  (.ret (.p (.one (.b (.x 0))))))
  (.ite (.eqI (.x 0) (.c 6))
  (.call (.c true) false 90 [(.one (.i .u8 (.c 7))), (.one (.i .u8 (.c 13)))] (.p (.one (.v 0))) ⟨0, 0, 0, 1, 0, 0⟩
  (.call (.c true) false 51 [(.agg [(.i .u8 (.x 0)), (.i .i64 (.x 1)), (.i .i64 (.x 2)), (.i .i64 (.x 3)), (.i .i64 (.x 4)), (.s (.x 0)), (.sl (.x 0))]), (.one (.v 0))] (.p (.one (.b (.x 0)))) ⟨0, 1, 0, 0, 0, 0⟩
  (.ret (.p (.one (.b (.x 0)))))))
  (.ite (.eqI (.x 0) (.c 7))
  (.call (.c true) false 91 [(.agg [(.i .u8 (.x 0)), (.i .i64 (.x 1)), (.i .i64 (.x 2)), (.i .i64 (.x 3)), (.i .i64 (.x 4)), (.s (.x 0)), (.sl (.x 0))])] (.p (.one (.b (.x 0)))) ⟨0, 1, 0, 0, 0, 0⟩
  (.ret (.p (.one (.b (.x 0))))))
  (.ite (.eqI (.x 0) (.c 8))
  (.call (.c true) false 91 [(.agg [(.i .u8 (.x 0)), (.i .i64 (.x 1)), (.i .i64 (.x 2)), (.i .i64 (.x 3)), (.i .i64 (.x 4)), (.s (.x 0)), (.sl (.x 0))])] (.p (.one (.b (.x 0)))) ⟨0, 1, 0, 0, 0, 0⟩
  (.ret (.p (.one (.b (.x 0))))))
  (.ite (.eqI (.x 0) (.c 9))
  (.call (.c true) false 91 [(.agg [(.i .u8 (.x 0)), (.i .i64 (.x 1)), (.i .i64 (.x 2)), (.i .i64 (.x 3)), (.i .i64 (.x 4)), (.s (.x 0)), (.sl (.x 0))])] (.p (.one (.b (.x 0)))) ⟨0, 1, 0, 0, 0, 0⟩
  (.ret (.p (.one (.b (.x 0))))))
  (.ite (.eqI (.x 0) (.c 10))
  (.call (.c true) false 91 [(.agg [(.i .u8 (.x 0)), (.i .i64 (.x 1)), (.i .i64 (.x 2)), (.i .i64 (.x 3)), (.i .i64 (.x 4)), (.s (.x 0)), (.sl (.x 0))])] (.p (.one (.b (.x 0)))) ⟨0, 1, 0, 0, 0, 0⟩
  (.ret (.p (.one (.b (.x 0))))))
  (.ite (.eqI (.x 0) (.c 11))
  (.call (.c true) false 91 [(.agg [(.i .u8 (.x 0)), (.i .i64 (.x 1)), (.i .i64 (.x 2)), (.i .i64 (.x 3)), (.i .i64 (.x 4)), (.s (.x 0)), (.sl (.x 0))])] (.p (.one (.b (.x 0)))) ⟨0, 1, 0, 0, 0, 0⟩
  (.ret (.p (.one (.b (.x 0))))))
  (.ite (.eqI (.x 0) (.c 12))
  (.call (.c true) false 91 [(.agg [(.i .u8 (.x 0)), (.i .i64 (.x 1)), (.i .i64 (.x 2)), (.i .i64 (.x 3)), (.i .i64 (.x 4)), (.s (.x 0)), (.sl (.x 0))])] (.p (.one (.b (.x 0)))) ⟨0, 1, 0, 0, 0, 0⟩
  (.ret (.p (.one (.b (.x 0))))))
  (.ite (.eqI (.x 0) (.c 13))
  (.call (.c true) false 91 [(.agg [(.i .u8 (.x 0)), (.i .i64 (.x 1)), (.i .i64 (.x 2)), (.i .i64 (.x 3)), (.i .i64 (.x 4)), (.s (.x 0)), (.sl (.x 0))])] (.p (.one (.b (.x 0)))) ⟨0, 1, 0, 0, 0, 0⟩
  (.ret (.p (.one (.b (.x 0))))))
  (.ite (.eqI (.x 0) (.c 27))
  (.call (.c true) false 51 [(.agg [(.i .u8 (.x 0)), (.i .i64 (.x 1)), (.i .i64 (.x 2)), (.i .i64 (.x 3)), (.i .i64 (.x 4)), (.s (.x 0)), (.sl (.x 0))]), (.one (.c (.fn 92)))] (.p (.one (.b (.x 0)))) ⟨0, 1, 0, 0, 0, 0⟩
  (.ret (.p (.one (.b (.x 0))))))
  (.ite (.eqI (.x 0) (.c 28))
  (.mk [(.c (.fn 92)), (.c (.fn 92))] 81 2
  (.call (.c true) false 87 [(.agg [(.i .u8 (.x 0)), (.i .i64 (.x 1)), (.i .i64 (.x 2)), (.i .i64 (.x 3)), (.i .i64 (.x 4)), (.s (.x 0)), (.sl (.x 0))]), (.one (.sl (.x 1)))] (.p (.one (.b (.x 0)))) ⟨0, 1, 0, 0, 0, 0⟩
  (.ret (.p (.one (.b (.x 0)))))))
  (.ite (.eqI (.x 0) (.c 31))
  (.mk [(.c (.fn 92)), (.c (.fn 92))] 81 2
  (.call (.c true) false 87 [(.agg [(.i .u8 (.x 0)), (.i .i64 (.x 1)), (.i .i64 (.x 2)), (.i .i64 (.x 3)), (.i .i64 (.x 4)), (.s (.x 0)), (.sl (.x 0))]), (.one (.sl (.x 1)))] (.p (.one (.b (.x 0)))) ⟨0, 1, 0, 0, 0, 0⟩
  (.ret (.p (.one (.b (.x 0)))))))
  (.ite (.eqI (.x 0) (.c 29))
  (.mk [(.c (.fn 92))] 81 1
  (.call (.c true) false 87 [(.agg [(.i .u8 (.x 0)), (.i .i64 (.x 1)), (.i .i64 (.x 2)), (.i .i64 (.x 3)), (.i .i64 (.x 4)), (.s (.x 0)), (.sl (.x 0))]), (.one (.sl (.x 1)))] (.p (.one (.b (.x 0)))) ⟨0, 1, 0, 0, 0, 0⟩
  (.ret (.p (.one (.b (.x 0)))))))
  (.ite (.eqI (.x 0) (.c 30))
  (.mk [(.c (.fn 92))] 81 1
  (.call (.c true) false 87 [(.agg [(.i .u8 (.x 0)), (.i .i64 (.x 1)), (.i .i64 (.x 2)), (.i .i64 (.x 3)), (.i .i64 (.x 4)), (.s (.x 0)), (.sl (.x 0))]), (.one (.sl (.x 1)))] (.p (.one (.b (.x 0)))) ⟨0, 1, 0, 0, 0, 0⟩
  (.ret (.p (.one (.b (.x 0)))))))
  (.ite (.eqI (.x 0) (.c 32))
  (.mk [(.i .u8 (.c 19))] 5 1
  (.call (.c true) false 52 [(.one (.sl (.x 1)))] (.p (.one (.v 0))) ⟨0, 0, 0, 1, 0, 0⟩
  (.mk [(.v 0)] 81 1
  (.call (.c true) false 87 [(.agg [(.i .u8 (.x 0)), (.i .i64 (.x 1)), (.i .i64 (.x 2)), (.i .i64 (.x 3)), (.i .i64 (.x 4)), (.s (.x 0)), (.sl (.x 0))]), (.one (.sl (.x 2)))] (.p (.one (.b (.x 0)))) ⟨0, 1, 0, 0, 0, 0⟩
  (.ite (.x 0)
  (.ret (.p (.one (.b (.c true)))))
  (.mk [(.i .u8 (.c 20))] 5 1
  (.call (.c true) false 52 [(.one (.sl (.x 3)))] (.p (.one (.v 1))) ⟨0, 0, 0, 1, 0, 0⟩
  (.mk [(.v 1), (.c (.fn 92))] 81 2
  (.call (.c true) false 87 [(.agg [(.i .u8 (.x 0)), (.i .i64 (.x 1)), (.i .i64 (.x 2)), (.i .i64 (.x 3)), (.i .i64 (.x 4)), (.s (.x 0)), (.sl (.x 0))]), (.one (.sl (.x 4)))] (.p (.one (.b (.x 1)))) ⟨0, 1, 0, 0, 0, 0⟩
  (.ret (.p (.one (.b (.x 1))))))))))))))
  (.ite (.eqI (.x 0) (.c 14))
  (.call (.c true) false 87 [(.agg [(.i .u8 (.x 0)), (.i .i64 (.x 1)), (.i .i64 (.x 2)), (.i .i64 (.x 3)), (.i .i64 (.x 4)), (.s (.x 0)), (.sl (.x 0))]), (.one (.sl .nil))] (.p (.one (.b (.x 0)))) ⟨0, 1, 0, 0, 0, 0⟩
  (.ret (.p (.one (.b (.x 0))))))
  (.ite (.eqI (.x 0) (.c 15))
  (.call (.c true) false 87 [(.agg [(.i .u8 (.x 0)), (.i .i64 (.x 1)), (.i .i64 (.x 2)), (.i .i64 (.x 3)), (.i .i64 (.x 4)), (.s (.x 0)), (.sl (.x 0))]), (.one (.sl .nil))] (.p (.one (.b (.x 0)))) ⟨0, 1, 0, 0, 0, 0⟩
  (.ret (.p (.one (.b (.x 0))))))
  (.ite (.eqI (.x 0) (.c 16))
  (.call (.c true) false 87 [(.agg [(.i .u8 (.x 0)), (.i .i64 (.x 1)), (.i .i64 (.x 2)), (.i .i64 (.x 3)), (.i .i64 (.x 4)), (.s (.x 0)), (.sl (.x 0))]), (.one (.sl .nil))] (.p (.one (.b (.x 0)))) ⟨0, 1, 0, 0, 0, 0⟩
  (.ret (.p (.one (.b (.x 0))))))
  (.ite (.eqI (.x 0) (.c 17))
  (.call (.c true) false 87 [(.agg [(.i .u8 (.x 0)), (.i .i64 (.x 1)), (.i .i64 (.x 2)), (.i .i64 (.x 3)), (.i .i64 (.x 4)), (.s (.x 0)), (.sl (.x 0))]), (.one (.sl .nil))] (.p (.one (.b (.x 0)))) ⟨0, 1, 0, 0, 0, 0⟩
  (.ret (.p (.one (.b (.x 0))))))
  (.ite (.eqI (.x 0) (.c 18))
  (.call (.c true) false 87 [(.agg [(.i .u8 (.x 0)), (.i .i64 (.x 1)), (.i .i64 (.x 2)), (.i .i64 (.x 3)), (.i .i64 (.x 4)), (.s (.x 0)), (.sl (.x 0))]), (.one (.sl .nil))] (.p (.one (.b (.x 0)))) ⟨0, 1, 0, 0, 0, 0⟩
  (.ret (.p (.one (.b (.x 0))))))
  (.ite (.eqI (.x 0) (.c 19))
  (.call (.c true) false 87 [(.agg [(.i .u8 (.x 0)), (.i .i64 (.x 1)), (.i .i64 (.x 2)), (.i .i64 (.x 3)), (.i .i64 (.x 4)), (.s (.x 0)), (.sl (.x 0))]), (.one (.sl .nil))] (.p (.one (.b (.x 0)))) ⟨0, 1, 0, 0, 0, 0⟩
  (.ret (.p (.one (.b (.x 0))))))
  (.ite (.eqI (.x 0) (.c 21))
  (.call (.c true) false 87 [(.agg [(.i .u8 (.x 0)), (.i .i64 (.x 1)), (.i .i64 (.x 2)), (.i .i64 (.x 3)), (.i .i64 (.x 4)), (.s (.x 0)), (.sl (.x 0))]), (.one (.sl .nil))] (.p (.one (.b (.x 0)))) ⟨0, 1, 0, 0, 0, 0⟩
  (.ret (.p (.one (.b (.x 0))))))
  (.ite (.eqI (.x 0) (.c 22))
  (.call (.c true) false 87 [(.agg [(.i .u8 (.x 0)), (.i .i64 (.x 1)), (.i .i64 (.x 2)), (.i .i64 (.x 3)), (.i .i64 (.x 4)), (.s (.x 0)), (.sl (.x 0))]), (.one (.sl .nil))] (.p (.one (.b (.x 0)))) ⟨0, 1, 0, 0, 0, 0⟩
  (.ret (.p (.one (.b (.x 0))))))
  (.ite (.eqI (.x 0) (.c 23))
  (.call (.c true) false 87 [(.agg [(.i .u8 (.x 0)), (.i .i64 (.x 1)), (.i .i64 (.x 2)), (.i .i64 (.x 3)), (.i .i64 (.x 4)), (.s (.x 0)), (.sl (.x 0))]), (.one (.sl .nil))] (.p (.one (.b (.x 0)))) ⟨0, 1, 0, 0, 0, 0⟩
  (.ret (.p (.one (.b (.x 0))))))
  (.ite (.eqI (.x 0) (.c 24))
  (.call (.c true) false 87 [(.agg [(.i .u8 (.x 0)), (.i .i64 (.x 1)), (.i .i64 (.x 2)), (.i .i64 (.x 3)), (.i .i64 (.x 4)), (.s (.x 0)), (.sl (.x 0))]), (.one (.sl .nil))] (.p (.one (.b (.x 0)))) ⟨0, 1, 0, 0, 0, 0⟩
  (.ret (.p (.one (.b (.x 0))))))
  (.ite (.eqI (.x 0) (.c 25))
  (.call (.c true) false 87 [(.agg [(.i .u8 (.x 0)), (.i .i64 (.x 1)), (.i .i64 (.x 2)), (.i .i64 (.x 3)), (.i .i64 (.x 4)), (.s (.x 0)), (.sl (.x 0))]), (.one (.sl .nil))] (.p (.one (.b (.x 0)))) ⟨0, 1, 0, 0, 0, 0⟩
  (.ret (.p (.one (.b (.x 0))))))
  (.ite (.eqI (.x 0) (.c 26))
  (.call (.c true) false 87 [(.agg [(.i .u8 (.x 0)), (.i .i64 (.x 1)), (.i .i64 (.x 2)), (.i .i64 (.x 3)), (.i .i64 (.x 4)), (.s (.x 0)), (.sl (.x 0))]), (.one (.sl .nil))] (.p (.one (.b (.x 0)))) ⟨0, 1, 0, 0, 0, 0⟩
  (.ret (.p (.one (.b (.x 0))))))
  (.ret (.p (.one (.b (.c false))))))))))))))))))))))))))))))))))))
theorem gen_lright : genFn ⟨true, [1000005]⟩ Tryz.prog (fun l => ([] : List LAnn).getD l ⟨[], [], []⟩) Tryz.f53 = fm_lright := by kernel_rfl
theorem ps_lright : freshPs Tryz.prog .zero Tryz.f53.params.toList = some ([(.agg [(.i .u8 (.x 0)), (.i .i64 (.x 1)), (.i .i64 (.x 2)), (.i .i64 (.x 3)), (.i .i64 (.x 4)), (.s (.x 0)), (.sl (.x 0))])], ⟨5, 0, 1, 0, 1, 0⟩) := by kernel_rfl
/-- May a node's children be? -/
def rightB (k n : Int) (l : List Ng) : Bool :=
  if k = 2 then l.all (wO [3])
  else if k = 3 then rowB [wTy] l
  else if k = 5 then rowB [wTy] l
  else if k = 20 then rowB [wTy] l
  else if k = 4 then fnB n l
  else if k = 6 then l.all (btw 7 13)
  else if k = 7 then stB k l
  else if k = 8 then stB k l
  else if k = 9 then stB k l
  else if k = 10 then stB k l
  else if k = 11 then stB k l
  else if k = 12 then stB k l
  else if k = 13 then stB k l
  else if k = 27 then l.all wE
  else if k = 28 then rowB [wE, wE] l
  else if k = 31 then rowB [wE, wE] l
  else if k = 29 then rowB [wE] l
  else if k = 30 then rowB [wE] l
  else if k = 32 then rowB [wO [19]] l || rowB [wO [20], wE] l
  else if k = 14 then rowB [] l
  else if k = 15 then rowB [] l
  else if k = 16 then rowB [] l
  else if k = 17 then rowB [] l
  else if k = 18 then rowB [] l
  else if k = 19 then rowB [] l
  else if k = 21 then rowB [] l
  else if k = 22 then rowB [] l
  else if k = 23 then rowB [] l
  else if k = 24 then rowB [] l
  else if k = 25 then rowB [] l
  else if k = 26 then rowB [] l else false
set_option maxRecDepth 100000 in
set_option maxHeartbeats 16000000 in
def ctLRight : Ct Tryz.prog where
  f := 53
  spec := fun args h φ => ∃ x sl l, args = [lkv x sl] ∧ NG h sl l ∧ l.length ≤ 1000000 ∧ sl.n ≤ sl.c ∧ φ (.bool (rightB x.k x.n l)) h
  ok := by
    rintro args h φ w ⟨x, sl, l, rfl, R, hl, hc, hφ⟩ hH
    refine ct_forget (by_fm Tryz.func53 gen_lright ps_lright [ctTof, ctLAll, ctLRow, ctLFun, ctBtw, ctLStat] (fun v k => ∃ k', HLe k' k ∧ φ v k') (noInv) (noMeas) ⟨[x.k, x.l, x.c, x.z, x.n], [], [x.x], [], [sl], [], h, noM⟩ ⟨rfl, rfl, rfl, rfl, rfl, rfl⟩ ones_nil ?_ w hH rfl)
    generalize hE : (⟨specOf _, _, _, _⟩ : Env) = E
    have s_ctTof : E.spec 52 = (ctTof).spec := by rw [← hE]; rfl
    have s_ctLAll : E.spec 51 = (ctLAll).spec := by rw [← hE]; rfl
    have s_ctLRow : E.spec 87 = (ctLRow).spec := by rw [← hE]; rfl
    have s_ctLFun : E.spec 89 = (ctLFun).spec := by rw [← hE]; rfl
    have s_ctBtw : E.spec 90 = (ctBtw).spec := by rw [← hE]; rfl
    have s_ctLStat : E.spec 91 = (ctLStat).spec := by rw [← hE]; rfl
    have ep : E.post = (fun v k => ∃ k', HLe k' k ∧ φ v k') := by rw [← hE]
    clear hE
    unfold fm_lright
    unfold rightB at hφ
    have fin : ∀ (C : Ctx) (b : Bool) (e : BE), HLe h C.h → e.den C = b → φ (.bool b) h → Then E (.ret (.p (.one (.b e)))) C := by
      intro C b e hC he hb
      rw [then_step, says_ret, ep]
      refine ⟨h, hC, ?_⟩
      simpa [go_sem, he] using hb
    by_cases c2 : x.k = 2
    · rw [if_pos c2] at hφ
      rw [th_ite, if_pos (by simpa [go_sem] using c2)]
      rw [then_step, th_mk]
      intro b hb
      have hb' := hset hb
      rw [then_step, th_call, if_pos (by rfl), s_ctTof]
      refine ⟨_, rfl, fun pb kb Tb hkb hpb => ?_⟩
      refine ⟨fun h => (by cases h), (exI_iff _ _).2 ⟨⟨[], [], [], [_], [], []⟩, rfl, by intro u hu; simp at hu; subst hu; rfl, rfl, ?_⟩⟩
      have hkkb := HLe.trans (hb' _) hkb
      have hrob : Rows kb ⟨some (b, 0), 1, 1⟩ (kcs [3]) 1 := kinds_mk (hkb _ _ (set_same _ _ _)) rfl
      have hwb := want_of hpb hrob (by decide)
      rw [then_step, th_call, if_pos (by rfl), s_ctLAll]
      refine ⟨x, sl, l, _, _, rfl, R.le hkkb, hl, hwb, ?_⟩
      refine ⟨fun h => (by cases h), (exI_iff _ _).2 ⟨⟨[], [_], [], [], [], []⟩, rfl, ones_nil, rfl, ?_⟩⟩
      exact fin _ _ _ hkkb rfl hφ
    rw [if_neg c2] at hφ
    rw [th_ite, if_neg (by simpa [go_sem] using c2), then_step]
    by_cases c3 : x.k = 3
    · rw [if_pos c3] at hφ
      rw [th_ite, if_pos (by simpa [go_sem] using c3)]
      rw [then_step, th_mk]
      intro b hb
      have hb' := hset hb
      rw [then_step, th_call, if_pos (by rfl), s_ctLRow]
      refine ⟨x, sl, l, _, _, rfl, R.le (hb' _), hl, wants1 (set_same _ _ _) (want_someT _), ?_⟩
      refine ⟨fun h => (by cases h), (exI_iff _ _).2 ⟨⟨[], [_], [], [], [], []⟩, rfl, ones_nil, rfl, ?_⟩⟩
      exact fin _ _ _ (hb' _) rfl hφ
    rw [if_neg c3] at hφ
    rw [th_ite, if_neg (by simpa [go_sem] using c3), then_step]
    by_cases c5 : x.k = 5
    · rw [if_pos c5] at hφ
      rw [th_ite, if_pos (by simpa [go_sem] using c5)]
      rw [then_step, th_mk]
      intro b hb
      have hb' := hset hb
      rw [then_step, th_call, if_pos (by rfl), s_ctLRow]
      refine ⟨x, sl, l, _, _, rfl, R.le (hb' _), hl, wants1 (set_same _ _ _) (want_someT _), ?_⟩
      refine ⟨fun h => (by cases h), (exI_iff _ _).2 ⟨⟨[], [_], [], [], [], []⟩, rfl, ones_nil, rfl, ?_⟩⟩
      exact fin _ _ _ (hb' _) rfl hφ
    rw [if_neg c5] at hφ
    rw [th_ite, if_neg (by simpa [go_sem] using c5), then_step]
    by_cases c20 : x.k = 20
    · rw [if_pos c20] at hφ
      rw [th_ite, if_pos (by simpa [go_sem] using c20)]
      rw [then_step, th_mk]
      intro b hb
      have hb' := hset hb
      rw [then_step, th_call, if_pos (by rfl), s_ctLRow]
      refine ⟨x, sl, l, _, _, rfl, R.le (hb' _), hl, wants1 (set_same _ _ _) (want_someT _), ?_⟩
      refine ⟨fun h => (by cases h), (exI_iff _ _).2 ⟨⟨[], [_], [], [], [], []⟩, rfl, ones_nil, rfl, ?_⟩⟩
      exact fin _ _ _ (hb' _) rfl hφ
    rw [if_neg c20] at hφ
    rw [th_ite, if_neg (by simpa [go_sem] using c20), then_step]
    by_cases c4 : x.k = 4
    · rw [if_pos c4] at hφ
      rw [th_ite, if_pos (by simpa [go_sem] using c4)]
      rw [then_step, th_call, if_pos (by rfl), s_ctLFun]
      refine ⟨x, sl, l, rfl, R, hl, hc, ?_⟩
      refine ⟨fun h => (by cases h), (exI_iff _ _).2 ⟨⟨[], [_], [], [], [], []⟩, rfl, ones_nil, rfl, ?_⟩⟩
      exact fin _ _ _ (fun _ _ h => h) rfl hφ
    rw [if_neg c4] at hφ
    rw [th_ite, if_neg (by simpa [go_sem] using c4), then_step]
    by_cases c6 : x.k = 6
    · rw [if_pos c6] at hφ
      rw [th_ite, if_pos (by simpa [go_sem] using c6)]
      rw [then_step, th_call, if_pos (by rfl), s_ctBtw]
      refine ⟨7, 13, rfl, fun p q k hk h1 h2 => ?_⟩
      refine ⟨fun h => (by cases h), (exI_iff _ _).2 ⟨⟨[], [], [], [_], [], []⟩, rfl, by intro u hu; simp at hu; subst hu; rfl, rfl, ?_⟩⟩
      rw [then_step, th_call, if_pos (by rfl), s_ctLAll]
      refine ⟨x, sl, l, _, _, rfl, R.le hk, hl, want_btw h1 h2, ?_⟩
      refine ⟨fun h => (by cases h), (exI_iff _ _).2 ⟨⟨[], [_], [], [], [], []⟩, rfl, ones_nil, rfl, ?_⟩⟩
      exact fin _ _ _ hk rfl hφ
    rw [if_neg c6] at hφ
    rw [th_ite, if_neg (by simpa [go_sem] using c6), then_step]
    by_cases c7 : x.k = 7
    · rw [if_pos c7] at hφ
      rw [th_ite, if_pos (by simpa [go_sem] using c7)]
      rw [then_step, th_call, if_pos (by rfl), s_ctLStat]
      refine ⟨x, sl, l, rfl, R, hl, ?_⟩
      refine ⟨fun h => (by cases h), (exI_iff _ _).2 ⟨⟨[], [_], [], [], [], []⟩, rfl, ones_nil, rfl, ?_⟩⟩
      exact fin _ _ _ (fun _ _ h => h) rfl hφ
    rw [if_neg c7] at hφ
    rw [th_ite, if_neg (by simpa [go_sem] using c7), then_step]
    by_cases c8 : x.k = 8
    · rw [if_pos c8] at hφ
      rw [th_ite, if_pos (by simpa [go_sem] using c8)]
      rw [then_step, th_call, if_pos (by rfl), s_ctLStat]
      refine ⟨x, sl, l, rfl, R, hl, ?_⟩
      refine ⟨fun h => (by cases h), (exI_iff _ _).2 ⟨⟨[], [_], [], [], [], []⟩, rfl, ones_nil, rfl, ?_⟩⟩
      exact fin _ _ _ (fun _ _ h => h) rfl hφ
    rw [if_neg c8] at hφ
    rw [th_ite, if_neg (by simpa [go_sem] using c8), then_step]
    by_cases c9 : x.k = 9
    · rw [if_pos c9] at hφ
      rw [th_ite, if_pos (by simpa [go_sem] using c9)]
      rw [then_step, th_call, if_pos (by rfl), s_ctLStat]
      refine ⟨x, sl, l, rfl, R, hl, ?_⟩
      refine ⟨fun h => (by cases h), (exI_iff _ _).2 ⟨⟨[], [_], [], [], [], []⟩, rfl, ones_nil, rfl, ?_⟩⟩
      exact fin _ _ _ (fun _ _ h => h) rfl hφ
    rw [if_neg c9] at hφ
    rw [th_ite, if_neg (by simpa [go_sem] using c9), then_step]
    by_cases c10 : x.k = 10
    · rw [if_pos c10] at hφ
      rw [th_ite, if_pos (by simpa [go_sem] using c10)]
      rw [then_step, th_call, if_pos (by rfl), s_ctLStat]
      refine ⟨x, sl, l, rfl, R, hl, ?_⟩
      refine ⟨fun h => (by cases h), (exI_iff _ _).2 ⟨⟨[], [_], [], [], [], []⟩, rfl, ones_nil, rfl, ?_⟩⟩
      exact fin _ _ _ (fun _ _ h => h) rfl hφ
    rw [if_neg c10] at hφ
    rw [th_ite, if_neg (by simpa [go_sem] using c10), then_step]
    by_cases c11 : x.k = 11
    · rw [if_pos c11] at hφ
      rw [th_ite, if_pos (by simpa [go_sem] using c11)]
      rw [then_step, th_call, if_pos (by rfl), s_ctLStat]
      refine ⟨x, sl, l, rfl, R, hl, ?_⟩
      refine ⟨fun h => (by cases h), (exI_iff _ _).2 ⟨⟨[], [_], [], [], [], []⟩, rfl, ones_nil, rfl, ?_⟩⟩
      exact fin _ _ _ (fun _ _ h => h) rfl hφ
    rw [if_neg c11] at hφ
    rw [th_ite, if_neg (by simpa [go_sem] using c11), then_step]
    by_cases c12 : x.k = 12
    · rw [if_pos c12] at hφ
      rw [th_ite, if_pos (by simpa [go_sem] using c12)]
      rw [then_step, th_call, if_pos (by rfl), s_ctLStat]
      refine ⟨x, sl, l, rfl, R, hl, ?_⟩
      refine ⟨fun h => (by cases h), (exI_iff _ _).2 ⟨⟨[], [_], [], [], [], []⟩, rfl, ones_nil, rfl, ?_⟩⟩
      exact fin _ _ _ (fun _ _ h => h) rfl hφ
    rw [if_neg c12] at hφ
    rw [th_ite, if_neg (by simpa [go_sem] using c12), then_step]
    by_cases c13 : x.k = 13
    · rw [if_pos c13] at hφ
      rw [th_ite, if_pos (by simpa [go_sem] using c13)]
      rw [then_step, th_call, if_pos (by rfl), s_ctLStat]
      refine ⟨x, sl, l, rfl, R, hl, ?_⟩
      refine ⟨fun h => (by cases h), (exI_iff _ _).2 ⟨⟨[], [_], [], [], [], []⟩, rfl, ones_nil, rfl, ?_⟩⟩
      exact fin _ _ _ (fun _ _ h => h) rfl hφ
    rw [if_neg c13] at hφ
    rw [th_ite, if_neg (by simpa [go_sem] using c13), then_step]
    by_cases c27 : x.k = 27
    · rw [if_pos c27] at hφ
      rw [th_ite, if_pos (by simpa [go_sem] using c27)]
      rw [then_step, th_call, if_pos (by rfl), s_ctLAll]
      refine ⟨x, sl, l, _, _, rfl, R, hl, want_exprn _, ?_⟩
      refine ⟨fun h => (by cases h), (exI_iff _ _).2 ⟨⟨[], [_], [], [], [], []⟩, rfl, ones_nil, rfl, ?_⟩⟩
      exact fin _ _ _ (fun _ _ h => h) rfl hφ
    rw [if_neg c27] at hφ
    rw [th_ite, if_neg (by simpa [go_sem] using c27), then_step]
    by_cases c28 : x.k = 28
    · rw [if_pos c28] at hφ
      rw [th_ite, if_pos (by simpa [go_sem] using c28)]
      rw [then_step, th_mk]
      intro b hb
      have hb' := hset hb
      rw [then_step, th_call, if_pos (by rfl), s_ctLRow]
      refine ⟨x, sl, l, _, _, rfl, R.le (hb' _), hl, wants2 (set_same _ _ _) (want_exprn _) (want_exprn _), ?_⟩
      refine ⟨fun h => (by cases h), (exI_iff _ _).2 ⟨⟨[], [_], [], [], [], []⟩, rfl, ones_nil, rfl, ?_⟩⟩
      exact fin _ _ _ (hb' _) rfl hφ
    rw [if_neg c28] at hφ
    rw [th_ite, if_neg (by simpa [go_sem] using c28), then_step]
    by_cases c31 : x.k = 31
    · rw [if_pos c31] at hφ
      rw [th_ite, if_pos (by simpa [go_sem] using c31)]
      rw [then_step, th_mk]
      intro b hb
      have hb' := hset hb
      rw [then_step, th_call, if_pos (by rfl), s_ctLRow]
      refine ⟨x, sl, l, _, _, rfl, R.le (hb' _), hl, wants2 (set_same _ _ _) (want_exprn _) (want_exprn _), ?_⟩
      refine ⟨fun h => (by cases h), (exI_iff _ _).2 ⟨⟨[], [_], [], [], [], []⟩, rfl, ones_nil, rfl, ?_⟩⟩
      exact fin _ _ _ (hb' _) rfl hφ
    rw [if_neg c31] at hφ
    rw [th_ite, if_neg (by simpa [go_sem] using c31), then_step]
    by_cases c29 : x.k = 29
    · rw [if_pos c29] at hφ
      rw [th_ite, if_pos (by simpa [go_sem] using c29)]
      rw [then_step, th_mk]
      intro b hb
      have hb' := hset hb
      rw [then_step, th_call, if_pos (by rfl), s_ctLRow]
      refine ⟨x, sl, l, _, _, rfl, R.le (hb' _), hl, wants1 (set_same _ _ _) (want_exprn _), ?_⟩
      refine ⟨fun h => (by cases h), (exI_iff _ _).2 ⟨⟨[], [_], [], [], [], []⟩, rfl, ones_nil, rfl, ?_⟩⟩
      exact fin _ _ _ (hb' _) rfl hφ
    rw [if_neg c29] at hφ
    rw [th_ite, if_neg (by simpa [go_sem] using c29), then_step]
    by_cases c30 : x.k = 30
    · rw [if_pos c30] at hφ
      rw [th_ite, if_pos (by simpa [go_sem] using c30)]
      rw [then_step, th_mk]
      intro b hb
      have hb' := hset hb
      rw [then_step, th_call, if_pos (by rfl), s_ctLRow]
      refine ⟨x, sl, l, _, _, rfl, R.le (hb' _), hl, wants1 (set_same _ _ _) (want_exprn _), ?_⟩
      refine ⟨fun h => (by cases h), (exI_iff _ _).2 ⟨⟨[], [_], [], [], [], []⟩, rfl, ones_nil, rfl, ?_⟩⟩
      exact fin _ _ _ (hb' _) rfl hφ
    rw [if_neg c30] at hφ
    rw [th_ite, if_neg (by simpa [go_sem] using c30), then_step]
    by_cases c32 : x.k = 32
    · rw [if_pos c32] at hφ
      rw [th_ite, if_pos (by simpa [go_sem] using c32)]
      rw [then_step, th_mk]
      intro b hb
      have hb' := hset hb
      rw [then_step, th_call, if_pos (by rfl), s_ctTof]
      refine ⟨_, rfl, fun pb kb Tb hkb hpb => ?_⟩
      refine ⟨fun h => (by cases h), (exI_iff _ _).2 ⟨⟨[], [], [], [_], [], []⟩, rfl, by intro u hu; simp at hu; subst hu; rfl, rfl, ?_⟩⟩
      have hkkb := HLe.trans (hb' _) hkb
      have hrob : Rows kb ⟨some (b, 0), 1, 1⟩ (kcs [19]) 1 := kinds_mk (hkb _ _ (set_same _ _ _)) rfl
      have hwb := want_of hpb hrob (by decide)
      rw [then_step, th_mk]
      intro c hc2
      have hc' := hset hc2
      rw [then_step, th_call, if_pos (by rfl), s_ctLRow]
      refine ⟨x, sl, l, _, _, rfl, R.le (HLe.trans hkkb (hc' _)), hl, wants1 (set_same _ _ _) (hwb.le (hc' _)), ?_⟩
      refine ⟨fun h => (by cases h), (exI_iff _ _).2 ⟨⟨[], [_], [], [], [], []⟩, rfl, ones_nil, rfl, ?_⟩⟩
      cases hm : rowB [wO [19]] l with
      | true =>
        rw [hm] at hφ
        rw [then_step, th_ite, if_pos (by simp [go_sem])]
        exact fin _ _ _ (HLe.trans hkkb (hc' _)) rfl hφ
      | false =>
        rw [hm, Bool.false_or] at hφ
        rw [then_step, th_ite, if_neg (by simp [go_sem]), then_step, th_mk]
        intro d hd
        have hd' := hset hd
        rw [then_step, th_call, if_pos (by rfl), s_ctTof]
        refine ⟨_, rfl, fun pd kd Td hkd hpd => ?_⟩
        refine ⟨fun h => (by cases h), (exI_iff _ _).2 ⟨⟨[], [], [], [_], [], []⟩, rfl, by intro u hu; simp at hu; subst hu; rfl, rfl, ?_⟩⟩
        have hkkd := HLe.trans (HLe.trans (HLe.trans hkkb (hc' _)) (hd' _)) hkd
        have hrod : Rows kd ⟨some (d, 0), 1, 1⟩ (kcs [20]) 1 := kinds_mk (hkd _ _ (set_same _ _ _)) rfl
        have hwd := want_of hpd hrod (by decide)
        rw [then_step, th_mk]
        intro e he
        have he' := hset he
        rw [then_step, th_call, if_pos (by rfl), s_ctLRow]
        refine ⟨x, sl, l, _, _, rfl, R.le (HLe.trans hkkd (he' _)), hl, wants2 (set_same _ _ _) (hwd.le (he' _)) (want_exprn _), ?_⟩
        refine ⟨fun h => (by cases h), (exI_iff _ _).2 ⟨⟨[], [_], [], [], [], []⟩, rfl, ones_nil, rfl, ?_⟩⟩
        exact fin _ _ _ (HLe.trans hkkd (he' _)) rfl hφ
    rw [if_neg c32] at hφ
    rw [th_ite, if_neg (by simpa [go_sem] using c32), then_step]
    by_cases c14 : x.k = 14
    · rw [if_pos c14] at hφ
      rw [th_ite, if_pos (by simpa [go_sem] using c14)]
      rw [then_step, th_call, if_pos (by rfl), s_ctLRow]
      refine ⟨x, sl, l, _, _, rfl, R, hl, wants_nil _, ?_⟩
      refine ⟨fun h => (by cases h), (exI_iff _ _).2 ⟨⟨[], [_], [], [], [], []⟩, rfl, ones_nil, rfl, ?_⟩⟩
      exact fin _ _ _ (fun _ _ h => h) rfl hφ
    rw [if_neg c14] at hφ
    rw [th_ite, if_neg (by simpa [go_sem] using c14), then_step]
    by_cases c15 : x.k = 15
    · rw [if_pos c15] at hφ
      rw [th_ite, if_pos (by simpa [go_sem] using c15)]
      rw [then_step, th_call, if_pos (by rfl), s_ctLRow]
      refine ⟨x, sl, l, _, _, rfl, R, hl, wants_nil _, ?_⟩
      refine ⟨fun h => (by cases h), (exI_iff _ _).2 ⟨⟨[], [_], [], [], [], []⟩, rfl, ones_nil, rfl, ?_⟩⟩
      exact fin _ _ _ (fun _ _ h => h) rfl hφ
    rw [if_neg c15] at hφ
    rw [th_ite, if_neg (by simpa [go_sem] using c15), then_step]
    by_cases c16 : x.k = 16
    · rw [if_pos c16] at hφ
      rw [th_ite, if_pos (by simpa [go_sem] using c16)]
      rw [then_step, th_call, if_pos (by rfl), s_ctLRow]
      refine ⟨x, sl, l, _, _, rfl, R, hl, wants_nil _, ?_⟩
      refine ⟨fun h => (by cases h), (exI_iff _ _).2 ⟨⟨[], [_], [], [], [], []⟩, rfl, ones_nil, rfl, ?_⟩⟩
      exact fin _ _ _ (fun _ _ h => h) rfl hφ
    rw [if_neg c16] at hφ
    rw [th_ite, if_neg (by simpa [go_sem] using c16), then_step]
    by_cases c17 : x.k = 17
    · rw [if_pos c17] at hφ
      rw [th_ite, if_pos (by simpa [go_sem] using c17)]
      rw [then_step, th_call, if_pos (by rfl), s_ctLRow]
      refine ⟨x, sl, l, _, _, rfl, R, hl, wants_nil _, ?_⟩
      refine ⟨fun h => (by cases h), (exI_iff _ _).2 ⟨⟨[], [_], [], [], [], []⟩, rfl, ones_nil, rfl, ?_⟩⟩
      exact fin _ _ _ (fun _ _ h => h) rfl hφ
    rw [if_neg c17] at hφ
    rw [th_ite, if_neg (by simpa [go_sem] using c17), then_step]
    by_cases c18 : x.k = 18
    · rw [if_pos c18] at hφ
      rw [th_ite, if_pos (by simpa [go_sem] using c18)]
      rw [then_step, th_call, if_pos (by rfl), s_ctLRow]
      refine ⟨x, sl, l, _, _, rfl, R, hl, wants_nil _, ?_⟩
      refine ⟨fun h => (by cases h), (exI_iff _ _).2 ⟨⟨[], [_], [], [], [], []⟩, rfl, ones_nil, rfl, ?_⟩⟩
      exact fin _ _ _ (fun _ _ h => h) rfl hφ
    rw [if_neg c18] at hφ
    rw [th_ite, if_neg (by simpa [go_sem] using c18), then_step]
    by_cases c19 : x.k = 19
    · rw [if_pos c19] at hφ
      rw [th_ite, if_pos (by simpa [go_sem] using c19)]
      rw [then_step, th_call, if_pos (by rfl), s_ctLRow]
      refine ⟨x, sl, l, _, _, rfl, R, hl, wants_nil _, ?_⟩
      refine ⟨fun h => (by cases h), (exI_iff _ _).2 ⟨⟨[], [_], [], [], [], []⟩, rfl, ones_nil, rfl, ?_⟩⟩
      exact fin _ _ _ (fun _ _ h => h) rfl hφ
    rw [if_neg c19] at hφ
    rw [th_ite, if_neg (by simpa [go_sem] using c19), then_step]
    by_cases c21 : x.k = 21
    · rw [if_pos c21] at hφ
      rw [th_ite, if_pos (by simpa [go_sem] using c21)]
      rw [then_step, th_call, if_pos (by rfl), s_ctLRow]
      refine ⟨x, sl, l, _, _, rfl, R, hl, wants_nil _, ?_⟩
      refine ⟨fun h => (by cases h), (exI_iff _ _).2 ⟨⟨[], [_], [], [], [], []⟩, rfl, ones_nil, rfl, ?_⟩⟩
      exact fin _ _ _ (fun _ _ h => h) rfl hφ
    rw [if_neg c21] at hφ
    rw [th_ite, if_neg (by simpa [go_sem] using c21), then_step]
    by_cases c22 : x.k = 22
    · rw [if_pos c22] at hφ
      rw [th_ite, if_pos (by simpa [go_sem] using c22)]
      rw [then_step, th_call, if_pos (by rfl), s_ctLRow]
      refine ⟨x, sl, l, _, _, rfl, R, hl, wants_nil _, ?_⟩
      refine ⟨fun h => (by cases h), (exI_iff _ _).2 ⟨⟨[], [_], [], [], [], []⟩, rfl, ones_nil, rfl, ?_⟩⟩
      exact fin _ _ _ (fun _ _ h => h) rfl hφ
    rw [if_neg c22] at hφ
    rw [th_ite, if_neg (by simpa [go_sem] using c22), then_step]
    by_cases c23 : x.k = 23
    · rw [if_pos c23] at hφ
      rw [th_ite, if_pos (by simpa [go_sem] using c23)]
      rw [then_step, th_call, if_pos (by rfl), s_ctLRow]
      refine ⟨x, sl, l, _, _, rfl, R, hl, wants_nil _, ?_⟩
      refine ⟨fun h => (by cases h), (exI_iff _ _).2 ⟨⟨[], [_], [], [], [], []⟩, rfl, ones_nil, rfl, ?_⟩⟩
      exact fin _ _ _ (fun _ _ h => h) rfl hφ
    rw [if_neg c23] at hφ
    rw [th_ite, if_neg (by simpa [go_sem] using c23), then_step]
    by_cases c24 : x.k = 24
    · rw [if_pos c24] at hφ
      rw [th_ite, if_pos (by simpa [go_sem] using c24)]
      rw [then_step, th_call, if_pos (by rfl), s_ctLRow]
      refine ⟨x, sl, l, _, _, rfl, R, hl, wants_nil _, ?_⟩
      refine ⟨fun h => (by cases h), (exI_iff _ _).2 ⟨⟨[], [_], [], [], [], []⟩, rfl, ones_nil, rfl, ?_⟩⟩
      exact fin _ _ _ (fun _ _ h => h) rfl hφ
    rw [if_neg c24] at hφ
    rw [th_ite, if_neg (by simpa [go_sem] using c24), then_step]
    by_cases c25 : x.k = 25
    · rw [if_pos c25] at hφ
      rw [th_ite, if_pos (by simpa [go_sem] using c25)]
      rw [then_step, th_call, if_pos (by rfl), s_ctLRow]
      refine ⟨x, sl, l, _, _, rfl, R, hl, wants_nil _, ?_⟩
      refine ⟨fun h => (by cases h), (exI_iff _ _).2 ⟨⟨[], [_], [], [], [], []⟩, rfl, ones_nil, rfl, ?_⟩⟩
      exact fin _ _ _ (fun _ _ h => h) rfl hφ
    rw [if_neg c25] at hφ
    rw [th_ite, if_neg (by simpa [go_sem] using c25), then_step]
    by_cases c26 : x.k = 26
    · rw [if_pos c26] at hφ
      rw [th_ite, if_pos (by simpa [go_sem] using c26)]
      rw [then_step, th_call, if_pos (by rfl), s_ctLRow]
      refine ⟨x, sl, l, _, _, rfl, R, hl, wants_nil _, ?_⟩
      refine ⟨fun h => (by cases h), (exI_iff _ _).2 ⟨⟨[], [_], [], [], [], []⟩, rfl, ones_nil, rfl, ?_⟩⟩
      exact fin _ _ _ (fun _ _ h => h) rfl hφ
    rw [if_neg c26] at hφ
    rw [th_ite, if_neg (by simpa [go_sem] using c26), then_step]
    rw [← then_step]
    exact fin _ _ _ (fun _ _ h => h) rfl hφ
end Go.Proofs.YtllbpdllkkcajaaGreatDoor
namespace Go.Proofs.YtllbpdllkkcajaaGreatDoor
open Go.RowKit
theorem popE_ge {i j : Int} : ∀ {st : List Int}, (∀ e ∈ st, j ≤ e) → i < j → popE i st = st
  | [], _, _ => rfl
  | e :: st, h, hij => by
    have := h e (by simp)
    rw [popE, if_neg (by omega)]
theorem popE_mem {i : Int} {e : Int} : ∀ {st : List Int}, e ∈ popE i st → e ∈ st
  | [], h => h
  | a :: st, h => by
    rw [popE] at h
    split at h
    · exact List.mem_cons_of_mem _ (popE_mem h)
    · exact h
theorem rightF_step {n i : Int} {st : List Int} {x : Ng} {l : List Ng} (hz : ¬ (x.z < 0 ∨ n - 1 - i < x.z)) (h : ∀ e ∈ popE i st, i + 1 + x.z ≤ e) : rightF n i st (x :: l) = rightF n (i + 1) ((i + 1 + x.z) :: popE i st) l := by
  rw [rightF, if_neg hz]
  cases hp : popE i st with
  | nil => rfl
  | cons e st' =>
    have := h e (by rw [hp]; simp)
    simp only
    rw [if_neg (by omega)]
theorem rightF_trees (n : Int) : ∀ (m : Nat) (ts : List Tr), Tr.ns ts ≤ m → ∀ (i : Int) (st : List Int) (rest : List Ng), (∀ e ∈ popE i st, i + Tr.ns ts ≤ e) → i + Tr.ns ts ≤ n → rightF n i st (Tr.gss ts ++ rest) = rightF n (i + Tr.ns ts) (popE i st) rest
  | _, [], _, i, st, rest, _, _ => by
    rw [ns_nil]
    simp only [Tr.gss, Tr.nodss, List.map_nil, List.nil_append, Int.natCast_zero, Int.add_zero]
    rw [rightF_pop]
  | 0, t :: ts, hm, i, st, rest, _, _ => by rw [ns_cons, sz_n] at hm; omega
  | m + 1, t :: ts, hm, i, st, rest, hst, hn => by
    obtain ⟨k, l, c, nn, x, ks⟩ := t
    have hnd : (Tr.nd k l c nn x ks).n = Tr.ns ks + 1 := by rw [sz_n, Tr.sz, szs_ns]
    rw [ns_cons, hnd] at hm hst hn ⊢
    rw [gss_cons, gs_nd, List.cons_append, List.cons_append, List.append_assoc, rightF_step (by simp only; omega) (fun e he => by have := hst e he; simp only; omega)]
    simp only
    generalize hq : popE i st = q at *
    have hmem : ∀ e ∈ popE (i + 1) ((i + 1 + (Tr.ns ks : Int)) :: q), i + 1 + (Tr.ns ks : Int) ≤ e := fun e he => by
      rcases List.mem_cons.1 (popE_mem he) with rfl | h
      · omega
      · have := hst e h; omega
    rw [rightF_trees n m ks (by omega) (i + 1) _ _ hmem (by omega)]
    have hpp : popE (i + 1 + (Tr.ns ks : Int)) (popE (i + 1) ((i + 1 + (Tr.ns ks : Int)) :: q)) = popE (i + 1 + (Tr.ns ks : Int)) q := by
      rw [popE]
      split
      · rename_i h
        have h0 : (Tr.ns ks : Int) = 0 := by omega
        rw [h0, Int.add_zero, popE_idem]
      · rw [popE, if_pos rfl]
    rw [← rightF_pop, hpp, rightF_pop]
    rw [rightF_trees n m ts (by omega) (i + 1 + (Tr.ns ks : Int)) q rest (fun e he => by have := hst e (popE_mem he); omega) (by omega)]
    have hfin : popE (i + 1 + (Tr.ns ks : Int) + (Tr.ns ts : Int)) (popE (i + 1 + (Tr.ns ks : Int)) q) = popE (i + 1 + (Tr.ns ks : Int) + (Tr.ns ts : Int)) q := by
      by_cases h0 : Tr.ns ts = 0
      · rw [h0]
        simp only [Int.natCast_zero, Int.add_zero]
        rw [popE_idem]
      · rw [popE_ge (j := i + 1 + (Tr.ns ks : Int) + (Tr.ns ts : Int)) (st := q) (fun e he => by have := hst e he; omega) (by omega)]
    rw [← rightF_pop, hfin, rightF_pop]
    congr 1
    omega
theorem rightR_tree (t : Tr) : rightR t.gs = true := by
  have hl := gs_len t
  have hF := rightF_trees t.n t.n [t] (by rw [ns_cons, ns_nil]; omega) 0 [] [] (by simp [popE]) (by rw [ns_cons, ns_nil]; omega)
  rw [gss_cons, show Tr.gss [] = [] from rfl, List.append_nil, List.append_nil] at hF
  obtain ⟨r, hr, hrl⟩ := gs_cons t
  have hz : t.g.z = (t.gs.length : Int) - 1 := by
    rw [hl, sz_n]
    obtain ⟨k, l, c, n, x, ks⟩ := t
    show ((Tr.ns ks : Nat) : Int) = _
    rw [Tr.sz, szs_ns]; omega
  have hR : rightR t.gs = (decide (t.g.z = (t.gs.length : Int) - 1) && rightF t.gs.length 0 [] t.gs) := by
    rw [hr]; rfl
  rw [hR, hl, hF]
  rw [hl] at hz
  rw [decide_eq_true hz, Bool.true_and]
  rfl
mutual
/-- A tree and all that is below it. -/
def Tr.subs : Tr → List Tr
  | .nd k l c n x ks => .nd k l c n x ks :: Tr.subss ks
def Tr.subss : List Tr → List Tr
  | [] => []
  | t :: ts => t.subs ++ Tr.subss ts
end
def Tr.kl : Tr → List Tr
  | .nd _ _ _ _ _ ks => ks
mutual
theorem subs_g : ∀ t : Tr, t.subs.map Tr.g = t.gs
  | .nd k l c n x ks => by rw [Tr.subs, List.map_cons, subss_g ks, gs_nd]; rfl
theorem subss_g : ∀ ts : List Tr, (Tr.subss ts).map Tr.g = Tr.gss ts
  | [] => rfl
  | t :: ts => by rw [Tr.subss, List.map_append, subs_g t, subss_g ts, gss_cons]
end
theorem subs_len (t : Tr) : t.subs.length = t.n := by rw [← gs_len, ← subs_g, List.length_map]
mutual
theorem subs_at : ∀ (t : Tr) {l : List Ng} {p : Nat}, Ps l p t → ∀ (i : Nat) (s : Tr), t.subs[i]? = some s → Ps l (p + i) s
  | .nd k l c n x ks, L, p, P, i, s, h => by
    rw [Tr.subs] at h
    cases i with
    | zero => simp at h; subst h; exact P
    | succ i =>
      rw [List.getElem?_cons_succ] at h
      have := subss_at ks P.kids i s h
      rw [show p + (i + 1) = p + 1 + i by omega]
      exact this
theorem subss_at : ∀ (ts : List Tr) {l : List Ng} {p : Nat}, Pss l p ts → ∀ (i : Nat) (s : Tr), (Tr.subss ts)[i]? = some s → Ps l (p + i) s
  | [], _, _, _, i, s, h => by simp [Tr.subss] at h
  | t :: ts, L, p, P, i, s, h => by
    obtain ⟨P1, P2⟩ := P.cons
    rw [Tr.subss] at h
    by_cases hi : i < t.subs.length
    · rw [List.getElem?_append_left hi] at h
      exact subs_at t P1 i s h
    · rw [List.getElem?_append_right (by omega)] at h
      have := subss_at ts P2 _ s h
      rw [subs_len] at hi
      rw [show p + i = p + t.n + (i - t.subs.length) by rw [subs_len]; omega]
      exact this
end
/-- May a tree's node at a place be? -/
def okI (i : Nat) (s : Tr) : Bool := if i = 0 then (s.kl.map Tr.g).all (wO [2, 4]) else fieldsB s.g && rightB s.g.k s.g.n (s.kl.map Tr.g)
def okIs : Nat → List Tr → Bool
  | _, [] => true
  | i, s :: r => okI i s && okIs (i + 1) r
/-- May a tree be a program's? -/
def mayT (t : Tr) : Bool := decide (t.g.k = 1) && fieldsB t.g && okIs 0 t.subs
end Go.Proofs.YtllbpdllkkcajaaGreatDoor
namespace Go.Proofs.YtllbpdllkkcajaaGreatDoor
open Go.RowKit
attribute [local go_sem] says_tt says_ff th_need th_ite th_call th_callK th_load th_store says_ret says_again BE.den IE.den SE.den LE.den AE.den CE.den PE.den VE.den KV.val Got.den Got.cnt exI allI exL allL Ctx.push Ctx.heap Ctx.cut Ctx.bare Ctx.mark Inc.blank List.getD_cons_zero List.getD_cons_succ List.cons_append List.nil_append List.append_nil List.map_cons List.map_nil List.replicate_zero List.replicate_succ specOf specL dynId ltB_t leB_t ltB_f leB_f slc_val slc_nil slc_inj pt_val pt_nil hle_noHeap hle_refl hread_set hwrite_set set_same set_set noHeap_at B_inj ones_nil and_assoc
def fm_tmay : Fm := (.call (.c true) false 23 [(.one (.sl (.x 0)))] (.p (.one (.b (.x 0)))) ⟨0, 1, 0, 0, 0, 0⟩
  (.need (.x 0) (.and (.and (.le (.c 0) (.c 0)) (.lt (.c 0) (.cnt (.x 0)))) (.nns (.x 0)))
  (.need (.x 0) (.nns (.x 0))
  (.load (.x 0) (.el (.x 0) (.c 0) 6 0) 1 [(.i .u8 (.x 0))] ⟨1, 0, 0, 0, 0, 0⟩
  (.need (.not (.or (.not (.x 0)) (.not (.eqI (.x 0) (.c 1))))) (.and (.and (.le (.c 0) (.c 0)) (.lt (.c 0) (.cnt (.x 0)))) (.nns (.x 0)))
  (.load (.not (.or (.not (.x 0)) (.not (.eqI (.x 0) (.c 1))))) (.el (.x 0) (.c 0) 6 0) 6 [(.i .u8 (.x 1)), (.i .i64 (.x 2)), (.i .i64 (.x 3)), (.i .i64 (.x 4)), (.i .i64 (.x 5)), (.s (.x 0))] ⟨5, 0, 1, 0, 0, 0⟩
  (.call (.not (.or (.not (.x 0)) (.not (.eqI (.x 0) (.c 1))))) false 49 [(.agg [(.i .u8 (.x 1)), (.i .i64 (.x 2)), (.i .i64 (.x 3)), (.i .i64 (.x 4)), (.i .i64 (.x 5)), (.s (.x 0))])] (.p (.one (.b (.x 1)))) ⟨0, 1, 0, 0, 0, 0⟩
  (.ite (.or (.or (.not (.x 0)) (.not (.eqI (.x 0) (.c 1)))) (.not (.x 1)))
  (.ret (.p (.one (.b (.c false)))))
  (.loop 0 ⟨[(.c 0)], [(.c false)], [], [], [], []⟩
  (.ite (.lt (.x 6) (.cnt (.x 0)))
  (.need (.c true) (.and (.and (.le (.c 0) (.x 6)) (.lt (.x 6) (.cnt (.x 0)))) (.nns (.x 0)))
  (.load (.c true) (.el (.x 0) (.x 6) 6 0) 6 [(.i .u8 (.x 7)), (.i .i64 (.x 8)), (.i .i64 (.x 9)), (.i .i64 (.x 10)), (.i .i64 (.x 11)), (.s (.x 1))] ⟨5, 0, 1, 0, 0, 0⟩
  (.call (.c true) false 50 [(.one (.sl (.x 0))), (.one (.i .i64 (.x 6)))] (.p (.one (.sl (.x 1)))) ⟨0, 0, 0, 0, 1, 0⟩
  (.loop 1 ⟨[(.c 0), (.x 7), (.x 8), (.x 9), (.x 10), (.x 11)], [], [(.x 1)], [], [.nil], []⟩
  (.ite (.lt (.x 12) (.cnt (.x 1)))
  (.need (.c true) (.and (.and (.le (.c 0) (.x 12)) (.lt (.x 12) (.cnt (.x 1)))) (.nns (.x 1)))
  (.load (.c true) (.el (.x 1) (.x 12) 1 0) 1 [(.i .i64 (.x 18))] ⟨1, 0, 0, 0, 0, 0⟩
  (.load (.c true) (.el (.x 0) (.x 18) 6 0) 6 [(.i .u8 (.x 19)), (.i .i64 (.x 20)), (.i .i64 (.x 21)), (.i .i64 (.x 22)), (.i .i64 (.x 23)), (.s (.x 3))] ⟨5, 0, 1, 0, 0, 0⟩
  (.need (.c true) (.and (.and (.le (.c 0) (.x 18)) (.lt (.x 18) (.cnt (.x 0)))) (.nns (.x 0)))
  (.mk [(.i .u8 (.x 19)), (.i .i64 (.x 20)), (.i .i64 (.x 21)), (.i .i64 (.x 22)), (.i .i64 (.x 23)), (.s (.x 3))] 52 1
  (.app (.x 2) (.x 3) 6 56 52
  (.need (.c true) (.and (.le (.c (-9223372036854775808)) (.add (.x 12) (.c 1))) (.le (.add (.x 12) (.c 1)) (.c 9223372036854775807)))
  (.again 1 ⟨12, 3, 2, 0, 2, 0⟩ ⟨18, 3, 3, 0, 3, 0⟩ ⟨[(.add (.x 12) (.c 1)), (.x 13), (.x 14), (.x 15), (.x 16), (.x 17)], [], [(.x 2)], [], [(.x 4)], []⟩))))))))
  (.ite (.eqI (.x 6) (.c 0))
  (.mk [(.i .u8 (.c 2)), (.i .u8 (.c 4))] 5 2
  (.call (.c true) false 52 [(.one (.sl (.x 3)))] (.p (.one (.v 0))) ⟨0, 0, 0, 1, 0, 0⟩
  (.call (.c true) false 51 [(.agg [(.i .u8 (.x 13)), (.i .i64 (.x 14)), (.i .i64 (.x 15)), (.i .i64 (.x 16)), (.i .i64 (.x 17)), (.s (.x 2)), (.sl (.x 2))]), (.one (.v 0))] (.p (.one (.b (.x 3)))) ⟨0, 1, 0, 0, 0, 0⟩
  (.ite (.not (.x 3))
  (.ret (.p (.one (.b (.c false)))))
  (.need (.lt (.c 0) (.x 6)) (.and (.and (.le (.c 0) (.x 6)) (.lt (.x 6) (.cnt (.x 0)))) (.nns (.x 0)))
  (.load (.lt (.c 0) (.x 6)) (.el (.x 0) (.x 6) 6 0) 6 [(.i .u8 (.x 18)), (.i .i64 (.x 19)), (.i .i64 (.x 20)), (.i .i64 (.x 21)), (.i .i64 (.x 22)), (.s (.x 3))] ⟨5, 0, 1, 0, 0, 0⟩
  (.call (.lt (.c 0) (.x 6)) false 49 [(.agg [(.i .u8 (.x 18)), (.i .i64 (.x 19)), (.i .i64 (.x 20)), (.i .i64 (.x 21)), (.i .i64 (.x 22)), (.s (.x 3))])] (.p (.one (.b (.x 4)))) ⟨0, 1, 0, 0, 0, 0⟩
  (.call (.and (.lt (.c 0) (.x 6)) (.x 4)) false 53 [(.agg [(.i .u8 (.x 13)), (.i .i64 (.x 14)), (.i .i64 (.x 15)), (.i .i64 (.x 16)), (.i .i64 (.x 17)), (.s (.x 2)), (.sl (.x 2))])] (.p (.one (.b (.x 5)))) ⟨0, 1, 0, 0, 0, 0⟩
  (.ite (.and (.lt (.c 0) (.x 6)) (.or (.not (.x 4)) (.not (.x 5))))
  (.ret (.p (.one (.b (.c false)))))
  (.need (.c true) (.and (.le (.c (-9223372036854775808)) (.add (.x 6) (.c 1))) (.le (.add (.x 6) (.c 1)) (.c 9223372036854775807)))
  (.again 0 ⟨6, 2, 1, 0, 1, 0⟩ ⟨7, 3, 1, 0, 1, 0⟩ ⟨[(.add (.x 6) (.c 1))], [(.x 2)], [], [], [], []⟩)))))))))))
  (.need (.lt (.c 0) (.x 6)) (.and (.and (.le (.c 0) (.x 6)) (.lt (.x 6) (.cnt (.x 0)))) (.nns (.x 0)))
  (.load (.lt (.c 0) (.x 6)) (.el (.x 0) (.x 6) 6 0) 6 [(.i .u8 (.x 18)), (.i .i64 (.x 19)), (.i .i64 (.x 20)), (.i .i64 (.x 21)), (.i .i64 (.x 22)), (.s (.x 3))] ⟨5, 0, 1, 0, 0, 0⟩
  (.call (.lt (.c 0) (.x 6)) false 49 [(.agg [(.i .u8 (.x 18)), (.i .i64 (.x 19)), (.i .i64 (.x 20)), (.i .i64 (.x 21)), (.i .i64 (.x 22)), (.s (.x 3))])] (.p (.one (.b (.x 3)))) ⟨0, 1, 0, 0, 0, 0⟩
  (.call (.and (.lt (.c 0) (.x 6)) (.x 3)) false 53 [(.agg [(.i .u8 (.x 13)), (.i .i64 (.x 14)), (.i .i64 (.x 15)), (.i .i64 (.x 16)), (.i .i64 (.x 17)), (.s (.x 2)), (.sl (.x 2))])] (.p (.one (.b (.x 4)))) ⟨0, 1, 0, 0, 0, 0⟩
  (.ite (.and (.lt (.c 0) (.x 6)) (.or (.not (.x 3)) (.not (.x 4))))
  (.ret (.p (.one (.b (.c false)))))
  (.need (.c true) (.and (.le (.c (-9223372036854775808)) (.add (.x 6) (.c 1))) (.le (.add (.x 6) (.c 1)) (.c 9223372036854775807)))
  (.again 0 ⟨6, 2, 1, 0, 1, 0⟩ ⟨7, 3, 1, 0, 1, 0⟩ ⟨[(.add (.x 6) (.c 1))], [(.x 2)], [], [], [], []⟩)))))))))))))
  (.ret (.p (.one (.b (.c true)))))))))))))))
theorem gen_tmay : genFn ⟨true, []⟩ Tryz.prog (fun l => ([⟨[2, 26], [27, 28, 3, 29, 30, 31, 32, 33, 4, 34, 35, 36, 37, 38, 39, 40, 41, 6, 42, 43, 44, 45, 46, 47, 48, 49, 50, 51, 53, 54, 55, 56, 57, 58, 59, 60, 61, 52, 63, 64, 65, 66, 67, 68, 69, 70, 71, 72, 73, 74, 75, 76, 77, 62, 78], [4]⟩, ⟨[38], [39, 40, 41, 6, 42, 43, 44, 45, 46, 47, 48, 49, 50, 51], [4]⟩] : List LAnn).getD l ⟨[], [], []⟩) Tryz.f24 = fm_tmay := by kernel_rfl
theorem ps_tmay : freshPs Tryz.prog .zero Tryz.f24.params.toList = some ([(.one (.sl (.x 0)))], ⟨0, 0, 0, 0, 1, 0⟩) := by kernel_rfl
def mayInv (h : Hp) (sl : Slc) (t : Tr) (x0 : Ng) (o : Nat) (C : Ctx) : Prop :=
  match o with
  | 0 => ∃ (j : Nat) (k0 : Int) (b0 b1 bb : Bool) (k : Hp), C = ⟨[k0, x0.k, x0.l, x0.c, x0.z, x0.n, j], [b0, b1, bb], [x0.x], [], [sl], [], k, noM⟩ ∧ j ≤ t.n ∧ HLe h k ∧ okIs 0 t.subs = okIs j (t.subs.drop j)
  | _ => ∃ (j m : Nat) (k0 : Int) (b0 b1 bb : Bool) (k : Hp) (x : Ng) (s : Tr) (ksl s' : Slc), C = ⟨[k0, x0.k, x0.l, x0.c, x0.z, x0.n, j, x.k, x.l, x.c, x.z, x.n, m, x.k, x.l, x.c, x.z, x.n], [b0, b1, bb], [x0.x, x.x, x.x], [], [sl, ksl, s'], [], k, noM⟩ ∧
      t.subs[j]? = some s ∧ x = s.g ∧ HLe h k ∧ IntR k ksl (places ((j : Int) + 1) s.kl) ∧ m ≤ s.kl.length ∧ OwnS k s' (gcs ((s.kl.map Tr.g).take m)) 52 6 ∧ s'.n = m ∧ (∀ y, s'.a = some y → h y.1 = none ∧ ∀ z, ksl.a = some z → z.1 ≠ y.1)
def mayMeas (t : Tr) (o : Nat) (C : Ctx) : Nat := match o with
  | 0 => ((t.n : Int) - C.i.getD 6 0).toNat
  | _ => (((C.l.getD 1 ⟨none, 0, 0⟩).n : Int) - C.i.getD 12 0).toNat
theorem kl_root : ∀ t : Tr, ∃ k l c n x, t = .nd k l c n x t.kl ∧ t.g = ⟨k, l, c, (Tr.ns t.kl : Nat), n, x⟩
  | .nd k l c n x _ => ⟨k, l, c, n, x, rfl, rfl⟩
theorem places_at : ∀ (ts : List Tr) (p : Nat) {l : List Ng} (_ : Pss l p ts) (m : Nat) (hm : m < ts.length), ∃ q : Nat, (places (p : Nat) ts)[m]? = some (q : Int) ∧ Ps l q ts[m]
  | [], _, _, _, m, hm => by simp at hm
  | t :: ts, p, l, P, 0, _ => ⟨p, rfl, P.cons.1⟩
  | t :: ts, p, l, P, m + 1, hm => by
    obtain ⟨q, h1, h2⟩ := places_at ts (p + t.n) P.cons.2 m (by simpa using hm)
    refine ⟨q, ?_, by simpa using h2⟩
    rw [places, List.getElem?_cons_succ, show ((p : Nat) : Int) + (t.n : Nat) = ((p + t.n : Nat) : Int) by omega]
    exact h1
set_option maxHeartbeats 16000000 in
def ctTMay : Ct Tryz.prog where
  f := 24
  spec := fun args h φ => ∃ sl l, args = [Slc.val sl] ∧ NG h sl l ∧ l.length ≤ 1000000 ∧ ((rightR l = false ∧ φ (.bool false) h) ∨ ∃ t : Tr, l = t.gs ∧ φ (.bool (mayT t)) h)
  ok := by
    rintro args h φ w ⟨sl, l, rfl, R, hl, hφ⟩ hH
    have hn := NG.n R
    rcases hφ with ⟨hr, hφ⟩ | ⟨t, rfl, hφ⟩
    ·
      refine ct_forget (by_fm Tryz.func24 gen_tmay ps_tmay [ctTRight] (fun v k => ∃ k', HLe k' k ∧ φ v k') (noInv) (noMeas) ⟨[], [], [], [], [sl], [], h, noM⟩ ⟨rfl, rfl, rfl, rfl, rfl, rfl⟩ ones_nil ?_ w hH rfl)
      generalize hE : (⟨specOf _, _, _, _⟩ : Env) = E
      have s_ctTRight : E.spec 23 = (ctTRight).spec := by rw [← hE]; rfl
      have ep : E.post = (fun v k => ∃ k', HLe k' k ∧ φ v k') := by rw [← hE]
      clear hE
      unfold fm_tmay
      rw [th_call, if_pos (by rfl), s_ctTRight]
      refine ⟨sl, l, rfl, R, hl, ?_⟩
      rw [hr]
      refine ⟨fun h => (by cases h), (exI_iff _ _).2 ⟨⟨[], [false], [], [], [], []⟩, rfl, ones_nil, rfl, ?_⟩⟩
      rw [then_step]
      refine need_i (fun g => by simp [go_sem] at g) ?_
      rw [then_step]
      refine need_i (fun g => by simp [go_sem] at g) ?_
      rw [then_step, th_load, if_neg (by simp [go_sem]), then_step]
      refine need_i (fun g => by simp [go_sem] at g) ?_
      rw [then_step, th_load, if_neg (by simp [go_sem]), then_step, th_call, if_neg (by simp [go_sem]), then_step, th_ite, if_pos (by simp [go_sem])]
      rw [then_step, says_ret, ep]
      exact ⟨h, fun _ _ h => h, hφ⟩
    have htn : t.gs.length = t.n := gs_len t
    have htpos : 0 < t.n := by rw [sz_n]; omega
    obtain ⟨gr, hgr, _⟩ := gs_cons t
    have hg0 : t.gs[0]? = some t.g := by rw [hgr]; rfl
    obtain ⟨hg1, hg2⟩ := List.getElem?_eq_some_iff.1 hg0
    obtain ⟨b, o, ha⟩ := Rows.nn R (j := 0) (by omega)
    have hr0 := NG.node R hg1 ha
    rw [hg2] at hr0
    have hr1 := Rows.read (off := 0) (m := 1) R (j := 0) (by omega) (by omega) ha
    rw [Nat.add_zero, gcs_at hg1, hg2] at hr1
    have hR := rightR_tree t
    have P0 : Ps t.gs 0 t := ⟨[], [], by simp, rfl⟩
    unfold mayT at hφ
    generalize hx0 : t.g = x0 at *
    refine ct_forget (by_fm Tryz.func24 gen_tmay ps_tmay [ctTRight, ctTFields, ctKids, ctTof, ctLAll, ctLRight] (fun v k => ∃ k', HLe k' k ∧ φ v k') (mayInv h sl t x0) (fun o C => mayMeas t o C) ⟨[], [], [], [], [sl], [], h, noM⟩ ⟨rfl, rfl, rfl, rfl, rfl, rfl⟩ ones_nil ?_ w hH rfl)
    generalize hE : (⟨specOf _, _, _, _⟩ : Env) = E
    have s_ctTRight : E.spec 23 = (ctTRight).spec := by rw [← hE]; rfl
    have s_ctTFields : E.spec 49 = (ctTFields).spec := by rw [← hE]; rfl
    have s_ctKids : E.spec 50 = (ctKids).spec := by rw [← hE]; rfl
    have s_ctTof : E.spec 52 = (ctTof).spec := by rw [← hE]; rfl
    have s_ctLAll : E.spec 51 = (ctLAll).spec := by rw [← hE]; rfl
    have s_ctLRight : E.spec 53 = (ctLRight).spec := by rw [← hE]; rfl
    have ep : E.post = (fun v k => ∃ k', HLe k' k ∧ φ v k') := by rw [← hE]
    have ei : E.inv = (mayInv h sl t x0) := by rw [← hE]
    have em : E.meas = (fun o C => mayMeas t o C) := by rw [← hE]
    clear hE
    unfold fm_tmay
    have fin : ∀ (C : Ctx) (b : Bool), HLe h C.h → φ (.bool b) h → Then E (.ret (.p (.one (.b (.c b))))) C := by
      intro C b hC hb
      rw [then_step, says_ret, ep]
      exact ⟨h, hC, hb⟩
    rw [th_call, if_pos (by rfl), s_ctTRight]
    refine ⟨sl, t.gs, rfl, R, hl, ?_⟩
    rw [hR]
    refine ⟨fun h => (by cases h), (exI_iff _ _).2 ⟨⟨[], [true], [], [], [], []⟩, rfl, ones_nil, rfl, ?_⟩⟩
    rw [then_step]
    refine need_i (fun g => by simp [go_sem, ha]; omega) ?_
    rw [then_step]
    refine need_i (fun g => by simp [go_sem, ha]) ?_
    rw [then_step, th_load, if_pos (by rfl)]
    refine (exI_iff _ _).2 ⟨⟨[x0.k], [], [], [], [], []⟩, rfl, ones_nil, by simpa [go_sem, ha, Ng.cs] using hr1, ?_⟩
    by_cases hk1 : x0.k = 1
    rotate_left
    · rw [decide_eq_false hk1] at hφ
      rw [then_step]
      refine need_i (fun g => by simp [go_sem, hk1] at g) ?_
      rw [then_step, th_load, if_neg (by simp [go_sem, hk1]), then_step, th_call, if_neg (by simp [go_sem, hk1]), then_step, th_ite, if_pos (by simp [go_sem])]
      exact fin _ _ (fun _ _ h => h) hφ
    rw [decide_eq_true hk1, Bool.true_and] at hφ
    rw [then_step]
    refine need_i (fun g => by simp [go_sem, ha]; omega) ?_
    rw [then_step, th_load, if_pos (by simp [go_sem, hk1])]
    refine (exI_iff _ _).2 ⟨⟨[x0.k, x0.l, x0.c, x0.z, x0.n], [], [x0.x], [], [], []⟩, rfl, ones_nil, by simpa [go_sem, ha, Ng.cs] using hr0, ?_⟩
    rw [then_step, th_call, if_pos (by simp [go_sem, hk1]), s_ctTFields]
    refine ⟨x0, rfl, ?_⟩
    refine ⟨fun h => (by cases h), (exI_iff _ _).2 ⟨⟨[], [fieldsB x0], [], [], [], []⟩, rfl, ones_nil, rfl, ?_⟩⟩
    cases hf0 : fieldsB x0 with
    | false =>
      rw [hf0] at hφ
      rw [then_step, th_ite, if_pos (by simp [go_sem])]
      exact fin _ _ (fun _ _ h => h) hφ
    | true =>
    rw [hf0, Bool.true_and] at hφ
    rw [then_step, th_ite, if_neg (by simp [go_sem, hk1]), then_step]
    clear hr0 hr1
    refine loop_intro ?_ ?_
    · rw [ei]
      exact ⟨0, x0.k, true, true, false, h, rfl, by omega, fun _ _ h => h, rfl⟩
    rw [ei, em]
    rintro i bbs ss v ll pp hh M ⟨j, k0, b0, b1, bb, k, hC, hj, hle, hok⟩ hM
    cases hC
    have hM' : M 0 = ((t.n : Int) - j).toNat := hM
    clear hM
    by_cases hjl : j < t.n
    rotate_left
    · have hz2 : ¬ ((j : Int) < sl.n) := by omega
      rw [th_ite, if_neg (by simpa [go_sem] using hz2)]
      rw [List.drop_eq_nil_of_le (by rw [subs_len]; omega), okIs] at hok
      rw [hok] at hφ
      exact fin _ _ hle hφ
    have hz2 : ((j : Int) < sl.n) := by omega
    have hjs : j < t.subs.length := by rw [subs_len]; exact hjl
    have hsj : t.subs[j]? = some t.subs[j] := List.getElem?_eq_getElem hjs
    have P := subs_at t P0 j _ hsj
    rw [Nat.zero_add] at P
    rw [List.drop_eq_getElem_cons hjs, okIs] at hok
    generalize t.subs[j] = s at *
    obtain ⟨hp1, hp2⟩ := P.node
    have hplt := P.lt
    have R1 := NG.le R hle
    have hnd := NG.node R1 hp1 ha
    rw [hp2] at hnd
    rw [th_ite, if_pos (by simpa [go_sem] using hz2)]
    rw [then_step, th_need]; refine ⟨by simp [go_sem, ha] <;> omega, ?_⟩
    rw [then_step, th_load, if_pos (by rfl)]
    refine (exI_iff _ _).2 ⟨⟨[s.g.k, s.g.l, s.g.c, s.g.z, s.g.n], [], [s.g.x], [], [], []⟩, rfl, ones_nil, by simpa [go_sem, ha, Ng.cs] using hnd, ?_⟩
    obtain ⟨sk, sll, sc, sn, sx, hse, hsg⟩ := kl_root s
    have hns : s.n = Tr.ns s.kl + 1 := by rw [hse, sz_n, Tr.sz, szs_ns]; rfl
    have hkl := ns_ge s.kl
    have PK : Pss t.gs (j + 1) s.kl := by rw [hse] at P; exact P.kids
    have hkP : kidsP t.gs ((j : Nat) + (Tr.ns s.kl : Nat)) s.kl.length ((j : Nat) + 1) = some (places ((j : Nat) + 1) s.kl) := by
      rw [hse] at P
      exact P.kidsP (Nat.le_refl _)
    rw [then_step, th_call, if_pos (by rfl), s_ctKids]
    refine ⟨sl, t.gs, j, ((Tr.ns s.kl : Nat) : Int), s.kl.length, _, rfl, R1, hl, by omega, ⟨s.g, by rw [List.getElem?_eq_getElem hp1, hp2], by rw [hsg]⟩, by omega, by omega, hkP, fun ksl k2 hle2 hko hkn => ?_⟩
    have hle2' : HLe hh k2 := hle2
    refine ⟨fun h => (by cases h), (exI_iff _ _).2 ⟨⟨[], [], [], [], [ksl], []⟩, rfl, ones_nil, rfl, ?_⟩⟩
    have KR := IntR.own hko hkn
    generalize hxs : s.g = x at *
    rw [then_step]
    refine loop_in ?_ ?_
    · rw [ei]
      exact ⟨j, 0, k0, b0, b1, bb, k2, x, s, ksl, ⟨none, 0, 0⟩, rfl, hsj, hxs.symm, HLe.trans hle hle2', KR, Nat.zero_le _, .inl ⟨rfl, by simp [gcs]⟩, rfl, fun y hy => (by cases hy)⟩
    rintro ⟨xi, xb, xs, xv, xl, xp⟩ h' M' hc hinv hm hM1
    rw [ei] at hinv
    rw [em] at hm
    clear KR hkP R1 hnd hle hle2 hle2' hko hkn
    obtain ⟨j2, m, k0', b0', b1', bb', k, x', s2, ksl', s', hC, q1, q2, hle, KR, hmk, hown, hsn, hfr⟩ := hinv
    simp [Ctx.push, Ctx.heap, Ctx.bare] at hC
    obtain ⟨⟨rfl, hj2, -, -, -, -, -, rfl⟩, ⟨rfl, rfl, rfl, rfl⟩, ⟨-, rfl⟩, rfl, ⟨rfl, rfl⟩, rfl, rfl⟩ := hC
    obtain rfl : j2 = j := by omega
    rw [hsj] at q1
    cases q1
    rw [hxs] at q2
    obtain rfl : x = x' := q2.symm
    clear hj2 hc
    have hm' : M' 1 = ((ksl.n : Int) - m).toNat := hm
    have hM0 : M' 0 = ((t.n : Int) - j2).toNat := (hM1 0 (by decide)).trans hM'
    clear hm hM1 hM'
    have hkn : ksl.n = s.kl.length := by rw [KR.n, places_len]
    have R1 := NG.le R hle
    by_cases hml : m < s.kl.length
    · have hz3 : (m : Int) < ksl.n := by omega
      obtain ⟨q, hq1, Pq⟩ := places_at s.kl (j2 + 1) PK m hml
      obtain ⟨hq2, hq3⟩ := List.getElem?_eq_some_iff.1 hq1
      obtain ⟨b2, o2, hka, hkr⟩ := KR.read (j := m) hq2
      have hq3' : (places ((j2 : Int) + 1) s.kl)[m]'hq2 = (q : Int) := hq3
      rw [hq3'] at hkr
      obtain ⟨hpq, hpq2⟩ := Pq.node
      have hndq := NG.node R1 hpq ha
      rw [hpq2] at hndq
      have htake : (s.kl.map Tr.g).take (m + 1) = (s.kl.map Tr.g).take m ++ [(s.kl[m]).g] := by rw [List.take_succ_eq_append_getElem (by simpa using hml)]; simp
      generalize (s.kl[m]).g = y at *
      rw [th_ite, if_pos (by simpa [go_sem] using hz3)]
      rw [then_step, th_need]; refine ⟨by simp [go_sem, hka] <;> omega, ?_⟩
      rw [then_step, th_load, if_pos (by rfl)]
      refine (exI_iff _ _).2 ⟨⟨[(q : Int)], [], [], [], [], []⟩, rfl, ones_nil, by simpa [go_sem, hka] using hkr, ?_⟩
      rw [then_step, th_load, if_pos (by rfl)]
      refine (exI_iff _ _).2 ⟨⟨[y.k, y.l, y.c, y.z, y.n], [], [y.x], [], [], []⟩, rfl, ones_nil, by simpa [go_sem, ha, Ng.cs] using hndq, ?_⟩
      rw [then_step, th_need]; refine ⟨by simp [go_sem, ha] <;> omega, ?_⟩
      rw [then_step, th_mk]; intro b3 hb3
      have hb3' : h' b3 = none := hb3
      rw [then_step, says_app]
      have hle3 := hle_set hb3' ⟨y.cs, 52⟩
      refine ⟨gcs ((s.kl.map Tr.g).take m), y.cs, own_le hown hle3, .inr ⟨by simp [go_sem], ?_⟩, ?_, ?_, ?_, ?_⟩
      · simp [go_sem, Ng.cs]
      · intro u hu; simp [Ng.cs] at hu; rcases hu with rfl | rfl | rfl | rfl | rfl | rfl <;> rfl
      · show s'.n + 1 ≤ maxLen; unfold maxLen; omega
      · show (s'.n + 1) * 56 ≤ _; omega
      intro s3 k3 g1 g2 g3 g4
      have g2' : s3.n = s'.n + 1 := g2
      have hle4 : HLe h k3 := fun c oo hc => g4 c oo (fun y hy e => by
        have := (hfr y hy).1
        rw [e, hc] at this; cases this) (hle3 _ _ (hle _ _ hc))
      have hnone : ∀ c, (h'.set b3 ⟨y.cs, 52⟩) c = none → h' c = none := fun c hc => hset_none hb3' hc
      rw [th_need]
      refine ⟨by simp [go_sem]; omega, ?_⟩
      rw [then_step, says_again, ei, em]
      refine ⟨⟨j2, m + 1, k0, b0, b1, bb, k3, x, s, ksl, s3, rfl, hsj, hxs.symm, hle4, ?_, by omega, by rw [htake, gcs_app]; simpa [gcs] using g1, by rw [g2', hsn], fun q4 hq4 => ?_⟩, ?_⟩
      · refine ⟨KR.n, KR.c, KR.at_.imp id fun ⟨c, o4, ob, h1, h2, h3⟩ => ⟨c, o4, ob, h1, g4 c ob (fun y hy e => (hfr y hy).2 _ h1 e.symm) (hle3 _ _ h2), h3⟩⟩
      · rcases g3 q4 hq4 with ⟨q5, hq5, e⟩ | hn5
        · rw [← e]; exact hfr q5 hq5
        · have hn6 := hnone _ hn5
          refine ⟨?_, fun z hz e => ?_⟩
          · cases hh2 : h q4.1 with
            | none => rfl
            | some oo => rw [hle _ _ hh2] at hn6; cases hn6
          · rcases KR.at_ with h0 | ⟨c, o4, ob, h1, h2, _⟩
            · have : (places ((j2 : Int) + 1) s.kl).length = 0 := by rw [h0]; rfl
              rw [places_len] at this
              omega
            · rw [h1] at hz
              cases hz
              simp only at e
              rw [← e, h2] at hn6
              cases hn6
      · show (((ksl.n : Int) - ((m : Int) + 1)).toNat) < M' 1
        omega
    have hz3 : ¬ ((m : Int) < ksl.n) := by omega
    rw [th_ite, if_neg (by simpa [go_sem] using hz3)]
    obtain rfl : m = s.kl.length := by omega
    rw [List.take_of_length_le (by simp)] at hown
    have NR : NG h' s' (s.kl.map Tr.g) := Rows.of_own hown
    have hsc : s'.n ≤ s'.c := by
      rcases hown with ⟨h1, _⟩ | ⟨_, _, _, _, _, _, h5, _⟩
      · rw [h1]; exact Nat.le_refl _
      · exact h5
    have hgo : okIs 0 t.subs = okIs (j2 + 1) (t.subs.drop (j2 + 1)) → ∀ (k5 : Hp) (bb2 : Bool), HLe h k5 → mayInv h sl t x0 0 ⟨[k0, x0.k, x0.l, x0.c, x0.z, x0.n, (j2 : Int) + 1], [b0, b1, bb2], [x0.x], [], [sl], [], k5, noM⟩ := fun h1 k5 bb2 h2 =>
      ⟨j2 + 1, k0, b0, b1, bb2, k5, rfl, by omega, h2, h1⟩
    have hms : ((t.n : Int) - ((j2 : Int) + 1)).toNat < M' 0 := by omega
    by_cases hj0 : j2 = 0
    · have hjz : (j2 : Int) = 0 := by omega
      have hok0 : okI j2 s = (s.kl.map Tr.g).all (wO [2, 4]) := by unfold okI; rw [if_pos hj0]
      rw [hok0] at hok
      rw [then_step, th_ite, if_pos (by simpa [go_sem] using hjz)]
      rw [then_step, th_mk]; intro b3 hb3
      have hb3' : h' b3 = none := hb3
      have hle3 := fun o => hle_set hb3' o
      rw [then_step, th_call, if_pos (by rfl), s_ctTof]
      refine ⟨_, rfl, fun pb kb Tb hkb hpb => ?_⟩
      refine ⟨fun h => (by cases h), (exI_iff _ _).2 ⟨⟨[], [], [], [_], [], []⟩, rfl, by intro u hu; simp at hu; subst hu; rfl, rfl, ?_⟩⟩
      have hlekb : HLe h' kb := HLe.trans (hle3 _) hkb
      have hro : Rows kb ⟨some (b3, 0), 2, 2⟩ (kcs [2, 4]) 1 := kinds_mk (hkb _ _ (set_same _ _ _)) rfl
      have hw := want_of hpb hro (by decide)
      rw [then_step, th_call, if_pos (by rfl), s_ctLAll]
      refine ⟨x, s', s.kl.map Tr.g, _, _, rfl, NR.le hlekb, by rw [List.length_map]; omega, hw, ?_⟩
      refine ⟨fun h => (by cases h), (exI_iff _ _).2 ⟨⟨[], [(s.kl.map Tr.g).all (wO [2, 4])], [], [], [], []⟩, rfl, ones_nil, rfl, ?_⟩⟩
      have hlef : HLe h kb := HLe.trans hle hlekb
      cases hall : (s.kl.map Tr.g).all (wO [2, 4]) with
      | false =>
        rw [hall, Bool.false_and] at hok
        rw [hok] at hφ
        rw [then_step, th_ite, if_pos (by simp [go_sem])]
        exact fin _ _ hlef hφ
      | true =>
        rw [hall, Bool.true_and] at hok
        rw [then_step, th_ite, if_neg (by simp [go_sem]), then_step]
        refine need_i (fun g => by simp [go_sem, hjz] at g) ?_
        rw [then_step, th_load, if_neg (by simp [go_sem, hjz]), then_step, th_call, if_neg (by simp [go_sem, hjz]), then_step, th_call, if_neg (by simp [go_sem, hjz]), then_step, th_ite, if_neg (by simp [go_sem, hjz])]
        rw [then_step, th_need]; refine ⟨by simp [go_sem] <;> omega, ?_⟩
        rw [then_step, says_again, ei, em]
        exact ⟨hgo hok kb _ hlef, hms⟩
    · have hjz : ¬ (j2 : Int) = 0 := by omega
      have hjp : (0 : Int) < (j2 : Int) := by omega
      have hjp' : 0 < j2 := by omega
      have hok0 : okI j2 s = (fieldsB x && rightB x.k x.n (s.kl.map Tr.g)) := by unfold okI; rw [if_neg hj0, hxs]
      rw [hok0] at hok
      have hnd := NG.node R1 hp1 ha
      rw [hp2] at hnd
      rw [then_step, th_ite, if_neg (by simpa [go_sem] using hjz), then_step]
      refine need_i (fun g => by simp [go_sem, ha]; omega) ?_
      rw [then_step, th_load, if_pos (by simpa [go_sem] using hjp)]
      refine (exI_iff _ _).2 ⟨⟨[x.k, x.l, x.c, x.z, x.n], [], [x.x], [], [], []⟩, rfl, ones_nil, by simpa [go_sem, ha, Ng.cs] using hnd, ?_⟩
      rw [then_step, th_call, if_pos (by simpa [go_sem] using hjp), s_ctTFields]
      refine ⟨x, rfl, ?_⟩
      refine ⟨fun h => (by cases h), (exI_iff _ _).2 ⟨⟨[], [fieldsB x], [], [], [], []⟩, rfl, ones_nil, rfl, ?_⟩⟩
      cases hf : fieldsB x with
      | false =>
        rw [hf, Bool.false_and, Bool.false_and] at hok
        rw [hok] at hφ
        rw [then_step, th_call, if_neg (by simp [go_sem]), then_step, th_ite, if_pos (by simp [go_sem, hjp'])]
        exact fin _ _ hle hφ
      | true =>
        rw [hf, Bool.true_and] at hok
        rw [then_step, th_call, if_pos (by simp [go_sem, hjp']), s_ctLRight]
        refine ⟨x, s', s.kl.map Tr.g, rfl, NR, by rw [List.length_map]; omega, hsc, ?_⟩
        refine ⟨fun h => (by cases h), (exI_iff _ _).2 ⟨⟨[], [rightB x.k x.n (s.kl.map Tr.g)], [], [], [], []⟩, rfl, ones_nil, rfl, ?_⟩⟩
        cases hrb : rightB x.k x.n (s.kl.map Tr.g) with
        | false =>
          rw [hrb, Bool.false_and] at hok
          rw [hok] at hφ
          rw [then_step, th_ite, if_pos (by simp [go_sem, hjp'])]
          exact fin _ _ hle hφ
        | true =>
          rw [hrb, Bool.true_and] at hok
          rw [then_step, th_ite, if_neg (by simp [go_sem])]
          rw [then_step, th_need]; refine ⟨by simp [go_sem] <;> omega, ?_⟩
          rw [then_step, says_again, ei, em]
          exact ⟨hgo hok h' _ hle, hms⟩
def fm_yoper : Fm := (.need (.c true) (.nnp 0)
  (.need (.c true) (.nnp 0)
  (.load (.c true) (.pt 0 0) 1 [(.sl (.x 0))] ⟨0, 0, 0, 0, 1, 0⟩
  (.need (.c true) (.and (.and (.le (.c 0) (.x 0)) (.lt (.x 0) (.cnt (.x 0)))) (.nns (.x 0)))
  (.load (.c true) (.el (.x 0) (.x 0) 6 0) 6 [(.i .u8 (.x 2)), (.i .i64 (.x 3)), (.i .i64 (.x 4)), (.i .i64 (.x 5)), (.i .i64 (.x 6)), (.s (.x 0))] ⟨5, 0, 1, 0, 0, 0⟩
  (.call (.c true) false 95 [(.agg [(.i .u8 (.x 2)), (.i .i64 (.x 3)), (.i .i64 (.x 4)), (.i .i64 (.x 5)), (.i .i64 (.x 6)), (.s (.x 0))])] (.p (.one (.i .i64 (.x 7)))) ⟨1, 0, 0, 0, 0, 0⟩
  (.ite (.le (.x 1) (.x 7))
  (.call (.c true) false 26 [(.one (.pt 0)), (.one (.i .i64 (.x 0)))] (.tup []) ⟨0, 0, 0, 0, 0, 0⟩
  (.ret (.tup [])))
  (.mk [(.s (.c [40]))] 9 1
  (.call (.c true) false 41 [(.one (.pt 0)), (.one (.sl (.x 1)))] (.tup []) ⟨0, 0, 0, 0, 0, 0⟩
  (.call (.c true) false 26 [(.one (.pt 0)), (.one (.i .i64 (.x 0)))] (.tup []) ⟨0, 0, 0, 0, 0, 0⟩
  (.mk [(.s (.c [41]))] 9 1
  (.call (.c true) false 41 [(.one (.pt 0)), (.one (.sl (.x 2)))] (.tup []) ⟨0, 0, 0, 0, 0, 0⟩
  (.ret (.tup []))))))))))))))
theorem gen_yoper : genFn ⟨true, []⟩ Tryz.prog (fun l => ([] : List LAnn).getD l ⟨[], [], []⟩) Tryz.f57 = fm_yoper := by kernel_rfl
theorem ps_yoper : freshPs Tryz.prog .zero Tryz.f57.params.toList = some ([(.one (.pt 0)), (.one (.i .i64 (.x 0))), (.one (.i .i64 (.x 1)))], ⟨2, 0, 0, 0, 0, 1⟩) := by kernel_rfl
def fm_yrow : Fm := (.loop 0 ⟨[(.c 0)], [], [], [], [], []⟩
  (.ite (.lt (.x 0) (.cnt (.x 0)))
  (.need (.c true) (.and (.and (.le (.c 0) (.x 0)) (.lt (.x 0) (.cnt (.x 0)))) (.nns (.x 0)))
  (.load (.c true) (.el (.x 0) (.x 0) 1 0) 1 [(.i .i64 (.x 1))] ⟨1, 0, 0, 0, 0, 0⟩
  (.ite (.lt (.c 0) (.x 0))
  (.mk [(.s (.c [44, 32]))] 9 1
  (.call (.c true) false 41 [(.one (.pt 0)), (.one (.sl (.x 1)))] (.tup []) ⟨0, 0, 0, 0, 0, 0⟩
  (.call (.c true) false 26 [(.one (.pt 0)), (.one (.i .i64 (.x 1)))] (.tup []) ⟨0, 0, 0, 0, 0, 0⟩
  (.need (.c true) (.and (.le (.c (-9223372036854775808)) (.add (.x 0) (.c 1))) (.le (.add (.x 0) (.c 1)) (.c 9223372036854775807)))
  (.again 0 ⟨0, 0, 0, 0, 1, 1⟩ ⟨1, 0, 0, 0, 1, 1⟩ ⟨[(.add (.x 0) (.c 1))], [], [], [], [], []⟩)))))
  (.call (.c true) false 26 [(.one (.pt 0)), (.one (.i .i64 (.x 1)))] (.tup []) ⟨0, 0, 0, 0, 0, 0⟩
  (.need (.c true) (.and (.le (.c (-9223372036854775808)) (.add (.x 0) (.c 1))) (.le (.add (.x 0) (.c 1)) (.c 9223372036854775807)))
  (.again 0 ⟨0, 0, 0, 0, 1, 1⟩ ⟨1, 0, 0, 0, 1, 1⟩ ⟨[(.add (.x 0) (.c 1))], [], [], [], [], []⟩))))))
  (.ret (.tup []))))
theorem gen_yrow : genFn ⟨true, []⟩ Tryz.prog (fun l => ([⟨[8], [9, 10, 11, 12, 4, 5, 13, 14, 15, 16, 17, 18, 19, 20, 21], []⟩] : List LAnn).getD l ⟨[], [], []⟩) Tryz.f56 = fm_yrow := by kernel_rfl
theorem ps_yrow : freshPs Tryz.prog .zero Tryz.f56.params.toList = some ([(.one (.pt 0)), (.one (.sl (.x 0)))], ⟨0, 0, 0, 0, 1, 1⟩) := by kernel_rfl
/-- A text is written behind what was. -/
def Writes (h : Hp) (b : Nat) (lsl : Slc) (l : List Ng) (sl : Slc) (inn : Int) (s : List UInt8) (φ : Value → Hp → Prop) : Prop :=
  ∀ used' sl' k, PSt k b lsl l used' sl' inn s → PGo h k b sl sl' → φ (.tuple #[]) k
/-- There is room for a text. -/
def Fits (acc s : List UInt8) : Prop := s.length ≤ 200000 ∧ acc.length + s.length ≤ 100000000
theorem Fits.sub {acc s a b c : List UInt8} (F : Fits acc s) (h : s = a ++ (b ++ c)) : Fits (acc ++ a) b := by
  obtain ⟨h1, h2⟩ := F
  subst h
  simp only [List.length_append] at h1 h2
  exact ⟨by omega, by rw [List.length_append]; omega⟩
theorem Fits.put {acc s a b c : List UInt8} (F : Fits acc s) (h : s = a ++ (b ++ c)) : (acc ++ a).length + b.length ≤ 100000000 := (F.sub h).2
theorem Fits.p0 {acc s b c : List UInt8} (F : Fits acc s) (h : s = b ++ c) : acc.length + b.length ≤ 100000000 := by
  obtain ⟨_, h2⟩ := F
  rw [h, List.length_append] at h2
  omega
def yexprS (n : Nat) (args : List Value) (h : Hp) (φ : Value → Hp → Prop) : Prop :=
  ∃ b lsl l used sl inn acc p t, args = [.pointer (some ⟨b, 0, none⟩), .int .i64 (p : Nat)] ∧ PSt h b lsl l used sl inn acc ∧ Ps l p t ∧ WfE t ∧ t.n ≤ n ∧ l.length ≤ 1000000 ∧ Fits acc (tx t) ∧ Writes h b lsl l sl inn (acc ++ tx t) φ
def yoperS (n : Nat) (args : List Value) (h : Hp) (φ : Value → Hp → Prop) : Prop :=
  ∃ b lsl l used sl inn acc p t least, args = [.pointer (some ⟨b, 0, none⟩), .int .i64 (p : Nat), .int .i64 (least : Nat)] ∧ PSt h b lsl l used sl inn acc ∧ Ps l p t ∧ WfE t ∧ t.n ≤ n ∧ l.length ≤ 1000000 ∧ Fits acc (brk (decide (t.lv < least)) (tx t)) ∧ Writes h b lsl l sl inn (acc ++ brk (decide (t.lv < least)) (tx t)) φ
def yrowS (n : Nat) (args : List Value) (h : Hp) (φ : Value → Hp → Prop) : Prop :=
  ∃ b lsl l used sl inn acc p ts s, args = [.pointer (some ⟨b, 0, none⟩), Slc.val s] ∧ PSt h b lsl l used sl inn acc ∧ Pss l p ts ∧ WfEs ts ∧ Tr.ns ts ≤ n ∧ IntR h s (places (p : Nat) ts) ∧ l.length ≤ 1000000 ∧ Fits acc (txr ts) ∧ Writes h b lsl l sl inn (acc ++ txr ts) φ
def bintx (n : Int) (a c : Tr) : List UInt8 := brk (decide (a.lv < lft (sgn n).2)) (tx a) ++ (32 :: ((sgn n).1 ++ (32 :: brk (decide (c.lv < (sgn n).2 + 1)) (tx c))))
def ybinS (n : Nat) (args : List Value) (h : Hp) (φ : Value → Hp → Prop) : Prop :=
  ∃ b lsl l used sl inn acc x p a c s, args = [.pointer (some ⟨b, 0, none⟩), Ng.v x, Slc.val s] ∧ PSt h b lsl l used sl inn acc ∧ Ps l p a ∧ Ps l (p + a.n) c ∧ WfE a ∧ WfE c ∧ a.n ≤ n ∧ c.n ≤ n ∧ IntR h s [(p : Nat), (p + a.n : Nat)] ∧ l.length ≤ 1000000 ∧ Fits acc (bintx x.n a c) ∧ Writes h b lsl l sl inn (acc ++ bintx x.n a c) φ
def YExprOk (n : Nat) : Prop := ∀ args h φ w, yexprS n args h φ → Holds h w → Calls Tryz.prog 26 args.toArray w fun e w' => ∃ v k, e = .returned v ∧ φ v k ∧ Holds k w' ∧ Fr w.heap.size h k w w'
def YOperOk (n : Nat) : Prop := ∀ args h φ w, yoperS n args h φ → Holds h w → Calls Tryz.prog 57 args.toArray w fun e w' => ∃ v k, e = .returned v ∧ φ v k ∧ Holds k w' ∧ Fr w.heap.size h k w w'
def YRowOk (n : Nat) : Prop := ∀ args h φ w, yrowS n args h φ → Holds h w → Calls Tryz.prog 56 args.toArray w fun e w' => ∃ v k, e = .returned v ∧ φ v k ∧ Holds k w' ∧ Fr w.heap.size h k w w'
def YBinOk (n : Nat) : Prop := ∀ args h φ w, ybinS n args h φ → Holds h w → Calls Tryz.prog 58 args.toArray w fun e w' => ∃ v k, e = .returned v ∧ φ v k ∧ Holds k w' ∧ Fr w.heap.size h k w w'
def ctYExpr {n : Nat} (H : YExprOk n) : Ct Tryz.prog := ⟨26, yexprS n, H⟩
def ctYOper {n : Nat} (H : YOperOk n) : Ct Tryz.prog := ⟨57, yoperS n, H⟩
def ctYRow {n : Nat} (H : YRowOk n) : Ct Tryz.prog := ⟨56, yrowS n, H⟩
def ctYBin {n : Nat} (H : YBinOk n) : Ct Tryz.prog := ⟨58, ybinS n, H⟩
set_option maxHeartbeats 2000000 in
theorem yoper_ok {n : Nat} (ih : YExprOk n) : YOperOk n := by
  rintro args h φ w ⟨b, lsl, l, used, sl, inn, acc, p, t, least, rfl, X, P, W, hn, hl, F, hφ⟩ hH
  refine by_fm Tryz.func57 gen_yoper ps_yoper [ctYLevel, ctYPut, ctYExpr ih] φ (noInv) (noMeas) ⟨[((p : Nat) : Int), ((least : Nat) : Int)], [], [], [], [], [some (b, 0)], h, noM⟩ ⟨rfl, rfl, rfl, rfl, rfl, rfl⟩ ones_nil ?_ w hH rfl
  generalize hE : (⟨specOf _, _, _, _⟩ : Env) = E
  have s_ctYLevel : E.spec 95 = (ctYLevel).spec := by rw [← hE]; rfl
  have s_ctYPut : E.spec 41 = (ctYPut).spec := by rw [← hE]; rfl
  have s_ctE : E.spec 26 = (ctYExpr ih).spec := by rw [← hE]; rfl
  have ep : E.post = φ := by rw [← hE]
  clear hE
  unfold fm_yoper
  obtain ⟨c0, o0, ha, hrd, hpn⟩ := X.node P
  have hb := X.prn.at_
  rw [← then_step]
  rw [then_step, th_need]; refine ⟨by simp [go_sem] <;> omega, ?_⟩
  rw [then_step, th_need]; refine ⟨by simp [go_sem] <;> omega, ?_⟩
  rw [then_step, th_load, if_pos (by rfl)]
  refine (exI_iff _ _).2 ⟨⟨[], [], [], [], [lsl], []⟩, rfl, ones_nil, by simp [go_sem, hread_of hb, prn], ?_⟩
  rw [then_step, th_need]; refine ⟨by simp [go_sem, ha] <;> omega, ?_⟩
  rw [then_step, th_load, if_pos (by rfl)]; refine (exI_iff _ _).2 ⟨⟨[t.g.k, t.g.l, t.g.c, t.g.z, t.g.n], [], [t.g.x], [], [], []⟩, rfl, ones_nil, by simpa [go_sem, ha, Ng.cs] using hrd, ?_⟩
  rw [then_step, th_call, if_pos (by rfl), s_ctYLevel]
  refine ⟨t.g, rfl, ?_⟩
  refine ⟨fun h => (by cases h), (exI_iff _ _).2 ⟨⟨[((t.g.lv : Nat) : Int)], [], [], [], [], []⟩, rfl, ones_nil, rfl, ?_⟩⟩
  rw [Tr.g_lv]
  by_cases hlv : t.lv < least
  · rw [decide_eq_true hlv] at F hφ
    have hz : ¬ ((least : Int) ≤ (t.lv : Int)) := by omega
    rw [then_step, th_ite, if_neg (by simpa [go_sem] using hz)]
    rw [then_step, th_mk]; intro bb hbb
    rw [then_step, th_call, if_pos (by rfl), s_ctYPut]
    refine put_spec (ss := [[40]]) X hbb (by simpa using F.put (a := []) (b := [40]) (c := tx t ++ [41]) rfl) (by simp) fun u1 s1 k1 X1 G1 => ?_
    refine ⟨fun h => (by cases h), (exI_iff _ _).2 ⟨⟨[], [], [], [], [], []⟩, rfl, ones_nil, rfl, ?_⟩⟩
    rw [then_step, th_call, if_pos (by rfl), s_ctE]
    refine ⟨b, lsl, l, u1, s1, inn, acc ++ [40], p, t, rfl, X1, P, W, hn, hl, F.sub (a := [40]) (c := [41]) rfl, fun u2 s2 k2 X2 G2 => ?_⟩
    refine ⟨fun h => (by cases h), (exI_iff _ _).2 ⟨⟨[], [], [], [], [], []⟩, rfl, ones_nil, rfl, ?_⟩⟩
    rw [then_step, th_mk]; intro b2 hb2
    rw [then_step, th_call, if_pos (by rfl), s_ctYPut]
    refine put_spec (ss := [[41]]) X2 hb2 ?_ (by simp) fun u3 s3 k3 X3 G3 => ?_
    · have := F.put (a := 40 :: tx t) (b := [41]) (c := []) (by simp [brk])
      simpa using this
    refine ⟨fun h => (by cases h), (exI_iff _ _).2 ⟨⟨[], [], [], [], [], []⟩, rfl, ones_nil, rfl, ?_⟩⟩
    rw [then_step, says_ret, ep]
    refine hφ u3 s3 k3 ?_ ((G1.trans G2 X1.prn.nn).trans G3 X2.prn.nn)
    simpa [brk] using X3
  · rw [decide_eq_false hlv] at F hφ
    have hz : (least : Int) ≤ (t.lv : Int) := by omega
    rw [then_step, th_ite, if_pos (by simpa [go_sem] using hz)]
    rw [then_step, th_call, if_pos (by rfl), s_ctE]
    refine ⟨b, lsl, l, used, sl, inn, acc, p, t, rfl, X, P, W, hn, hl, F, fun u2 s2 k2 X2 G2 => ?_⟩
    refine ⟨fun h => (by cases h), (exI_iff _ _).2 ⟨⟨[], [], [], [], [], []⟩, rfl, ones_nil, rfl, ?_⟩⟩
    rw [then_step, says_ret, ep]
    exact hφ u2 s2 k2 X2 G2
/-- What is left of a row. -/
def rtl (j : Nat) (ts : List Tr) : List UInt8 := if j = 0 then txr ts else txs ts
theorem rtl_cons (j : Nat) (t : Tr) (ts : List Tr) : rtl j (t :: ts) = (if j = 0 then [] else [44, 32]) ++ (tx t ++ rtl (j + 1) ts) := by
  unfold rtl
  rw [if_neg (Nat.succ_ne_zero j)]
  split
  · rw [txr]; rfl
  · rw [txs]; rfl
theorem rtl_nil (j : Nat) : rtl j [] = [] := by
  unfold rtl
  split <;> simp [txr, txs]
theorem WfEs.app : ∀ {a b : List Tr}, WfEs (a ++ b) → WfEs b
  | [], _, h => h
  | _ :: _, _, .cons _ _ _ hs => WfEs.app hs
theorem Pss.app {l : List Ng} {p : Nat} {a b : List Tr} (h : Pss l p (a ++ b)) : Pss l (p + Tr.ns a) b := by
  obtain ⟨pre, post, rfl, rfl⟩ := h
  refine ⟨pre ++ Tr.gss a, post, by simp [Tr.gss, nodss_app], by rw [List.length_append, gss_len]⟩
def yrowInv (h : Hp) (b : Nat) (lsl : Slc) (l : List Ng) (sl : Slc) (inn : Int) (acc : List UInt8) (p : Nat) (ts : List Tr) (s : Slc) (_ : Nat) (C : Ctx) : Prop :=
  ∃ (j : Nat) (u : Bool) (s' : Slc) (k : Hp) (pre rest : List Tr) (a : List UInt8), C = ⟨[j], [], [], [], [s], [some (b, 0)], k, noM⟩ ∧ ts = pre ++ rest ∧ pre.length = j ∧ PSt k b lsl l u s' inn (acc ++ a) ∧ PGo h k b sl s' ∧ IntR k s (places (p : Nat) ts) ∧ a ++ rtl j rest = txr ts
set_option maxHeartbeats 4000000 in
theorem yrow_ok {n : Nat} (ih : YExprOk n) : YRowOk n := by
  rintro args h φ w ⟨b, lsl, l, used, sl, inn, acc, p, ts, s, rfl, X, P, W, hn, R, hl, F, hφ⟩ hH
  refine by_fm Tryz.func56 gen_yrow ps_yrow [ctYPut, ctYExpr ih] φ (yrowInv h b lsl l sl inn acc p ts s) (fun _ C => ((ts.length : Int) - C.i.getD 0 0).toNat) ⟨[], [], [], [], [s], [some (b, 0)], h, noM⟩ ⟨rfl, rfl, rfl, rfl, rfl, rfl⟩ ones_nil ?_ w hH rfl
  generalize hE : (⟨specOf _, _, _, _⟩ : Env) = E
  have s_ctYPut : E.spec 41 = (ctYPut).spec := by rw [← hE]; rfl
  have s_ctE : E.spec 26 = (ctYExpr ih).spec := by rw [← hE]; rfl
  have ep : E.post = φ := by rw [← hE]
  have ei : E.inv = (yrowInv h b lsl l sl inn acc p ts s) := by rw [← hE]
  have em : E.meas = (fun _ C => ((ts.length : Int) - C.i.getD 0 0).toNat) := by rw [← hE]
  clear hE
  unfold fm_yrow
  have hsn := R.n
  rw [places_len] at hsn
  have hts6 : ts.length ≤ 1000000 := by
    obtain ⟨pre, post, rfl, _⟩ := P
    have := ns_ge ts
    rw [List.length_append, List.length_append, gss_len] at hl
    omega
  refine loop_intro ?_ ?_
  · rw [ei]
    exact ⟨0, used, sl, h, [], ts, [], rfl, rfl, rfl, by simpa using X, PGo.refl _ _ _, R, by simp [rtl]⟩
  rw [ei, em]
  rintro i bb ss v ll pp hh M ⟨j, u, s', k, pre, rest, a, hC, hts, hj, X', G, R', ha⟩ hM
  cases hC
  have hM' : M 0 = ((ts.length : Int) - j).toNat := hM
  have htl : ts.length = j + rest.length := by rw [hts, List.length_append, hj]
  cases rest with
  | nil =>
    rw [List.length_nil] at htl
    have hz : ¬ ((j : Int) < s.n) := by omega
    rw [rtl_nil, List.append_nil] at ha
    rw [th_ite, if_neg (by simpa [go_sem] using hz)]
    rw [then_step, says_ret, ep]
    rw [ha] at X'
    exact hφ u s' hh X' G
  | cons t rest =>
    rw [List.length_cons] at htl
    have hz : (j : Int) < s.n := by omega
    rw [rtl_cons] at ha
    have hP := Pss.app (show Pss l p (pre ++ (t :: rest)) by rw [← hts]; exact P)
    have hW := WfEs.app (show WfEs (pre ++ (t :: rest)) by rw [← hts]; exact W)
    obtain ⟨hP1, hP2⟩ := hP.cons
    have hWt : WfE t := by cases hW; assumption
    have htn : t.n ≤ n := by
      rw [hts, ns_app, ns_cons] at hn; omega
    have hpl : (places (p : Nat) ts)[j]? = some ((p + Tr.ns pre : Nat) : Int) := by
      rw [hts, places_app, List.getElem?_append_right (by rw [places_len]; omega), places_len, hj, Nat.sub_self, places]
      simp
    obtain ⟨hj3, hj4⟩ := List.getElem?_eq_some_iff.1 hpl
    obtain ⟨c1, o1, hsa, hrd⟩ := R'.read hj3
    rw [hj4] at hrd
    rw [th_ite, if_pos (by simpa [go_sem] using hz)]
    rw [then_step, th_need]; refine ⟨by simp [go_sem, hsa] <;> omega, ?_⟩
    rw [then_step, th_load, if_pos (by rfl)]; refine (exI_iff _ _).2 ⟨⟨[((p + Tr.ns pre : Nat) : Int)], [], [], [], [], []⟩, rfl, ones_nil, by simpa [go_sem, hsa] using hrd, ?_⟩
    have hlast : ∀ (u2 : Bool) (s2 : Slc) (k2 : Hp), PSt k2 b lsl l u2 s2 inn (acc ++ (a ++ (if j = 0 then [] else [44, 32]) ++ tx t)) → PGo hh k2 b s' s2 →
        yrowInv h b lsl l sl inn acc p ts s 0 ⟨[(j : Int) + 1], [], [], [], [s], [some (b, 0)], k2, noM⟩ := fun u2 s2 k2 X2 G2 =>
      ⟨j + 1, u2, s2, k2, pre ++ [t], rest, a ++ (if j = 0 then [] else [44, 32]) ++ tx t, rfl, by rw [hts]; simp, by simp [hj], X2, G.trans G2 X'.prn.nn, R'.go X'.prn G2, by rw [← ha]; simp⟩
    by_cases hj0 : j = 0
    · have hz0 : ¬ ((0 : Int) < (j : Int)) := by omega
      rw [then_step, th_ite, if_neg (by simpa [go_sem] using hz0)]
      rw [then_step, th_call, if_pos (by rfl), s_ctE]
      rw [if_pos hj0] at ha hlast
      refine ⟨b, lsl, l, u, s', inn, acc ++ a, p + Tr.ns pre, t, rfl, X', hP1, hWt, htn, hl, F.sub (a := a) (c := rtl (j + 1) rest) ?_, fun u2 s2 k2 X2 G2 => ?_⟩
      · rw [← ha]; simp
      refine ⟨fun h => (by cases h), (exI_iff _ _).2 ⟨⟨[], [], [], [], [], []⟩, rfl, ones_nil, rfl, ?_⟩⟩
      rw [then_step, th_need]; refine ⟨by simp [go_sem] <;> omega, ?_⟩
      rw [then_step, says_again, ei, em]
      refine ⟨hlast u2 s2 k2 (by simpa using X2) G2, ?_⟩
      show (((ts.length : Int) - ((j : Int) + 1)).toNat) < M 0
      omega
    · have hz0 : (0 : Int) < (j : Int) := by omega
      rw [then_step, th_ite, if_pos (by simpa [go_sem] using hz0)]
      rw [if_neg hj0] at ha hlast
      rw [then_step, th_mk]; intro b1 hb1
      rw [then_step, th_call, if_pos (by rfl), s_ctYPut]
      refine put_spec (ss := [[44, 32]]) X' hb1 (F.put (a := a) (b := [44, 32]) (c := tx t ++ rtl (j + 1) rest) ha.symm) (by simp) fun u1 s1 k1 X1 G1 => ?_
      refine ⟨fun h => (by cases h), (exI_iff _ _).2 ⟨⟨[], [], [], [], [], []⟩, rfl, ones_nil, rfl, ?_⟩⟩
      rw [then_step, th_call, if_pos (by rfl), s_ctE]
      refine ⟨b, lsl, l, u1, s1, inn, _, p + Tr.ns pre, t, rfl, X1, hP1, hWt, htn, hl, ?_, fun u2 s2 k2 X2 G2 => ?_⟩
      · have := F.sub (a := a ++ [44, 32]) (b := tx t) (c := rtl (j + 1) rest) (by rw [← ha]; simp)
        simpa using this
      refine ⟨fun h => (by cases h), (exI_iff _ _).2 ⟨⟨[], [], [], [], [], []⟩, rfl, ones_nil, rfl, ?_⟩⟩
      rw [then_step, th_need]; refine ⟨by simp [go_sem] <;> omega, ?_⟩
      rw [then_step, says_again, ei, em]
      refine ⟨hlast u2 s2 k2 (by simpa using X2) (G1.trans G2 X1.prn.nn), ?_⟩
      show (((ts.length : Int) - ((j : Int) + 1)).toNat) < M 0
      omega
def fm_ybin : Fm := (.call (.c true) false 96 [(.one (.i .i64 (.x 4)))] (.tup [(.one (.s (.x 1))), (.one (.i .i64 (.x 5)))]) ⟨1, 0, 1, 0, 0, 0⟩
  (.ite (.or (.eqI (.x 5) (.c 3)) (.eqI (.x 5) (.c 4)))
  (.need (.c true) (.and (.le (.c (-9223372036854775808)) (.add (.x 5) (.c 1))) (.le (.add (.x 5) (.c 1)) (.c 9223372036854775807)))
  (.need (.c true) (.and (.and (.le (.c 0) (.c 0)) (.lt (.c 0) (.cnt (.x 0)))) (.nns (.x 0)))
  (.load (.c true) (.el (.x 0) (.c 0) 1 0) 1 [(.i .i64 (.x 6))] ⟨1, 0, 0, 0, 0, 0⟩
  (.call (.c true) false 57 [(.one (.pt 0)), (.one (.i .i64 (.x 6))), (.one (.i .i64 (.add (.x 5) (.c 1))))] (.tup []) ⟨0, 0, 0, 0, 0, 0⟩
  (.mk [(.s (.c [32])), (.s (.x 1)), (.s (.c [32]))] 9 3
  (.call (.c true) false 41 [(.one (.pt 0)), (.one (.sl (.x 1)))] (.tup []) ⟨0, 0, 0, 0, 0, 0⟩
  (.need (.c true) (.and (.and (.le (.c 0) (.c 1)) (.lt (.c 1) (.cnt (.x 0)))) (.nns (.x 0)))
  (.load (.c true) (.el (.x 0) (.c 1) 1 0) 1 [(.i .i64 (.x 7))] ⟨1, 0, 0, 0, 0, 0⟩
  (.need (.c true) (.and (.le (.c (-9223372036854775808)) (.add (.x 5) (.c 1))) (.le (.add (.x 5) (.c 1)) (.c 9223372036854775807)))
  (.call (.c true) false 57 [(.one (.pt 0)), (.one (.i .i64 (.x 7))), (.one (.i .i64 (.add (.x 5) (.c 1))))] (.tup []) ⟨0, 0, 0, 0, 0, 0⟩
  (.ret (.tup []))))))))))))
  (.need (.c true) (.and (.and (.le (.c 0) (.c 0)) (.lt (.c 0) (.cnt (.x 0)))) (.nns (.x 0)))
  (.load (.c true) (.el (.x 0) (.c 0) 1 0) 1 [(.i .i64 (.x 6))] ⟨1, 0, 0, 0, 0, 0⟩
  (.call (.c true) false 57 [(.one (.pt 0)), (.one (.i .i64 (.x 6))), (.one (.i .i64 (.x 5)))] (.tup []) ⟨0, 0, 0, 0, 0, 0⟩
  (.mk [(.s (.c [32])), (.s (.x 1)), (.s (.c [32]))] 9 3
  (.call (.c true) false 41 [(.one (.pt 0)), (.one (.sl (.x 1)))] (.tup []) ⟨0, 0, 0, 0, 0, 0⟩
  (.need (.c true) (.and (.and (.le (.c 0) (.c 1)) (.lt (.c 1) (.cnt (.x 0)))) (.nns (.x 0)))
  (.load (.c true) (.el (.x 0) (.c 1) 1 0) 1 [(.i .i64 (.x 7))] ⟨1, 0, 0, 0, 0, 0⟩
  (.need (.c true) (.and (.le (.c (-9223372036854775808)) (.add (.x 5) (.c 1))) (.le (.add (.x 5) (.c 1)) (.c 9223372036854775807)))
  (.call (.c true) false 57 [(.one (.pt 0)), (.one (.i .i64 (.x 7))), (.one (.i .i64 (.add (.x 5) (.c 1))))] (.tup []) ⟨0, 0, 0, 0, 0, 0⟩
  (.ret (.tup [])))))))))))))
theorem gen_ybin : genFn ⟨true, []⟩ Tryz.prog (fun l => ([] : List LAnn).getD l ⟨[], [], []⟩) Tryz.f58 = fm_ybin := by kernel_rfl
theorem ps_ybin : freshPs Tryz.prog .zero Tryz.f58.params.toList = some ([(.one (.pt 0)), (.agg [(.i .u8 (.x 0)), (.i .i64 (.x 1)), (.i .i64 (.x 2)), (.i .i64 (.x 3)), (.i .i64 (.x 4)), (.s (.x 0))]), (.one (.sl (.x 0)))], ⟨5, 0, 1, 0, 1, 1⟩) := by kernel_rfl
def fm_yexpr : Fm := (.need (.c true) (.nnp 0)
  (.need (.c true) (.nnp 0)
  (.load (.c true) (.pt 0 0) 1 [(.sl (.x 0))] ⟨0, 0, 0, 0, 1, 0⟩
  (.need (.c true) (.and (.and (.le (.c 0) (.x 0)) (.lt (.x 0) (.cnt (.x 0)))) (.nns (.x 0)))
  (.load (.c true) (.el (.x 0) (.x 0) 6 0) 6 [(.i .u8 (.x 1)), (.i .i64 (.x 2)), (.i .i64 (.x 3)), (.i .i64 (.x 4)), (.i .i64 (.x 5)), (.s (.x 0))] ⟨5, 0, 1, 0, 0, 0⟩
  (.call (.c true) false 38 [(.one (.pt 0)), (.one (.i .i64 (.x 0)))] (.p (.one (.sl (.x 1)))) ⟨0, 0, 0, 0, 1, 0⟩
  (.ite (.eqI (.x 1) (.c 21))
  (.call (.c true) false 54 [(.one (.i .i64 (.x 5)))] (.p (.one (.s (.x 1)))) ⟨0, 0, 1, 0, 0, 0⟩
  (.mk [(.s (.x 1))] 9 1
  (.call (.c true) false 41 [(.one (.pt 0)), (.one (.sl (.x 2)))] (.tup []) ⟨0, 0, 0, 0, 0, 0⟩
  (.ret (.tup [])))))
  (.ite (.eqI (.x 1) (.c 22))
  (.call (.c true) false 54 [(.one (.i .i64 (.x 5)))] (.p (.one (.s (.x 1)))) ⟨0, 0, 1, 0, 0, 0⟩
  (.mk [(.s (.x 1)), (.s (.c [105]))] 9 2
  (.call (.c true) false 41 [(.one (.pt 0)), (.one (.sl (.x 2)))] (.tup []) ⟨0, 0, 0, 0, 0, 0⟩
  (.ret (.tup [])))))
  (.ite (.eqI (.x 1) (.c 23))
  (.call (.c true) false 55 [(.one (.s (.x 0)))] (.p (.one (.s (.x 1)))) ⟨0, 0, 1, 0, 0, 0⟩
  (.mk [(.s (.x 1))] 9 1
  (.call (.c true) false 41 [(.one (.pt 0)), (.one (.sl (.x 2)))] (.tup []) ⟨0, 0, 0, 0, 0, 0⟩
  (.ret (.tup [])))))
  (.ite (.eqI (.x 1) (.c 24))
  (.need (.c true) (.and (.le (.c 0) (.x 5)) (.lt (.x 5) (.c 2)))
  (.mk [(.s (.ite (.eqI (.x 5) (.c 0)) (.c [102, 97, 108, 115, 101]) (.c [116, 114, 117, 101])))] 9 1
  (.call (.c true) false 41 [(.one (.pt 0)), (.one (.sl (.x 2)))] (.tup []) ⟨0, 0, 0, 0, 0, 0⟩
  (.ret (.tup [])))))
  (.ite (.eqI (.x 1) (.c 25))
  (.mk [(.s (.c [110, 105, 108]))] 9 1
  (.call (.c true) false 41 [(.one (.pt 0)), (.one (.sl (.x 2)))] (.tup []) ⟨0, 0, 0, 0, 0, 0⟩
  (.ret (.tup []))))
  (.ite (.eqI (.x 1) (.c 26))
  (.mk [(.s (.x 0))] 9 1
  (.call (.c true) false 41 [(.one (.pt 0)), (.one (.sl (.x 2)))] (.tup []) ⟨0, 0, 0, 0, 0, 0⟩
  (.ret (.tup []))))
  (.ite (.eqI (.x 1) (.c 27))
  (.mk [(.s (.x 0)), (.s (.c [40]))] 9 2
  (.call (.c true) false 41 [(.one (.pt 0)), (.one (.sl (.x 2)))] (.tup []) ⟨0, 0, 0, 0, 0, 0⟩
  (.call (.c true) false 56 [(.one (.pt 0)), (.one (.sl (.x 1)))] (.tup []) ⟨0, 0, 0, 0, 0, 0⟩
  (.mk [(.s (.c [41]))] 9 1
  (.call (.c true) false 41 [(.one (.pt 0)), (.one (.sl (.x 3)))] (.tup []) ⟨0, 0, 0, 0, 0, 0⟩
  (.ret (.tup [])))))))
  (.ite (.eqI (.x 1) (.c 28))
  (.need (.c true) (.and (.and (.le (.c 0) (.c 0)) (.lt (.c 0) (.cnt (.x 1)))) (.nns (.x 1)))
  (.load (.c true) (.el (.x 1) (.c 0) 1 0) 1 [(.i .i64 (.x 6))] ⟨1, 0, 0, 0, 0, 0⟩
  (.call (.c true) false 57 [(.one (.pt 0)), (.one (.i .i64 (.x 6))), (.one (.i .i64 (.c 8)))] (.tup []) ⟨0, 0, 0, 0, 0, 0⟩
  (.mk [(.s (.c [91]))] 9 1
  (.call (.c true) false 41 [(.one (.pt 0)), (.one (.sl (.x 2)))] (.tup []) ⟨0, 0, 0, 0, 0, 0⟩
  (.need (.c true) (.and (.and (.le (.c 0) (.c 1)) (.lt (.c 1) (.cnt (.x 1)))) (.nns (.x 1)))
  (.load (.c true) (.el (.x 1) (.c 1) 1 0) 1 [(.i .i64 (.x 7))] ⟨1, 0, 0, 0, 0, 0⟩
  (.call (.c true) false 26 [(.one (.pt 0)), (.one (.i .i64 (.x 7)))] (.tup []) ⟨0, 0, 0, 0, 0, 0⟩
  (.mk [(.s (.c [93]))] 9 1
  (.call (.c true) false 41 [(.one (.pt 0)), (.one (.sl (.x 3)))] (.tup []) ⟨0, 0, 0, 0, 0, 0⟩
  (.ret (.tup []))))))))))))
  (.ite (.eqI (.x 1) (.c 29))
  (.need (.c true) (.and (.and (.le (.c 0) (.c 0)) (.lt (.c 0) (.cnt (.x 1)))) (.nns (.x 1)))
  (.load (.c true) (.el (.x 1) (.c 0) 1 0) 1 [(.i .i64 (.x 6))] ⟨1, 0, 0, 0, 0, 0⟩
  (.call (.c true) false 57 [(.one (.pt 0)), (.one (.i .i64 (.x 6))), (.one (.i .i64 (.c 8)))] (.tup []) ⟨0, 0, 0, 0, 0, 0⟩
  (.mk [(.s (.c [46])), (.s (.x 0))] 9 2
  (.call (.c true) false 41 [(.one (.pt 0)), (.one (.sl (.x 2)))] (.tup []) ⟨0, 0, 0, 0, 0, 0⟩
  (.ret (.tup [])))))))
  (.ite (.eqI (.x 1) (.c 30))
  (.mk [(.s (.ite (.eqI (.x 5) (.c 12)) (.c [45]) (.c [33])))] 9 1
  (.call (.c true) false 41 [(.one (.pt 0)), (.one (.sl (.x 2)))] (.tup []) ⟨0, 0, 0, 0, 0, 0⟩
  (.need (.c true) (.and (.and (.le (.c 0) (.c 0)) (.lt (.c 0) (.cnt (.x 1)))) (.nns (.x 1)))
  (.load (.c true) (.el (.x 1) (.c 0) 1 0) 1 [(.i .i64 (.x 6))] ⟨1, 0, 0, 0, 0, 0⟩
  (.call (.c true) false 57 [(.one (.pt 0)), (.one (.i .i64 (.x 6))), (.one (.i .i64 (.c 7)))] (.tup []) ⟨0, 0, 0, 0, 0, 0⟩
  (.ret (.tup [])))))))
  (.ite (.eqI (.x 1) (.c 31))
  (.call (.c true) false 58 [(.one (.pt 0)), (.agg [(.i .u8 (.x 1)), (.i .i64 (.x 2)), (.i .i64 (.x 3)), (.i .i64 (.x 4)), (.i .i64 (.x 5)), (.s (.x 0))]), (.one (.sl (.x 1)))] (.tup []) ⟨0, 0, 0, 0, 0, 0⟩
  (.ret (.tup [])))
  (.ite (.eqI (.x 1) (.c 32))
  (.need (.c true) (.and (.and (.le (.c 0) (.c 0)) (.lt (.c 0) (.cnt (.x 1)))) (.nns (.x 1)))
  (.load (.c true) (.el (.x 1) (.c 0) 1 0) 1 [(.i .i64 (.x 6))] ⟨1, 0, 0, 0, 0, 0⟩
  (.call (.c true) false 28 [(.one (.pt 0)), (.one (.i .i64 (.x 6)))] (.p (.one (.s (.x 1)))) ⟨0, 0, 1, 0, 0, 0⟩
  (.mk [(.s (.c [109, 97, 107, 101, 32])), (.s (.x 1)), (.s (.c [40]))] 9 3
  (.call (.c true) false 41 [(.one (.pt 0)), (.one (.sl (.x 2)))] (.tup []) ⟨0, 0, 0, 0, 0, 0⟩
  (.need (.c true) (.and (.le (.cnt (.x 1)) (.cap (.x 1))) (.and (.le (.c 0) (.c 1)) (.le (.c 1) (.cnt (.x 1)))))
  (.call (.c true) false 56 [(.one (.pt 0)), (.one (.sl (.sub (.x 1) (.c 1) (.cnt (.x 1)) 1)))] (.tup []) ⟨0, 0, 0, 0, 0, 0⟩
  (.mk [(.s (.c [41]))] 9 1
  (.call (.c true) false 41 [(.one (.pt 0)), (.one (.sl (.x 3)))] (.tup []) ⟨0, 0, 0, 0, 0, 0⟩
  (.ret (.tup [])))))))))))
  (.ret (.tup []))))))))))))))))))))
theorem gen_yexpr : genFn ⟨true, []⟩ Tryz.prog (fun l => ([] : List LAnn).getD l ⟨[], [], []⟩) Tryz.f26 = fm_yexpr := by kernel_rfl
theorem ps_yexpr : freshPs Tryz.prog .zero Tryz.f26.params.toList = some ([(.one (.pt 0)), (.one (.i .i64 (.x 0)))], ⟨1, 0, 0, 0, 0, 1⟩) := by kernel_rfl
set_option maxHeartbeats 4000000 in
theorem ybin_ok {n : Nat} (ih : YOperOk n) : YBinOk n := by
  rintro args h φ w ⟨b, lsl, l, used, sl, inn, acc, x, p, a, c, s, rfl, X, P, P2, W, W2, hn, hn2, R, hl, F, hφ⟩ hH
  refine by_fm Tryz.func58 gen_ybin ps_ybin [ctYSign, ctYPut, ctYOper ih] φ (noInv) (noMeas) ⟨[x.k, x.l, x.c, x.z, x.n], [], [x.x], [], [s], [some (b, 0)], h, noM⟩ ⟨rfl, rfl, rfl, rfl, rfl, rfl⟩ ones_nil ?_ w hH rfl
  generalize hE : (⟨specOf _, _, _, _⟩ : Env) = E
  have s_ctYSign : E.spec 96 = (ctYSign).spec := by rw [← hE]; rfl
  have s_ctYPut : E.spec 41 = (ctYPut).spec := by rw [← hE]; rfl
  have s_ctO : E.spec 57 = (ctYOper ih).spec := by rw [← hE]; rfl
  have ep : E.post = φ := by rw [← hE]
  clear hE
  unfold fm_ybin
  have hsn := R.n
  have hsn2 : s.n = 2 := hsn
  have hlv := ysgn_lv x.n
  rw [th_call, if_pos (by rfl), s_ctYSign]
  refine ⟨x.n, rfl, ?_⟩
  generalize hg : sgn x.n = g at *
  refine ⟨fun h => (by cases h), (exI_iff _ _).2 ⟨⟨[((g.2 : Nat) : Int)], [], [g.1], [], [], []⟩, rfl, ones_nil, rfl, ?_⟩⟩
  unfold bintx at F hφ
  rw [hg] at F hφ
  obtain ⟨q0, o0, hq0, hr0⟩ := R.read (j := 0) (by simp)
  have tail : ∀ (u1 : Bool) (s1 : Slc) (k1 : Hp) (lf : Nat), lf = lft g.2 → PSt k1 b lsl l u1 s1 inn (acc ++ brk (decide (a.lv < lf)) (tx a)) → PGo h k1 b sl s1 → ∀ (i : List Int) (M : Nat → Nat), i.length = 7 → i.getD 5 0 = ((g.2 : Nat) : Int) →
      Then E (.mk [(.s (.c [32])), (.s (.x 1)), (.s (.c [32]))] 9 3 (.call (.c true) false 41 [(.one (.pt 0)), (.one (.sl (.x 1)))] (.tup []) ⟨0, 0, 0, 0, 0, 0⟩
        (.need (.c true) (.and (.and (.le (.c 0) (.c 1)) (.lt (.c 1) (.cnt (.x 0)))) (.nns (.x 0))) (.load (.c true) (.el (.x 0) (.c 1) 1 0) 1 [(.i .i64 (.x 7))] ⟨1, 0, 0, 0, 0, 0⟩
        (.need (.c true) (.and (.le (.c (-9223372036854775808)) (.add (.x 5) (.c 1))) (.le (.add (.x 5) (.c 1)) (.c 9223372036854775807)))
        (.call (.c true) false 57 [(.one (.pt 0)), (.one (.i .i64 (.x 7))), (.one (.i .i64 (.add (.x 5) (.c 1))))] (.tup []) ⟨0, 0, 0, 0, 0, 0⟩ (.ret (.tup [])))))))) ⟨i, [], [x.x, g.1], [], [s], [some (b, 0)], k1, M⟩ := by
    intro u1 s1 k1 lf hlf X1 G1 i M hi h5
    obtain ⟨i0, i1, i2, i3, i4, i5, i6, rfl⟩ : ∃ i0 i1 i2 i3 i4 i5 i6, i = [i0, i1, i2, i3, i4, i5, i6] := by
      match i, hi with
      | [i0, i1, i2, i3, i4, i5, i6], _ => exact ⟨i0, i1, i2, i3, i4, i5, i6, rfl⟩
    have h5' : i5 = ((g.2 : Nat) : Int) := h5
    subst h5' hlf
    have R1 := R.go X.prn G1
    obtain ⟨q1, o1, hq1, hr1⟩ := R1.read (j := 1) (by simp)
    rw [then_step, th_mk]; intro b1 hb1
    rw [then_step, th_call, if_pos (by rfl), s_ctYPut]
    refine put_spec (ss := [[32], g.1, [32]]) X1 hb1 ?_ (by simp) fun u2 s2 k2 X2 G2 => ?_
    · have := F.put (a := brk (decide (a.lv < lft g.2)) (tx a)) (b := 32 :: (g.1 ++ [32])) (c := brk (decide (c.lv < g.2 + 1)) (tx c)) (by simp)
      simpa using this
    refine ⟨fun h => (by cases h), (exI_iff _ _).2 ⟨⟨[], [], [], [], [], []⟩, rfl, ones_nil, rfl, ?_⟩⟩
    have R2 := R1.go X1.prn G2
    obtain ⟨q2, o2, hq2, hr2⟩ := R2.read (j := 1) (by simp)
    rw [then_step, th_need]; refine ⟨by simp [go_sem, hq2] <;> omega, ?_⟩
    rw [then_step, th_load, if_pos (by rfl)]
    refine (exI_iff _ _).2 ⟨⟨[((p + a.n : Nat) : Int)], [], [], [], [], []⟩, rfl, ones_nil, by simpa [go_sem, hq2] using hr2, ?_⟩
    rw [then_step, th_need]; refine ⟨by simp [go_sem] <;> omega, ?_⟩
    rw [then_step, th_call, if_pos (by rfl), s_ctO]
    refine ⟨b, lsl, l, u2, s2, inn, _, p + a.n, c, g.2 + 1, rfl, X2, P2, W2, hn2, hl, ?_, fun u3 s3 k3 X3 G3 => ?_⟩
    · have := F.sub (a := brk (decide (a.lv < lft g.2)) (tx a) ++ (32 :: (g.1 ++ [32]))) (b := brk (decide (c.lv < g.2 + 1)) (tx c)) (c := []) (by simp)
      simpa using this
    refine ⟨fun h => (by cases h), (exI_iff _ _).2 ⟨⟨[], [], [], [], [], []⟩, rfl, ones_nil, rfl, ?_⟩⟩
    rw [then_step, says_ret, ep]
    refine hφ u3 s3 k3 ?_ ((G1.trans G2 X1.prn.nn).trans G3 X2.prn.nn)
    simpa using X3
  by_cases h34 : g.2 = 3 ∨ g.2 = 4
  · have hz : ((g.2 : Nat) : Int) = 3 ∨ ((g.2 : Nat) : Int) = 4 := by omega
    have hlf : g.2 + 1 = lft g.2 := by unfold lft; rw [if_pos h34]
    rw [then_step, th_ite, if_pos (by simpa [go_sem] using hz)]
    rw [then_step, th_need]; refine ⟨by simp [go_sem] <;> omega, ?_⟩
    rw [then_step, th_need]; refine ⟨by simp [go_sem, hq0] <;> omega, ?_⟩
    rw [then_step, th_load, if_pos (by rfl)]
    refine (exI_iff _ _).2 ⟨⟨[((p : Nat) : Int)], [], [], [], [], []⟩, rfl, ones_nil, by simpa [go_sem, hq0] using hr0, ?_⟩
    rw [then_step, th_call, if_pos (by rfl), s_ctO]
    refine ⟨b, lsl, l, used, sl, inn, acc, p, a, g.2 + 1, rfl, X, P, W, hn, hl, ?_, fun u1 s1 k1 X1 G1 => ?_⟩
    · rw [hlf]
      simpa using F.sub (a := []) (b := brk (decide (a.lv < lft g.2)) (tx a)) rfl
    refine ⟨fun h => (by cases h), (exI_iff _ _).2 ⟨⟨[], [], [], [], [], []⟩, rfl, ones_nil, rfl, ?_⟩⟩
    exact tail u1 s1 k1 _ hlf X1 G1 _ _ rfl rfl
  · have hz : ¬ (((g.2 : Nat) : Int) = 3 ∨ ((g.2 : Nat) : Int) = 4) := by omega
    have hlf : g.2 = lft g.2 := by unfold lft; rw [if_neg h34]
    rw [then_step, th_ite, if_neg (by simpa [go_sem] using hz)]
    rw [then_step, th_need]; refine ⟨by simp [go_sem, hq0] <;> omega, ?_⟩
    rw [then_step, th_load, if_pos (by rfl)]
    refine (exI_iff _ _).2 ⟨⟨[((p : Nat) : Int)], [], [], [], [], []⟩, rfl, ones_nil, by simpa [go_sem, hq0] using hr0, ?_⟩
    rw [then_step, th_call, if_pos (by rfl), s_ctO]
    refine ⟨b, lsl, l, used, sl, inn, acc, p, a, g.2, rfl, X, P, W, hn, hl, ?_, fun u1 s1 k1 X1 G1 => ?_⟩
    · have := F.sub (a := []) (b := brk (decide (a.lv < lft g.2)) (tx a)) rfl
      rw [← hlf] at this
      simpa using this
    refine ⟨fun h => (by cases h), (exI_iff _ _).2 ⟨⟨[], [], [], [], [], []⟩, rfl, ones_nil, rfl, ?_⟩⟩
    exact tail u1 s1 k1 _ hlf X1 G1 _ _ rfl rfl
theorem yqb_pos (c : UInt8) : 1 ≤ (qb c).length := by
  unfold qb
  repeat' split
  all_goals simp
theorem quo_len (x : List UInt8) : x.length ≤ (quo x).length := by
  have : x.length ≤ (x.flatMap qb).length := by
    induction x with
    | nil => simp
    | cons c x ih => rw [List.flatMap_cons, List.length_append, List.length_cons]; have := yqb_pos c; omega
  show x.length ≤ (34 :: (x.flatMap qb ++ [34])).length
  rw [List.length_cons, List.length_append]
  omega
theorem nd_n (k l c n : Int) (x : List UInt8) (ks : List Tr) : (Tr.nd k l c n x ks).n = Tr.ns ks + 1 := by rw [sz_n, Tr.sz, szs_ns]
set_option maxHeartbeats 8000000 in
set_option maxRecDepth 10000 in
theorem yexpr_ok : ∀ n, YExprOk n
  | 0 => by
    rintro args h φ w ⟨b, lsl, l, used, sl, inn, acc, p, t, rfl, X, P, W, hn, _⟩ hH
    rw [sz_n] at hn
    omega
  | n + 1 => by
    have ih := yexpr_ok n
    rintro args h φ w ⟨b, lsl, l, used, sl, inn, acc, p, t, rfl, X, P, W, hn, hl, F, hφ⟩ hH
    refine by_fm Tryz.func26 gen_yexpr ps_yexpr [ctYKids, ctNText, ctQuote, ctYPut, ctYRow (yrow_ok ih), ctYOper (yoper_ok ih), ctYExpr ih, ctYBin (ybin_ok (yoper_ok ih)), ctYKind (kindP_ok 1000000)] φ (noInv) (noMeas) ⟨[((p : Nat) : Int)], [], [], [], [], [some (b, 0)], h, noM⟩ ⟨rfl, rfl, rfl, rfl, rfl, rfl⟩ ones_nil ?_ w hH rfl
    generalize hE : (⟨specOf _, _, _, _⟩ : Env) = E
    have s_ctYKids : E.spec 38 = (ctYKids).spec := by rw [← hE]; rfl
    have s_ctNText : E.spec 54 = (ctNText).spec := by rw [← hE]; rfl
    have s_ctQuote : E.spec 55 = (ctQuote).spec := by rw [← hE]; rfl
    have s_ctYPut : E.spec 41 = (ctYPut).spec := by rw [← hE]; rfl
    have s_ctR : E.spec 56 = (ctYRow (yrow_ok ih)).spec := by rw [← hE]; rfl
    have s_ctO : E.spec 57 = (ctYOper (yoper_ok ih)).spec := by rw [← hE]; rfl
    have s_ctE : E.spec 26 = (ctYExpr ih).spec := by rw [← hE]; rfl
    have s_ctB : E.spec 58 = (ctYBin (ybin_ok (yoper_ok ih))).spec := by rw [← hE]; rfl
    have s_ctK : E.spec 28 = (ctYKind (kindP_ok 1000000)).spec := by rw [← hE]; rfl
    have ep : E.post = φ := by rw [← hE]
    clear hE
    unfold fm_yexpr
    obtain ⟨c0, o0, ha, hrd, hpn⟩ := X.node P
    obtain ⟨hpl, hpt⟩ := P.node
    have hb := X.prn.at_
    have hlt := P.lt
    rw [← then_step]
    rw [then_step, th_need]; refine ⟨by simp [go_sem] <;> omega, ?_⟩
    rw [then_step, th_need]; refine ⟨by simp [go_sem] <;> omega, ?_⟩
    rw [then_step, th_load, if_pos (by rfl)]
    refine (exI_iff _ _).2 ⟨⟨[], [], [], [], [lsl], []⟩, rfl, ones_nil, by simp [go_sem, hread_of hb, prn], ?_⟩
    rw [then_step, th_need]; refine ⟨by simp [go_sem, ha] <;> omega, ?_⟩
    obtain ⟨k, ln, c, nn, x, ks⟩ := t
    rw [nd_n] at hlt hn
    have hks := ns_ge ks
    rw [then_step, th_load, if_pos (by rfl)]
    refine (exI_iff _ _).2 ⟨⟨[k, ln, c, ((Tr.ns ks : Nat) : Int), nn], [], [x], [], [], []⟩, rfl, ones_nil, by simpa [go_sem, ha, Ng.cs, Tr.g] using hrd, ?_⟩
    rw [then_step, th_call, if_pos (by rfl), s_ctYKids]
    refine ⟨b, lsl, l, p, ((Tr.ns ks : Nat) : Int), ks.length, places ((p : Nat) + 1) ks, _, _, rfl, hb, X.row, hl, by omega, ⟨l[p], List.getElem?_eq_getElem hpl, by rw [hpt]; rfl⟩, by omega, by omega, P.kidsP (Nat.le_refl _), fun s k1 hle ho hsn => ?_⟩
    refine ⟨fun h => (by cases h), (exI_iff _ _).2 ⟨⟨[], [], [], [], [s], []⟩, rfl, ones_nil, rfl, ?_⟩⟩
    have X1 := X.le hle
    have R := IntR.own ho hsn
    have fin : Writes k1 b lsl l sl inn (acc ++ tx (.nd k ln c nn x ks)) φ := fun u2 s2 k2 Y G => hφ u2 s2 k2 Y (G.le hle)
    have ps : ((p : Nat) : Int) + 1 = ((p + 1 : Nat) : Int) := by omega
    rw [ps] at R
    have hn' : Tr.ns ks ≤ n := by omega
    clear hφ ho hle
    have PK := P.kids
    cases W with
    | int _ _ _ h0 =>
      rw [then_step, th_ite, if_pos (by simp [go_sem])]
      rw [then_step, th_call, if_pos (by rfl), s_ctNText]
      refine ⟨nn, rfl, by omega, by omega, ?_⟩
      refine ⟨fun h => (by cases h), (exI_iff _ _).2 ⟨⟨[], [], [txt nn], [], [], []⟩, rfl, ones_nil, rfl, ?_⟩⟩
      have e : tx (.nd 21 ln c nn [] []) = txt nn := by rw [tx.eq_def]; simp
      rw [e] at F fin
      rw [then_step, th_mk]; intro bb hbb
      rw [then_step, th_call, if_pos (by rfl), s_ctYPut]
      refine put_spec (ss := [txt nn]) X1 hbb (by simpa using F.2) (by simp) fun u2 s2 k2 Y G => ?_
      refine ⟨fun h => (by cases h), (exI_iff _ _).2 ⟨⟨[], [], [], [], [], []⟩, rfl, ones_nil, rfl, ?_⟩⟩
      rw [then_step, says_ret, ep]
      exact fin u2 s2 k2 (by simpa using Y) G
    | comp _ _ _ h0 =>
      iterate 1 (rw [then_step, th_ite, if_neg (by simp [go_sem])])
      rw [then_step, th_ite, if_pos (by simp [go_sem])]
      rw [then_step, th_call, if_pos (by rfl), s_ctNText]
      refine ⟨nn, rfl, by omega, by omega, ?_⟩
      refine ⟨fun h => (by cases h), (exI_iff _ _).2 ⟨⟨[], [], [txt nn], [], [], []⟩, rfl, ones_nil, rfl, ?_⟩⟩
      have e : tx (.nd 22 ln c nn [] []) = txt nn ++ [105] := by rw [tx.eq_def]; simp
      rw [e] at F fin
      rw [then_step, th_mk]; intro bb hbb
      rw [then_step, th_call, if_pos (by rfl), s_ctYPut]
      refine put_spec (ss := [txt nn, [105]]) X1 hbb (by simpa using F.2) (by simp) fun u2 s2 k2 Y G => ?_
      refine ⟨fun h => (by cases h), (exI_iff _ _).2 ⟨⟨[], [], [], [], [], []⟩, rfl, ones_nil, rfl, ?_⟩⟩
      rw [then_step, says_ret, ep]
      exact fin u2 s2 k2 (by simpa using Y) G
    | str =>
      iterate 2 (rw [then_step, th_ite, if_neg (by simp [go_sem])])
      rw [then_step, th_ite, if_pos (by simp [go_sem])]
      have e : tx (.nd 23 ln c 0 x []) = quo x := by rw [tx.eq_def]; simp
      rw [e] at F fin
      rw [then_step, th_call, if_pos (by rfl), s_ctQuote]
      have := quo_len x
      refine ⟨x, rfl, by have := F.1; omega, ?_⟩
      refine ⟨fun h => (by cases h), (exI_iff _ _).2 ⟨⟨[], [], [quo x], [], [], []⟩, rfl, ones_nil, rfl, ?_⟩⟩
      rw [then_step, th_mk]; intro bb hbb
      rw [then_step, th_call, if_pos (by rfl), s_ctYPut]
      refine put_spec (ss := [quo x]) X1 hbb (by simpa using F.2) (by simp) fun u2 s2 k2 Y G => ?_
      refine ⟨fun h => (by cases h), (exI_iff _ _).2 ⟨⟨[], [], [], [], [], []⟩, rfl, ones_nil, rfl, ?_⟩⟩
      rw [then_step, says_ret, ep]
      exact fin u2 s2 k2 (by simpa using Y) G
    | bool _ _ _ h0 =>
      iterate 3 (rw [then_step, th_ite, if_neg (by simp [go_sem])])
      rw [then_step, th_ite, if_pos (by simp [go_sem])]
      rw [then_step, th_need]; refine ⟨by simp [go_sem] <;> omega, ?_⟩
      rw [then_step, th_mk]; intro bb hbb
      rw [then_step, th_call, if_pos (by rfl), s_ctYPut]
      rcases h0 with rfl | rfl
      · have e : tx (.nd 24 ln c 0 [] []) = wFalse := by rw [tx.eq_def]; simp
        rw [e] at F fin
        refine put_spec (ss := [wFalse]) X1 hbb (by simpa using F.2) (by simp) fun u2 s2 k2 Y G => ?_
        refine ⟨fun h => (by cases h), (exI_iff _ _).2 ⟨⟨[], [], [], [], [], []⟩, rfl, ones_nil, rfl, ?_⟩⟩
        rw [then_step, says_ret, ep]
        exact fin u2 s2 k2 (by simpa using Y) G
      · have e : tx (.nd 24 ln c 1 [] []) = wTrue := by rw [tx.eq_def]; simp
        rw [e] at F fin
        refine put_spec (ss := [wTrue]) X1 hbb (by simpa using F.2) (by simp) fun u2 s2 k2 Y G => ?_
        refine ⟨fun h => (by cases h), (exI_iff _ _).2 ⟨⟨[], [], [], [], [], []⟩, rfl, ones_nil, rfl, ?_⟩⟩
        rw [then_step, says_ret, ep]
        exact fin u2 s2 k2 (by simpa using Y) G
    | nil =>
      iterate 4 (rw [then_step, th_ite, if_neg (by simp [go_sem])])
      rw [then_step, th_ite, if_pos (by simp [go_sem])]
      have e : tx (.nd 25 ln c 0 [] []) = wNil := by rw [tx.eq_def]; simp
      rw [e] at F fin
      rw [then_step, th_mk]; intro bb hbb
      rw [then_step, th_call, if_pos (by rfl), s_ctYPut]
      refine put_spec (ss := [wNil]) X1 hbb (by simpa using F.2) (by simp) fun u2 s2 k2 Y G => ?_
      refine ⟨fun h => (by cases h), (exI_iff _ _).2 ⟨⟨[], [], [], [], [], []⟩, rfl, ones_nil, rfl, ?_⟩⟩
      rw [then_step, says_ret, ep]
      exact fin u2 s2 k2 (by simpa using Y) G
    | name _ _ _ h0 =>
      iterate 5 (rw [then_step, th_ite, if_neg (by simp [go_sem])])
      rw [then_step, th_ite, if_pos (by simp [go_sem])]
      rw [tx_name] at F fin
      rw [then_step, th_mk]; intro bb hbb
      rw [then_step, th_call, if_pos (by rfl), s_ctYPut]
      refine put_spec (ss := [x]) X1 hbb (by simpa using F.2) (by simp) fun u2 s2 k2 Y G => ?_
      refine ⟨fun h => (by cases h), (exI_iff _ _).2 ⟨⟨[], [], [], [], [], []⟩, rfl, ones_nil, rfl, ?_⟩⟩
      rw [then_step, says_ret, ep]
      exact fin u2 s2 k2 (by simpa using Y) G
    | call _ _ _ h0 _ hk =>
      iterate 6 (rw [then_step, th_ite, if_neg (by simp [go_sem])])
      rw [then_step, th_ite, if_pos (by simp [go_sem])]
      rw [tx_call] at F fin
      rw [then_step, th_mk]; intro bb hbb
      rw [then_step, th_call, if_pos (by rfl), s_ctYPut]
      refine put_spec (ss := [x, [40]]) X1 hbb (F.p0 (b := x ++ [40]) (c := txr ks ++ [41]) (by simp)) (by simp) fun u2 s2 k2 X2 G2 => ?_
      refine ⟨fun h => (by cases h), (exI_iff _ _).2 ⟨⟨[], [], [], [], [], []⟩, rfl, ones_nil, rfl, ?_⟩⟩
      rw [then_step, th_call, if_pos (by rfl), s_ctR]
      have R2 := R.go X1.prn G2
      refine ⟨b, lsl, l, u2, s2, inn, _, p + 1, ks, s, rfl, X2, PK, hk, hn', R2, hl, ?_, fun u3 s3 k3 X3 G3 => ?_⟩
      · simpa using F.sub (a := x ++ [40]) (b := txr ks) (c := [41]) (by simp)
      refine ⟨fun h => (by cases h), (exI_iff _ _).2 ⟨⟨[], [], [], [], [], []⟩, rfl, ones_nil, rfl, ?_⟩⟩
      rw [then_step, th_mk]; intro b3 hb3
      rw [then_step, th_call, if_pos (by rfl), s_ctYPut]
      refine put_spec (ss := [[41]]) X3 hb3 (by simpa using F.put (a := x ++ (40 :: txr ks)) (b := [41]) (c := []) (by simp)) (by simp) fun u4 s4 k4 X4 G4 => ?_
      refine ⟨fun h => (by cases h), (exI_iff _ _).2 ⟨⟨[], [], [], [], [], []⟩, rfl, ones_nil, rfl, ?_⟩⟩
      rw [then_step, says_ret, ep]
      exact fin u4 s4 k4 (by simpa using X4) ((G2.trans G3 X2.prn.nn).trans G4 X3.prn.nn)
    | index _ _ a a2 w1 w2 =>
      iterate 7 (rw [then_step, th_ite, if_neg (by simp [go_sem])])
      rw [then_step, th_ite, if_pos (by simp [go_sem])]
      rw [tx_index] at F fin
      obtain ⟨P1, PK2⟩ := PK.cons
      have P2 := PK2.cons.1
      have hR : IntR k1 s [((p + 1 : Nat) : Int), ((p + 1 + a.n : Nat) : Int)] := by simpa [places] using R
      rw [ns_cons, ns_cons, ns_nil] at hn'
      have hs2 : s.n = 2 := hR.n
      obtain ⟨q0, y0, hq0, hr0⟩ := hR.read (j := 0) (by simp)
      rw [then_step, th_need]; refine ⟨by simp [go_sem, hq0] <;> omega, ?_⟩
      rw [then_step, th_load, if_pos (by rfl)]
      refine (exI_iff _ _).2 ⟨⟨[((p + 1 : Nat) : Int)], [], [], [], [], []⟩, rfl, ones_nil, by simpa [go_sem, hq0] using hr0, ?_⟩
      rw [then_step, th_call, if_pos (by rfl), s_ctO]
      refine ⟨b, lsl, l, used, sl, inn, acc, p + 1, a, 8, rfl, X1, P1, w1, by omega, hl, ?_, fun u2 s2 k2 X2 G2 => ?_⟩
      · simpa using F.sub (a := []) (b := brk (decide (a.lv < 8)) (tx a)) rfl
      refine ⟨fun h => (by cases h), (exI_iff _ _).2 ⟨⟨[], [], [], [], [], []⟩, rfl, ones_nil, rfl, ?_⟩⟩
      rw [then_step, th_mk]; intro b2 hb2
      rw [then_step, th_call, if_pos (by rfl), s_ctYPut]
      refine put_spec (ss := [[91]]) X2 hb2 (by simpa using F.put (a := brk (decide (a.lv < 8)) (tx a)) (b := [91]) (c := tx a2 ++ [93]) (by simp)) (by simp) fun u3 s3 k3 X3 G3 => ?_
      refine ⟨fun h => (by cases h), (exI_iff _ _).2 ⟨⟨[], [], [], [], [], []⟩, rfl, ones_nil, rfl, ?_⟩⟩
      have hR3 := (hR.go X1.prn G2).go X2.prn G3
      obtain ⟨q1, y1, hq1, hr1⟩ := hR3.read (j := 1) (by simp)
      rw [then_step, th_need]; refine ⟨by simp [go_sem, hq1] <;> omega, ?_⟩
      rw [then_step, th_load, if_pos (by rfl)]
      refine (exI_iff _ _).2 ⟨⟨[((p + 1 + a.n : Nat) : Int)], [], [], [], [], []⟩, rfl, ones_nil, by simpa [go_sem, hq1] using hr1, ?_⟩
      rw [then_step, th_call, if_pos (by rfl), s_ctE]
      refine ⟨b, lsl, l, u3, s3, inn, _, p + 1 + a.n, a2, rfl, X3, P2, w2, by omega, hl, ?_, fun u4 s4 k4 X4 G4 => ?_⟩
      · simpa using F.sub (a := brk (decide (a.lv < 8)) (tx a) ++ [91]) (b := tx a2) (c := [93]) (by simp)
      refine ⟨fun h => (by cases h), (exI_iff _ _).2 ⟨⟨[], [], [], [], [], []⟩, rfl, ones_nil, rfl, ?_⟩⟩
      rw [then_step, th_mk]; intro b4 hb4
      rw [then_step, th_call, if_pos (by rfl), s_ctYPut]
      refine put_spec (ss := [[93]]) X4 hb4 (by simpa using F.put (a := brk (decide (a.lv < 8)) (tx a) ++ (91 :: tx a2)) (b := [93]) (c := []) (by simp)) (by simp) fun u5 s5 k5 X5 G5 => ?_
      refine ⟨fun h => (by cases h), (exI_iff _ _).2 ⟨⟨[], [], [], [], [], []⟩, rfl, ones_nil, rfl, ?_⟩⟩
      rw [then_step, says_ret, ep]
      exact fin u5 s5 k5 (by simpa using X5) (((G2.trans G3 X2.prn.nn).trans G4 X3.prn.nn).trans G5 X4.prn.nn)
    | dot _ _ _ h0 a w1 =>
      iterate 8 (rw [then_step, th_ite, if_neg (by simp [go_sem])])
      rw [then_step, th_ite, if_pos (by simp [go_sem])]
      rw [tx_dot] at F fin
      obtain ⟨P1, _⟩ := PK.cons
      have hR : IntR k1 s [((p + 1 : Nat) : Int)] := by simpa [places] using R
      rw [ns_cons, ns_nil] at hn'
      have hs2 : s.n = 1 := hR.n
      obtain ⟨q0, y0, hq0, hr0⟩ := hR.read (j := 0) (by simp)
      rw [then_step, th_need]; refine ⟨by simp [go_sem, hq0] <;> omega, ?_⟩
      rw [then_step, th_load, if_pos (by rfl)]
      refine (exI_iff _ _).2 ⟨⟨[((p + 1 : Nat) : Int)], [], [], [], [], []⟩, rfl, ones_nil, by simpa [go_sem, hq0] using hr0, ?_⟩
      rw [then_step, th_call, if_pos (by rfl), s_ctO]
      refine ⟨b, lsl, l, used, sl, inn, acc, p + 1, a, 8, rfl, X1, P1, w1, by omega, hl, ?_, fun u2 s2 k2 X2 G2 => ?_⟩
      · simpa using F.sub (a := []) (b := brk (decide (a.lv < 8)) (tx a)) rfl
      refine ⟨fun h => (by cases h), (exI_iff _ _).2 ⟨⟨[], [], [], [], [], []⟩, rfl, ones_nil, rfl, ?_⟩⟩
      rw [then_step, th_mk]; intro b2 hb2
      rw [then_step, th_call, if_pos (by rfl), s_ctYPut]
      refine put_spec (ss := [[46], x]) X2 hb2 (by simpa using F.put (a := brk (decide (a.lv < 8)) (tx a)) (b := 46 :: x) (c := []) (by simp)) (by simp) fun u3 s3 k3 X3 G3 => ?_
      refine ⟨fun h => (by cases h), (exI_iff _ _).2 ⟨⟨[], [], [], [], [], []⟩, rfl, ones_nil, rfl, ?_⟩⟩
      rw [then_step, says_ret, ep]
      exact fin u3 s3 k3 (by simpa using X3) (G2.trans G3 X2.prn.nn)
    | un _ _ _ h0 a w1 =>
      iterate 9 (rw [then_step, th_ite, if_neg (by simp [go_sem])])
      rw [then_step, th_ite, if_pos (by simp [go_sem])]
      rw [tx_un] at F fin
      obtain ⟨P1, _⟩ := PK.cons
      have hR : IntR k1 s [((p + 1 : Nat) : Int)] := by simpa [places] using R
      rw [ns_cons, ns_nil] at hn'
      have hs2 : s.n = 1 := hR.n
      have go : ∀ g : UInt8, Fits acc (g :: brk (decide (a.lv < 7)) (tx a)) → Writes k1 b lsl l sl inn (acc ++ (g :: brk (decide (a.lv < 7)) (tx a))) φ → ∀ (u2 : Bool) (s2 : Slc) (k2 : Hp), PSt k2 b lsl l u2 s2 inn (acc ++ [g]) → PGo k1 k2 b sl s2 → ∀ (i : List Int) (s3 : Slc) (M : Nat → Nat), i.length = 6 →
          Then E (.need (.c true) (.and (.and (.le (.c 0) (.c 0)) (.lt (.c 0) (.cnt (.x 1)))) (.nns (.x 1))) (.load (.c true) (.el (.x 1) (.c 0) 1 0) 1 [(.i .i64 (.x 6))] ⟨1, 0, 0, 0, 0, 0⟩
            (.call (.c true) false 57 [(.one (.pt 0)), (.one (.i .i64 (.x 6))), (.one (.i .i64 (.c 7)))] (.tup []) ⟨0, 0, 0, 0, 0, 0⟩ (.ret (.tup []))))) ⟨i, [], [[]], [], [lsl, s, s3], [some (b, 0)], k2, M⟩ := by
        intro g F fin u2 s2 k2 X2 G2 i s3 M hi
        obtain ⟨i0, i1, i2, i3, i4, i5, rfl⟩ : ∃ i0 i1 i2 i3 i4 i5, i = [i0, i1, i2, i3, i4, i5] := by
          match i, hi with
          | [i0, i1, i2, i3, i4, i5], _ => exact ⟨i0, i1, i2, i3, i4, i5, rfl⟩
        obtain ⟨q0, y0, hq0, hr0⟩ := (hR.go X1.prn G2).read (j := 0) (by simp)
        rw [then_step, th_need]; refine ⟨by simp [go_sem, hq0] <;> omega, ?_⟩
        rw [then_step, th_load, if_pos (by rfl)]
        refine (exI_iff _ _).2 ⟨⟨[((p + 1 : Nat) : Int)], [], [], [], [], []⟩, rfl, ones_nil, by simpa [go_sem, hq0] using hr0, ?_⟩
        rw [then_step, th_call, if_pos (by rfl), s_ctO]
        refine ⟨b, lsl, l, u2, s2, inn, _, p + 1, a, 7, rfl, X2, P1, w1, by omega, hl, ?_, fun u4 s4 k4 X4 G4 => ?_⟩
        · simpa using F.sub (a := [g]) (b := brk (decide (a.lv < 7)) (tx a)) (c := []) (by simp)
        refine ⟨fun h => (by cases h), (exI_iff _ _).2 ⟨⟨[], [], [], [], [], []⟩, rfl, ones_nil, rfl, ?_⟩⟩
        rw [then_step, says_ret, ep]
        exact fin u4 s4 k4 (by simpa using X4) (G2.trans G4 X2.prn.nn)
      rw [then_step, th_mk]; intro bb hbb
      rw [then_step, th_call, if_pos (by rfl), s_ctYPut]
      rcases h0 with rfl | rfl
      · rw [if_pos rfl] at F fin
        refine put_spec (ss := [[45]]) X1 hbb (by simpa using F.put (a := []) (b := [45]) (c := brk (decide (a.lv < 7)) (tx a)) rfl) (by simp) fun u2 s2 k2 X2 G2 => ?_
        refine ⟨fun h => (by cases h), (exI_iff _ _).2 ⟨⟨[], [], [], [], [], []⟩, rfl, ones_nil, rfl, ?_⟩⟩
        exact go 45 F fin u2 s2 k2 (by simpa using X2) G2 _ _ _ rfl
      · rw [if_neg (by decide)] at F fin
        refine put_spec (ss := [[33]]) X1 hbb (by simpa using F.put (a := []) (b := [33]) (c := brk (decide (a.lv < 7)) (tx a)) rfl) (by simp) fun u2 s2 k2 X2 G2 => ?_
        refine ⟨fun h => (by cases h), (exI_iff _ _).2 ⟨⟨[], [], [], [], [], []⟩, rfl, ones_nil, rfl, ?_⟩⟩
        exact go 33 F fin u2 s2 k2 (by simpa using X2) G2 _ _ _ rfl
    | bin _ _ _ h0 a a2 w1 w2 =>
      iterate 10 (rw [then_step, th_ite, if_neg (by simp [go_sem])])
      rw [then_step, th_ite, if_pos (by simp [go_sem])]
      rw [tx_bin] at F fin
      obtain ⟨P1, PK2⟩ := PK.cons
      have P2 := PK2.cons.1
      have hR : IntR k1 s [((p + 1 : Nat) : Int), ((p + 1 + a.n : Nat) : Int)] := by simpa [places] using R
      rw [ns_cons, ns_cons, ns_nil] at hn'
      rw [then_step, th_call, if_pos (by rfl), s_ctB]
      refine ⟨b, lsl, l, used, sl, inn, acc, ⟨31, ln, c, ((Tr.ns [a, a2] : Nat) : Int), nn, []⟩, p + 1, a, a2, s, rfl, X1, P1, P2, w1, w2, by omega, by omega, hR, hl, F, fun u2 s2 k2 X2 G2 => ?_⟩
      refine ⟨fun h => (by cases h), (exI_iff _ _).2 ⟨⟨[], [], [], [], [], []⟩, rfl, ones_nil, rfl, ?_⟩⟩
      rw [then_step, says_ret, ep]
      exact fin u2 s2 k2 X2 G2
    | make _ _ l' c' z h0 =>
      iterate 11 (rw [then_step, th_ite, if_neg (by simp [go_sem])])
      rw [then_step, th_ite, if_pos (by simp [go_sem])]
      rw [tx_make] at F fin
      obtain ⟨P1, PK2⟩ := PK.cons
      rw [ns_cons, ns_nil] at hn'
      have hs2 := R.n
      rw [places_len, List.length_cons] at hs2
      have hsc := R.c
      rw [places] at R
      obtain ⟨q0, y0, hq0, hr0⟩ := R.read (j := 0) (by simp)
      have hwk : WfK (Tr.nd 19 l' c' 0 z []) := .big _ _ _ h0
      have hkp : kindP l 1000000 (p + 1) = some (ktx (Tr.nd 19 l' c' 0 z [])) := kindP_tree hwk P1 (by have := P1.lt; omega)
      generalize ktx (Tr.nd 19 l' c' 0 z []) = kt at F fin hkp
      rw [then_step, th_need]; refine ⟨by simp [go_sem, hq0] <;> omega, ?_⟩
      rw [then_step, th_load, if_pos (by rfl)]
      refine (exI_iff _ _).2 ⟨⟨[((p + 1 : Nat) : Int)], [], [], [], [], []⟩, rfl, ones_nil, by simpa [go_sem, hq0] using hr0, ?_⟩
      rw [then_step, th_call, if_pos (by rfl), s_ctK]
      refine ⟨b, lsl, l, p + 1, kt, _, _, rfl, X1.prn.at_, X1.row, hl, hkp, ?_, ?_⟩
      · have := (F.sub (a := wMake ++ [32]) (b := kt) (c := 40 :: (txr [] ++ [41])) (by simp)).1
        omega
      refine ⟨fun h => (by cases h), (exI_iff _ _).2 ⟨⟨[], [], [kt], [], [], []⟩, rfl, ones_nil, rfl, ?_⟩⟩
      rw [then_step, th_mk]; intro bb hbb
      rw [then_step, th_call, if_pos (by rfl), s_ctYPut]
      refine put_spec (ss := [[109, 97, 107, 101, 32], kt, [40]]) X1 hbb (F.p0 (b := wMake ++ (32 :: (kt ++ [40]))) (c := txr [] ++ [41]) (by simp)) (by simp) fun u2 s2 k2 X2 G2 => ?_
      refine ⟨fun h => (by cases h), (exI_iff _ _).2 ⟨⟨[], [], [], [], [], []⟩, rfl, ones_nil, rfl, ?_⟩⟩
      rw [then_step, th_need]; refine ⟨by simp [go_sem] <;> omega, ?_⟩
      rw [then_step, th_call, if_pos (by rfl), s_ctR]
      have R2 := (R.tail.go X1.prn G2)
      rw [show (((p + 1 : Nat) : Int) + ((Tr.nd 19 l' c' 0 z []).n : Nat)) = ((p + 1 + (Tr.nd 19 l' c' 0 z []).n : Nat) : Int) by omega] at R2
      refine ⟨b, lsl, l, u2, s2, inn, _, p + 1 + (Tr.nd 19 l' c' 0 z []).n, [], ⟨if s.c = 1 then s.a else s.a.map fun x => (x.1, x.2 + 1 * 1), s.n - 1, s.c - 1⟩, ?_, X2, PK2, .nil, by rw [ns_nil]; omega, R2, hl, ?_, fun u3 s3 k3 X3 G3 => ?_⟩
      · rfl
      · exact F.sub (a := wMake ++ (32 :: (kt ++ [40]))) (b := txr []) (c := [41]) (by simp)
      refine ⟨fun h => (by cases h), (exI_iff _ _).2 ⟨⟨[], [], [], [], [], []⟩, rfl, ones_nil, rfl, ?_⟩⟩
      rw [then_step, th_mk]; intro b3 hb3
      rw [then_step, th_call, if_pos (by rfl), s_ctYPut]
      refine put_spec (ss := [[41]]) X3 hb3 (by simpa [wMake] using F.put (a := wMake ++ (32 :: (kt ++ (40 :: txr [])))) (b := [41]) (c := []) (by simp)) (by simp) fun u4 s4 k4 X4 G4 => ?_
      refine ⟨fun h => (by cases h), (exI_iff _ _).2 ⟨⟨[], [], [], [], [], []⟩, rfl, ones_nil, rfl, ?_⟩⟩
      rw [then_step, says_ret, ep]
      exact fin u4 s4 k4 (by simpa [wMake] using X4) ((G2.trans G3 X2.prn.nn).trans G4 X3.prn.nn)
    | makes _ _ l' c' t ht bb2 w2 =>
      iterate 11 (rw [then_step, th_ite, if_neg (by simp [go_sem])])
      rw [then_step, th_ite, if_pos (by simp [go_sem])]
      rw [tx_make] at F fin
      obtain ⟨P1, PK2⟩ := PK.cons
      rw [ns_cons, ns_cons, ns_nil] at hn'
      have hs2 := R.n
      rw [places_len, List.length_cons] at hs2
      have hsc := R.c
      rw [places] at R
      obtain ⟨q0, y0, hq0, hr0⟩ := R.read (j := 0) (by simp)
      have hwk : WfK (Tr.nd 20 l' c' 0 [] [t]) := .list _ _ _ ht
      have hkp : kindP l 1000000 (p + 1) = some (ktx (Tr.nd 20 l' c' 0 [] [t])) := kindP_tree hwk P1 (by have := P1.lt; omega)
      generalize ktx (Tr.nd 20 l' c' 0 [] [t]) = kt at F fin hkp
      rw [then_step, th_need]; refine ⟨by simp [go_sem, hq0] <;> omega, ?_⟩
      rw [then_step, th_load, if_pos (by rfl)]
      refine (exI_iff _ _).2 ⟨⟨[((p + 1 : Nat) : Int)], [], [], [], [], []⟩, rfl, ones_nil, by simpa [go_sem, hq0] using hr0, ?_⟩
      rw [then_step, th_call, if_pos (by rfl), s_ctK]
      refine ⟨b, lsl, l, p + 1, kt, _, _, rfl, X1.prn.at_, X1.row, hl, hkp, ?_, ?_⟩
      · have := (F.sub (a := wMake ++ [32]) (b := kt) (c := 40 :: (txr [bb2] ++ [41])) (by simp)).1
        omega
      refine ⟨fun h => (by cases h), (exI_iff _ _).2 ⟨⟨[], [], [kt], [], [], []⟩, rfl, ones_nil, rfl, ?_⟩⟩
      rw [then_step, th_mk]; intro bb hbb
      rw [then_step, th_call, if_pos (by rfl), s_ctYPut]
      refine put_spec (ss := [[109, 97, 107, 101, 32], kt, [40]]) X1 hbb (F.p0 (b := wMake ++ (32 :: (kt ++ [40]))) (c := txr [bb2] ++ [41]) (by simp)) (by simp) fun u2 s2 k2 X2 G2 => ?_
      refine ⟨fun h => (by cases h), (exI_iff _ _).2 ⟨⟨[], [], [], [], [], []⟩, rfl, ones_nil, rfl, ?_⟩⟩
      rw [then_step, th_need]; refine ⟨by simp [go_sem] <;> omega, ?_⟩
      rw [then_step, th_call, if_pos (by rfl), s_ctR]
      have R2 := (R.tail.go X1.prn G2)
      rw [show (((p + 1 : Nat) : Int) + ((Tr.nd 20 l' c' 0 [] [t]).n : Nat)) = ((p + 1 + (Tr.nd 20 l' c' 0 [] [t]).n : Nat) : Int) by omega] at R2
      refine ⟨b, lsl, l, u2, s2, inn, _, p + 1 + (Tr.nd 20 l' c' 0 [] [t]).n, [bb2], ⟨if s.c = 1 then s.a else s.a.map fun x => (x.1, x.2 + 1 * 1), s.n - 1, s.c - 1⟩, ?_, X2, PK2, .cons _ _ w2 .nil, by rw [ns_cons, ns_nil]; omega, R2, hl, ?_, fun u3 s3 k3 X3 G3 => ?_⟩
      · rfl
      · exact F.sub (a := wMake ++ (32 :: (kt ++ [40]))) (b := txr [bb2]) (c := [41]) (by simp)
      refine ⟨fun h => (by cases h), (exI_iff _ _).2 ⟨⟨[], [], [], [], [], []⟩, rfl, ones_nil, rfl, ?_⟩⟩
      rw [then_step, th_mk]; intro b3 hb3
      rw [then_step, th_call, if_pos (by rfl), s_ctYPut]
      refine put_spec (ss := [[41]]) X3 hb3 (by simpa [wMake] using F.put (a := wMake ++ (32 :: (kt ++ (40 :: txr [bb2])))) (b := [41]) (c := []) (by simp)) (by simp) fun u4 s4 k4 X4 G4 => ?_
      refine ⟨fun h => (by cases h), (exI_iff _ _).2 ⟨⟨[], [], [], [], [], []⟩, rfl, ones_nil, rfl, ?_⟩⟩
      rw [then_step, says_ret, ep]
      exact fin u4 s4 k4 (by simpa [wMake] using X4) ((G2.trans G3 X2.prn.nn).trans G4 X3.prn.nn)
def fm_ywrap : Fm := (.need (.c true) (.and (.le (.c (-9223372036854775808)) (.add (.cnt (.x 0)) (.cnt (.x 1)))) (.le (.add (.cnt (.x 0)) (.cnt (.x 1))) (.c 9223372036854775807)))
  (.need (.c true) (.and (.le (.c (-9223372036854775808)) (.add (.add (.cnt (.x 0)) (.cnt (.x 1))) (.c 4))) (.le (.add (.add (.cnt (.x 0)) (.cnt (.x 1))) (.c 4)) (.c 9223372036854775807)))
  (.need (.c true) (.and (.le (.c (-9223372036854775808)) (.add (.add (.cnt (.x 0)) (.cnt (.x 1))) (.c 3))) (.le (.add (.add (.cnt (.x 0)) (.cnt (.x 1))) (.c 3)) (.c 9223372036854775807)))
  (.need (.c true) (.and (.le (.c (-9223372036854775808)) (.add (.add (.cnt (.x 0)) (.cnt (.x 1))) (.c 1))) (.le (.add (.add (.cnt (.x 0)) (.cnt (.x 1))) (.c 1)) (.c 9223372036854775807)))
  (.mk [(.i .u8 (.c 1)), (.i .i64 (.c 0)), (.i .i64 (.c 0)), (.i .i64 (.add (.add (.cnt (.x 0)) (.cnt (.x 1))) (.c 4))), (.i .i64 (.c 0)), (.s (.c [])), (.i .u8 (.c 4)), (.i .i64 (.c 0)), (.i .i64 (.c 0)), (.i .i64 (.add (.add (.cnt (.x 0)) (.cnt (.x 1))) (.c 3))), (.i .i64 (.c 0)), (.s (.c [102])), (.i .u8 (.c 14)), (.i .i64 (.c 0)), (.i .i64 (.c 0)), (.i .i64 (.c 0)), (.i .i64 (.c 0)), (.s (.c [])), (.i .u8 (.c 6)), (.i .i64 (.c 0)), (.i .i64 (.c 0)), (.i .i64 (.add (.add (.cnt (.x 0)) (.cnt (.x 1))) (.c 1))), (.i .i64 (.c 0)), (.s (.c [])), (.i .u8 (.x 0)), (.i .i64 (.c 0)), (.i .i64 (.c 0)), (.i .i64 (.add (.cnt (.x 0)) (.cnt (.x 1)))), (.i .i64 (.c 0)), (.s (.c []))] 52 5
  (.app (.x 2) (.x 1) 6 56 52
  (.app (.x 3) (.x 0) 6 56 52
  (.ret (.p (.one (.sl (.x 4))))))))))))
theorem gen_ywrap : genFn ⟨true, []⟩ Tryz.prog (fun l => ([] : List LAnn).getD l ⟨[], [], []⟩) Tryz.f25 = fm_ywrap := by kernel_rfl
theorem ps_ywrap : freshPs Tryz.prog .zero Tryz.f25.params.toList = some ([(.one (.sl (.x 0))), (.one (.i .u8 (.x 0))), (.one (.sl (.x 1)))], ⟨1, 0, 0, 0, 2, 0⟩) := by kernel_rfl
def fm_yexprs : Fm := (.call (.c true) false 23 [(.one (.sl (.x 0)))] (.p (.one (.b (.x 0)))) ⟨0, 1, 0, 0, 0, 0⟩
  (.call (.x 0) false 25 [(.one (.sl (.x 0))), (.one (.i .u8 (.c 12))), (.one (.sl .nil))] (.p (.one (.sl (.x 1)))) ⟨0, 0, 0, 0, 1, 0⟩
  (.call (.x 0) false 24 [(.one (.sl (.x 1)))] (.p (.one (.b (.x 1)))) ⟨0, 1, 0, 0, 0, 0⟩
  (.ite (.or (.not (.x 0)) (.not (.x 1)))
  (.ret (.tup [(.one (.s (.c []))), (.one (.i .i64 (.c 1)))]))
  (.new [(.sl (.x 0)), (.c .nilp), (.sl .nil), (.i .i64 (.c 0))] 48
  (.call (.c true) false 26 [(.one (.pt 0)), (.one (.i .i64 (.c 0)))] (.tup []) ⟨0, 0, 0, 0, 0, 0⟩
  (.need (.c true) (.nnp 0)
  (.need (.c true) (.nnp 0)
  (.call (.c true) false 27 [(.one (.adr (.pt 0 1)))] (.p (.one (.s (.x 0)))) ⟨0, 0, 1, 0, 0, 0⟩
  (.ret (.tup [(.one (.s (.x 0))), (.one (.i .i64 (.c 0)))])))))))))))
theorem gen_yexprs : genFn ⟨true, [16]⟩ Tryz.prog (fun l => ([] : List LAnn).getD l ⟨[], [], []⟩) Tryz.f9 = fm_yexprs := by kernel_rfl
theorem ps_yexprs : freshPs Tryz.prog .zero Tryz.f9.params.toList = some ([(.one (.sl (.x 0)))], ⟨0, 0, 0, 0, 1, 0⟩) := by kernel_rfl
/-- A program in which a statement of this kind stands, and what is in it. -/
def hd5 (kind n : Int) : List Ng := [⟨1, 0, 0, n + 4, 0, []⟩, ⟨4, 0, 0, n + 3, 0, [102]⟩, ⟨14, 0, 0, 0, 0, []⟩, ⟨6, 0, 0, n + 1, 0, []⟩, ⟨kind, 0, 0, n, 0, []⟩]
def wrapT (kind : Int) (t : Tr) : Tr := .nd 1 0 0 0 [] [.nd 4 0 0 0 [102] [.nd 14 0 0 0 [] [], .nd 6 0 0 0 [] [.nd kind 0 0 0 [] [t]]]]
theorem wrapT_gs (kind : Int) (t : Tr) : (wrapT kind t).gs = hd5 kind t.n ++ t.gs := by
  unfold wrapT hd5
  simp only [gs_nd, gss_cons, ns_cons, ns_nil, nd_n, show Tr.gss [] = [] from rfl, List.append_nil, List.nil_append, List.cons_append]
  simp only [List.cons.injEq, Ng.mk.injEq, and_true, true_and]
  omega
theorem ones_gcs (l : List Ng) : Ones (gcs l) := by
  intro u hu
  unfold gcs at hu
  obtain ⟨x, _, hx⟩ := List.mem_flatMap.1 hu
  simp only [Ng.cs, List.mem_cons, List.not_mem_nil, or_false] at hx
  rcases hx with rfl | rfl | rfl | rfl | rfl | rfl <;> rfl
theorem NG.rd {h : Hp} {sl : Slc} {l : List Ng} (R : NG h sl l) : RdS h sl (gcs l) 6 := by
  have hn := NG.n R
  rcases R.2 with h0 | hr
  · refine .inl ⟨h0, ?_⟩
    have : l = [] := List.eq_nil_of_length_eq_zero (by omega)
    rw [this]; rfl
  · refine .inr ⟨?_, hr⟩
    intro e
    rw [e] at hr
    cases hr
set_option maxHeartbeats 4000000 in
def ctYWrap : Ct Tryz.prog where
  f := 25
  spec := fun args h φ => ∃ sl l kind, args = [Slc.val sl, .int .u8 kind, (Slc.mk none 0 0).val] ∧ NG h sl l ∧ l.length ≤ 1000000 ∧ ∀ s' k, HLe h k → OwnS k s' (gcs (hd5 kind l.length ++ l)) 52 6 → s'.n = l.length + 5 → φ s'.val k
  ok := by
    rintro args h φ w ⟨sl, l, kind, rfl, R, hl, hφ⟩ hH
    have hn := NG.n R
    refine by_fm Tryz.func25 gen_ywrap ps_ywrap [] φ (noInv) (noMeas) ⟨[kind], [], [], [], [sl, ⟨none, 0, 0⟩], [], h, noM⟩ ⟨rfl, rfl, rfl, rfl, rfl, rfl⟩ ones_nil ?_ w hH rfl
    generalize hE : (⟨specOf _, _, _, _⟩ : Env) = E
    have ep : E.post = φ := by rw [← hE]
    clear hE
    unfold fm_ywrap
    rw [← then_step]
    rw [then_step, th_need]; refine ⟨by simp [go_sem] <;> omega, ?_⟩
    rw [then_step, th_need]; refine ⟨by simp [go_sem] <;> omega, ?_⟩
    rw [then_step, th_need]; refine ⟨by simp [go_sem] <;> omega, ?_⟩
    rw [then_step, th_need]; refine ⟨by simp [go_sem] <;> omega, ?_⟩
    rw [then_step, th_mk]; intro b hb
    have hb' : h b = none := hb
    have hcs : ∀ m : Int, m = l.length → [Value.int .u8 1, .int .i64 0, .int .i64 0, .int .i64 (m + 0 + 4), .int .i64 0, .string (B []), .int .u8 4, .int .i64 0, .int .i64 0, .int .i64 (m + 0 + 3), .int .i64 0, .string (B [102]), .int .u8 14, .int .i64 0, .int .i64 0, .int .i64 0, .int .i64 0, .string (B []), .int .u8 6, .int .i64 0, .int .i64 0, .int .i64 (m + 0 + 1), .int .i64 0, .string (B []), .int .u8 kind, .int .i64 0, .int .i64 0, .int .i64 (m + 0), .int .i64 0, .string (B [])] = gcs (hd5 kind l.length) := by
      rintro m rfl
      simp [gcs, hd5, Ng.cs]
    have hle1 := hle_set hb' ⟨gcs (hd5 kind l.length), 52⟩
    have hm : (sl.n : Int) = l.length := by omega
    have heq : (⟨[Value.int .u8 1, .int .i64 0, .int .i64 0, .int .i64 ((sl.n : Int) + 0 + 4), .int .i64 0, .string (B []), .int .u8 4, .int .i64 0, .int .i64 0, .int .i64 ((sl.n : Int) + 0 + 3), .int .i64 0, .string (B [102]), .int .u8 14, .int .i64 0, .int .i64 0, .int .i64 0, .int .i64 0, .string (B []), .int .u8 6, .int .i64 0, .int .i64 0, .int .i64 ((sl.n : Int) + 0 + 1), .int .i64 0, .string (B []), .int .u8 kind, .int .i64 0, .int .i64 0, .int .i64 ((sl.n : Int) + 0), .int .i64 0, .string (B [])], 52⟩ : HO) = ⟨gcs (hd5 kind l.length), 52⟩ := by rw [hcs _ hm]
    have hl5 : (gcs (hd5 kind l.length)).length = 30 := by rw [gcs_len]; rfl
    rw [then_step, says_app]
    refine ⟨gcs (hd5 kind l.length), [], .inr ⟨b, ⟨gcs (hd5 kind l.length), 52⟩, rfl, (set_same _ _ _).trans (congrArg some heq), rfl, hl5, Nat.le_refl _, ?_, ?_⟩, .inl ⟨rfl, rfl⟩, fun u hu => (by cases hu), ?_, ?_, ?_⟩
    · show 5 ≤ maxLen; unfold maxLen; omega
    · exact (List.take_of_length_le (by rw [hl5]; show 30 ≤ 5 * 6; omega)).symm
    · show 5 + 0 ≤ maxLen; unfold maxLen; omega
    · show (5 + 0) * 56 ≤ _; omega
    intro s1 k1 g1 g2 g3 g4
    have g2' : s1.n = 5 := g2
    rw [List.append_nil] at g1
    have keep1 : HLe h k1 := fun c o hc => g4 c o (fun x hx e => by
      have hx' : some (b, 0) = some x := hx
      cases hx'
      simp only at e
      rw [← e, hb'] at hc; cases hc) (by
        show (h.set b _) c = _
        rw [set_ne _ (fun e => by rw [e, hb'] at hc; cases hc)]; exact hc)
    have fr1 : ∀ y, s1.a = some y → h y.1 = none := fun y hy => by
      rcases g3 y hy with ⟨z, hz, e⟩ | hn1
      · have hz' : some (b, 0) = some z := hz
        cases hz'
        rw [← e]; exact hb'
      · exact hset_none hb' hn1
    have R1 := NG.le R keep1
    rw [says_app]
    refine ⟨gcs (hd5 kind l.length), gcs l, g1, R1.rd, ones_gcs l, ?_, ?_, ?_⟩
    · show s1.n + sl.n ≤ maxLen; unfold maxLen; omega
    · show (s1.n + sl.n) * 56 ≤ _; omega
    intro s2 k2 q1 q2 q3 q4
    have q2' : s2.n = s1.n + sl.n := q2
    rw [says_ret, ep]
    refine hφ s2 k2 (fun c o hc => q4 c o (fun x hx e => ?_) (keep1 c o hc)) ?_ (by omega)
    · have := fr1 x hx
      rw [e, hc] at this; cases this
    · rw [gcs_app]; exact q1
/-- A new printer of a row. -/
theorem pst_new {h : Hp} {b : Nat} {lsl : Slc} {l : List Ng} (R : NG h lsl l) (hl : l ≠ []) (hb : h b = none) : PSt (h.set b ⟨prn b lsl false ⟨none, 0, 0⟩ 0, YPT⟩) b lsl l false ⟨none, 0, 0⟩ 0 [] := by
  have hn := NG.n R
  have hp : 0 < l.length := List.length_pos_iff.2 hl
  obtain ⟨c, o, ha⟩ := Rows.nn R (j := 0) (by omega)
  have hr := NG.node R hp ha
  refine ⟨⟨set_same _ _ _, .inl ⟨rfl, rfl⟩, rfl, fun z hz => (by cases hz), fun _ => rfl, fun hz => absurd rfl hz⟩, R.le (hle_set hb _), hl, fun z hz e => ?_, fun z y _ hy => (by cases hy)⟩
  rw [ha] at hz
  cases hz
  simp only at e
  unfold hread at hr
  simp only at hr
  rw [e, hb] at hr
  cases hr
/-- What was known stays known behind a printer's work. -/
theorem print_kept {h k k' : Hp} {b : Nat} {sl' : Slc} {o : HO} (hle : HLe h k) (hb : k b = none) (G : PGo (k.set b o) k' b ⟨none, 0, 0⟩ sl') : HLe h (k'.drop sl') := fun c oo hc => by
  have hk := hle c oo hc
  have hcb : c ≠ b := fun e => by rw [e, hb] at hk; cases hk
  have hk' : (k.set b o) c = some oo := by rw [set_ne _ hcb]; exact hk
  have h3 := G.keep c oo hcb (fun z hz => by cases hz) hk'
  unfold Hp.drop
  cases hs : sl'.a with
  | none => exact h3
  | some z =>
    have hzc : c ≠ z.1 := fun e => by
      rcases G.new z hs with ⟨y, hy, _⟩ | hn
      · cases hy
      · rw [← e, hk'] at hn; cases hn
    show (k'.del z.1) c = some oo
    unfold Hp.del
    rw [if_neg hzc]
    exact h3
def yErr : Value := .tuple #[.string (B []), .int .i64 1]
def yOk (s : List UInt8) : Value := .tuple #[.string (B s), .int .i64 0]
set_option maxHeartbeats 4000000 in
def ctYExprs : Ct Tryz.prog where
  f := 9
  spec := fun args h φ => ∃ sl l, args = [Slc.val sl] ∧ NG h sl l ∧ l.length ≤ 900000 ∧ ((rightR l = false ∧ φ yErr h) ∨ ∃ t : Tr, l = t.gs ∧ ((mayT (wrapT 12 t) = false ∧ φ yErr h) ∨ (mayT (wrapT 12 t) = true ∧ WfE t ∧ (tx t).length ≤ 200000 ∧ φ (yOk (tx t)) h)))
  ok := by
    rintro args h φ w ⟨sl, l, rfl, R, hl, hφ⟩ hH
    refine ct_forget (by_fm Tryz.func9 gen_yexprs ps_yexprs [ctTRight, ctYWrap, ctTMay, ctYExpr (yexpr_ok 1000000), ctPString] (fun v k => ∃ k', HLe k' k ∧ φ v k') (noInv) (noMeas) ⟨[], [], [], [], [sl], [], h, noM⟩ ⟨rfl, rfl, rfl, rfl, rfl, rfl⟩ ones_nil ?_ w hH rfl)
    generalize hE : (⟨specOf _, _, _, _⟩ : Env) = E
    have s_ctTRight : E.spec 23 = (ctTRight).spec := by rw [← hE]; rfl
    have s_ctYWrap : E.spec 25 = (ctYWrap).spec := by rw [← hE]; rfl
    have s_ctTMay : E.spec 24 = (ctTMay).spec := by rw [← hE]; rfl
    have s_ctE : E.spec 26 = (ctYExpr (yexpr_ok 1000000)).spec := by rw [← hE]; rfl
    have s_ctPString : E.spec 27 = (ctPString).spec := by rw [← hE]; rfl
    have ep : E.post = (fun v k => ∃ k', HLe k' k ∧ φ v k') := by rw [← hE]
    clear hE
    unfold fm_yexprs
    rw [th_call, if_pos (by rfl), s_ctTRight]
    refine ⟨sl, l, rfl, R, by omega, ?_⟩
    refine ⟨fun h => (by cases h), (exI_iff _ _).2 ⟨⟨[], [rightR l], [], [], [], []⟩, rfl, ones_nil, rfl, ?_⟩⟩
    rcases hφ with ⟨hr, hφ⟩ | ⟨t, rfl, hφ⟩
    · rw [hr]
      rw [then_step, th_call, if_neg (by simp [go_sem]), then_step, th_call, if_neg (by simp [go_sem]), then_step, th_ite, if_pos (by simp [go_sem])]
      rw [then_step, says_ret, ep]
      exact ⟨h, fun _ _ h => h, hφ⟩
    rw [rightR_tree]
    have htn := gs_len t
    rw [then_step, th_call, if_pos (by rfl), s_ctYWrap]
    refine ⟨sl, t.gs, 12, rfl, R, by omega, fun s' k hle ho hsn => ?_⟩
    have hle' : HLe h k := hle
    refine ⟨fun h => (by cases h), (exI_iff _ _).2 ⟨⟨[], [], [], [], [s'], []⟩, rfl, ones_nil, rfl, ?_⟩⟩
    have NR : NG k s' (wrapT 12 t).gs := by
      rw [wrapT_gs, ← htn]
      exact Rows.of_own ho
    have hwl : (wrapT 12 t).gs.length ≤ 1000000 := by
      rw [wrapT_gs, List.length_append]
      show 5 + _ ≤ _
      omega
    rw [then_step, th_call, if_pos (by rfl), s_ctTMay]
    refine ⟨s', _, rfl, NR, hwl, .inr ⟨_, rfl, ?_⟩⟩
    refine ⟨fun h => (by cases h), (exI_iff _ _).2 ⟨⟨[], [mayT (wrapT 12 t)], [], [], [], []⟩, rfl, ones_nil, rfl, ?_⟩⟩
    rcases hφ with ⟨hm, hφ⟩ | ⟨hm, W, hlen, hφ⟩
    · rw [hm]
      rw [then_step, th_ite, if_pos (by simp [go_sem])]
      rw [then_step, says_ret, ep]
      exact ⟨h, hle', hφ⟩
    · rw [hm]
      rw [then_step, th_ite, if_neg (by simp [go_sem]), then_step, th_new]
      intro b hb
      have hb' : k b = none := hb
      have hne : t.gs ≠ [] := by
        obtain ⟨r, hr, _⟩ := gs_cons t
        rw [hr]; simp
      have X := pst_new (NG.le R hle') hne hb'
      rw [then_step, th_call, if_pos (by rfl), s_ctE]
      refine ⟨b, sl, t.gs, false, ⟨none, 0, 0⟩, 0, [], 0, t, rfl, X, ⟨[], [], by simp, rfl⟩, W, by omega, by omega, ⟨hlen, by simp; omega⟩, fun u1 s1 k1 X1 G1 => ?_⟩
      refine ⟨fun h => (by cases h), (exI_iff _ _).2 ⟨⟨[], [], [], [], [], []⟩, rfl, ones_nil, rfl, ?_⟩⟩
      rw [then_step, th_need]; refine ⟨by simp [go_sem] <;> omega, ?_⟩
      rw [then_step, th_need]; refine ⟨by simp [go_sem] <;> omega, ?_⟩
      rw [then_step, th_call, if_pos (by rfl), s_ctPString]
      refine ⟨b, sl, u1, s1, 0, _, rfl, X1.prn, ?_⟩
      refine ⟨fun h => (by cases h), (exI_iff _ _).2 ⟨⟨[], [], [tx t], [], [], []⟩, rfl, ones_nil, rfl, ?_⟩⟩
      rw [then_step, says_ret, ep]
      exact ⟨h, print_kept hle' hb' G1, hφ⟩
end Go.Proofs.YtllbpdllkkcajaaGreatDoor
namespace Go.Proofs.YtllbpdllkkcajaaGreatDoor
open Go.RowKit
theorem g_nd (k l c n : Int) (x : List UInt8) (ks : List Tr) : (Tr.nd k l c n x ks).g = ⟨k, l, c, (Tr.ns ks : Nat), n, x⟩ := rfl
def okN (s : Tr) : Bool := fieldsB s.g && rightB s.g.k s.g.n (s.kl.map Tr.g)
def allN (t : Tr) : Bool := t.subs.all okN
theorem okIs_succ : ∀ (l : List Tr) (i : Nat), okIs (i + 1) l = l.all okN
  | [], _ => rfl
  | s :: r, i => by
    rw [okIs, okIs_succ r, List.all_cons]
    unfold okI okN
    rw [if_neg (Nat.succ_ne_zero i)]
theorem subss_all : ∀ ks : List Tr, (Tr.subss ks).all okN = ks.all allN
  | [] => rfl
  | t :: ts => by rw [Tr.subss, List.all_append, subss_all ts, List.all_cons, allN]
theorem allN_nd (k l c n : Int) (x : List UInt8) (ks : List Tr) : allN (.nd k l c n x ks) = (okN (.nd k l c n x ks) && ks.all allN) := by
  rw [allN, Tr.subs, List.all_cons, subss_all]
theorem mayT_nd (k l c n : Int) (x : List UInt8) (ks : List Tr) : mayT (.nd k l c n x ks) = (decide (k = 1) && fieldsB (Tr.nd k l c n x ks).g && ((ks.map Tr.g).all (wO [2, 4]) && ks.all allN)) := by
  rw [mayT, Tr.subs, okIs, okIs_succ, subss_all]
  rfl
theorem name_letters {x : List UInt8} (h : NameL x) : lettersB nmB x = true := by
  obtain ⟨h1, h2, h3⟩ := h
  cases x with
  | nil => simp [bt, kdi] at h1
  | cons c r =>
    rw [bt_zero] at h1
    have ha : (c :: r).all (fun c => inB c.toNat) = true := List.all_eq_true.2 h2
    rw [lettersB, h3, ha]
    have : nmB c.toNat = true := by
      unfold kdi at h1
      unfold nmB
      simp only [Bool.or_eq_true, beq_iff_eq, Bool.and_eq_true, leB_t]
      split at h1
      · omega
      · split at h1
        · omega
        · split at h1 <;> omega
    rw [this]; rfl
theorem great_letters {x : List UInt8} (h : GreatL x) : lettersB gtB x = true := by
  obtain ⟨h1, h2⟩ := h
  cases x with
  | nil => simp [bt, kdi] at h1
  | cons c r =>
    have hw : wordB (c :: r) = false := by
      cases hq : wordB (c :: r) with
      | false => rfl
      | true =>
        have hall : ∀ w ∈ W16, kdi (bt w 0) ≠ 2 := by decide
        have hm : (c :: r) ∈ W16 := by simpa [wordB] using hq
        exact absurd h1 (hall _ hm)
    rw [bt_zero] at h1
    have ha : (c :: r).all (fun c => inB c.toNat) = true := List.all_eq_true.2 h2
    rw [lettersB, hw, ha]
    have : gtB c.toNat = true := by
      unfold kdi at h1
      unfold gtB
      simp only [Bool.and_eq_true, leB_t]
      split at h1
      · omega
      · split at h1
        · omega
        · split at h1 <;> omega
    rw [this]; rfl
theorem wfK_k {t : Tr} (W : WfK t) : wTy t.g = true := by
  cases W with
  | word k l c h => simp [btw, g_nd]; omega
  | big => rfl
  | list => rfl
theorem wfE_k {t : Tr} (W : WfE t) : wE t.g = true := by
  cases W <;> rfl
theorem wfEs_k : ∀ {ts : List Tr}, WfEs ts → (ts.map Tr.g).all wE = true
  | [], _ => rfl
  | t :: ts, .cons _ _ h hs => by rw [List.map_cons, List.all_cons, wfE_k h, wfEs_k hs]; rfl
theorem wfK_all {t : Tr} (W : WfK t) : allN t = true := by
  induction W with
  | word k l c h =>
    rw [allN_nd]
    have : k = 15 ∨ k = 16 ∨ k = 17 ∨ k = 18 := by omega
    rcases this with rfl | rfl | rfl | rfl <;> rfl
  | big l c x h =>
    rw [allN_nd]
    simp [okN, g_nd, Tr.kl, fieldsB, rightB, rowB, great_letters h]
  | list l c t h ih =>
    rw [allN_nd]
    have := wfK_k h
    simp only [List.all_cons, List.all_nil, ih, Bool.and_true]
    simp only [okN, g_nd, Tr.kl, fieldsB, rightB, rowB, List.map_cons, List.map_nil]
    simp [this]
theorem fields_un (l c z n : Int) (h : n = 12 ∨ n = 13) : fieldsB ⟨30, l, c, z, n, []⟩ = true := by
  rcases h with rfl | rfl <;> rfl
theorem fields_bin (l c z n : Int) (h : (1 ≤ n ∧ n ≤ 11) ∨ n = 14 ∨ n = 15) : fieldsB ⟨31, l, c, z, n, []⟩ = true := by
  have : n = 1 ∨ n = 2 ∨ n = 3 ∨ n = 4 ∨ n = 5 ∨ n = 6 ∨ n = 7 ∨ n = 8 ∨ n = 9 ∨ n = 10 ∨ n = 11 ∨ n = 14 ∨ n = 15 := by omega
  rcases this with rfl | rfl | rfl | rfl | rfl | rfl | rfl | rfl | rfl | rfl | rfl | rfl | rfl <;> rfl
mutual
theorem wfE_all : ∀ {t : Tr}, WfE t → allN t = true
  | _, .int l c n h => by rw [allN_nd]; simp [okN, g_nd, Tr.kl, fieldsB, rightB, rowB, leB, h.1]
  | _, .comp l c n h => by rw [allN_nd]; simp [okN, g_nd, Tr.kl, fieldsB, rightB, rowB, leB, ltB, h.1, show n < 8388608 by omega]
  | _, .str l c x => by rw [allN_nd]; simp [okN, g_nd, Tr.kl, fieldsB, rightB, rowB]
  | _, .bool l c n h => by rw [allN_nd]; rcases h with rfl | rfl <;> rfl
  | _, .nil l c => by rw [allN_nd]; rfl
  | _, .name l c x h => by rw [allN_nd]; simp [okN, g_nd, Tr.kl, fieldsB, rightB, rowB, name_letters h]
  | _, .call l c x h ks hk => by
    have h1 := wfEs_all hk
    have h2 := wfEs_k hk
    rw [allN_nd, h1]
    simp only [okN, g_nd, Tr.kl, fieldsB, rightB]
    simp [name_letters h, h2]
  | _, .index l c a b ha hb => by
    rw [allN_nd, List.all_cons, List.all_cons, wfE_all ha, wfE_all hb]
    have h1 := wfE_k ha
    have h2 := wfE_k hb
    simp [okN, g_nd, Tr.kl, fieldsB, rightB, rowB, h1, h2]
  | _, .dot l c x h a ha => by
    rw [allN_nd, List.all_cons, wfE_all ha]
    have h1 := wfE_k ha
    simp [okN, g_nd, Tr.kl, fieldsB, rightB, rowB, h1, name_letters h]
  | _, .un l c n h a ha => by
    rw [allN_nd, List.all_cons, wfE_all ha]
    have h1 := wfE_k ha
    rw [okN, g_nd, fields_un _ _ _ _ h]
    simp [Tr.kl, rightB, rowB, h1]
  | _, .bin l c n h a b ha hb => by
    rw [allN_nd, List.all_cons, List.all_cons, wfE_all ha, wfE_all hb]
    have h1 := wfE_k ha
    have h2 := wfE_k hb
    rw [okN, g_nd, fields_bin _ _ _ _ h]
    simp [Tr.kl, rightB, rowB, h1, h2]
  | _, .make l c l' c' x h => by
    rw [allN_nd, List.all_cons, wfK_all (.big l' c' x h)]
    rfl
  | _, .makes l c l' c' t ht b hb => by
    rw [allN_nd, List.all_cons, List.all_cons, wfK_all (.list l' c' t ht), wfE_all hb]
    have h2 := wfE_k hb
    simp [okN, g_nd, Tr.kl, fieldsB, rightB, rowB, h2]
theorem wfEs_all : ∀ {ts : List Tr}, WfEs ts → ts.all allN = true
  | [], _ => rfl
  | t :: ts, .cons _ _ h hs => by rw [List.all_cons, wfE_all h, wfEs_all hs]; rfl
end
/-- An expression that is wrapped up as a statement may be. -/
theorem may_expr {t : Tr} (W : WfE t) : mayT (wrapT 12 t) = true := by
  have h1 := wfE_k W
  have h2 := wfE_all W
  unfold wrapT
  rw [mayT_nd]
  simp only [List.all_cons, List.all_nil, allN_nd, h2, Bool.and_true]
  have e : rightB 12 0 [t.g] = true := by simp [rightB, stB, rowB, h1]
  have f : lettersB nmB [102] = true := by decide
  simp only [okN, Tr.kl, List.map_cons, List.map_nil]
  simp [g_nd, fieldsB, f, rightB, fnB, stB, rowB, h1, leB]
  simp [btw]
end Go.Proofs.YtllbpdllkkcajaaGreatDoor
namespace Go.Proofs.YtllbpdllkkcajaaGreatDoor
open Go.RowKit
/-- Are two rows the same, but for places? -/
def sameL : List Ng → List Ng → Bool
  | [], [] => true
  | x :: a, y :: b => (x.k == y.k && x.z == y.z && x.n == y.n && x.x == y.x) && sameL a b
  | _, _ => false
theorem sameL_len : ∀ {a b : List Ng}, a.length ≠ b.length → sameL a b = false
  | [], [], h => absurd rfl h
  | [], _ :: _, _ => rfl
  | _ :: _, [], _ => rfl
  | x :: a, y :: b, h => by rw [sameL, sameL_len (fun e => h (by simp [e])), Bool.and_false]
theorem sameL_app {a b c d : List Ng} (h1 : sameL a b = true) (h2 : sameL c d = true) : sameL (a ++ c) (b ++ d) = true := by
  induction a generalizing b with
  | nil =>
    cases b with
    | nil => exact h2
    | cons => cases h1
  | cons x a ih =>
    cases b with
    | nil => cases h1
    | cons y b =>
      rw [sameL, Bool.and_eq_true] at h1
      rw [List.cons_append, List.cons_append, sameL, h1.1, ih h1.2]; rfl
mutual
theorem same_bare : ∀ t : Tr, sameL t.gs t.bare.gs = true ∧ t.bare.n = t.n
  | .nd k l c n x ks => by
    obtain ⟨h1, h2⟩ := sames_bare ks
    rw [Tr.bare, gs_nd, gs_nd, sameL, h1, h2, nd_n, nd_n, h2]
    simp
theorem sames_bare : ∀ ts : List Tr, sameL (Tr.gss ts) (Tr.gss (bares ts)) = true ∧ Tr.ns (bares ts) = Tr.ns ts
  | [] => ⟨rfl, rfl⟩
  | t :: ts => by
    obtain ⟨h1, h2⟩ := same_bare t
    obtain ⟨h3, h4⟩ := sames_bare ts
    rw [bares, gss_cons, gss_cons, ns_cons, ns_cons, h2, h4]
    exact ⟨sameL_app h1 h3, rfl⟩
end
theorem sameL_symm : ∀ {a b : List Ng}, sameL a b = true → sameL b a = true
  | [], [], _ => rfl
  | x :: a, y :: b, h => by
    rw [sameL, Bool.and_eq_true] at h ⊢
    simp only [Bool.and_eq_true, beq_iff_eq] at h ⊢
    exact ⟨⟨⟨⟨h.1.1.1.1.symm, h.1.1.1.2.symm⟩, h.1.1.2.symm⟩, h.1.2.symm⟩, sameL_symm h.2⟩
theorem sameL_trans : ∀ {a b c : List Ng}, sameL a b = true → sameL b c = true → sameL a c = true
  | [], [], _, _, h => h
  | x :: a, y :: b, [], _, h => h
  | x :: a, y :: b, z :: c, h, h' => by
    rw [sameL, Bool.and_eq_true] at h h' ⊢
    simp only [Bool.and_eq_true, beq_iff_eq] at h h' ⊢
    exact ⟨⟨⟨⟨h.1.1.1.1.trans h'.1.1.1.1, h.1.1.1.2.trans h'.1.1.1.2⟩, h.1.1.2.trans h'.1.1.2⟩, h.1.2.trans h'.1.2⟩, sameL_trans h.2 h'.2⟩
theorem same_of_bare {t u : Tr} (h : t.bare = u.bare) : sameL t.gs u.gs = true := by
  have h1 := (same_bare t).1
  rw [h] at h1
  exact sameL_trans h1 (sameL_symm (same_bare u).1)
theorem tx_of_bare {t u : Tr} (h : t.bare = u.bare) : tx t = tx u := by rw [← tx_bare, h, tx_bare]
end Go.Proofs.YtllbpdllkkcajaaGreatDoor
namespace Go.Proofs.YtllbpdllkkcajaaGreatDoor
open Go.RowKit
attribute [local go_sem] says_tt says_ff th_need th_ite th_call th_callK th_load th_store says_ret says_again BE.den IE.den SE.den LE.den AE.den CE.den PE.den VE.den KV.val Got.den Got.cnt exI allI exL allL Ctx.push Ctx.heap Ctx.cut Ctx.bare Ctx.mark Inc.blank List.getD_cons_zero List.getD_cons_succ List.cons_append List.nil_append List.append_nil List.map_cons List.map_nil List.replicate_zero List.replicate_succ specOf specL dynId ltB_t leB_t ltB_f leB_f slc_val slc_nil slc_inj pt_val pt_nil hle_noHeap hle_refl hread_set hwrite_set set_same set_set noHeap_at B_inj ones_nil and_assoc
def fm_same05 : Fm := (.ite (.not (.eqI (.cnt (.x 0)) (.cnt (.x 1))))
  (.ret (.p (.one (.b (.c false)))))
  (.loop 0 ⟨[(.c 0)], [(.c false)], [], [], [], []⟩
  (.ite (.lt (.x 0) (.cnt (.x 0)))
  (.load (.c true) (.el (.x 0) (.x 0) 6 0) 1 [(.i .u8 (.x 1))] ⟨1, 0, 0, 0, 0, 0⟩
  (.load (.c true) (.el (.x 1) (.x 0) 6 0) 1 [(.i .u8 (.x 2))] ⟨1, 0, 0, 0, 0, 0⟩
  (.load (.eqI (.x 1) (.x 2)) (.el (.x 0) (.x 0) 6 3) 1 [(.i .i64 (.x 3))] ⟨1, 0, 0, 0, 0, 0⟩
  (.load (.eqI (.x 1) (.x 2)) (.el (.x 1) (.x 0) 6 3) 1 [(.i .i64 (.x 4))] ⟨1, 0, 0, 0, 0, 0⟩
  (.load (.not (.or (.not (.eqI (.x 1) (.x 2))) (.not (.eqI (.x 3) (.x 4))))) (.el (.x 0) (.x 0) 6 4) 1 [(.i .i64 (.x 5))] ⟨1, 0, 0, 0, 0, 0⟩
  (.load (.not (.or (.not (.eqI (.x 1) (.x 2))) (.not (.eqI (.x 3) (.x 4))))) (.el (.x 1) (.x 0) 6 4) 1 [(.i .i64 (.x 6))] ⟨1, 0, 0, 0, 0, 0⟩
  (.load (.not (.or (.or (.not (.eqI (.x 1) (.x 2))) (.not (.eqI (.x 3) (.x 4)))) (.not (.eqI (.x 5) (.x 6))))) (.el (.x 0) (.x 0) 6 5) 1 [(.s (.x 0))] ⟨0, 0, 1, 0, 0, 0⟩
  (.load (.not (.or (.or (.not (.eqI (.x 1) (.x 2))) (.not (.eqI (.x 3) (.x 4)))) (.not (.eqI (.x 5) (.x 6))))) (.el (.x 1) (.x 0) 6 5) 1 [(.s (.x 1))] ⟨0, 0, 1, 0, 0, 0⟩
  (.need (.c true) (.and (.and (.le (.c 0) (.x 0)) (.lt (.x 0) (.cnt (.x 0)))) (.nns (.x 0)))
  (.need (.c true) (.nns (.x 0))
  (.need (.c true) (.and (.and (.le (.c 0) (.x 0)) (.lt (.x 0) (.cnt (.x 1)))) (.nns (.x 1)))
  (.need (.c true) (.nns (.x 1))
  (.need (.eqI (.x 1) (.x 2)) (.and (.and (.le (.c 0) (.x 0)) (.lt (.x 0) (.cnt (.x 0)))) (.nns (.x 0)))
  (.need (.eqI (.x 1) (.x 2)) (.nns (.x 0))
  (.need (.eqI (.x 1) (.x 2)) (.and (.and (.le (.c 0) (.x 0)) (.lt (.x 0) (.cnt (.x 1)))) (.nns (.x 1)))
  (.need (.eqI (.x 1) (.x 2)) (.nns (.x 1))
  (.need (.not (.or (.not (.eqI (.x 1) (.x 2))) (.not (.eqI (.x 3) (.x 4))))) (.and (.and (.le (.c 0) (.x 0)) (.lt (.x 0) (.cnt (.x 0)))) (.nns (.x 0)))
  (.need (.not (.or (.not (.eqI (.x 1) (.x 2))) (.not (.eqI (.x 3) (.x 4))))) (.nns (.x 0))
  (.need (.not (.or (.not (.eqI (.x 1) (.x 2))) (.not (.eqI (.x 3) (.x 4))))) (.and (.and (.le (.c 0) (.x 0)) (.lt (.x 0) (.cnt (.x 1)))) (.nns (.x 1)))
  (.need (.not (.or (.not (.eqI (.x 1) (.x 2))) (.not (.eqI (.x 3) (.x 4))))) (.nns (.x 1))
  (.need (.not (.or (.or (.not (.eqI (.x 1) (.x 2))) (.not (.eqI (.x 3) (.x 4)))) (.not (.eqI (.x 5) (.x 6))))) (.and (.and (.le (.c 0) (.x 0)) (.lt (.x 0) (.cnt (.x 0)))) (.nns (.x 0)))
  (.need (.not (.or (.or (.not (.eqI (.x 1) (.x 2))) (.not (.eqI (.x 3) (.x 4)))) (.not (.eqI (.x 5) (.x 6))))) (.nns (.x 0))
  (.need (.not (.or (.or (.not (.eqI (.x 1) (.x 2))) (.not (.eqI (.x 3) (.x 4)))) (.not (.eqI (.x 5) (.x 6))))) (.and (.and (.le (.c 0) (.x 0)) (.lt (.x 0) (.cnt (.x 1)))) (.nns (.x 1)))
  (.need (.not (.or (.or (.not (.eqI (.x 1) (.x 2))) (.not (.eqI (.x 3) (.x 4)))) (.not (.eqI (.x 5) (.x 6))))) (.nns (.x 1))
  (.ite (.or (.or (.or (.not (.eqI (.x 1) (.x 2))) (.not (.eqI (.x 3) (.x 4)))) (.not (.eqI (.x 5) (.x 6)))) (.not (.eqS (.x 0) (.x 1))))
  (.ret (.p (.one (.b (.c false)))))
  (.need (.c true) (.and (.le (.c (-9223372036854775808)) (.add (.x 0) (.c 1))) (.le (.add (.x 0) (.c 1)) (.c 9223372036854775807)))
  (.again 0 ⟨0, 0, 0, 0, 2, 0⟩ ⟨1, 1, 0, 0, 2, 0⟩ ⟨[(.add (.x 0) (.c 1))], [(.x 0)], [], [], [], []⟩)))))))))))))))))))))))))))
  (.ret (.p (.one (.b (.c true))))))))
theorem gen_same05 : genFn ⟨true, []⟩ Tryz.prog (fun l => ([⟨[4, 13], [14, 15, 5, 16, 17, 18, 19, 20, 21, 22, 23, 24, 25, 26, 27, 28, 29, 30, 31, 32, 33, 34, 35, 36, 37, 38, 39, 40, 41, 42, 43, 44, 45, 46, 47, 48, 49, 50, 51, 52, 53, 54, 55, 56, 57, 58, 59, 60, 61, 62, 63, 64, 65, 66], []⟩] : List LAnn).getD l ⟨[], [], []⟩) Tryz.f10 = fm_same05 := by kernel_rfl
theorem ps_same05 : freshPs Tryz.prog .zero Tryz.f10.params.toList = some ([(.one (.sl (.x 0))), (.one (.sl (.x 1)))], ⟨0, 0, 0, 0, 2, 0⟩) := by kernel_rfl
theorem bares0 {ks : List Tr} (h : bares ks = []) : ks = [] := by
  cases ks with
  | nil => rfl
  | cons a ks => rw [bares] at h; cases h
theorem bares1 {ks : List Tr} {a : Tr} {r : List Tr} (h : bares ks = a :: r) : ∃ b bs, ks = b :: bs ∧ b.bare = a ∧ bares bs = r := by
  cases ks with
  | nil => cases h
  | cons b bs => rw [bares] at h; cases h; exact ⟨b, bs, rfl, rfl, rfl⟩
theorem wfK_bare {t : Tr} (W : WfK t) : ∀ u : Tr, u.bare = t.bare → WfK u := by
  induction W with
  | word k l c h =>
    rintro ⟨k', l', c', n', x', ks⟩ e
    simp only [Tr.bare, Tr.nd.injEq, true_and, bares] at e
    obtain ⟨rfl, rfl, rfl, e⟩ := e
    obtain rfl := bares0 e
    exact .word _ _ _ h
  | big l c x h =>
    rintro ⟨k', l', c', n', x', ks⟩ e
    simp only [Tr.bare, Tr.nd.injEq, true_and, bares] at e
    obtain ⟨rfl, rfl, rfl, e⟩ := e
    obtain rfl := bares0 e
    exact .big _ _ _ h
  | list l c t h ih =>
    rintro ⟨k', l', c', n', x', ks⟩ e
    simp only [Tr.bare, Tr.nd.injEq, true_and, bares] at e
    obtain ⟨rfl, rfl, rfl, e⟩ := e
    obtain ⟨b, bs, rfl, e1, e2⟩ := bares1 e
    obtain rfl := bares0 e2
    exact .list _ _ _ (ih b e1)
mutual
theorem wfE_bare : ∀ {t : Tr}, WfE t → ∀ u : Tr, u.bare = t.bare → WfE u
  | _, .int l c n h, .nd k' l' c' n' x' ks, e => by
    simp only [Tr.bare, Tr.nd.injEq, true_and, bares] at e
    obtain ⟨rfl, rfl, rfl, e⟩ := e
    obtain rfl := bares0 e
    exact .int _ _ _ h
  | _, .comp l c n h, .nd k' l' c' n' x' ks, e => by
    simp only [Tr.bare, Tr.nd.injEq, true_and, bares] at e
    obtain ⟨rfl, rfl, rfl, e⟩ := e
    obtain rfl := bares0 e
    exact .comp _ _ _ h
  | _, .str l c x, .nd k' l' c' n' x' ks, e => by
    simp only [Tr.bare, Tr.nd.injEq, true_and, bares] at e
    obtain ⟨rfl, rfl, rfl, e⟩ := e
    obtain rfl := bares0 e
    exact .str _ _ _
  | _, .bool l c n h, .nd k' l' c' n' x' ks, e => by
    simp only [Tr.bare, Tr.nd.injEq, true_and, bares] at e
    obtain ⟨rfl, rfl, rfl, e⟩ := e
    obtain rfl := bares0 e
    exact .bool _ _ _ h
  | _, .nil l c, .nd k' l' c' n' x' ks, e => by
    simp only [Tr.bare, Tr.nd.injEq, true_and, bares] at e
    obtain ⟨rfl, rfl, rfl, e⟩ := e
    obtain rfl := bares0 e
    exact .nil _ _
  | _, .name l c x h, .nd k' l' c' n' x' ks, e => by
    simp only [Tr.bare, Tr.nd.injEq, true_and, bares] at e
    obtain ⟨rfl, rfl, rfl, e⟩ := e
    obtain rfl := bares0 e
    exact .name _ _ _ h
  | _, .call l c x h ks hk, .nd k' l' c' n' x' ks', e => by
    simp only [Tr.bare, Tr.nd.injEq, true_and] at e
    obtain ⟨rfl, rfl, rfl, e⟩ := e
    exact .call _ _ _ h _ (wfEs_bare hk ks' e)
  | _, .index l c a b ha hb, .nd k' l' c' n' x' ks, e => by
    simp only [Tr.bare, Tr.nd.injEq, true_and, bares] at e
    obtain ⟨rfl, rfl, rfl, e⟩ := e
    obtain ⟨a', bs, rfl, e1, e2⟩ := bares1 e
    obtain ⟨b', bs, rfl, e3, e4⟩ := bares1 e2
    obtain rfl := bares0 e4
    exact .index _ _ _ _ (wfE_bare ha a' e1) (wfE_bare hb b' e3)
  | _, .dot l c x h a ha, .nd k' l' c' n' x' ks, e => by
    simp only [Tr.bare, Tr.nd.injEq, true_and, bares] at e
    obtain ⟨rfl, rfl, rfl, e⟩ := e
    obtain ⟨a', bs, rfl, e1, e2⟩ := bares1 e
    obtain rfl := bares0 e2
    exact .dot _ _ _ h _ (wfE_bare ha a' e1)
  | _, .un l c n h a ha, .nd k' l' c' n' x' ks, e => by
    simp only [Tr.bare, Tr.nd.injEq, true_and, bares] at e
    obtain ⟨rfl, rfl, rfl, e⟩ := e
    obtain ⟨a', bs, rfl, e1, e2⟩ := bares1 e
    obtain rfl := bares0 e2
    exact .un _ _ _ h _ (wfE_bare ha a' e1)
  | _, .bin l c n h a b ha hb, .nd k' l' c' n' x' ks, e => by
    simp only [Tr.bare, Tr.nd.injEq, true_and, bares] at e
    obtain ⟨rfl, rfl, rfl, e⟩ := e
    obtain ⟨a', bs, rfl, e1, e2⟩ := bares1 e
    obtain ⟨b', bs, rfl, e3, e4⟩ := bares1 e2
    obtain rfl := bares0 e4
    exact .bin _ _ _ h _ _ (wfE_bare ha a' e1) (wfE_bare hb b' e3)
  | _, .make l c l' c' x h, .nd k' l2 c2 n' x' ks, e => by
    have e' := e
    simp only [Tr.bare, Tr.nd.injEq, true_and, bares] at e
    obtain ⟨rfl, rfl, rfl, e⟩ := e
    obtain ⟨⟨k3, l3, c3, n3, x3, ks3⟩, bs, rfl, e1, e2⟩ := bares1 e
    obtain rfl := bares0 e2
    simp only [Tr.bare, Tr.nd.injEq, true_and] at e1
    obtain ⟨rfl, rfl, rfl, e1⟩ := e1
    obtain rfl := bares0 e1
    exact .make _ _ _ _ _ h
  | _, .makes l c l' c' t ht b hb, .nd k' l2 c2 n' x' ks, e => by
    simp only [Tr.bare, Tr.nd.injEq, true_and, bares] at e
    obtain ⟨rfl, rfl, rfl, e⟩ := e
    obtain ⟨⟨k3, l3, c3, n3, x3, ks3⟩, bs, rfl, e1, e2⟩ := bares1 e
    obtain ⟨b', bs, rfl, e3, e4⟩ := bares1 e2
    obtain rfl := bares0 e4
    simp only [Tr.bare, Tr.nd.injEq, true_and] at e1
    obtain ⟨rfl, rfl, rfl, e1⟩ := e1
    obtain ⟨t', bs, rfl, e5, e6⟩ := bares1 e1
    obtain rfl := bares0 e6
    exact .makes _ _ _ _ _ (wfK_bare ht t' e5) _ (wfE_bare hb b' e3)
theorem wfEs_bare : ∀ {ts : List Tr}, WfEs ts → ∀ us : List Tr, bares us = bares ts → WfEs us
  | _, .nil, us, e => by
    obtain rfl := bares0 e
    exact .nil
  | _, .cons t ts h hs, us, e => by
    rw [bares] at e
    obtain ⟨b, bs, rfl, e1, e2⟩ := bares1 e
    exact .cons _ _ (wfE_bare h b e1) (wfEs_bare hs bs e2)
end
set_option maxHeartbeats 4000000 in
def ctSame05 : Ct Tryz.prog where
  f := 10
  spec := fun args h φ => ∃ s1 s2 a b, args = [Slc.val s1, Slc.val s2] ∧ NG h s1 a ∧ NG h s2 b ∧ a.length ≤ 1000000 ∧ φ (.bool (sameL a b)) h
  ok := by
    rintro args h φ w ⟨s1, s2, a, b, rfl, R1, R2, hl, hφ⟩ hH
    have hn1 := NG.n R1
    have hn2 := NG.n R2
    refine by_fm Tryz.func10 gen_same05 ps_same05 [] φ (fun _ C => ∃ (j : Nat) (bb : Bool), C = ⟨[j], [bb], [], [], [s1, s2], [], h, noM⟩ ∧ j ≤ a.length ∧ sameL a b = sameL (a.drop j) (b.drop j)) (fun _ C => ((a.length : Int) - C.i.getD 0 0).toNat) ⟨[], [], [], [], [s1, s2], [], h, noM⟩ ⟨rfl, rfl, rfl, rfl, rfl, rfl⟩ ones_nil ?_ w hH rfl
    generalize hE : (⟨specOf _, _, _, _⟩ : Env) = E
    have ep : E.post = φ := by rw [← hE]
    have ei : E.inv = (fun _ C => ∃ (j : Nat) (bb : Bool), C = ⟨[j], [bb], [], [], [s1, s2], [], h, noM⟩ ∧ j ≤ a.length ∧ sameL a b = sameL (a.drop j) (b.drop j)) := by rw [← hE]
    have em : E.meas = (fun _ C => ((a.length : Int) - C.i.getD 0 0).toNat) := by rw [← hE]
    clear hE
    unfold fm_same05
    by_cases hlen : a.length = b.length
    rotate_left
    · rw [sameL_len hlen] at hφ
      rw [th_ite, if_pos (by simp [go_sem]; omega)]
      rw [then_step, says_ret, ep]
      exact hφ
    rw [th_ite, if_neg (by simp [go_sem]; omega), then_step]
    refine loop_intro ?_ ?_
    · rw [ei]
      exact ⟨0, false, rfl, by omega, rfl⟩
    rw [ei, em]
    rintro i bbs ss v ll pp hh M ⟨j, bb, hC, hj, hs⟩ hM
    cases hC
    have hM' : M 0 = ((a.length : Int) - j).toNat := hM
    by_cases hjl : j < a.length
    rotate_left
    · have hz : ¬ ((j : Int) < s1.n) := by omega
      rw [List.drop_eq_nil_of_le (by omega), List.drop_eq_nil_of_le (by omega), sameL] at hs
      rw [hs] at hφ
      rw [th_ite, if_neg (by simpa [go_sem] using hz)]
      rw [then_step, says_ret, ep]
      exact hφ
    have hz : ((j : Int) < s1.n) := by omega
    have hjb : j < b.length := by omega
    obtain ⟨c1, o1, ha1⟩ := Rows.nn R1 (j := j) (by omega)
    obtain ⟨c2, o2, ha2⟩ := Rows.nn R2 (j := j) (by omega)
    have rd1 : ∀ off, off < 6 → hread h (some (c1, o1 + j * 6 + off)) 1 = some ((a[j].cs.drop off).take 1) := fun off ho => by
      have := Rows.read (off := off) (m := 1) R1 (j := j) (by omega) (by omega) ha1
      rw [← List.drop_drop, gcs_at hjl, List.drop_append_of_le_length (by simp [Ng.cs]; omega), List.take_append_of_le_length (by simp [Ng.cs]; omega)] at this
      exact this
    have rd2 : ∀ off, off < 6 → hread h (some (c2, o2 + j * 6 + off)) 1 = some ((b[j].cs.drop off).take 1) := fun off ho => by
      have := Rows.read (off := off) (m := 1) R2 (j := j) (by omega) (by omega) ha2
      rw [← List.drop_drop, gcs_at hjb, List.drop_append_of_le_length (by simp [Ng.cs]; omega), List.take_append_of_le_length (by simp [Ng.cs]; omega)] at this
      exact this
    rw [List.drop_eq_getElem_cons hjl, List.drop_eq_getElem_cons hjb, sameL] at hs
    generalize a[j] = x at *
    generalize b[j] = y at *
    have x0 := rd1 0 (by omega)
    have x3 := rd1 3 (by omega)
    have x4 := rd1 4 (by omega)
    have x5 := rd1 5 (by omega)
    have y0 := rd2 0 (by omega)
    have y3 := rd2 3 (by omega)
    have y4 := rd2 4 (by omega)
    have y5 := rd2 5 (by omega)
    clear rd1 rd2
    simp only [Ng.cs, List.drop_zero, List.drop_succ_cons, List.take_succ_cons, List.take_zero] at x0 x3 x4 x5 y0 y3 y4 y5
    have A1 : ∀ off, (s1.a.map fun x => (x.1, x.2 + ((j : Nat) : Int).toNat * 6 + off)) = some (c1, o1 + j * 6 + off) := fun off => by rw [ha1]; rfl
    have A2 : ∀ off, (s2.a.map fun x => (x.1, x.2 + ((j : Nat) : Int).toNat * 6 + off)) = some (c2, o2 + j * 6 + off) := fun off => by rw [ha2]; rfl
    rw [th_ite, if_pos (by simpa [go_sem] using hz), then_step, th_load, if_pos (by rfl)]
    refine (exI_iff _ _).2 ⟨⟨[x.k], [], [], [], [], []⟩, rfl, ones_nil, (congrArg (fun q => hread h q 1) (A1 0)).trans x0, ?_⟩
    rw [then_step, th_load, if_pos (by rfl)]
    refine (exI_iff _ _).2 ⟨⟨[y.k], [], [], [], [], []⟩, rfl, ones_nil, (congrArg (fun q => hread h q 1) (A2 0)).trans y0, ?_⟩
    have lk : ∀ {q : Option (Nat × Nat)} {q' : Nat × Nat} {z : Int}, q = some q' → hread h (some q') 1 = some [.int .i64 z] → hread h q 1 = some [.int .i64 z] := fun h1 h2 => by rw [h1]; exact h2
    rw [then_step]
    refine load_i rfl (fun _ => ⟨x.z, (congrArg (fun q => hread h q 1) (A1 3)).trans x3⟩) fun v3 h3 => ?_
    rw [then_step]
    refine load_i rfl (fun _ => ⟨y.z, (congrArg (fun q => hread h q 1) (A2 3)).trans y3⟩) fun v4 h4 => ?_
    rw [then_step]
    refine load_i rfl (fun _ => ⟨x.n, (congrArg (fun q => hread h q 1) (A1 4)).trans x4⟩) fun v5 h5 => ?_
    rw [then_step]
    refine load_i rfl (fun _ => ⟨y.n, (congrArg (fun q => hread h q 1) (A2 4)).trans y4⟩) fun v6 h6 => ?_
    rw [then_step]
    refine load_s rfl (fun _ => ⟨x.x, (congrArg (fun q => hread h q 1) (A1 5)).trans x5⟩) fun v7 h7 => ?_
    rw [then_step]
    refine load_s rfl (fun _ => ⟨y.x, (congrArg (fun q => hread h q 1) (A2 5)).trans y5⟩) fun v8 h8 => ?_
    have inj : ∀ {u z : Int}, some [Value.int .i64 z] = some [Value.int .i64 u] → u = z := fun h => by simpa using h.symm
    have injs : ∀ {u z : List UInt8}, some [Value.string (B z)] = some [Value.string (B u)] → u = z := fun h => by simpa [B_inj] using h.symm
    have e34 : x.k = y.k → v3 = x.z ∧ v4 = y.z := fun w1 => by
      have g1 : BE.den (⟨[(j : Int), x.k, y.k], [bb], [], [], [s1, s2], [], h, M⟩ : Ctx) (.eqI (.x 1) (.x 2)) = true := by simpa [go_sem] using w1
      exact ⟨inj (((congrArg (fun q => hread h q 1) (A1 3)).trans x3).symm.trans (h3 g1)), inj (((congrArg (fun q => hread h q 1) (A2 3)).trans y3).symm.trans (h4 g1))⟩
    have e56 : x.k = y.k → v3 = v4 → v5 = x.n ∧ v6 = y.n := fun w1 w2 => by
      have g1 : BE.den (⟨[(j : Int), x.k, y.k, v3, v4], [bb], [], [], [s1, s2], [], h, M⟩ : Ctx) (.not (.or (.not (.eqI (.x 1) (.x 2))) (.not (.eqI (.x 3) (.x 4))))) = true := by simp [go_sem, w1, w2]
      exact ⟨inj (((congrArg (fun q => hread h q 1) (A1 4)).trans x4).symm.trans (h5 g1)), inj (((congrArg (fun q => hread h q 1) (A2 4)).trans y4).symm.trans (h6 g1))⟩
    have e78 : x.k = y.k → v3 = v4 → v5 = v6 → v7 = x.x ∧ v8 = y.x := fun w1 w2 w3 => by
      have g1 : BE.den (⟨[(j : Int), x.k, y.k, v3, v4, v5, v6], [bb], [], [], [s1, s2], [], h, M⟩ : Ctx) (.not (.or (.or (.not (.eqI (.x 1) (.x 2))) (.not (.eqI (.x 3) (.x 4)))) (.not (.eqI (.x 5) (.x 6))))) = true := by simp [go_sem, w1, w2, w3]
      exact ⟨injs (((congrArg (fun q => hread h q 1) (A1 5)).trans x5).symm.trans (h7 g1)), injs (((congrArg (fun q => hread h q 1) (A2 5)).trans y5).symm.trans (h8 g1))⟩
    clear h3 h4 h5 h6 h7 h8
    iterate 16 (rw [then_step]; refine need_i (fun _ => by simp [go_sem, ha1, ha2] <;> omega) ?_)
    by_cases heq : (((x.k = y.k ∧ v3 = v4) ∧ v5 = v6) ∧ v7 = v8)
    · obtain ⟨⟨⟨q1, q2⟩, q3⟩, q4⟩ := heq
      obtain ⟨r1, r2⟩ := e34 q1
      obtain ⟨r3, r4⟩ := e56 q1 q2
      obtain ⟨r5, r6⟩ := e78 q1 q2 q3
      have e : (x.k == y.k && x.z == y.z && x.n == y.n && x.x == y.x) = true := by
        simp only [Bool.and_eq_true, beq_iff_eq]
        exact ⟨⟨⟨q1, by rw [← r1, ← r2]; exact q2⟩, by rw [← r3, ← r4]; exact q3⟩, by rw [← r5, ← r6]; exact q4⟩
      rw [e, Bool.true_and] at hs
      rw [then_step, th_ite, if_neg (by simp [go_sem, q1, q2, q3, q4])]
      rw [then_step, th_need]; refine ⟨by simp [go_sem] <;> omega, ?_⟩
      rw [then_step, says_again, ei, em]
      refine ⟨⟨j + 1, bb, rfl, by omega, hs⟩, ?_⟩
      show (((a.length : Int) - ((j : Int) + 1)).toNat) < M 0
      omega
    · have e : (x.k == y.k && x.z == y.z && x.n == y.n && x.x == y.x) = false := by
        cases hq : (x.k == y.k && x.z == y.z && x.n == y.n && x.x == y.x) with
        | false => rfl
        | true =>
          simp only [Bool.and_eq_true, beq_iff_eq] at hq
          obtain ⟨⟨⟨q1, q2⟩, q3⟩, q4⟩ := hq
          obtain ⟨r1, r2⟩ := e34 q1
          obtain ⟨r3, r4⟩ := e56 q1 (by rw [r1, r2]; exact q2)
          obtain ⟨r5, r6⟩ := e78 q1 (by rw [r1, r2]; exact q2) (by rw [r3, r4]; exact q3)
          exact absurd ⟨⟨⟨q1, by rw [r1, r2]; exact q2⟩, by rw [r3, r4]; exact q3⟩, by rw [r5, r6]; exact q4⟩ heq
      rw [e, Bool.false_and] at hs
      rw [hs] at hφ
      rw [then_step, th_ite, if_pos (by
        simp only [go_sem]
        simp only [not_and] at heq
        by_cases q1 : x.k = y.k
        · by_cases q2 : v3 = v4
          · by_cases q3 : v5 = v6
            · simp [q1, q2, q3, heq ⟨⟨q1, q2⟩, q3⟩]
            · simp [q3]
          · simp [q2]
        · simp [q1])]
      rw [then_step, says_ret, ep]
      exact hφ
end Go.Proofs.YtllbpdllkkcajaaGreatDoor
namespace Go.Proofs.YtllbpdllkkcajaaGreatDoor
open Go.RowKit
/-- A token without its place. -/
def Tok.p (t : Tok) : Int × Int × List UInt8 := (t.k, t.n, t.x)
def lexS : Nat → List UInt8 → Option (List (Int × Int × List UInt8))
  | 0, _ => none
  | m + 1, u =>
    if u.drop (sk false u) = [] then some [(8, 0, [])]
    else if (one (u.drop (sk false u)) 0).f = 0 then (lexS m ((u.drop (sk false u)).drop (one (u.drop (sk false u)) 0).e)).map (((one (u.drop (sk false u)) 0).k, (one (u.drop (sk false u)) 0).n, (one (u.drop (sk false u)) 0).x) :: ·)
    else none
theorem rn_drop (p : Int → Bool) (s : List UInt8) (i j : Nat) : rn p (s.drop i) j = rn p s (i + j) := by unfold rn; rw [List.drop_drop]
theorem sub_drop (s : List UInt8) (i a b : Nat) : sub (s.drop i) a b = sub s (i + a) (i + b) := by
  unfold sub
  rw [List.drop_take, List.drop_take, List.drop_drop]
  congr 1; omega
theorem nm_drop (s : List UInt8) (i : Nat) : (nm (s.drop i) 0).1 = (nm s i).1 ∧ (nm (s.drop i) 0).2.1 = (nm s i).2.1 ∧ (nm (s.drop i) 0).2.2.1 = (nm s i).2.2.1 ∧ ((nm s i).1 = 0 → (nm s i).2.2.2 = i + (nm (s.drop i) 0).2.2.2) := by
  have e1 : rn dgB (s.drop i) 0 = rn dgB s i := by rw [rn_drop]; rfl
  have e2 : rn inB (s.drop i) (rn dgB s i) = rn inB s (i + rn dgB s i) := rn_drop ..
  have e3 : bt (s.drop i) (rn dgB s i) = bt s (i + rn dgB s i) := bt_drop ..
  have e4 : sub (s.drop i) 0 (rn dgB s i) = sub s i (i + rn dgB s i) := sub_drop ..
  unfold nm
  rw [e1, Nat.zero_add, e2, e3, e4]
  unfold nfin
  split
  · split <;> simp
  · split
    · split <;> simp
      omega
    · simp
theorem one_drop (s : List UInt8) (i : Nat) : (one (s.drop i) 0).f = (one s i).f ∧ (one (s.drop i) 0).k = (one s i).k ∧ (one (s.drop i) 0).x = (one s i).x ∧ (one (s.drop i) 0).n = (one s i).n ∧ ((one s i).f = 0 → (one s i).e = i + (one (s.drop i) 0).e) := by
  have e0 : bt (s.drop i) 0 = bt s i := bt_drop ..
  have e1 : rn inB (s.drop i) 0 = rn inB s i := by rw [rn_drop]; rfl
  have e2 : sub (s.drop i) 0 (rn inB s i) = sub s i (i + rn inB s i) := sub_drop ..
  obtain ⟨n1, n2, n3, n4⟩ := nm_drop s i
  unfold one
  rw [e0, e1, Nat.zero_add, e2, n1, n2, n3, List.drop_zero]
  split
  · simp
  · split
    · exact ⟨rfl, rfl, rfl, rfl, n4⟩
    · split
      · cases rdq (s.drop i) with
        | none => simp
        | some r => simp
      · split <;> simp
theorem lexA_S : ∀ (m : Nat) {s : List UInt8} {i : Nat} {p : Int × Int} {acc : List Tok} {T : List (Int × Int × List UInt8)}, i ≤ s.length → lexS m (s.drop i) = some T → ∃ L, lexA m s i p acc = ((0, 0, 0), acc ++ L) ∧ L.map Tok.p = T
  | 0, _, _, _, _, _, _, h => by cases h
  | m + 1, s, i, p, acc, T, hi, h => by
    rw [lexS] at h
    have es : sk false (s.drop i) = ski false s i := rfl
    rw [es, List.drop_drop] at h
    have hle := ski_le (s := s) (i := i) false hi
    rw [lexA]
    split at h
    · rename_i h1
      have : s.length ≤ i + ski false s i := by have := List.drop_eq_nil_iff.1 h1; exact this
      rw [if_pos this]
      cases h
      exact ⟨_, rfl, rfl⟩
    · rename_i h1
      have hlt : ¬ s.length ≤ i + ski false s i := fun hh => h1 (List.drop_eq_nil_of_le hh)
      rw [if_neg hlt]
      obtain ⟨o1, o2, o3, o4, o5⟩ := one_drop s (i + ski false s i)
      rw [o1] at h
      split at h
      · rename_i hf
        rw [if_pos hf]
        simp only [Option.map_eq_some_iff] at h
        obtain ⟨T', hT, rfl⟩ := h
        have o5 := o5 hf
        rw [List.drop_drop, ← o5] at hT
        have he := (one_ok (by omega) hf).2.1
        obtain ⟨L, hL, hp⟩ := lexA_S m (p := adv p (sub s i (one s (i + ski false s i)).e)) (acc := acc ++ [⟨(one s (i + ski false s i)).k, (Go.Proofs.YtllbpdllkkcajaaGreatDoor.adv p (sub s i (i + ski false s i))).1, (Go.Proofs.YtllbpdllkkcajaaGreatDoor.adv p (sub s i (i + ski false s i))).2, (one s (i + ski false s i)).n, (one s (i + ski false s i)).x⟩]) he hT
        refine ⟨⟨(one s (i + ski false s i)).k, (Go.Proofs.YtllbpdllkkcajaaGreatDoor.adv p (sub s i (i + ski false s i))).1, (Go.Proofs.YtllbpdllkkcajaaGreatDoor.adv p (sub s i (i + ski false s i))).2, (one s (i + ski false s i)).n, (one s (i + ski false s i)).x⟩ :: L, ?_, ?_⟩
        · rw [hL, List.append_assoc]; rfl
        · rw [List.map_cons, hp, o2, o3, o4]; rfl
      · cases h
/-- A text's tokens, however much fuel there is. -/
def LX (u : List UInt8) (T : List (Int × Int × List UInt8)) : Prop := T.length ≤ u.length + 1 ∧ ∀ m, T.length ≤ m → lexS m u = some T
theorem lx_all {s : List UInt8} {T : List (Int × Int × List UInt8)} (h : LX s T) : ∃ L, lexAll s = ((0, 0, 0), L) ∧ L.map Tok.p = T := by
  obtain ⟨L, h1, h2⟩ := lexA_S (s.length + 1) (s := s) (i := 0) (p := (1, 1)) (acc := []) (Nat.zero_le _) (h.2 _ h.1)
  exact ⟨L, by unfold lexAll; rw [h1]; rfl, h2⟩
theorem lx_nil : LX [] [(8, 0, [])] := ⟨by decide, fun m hm => by
  cases m with
  | zero => simp at hm
  | succ m => rfl⟩
theorem lx_blank {u : List UInt8} {T : List (Int × Int × List UInt8)} (c : UInt8) (hc : c = 32 ∨ c = 9 ∨ c = 10) (h : LX u T) : LX (c :: u) T := by
  refine ⟨by have := h.1; simp; omega, fun m hm => ?_⟩
  have := h.2 m hm
  cases m with
  | zero => exact this
  | succ m =>
    have e : sk false (c :: u) = sk false u + 1 := by
      rcases hc with rfl | rfl | rfl <;> rfl
    rw [lexS, e, List.drop_succ_cons]
    rw [lexS] at this
    exact this
theorem lx_tok {x u : List UInt8} {T : List (Int × Int × List UInt8)} {k n : Int} {t : List UInt8} (hne : x ≠ []) (hs : sk false (x ++ u) = 0) (ho : one (x ++ u) 0 = ⟨0, k, t, n, x.length⟩) (h : LX u T) : LX (x ++ u) ((k, n, t) :: T) := by
  have hx : 0 < x.length := List.length_pos_iff.2 hne
  refine ⟨by have := h.1; simp; omega, fun m hm => ?_⟩
  rw [List.length_cons] at hm
  obtain ⟨m', rfl⟩ : ∃ m', m = m' + 1 := ⟨m - 1, by omega⟩
  rw [lexS, hs, List.drop_zero, if_neg (by simp [hne]), ho, if_pos rfl]
  show (lexS m' ((x ++ u).drop x.length)).map _ = _
  rw [List.drop_left, h.2 m' (by omega)]
  rfl
/-- What follows is no part of a name or a number. -/
def Fol (u : List UInt8) : Prop := ∀ c r, u = c :: r → inB c.toNat = false
theorem tw_app {p : UInt8 → Bool} : ∀ {x u : List UInt8}, (∀ c ∈ x, p c = true) → (∀ c r, u = c :: r → p c = false) → (x ++ u).takeWhile p = x
  | [], [], _, _ => rfl
  | [], c :: r, _, h => by rw [List.nil_append, List.takeWhile_cons, h c r rfl]; rfl
  | a :: x, u, h, h2 => by
    rw [List.cons_append, List.takeWhile_cons, h a (by simp)]
    simp only [if_true]
    rw [tw_app (fun c hc => h c (by simp [hc])) h2]
theorem rn_app {p : Int → Bool} {x u : List UInt8} (h1 : ∀ c ∈ x, p c.toNat = true) (h2 : ∀ c r, u = c :: r → p c.toNat = false) : rn p (x ++ u) 0 = x.length := by
  unfold rn
  rw [List.drop_zero, tw_app h1 h2]
theorem sub_app (x u : List UInt8) : sub (x ++ u) 0 x.length = x := by unfold sub; rw [List.take_left, List.drop_zero]
theorem bt_app0 {x : List UInt8} (u : List UInt8) (h : x ≠ []) : bt (x ++ u) 0 = bt x 0 := bt_app_left x u (List.length_pos_iff.2 h)
theorem sk_zero {x : List UInt8} (h : skP (bt x 0) (skG (bt x 0) false) = false) (hne : x ≠ []) (u : List UInt8) : sk false (x ++ u) = 0 := by
  cases x with
  | nil => exact absurd rfl hne
  | cons c x =>
    rw [bt_zero] at h
    rw [List.cons_append, sk, h]; rfl
theorem sk_kd {x : List UInt8} (h : kdi (bt x 0) ≠ 0) : skP (bt x 0) (skG (bt x 0) false) = false := by
  unfold kdi at h
  unfold skP skG
  generalize bt x 0 = b at *
  have : b ≠ 35 ∧ b ≠ 32 ∧ b ≠ 9 ∧ b ≠ 13 ∧ b ≠ 10 := by
    refine ⟨?_, ?_, ?_, ?_, ?_⟩ <;> (intro e; subst e; exact absurd rfl h)
  simp [this]
theorem kd_ne {x : List UInt8} (h : kdi (bt x 0) ≠ 0) : x ≠ [] := fun e => by subst e; exact h rfl
/-- A name. -/
theorem lx_name {x u : List UInt8} {T : List (Int × Int × List UInt8)} (hk : kdi (bt x 0) = 1 ∨ kdi (bt x 0) = 2) (hx : ∀ c ∈ x, inB c.toNat = true) (hu : Fol u) (h : LX u T) : LX (x ++ u) ((nameK (bt x 0) x, 0, x) :: T) := by
  have h0 : kdi (bt x 0) ≠ 0 := by omega
  have hne := kd_ne h0
  refine lx_tok hne (sk_zero (sk_kd h0) hne u) ?_ h
  unfold one
  rw [bt_app0 u hne, if_pos hk, Nat.zero_add, rn_app hx hu, sub_app]
theorem kd_in {b : Int} (h : inB b = false) : kdi b ≠ 1 ∧ kdi b ≠ 2 ∧ kdi b ≠ 3 := by
  unfold inB at h
  rw [decide_eq_false_iff_not] at h
  omega
theorem dg_fol {u : List UInt8} (hu : Fol u) : ∀ c r, u = c :: r → dgB c.toNat = false := fun c r e => by
  have := kd_in (hu c r e)
  unfold dgB; rw [decide_eq_false_iff_not]; exact this.2.2
/-- A number. -/
theorem lx_int {d u : List UInt8} {T : List (Int × Int × List UInt8)} {n : Int} (hne : d ≠ []) (hd : ∀ c ∈ d, dgB c.toNat = true) (hv : (pv (strip d)).2 = 0) (hn : (pv (strip d)).1 = n) (hmax : n ≤ 9223372036854775807) (hu : Fol u) (h : LX u T) : LX (d ++ u) ((3, n, []) :: T) := by
  have h3 : kdi (bt d 0) = 3 := by
    cases d with
    | nil => exact absurd rfl hne
    | cons c d => have := hd c (by simp); rw [bt_zero]; simpa [dgB] using this
  refine lx_tok hne (sk_zero (sk_kd (by omega)) hne u) ?_ h
  unfold one nm
  rw [bt_app0 u hne, if_neg (by omega), if_pos h3, Nat.zero_add, rn_app hd (dg_fol hu)]
  have e0 : rn inB (d ++ u) d.length = 0 := by
    unfold rn
    rw [List.drop_left]
    cases u with
    | nil => rfl
    | cons c u => rw [List.takeWhile_cons, hu c u rfl]; rfl
  rw [e0, if_pos rfl, sub_app]
  unfold nfin
  rw [if_pos ⟨hv, by omega⟩, hn]
theorem lx_comp {d u : List UInt8} {T : List (Int × Int × List UInt8)} {n : Int} (hne : d ≠ []) (hd : ∀ c ∈ d, dgB c.toNat = true) (hv : (pv (strip d)).2 = 0) (hn : (pv (strip d)).1 = n) (hmax : n ≤ 8388607) (hu : Fol u) (h : LX u T) : LX (d ++ [105] ++ u) ((4, n, []) :: T) := by
  have h3 : kdi (bt d 0) = 3 := by
    cases d with
    | nil => exact absurd rfl hne
    | cons c d => have := hd c (by simp); rw [bt_zero]; simpa [dgB] using this
  have hb : bt (d ++ [105]) 0 = bt d 0 := bt_app0 _ hne
  refine lx_tok (by simp) (sk_zero (by rw [hb]; exact sk_kd (by omega)) (by simp) u) ?_ h
  unfold one nm
  have er : rn dgB (d ++ [105] ++ u) 0 = d.length := by
    rw [List.append_assoc]
    exact rn_app hd (fun c r e => by cases e; decide)
  rw [bt_app0 u (by simp), hb, if_neg (by omega), if_pos h3, Nat.zero_add, er]
  have e0 : rn inB (d ++ [105] ++ u) d.length = 1 := by
    unfold rn
    rw [List.append_assoc, List.drop_left, List.cons_append, List.nil_append, List.takeWhile_cons, show inB ((105 : UInt8).toNat : Int) = true by decide]
    cases u with
    | nil => rfl
    | cons c u => rw [List.takeWhile_cons, hu c u rfl]; rfl
  have e1 : bt (d ++ [105] ++ u) d.length = 105 := by
    have := bt_drop (d ++ [105] ++ u) d.length 0
    rw [Nat.add_zero] at this
    rw [← this, List.append_assoc, List.drop_left]; rfl
  have e2 : sub (d ++ [105] ++ u) 0 d.length = d := by rw [List.append_assoc]; exact sub_app _ _
  rw [e0, if_neg (by decide), e1, if_pos ⟨rfl, rfl⟩, e2]
  unfold nfin
  rw [if_pos ⟨hv, by omega⟩, hn, List.length_append]
  rfl
/-- A sign. -/
theorem lx_sign {x u : List UInt8} {T : List (Int × Int × List UInt8)} (hk : kdi (bt x 0) = 0) (h34 : bt x 0 ≠ 34) (hb : skP (bt x 0) (skG (bt x 0) false) = false) (hne : x ≠ []) (hs : sg (x ++ u) = x) (h : LX u T) : LX (x ++ u) ((7, 0, x) :: T) := by
  refine lx_tok hne (sk_zero hb hne u) ?_ h
  unfold one
  rw [bt_app0 u hne, if_neg (by omega), if_neg (by omega), if_neg h34, List.drop_zero, hs, if_neg hne, Nat.zero_add]
end Go.Proofs.YtllbpdllkkcajaaGreatDoor
namespace Go.Proofs.YtllbpdllkkcajaaGreatDoor
open Go.RowKit
theorem dg_dig (m : Nat) (h : m < 10) : isDig (dg m) = true ∧ (dg m).toNat = 48 + m := by
  have : (dg m).toNat = 48 + m := by simp [dg]; omega
  refine ⟨?_, this⟩
  simp [isDig, this]; omega
theorem dgo_spec (k : Nat) : ∀ (m : Nat) (t : List UInt8), 0 < k → m < 10 ^ k → ∃ d, dgo k m t = d ++ t ∧ d.all isDig = true ∧ vald d = m ∧ d ≠ [] ∧ (m ≠ 0 → d.head? ≠ some 48) ∧ (m = 0 → d = [48]) := by
  induction k with
  | zero => intro m t h; omega
  | succ k ih =>
    intro m t _ hm
    rw [dgo]
    by_cases h10 : m < 10
    · rw [if_pos h10]
      obtain ⟨h1, h2⟩ := dg_dig m h10
      refine ⟨[dg m], rfl, by simp [h1], ?_, by simp, fun h0 => ?_, fun h0 => by subst h0; rfl⟩
      · rw [vald_cons, h2]; simp [vald]
      · simp only [List.head?_cons, ne_eq, Option.some.injEq]
        intro e
        rw [e] at h2
        have : (48 : UInt8).toNat = 48 := rfl
        omega
    · rw [if_neg h10]
      have hk : 0 < k := by
        cases k with
        | zero => simp at hm; omega
        | succ k => omega
      obtain ⟨d, e1, e2, e3, e4, e5, e6⟩ := ih (m / 10) (dg (m % 10) :: t) hk (by rw [Nat.pow_succ] at hm; omega)
      obtain ⟨h1, h2⟩ := dg_dig (m % 10) (by omega)
      refine ⟨d ++ [dg (m % 10)], by rw [e1]; simp, by rw [List.all_append, e2]; simp [h1], ?_, by simp, fun _ => ?_, fun h0 => by omega⟩
      · rw [vald_snoc, e3, h2]; omega
      · have := e5 (by omega)
        cases d with
        | nil => exact absurd rfl e4
        | cons x d => simpa using this
theorem dec_spec (m : Nat) (h : m ≤ 9223372036854775808) : (dec m).all isDig = true ∧ vald (dec m) = m ∧ dec m ≠ [] ∧ (m ≠ 0 → (dec m).head? ≠ some 48) ∧ (m = 0 → dec m = [48]) := by
  obtain ⟨d, e1, e2, e3, e4, e5, e6⟩ := dgo_spec 20 m [] (by omega) (by omega)
  rw [List.append_nil] at e1
  unfold dec
  rw [e1]
  exact ⟨e2, e3, e4, e5, e6⟩
/-- A number's text, without a sign. -/
theorem pv_dec (m : Nat) (h : m ≤ 9223372036854775807) : strip (dec m) = dec m ∧ pv (dec m) = ((m : Int), 0) := by
  obtain ⟨d1, d2, d3, d4, d5⟩ := dec_spec m (by omega)
  have hv : digV false (dec m) = ((m : Int), 0) := by
    unfold digV
    rw [if_pos d1, if_neg (by decide), if_pos (by omega), d2]
  generalize dec m = d at *
  cases d with
  | nil => exact absurd rfl d3
  | cons c t =>
    have hc : isDig c = true := by simp only [List.all_cons, Bool.and_eq_true] at d1; exact d1.1
    have h45 : ¬ c = 45 := by intro e; subst e; revert hc; decide
    have h48 : ¬ (c = 48 ∧ t ≠ []) := by
      rintro ⟨rfl, ht⟩
      by_cases hz : m = 0
      · have := d5 hz
        simp at this
        exact ht this
      · exact d4 hz rfl
    refine ⟨?_, by simp only [pv, if_neg h45, if_neg h48]; exact hv⟩
    cases t with
    | nil => rfl
    | cons a t =>
      rw [strip, if_neg]
      intro e
      refine h48 ⟨?_, by simp⟩
      exact UInt8.toNat_inj.1 e
theorem isDig_dg {c : UInt8} (h : isDig c = true) : dgB c.toNat = true := by
  unfold isDig at h
  simp only [Bool.and_eq_true, decide_eq_true_eq] at h
  unfold dgB kdi
  rw [decide_eq_true_eq]
  have := c.toNat_lt
  rw [if_neg (by omega), if_neg (by omega), if_pos (by omega)]
theorem lx_num {n : Int} {u : List UInt8} {T : List (Int × Int × List UInt8)} (h0 : 0 ≤ n) (h1 : n ≤ 9223372036854775807) (hu : Fol u) (h : LX u T) : LX (txt n ++ u) ((3, n, []) :: T) := by
  obtain ⟨d1, d2, d3, _, _⟩ := dec_spec n.natAbs (by omega)
  obtain ⟨p1, p2⟩ := pv_dec n.natAbs (by omega)
  unfold txt
  rw [if_neg (by omega)]
  exact lx_int d3 (fun c hc => isDig_dg (List.all_eq_true.1 d1 c hc)) (by rw [p1, p2]) (by rw [p1, p2]; simp; omega) (by omega) hu h
theorem lx_numi {n : Int} {u : List UInt8} {T : List (Int × Int × List UInt8)} (h0 : 0 ≤ n) (h1 : n ≤ 8388607) (hu : Fol u) (h : LX u T) : LX (txt n ++ [105] ++ u) ((4, n, []) :: T) := by
  obtain ⟨d1, d2, d3, _, _⟩ := dec_spec n.natAbs (by omega)
  obtain ⟨p1, p2⟩ := pv_dec n.natAbs (by omega)
  unfold txt
  rw [if_neg (by omega)]
  exact lx_comp d3 (fun c hc => isDig_dg (List.all_eq_true.1 d1 c hc)) (by rw [p1, p2]) (by rw [p1, p2]; simp; omega) h1 hu h
/-- A byte of a literal is read as it is. -/
theorem rd_byte (m : Nat) (pre : List UInt8) (c : UInt8) (post acc : List UInt8) (hp : post ≠ []) : rdA (m + 1) (pre ++ (qb c ++ post)) pre.length acc = rdA m (pre ++ (qb c ++ post)) (pre.length + (qb c).length) (acc ++ [c]) := by
  have hbt : ∀ j, bt (pre ++ (qb c ++ post)) (pre.length + j) = bt (qb c ++ post) j := fun j => by rw [← bt_drop, List.drop_left]
  have h0 := hbt 0
  rw [Nat.add_zero] at h0
  have hpl : 0 < post.length := List.length_pos_iff.2 hp
  have hcl := c.toNat_lt
  have hub : ∀ n : Int, n = c.toNat → ub n = c := fun n e => by
    subst e; unfold ub; simp
  rw [rdA]
  simp only [h0, hbt, List.length_append]
  unfold qb
  have e34 : (c = 34) ↔ c.toNat = 34 := ⟨fun e => by subst e; rfl, fun e => UInt8.toNat_inj.1 e⟩
  have e92 : (c = 92) ↔ c.toNat = 92 := ⟨fun e => by subst e; rfl, fun e => UInt8.toNat_inj.1 e⟩
  have e10 : (c = 10) ↔ c.toNat = 10 := ⟨fun e => by subst e; rfl, fun e => UInt8.toNat_inj.1 e⟩
  have e9 : (c = 9) ↔ c.toNat = 9 := ⟨fun e => by subst e; rfl, fun e => UInt8.toNat_inj.1 e⟩
  by_cases c1 : c = 34 ∨ c = 92
  · rw [if_pos c1]
    have hv : (c.toNat : Int) = 34 ∨ (c.toNat : Int) = 92 := by
      rcases c1 with h | h
      · left; rw [e34.1 h]; rfl
      · right; rw [e92.1 h]; rfl
    simp only [List.cons_append, List.nil_append, bt_zero, bt_succ, List.length_cons, List.length_nil]
    rw [show ((92 : UInt8).toNat : Int) = 92 from rfl]
    rw [if_neg (by omega), if_neg (by decide), if_neg (by decide), if_neg (by omega), if_pos hv, hub _ rfl]
  rw [if_neg c1]
  have n34 : c.toNat ≠ 34 := fun e => c1 (.inl (e34.2 e))
  have n92 : c.toNat ≠ 92 := fun e => c1 (.inr (e92.2 e))
  by_cases c2 : c = 10
  · subst c2
    simp only [if_true, List.cons_append, List.nil_append, bt_zero, bt_succ, List.length_cons, List.length_nil]
    rw [show ((92 : UInt8).toNat : Int) = 92 from rfl, show ((110 : UInt8).toNat : Int) = 110 from rfl]
    rw [if_neg (by omega), if_neg (by decide), if_neg (by decide), if_neg (by omega), if_neg (by decide), if_pos rfl]
  rw [if_neg c2]
  have n10 : c.toNat ≠ 10 := fun e => c2 (e10.2 e)
  by_cases c3 : c = 9
  · subst c3
    simp only [if_true, List.cons_append, List.nil_append, bt_zero, bt_succ, List.length_cons, List.length_nil]
    rw [show ((92 : UInt8).toNat : Int) = 92 from rfl, show ((116 : UInt8).toNat : Int) = 116 from rfl]
    rw [if_neg (by omega), if_neg (by decide), if_neg (by decide), if_neg (by omega), if_neg (by decide), if_neg (by decide), if_pos rfl]
  rw [if_neg c3]
  by_cases c4 : c.toNat < 32 ∨ 126 < c.toNat
  · rw [if_pos c4]
    have hxd : ∀ n : Nat, n < 16 → ((qb.hxd n).toNat : Int) = (if n < 10 then 48 + n else 87 + n : Nat) ∧ hx ((qb.hxd n).toNat : Int) = n := by
      intro n hn
      unfold qb.hxd
      split
      · rename_i h
        have : (UInt8.ofNat (48 + n)).toNat = 48 + n := by simp; omega
        rw [this]
        refine ⟨rfl, ?_⟩
        unfold hx; rw [if_pos (by omega)]; omega
      · rename_i h
        have : (UInt8.ofNat (87 + n)).toNat = 87 + n := by simp; omega
        rw [this]
        refine ⟨rfl, ?_⟩
        unfold hx; rw [if_neg (by omega), if_pos (by omega)]; omega
    obtain ⟨_, x1⟩ := hxd (c.toNat / 16) (by omega)
    obtain ⟨_, x2⟩ := hxd (c.toNat % 16) (by omega)
    have hbt2 := hbt 2
    have hbt3 := hbt 3
    simp only [List.cons_append, List.nil_append, bt_zero, bt_succ, List.length_cons, List.length_nil]
    rw [show ((92 : UInt8).toNat : Int) = 92 from rfl, show ((120 : UInt8).toNat : Int) = 120 from rfl, x1, x2]
    rw [if_neg (by omega), if_neg (by decide), if_neg (by decide), if_neg (by omega), if_neg (by decide), if_neg (by decide), if_neg (by decide), if_pos rfl, if_pos ⟨by omega, by omega, by omega⟩, hub _ (by omega)]
  · rw [if_neg c4]
    simp only [List.cons_append, List.nil_append, bt_zero, List.length_cons, List.length_nil]
    rw [if_neg (by omega), if_neg (by omega), if_pos (by omega), hub _ rfl]
theorem rd_bytes : ∀ (x : List UInt8) (m : Nat) (pre u acc : List UInt8), x.length < m → rdA m (pre ++ (x.flatMap qb ++ 34 :: u)) pre.length acc = some (acc ++ x, pre.length + (x.flatMap qb).length + 1)
  | [], m, pre, u, acc, hm => by
    obtain ⟨m', rfl⟩ : ∃ m', m = m' + 1 := ⟨m - 1, by omega⟩
    have hb : bt (pre ++ 34 :: u) pre.length = 34 := by
      have := bt_drop (pre ++ 34 :: u) pre.length 0
      rw [Nat.add_zero] at this
      rw [← this, List.drop_left]; rfl
    rw [List.flatMap_nil, List.nil_append, rdA, hb, if_neg (by rw [List.length_append, List.length_cons]; omega), if_pos rfl, List.append_nil]
    rfl
  | c :: x, m, pre, u, acc, hm => by
    obtain ⟨m', rfl⟩ : ∃ m', m = m' + 1 := ⟨m - 1, by omega⟩
    rw [List.flatMap_cons, List.append_assoc, rd_byte m' pre c _ acc (by simp)]
    rw [← List.append_assoc, ← List.length_append]
    rw [rd_bytes x m' (pre ++ qb c) u (acc ++ [c]) (by simp at hm; omega)]
    simp only [List.append_assoc, List.cons_append, List.nil_append, List.length_append]
    congr 2
    omega
theorem qb_pos (c : UInt8) : 1 ≤ (qb c).length := by
  unfold qb
  split
  · simp
  · split
    · simp
    · split
      · simp
      · split <;> simp
theorem fm_len (x : List UInt8) : x.length ≤ (x.flatMap qb).length := by
  induction x with
  | nil => simp
  | cons c x ih => rw [List.flatMap_cons, List.length_append, List.length_cons]; have := qb_pos c; omega
theorem rdq_quo (x u : List UInt8) : rdq (quo x ++ u) = some (x, (quo x).length) := by
  unfold rdq quo
  have e : (34 :: (x.flatMap qb ++ [34])) ++ u = [34] ++ (x.flatMap qb ++ 34 :: u) := by simp
  rw [e, if_neg (by simp [bt])]
  have := rd_bytes x (([34] ++ (x.flatMap qb ++ 34 :: u)).length) [34] u [] (by have := fm_len x; simp only [List.length_append, List.length_cons, List.length_nil]; omega)
  rw [List.length_singleton] at this
  rw [this]
  simp
  omega
/-- A literal. -/
theorem lx_str {x u : List UInt8} {T : List (Int × Int × List UInt8)} (h : LX u T) : LX (quo x ++ u) ((5, 0, x) :: T) := by
  have hb : bt (quo x) 0 = 34 := by unfold quo; rw [bt_zero]; rfl
  refine lx_tok (by unfold quo; simp) (sk_zero (by rw [hb]; decide) (by unfold quo; simp) u) ?_ h
  unfold one
  rw [bt_app0 u (by unfold quo; simp), hb, if_neg (by decide), if_neg (by decide), if_pos rfl, List.drop_zero, rdq_quo]
  simp
/-- Signs of one byte that begin no longer one. -/
theorem sg_one {c : UInt8} (hc : c ∈ ([43, 45, 42, 47, 37, 40, 41, 123, 125, 91, 93, 44, 59, 58, 46] : List UInt8)) (u : List UInt8) : sg ([c] ++ u) = [c] := by
  simp only [List.mem_cons, List.not_mem_nil, or_false] at hc
  rcases hc with rfl | rfl | rfl | rfl | rfl | rfl | rfl | rfl | rfl | rfl | rfl | rfl | rfl | rfl | rfl <;> simp [sg, allSigns, List.isPrefixOf]
/-- Signs of one byte that another one may go on. -/
theorem sg_two {c : UInt8} (hc : c ∈ ([60, 62, 33, 61] : List UInt8)) {u : List UInt8} (hu : ∀ r, u ≠ 61 :: r) : sg ([c] ++ u) = [c] := by
  have h61 : ∀ v : List UInt8, ([61] : List UInt8).isPrefixOf u = false := fun _ => by
    cases u with
    | nil => rfl
    | cons a u =>
      have : a ≠ 61 := fun e => hu u (by rw [e])
      simp [List.isPrefixOf, Ne.symm this]
  have h61 := h61 []
  simp only [List.mem_cons, List.not_mem_nil, or_false] at hc
  rcases hc with rfl | rfl | rfl | rfl <;> simp [sg, allSigns, List.isPrefixOf, h61]
/-- Signs of two bytes. -/
theorem sg_dbl {x : List UInt8} (hx : x ∈ ([[38, 38], [124, 124], [61, 61], [33, 61], [60, 61], [62, 61]] : List (List UInt8))) (u : List UInt8) : sg (x ++ u) = x := by
  simp only [List.mem_cons, List.not_mem_nil, or_false] at hx
  rcases hx with rfl | rfl | rfl | rfl | rfl | rfl <;> simp [sg, allSigns, List.isPrefixOf]
theorem lx_one {c : UInt8} (hc : c ∈ ([43, 45, 42, 47, 37, 40, 41, 123, 125, 91, 93, 44, 59, 58, 46] : List UInt8)) {u : List UInt8} {T : List (Int × Int × List UInt8)} (h : LX u T) : LX (c :: u) ((7, 0, [c]) :: T) := by
  have hh : ∀ c : UInt8, c ∈ ([43, 45, 42, 47, 37, 40, 41, 123, 125, 91, 93, 44, 59, 58, 46] : List UInt8) → kdi (bt [c] 0) = 0 ∧ bt [c] 0 ≠ 34 ∧ skP (bt [c] 0) (skG (bt [c] 0) false) = false := by decide
  obtain ⟨h1, h2, h3⟩ := hh c hc
  exact lx_sign h1 h2 h3 (by simp) (sg_one hc u) h
theorem lx_two {c : UInt8} (hc : c ∈ ([60, 62, 33, 61] : List UInt8)) {u : List UInt8} {T : List (Int × Int × List UInt8)} (hu : ∀ r, u ≠ 61 :: r) (h : LX u T) : LX (c :: u) ((7, 0, [c]) :: T) := by
  have hh : ∀ c : UInt8, c ∈ ([60, 62, 33, 61] : List UInt8) → kdi (bt [c] 0) = 0 ∧ bt [c] 0 ≠ 34 ∧ skP (bt [c] 0) (skG (bt [c] 0) false) = false := by decide
  obtain ⟨h1, h2, h3⟩ := hh c hc
  exact lx_sign h1 h2 h3 (by simp) (sg_two hc hu) h
theorem lx_dbl {x : List UInt8} (hx : x ∈ ([[38, 38], [124, 124], [61, 61], [33, 61], [60, 61], [62, 61]] : List (List UInt8))) {u : List UInt8} {T : List (Int × Int × List UInt8)} (h : LX u T) : LX (x ++ u) ((7, 0, x) :: T) := by
  have hh : ∀ x : List UInt8, x ∈ ([[38, 38], [124, 124], [61, 61], [33, 61], [60, 61], [62, 61]] : List (List UInt8)) → kdi (bt x 0) = 0 ∧ bt x 0 ≠ 34 ∧ skP (bt x 0) (skG (bt x 0) false) = false ∧ x ≠ [] := by decide
  obtain ⟨h1, h2, h3, h4⟩ := hh x hx
  exact lx_sign h1 h2 h3 h4 (sg_dbl hx u) h
end Go.Proofs.YtllbpdllkkcajaaGreatDoor
namespace Go.Proofs.YtllbpdllkkcajaaGreatDoor
open Go.RowKit
abbrev T3 := Int × Int × List UInt8
def sT (x : List UInt8) : T3 := (7, 0, x)
def brT (b : Bool) (s : List T3) : List T3 := if b then sT [40] :: (s ++ [sT [41]]) else s
def kto : Tr → List T3
  | .nd k _ _ _ x ks => if k = 15 then [(6, 0, wInt)] else if k = 16 then [(6, 0, wBool)] else if k = 17 then [(6, 0, wStr)] else if k = 18 then [(6, 0, wComp)] else if k = 19 then [(2, 0, x)] else
    match ks with
    | t :: _ => sT [91] :: (kto t ++ [sT [93]])
    | [] => []
mutual
def to : Tr → List T3
  | .nd k _ _ n x ks =>
    if k = 21 then [(3, n, [])]
    else if k = 22 then [(4, n, [])]
    else if k = 23 then [(5, 0, x)]
    else if k = 24 then [(6, 0, if n = 1 then wTrue else wFalse)]
    else if k = 25 then [(6, 0, wNil)]
    else if k = 26 then [(1, 0, x)]
    else if k = 27 then (1, 0, x) :: sT [40] :: (tor ks ++ [sT [41]])
    else if k = 28 then (match ks with | a :: b :: _ => brT (decide (a.lv < 8)) (to a) ++ (sT [91] :: (to b ++ [sT [93]])) | _ => [])
    else if k = 29 then (match ks with | a :: _ => brT (decide (a.lv < 8)) (to a) ++ [sT [46], (1, 0, x)] | _ => [])
    else if k = 30 then (match ks with | a :: _ => sT [if n = 12 then 45 else 33] :: brT (decide (a.lv < 7)) (to a) | _ => [])
    else if k = 31 then (match ks with | a :: b :: _ => brT (decide (a.lv < lft (sgn n).2)) (to a) ++ (sT (sgn n).1 :: brT (decide (b.lv < (sgn n).2 + 1)) (to b)) | _ => [])
    else if k = 32 then (match ks with | a :: bs => (6, 0, wMake) :: (kto a ++ (sT [40] :: (tor bs ++ [sT [41]]))) | _ => [])
    else []
def tor : List Tr → List T3
  | [] => []
  | t :: ts => to t ++ tos ts
def tos : List Tr → List T3
  | [] => []
  | t :: ts => sT [44] :: (to t ++ tos ts)
end
section
variable (l c n : Int) (x : List UInt8)
theorem to_call (ks : List Tr) : to (.nd 27 l c n x ks) = (1, 0, x) :: sT [40] :: (tor ks ++ [sT [41]]) := by rw [to.eq_def]; simp
theorem to_index (a b : Tr) : to (.nd 28 l c n x [a, b]) = brT (decide (a.lv < 8)) (to a) ++ (sT [91] :: (to b ++ [sT [93]])) := by rw [to.eq_def]; simp
theorem to_dot (a : Tr) : to (.nd 29 l c n x [a]) = brT (decide (a.lv < 8)) (to a) ++ [sT [46], (1, 0, x)] := by rw [to.eq_def]; simp
theorem to_un (a : Tr) : to (.nd 30 l c n x [a]) = sT [if n = 12 then 45 else 33] :: brT (decide (a.lv < 7)) (to a) := by rw [to.eq_def]; simp
theorem to_bin (a b : Tr) : to (.nd 31 l c n x [a, b]) = brT (decide (a.lv < lft (sgn n).2)) (to a) ++ (sT (sgn n).1 :: brT (decide (b.lv < (sgn n).2 + 1)) (to b)) := by rw [to.eq_def]; simp
theorem to_make (a : Tr) (bs : List Tr) : to (.nd 32 l c n x (a :: bs)) = (6, 0, wMake) :: (kto a ++ (sT [40] :: (tor bs ++ [sT [41]]))) := by rw [to.eq_def]; simp
end
theorem fol_one {c : UInt8} (h : inB c.toNat = false) (u : List UInt8) : Fol (c :: u) := fun a r e => by cases e; exact h
theorem lx_word {x u : List UInt8} {T : List T3} (hk : kdi (bt x 0) = 1) (hx : ∀ c ∈ x, inB c.toNat = true) (hw : wordB x = true) (hu : Fol u) (h : LX u T) : LX (x ++ u) ((6, 0, x) :: T) := by
  have := lx_name (.inl hk) hx hu h
  unfold nameK at this
  rw [if_neg (by omega), if_pos hw] at this
  exact this
theorem lx_small {x u : List UInt8} {T : List T3} (hx : NameL x) (hu : Fol u) (h : LX u T) : LX (x ++ u) ((1, 0, x) :: T) := by
  have := lx_name (.inl hx.1) hx.2.1 hu h
  unfold nameK at this
  rw [if_neg (by rw [hx.1]; decide), if_neg (by rw [hx.2.2]; decide)] at this
  exact this
theorem lx_great {x u : List UInt8} {T : List T3} (hx : GreatL x) (hu : Fol u) (h : LX u T) : LX (x ++ u) ((2, 0, x) :: T) := by
  have := lx_name (.inr hx.1) hx.2 hu h
  unfold nameK at this
  rw [if_pos hx.1] at this
  exact this
theorem lx_brk {b : Bool} {s u : List UInt8} {S T : List T3} (hs : ∀ {u : List UInt8} {T : List T3}, Fol u → LX u T → LX (s ++ u) (S ++ T)) (hu : Fol u) (h : LX u T) : LX (brk b s ++ u) (brT b S ++ T) := by
  cases b with
  | false => exact hs hu h
  | true =>
    unfold brk brT
    simp only [if_true, List.cons_append, List.append_assoc, List.nil_append]
    exact lx_one (by decide) (hs (fol_one (by decide) _) (lx_one (by decide) h))
theorem lx_kind {t : Tr} (w : WfK t) : ∀ {u : List UInt8} {T : List T3}, Fol u → LX u T → LX (ktx t ++ u) (kto t ++ T) := by
  induction w with
  | word k l c hk =>
    intro u T hu h
    obtain ⟨k1, k2⟩ := hk
    rcases (by omega : k = 15 ∨ k = 16 ∨ k = 17 ∨ k = 18) with rfl | rfl | rfl | rfl
    · exact lx_word (x := wInt) (by decide) (by decide) (by decide) hu h
    · exact lx_word (x := wBool) (by decide) (by decide) (by decide) hu h
    · exact lx_word (x := wStr) (by decide) (by decide) (by decide) hu h
    · exact lx_word (x := wComp) (by decide) (by decide) (by decide) hu h
  | big l c x hx =>
    intro u T hu h
    exact lx_great hx hu h
  | list l c t _ ih =>
    intro u T hu h
    have e1 : ktx (.nd 20 l c 0 [] [t]) ++ u = 91 :: (ktx t ++ (93 :: u)) := by simp [ktx]
    have e2 : kto (.nd 20 l c 0 [] [t]) ++ T = sT [91] :: (kto t ++ (sT [93] :: T)) := by simp [kto]
    rw [e1, e2]
    exact lx_one (by decide) (ih (fol_one (by decide) _) (lx_one (by decide) h))
/-- An expression's text does not begin with an equals sign. -/
theorem tx_noeq {t : Tr} (w : WfE t) : ∀ (u r : List UInt8), tx t ++ u ≠ 61 :: r := by
  have kd : ∀ {x u r : List UInt8}, (kdi (bt x 0) ≠ 0) → x ++ u ≠ 61 :: r := by
    intro x u r h e
    cases x with
    | nil => exact h rfl
    | cons c x => cases e; exact h rfl
  have num : ∀ {n : Int} {u r : List UInt8}, 0 ≤ n → n ≤ 9223372036854775807 → txt n ++ u ≠ 61 :: r := by
    intro n u r h0 h1
    obtain ⟨d1, _, d3, _, _⟩ := dec_spec n.natAbs (by omega)
    unfold txt
    rw [if_neg (by omega)]
    refine kd ?_
    generalize dec n.natAbs = d at *
    cases d with
    | nil => exact absurd rfl d3
    | cons c d =>
      have := isDig_dg (List.all_eq_true.1 d1 c (by simp))
      rw [bt_zero]
      unfold dgB at this
      rw [decide_eq_true_eq] at this
      omega
  have brk' : ∀ {b : Bool} {s u r : List UInt8}, (∀ u r, s ++ u ≠ 61 :: r) → brk b s ++ u ≠ 61 :: r := by
    intro b s u r h
    cases b with
    | false => exact h u r
    | true => intro e; cases e
  have dots : ∀ {b : Bool} {s v u r : List UInt8}, (∀ u r, s ++ u ≠ 61 :: r) → (brk b s ++ v) ++ u ≠ 61 :: r := by
    intro b s v u r h
    rw [List.append_assoc]; exact brk' h
  refine WfE.rec (motive_1 := fun t _ => ∀ (u r : List UInt8), tx t ++ u ≠ 61 :: r) (motive_2 := fun _ _ => True) ?_ ?_ ?_ ?_ ?_ ?_ ?_ ?_ ?_ ?_ ?_ ?_ ?_ ?_ ?_ w
  · intro l c n h u r; exact num h.1 h.2
  · intro l c n h u r
    have := num (n := n) (u := 105 :: u) (r := r) h.1 (by omega)
    simpa [tx] using this
  · intro l c x u r e; cases e
  · intro l c n h u r
    rcases h with rfl | rfl
    · intro e; cases e
    · intro e; cases e
  · intro l c u r e; cases e
  · intro l c x h u r
    rw [tx_name]
    exact kd (by rw [h.1]; decide)
  · intro l c x h ks _ _ u r
    rw [tx_call, List.append_assoc]
    exact kd (by rw [h.1]; decide)
  · intro l c a b _ _ ia _ u r
    rw [tx_index]; exact dots ia
  · intro l c x _ a _ ia u r
    rw [tx_dot]; exact dots ia
  · intro l c n h a _ _ u r
    rcases h with rfl | rfl
    · intro e; cases e
    · intro e; cases e
  · intro l c n _ a b _ _ ia _ u r
    rw [tx_bin]; exact dots ia
  · intro l c l' c' x _ u r e; cases e
  · intro l c l' c' t _ b _ _ u r e; cases e
  · trivial
  · intro t ts _ _ _ _; trivial
theorem sgn_mem (n : Int) : (sgn n).1 ∈ ([[38, 38], [124, 124], [61, 61], [33, 61], [60, 61], [62, 61]] : List (List UInt8)) ∨ (∃ c, (sgn n).1 = [c] ∧ c ∈ ([43, 45, 42, 47, 37, 40, 41, 123, 125, 91, 93, 44, 59, 58, 46] : List UInt8)) ∨ (∃ c, (sgn n).1 = [c] ∧ c ∈ ([60, 62, 33, 61] : List UInt8)) := by
  unfold sgn
  by_cases c15 : n = 15
  · rw [if_pos c15]; left; decide
  rw [if_neg c15]
  by_cases c14 : n = 14
  · rw [if_pos c14]; left; decide
  rw [if_neg c14]
  by_cases c6 : n = 6
  · rw [if_pos c6]; left; decide
  rw [if_neg c6]
  by_cases c7 : n = 7
  · rw [if_pos c7]; left; decide
  rw [if_neg c7]
  by_cases c8 : n = 8
  · rw [if_pos c8]; right; right; exact ⟨_, rfl, by decide⟩
  rw [if_neg c8]
  by_cases c9 : n = 9
  · rw [if_pos c9]; left; decide
  rw [if_neg c9]
  by_cases c10 : n = 10
  · rw [if_pos c10]; right; right; exact ⟨_, rfl, by decide⟩
  rw [if_neg c10]
  by_cases c11 : n = 11
  · rw [if_pos c11]; left; decide
  rw [if_neg c11]
  by_cases c1 : n = 1
  · rw [if_pos c1]; right; left; exact ⟨_, rfl, by decide⟩
  rw [if_neg c1]
  by_cases c2 : n = 2
  · rw [if_pos c2]; right; left; exact ⟨_, rfl, by decide⟩
  rw [if_neg c2]
  by_cases c3 : n = 3
  · rw [if_pos c3]; right; left; exact ⟨_, rfl, by decide⟩
  rw [if_neg c3]
  by_cases c4 : n = 4
  · rw [if_pos c4]; right; left; exact ⟨_, rfl, by decide⟩
  rw [if_neg c4]
  right; left; exact ⟨_, rfl, by decide⟩
theorem lx_sgn (n : Int) {u : List UInt8} {T : List T3} (h : LX (32 :: u) T) : LX ((sgn n).1 ++ (32 :: u)) (sT (sgn n).1 :: T) := by
  rcases sgn_mem n with h1 | ⟨c, e, hc⟩ | ⟨c, e, hc⟩
  · exact lx_dbl h1 h
  · rw [e]; exact lx_one hc h
  · rw [e]; exact lx_two hc (fun r e => by cases e) h
/-- An expression's text is read as its tokens. -/
theorem lx_expr {t : Tr} (w : WfE t) : ∀ {u : List UInt8} {T : List T3}, Fol u → LX u T → LX (tx t ++ u) (to t ++ T) := by
  refine WfE.rec (motive_1 := fun t _ => ∀ {u : List UInt8} {T : List T3}, Fol u → LX u T → LX (tx t ++ u) (to t ++ T)) (motive_2 := fun ts _ => (∀ {u : List UInt8} {T : List T3}, Fol u → LX u T → LX (txs ts ++ u) (tos ts ++ T)) ∧ (∀ {u : List UInt8} {T : List T3}, Fol u → LX u T → LX (txr ts ++ u) (tor ts ++ T))) ?_ ?_ ?_ ?_ ?_ ?_ ?_ ?_ ?_ ?_ ?_ ?_ ?_ ?_ ?_ w
  · intro l c n h u T hu hT; exact lx_num h.1 h.2 hu hT
  · intro l c n h u T hu hT
    have := lx_numi (n := n) h.1 h.2 hu hT
    simpa [tx, to] using this
  · intro l c x u T _ hT; exact lx_str hT
  · intro l c n h u T hu hT
    rcases h with rfl | rfl
    · exact lx_word (x := wFalse) (by decide) (by decide) (by decide) hu hT
    · exact lx_word (x := wTrue) (by decide) (by decide) (by decide) hu hT
  · intro l c u T hu hT
    exact lx_word (x := wNil) (by decide) (by decide) (by decide) hu hT
  · intro l c x h u T hu hT
    exact lx_small h hu hT
  · intro l c x h ks _ ih u T hu hT
    have e1 : tx (.nd 27 l c 0 x ks) ++ u = x ++ (40 :: (txr ks ++ (41 :: u))) := by rw [tx_call]; simp
    have e2 : to (.nd 27 l c 0 x ks) ++ T = (1, 0, x) :: sT [40] :: (tor ks ++ (sT [41] :: T)) := by rw [to_call]; simp
    rw [e1, e2]
    exact lx_small h (fol_one (by decide) _) (lx_one (by decide) (ih.2 (fol_one (by decide) _) (lx_one (by decide) hT)))
  · intro l c a b _ _ ia ib u T hu hT
    have e1 : tx (.nd 28 l c 0 [] [a, b]) ++ u = brk (decide (a.lv < 8)) (tx a) ++ (91 :: (tx b ++ (93 :: u))) := by rw [tx_index]; simp
    have e2 : to (.nd 28 l c 0 [] [a, b]) ++ T = brT (decide (a.lv < 8)) (to a) ++ (sT [91] :: (to b ++ (sT [93] :: T))) := by rw [to_index]; simp
    rw [e1, e2]
    exact lx_brk ia (fol_one (by decide) _) (lx_one (by decide) (ib (fol_one (by decide) _) (lx_one (by decide) hT)))
  · intro l c x hx a _ ia u T hu hT
    have e1 : tx (.nd 29 l c 0 x [a]) ++ u = brk (decide (a.lv < 8)) (tx a) ++ (46 :: (x ++ u)) := by rw [tx_dot]; simp
    have e2 : to (.nd 29 l c 0 x [a]) ++ T = brT (decide (a.lv < 8)) (to a) ++ (sT [46] :: (1, 0, x) :: T) := by rw [to_dot]; simp
    rw [e1, e2]
    exact lx_brk ia (fol_one (by decide) _) (lx_one (by decide) (lx_small hx hu hT))
  · intro l c n h a wa ia u T hu hT
    have e1 : tx (.nd 30 l c n [] [a]) ++ u = (if n = 12 then 45 else 33) :: (brk (decide (a.lv < 7)) (tx a) ++ u) := by rw [tx_un]; simp
    have e2 : to (.nd 30 l c n [] [a]) ++ T = sT [if n = 12 then 45 else 33] :: (brT (decide (a.lv < 7)) (to a) ++ T) := by rw [to_un]; simp
    rw [e1, e2]
    have hin := lx_brk (b := decide (a.lv < 7)) ia hu hT
    rcases h with rfl | rfl
    · exact lx_one (by decide) hin
    · refine lx_two (c := 33) (by decide) (fun r => ?_) hin
      by_cases hb : a.lv < 7
      · rw [show decide (a.lv < 7) = true by simpa using hb]
        intro e; cases e
      · rw [show decide (a.lv < 7) = false by simpa using hb]
        exact tx_noeq wa u r
  · intro l c n _ a b _ _ ia ib u T hu hT
    have e1 : tx (.nd 31 l c n [] [a, b]) ++ u = brk (decide (a.lv < lft (sgn n).2)) (tx a) ++ (32 :: ((sgn n).1 ++ (32 :: (brk (decide (b.lv < (sgn n).2 + 1)) (tx b) ++ u)))) := by rw [tx_bin]; simp
    have e2 : to (.nd 31 l c n [] [a, b]) ++ T = brT (decide (a.lv < lft (sgn n).2)) (to a) ++ (sT (sgn n).1 :: (brT (decide (b.lv < (sgn n).2 + 1)) (to b) ++ T)) := by rw [to_bin]; simp
    rw [e1, e2]
    exact lx_brk ia (fol_one (by decide) _) (lx_blank 32 (.inl rfl) (lx_sgn n (lx_blank 32 (.inl rfl) (lx_brk ib hu hT))))
  · intro l c l' c' x hx u T hu hT
    have e1 : tx (.nd 32 l c 0 [] [.nd 19 l' c' 0 x []]) ++ u = wMake ++ (32 :: (x ++ (40 :: 41 :: u))) := by rw [tx_make]; simp [ktx, txr]
    have e2 : to (.nd 32 l c 0 [] [.nd 19 l' c' 0 x []]) ++ T = (6, 0, wMake) :: (2, 0, x) :: sT [40] :: sT [41] :: T := by rw [to_make]; simp [kto, tor]
    rw [e1, e2]
    exact lx_word (by decide) (by decide) (by decide) (fol_one (by decide) _) (lx_blank 32 (.inl rfl) (lx_great hx (fol_one (by decide) _) (lx_one (by decide) (lx_one (by decide) hT))))
  · intro l c l' c' t wt b _ ib u T hu hT
    have e1 : tx (.nd 32 l c 0 [] [.nd 20 l' c' 0 [] [t], b]) ++ u = wMake ++ (32 :: (ktx (.nd 20 l' c' 0 [] [t]) ++ (40 :: (tx b ++ (41 :: u))))) := by rw [tx_make]; simp [txr, txs]
    have e2 : to (.nd 32 l c 0 [] [.nd 20 l' c' 0 [] [t], b]) ++ T = (6, 0, wMake) :: (kto (.nd 20 l' c' 0 [] [t]) ++ (sT [40] :: (to b ++ (sT [41] :: T)))) := by rw [to_make]; simp [tor, tos]
    rw [e1, e2]
    exact lx_word (by decide) (by decide) (by decide) (fol_one (by decide) _) (lx_blank 32 (.inl rfl) (lx_kind (.list l' c' t wt) (fol_one (by decide) _) (lx_one (by decide) (ib (fol_one (by decide) _) (lx_one (by decide) hT)))))
  · exact ⟨fun _ h => h, fun _ h => h⟩
  · intro t ts _ _ it its
    refine ⟨fun {u T} hu hT => ?_, fun {u T} hu hT => ?_⟩
    · have e1 : txs (t :: ts) ++ u = 44 :: 32 :: (tx t ++ (txs ts ++ u)) := by simp [txs]
      have e2 : tos (t :: ts) ++ T = sT [44] :: (to t ++ (tos ts ++ T)) := by simp [tos]
      rw [e1, e2]
      refine lx_one (by decide) (lx_blank 32 (.inl rfl) (it ?_ (its.1 hu hT)))
      cases ts with
      | nil => exact hu
      | cons a ts => exact fol_one (by decide) _
    · have e1 : txr (t :: ts) ++ u = tx t ++ (txs ts ++ u) := by simp [txr]
      have e2 : tor (t :: ts) ++ T = to t ++ (tos ts ++ T) := by simp [tor]
      rw [e1, e2]
      refine it ?_ (its.1 hu hT)
      cases ts with
      | nil => exact hu
      | cons a ts => exact fol_one (by decide) _
end Go.Proofs.YtllbpdllkkcajaaGreatDoor
namespace Go.Proofs.YtllbpdllkkcajaaGreatDoor
open Go.RowKit
/-- From so much fuel on. -/
def Ev {α : Type} (f : Nat → Option α) (r : α) : Prop := ∃ N, ∀ n, N ≤ n → f n = some r
theorem Ev.of {α : Type} {f : Nat → Option α} {r : α} (N : Nat) (h : ∀ n, N ≤ n → f n = some r) : Ev f r := ⟨N, h⟩
theorem Ev.succ {α : Type} {f g : Nat → Option α} {r : α} (h : Ev g r) (hf : ∀ n, f (n + 1) = g n) : Ev f r := by
  obtain ⟨N, hN⟩ := h
  refine ⟨N + 1, fun n hn => ?_⟩
  obtain ⟨m, rfl⟩ : ∃ m, n = m + 1 := ⟨n - 1, by omega⟩
  rw [hf, hN m (by omega)]
theorem Ev.bind {α β : Type} {f : Nat → Option α} {g : Nat → α → Option β} {a : α} {r : β} (h : Ev f a) (hg : Ev (fun n => g n a) r) : Ev (fun n => (f n).bind (g n)) r := by
  obtain ⟨N, hN⟩ := h
  obtain ⟨M, hM⟩ := hg
  refine ⟨N + M, fun n hn => ?_⟩
  simp only [hN n (by omega), Option.bind_some]
  exact hM n (by omega)
theorem Ev.map {α β : Type} {f : Nat → Option α} {g : α → β} {a : α} (h : Ev f a) : Ev (fun n => (f n).map g) (g a) := by
  obtain ⟨N, hN⟩ := h
  exact ⟨N, fun n hn => by simp only [hN n hn, Option.map_some]⟩
theorem Ev.const {α : Type} (r : α) : Ev (fun _ => some r) r := ⟨0, fun _ _ => rfl⟩
/-- The tokens from a place on. -/
def HasT (L : List Tok) (a : Nat) (T : List T3) : Prop := (L.drop a).map Tok.p = T
def gs (a : Nat) (d : Int) : PS := ⟨a, d, (0, 0, 0)⟩
section
variable {L : List Tok} {a : Nat} {d : Int} {k n : Int} {x : List UInt8} {T : List T3}
theorem HasT.hd (h : HasT L a ((k, n, x) :: T)) : (tk L (gs a d)).k = k ∧ (tk L (gs a d)).n = n ∧ (tk L (gs a d)).x = x ∧ HasT L (a + 1) T := by
  unfold HasT at h ⊢
  have hlt : a < L.length := by
    have := congrArg List.length h
    rw [List.length_map, List.length_drop, List.length_cons] at this; omega
  rw [List.drop_eq_getElem_cons hlt, List.map_cons] at h
  injection h with h1 h2
  have e : tk L (gs a d) = L[a] := by
    unfold Go.Proofs.YtllbpdllkkcajaaGreatDoor.tk gs
    rw [List.getD_eq_getElem?_getD, List.getElem?_eq_getElem hlt]; rfl
  rw [e]
  unfold Tok.p at h1
  injection h1 with h3 h4
  injection h4 with h4 h5
  exact ⟨h3, h4, h5, h2⟩
theorem HasT.app {S : List T3} (h : HasT L a (S ++ T)) : HasT L (a + S.length) T := by
  unfold HasT at h ⊢
  rw [← List.drop_drop, List.map_drop, h, List.drop_left]
theorem gs_bad : (gs a d).bad = false := rfl
theorem HasT.is (h : HasT L a ((k, n, x) :: T)) (s : List UInt8) : pIs L s (gs a d) = ((k == 6 || k == 7) && x == s) := by
  obtain ⟨h1, _, h3, _⟩ := h.hd (d := d)
  unfold pIs
  rw [gs_bad, h1, h3]
  rfl
theorem HasT.yes (h : HasT L a (sT x :: T)) : pIs L x (gs a d) = true := by rw [h.is]; simp
theorem HasT.word {n : Int} (h : HasT L a ((6, n, x) :: T)) : pIs L x (gs a d) = true := by rw [h.is]; simp
theorem HasT.pass (h : HasT L a ((k, n, x) :: T)) (h8 : k ≠ 8) : pPass L (gs a d) = gs (a + 1) d := by
  unfold pPass
  rw [(h.hd).1, if_neg h8]
  rfl
theorem HasT.must (h : HasT L a (sT x :: T)) : pMust L x (gs a d) = gs (a + 1) d := by
  unfold pMust
  rw [h.yes, if_pos rfl, h.pass (by decide)]
theorem HasT.opens (h : HasT L a (sT x :: T)) (hd : d + 1 ≤ 40) : pOpen L x (gs a d) = gs (a + 1) (d + 1) := by
  unfold pOpen
  have e : (gs a d).d = d := rfl
  rw [h.yes, e, show (d == 40) = false by rw [beq_eq_false_iff_ne]; omega]
  simp only [Bool.and_false]
  rw [if_neg (by decide), h.must]
  rfl
theorem HasT.shut (h : HasT L a (sT x :: T)) : pShut L x (gs a (d + 1)) = gs (a + 1) d := by
  unfold pShut
  rw [h.must]
  show gs (a + 1) (d + 1 - 1) = _
  rw [Int.add_sub_cancel]
theorem HasT.wd (h : HasT L a ((k, n, x) :: T)) (h8 : k ≠ 8) : pWord L k (gs a d) = gs (a + 1) d := by
  unfold pWord
  rw [gs_bad, (h.hd).1, if_neg (by simp), h.pass h8]
end
/-- What ends an expression at a level. -/
def Stp (lvl : Nat) (T : List T3) : Prop := ∃ k n x T', T = (k, n, x) :: T' ∧ (k = 8 ∨ (k = 7 ∧ x ≠ [91] ∧ x ≠ [46] ∧ x ≠ [40] ∧ (opTab x).2 < lvl))
/-- No call. -/
def NoC (T : List T3) : Prop := ∃ k n x T', T = (k, n, x) :: T' ∧ (k = 8 ∨ (k = 7 ∧ x ≠ [40]))
theorem Stp.noc {lvl : Nat} {T : List T3} (h : Stp lvl T) : NoC T := by
  obtain ⟨k, n, x, T', e, h⟩ := h
  exact ⟨k, n, x, T', e, h.imp id fun h => ⟨h.1, h.2.2.2.1⟩⟩
theorem Stp.mono {lvl m : Nat} {T : List T3} (h : Stp lvl T) (hm : lvl ≤ m) : Stp m T := by
  obtain ⟨k, n, x, T', e, h⟩ := h
  exact ⟨k, n, x, T', e, h.imp id fun h => ⟨h.1, h.2.1, h.2.2.1, h.2.2.2.1, by omega⟩⟩
theorem stp_sign {x : List UInt8} {T : List T3} {lvl : Nat} (h : x ≠ [91] ∧ x ≠ [46] ∧ x ≠ [40] ∧ (opTab x).2 < lvl) : Stp lvl (sT x :: T) := ⟨7, 0, x, T, rfl, .inr ⟨rfl, h⟩⟩
theorem Stp.op {L : List Tok} {a : Nat} {d : Int} {T : List T3} {lvl m : Nat} (h : Stp lvl T) (hm : lvl ≤ m) (hT : HasT L a T) : pOp L m (gs a d) = 0 := by
  obtain ⟨k, n, x, T', rfl, h⟩ := h
  obtain ⟨h1, _, h3, _⟩ := hT.hd (d := d)
  unfold pOp
  rw [gs_bad, h1, h3]
  rcases h with rfl | ⟨rfl, _, _, _, h⟩
  · rfl
  · rw [if_neg (by decide), if_neg (by omega)]
theorem Stp.post {L : List Tok} {a : Nat} {d : Int} {T : List T3} {lvl : Nat} (h : Stp lvl T) (hT : HasT L a T) (x : Tr) (n : Nat) : pPost L (n + 1) x (gs a d) = some (x, gs a d) := by
  obtain ⟨k, m, y, T', rfl, h⟩ := h
  rw [pPost, hT.is, hT.is]
  rcases h with rfl | ⟨rfl, h1, h2, _, _⟩
  · rfl
  · rw [if_neg (by simp [h1]), if_neg (by simp [h2])]
/-- A type. -/
theorem ev_kind {t : Tr} (w : WfK t) : ∀ {L : List Tok} {a : Nat} {d : Int} {T : List T3}, HasT L a (kto t ++ T) → (kdp t : Int) + d ≤ 40 → ∃ t', t'.bare = t.bare ∧ Ev (fun n => pKind L n (gs a d)) (t', gs (a + (kto t).length) d) := by
  induction w with
  | word k l c hk =>
    intro L a d T h _
    obtain ⟨k1, k2⟩ := hk
    rcases (by omega : k = 15 ∨ k = 16 ∨ k = 17 ∨ k = 18) with rfl | rfl | rfl | rfl
    · have h' : HasT L a ((6, 0, wInt) :: T) := h
      refine ⟨nd 15 (tk L (gs a d)) 0 [] [], rfl, .of 1 fun n hn => ?_⟩
      obtain ⟨m, rfl⟩ : ∃ m, n = m + 1 := ⟨n - 1, by omega⟩
      simp only [pKind]
      rw [gs_bad, if_neg (by decide), h'.word, if_pos rfl, h'.pass (by decide)]; rfl
    · have h' : HasT L a ((6, 0, wBool) :: T) := h
      refine ⟨nd 16 (tk L (gs a d)) 0 [] [], rfl, .of 1 fun n hn => ?_⟩
      obtain ⟨m, rfl⟩ : ∃ m, n = m + 1 := ⟨n - 1, by omega⟩
      simp only [pKind]
      rw [gs_bad, if_neg (by decide), h'.is wInt, if_neg (by decide), h'.word, if_pos rfl, h'.pass (by decide)]; rfl
    · have h' : HasT L a ((6, 0, wStr) :: T) := h
      refine ⟨nd 17 (tk L (gs a d)) 0 [] [], rfl, .of 1 fun n hn => ?_⟩
      obtain ⟨m, rfl⟩ : ∃ m, n = m + 1 := ⟨n - 1, by omega⟩
      simp only [pKind]
      rw [gs_bad, if_neg (by decide), h'.is wInt, if_neg (by decide), h'.is wBool, if_neg (by decide), h'.word, if_pos rfl, h'.pass (by decide)]; rfl
    · have h' : HasT L a ((6, 0, wComp) :: T) := h
      refine ⟨nd 18 (tk L (gs a d)) 0 [] [], rfl, .of 1 fun n hn => ?_⟩
      obtain ⟨m, rfl⟩ : ∃ m, n = m + 1 := ⟨n - 1, by omega⟩
      simp only [pKind]
      rw [gs_bad, if_neg (by decide), h'.is wInt, if_neg (by decide), h'.is wBool, if_neg (by decide), h'.is wStr, if_neg (by decide), h'.word, if_pos rfl, h'.pass (by decide)]; rfl
  | big l c x hx =>
    intro L a d T h _
    have h' : HasT L a ((2, 0, x) :: T) := h
    obtain ⟨h1, h2, h3, h4⟩ := h'.hd (d := d)
    refine ⟨nd 19 (tk L (gs a d)) 0 (tk L (gs a d)).x [], by rw [h3]; rfl, .of 1 fun n hn => ?_⟩
    obtain ⟨m, rfl⟩ : ∃ m, n = m + 1 := ⟨n - 1, by omega⟩
    simp only [pKind]
    rw [gs_bad, if_neg (by decide), h'.is wInt, if_neg (by simp), h'.is wBool, if_neg (by simp), h'.is wStr, if_neg (by simp), h'.is wComp, if_neg (by simp), h1, if_pos rfl, h'.pass (by decide)]; rfl
  | list l c t wt ih =>
    intro L a d T h hd
    have e2 : kto (.nd 20 l c 0 [] [t]) = sT [91] :: (kto t ++ [sT [93]]) := by simp [kto]
    have e3 : kdp (.nd 20 l c 0 [] [t]) = kdp t + 1 := by simp [kdp]
    rw [e2] at h ⊢
    rw [e3] at hd
    have h' : HasT L a (sT [91] :: (kto t ++ (sT [93] :: T))) := by simpa using h
    have h1 := (h'.hd (d := d)).2.2.2
    obtain ⟨t', hb, hE⟩ := ih h1 (d := d + 1) (by omega)
    have h2 := h1.app
    refine ⟨nd 20 (tk L (gs a d)) 0 [] [t'], by simp [nd, Tr.bare, bares, hb], ?_⟩
    refine Ev.succ (g := fun n => (pKind L n (gs (a + 1) (d + 1))).map fun r => (nd 20 (tk L (gs a d)) 0 [] [r.1], pShut L [93] r.2)) ?_ fun n => ?_
    · have := hE.map (g := fun r => (nd 20 (tk L (gs a d)) 0 [] [r.1], pShut L [93] r.2))
      simp only [h2.shut] at this
      rw [show a + (sT [91] :: (kto t ++ [sT [93]])).length = a + 1 + (kto t).length + 1 by simp; omega]
      exact this
    · rw [pKind, gs_bad, if_neg (by decide), h'.is wInt, if_neg (by decide), h'.is wBool, if_neg (by decide), h'.is wStr, if_neg (by decide), h'.is wComp, if_neg (by decide), (h'.hd).1, if_neg (by decide), h'.yes, if_pos rfl, h'.opens (by omega)]
end Go.Proofs.YtllbpdllkkcajaaGreatDoor
namespace Go.Proofs.YtllbpdllkkcajaaGreatDoor
open Go.RowKit
section
variable (L : List Tok) (S : List T3) (a : Nat) (d : Int) (b : Tr)
/-- An atom, and what stands behind it. -/
def PF : Prop := ∃ t' : Tr, t'.bare = b ∧ ∀ r, Ev (fun n => pPost L n t' (gs (a + S.length) d)) r → Ev (fun n => (pAtom L n (gs a d)).bind fun r => pPost L n r.1 r.2) r
/-- All of it, from a level on. -/
def DF (lvl : Nat) : Prop := ∃ t' : Tr, t'.bare = b ∧ Ev (fun n => pBin L n lvl (gs a d)) (t', gs (a + S.length) d)
/-- What goes on at this level. -/
def LF (lvl : Nat) : Prop := ∃ t' : Tr, t'.bare = b ∧ ∀ r, Ev (fun n => pBinL L n lvl t' (gs (a + S.length) d)) r → Ev (fun n => pBin L n lvl (gs a d)) r
end
section
variable {L : List Tok} {S T : List T3} {a : Nat} {d : Int} {b : Tr} {lvl : Nat}
theorem ev_stop (hT : HasT L a T) (hs : Stp lvl T) {m : Nat} (hm : lvl ≤ m) (t : Tr) : Ev (fun n => pBinL L n m t (gs a d)) (t, gs a d) := .of 1 fun n hn => by
  obtain ⟨k, rfl⟩ : ∃ k, n = k + 1 := ⟨n - 1, by omega⟩
  simp only [pBinL]
  rw [if_pos (hs.op hm hT)]
theorem LF.of (h6 : lvl ≤ 6) (h : DF L S a d b (lvl + 1)) : LF L S a d b lvl := by
  obtain ⟨t', hb, hE⟩ := h
  refine ⟨t', hb, fun r hr => ?_⟩
  refine Ev.succ (g := fun n => (pBin L n (lvl + 1) (gs a d)).bind fun r => pBinL L n lvl r.1 r.2) (hE.bind hr) fun n => ?_
  rw [pBin, if_neg (by omega)]
theorem DF.of (hT : HasT L (a + S.length) T) (hs : Stp lvl T) (h : LF L S a d b lvl) : DF L S a d b lvl := by
  obtain ⟨t', hb, hE⟩ := h
  exact ⟨t', hb, hE _ (ev_stop hT hs (Nat.le_refl _) t')⟩
theorem DF.down (hT : HasT L (a + S.length) T) {m : Nat} (hm : m ≤ 7) (h : Stp m T → DF L S a d b m) : ∀ j lvl, lvl + j = m → Stp lvl T → DF L S a d b lvl
  | 0, lvl, e, hs => by
    obtain rfl : lvl = m := by omega
    exact h hs
  | j + 1, lvl, e, hs => DF.of hT hs (LF.of (by omega) (DF.down hT hm h j (lvl + 1) (by omega) (hs.mono (by omega))))
theorem DF.seven (hT : HasT L (a + S.length) T) (hs : Stp lvl T) (h45 : pIs L [45] (gs a d) = false) (h33 : pIs L [33] (gs a d) = false) (h : PF L S a d b) : DF L S a d b 7 := by
  obtain ⟨t', hb, hE⟩ := h
  refine ⟨t', hb, ?_⟩
  have h1 := hE (t', gs (a + S.length) d) (.of 1 fun n hn => by
    obtain ⟨k, rfl⟩ : ∃ k, n = k + 1 := ⟨n - 1, by omega⟩
    exact hs.post hT t' k)
  have h2 : Ev (fun n => pUn L n (gs a d)) (t', gs (a + S.length) d) := Ev.succ h1 fun n => by rw [pUn, h45, if_neg (by decide), h33, if_neg (by decide)]
  exact Ev.succ h2 fun n => by rw [pBin, if_pos (by decide)]
theorem ev_un {r : Tr × PS} (h : Ev (fun n => pBin L n 7 (gs a d)) r) : Ev (fun n => pUn L n (gs a d)) r := by
  obtain ⟨N, hN⟩ := h
  refine ⟨N, fun n hn => ?_⟩
  have : pBin L (n + 1) 7 (gs a d) = some r := hN (n + 1) (by omega)
  rw [pBin, if_pos (by decide)] at this
  exact this
theorem atom_par {n : Nat} (h : HasT L a (sT [40] :: T)) : pAtom L (n + 1) (gs a d) = (pBin L n 1 (pOpen L [40] (gs a d))).map fun r => (r.1, pShut L [41] r.2) := by
  have hk := (h.hd (d := d)).1
  rw [pAtom, gs_bad, if_neg (by decide), hk, if_neg (by decide), if_neg (by decide), if_neg (by decide), h.is wTrue, if_neg (by decide), h.is wFalse, if_neg (by decide), h.is wNil, if_neg (by decide), if_neg (by decide), h.yes, if_pos rfl]
theorem atom_make {n : Nat} (h : HasT L a ((6, 0, wMake) :: T)) : pAtom L (n + 1) (gs a d) = (pKind L n (pHead L (gs a d))).bind fun r =>
        if r.1.k = 20 then (pBin L n 1 (pOpen L [40] r.2)).map fun y => (nd 32 (tk L (gs a d)) 0 [] [r.1, y.1], pShut L [41] y.2)
        else some (nd 32 (tk L (gs a d)) 0 [] [r.1], pShut L [41] (pOpen L [40] r.2)) := by
  have hk := (h.hd (d := d)).1
  rw [pAtom, gs_bad, if_neg (by decide), hk, if_neg (by decide), if_neg (by decide), if_neg (by decide), h.is wTrue, if_neg (by decide), h.is wFalse, if_neg (by decide), h.is wNil, if_neg (by decide), if_neg (by decide), h.is [40], if_neg (by decide), h.word, if_pos rfl]
end
theorem sgn_lv (n : Int) : 1 ≤ (sgn n).2 ∧ (sgn n).2 ≤ 6 := by
  unfold sgn
  by_cases c15 : n = 15
  · rw [if_pos c15]; decide
  rw [if_neg c15]
  by_cases c14 : n = 14
  · rw [if_pos c14]; decide
  rw [if_neg c14]
  by_cases c6 : n = 6
  · rw [if_pos c6]; decide
  rw [if_neg c6]
  by_cases c7 : n = 7
  · rw [if_pos c7]; decide
  rw [if_neg c7]
  by_cases c8 : n = 8
  · rw [if_pos c8]; decide
  rw [if_neg c8]
  by_cases c9 : n = 9
  · rw [if_pos c9]; decide
  rw [if_neg c9]
  by_cases c10 : n = 10
  · rw [if_pos c10]; decide
  rw [if_neg c10]
  by_cases c11 : n = 11
  · rw [if_pos c11]; decide
  rw [if_neg c11]
  by_cases c1 : n = 1
  · rw [if_pos c1]; decide
  rw [if_neg c1]
  by_cases c2 : n = 2
  · rw [if_pos c2]; decide
  rw [if_neg c2]
  by_cases c3 : n = 3
  · rw [if_pos c3]; decide
  rw [if_neg c3]
  by_cases c4 : n = 4
  · rw [if_pos c4]; decide
  rw [if_neg c4]
  decide
theorem lv8 (t : Tr) : t.lv ≤ 8 := by
  cases t with
  | nd k l c n x ks =>
    have := sgn_lv n
    simp only [Tr.lv]
    split
    · omega
    · split <;> omega
theorem lft_le (n : Int) : lft (sgn n).2 ≤ 7 := by
  have := sgn_lv n
  unfold lft; split <;> omega
/-- What an expression's first token is not. -/
theorem to_hd {t : Tr} (w : WfE t) : ∃ k n x S, to t = (k, n, x) :: S ∧ ((k = 6 ∨ k = 7) → x ≠ [41]) ∧ (t.lv = 8 → (k = 6 ∨ k = 7) → x ≠ [45] ∧ x ≠ [33]) := by
  have brk' : ∀ {a : Tr} {m : Nat} {S : List T3}, m ≤ 8 → (∃ k n x S, to a = (k, n, x) :: S ∧ ((k = 6 ∨ k = 7) → x ≠ [41]) ∧ (a.lv = 8 → (k = 6 ∨ k = 7) → x ≠ [45] ∧ x ≠ [33])) → ∃ k n x S', brT (decide (a.lv < m)) (to a) ++ S = (k, n, x) :: S' ∧ ((k = 6 ∨ k = 7) → x ≠ [41]) ∧ (8 ≤ m → a.lv ≤ 8 → (k = 6 ∨ k = 7) → x ≠ [45] ∧ x ≠ [33]) := by
    rintro a m S hm ⟨k, n, x, S', e, h1, h2⟩
    by_cases hl : a.lv < m
    · rw [decide_eq_true hl]
      exact ⟨7, 0, [40], _, rfl, fun _ => by decide, fun _ _ _ => by decide⟩
    · rw [decide_eq_false hl]
      unfold brT
      rw [if_neg (by decide), e]
      exact ⟨k, n, x, _, rfl, h1, fun h3 h4 => h2 (by omega)⟩
  refine WfE.rec (motive_1 := fun t _ => ∃ k n x S, to t = (k, n, x) :: S ∧ ((k = 6 ∨ k = 7) → x ≠ [41]) ∧ (t.lv = 8 → (k = 6 ∨ k = 7) → x ≠ [45] ∧ x ≠ [33])) (motive_2 := fun _ _ => True) ?_ ?_ ?_ ?_ ?_ ?_ ?_ ?_ ?_ ?_ ?_ ?_ ?_ ?_ ?_ w
  · intro l c n h
    exact ⟨3, n, [], [], rfl, fun h => by omega, fun _ h => by omega⟩
  · intro l c n h
    exact ⟨4, n, [], [], rfl, fun h => by omega, fun _ h => by omega⟩
  · intro l c x
    exact ⟨5, 0, x, [], rfl, fun h => by omega, fun _ h => by omega⟩
  · intro l c n h
    rcases h with rfl | rfl
    · exact ⟨6, 0, wFalse, [], rfl, fun _ => by decide, fun _ _ => by decide⟩
    · exact ⟨6, 0, wTrue, [], rfl, fun _ => by decide, fun _ _ => by decide⟩
  · intro l c
    exact ⟨6, 0, wNil, [], rfl, fun _ => by decide, fun _ _ => by decide⟩
  · intro l c x h
    exact ⟨1, 0, x, [], by rw [to.eq_def]; simp, fun h => by omega, fun _ h => by omega⟩
  · intro l c x h ks _ _
    exact ⟨1, 0, x, _, to_call .., fun h => by omega, fun _ h => by omega⟩
  · intro l c a b _ _ ia _
    rw [to_index]
    obtain ⟨k, n, x, S', e, h1, h2⟩ := brk' (m := 8) (S := sT [91] :: (to b ++ [sT [93]])) (by omega) ia
    exact ⟨k, n, x, S', e, h1, fun _ => h2 (by omega) (lv8 a)⟩
  · intro l c x _ a _ ia
    rw [to_dot]
    obtain ⟨k, n, y, S', e, h1, h2⟩ := brk' (m := 8) (S := [sT [46], (1, 0, x)]) (by omega) ia
    exact ⟨k, n, y, S', e, h1, fun _ => h2 (by omega) (lv8 a)⟩
  · intro l c n h a _ _
    rw [to_un]
    refine ⟨7, 0, [if n = 12 then 45 else 33], _, rfl, fun _ => ?_, fun h => ?_⟩
    · rcases h with rfl | rfl <;> decide
    · have h7 : (Tr.nd 30 l c n [] [a]).lv = 7 := by simp [Tr.lv]
      omega
  · intro l c n h a b _ _ ia _
    rw [to_bin]
    obtain ⟨k, m, y, S', e, h1, _⟩ := brk' (m := lft (sgn n).2) (S := sT (sgn n).1 :: brT (decide (b.lv < (sgn n).2 + 1)) (to b)) (by have := lft_le n; omega) ia
    refine ⟨k, m, y, S', e, h1, fun h => ?_⟩
    have h7 : (Tr.nd 31 l c n [] [a, b]).lv = (sgn n).2 := by simp [Tr.lv]
    have := sgn_lv n
    omega
  · intro l c l' c' x _
    exact ⟨6, 0, wMake, _, to_make .., fun _ => by decide, fun _ _ => by decide⟩
  · intro l c l' c' t _ b _ _
    exact ⟨6, 0, wMake, _, to_make .., fun _ => by decide, fun _ _ => by decide⟩
  · trivial
  · intro t ts _ _ _ _; trivial
end Go.Proofs.YtllbpdllkkcajaaGreatDoor
namespace Go.Proofs.YtllbpdllkkcajaaGreatDoor
open Go.RowKit
/-- What is shown of a tree. -/
def Xp (t : Tr) : Prop := ∀ (L : List Tok) (a : Nat) (d : Int) (T : List T3), HasT L a (to t ++ T) → (dp t : Int) + d ≤ 40 →
  (t.lv = 8 → NoC T → PF L (to t) a d t.bare) ∧ (∀ lvl, 1 ≤ lvl → lvl ≤ 7 → lvl ≤ t.lv → Stp lvl T → DF L (to t) a d t.bare lvl) ∧
  (∀ lvl, (lvl = 1 ∨ lvl = 2 ∨ lvl = 5 ∨ lvl = 6) → lvl ≤ t.lv → Stp (lvl + 1) T → LF L (to t) a d t.bare lvl)
section
variable {L : List Tok} {S T : List T3} {a : Nat} {d : Int} {b : Tr} {lvl : Nat}
theorem PF.all (hT : HasT L (a + S.length) T) (h45 : pIs L [45] (gs a d) = false) (h33 : pIs L [33] (gs a d) = false) (h : NoC T → PF L S a d b) :
    (∀ lvl, 1 ≤ lvl → lvl ≤ 7 → Stp lvl T → DF L S a d b lvl) ∧ (∀ lvl, lvl ≤ 6 → Stp (lvl + 1) T → LF L S a d b lvl) := by
  have h7 : Stp 7 T → DF L S a d b 7 := fun hs => DF.seven hT hs h45 h33 (h hs.noc)
  have hd : ∀ lvl, lvl ≤ 7 → Stp lvl T → DF L S a d b lvl := fun lvl hl hs => DF.down hT (Nat.le_refl 7) h7 (7 - lvl) lvl (by omega) hs
  exact ⟨fun lvl _ hl hs => hd lvl hl hs, fun lvl hl hs => LF.of hl (hd (lvl + 1) (by omega) hs)⟩
theorem xp_brk {t : Tr} (hX : Xp t) (h : HasT L a (sT [40] :: (to t ++ (sT [41] :: T)))) (hl : 1 ≤ t.lv) (hd : (dp t : Int) + 1 + d ≤ 40) : PF L (brT true (to t)) a d t.bare := by
  have h1 := (h.hd (d := d)).2.2.2
  obtain ⟨t', hb, hE⟩ := (hX L (a + 1) (d + 1) _ h1 (by omega)).2.1 1 (by omega) (by omega) hl (stp_sign (by decide))
  have h2 := h1.app
  refine ⟨t', hb, fun r hr => ?_⟩
  have hA : Ev (fun n => pAtom L n (gs a d)) (t', gs (a + 1 + (to t).length + 1) d) := by
    refine Ev.succ (g := fun n => (pBin L n 1 (pOpen L [40] (gs a d))).map fun r => (r.1, pShut L [41] r.2)) ?_ fun n => atom_par h
    rw [h.opens (by omega)]
    have := hE.map (g := fun r => (r.1, pShut L [41] r.2))
    simp only [h2.shut] at this
    exact this
  rw [show a + (brT true (to t)).length = a + 1 + (to t).length + 1 by simp [brT]; omega] at hr
  exact hA.bind hr
/-- A side, in brackets where it must be. -/
theorem xp_opd {t : Tr} (_w : WfE t) (hX : Xp t) {m : Nat} (h : HasT L a (brT (decide (t.lv < m)) (to t) ++ T)) (hl : 1 ≤ t.lv) (hd : (brd (decide (t.lv < m)) (dp t) : Int) + d ≤ 40) :
    (m = 8 → NoC T → PF L (brT (decide (t.lv < m)) (to t)) a d t.bare) ∧ (1 ≤ m → m ≤ 7 → Stp m T → DF L (brT (decide (t.lv < m)) (to t)) a d t.bare m) ∧ ((m = 1 ∨ m = 2 ∨ m = 5 ∨ m = 6) → Stp (m + 1) T → LF L (brT (decide (t.lv < m)) (to t)) a d t.bare m) := by
  by_cases hm : t.lv < m
  · rw [decide_eq_true hm] at h hd ⊢
    have h' : HasT L a (sT [40] :: (to t ++ (sT [41] :: T))) := by simpa [brT] using h
    have hP := xp_brk (d := d) hX h' hl (by rw [show brd true (dp t) = dp t + 1 from rfl] at hd; omega)
    have hA := PF.all (T := T) h.app (by rw [h'.is]; decide) (by rw [h'.is]; decide) (fun _ => hP)
    exact ⟨fun _ _ => hP, fun h1 h2 h3 => hA.1 m h1 h2 h3, fun h1 h2 => hA.2 m (by omega) h2⟩
  · rw [decide_eq_false hm] at h hd ⊢
    have h' : HasT L a (to t ++ T) := h
    obtain ⟨x1, x2, x3⟩ := hX L a d T h' hd
    have := lv8 t
    exact ⟨fun h1 h2 => x1 (by omega) h2, fun h1 h2 h3 => x2 m h1 h2 (by omega) h3, fun h1 h2 => x3 m h1 (by omega) h2⟩
theorem xp_of8 {t : Tr} (w : WfE t) (h8 : t.lv = 8) (h : ∀ (L : List Tok) (a : Nat) (d : Int) (T : List T3), HasT L a (to t ++ T) → (dp t : Int) + d ≤ 40 → NoC T → PF L (to t) a d t.bare) : Xp t := by
  intro L a d T hT hd
  obtain ⟨k, n, x, S, e, h1, h2⟩ := to_hd w
  have hT' : HasT L a ((k, n, x) :: (S ++ T)) := by rw [e] at hT; exact hT
  have no : ∀ s : List UInt8, (s = [45] ∨ s = [33]) → pIs L s (gs a d) = false := by
    intro s hs
    rw [hT'.is, Bool.and_eq_false_iff]
    by_cases hk : k = 6 ∨ k = 7
    · right
      have := h2 h8 hk
      rw [beq_eq_false_iff_ne]
      rcases hs with rfl | rfl
      · exact this.1
      · exact this.2
    · left
      simp only [Bool.or_eq_false_iff, beq_eq_false_iff_ne]
      exact ⟨fun h => hk (.inl h), fun h => hk (.inr h)⟩
  have hA := PF.all hT.app (no _ (.inl rfl)) (no _ (.inr rfl)) (h L a d T hT hd)
  exact ⟨fun _ hn => h L a d T hT hd hn, fun lvl l1 l2 _ hs => hA.1 lvl l1 l2 hs, fun lvl hl _ hs => hA.2 lvl (by omega) hs⟩
/-- An atom of one token. -/
theorem pf_leaf {k n : Int} {x : List UInt8} {t' : Tr} (_h : HasT L a ((k, n, x) :: T)) (hb : t'.bare = b) (hA : ∀ n, pAtom L (n + 1) (gs a d) = some (t', gs (a + 1) d)) (hS : S.length = 1) : PF L S a d b := by
  refine ⟨t', hb, fun r hr => ?_⟩
  rw [hS] at hr
  have : Ev (fun n => pAtom L n (gs a d)) (t', gs (a + 1) d) := .of 1 fun m hm => by
    obtain ⟨j, rfl⟩ : ∃ j, m = j + 1 := ⟨m - 1, by omega⟩
    exact hA j
  exact this.bind hr
end
/-- Expressions with commas between, behind a bracket. -/
def Ys (ts : List Tr) : Prop := ∀ (L : List Tok) (a : Nat) (d : Int) (T : List T3), (dps ts : Int) + d ≤ 40 →
  (HasT L a (tos ts ++ (sT [41] :: T)) → ∃ ts' : List Tr, bares ts' = bares ts ∧ ∀ acc, Ev (fun n => pArgs L n false acc (gs a d)) (acc ++ ts', gs (a + (tos ts).length) d)) ∧
  (HasT L a (tor ts ++ (sT [41] :: T)) → ∃ ts' : List Tr, bares ts' = bares ts ∧ Ev (fun n => pArgs L n true [] (gs a d)) (ts', gs (a + (tor ts).length) d))
theorem ys_nil : Ys [] := by
  intro L a d T _
  have stop : ∀ (h : HasT L a (sT [41] :: T)) (f : Bool) (acc : List Tr), Ev (fun n => pArgs L n f acc (gs a d)) (acc, gs a d) := fun h f acc => .of 1 fun n hn => by
    obtain ⟨m, rfl⟩ : ∃ m, n = m + 1 := ⟨n - 1, by omega⟩
    simp only [pArgs]
    rw [gs_bad, h.yes, if_pos (by decide)]
  exact ⟨fun h => ⟨[], rfl, fun acc => by simpa [tos] using stop h false acc⟩, fun h => ⟨[], rfl, by simpa [tor] using stop h true []⟩⟩
theorem stp_tail (ts : List Tr) (T : List T3) : Stp 1 (tos ts ++ (sT [41] :: T)) := by
  cases ts with
  | nil => exact stp_sign (by decide)
  | cons t ts => exact stp_sign (by decide)
theorem lv_pos {t : Tr} : 1 ≤ t.lv := by
  cases t with
  | nd k l c n x ks =>
    have := sgn_lv n
    simp only [Tr.lv]
    split
    · omega
    · split <;> omega
theorem ys_cons {t : Tr} {ts : List Tr} (w : WfE t) (hX : Xp t) (hY : Ys ts) : Ys (t :: ts) := by
  intro L a d T hd
  have hdt : (dp t : Int) + d ≤ 40 := by have : dps (t :: ts) = max (dp t) (dps ts) := by simp [dps]
                                         omega
  have hds : (dps ts : Int) + d ≤ 40 := by have : dps (t :: ts) = max (dp t) (dps ts) := by simp [dps]
                                           omega
  -- one, and those behind it
  have one : ∀ (a : Nat), HasT L a (to t ++ (tos ts ++ (sT [41] :: T))) → ∃ t' : Tr, ∃ ts' : List Tr, t'.bare = t.bare ∧ bares ts' = bares ts ∧ ∀ acc, Ev (fun n => (pBin L n 1 (gs a d)).bind fun r => pArgs L n false (acc ++ [r.1]) r.2) (acc ++ t' :: ts', gs (a + (to t).length + (tos ts).length) d) := by
    intro a h
    obtain ⟨t', hb, hE⟩ := (hX L a d _ h hdt).2.1 1 (by omega) (by omega) lv_pos (stp_tail ts T)
    obtain ⟨ts', hbs, hEs⟩ := (hY L (a + (to t).length) d T hds).1 h.app
    refine ⟨t', ts', hb, hbs, fun acc => ?_⟩
    have := hE.bind (g := fun n r => pArgs L n false (acc ++ [r.1]) r.2) (hEs (acc ++ [t']))
    simpa using this
  refine ⟨fun h => ?_, fun h => ?_⟩
  · have e1 : tos (t :: ts) = sT [44] :: (to t ++ tos ts) := by simp [tos]
    rw [e1] at h ⊢
    have h' : HasT L a (sT [44] :: (to t ++ (tos ts ++ (sT [41] :: T)))) := by simpa using h
    have h1 := (h'.hd (d := d)).2.2.2
    obtain ⟨t', ts', hb, hbs, hE⟩ := one (a + 1) h1
    refine ⟨t' :: ts', by simp [bares, hb, hbs], fun acc => ?_⟩
    refine Ev.succ (g := fun n => (pBin L n 1 (gs (a + 1) d)).bind fun r => pArgs L n false (acc ++ [r.1]) r.2) ?_ fun n => ?_
    · rw [show a + (sT [44] :: (to t ++ tos ts)).length = a + 1 + (to t).length + (tos ts).length by simp; omega]
      exact hE acc
    · rw [pArgs, gs_bad, h'.is [41], if_neg (by decide), if_neg (by decide), h'.must]
  · have e1 : tor (t :: ts) = to t ++ tos ts := by simp [tor]
    rw [e1] at h ⊢
    have h' : HasT L a (to t ++ (tos ts ++ (sT [41] :: T))) := by simpa using h
    obtain ⟨t', ts', hb, hbs, hE⟩ := one a h'
    obtain ⟨k, n, x, S, e, g1, _⟩ := to_hd w
    have hk : HasT L a ((k, n, x) :: (S ++ (tos ts ++ (sT [41] :: T)))) := by rw [e] at h'; exact h'
    have h41 : pIs L [41] (gs a d) = false := by
      rw [hk.is, Bool.and_eq_false_iff]
      by_cases hk : k = 6 ∨ k = 7
      · right; rw [beq_eq_false_iff_ne]; exact g1 hk
      · left
        simp only [Bool.or_eq_false_iff, beq_eq_false_iff_ne]
        exact ⟨fun h => hk (.inl h), fun h => hk (.inr h)⟩
    refine ⟨t' :: ts', by simp [bares, hb, hbs], ?_⟩
    refine Ev.succ (g := fun n => (pBin L n 1 (gs a d)).bind fun r => pArgs L n false ([] ++ [r.1]) r.2) ?_ fun n => ?_
    · rw [show a + (to t ++ tos ts).length = a + (to t).length + (tos ts).length by simp; omega]
      exact hE []
    · rw [pArgs, gs_bad, h41, if_neg (by decide), if_pos rfl]
theorem op_tab : ∀ n : Int, ((1 ≤ n ∧ n ≤ 11) ∨ n = 14 ∨ n = 15) → opTab (sgn n).1 = (n, (sgn n).2) ∧ (sgn n).1 ≠ [91] ∧ (sgn n).1 ≠ [46] ∧ (sgn n).1 ≠ [40] := by
  intro n h
  rcases (by omega : n = 1 ∨ n = 2 ∨ n = 3 ∨ n = 4 ∨ n = 5 ∨ n = 6 ∨ n = 7 ∨ n = 8 ∨ n = 9 ∨ n = 10 ∨ n = 11 ∨ n = 14 ∨ n = 15) with h | h | h | h | h | h | h | h | h | h | h | h | h <;> subst h <;> decide
end Go.Proofs.YtllbpdllkkcajaaGreatDoor
namespace Go.Proofs.YtllbpdllkkcajaaGreatDoor
open Go.RowKit
section
variable (l c n : Int) (x : List UInt8)
theorem dp_call (ks : List Tr) : dp (.nd 27 l c n x ks) = dps ks + 1 := by rw [dp.eq_def]; simp
theorem dp_index (a b : Tr) : dp (.nd 28 l c n x [a, b]) = max (brd (decide (a.lv < 8)) (dp a)) (dp b + 1) := by rw [dp.eq_def]; simp
theorem dp_dot (a : Tr) : dp (.nd 29 l c n x [a]) = brd (decide (a.lv < 8)) (dp a) := by rw [dp.eq_def]; simp
theorem dp_un (a : Tr) : dp (.nd 30 l c n x [a]) = brd (decide (a.lv < 7)) (dp a) + 1 := by rw [dp.eq_def]; simp
theorem dp_bin (a b : Tr) : dp (.nd 31 l c n x [a, b]) = max (brd (decide (a.lv < lft (sgn n).2)) (dp a)) (brd (decide (b.lv < (sgn n).2 + 1)) (dp b)) := by rw [dp.eq_def]; simp
theorem dp_make (a : Tr) (bs : List Tr) : dp (.nd 32 l c n x (a :: bs)) = max (kdp a) (dps bs + 1) := by rw [dp.eq_def]; simp
end
theorem bare_nd (k : Int) (t : Tok) (n : Int) (x : List UInt8) (ks : List Tr) : (nd k t n x ks).bare = .nd k 0 0 n x (bares ks) := rfl
set_option maxHeartbeats 1000000 in
theorem xp_all {t : Tr} (w : WfE t) : Xp t := by
  refine WfE.rec (motive_1 := fun t _ => Xp t) (motive_2 := fun ts _ => Ys ts) ?_ ?_ ?_ ?_ ?_ ?_ ?_ ?_ ?_ ?_ ?_ ?_ ?_ ?_ ?_ w
  · intro l c n hn
    refine xp_of8 (.int l c n hn) rfl fun L a d T h _ _ => ?_
    have h' : HasT L a ((3, n, []) :: T) := h
    obtain ⟨h1, h2, h3, _⟩ := h'.hd (d := d)
    refine pf_leaf (t' := nd 21 (tk L (gs a d)) (tk L (gs a d)).n [] []) h' (by rw [bare_nd, h2]; rfl) (fun n => ?_) rfl
    rw [pAtom, gs_bad, if_neg (by decide), h1, if_pos rfl, h'.pass (by decide)]
  · intro l c n hn
    refine xp_of8 (.comp l c n hn) rfl fun L a d T h _ _ => ?_
    have h' : HasT L a ((4, n, []) :: T) := h
    obtain ⟨h1, h2, h3, _⟩ := h'.hd (d := d)
    refine pf_leaf (t' := nd 22 (tk L (gs a d)) (tk L (gs a d)).n [] []) h' (by rw [bare_nd, h2]; rfl) (fun n => ?_) rfl
    rw [pAtom, gs_bad, if_neg (by decide), h1, if_neg (by decide), if_pos rfl, h'.pass (by decide)]
  · intro l c x
    refine xp_of8 (.str l c x) rfl fun L a d T h _ _ => ?_
    have h' : HasT L a ((5, 0, x) :: T) := h
    obtain ⟨h1, h2, h3, _⟩ := h'.hd (d := d)
    refine pf_leaf (t' := nd 23 (tk L (gs a d)) 0 (tk L (gs a d)).x []) h' (by rw [bare_nd, h3]; rfl) (fun n => ?_) rfl
    rw [pAtom, gs_bad, if_neg (by decide), h1, if_neg (by decide), if_neg (by decide), if_pos rfl, h'.pass (by decide)]
  · intro l c n hn
    refine xp_of8 (.bool l c n hn) rfl fun L a d T h _ _ => ?_
    rcases hn with rfl | rfl
    · have h' : HasT L a ((6, 0, wFalse) :: T) := h
      obtain ⟨h1, h2, h3, _⟩ := h'.hd (d := d)
      refine pf_leaf (t' := nd 24 (tk L (gs a d)) 0 [] []) h' rfl (fun n => ?_) rfl
      rw [pAtom, gs_bad, if_neg (by decide), h1, if_neg (by decide), if_neg (by decide), if_neg (by decide), h'.is wTrue, if_neg (by decide), h'.word, if_pos rfl, h'.pass (by decide)]
    · have h' : HasT L a ((6, 0, wTrue) :: T) := h
      obtain ⟨h1, h2, h3, _⟩ := h'.hd (d := d)
      refine pf_leaf (t' := nd 24 (tk L (gs a d)) 1 [] []) h' rfl (fun n => ?_) rfl
      rw [pAtom, gs_bad, if_neg (by decide), h1, if_neg (by decide), if_neg (by decide), if_neg (by decide), h'.word, if_pos rfl, h'.pass (by decide)]
  · intro l c
    refine xp_of8 (.nil l c) rfl fun L a d T h _ _ => ?_
    have h' : HasT L a ((6, 0, wNil) :: T) := h
    obtain ⟨h1, h2, h3, _⟩ := h'.hd (d := d)
    refine pf_leaf (t' := nd 25 (tk L (gs a d)) 0 [] []) h' rfl (fun n => ?_) rfl
    rw [pAtom, gs_bad, if_neg (by decide), h1, if_neg (by decide), if_neg (by decide), if_neg (by decide), h'.is wTrue, if_neg (by decide), h'.is wFalse, if_neg (by decide), h'.word, if_pos rfl, h'.pass (by decide)]
  · intro l c x hx
    refine xp_of8 (.name l c x hx) rfl fun L a d T h _ hn => ?_
    have e1 : to (.nd 26 l c 0 x []) = [(1, 0, x)] := by rw [to.eq_def]; simp
    rw [e1] at h ⊢
    have h' : HasT L a ((1, 0, x) :: T) := h
    obtain ⟨h1, h2, h3, h4⟩ := h'.hd (d := d)
    refine pf_leaf (t' := nd 26 (tk L (gs a d)) 0 (tk L (gs a d)).x []) h' (by rw [bare_nd, h3]; rfl) (fun n => ?_) rfl
    have hc : pIs L [40] (gs (a + 1) d) = false := by
      obtain ⟨k, m, y, T', rfl, hk⟩ := hn
      rw [h4.is]
      rcases hk with rfl | ⟨rfl, hy⟩
      · rfl
      · simp [hy]
    rw [pAtom, gs_bad, if_neg (by decide), h1, if_neg (by decide), if_neg (by decide), if_neg (by decide), h'.is wTrue, if_neg (by simp), h'.is wFalse, if_neg (by simp), h'.is wNil, if_neg (by simp), if_pos rfl, h'.pass (by decide), hc, if_neg (by decide)]
  · intro l c x hx ks wk hY
    refine xp_of8 (.call l c x hx ks wk) rfl fun L a d T h hd _ => ?_
    rw [dp_call] at hd
    rw [to_call] at h ⊢
    have h' : HasT L a ((1, 0, x) :: sT [40] :: (tor ks ++ (sT [41] :: T))) := by simpa using h
    obtain ⟨h1, h2, h3, h4⟩ := h'.hd (d := d)
    have h5 := (h4.hd (d := d)).2.2.2
    obtain ⟨ks', hb, hE⟩ := (hY L (a + 1 + 1) (d + 1) T (by omega)).2 h5
    have h6 := h5.app
    refine ⟨nd 27 (tk L (gs a d)) 0 (tk L (gs a d)).x ks', by rw [bare_nd, h3, hb]; rfl, fun r hr => ?_⟩
    have hA : Ev (fun n => pAtom L n (gs a d)) (nd 27 (tk L (gs a d)) 0 (tk L (gs a d)).x ks', gs (a + 1 + 1 + (tor ks).length + 1) d) := by
      refine Ev.succ (g := fun n => (pArgs L n true [] (gs (a + 1 + 1) (d + 1))).map fun r => (nd 27 (tk L (gs a d)) 0 (tk L (gs a d)).x r.1, pShut L [41] r.2)) ?_ fun n => ?_
      · have := hE.map (g := fun r => (nd 27 (tk L (gs a d)) 0 (tk L (gs a d)).x r.1, pShut L [41] r.2))
        simp only [h6.shut] at this
        exact this
      · rw [pAtom, gs_bad, if_neg (by decide), h1, if_neg (by decide), if_neg (by decide), if_neg (by decide), h'.is wTrue, if_neg (by simp), h'.is wFalse, if_neg (by simp), h'.is wNil, if_neg (by simp), if_pos rfl, h'.pass (by decide), h4.yes, if_pos rfl, h4.opens (by omega)]
    rw [show a + ((1, 0, x) :: sT [40] :: (tor ks ++ [sT [41]])).length = a + 1 + 1 + (tor ks).length + 1 by simp; omega] at hr
    exact hA.bind hr
  · intro l c x y wx wy hx hy
    refine xp_of8 (.index l c x y wx wy) rfl fun L a d T h hd _ => ?_
    rw [dp_index] at hd
    rw [to_index] at h ⊢
    generalize hS : brT (decide (x.lv < 8)) (to x) = S at *
    have h' : HasT L a (S ++ (sT [91] :: (to y ++ (sT [93] :: T)))) := by simpa using h
    have ho := xp_opd (d := d) wx hx (m := 8) (by rw [hS]; exact h') lv_pos (by omega)
    rw [hS] at ho
    obtain ⟨x', hbx, hE⟩ := ho.1 rfl ⟨7, 0, [91], _, rfl, .inr ⟨rfl, by decide⟩⟩
    have h1 := h'.app
    have h2 := (h1.hd (d := d)).2.2.2
    obtain ⟨y', hby, hEy⟩ := (hy L _ (d + 1) _ h2 (by omega)).2.1 1 (by omega) (by omega) lv_pos (stp_sign (by decide))
    have h3 := h2.app
    refine ⟨nd 28 (tk L (gs (a + S.length) d)) 0 [] [x', y'], by rw [bare_nd]; simp [bares, hbx, hby, Tr.bare], fun r hr => hE r ?_⟩
    rw [show a + (S ++ (sT [91] :: (to y ++ [sT [93]]))).length = a + S.length + 1 + (to y).length + 1 by simp; omega] at hr
    refine Ev.succ (g := fun n => (pBin L n 1 (gs (a + S.length + 1) (d + 1))).bind fun r => pPost L n (nd 28 (tk L (gs (a + S.length) d)) 0 [] [x', r.1]) (pShut L [93] r.2)) ?_ fun n => ?_
    · refine hEy.bind ?_
      simp only [h3.shut]
      exact hr
    · rw [pPost, h1.yes, if_pos rfl, h1.opens (by omega)]
  · intro l c y hy x wx hx
    refine xp_of8 (.dot l c y hy x wx) rfl fun L a d T h hd _ => ?_
    rw [dp_dot] at hd
    rw [to_dot] at h ⊢
    generalize hS : brT (decide (x.lv < 8)) (to x) = S at *
    have h' : HasT L a (S ++ (sT [46] :: (1, 0, y) :: T)) := by simpa using h
    have ho := xp_opd (d := d) wx hx (m := 8) (by rw [hS]; exact h') lv_pos hd
    rw [hS] at ho
    obtain ⟨x', hbx, hE⟩ := ho.1 rfl ⟨7, 0, [46], _, rfl, .inr ⟨rfl, by decide⟩⟩
    have h1 := h'.app
    have h2 := (h1.hd (d := d)).2.2.2
    obtain ⟨_, _, g3, _⟩ := h2.hd (d := d)
    refine ⟨nd 29 (tk L (gs (a + S.length) d)) 0 (tk L (gs (a + S.length + 1) d)).x [x'], by rw [bare_nd, g3]; simp [bares, hbx, Tr.bare], fun r hr => hE r ?_⟩
    rw [show a + (S ++ [sT [46], (1, 0, y)]).length = a + S.length + 1 + 1 by simp; omega] at hr
    refine Ev.succ (g := fun n => pPost L n (nd 29 (tk L (gs (a + S.length) d)) 0 (tk L (gs (a + S.length + 1) d)).x [x']) (gs (a + S.length + 1 + 1) d)) hr fun n => ?_
    rw [pPost, h1.is [91], if_neg (by decide), h1.yes, if_pos rfl, h1.pass (by decide), h2.wd (by decide)]
  · intro l c n hn x wx hx
    intro L a d T h hd
    have hlv : (Tr.nd 30 l c n [] [x]).lv = 7 := by simp [Tr.lv]
    rw [dp_un] at hd
    rw [to_un] at h ⊢
    generalize hS : brT (decide (x.lv < 7)) (to x) = S at *
    generalize hg : (if n = 12 then (45 : UInt8) else 33) = g at *
    have h' : HasT L a (sT [g] :: (S ++ T)) := h
    have h1 := (h'.hd (d := d)).2.2.2
    have h7 : Stp 7 T → DF L (sT [g] :: S) a d (Tr.nd 30 l c n [] [x]).bare 7 := by
      intro hs
      have ho := xp_opd wx hx (m := 7) (d := d + 1) (by rw [hS]; exact h1) lv_pos (by omega)
      rw [hS] at ho
      obtain ⟨x', hbx, hE⟩ := ho.2.1 (by omega) (by omega) hs
      have hE := ev_un hE
      refine ⟨nd 30 (tk L (gs a d)) n [] [x'], by rw [bare_nd]; simp [bares, hbx, Tr.bare], ?_⟩
      have hx3 := (h'.hd (d := d)).2.2.1
      have hU : Ev (fun n => pUn L n (gs a d)) (nd 30 (tk L (gs a d)) n [] [x'], gs (a + (sT [g] :: S).length) d) := by
        refine Ev.succ (g := fun m => (pUn L m (gs (a + 1) (d + 1))).map fun r => (nd 30 (tk L (gs a d)) n [] [r.1], { r.2 with d := r.2.d - 1 })) ?_ fun m => ?_
        · have := hE.map (g := fun r => (nd 30 (tk L (gs a d)) n [] [r.1], { r.2 with d := r.2.d - 1 }))
          rw [show a + (sT [g] :: S).length = a + 1 + S.length by simp; omega]
          have e : ({ gs (a + 1 + S.length) (d + 1) with d := (gs (a + 1 + S.length) (d + 1)).d - 1 } : PS) = gs (a + 1 + S.length) d := by
            show gs (a + 1 + S.length) (d + 1 - 1) = _
            rw [Int.add_sub_cancel]
          simp only [e] at this
          exact this
        · rcases hn with rfl | rfl
          · rw [if_pos rfl] at hg
            subst hg
            rw [pUn, h'.yes, if_pos rfl, hx3, h'.opens (by omega)]
          · rw [if_neg (by decide)] at hg
            subst hg
            rw [pUn, h'.is [45], if_neg (by decide), h'.yes, if_pos rfl, hx3, h'.opens (by omega)]
      exact Ev.succ hU fun n => by rw [pBin, if_pos (by decide)]
    have hTa : HasT L (a + (sT [g] :: S).length) T := by
      rw [show a + (sT [g] :: S).length = a + 1 + S.length by simp; omega]
      exact h1.app
    have hdn : ∀ lvl, lvl ≤ 7 → Stp lvl T → DF L (sT [g] :: S) a d (Tr.nd 30 l c n [] [x]).bare lvl := fun lvl hl hs => DF.down hTa (Nat.le_refl 7) h7 (7 - lvl) lvl (by omega) hs
    exact ⟨fun h8 => by omega, fun lvl _ h2 _ hs => hdn lvl h2 hs, fun lvl hl h2 hs => LF.of (by omega) (hdn (lvl + 1) (by omega) hs)⟩
  · intro l c n hn x y wx wy hx hy
    intro L a d T h hd
    have hlv : (Tr.nd 31 l c n [] [x, y]).lv = (sgn n).2 := by simp [Tr.lv]
    obtain ⟨o1, o2, o3, o4⟩ := op_tab n hn
    have hsl := sgn_lv n
    rw [dp_bin] at hd
    rw [to_bin] at h ⊢
    generalize hm : (sgn n).2 = m at *
    generalize hg : (sgn n).1 = g at *
    have hn0 : n ≠ 0 := by omega
    have opd : ∀ {p : Nat}, HasT L p (sT g :: (brT (decide (y.lv < m + 1)) (to y) ++ T)) → pOp L m (gs p d) = n := by
      intro p hp
      obtain ⟨g1, _, g3, _⟩ := hp.hd (d := d)
      unfold pOp
      rw [gs_bad, g1, g3, o1, if_neg (by decide), if_pos rfl]
    have h' : HasT L a (brT (decide (x.lv < lft m)) (to x) ++ (sT g :: (brT (decide (y.lv < m + 1)) (to y) ++ T))) := by simpa using h
    have h1 := h'.app
    have h2 := (h1.hd (d := d)).2.2.2
    have ho := xp_opd (d := d) wx hx (m := lft m) h' lv_pos (by omega)
    have hyo := xp_opd (d := d) wy hy (m := m + 1) h2 lv_pos (by omega)
    generalize hS : brT (decide (x.lv < lft m)) (to x) = S at *
    generalize hS2 : brT (decide (y.lv < m + 1)) (to y) = S2 at *
    have hlen : a + (S ++ (sT g :: S2)).length = a + S.length + 1 + S2.length := by simp; omega
    have hTa : HasT L (a + (S ++ (sT g :: S2)).length) T := by rw [hlen]; exact h2.app
    have st1 : Stp (m + 1) (sT g :: (S2 ++ T)) := stp_sign ⟨o2, o3, o4, by rw [o1]; omega⟩
    by_cases h34 : m = 3 ∨ m = 4
    · have hlf : lft m = m + 1 := by unfold lft; rw [if_pos h34]
      rw [hlf] at ho
      have hM : Stp m T → DF L (S ++ (sT g :: S2)) a d (Tr.nd 31 l c n [] [x, y]).bare m := by
        intro hs
        obtain ⟨x', hbx, hEx⟩ := ho.2.1 (by omega) (by omega) st1
        obtain ⟨y', hby, hEy⟩ := hyo.2.1 (by omega) (by omega) (hs.mono (by omega))
        refine ⟨nd 31 (tk L (gs (a + S.length) d)) n [] [x', y'], by rw [bare_nd]; simp [bares, hbx, hby, Tr.bare], ?_⟩
        refine Ev.succ (g := fun k => (pBin L k (m + 1) (gs a d)).bind fun r => pBinL L k m r.1 r.2) (hEx.bind ?_) fun k => by rw [pBin, if_neg (by omega)]
        refine Ev.succ (g := fun k => (pBin L k (m + 1) (gs (a + S.length + 1) d)).bind fun r => some (nd 31 (tk L (gs (a + S.length) d)) n [] [x', r.1], r.2)) ?_ fun k => ?_
        · rw [hlen]
          exact hEy.bind (.const _)
        · simp only [pBinL, opd h1, if_neg hn0, h1.pass (by decide), if_pos h34]
      have hdn : ∀ lvl, lvl ≤ m → Stp lvl T → DF L (S ++ (sT g :: S2)) a d (Tr.nd 31 l c n [] [x, y]).bare lvl := fun lvl hl hs => DF.down hTa (by omega) hM (m - lvl) lvl (by omega) hs
      refine ⟨fun h8 => by omega, fun lvl _ _ h3 hs => hdn lvl (by omega) hs, fun lvl hl h3 hs => ?_⟩
      exact LF.of (by omega) (hdn (lvl + 1) (by omega) hs)
    · have hlf : lft m = m := by unfold lft; rw [if_neg h34]
      rw [hlf] at ho
      have hM : Stp (m + 1) T → LF L (S ++ (sT g :: S2)) a d (Tr.nd 31 l c n [] [x, y]).bare m := by
        intro hs
        obtain ⟨x', hbx, hEx⟩ := ho.2.2 (by omega) st1
        obtain ⟨y', hby, hEy⟩ := hyo.2.1 (by omega) (by omega) hs
        refine ⟨nd 31 (tk L (gs (a + S.length) d)) n [] [x', y'], by rw [bare_nd]; simp [bares, hbx, hby, Tr.bare], fun r hr => hEx r ?_⟩
        rw [hlen] at hr
        refine Ev.succ (g := fun k => (pBin L k (m + 1) (gs (a + S.length + 1) d)).bind fun r => pBinL L k m (nd 31 (tk L (gs (a + S.length) d)) n [] [x', r.1]) r.2) ?_ fun k => ?_
        · exact hEy.bind hr
        · simp only [pBinL, opd h1, if_neg hn0, h1.pass (by decide), if_neg h34]
      have hdn : ∀ lvl, lvl ≤ m → Stp lvl T → DF L (S ++ (sT g :: S2)) a d (Tr.nd 31 l c n [] [x, y]).bare lvl := fun lvl hl hs => DF.down hTa (by omega) (fun hs => DF.of hTa hs (hM (hs.mono (by omega)))) (m - lvl) lvl (by omega) hs
      refine ⟨fun h8 => by omega, fun lvl _ _ h3 hs => hdn lvl (by omega) hs, fun lvl hl h3 hs => ?_⟩
      by_cases e : lvl = m
      · subst e; exact hM hs
      · exact LF.of (by omega) (hdn (lvl + 1) (by omega) hs)
  · intro l c l' c' x hx
    refine xp_of8 (.make l c l' c' x hx) rfl fun L a d T h hd _ => ?_
    have e1 : to (.nd 32 l c 0 [] [.nd 19 l' c' 0 x []]) = [(6, 0, wMake), (2, 0, x), sT [40], sT [41]] := by rw [to_make]; simp [kto, tor]
    rw [dp_make] at hd
    rw [e1] at h ⊢
    have h' : HasT L a ((6, 0, wMake) :: (2, 0, x) :: sT [40] :: sT [41] :: T) := h
    have h1 := (h'.hd (d := d)).2.2.2
    obtain ⟨g1, _, g3, h2⟩ := h1.hd (d := d)
    have h3 := (h2.hd (d := d)).2.2.2
    have hk : HasT L (a + 1) (kto (.nd 19 l' c' 0 x []) ++ (sT [40] :: sT [41] :: T)) := h1
    obtain ⟨k', hbk, hE⟩ := ev_kind (.big l' c' x hx) hk (d := d) (by omega)
    have hph : pHead L (gs a d) = gs (a + 1) d := by
      unfold pHead
      rw [h'.pass (by decide), g1, if_neg (by simp)]
    have hkk : k'.k = 19 := by
      have := congrArg Tr.k hbk
      cases k' with
      | nd k l c n x ks => exact this
    refine ⟨nd 32 (tk L (gs a d)) 0 [] [k'], by rw [bare_nd]; simp [bares, hbk, Tr.bare], fun r hr => ?_⟩
    have hA : Ev (fun n => pAtom L n (gs a d)) (nd 32 (tk L (gs a d)) 0 [] [k'], gs (a + 1 + 1 + 1 + 1) d) := by
      refine Ev.succ ?_ fun n => atom_make h'
      rw [hph]
      refine hE.bind ?_
      have hl : (kto (.nd 19 l' c' 0 x [])).length = 1 := rfl
      have hd1 : d + 1 ≤ 40 := by have : dps [] = 0 := rfl; omega
      simp only [hkk, hl, h2.opens hd1, h3.shut]
      exact .const _
    exact hA.bind hr
  · intro l c l' c' t wt y wy hy
    refine xp_of8 (.makes l c l' c' t wt y wy) rfl fun L a d T h hd _ => ?_
    have wk := WfK.list l' c' t wt
    generalize hK : Tr.nd 20 l' c' 0 [] [t] = K at *
    have hKk : K.k = 20 := by rw [← hK]; rfl
    have hKt : ∃ S, kto K = sT [91] :: S := by rw [← hK]; exact ⟨_, by simp [kto]; rfl⟩
    have e1 : to (.nd 32 l c 0 [] [K, y]) = (6, 0, wMake) :: (kto K ++ (sT [40] :: (to y ++ [sT [41]]))) := by rw [to_make]; simp [tor, tos]
    rw [dp_make] at hd
    have hdy : dps [y] = dp y := by simp [dps]
    rw [hdy] at hd
    rw [e1] at h ⊢
    have h' : HasT L a ((6, 0, wMake) :: (kto K ++ (sT [40] :: (to y ++ (sT [41] :: T))))) := by simpa using h
    have h1 := (h'.hd (d := d)).2.2.2
    obtain ⟨k', hbk, hE⟩ := ev_kind wk h1 (d := d) (by omega)
    have h2 := h1.app
    have h3 := (h2.hd (d := d)).2.2.2
    obtain ⟨y', hby, hEy⟩ := (hy L _ (d + 1) _ h3 (by omega)).2.1 1 (by omega) (by omega) lv_pos (stp_sign (by decide))
    have h4 := h3.app
    have hph : pHead L (gs a d) = gs (a + 1) d := by
      obtain ⟨S, e⟩ := hKt
      rw [e] at h1
      have h1' : HasT L (a + 1) (sT [91] :: (S ++ (sT [40] :: (to y ++ (sT [41] :: T))))) := h1
      unfold pHead
      rw [h'.pass (by decide), h1'.yes, if_neg (by simp)]
    have hkk : k'.k = 20 := by
      have := congrArg Tr.k hbk
      rw [show K.bare.k = K.k by cases K; rfl, hKk] at this
      cases k' with
      | nd k l c n x ks => exact this
    refine ⟨nd 32 (tk L (gs a d)) 0 [] [k', y'], by rw [bare_nd]; simp [bares, hbk, hby, Tr.bare], fun r hr => ?_⟩
    have hA : Ev (fun n => pAtom L n (gs a d)) (nd 32 (tk L (gs a d)) 0 [] [k', y'], gs (a + 1 + (kto K).length + 1 + (to y).length + 1) d) := by
      refine Ev.succ ?_ fun n => atom_make h'
      rw [hph]
      refine hE.bind ?_
      simp only [hkk, if_true, h2.opens (show d + 1 ≤ 40 by omega)]
      have := hEy.map (g := fun r => (nd 32 (tk L (gs a d)) 0 [] [k', r.1], pShut L [41] r.2))
      simp only [h4.shut] at this
      exact this
    rw [show a + ((6, 0, wMake) :: (kto K ++ (sT [40] :: (to y ++ [sT [41]])))).length = a + 1 + (kto K).length + 1 + (to y).length + 1 by simp; omega] at hr
    exact hA.bind hr
  · exact ys_nil
  · intro t ts wt _ ht hs
    exact ys_cons wt ht hs
end Go.Proofs.YtllbpdllkkcajaaGreatDoor
namespace Go.Proofs.YtllbpdllkkcajaaGreatDoor
open Go.RowKit
section
variable {L : List Tok}
theorem kind_mono : ∀ {n m : Nat} {p : PS} {r : Tr × PS}, n ≤ m → pKind L n p = some r → pKind L m p = some r
  | 0, _, _, _, _, h => by cases h
  | n + 1, 0, _, _, hm, _ => by omega
  | n + 1, m + 1, p, r, hm, h => by
    rw [pKind] at h ⊢
    split at h
    · rename_i c; rw [if_pos c]; exact h
    rename_i c; rw [if_neg c]; clear c
    split at h
    · rename_i c; rw [if_pos c]; exact h
    rename_i c; rw [if_neg c]; clear c
    split at h
    · rename_i c; rw [if_pos c]; exact h
    rename_i c; rw [if_neg c]; clear c
    split at h
    · rename_i c; rw [if_pos c]; exact h
    rename_i c; rw [if_neg c]; clear c
    split at h
    · rename_i c; rw [if_pos c]; exact h
    rename_i c; rw [if_neg c]; clear c
    split at h
    · rename_i c; rw [if_pos c]; exact h
    rename_i c; rw [if_neg c]; clear c
    split at h
    · rename_i c
      rw [if_pos c]
      simp only [Option.map_eq_some_iff] at h ⊢
      obtain ⟨x, h1, h2⟩ := h
      exact ⟨x, kind_mono (by omega) h1, h2⟩
    · rename_i c; rw [if_neg c]; exact h
/-- All of it at more fuel. -/
def MonoE (L : List Tok) (n m : Nat) : Prop :=
  (∀ lvl p r, pBin L n lvl p = some r → pBin L m lvl p = some r) ∧ (∀ lvl x p r, pBinL L n lvl x p = some r → pBinL L m lvl x p = some r) ∧ (∀ p r, pUn L n p = some r → pUn L m p = some r) ∧
  (∀ x p r, pPost L n x p = some r → pPost L m x p = some r) ∧ (∀ p r, pAtom L n p = some r → pAtom L m p = some r) ∧ (∀ f acc p r, pArgs L n f acc p = some r → pArgs L m f acc p = some r)
theorem monoE : ∀ {n m : Nat}, n ≤ m → MonoE L n m
  | 0, _, _ => ⟨fun _ _ _ h => (by cases h), fun _ _ _ _ h => (by cases h), fun _ _ h => (by cases h), fun _ _ _ h => (by cases h), fun _ _ h => (by cases h), fun _ _ _ _ h => (by cases h)⟩
  | n + 1, 0, h => by omega
  | n + 1, m + 1, hm => by
    obtain ⟨i1, i2, i3, i4, i5, i6⟩ := monoE (n := n) (m := m) (by omega)
    refine ⟨fun lvl p r h => ?_, fun lvl x p r h => ?_, fun p r h => ?_, fun x p r h => ?_, fun p r h => ?_, fun f acc p r h => ?_⟩
    · rw [pBin] at h ⊢
      split at h
      · rename_i c; rw [if_pos c]; exact i3 _ _ h
      · rename_i c
        rw [if_neg c]
        simp only [Option.bind_eq_some_iff] at h ⊢
        obtain ⟨y, h1, h2⟩ := h
        exact ⟨y, i1 _ _ _ h1, i2 _ _ _ _ h2⟩
    · rw [pBinL] at h ⊢
      split at h
      · rename_i c; rw [if_pos c]; exact h
      · rename_i c
        rw [if_neg c]
        simp only [Option.bind_eq_some_iff] at h ⊢
        obtain ⟨y, h1, h2⟩ := h
        refine ⟨y, i1 _ _ _ h1, ?_⟩
        split at h2
        · rename_i c; rw [if_pos c]; exact h2
        · rename_i c; rw [if_neg c]; exact i2 _ _ _ _ h2
    · rw [pUn] at h ⊢
      split at h
      · rename_i c
        rw [if_pos c]
        simp only [Option.map_eq_some_iff] at h ⊢
        obtain ⟨y, h1, h2⟩ := h
        exact ⟨y, i3 _ _ h1, h2⟩
      · rename_i c
        rw [if_neg c]
        split at h
        · rename_i c
          rw [if_pos c]
          simp only [Option.map_eq_some_iff] at h ⊢
          obtain ⟨y, h1, h2⟩ := h
          exact ⟨y, i3 _ _ h1, h2⟩
        · rename_i c
          rw [if_neg c]
          simp only [Option.bind_eq_some_iff] at h ⊢
          obtain ⟨y, h1, h2⟩ := h
          exact ⟨y, i5 _ _ h1, i4 _ _ _ h2⟩
    · rw [pPost] at h ⊢
      split at h
      · rename_i c
        rw [if_pos c]
        simp only [Option.bind_eq_some_iff] at h ⊢
        obtain ⟨y, h1, h2⟩ := h
        exact ⟨y, i1 _ _ _ h1, i4 _ _ _ h2⟩
      · rename_i c
        rw [if_neg c]
        split at h
        · rename_i c; rw [if_pos c]; exact i4 _ _ _ h
        · rename_i c; rw [if_neg c]; exact h
    · rw [pAtom] at h ⊢
      by_cases c : p.bad = true
      · rw [if_pos c] at h ⊢; exact h
      rw [if_neg c] at h ⊢; clear c
      by_cases c : (tk L p).k = 3
      · rw [if_pos c] at h ⊢; exact h
      rw [if_neg c] at h ⊢; clear c
      by_cases c : (tk L p).k = 4
      · rw [if_pos c] at h ⊢; exact h
      rw [if_neg c] at h ⊢; clear c
      by_cases c : (tk L p).k = 5
      · rw [if_pos c] at h ⊢; exact h
      rw [if_neg c] at h ⊢; clear c
      by_cases c : pIs L wTrue p = true
      · rw [if_pos c] at h ⊢; exact h
      rw [if_neg c] at h ⊢; clear c
      by_cases c : pIs L wFalse p = true
      · rw [if_pos c] at h ⊢; exact h
      rw [if_neg c] at h ⊢; clear c
      by_cases c : pIs L wNil p = true
      · rw [if_pos c] at h ⊢; exact h
      rw [if_neg c] at h ⊢; clear c
      by_cases c : (tk L p).k = 1
      · rw [if_pos c] at h ⊢
        by_cases c2 : pIs L [40] (pPass L p) = true
        · rw [if_pos c2] at h ⊢
          simp only [Option.map_eq_some_iff] at h ⊢
          obtain ⟨y, h1, h2⟩ := h
          exact ⟨y, i6 _ _ _ _ h1, h2⟩
        · rw [if_neg c2] at h ⊢; exact h
      rw [if_neg c] at h ⊢; clear c
      by_cases c : pIs L [40] p = true
      · rw [if_pos c] at h ⊢
        simp only [Option.map_eq_some_iff] at h ⊢
        obtain ⟨y, h1, h2⟩ := h
        exact ⟨y, i1 _ _ _ h1, h2⟩
      rw [if_neg c] at h ⊢; clear c
      by_cases c : pIs L wMake p = true
      · rw [if_pos c] at h ⊢
        simp only [Option.bind_eq_some_iff] at h ⊢
        obtain ⟨y, h1, h2⟩ := h
        refine ⟨y, kind_mono (by omega) h1, ?_⟩
        split at h2
        · rename_i c
          rw [if_pos c]
          simp only [Option.map_eq_some_iff] at h2 ⊢
          obtain ⟨z, h3, h4⟩ := h2
          exact ⟨z, i1 _ _ _ h3, h4⟩
        · rename_i c; rw [if_neg c]; exact h2
      rw [if_neg c] at h ⊢; exact h
    · rw [pArgs] at h ⊢
      split at h
      · rename_i c; rw [if_pos c]; exact h
      · rename_i c
        rw [if_neg c]
        simp only [Option.bind_eq_some_iff] at h ⊢
        obtain ⟨y, h1, h2⟩ := h
        exact ⟨y, i1 _ _ _ h1, i6 _ _ _ _ h2⟩
end
/-- What is made of it from some fuel on, it is at any fuel that is enough. -/
theorem ev_eq {α : Type} {f : Nat → Option α} (hm : ∀ n m r, n ≤ m → f n = some r → f m = some r) {r s : α} {n : Nat} (h : Ev f r) (hn : f n = some s) : s = r := by
  obtain ⟨N, hN⟩ := h
  have h1 := hm n (max n N) s (Nat.le_max_left ..) hn
  rw [hN _ (Nat.le_max_right ..)] at h1
  cases h1; rfl
end Go.Proofs.YtllbpdllkkcajaaGreatDoor
namespace Go.Proofs.YtllbpdllkkcajaaGreatDoor
open Go.RowKit
/-- What a node weighs. -/
def wX (x : List UInt8) : Nat := 23 + 4 * x.length
mutual
def wN : Tr → Nat
  | .nd _ _ _ _ x ks => wX x + wS ks
def wS : List Tr → Nat
  | [] => 0
  | t :: ts => wN t + wS ts
end
theorem wN_nd (k : Int) (t : Tok) (n : Int) (x : List UInt8) (ks : List Tr) : wN (nd k t n x ks) = wX x + wS ks := rfl
theorem wS_cons (t : Tr) (ts : List Tr) : wS (t :: ts) = wN t + wS ts := rfl
theorem wS_nil : wS [] = 0 := rfl
theorem wS_app : ∀ a b : List Tr, wS (a ++ b) = wS a + wS b
  | [], b => by simp [wS]
  | t :: a, b => by rw [List.cons_append, wS_cons, wS_cons, wS_app a b]; omega
/-- What the tokens ahead of a place weigh. -/
def wT (L : List Tok) (a : Nat) : Nat := ((L.take a).map fun t => wX t.x).sum
section
variable {L : List Tok}
theorem wT_le (L : List Tok) {a b : Nat} (h : a ≤ b) : wT L a ≤ wT L b := by
  unfold wT
  have e : L.take b = L.take a ++ (L.take b).drop a := by
    conv => lhs; rw [← List.take_append_drop a (L.take b)]
    rw [List.take_take, Nat.min_eq_left h]
  rw [e, List.map_append, List.sum_append]
  omega
theorem wT_pass {p : PS} (h : (tk L p).k ≠ 8) : wT L (p.a + 1) = wT L p.a + wX (tk L p).x := by
  have hlt : p.a < L.length := by
    by_cases hc : p.a < L.length
    · exact hc
    · exfalso; apply h
      unfold tk
      rw [List.getD_eq_getElem?_getD, List.getElem?_eq_none (by omega)]; rfl
  have e : tk L p = L[p.a] := by
    unfold tk
    rw [List.getD_eq_getElem?_getD, List.getElem?_eq_getElem hlt]; rfl
  unfold wT
  rw [List.take_succ_eq_append_getElem hlt, List.map_append, List.sum_append, e]
  simp
theorem wX_ge (x : List UInt8) : 23 ≤ wX x := by unfold wX; omega
theorem wX_nil : wX [] = 23 := rfl
/-- What is known of tokens. -/
def TF (L : List Tok) : Prop := ∀ p : PS, ((tk L p).k = 1 → NameL (tk L p).x) ∧ ((tk L p).k = 2 → GreatL (tk L p).x) ∧ ((tk L p).k = 3 → 0 ≤ (tk L p).n ∧ (tk L p).n ≤ 9223372036854775807) ∧ ((tk L p).k = 4 → 0 ≤ (tk L p).n ∧ (tk L p).n ≤ 8388607)
theorem brd_mono (v : Nat) {m m' : Nat} (h : m ≤ m') (n : Nat) : brd (decide (v < m)) n ≤ brd (decide (v < m')) n := by
  unfold brd
  by_cases h1 : v < m
  · rw [decide_eq_true h1, decide_eq_true (Nat.lt_of_lt_of_le h1 h)]; exact Nat.le_refl _
  · rw [decide_eq_false h1]
    split
    · rename_i h; cases h
    · split <;> omega
theorem brd_same {v m : Nat} (h : m ≤ v) (n : Nat) : brd (decide (v < m)) n = n := by
  unfold brd
  rw [decide_eq_false (by omega)]; rfl
theorem brd_le (b : Bool) (n : Nat) : brd b n ≤ n + 1 := by unfold brd; split <;> omega
theorem opTab_ok {x : List UInt8} {lvl : Nat} (h1 : (opTab x).2 = lvl) (h0 : (opTab x).1 ≠ 0) : ((1 ≤ (opTab x).1 ∧ (opTab x).1 ≤ 11) ∨ (opTab x).1 = 14 ∨ (opTab x).1 = 15) ∧ (sgn (opTab x).1).2 = lvl := by
  unfold opTab at *
  by_cases c : x = [124, 124]
  · rw [if_pos c] at h1 h0 ⊢; subst h1; decide
  rw [if_neg c] at h1 h0 ⊢; clear c
  by_cases c : x = [38, 38]
  · rw [if_pos c] at h1 h0 ⊢; subst h1; decide
  rw [if_neg c] at h1 h0 ⊢; clear c
  by_cases c : x = [61, 61]
  · rw [if_pos c] at h1 h0 ⊢; subst h1; decide
  rw [if_neg c] at h1 h0 ⊢; clear c
  by_cases c : x = [33, 61]
  · rw [if_pos c] at h1 h0 ⊢; subst h1; decide
  rw [if_neg c] at h1 h0 ⊢; clear c
  by_cases c : x = [60]
  · rw [if_pos c] at h1 h0 ⊢; subst h1; decide
  rw [if_neg c] at h1 h0 ⊢; clear c
  by_cases c : x = [60, 61]
  · rw [if_pos c] at h1 h0 ⊢; subst h1; decide
  rw [if_neg c] at h1 h0 ⊢; clear c
  by_cases c : x = [62]
  · rw [if_pos c] at h1 h0 ⊢; subst h1; decide
  rw [if_neg c] at h1 h0 ⊢; clear c
  by_cases c : x = [62, 61]
  · rw [if_pos c] at h1 h0 ⊢; subst h1; decide
  rw [if_neg c] at h1 h0 ⊢; clear c
  by_cases c : x = [43]
  · rw [if_pos c] at h1 h0 ⊢; subst h1; decide
  rw [if_neg c] at h1 h0 ⊢; clear c
  by_cases c : x = [45]
  · rw [if_pos c] at h1 h0 ⊢; subst h1; decide
  rw [if_neg c] at h1 h0 ⊢; clear c
  by_cases c : x = [42]
  · rw [if_pos c] at h1 h0 ⊢; subst h1; decide
  rw [if_neg c] at h1 h0 ⊢; clear c
  by_cases c : x = [47]
  · rw [if_pos c] at h1 h0 ⊢; subst h1; decide
  rw [if_neg c] at h1 h0 ⊢; clear c
  by_cases c : x = [37]
  · rw [if_pos c] at h1 h0 ⊢; subst h1; decide
  rw [if_neg c] at h1 h0 ⊢; clear c
  exact absurd rfl h0
theorem pOp_ok {lvl : Nat} {p : PS} (h : pOp L lvl p ≠ 0) : ((1 ≤ pOp L lvl p ∧ pOp L lvl p ≤ 11) ∨ pOp L lvl p = 14 ∨ pOp L lvl p = 15) ∧ (sgn (pOp L lvl p)).2 = lvl ∧ (tk L p).k = 7 := by
  unfold pOp at *
  split at h
  · exact absurd rfl h
  rename_i c
  rw [if_neg c]
  have hk : (tk L p).k = 7 := by
    simp only [Bool.or_eq_true, Bool.not_eq_true', beq_eq_false_iff_ne, not_or, ne_eq, Decidable.not_not] at c
    exact c.2
  split at h
  · rename_i c2
    rw [if_pos c2]
    obtain ⟨h1, h2⟩ := opTab_ok c2 h
    exact ⟨h1, h2, hk⟩
  · exact absurd rfl h
/-- A type that was read. -/
theorem gd_kind (H : LW L) (F : TF L) : ∀ (n : Nat) (p : PS) {t : Tr} {q : PS}, pKind L n p = some (t, q) → q.bad = false → p.d ≤ 40 → WfK t ∧ (kdp t : Int) + p.d ≤ 40 ∧ wN t + wT L p.a ≤ wT L q.a ∧ (t.k = 20 ∨ kdp t = 0)
  | 0, _, _, _, h, _, _ => by cases h
  | n + 1, p, t, q, h, hq, hd => by
    rw [pKind] at h
    have leaf : ∀ {k : Int} {s : List UInt8}, 15 ≤ k ∧ k ≤ 18 → pIs L s p = true → WfK (nd k (tk L p) 0 [] []) ∧ (kdp (nd k (tk L p) 0 [] []) : Int) + p.d ≤ 40 ∧ wN (nd k (tk L p) 0 [] []) + wT L p.a ≤ wT L (pPass L p).a ∧ ((nd k (tk L p) 0 [] []).k = 20 ∨ kdp (nd k (tk L p) 0 [] []) = 0) := by
      intro k s hk c
      have h8 := (is_k c).2
      have e : kdp (nd k (tk L p) 0 [] []) = 0 := by simp [nd, kdp]
      refine ⟨.word k _ _ hk, by rw [e]; omega, ?_, .inr e⟩
      rw [wN_nd, good_pass h8, wT_pass h8, wX_nil, wS_nil]
      have := wX_ge (tk L p).x
      omega
    split at h
    · rename_i c; cases h; rw [c] at hq; cases hq
    split at h
    · cases h; exact leaf (by omega) (by assumption)
    split at h
    · cases h; exact leaf (by omega) (by assumption)
    split at h
    · cases h; exact leaf (by omega) (by assumption)
    split at h
    · cases h; exact leaf (by omega) (by assumption)
    split at h
    · rename_i c
      cases h
      have h8 : (tk L p).k ≠ 8 := by omega
      have e : kdp (nd 19 (tk L p) 0 (tk L p).x []) = 0 := by simp [nd, kdp]
      refine ⟨.big _ _ _ ((F p).2.1 c), by rw [e]; omega, ?_, .inr e⟩
      rw [wN_nd, good_pass h8, wT_pass h8, wS_nil]; omega
    split at h
    · rename_i c
      simp only [Option.map_eq_some_iff] at h
      obtain ⟨⟨x, r⟩, h1, h2⟩ := h
      cases h2
      obtain ⟨s1, _, s3⟩ := good_shut hq
      have hr := bad_back (adv_shut H [93] r) hq
      have Ak := adv_kind H n _ h1
      have ho := bad_back Ak hr
      obtain ⟨o1, o2, o3, o4⟩ := good_open ho
      have Ao := adv_open H [91] p
      obtain ⟨g1, g2, g3, _⟩ := gd_kind H F n _ h1 hr (by have := Ao.d; omega)
      have e : kdp (nd 20 (tk L p) 0 [] [x]) = kdp x + 1 := by simp [nd, kdp]
      refine ⟨.list _ _ _ g1, by rw [e]; have := Ao.d; omega, ?_, .inl rfl⟩
      have h8 := (is_k c).2
      rw [o4, wT_pass h8] at g3
      rw [wN_nd, wS_cons, wS_nil, wX_nil]
      have := wX_ge (tk L p).x
      have hw : wT L r.a ≤ wT L (pShut L [93] r).a := wT_le L (adv_shut H [93] r).a
      dsimp only at *; omega
    · cases h; exact (no_fail (by decide) hq).elim
end
end Go.Proofs.YtllbpdllkkcajaaGreatDoor
