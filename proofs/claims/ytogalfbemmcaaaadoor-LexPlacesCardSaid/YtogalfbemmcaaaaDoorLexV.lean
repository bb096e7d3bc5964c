/- Tokens, part V: literals, and tokens of whatever text. -/
import Derived.Test.YtogalfbemmcaaaaDoorLexU
import Derived.Test.YtogalfbemmcaaaaDoorLexQ
namespace Go.Proofs.YtogalfbemmcaaaaDoor
open Go.RowKit
attribute [local go_sem] says_tt says_ff th_need th_ite th_call th_load th_store th_mk th_new th_mks th_str says_ret says_again says_app BE.den IE.den SE.den LE.den AE.den CE.den PE.den VE.den KV.val Got.den Got.cnt exI allI exL allL Ctx.push Ctx.heap Ctx.cut Ctx.bare Ctx.mark Inc.blank List.getD_cons_zero List.getD_cons_succ List.cons_append List.nil_append List.append_nil List.map_cons List.map_nil List.replicate_zero List.replicate_succ specOf ltB_t leB_t ltB_f leB_f slc_val slc_nil slc_inj pt_val pt_nil hle_noHeap hle_refl hread_set hwrite_set set_same set_set noHeap_at B_inj ones_nil and_assoc
def ctEnd : Ct Tryd.prog where
  f := 36
  spec := fun args h φ => ∃ s, args = [.string (B s)] ∧ s.length ≤ 100000 ∧
    (match rdq s with
      | some (_, e) => φ (.tuple #[.int .i64 (e : Nat), .bool true]) h
      | none => ∀ n, φ (.tuple #[.int .i64 n, .bool false]) h)
  ok := by
    rintro args h φ w ⟨s, rfl, hlen, hφ⟩ hH
    refine by_fm Tryd.func36 gen_qend ps_qend [ctRead] φ noInv noMeas ⟨[], [], [s], [], [], [], h, noM⟩ ⟨rfl, rfl, rfl, rfl, rfl, rfl⟩ ones_nil ?_ w hH rfl
    generalize hE : (⟨specOf _, _, _, _⟩ : Env) = E
    have s1 : E.spec 48 = ctRead.spec := by rw [← hE]; rfl
    have ep : E.post = φ := by rw [← hE]
    clear hE
    unfold fm_qend
    rw [th_call, if_pos (by rfl), s1]
    refine ⟨s, rfl, hlen, ?_⟩
    cases hq : rdq s with
    | some r =>
      obtain ⟨t, e⟩ := r
      rw [hq] at hφ
      simp [go_sem]
      simp only [then_step]; simp [go_sem, ep]; exact hφ
    | none =>
      rw [hq] at hφ
      simp [go_sem]
      intro t n
      simp only [then_step]; simp [go_sem, ep]; exact hφ n
def ctUnquote : Ct Tryd.prog where
  f := 37
  spec := fun args h φ => ∃ s, args = [.string (B s)] ∧ s.length ≤ 100000 ∧ ∃ t, rdq s = some (t, s.length) ∧ φ (.tuple #[.string (B t), .int .i64 0]) h
  ok := by
    rintro args h φ w ⟨s, rfl, hlen, t, hq, hφ⟩ hH
    refine by_fm Tryd.func37 gen_qunq ps_qunq [ctRead] φ noInv noMeas ⟨[], [], [s], [], [], [], h, noM⟩ ⟨rfl, rfl, rfl, rfl, rfl, rfl⟩ ones_nil ?_ w hH rfl
    generalize hE : (⟨specOf _, _, _, _⟩ : Env) = E
    have s1 : E.spec 48 = ctRead.spec := by rw [← hE]; rfl
    have ep : E.post = φ := by rw [← hE]
    clear hE
    unfold fm_qunq
    rw [th_call, if_pos (by rfl), s1]
    refine ⟨s, rfl, hlen, ?_⟩
    rw [hq]
    simp [go_sem]
    iterate 2 (try simp only [then_step]; try simp [go_sem, ep])
    exact hφ
set_option maxHeartbeats 2000000 in
def ctLiteral : Ct Tryd.prog where
  f := 22
  spec := fun args h φ => ∃ b k l c n x s a L Co T, args = [.pointer (some ⟨b, 0, none⟩), tkv k l c n x] ∧ h b = some ⟨rc s (a : Nat) L Co, T⟩ ∧ a < s.length ∧ s.length ≤ 100000 ∧ 0 ≤ Co ∧ Co ≤ 500000 ∧
    (match rdq (s.drop a) with
      | some (t, m) => φ (.tuple #[tkv 5 l c n t, .int .i64 0]) (Hp.set h b ⟨rc s (a + m : Nat) L (Co + m), T⟩)
      | none => φ (.tuple #[tkv 0 0 0 0 [], .int .i64 4]) h)
  ok := by
    rintro args h φ w ⟨b, k, l, c, n, x, s, a, L, Co, T, rfl, hb, ha, hlen, c0, c1, hφ⟩ hH
    obtain ⟨h, rfl⟩ : ∃ h', h = Hp.set h' b ⟨rc s a L Co, T⟩ := ⟨h, set_self hb⟩
    simp only [set_set] at hφ
    refine by_fm Tryd.func22 gen_literal ps_literal [ctEnd, ctUnquote, ctPass] φ noInv noMeas ⟨[k, l, c, n], [], [x], [], [], [some (b, 0)], h.set b ⟨rc s a L Co, T⟩, noM⟩ ⟨rfl, rfl, rfl, rfl, rfl, rfl⟩ ones_nil ?_ w hH rfl
    generalize hE : (⟨specOf _, _, _, _⟩ : Env) = E
    have s1 : E.spec 36 = ctEnd.spec := by rw [← hE]; rfl
    have s2 : E.spec 37 = ctUnquote.spec := by rw [← hE]; rfl
    have s3 : E.spec 30 = ctPass.spec := by rw [← hE]; rfl
    have ep : E.post = φ := by rw [← hE]
    clear hE
    have haz : (a : Int) ≤ s.length := by omega
    have htl : List.take s.length s = s := List.take_length
    have hdl : (s.drop a).length = s.length - a := List.length_drop
    rw [← then_step]; unfold fm_literal
    iterate 9 (try simp only [then_step]; try simp [go_sem, rc, haz, htl])
    rw [s1]
    refine ⟨s.drop a, rfl, by omega, ?_⟩
    cases hq : rdq (s.drop a) with
    | none =>
      rw [hq] at hφ
      refine fun n => ⟨fun _ _ h => h, n, .inl ⟨rfl, ?_⟩⟩
      simp only [then_step]; simp [go_sem, ep]; exact hφ
    | some r =>
      obtain ⟨t, m⟩ := r
      rw [hq] at hφ
      obtain ⟨m1, m2, _⟩ := rdq_some hq
      rw [hdl] at m2
      refine ⟨fun _ _ h => h, m, .inr ⟨rfl, ?_⟩⟩
      have e1 : ((a : Int) + m).toNat = a + m := by omega
      have hdt : List.drop a (List.take (a + m) s) = (s.drop a).take m := by
        rw [List.drop_take]; congr 1; omega
      iterate 12 (try simp only [then_step]; try simp [go_sem, e1])
      refine ⟨by omega, by omega, by omega, by omega, by omega, ?_⟩
      rw [s2, hdt]
      have hl2 : ((s.drop a).take m).length = m := by rw [List.length_take, hdl]; omega
      refine ⟨(s.drop a).take m, rfl, by omega, t, by rw [hl2]; exact rdq_take hq, ?_⟩
      refine ⟨fun _ _ h => h, 0, t, rfl, ?_⟩
      rw [then_step, th_call, if_pos (by rfl), s3]
      refine ⟨b, s, a, L, Co, T, m, rfl, set_same _ _ _, by omega, by omega, by omega, by omega, by omega, by omega, ?_⟩
      rw [set_set]
      simp [go_sem]
      simp only [then_step]; simp [go_sem, ep]
      simpa [rc, tkv] using hφ
/-- Tokens of whatever text. -/
def ctTokens : Ct Tryd.prog where
  f := 9
  spec := fun args h φ => ∃ s, args = [.string (B s)] ∧
    (if 65536 < s.length then φ (.tuple #[.slice none 0 0, .agg #[.int .i64 3, .int .i64 0, .int .i64 0]]) h
      else if (lexAll s).1.1 = 0 then ∀ sl k, HLe h k → OwnS k sl (tcs (lexAll s).2) TK 5 → sl.n = (lexAll s).2.length → φ (.tuple #[sl.val, .agg #[.int .i64 0, .int .i64 0, .int .i64 0]]) k
      else φ (.tuple #[.slice none 0 0, .agg #[.int .i64 (lexAll s).1.1, .int .i64 (lexAll s).1.2.1, .int .i64 (lexAll s).1.2.2]]) h)
  ok := by
    rintro args h φ w ⟨s, rfl, hφ⟩ hH
    refine tokens_ok ctLiteral rfl (fun _ => True) ?_ s trivial h φ w hφ hH
    intro b k l c n x s a L Co T h φ _ hb ha _ h1 h2 h3 h4
    exact ⟨b, k, l, c, n, x, s, a, L, Co, T, rfl, hb, ha, h1, h2, h3, h4⟩
end Go.Proofs.YtogalfbemmcaaaaDoor
