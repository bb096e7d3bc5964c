/- Tokens, part L: a sign. -/
import Derived.Test.YtogalfbemmcaaaaDoorLexK
namespace Go.Proofs.YtogalfbemmcaaaaDoor
open Go.RowKit
attribute [local go_sem] says_tt says_ff th_need th_ite th_call th_load th_store th_mk th_new th_mks th_str says_ret says_again says_app BE.den IE.den SE.den LE.den AE.den CE.den PE.den VE.den KV.val Got.den Got.cnt exI allI exL allL Ctx.push Ctx.heap Ctx.cut Ctx.bare Ctx.mark Inc.blank List.getD_cons_zero List.getD_cons_succ List.cons_append List.nil_append List.append_nil List.map_cons List.map_nil List.replicate_zero List.replicate_succ specOf ltB_t leB_t ltB_f leB_f slc_val slc_nil slc_inj pt_val pt_nil hle_noHeap hle_refl hread_set hwrite_set set_same set_set noHeap_at B_inj ones_nil and_assoc
theorem find_mem {f : List UInt8 → Bool} {x : List UInt8} (h : allSigns.find? f = some x) : x ≠ [] ∧ x.length ≤ 2 ∧ f x = true := by
  have hm := List.mem_of_find?_eq_some h
  have hall : allSigns.all (fun x => decide (x ≠ []) && decide (x.length ≤ 2)) = true := by decide
  have := List.all_eq_true.1 hall x hm
  simp only [Bool.and_eq_true, decide_eq_true_eq] at this
  exact ⟨this.1, this.2, List.find?_some h⟩
def ctIxs : Ct Tryd.prog where
  f := 39
  spec := fun args h φ => ∃ b k, args = [.slice (some ⟨b, 0, none⟩) 25 25, .func (.func 40) #[] #[.pointer (some ⟨k, 0, none⟩)]] ∧ ∃ rest T T', h b = some ⟨strs allSigns, T⟩ ∧ h k = some ⟨[.string (B rest)], T'⟩ ∧
    φ (.int .i64 (fidx (fun p => p.isPrefixOf rest) allSigns 0)) h
  ok := by
    rintro args h φ w ⟨b, k, rfl, rest, T, T', hb, hk, hφ⟩ hH
    exact ctIxf.ok _ h φ w ⟨b, k, allSigns, rest, T, T', rfl, hb, hk, by decide, hφ⟩ hH
set_option maxRecDepth 100000 in
set_option maxHeartbeats 8000000 in
def ctSign : Ct Tryd.prog where
  f := 23
  spec := fun args h φ => ∃ b k l c n x s a L Co T, args = [.pointer (some ⟨b, 0, none⟩), tkv k l c n x] ∧ h b = some ⟨rc s a L Co, T⟩ ∧ 0 ≤ a ∧ a ≤ s.length ∧ s.length ≤ 100000 ∧ 0 ≤ Co ∧ Co ≤ 500000 ∧
    (if sg (s.drop a.toNat) = [] then φ (.tuple #[tkv 0 0 0 0 [], .int .i64 4]) h
      else φ (.tuple #[tkv 7 l c n (sg (s.drop a.toNat)), .int .i64 0]) (h.set b ⟨rc s (a + (sg (s.drop a.toNat)).length) L (Co + (sg (s.drop a.toNat)).length), T⟩))
  ok := by
    rintro args h φ w ⟨b, k, l, c, n, x, s, a, L, Co, T, rfl, hb, h0, h1, h2, c0, c1, hφ⟩ hH
    obtain ⟨h, rfl⟩ : ∃ h', h = Hp.set h' b ⟨rc s a L Co, T⟩ := ⟨h, set_self hb⟩
    obtain ⟨a, rfl⟩ : ∃ n : Nat, a = n := ⟨a.toNat, by omega⟩
    rw [Int.toNat_natCast, set_set] at hφ
    refine ct_forget (by_fm Tryd.func23 gen_sign ps_sign [ctSigns, ctIxs, ctPass] (fun v k => ∃ k', HLe k' k ∧ φ v k') noInv noMeas ⟨[k, l, c, n], [], [x], [], [], [some (b, 0)], h.set b ⟨rc s a L Co, T⟩, noM⟩ ⟨rfl, rfl, rfl, rfl, rfl, rfl⟩ ones_nil ?_ w hH rfl)
    rw [← then_step]; unfold fm_sign
    iterate 8 (simp only [then_step]; simp [go_sem, rc, ctSigns])
    refine ⟨by omega, fun b1 hb1 => ?_⟩
    simp only [then_step]; simp [go_sem]
    intro b2 hb2
    have n1 : b ≠ b1 := fun e => by rw [← e, set_same] at hb1; cases hb1
    have n2 : b1 ≠ b2 := fun e => by rw [← e, set_same] at hb2; cases hb2
    have n3 : b ≠ b2 := fun e => by rw [← e, set_ne _ n1, set_same] at hb2; cases hb2
    have hs2 : List.drop a (List.take s.length s) = List.drop a s := by rw [List.take_length]
    obtain ⟨R, hR⟩ : ∃ R : List Value, R = [.string (B s), .int .i64 a, .int .i64 L, .int .i64 Co] := ⟨_, rfl⟩
    have hle : ∀ R', HLe (h.set b ⟨R', T⟩) ((((h.set b ⟨R, T⟩).set b1 ⟨strs allSigns, 9⟩).set b2 ⟨[.string (B (s.drop a))], 9⟩).set b ⟨R', T⟩) := fun R' c o hc => by
      rw [← hR] at hb1 hb2
      simp only [Hp.set] at hc hb1 hb2 ⊢
      by_cases e0 : c = b
      · rw [if_pos e0] at hc ⊢; exact hc
      · rw [if_neg e0] at hc ⊢
        by_cases e2 : c = b2
        · subst e2; rw [if_neg n2.symm, if_neg n3.symm, hc] at hb2; cases hb2
        · rw [if_neg e2]
          by_cases e1 : c = b1
          · subst e1; rw [if_neg n1.symm, hc] at hb1; cases hb1
          · rw [if_neg e1, if_neg e0]; exact hc
    have kb : (((h.set b ⟨R, T⟩).set b1 ⟨strs allSigns, 9⟩).set b2 ⟨[.string (B (s.drop a))], 9⟩) b = some ⟨R, T⟩ := by rw [set_ne _ n3, set_ne _ n1, set_same]
    have k1 : (((h.set b ⟨R, T⟩).set b1 ⟨strs allSigns, 9⟩).set b2 ⟨[.string (B (s.drop a))], 9⟩) b1 = some ⟨strs allSigns, 9⟩ := by rw [set_ne _ n2, set_same]
    have k2 : (((h.set b ⟨R, T⟩).set b1 ⟨strs allSigns, 9⟩).set b2 ⟨[.string (B (s.drop a))], 9⟩) b2 = some ⟨[.string (B (s.drop a))], 9⟩ := by rw [set_same]
    rw [← hR]
    generalize ((h.set b ⟨R, T⟩).set b1 ⟨strs allSigns, 9⟩).set b2 ⟨[.string (B (s.drop a))], 9⟩ = H at *
    subst hR
    have hl0 := hle [.string (B s), .int .i64 a, .int .i64 L, .int .i64 Co]
    rw [← set_self kb] at hl0
    unfold sg at hφ
    rcases fidx_spec (fun p => p.isPrefixOf (s.drop a)) allSigns 0 with ⟨f1, f2⟩ | ⟨j, p, f1, f2, f3⟩
    · rw [f2] at hφ
      iterate 90 (first | (simp only [then_step]; simp [go_sem, ctIxs, ctPass, Slc.val, k1, k2, kb, f1]) | skip)
      exact ⟨_, hl0, hφ⟩
    · obtain ⟨p1, p2, _⟩ := find_mem f3
      rw [f3] at hφ
      have hφ' : φ (.tuple #[tkv 7 l c n p, .int .i64 0]) (h.set b ⟨rc s (a + p.length) L (Co + p.length), T⟩) := by simpa [p1] using hφ
      have hj : j < 25 := (List.getElem?_eq_some_iff.1 f1).1
      have hrd := hread_strs k1 f1
      have hlp := hle [.string (B s), .int .i64 (a + p.length), .int .i64 L, .int .i64 (Co + p.length)]
      rw [Nat.zero_add] at f2
      have hjn : ¬ ((j : Int) < 0) := by omega
      iterate 90 (first | (simp only [then_step]; simp [go_sem, ctIxs, ctPass, rc, Slc.val, k1, k2, kb, f2, hrd, hjn]) | skip)
      (repeat' apply And.intro) <;> first | omega | exact ⟨_, hlp, hφ'⟩
end Go.Proofs.YtogalfbemmcaaaaDoor
