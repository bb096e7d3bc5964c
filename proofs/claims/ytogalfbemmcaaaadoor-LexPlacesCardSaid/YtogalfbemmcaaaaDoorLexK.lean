/- Tokens, part K: signs. -/
import Derived.Test.YtogalfbemmcaaaaDoorLexJ
namespace Go.Proofs.YtogalfbemmcaaaaDoor
open Go.RowKit
attribute [local go_sem] says_tt says_ff th_need th_ite th_call th_load th_store th_mk th_new th_mks th_str says_ret says_again says_app BE.den IE.den SE.den LE.den AE.den CE.den PE.den VE.den KV.val Got.den Got.cnt exI allI exL allL Ctx.push Ctx.heap Ctx.cut Ctx.bare Ctx.mark Inc.blank List.getD_cons_zero List.getD_cons_succ List.cons_append List.nil_append List.append_nil List.map_cons List.map_nil List.replicate_zero List.replicate_succ specOf ltB_t leB_t ltB_f leB_f slc_val slc_nil slc_inj pt_val pt_nil hle_noHeap hle_refl hread_set hwrite_set set_same set_set noHeap_at B_inj ones_nil and_assoc
def fm_signs : Fm := (.mk [(.s (.c [38, 38])), (.s (.c [124, 124])), (.s (.c [61, 61])), (.s (.c [33, 61])), (.s (.c [60, 61])), (.s (.c [62, 61])), (.s (.c [43])), (.s (.c [45])), (.s (.c [42])), (.s (.c [47])), (.s (.c [37])), (.s (.c [60])), (.s (.c [62])), (.s (.c [33])), (.s (.c [61])), (.s (.c [40])), (.s (.c [41])), (.s (.c [123])), (.s (.c [125])), (.s (.c [91])), (.s (.c [93])), (.s (.c [44])), (.s (.c [59])), (.s (.c [58])), (.s (.c [46]))] 9 25
  (.ret (.p (.one (.sl (.x 0))))))
theorem gen_signs : genFn ⟨true, []⟩ Tryd.prog (fun l => ([] : List LAnn).getD l ⟨[], [], []⟩) Tryd.f38 = fm_signs := by kernel_rfl
theorem ps_signs : freshPs Tryd.prog .zero Tryd.f38.params.toList = some ([], ⟨0, 0, 0, 0, 0, 0⟩) := by kernel_rfl
def fm_sign1 : Fm := (.load (.c true) (.pt 0 0) 1 [(.s (.x 1))] ⟨0, 0, 1, 0, 0, 0⟩
  (.call (.c true) false 41 [(.one (.s (.x 1))), (.one (.s (.x 0)))] (.p (.one (.b (.x 0)))) ⟨0, 1, 0, 0, 0, 0⟩
  (.ret (.p (.one (.b (.x 0)))))))
theorem gen_sign1 : genFnP ⟨true, []⟩ Tryd.prog (fun l => ([] : List LAnn).getD l ⟨[], [], []⟩) Tryd.f40 [.one (.s (.x 0)), .one (.adr (.pt 0 0))] ⟨0, 0, 1, 0, 0, 1⟩ = fm_sign1 := by kernel_rfl
def fm_ixf : Fm := (.loop 0 ⟨[(.c 0), (.c 0)], [], [], [], [], []⟩
  (.ite (.lt (.x 1) (.cnt (.x 0)))
  (.need (.c true) (.and (.and (.le (.c 0) (.x 1)) (.lt (.x 1) (.cnt (.x 0)))) (.nns (.x 0)))
  (.load (.c true) (.el (.x 0) (.x 1) 1 0) 1 [(.s (.x 0))] ⟨0, 0, 1, 0, 0, 0⟩
  (.call (.c true) false 40 [(.one (.s (.x 0))), (.one (.pt 0))] (.p (.one (.b (.x 0)))) ⟨0, 1, 0, 0, 0, 0⟩
  (.ite (.x 0)
  (.ret (.p (.one (.i .i64 (.x 1)))))
  (.need (.c true) (.and (.le (.c (-9223372036854775808)) (.add (.x 1) (.c 1))) (.le (.add (.x 1) (.c 1)) (.c 9223372036854775807)))
  (.again 0 ⟨0, 0, 0, 0, 1, 1⟩ ⟨2, 0, 0, 0, 1, 1⟩ ⟨[(.x 0), (.add (.x 1) (.c 1))], [], [], [], [], []⟩))))))
  (.ret (.p (.one (.i .i64 (.c (-1))))))))
theorem gen_ixf : genFnP ⟨true, []⟩ Tryd.prog (fun l => ([⟨[4, 8], [9, 10, 5, 11, 12, 13, 14, 15, 16, 17, 18], []⟩] : List LAnn).getD l ⟨[], [], []⟩) Tryd.f39 [.one (.sl (.x 0)), .one (.clo 40 [0])] ⟨0, 0, 0, 0, 1, 1⟩ = fm_ixf := by kernel_rfl
def fm_sign : Fm := (.load (.c true) (.pt 0 0) 1 [(.s (.x 1))] ⟨0, 0, 1, 0, 0, 0⟩
  (.load (.c true) (.pt 0 1) 1 [(.i .i64 (.x 4))] ⟨1, 0, 0, 0, 0, 0⟩
  (.need (.c true) (.nnp 0)
  (.need (.c true) (.nnp 0)
  (.need (.c true) (.nnp 0)
  (.need (.c true) (.nnp 0)
  (.need (.c true) (.and (.le (.c 0) (.x 4)) (.le (.x 4) (.len (.x 1))))
  (.call (.c true) false 38 [] (.p (.one (.sl (.x 0)))) ⟨0, 0, 0, 0, 1, 0⟩
  (.new [(.s (.sub (.x 1) (.x 4) (.len (.x 1))))] 9
  (.call (.c true) false 39 [(.one (.sl (.x 0))), (.one (.clo 40 [1]))] (.p (.one (.i .i64 (.x 5)))) ⟨1, 0, 0, 0, 0, 0⟩
  (.ite (.lt (.x 5) (.c 0))
  (.ret (.tup [(.agg [(.i .u8 (.c 0)), (.i .i64 (.c 0)), (.i .i64 (.c 0)), (.i .i64 (.c 0)), (.s (.c []))]), (.one (.i .i64 (.c 4)))]))
  (.load (.c true) (.el (.x 0) (.x 5) 1 0) 1 [(.s (.x 2))] ⟨0, 0, 1, 0, 0, 0⟩
  (.need (.c true) (.and (.and (.le (.c 0) (.x 5)) (.lt (.x 5) (.cnt (.x 0)))) (.nns (.x 0)))
  (.need (.c true) (.and (.and (.le (.c 0) (.x 5)) (.lt (.x 5) (.cnt (.x 0)))) (.nns (.x 0)))
  (.load (.c true) (.el (.x 0) (.x 5) 1 0) 1 [(.s (.x 3))] ⟨0, 0, 1, 0, 0, 0⟩
  (.call (.c true) false 30 [(.one (.pt 0)), (.one (.i .i64 (.len (.x 3))))] (.tup []) ⟨0, 0, 0, 0, 0, 0⟩
  (.ret (.tup [(.agg [(.i .u8 (.c 7)), (.i .i64 (.x 1)), (.i .i64 (.x 2)), (.i .i64 (.x 3)), (.s (.x 2))]), (.one (.i .i64 (.c 0)))]))))))))))))))))))
theorem gen_sign : genFn ⟨true, []⟩ Tryd.prog (fun l => ([] : List LAnn).getD l ⟨[], [], []⟩) Tryd.f23 = fm_sign := by kernel_rfl
theorem ps_sign : freshPs Tryd.prog .zero Tryd.f23.params.toList = some ([(.one (.pt 0)), (.agg [(.i .u8 (.x 0)), (.i .i64 (.x 1)), (.i .i64 (.x 2)), (.i .i64 (.x 3)), (.s (.x 0))])], ⟨4, 0, 1, 0, 0, 1⟩) := by kernel_rfl
def allSigns : List (List UInt8) := [[38, 38], [124, 124], [61, 61], [33, 61], [60, 61], [62, 61], [43], [45], [42], [47], [37], [60], [62], [33], [61], [40], [41], [123], [125], [91], [93], [44], [59], [58], [46]]
/-- The sign that a text begins with; nothing: none. -/
def sg (rest : List UInt8) : List UInt8 := (allSigns.find? fun p => p.isPrefixOf rest).getD []
def strs (l : List (List UInt8)) : List Value := l.map fun x => .string (B x)
/-- The first place of such a one. -/
def fidx (f : List UInt8 → Bool) : List (List UInt8) → Nat → Int
  | [], _ => -1
  | x :: t, k => if f x = true then k else fidx f t (k + 1)
theorem fidx_spec (f : List UInt8 → Bool) : ∀ (ps : List (List UInt8)) (k : Nat), (fidx f ps k = -1 ∧ ps.find? f = none) ∨ ∃ j x, ps[j]? = some x ∧ fidx f ps k = (k + j : Nat) ∧ ps.find? f = some x
  | [], k => .inl ⟨rfl, rfl⟩
  | x :: t, k => by
    by_cases hx : f x = true
    · exact .inr ⟨0, x, rfl, by rw [fidx, if_pos hx]; rfl, by rw [List.find?_cons, hx]⟩
    · have hx' : f x = false := by simpa using hx
      rw [fidx, if_neg hx, List.find?_cons, hx']
      rcases fidx_spec f t (k + 1) with h | ⟨j, y, h1, h2, h3⟩
      · exact .inl h
      · exact .inr ⟨j + 1, y, h1, by rw [h2]; congr 1; omega, h3⟩
theorem strs_len (l : List (List UInt8)) : (strs l).length = l.length := by simp [strs]
theorem hread_strs {h : Hp} {b : Nat} {ps : List (List UInt8)} {T : TypeId} (hb : h b = some ⟨strs ps, T⟩) {k : Nat} {x : List UInt8} (hx : ps[k]? = some x) : hread h (some (b, k)) 1 = some [.string (B x)] := by
  have hlt := (List.getElem?_eq_some_iff.1 hx).1
  have hg := (List.getElem?_eq_some_iff.1 hx).2
  rw [hread_of hb, if_pos (by simp [strs]; omega)]
  have : (strs ps).drop k = .string (B ps[k]) :: (strs ps).drop (k + 1) := by
    rw [List.drop_eq_getElem_cons (by simp [strs]; omega)]
    simp [strs]
  simp only [this, hg]
  rfl
def ctSigns : Ct Tryd.prog where
  f := 38
  spec := fun args h φ => args = [] ∧ ∀ b, h b = none → φ (.slice (some ⟨b, 0, none⟩) 25 25) (h.set b ⟨strs allSigns, 9⟩)
  ok := by
    rintro args h φ w ⟨rfl, hφ⟩ hH
    refine by_fm Tryd.func38 gen_signs ps_signs [] φ noInv noMeas ⟨[], [], [], [], [], [], h, noM⟩ ⟨rfl, rfl, rfl, rfl, rfl, rfl⟩ ones_nil ?_ w hH rfl
    intro b hb
    exact hφ b hb
def ctHasPrefix : Ct Tryd.prog where
  f := 41
  spec := fun args h φ => ∃ s p, args = [.string (B s), .string (B p)] ∧ φ (.bool (p.isPrefixOf s)) h
  ok := by
    rintro args h φ w ⟨s, p, rfl, hφ⟩ hH
    refine ct_same (v := .bool (p.isPrefixOf s)) ((Tryd.strings_HasPrefix (B s) (B p) w).mono fun e w' ⟨he, hw⟩ => ⟨?_, hw.symm⟩) hφ hH
    rw [he]
    simp [B, Lib.hasPrefix]
def ctSign1 : Ct Tryd.prog where
  f := 40
  spec := fun args h φ => ∃ p k rest T, args = [.string (B p), .pointer (some ⟨k, 0, none⟩)] ∧ h k = some ⟨[.string (B rest)], T⟩ ∧ φ (.bool (p.isPrefixOf rest)) h
  ok := by
    rintro args h φ w ⟨p, k, rest, T, rfl, hk, hφ⟩ hH
    refine by_fmP Tryd.func40 gen_sign1 [ctHasPrefix] φ noInv noMeas ⟨[], [], [p], [], [], [some (k, 0)], h, noM⟩ ⟨rfl, rfl, rfl, rfl, rfl, rfl⟩ ones_nil ?_ w hH rfl
    rw [← then_step]; unfold fm_sign1
    iterate 90 (first | (simp only [then_step]; simp [go_sem, ctHasPrefix, hread_of hk, hφ]) | skip)
set_option maxHeartbeats 2000000 in
def ctIxf : Ct Tryd.prog where
  f := 39
  spec := fun args h φ => ∃ b k ps rest T T', args = [.slice (some ⟨b, 0, none⟩) ps.length ps.length, .func (.func 40) #[] #[.pointer (some ⟨k, 0, none⟩)]] ∧ h b = some ⟨strs ps, T⟩ ∧ h k = some ⟨[.string (B rest)], T'⟩ ∧ ps.length ≤ 1000 ∧
    φ (.int .i64 (fidx (fun p => p.isPrefixOf rest) ps 0)) h
  ok := by
    rintro args h φ w ⟨b, k, ps, rest, T, T', rfl, hb, hk, hl, hφ⟩ hH
    refine by_fmP Tryd.func39 gen_ixf [ctSign1] φ (fun _ C => ∃ j : Nat, C = ⟨[0, j], [], [], [], [⟨some (b, 0), ps.length, ps.length⟩], [some (k, 0)], h, noM⟩ ∧ j ≤ ps.length ∧ fidx (fun p => p.isPrefixOf rest) ps 0 = fidx (fun p => p.isPrefixOf rest) (ps.drop j) j) (fun _ C => (ps.length - C.i.getD 1 0).toNat)
      ⟨[], [], [], [], [⟨some (b, 0), ps.length, ps.length⟩], [some (k, 0)], h, noM⟩ ⟨rfl, rfl, rfl, rfl, rfl, rfl⟩ ones_nil ?_ w hH rfl
    refine loop_intro ⟨0, rfl, by omega, rfl⟩ ?_
    rintro i bb ss v ll pp hh M ⟨j, hC, h3, h4⟩ hM
    cases hC
    have hM' : M 0 = ((ps.length : Int) - j).toNat := hM
    rw [h4] at hφ
    by_cases hj : j < ps.length
    · have hjz : (j : Int) < ps.length := by omega
      have hg := List.getElem?_eq_getElem hj
      have hrd := hread_strs hb hg
      rw [List.drop_eq_getElem_cons hj] at h4 hφ
      generalize ps[j] = x at *
      cases hx : x.isPrefixOf rest
      · rw [fidx, if_neg (by rw [hx]; decide)] at h4 hφ
        rw [← then_step]
        iterate 90 (first | (simp only [then_step]; simp [go_sem, ctSign1, hjz, hj, hrd, hk, hx]) | skip)
        (repeat' apply And.intro) <;> first | omega | exact ⟨j + 1, by omega, by omega, h4⟩
      · rw [fidx, if_pos hx] at hφ
        rw [← then_step]
        iterate 90 (first | (simp only [then_step]; simp [go_sem, ctSign1, hjz, hj, hrd, hk, hx, hφ]) | skip)
    · have hjz : ¬ ((j : Int) < ps.length) := by omega
      rw [List.drop_eq_nil_of_le (by omega)] at hφ
      rw [← then_step]
      iterate 90 (first | (simp only [then_step]; simp [go_sem, hjz, hφ]) | skip)
      exact hφ
end Go.Proofs.YtogalfbemmcaaaaDoor
