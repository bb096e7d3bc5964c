/- Tokens, part H: words and names. -/
import Derived.Test.YtogalfbemmcaaaaDoorLexG
namespace Go.Proofs.YtogalfbemmcaaaaDoor
open Go.RowKit
attribute [local go_sem] says_tt says_ff says_need says_ite says_call says_load says_store says_mk says_new says_mks says_str says_ret says_again says_app BE.den IE.den SE.den LE.den AE.den CE.den PE.den VE.den KV.val Got.den Got.cnt exI allI exL allL Ctx.push Ctx.heap Ctx.cut Ctx.bare Ctx.mark Inc.blank List.getD_cons_zero List.getD_cons_succ List.cons_append List.nil_append List.append_nil List.map_cons List.map_nil List.replicate_zero List.replicate_succ specOf ltB_t leB_t ltB_f leB_f slc_val slc_nil slc_inj pt_val pt_nil hle_noHeap hle_refl hread_set hwrite_set set_same set_set noHeap_at B_inj ones_nil and_assoc
def fm_word : Fm := (.ite (.eqS (.x 0) (.c [114, 101, 99]))
  (.ite (.eqS (.x 0) (.c [114, 101, 99]))
  (.ret (.p (.one (.b (.c true)))))
  (.ret (.p (.one (.b (.c false))))))
  (.ite (.eqS (.x 0) (.c [102, 110]))
  (.ite (.eqS (.x 0) (.c [102, 110]))
  (.ret (.p (.one (.b (.c true)))))
  (.ret (.p (.one (.b (.c false))))))
  (.ite (.eqS (.x 0) (.c [118, 97, 114]))
  (.ite (.eqS (.x 0) (.c [118, 97, 114]))
  (.ret (.p (.one (.b (.c true)))))
  (.ret (.p (.one (.b (.c false))))))
  (.ite (.eqS (.x 0) (.c [105, 102]))
  (.ite (.eqS (.x 0) (.c [105, 102]))
  (.ret (.p (.one (.b (.c true)))))
  (.ret (.p (.one (.b (.c false))))))
  (.ite (.eqS (.x 0) (.c [101, 108, 115, 101]))
  (.ite (.eqS (.x 0) (.c [101, 108, 115, 101]))
  (.ret (.p (.one (.b (.c true)))))
  (.ret (.p (.one (.b (.c false))))))
  (.ite (.eqS (.x 0) (.c [119, 104, 105, 108, 101]))
  (.ite (.eqS (.x 0) (.c [119, 104, 105, 108, 101]))
  (.ret (.p (.one (.b (.c true)))))
  (.ret (.p (.one (.b (.c false))))))
  (.ite (.eqS (.x 0) (.c [114, 101, 116, 117, 114, 110]))
  (.ite (.eqS (.x 0) (.c [114, 101, 116, 117, 114, 110]))
  (.ret (.p (.one (.b (.c true)))))
  (.ret (.p (.one (.b (.c false))))))
  (.ite (.eqS (.x 0) (.c [112, 114, 105, 110, 116]))
  (.ite (.eqS (.x 0) (.c [112, 114, 105, 110, 116]))
  (.ret (.p (.one (.b (.c true)))))
  (.ret (.p (.one (.b (.c false))))))
  (.ite (.eqS (.x 0) (.c [116, 114, 117, 101]))
  (.ite (.eqS (.x 0) (.c [116, 114, 117, 101]))
  (.ret (.p (.one (.b (.c true)))))
  (.ret (.p (.one (.b (.c false))))))
  (.ite (.eqS (.x 0) (.c [102, 97, 108, 115, 101]))
  (.ite (.eqS (.x 0) (.c [102, 97, 108, 115, 101]))
  (.ret (.p (.one (.b (.c true)))))
  (.ret (.p (.one (.b (.c false))))))
  (.ite (.eqS (.x 0) (.c [110, 105, 108]))
  (.ite (.eqS (.x 0) (.c [110, 105, 108]))
  (.ret (.p (.one (.b (.c true)))))
  (.ret (.p (.one (.b (.c false))))))
  (.ite (.eqS (.x 0) (.c [109, 97, 107, 101]))
  (.ite (.eqS (.x 0) (.c [109, 97, 107, 101]))
  (.ret (.p (.one (.b (.c true)))))
  (.ret (.p (.one (.b (.c false))))))
  (.ite (.eqS (.x 0) (.c [105, 110, 116]))
  (.ite (.eqS (.x 0) (.c [105, 110, 116]))
  (.ret (.p (.one (.b (.c true)))))
  (.ret (.p (.one (.b (.c false))))))
  (.ite (.eqS (.x 0) (.c [98, 111, 111, 108]))
  (.ite (.eqS (.x 0) (.c [98, 111, 111, 108]))
  (.ret (.p (.one (.b (.c true)))))
  (.ret (.p (.one (.b (.c false))))))
  (.ite (.eqS (.x 0) (.c [115, 116, 114]))
  (.ite (.eqS (.x 0) (.c [115, 116, 114]))
  (.ret (.p (.one (.b (.c true)))))
  (.ret (.p (.one (.b (.c false))))))
  (.ite (.eqS (.x 0) (.c [99, 111, 109, 112]))
  (.ret (.p (.one (.b (.c true)))))
  (.ret (.p (.one (.b (.c false)))))))))))))))))))))
theorem gen_word : genFn ⟨true, []⟩ Tryd.prog (fun l => ([] : List LAnn).getD l ⟨[], [], []⟩) Tryd.f14 = fm_word := by kernel_rfl
theorem ps_word : freshPs Tryd.prog .zero Tryd.f14.params.toList = some ([(.one (.s (.x 0)))], ⟨0, 0, 1, 0, 0, 0⟩) := by kernel_rfl
def fm_rword : Fm := (.mk [(.s (.c [114, 101, 99])), (.s (.c [102, 110])), (.s (.c [118, 97, 114])), (.s (.c [105, 102])), (.s (.c [101, 108, 115, 101])), (.s (.c [119, 104, 105, 108, 101])), (.s (.c [114, 101, 116, 117, 114, 110])), (.s (.c [112, 114, 105, 110, 116])), (.s (.c [116, 114, 117, 101])), (.s (.c [102, 97, 108, 115, 101])), (.s (.c [110, 105, 108])), (.s (.c [109, 97, 107, 101])), (.s (.c [105, 110, 116])), (.s (.c [98, 111, 111, 108])), (.s (.c [115, 116, 114])), (.s (.c [99, 111, 109, 112]))] 9 16
  (.loop 0 ⟨[(.c 0)], [(.c false)], [], [], [], []⟩
  (.ite (.lt (.x 0) (.cnt (.x 0)))
  (.need (.c true) (.and (.and (.le (.c 0) (.x 0)) (.lt (.x 0) (.cnt (.x 0)))) (.nns (.x 0)))
  (.load (.c true) (.el (.x 0) (.x 0) 1 0) 1 [(.s (.x 1))] ⟨0, 0, 1, 0, 0, 0⟩
  (.ite (.eqS (.x 1) (.x 0))
  (.ret (.p (.one (.b (.c true)))))
  (.need (.c true) (.and (.le (.c (-9223372036854775808)) (.add (.x 0) (.c 1))) (.le (.add (.x 0) (.c 1)) (.c 9223372036854775807)))
  (.again 0 ⟨0, 0, 1, 0, 1, 0⟩ ⟨1, 1, 1, 0, 1, 0⟩ ⟨[(.add (.x 0) (.c 1))], [(.x 0)], [], [], [], []⟩)))))
  (.ret (.p (.one (.b (.c false))))))))
theorem gen_rword : genFn ⟨true, []⟩ Tryd.prog (fun l => ([⟨[2, 8], [9, 10, 4, 11, 12, 13, 14, 15, 16, 17], []⟩] : List LAnn).getD l ⟨[], [], []⟩) Tryd.f15 = fm_rword := by kernel_rfl
theorem ps_rword : freshPs Tryd.prog .zero Tryd.f15.params.toList = some ([(.one (.s (.x 0)))], ⟨0, 0, 1, 0, 0, 0⟩) := by kernel_rfl
def fm_name : Fm := (.call (.c true) false 31 [(.one (.pt 0)), (.one (.c (.fn 33)))] (.p (.one (.i .i64 (.x 4)))) ⟨1, 0, 0, 0, 0, 0⟩
  (.load (.c true) (.pt 0 0) 1 [(.s (.x 1))] ⟨0, 0, 1, 0, 0, 0⟩
  (.load (.c true) (.pt 0 1) 1 [(.i .i64 (.x 5))] ⟨1, 0, 0, 0, 0, 0⟩
  (.load (.c true) (.pt 0 1) 1 [(.i .i64 (.x 6))] ⟨1, 0, 0, 0, 0, 0⟩
  (.need (.c true) (.nnp 0)
  (.need (.c true) (.nnp 0)
  (.need (.c true) (.nnp 0)
  (.need (.c true) (.nnp 0)
  (.need (.c true) (.nnp 0)
  (.need (.c true) (.nnp 0)
  (.need (.c true) (.and (.le (.c (-9223372036854775808)) (.add (.x 6) (.x 4))) (.le (.add (.x 6) (.x 4)) (.c 9223372036854775807)))
  (.need (.c true) (.and (.and (.le (.c 0) (.add (.x 6) (.x 4))) (.le (.add (.x 6) (.x 4)) (.len (.x 1)))) (.and (.le (.c 0) (.x 5)) (.le (.x 5) (.add (.x 6) (.x 4)))))
  (.need (.c true) (.and (.le (.c 0) (.c 0)) (.lt (.c 0) (.len (.sub (.x 1) (.x 5) (.add (.x 6) (.x 4))))))
  (.call (.c true) false 18 [(.one (.i .u8 (.at (.sub (.x 1) (.x 5) (.add (.x 6) (.x 4))) (.c 0))))] (.p (.one (.b (.x 0)))) ⟨0, 1, 0, 0, 0, 0⟩
  (.ite (.x 0)
  (.call (.c true) false 30 [(.one (.pt 0)), (.one (.i .i64 (.x 4)))] (.tup []) ⟨0, 0, 0, 0, 0, 0⟩
  (.ret (.p (.agg [(.i .u8 (.c 2)), (.i .i64 (.x 1)), (.i .i64 (.x 2)), (.i .i64 (.x 3)), (.s (.sub (.x 1) (.x 5) (.add (.x 6) (.x 4))))]))))
  (.call (.c true) false 14 [(.one (.s (.sub (.x 1) (.x 5) (.add (.x 6) (.x 4)))))] (.p (.one (.b (.x 1)))) ⟨0, 1, 0, 0, 0, 0⟩
  (.ite (.x 1)
  (.call (.c true) false 30 [(.one (.pt 0)), (.one (.i .i64 (.x 4)))] (.tup []) ⟨0, 0, 0, 0, 0, 0⟩
  (.ret (.p (.agg [(.i .u8 (.c 6)), (.i .i64 (.x 1)), (.i .i64 (.x 2)), (.i .i64 (.x 3)), (.s (.sub (.x 1) (.x 5) (.add (.x 6) (.x 4))))]))))
  (.call (.c true) false 30 [(.one (.pt 0)), (.one (.i .i64 (.x 4)))] (.tup []) ⟨0, 0, 0, 0, 0, 0⟩
  (.ret (.p (.agg [(.i .u8 (.c 1)), (.i .i64 (.x 1)), (.i .i64 (.x 2)), (.i .i64 (.x 3)), (.s (.sub (.x 1) (.x 5) (.add (.x 6) (.x 4))))])))))))))))))))))))))
theorem gen_name : genFn ⟨true, []⟩ Tryd.prog (fun l => ([] : List LAnn).getD l ⟨[], [], []⟩) Tryd.f19 = fm_name := by kernel_rfl
theorem ps_name : freshPs Tryd.prog .zero Tryd.f19.params.toList = some ([(.one (.pt 0)), (.agg [(.i .u8 (.x 0)), (.i .i64 (.x 1)), (.i .i64 (.x 2)), (.i .i64 (.x 3)), (.s (.x 0))])], ⟨4, 0, 1, 0, 0, 1⟩) := by kernel_rfl
/-- The words. -/
def W16 : List (List UInt8) := [[114, 101, 99], [102, 110], [118, 97, 114], [105, 102], [101, 108, 115, 101], [119, 104, 105, 108, 101], [114, 101, 116, 117, 114, 110], [112, 114, 105, 110, 116], [116, 114, 117, 101], [102, 97, 108, 115, 101], [110, 105, 108], [109, 97, 107, 101], [105, 110, 116], [98, 111, 111, 108], [115, 116, 114], [99, 111, 109, 112]]
def wordB (s : List UInt8) : Bool := W16.contains s
set_option maxHeartbeats 4000000 in
def ctWord : Ct Tryd.prog where
  f := 14
  spec := fun args h φ => ∃ s, args = [.string (B s)] ∧ φ (.bool (wordB s)) h
  ok := by
    rintro args h φ w ⟨s, rfl, hφ⟩ hH
    refine by_fm Tryd.func14 gen_word ps_word [] φ noInv noMeas ⟨[], [], [s], [], [], [], h, noM⟩ ⟨rfl, rfl, rfl, rfl, rfl, rfl⟩ ones_nil ?_ w hH rfl
    by_cases hs : s ∈ W16
    · have e : wordB s = true := by simpa [wordB] using hs
      rw [e] at hφ
      simp only [W16, List.mem_cons, List.not_mem_nil, or_false] at hs
      rcases hs with rfl | rfl | rfl | rfl | rfl | rfl | rfl | rfl | rfl | rfl | rfl | rfl | rfl | rfl | rfl | rfl
      all_goals simp [fm_word, go_sem, hφ]
    · have e : wordB s = false := by simpa [wordB] using hs
      rw [e] at hφ
      simp only [W16, List.mem_cons, List.not_mem_nil, or_false, not_or] at hs
      obtain ⟨h1, h2, h3, h4, h5, h6, h7, h8, h9, h10, h11, h12, h13, h14, h15, h16⟩ := hs
      simp [fm_word, go_sem, hφ, h1, h2, h3, h4, h5, h6, h7, h8, h9, h10, h11, h12, h13, h14, h15, h16]
def wCells : List Value := W16.map fun x => .string (B x)
set_option maxHeartbeats 4000000 in
def ctRWord : Ct Tryd.prog where
  f := 15
  spec := fun args h φ => ∃ s, args = [.string (B s)] ∧ ∀ k, HLe h k → φ (.bool (wordB s)) k
  ok := by
    rintro args h φ w ⟨s, rfl, hφ⟩ hH
    refine by_fm Tryd.func15 gen_rword ps_rword [] φ (fun _ C => ∃ (b : Nat) (i : Nat) (y : Bool), h b = none ∧ C = ⟨[i], [y], [s], [], [⟨some (b, 0), 16, 16⟩], [], h.set b ⟨wCells, 9⟩, noM⟩ ∧ i ≤ 16 ∧ ∀ j, j < i → W16[j]? ≠ some s) (fun _ C => (16 - C.i.getD 0 0).toNat) ⟨[], [], [s], [], [], [], h, noM⟩ ⟨rfl, rfl, rfl, rfl, rfl, rfl⟩ ones_nil ?_ w hH rfl
    rw [fm_rword, says_mk]
    intro b hb
    refine loop_intro ⟨b, 0, false, hb, rfl, by omega, by omega⟩ ?_
    rintro i bb ss v ll pp hh M ⟨b, k, y, hb, hC, h3, h4⟩ hM
    cases hC
    have hM' : M 0 = ((16 : Int) - k).toNat := hM
    have hk := hle_set hb ⟨wCells, 9⟩
    by_cases hlt : k < 16
    · have hlt' : (k : Int) < 16 := by omega
      have hx : k < W16.length := hlt
      have hget : (wCells.drop k).take 1 = [.string (B W16[k])] := by
        rw [List.drop_eq_getElem_cons (by simpa [wCells] using hx)]
        simp [wCells]
      have hwl : wCells.length = 16 := rfl
      by_cases he : W16[k] = s
      · have e : wordB s = true := by rw [← he]; simp [wordB]
        have := hφ _ hk
        rw [e] at this
        simp [go_sem, hlt', hlt, hget, hwl, he, this]
        omega
      · have hne : ∀ j, j < k + 1 → W16[j]? ≠ some s := fun j hj => by
          by_cases hjk : j = k
          · subst hjk; rw [List.getElem?_eq_getElem hx]; simpa using he
          · exact h4 j (by omega)
        simp [go_sem, hlt', hlt, hget, hwl, he]
        refine ⟨by omega, by omega, by omega, ⟨b, hb, k + 1, by cases y <;> simp, by omega, by simpa using hne⟩, by omega⟩
    · have hge : ¬ ((k : Int) < 16) := by omega
      have e : wordB s = false := by
        cases hq : wordB s
        · rfl
        · exfalso
          have hm : s ∈ W16 := by simpa [wordB] using hq
          obtain ⟨j, hj⟩ := List.getElem?_of_mem hm
          have hjl : j < 16 := (List.getElem?_eq_some_iff.1 hj).1
          exact h4 j (by omega) hj
      have := hφ _ hk
      rw [e] at this
      simp [go_sem, hge, this]
/-- A token's cells. -/
def tkv (k l c n : Int) (x : List UInt8) : Value := .agg #[.int .u8 k, .int .i64 l, .int .i64 c, .int .i64 n, .string (B x)]
/-- The kind of a name. -/
def nameK (b : Int) (x : List UInt8) : Int := if kdi b = 2 then 2 else if wordB x then 6 else 1
theorem bt_sub (s : List UInt8) (i j : Nat) (h : i < j) (hj : j ≤ s.length) : bt (sub s i j) 0 = bt s i := by
  unfold sub
  rw [bt_drop, Nat.add_zero]
  unfold bt
  simp [List.getD_eq_getElem?_getD, h]
set_option maxHeartbeats 4000000 in
def ctName : Ct Tryd.prog where
  f := 19
  spec := fun args h φ => ∃ b k l c n x s a L Co T, args = [.pointer (some ⟨b, 0, none⟩), tkv k l c n x] ∧ h b = some ⟨rc s a L Co, T⟩ ∧ 0 ≤ a ∧ a < s.length ∧ s.length ≤ 100000 ∧ 0 ≤ Co ∧ Co ≤ 500000 ∧ inB (bt s a.toNat) = true ∧
    φ (tkv (nameK (bt s a.toNat) (sub s a.toNat (a.toNat + rn inB s a.toNat))) l c n (sub s a.toNat (a.toNat + rn inB s a.toNat))) (h.set b ⟨rc s (a + rn inB s a.toNat) L (Co + rn inB s a.toNat), T⟩)
  ok := by
    rintro args h φ w ⟨b, k, l, c, n, x, s, a, L, Co, T, rfl, hb, h0, h1, h2, c0, c1, hin, hφ⟩ hH
    obtain ⟨h, rfl⟩ : ∃ h', h = Hp.set h' b ⟨rc s a L Co, T⟩ := ⟨h, set_self hb⟩
    obtain ⟨a, rfl⟩ : ∃ n : Nat, a = n := ⟨a.toNat, by omega⟩
    rw [Int.toNat_natCast] at hφ hin
    rw [set_set] at hφ
    have hle := rn_le (p := inB) (s := s) (i := a) (by omega)
    have hy := rn_yes (p := inB) (s := s) (i := a) (by omega) hin
    have hb0 := bt_sub s a (a + rn inB s a) (by omega) hle
    have hsl := sub_len s (i := a) hle
    refine by_fm Tryd.func19 gen_name ps_name [ctRun, ctGreat, ctWord, ctPass] φ noInv noMeas ⟨[k, l, c, n], [], [x], [], [], [some (b, 0)], h.set b ⟨rc s a L Co, T⟩, noM⟩ ⟨rfl, rfl, rfl, rfl, rfl, rfl⟩ ones_nil ?_ w hH rfl
    generalize hN : rn inB s a = N at *
    have e1 : ((a : Int) + (N : Int)).toNat = a + N := by omega
    have e2 : List.drop a (List.take (a + N) s) = sub s a (a + N) := rfl
    cases hg : grB (bt s a)
    · have hk : ¬ kdi (bt s a) = 2 := by simpa [grB] using hg
      cases hw : wordB (sub s a (a + N))
      · rw [nameK, if_neg hk, hw] at hφ
        simp [fm_name, go_sem, rc, ctRun, runSpec, ctGreat, ctWord, ctPass, tkv, hN, e1, e2, hb0, hsl, hg, hw]
        (repeat' apply And.intro) <;> first | omega | simpa [rc, tkv] using hφ
      · rw [nameK, if_neg hk, hw] at hφ
        simp [fm_name, go_sem, rc, ctRun, runSpec, ctGreat, ctWord, ctPass, tkv, hN, e1, e2, hb0, hsl, hg, hw]
        (repeat' apply And.intro) <;> first | omega | simpa [rc, tkv] using hφ
    · have hk : kdi (bt s a) = 2 := by simpa [grB] using hg
      rw [nameK, if_pos hk] at hφ
      simp [fm_name, go_sem, rc, ctRun, runSpec, ctGreat, ctWord, ctPass, tkv, hN, e1, e2, hb0, hsl, hg]
      (repeat' apply And.intro) <;> first | omega | simpa [rc, tkv] using hφ
end Go.Proofs.YtogalfbemmcaaaaDoor
