/- Tokens, part B: kinds of bytes, runs, blanks, places: the functions. -/
import Derived.Test.YtogalfbemmcaaaaDoorLexA
import Derived.Test.YtogalfbemmcaaaaDoorEngU
namespace Go.Proofs.YtogalfbemmcaaaaDoor
open Go.RowKit
attribute [local go_sem] Fm.says BE.den IE.den SE.den LE.den AE.den CE.den PE.den VE.den KV.val Got.den Got.cnt exI allI exL allL Ctx.push Ctx.heap Ctx.cut Ctx.bare Ctx.mark Inc.blank List.getD_cons_zero List.getD_cons_succ List.cons_append List.nil_append List.append_nil List.map_cons List.map_nil List.replicate_zero List.replicate_succ specOf ltB_t leB_t ltB_f leB_f slc_val slc_nil slc_inj pt_val pt_nil hle_noHeap hle_refl hread_set hwrite_set set_same set_set noHeap_at B_inj ones_nil and_assoc
def fm_small : Fm := (.ret (.p (.one (.b (.or (.and (.le (.c 97) (.x 0)) (.le (.x 0) (.c 122))) (.eqI (.x 0) (.c 95)))))))
theorem gen_small : genFn ⟨true, []⟩ Tryd.prog (fun l => ([] : List LAnn).getD l ⟨[], [], []⟩) Tryd.f17 = fm_small := by kernel_rfl
theorem ps_small : freshPs Tryd.prog .zero Tryd.f17.params.toList = some ([(.one (.i .u8 (.x 0)))], ⟨1, 0, 0, 0, 0, 0⟩) := by kernel_rfl
def fm_great : Fm := (.ret (.p (.one (.b (.and (.le (.c 65) (.x 0)) (.le (.x 0) (.c 90)))))))
theorem gen_great : genFn ⟨true, []⟩ Tryd.prog (fun l => ([] : List LAnn).getD l ⟨[], [], []⟩) Tryd.f18 = fm_great := by kernel_rfl
theorem ps_great : freshPs Tryd.prog .zero Tryd.f18.params.toList = some ([(.one (.i .u8 (.x 0)))], ⟨1, 0, 0, 0, 0, 0⟩) := by kernel_rfl
def fm_digit : Fm := (.ret (.p (.one (.b (.and (.le (.c 48) (.x 0)) (.le (.x 0) (.c 57)))))))
theorem gen_digit : genFn ⟨true, []⟩ Tryd.prog (fun l => ([] : List LAnn).getD l ⟨[], [], []⟩) Tryd.f20 = fm_digit := by kernel_rfl
theorem ps_digit : freshPs Tryd.prog .zero Tryd.f20.params.toList = some ([(.one (.i .u8 (.x 0)))], ⟨1, 0, 0, 0, 0, 0⟩) := by kernel_rfl
def fm_inner : Fm := (.call (.c true) false 17 [(.one (.i .u8 (.x 0)))] (.p (.one (.b (.x 0)))) ⟨0, 1, 0, 0, 0, 0⟩
  (.call (.not (.x 0)) false 18 [(.one (.i .u8 (.x 0)))] (.p (.one (.b (.x 1)))) ⟨0, 1, 0, 0, 0, 0⟩
  (.call (.not (.or (.x 0) (.x 1))) false 20 [(.one (.i .u8 (.x 0)))] (.p (.one (.b (.x 2)))) ⟨0, 1, 0, 0, 0, 0⟩
  (.ret (.p (.one (.b (.or (.or (.x 0) (.x 1)) (.x 2)))))))))
theorem gen_inner : genFn ⟨true, []⟩ Tryd.prog (fun l => ([] : List LAnn).getD l ⟨[], [], []⟩) Tryd.f33 = fm_inner := by kernel_rfl
theorem ps_inner : freshPs Tryd.prog .zero Tryd.f33.params.toList = some ([(.one (.i .u8 (.x 0)))], ⟨1, 0, 0, 0, 0, 0⟩) := by kernel_rfl
def fm_skip1 : Fm := (.ret (.p (.one (.b (.not (.eqI (.x 0) (.c 10)))))))
theorem gen_skip1 : genFn ⟨true, []⟩ Tryd.prog (fun l => ([] : List LAnn).getD l ⟨[], [], []⟩) Tryd.f32 = fm_skip1 := by kernel_rfl
theorem ps_skip1 : freshPs Tryd.prog .zero Tryd.f32.params.toList = some ([(.one (.i .u8 (.x 0)))], ⟨1, 0, 0, 0, 0, 0⟩) := by kernel_rfl
def fm_pass : Fm := (.need (.c true) (.nnp 0)
  (.need (.c true) (.nnp 0)
  (.load (.c true) (.pt 0 1) 1 [(.i .i64 (.x 1))] ⟨1, 0, 0, 0, 0, 0⟩
  (.need (.c true) (.and (.le (.c (-9223372036854775808)) (.add (.x 1) (.x 0))) (.le (.add (.x 1) (.x 0)) (.c 9223372036854775807)))
  (.need (.c true) (.nnp 0)
  (.need (.c true) (.nnp 0)
  (.store (.pt 0 1) [(.i .i64 (.add (.x 1) (.x 0)))]
  (.need (.c true) (.nnp 0)
  (.need (.c true) (.nnp 0)
  (.load (.c true) (.pt 0 3) 1 [(.i .i64 (.x 2))] ⟨1, 0, 0, 0, 0, 0⟩
  (.need (.c true) (.and (.le (.c (-9223372036854775808)) (.add (.x 2) (.x 0))) (.le (.add (.x 2) (.x 0)) (.c 9223372036854775807)))
  (.need (.c true) (.nnp 0)
  (.need (.c true) (.nnp 0)
  (.store (.pt 0 3) [(.i .i64 (.add (.x 2) (.x 0)))]
  (.ret (.tup []))))))))))))))))
theorem gen_pass : genFn ⟨true, []⟩ Tryd.prog (fun l => ([] : List LAnn).getD l ⟨[], [], []⟩) Tryd.f30 = fm_pass := by kernel_rfl
theorem ps_pass : freshPs Tryd.prog .zero Tryd.f30.params.toList = some ([(.one (.pt 0)), (.one (.i .i64 (.x 0)))], ⟨1, 0, 0, 0, 0, 1⟩) := by kernel_rfl
def fm_kind : Fm := (.ite (.or (.and (.le (.c 97) (.x 0)) (.le (.x 0) (.c 122))) (.eqI (.x 0) (.c 95)))
  (.ret (.p (.one (.i .i64 (.c 1)))))
  (.ite (.and (.le (.c 65) (.x 0)) (.le (.x 0) (.c 90)))
  (.ret (.p (.one (.i .i64 (.c 2)))))
  (.ite (.and (.le (.c 48) (.x 0)) (.le (.x 0) (.c 57)))
  (.ret (.p (.one (.i .i64 (.c 3)))))
  (.ret (.p (.one (.i .i64 (.c 0))))))))
theorem gen_kind : genFn ⟨true, []⟩ Tryd.prog (fun l => ([] : List LAnn).getD l ⟨[], [], []⟩) Tryd.f26 = fm_kind := by kernel_rfl
theorem ps_kind : freshPs Tryd.prog .zero Tryd.f26.params.toList = some ([(.one (.i .u8 (.x 0)))], ⟨1, 0, 0, 0, 0, 0⟩) := by kernel_rfl
/-- A reader's cells. -/
def rc (s : List UInt8) (a l c : Int) : List Value := [.string (B s), .int .i64 a, .int .i64 l, .int .i64 c]

def ctSmall : Ct Tryd.prog where
  f := 17
  spec := fun args h φ => ∃ b : Int, args = [.int .u8 b] ∧ φ (.bool (smB b)) h
  ok := by
    rintro args h φ w ⟨b, rfl, hφ⟩ hH
    refine by_fm Tryd.func17 gen_small ps_small [] φ noInv noMeas ⟨[b], [], [], [], [], [], h, noM⟩ ⟨rfl, rfl, rfl, rfl, rfl, rfl⟩ ones_nil ?_ w hH rfl
    have e : smB b = ((leB 97 b && leB b 122) || b == 95) := by
      unfold smB kdi leB
      rw [Bool.eq_iff_iff]; simp
      split <;> (try split) <;> (try split) <;> simp_all
    simp [fm_small, go_sem]
    rw [e] at hφ
    simpa using hφ
def ctGreat : Ct Tryd.prog where
  f := 18
  spec := fun args h φ => ∃ b : Int, args = [.int .u8 b] ∧ φ (.bool (grB b)) h
  ok := by
    rintro args h φ w ⟨b, rfl, hφ⟩ hH
    refine by_fm Tryd.func18 gen_great ps_great [] φ noInv noMeas ⟨[b], [], [], [], [], [], h, noM⟩ ⟨rfl, rfl, rfl, rfl, rfl, rfl⟩ ones_nil ?_ w hH rfl
    have e : grB b = (leB 65 b && leB b 90) := by
      unfold grB kdi leB
      rw [Bool.eq_iff_iff]; simp
      split <;> (try split) <;> (try split) <;> simp_all <;> omega
    simp [fm_great, go_sem]
    rw [e] at hφ
    simpa using hφ
def ctDigit : Ct Tryd.prog where
  f := 20
  spec := fun args h φ => ∃ b : Int, args = [.int .u8 b] ∧ φ (.bool (dgB b)) h
  ok := by
    rintro args h φ w ⟨b, rfl, hφ⟩ hH
    refine by_fm Tryd.func20 gen_digit ps_digit [] φ noInv noMeas ⟨[b], [], [], [], [], [], h, noM⟩ ⟨rfl, rfl, rfl, rfl, rfl, rfl⟩ ones_nil ?_ w hH rfl
    have e : dgB b = (leB 48 b && leB b 57) := by
      unfold dgB kdi leB
      rw [Bool.eq_iff_iff]; simp
      split <;> (try split) <;> (try split) <;> simp_all <;> omega
    simp [fm_digit, go_sem]
    rw [e] at hφ
    simpa using hφ
theorem inB_eq (b : Int) : inB b = (smB b || grB b || dgB b) := by
  unfold inB smB grB dgB kdi
  rw [Bool.eq_iff_iff]
  split <;> (try split) <;> (try split) <;> simp
def ctInner : Ct Tryd.prog where
  f := 33
  spec := fun args h φ => ∃ b : Int, args = [.int .u8 b] ∧ φ (.bool (inB b)) h
  ok := by
    rintro args h φ w ⟨b, rfl, hφ⟩ hH
    refine by_fm Tryd.func33 gen_inner ps_inner [ctSmall, ctGreat, ctDigit] φ noInv noMeas ⟨[b], [], [], [], [], [], h, noM⟩ ⟨rfl, rfl, rfl, rfl, rfl, rfl⟩ ones_nil ?_ w hH rfl
    rw [inB_eq] at hφ
    cases h1 : smB b <;> cases h2 : grB b <;> rw [h1, h2] at hφ <;> simp [fm_inner, go_sem, ctSmall, ctGreat, ctDigit, h1, h2] <;> simpa using hφ
def ctSkip1 : Ct Tryd.prog where
  f := 32
  spec := fun args h φ => ∃ b : Int, args = [.int .u8 b] ∧ φ (.bool (nlB b)) h
  ok := by
    rintro args h φ w ⟨b, rfl, hφ⟩ hH
    refine by_fm Tryd.func32 gen_skip1 ps_skip1 [] φ noInv noMeas ⟨[b], [], [], [], [], [], h, noM⟩ ⟨rfl, rfl, rfl, rfl, rfl, rfl⟩ ones_nil ?_ w hH rfl
    simp [fm_skip1, go_sem]
    exact hφ
def ctKind : Ct Tryd.prog where
  f := 26
  spec := fun args h φ => ∃ b : Int, args = [.int .u8 b] ∧ φ (.int .i64 (kdi b)) h
  ok := by
    rintro args h φ w ⟨b, rfl, hφ⟩ hH
    refine by_fm Tryd.func26 gen_kind ps_kind [] φ noInv noMeas ⟨[b], [], [], [], [], [], h, noM⟩ ⟨rfl, rfl, rfl, rfl, rfl, rfl⟩ ones_nil ?_ w hH rfl
    unfold kdi at hφ
    by_cases h1 : (97 ≤ b ∧ b ≤ 122) ∨ b = 95
    · rw [if_pos h1] at hφ
      simp [fm_kind, go_sem, h1, hφ]
      intro x y; exfalso; omega
    · rw [if_neg h1] at hφ
      by_cases h2 : 65 ≤ b ∧ b ≤ 90
      · rw [if_pos h2] at hφ
        simp [fm_kind, go_sem, h1, h2, hφ]
        intro x y z; exfalso; omega
      · rw [if_neg h2] at hφ
        by_cases h3 : 48 ≤ b ∧ b ≤ 57
        · rw [if_pos h3] at hφ
          simp [fm_kind, go_sem, h1, h2, h3, hφ]
          intro x y z u; exfalso; omega
        · rw [if_neg h3] at hφ
          simp [fm_kind, go_sem, h1, h2, h3, hφ]
def ctPass : Ct Tryd.prog where
  f := 30
  spec := fun args h φ => ∃ b s a l c T n, args = [.pointer (some ⟨b, 0, none⟩), .int .i64 n] ∧ h b = some ⟨rc s a l c, T⟩ ∧ 0 ≤ a ∧ a ≤ 1000000 ∧ 0 ≤ c ∧ c ≤ 1000000 ∧ 0 ≤ n ∧ n ≤ 1000000 ∧ φ (.tuple #[]) (h.set b ⟨rc s (a + n) l (c + n), T⟩)
  ok := by
    rintro args h φ w ⟨b, s, a, l, c, T, n, rfl, hb, h1, h2, h3, h4, h5, h6, hφ⟩ hH
    obtain ⟨h, rfl⟩ : ∃ h', h = Hp.set h' b ⟨rc s a l c, T⟩ := ⟨h, set_self hb⟩
    refine by_fm Tryd.func30 gen_pass ps_pass [] φ noInv noMeas ⟨[n], [], [], [], [], [some (b, 0)], h.set b ⟨rc s a l c, T⟩, noM⟩ ⟨rfl, rfl, rfl, rfl, rfl, rfl⟩ ones_nil ?_ w hH rfl
    rw [set_set] at hφ
    simp [fm_pass, go_sem, rc, hφ]
    refine ⟨by omega, by omega, by omega, by omega, ?_⟩
    simpa [rc] using hφ
end Go.Proofs.YtogalfbemmcaaaaDoor
