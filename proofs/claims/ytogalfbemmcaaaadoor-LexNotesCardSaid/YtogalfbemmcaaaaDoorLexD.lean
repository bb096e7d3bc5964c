/- Tokens, part D: runs. -/
import Derived.Test.YtogalfbemmcaaaaDoorLexC
namespace Go.Proofs.YtogalfbemmcaaaaDoor
open Go.RowKit
attribute [local go_sem] Fm.says BE.den IE.den SE.den LE.den AE.den CE.den PE.den VE.den KV.val Got.den Got.cnt exI allI exL allL Ctx.push Ctx.heap Ctx.cut Ctx.bare Ctx.mark Inc.blank List.getD_cons_zero List.getD_cons_succ List.cons_append List.nil_append List.append_nil List.map_cons List.map_nil List.replicate_zero List.replicate_succ specOf ltB_t leB_t ltB_f leB_f slc_val slc_nil slc_inj pt_val pt_nil hle_noHeap hle_refl hread_set hwrite_set set_same set_set noHeap_at B_inj ones_nil and_assoc
def runInv (p : Int → Bool) (s : List UInt8) (a : Nat) (l c : Int) (T b : Nat) (h : Hp) (_ : Nat) (C : Ctx) : Prop :=
  ∃ n : Int, C = ⟨[n], [], [], [], [], [some (b, 0)], h.set b ⟨rc s a l c, T⟩, noM⟩ ∧ ∃ k : Nat, n = (k : Int) ∧ a + k ≤ s.length ∧ rn p s a = k + rn p s (a + k)
theorem run_dg {s : List UInt8} {a : Nat} {l c : Int} {T b : Nat} (ha : a ≤ s.length) (hs : s.length ≤ 1000000) (h : Hp) (φ : Value → Hp → Prop) (hφ : φ (.int .i64 (rn dgB s a)) (h.set b ⟨rc s a l c, T⟩)) (w : World) (hH : Holds (h.set b ⟨rc s a l c, T⟩) w) :
    Calls Tryd.prog 31 #[.pointer (some ⟨b, 0, none⟩), .func (.func 20) #[] #[]] w fun e w' => ∃ v k, e = .returned v ∧ φ v k ∧ Holds k w' ∧ Fr w.heap.size (h.set b ⟨rc s a l c, T⟩) k w w' := by
  refine by_fmP Tryd.func31 gen_run_dg [ctDigit] φ (runInv dgB s a l c T b h) (fun _ C => (s.length - C.i.getD 0 0).toNat) ⟨[], [], [], [], [], [some (b, 0)], h.set b ⟨rc s a l c, T⟩, noM⟩ ⟨rfl, rfl, rfl, rfl, rfl, rfl⟩ ones_nil ?_ w hH rfl
  simp [fm_run_dg, go_sem, rc, runInv, ctDigit]
  refine ⟨⟨0, rfl, by omega, by simp⟩, fun x k hx hk hr => ?_⟩
  subst hx
  by_cases hlt : (a : Int) + k < s.length
  · have hi : a + k < s.length := by omega
    have e : ((a : Int) + (k : Int)).toNat = a + k := by omega
    have hlt' : ¬ ((s.length : Int) ≤ a + k) := by omega
    cases hp : dgB (bt s (a + k))
    · rw [rn_no hi hp] at hr
      have hk' : (k : Int) = (rn dgB s a : Int) := by omega
      simp [hlt, hlt', e, hp]
      (repeat' apply And.intro) <;> try omega
      rw [hk']
      simpa [rc] using hφ
    · rw [rn_yes hi hp] at hr
      simp [hlt, hlt', e, hp]
      (repeat' apply And.intro) <;> try omega
      exact ⟨k + 1, by omega, by omega, by rw [show a + (k + 1) = a + k + 1 by omega]; omega⟩
  · have hge : (s.length : Int) ≤ a + k := by omega
    rw [rn_end (i := a + k) (by omega)] at hr
    have hk' : (k : Int) = (rn dgB s a : Int) := by omega
    simp [hlt, hge]
    (repeat' apply And.intro) <;> try omega
    rw [hk']
    simpa [rc] using hφ
theorem run_inner {s : List UInt8} {a : Nat} {l c : Int} {T b : Nat} (ha : a ≤ s.length) (hs : s.length ≤ 1000000) (h : Hp) (φ : Value → Hp → Prop) (hφ : φ (.int .i64 (rn inB s a)) (h.set b ⟨rc s a l c, T⟩)) (w : World) (hH : Holds (h.set b ⟨rc s a l c, T⟩) w) :
    Calls Tryd.prog 31 #[.pointer (some ⟨b, 0, none⟩), .func (.func 33) #[] #[]] w fun e w' => ∃ v k, e = .returned v ∧ φ v k ∧ Holds k w' ∧ Fr w.heap.size (h.set b ⟨rc s a l c, T⟩) k w w' := by
  refine by_fmP Tryd.func31 gen_run_in [ctInner] φ (runInv inB s a l c T b h) (fun _ C => (s.length - C.i.getD 0 0).toNat) ⟨[], [], [], [], [], [some (b, 0)], h.set b ⟨rc s a l c, T⟩, noM⟩ ⟨rfl, rfl, rfl, rfl, rfl, rfl⟩ ones_nil ?_ w hH rfl
  simp [fm_run_in, go_sem, rc, runInv, ctInner]
  refine ⟨⟨0, rfl, by omega, by simp⟩, fun x k hx hk hr => ?_⟩
  subst hx
  by_cases hlt : (a : Int) + k < s.length
  · have hi : a + k < s.length := by omega
    have e : ((a : Int) + (k : Int)).toNat = a + k := by omega
    have hlt' : ¬ ((s.length : Int) ≤ a + k) := by omega
    cases hp : inB (bt s (a + k))
    · rw [rn_no hi hp] at hr
      have hk' : (k : Int) = (rn inB s a : Int) := by omega
      simp [hlt, hlt', e, hp]
      (repeat' apply And.intro) <;> try omega
      rw [hk']
      simpa [rc] using hφ
    · rw [rn_yes hi hp] at hr
      simp [hlt, hlt', e, hp]
      (repeat' apply And.intro) <;> try omega
      exact ⟨k + 1, by omega, by omega, by rw [show a + (k + 1) = a + k + 1 by omega]; omega⟩
  · have hge : (s.length : Int) ≤ a + k := by omega
    rw [rn_end (i := a + k) (by omega)] at hr
    have hk' : (k : Int) = (rn inB s a : Int) := by omega
    simp [hlt, hge]
    (repeat' apply And.intro) <;> try omega
    rw [hk']
    simpa [rc] using hφ
theorem run_nl {s : List UInt8} {a : Nat} {l c : Int} {T b : Nat} (ha : a ≤ s.length) (hs : s.length ≤ 1000000) (h : Hp) (φ : Value → Hp → Prop) (hφ : φ (.int .i64 (rn nlB s a)) (h.set b ⟨rc s a l c, T⟩)) (w : World) (hH : Holds (h.set b ⟨rc s a l c, T⟩) w) :
    Calls Tryd.prog 31 #[.pointer (some ⟨b, 0, none⟩), .func (.func 32) #[] #[]] w fun e w' => ∃ v k, e = .returned v ∧ φ v k ∧ Holds k w' ∧ Fr w.heap.size (h.set b ⟨rc s a l c, T⟩) k w w' := by
  refine by_fmP Tryd.func31 gen_run_nl [ctSkip1] φ (runInv nlB s a l c T b h) (fun _ C => (s.length - C.i.getD 0 0).toNat) ⟨[], [], [], [], [], [some (b, 0)], h.set b ⟨rc s a l c, T⟩, noM⟩ ⟨rfl, rfl, rfl, rfl, rfl, rfl⟩ ones_nil ?_ w hH rfl
  simp [fm_run_nl, go_sem, rc, runInv, ctSkip1]
  refine ⟨⟨0, rfl, by omega, by simp⟩, fun x k hx hk hr => ?_⟩
  subst hx
  by_cases hlt : (a : Int) + k < s.length
  · have hi : a + k < s.length := by omega
    have e : ((a : Int) + (k : Int)).toNat = a + k := by omega
    have hlt' : ¬ ((s.length : Int) ≤ a + k) := by omega
    cases hp : nlB (bt s (a + k))
    · rw [rn_no hi hp] at hr
      have hk' : (k : Int) = (rn nlB s a : Int) := by omega
      simp [hlt, hlt', e, hp]
      (repeat' apply And.intro) <;> try omega
      rw [hk']
      simpa [rc] using hφ
    · rw [rn_yes hi hp] at hr
      simp [hlt, hlt', e, hp]
      (repeat' apply And.intro) <;> try omega
      exact ⟨k + 1, by omega, by omega, by rw [show a + (k + 1) = a + k + 1 by omega]; omega⟩
  · have hge : (s.length : Int) ≤ a + k := by omega
    rw [rn_end (i := a + k) (by omega)] at hr
    have hk' : (k : Int) = (rn nlB s a : Int) := by omega
    simp [hlt, hge]
    (repeat' apply And.intro) <;> try omega
    rw [hk']
    simpa [rc] using hφ
end Go.Proofs.YtogalfbemmcaaaaDoor
