/- Tokens, part ZI: the law of notes: its walk. -/
import Derived.Test.YtogalfbemmcaaaaDoorLexZH
namespace Go.Proofs.YtogalfbemmcaaaaDoor
open Go.RowKit
attribute [local go_sem] says_tt says_ff th_need th_ite th_call th_load th_store th_mk th_new th_mks th_str says_ret says_again says_app BE.den IE.den SE.den LE.den AE.den CE.den PE.den VE.den KV.val Got.den Got.cnt exI allI exL allL Ctx.push Ctx.heap Ctx.cut Ctx.bare Ctx.mark Inc.blank List.getD_cons_zero List.getD_cons_succ List.cons_append List.nil_append List.append_nil List.map_cons List.map_nil List.replicate_zero List.replicate_succ specOf ltB_t leB_t ltB_f leB_f slc_val slc_nil slc_inj pt_val pt_nil hle_noHeap hle_refl hread_set hwrite_set set_same set_set noHeap_at B_inj ones_nil and_assoc
theorem hread_part {h : Hp} {b o n : Nat} {cs : List Value} (hr : hread h (some (b, o)) n = some cs) {k m : Nat} (hk : k + m ≤ n) : hread h (some (b, o + k)) m = some ((cs.drop k).take m) := by
  unfold hread at hr ⊢
  simp only at hr ⊢
  cases hb : h b with
  | none => rw [hb] at hr; cases hr
  | some x =>
    rw [hb] at hr
    simp only at hr ⊢
    split at hr
    · rename_i hle
      cases hr
      rw [if_pos (by omega), List.drop_take, List.take_take, List.drop_drop, Nat.min_eq_left (by omega)]
    · cases hr
theorem kx_eq (a b : Tok) : kx a = kx b ↔ a.k = b.k ∧ a.n = b.n ∧ a.x = b.x := by simp [kx]
def sameAt (s1 s2 : Slc) (l : List Tok) (h : Hp) (_ : Nat) (C : Ctx) : Prop := ∃ (j : Nat) (y : Bool), C = ⟨[(j : Nat)], [y], [], [], [s1, s2], [], h, noM⟩ ∧ j ≤ l.length
set_option maxHeartbeats 4000000 in
def ctAlike : Ct Tryd.prog where
  f := 12
  spec := fun args h φ => ∃ s1 s2 l m, args = [s1.val, s2.val] ∧ TS h s1 l ∧ TS h s2 m ∧ l.length ≤ 1000000 ∧ l.map kx = m.map kx ∧ φ (.bool true) h
  ok := by
    rintro args h φ w ⟨s1, s2, l, m, rfl, t1, t2, hl, hk, hφ⟩ hH
    have n1 := t1.1
    have n2 := t2.1
    have hn : l.length = m.length := by simpa using congrArg List.length hk
    refine by_fm Tryd.func12 gen_alike ps_alike [] φ (sameAt s1 s2 l h) (fun _ C => ((l.length : Int) - C.i.getD 0 0).toNat) ⟨[], [], [], [], [s1, s2], [], h, noM⟩ ⟨rfl, rfl, rfl, rfl, rfl, rfl⟩ ones_nil ?_ w hH rfl
    generalize hE : (⟨specOf _, _, _, _⟩ : Env) = E
    have ep : E.post = φ := by rw [← hE]
    have ei : E.inv = sameAt s1 s2 l h := by rw [← hE]
    have em : E.meas = fun _ C => ((l.length : Int) - C.i.getD 0 0).toNat := by rw [← hE]
    clear hE
    unfold fm_alike
    rw [th_ite, if_neg (by simp [go_sem]; omega), then_step]
    refine loop_intro ?_ ?_
    · rw [ei]; exact ⟨0, false, rfl, by omega⟩
    rw [ei, em]
    rintro i bb ss v ll pp hh M ⟨j, y, hC, h3⟩ hM
    cases hC
    have hM' : M 0 = ((l.length : Int) - j).toNat := hM
    clear hM
    rw [← then_step]
    by_cases hj : j < l.length
    · obtain ⟨b1, c1, T1, r1, rfl, k1⟩ := t1.slc hj
      obtain ⟨b2, c2, T2, r2, rfl, k2⟩ := t2.slc (hn ▸ hj)
      have hjz : (j : Int) < l.length := by omega
      have hjm : (j : Int) < m.length := by omega
      have q1 := TS.read k1 hj
      have q2 := TS.read k2 (hn ▸ hj)
      have he : kx l[j] = kx (m[j]'(hn ▸ hj)) := by
        have h1 : (l.map kx)[j]? = (m.map kx)[j]? := by rw [hk]
        rw [List.getElem?_map, List.getElem?_map, List.getElem?_eq_getElem hj, List.getElem?_eq_getElem (hn ▸ hj)] at h1
        simpa using h1
      rw [kx_eq] at he
      obtain ⟨e1, e2, e3⟩ := he
      generalize l[j] = x at *
      generalize m[j]'(hn ▸ hj) = x' at *
      have a0 : hread h (some (b1, j * 5)) 1 = some [.int .u8 x.k] := hread_part q1 (k := 0) (m := 1) (by omega)
      have a3 : hread h (some (b1, j * 5 + 3)) 1 = some [.int .i64 x.n] := hread_part q1 (k := 3) (m := 1) (by omega)
      have a4 : hread h (some (b1, j * 5 + 4)) 1 = some [.string (B x.x)] := hread_part q1 (k := 4) (m := 1) (by omega)
      have b0 : hread h (some (b2, j * 5)) 1 = some [.int .u8 x.k] := by rw [e1]; exact hread_part q2 (k := 0) (m := 1) (by omega)
      have b3 : hread h (some (b2, j * 5 + 3)) 1 = some [.int .i64 x.n] := by rw [e2]; exact hread_part q2 (k := 3) (m := 1) (by omega)
      have b4 : hread h (some (b2, j * 5 + 4)) 1 = some [.string (B x.x)] := by rw [e3]; exact hread_part q2 (k := 4) (m := 1) (by omega)
      clear q1 q2 e1 e2 e3
      iterate 24 (try simp only [then_step]; try simp [go_sem, ei, em, hjz, hjm, a0, a3, a4, b0, b3, b4])
      refine ⟨by omega, by omega, ⟨j + 1, y, by simp, by omega⟩, by omega⟩
    · have hjz : ¬ (j : Int) < l.length := by omega
      have hjs : ¬ (j : Int) < s1.n := by omega
      iterate 2 (try simp only [then_step]; try simp [go_sem, ep, hjs])
      exact hφ
theorem lexA_lenN : ∀ (m : Nat) (s : List UInt8) (i : Nat) (p : Int × Int) (acc : List Tok), (lexA m s i p acc).2.length ≤ acc.length + m
  | 0, _, _, _, _ => Nat.le_refl _
  | m + 1, s, i, p, acc => by
    rw [lexA]
    split
    · simp
    · split
      · refine Nat.le_trans (lexA_lenN m _ _ _ _) ?_
        simp; omega
      · simp
theorem nlT_len {note : List UInt8} (hn : note.length ≤ 30) (u : List UInt8) : (nlT note u).length ≤ u.length * 35 := by
  induction u with
  | nil => simp [nlT]
  | cons c r ih =>
    have : nlT note (c :: r) = nlG note c ++ nlT note r := by simp [nlT]
    rw [this, List.length_append]
    have : (nlG note c).length ≤ 35 := by unfold nlG; split <;> simp; omega
    simp; omega
theorem nlT_snoc (note s : List UInt8) {i : Nat} (h : i < s.length) : nlT note (s.take (i + 1)) = nlT note (s.take i) ++ nlG note s[i] := by
  rw [List.take_succ_eq_append_getElem h, nlT_app]; simp [nlT]
def noInvN (s note : List UInt8) : Nat → Ctx → Prop
  | 0, C => ∃ (k : Nat) (y : Bool), C = ⟨[(k : Nat)], [y], [s, note], [], [], [], noHeap, noM⟩ ∧ k ≤ note.length ∧ ∀ j, j < k → bt note j ≠ 10
  | _ + 1, C => ∃ (x0 : Int) (i : Nat) (y : Bool), C = ⟨[x0, (i : Nat)], [y], [s, note, [32, 9] ++ nlT note (s.take i)], [], [], [], noHeap, noM⟩ ∧ i ≤ s.length
def noMeasN (s note : List UInt8) : Nat → Ctx → Nat
  | 0, C => ((note.length : Int) - C.i.getD 0 0).toNat
  | _ + 1, C => ((s.length : Int) - C.i.getD 1 0).toNat
set_option maxRecDepth 100000 in
set_option maxHeartbeats 4000000 in
theorem law_notes_l (s note : List UInt8) (w : World) : Calls Tryd.prog 5 #[.string (B s), .string (B note)] w fun e w' => e = .returned (.bool true) ∧ Below w.heap.size w w' := by
  refine by_fm0 Tryd.func5 gen_lnotes ps_lnotes [ctAwake, ctTokens, ctAlike] _ (noInvN s note) (noMeasN s note) ⟨[], [], [s, note], [], [], [], noHeap, noM⟩ rfl ⟨rfl, rfl, rfl, rfl, rfl, rfl⟩ ones_nil ?_ w rfl
  generalize hE : (⟨specOf _, _, _, _⟩ : Env) = E
  have s1 : E.spec 8 = ctAwake.spec := by rw [← hE]; rfl
  have s2 : E.spec 9 = ctTokens.spec := by rw [← hE]; rfl
  have s3 : E.spec 12 = ctAlike.spec := by rw [← hE]; rfl
  have ep : E.post = fun v _ => v = .bool true := by rw [← hE]
  have ei : E.inv = noInvN s note := by rw [← hE]
  have em : E.meas = noMeasN s note := by rw [← hE]
  clear hE
  unfold fm_lnotes
  rw [th_ite]
  by_cases hl : 1000 < s.length ∨ 30 < note.length
  · rw [if_pos (by simp [go_sem]; omega), then_step, th_call, if_pos (by rfl), s1]
    refine ⟨rfl, (fun h => by cases h), ?_⟩
    simp [go_sem]
    simp only [then_step]; simp [go_sem, ep]
  rw [if_neg (by simp [go_sem]; omega), then_step]
  refine loop_intro ?_ ?_
  · rw [ei]; exact ⟨0, false, rfl, by omega, fun j hj => by omega⟩
  rw [ei, em]
  rintro i bb ss v ll pp hh M ⟨k, y, hC, hk, hno⟩ hM
  cases hC
  have hM' : M 0 = ((note.length : Int) - k).toNat := hM
  clear hM
  rw [← then_step]
  by_cases hkl : k < note.length
  · have hz : (k : Int) < note.length := by omega
    by_cases h10 : bt note k = 10
    · iterate 6 (try simp only [then_step]; try simp [go_sem, ep, s1, ctAwake, hz, hkl, h10])
    · iterate 6 (try simp only [then_step]; try simp [go_sem, ei, em, hz, hkl, h10])
      refine ⟨by omega, by omega, ⟨k + 1, y, by simp, by omega, fun j hj => ?_⟩, ?_⟩
      · by_cases e : j = k
        · subst e; exact h10
        · exact hno j (by omega)
      · simp only [noMeasN, List.getD_cons_zero]; omega
  have hz : ¬ (k : Int) < note.length := by omega
  have hn : ∀ c ∈ note, c ≠ 10 := by
    intro c hc e
    obtain ⟨j, hj⟩ := List.getElem?_of_mem hc
    have hjl := (List.getElem?_eq_some_iff.1 hj).1
    have := hno j (by omega)
    rw [bt_eq note j hjl, (List.getElem?_eq_some_iff.1 hj).2, e] at this
    exact this rfl
  iterate 1 (try simp only [then_step]; try simp [go_sem, hz])
  try rw [then_step]
  refine loop_intro ?_ ?_
  · rw [ei]
    exact ⟨(k : Nat), 0, y, by simp [go_sem, Ctx.bare, Got.den, nlT], by omega⟩
  rw [ei, em]
  rintro i' bb ss v ll pp hh M1 ⟨x0, i, y, hC, hi⟩ hM
  cases hC
  have hM1 : M1 1 = ((s.length : Int) - i).toNat := hM
  clear hM hM' hno hz
  have htl := nlT_len (note := note) (by omega) (s.take i)
  rw [List.length_take, Nat.min_eq_left hi] at htl
  rw [← then_step]
  by_cases hil : i < s.length
  · have hz : (i : Int) < s.length := by omega
    have e1 : ((i : Int) + 1).toNat = i + 1 := by omega
    have hsn := nlT_snoc note s hil
    by_cases h10 : bt s i = 10
    · have h10' : s[i] = 10 := by rw [bt_eq s i hil] at h10; exact u8_10.1 h10
      rw [h10'] at hsn
      iterate 8 (try simp only [then_step]; try simp [go_sem, ei, em, hz, hil, h10])
      refine ⟨by omega, by omega, by omega, by omega, by omega, ⟨x0, i + 1, y, by rw [hsn, show ((i + 1 : Nat) : Int) = (i : Int) + 1 by omega]; simp [nlG], by omega⟩, ?_⟩
      simp only [noMeasN, List.getD_cons_succ, List.getD_cons_zero]
      omega
    · have h10' : s[i] ≠ 10 := fun e => h10 (by rw [bt_eq s i hil]; exact u8_10.2 e)
      have hsub : List.drop i (List.take (i + 1) s) = [s[i]] := by
        have := sub_snoc s (Nat.le_refl i) hil
        rw [sub_same] at this
        exact this
      iterate 8 (try simp only [then_step]; try simp [go_sem, ei, em, hz, hil, h10, e1, hsub])
      refine ⟨by omega, by omega, by omega, by omega, by omega, by omega, by omega, by omega, ⟨x0, i + 1, y, by rw [hsn, show ((i + 1 : Nat) : Int) = (i : Int) + 1 by omega]; simp [nlG, h10'], by omega⟩, ?_⟩
      simp only [noMeasN, List.getD_cons_succ, List.getD_cons_zero]
      omega
  · have hz : ¬ (i : Int) < s.length := by omega
    have hii : s.take i = s := List.take_of_length_le (by omega)
    rw [hii] at htl ⊢
    iterate 1 (try simp only [then_step]; try simp [go_sem, hz])
    rw [then_step, th_call, if_pos (by rfl), s2]
    refine ⟨s, rfl, ?_⟩
    rw [if_neg (by omega)]
    by_cases hf : (lexAll s).1.1 = 0
    rotate_left
    · rw [if_neg hf]
      refine ⟨(fun h => by cases h), ?_⟩
      simp [go_sem]
      iterate 4 (try simp only [then_step]; try simp [go_sem, ep, s1, ctAwake, hf])
    rw [if_pos hf]
    intro sl k1 hle hown hsn
    refine ⟨(fun h => by cases h), ?_⟩
    simp [go_sem]
    rw [then_step, th_ite, if_neg (by simp [go_sem])]
    rw [then_step, th_need]
    refine ⟨by simp [go_sem]; omega, ?_⟩
    rw [then_step, th_need]
    refine ⟨by simp [go_sem]; omega, ?_⟩
    rw [then_step, th_call, if_pos (by rfl), s2]
    refine ⟨[32, 9] ++ nlT note s ++ nlE note, by simp [go_sem, nlE], ?_⟩
    obtain ⟨g1, g2⟩ := lex_notes hn hf
    have htlen : ([32, 9] ++ nlT note s ++ nlE note).length ≤ 36000 := by
      simp [nlE]; omega
    rw [if_neg (by omega), if_pos g1]
    intro sl2 k2 hle2 hown2 hsn2
    refine ⟨(fun h => by cases h), ?_⟩
    simp [go_sem]
    have hlen : (lexAll s).2.length ≤ 1000000 := by
      have : (lexAll s).2.length ≤ ([] : List Tok).length + (s.length + 1) := lexA_lenN (s.length + 1) s 0 (1, 1) []
      simp at this; omega
    rw [then_step, th_call, if_pos (by rfl), s3]
    refine ⟨sl, sl2, _, _, rfl, (TS.of_own hown hsn).le hle2, TS.of_own hown2 hsn2, hlen, g2.symm, (fun h => by cases h), ?_⟩
    simp [go_sem]
    iterate 3 (try simp only [then_step]; try simp [go_sem, ep, s1, ctAwake])
theorem law_notes (s note : ByteArray) (w : World) : Calls Tryd.prog 5 #[.string s, .string note] w fun e w' => e = .returned (.bool true) ∧ Below w.heap.size w w' := by
  rw [string_B s, string_B note]; exact law_notes_l _ _ w
end Go.Proofs.YtogalfbemmcaaaaDoor
