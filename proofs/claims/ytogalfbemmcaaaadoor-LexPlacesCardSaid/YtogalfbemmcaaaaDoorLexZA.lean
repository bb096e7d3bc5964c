/- Tokens, part ZA: the reference's token at a place: the walk. -/
import Derived.Test.YtogalfbemmcaaaaDoorLexZ
namespace Go.Proofs.YtogalfbemmcaaaaDoor
open Go.RowKit
attribute [local go_sem] says_tt says_ff th_need th_ite th_call th_load th_store says_ret says_again BE.den IE.den SE.den LE.den AE.den CE.den PE.den VE.den KV.val Got.den Got.cnt exI allI exL allL Ctx.push Ctx.heap Ctx.cut Ctx.bare Ctx.mark Inc.blank List.getD_cons_zero List.getD_cons_succ List.cons_append List.nil_append List.append_nil List.map_cons List.map_nil List.replicate_zero List.replicate_succ specOf ltB_t leB_t ltB_f leB_f slc_val slc_nil slc_inj pt_val pt_nil hle_noHeap hle_refl hread_set hwrite_set set_same set_set noHeap_at B_inj ones_nil and_assoc
def TWO : List (List UInt8) := [[38, 38], [124, 124], [61, 61], [33, 61], [60, 61], [62, 61]]
def ONE : List UInt8 := [43, 45, 42, 47, 37, 60, 62, 33, 61, 40, 41, 123, 125, 91, 93, 44, 59, 58, 46]
theorem all_two : allSigns = TWO ++ ONE.map fun c => [c] := rfl
theorem find_hit {α : Type} (P : α → Bool) : ∀ (l : List α) (j : Nat) (x : α), l[j]? = some x → P x = true → (∀ k y, k < j → l[k]? = some y → P y = false) → l.find? P = some x
  | [], j, x, h, _, _ => by cases h
  | a :: l, 0, x, h, hp, _ => by
    have e : a = x := by simpa using h
    rw [List.find?_cons, e, hp]
  | a :: l, j + 1, x, h, hp, hn => by
    rw [List.find?_cons, hn 0 a (by omega) rfl]
    exact find_hit P l j x (by simpa using h) hp (fun k y hk hy => hn (k + 1) y (by omega) (by simpa using hy))
theorem find_miss {α : Type} (P : α → Bool) (l : List α) (h : ∀ (k : Nat) y, l[k]? = some y → P y = false) : l.find? P = none := by
  rw [List.find?_eq_none]
  intro x hx
  obtain ⟨k, hk⟩ := List.getElem?_of_mem hx
  rw [h k x hk]; simp
theorem two_pre {s p : List UInt8} {i : Nat} (hp : p.length = 2) : p.isPrefixOf (s.drop i) = true ↔ (i + 2 ≤ s.length ∧ sub s i (i + 2) = p) := by
  have e : sub s i (i + 2) = (s.drop i).take 2 := by
    unfold sub; rw [List.drop_take]; congr 1; omega
  rw [List.isPrefixOf_iff_prefix, List.prefix_iff_eq_take, hp, e]
  constructor
  · intro h
    have := congrArg List.length h
    rw [hp, List.length_take, List.length_drop] at this
    exact ⟨by omega, h.symm⟩
  · intro h; exact h.2.symm
theorem one_pre {s : List UInt8} {i : Nat} (hi : i < s.length) (c : UInt8) : [c].isPrefixOf (s.drop i) = true ↔ bt s i = c.toNat := by
  rw [List.drop_eq_getElem_cons hi, bt_eq s i hi]
  simp [List.isPrefixOf]
  constructor
  · rintro rfl; rfl
  · intro h; exact (UInt8.toNat_inj.1 (by omega))
def NoTwo (s : List UInt8) (i0 j : Nat) : Prop := ∀ (k : Nat) y, k < j → TWO[k]? = some y → y.isPrefixOf (s.drop i0) = false
def oInv (h : Hp) (s : List UInt8) (i0 : Nat) : Nat → Ctx → Prop
  | 0, C => ∃ kx a0 a1 j a3 a4 a5 a6 t b, C = ⟨[(i0 : Nat), kx, a0, a1, (j : Nat), a3, a4, a5, a6], [], [s, t], [], [⟨some (b, 0), 6, 6⟩], [], Hp.set h b ⟨strs TWO, 9⟩, noM⟩ ∧ h b = none ∧ j ≤ 6 ∧ NoTwo s i0 j
  | _ + 1, C => ∃ kx a0 a1 a2 a3 a4 a5 a6 c0 c1 j c3 c4 c5 c6 t t' b, C = ⟨[(i0 : Nat), kx, a0, a1, a2, a3, a4, a5, a6, c0, c1, (j : Nat), c3, c4, c5, c6], [], [s, t, t'], [], [⟨some (b, 0), 6, 6⟩], [], Hp.set h b ⟨strs TWO, 9⟩, noM⟩ ∧ h b = none ∧ j ≤ 19 ∧ NoTwo s i0 6 ∧
      ∀ (k : Nat) y, k < j → ONE[k]? = some y → bt s i0 ≠ y.toNat
def oMeas : Nat → Ctx → Nat
  | 0, C => (6 - C.i.getD 4 0).toNat
  | _ + 1, C => (19 - C.i.getD 11 0).toNat
theorem one_sg {s : List UInt8} {i0 : Nat} (hk : ¬ (kdi (bt s i0) = 1 ∨ kdi (bt s i0) = 2)) (hk3 : ¬ kdi (bt s i0) = 3) (h34 : ¬ bt s i0 = 34) : one s i0 = if sg (s.drop i0) = [] then ⟨4, 0, [], 0, 0⟩ else ⟨0, 7, sg (s.drop i0), 0, i0 + (sg (s.drop i0)).length⟩ := by
  unfold one
  rw [if_neg hk, if_neg hk3, if_neg h34]
theorem sg_two {s : List UInt8} {i0 j : Nat} {x : List UInt8} (hn : NoTwo s i0 j) (hx : TWO[j]? = some x) (hp : x.isPrefixOf (s.drop i0) = true) : sg (s.drop i0) = x := by
  unfold sg
  rw [all_two, List.find?_append, find_hit (fun p => p.isPrefixOf (s.drop i0)) TWO j x hx hp (fun k y hk hy => hn k y hk hy)]
  rfl
theorem miss_two {s : List UInt8} {i0 : Nat} (hn : NoTwo s i0 6) : TWO.find? (fun p => p.isPrefixOf (s.drop i0)) = none :=
  find_miss _ _ fun k y hy => hn k y (by have := (List.getElem?_eq_some_iff.1 hy).1; exact this) hy
theorem sg_one {s : List UInt8} {i0 j : Nat} {c : UInt8} (hi : i0 < s.length) (hn : NoTwo s i0 6) (hj : ∀ (k : Nat) y, k < j → ONE[k]? = some y → bt s i0 ≠ y.toNat) (hx : ONE[j]? = some c) (hp : bt s i0 = c.toNat) : sg (s.drop i0) = [c] := by
  unfold sg
  rw [all_two, List.find?_append, miss_two hn, Option.none_or, find_hit (fun p => p.isPrefixOf (s.drop i0)) (ONE.map fun c => [c]) j [c] (by simp [hx]) ((one_pre hi c).2 hp) (fun k y hk hy => ?_)]
  · rfl
  · simp only [List.getElem?_map, Option.map_eq_some_iff] at hy
    obtain ⟨d, hd, rfl⟩ := hy
    cases hq : [d].isPrefixOf (s.drop i0)
    · rfl
    · exact absurd ((one_pre hi d).1 hq) (hj k d hk hd)
theorem sg_none {s : List UInt8} {i0 : Nat} (hi : i0 < s.length) (hn : NoTwo s i0 6) (hj : ∀ (k : Nat) y, k < 19 → ONE[k]? = some y → bt s i0 ≠ y.toNat) : sg (s.drop i0) = [] := by
  unfold sg
  rw [all_two, List.find?_append, miss_two hn, Option.none_or, find_miss (fun p => p.isPrefixOf (s.drop i0)) (ONE.map fun c => [c]) (fun k y hy => ?_)]
  · rfl
  · simp only [List.getElem?_map, Option.map_eq_some_iff] at hy
    obtain ⟨d, hd, rfl⟩ := hy
    cases hq : [d].isPrefixOf (s.drop i0)
    · rfl
    · exact absurd ((one_pre hi d).1 hq) (hj k d (by have := (List.getElem?_eq_some_iff.1 hd).1; exact this) hd)
set_option maxRecDepth 100000 in
set_option maxHeartbeats 8000000 in
def ctROne : Ct Tryd.prog where
  f := 13
  spec := fun args h φ => ∃ s i0, args = [.string (B s), .int .i64 (i0 : Nat)] ∧ i0 < s.length ∧ s.length ≤ 100000 ∧
    (if (one s i0).f = 0 then φ (.tuple #[tkv (one s i0).k 0 0 (one s i0).n (one s i0).x, .int .i64 ((one s i0).e : Nat), .int .i64 0]) h
      else ∀ kk, φ (.tuple #[tkv kk 0 0 0 [], .int .i64 0, .int .i64 (one s i0).f]) h)
  ok := by
    rintro args h φ w ⟨s, i0, rfl, hi0, hlen, hφ⟩ hH
    refine ct_forget (by_fm Tryd.func13 gen_rone ps_rone [ctKind, ctRInner, ctRWord, ctRNumber, ctRRead] (fun v k => ∃ k', HLe k' k ∧ φ v k') (oInv h s i0) oMeas ⟨[(i0 : Nat)], [], [s], [], [], [], h, noM⟩ ⟨rfl, rfl, rfl, rfl, rfl, rfl⟩ ones_nil ?_ w hH rfl)
    generalize hE : (⟨specOf _, _, _, _⟩ : Env) = E
    have s1 : E.spec 26 = ctKind.spec := by rw [← hE]; rfl
    have s2 : E.spec 27 = ctRInner.spec := by rw [← hE]; rfl
    have s3 : E.spec 15 = ctRWord.spec := by rw [← hE]; rfl
    have s4 : E.spec 28 = ctRNumber.spec := by rw [← hE]; rfl
    have s5 : E.spec 29 = ctRRead.spec := by rw [← hE]; rfl
    have ep : E.post = fun v k => ∃ k', HLe k' k ∧ φ v k' := by rw [← hE]
    have ei : E.inv = oInv h s i0 := by rw [← hE]
    have em : E.meas = oMeas := by rw [← hE]
    clear hE
    have hz : (i0 : Int) < s.length := by omega
    rw [← then_step]; unfold fm_rone
    by_cases k1 : kdi (bt s i0) = 1
    · iterate 4 (try simp only [then_step]; try simp [go_sem, s1, ctKind, hz, hi0, k1])
      have hin : inB (bt s i0) = true := by simp [inB, k1]
      have hone : one s i0 = ⟨0, nameK (bt s i0) (sub s i0 (i0 + rn inB s i0)), sub s i0 (i0 + rn inB s i0), 0, i0 + rn inB s i0⟩ := by unfold one; rw [if_pos (.inl k1)]
      have hle := rn_le (p := inB) (s := s) (i := i0) (by omega)
      rw [hone, if_pos rfl] at hφ
      rw [then_step, th_call, if_pos (by rfl), s2]
      refine ⟨s, i0, rfl, by omega, by omega, by omega, (fun h => by cases h), ?_⟩
      rw [Int.toNat_natCast]
      simp [go_sem]
      generalize rn inB s i0 = N at *
      have e1 : ((i0 : Int) + N).toNat = i0 + N := by omega
      have e2 : List.drop i0 (List.take (i0 + N) s) = sub s i0 (i0 + N) := rfl
      iterate 5 (try simp only [then_step]; try simp [go_sem, s1, ctKind, hz, hi0, k1, e1, e2, ep])
      refine ⟨by omega, by omega, by omega, ?_⟩
      rw [s3]
      refine ⟨sub s i0 (i0 + N), rfl, fun k' hk' => ?_⟩
      have hk2' : ¬ kdi (bt s i0) = 2 := by omega
      unfold nameK at hφ
      rw [if_neg hk2'] at hφ
      cases hw : wordB (sub s i0 (i0 + N))
      · rw [hw] at hφ
        refine .inl ⟨rfl, ?_⟩
        iterate 2 (try simp only [then_step]; try simp [go_sem, ep, e1, e2])
        exact ⟨h, hk', by simpa [tkv] using hφ⟩
      · rw [hw] at hφ
        refine .inr ⟨rfl, ?_⟩
        iterate 2 (try simp only [then_step]; try simp [go_sem, ep, e1, e2])
        exact ⟨h, hk', by simpa [tkv] using hφ⟩
    by_cases k2 : kdi (bt s i0) = 2
    · iterate 4 (try simp only [then_step]; try simp [go_sem, s1, ctKind, hz, hi0, k2])
      have hin : inB (bt s i0) = true := by simp [inB, k2]
      have hone : one s i0 = ⟨0, nameK (bt s i0) (sub s i0 (i0 + rn inB s i0)), sub s i0 (i0 + rn inB s i0), 0, i0 + rn inB s i0⟩ := by unfold one; rw [if_pos (.inr k2)]
      have hle := rn_le (p := inB) (s := s) (i := i0) (by omega)
      rw [hone, if_pos rfl] at hφ
      rw [then_step, th_call, if_pos (by rfl), s2]
      refine ⟨s, i0, rfl, by omega, by omega, by omega, (fun h => by cases h), ?_⟩
      rw [Int.toNat_natCast]
      simp [go_sem]
      generalize rn inB s i0 = N at *
      have e1 : ((i0 : Int) + N).toNat = i0 + N := by omega
      have e2 : List.drop i0 (List.take (i0 + N) s) = sub s i0 (i0 + N) := rfl
      iterate 5 (try simp only [then_step]; try simp [go_sem, s1, ctKind, hz, hi0, k2, e1, e2, ep])
      unfold nameK at hφ
      rw [if_pos k2] at hφ
      exact ⟨by omega, by omega, by omega, h, fun _ _ h => h, by simpa [tkv] using hφ⟩
    by_cases k3 : kdi (bt s i0) = 3
    · iterate 5 (try simp only [then_step]; try simp [go_sem, s1, ctKind, hz, hi0, k3])
      have hone : one s i0 = ⟨(nm s i0).1, (nm s i0).2.1, [], (nm s i0).2.2.1, (nm s i0).2.2.2⟩ := by unfold one; rw [if_neg (by omega), if_pos k3]
      rw [hone] at hφ
      rw [then_step, th_call, if_pos (by rfl), s4]
      refine ⟨s, i0, rfl, hi0, hlen, by simp [dgB, k3], ?_⟩
      by_cases hn : (nm s i0).1 = 0
      · rw [if_pos hn] at hφ ⊢
        refine ⟨(fun h => by cases h), ?_⟩
        simp only [tkv]
        simp [go_sem]
        iterate 1 (try simp only [then_step]; try simp [go_sem, ep])
        exact ⟨h, fun _ _ h => h, by simpa [tkv] using hφ⟩
      · rw [if_neg hn] at hφ ⊢
        intro kk
        refine ⟨(fun h => by cases h), ?_⟩
        simp only [tkv]
        simp [go_sem]
        iterate 1 (try simp only [then_step]; try simp [go_sem, ep])
        exact ⟨h, fun _ _ h => h, by simpa [tkv] using hφ kk⟩
    by_cases h34 : bt s i0 = 34
    · have hk34 : kdi 34 = 0 := by decide
      iterate 8 (try simp only [then_step]; try simp [go_sem, s1, ctKind, hz, hi0, k1, k2, k3, h34, hk34])
      refine ⟨by omega, ?_⟩
      have hdl : (s.drop i0).length = s.length - i0 := List.length_drop
      have htl : List.drop i0 (List.take s.length s) = s.drop i0 := by rw [List.take_length]
      have hk12 : ¬ (kdi (bt s i0) = 1 ∨ kdi (bt s i0) = 2) := by omega
      rw [then_step, th_call, if_pos (by rfl), s5]
      refine ⟨s.drop i0, by simp [go_sem, htl], by omega, ?_⟩
      cases hq : rdq (s.drop i0) with
      | none =>
        have hone : one s i0 = ⟨4, 0, [], 0, 0⟩ := by
          unfold one; rw [if_neg hk12, if_neg k3, if_pos h34, hq]
        rw [hone, if_neg (by decide)] at hφ
        intro t n
        refine ⟨(fun h => by cases h), ?_⟩
        simp [go_sem]
        iterate 2 (try simp only [then_step]; try simp [go_sem, ep])
        exact ⟨h, fun _ _ h => h, by simpa [tkv] using hφ 0⟩
      | some r =>
        obtain ⟨t, m⟩ := r
        obtain ⟨m1, m2, _⟩ := rdq_some hq
        have hone : one s i0 = ⟨0, 5, t, 0, i0 + m⟩ := by
          unfold one; rw [if_neg hk12, if_neg k3, if_pos h34, hq]
        rw [hone, if_pos rfl] at hφ
        refine ⟨(fun h => by cases h), ?_⟩
        simp [go_sem]
        iterate 3 (try simp only [then_step]; try simp [go_sem, ep])
        exact ⟨by omega, by omega, h, fun _ _ h => h, by simpa [tkv] using hφ⟩
    iterate 7 (try simp only [then_step]; try simp [go_sem, s1, ctKind, hz, hi0, k1, k2, k3, h34])
    have hk12 : ¬ (kdi (bt s i0) = 1 ∨ kdi (bt s i0) = 2) := by omega
    have hone := one_sg hk12 k3 h34
    rw [then_step, th_mk]
    intro b hb
    refine loop_intro ?_ ?_
    · rw [ei]
      exact ⟨kdi (bt s i0), 0, 0, 0, 0, 0, 0, 0, [], b, rfl, hb, by omega, fun k y hk => by omega⟩
    rw [ei, em]
    rintro i' bb ss v ll pp hh0 M ⟨kx, a0, a1, j, a3, a4, a5, a6, t, b', hC, hb', hj6, hno⟩ hM
    cases hC
    have hM' : M 0 = ((6 : Int) - j).toNat := hM
    clear hM hb
    have hle' : HLe h (Hp.set h b' ⟨strs TWO, 9⟩) := hle_set hb' _
    have kb : (Hp.set h b' ⟨strs TWO, 9⟩) b' = some ⟨strs TWO, 9⟩ := set_same _ _ _
    generalize hHd : Hp.set h b' ⟨strs TWO, 9⟩ = H at *
    rw [← then_step]
    by_cases hj : j < 6
    · have hjz : (j : Int) < 6 := by omega
      obtain ⟨x, hx⟩ : ∃ x, TWO[j]? = some x := ⟨_, List.getElem?_eq_getElem (show j < TWO.length from hj)⟩
      have hx2 : x.length = 2 := by
        have hall : TWO.all (fun x => decide (x.length = 2)) = true := by decide
        simpa using List.all_eq_true.1 hall x (List.mem_of_getElem? hx)
      have hrd := hread_strs kb hx
      have e1 : ((i0 : Int) + 2).toNat = i0 + 2 := by omega
      have e2 : List.drop i0 (List.take (i0 + 2) s) = sub s i0 (i0 + 2) := rfl
      have nt : x.isPrefixOf (s.drop i0) = false → NoTwo s i0 (j + 1) := fun hf k y hk hy => by
        by_cases e : k = j
        · subst e; rw [hx] at hy; cases hy; exact hf
        · exact hno k y (by omega) hy
      by_cases h2 : i0 + 2 ≤ s.length
      · have h2z : (i0 : Int) + 2 ≤ s.length := by omega
        by_cases hp : sub s i0 (i0 + 2) = x
        · have hsg := sg_two hno hx ((two_pre hx2).2 ⟨h2, hp⟩)
          rw [hsg, if_neg (by intro e; rw [e] at hx2; cases hx2)] at hone
          rw [hone, if_pos rfl] at hφ
          iterate 11 (try simp only [then_step]; try simp [go_sem, ep, hjz, hrd, h2z, e1, e2, hp])
          refine ⟨by omega, by omega, by omega, by omega, by omega, by omega, by omega, by omega, h, hle', ?_⟩
          have hl2 : ((i0 + x.length : Nat) : Int) = (i0 : Int) + 2 := by omega
          simpa [tkv, hl2, hx2] using hφ
        · iterate 11 (try simp only [then_step]; try simp [go_sem, ei, em, hjz, hrd, h2z, e1, e2, hp])
          refine ⟨by omega, by omega, by omega, by omega, by omega, by omega, by omega, by omega, ⟨kx, a0, a1, j + 1, a3, a4, a5, a6, t, b', by rw [hHd, show ((j + 1 : Nat) : Int) = (j : Int) + 1 by omega], hb', by omega, nt ?_⟩, ?_⟩
          · cases hq : x.isPrefixOf (s.drop i0)
            · rfl
            · exact absurd ((two_pre hx2).1 hq).2 hp
          · simp only [oMeas, List.getD_cons_succ, List.getD_cons_zero]
            omega
      · have h2z : ¬ (i0 : Int) + 2 ≤ s.length := by omega
        iterate 11 (try simp only [then_step]; try simp [go_sem, ei, em, hjz, h2z])
        refine ⟨by omega, by omega, by omega, by omega, ⟨kx, a0, a1, j + 1, a3, a4, a5, a6, t, b', by rw [hHd, show ((j + 1 : Nat) : Int) = (j : Int) + 1 by omega], hb', by omega, nt ?_⟩, ?_⟩
        · cases hq : x.isPrefixOf (s.drop i0)
          · rfl
          · exact absurd ((two_pre hx2).1 hq).1 h2
        · simp only [oMeas, List.getD_cons_succ, List.getD_cons_zero]
          omega
    · have hjz : ¬ (j : Int) < 6 := by omega
      iterate 1 (try simp only [then_step]; try simp [go_sem, hjz])
      try rw [then_step]
      refine loop_intro ?_ ?_
      · rw [ei]
        exact ⟨kx, a0, a1, (j : Nat), a3, a4, a5, a6, a0, a1, 0, a3, a4, a5, a6, t, t, b', by rw [hHd]; rfl, hb', by omega, by rw [show j = 6 by omega] at hno; exact hno, fun k y hk => by omega⟩
      · clear hno hM' hj6 hj hjz
        clear hle' kb hHd
        rw [ei, em]
        rintro i' bb ss v ll pp hh1 M1 ⟨kx1, d0, d1, d2, d3, d4, d5, d6, c0, c1, j1, c3, c4, c5, c6, t1, t2, b1, hC, hb1, hj19, hno6, hn1⟩ hM
        cases hC
        have hM' : M1 1 = ((19 : Int) - j1).toNat := hM
        clear hM
        have hle' : HLe h (Hp.set h b1 ⟨strs TWO, 9⟩) := hle_set hb1 _
        generalize hHd : Hp.set h b1 ⟨strs TWO, 9⟩ = H1 at *
        have hONE : ([43, 45, 42, 47, 37, 60, 62, 33, 61, 40, 41, 123, 125, 91, 93, 44, 59, 58, 46] : List UInt8) = ONE := rfl
        have hol : ONE.length = 19 := rfl
        rw [← then_step]
        by_cases hj : j1 < 19
        · have hjz : (j1 : Int) < 19 := by omega
          obtain ⟨c, hc⟩ : ∃ c, ONE[j1]? = some c := ⟨_, List.getElem?_eq_getElem (show j1 < ONE.length from hj)⟩
          have hob : bt ONE j1 = c.toNat := by
            have hjl : j1 < ONE.length := hj
            rw [bt_eq ONE j1 hjl, (List.getElem?_eq_some_iff.1 hc).2]
          have e1 : ((j1 : Int) + 1).toNat = j1 + 1 := by omega
          have e3 : List.drop j1 (List.take (j1 + 1) ONE) = [c] := by
            have hjl : j1 < ONE.length := hj
            have := sub_cons ONE (i := j1) (j := j1 + 1) (by omega) hjl
            rw [sub_same, (List.getElem?_eq_some_iff.1 hc).2] at this
            exact this
          by_cases hp : bt s i0 = bt ONE j1
          · have hsg := sg_one hi0 hno6 hn1 hc (by rw [hp, hob])
            rw [hsg, if_neg (by simp)] at hone
            rw [hone, if_pos rfl] at hφ
            iterate 9 (try simp only [then_step]; try simp [go_sem, ep, hONE, hol, hjz, hz, hi0, hp, e1, e3])
            exact ⟨by omega, by omega, by omega, by omega, by omega, by omega, by omega, h, hle', by simpa [tkv] using hφ⟩
          · iterate 9 (try simp only [then_step]; try simp [go_sem, ei, em, hONE, hol, hjz, hz, hi0, hp, e1, e3])
            refine ⟨by omega, by omega, ⟨kx1, d0, d1, d2, d3, d4, d5, d6, c0, c1, j1 + 1, c3, c4, c5, c6, t1, t2, b1, by rw [hHd, show ((j1 + 1 : Nat) : Int) = (j1 : Int) + 1 by omega], hb1, by omega, hno6, fun k y hk hy => ?_⟩, ?_⟩
            · by_cases e : k = j1
              · subst e; rw [hc] at hy; cases hy; rw [← hob]; exact hp
              · exact hn1 k y (by omega) hy
            · simp only [oMeas, List.getD_cons_succ, List.getD_cons_zero]
              omega
        · have hjz : ¬ (j1 : Int) < 19 := by omega
          have hsg := sg_none hi0 hno6 (by rw [show j1 = 19 by omega] at hn1; exact hn1)
          rw [hsg, if_pos rfl] at hone
          rw [hone, if_neg (by decide)] at hφ
          iterate 3 (try simp only [then_step]; try simp [go_sem, ep, hONE, hol, hjz])
          exact ⟨h, hle', by simpa [tkv] using hφ 0⟩
end Go.Proofs.YtogalfbemmcaaaaDoor
