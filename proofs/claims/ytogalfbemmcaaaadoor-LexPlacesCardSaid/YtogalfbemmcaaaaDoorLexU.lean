/- Tokens, part U: a literal is gone over. -/
import Derived.Test.YtogalfbemmcaaaaDoorLexT
namespace Go.Proofs.YtogalfbemmcaaaaDoor
open Go.RowKit
attribute [local go_sem] says_tt says_ff th_need th_ite th_call th_load th_store th_mk th_new th_mks th_str says_ret says_again says_app BE.den IE.den SE.den LE.den AE.den CE.den PE.den VE.den KV.val Got.den Got.cnt exI allI exL allL Ctx.push Ctx.heap Ctx.cut Ctx.bare Ctx.mark Inc.blank List.getD_cons_zero List.getD_cons_succ List.cons_append List.nil_append List.append_nil List.map_cons List.map_nil List.replicate_zero List.replicate_succ specOf ltB_t leB_t ltB_f leB_f slc_val slc_nil slc_inj pt_val pt_nil hle_noHeap hle_refl hread_set hwrite_set set_same set_set noHeap_at B_inj ones_nil and_assoc
/-- What is known at a byte of a literal. -/
structure QI (h : Hp) (s : List UInt8) (b : Nat) (i : Nat) (used : Bool) (sl : Slc) (acc : List UInt8) (hh : Hp) : Prop where
  bld : Bld hh b used sl acc
  kept : HLe h hh
  nb : h b = none
  fresh : ∀ z, sl.a = some z → h z.1 = none
  lo : 1 ≤ i
  le : i ≤ s.length
  cnt : acc.length ≤ i
  all : ∃ m, s.length < m + i ∧ rdA s.length s 1 [] = rdA m s i acc
def qInv (h : Hp) (s : List UInt8) : Nat → Ctx → Prop
  | 0, C => ∃ x0 i y t b used sl acc hh, C = ⟨[x0, (i : Nat)], [y], [s, t], [], [], [some (b, 0)], hh, noM⟩ ∧ QI h s b i used sl acc hh
  | _ + 1, C => ∃ x0 i x2 j n k y y' t t' b used sl acc hh, C = ⟨[x0, (i : Nat), x2, (j : Nat), n, (k : Nat)], [y, y'], [s, t, t'], [], [], [some (b, 0)], hh, noM⟩ ∧ QI h s b i used sl acc hh ∧
    i + 1 < s.length ∧ bt s i = 92 ∧ bt s (i + 1) = 120 ∧ j = i + 1 + k ∧ ((k = 0 ∧ n = 0) ∨ (k = 1 ∧ i + 2 < s.length ∧ n = hx (bt s (i + 2)) ∧ 0 ≤ n) ∨ (k = 2 ∧ i + 3 < s.length ∧ n = 16 * hx (bt s (i + 2)) + hx (bt s (i + 3)) ∧ 0 ≤ hx (bt s (i + 2)) ∧ 0 ≤ hx (bt s (i + 3))))
def qMeas (s : List UInt8) : Nat → Ctx → Nat
  | 0, C => ((s.length : Int) - C.i.getD 1 0).toNat
  | _ + 1, C => (2 - C.i.getD 5 0).toNat
/-- A loop within another one: the names of outside stay. -/
theorem loop_in {E : Env} {o : Nat} {g : Got} {k : Fm} {C : Ctx} (h1 : E.inv o (C.push (g.den C)).bare)
    (h2 : ∀ (x : Inc) h M, x.cnt = g.cnt → E.inv o ((C.push x).heap h).bare → M o = E.meas o ((C.push x).heap h).bare → (∀ j, j ≠ o → M j = C.m j) → k.says E ⟨C.i ++ x.i, C.b ++ x.b, C.s ++ x.s, C.v ++ x.v, C.l ++ x.l, C.p ++ x.p, h, M⟩) : (Fm.loop o g k).says E C := by
  refine ⟨h1, (allI_iff _ _).2 fun x hx _ h hi => ?_⟩
  exact h2 x h (fun j => if j = o then E.meas o ((C.push x).heap h).bare else C.m j) hx hi (by simp) (fun j hj => by simp [hj])
theorem bt_bd (s : List UInt8) (i : Nat) : 0 ≤ bt s i ∧ bt s i ≤ 255 := by
  unfold bt
  have := (s.getD i 0).toNat_lt
  omega
/-- A byte more. -/
theorem QI.next {h : Hp} {s : List UInt8} {b i i' : Nat} {used : Bool} {sl : Slc} {acc : List UInt8} {hh : Hp} (Q : QI h s b i used sl acc hh) {x : UInt8} {sl' : Slc} {k : Hp} (h1 : Bld k b true sl' (acc ++ [x])) (h2 : ∀ c o, c ≠ b → (∀ z, sl.a = some z → z.1 ≠ c) → hh c = some o → k c = some o)
    (h3 : ∀ z, sl'.a = some z → (∃ y, sl.a = some y ∧ y.1 = z.1) ∨ hh z.1 = none) (hi : i < i') (hl : i' ≤ s.length) (hs : ∀ m, rdA (m + 1) s i acc = rdA m s i' (acc ++ [x])) : QI h s b i' true sl' (acc ++ [x]) k := by
  refine ⟨h1, fun c o hc => h2 c o (fun e => by rw [e, Q.nb] at hc; cases hc) (fun z hz e => by have := Q.fresh z hz; rw [e, hc] at this; cases this) (Q.kept c o hc), Q.nb, fun z hz => ?_, by have := Q.lo; omega, hl, by have := Q.cnt; simp; omega, ?_⟩
  · rcases h3 z hz with ⟨y, hy, e⟩ | hn
    · rw [← e]; exact Q.fresh y hy
    · cases hq : h z.1 with
      | none => rfl
      | some o => rw [Q.kept _ _ hq] at hn; cases hn
  · obtain ⟨m, hm, he⟩ := Q.all
    have hle := Q.le
    obtain ⟨m', rfl⟩ : ∃ m', m = m' + 1 := ⟨m - 1, by omega⟩
    exact ⟨m', by omega, by rw [he, hs]⟩
theorem QI.stop {h : Hp} {s : List UInt8} {b i : Nat} {used : Bool} {sl : Slc} {acc : List UInt8} {hh : Hp} (Q : QI h s b i used sl acc hh) {r : Option (List UInt8 × Nat)} (hs : ∀ m, rdA (m + 1) s i acc = r) : rdA s.length s 1 [] = r := by
  obtain ⟨m, hm, he⟩ := Q.all
  have hle := Q.le
  obtain ⟨m', rfl⟩ : ∃ m', m = m' + 1 := ⟨m - 1, by omega⟩
  rw [he, hs]
theorem hx_hi (b : Int) : hx b ≤ 15 := by
  unfold hx; split
  · omega
  · split
    · omega
    · split <;> omega
theorem ones1 {v : Value} (h : v.oneCell' = true) : Ones [v] := fun u hu => by simp at hu; subst hu; exact h
set_option maxRecDepth 100000 in
set_option maxHeartbeats 8000000 in
def ctRead : Ct Tryd.prog where
  f := 48
  spec := fun args h φ => ∃ s, args = [.string (B s)] ∧ s.length ≤ 100000 ∧
    (match rdq s with
      | some (t, e) => φ (.tuple #[.string (B t), .int .i64 (e : Nat), .bool true]) h
      | none => ∀ t n, φ (.tuple #[.string (B t), .int .i64 n, .bool false]) h)
  ok := by
    rintro args h φ w ⟨s, rfl, hlen, hφ⟩ hH
    refine ct_forget (by_fm Tryd.func48 gen_qread ps_qread [ctString, ctWriteByte, ctQDigit] (fun v k => ∃ k', HLe k' k ∧ φ v k') (qInv h s) (qMeas s) ⟨[], [], [s], [], [], [], h, noM⟩ ⟨rfl, rfl, rfl, rfl, rfl, rfl⟩ ones_nil ?_ w hH rfl)
    generalize hE : (⟨specOf _, _, _, _⟩ : Env) = E
    have s1 : E.spec 56 = ctString.spec := by rw [← hE]; rfl
    have s2 : E.spec 57 = ctWriteByte.spec := by rw [← hE]; rfl
    have s3 : E.spec 58 = ctQDigit.spec := by rw [← hE]; rfl
    have ep : E.post = fun v k => ∃ k', HLe k' k ∧ φ v k' := by rw [← hE]
    have ei : E.inv = qInv h s := by rw [← hE]
    have em : E.meas = qMeas s := by rw [← hE]
    clear hE
    unfold rdq at hφ
    have no : ∀ {hh}, HLe h hh → rdA s.length s 1 [] = none → ∀ t n, ∃ k', HLe k' hh ∧ φ (.tuple #[.string (B t), .int .i64 n, .bool false]) k' := fun hle hr t n => by
      refine ⟨h, hle, ?_⟩
      rw [hr] at hφ
      split at hφ
      · rename_i heq; split at heq <;> cases heq
      · exact hφ t n
    rw [← then_step]; unfold fm_qread
    by_cases hs0 : s = []
    · subst hs0
      rw [if_pos (.inl rfl)] at hφ
      iterate 3 (try simp only [then_step]; try simp [go_sem, ep])
      exact ⟨h, fun _ _ h => h, hφ _ _⟩
    have hpos : 0 < s.length := List.length_pos_iff.2 hs0
    by_cases h34 : bt s 0 = 34
    · rw [if_neg (by omega)] at hφ
      have wr : ∀ {hh used sl acc i b} (Q : QI h s b i used sl acc hh) (x : Int), 0 ≤ x → x ≤ 255 → ∀ {i'}, i < i' → i' ≤ s.length → (∀ m, rdA (m + 1) s i acc = rdA m s i' (acc ++ [ub x])) → ∀ ψ : Value → Hp → Prop,
          (∀ sl' k', QI h s b i' true sl' (acc ++ [ub x]) k' → ψ .nilIface k') → ctWriteByte.spec [.pointer (some ⟨b, 0, none⟩), .int .u8 x] hh ψ := by
        intro hh used sl acc i b Q x x0 x1 i' h1 h2 h3 ψ h4
        have := Q.cnt
        have := Q.le
        exact ⟨b, used, sl, acc, x, rfl, Q.bld, x0, x1, by omega, fun sl' k hB hf hr => h4 sl' k (Q.next hB hf hr h1 h2 h3)⟩
      iterate 2 (simp only [then_step]; simp [go_sem, hs0, h34])
      simp only [then_step, th_new]
      refine ⟨hpos, fun b hb => ?_⟩
      refine loop_intro ?_ ?_
      · rw [ei]
        refine ⟨0, 1, false, [], b, false, ⟨none, 0, 0⟩, [], h.set b ⟨bld b false ⟨none, 0, 0⟩, BT⟩, rfl, ⟨⟨set_same _ _ _, .inl ⟨rfl, rfl⟩, rfl, fun _ hz => (by cases hz), fun _ => rfl, fun hz => absurd rfl hz⟩, hle_set hb _, hb, fun _ hz => (by cases hz), Nat.le_refl _, hpos, Nat.zero_le _, s.length, by omega, rfl⟩⟩
      · rw [ei, em]
        rintro i' bb ss v ll pp hh0 M ⟨x0, i, y, t, b', used, sl, acc, hh, hC, Q⟩ hM
        cases hC
        have hM' : M 0 = ((s.length : Int) - i).toNat := hM
        clear hM hb
        have hile := Q.le
        have hibd := bt_bd s i
        rw [← then_step]
        by_cases hil : i = s.length
        · have hz : (i : Int) = s.length := by omega
          iterate 5 (try simp only [then_step]; try simp [go_sem, ep, hz])
          exact no Q.kept (Q.stop fun m => by rw [rdA, if_pos (.inl (by omega))]) _ _
        have hlt : i < s.length := by omega
        have hz : ¬ (i : Int) = s.length := by omega
        have hz2 : (i : Int) < s.length := by omega
        by_cases hpr : bt s i < 32 ∨ 126 < bt s i
        · iterate 4 (try simp only [then_step]; try simp [go_sem, ep, hz, hz2, hpr])
          exact no Q.kept (Q.stop fun m => by rw [rdA, if_pos (.inr hpr)]) _ _
        have p1 : ¬ bt s i < 32 := by omega
        have p2 : ¬ 126 < bt s i := by omega
        by_cases q34 : bt s i = 34
        · iterate 6 (try simp only [then_step]; try simp [go_sem, ep, hz, hz2, p1, p2, q34])
          have hr : rdA s.length s 1 [] = some (acc, i + 1) := Q.stop fun m => by rw [rdA, if_neg (by omega), if_pos q34]
          rw [hr] at hφ
          rw [s1]
          refine ⟨b', used, sl, acc, rfl, Q.bld, ?_⟩
          refine ⟨acc, rfl, ?_⟩
          have hd : HLe h (hh0.drop sl) := fun c o hc => by
            have h1 := Q.kept c o hc
            unfold Hp.drop
            cases hsa : sl.a with
            | none => exact h1
            | some z =>
              simp only [Hp.del]
              rw [if_neg (fun e => by have := Q.fresh z hsa; rw [← e, hc] at this; cases this)]
              exact h1
          iterate 3 (try simp only [then_step]; try simp [go_sem, ep])
          refine ⟨by omega, by omega, h, hd, ?_⟩
          simpa using hφ
        by_cases q92 : bt s i = 92
        · have e1 : ((i : Int) + 1).toNat = i + 1 := by omega
          have hibd1 := bt_bd s (i + 1)
          by_cases hi1 : i + 1 = s.length
          · have hz1 : (i : Int) + 1 = s.length := by omega
            iterate 12 (try simp only [then_step]; try simp [go_sem, ep, hz, hz2, p1, p2, q34, q92, hz1])
            exact ⟨by omega, no Q.kept (Q.stop fun m => by rw [rdA, if_neg (by omega), if_neg q34, if_neg (fun h => h q92), if_pos (by omega)]) _ _⟩
          have hz1 : ¬ (i : Int) + 1 = s.length := by omega
          have hz3 : (i : Int) + 1 < s.length := by omega
          have fin2 : ∀ {sl' k' acc'}, QI h s b' (i + 2) true sl' acc' k' → E.inv 0 ⟨[x0, ↑i + 1 + 1], [y], [s, t], [], [], [some (b', 0)], k', noM⟩ ∧ E.meas 0 ⟨[x0, ↑i + 1 + 1], [y], [s, t], [], [], [some (b', 0)], k', noM⟩ < M 0 := by
            intro sl' k' acc' Q'
            rw [ei, em]
            refine ⟨⟨x0, i + 2, y, t, b', true, sl', acc', k', by rw [show ((i + 2 : Nat) : Int) = (i : Int) + 1 + 1 by omega], Q'⟩, ?_⟩
            simp only [qMeas, List.getD_cons_succ, List.getD_cons_zero]
            omega
          by_cases c34 : bt s (i + 1) = 34
          · iterate 18 (try simp only [then_step]; try simp [go_sem, ep, hz, hz1, hz3, hz2, p1, p2, q34, q92, e1, c34])
            refine ⟨by omega, by omega, by omega, ?_⟩
            rw [s2]
            exact wr Q 34 (by omega) (by omega) (i' := i + 2) (by omega) (by omega) (fun m => by rw [rdA, if_neg (by omega), if_neg q34, if_neg (fun h => h q92), if_neg (by omega), if_pos (.inl c34), c34]) _ (fun sl' k' Q' => ⟨.nilIface, ones1 rfl, rfl, by omega, by omega, fin2 Q'⟩)
          by_cases c92 : bt s (i + 1) = 92
          · iterate 18 (try simp only [then_step]; try simp [go_sem, ep, hz, hz1, hz3, hz2, p1, p2, q34, q92, e1, c92])
            refine ⟨by omega, by omega, by omega, ?_⟩
            rw [s2]
            exact wr Q 92 (by omega) (by omega) (i' := i + 2) (by omega) (by omega) (fun m => by rw [rdA, if_neg (by omega), if_neg q34, if_neg (fun h => h q92), if_neg (by omega), if_pos (.inr c92), c92]) _ (fun sl' k' Q' => ⟨.nilIface, ones1 rfl, rfl, by omega, by omega, fin2 Q'⟩)
          by_cases c110 : bt s (i + 1) = 110
          · iterate 18 (try simp only [then_step]; try simp [go_sem, ep, hz, hz1, hz3, hz2, p1, p2, q34, q92, e1, c110])
            refine ⟨by omega, by omega, by omega, ?_⟩
            rw [s2]
            exact wr Q 10 (by omega) (by omega) (i' := i + 2) (by omega) (by omega) (fun m => by rw [rdA, if_neg (by omega), if_neg q34, if_neg (fun h => h q92), if_neg (by omega), if_neg (by omega), if_pos c110]; rfl) _ (fun sl' k' Q' => ⟨.nilIface, ones1 rfl, rfl, by omega, by omega, fin2 Q'⟩)
          by_cases c116 : bt s (i + 1) = 116
          · iterate 18 (try simp only [then_step]; try simp [go_sem, ep, hz, hz1, hz3, hz2, p1, p2, q34, q92, e1, c116])
            refine ⟨by omega, by omega, by omega, ?_⟩
            rw [s2]
            exact wr Q 9 (by omega) (by omega) (i' := i + 2) (by omega) (by omega) (fun m => by rw [rdA, if_neg (by omega), if_neg q34, if_neg (fun h => h q92), if_neg (by omega), if_neg (by omega), if_neg c110, if_pos c116]; rfl) _ (fun sl' k' Q' => ⟨.nilIface, ones1 rfl, rfl, by omega, by omega, fin2 Q'⟩)
          by_cases c120 : bt s (i + 1) = 120
          · iterate 18 (try simp only [then_step]; try simp [go_sem, ep, hz, hz1, hz3, hz2, p1, p2, q34, q92, e1, c120])
            refine ⟨by omega, by omega, by omega, ?_⟩
            refine loop_in ?_ ?_
            · rw [ei]
              exact ⟨x0, i, x0, i + 1, 0, 0, y, y, t, t, b', used, sl, acc, hh0, by simp [go_sem, Ctx.bare, Got.den], Q, by omega, q92, c120, rfl, .inl ⟨rfl, rfl⟩⟩
            · rintro ⟨xi, xb, xs, xv, xl, xp⟩ h' M' hc hinv hm hM1
              rw [ei] at hinv
              rw [em] at hm
              obtain ⟨x0', i2, x2, j, n, k, y1, y2, t1, t2, b2, used2, sl2, acc2, hh2, hC, Q2, a1, a2, a3, a4, a5⟩ := hinv
              simp [Ctx.push, Ctx.heap, Ctx.bare] at hC
              obtain ⟨⟨rfl, hii, rfl⟩, ⟨rfl, rfl⟩, ⟨rfl, rfl⟩, rfl, rfl, ⟨rfl, rfl⟩, rfl⟩ := hC
              obtain rfl : i2 = i := by omega
              have hm' : M' 1 = ((2 : Int) - k).toNat := hm
              have hM0 : M' 0 = M 0 := hM1 0 (by decide)
              clear hm hM1 hc
              have hno : ¬ (i2 + 3 < s.length ∧ 0 ≤ hx (bt s (i2 + 2)) ∧ 0 ≤ hx (bt s (i2 + 3))) → rdA s.length s 1 [] = none := fun hn => Q2.stop fun m => by
                rw [rdA, if_neg (by omega), if_neg q34, if_neg (fun h => h q92), if_neg (by omega), if_neg (by omega), if_neg (by omega), if_neg (by omega), if_pos c120, if_neg hn]
              have e2 : ((j : Int) + 1).toNat = j + 1 := by omega
              have hjd := bt_bd s (j + 1)
              have hx15 := hx_hi (bt s (i2 + 2))
              have hx16 := hx_hi (bt s (i2 + 3))
              have hx17 := hx_hi (bt s (j + 1))
              rw [← then_step]
              by_cases hk : k < 2
              · have hkz : (k : Int) < 2 := by omega
                have hjj : j + 1 = i2 + 2 ∨ j + 1 = i2 + 3 := by omega
                by_cases hjl : j + 1 = s.length
                · have hjz : (j : Int) + 1 = s.length := by omega
                  iterate 12 (try simp only [then_step]; try simp [go_sem, ep, hkz, hjz])
                  exact ⟨by omega, no Q2.kept (hno (by omega)) _ _⟩
                have hjz : ¬ (j : Int) + 1 = s.length := by omega
                have hjz3 : (j : Int) + 1 < s.length := by omega
                by_cases hneg : hx (bt s (j + 1)) < 0
                · iterate 12 (try simp only [then_step]; try simp [go_sem, ep, s3, ctQDigit, hkz, hjz, hjz3, e2, hjd.1, hjd.2, hneg])
                  exact ⟨by omega, by omega, by omega, no Q2.kept (hno (by
                    rintro ⟨_, g1, g2⟩
                    rcases hjj with e | e <;> rw [e] at hneg <;> omega)) _ _⟩
                · iterate 12 (try simp only [then_step]; try simp [go_sem, ep, s3, ctQDigit, hkz, hjz, hjz3, e2, hjd.1, hjd.2, hneg])
                  refine ⟨by omega, by omega, by omega, by omega, by omega, by omega, by omega, by omega, by omega, by omega, ?_, ?_⟩
                  · rw [ei]
                    refine ⟨x0, i2, x2, j + 1, 16 * n + hx (bt s (j + 1)), k + 1, y, y2, t, t2, b', used2, sl2, acc2, h', by simp, Q2, a1, q92, c120, by omega, ?_⟩
                    rcases a5 with ⟨g1, g2⟩ | ⟨g1, g2, g3, g4⟩ | ⟨g1, _⟩
                    · have e : j + 1 = i2 + 2 := by omega
                      rw [e] at hneg ⊢
                      exact .inr (.inl ⟨by omega, by omega, by omega, by omega⟩)
                    · have e : j + 1 = i2 + 3 := by omega
                      rw [e] at hneg ⊢
                      exact .inr (.inr ⟨by omega, by omega, by rw [g3], by omega, by omega⟩)
                    · omega
                  · rw [em]
                    simp only [qMeas, List.getD_cons_succ, List.getD_cons_zero]
                    omega
              · have hkz : ¬ (k : Int) < 2 := by omega
                have hw : IntKind.u8.wrap n = n := by rw [IntKind.wrap_u8]; omega
                iterate 12 (try simp only [then_step]; try simp [go_sem, ep, hkz, hw])
                obtain ⟨g1, g2, g3, g4, g5⟩ : k = 2 ∧ i2 + 3 < s.length ∧ n = 16 * hx (bt s (i2 + 2)) + hx (bt s (i2 + 3)) ∧ 0 ≤ hx (bt s (i2 + 2)) ∧ 0 ≤ hx (bt s (i2 + 3)) := by
                  rcases a5 with ⟨g1, _⟩ | ⟨g1, _⟩ | g
                  · omega
                  · omega
                  · exact g
                rw [s2]
                refine wr Q2 n (by omega) (by omega) (i' := i2 + 4) (by omega) (by omega) (fun m => by
                  rw [rdA, if_neg (by omega), if_neg q34, if_neg (fun h => h q92), if_neg (by omega), if_neg (by omega), if_neg (by omega), if_neg (by omega), if_pos c120, if_pos ⟨g2, g4, g5⟩, g3]) _ (fun sl' k' Q' => ⟨.nilIface, ones1 rfl, rfl, by omega, by omega, ?_, ?_⟩)
                · rw [ei]
                  exact ⟨x2, i2 + 4, y2, t2, b', true, sl', _, k', by rw [show ((i2 + 4 : Nat) : Int) = (j : Int) + 1 by omega], Q'⟩
                · rw [em]
                  simp only [qMeas, List.getD_cons_succ, List.getD_cons_zero]
                  omega
          · have co : bt s (i + 1) ≠ 34 ∧ bt s (i + 1) ≠ 92 := ⟨c34, c92⟩
            iterate 18 (try simp only [then_step]; try simp [go_sem, ep, hz, hz1, hz3, hz2, p1, p2, q34, q92, e1, c34, c92, c110, c116, c120])
            refine ⟨by omega, by omega, by omega, ?_⟩
            exact no Q.kept (Q.stop fun m => by rw [rdA, if_neg (by omega), if_neg q34, if_neg (fun h => h q92), if_neg (by omega), if_neg (by omega), if_neg c110, if_neg c116, if_neg c120]) _ _
        · iterate 7 (try simp only [then_step]; try simp [go_sem, ep, hz, hz2, p1, p2, q34, q92])
          rw [s2]
          refine wr Q (bt s i) hibd.1 hibd.2 (Nat.lt_succ_self i) (by omega) (fun m => by rw [rdA, if_neg (by omega), if_neg q34, if_pos q92]) _ (fun sl' k' Q' => ?_)
          refine ⟨.nilIface, fun u hu => by simp at hu; subst hu; rfl, rfl, ?_⟩
          iterate 2 (try simp only [then_step]; try simp [go_sem, ei, em])
          refine ⟨by omega, by omega, ⟨x0, i + 1, y, t, b', true, sl', _, k', by simp, Q'⟩, ?_⟩
          simp only [qMeas, List.getD_cons_succ, List.getD_cons_zero]
          omega
    · rw [if_pos (.inr h34)] at hφ
      iterate 3 (try simp only [then_step]; try simp [go_sem, ep, hs0, h34])
      refine ⟨by omega, h, fun _ _ h => h, hφ _ _⟩
end Go.Proofs.YtogalfbemmcaaaaDoor
