/- The engine, part D: operations that yield a value. -/
import Derived.Test.YtcfopechdlgioaaGreatDoorEngC
import Derived.Laws.StructEq
namespace Go.Proofs.YtcfopechdlgioaaGreatDoor
open Go.RowKit

section
variable {P : Program} {C : Ctx} {ρ : Nat → Nat} {w : World}

theorem isAgg_run (t : TypeId) {d : TypeDesc} (h : P.underlying t = some d) : (isAgg t).run P w = .ok (isAggB P t) w := by
  unfold isAgg isAggB
  rw [h]
  cases d <;> simp [run_underlying h]
theorem sizeOf_run {t : TypeId} {n : Nat} (h : sizeB P t = some n) : (sizeOf t).run P w = .ok n w := by
  unfold sizeB at h
  simp only [Option.map_eq_some_iff] at h
  obtain ⟨i, hi, rfl⟩ := h
  simp [sizeOf, typeInfo, hi]
theorem i64rng_in {e : IE} (h : (i64rng e).den C = true) : IntKind.i64.wrap (e.den C) = e.den C := by
  simp only [i64rng, BE.den, IE.den, Bool.and_eq_true, ltB_t, leB_t] at h
  exact IntWalk.i64_in _ h
theorem arith_den {nw : Cfg} {k : IntKind} {e : IE} {c : BE} {v : PE} (h : arith nw k e = (c, v)) (hc : c.den C = true) : v.den C ρ = .int k (k.wrap (e.den C)) := by
  unfold arith at h
  split at h
  · rename_i hk
    simp only [Bool.and_eq_true, beq_iff_eq] at hk
    obtain ⟨_, rfl⟩ := hk
    cases h
    show Value.int .i64 (e.den C) = _
    rw [i64rng_in hc]
  · cases h; rfl

theorem eqGuard_int (op : BinOp) (t : TypeId) (x y : Operand) (k k' : IntKind) (a b : Int) : (eqGuard op t x y (.int k a) (.int k' b)).run P w = .ok () w := by
  unfold eqGuard; cases op <;> rfl
theorem eqGuard_bool (op : BinOp) (t : TypeId) (x y : Operand) (a b : Bool) : (eqGuard op t x y (.bool a) (.bool b)).run P w = .ok () w := by
  unfold eqGuard; cases op <;> rfl
theorem eqGuard_string (op : BinOp) (t : TypeId) (x y : Operand) (a b : ByteArray) : (eqGuard op t x y (.string a) (.string b)).run P w = .ok () w := by
  unfold eqGuard; cases op <;> rfl

theorem intOp_sound {nw : Cfg} {op : BinOp} {t : TypeId} {k : IntKind} {a b : IE} {c : BE} {v : PE} (hsl : op ≠ .shl) (hsr : op ≠ .shr) (h : intOp nw op k a b = some (c, v)) (hc : c.den C = true) :
    (binOp op t (.int k (a.den C)) (.int k (b.den C))).run P w = .ok (v.den C ρ) w := by
  cases op <;> simp only [intOp, Option.some.injEq, reduceCtorEq] at h <;> simp only [binOp, ne_eq, not_true_eq_false, if_false]
  case add => rw [arith_den h hc]; rfl
  case sub => rw [arith_den h hc]; rfl
  case mul => rw [arith_den h hc]; rfl
  case quo =>
    cases h
    have hb : b.den C ≠ 0 := by simpa [BE.den, IE.den, ltB_t, leB_t] using hc
    simp [Op.intDiv, hb, PE.den, CE.den, IE.den]
  case rem =>
    cases h
    have hb : b.den C ≠ 0 := by simpa [BE.den, IE.den, ltB_t, leB_t] using hc
    simp [Op.intDiv, hb, PE.den, CE.den, IE.den]
  all_goals first
    | exact absurd rfl hsl
    | exact absurd rfl hsr
    | (cases h; simp [Op.intBits, Op.intCmp, PE.den, CE.den, IE.den, BE.den, ibits, bne, ltB, leB])

theorem strOp_sound {op : BinOp} {a b : SE} {c : BE} {v : PE} {t : TypeId} (h : strOp op a b = some (c, v)) (hc : c.den C = true) :
    (binOp op t (.string (B (a.den C))) (.string (B (b.den C)))).run P w = .ok (v.den C ρ) w := by
  have hb : binOp op t (.string (B (a.den C))) (.string (B (b.den C))) = Op.stringOp op (B (a.den C)) (B (b.den C)) := by
    cases op <;> rfl
  rw [hb]
  cases op <;> simp only [strOp, Option.some.injEq, reduceCtorEq] at h
  case add =>
    cases h
    rw [run_add_B _ _ (by simp only [BE.den, IE.den, ltB_t, leB_t] at hc; omega)]
    rfl
  all_goals (cases h; simp [Op.stringOp, B_toList, PE.den, CE.den, BE.den])

theorem eq_bool {t : TypeId} (hu : P.underlying t = some .bool) (x y : Bool) : (Op.equal t (.bool x) (.bool y)).run P w = .ok (x == y) w := by
  unfold Op.equal Op.maxDepth
  rw [show (10000 : Nat) = 9999 + 1 from rfl, Op.equalIn, Sem.run_bind, run_underlying hu]
  rfl
theorem eqGuard_slice (op : BinOp) (t : TypeId) (x y : Operand) (a b : Slc) : (eqGuard op t x y a.val b.val).run P w = .ok () w := by
  unfold eqGuard; cases op <;> rfl
theorem eqGuard_pt (op : BinOp) (t : TypeId) (x y : Operand) (a b : Option Addr) : (eqGuard op t x y (.pointer a) (.pointer b)).run P w = .ok () w := by
  unfold eqGuard; cases op <;> rfl
theorem eq_slice_nil {t e : TypeId} (hu : P.underlying t = some (.slice e)) (s : Slc) : (Op.equal t s.val (LE.nil.den C).val).run P w = .ok (!s.a.isSome) w := by
  unfold Op.equal Op.maxDepth
  rw [show (10000 : Nat) = 9999 + 1 from rfl, Op.equalIn, Sem.run_bind, run_underlying hu]
  cases s with
  | mk a n c => cases a <;> rfl
theorem eq_pt_nil {t e : TypeId} (hu : P.underlying t = some (.pointer e)) (a : Option Addr) : (Op.equal t (.pointer a) (.pointer none)).run P w = .ok (!a.isSome) w := by
  unfold Op.equal Op.maxDepth
  rw [show (10000 : Nat) = 9999 + 1 from rfl, Op.equalIn, Sem.run_bind, run_underlying hu]
  cases a <;> rfl
theorem nilOp_sound {op : BinOp} {t : TypeId} {x y : Value} {e : BE} {c : BE} {v : PE} (h : nilOp op e = some (c, v)) (he : (Op.equal t x y).run P w = .ok (!e.den C) w)
    (hx : ∀ op, (op = .eql → binOp op t x y = do pure (Value.bool (← Op.equal t x y))) ∧ (op = .neq → binOp op t x y = do pure (Value.bool (!(← Op.equal t x y))))) : (binOp op t x y).run P w = .ok (v.den C ρ) w := by
  unfold nilOp at h
  split at h
  · cases h
    rw [(hx .eql).1 rfl, Sem.run_bind, he]
    simp [PE.den, CE.den, mkNot_den]
  · cases h
    rw [(hx .neq).2 rfl, Sem.run_bind, he]
    simp [PE.den, CE.den]
  · cases h
theorem getElem_toArray_map (l : List CE) (i : Nat) : ((l.map (CE.den C ρ)).toArray)[i]? = (l[i]?).map (CE.den C ρ) := by
  simp
theorem eqC_run {d : Nat} {t : TypeId} {x y : CE} {e : BE} (h : eqC P t x y = some e) : (P.underlying t ≠ none) ∧ (Op.equalIn (d + 1) t (x.den C ρ) (y.den C ρ)).run P w = .ok (e.den C) w := by
  unfold eqC at h
  split at h
  · split at h
    · rename_i hu
      split at h
      · rename_i hk
        subst hk
        cases h
        exact ⟨by rw [hu]; simp, run_equalIn_int w d t _ _ _ _ hu⟩
      · cases h
    · cases h
  · split at h
    · rename_i hu
      cases h
      exact ⟨by rw [hu]; simp, run_equalIn_bool' w d t _ _ hu⟩
    · cases h
  · split at h
    · rename_i hu
      cases h
      refine ⟨by rw [hu]; simp, ?_⟩
      show (Op.equalIn (d + 1) t (.string (B _)) (.string (B _))).run P w = _
      rw [run_equalIn_string w d t _ _ hu, B_toList, B_toList]
      rfl
    · cases h
  · cases h
theorem part_one {t : TypeId} {l : List CE} {off : Nat} {x : CE} (hu : P.underlying t ≠ none) (ha : isAggB P t = false) (h : l[off]? = some x) : (part t (l.map (CE.den C ρ)).toArray off).run P w = .ok (x.den C ρ) w := by
  obtain ⟨d, hd⟩ := Option.ne_none_iff_exists'.1 hu
  unfold part
  rw [Sem.run_bind, isAgg_run t hd, Result.andThen_ok, if_neg (by rw [ha]; decide), getElem_toArray_map, h]
  rfl
theorem eqFs_run {d : Nat} {xs ys : List CE} : ∀ {fs : List Field} {e : BE}, eqFs P xs ys fs = some e → (Op.eqFields (d + 1) (xs.map (CE.den C ρ)).toArray (ys.map (CE.den C ρ)).toArray fs).run P w = .ok (e.den C) w := by
  intro fs
  induction fs with
  | nil => intro e h; cases h; rfl
  | cons f fs ih =>
    intro e h
    rw [eqFs] at h
    split at h
    · cases h
    · rename_i hn
      split at h
      · rename_i x y hx hy
        split at h
        · rename_i e1 r h1 h2
          cases h
          have hne : f.name ≠ "_" := fun hh => hn (.inl hh)
          have hag : isAggB P f.type = false := by
            cases hq : isAggB P f.type
            · rfl
            · exact absurd (.inr hq) hn
          obtain ⟨hu, hrun⟩ := eqC_run (C := C) (ρ := ρ) (w := w) (d := d) h1
          rw [Op.eqFields, if_pos hne, Sem.run_bind, part_one hu hag hx, Result.andThen_ok, Sem.run_bind, part_one hu hag hy, Result.andThen_ok, Sem.run_bind, hrun, Result.andThen_ok, mkAnd_den]
          cases e1.den C
          · rfl
          · simp only [Bool.not_true, Bool.false_eq_true, if_false, Bool.true_and]
            exact ih h2
        · cases h
      · cases h
theorem eqAgg_run {t : TypeId} {xs ys : List CE} {e : BE} (h : eqAgg P t xs ys = some e) : (∀ op x y, (eqGuard op t x y (.agg (xs.map (CE.den C ρ)).toArray) (.agg (ys.map (CE.den C ρ)).toArray)).run P w = .ok () w) ∧
    (Op.equalIn 10000 t (.agg (xs.map (CE.den C ρ)).toArray) (.agg (ys.map (CE.den C ρ)).toArray)).run P w = .ok (e.den C) w := by
  unfold eqAgg at h
  split at h
  · cases h
  · rename_i hn
    have h1 : P.stoodInHeld t = false := by
      cases hq : P.stoodInHeld t
      · rfl
      · exact absurd (.inl hq) hn
    have h2 : P.eqGuardType P.depth t = false := by
      cases hq : P.eqGuardType P.depth t
      · rfl
      · exact absurd (.inr hq) hn
    refine ⟨fun op x y => run_eqGuard_agg w op t x y _ _ h2, ?_⟩
    split at h
    · rename_i fs hu
      have hf : P.fieldsOf t = fs := by unfold Program.fieldsOf; rw [hu]
      rw [show (10000 : Nat) = 9999 + 1 from rfl, run_equalIn_struct w 9999 t _ _ (by rw [hf]; exact hu) h1, hf]
      exact eqFs_run (d := 9998) h
    · cases h
theorem binE_sound {nw : Cfg} {op : BinOp} {t : TypeId} {x y : Operand} {p q : PE} {c : BE} {v : PE} (h : binE nw P op t p q = some (c, v)) (hc : c.den C = true) :
    (eqGuard op t x y (p.den C ρ) (q.den C ρ)).run P w = .ok () w ∧ (binOp op t (p.den C ρ) (q.den C ρ)).run P w = .ok (v.den C ρ) w := by
  unfold binE at h
  split at h
  · rename_i k a k' b
    refine ⟨eqGuard_int .., ?_⟩
    split at h
    · cases h
      have hb : ¬ b.den C < 0 := by
        have : 0 ≤ b.den C := by simpa [BE.den, IE.den, ltB_t, leB_t] using hc
        omega
      simp [PE.den, CE.den, binOp, Op.shift, hb, IE.den, ishift]
    · cases h
      have hb : ¬ b.den C < 0 := by
        have : 0 ≤ b.den C := by simpa [BE.den, IE.den, ltB_t, leB_t] using hc
        omega
      simp [PE.den, CE.den, binOp, Op.shift, hb, IE.den, ishift]
    · rename_i hsl hsr
      split at h
      · rename_i hk
        subst hk
        exact intOp_sound (fun e => by subst e; exact hsl rfl) (fun e => by subst e; exact hsr rfl) h hc
      · cases h
  · exact ⟨eqGuard_string .., strOp_sound h hc⟩
  · rename_i a b
    refine ⟨eqGuard_bool .., ?_⟩
    split at h
    · rename_i hu
      cases h
      show (do pure (Value.bool (← Op.equal t (.bool (a.den C)) (.bool (b.den C))))).run P w = _
      rw [Sem.run_bind, eq_bool hu]; rfl
    · rename_i hu
      cases h
      show (do pure (Value.bool (!(← Op.equal t (.bool (a.den C)) (.bool (b.den C)))))).run P w = _
      rw [Sem.run_bind, eq_bool hu]; rfl
    · cases h
  · rename_i l
    refine ⟨eqGuard_slice .., ?_⟩
    split at h
    · rename_i e hu
      refine nilOp_sound h (eq_slice_nil hu _) (fun op => ⟨fun h => ?_, fun h => ?_⟩) <;> (subst h; rfl)
    · cases h
  · rename_i n
    refine ⟨eqGuard_pt .., ?_⟩
    split at h
    · rename_i e hu
      refine nilOp_sound h ?_ (fun op => ⟨fun h => ?_, fun h => ?_⟩)
      · have := eq_pt_nil (w := w) hu ((C.p.getD n none).map fun x => (⟨x.1, x.2, none⟩ : Addr))
        rw [Option.isSome_map] at this
        exact this
      · subst h; rfl
      · subst h; rfl
    · cases h
  · rename_i k o
    refine ⟨eqGuard_pt .., ?_⟩
    split at h
    · rename_i e hu
      refine nilOp_sound h (eq_pt_nil hu _) (fun op => ⟨fun h => ?_, fun h => ?_⟩) <;> (subst h; rfl)
    · cases h
  · rename_i xs ys
    split at h
    · simp only [Option.map_eq_some_iff, Prod.mk.injEq] at h
      obtain ⟨e, he, -, rfl⟩ := h
      obtain ⟨h1, h2⟩ := eqAgg_run (C := C) (ρ := ρ) (w := w) he
      refine ⟨h1 _ _ _, ?_⟩
      show (binOp .eql t (.agg _) (.agg _)).run P w = _
      rw [run_eql_struct, h2]
      rfl
    · simp only [Option.map_eq_some_iff, Prod.mk.injEq] at h
      obtain ⟨e, he, -, rfl⟩ := h
      obtain ⟨h1, h2⟩ := eqAgg_run (C := C) (ρ := ρ) (w := w) he
      refine ⟨h1 _ _ _, ?_⟩
      show (binOp .neq t (.agg _) (.agg _)).run P w = _
      rw [run_neq_struct, h2]
      simp [PE.den, CE.den, mkNot_den]
    · cases h
  · cases h

theorem unE_sound {nw : Cfg} {op : UnOp} {p : PE} {c : BE} {v : PE} (h : unE nw op p = some (c, v)) (hc : c.den C = true) : (Op.unary op (p.den C ρ)).run P w = .ok (v.den C ρ) w := by
  unfold unE at h
  split at h
  · split at h
    · cases h
      simp [PE.den, CE.den, Op.unary, mkNot_den]
    · cases h
  · split at h
    · simp only [Option.some.injEq] at h
      rw [arith_den h hc]
      simp [PE.den, CE.den, Op.unary, Op.intArith, IE.den]
    · cases h
      simp [PE.den, CE.den, Op.unary, Op.intBits, IE.den, ibits]
    · cases h
  · cases h

theorem convE_sound {s d : TypeId} {p : PE} {c : BE} {v : PE} (h : convE P s d p = some (c, v)) : (convert s d (p.den C ρ)).run P w = .ok (v.den C ρ) w := by
  unfold convE at h
  split at h
  · split at h
    · rename_i h1 h2
      cases h
      simp [PE.den, CE.den, convert, run_underlying h1, run_underlying h2, Conv.intToInt, IE.den]
    · cases h
  · split at h
    · rename_i h1 h2
      cases h
      simp [PE.den, CE.den, convert, run_underlying h1, run_underlying h2]
    · cases h
  · cases h

theorem intsE_den {k : IntKind} : ∀ {cs : List CE} {ys : List IE}, intsE k cs = some ys → cs.map (CE.den C ρ) = ys.map fun y => .int k (y.den C)
  | [], ys, h => by cases h; rfl
  | c :: cs, ys, h => by
    unfold intsE at h
    split at h
    · rename_i h0; cases h0
    · rename_i k' e cs' he
      cases he
      split at h
      · rename_i hk
        subst hk
        simp only [Option.map_eq_some_iff] at h
        obtain ⟨zs, hz, rfl⟩ := h
        rw [List.map_cons, List.map_cons, intsE_den hz]
        rfl
      · cases h
    · cases h
theorem nthE_den {i : IE} : ∀ (xs : List IE) (n : Int) (m : Nat), i.den C = n + m → (hm : m < xs.length) → (nthE i xs n).den C = (xs[m]).den C
  | [], _, _, _, hm => by cases hm
  | x :: xs, n, m, hi, hm => by
    unfold nthE
    split
    · rename_i he
      have : xs = [] := by simpa using he
      subst this
      have : m = 0 := by simpa using hm
      subst this
      rfl
    · rename_i he
      cases m with
      | zero =>
        have : i.den C = n := by omega
        simp [IE.den, BE.den, this]
      | succ m =>
        have h2 : ¬ i.den C = n := by omega
        have ih := nthE_den xs (n + 1) m (show i.den C = n + 1 + (m : Int) by omega) (by simpa using hm)
        simp only [IE.den, BE.den, beq_eq_false_iff_ne.2 h2, cond_false]
        exact ih
theorem indexE_sound {t : TypeId} {p q : PE} {c : BE} {v : PE} (h : indexE P t p q = some (c, v)) (hc : c.den C = true) : (Instr.index t (p.den C ρ) (q.den C ρ)).run P w = .ok (v.den C ρ) w := by
  unfold indexE at h
  split at h
  · rename_i s k i
    split at h
    · rename_i hu
      cases h
      simp only [BE.den, IE.den, Bool.and_eq_true, ltB_t, leB_t] at hc
      obtain ⟨h0, h1⟩ := hc
      have hlt : (i.den C).toNat < (B (s.den C)).size := by rw [B_size]; omega
      have hget : (B (s.den C))[(i.den C).toNat]? = some ((B (s.den C))[(i.den C).toNat]'hlt) := by
        rw [getElem?_pos]
      simp [PE.den, CE.den, Instr.index, asIntOf, run_underlying hu, h0, hget, IE.den, B_get]
    · cases h
  · rename_i x y k i
    split at h
    · rename_i n e hu
      split at h
      · rename_i d hd hn
        split at h
        · rename_i hck
          obtain ⟨rfl, hagg⟩ := hck
          cases h
          simp only [BE.den, IE.den, Bool.and_eq_true, ltB_t, leB_t] at hc
          obtain ⟨h0, h1⟩ := hc
          have hpart : ∀ m, m < 2 → (part e #[.string (B (x.den C)), .string (B (y.den C))] (m * 1)).run P w = .ok (if m = 0 then .string (B (x.den C)) else .string (B (y.den C))) w := by
            intro m hm
            unfold part
            rw [Sem.run_bind, isAgg_run e hd, Result.andThen_ok, hagg]
            have : m = 0 ∨ m = 1 := by omega
            rcases this with rfl | rfl <;> simp
          have e : (i.den C).toNat = 0 ∨ (i.den C).toNat = 1 := by omega
          simp only [PE.den, List.map_cons, List.map_nil, CE.den, Instr.index, asIntOf, Sem.run_bind, run_underlying hu, Result.andThen_ok, Sem.run_pure]
          rw [if_pos ⟨h0, h1⟩, Sem.run_bind, sizeOf_run hn, Result.andThen_ok, hpart _ (by omega)]
          simp only [SE.den, BE.den, IE.den]
          rcases e with e | e
          · have : i.den C = 0 := by omega
            simp [this, e]
          · have : i.den C = 1 := by omega
            simp [this, e]
        · cases h
      · cases h
    · cases h
  · rename_i k0 x xs k i
    split at h
    · rename_i n e hu
      split at h
      · rename_i d ys hd hn hys
        split at h
        · rename_i hck
          obtain ⟨hlen, hagg⟩ := hck
          cases h
          simp only [BE.den, IE.den, Bool.and_eq_true, ltB_t, leB_t] at hc
          obtain ⟨h0, h1⟩ := hc
          have hl : (x :: ys).length = n := by
            have := congrArg List.length (intsE_den (C := C) (ρ := ρ) hys)
            simp at this
            simp [hlen, this]
          have hm : (i.den C).toNat < (x :: ys).length := by omega
          have hcells : (CE.i k0 x :: xs).map (CE.den C ρ) = (x :: ys).map fun y => Value.int k0 (y.den C) := by
            rw [List.map_cons, List.map_cons, intsE_den hys]; rfl
          have hpart : (part e ((CE.i k0 x :: xs).map (CE.den C ρ)).toArray ((i.den C).toNat * 1)).run P w = .ok (.int k0 (((x :: ys)[(i.den C).toNat]).den C)) w := by
            unfold part
            rw [Sem.run_bind, isAgg_run e hd, Result.andThen_ok, hagg, hcells]
            simp only [Bool.false_eq_true, if_false, Nat.mul_one, List.getElem?_toArray, List.getElem?_map, List.getElem?_eq_getElem hm, Option.map_some, Sem.run_pure]
          simp only [PE.den, CE.den, Instr.index, asIntOf, Sem.run_bind, run_underlying hu, Result.andThen_ok, Sem.run_pure]
          rw [if_pos ⟨h0, h1⟩, Sem.run_bind, sizeOf_run hn, Result.andThen_ok]
          have hp2 := hpart
          rw [← nthE_den (C := C) (i := i) (x :: ys) 0 (i.den C).toNat (by omega) hm] at hp2
          exact hp2
        · cases h
      · cases h
    · cases h
  · cases h

theorem sliceE_sound {t : TypeId} {x : PE} {lo hi : Option PE} {c : BE} {v : PE} (h : sliceE P t x lo hi = some (c, v)) (hc : c.den C = true) :
    (Instr.sliceAt t (x.den C ρ) (lo.map (PE.den C ρ)) (hi.map (PE.den C ρ)) none).run P w = .ok (v.den C ρ) w := by
  unfold sliceE at h
  split at h
  · rename_i l e hu
    split at h
    · rename_i lo' c' hi' n hl hh hn
      cases h
      simp only [BE.den, Bool.and_eq_true, leB_t, IE.den] at hc
      obtain ⟨hcc, h1, h2⟩ := hc
      have hbounds : (Instr.sliceBounds true (l.den C).n (l.den C).c (lo.map (PE.den C ρ)) (hi.map (PE.den C ρ)) none).run P w = .ok ((lo'.den C).toNat, (hi'.den C).toNat, (l.den C).c) w := by
        have hhi : (match hi.map (PE.den C ρ) with | some v => Instr.sliceBound v (l.den C).c .sliceAcap | none => pure (l.den C).n).run P w = .ok (hi'.den C).toNat w := by
          cases hi with
          | none =>
            simp only [hiE, Option.some.injEq, Prod.mk.injEq] at hh
            obtain ⟨rfl, rfl⟩ := hh
            simp [IE.den]
          | some q =>
            unfold hiE at hh
            split at hh
            · rename_i hq; cases hq
            · rename_i k x hq
              cases hq
              cases hh
              simp only [BE.den, Bool.and_eq_true, leB_t, IE.den] at hcc
              simp [PE.den, CE.den, Instr.sliceBound, asIntOf, hcc.1, hcc.2]
            · cases hh
        have hlo : (match lo.map (PE.den C ρ) with | some v => Instr.sliceBound v (hi'.den C).toNat .sliceB | none => pure 0).run P w = .ok (lo'.den C).toNat w := by
          cases lo with
          | none =>
            simp only [loE, Option.some.injEq] at hl
            subst hl
            simp [IE.den]
          | some q =>
            unfold loE at hl
            split at hl
            · rename_i hq; cases hq
            · rename_i k x hq
              cases hq
              cases hl
              have h3 : lo'.den C ≤ (((hi'.den C).toNat : Nat) : Int) := by omega
              simp [PE.den, CE.den, Instr.sliceBound, asIntOf, h1]
              intro hx
              omega
            · cases hl
        unfold Instr.sliceBounds
        simp only [Sem.run_bind, Sem.run_pure, Result.andThen_ok, if_true, Option.isSome_none, Bool.false_eq_true, if_false]
        cases hi with
        | none =>
          simp only [Option.map_none] at hhi ⊢
          rw [Sem.run_bind, hhi, Result.andThen_ok]
          cases lo with
          | none => simp only [Option.map_none] at hlo ⊢; rw [Sem.run_bind, hlo]; rfl
          | some q => simp only [Option.map_some] at hlo ⊢; rw [Sem.run_bind, hlo]; rfl
        | some q' =>
          simp only [Option.map_some] at hhi ⊢
          rw [Sem.run_bind, hhi, Result.andThen_ok]
          cases lo with
          | none => simp only [Option.map_none] at hlo ⊢; rw [Sem.run_bind, hlo]; rfl
          | some q => simp only [Option.map_some] at hlo ⊢; rw [Sem.run_bind, hlo]; rfl
      show (Instr.sliceAt t (l.den C).val _ _ none).run P w = _
      unfold Instr.sliceAt
      rw [Sem.run_bind, run_underlying hu, Result.andThen_ok]
      simp only [Slc.val]
      unfold Instr.slice
      rw [Sem.run_bind, run_underlying hu, Result.andThen_ok]
      simp only [Sem.run_bind, hbounds, Result.andThen_ok, sizeOf_run hn, Sem.run_pure]
      simp only [PE.den, CE.den, LE.den, Slc.val]
      congr 2
      by_cases he : (l.den C).c = (lo'.den C).toNat
      · simp [he]
      · simp only [he, if_false]
        cases (l.den C).a with
        | none => rfl
        | some x =>
          simp only [Option.map_some]
          congr 1
          unfold Addr.add
          split
          · rename_i h0; rw [h0]; rfl
          · rfl
    · cases h
  · rename_i a hu
    split at h
    · cases h
      simp [PE.den, CE.den, Instr.sliceAt, Instr.slice, Instr.sliceBounds, run_underlying hu, B_extract, B_size]
    · rename_i k l
      cases h
      simp only [BE.den, IE.den, Bool.and_eq_true, ltB_t, leB_t] at hc
      obtain ⟨h0, h1⟩ := hc
      have h1' : l.den C ≤ ((B (a.den C)).size : Int) := by rw [B_size]; exact h1
      simp [PE.den, CE.den, Instr.sliceAt, Instr.slice, Instr.sliceBounds, Instr.sliceBound, asIntOf, run_underlying hu, h0, h1', SE.den, IE.den, B_extract, B_size]
      intro hx; omega
    · rename_i k hh
      cases h
      simp only [BE.den, IE.den, Bool.and_eq_true, ltB_t, leB_t] at hc
      obtain ⟨h0, h1⟩ := hc
      have h1' : hh.den C ≤ ((B (a.den C)).size : Int) := by rw [B_size]; exact h1
      simp [PE.den, CE.den, Instr.sliceAt, Instr.slice, Instr.sliceBounds, Instr.sliceBound, asIntOf, run_underlying hu, h0, h1', SE.den, IE.den, B_extract]
    · rename_i k l k' hh
      cases h
      simp only [BE.den, IE.den, Bool.and_eq_true, ltB_t, leB_t] at hc
      obtain ⟨⟨h0, h1⟩, h2, h3⟩ := hc
      have h1' : hh.den C ≤ ((B (a.den C)).size : Int) := by rw [B_size]; exact h1
      have h3' : l.den C ≤ (((hh.den C).toNat : Nat) : Int) := by omega
      simp [PE.den, CE.den, Instr.sliceAt, Instr.slice, Instr.sliceBounds, Instr.sliceBound, asIntOf, run_underlying hu, h0, h1', h2, h3', SE.den, B_extract]
      intro hx; omega
    · cases h
  · cases h

/-! ### Structs -/
theorem run_mapM {α β : Type} {f : α → Sem β} {g : α → β} : ∀ {l : List α}, (∀ x ∈ l, (f x).run P w = .ok (g x) w) → (l.mapM f).run P w = .ok (l.map g) w := by
  intro l
  induction l with
  | nil => intro _; rfl
  | cons x l ih =>
    intro h
    rw [List.mapM_cons, Sem.run_bind, h x (by simp), Result.andThen_ok, Sem.run_bind, ih (fun y hy => h y (by simp [hy])), Result.andThen_ok]
    rfl
theorem run_mapM_arr {α β : Type} {f : α → Sem β} {g : α → β} {l : Array α} (h : ∀ x ∈ l.toList, (f x).run P w = .ok (g x) w) : (l.mapM f).run P w = .ok (l.toList.map g).toArray w := by
  rw [Array.mapM_eq_mapM_toList]
  show (do let x ← l.toList.mapM f; pure x.toArray).run P w = _
  rw [Sem.run_bind, run_mapM h]
  rfl
theorem part_run {t : TypeId} {l : List CE} {off : Nat} {v : PE} (h : partE P t l off = some v) : (part t (l.map (CE.den C ρ)).toArray off).run P w = .ok (v.den C ρ) w := by
  unfold partE at h
  split at h
  · rename_i d n hd hn
    unfold part
    rw [Sem.run_bind, isAgg_run t hd, Result.andThen_ok]
    split at h
    · rename_i hagg
      cases h
      rw [if_pos hagg, Sem.run_bind, sizeOf_run hn, Result.andThen_ok]
      simp [PE.den, List.map_take, List.map_drop]
    · rename_i hagg
      simp only [Option.map_eq_some_iff] at h
      obtain ⟨x, hx, rfl⟩ := h
      rw [if_neg hagg, getElem_toArray_map, hx]
      rfl
  · cases h

theorem fill_run (ho : Ones C.v) (place : Nat → Option (Nat × Nat)) (parts : List (Nat × PE)) : ∀ (cells out : List CE), fillE place cells parts = some out →
    Instr.fill place (cells.map (CE.den C ρ)).toArray (parts.map fun x => (x.1, x.2.den C ρ)) = some (out.map (CE.den C ρ)).toArray := by
  induction parts with
  | nil => intro cells out h; cases h; rfl
  | cons x rest ih =>
    obtain ⟨i, v⟩ := x
    intro cells out h
    rw [fillE] at h
    rw [List.map_cons, Instr.fill]
    split at h
    · rename_i off size hp
      split at h
      · rename_i hc
        obtain ⟨h1, h2⟩ := hc
        have hcells := pe_cells ho ρ v
        simp only [hp, hcells]
        have hsz : (v.cells.map (CE.den C ρ)).toArray.size = size := by simpa using h1
        rw [if_neg (by rw [hsz]; simp; omega)]
        have hfold : ∀ (l : List (CE × Nat)) (cs : List CE), (l.map fun x => (x.1.den C ρ, x.2)).foldl (fun (cs : Array Value) (x : Value × Nat) => cs.setIfInBounds (off + x.2) x.1) (cs.map (CE.den C ρ)).toArray = ((l.foldl (fun cs x => cs.set (off + x.2) x.1) cs).map (CE.den C ρ)).toArray := by
          intro l
          induction l with
          | nil => intro cs; rfl
          | cons y l ih2 =>
            intro cs
            simp only [List.map_cons, List.foldl_cons]
            rw [← ih2]
            congr 1
            simp [List.map_set]
        have hz : (v.cells.map (CE.den C ρ)).toArray.zipIdx.toList = v.cells.zipIdx.map fun x => (x.1.den C ρ, x.2) := by
          simp [List.zipIdx_map]
        rw [← Array.foldl_toList, hz, hfold]
        exact ih _ _ h
      · cases h
    · cases h
theorem build_run (ho : Ones C.v) {t : TypeId} {parts : List (Nat × PE)} {ps : Array (Nat × Value)} (hps : ps.toList = parts.map fun x => (x.1, x.2.den C ρ)) {v : PE} (h : buildE P t parts = some v) : (Instr.build t ps).run P w = .ok (v.den C ρ) w := by
  unfold buildE at h
  split at h
  · rename_i fs z hu hz
    split at h
    · rename_i hall
      simp only [Option.map_eq_some_iff] at h
      obtain ⟨out, hout, rfl⟩ := h
      simp only [Option.bind_eq_some_iff] at hz
      obtain ⟨zs, hzs, hz⟩ := hz
      unfold zeroB at hzs
      simp only [Option.map_eq_some_iff, Option.bind_eq_some_iff] at hzs
      obtain ⟨zv, ⟨inf, hinf, hzv⟩, rfl⟩ := hzs
      have hzero : (zeroValue t).run P w = .ok zv w := by simp [zeroValue, typeInfo, hinf, hzv]
      have hmap : (fs.mapM fun f => (do pure (f.offset, ← sizeOf f.type) : Sem (Nat × Nat))).run P w = .ok ((fs.toList.map fun f => (f.offset, (sizeB P f.type).getD 0)).toArray) w := by
        refine run_mapM_arr fun f hf => ?_
        have := List.all_eq_true.1 hall f hf
        obtain ⟨n, hn⟩ := Option.isSome_iff_exists.1 this
        rw [Sem.run_bind, sizeOf_run hn, hn]
        rfl
      unfold Instr.build
      rw [Sem.run_bind, hzero, Result.andThen_ok, Sem.run_bind, run_underlying hu, Result.andThen_ok]
      simp only
      rw [Sem.run_bind, hmap, Result.andThen_ok]
      have hplace : ∀ i x, placeB P t i = some x → ((fs.toList.map fun f => (f.offset, (sizeB P f.type).getD 0)).toArray)[i]? = some x := by
        intro i x hx
        unfold placeB fieldB at hx
        rw [hu] at hx
        simp only [Option.bind_eq_some_iff, Option.map_eq_some_iff] at hx
        obtain ⟨⟨o, u⟩, ⟨f, hf, he⟩, n, hn, rfl⟩ := hx
        cases he
        simp [hf, hn]
      have hcells : zv.cells = (z.map (CE.den C ρ)).toArray := by rw [cesOf_den C ρ hz]
      have hfill := fill_run (C := C) (ρ := ρ) ho (placeB P t) parts z out hout
      have hmono : ∀ (l : List (Nat × Value)) (cs out : Array Value), Instr.fill (placeB P t) cs l = some out → Instr.fill (((fs.toList.map fun f => (f.offset, (sizeB P f.type).getD 0)).toArray)[·]?) cs l = some out := by
        intro l
        induction l with
        | nil => intro cs out h; exact h
        | cons y l ih =>
          obtain ⟨i, u⟩ := y
          intro cs out h
          rw [Instr.fill] at h ⊢
          cases hpl : placeB P t i with
          | none => rw [hpl] at h; cases h
          | some q =>
            rw [hpl] at h
            rw [hplace i q hpl]
            simp only at h ⊢
            split at h
            · cases h
            · rename_i hn
              rw [if_neg hn]
              exact ih _ _ h
      rw [hcells, hps, hmono _ _ _ hfill]
      rfl
    · cases h
  · rename_i len e z hu hz
    split at h
    · rename_i n hn
      simp only [Option.map_eq_some_iff] at h
      obtain ⟨out, hout, rfl⟩ := h
      simp only [Option.bind_eq_some_iff] at hz
      obtain ⟨zs, hzs, hz⟩ := hz
      unfold zeroB at hzs
      simp only [Option.map_eq_some_iff, Option.bind_eq_some_iff] at hzs
      obtain ⟨zv, ⟨inf, hinf, hzv⟩, rfl⟩ := hzs
      have hzero : (zeroValue t).run P w = .ok zv w := by simp [zeroValue, typeInfo, hinf, hzv]
      have hcells : zv.cells = (z.map (CE.den C ρ)).toArray := by rw [cesOf_den C ρ hz]
      unfold Instr.build
      rw [Sem.run_bind, hzero, Result.andThen_ok, Sem.run_bind, run_underlying hu, Result.andThen_ok]
      simp only
      rw [Sem.run_bind, sizeOf_run hn, Result.andThen_ok, hcells, hps, fill_run (C := C) (ρ := ρ) ho _ parts z out hout]
      rfl
    · cases h
  · cases h

variable {B : Nat} {h0 : Hp} {w0 : World} {st : St} {a : Act}
theorem block_cell (R : Rep B h0 w0 ρ st C a w) {k : Nat} {b : Blk} (h : st.m[k]? = some b) (o : Nat) : w.cell? ⟨ρ k, o, none⟩ = (b.cells[o]?).map (CE.den C ρ) := by
  unfold World.cell?
  rw [R.blocks k b h]
  simp
theorem load_run (R : Rep B h0 w0 ρ st C a w) {t : TypeId} {p v : PE} (h : loadE P st t p = some v) : (Instr.loadAt t (p.den C ρ)).run P w = .ok (v.den C ρ) w := by
  unfold loadE at h
  split at h
  · rename_i k o
    split at h
    · rename_i b d n hb hd hn
      show (do loadVar t (← Instr.sureAddr (.pointer (some ⟨ρ k, o, none⟩)))).run P w = _
      rw [Sem.run_bind]
      show (loadVar t ⟨ρ k, o, none⟩).run P w = _
      unfold loadVar
      rw [Sem.run_bind, isAgg_run t hd, Result.andThen_ok]
      split at h
      · rename_i hagg
        rw [if_pos hagg, Sem.run_bind, sizeOf_run hn, Result.andThen_ok]
        split at h
        · rename_i hle
          cases h
          have hl : ((b.cells.drop o).take n |>.map (CE.den C ρ)).length = n := by simp; omega
          have := run_loadCells_list (P := P) w ⟨ρ k, o, none⟩ ((b.cells.drop o).take n |>.map (CE.den C ρ)) (by
            intro j u hu
            have e : (⟨ρ k, o, none⟩ : Addr).add j = ⟨ρ k, o + j, none⟩ := by
              unfold Addr.add; split
              · rename_i h0; subst h0; rfl
              · rfl
            rw [e, block_cell R hb]
            rw [List.getElem?_map, List.getElem?_take] at hu
            split at hu
            · rw [List.getElem?_drop] at hu; exact hu
            · cases hu)
          rw [hl] at this
          rw [Sem.run_bind, this]
          rfl
        · cases h
      · rename_i hagg
        rw [if_neg hagg]
        simp only [Option.map_eq_some_iff] at h
        obtain ⟨x, hx, rfl⟩ := h
        have hc := block_cell R hb o
        rw [hx] at hc
        simp [hc, PE.den]
    · cases h
  · cases h
theorem parts_eval (R : Rep B h0 w0 ρ st C a w) {gs : Gs} (hg : Conds gs a.tmps) {xs : List (Nat × Operand)} : ∀ {ps : List (Nat × PE)}, partsE st gs xs = some ps → xs.map (fun x => (x.1, a.eval x.2)) = ps.map fun x => (x.1, x.2.den C ρ) := by
  induction xs with
  | nil => intro ps h; cases h; rfl
  | cons x xs ih =>
    obtain ⟨i, x⟩ := x
    intro ps h
    rw [partsE] at h
    split at h
    · rename_i p ps hp hps
      cases h
      rw [List.map_cons, List.map_cons, opd_eval R hg hp, ih hps]
    · cases h

theorem run_v {s : Sem Value} {x : Value} (h : s.run P w = .ok x w) : (do pure (Next.value (← s)) : Sem Next).run P w = .ok (.value x) w := by
  rw [Sem.run_bind, h]; rfl
theorem optd_eval (R : Rep B h0 w0 ρ st C a w) {gs : Gs} (hg : Conds gs a.tmps) {x : Option Operand} {p : Option PE} (h : optd st gs x = some p) : x.map a.eval = p.map (PE.den C ρ) := by
  cases x with
  | none => cases h; rfl
  | some x =>
    simp only [optd, Option.map_eq_some_iff] at h
    obtain ⟨q, hq, rfl⟩ := h
    simp [opd_eval R hg hq]

theorem pts_eval (R : Rep B h0 w0 ρ st C a w) {gs : Gs} (hg : Conds gs a.tmps) : ∀ {xs : List Operand} {l : List Nat}, ptsE st gs xs = some l → xs.map a.eval = l.map fun n => Value.pointer ((C.p.getD n none).map fun x => ⟨x.1, x.2, none⟩)
  | [], l, h => by cases h; rfl
  | x :: xs, l, h => by
    unfold ptsE at h
    split at h
    · rename_i n l' hx hxs
      cases h
      have := opd_eval R hg hx
      simp only [List.map_cons, pts_eval R hg hxs, this, PE.den, CE.den]
    · cases h
set_option maxHeartbeats 1000000 in
theorem pure_sound (R : Rep B h0 w0 ρ st C a w) {nw : Cfg} {gs : Gs} (hg : Conds gs a.tmps) {o : Oper} {c : BE} {v : PE} (h : pureE nw P st gs o.op = some (c, v)) (hc : c.den C = true) :
    (execOp a.eval o).run P w = .ok (.value (v.den C ρ)) w := by
  obtain ⟨dst, op, type, pos, after, guard⟩ := o
  simp only at h
  unfold pureE at h
  unfold execOp
  split at h
  · -- move
    simp only [Option.map_eq_some_iff, Prod.mk.injEq] at h
    obtain ⟨u, hu, -, rfl⟩ := h
    simp [opd_eval R hg hu]
  · -- assign
    simp only [Option.map_eq_some_iff, Prod.mk.injEq] at h
    obtain ⟨u, hu, -, rfl⟩ := h
    simp [opd_eval R hg hu]
  · -- pick
    rename_i c' x y
    split at h
    · rename_i s
      split at h
      · rename_i e p q he hp hq
        simp only [Option.map_eq_some_iff, Prod.mk.injEq] at h
        obtain ⟨u, hu, -, rfl⟩ := h
        have hs := slotB_eval R hg he
        have hs' : a.eval (.tmp s) = .bool (e.den C) := hs
        simp only [hs', asBool]
        rw [phi_den hu]
        cases hb : e.den C
        · rw [hb] at hs
          have := opd_eval R (gs := gs ++ [(s, false)]) (conds_app.2 ⟨hg, conds_one.2 hs⟩) hq
          simp [this]
        · rw [hb] at hs
          have := opd_eval R (gs := gs ++ [(s, true)]) (conds_app.2 ⟨hg, conds_one.2 hs⟩) hp
          simp [this]
      · cases h
    · cases h
  · -- fieldAddr
    rename_i t x f
    split at h
    · rename_i k o off u hx hf
      split at h
      · cases h
      · rename_i hsz
        cases h
        unfold fieldB at hf
        split at hf
        · rename_i fs hu
          simp only [Option.map_eq_some_iff, Prod.mk.injEq] at hf
          obtain ⟨fd, hfd, rfl, rfl⟩ := hf
          have hn : ∃ n, sizeB P fd.type = some n ∧ n ≠ 0 := by
            cases hq : sizeB P fd.type with
            | none => exact absurd (.inr hq) hsz
            | some n => exact ⟨n, rfl, fun h0 => hsz (.inl (by rw [hq, h0]))⟩
          obtain ⟨n, hn, hn0⟩ := hn
          refine run_v ?_
          have hx' := opd_eval R hg hx
          simp only [hx', PE.den, CE.den, Instr.fieldAt]
          rw [Sem.run_bind, run_underlying hu, Result.andThen_ok]
          simp only [hfd, Instr.sureAddr, fieldPlace, Sem.run_bind, Sem.run_pure, Result.andThen_ok, sizeOf_run hn, if_neg hn0]
          unfold Addr.add
          split
          · rename_i h0; rw [h0]; rfl
          · rfl
        · cases hf
    · rename_i x' off u hx hf
      split at h
      · cases h
      · rename_i hsz
        cases h
        unfold fieldB at hf
        split at hf
        · rename_i fs hu
          simp only [Option.map_eq_some_iff, Prod.mk.injEq] at hf
          obtain ⟨fd, hfd, rfl, rfl⟩ := hf
          have hn : ∃ n, sizeB P fd.type = some n ∧ n ≠ 0 := by
            cases hq : sizeB P fd.type with
            | none => exact absurd (.inr hq) hsz
            | some n => exact ⟨n, rfl, fun h0 => hsz (.inl (by rw [hq, h0]))⟩
          obtain ⟨n, hn, hn0⟩ := hn
          cases hax : x'.den C with
          | none =>
            exfalso
            cases x' with
            | pt n off =>
              simp only [AE.den, Option.map_eq_none_iff] at hax
              rw [AE.ok, BE.den, hax] at hc
              cases hc
            | el l i sz off =>
              simp only [AE.den, Option.map_eq_none_iff] at hax
              rw [AE.ok, BE.den, hax] at hc
              cases hc
            | ix n i sz off =>
              simp only [AE.den, Option.map_eq_none_iff] at hax
              rw [AE.ok, BE.den, hax] at hc
              cases hc
          | some q =>
            refine run_v ?_
            have hx' := opd_eval R hg hx
            have hv : a.eval x = .pointer (some ⟨q.1, q.2, none⟩) := by rw [hx']; show adrVal (x'.den C) = _; rw [hax]; rfl
            simp only [hv, Instr.fieldAt]
            rw [Sem.run_bind, run_underlying hu, Result.andThen_ok]
            simp only [hfd, Instr.sureAddr, fieldPlace, Sem.run_bind, Sem.run_pure, Result.andThen_ok, sizeOf_run hn, if_neg hn0]
            have hp : (x'.plus fd.offset).den C = some (q.1, q.2 + fd.offset) := by
              cases x' with
              | pt n off =>
                simp only [AE.den, Option.map_eq_some_iff] at hax
                obtain ⟨z, hz, rfl⟩ := hax
                simp only [AE.plus, AE.den, hz, Option.map_some, Nat.add_assoc]
              | el l i sz off =>
                simp only [AE.den, Option.map_eq_some_iff] at hax
                obtain ⟨z, hz, rfl⟩ := hax
                simp only [AE.plus, AE.den, hz, Option.map_some, Nat.add_assoc]
              | ix n i sz off =>
                simp only [AE.den, Option.map_eq_some_iff] at hax
                obtain ⟨z, hz, rfl⟩ := hax
                simp only [AE.plus, AE.den, hz, Option.map_some, Nat.add_assoc]
            show _ = Result.ok (adrVal ((x'.plus fd.offset).den C)) w
            rw [hp]
            unfold Addr.add
            split
            · rename_i h0; rw [h0]; rfl
            · rfl
        · cases hf
    · cases h
  · -- field
    split at h
    · rename_i l off u hx hf
      simp only [Option.map_eq_some_iff, Prod.mk.injEq] at h
      obtain ⟨x, hx2, -, rfl⟩ := h
      unfold fieldB at hf
      split at hf
      · rename_i fs hu
        simp only [Option.map_eq_some_iff, Prod.mk.injEq] at hf
        obtain ⟨fd, hfd, rfl, rfl⟩ := hf
        refine run_v ?_
        have hx' := opd_eval R hg hx
        simp only [hx', PE.den, Instr.field]
        rw [Sem.run_bind, run_underlying hu, Result.andThen_ok]
        simp only [hfd, asAgg, Sem.run_bind, Sem.run_pure, Result.andThen_ok]
        exact part_run hx2
      · cases hf
    · cases h
  · -- nilCheck
    split at h
    · rename_i k o hx
      cases h
      have hx' := opd_eval R hg hx
      simp only [hx', PE.den, CE.den]
      rfl
    · rename_i a' hx
      cases h
      have hx' := opd_eval R hg hx
      simp only [hx', PE.den, CE.den]
      cases a'.den C <;> rfl
    · rename_i n hx
      cases h
      have hx' := opd_eval R hg hx
      simp only [hx', PE.den, CE.den, AE.den]
      cases hq : C.p.getD n none with
      | none => rw [BE.den, hq] at hc; cases hc
      | some q => rfl
    · rename_i f hx
      cases h
      have hx' := opd_eval R hg hx
      simp only [hx', PE.den, CE.den]
      rfl
    · cases h
  · -- indexAddr
    split at h
    · rename_i l k ix e hx hix hu
      split at h
      · rename_i n hn
        cases h
        simp only [BE.den, Bool.and_eq_true, leB_t, ltB_t, IE.den] at hc
        obtain ⟨⟨h1, h2⟩, h3⟩ := hc
        have hx' := opd_eval R hg hx
        have hi' := opd_eval R hg hix
        refine run_v ?_
        rw [hx', hi']
        simp only [PE.den, CE.den, AE.den, Slc.val]
        obtain ⟨q, hq⟩ := Option.isSome_iff_exists.1 h3
        rw [hq]
        unfold Instr.indexAt
        simp only [asIntOf, Sem.run_bind, Sem.run_pure, Result.andThen_ok, run_underlying hu, Option.map_some, h1, h2, and_self, if_true, sizeOf_run hn]
        show _ = Result.ok (adrVal (some (q.1, q.2 + (ix.den C).toNat * n + 0))) w
        unfold Addr.add
        split
        · rename_i h0; rw [h0]; rfl
        · rfl
      · cases h
    · rename_i k o k' ix len e hx hix hu
      split at h
      · rename_i n hn
        split at h
        · rename_i hb
          cases h
          have hx' := opd_eval R hg hx
          have hi' := opd_eval R hg hix
          refine run_v ?_
          rw [hx', hi']
          simp only [PE.den, CE.den, IE.den]
          unfold Instr.indexAt
          simp only [asIntOf, Sem.run_bind, Sem.run_pure, Result.andThen_ok, run_underlying hu, Instr.sureAddr, hb.1, hb.2, and_self, if_true, sizeOf_run hn]
          unfold Addr.add
          split
          · rename_i h0; rw [h0]; rfl
          · rfl
        · cases h
      · cases h
    · rename_i n k ix len e hx hix hu
      split at h
      · rename_i z hz
        cases h
        simp only [BE.den, Bool.and_eq_true, leB_t, ltB_t, IE.den] at hc
        obtain ⟨⟨h1, h2⟩, h3⟩ := hc
        have hx' := opd_eval R hg hx
        have hi' := opd_eval R hg hix
        refine run_v ?_
        rw [hx', hi']
        simp only [PE.den, CE.den, AE.den]
        obtain ⟨q, hq⟩ := Option.isSome_iff_exists.1 h3
        rw [hq]
        unfold Instr.indexAt
        simp only [asIntOf, Sem.run_bind, Sem.run_pure, Result.andThen_ok, run_underlying hu, Option.map_some, Instr.sureAddr, h1, h2, and_self, if_true, sizeOf_run hz]
        show _ = Result.ok (adrVal (some (q.1, q.2 + (ix.den C).toNat * z + 0))) w
        unfold Addr.add
        split
        · rename_i h0; rw [h0]; rfl
        · rfl
      · cases h
    · cases h
  · -- binOp
    rename_i op t x y yt
    split at h
    · rename_i p q hp hq
      obtain ⟨h1, h2⟩ := binE_sound (w := w) (ρ := ρ) (x := x) (y := y) h hc
      refine run_v ?_
      rw [opd_eval R hg hp, opd_eval R hg hq, Sem.run_bind, h1, Result.andThen_ok]
      exact h2
    · cases h
  · -- unOp
    simp only [Option.bind_eq_some_iff] at h
    obtain ⟨p, hp, h⟩ := h
    exact run_v (by rw [opd_eval R hg hp]; exact unE_sound h hc)
  · -- convert
    simp only [Option.bind_eq_some_iff] at h
    obtain ⟨p, hp, h⟩ := h
    exact run_v (by rw [opd_eval R hg hp]; exact convE_sound h)
  · -- index
    split at h
    · rename_i p q hp hq
      exact run_v (by rw [opd_eval R hg hp, opd_eval R hg hq]; exact indexE_sound h hc)
    · cases h
  · -- slice
    split at h
    · rename_i p l hh hp hl hh'
      refine run_v ?_
      rw [opd_eval R hg hp, optd_eval R hg hl, optd_eval R hg hh']
      exact sliceE_sound h hc
    · cases h
  · -- extract
    rename_i s ix
    split at h
    · rename_i l hs
      simp only [Option.map_eq_some_iff, Prod.mk.injEq] at h
      obtain ⟨x, hx, -, rfl⟩ := h
      have := R.slots s _ hs
      have hs' : a.eval (.tmp s) = .tuple (l.map (PE.den C ρ)).toArray := this
      refine run_v ?_
      rw [hs']
      simp [Instr.extract, hx]
    · cases h
  · -- load
    simp only [Option.bind_eq_some_iff, Option.map_eq_some_iff, Prod.mk.injEq] at h
    obtain ⟨p, hp, u, hu, -, rfl⟩ := h
    refine run_v ?_
    rw [opd_eval R hg hp]
    exact load_run R hu
  · -- build
    simp only [Option.bind_eq_some_iff, Option.map_eq_some_iff, Prod.mk.injEq] at h
    obtain ⟨ps, hps, x, hx, -, rfl⟩ := h
    refine run_v ?_
    refine build_run R.ones ?_ hx
    have := parts_eval R hg hps
    simpa using this
  · -- len
    rename_i ars tys
    split at h
    · rename_i x t ha ht
      split at h
      · rename_i s hx hu
        cases h
        have hargs : ars = #[x] := by cases ars; simp at ha; subst ha; rfl
        have htys : tys = #[t] := by cases tys; simp at ht; subst ht; rfl
        subst hargs htys
        have hx' := opd_eval R hg hx
        simp [resolve, invoke, builtin, Builtin.len_, hx', PE.den, CE.den, run_underlying hu, IE.den, goInt, B_size]
      · rename_i l e hx hu
        cases h
        have hargs : ars = #[x] := by cases ars; simp at ha; subst ha; rfl
        have htys : tys = #[t] := by cases tys; simp at ht; subst ht; rfl
        subst hargs htys
        have hx' := opd_eval R hg hx
        simp [resolve, invoke, builtin, Builtin.len_, hx', PE.den, CE.den, run_underlying hu, IE.den, goInt, Slc.val]
      · cases h
    · cases h
  · -- min
    rename_i ars _
    split at h
    · rename_i x y ha
      split at h
      · rename_i k p k' q hx hy
        split at h
        · rename_i hk
          subst hk
          cases h
          have hargs : ars = #[x, y] := by cases ars; simp at ha; subst ha; rfl
          subst hargs
          have hx' := opd_eval R hg hx
          have hy' := opd_eval R hg hy
          by_cases hlt : q.den C < p.den C
          · simp [resolve, invoke, builtin, Builtin.min_, Builtin.min2, hx', hy', PE.den, CE.den, IE.den, BE.den, ltB, hlt]
          · simp [resolve, invoke, builtin, Builtin.min_, Builtin.min2, hx', hy', PE.den, CE.den, IE.den, BE.den, ltB, hlt]
        · cases h
      · cases h
    · cases h
  · -- max
    rename_i ars _
    split at h
    · rename_i x y ha
      split at h
      · rename_i k p k' q hx hy
        split at h
        · rename_i hk
          subst hk
          cases h
          have hargs : ars = #[x, y] := by cases ars; simp at ha; subst ha; rfl
          subst hargs
          have hx' := opd_eval R hg hx
          have hy' := opd_eval R hg hy
          by_cases hlt : p.den C < q.den C
          · simp [resolve, invoke, builtin, Builtin.max_, Builtin.max2, hx', hy', PE.den, CE.den, IE.den, BE.den, ltB, hlt]
          · simp [resolve, invoke, builtin, Builtin.max_, Builtin.max2, hx', hy', PE.den, CE.den, IE.den, BE.den, ltB, hlt]
        · cases h
      · cases h
    · cases h
  · -- makeFunc
    rename_i f first captured
    split at h
    · rename_i hz
      simp only [Option.map_eq_some_iff, Prod.mk.injEq] at h
      obtain ⟨l, hl, -, rfl⟩ := h
      have hf : first = #[] := Array.eq_empty_of_size_eq_zero hz
      subst hf
      have hp := pts_eval R hg hl
      refine run_v ?_
      have hc2 : captured.map a.eval = (l.map fun n => Value.pointer ((C.p.getD n none).map fun x => ⟨x.1, x.2, none⟩)).toArray := by
        rw [← hp]; exact Array.toList_inj.1 (by rw [Array.toList_map])
      rw [hc2, show Array.map a.eval #[] = #[] from Array.toList_inj.1 (by rw [Array.toList_map]; rfl)]
      rfl
    · cases h
  · cases h
end
end Go.Proofs.YtcfopechdlgioaaGreatDoor
