/- The reckoner, part D: operations that look at no memory, all of them. -/
import Derived.Test.YtcfopechdlgioaaGreatDoorEvC
import Derived.Lib.UnsafeStr
namespace Go.Proofs.YtcfopechdlgioaaGreatDoor
open Go.RowKit
section
variable {σ τ : Sg} {P : Program} {w : World} {N : Nat} {T : Tm} {a : Act}
theorem ptrsV_is (H : TS σ N T a.tmps) : ∀ {l : List Operand} {r : List (Nat × Nat)}, ptrsV T l = some r → isPs σ r (l.map a.eval)
  | [], r, h => by cases h; exact .nil
  | x :: l, r, h => by
    rw [ptrsV] at h
    split at h
    · rename_i b o hx
      rw [consO_some] at h
      obtain ⟨m, hm, rfl⟩ := h
      exact .cons (opC_is H hx) (ptrsV_is H hm)
    · cases h
theorem intsV_is (H : TS σ N T a.tmps) : ∀ {l : List Operand} {k : IntKind} {r : List Int}, intsV T l = some (k, r) → l.map a.eval = r.map (Value.int k)
  | [], k, r, h => by cases h
  | [x], k, r, h => by
    rw [intsV] at h
    split at h
    · rename_i k' n hx
      cases h
      have := opC_is H hx
      rw [List.map_cons, this]; rfl
    · cases h
  | x :: y :: l, k, r, h => by
    rw [intsV] at h
    · split at h
      · rename_i k' n k2 r' hx hr
        split at h
        · rename_i hk
          cases h
          subst hk
          have := opC_is H hx
          rw [List.map_cons, this, intsV_is H hr]; rfl
        · cases h
      · cases h
    · intro e; cases e
theorem max_run {k : IntKind} : ∀ {l : List Int} {x : Int}, ((l.map (Value.int k)).foldlM Builtin.max2 (.int k x)).run P w = .ok (.int k (maxI x l)) w
  | [], x => rfl
  | y :: l, x => by
    rw [List.map_cons, List.foldlM_cons, Sem.run_bind]
    show ((l.map (Value.int k)).foldlM Builtin.max2 (.int k (if y > x then y else x))).run P w = _
    rw [max_run, maxI]
    congr 3
    unfold maxI.Int.blt'
    cases h : ltB x y with
    | true => rw [ltB_t] at h; rw [if_pos h]; rfl
    | false => rw [ltB_f] at h; rw [if_neg (by omega)]; rfl
theorem min_run {k : IntKind} : ∀ {l : List Int} {x : Int}, ((l.map (Value.int k)).foldlM Builtin.min2 (.int k x)).run P w = .ok (.int k (minI x l)) w
  | [], x => rfl
  | y :: l, x => by
    rw [List.map_cons, List.foldlM_cons, Sem.run_bind]
    show ((l.map (Value.int k)).foldlM Builtin.min2 (.int k (if y < x then y else x))).run P w = _
    rw [min_run, minI]
    congr 3
    cases h : ltB y x with
    | true => rw [ltB_t] at h; rw [if_pos h]; rfl
    | false => rw [ltB_f] at h; rw [if_neg (by omega)]; rfl
theorem lenV_run {t ty : TypeId} {ts : List TypeId} {x : CV} {e : EV} {u : Value} (h : lenV P t x = some e) (hx : x.is σ u) : ∃ r, e.is σ r ∧ (Builtin.len_ (t :: ts).toArray ty #[u]).run P w = .ok r w := by
  unfold lenV at h
  split at h
  · split at h
    · rename_i hu
      cases hx
      rw [fN_eq] at h; cases h
      refine ⟨_, rfl, ?_⟩
      simp [Builtin.len_, run_underlying hu, goInt, B_size]
    · cases h
  · split at h
    · rename_i hu
      obtain ⟨_, r, hr, rfl⟩ := hx
      cases h
      refine ⟨_, rfl, ?_⟩
      simp [Builtin.len_, run_underlying hu, goInt]
    · cases h
  · split at h
    · rename_i hu
      obtain ⟨r, c, hr, _, _, _, rfl⟩ := hx
      cases h
      refine ⟨_, rfl, ?_⟩
      simp [Builtin.len_, run_underlying hu, goInt]
    · cases h
  · split at h
    · rename_i hu
      cases hx
      cases h
      refine ⟨_, rfl, ?_⟩
      simp [Builtin.len_, run_underlying hu, goInt]
    · cases h
  · cases h
theorem zeroV_is {t : TypeId} {l : List CV} (h : zeroV P t = some l) : ∃ i z k, P.info? t = some i ∧ i.zero = some z ∧ z.cells = k.toArray ∧ isL σ l k := by
  unfold zeroV at h
  split at h
  · rename_i k hk
    unfold zeroB at hk
    simp only [Option.map_eq_some_iff, Option.bind_eq_some_iff] at hk
    obtain ⟨z, ⟨i, hi, hz⟩, rfl⟩ := hk
    exact ⟨i, z, _, hi, hz, by simp, mapO_is h⟩
  · cases h
theorem buildV_run (H : TS σ N T a.tmps) {t : TypeId} {parts : Array (Nat × Operand)} {e : EV} (h : buildV P t T parts.toList = some e) : ∃ r, e.is σ r ∧ (Instr.build t (parts.map fun (i, x) => (i, a.eval x))).run P w = .ok r w := by
  have hparts : (parts.map fun (i, x) => (i, a.eval x)).toList = parts.toList.map fun x => (x.1, a.eval x.2) := by simp
  unfold buildV at h
  split at h
  · rename_i fs z hu hz
    obtain ⟨i, zv, k, hi, hzv, hzc, hzk⟩ := zeroV_is (σ := σ) hz
    have hzero : (zeroValue t).run P w = .ok zv w := by simp [zeroValue, typeInfo, hi, hzv]
    cases hb : fs.toList.all (fun f => (sizeB P f.type).isSome) with
    | false => rw [hb] at h; cases h
    | true =>
      rw [hb, cond_true] at h
      split at h
      · rename_i l hl
        cases h
        obtain ⟨m, hm, hf⟩ := fillV_run H _ hl hzk
        have hmap : (fs.mapM fun f => (do pure (f.offset, ← sizeOf f.type) : Sem (Nat × Nat))).run P w = .ok ((fs.toList.map fun f => (f.offset, (sizeB P f.type).getD 0)).toArray) w := by
          refine run_mapM_arr fun f hf => ?_
          have := List.all_eq_true.1 hb f hf
          obtain ⟨n, hn⟩ := Option.isSome_iff_exists.1 this
          rw [Sem.run_bind, sizeOf_run hn, hn]
          rfl
        have hpl : (fun j => (fs.toList.map fun f => (f.offset, (sizeB P f.type).getD 0)).toArray[j]?) = placeB P t := by
          funext j
          unfold placeB fieldB
          rw [hu]
          simp only [List.getElem?_toArray, List.getElem?_map, ← Array.getElem?_toList]
          cases hj : fs.toList[j]? with
          | none => rfl
          | some f =>
            have := List.all_eq_true.1 hb f (List.mem_of_getElem? hj)
            obtain ⟨n, hn⟩ := Option.isSome_iff_exists.1 this
            simp [hn]
        refine ⟨_, ⟨m, hm, rfl⟩, ?_⟩
        unfold Instr.build
        rw [Sem.run_bind, hzero, Result.andThen_ok, Sem.run_bind, run_underlying hu, Result.andThen_ok]
        simp only []
        rw [Sem.run_bind, hmap, Result.andThen_ok, hparts, hzc, hpl, hf]
        rfl
      · cases h
  · rename_i n el z hu hz
    obtain ⟨i, zv, k, hi, hzv, hzc, hzk⟩ := zeroV_is (σ := σ) hz
    have hzero : (zeroValue t).run P w = .ok zv w := by simp [zeroValue, typeInfo, hi, hzv]
    split at h
    · rename_i s hs
      split at h
      · rename_i l hl
        cases h
        obtain ⟨m, hm, hf⟩ := fillV_run H _ hl hzk
        refine ⟨_, ⟨m, hm, rfl⟩, ?_⟩
        unfold Instr.build
        rw [Sem.run_bind, hzero, Result.andThen_ok, Sem.run_bind, run_underlying hu, Result.andThen_ok]
        simp only []
        rw [Sem.run_bind, sizeOf_run hs, Result.andThen_ok, hparts, hzc, hf]
        rfl
      · cases h
    · cases h
  · cases h
theorem run_builtin (o : Oper) {b : Builtin} {args : Array Operand} {ts : Array TypeId} (ho : o.op = .call { callee := .builtin b, args := args, argTypes := ts }) :
    ∃ cs, (execOp a.eval o).run P w = (builtin b ts o.type cs (args.map a.eval)).run P w := by
  refine ⟨args.map fun | .const _ => true | _ => false, ?_⟩
  unfold execOp
  rw [ho]
  rfl
theorem evP_run (H : TS σ N T a.tmps) {o : Oper} {e : EV} (h : evP P T o.op = some e) : ∃ v, e.is σ v ∧ (execOp a.eval o).run P w = .ok (.value v) w := by
  cases hop : o.op with
  | move x => rw [hop] at h; exact ⟨_, opE_is H h, by unfold execOp; rw [hop]; rfl⟩
  | assign x => rw [hop] at h; exact ⟨_, opE_is H h, by unfold execOp; rw [hop]; rfl⟩
  | pick c x y =>
    rw [hop] at h
    simp only [evP] at h
    split at h
    · rename_i hc
      have hb := opC_is H hc
      exact ⟨_, opE_is H h, by unfold execOp; rw [hop]; simp only; rw [hb]; rfl⟩
    · rename_i hc
      have hb := opC_is H hc
      exact ⟨_, opE_is H h, by unfold execOp; rw [hop]; simp only; rw [hb]; rfl⟩
    · cases h
  | nilCheck x =>
    rw [hop] at h
    simp only [evP] at h
    split at h
    · rename_i b o' hx
      cases h
      have hb := opC_is H hx
      obtain ⟨r, hr, hv⟩ := hb
      exact ⟨_, ⟨r, hr, rfl⟩, by unfold execOp; rw [hop]; simp only [hv]; rfl⟩
    · cases h
  | binOp op t x y yt =>
    rw [hop] at h
    simp only [evP] at h
    split at h
    · rename_i p q hp hq
      obtain ⟨r, h1, h2, h3⟩ := binV_run (P := P) (w := w) x y h (opP_is H hp) (opP_is H hq)
      refine ⟨r, h1, ?_⟩
      unfold execOp
      rw [hop]
      refine run_v ?_
      rw [Sem.run_bind, h2, Result.andThen_ok]
      exact h3
    · cases h
  | unOp op t x =>
    rw [hop] at h
    simp only [evP] at h
    split at h
    · rename_i p hp
      obtain ⟨r, h1, h2⟩ := unV_run (P := P) (w := w) h (opP_is H hp)
      exact ⟨r, h1, by unfold execOp; rw [hop]; exact run_v h2⟩
    · cases h
  | convert s d x =>
    rw [hop] at h
    simp only [evP] at h
    split at h
    · rename_i p hp
      obtain ⟨r, h1, h2⟩ := convV_run (P := P) (w := w) h (opP_is H hp)
      exact ⟨r, h1, by unfold execOp; rw [hop]; exact run_v h2⟩
    · cases h
  | fieldAddr s x f =>
    rw [hop] at h
    simp only [evP] at h
    split at h
    · rename_i b o' off t hx hf
      obtain ⟨r, hr, hv⟩ := opC_is H hx
      split at h
      · cases h
      · rename_i n hn0 hn
        rw [fN_eq] at h; cases h
        refine ⟨_, ⟨r, hr, rfl⟩, ?_⟩
        unfold execOp
        rw [hop]
        refine run_v ?_
        unfold fieldB at hf
        split at hf
        · rename_i fs hu
          simp only [Option.map_eq_some_iff, Prod.mk.injEq] at hf
          obtain ⟨fd, hfd, rfl, rfl⟩ := hf
          simp only [hv, Instr.fieldAt]
          rw [Sem.run_bind, run_underlying hu, Result.andThen_ok]
          have hne : n ≠ 0 := hn0
          simp only [hfd, Instr.sureAddr, fieldPlace, Sem.run_bind, Sem.run_pure, Result.andThen_ok, sizeOf_run hn, if_neg hne, addr_add]
          rfl
        · cases hf
      · cases h
    · cases h
  | field s x f =>
    rw [hop] at h
    simp only [evP] at h
    split at h
    · rename_i l off t hx hf
      obtain ⟨k, hk, hv⟩ := opP_is H hx
      obtain ⟨r, h1, h2⟩ := partV_run (P := P) (w := w) h hk
      refine ⟨r, h1, ?_⟩
      unfold execOp
      rw [hop]
      refine run_v ?_
      unfold fieldB at hf
      split at hf
      · rename_i fs hu
        simp only [Option.map_eq_some_iff, Prod.mk.injEq] at hf
        obtain ⟨fd, hfd, rfl, rfl⟩ := hf
        simp only [hv, Instr.field]
        rw [Sem.run_bind, run_underlying hu, Result.andThen_ok]
        simp only [hfd, asAgg, Sem.run_bind, Sem.run_pure, Result.andThen_ok]
        exact h2
      · cases hf
    · cases h
  | indexAddr t x i =>
    rw [hop] at h
    simp only [evP] at h
    split at h
    · rename_i p q hp hq
      obtain ⟨r, h1, h2⟩ := adrV_run (P := P) (w := w) h (opC_is H hp) (opC_is H hq)
      exact ⟨r, h1, by unfold execOp; rw [hop]; exact run_v h2⟩
    · cases h
  | index t x i =>
    rw [hop] at h
    simp only [evP] at h
    split at h
    · rename_i l k j hx hi hu
      have hv := opP_is H hx
      have hj := opC_is H hi
      split at h
      · rename_i n hn
        rw [fN_eq] at h; cases h
        rw [nth_eq] at hn
        refine ⟨_, rfl, ?_⟩
        unfold execOp
        rw [hop]
        refine run_v ?_
        have hv' : a.eval x = .string (B (l.map UInt8.ofNat)) := hv
        have hj' : a.eval i = .int k (j : Nat) := hj
        rw [hv', hj']
        unfold Instr.index
        simp only [asIntOf, Sem.run_bind, Sem.run_pure, Result.andThen_ok, run_underlying hu]
        have hlt : j < l.length := (List.getElem?_eq_some_iff.1 hn).1
        have h1 : j < (B (l.map UInt8.ofNat)).size := by rw [B_size]; simpa using hlt
        have hb : (B (l.map UInt8.ofNat))[j]? = some ((B (l.map UInt8.ofNat))[j]'h1) := getElem?_pos _ j h1
        have hg := B_get (l.map UInt8.ofNat) j h1
        rw [if_pos (by omega), Int.toNat_natCast, hb]
        simp only [Sem.run_pure, hg]
        congr 2
        unfold bt
        rw [List.getD_eq_getElem?_getD, List.getElem?_map, hn]
        simp only [Option.map_some, Option.getD_some, UInt8.toNat_ofNat']
        rfl
      · cases h
    · rename_i l k n len el hx hi hu
      obtain ⟨m, hm, hv⟩ := opP_is H hx
      have hj := opC_is H hi
      split at h
      · rename_i z j hz hj'
        obtain ⟨rfl, hlt⟩ := idxOf_some hj'
        obtain ⟨r, h1, h2⟩ := partV_run (P := P) (w := w) h hm
        refine ⟨r, h1, ?_⟩
        unfold execOp
        rw [hop]
        refine run_v ?_
        have hj2 : a.eval i = .int k (j : Nat) := hj
        rw [hv, hj2]
        unfold Instr.index
        have c1 : (0 : Int) ≤ j := by omega
        have c2 : (j : Int) < (len : Nat) := by omega
        simp only [asIntOf, Sem.run_bind, Sem.run_pure, Result.andThen_ok, run_underlying hu, c1, c2, and_self, if_true, sizeOf_run hz, Int.toNat_natCast]
        exact h2
      · cases h
    · cases h
  | slice t x lo hi mx =>
    rw [hop] at h
    simp only [evP] at h
    split at h
    · rename_i p l h' m hp hl hh hm
      cases hb : m.isNone || h'.isSome with
      | false => rw [hb] at h; cases h
      | true =>
        rw [hb, cond_true] at h
        obtain ⟨r, h1, h2⟩ := sliceV_run (P := P) (w := w) h (opC_is H hp) (optC_is H hl) (optC_is H hh) (optC_is H hm) hb
        exact ⟨r, h1, by unfold execOp; rw [hop]; exact run_v h2⟩
    · cases h
  | extract x i =>
    rw [hop] at h
    simp only [evP] at h
    split at h
    · rename_i l hx
      split at h
      · rename_i v hv
        cases h
        rw [nth_eq] at hv
        obtain ⟨k, hk, he⟩ := opE_is H hx
        obtain ⟨u, hu, hc⟩ := isT_nth hk hv
        refine ⟨u, hc, ?_⟩
        unfold execOp
        rw [hop]
        refine run_v ?_
        rw [he]
        simp [Instr.extract, hu]
      · cases h
    · cases h
  | build t parts =>
    rw [hop] at h
    simp only [evP] at h
    obtain ⟨r, h1, h2⟩ := buildV_run (P := P) (w := w) H h
    exact ⟨r, h1, by unfold execOp; rw [hop]; exact run_v h2⟩
  | makeFunc fn first cap =>
    rw [hop] at h
    unfold evP at h
    split at h <;> try (first | (rename_i e; cases e; done) | (cases h; done))
    rename_i f first' cap' e
    cases e
    split at h
    · rename_i l h1 h2
      cases h
      refine ⟨_, ⟨_, ptrsV_is H h2, rfl⟩, ?_⟩
      unfold execOp
      rw [hop]
      refine run_v ?_
      have : first = #[] := by apply Array.ext'; simpa using h1
      subst this
      rw [show (cap.toList.map a.eval).toArray = cap.map a.eval from Array.ext' (by simp), show Array.map a.eval #[] = #[] from Array.ext' (by simp)]
      rfl
    · cases h
  | call c =>
    obtain ⟨callee, args, ts⟩ := c
    rw [hop] at h
    unfold evP at h
    split at h <;> rename_i e <;> first | (cases e; done) | skip
    all_goals try (first | (rename_i e'; cases e'; done) | (cases h; done))
    · cases e
      split at h
      · rename_i x t ts' h1 h2
        split at h
        · rename_i v hv
          obtain ⟨r, h3, h4⟩ := lenV_run (P := P) (w := w) (ts := ts') (ty := o.type) h (opC_is H hv)
          refine ⟨r, h3, ?_⟩
          obtain ⟨bs, hbs⟩ := run_builtin (P := P) (w := w) (a := a) o hop
          rw [hbs]
          have e1 : args = #[x] := by apply Array.ext'; simpa using h1
          have e2 : ts = (t :: ts').toArray := by apply Array.ext'; simpa using h2
          subst e1 e2
          rw [show Array.map a.eval #[x] = #[a.eval x] from Array.ext' (by simp)]
          exact run_v h4
        · cases h
      · cases h
    · cases e
      split at h
      · rename_i k x l hl
        rw [fI_eq] at h; cases h
        refine ⟨_, rfl, ?_⟩
        obtain ⟨bs, hbs⟩ := run_builtin (P := P) (w := w) (a := a) o hop
        rw [hbs]
        refine run_v ?_
        show (Builtin.max_ ts o.type (args.map a.eval)).run P w = _
        unfold Builtin.max_
        rw [Array.toList_map, intsV_is H hl, List.map_cons]
        exact max_run
      · cases h
    · cases e
      split at h
      · rename_i k x l hl
        rw [fI_eq] at h; cases h
        refine ⟨_, rfl, ?_⟩
        obtain ⟨bs, hbs⟩ := run_builtin (P := P) (w := w) (a := a) o hop
        rw [hbs]
        refine run_v ?_
        show (Builtin.min_ ts o.type (args.map a.eval)).run P w = _
        unfold Builtin.min_
        rw [Array.toList_map, intsV_is H hl, List.map_cons]
        exact min_run
      · cases h
    · cases e
      split at h
      · rename_i x h1
        have e1 : args = #[x] := by apply Array.ext'; simpa using h1
        subst e1
        obtain ⟨bs, hbs⟩ := run_builtin (P := P) (w := w) (a := a) o hop
        rw [hbs, show Array.map a.eval #[x] = #[a.eval x] from Array.ext' (by simp)]
        split at h
        · rename_i hx
          cases h
          have hv := opC_is H hx
          refine ⟨_, rfl, run_v ?_⟩
          rw [show a.eval x = .slice none 0 0 from hv]
          exact Lib.run_unsafeSliceData_nil w _ _ _ _
        · rename_i b off n c hx
          obtain ⟨_, r, hr, hv⟩ := opC_is H hx
          cases hc : Nat.beq c 0 with
          | true => rw [hc] at h; cases h
          | false =>
            rw [hc] at h; cases h
            refine ⟨_, ⟨r, hr, rfl⟩, run_v ?_⟩
            rw [hv]
            exact Lib.run_unsafeSliceData_row w _ _ _ _ _ (fun e => by rw [e] at hc; cases hc)
        · rename_i b e0 z n hx
          obtain ⟨r, c, hr, _, hen, _, hv⟩ := opC_is H hx
          cases hn : Nat.beq n 0 with
          | true => rw [hn] at h; cases h
          | false =>
            have hn0 : n ≠ 0 := fun e => by rw [e] at hn; cases hn
            rw [hn, cond_false, fN_eq] at h; cases h
            refine ⟨_, ⟨r, hr, rfl⟩, run_v ?_⟩
            rw [hv]
            exact Lib.run_unsafeSliceData_row w _ _ _ _ _ (by omega)
        · cases h
      · cases h
  | _ => rw [hop] at h; cases h
end
end Go.Proofs.YtcfopechdlgioaaGreatDoor
