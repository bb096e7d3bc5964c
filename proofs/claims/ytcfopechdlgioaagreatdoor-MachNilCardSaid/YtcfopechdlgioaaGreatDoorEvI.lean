/- The reckoner, part I: whatever the order, the same comes of it. -/
import Derived.Test.YtcfopechdlgioaaGreatDoorEvH
namespace Go.Proofs.YtcfopechdlgioaaGreatDoor
open Go.RowKit
/-- Which operations are done. -/
def dn (l : Array Bool) (i : Nat) : Prop := l.getD i false = true
instance (l : Array Bool) (i : Nat) : Decidable (dn l i) := inferInstanceAs (Decidable (_ = true))
structure DInv (σ : Sg) (N : Nat) (T0 : Tm) (dl : List (Nat × Nat × Nat)) (D : Nat → Prop) (v : List (Nat × EV)) (t : Array Value) : Prop where
  size : t.size = N
  done : ∀ k tt m, (k, tt, m) ∈ dl → D k → ∀ e, look v k = some e → e.is σ (t.getD tt undef)
  old : ∀ tt e, T0.get tt = some e → (∀ k m, (k, tt, m) ∈ dl → ¬ D k) → e.is σ (t.getD tt undef)
theorem undone_lt (p : Array Bool) (i : Nat) : ∀ n, i < n → n ≤ p.size → p.getD i true = false → ((List.range n).filter fun j => !(p.setIfInBounds i true).getD j true).length < ((List.range n).filter fun j => !p.getD j true).length
  | 0, h, _, _ => by omega
  | n + 1, h, hn, hp => by
    rw [List.range_succ, List.filter_append, List.filter_append, List.length_append, List.length_append]
    have other : ∀ j, j ≠ i → (p.setIfInBounds i true).getD j true = p.getD j true := fun j hj => by
      rw [Array.getD_eq_getD_getElem?, Array.getD_eq_getD_getElem?, Array.getElem?_setIfInBounds_ne (by omega)]
    rcases Nat.lt_or_ge i n with hi | hi
    · have := undone_lt p i n hi (by omega) hp
      have e : ([n].filter fun j => !(p.setIfInBounds i true).getD j true) = [n].filter fun j => !p.getD j true := by simp only [List.filter_cons, List.filter_nil, other n (by omega)]
      rw [e]; omega
    · have hin : i = n := by omega
      subst hin
      have e : ((List.range i).filter fun j => !(p.setIfInBounds i true).getD j true) = (List.range i).filter fun j => !p.getD j true := by
        apply List.filter_congr
        intro j hj
        rw [other j (by have := List.mem_range.1 hj; omega)]
      rw [e]
      have h1 : (p.setIfInBounds i true).getD i true = true := by
        rw [Array.getD_eq_getD_getElem?, Array.getElem?_setIfInBounds_self_of_lt (by omega)]; rfl
      have e1 : ([i].filter fun j => !(p.setIfInBounds i true).getD j true).length = 0 := by
        rw [List.filter_cons, List.filter_nil, h1]; rfl
      have e2 : ([i].filter fun j => !p.getD j true).length = 1 := by
        rw [List.filter_cons, List.filter_nil, hp]; rfl
      rw [e1, e2]; omega
section
variable {P : Program} {w0 : World} {N : Nat} {call : CallF} {T0 : Tm} {ops : Array Oper} {ix : List Ix} {dl : List (Nat × Nat × Nat)}
/-- What is done while the rounds go on. -/
structure DSt (P : Program) (ix : List Ix) (w0 : World) (N : Nat) (T0 : Tm) (ops : Array Oper) (dl : List (Nat × Nat × Nat)) (nx0 : Nat) (σ0 σ : Sg) (p : Array Bool) (v : List (Nat × EV)) (lv : List (Nat × DK)) (H : Hm) (nx : Nat) (a : Act) (w : World) : Prop where
  size : p.size = ops.size
  clo : ∀ i o, ops[i]? = some o → dn p i → ∀ e ∈ o.after.toList, Region.binds .any e = true → dn p e.on
  dom : ∀ i, dn p i → (look v i).isSome = true
  live : ∀ i, (look v i).isSome = true → ¬ dn p i → ∃ kd, (i, kd) ∈ lv
  sim : Sim w0 σ H nx w
  base : nx0 ≤ nx
  ext : ExtS nx0 σ0 σ
  inv : DInv σ N T0 dl (dn p) v a.tmps
  defers : a.defers = []
  un : ∀ i b x, (i, DK.a b x) ∈ lv → ¬ dn p i → σ.r b = none
  fact : ∀ i kd, (i, kd) ∈ lv → ¬ dn p i → Fact P T0 ops dl ix nx0 v H nx i kd
structure IxOk (ops : Array Oper) (ix : List Ix) (dl : List (Nat × Nat × Nat)) (N : Nat) : Prop where
  len : ix.length = ops.size
  at' : ∀ (j : Nat) (x : Ix), ix[j]? = some x → x.1 = j ∧ ops[j]? = some x.2.1
  clo : ∀ D : Nat → Prop, (∀ i o, ops[i]? = some o → D i → ∀ e ∈ o.after.toList, Region.binds .any e = true → D e.on) → ∀ x ∈ ix, D x.1 → ∀ q, x.2.2.testBit q = true → D q
  low : ∀ x ∈ ix, ∀ e ∈ x.2.1.after.toList, Region.binds .any e = true → e.on < x.1
  bit : ∀ x ∈ ix, ∀ q, x.2.2.testBit q = true → q < x.1
  dsts : dl = dstsOf ix
  nodup : nodupT dl = true
  lt : ∀ x ∈ dl, x.2.1 < N
theorem IxOk.get (I : IxOk ops ix dl N) {i : Nat} {o : Oper} (h : ops[i]? = some o) : ∃ m, ix[i]? = some (i, o, m) := by
  have hi : i < ix.length := by rw [I.len]; exact (Array.getElem?_eq_some_iff.1 h).1
  obtain ⟨h1, h2⟩ := I.at' i ix[i] (List.getElem?_eq_getElem hi)
  rw [h] at h2
  refine ⟨ix[i].2.2, ?_⟩
  rw [List.getElem?_eq_getElem hi]
  have : ix[i] = (ix[i].1, ix[i].2.1, ix[i].2.2) := rfl
  rw [this, h1, ← Option.some.inj h2]
theorem IxOk.dlm (I : IxOk ops ix dl N) {k t m : Nat} (h : (k, t, m) ∈ dl) : ∃ o, (k, o, m) ∈ ix ∧ ops[k]? = some o ∧ o.dst = some t := by
  rw [I.dsts, dstsOf_mem] at h
  obtain ⟨o, h1, h2⟩ := h
  obtain ⟨j, hj⟩ := List.getElem?_of_mem h1
  obtain ⟨g1, g2⟩ := I.at' j _ hj
  simp only at g1
  subst g1
  exact ⟨o, h1, g2, h2⟩
theorem setp_dn {p : Array Bool} {i : Nat} (hi : i < p.size) (k : Nat) : dn (p.setIfInBounds i true) k ↔ (k = i ∨ dn p k) := by
  unfold dn
  by_cases h : k = i
  · subst h
    rw [Array.getD_eq_getD_getElem?, Array.getElem?_setIfInBounds_self_of_lt hi]; simp
  · rw [Array.getD_eq_getD_getElem?, Array.getElem?_setIfInBounds_ne (by omega), ← Array.getD_eq_getD_getElem?]
    simp [h]
variable {nx0 nx : Nat} {σ0 σ τ : Sg} {p : Array Bool} {v : List (Nat × EV)} {lv : List (Nat × DK)} {H : Hm} {a : Act} {w : World}
/-- The slots, as an operation that may be done finds them. -/
theorem slots_for (I : IxOk ops ix dl N) (S : DSt P ix w0 N T0 ops dl nx0 σ0 σ p v lv H nx a w) {i m : Nat} {o : Oper} (hx : ix[i]? = some (i, o, m)) (hi : ¬ dn p i) (hd : ∀ e ∈ o.after.toList, Region.binds .any e = true → dn p e.on)
    {T : Tm} (hT : Slots T0 dl i m v T) : TS σ N T a.tmps := by
  have ho := (I.at' i _ hx).2
  have hcl : ∀ q, m.testBit q = true → q = i ∨ dn p q := I.clo (fun k => k = i ∨ dn p k) (fun k o' ho' hk e he hb => by
    rcases hk with rfl | hk
    · simp only at ho; rw [ho] at ho'; cases ho'; exact .inr (hd e he hb)
    · exact .inr (S.clo k o' ho' hk e he hb)) _ (List.mem_of_getElem? hx) (.inl rfl)
  refine ⟨S.inv.size, fun t e he => ?_⟩
  rcases hT t e he with ⟨k, mk, h1, h2, h3⟩ | ⟨h1, h2⟩
  · obtain ⟨o', hm', ho', hdst⟩ := I.dlm h1
    have hk : dn p k := by
      rcases hcl k h2 with rfl | h
      · exact absurd (I.bit _ (List.mem_of_getElem? hx) _ h2) (Nat.lt_irrefl _)
      · exact h
    exact S.inv.done k t mk h1 hk e h3
  · refine S.inv.old t e h1 fun k mk h3 hk => hi ?_
    obtain ⟨o', hm', ho', hdst⟩ := I.dlm h3
    exact I.clo (dn p) S.clo _ hm' hk i (h2 k mk h3).2
theorem setp_un {i : Nat} (hi : ¬ dn p i) {i' : Nat} (h : ¬ dn (p.setIfInBounds i true) i') (hs : i < p.size) : i' ≠ i ∧ ¬ dn p i' := by
  rw [setp_dn hs] at h
  exact ⟨fun e => h (.inl e), fun e => h (.inr e)⟩
/-- A slot is written. -/
theorem inv_step (I : IxOk ops ix dl N) (S : DSt P ix w0 N T0 ops dl nx0 σ0 σ p v lv H nx a w) {i : Nat} {o : Oper} (ho : ops[i]? = some o) (hi : ¬ dn p i) {v' : List (Nat × EV)} {e : EV} (hv : look v' i = some e) (hvo : ∀ k, k ≠ i → look v' k = look v k) {u : Value} (hle : σ.Le τ) (he : e.is τ u) :
    DInv τ N T0 dl (dn (p.setIfInBounds i true)) v' (a.put o.dst u).tmps := by
  have his : i < p.size := by rw [S.size]; exact (Array.getElem?_eq_some_iff.1 ho).1
  obtain ⟨m, hm⟩ := I.get ho
  have other : ∀ {tt : Nat}, o.dst ≠ some tt → (a.put o.dst u).tmps.getD tt undef = a.tmps.getD tt undef := fun {tt} h => by
    cases hd : o.dst with
    | none => rfl
    | some d =>
      show (a.tmps.setIfInBounds d u).getD tt undef = _
      rw [Array.getD_eq_getD_getElem?, Array.getD_eq_getD_getElem?, Array.getElem?_setIfInBounds_ne (fun e => h (by rw [hd, e]))]
  refine ⟨?_, fun k tt mk hk hD e' he' => ?_, fun tt e' he' hno => ?_⟩
  · cases hd : o.dst with
    | none => exact S.inv.size
    | some d => simp [Act.put, S.inv.size]
  · obtain ⟨o', hm', ho', hdst⟩ := I.dlm hk
    rw [setp_dn his] at hD
    by_cases hki : k = i
    · subst hki
      rw [ho] at ho'; cases ho'
      rw [hv] at he'; cases he'
      rw [hdst]
      show EV.is τ e ((a.tmps.setIfInBounds tt u).getD tt undef)
      have : tt < a.tmps.size := by rw [S.inv.size]; exact I.lt _ hk
      rw [Array.getD_eq_getD_getElem?, Array.getElem?_setIfInBounds_self_of_lt this]
      exact he
    · have hD' := hD.resolve_left hki
      rw [hvo k hki] at he'
      rw [other fun h => hki ?_]
      · exact EV.is_le hle (S.inv.done k tt mk hk hD' e' he')
      · have hmem : (i, tt, m) ∈ dl := by rw [I.dsts, dstsOf_mem]; exact ⟨o, List.mem_of_getElem? hm, h⟩
        have := nodupT_ne I.nodup hk hmem
        exact (Prod.mk.inj this).1
  · rw [other fun h => ?_]
    · exact EV.is_le hle (S.inv.old tt e' he' fun k mk hk hD => hno k mk hk ((setp_dn his k).2 (.inr hD)))
    · have hmem : (i, tt, m) ∈ dl := by rw [I.dsts, dstsOf_mem]; exact ⟨o, List.mem_of_getElem? hm, h⟩
      exact hno i m hmem ((setp_dn his i).2 (.inl rfl))
theorem clo_step (S : DSt P ix w0 N T0 ops dl nx0 σ0 σ p v lv H nx a w) {i : Nat} {o : Oper} (ho : ops[i]? = some o) (hd : ∀ e ∈ o.after.toList, Region.binds .any e = true → dn p e.on) :
    ∀ k o', ops[k]? = some o' → dn (p.setIfInBounds i true) k → ∀ e ∈ o'.after.toList, Region.binds .any e = true → dn (p.setIfInBounds i true) e.on := by
  have his : i < p.size := by rw [S.size]; exact (Array.getElem?_eq_some_iff.1 ho).1
  intro k o' ho' hk e he hb
  rw [setp_dn his] at hk ⊢
  rcases hk with rfl | hk
  · rw [ho] at ho'; cases ho'; exact .inr (hd e he hb)
  · exact .inr (S.clo k o' ho' hk e he hb)
/-- What was reckoned in its round, and is done now: nothing of what the rounds know turns. -/
theorem st_step (I : IxOk ops ix dl N) (S : DSt P ix w0 N T0 ops dl nx0 σ0 σ p v lv H nx a w) {i : Nat} {o : Oper} (ho : ops[i]? = some o) (hi : ¬ dn p i) (hd : ∀ e ∈ o.after.toList, Region.binds .any e = true → dn p e.on) {e : EV} (hv : look v i = some e) {u : Value} {w' : World}
    (hle : σ.Le τ) (he : e.is τ u) (hS : Sim w0 τ H nx w') (hx : ExtS nx0 σ0 τ) (hun : ∀ k b x, (k, DK.a b x) ∈ lv → k ≠ i → ¬ dn p k → τ.r b = none) : DSt P ix w0 N T0 ops dl nx0 σ0 τ (p.setIfInBounds i true) v lv H nx (a.put o.dst u) w' := by
  have his : i < p.size := by rw [S.size]; exact (Array.getElem?_eq_some_iff.1 ho).1
  refine ⟨by simp [S.size], clo_step S ho hd, fun k hk => ?_, fun k hk hn => S.live k hk (setp_un hi hn his).2, hS, S.base, hx, inv_step I S ho hi hv (fun _ _ => rfl) hle he, put_defers _ _ S.defers, fun k b x hk hn => ?_, fun k kd hk hn => S.fact k kd hk (setp_un hi hn his).2⟩
  · rw [setp_dn his] at hk
    rcases hk with rfl | hk
    · rw [hv]; rfl
    · exact S.dom k hk
  · obtain ⟨h1, h2⟩ := setp_un hi hn his
    exact hun k b x hk h1 h2
/-- More blocks are known, of which nothing is there yet. -/
theorem Sim.more (S : Sim w0 σ H nx w) {K : Hm} {ny : Nat} (h : ∀ b, b < nx → K.get b = H.get b) (hn : nx ≤ ny) : Sim w0 σ K ny w := by
  have lt : ∀ {b r}, σ.r b = some r → b < nx := fun {b r} hr => by
    rcases Nat.lt_or_ge b nx with h | h
    · exact h
    · rw [S.new b h] at hr; cases hr
  exact ⟨S.bel, fun b hb => S.new b (by omega), fun b x r hb hr => S.ok b x r (by rw [← h b (lt hr)]; exact hb) hr, fun b c r s hr hs hb hc e => S.inj b c r s hr hs (by rw [← h b (lt hr)]; exact hb) (by rw [← h c (lt hs)]; exact hc) e⟩
theorem ready_iff {i : Nat} (hsz : p.size = ops.size) : i ∈ Region.ready .any ops p ↔ ∃ o, ops[i]? = some o ∧ ¬ dn p i ∧ ∀ e ∈ o.after.toList, Region.binds .any e = true → dn p e.on := by
  unfold Region.ready
  rw [List.mem_filter, List.mem_range, Bool.and_eq_true]
  constructor
  · rintro ⟨h1, h2, h3⟩
    rw [Array.getElem?_eq_getElem h1] at h3
    refine ⟨ops[i], Array.getElem?_eq_getElem h1, fun hd => ?_, fun e he hb => ?_⟩
    · unfold dn at hd
      rw [Array.getD_eq_getD_getElem?, Array.getElem?_eq_getElem (by omega)] at hd h2
      simp only [Option.getD_some] at hd h2
      rw [hd] at h2; cases h2
    · simp only [Option.map_some, Option.getD_some, Array.all_eq_true'] at h3
      have := h3 e (by simpa using he)
      rw [hb] at this
      simpa [dn] using this
  · rintro ⟨o, ho, hn, hd⟩
    have h1 := (Array.getElem?_eq_some_iff.1 ho).1
    refine ⟨h1, ?_, ?_⟩
    · unfold dn at hn
      rw [Array.getD_eq_getD_getElem?, Array.getElem?_eq_getElem (by omega)] at hn ⊢
      simpa using hn
    · rw [ho]
      simp only [Option.map_some, Option.getD_some, Array.all_eq_true']
      intro e he
      cases hb : Region.binds .any e with
      | false => rfl
      | true => simpa [dn] using hd e (by simpa using he) hb
/-- All is done where nothing is ready. -/
theorem all_done (I : IxOk ops ix dl N) (hsz : p.size = ops.size) (h : Region.ready .any ops p = []) : ∀ i, i < ops.size → dn p i := by
  intro i
  induction i using Nat.strongRecOn with
  | _ i ih =>
    intro hi
    cases hq : decide (dn p i) with
    | true => exact of_decide_eq_true hq
    | false =>
      exfalso
      have hn := of_decide_eq_false hq
      have ho := Array.getElem?_eq_getElem hi
      obtain ⟨m, hm⟩ := I.get ho
      have : i ∈ Region.ready .any ops p := (ready_iff hsz).2 ⟨_, ho, hn, fun e he hb => by
        have := I.low _ (List.mem_of_getElem? hm) e he hb
        simp only at this
        exact ih _ this (by omega)⟩
      rw [h] at this
      cases this
end
end Go.Proofs.YtcfopechdlgioaaGreatDoor
