/- The reckoner, part L: a call that was reckoned once, by itself, is used again. -/
import Derived.Test.YtcfopechdlgioaaGreatDoorEvK
namespace Go.Proofs.YtcfopechdlgioaaGreatDoor
open Go.RowKit
/-! ### Blocks are moved up -/
def CV.mv (d : Nat) : CV → CV
  | .p g o => .p (g + d) o
  | .sl g o n c => .sl (g + d) o n c
  | .su g e z n => .su (g + d) e z n
  | .m g => .m (g + d)
  | .f j l => .f j (l.map fun x => (x.1 + d, x.2))
  | x => x
def PV.mv (d : Nat) : PV → PV
  | .c x => .c (x.mv d)
  | .a l => .a (l.map (CV.mv d))
def EV.mv (d : Nat) : EV → EV
  | .p x => .p (x.mv d)
  | .t l => .t (l.map (PV.mv d))
def EB.mv (d : Nat) : EB → EB
  | .c cs t => .c (cs.map (CV.mv d)) t
  | .m => .m
/-- σ's block b is τ's block b + d. -/
structure Sg.Mv (d : Nat) (σ τ : Sg) : Prop where
  r : ∀ b x, σ.r b = some x → τ.r (b + d) = some x
  v : τ.v = σ.v
section
variable {d : Nat} {σ τ : Sg}
theorem isPs_mv (h : σ.Mv d τ) {l : List (Nat × Nat)} {k : List Value} (hk : isPs σ l k) : isPs τ (l.map fun x => (x.1 + d, x.2)) k := by
  induction hk with
  | nil => exact .nil
  | cons h1 _ ih => obtain ⟨r, h1, h2⟩ := h1; exact .cons ⟨r, h.r _ _ h1, h2⟩ ih
theorem CV.is_mv (h : σ.Mv d τ) {q : CV} {x : Value} (hc : q.is σ x) : (q.mv d).is τ x := by
  cases q <;> simp only [CV.is, CV.mv] at hc ⊢
  case p => obtain ⟨r, h1, h2⟩ := hc; exact ⟨r, h.r _ _ h1, h2⟩
  case sl => obtain ⟨h0, r, h1, h2⟩ := hc; exact ⟨h0, r, h.r _ _ h1, h2⟩
  case su => obtain ⟨r, c, h1, h2⟩ := hc; exact ⟨r, c, h.r _ _ h1, h2⟩
  case m => obtain ⟨r, h1, h2⟩ := hc; exact ⟨r, h.r _ _ h1, h2⟩
  case f => obtain ⟨k, h1, h2⟩ := hc; exact ⟨k, isPs_mv h h1, h2⟩
  case v => rw [h.v]; exact hc
  all_goals exact hc
theorem isL_mv (h : σ.Mv d τ) {l : List CV} {k : List Value} (hk : isL σ l k) : isL τ (l.map (CV.mv d)) k := by
  induction hk with
  | nil => exact .nil
  | cons h1 _ ih => exact .cons (CV.is_mv h h1) ih
theorem PV.is_mv (h : σ.Mv d τ) {q : PV} {x : Value} (hc : q.is σ x) : (q.mv d).is τ x := by
  cases q with
  | c q => exact CV.is_mv (q := q) h hc
  | a l => obtain ⟨k, h1, h2⟩ := hc; exact ⟨k, isL_mv h h1, h2⟩
theorem isT_mv (h : σ.Mv d τ) {l : List PV} {k : List Value} (hk : isT σ l k) : isT τ (l.map (PV.mv d)) k := by
  induction hk with
  | nil => exact .nil
  | cons h1 _ ih => exact .cons (PV.is_mv h h1) ih
theorem EV.is_mv (h : σ.Mv d τ) {q : EV} {x : Value} (hc : q.is σ x) : (q.mv d).is τ x := by
  cases q with
  | p q => exact PV.is_mv (q := q) h hc
  | t l => obtain ⟨k, h1, h2⟩ := hc; exact ⟨k, isT_mv h h1, h2⟩
theorem EB.ok_mv (h : σ.Mv d τ) {x : EB} {r : Nat × Nat} {o : Option Obj} (hx : x.ok σ r o) : (x.mv d).ok τ r o := by
  cases x with
  | c cs ty =>
    obtain ⟨xs, h1, h2, h3, h4⟩ := hx
    exact ⟨xs, h1, h2, by simpa using h3, by simpa using isL_mv h h4⟩
  | m => exact hx
end
/-! ### No block lies from a place on -/
def Tr.lts {α : Type} (n : Nat) : Nat → Nat → Tr α → Bool
  | _, _, .nil => true
  | a, m, .nd v l r => (v.isNone || Nat.blt a n) && (Tr.lts n (a + m) (2 * m) l && Tr.lts n (a + 2 * m) (2 * m) r)
theorem Tr.lts_get {α : Type} {n : Nat} : ∀ {t : Tr α} {a m k : Nat} {x : α}, Tr.lts n a m t = true → t.get k = some x → a + m * k < n
  | .nil, a, m, k, x, _, h => by cases k <;> cases h
  | .nd v l r, a, m, 0, x, hb, h => by
    simp only [Tr.get] at h
    simp only [Tr.lts, Bool.and_eq_true, Bool.or_eq_true, h] at hb
    rcases hb.1 with hb | hb
    · cases hb
    · simpa using hb
  | .nd v l r, a, m, k + 1, x, hb, h => by
    simp only [Tr.lts, Bool.and_eq_true] at hb
    rw [Tr.get] at h
    cases hk : Nat.beq (Nat.mod k 2) 0 with
    | true =>
      rw [hk, cond_true] at h
      have := Tr.lts_get hb.2.1 h
      have h0 : k % 2 = 0 := Nat.eq_of_beq_eq_true hk
      have h1 : k = 2 * (k / 2) := by omega
      have h2 : m * (k + 1) = m + 2 * m * (k / 2) := by
        conv => lhs; rw [h1]
        rw [Nat.mul_add, Nat.mul_one, Nat.mul_left_comm, ← Nat.mul_assoc]; omega
      have h3 : (2 * m) * Nat.div k 2 = 2 * m * (k / 2) := rfl
      omega
    | false =>
      rw [hk, cond_false] at h
      have := Tr.lts_get hb.2.2 h
      have h0 : k % 2 = 1 := by
        have : ¬ k % 2 = 0 := fun e => by rw [show Nat.mod k 2 = 0 from e] at hk; cases hk
        omega
      have h1 : k = 2 * (k / 2) + 1 := by omega
      have h2 : m * (k + 1) = 2 * m + 2 * m * (k / 2) := by
        conv => lhs; rw [h1]
        rw [Nat.mul_add, Nat.mul_one, Nat.mul_add, Nat.mul_one, Nat.mul_left_comm, ← Nat.mul_assoc]; omega
      have h3 : (2 * m) * Nat.div k 2 = 2 * m * (k / 2) := rfl
      omega
/-! ### A call that is known -/
/-- A function, arguments, what it gives, how many blocks it makes, and those that are kept. -/
structure Kn where
  f : Nat
  xs : List EV
  e : EV
  n : Nat
  bs : List (Nat × EB)
def CV.clo : CV → Bool
  | .i _ _ => true
  | .b _ => true
  | .s _ => true
  | .np => true
  | .ns => true
  | _ => false
def EV.clo : EV → Bool
  | .p (.c x) => x.clo
  | _ => false
def putAll (d : Nat) : List (Nat × EB) → Hm → (Hm → Option XR) → Option XR
  | [], H, K => K H
  | (b, x) :: r, H, K => fN (Nat.add b d) fun b => putH H b (some (x.mv d)) fun H => putAll d r H K
def knE (ks : List Kn) : CallF := fun f xs H nx => match ks with
  | [] => none
  | k :: r => match Nat.beq f k.f with
    | false => knE r f xs H nx
    | true => match decide (xs = k.xs) && Tr.lts nx 0 1 H with
      | true => putAll nx k.bs H fun H => fN (Nat.add nx k.n) fun n => some (.w (k.e.mv nx) H n)
      | false => knE r f xs H nx
def knOk (k : Kn) (x : Option XR) : Bool := match x with
  | some (.w e K n) => decide (e = k.e) && (Nat.beq n k.n && (k.xs.all EV.clo && k.bs.all fun x => match K.get x.1 with
    | some y => decide (y = x.2)
    | none => false))
  | _ => false
theorem clo_is {σ τ : Sg} {xs : List EV} {vs : List Value} (h : xs.all EV.clo = true) (hx : isA σ xs vs) : isA τ xs vs := by
  induction hx with
  | nil => exact .nil
  | cons h1 _ ih =>
    simp only [List.all_cons, Bool.and_eq_true] at h
    refine .cons ?_ (ih h.2)
    rename_i c x _ _ _
    cases c with
    | t l => cases h.1
    | p q =>
      cases q with
      | a l => cases h.1
      | c q =>
        cases q <;> first | exact h1 | cases h.1
theorem putAll_some {d : Nat} {K : Hm → Option XR} {r : XR} : ∀ {bs : List (Nat × EB)} {H : Hm}, putAll d bs H K = some r → ∃ L : Hm, (∀ c x, L.get c = some x → (∃ y ∈ bs, c = y.1 + d ∧ x = y.2.mv d) ∨ H.get c = some x) ∧ K L = some r
  | [], H, h => ⟨H, fun c x hc => .inr hc, h⟩
  | (b, x) :: l, H, h => by
    rw [putAll, fN_eq] at h
    obtain ⟨L1, h1, h2⟩ := putH_some h
    obtain ⟨L2, h3, h4⟩ := putAll_some h2
    refine ⟨L2, fun c y hc => ?_, h4⟩
    rcases h3 c y hc with ⟨z, hz, h5⟩ | h5
    · exact .inl ⟨z, List.mem_cons_of_mem _ hz, h5⟩
    · rw [h1] at h5
      split at h5
      · rename_i e
        cases h5
        exact .inl ⟨(b, x), List.mem_cons_self, e, rfl⟩
      · exact .inr h5
theorem kn_one {P : Program} {call : CallF} (hc : CallOk P call) {k : Kn} (hk : knOk k (call k.f k.xs .nil 0) = true) {H : Hm} {nx : Nat} {e : EV} {L : Hm} {ny : Nat} (hb : Tr.lts nx 0 1 H = true)
    (h : (putAll nx k.bs H fun H => fN (Nat.add nx k.n) fun n => some (.w (k.e.mv nx) H n)) = some (.w e L ny)) :
    hasBody P k.f = true ∧ ∀ w0 σ w vs, isA σ k.xs vs → Sim w0 σ H nx w → Calls P k.f vs.toArray w fun en w' => ∃ v τ, en = .returned v ∧ e.is τ v ∧ ExtS nx σ τ ∧ Sim w0 τ L ny w' ∧ nx ≤ ny := by
  unfold knOk at hk
  split at hk
  · rename_i e0 K n hcall
    simp only [Bool.and_eq_true, decide_eq_true_eq, List.all_eq_true] at hk
    obtain ⟨rfl, hn, hclo, hbs⟩ := hk
    have hn : n = k.n := Nat.eq_of_beq_eq_true hn
    subst hn
    obtain ⟨hbody, hC⟩ := hc _ _ _ _ _ _ _ hcall
    obtain ⟨L1, hL, h1⟩ := putAll_some h
    rw [fN_eq] at h1
    cases h1
    refine ⟨hbody, fun w0 σ w vs hvs S => ?_⟩
    have S0 : Sim w ⟨fun _ => none, σ.v⟩ (.nil : Hm) 0 w := ⟨Below.refl _ _, fun _ _ => rfl, fun b x r h => (by cases b <;> cases h), fun b c r s h => (by cases h)⟩
    refine (hC w ⟨fun _ => none, σ.v⟩ w vs (clo_is (by rw [List.all_eq_true]; exact hclo) hvs) S0).mono ?_
    rintro en w' ⟨v, τ, rfl, hv, hx, S', _⟩
    have hlt : ∀ c x, H.get c = some x → c < nx := fun c x hc => by have := Tr.lts_get hb hc; omega
    let υ : Sg := ⟨fun b => if b < nx then σ.r b else τ.r (b - nx), σ.v⟩
    have e1 : ∀ b, b < nx → υ.r b = σ.r b := fun b h => if_pos h
    have e2 : ∀ b, υ.r (b + nx) = τ.r b := fun b => by
      show (if b + nx < nx then _ else _) = _
      rw [if_neg (by omega), Nat.add_sub_cancel]
    have mv : τ.Mv nx υ := ⟨fun b x hb => by rw [e2]; exact hb, hx.v.symm⟩
    have ext : ExtS nx σ υ := ⟨e1, rfl⟩
    have le := S.le ext
    have hsz : w0.heap.size ≤ w.heap.size := S.bel.size
    have hw : ∀ c x, L.get c = some x → (c < nx ∧ H.get c = some x) ∨ ∃ b y, c = b + nx ∧ x = y.mv nx ∧ K.get b = some y := fun c x hc => by
      rcases hL c x hc with ⟨y, hy, h1, h2⟩ | h1
      · have h3 := hbs y hy
        split at h3
        · rename_i z hz
          have : z = y.2 := of_decide_eq_true h3
          subst this
          exact .inr ⟨y.1, y.2, h1, h2, hz⟩
        · cases h3
      · exact .inl ⟨hlt c x h1, h1⟩
    refine ⟨v, υ, rfl, EV.is_mv mv hv, ext, ⟨S.bel.trans (S'.bel.mono hsz), fun b hb => ?_, fun c x r hc hr => ?_, fun b c r s hr hs hb' hc' e => ?_⟩, Nat.le_add_right _ _⟩
    · have hb : nx + k.n ≤ b := hb
      show (if b < nx then _ else _) = _
      rw [if_neg (by omega)]
      exact S'.new _ (by omega)
    · rcases hw c x hc with ⟨h1, h2⟩ | ⟨b, y, rfl, rfl, h2⟩
      · rw [e1 c h1] at hr
        obtain ⟨h3, h4⟩ := S.ok c x r h2 hr
        refine ⟨h3, ?_⟩
        rw [S'.bel.block _ (S.lt h2 hr)]
        exact EB.ok_le le h4
      · rw [e2] at hr
        obtain ⟨h3, h4⟩ := S'.ok b y r h2 hr
        exact ⟨by omega, EB.ok_mv mv h4⟩
    · obtain ⟨x, hx'⟩ := Option.ne_none_iff_exists'.1 hb'
      obtain ⟨y, hy'⟩ := Option.ne_none_iff_exists'.1 hc'
      rcases hw b x hx' with ⟨h1, h2⟩ | ⟨b, x, rfl, rfl, h2⟩
      · rcases hw c y hy' with ⟨h3, h4⟩ | ⟨c, y, rfl, rfl, h4⟩
        · rw [e1 _ h1] at hr; rw [e1 _ h3] at hs
          exact S.inj _ _ _ _ hr hs (by rw [h2]; simp) (by rw [h4]; simp) e
        · rw [e1 _ h1] at hr; rw [e2] at hs
          have h5 := S.lt h2 hr
          have h6 := (S'.ok c y s h4 hs).1
          omega
      · rcases hw c y hy' with ⟨h3, h4⟩ | ⟨c, y, rfl, rfl, h4⟩
        · rw [e2] at hr; rw [e1 _ h3] at hs
          have h5 := S.lt h4 hs
          have h6 := (S'.ok b x r h2 hr).1
          omega
        · rw [e2] at hr hs
          rw [S'.inj _ _ _ _ hr hs (by rw [h2]; simp) (by rw [h4]; simp) e]
  · cases hk
theorem kn_nil {P : Program} : CallOk P (knE []) := fun f xs H nx e K ny h => by cases h
/-- A known call more. -/
theorem kn_cons {P : Program} {call : CallF} (hc : CallOk P call) {k : Kn} {ks : List Kn} (hk : knOk k (call k.f k.xs .nil 0) = true) (hs : CallOk P (knE ks)) : CallOk P (knE (k :: ks)) := by
  intro f xs H nx e K ny h
  rw [knE] at h
  split at h
  · exact hs _ _ _ _ _ _ _ h
  · rename_i hf
    have : f = k.f := Nat.eq_of_beq_eq_true hf
    subst this
    split at h
    · rename_i hx
      simp only [Bool.and_eq_true, decide_eq_true_eq] at hx
      obtain ⟨rfl, hx⟩ := hx
      exact kn_one hc hk hx h
    · exact hs _ _ _ _ _ _ _ h
end Go.Proofs.YtcfopechdlgioaaGreatDoor
