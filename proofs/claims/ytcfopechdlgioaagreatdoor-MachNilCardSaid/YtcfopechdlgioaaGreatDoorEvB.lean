/- The reckoner, part B: what its values stand for; operands; operations that look at no memory. -/
import Derived.Test.YtcfopechdlgioaaGreatDoorEvA
import Derived.Test.YtcfopechdlgioaaGreatDoorEngD
namespace Go.Proofs.YtcfopechdlgioaaGreatDoor
open Go.RowKit

/-! ### Trees, lists -/
theorem Tr.get_put {α : Type} (x : Option α) : ∀ (f k : Nat) (t : Tr α) (j : Nat), t.put x f k ≠ .nil → (t.put x f k).get j = if j = k then x else t.get j := by
  intro f
  induction f with
  | zero => intro k t j h; exact absurd rfl h
  | succ f ih =>
    have key : ∀ (v : Option α) (l r : Tr α) (k j : Nat), (bif Nat.beq (Nat.mod k 2) 0 then Tr.setL v r (Tr.put x f (Nat.div k 2) l) else Tr.setR v l (Tr.put x f (Nat.div k 2) r)) ≠ .nil →
        (bif Nat.beq (Nat.mod k 2) 0 then Tr.setL v r (Tr.put x f (Nat.div k 2) l) else Tr.setR v l (Tr.put x f (Nat.div k 2) r)).get j = if j = k + 1 then x else (Tr.nd v l r).get j := by
      intro v l r k j h
      cases hk : Nat.beq (Nat.mod k 2) 0 with
      | true =>
        have hk0 : k % 2 = 0 := Nat.eq_of_beq_eq_true hk
        rw [hk] at h
        simp only [cond_true] at h ⊢
        have i := ih (Nat.div k 2) l
        cases hp : Tr.put x f (Nat.div k 2) l with
        | nil => rw [hp] at h; exact absurd rfl h
        | nd a b c =>
          rw [hp] at i
          simp only [Tr.setL]
          cases j with
          | zero => rfl
          | succ j =>
            simp only [Tr.get]
            cases hj : Nat.beq (Nat.mod j 2) 0 with
            | true =>
              have hj0 : j % 2 = 0 := Nat.eq_of_beq_eq_true hj
              simp only [cond_true]
              rw [i _ (by simp)]
              by_cases e : j = k
              · subst e; simp
              · rw [if_neg (fun h => e (by have : j / 2 = k / 2 := h; omega)), if_neg (by omega)]
            | false =>
              simp only [cond_false]
              rw [if_neg (fun e => by have : j = k := by omega
                                      subst this; rw [hk] at hj; cases hj)]
      | false =>
        have hk0 : k % 2 = 1 := by
          have : ¬ k % 2 = 0 := fun e => by rw [show Nat.mod k 2 = 0 from e] at hk; cases hk
          omega
        rw [hk] at h
        simp only [cond_false] at h ⊢
        have i := ih (Nat.div k 2) r
        cases hp : Tr.put x f (Nat.div k 2) r with
        | nil => rw [hp] at h; exact absurd rfl h
        | nd a b c =>
          rw [hp] at i
          simp only [Tr.setR]
          cases j with
          | zero => rfl
          | succ j =>
            simp only [Tr.get]
            cases hj : Nat.beq (Nat.mod j 2) 0 with
            | true =>
              simp only [cond_true]
              rw [if_neg (fun e => by have : j = k := by omega
                                      subst this; rw [hk] at hj; cases hj)]
            | false =>
              have hj0 : j % 2 = 1 := by
                have : ¬ j % 2 = 0 := fun e => by rw [show Nat.mod j 2 = 0 from e] at hj; cases hj
                omega
              simp only [cond_false]
              rw [i _ (by simp)]
              by_cases e : j = k
              · subst e; simp
              · rw [if_neg (fun h => e (by have : j / 2 = k / 2 := h; omega)), if_neg (by omega)]
    intro k t j h
    cases k with
    | zero =>
      cases t with
      | nil => cases j <;> simp [Tr.put, Tr.get]
      | nd v l r => cases j <;> simp [Tr.put, Tr.get]
    | succ k =>
      cases t with
      | nil =>
        have := key none .nil .nil k j h
        rw [Tr.put, this]
        split
        · rfl
        · cases j with
          | zero => rfl
          | succ j => simp only [Tr.get]; cases Nat.beq (Nat.mod j 2) 0 <;> rfl
      | nd v l r => exact key v l r k j h
theorem nth_eq {α : Type} : ∀ (l : List α) (n : Nat), nth l n = l[n]?
  | [], _ => by simp [nth]
  | _ :: _, 0 => rfl
  | _ :: l, n + 1 => by rw [nth, nth_eq l n]; rfl
theorem dropC_eq {α : Type} : ∀ (n : Nat) (l : List α), dropC n l = l.drop n
  | 0, _ => rfl
  | _ + 1, [] => rfl
  | n + 1, _ :: l => by rw [dropC, dropC_eq n l]; rfl
theorem consO_some {α : Type} {x : α} {o : Option (List α)} {r : List α} : consO x o = some r ↔ ∃ l, o = some l ∧ r = x :: l := by
  cases o with
  | none => simp [consO]
  | some l => simp [consO, eq_comm]
theorem takeC_some {α : Type} : ∀ {n : Nat} {l r : List α}, takeC n l = some r → n ≤ l.length ∧ r = l.take n
  | 0, l, r, h => by cases h; exact ⟨Nat.zero_le _, rfl⟩
  | n + 1, [], r, h => by cases h
  | n + 1, x :: l, r, h => by
    rw [takeC, consO_some] at h
    obtain ⟨k, hk, rfl⟩ := h
    obtain ⟨h1, rfl⟩ := takeC_some hk
    exact ⟨by simp; exact h1, rfl⟩
theorem app_eq {α : Type} : ∀ (k l : List α), app k l = k ++ l
  | [], _ => rfl
  | x :: k, l => by
    rw [app, app_eq k l]
    cases h : k ++ l with
    | nil => simp [h]
    | cons y r => simp [h]
theorem over_some {α : Type} : ∀ {k l r : List α}, over k l = some r → k.length ≤ l.length ∧ r = k ++ l.drop k.length
  | [], l, r, h => by cases h; exact ⟨Nat.zero_le _, rfl⟩
  | _ :: _, [], r, h => by cases h
  | x :: k, y :: l, r, h => by
    rw [over, consO_some] at h
    obtain ⟨m, hm, rfl⟩ := h
    obtain ⟨h1, rfl⟩ := over_some hm
    exact ⟨by simp; exact h1, rfl⟩
theorem setC_some {α : Type} : ∀ {n : Nat} {k l r : List α}, setC n k l = some r → n + k.length ≤ l.length ∧ r = l.take n ++ k ++ l.drop (n + k.length)
  | 0, k, l, r, h => by
    obtain ⟨h1, rfl⟩ := over_some (k := k) (l := l) h
    exact ⟨by omega, by simp⟩
  | n + 1, k, [], r, h => by cases h
  | n + 1, k, x :: l, r, h => by
    rw [setC, consO_some] at h
    obtain ⟨m, hm, rfl⟩ := h
    obtain ⟨h1, rfl⟩ := setC_some hm
    refine ⟨by simp; omega, ?_⟩
    rw [show n + 1 + k.length = n + k.length + 1 by omega]
    simp
theorem mapO_some {α β : Type} {f : α → Option β} : ∀ {l : List α} {r : List β}, mapO f l = some r → l.length = r.length ∧ ∀ (i : Nat) a, l[i]? = some a → ∃ b, r[i]? = some b ∧ f a = some b
  | [], r, h => by cases h; exact ⟨rfl, fun i a h => by simp at h⟩
  | x :: l, r, h => by
    rw [mapO] at h
    split at h
    · cases h
    · rename_i y hy
      rw [consO_some] at h
      obtain ⟨m, hm, rfl⟩ := h
      obtain ⟨h1, h2⟩ := mapO_some hm
      refine ⟨by simp [h1], fun i a ha => ?_⟩
      cases i with
      | zero => simp at ha; subst ha; exact ⟨y, rfl, hy⟩
      | succ i => exact h2 i a (by simpa using ha)

/-! ### What values stand for -/
/-- Where blocks lie, and how many cells they have; the values from outside. -/
structure Sg where
  r : Nat → Option (Nat × Nat)
  v : Nat → Value
inductive isPs (σ : Sg) : List (Nat × Nat) → List Value → Prop
  | nil : isPs σ [] []
  | cons {p : Nat × Nat} {x : Value} {l k} : (∃ r, σ.r p.1 = some r ∧ x = .pointer (some ⟨r.1, p.2, none⟩)) → isPs σ l k → isPs σ (p :: l) (x :: k)
def CV.is (σ : Sg) : CV → Value → Prop
  | .i k n, x => x = .int k n
  | .b q, x => x = .bool q
  | .s l, x => x = .string (B (l.map UInt8.ofNat))
  | .p g o, x => ∃ r, σ.r g = some r ∧ x = .pointer (some ⟨r.1, o, none⟩)
  | .np, x => x = .pointer none
  | .sl g o n c, x => n ≤ c ∧ ∃ r, σ.r g = some r ∧ x = .slice (some ⟨r.1, o, none⟩) n c
  | .su g e z n, x => ∃ r c, σ.r g = some r ∧ r.2 = c * z ∧ e + n ≤ c ∧ c ≤ maxLen ∧ x = .slice (some ⟨r.1, e * z, none⟩) n (c - e)
  | .ns, x => x = .slice none 0 0
  | .m g, x => ∃ r, σ.r g = some r ∧ x = .map (some r.1)
  | .nm, x => x = .map none
  | .f g l, x => ∃ k, isPs σ l k ∧ x = .func (.func g) #[] k.toArray
  | .nf, x => x = .nilFunc
  | .v n, x => x = σ.v n ∧ (σ.v n).oneCell' = true
  | .ni, x => x = .nilIface
  | .un, x => x = undef
inductive isL (σ : Sg) : List CV → List Value → Prop
  | nil : isL σ [] []
  | cons {c x l k} : CV.is σ c x → isL σ l k → isL σ (c :: l) (x :: k)
def PV.is (σ : Sg) : PV → Value → Prop
  | .c q, x => q.is σ x
  | .a l, x => ∃ k, isL σ l k ∧ x = .agg k.toArray
inductive isT (σ : Sg) : List PV → List Value → Prop
  | nil : isT σ [] []
  | cons {c x l k} : PV.is σ c x → isT σ l k → isT σ (c :: l) (x :: k)
def EV.is (σ : Sg) : EV → Value → Prop
  | .p q, x => q.is σ x
  | .t l, x => ∃ k, isT σ l k ∧ x = .tuple k.toArray
/-- What stood for something still does. -/
structure Sg.Le (σ τ : Sg) : Prop where
  r : ∀ b x, σ.r b = some x → τ.r b = some x
  v : τ.v = σ.v
theorem Sg.Le.refl (σ : Sg) : σ.Le σ := ⟨fun _ _ h => h, rfl⟩
theorem Sg.Le.trans {σ τ υ : Sg} (a : σ.Le τ) (b : τ.Le υ) : σ.Le υ := ⟨fun x y h => b.r x y (a.r x y h), b.v.trans a.v⟩
section
variable {σ τ : Sg}
theorem isPs_le (h : σ.Le τ) {l : List (Nat × Nat)} {k : List Value} (hk : isPs σ l k) : isPs τ l k := by
  induction hk with
  | nil => exact .nil
  | cons h1 _ ih => obtain ⟨r, h1, h2⟩ := h1; exact .cons ⟨r, h.r _ _ h1, h2⟩ ih
theorem CV.is_le (h : σ.Le τ) {q : CV} {x : Value} (hc : q.is σ x) : q.is τ x := by
  cases q <;> simp only [CV.is] at hc ⊢
  case p => obtain ⟨r, h1, h2⟩ := hc; exact ⟨r, h.r _ _ h1, h2⟩
  case sl => obtain ⟨h0, r, h1, h2⟩ := hc; exact ⟨h0, r, h.r _ _ h1, h2⟩
  case su => obtain ⟨r, c, h1, h2⟩ := hc; exact ⟨r, c, h.r _ _ h1, h2⟩
  case m => obtain ⟨r, h1, h2⟩ := hc; exact ⟨r, h.r _ _ h1, h2⟩
  case f => obtain ⟨k, h1, h2⟩ := hc; exact ⟨k, isPs_le h h1, h2⟩
  case v => rw [h.v]; exact hc
  all_goals exact hc
theorem isL_le (h : σ.Le τ) {l : List CV} {k : List Value} (hk : isL σ l k) : isL τ l k := by
  induction hk with
  | nil => exact .nil
  | cons h1 _ ih => exact .cons (CV.is_le h h1) ih
theorem PV.is_le (h : σ.Le τ) {q : PV} {x : Value} (hc : q.is σ x) : q.is τ x := by
  cases q with
  | c q => exact CV.is_le (q := q) h hc
  | a l => obtain ⟨k, h1, h2⟩ := hc; exact ⟨k, isL_le h h1, h2⟩
theorem isT_le (h : σ.Le τ) {l : List PV} {k : List Value} (hk : isT σ l k) : isT τ l k := by
  induction hk with
  | nil => exact .nil
  | cons h1 _ ih => exact .cons (PV.is_le h h1) ih
theorem EV.is_le (h : σ.Le τ) {q : EV} {x : Value} (hc : q.is σ x) : q.is τ x := by
  cases q with
  | p q => exact PV.is_le (q := q) h hc
  | t l => obtain ⟨k, h1, h2⟩ := hc; exact ⟨k, isT_le h h1, h2⟩
theorem isL_len {l : List CV} {k : List Value} (hk : isL σ l k) : l.length = k.length := by
  induction hk with
  | nil => rfl
  | cons _ _ ih => simp [ih]
theorem isL_drop {l : List CV} {k : List Value} (n : Nat) (hk : isL σ l k) : isL σ (l.drop n) (k.drop n) := by
  induction hk generalizing n with
  | nil => simp only [List.drop_nil]; exact .nil
  | cons h1 h2 ih =>
    cases n with
    | zero => exact .cons h1 h2
    | succ n => exact ih n
theorem isL_take {l : List CV} {k : List Value} (n : Nat) (hk : isL σ l k) : isL σ (l.take n) (k.take n) := by
  induction hk generalizing n with
  | nil => simp only [List.take_nil]; exact .nil
  | cons h1 h2 ih =>
    cases n with
    | zero => simp only [List.take_zero]; exact .nil
    | succ n => exact .cons h1 (ih n)
theorem isL_app {l m : List CV} {k j : List Value} (hk : isL σ l k) (hm : isL σ m j) : isL σ (l ++ m) (k ++ j) := by
  induction hk with
  | nil => exact hm
  | cons h1 _ ih => exact .cons h1 ih
theorem isL_nth {l : List CV} {k : List Value} {n : Nat} {c : CV} (hk : isL σ l k) (e : l[n]? = some c) : ∃ x, k[n]? = some x ∧ c.is σ x := by
  induction hk generalizing n with
  | nil => simp at e
  | cons h1 h2 ih =>
    cases n with
    | zero => simp at e; subst e; exact ⟨_, rfl, h1⟩
    | succ n => simpa using ih (n := n) (by simpa using e)
theorem isT_nth {l : List PV} {k : List Value} {n : Nat} {c : PV} (hk : isT σ l k) (e : l[n]? = some c) : ∃ x, k[n]? = some x ∧ c.is σ x := by
  induction hk generalizing n with
  | nil => simp at e
  | cons h1 h2 ih =>
    cases n with
    | zero => simp at e; subst e; exact ⟨_, rfl, h1⟩
    | succ n => simpa using ih (n := n) (by simpa using e)
theorem cv_one {c : CV} {x : Value} (h : c.is σ x) (hu : c ≠ .un) : x.oneCell' = true := by
  cases c <;> simp only [CV.is] at h
  case p => obtain ⟨r, _, rfl⟩ := h; rfl
  case sl => obtain ⟨_, r, _, rfl⟩ := h; rfl
  case su => obtain ⟨r, c, _, _, _, _, rfl⟩ := h; rfl
  case m => obtain ⟨r, _, rfl⟩ := h; rfl
  case f => obtain ⟨k, _, rfl⟩ := h; rfl
  case v => rw [h.1]; exact h.2
  case un => exact absurd rfl hu
  all_goals (rw [h]; rfl)
theorem cv_noAgg {c : CV} {x : Value} (h : c.is σ x) : x.cells = #[x] := by
  by_cases hu : c = .un
  · subst hu; cases h; rfl
  · have := cv_one h hu
    cases x <;> first | rfl | cases this
theorem PV.cells_is {q : PV} {x : Value} (h : q.is σ x) : ∃ k, isL σ q.cells k ∧ x.cells = k.toArray := by
  cases q with
  | c q => exact ⟨[x], .cons h .nil, cv_noAgg (c := q) h⟩
  | a l => obtain ⟨k, h1, rfl⟩ := h; exact ⟨k, h1, rfl⟩
theorem noUn_one {l : List CV} {k : List Value} (hk : isL σ l k) (hn : noUn l = true) : ∀ u ∈ k, u.oneCell' = true := by
  induction hk with
  | nil => intro u hu; cases hu
  | @cons c x l k h1 h2 ih =>
    have hc : c ≠ .un := fun e => by subst e; cases hn
    have hl : noUn l = true := by cases c <;> first | exact hn | exact absurd rfl hc
    intro u hu
    rcases List.mem_cons.1 hu with rfl | hu
    · exact cv_one h1 hc
    · exact ih hl u hu
/-! ### Operands -/
theorem cvOf_is {v : Value} {c : CV} (h : cvOf v = some c) : c.is σ v := by
  unfold cvOf at h
  split at h
  case h_3 s =>
    cases h
    show Value.string s = .string (B _)
    rw [List.map_map, show (UInt8.ofNat ∘ UInt8.toNat : UInt8 → UInt8) = id from funext fun c => by simp, List.map_id, ← string_B]
  case h_4 => cases h; rfl
  case h_9 => cases h; rfl
  case h_10 => cases h
  all_goals (cases h; rfl)
theorem mapO_is : ∀ {l : List Value} {r : List CV}, mapO cvOf l = some r → isL σ r l
  | [], r, h => by cases h; exact .nil
  | x :: l, r, h => by
    rw [mapO] at h
    split at h
    · cases h
    · rename_i y hy
      rw [consO_some] at h
      obtain ⟨m, hm, rfl⟩ := h
      exact .cons (cvOf_is hy) (mapO_is hm)
theorem pvOf_is {v : Value} {c : PV} (h : pvOf v = some c) : c.is σ v := by
  unfold pvOf at h
  split at h
  · simp only [Option.map_eq_some_iff] at h
    obtain ⟨r, hr, rfl⟩ := h
    exact ⟨_, mapO_is hr, by simp⟩
  · simp only [Option.map_eq_some_iff] at h
    obtain ⟨r, hr, rfl⟩ := h
    exact cvOf_is hr
/-- The slots. -/
structure TS (σ : Sg) (N : Nat) (T : Tm) (t : Array Value) : Prop where
  size : t.size = N
  get : ∀ i e, T.get i = some e → e.is σ (t.getD i undef)
theorem TS.le (h : σ.Le τ) {N : Nat} {T : Tm} {t : Array Value} (H : TS σ N T t) : TS τ N T t := ⟨H.size, fun i e he => EV.is_le h (H.get i e he)⟩
theorem TS.put {N d : Nat} {T : Tm} {t : Array Value} (H : TS σ N T t) (hd : d < N) {e : EV} {v : Value} (he : e.is σ v) (hn : T.put (some e) depthT d ≠ .nil) : TS σ N (T.put (some e) depthT d) (t.setIfInBounds d v) := by
  refine ⟨by simp [H.size], fun i f hf => ?_⟩
  rw [Tr.get_put _ _ _ _ _ hn] at hf
  split at hf
  · rename_i hi
    subst hi
    cases hf
    have : i < t.size := by rw [H.size]; exact hd
    simpa [Array.getD, this] using he
  · rename_i hi
    have := H.get i f hf
    rw [show (t.setIfInBounds d v).getD i undef = t.getD i undef from ?_]
    · exact this
    · rw [Array.getD_eq_getD_getElem?, Array.getD_eq_getD_getElem?, Array.getElem?_setIfInBounds_ne (by omega)]
section
variable {N : Nat} {T : Tm} {a : Act}
theorem opE_is (H : TS σ N T a.tmps) {x : Operand} {e : EV} (h : opE T x = some e) : e.is σ (a.eval x) := by
  cases x with
  | tmp t => exact H.get t e h
  | const v =>
    simp only [opE, Option.map_eq_some_iff] at h
    obtain ⟨c, hc, rfl⟩ := h
    exact pvOf_is (c := c) hc
  | func f => cases h; exact ⟨[], .nil, rfl⟩
  | global g => cases h
theorem opP_is (H : TS σ N T a.tmps) {x : Operand} {e : PV} (h : opP T x = some e) : e.is σ (a.eval x) := by
  unfold opP at h
  split at h
  · rename_i v hv
    cases h
    exact opE_is H hv
  · cases h
theorem opC_is (H : TS σ N T a.tmps) {x : Operand} {e : CV} (h : opC T x = some e) : e.is σ (a.eval x) := by
  unfold opC at h
  split at h
  · rename_i v hv
    cases h
    exact opE_is H hv
  · cases h
end
/-! ### Operations -/
variable {P : Program} {w : World}
theorem ce_is {c : CV} {x : CE} {v : Value} (h : c.ce = some x) (hv : c.is σ v) : v = x.den C0 noOwn := by
  cases c <;> simp only [CV.ce] at h <;> cases h <;> exact hv
theorem ces_is : ∀ {l : List CV} {r : List CE} {k : List Value}, mapO CV.ce l = some r → isL σ l k → k = r.map (CE.den C0 noOwn)
  | [], r, [], h, _ => by cases h; rfl
  | c :: l, r, x :: k, h, .cons h1 h2 => by
    rw [mapO] at h
    split at h
    · cases h
    · rename_i y hy
      rw [consO_some] at h
      obtain ⟨m, hm, rfl⟩ := h
      rw [List.map_cons, ← ce_is hy h1, ← ces_is hm h2]
theorem pe_is {c : PV} {x : PE} {v : Value} (h : c.pe = some x) (hv : c.is σ v) : v = x.den C0 noOwn := by
  cases c with
  | c c =>
    simp only [PV.pe, Option.map_eq_some_iff] at h
    obtain ⟨r, hr, rfl⟩ := h
    exact ce_is hr hv
  | a l =>
    simp only [PV.pe, Option.map_eq_some_iff] at h
    obtain ⟨r, hr, rfl⟩ := h
    obtain ⟨k, h1, rfl⟩ := hv
    rw [ces_is hr h1]; rfl
theorem retE_is {x : Option (BE × PE)} {e : EV} (h : retE x = some e) : ∃ c v, x = some (c, v) ∧ c.den C0 = true ∧ e.is σ (v.den C0 noOwn) := by
  unfold retE at h
  split at h
  · split at h
    · rename_i hc
      rw [fI_eq] at h
      cases h
      exact ⟨_, _, rfl, hc, rfl⟩
    · cases h
  · split at h
    · rename_i hc
      rw [fB_eq] at h
      cases h
      exact ⟨_, _, rfl, hc, rfl⟩
    · cases h
  · cases h
theorem eqGuard_sl (op : BinOp) (t : TypeId) (x y : Operand) {a b : Option Addr} {n c m d : Nat} : (eqGuard op t x y (.slice a n c) (.slice b m d)).run P w = .ok () w := by
  unfold eqGuard; cases op <;> rfl
theorem eq_sl_nil {t e : TypeId} (hu : P.underlying t = some (.slice e)) {a : Option Addr} {n c : Nat} : (Op.equal t (.slice a n c) (.slice none 0 0)).run P w = .ok a.isNone w := by
  unfold Op.equal Op.maxDepth
  rw [show (10000 : Nat) = 9999 + 1 from rfl, Op.equalIn, Sem.run_bind, run_underlying hu]
  cases a <;> rfl
theorem binV_run {op : BinOp} {t : TypeId} {x y : PV} {e : EV} {u v : Value} (xo yo : Operand) (h : binV P op t x y = some e) (hx : x.is σ u) (hy : y.is σ v) :
    ∃ r, e.is σ r ∧ (eqGuard op t xo yo u v).run P w = .ok () w ∧ (binOp op t u v).run P w = .ok r w := by
  unfold binV at h
  split at h
  · rename_i a b
    cases hx; cases hy
    split at h
    · rename_i hop
      cases hle : Nat.ble (a.length + b.length) 1000000 with
      | false => rw [hle] at h; cases h
      | true =>
        rw [hle] at h
        have hle' : a.length + b.length ≤ 1000000 := Nat.le_of_ble_eq_true hle
        have he : e = .p (.c (.s (a ++ b))) := by
          simp only [cond_true, app_eq] at h
          split at h <;> rename_i hq <;> rw [hq] <;> exact (Option.some.inj h).symm
        subst he
        refine ⟨_, rfl, eqGuard_string _ _ _ _ _ _, ?_⟩
        have := run_add_B (P := P) (a.map UInt8.ofNat) (b.map UInt8.ofNat) (by simp; omega) w
        rw [List.map_append]
        exact this
    · rename_i hop
      obtain ⟨c, v, h1, h2, h3⟩ := retE_is (σ := σ) h
      exact ⟨_, h3, eqGuard_string _ _ _ _ _ _, strOp_sound (C := C0) (a := .c a) (b := .c b) h1 h2⟩
  · obtain ⟨r, hr, rfl⟩ := hx; cases hy
    split at h
    · rename_i T hu
      cases h
      refine ⟨_, rfl, eqGuard_pt _ _ _ _ _ _, ?_⟩
      show (do pure (Value.bool (← Op.equal t _ _)) : Sem Value).run P w = _
      rw [Sem.run_bind, eq_pt_nil hu]; rfl
    · rename_i T hu
      cases h
      refine ⟨_, rfl, eqGuard_pt _ _ _ _ _ _, ?_⟩
      show (do pure (Value.bool (!(← Op.equal t _ _))) : Sem Value).run P w = _
      rw [Sem.run_bind, eq_pt_nil hu]; rfl
    · cases h
  · cases hx; cases hy
    split at h
    · rename_i T hu
      cases h
      refine ⟨_, rfl, eqGuard_pt _ _ _ _ _ _, ?_⟩
      show (do pure (Value.bool (← Op.equal t _ _)) : Sem Value).run P w = _
      rw [Sem.run_bind, eq_pt_nil hu]; rfl
    · rename_i T hu
      cases h
      refine ⟨_, rfl, eqGuard_pt _ _ _ _ _ _, ?_⟩
      show (do pure (Value.bool (!(← Op.equal t _ _))) : Sem Value).run P w = _
      rw [Sem.run_bind, eq_pt_nil hu]; rfl
    · cases h
  · obtain ⟨_, r, hr, rfl⟩ := hx; cases hy
    split at h
    · rename_i T hu
      cases h
      refine ⟨_, rfl, eqGuard_sl _ _ _ _, ?_⟩
      show (do pure (Value.bool (← Op.equal t _ _)) : Sem Value).run P w = _
      rw [Sem.run_bind, eq_sl_nil hu]; rfl
    · rename_i T hu
      cases h
      refine ⟨_, rfl, eqGuard_sl _ _ _ _, ?_⟩
      show (do pure (Value.bool (!(← Op.equal t _ _))) : Sem Value).run P w = _
      rw [Sem.run_bind, eq_sl_nil hu]; rfl
    · cases h
  · obtain ⟨r, c, hr, _, _, _, rfl⟩ := hx; cases hy
    split at h
    · rename_i T hu
      cases h
      refine ⟨_, rfl, eqGuard_sl _ _ _ _, ?_⟩
      show (do pure (Value.bool (← Op.equal t _ _)) : Sem Value).run P w = _
      rw [Sem.run_bind, eq_sl_nil hu]; rfl
    · rename_i T hu
      cases h
      refine ⟨_, rfl, eqGuard_sl _ _ _ _, ?_⟩
      show (do pure (Value.bool (!(← Op.equal t _ _))) : Sem Value).run P w = _
      rw [Sem.run_bind, eq_sl_nil hu]; rfl
    · cases h
  · cases hx; cases hy
    split at h
    · rename_i T hu
      cases h
      refine ⟨_, rfl, eqGuard_sl _ _ _ _, ?_⟩
      show (do pure (Value.bool (← Op.equal t _ _)) : Sem Value).run P w = _
      rw [Sem.run_bind, eq_sl_nil hu]; rfl
    · rename_i T hu
      cases h
      refine ⟨_, rfl, eqGuard_sl _ _ _ _, ?_⟩
      show (do pure (Value.bool (!(← Op.equal t _ _))) : Sem Value).run P w = _
      rw [Sem.run_bind, eq_sl_nil hu]; rfl
    · cases h
  · split at h
    · rename_i a b ha hb
      obtain ⟨c, r, h1, h2, h3⟩ := retE_is (σ := σ) h
      have := binE_sound (ρ := noOwn) (w := w) (x := xo) (y := yo) h1 h2
      rw [← pe_is ha hx, ← pe_is hb hy] at this
      exact ⟨_, h3, this.1, this.2⟩
    · cases h
theorem unV_run {op : UnOp} {x : PV} {e : EV} {u : Value} (h : unV op x = some e) (hx : x.is σ u) : ∃ r, e.is σ r ∧ (Op.unary op u).run P w = .ok r w := by
  unfold unV at h
  split at h
  · rename_i a ha
    obtain ⟨c, r, h1, h2, h3⟩ := retE_is (σ := σ) h
    have := unE_sound (P := P) (ρ := noOwn) (w := w) h1 h2
    rw [← pe_is ha hx] at this
    exact ⟨_, h3, this⟩
  · cases h
theorem convV_run {s d : TypeId} {x : PV} {e : EV} {u : Value} (h : convV P s d x = some e) (hx : x.is σ u) : ∃ r, e.is σ r ∧ (convert s d u).run P w = .ok r w := by
  unfold convV at h
  split at h
  · rename_i l
    cases hx
    split at h
    · rename_i h1 h2
      cases h
      have := convE_sound (C := C0) (ρ := noOwn) (w := w) (P := P) (s := s) (d := d) (p := .one (.s (.c l))) (c := .c true) (v := .one (.s (.c l))) (by unfold convE; simp only [h1, h2])
      exact ⟨_, rfl, this⟩
    · cases h
  · rename_i k n
    cases hx
    obtain ⟨c, r, h1, h2, h3⟩ := retE_is (σ := σ) h
    exact ⟨_, h3, convE_sound (C := C0) (ρ := noOwn) (w := w) h1⟩
  · cases h
theorem partV_run {t : TypeId} {l : List CV} {off : Nat} {e : EV} {k : List Value} (h : partV P t l off = some e) (hl : isL σ l k) : ∃ r, e.is σ r ∧ (part t k.toArray off).run P w = .ok r w := by
  unfold partV at h
  split at h
  · rename_i d n hd hn
    unfold part
    rw [Sem.run_bind, isAgg_run t hd, Result.andThen_ok]
    split at h
    · rename_i hagg
      split at h
      · rename_i r hr
        cases h
        rw [dropC_eq] at hr
        obtain ⟨hle, rfl⟩ := takeC_some hr
        rw [if_pos hagg, Sem.run_bind, sizeOf_run hn, Result.andThen_ok]
        refine ⟨_, ⟨_, isL_take n (isL_drop off hl), rfl⟩, ?_⟩
        simp [List.drop_take]
      · cases h
    · rename_i hagg
      split at h
      · rename_i x hx
        cases h
        rw [nth_eq] at hx
        obtain ⟨v, hv, hc⟩ := isL_nth hl hx
        rw [if_neg (by rw [hagg]; decide)]
        refine ⟨v, hc, ?_⟩
        simp [hv]
      · cases h
  · cases h
theorem idxOf_some {n : Int} {len k : Nat} (h : idxOf n len = some k) : n = (k : Int) ∧ k < len := by
  unfold idxOf at h
  split at h
  · rename_i m
    cases hb : Nat.blt m len with
    | false => rw [hb] at h; cases h
    | true => rw [hb] at h; cases h; exact ⟨rfl, by simpa using hb⟩
  · cases h
end
end Go.Proofs.YtcfopechdlgioaaGreatDoor
