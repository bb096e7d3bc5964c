/- The reckoner, part G: statements whose order stands. -/
import Derived.Test.YtcfopechdlgioaaGreatDoorEvF
namespace Go.Proofs.YtcfopechdlgioaaGreatDoor
open Go.RowKit
/-- One operation. -/
def evO (P : Program) (T : Tm) (H : Hm) (nx : Nat) (op : Op) : Option XR := match evP P T op with
  | some e => some (.w e H nx)
  | none => match evR P T H op with
    | some e => some (.w e H nx)
    | none => match evA P T op with
      | some (x, mk) => putH H nx (some x) fun K => some (.w (.p (.c (mk nx))) K (nx + 1))
      | none => evX P T H nx op
abbrev CallF := FuncId → List EV → Hm → Nat → Option XR
/-- One operation, calls done. -/
def evC (P : Program) (call : CallF) (T : Tm) (H : Hm) (nx : Nat) (op : Op) : Option XR := match evO P T H nx op with
  | some (.call f xs) => call f xs H nx
  | r => r
def put1 {α : Type} (N : Nat) (T : Tm) (d : Option Nat) (e : EV) (K : Tm → Option α) : Option α := match d with
  | none => K T
  | some d => bif Nat.blt d N then (match T.put (some e) depthT d with
    | .nil => none
    | .nd a b c => K (.nd a b c)) else none
def wantE (T : Tm) (ops : Array Oper) (o : Oper) : Option Bool := match o.guard with
  | none => some true
  | some (j, want) => match (ops[j]?).bind (·.dst) with
    | some t => match T.get t with
      | some (.p (.c (.b q))) => some (q == want)
      | some (.p (.c .un)) => some false
      | _ => none
    | none => none
def runOps (P : Program) (call : CallF) (N : Nat) (ops : Array Oper) : List Oper → Tm → Hm → Nat → Option (Tm × Hm × Nat)
  | [], T, H, nx => some (T, H, nx)
  | o :: r, T, H, nx => match wantE T ops o with
    | some false => put1 N T o.dst (.p (.c .un)) fun T => runOps P call N ops r T H nx
    | some true => match evC P call T H nx o.op with
      | some (.w e H nx) => put1 N T o.dst e fun T => runOps P call N ops r T H nx
      | _ => none
    | none => none
inductive isA (σ : Sg) : List EV → List Value → Prop
  | nil : isA σ [] []
  | cons {c x l k} : EV.is σ c x → isA σ l k → isA σ (c :: l) (x :: k)
theorem isA_le {σ τ : Sg} (h : σ.Le τ) {l : List EV} {k : List Value} (hk : isA σ l k) : isA τ l k := by
  induction hk with
  | nil => exact .nil
  | cons h1 _ ih => exact .cons (EV.is_le h h1) ih
theorem isA_app {σ : Sg} {l m : List EV} {k j : List Value} (hk : isA σ l k) (hm : isA σ m j) : isA σ (l ++ m) (k ++ j) := by
  induction hk with
  | nil => exact hm
  | cons h1 _ ih => exact .cons h1 ih
/-- What a call that was reckoned is. -/
def CallOk (P : Program) (call : CallF) : Prop := ∀ f xs H nx e K ny, call f xs H nx = some (.w e K ny) → hasBody P f = true ∧ ∀ w0 σ w vs, isA σ xs vs → Sim w0 σ H nx w →
  Calls P f vs.toArray w fun en w' => ∃ v τ, en = .returned v ∧ e.is τ v ∧ ExtS nx σ τ ∧ Sim w0 τ K ny w' ∧ nx ≤ ny
section
variable {P : Program} {w0 w w' : World} {σ τ : Sg} {H : Hm} {nx N : Nat} {T : Tm} {a : Act} {call : CallF}
theorem put1_some {α : Type} {d : Option Nat} {e : EV} {K : Tm → Option α} {r : α} {v : Value} (h : put1 N T d e K = some r) (G : TS σ N T a.tmps) (he : e.is σ v) : ∃ L, K L = some r ∧ TS σ N L (a.put d v).tmps := by
  unfold put1 at h
  split at h
  · exact ⟨T, h, G⟩
  · rename_i d
    cases hb : Nat.blt d N with
    | false => rw [hb] at h; cases h
    | true =>
      rw [hb, cond_true] at h
      split at h
      · cases h
      · rename_i x l q hq
        refine ⟨_, h, ?_⟩
        rw [← hq]
        exact G.put (by simpa using hb) he (by rw [hq]; simp)
theorem put_defers (d : Option Nat) (v : Value) (h : a.defers = []) : (a.put d v).defers = [] := by cases d <;> exact h
theorem wantE_some {ops : Array Oper} {o : Oper} {b : Bool} (h : wantE T ops o = some b) (G : ∀ i e, T.get i = some e → e.is σ (a.tmps.getD i undef)) : Region.wanted o (yielded ops a.tmps) = b := by
  unfold wantE at h
  unfold Region.wanted
  split at h
  · rename_i hg
    rw [hg]; exact Option.some.inj h
  · rename_i j want hg
    rw [hg]
    split at h
    · rename_i t ht
      split at h
      · rename_i q hq
        cases h
        have hv : a.tmps.getD t undef = .bool q := G t _ hq
        simp only [yielded, ht, Option.bind_some]
        rw [Array.getD_eq_getD_getElem?] at hv
        cases hx : a.tmps[t]? with
        | none => rw [hx] at hv; cases hv
        | some u => rw [hx] at hv; simp only [Option.getD_some] at hv; subst hv; simp
      · rename_i hq
        cases h
        have hv : a.tmps.getD t undef = undef := G t _ hq
        simp only [yielded, ht, Option.bind_some]
        rw [Array.getD_eq_getD_getElem?] at hv
        cases hx : a.tmps[t]? with
        | none => simp
        | some u => rw [hx] at hv; simp only [Option.getD_some] at hv; subst hv; simp [undef]
      · cases h
    · cases h
theorem argsV_is (G : TS σ N T a.tmps) : ∀ {l : List Operand} {r : List EV}, argsV T l = some r → isA σ r (l.map a.eval)
  | [], r, h => by cases h; exact .nil
  | x :: l, r, h => by
    rw [argsV] at h
    split at h
    · rename_i v hx
      rw [consO_some] at h
      obtain ⟨m, hm, rfl⟩ := h
      exact .cons (opE_is G hx) (argsV_is G hm)
    · cases h
theorem caps_is {l : List (Nat × Nat)} {k : List Value} (h : isPs σ l k) : isA σ (l.map fun x => .p (.c (.p x.1 x.2))) k := by
  induction h with
  | nil => exact .nil
  | cons h1 _ ih => exact .cons h1 ih
/-- A call is carried out. -/
theorem evX_call (G : TS σ N T a.tmps) {o : Oper} {f : FuncId} {xs : List EV} (h : evX P T H nx o.op = some (.call f xs)) (hb : hasBody P f = true) : ∃ vs, isA σ xs vs ∧ (execOp a.eval o).run P w = .ok (.enter f vs.toArray) w := by
  cases hop : o.op with
  | store t ad x =>
    exfalso
    rw [hop] at h
    simp only [evX] at h
    split at h
    · rename_i b off v n hb hv hn
      cases hc : Nat.beq v.cells.length n && noUn v.cells with
      | false => rw [hc] at h; cases h
      | true =>
        rw [hc, cond_true] at h
        split at h
        · split at h
          · obtain ⟨L, hL, h⟩ := putH_some h
            cases h
          · cases h
        · cases h
    · cases h
  | call c =>
    obtain ⟨callee, args, ts⟩ := c
    rw [hop] at h
    unfold evX at h
    split at h <;> rename_i e' <;> first | (cases e'; done) | skip
    all_goals try (first | (rename_i e2; cases e2; done) | (cases h; done))
    · cases e'
      split at h
      · rename_i f' l xs' hf hxs
        cases h
        obtain ⟨k, hk, hv⟩ := opC_is G hf
        refine ⟨args.toList.map a.eval ++ k, isA_app (argsV_is G hxs) (caps_is hk), ?_⟩
        rw [run_call (P := P) (w := w) hop hv hb]
        congr 2
        apply Array.ext'
        simp
      · cases h
    · cases e'
      exfalso
      split at h
      · split at h
        · split at h
          · rename_i i hi
            cases hb : Nat.blt 0 i.size && Nat.ble i.bytes 1000000 with
            | false => rw [hb] at h; cases h
            | true =>
              rw [hb, cond_true] at h
              split at h
              · rename_i z hz
                cases hzs : Nat.beq z.cells.size i.size with
                | false => rw [hzs] at h; cases h
                | true =>
                  rw [hzs, cond_true] at h
                  split at h
                  · rename_i ys m hys
                    cases hm : noUn ys && Nat.ble m 1000000 with
                    | false => rw [hm] at h; cases h
                    | true =>
                      rw [hm, cond_true] at h
                      unfold appV at h
                      split at h
                      · cases hm0 : Nat.beq m 0 with
                        | true => rw [hm0] at h; cases h
                        | false => rw [hm0, cond_false] at h; obtain ⟨L, hL, h⟩ := putH_some h; cases h
                      · rename_i b o' n c hh
                        cases hm0 : Nat.beq m 0 with
                        | true => rw [hm0] at h; cases h
                        | false =>
                          rw [hm0, cond_false] at h
                          cases hle : Nat.ble (Nat.add n m) 10000000 with
                          | false => rw [hle] at h; cases h
                          | true =>
                            rw [hle, cond_true] at h
                            cases hc : Nat.ble (Nat.add n m) c with
                            | true =>
                              rw [hc, cond_true] at h
                              split at h
                              · split at h
                                · obtain ⟨L, hL, h⟩ := putH_some h; rw [fN_eq] at h; cases h
                                · cases h
                              · cases h
                            | false =>
                              rw [hc, cond_false] at h
                              split at h
                              · rw [fN_eq] at h; obtain ⟨L, hL, h⟩ := putH_some h; cases h
                              · cases h
                      · rename_i b z1 n hh
                        cases hzz : Nat.beq i.size z1 && Nat.ble (Nat.add n m) 10000000 with
                        | false => rw [hzz] at h; cases h
                        | true =>
                          rw [hzz, cond_true] at h
                          cases hm0 : Nat.beq m 0 with
                          | true => rw [hm0] at h; cases h
                          | false =>
                            rw [hm0, cond_false] at h
                            split at h
                            · rename_i cs ty' hb
                              generalize Nat.beq ty' _ = bb at h
                              cases bb with
                              | false => cases h
                              | true =>
                                simp only [cond_true] at h
                                split at h
                                · obtain ⟨L, hL, h⟩ := putH_some h
                                  rw [fN_eq] at h
                                  obtain ⟨M, hM, h⟩ := putH_some h
                                  cases h
                                · cases h
                            · cases h
                      · cases h
                  · cases h
              · cases h
          · cases h
        · cases h
      · cases h
    · cases e'
      exfalso
      split at h
      · split at h
        · cases h
        · cases h
        · split at h
          · rename_i cs t hb'
            generalize (Nat.beq t _ && _) = bb at h
            cases bb with
            | false => cases h
            | true =>
              simp only [cond_true] at h
              split at h
              · split at h
                · obtain ⟨L, hL, h⟩ := putH_some h
                  cases h
                · cases h
              · cases h
          · cases h
        · cases h
      · cases h
  | _ => rw [hop] at h; cases h
/-- An operation, what comes of it. -/
theorem evC_wp (hC : CallOk P call) (S : Sim w0 σ H nx w) (G : TS σ N T a.tmps) {o : Oper} {e : EV} {K : Hm} {ny : Nat} (h : evC P call T H nx o.op = some (.w e K ny)) {Next : Act → World → Prop} {Q : Exit → Act → World → Prop}
    (hn : ∀ v w' τ, e.is τ v → ExtS nx σ τ → Sim w0 τ K ny w' → nx ≤ ny → Next (a.put o.dst v) w') : o.wp P a w Next Q := by
  unfold Oper.wp
  have val : ∀ {v w' τ}, ((execOp a.eval o).run P w = .ok (.value v) w' ∨ ((execOp a.eval o).run P w = .ok .skip w' ∧ v = undef)) → e.is τ v → ExtS nx σ τ → Sim w0 τ K ny w' → nx ≤ ny → o.upon P a Next Q ((execOp a.eval o).run P w) := by
    intro v w' τ hr h1 h2 h3 h4
    rcases hr with hr | ⟨hr, rfl⟩
    · rw [hr, Oper.upon_value]; exact hn v w' τ h1 h2 h3 h4
    · rw [hr, Oper.upon_skip]; exact hn _ w' τ h1 h2 h3 h4
  unfold evC at h
  split at h
  · rename_i f xs hx
    obtain ⟨hb, hc⟩ := hC _ _ _ _ _ _ _ h
    have hx' : evX P T H nx o.op = some (.call f xs) := by
      unfold evO at hx
      split at hx
      · cases hx
      · split at hx
        · cases hx
        · split at hx
          · obtain ⟨L, hL, hx⟩ := putH_some hx; cases hx
          · exact hx
    obtain ⟨vs, hvs, hr⟩ := evX_call (P := P) (w := w) G hx' hb
    rw [hr, Oper.upon_enter]
    refine (hc w0 σ w vs hvs S).mono fun en w' ⟨v, τ, he, h1, h2, h3, h4⟩ => ?_
    subst he
    exact hn v w' τ h1 h2 h3 h4
  · rename_i hnc
    unfold evO at h
    split at h
    · rename_i e' he'
      cases h
      obtain ⟨v, h1, h2⟩ := evP_run (P := P) (w := w) G he'
      exact val (.inl h2) h1 (ExtS.refl _ _) S (Nat.le_refl _)
    · split at h
      · rename_i e' he'
        cases h
        obtain ⟨v, h1, h2⟩ := evR_run (P := P) S G he'
        exact val (.inl h2) h1 (ExtS.refl _ _) S (Nat.le_refl _)
      · split at h
        · rename_i x mk hx
          obtain ⟨L, hL, h⟩ := putH_some h
          cases h
          obtain ⟨obj, v, k, hr, hk⟩ := evA_run (P := P) G hx w
          have hnew := S.new nx (Nat.le_refl _)
          obtain ⟨h1, h2⟩ := hk (σ.set nx (w.heap.size, k)) nx (Sg.set_le hnew) (Sg.set_same _ _ _)
          exact val (.inl hr) h1 (ExtS.set S _) (S.alloc hnew (Nat.le_succ _) (by omega) (by rw [hL, if_pos rfl]) (fun c hc => by rw [hL, if_neg hc]) h2) (Nat.le_succ _)
        · obtain ⟨v, w', τ, h1, h2, h3, h4, h5⟩ := evX_run S G h
          exact val h1 h4 h2 h3 h5
theorem runOps_sound (hC : CallOk P call) {ops : Array Oper} {Q : Exit → Act → World → Prop} : ∀ (l : List Oper) {T : Tm} {H : Hm} {nx : Nat} {T' : Tm} {K : Hm} {ny : Nat} {σ : Sg} {a : Act} {w : World}, runOps P call N ops l T H nx = some (T', K, ny) → TS σ N T a.tmps → a.defers = [] → Sim w0 σ H nx w →
    (∀ τ a w, TS τ N T' a.tmps → a.defers = [] → ExtS nx σ τ → Sim w0 τ K ny w → nx ≤ ny → Q .normal a w) → wpList P ops Q l a w := by
  intro l
  induction l with
  | nil =>
    intro T H nx T' K ny σ a w h G hd S hq
    cases h
    exact hq σ a w G hd (ExtS.refl _ _) S (Nat.le_refl _)
  | cons o r ih =>
    intro T H nx T' K ny σ a w h G hd S hq
    rw [runOps] at h
    rw [wpList]
    split at h
    · rename_i hw
      rw [if_neg (by rw [wantE_some hw G.get]; decide)]
      obtain ⟨L, hL, hG⟩ := put1_some (v := undef) h G rfl
      exact ih hL hG (put_defers _ _ hd) S hq
    · rename_i hw
      rw [if_pos (wantE_some hw G.get)]
      left
      split at h
      · rename_i e H1 n1 he
        refine evC_wp hC S G he fun v w' τ h1 h2 h3 h4 => ?_
        obtain ⟨L, hL, hG⟩ := put1_some (σ := τ) (a := a) (v := v) h (G.le (S.le h2)) h1
        exact ih hL hG (put_defers _ _ hd) h3 fun υ a' w'' g1 g2 g3 g4 g5 => hq υ a' w'' g1 g2 (h2.trans g3 h4) g4 (Nat.le_trans h4 g5)
      · cases h
    · cases h
end
end Go.Proofs.YtcfopechdlgioaaGreatDoor
