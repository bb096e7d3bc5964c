/- The reckoner, part K: code, functions. -/
import Derived.Test.YtcfopechdlgioaaGreatDoorEvJ
namespace Go.Proofs.YtcfopechdlgioaaGreatDoor
open Go.RowKit
inductive Ex where
  | nor | ex (id : Nat) | ret
def Ex.exit : Ex → Exit
  | .nor => .normal
  | .ex i => .exit i
  | .ret => .ret
def initT : Nat → List EV → Tm → Option Tm
  | _, [], T => some T
  | i, e :: l, T => match T.put (some e) depthT i with
    | .nil => none
    | .nd a b c => initT (i + 1) l (.nd a b c)
def resE (P : Program) (T : Tm) (H : Hm) : List ResultVar → Option (List PV)
  | [] => some []
  | .tmp t :: r => match T.get t with
    | some (.p v) => consO v (resE P T H r)
    | _ => none
  | .cell ad t :: r => match evR P T H (.load t (.tmp ad)) with
    | some (.p v) => consO v (resE P T H r)
    | _ => none
def resV : List PV → EV
  | [v] => .p v
  | l => .t l
/-- A function whose contract is known: strings.Builder's copyCheck; the type of builders. -/
abbrev Sp := Option (Nat × Nat)
def ccE (P : Program) (bt : Nat) (xs : List EV) (H : Hm) (nx : Nat) : Option XR := match xs with
  | [.p (.c (.p b o))] => match H.get b with
    | some (.c cs ty) => match nth cs o with
      | some .np => match liesAt P P.depth ty (Nat.div cs.length (P.cellsOf ty)) o bt 1, setC o [.p b o] cs with
        | true, some ds => putH H b (some (.c ds ty)) fun K => some (.w (.t []) K nx)
        | _, _ => none
      | some (.p b' o') => bif Nat.beq b b' && Nat.beq o o' then some (.w (.t []) H nx) else none
      | _ => none
    | _ => none
  | _ => none
mutual
/-- Code is run. -/
def exec (P : Program) (orc : CallF) (sp : Sp) (N : Nat) : Nat → Code → Tm → Hm → Nat → Option (Ex × Tm × Hm × Nat)
  | 0, _, _, _, _ => none
  | f + 1, c, T, H, nx => match c with
    | .skip => some (.nor, T, H, nx)
    | .seq x y => match exec P orc sp N f x T H nx with
      | some (.nor, T, H, nx) => exec P orc sp N f y T H nx
      | r => r
    | .cond c x y => match opC T c with
      | some (.b true) => exec P orc sp N f x T H nx
      | some (.b false) => exec P orc sp N f y T H nx
      | _ => none
    | .block id x => match exec P orc sp N f x T H nx with
      | some (.ex j, T, H, nx) => bif Nat.beq j id then some (.nor, T, H, nx) else some (.ex j, T, H, nx)
      | r => r
    | .loop x => match exec P orc sp N f x T H nx with
      | some (.nor, T, H, nx) => exec P orc sp N f (.loop x) T H nx
      | r => r
    | .exit id => some (.ex id, T, H, nx)
    | .ret => some (.ret, T, H, nx)
    | .region _ ops false => match runOps P (callE P orc sp f) N ops ops.toList T H nx with
      | some (T, H, nx) => some (.nor, T, H, nx)
      | none => none
    | .region _ ops true => match runDraw P (callE P orc sp f) N ops T H nx with
      | some (T, H, nx) => some (.nor, T, H, nx)
      | none => none
    | _ => none
/-- A function is called. -/
def callE (P : Program) (orc : CallF) (sp : Sp) : Nat → FuncId → List EV → Hm → Nat → Option XR
  | 0, _, _, _, _ => none
  | fu + 1, f, xs, H, nx => match hasBody P f with
    | false => none
    | true => match orc f xs H nx with
     | some r => some r
     | none => match sp.map fun x => (Nat.beq x.1 f, x.2) with
     | some (true, bt) => ccE P bt xs H nx
     | _ => match P.funcs[f]? with
      | none => none
      | some fn => match fn.body with
        | none => none
        | some c => match initT 0 xs .nil with
          | none => none
          | some T => match exec P orc sp (Nat.add xs.length (Nat.sub fn.ntmps xs.length)) fu c T H nx with
            | some (.ex _, _, _, _) => none
            | some (_, T, H, nx) => match resE P T H fn.results.toList with
              | some l => some (.w (resV l) H nx)
              | none => none
            | none => none
end
section
variable {P : Program} {w0 w : World} {σ τ : Sg} {H : Hm} {nx N : Nat} {T : Tm} {a : Act}
theorem initT_get : ∀ {l : List EV} {i : Nat} {T U : Tm}, initT i l T = some U → ∀ k e, U.get k = some e → (i ≤ k ∧ l[k - i]? = some e) ∨ T.get k = some e
  | [], i, T, U, h, k, e, he => by cases h; exact .inr he
  | x :: l, i, T, U, h, k, e, he => by
    rw [initT] at h
    split at h
    · cases h
    · rename_i a b c hq
      rcases initT_get h k e he with ⟨h1, h2⟩ | h1
      · refine .inl ⟨by omega, ?_⟩
        rw [show k - i = k - (i + 1) + 1 by omega]
        exact h2
      · rw [← hq, Tr.get_put _ _ _ _ _ (by rw [hq]; simp)] at h1
        split at h1
        · rename_i e'
          subst e'
          cases h1
          exact .inl ⟨Nat.le_refl _, by simp⟩
        · exact .inr h1
theorem isA_len {l : List EV} {k : List Value} (h : isA σ l k) : l.length = k.length := by
  induction h with
  | nil => rfl
  | cons _ _ ih => simp [ih]
theorem isA_nth {l : List EV} {k : List Value} (h : isA σ l k) {n : Nat} {e : EV} (he : l[n]? = some e) : ∃ x, k[n]? = some x ∧ e.is σ x := by
  induction h generalizing n with
  | nil => simp at he
  | cons h1 _ ih =>
    cases n with
    | zero => simp at he; subst he; exact ⟨_, rfl, h1⟩
    | succ n => simpa using ih (n := n) (by simpa using he)
def resF (t : Array Value) : ResultVar → Sem Value
  | .tmp x => pure (t.getD x undef)
  | .cell ad x => do loadVar x (← asAddr (t.getD ad undef))
theorem results_eq (fn : Func) (t : Array Value) : results fn t = (do let vs ← fn.results.mapM (resF t); pure (if h : vs.size = 1 then vs[0] else .tuple vs)) := by
  unfold results
  refine congrArg (fun f => (fn.results.mapM f >>= fun vs => pure (if h : vs.size = 1 then vs[0] else .tuple vs) : Sem Value)) (funext fun x => ?_)
  cases x <;> rfl
theorem resE_is (S : Sim w0 σ H nx w) (G : TS σ N T a.tmps) : ∀ {l : List ResultVar} {r : List PV}, resE P T H l = some r → ∃ vs, isT σ r vs ∧ (l.mapM (resF a.tmps)).run P w = .ok vs w
  | [], r, h => by cases h; exact ⟨[], .nil, rfl⟩
  | .tmp t :: l, r, h => by
    rw [resE] at h
    split at h
    · rename_i v hv
      rw [consO_some] at h
      obtain ⟨m, hm, rfl⟩ := h
      obtain ⟨vs, h1, h2⟩ := resE_is S G hm
      refine ⟨_, .cons (G.get t _ hv) h1, ?_⟩
      rw [List.mapM_cons, Sem.run_bind, show resF a.tmps (.tmp t) = pure (a.tmps.getD t undef) from rfl]
      simp only [Sem.run_pure, Result.andThen_ok, Sem.run_bind, h2]
    · cases h
  | .cell ad t :: l, r, h => by
    rw [resE] at h
    split at h
    · rename_i v hv
      rw [consO_some] at h
      obtain ⟨m, hm, rfl⟩ := h
      obtain ⟨vs, h1, h2⟩ := resE_is S G hm
      obtain ⟨u, hu, hr⟩ := evR_run (P := P) (o := { dst := none, op := .load t (.tmp ad), type := 0, pos := "", after := #[], guard := none }) S G hv
      refine ⟨u :: vs, .cons hu h1, ?_⟩
      rw [List.mapM_cons, Sem.run_bind]
      have hl : (resF a.tmps (.cell ad t)).run P w = .ok u w := by
        show (do loadVar t (← asAddr (a.tmps.getD ad undef)) : Sem Value).run P w = .ok u w
        simp only [evR, opC, opE] at hv
        split at hv
        · rename_i b o' hx
          split at hx
          · rename_i v' hg
            cases hx
            obtain ⟨q, hq, hval⟩ := G.get ad _ hg
            unfold execOp at hr
            simp only [Act.eval, hval] at hr ⊢
            have hr' : ((Instr.loadAt t (.pointer (some ⟨q.1, o', none⟩))).run P w).andThen (fun v w => (pure (Next.value v) : Sem Next).run P w) = .ok (.value u) w := by rw [← Sem.run_bind]; exact hr
            cases hz : (Instr.loadAt t (.pointer (some ⟨q.1, o', none⟩))).run P w with
            | halt hh ww => rw [hz] at hr'; cases hr'
            | ok z ww =>
              rw [hz] at hr'
              cases hr'
              exact hz
          · cases hx
        · cases hv
      rw [hl]
      simp only [Result.andThen_ok, Sem.run_bind, h2, Sem.run_pure]
    · cases h
theorem resV_run (S : Sim w0 σ H nx w) {fn : Func} (G : TS σ N T a.tmps) {r : List PV} (h : resE P T H fn.results.toList = some r) : ∃ v, (resV r).is σ v ∧ (results fn a.tmps).run P w = .ok v w := by
  obtain ⟨vs, h1, h2⟩ := resE_is S G h
  have hm : (fn.results.mapM (resF a.tmps)).run P w = .ok vs.toArray w := by
    rw [Array.mapM_eq_mapM_toList]
    show (do let x ← fn.results.toList.mapM _; pure x.toArray : Sem (Array Value)).run P w = _
    rw [Sem.run_bind, h2]
    rfl
  rw [results_eq, Sem.run_bind, hm, Result.andThen_ok]
  cases h1 with
  | nil => exact ⟨_, ⟨[], .nil, rfl⟩, rfl⟩
  | cons g1 g2 =>
    cases g2 with
    | nil => exact ⟨_, g1, rfl⟩
    | cons g2 g3 => exact ⟨_, ⟨_, .cons g1 (.cons g2 g3), rfl⟩, by simp⟩
/-- What comes of code that was run. -/
def Went (w0 : World) (σ : Sg) (N nx : Nat) (e : Ex) (T : Tm) (H : Hm) (ny : Nat) : Exit → Act → World → Prop := fun e' a w => e' = e.exit ∧ a.defers = [] ∧ nx ≤ ny ∧ ∃ τ, TS τ N T a.tmps ∧ ExtS nx σ τ ∧ Sim w0 τ H ny w
theorem Went.ext {n1 n2 n3 : Nat} {e : Ex} {T : Tm} {H : Hm} {e' : Exit} {a : Act} {w : World} (hx : ExtS n1 σ τ) (hn : n1 ≤ n2) (h : Went w0 τ N n2 e T H n3 e' a w) : Went w0 σ N n1 e T H n3 e' a w := by
  obtain ⟨h1, h2, h3, υ, h4, h5, h6⟩ := h
  exact ⟨h1, h2, Nat.le_trans hn h3, υ, h4, hx.trans h5 hn, h6⟩
theorem rowAt_mono {fits : TypeId → Bool} : ∀ {d : Nat} {e : TypeId} {c c' off n : Nat}, c ≤ c' → rowAt P fits d e c off n = true → rowAt P fits d e c' off n = true
  | 0, _, _, _, _, _, _, h => by cases h
  | d + 1, e, c, c', off, n, hc, h => by
    rw [rowAt] at h ⊢
    simp only at h ⊢
    split at h
    · cases h
    · rename_i hs
      rw [if_neg hs]
      simp only [Bool.or_eq_true, Bool.and_eq_true, decide_eq_true_eq] at h ⊢
      rcases h with ⟨⟨h1, h2⟩, h3⟩ | ⟨h1, h2⟩
      · exact .inl ⟨⟨h1, by omega⟩, h3⟩
      · exact .inr ⟨by omega, h2⟩
theorem liesAt_mono : ∀ {d : Nat} {e : TypeId} {c c' off : Nat} {u : TypeId} {n : Nat}, c ≤ c' → liesAt P d e c off u n = true → liesAt P d e c' off u n = true
  | 0, _, _, _, _, _, _, _, h => by cases h
  | d + 1, e, c, c', off, u, n, hc, h => by
    rw [liesAt] at h ⊢
    rw [Bool.or_eq_true] at h ⊢
    rcases h with h | h
    · exact .inl (rowAt_mono hc h)
    · right
      split at h
      · exact liesAt_mono hc h
      · cases h
/-- copyCheck's contract. -/
def SpOk (P : Program) (sp : Sp) : Prop := ∀ cc bt, sp = some (cc, bt) →
  (∀ (b o : Nat) (w : World), w.cell? ⟨b, o, none⟩ = some (.pointer (some ⟨b, o, none⟩)) → Calls P cc #[.pointer (some ⟨b, o, none⟩)] w fun e w' => e = .returned (.tuple #[]) ∧ w' = w) ∧
  (∀ (b o : Nat) (w : World) (e : TypeId) (cells : Nat), w.cell? ⟨b, o, none⟩ = some (.pointer none) → w.shape? b = some (e, cells) → o < cells → liesAt P P.depth e (cells / P.cellsOf e) o bt 1 = true → w.frozen? ⟨b, o, none⟩ = false →
    Calls P cc #[.pointer (some ⟨b, o, none⟩)] w fun e w' => e = .returned (.tuple #[]) ∧ w' = w.setCell ⟨b, o, none⟩ (.pointer (some ⟨b, o, none⟩)))
theorem ccE_ok {sp : Sp} (hsp : SpOk P sp) {cc bt : Nat} (he : sp = some (cc, bt)) {xs : List EV} {e : EV} {K : Hm} {ny : Nat} (h : ccE P bt xs H nx = some (.w e K ny)) {vs : List Value} (hvs : isA σ xs vs) (S : Sim w0 σ H nx w) :
    Calls P cc vs.toArray w fun en w' => ∃ v τ, en = .returned v ∧ e.is τ v ∧ ExtS nx σ τ ∧ Sim w0 τ K ny w' ∧ nx ≤ ny := by
  obtain ⟨c1, c2⟩ := hsp cc bt he
  unfold ccE at h
  split at h
  · rename_i b o
    cases hvs with
    | @cons _ u _ k hb hnil =>
    cases hnil
    obtain ⟨r, hr, rfl⟩ := hb
    split at h
    · rename_i cs ty hH
      obtain ⟨_, ws, g1, g2, g3, g4⟩ := S.ok b _ r hH hr
      split at h
      · rename_i hn
        rw [nth_eq] at hn
        obtain ⟨x, hx, hc⟩ := isL_nth g4 hn
        cases hc
        have ho : o < cs.length := (List.getElem?_eq_some_iff.1 hn).1
        rw [List.getElem?_take, if_pos ho] at hx
        split at h
        · rename_i ds hl hds
          obtain ⟨L, hL, h⟩ := putH_some h
          cases h
          have hcl := c2 r.1 o w ty ws.length (by rw [cell_row g1]; exact hx) (by simp [World.shape?, g1]) (by omega) (liesAt_mono (Nat.div_le_div_right g3) hl) (by unfold World.frozen?; rw [g1]; simp)
          refine hcl.mono fun en w' ⟨h1, h2⟩ => ?_
          subst h1 h2
          have hset := setCells_at r.1 ty (0, 0) [.pointer (some ⟨r.1, o, none⟩)] o w ws g1 (by simp; omega)
          obtain ⟨q1, q2, q3, q4, q5, q6⟩ := hset
          refine ⟨_, σ, rfl, ⟨[], .nil, rfl⟩, ExtS.refl _ _, ?_, Nat.le_refl _⟩
          refine S.write (y := .c ds ty) hH hr (by rw [hL, if_pos rfl]) (fun c hc => by rw [hL, if_neg hc]) q3 q4 q5 q6 q2 ?_
          exact ok_set (o := o) (k := [.pointer (some ⟨r.1, o, none⟩)]) g2 g3 g4 (.cons (show (CV.p b o).is σ _ from ⟨r, hr, rfl⟩) .nil) hds q1
        · cases h
      · rename_i b' o' hn
        cases hbo : Nat.beq b b' && Nat.beq o o' with
        | false => rw [hbo] at h; cases h
        | true =>
          rw [hbo] at h; cases h
          simp only [Bool.and_eq_true, Nat.beq_eq] at hbo
          obtain ⟨rfl, rfl⟩ := hbo
          rw [nth_eq] at hn
          obtain ⟨x, hx, q, hq, rfl⟩ := isL_nth g4 hn
          rw [hr] at hq; cases hq
          have ho : o < cs.length := (List.getElem?_eq_some_iff.1 hn).1
          rw [List.getElem?_take, if_pos ho] at hx
          refine (c1 r.1 o w (by rw [cell_row g1]; exact hx)).mono fun en w' ⟨h1, h2⟩ => ?_
          subst h1 h2
          exact ⟨_, σ, rfl, ⟨[], .nil, rfl⟩, ExtS.refl _ _, S, Nat.le_refl _⟩
      · cases h
    · cases h
  · cases h
def ExOk (P : Program) (orc : CallF) (sp : Sp) (f : Nat) : Prop := ∀ (N : Nat) (c : Code) (T : Tm) (H : Hm) (nx : Nat) (e : Ex) (T' : Tm) (K : Hm) (ny : Nat), exec P orc sp N f c T H nx = some (e, T', K, ny) →
  ∀ w0 σ a w, TS σ N T a.tmps → a.defers = [] → Sim w0 σ H nx w → c.wp P (Went w0 σ N nx e T' K ny) a w
/-- A loop, round by round. -/
theorem loop_rounds {orc : CallF} {sp : Sp} {x : Code} : ∀ (g : Nat), (∀ g', g' < g → ExOk P orc sp g') → ∀ {T : Tm} {H : Hm} {nx : Nat} {e : Ex} {T' : Tm} {K : Hm} {ny n0 : Nat}, exec P orc sp N g (.loop x) T H nx = some (e, T', K, ny) →
    ∀ {σ0 τ : Sg} {a : Act} {w : World}, TS τ N T a.tmps → a.defers = [] → Sim w0 τ H nx w → ExtS n0 σ0 τ → n0 ≤ nx → Code.rounds P x (Went w0 σ0 N n0 e T' K ny) g a w := by
  intro g
  induction g with
  | zero => intro _ T H nx e T' K ny n0 h; cases h
  | succ g ih =>
    intro hs T H nx e T' K ny n0 h σ0 τ a w G hd S hx hn
    rw [exec] at h
    rw [rounds_succ]
    split at h
    · rename_i T1 H1 n1 h1
      refine wp_mono (hs g (Nat.lt_succ_self _) _ _ _ _ _ _ _ _ _ h1 w0 τ a w G hd S) ?_
      rintro e1 a1 w1 ⟨rfl, hd1, hn1, υ, G1, hx1, S1⟩
      exact ih (fun g' hg => hs g' (by omega)) h G1 hd1 S1 (hx.trans hx1 hn) (Nat.le_trans hn hn1)
    · rename_i hne
      refine wp_mono (hs g (Nat.lt_succ_self _) _ _ _ _ _ _ _ _ _ h w0 τ a w G hd S) ?_
      rintro e1 a1 w1 ⟨rfl, h2⟩
      have h3 := Went.ext (e := e) (e' := e.exit) hx hn ⟨rfl, h2⟩
      cases e with
      | nor => exact absurd h (hne _ _ _)
      | ex i => exact h3
      | ret => exact h3
theorem exec_sound {orc : CallF} {sp : Sp} (hm : P.follows .mixedOrders = true) (ho : CallOk P orc) (hsp : SpOk P sp) (f : Nat) : ExOk P orc sp f ∧ CallOk P (callE P orc sp f) := by
  induction f using Nat.strongRecOn with
  | _ f0 ih0 =>
  cases f0 with
  | zero => exact ⟨fun N c T H nx e T' K ny h => (by cases h), fun f xs H nx e K ny h => (by cases h)⟩
  | succ f =>
    obtain ⟨ihe, ihc⟩ := ih0 f (Nat.lt_succ_self _)
    refine ⟨fun N c T H nx e T' K ny h w0 σ a w G hd S => ?_, fun fi xs H nx e K ny h => ?_⟩
    · cases c with
      | skip =>
        rw [exec] at h; cases h
        exact wp_skip ⟨rfl, hd, Nat.le_refl _, σ, G, ExtS.refl _ _, S⟩
      | seq x y =>
        rw [exec] at h
        refine wp_seq ?_
        split at h
        · rename_i T1 H1 n1 h1
          refine wp_mono (ihe _ _ _ _ _ _ _ _ _ h1 w0 σ a w G hd S) ?_
          rintro e1 a1 w1 ⟨rfl, hd1, hn1, τ, G1, hx1, S1⟩
          exact wp_mono (ihe _ _ _ _ _ _ _ _ _ h w0 τ a1 w1 G1 hd1 S1) fun e2 a2 w2 h2 => h2.ext hx1 hn1
        · rename_i hne
          refine wp_mono (ihe _ _ _ _ _ _ _ _ _ h w0 σ a w G hd S) ?_
          rintro e1 a1 w1 ⟨rfl, h2⟩
          cases e with
          | nor => exact absurd h (hne _ _ _)
          | ex i => exact ⟨rfl, h2⟩
          | ret => exact ⟨rfl, h2⟩
      | cond q x y =>
        rw [exec] at h
        split at h
        · rename_i hc
          exact wp_cond_true (opC_is G hc) (ihe _ _ _ _ _ _ _ _ _ h w0 σ a w G hd S)
        · rename_i hc
          exact wp_cond_false (opC_is G hc) (ihe _ _ _ _ _ _ _ _ _ h w0 σ a w G hd S)
        · cases h
      | block id x =>
        rw [exec] at h
        refine wp_block ?_
        split at h
        · rename_i j T1 H1 n1 h1
          refine wp_mono (ihe _ _ _ _ _ _ _ _ _ h1 w0 σ a w G hd S) ?_
          rintro e1 a1 w1 ⟨rfl, h2⟩
          show Exit.inBlock id _ (.exit j) a1 w1
          simp only [Exit.inBlock]
          cases hj : Nat.beq j id with
          | true =>
            rw [hj] at h; cases h
            rw [if_pos (Nat.eq_of_beq_eq_true hj)]
            exact ⟨rfl, h2⟩
          | false =>
            rw [hj] at h; cases h
            rw [if_neg (fun e => by rw [e, Nat.beq_refl] at hj; cases hj)]
            exact ⟨rfl, h2⟩
        · rename_i hne
          refine wp_mono (ihe _ _ _ _ _ _ _ _ _ h w0 σ a w G hd S) ?_
          rintro e1 a1 w1 ⟨rfl, h2⟩
          cases e with
          | nor => exact ⟨rfl, h2⟩
          | ex i => exact absurd h (hne _ _ _ _)
          | ret => exact ⟨rfl, h2⟩
      | loop x => exact wp_loop_rounds (f + 1) (loop_rounds (f + 1) (fun g hg => (ih0 g hg).1) h G hd S (ExtS.refl _ _) (Nat.le_refl _))
      | exit id =>
        rw [exec] at h; cases h
        exact wp_exit ⟨rfl, hd, Nat.le_refl _, σ, G, ExtS.refl _ _, S⟩
      | ret =>
        rw [exec] at h; cases h
        exact wp_ret ⟨rfl, hd, Nat.le_refl _, σ, G, ExtS.refl _ _, S⟩
      | region id ops draw =>
        cases draw with
        | false =>
          rw [exec] at h
          split at h
          · rename_i T1 H1 n1 h1
            cases h
            exact wp_region_list (runOps_sound ihc _ h1 G hd S fun τ a w G hd hx S hn => ⟨rfl, hd, hn, τ, G, hx, S⟩)
          · cases h
        | true =>
          rw [exec] at h
          split at h
          · rename_i T1 H1 n1 h1
            cases h
            exact runDraw_sound hm ihc h1 G hd S fun τ a w G hd hx S hn => ⟨rfl, hd, hn, τ, G, hx, S⟩
          · cases h
      | _ => cases h
    · rw [callE] at h
      split at h
      · cases h
      · rename_i hb
        split at h
        · rename_i r hr
          cases h
          exact ho _ _ _ _ _ _ _ hr
        refine ⟨hb, fun w0 σ w vs hvs S => ?_⟩
        split at h
        · rename_i bt hx
          simp only [Option.map_eq_some_iff, Prod.mk.injEq] at hx
          obtain ⟨⟨cc, bt'⟩, h1, h2, rfl⟩ := hx
          have : cc = fi := Nat.eq_of_beq_eq_true h2
          subst this
          exact ccE_ok hsp h1 h hvs S
        split at h
        · cases h
        · rename_i fn hfn
          split at h
          · cases h
          · rename_i c hbody
            split at h
            · cases h
            · rename_i T hT
              have hlen := isA_len hvs
              have G : TS σ (Nat.add xs.length (Nat.sub fn.ntmps xs.length)) T (vs.toArray ++ Array.replicate (fn.ntmps - vs.toArray.size) undef) := by
                refine ⟨by simp [hlen], fun k e he => ?_⟩
                rcases initT_get hT k e he with ⟨_, h1⟩ | h1
                · obtain ⟨u, hu, hc⟩ := isA_nth hvs h1
                  rw [Nat.sub_zero] at hu
                  rw [Array.getD_eq_getD_getElem?, Array.getElem?_append, if_pos (by simpa using (List.getElem?_eq_some_iff.1 hu).1)]
                  simp only [List.getElem?_toArray, hu, Option.getD_some]
                  exact hc
                · cases h1
              refine calls_of_wp hfn hbody ?_
              have fin : ∀ {e1 : Ex} {T1 : Tm} {H1 : Hm} {n1 : Nat} {l : List PV}, e1 = .nor ∨ e1 = .ret → exec P orc sp (Nat.add xs.length (Nat.sub fn.ntmps xs.length)) f c T H nx = some (e1, T1, H1, n1) → resE P T1 H1 fn.results.toList = some l → e = resV l → K = H1 → ny = n1 →
                  c.wp P (bodyPost P fn fun en w' => ∃ v τ, en = .returned v ∧ e.is τ v ∧ ExtS nx σ τ ∧ Sim w0 τ K ny w' ∧ nx ≤ ny) { tmps := vs.toArray ++ Array.replicate (fn.ntmps - vs.toArray.size) undef, defers := [] } w := by
                rintro e1 T1 H1 n1 l he1 hx hl rfl rfl rfl
                refine wp_mono (ihe _ _ _ _ _ _ _ _ _ hx w0 σ _ w G rfl S) ?_
                rintro e2 a2 w2 ⟨rfl, hd2, hn2, τ, G2, hx2, S2⟩
                obtain ⟨v, h1, h2⟩ := resV_run S2 G2 hl
                rcases he1 with rfl | rfl
                · exact ⟨hd2, v, h2, v, τ, rfl, h1, hx2, S2, hn2⟩
                · exact ⟨hd2, v, h2, v, τ, rfl, h1, hx2, S2, hn2⟩
              split at h
              · cases h
              · rename_i e1 T1 H1 n1 hx hne
                split at h
                · rename_i l hl
                  cases h
                  refine fin ?_ hne hl rfl rfl rfl
                  cases e1 with
                  | nor => exact .inl rfl
                  | ret => exact .inr rfl
                  | ex i => exact absurd rfl (hx i)
                · cases h
              · cases h
end
end Go.Proofs.YtcfopechdlgioaaGreatDoor
