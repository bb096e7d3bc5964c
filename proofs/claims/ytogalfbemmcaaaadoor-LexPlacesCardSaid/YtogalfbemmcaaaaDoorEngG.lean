/- The engine, part G: a function's contract out of its formula. -/
import Derived.Test.YtogalfbemmcaaaaDoorEngF
namespace Go.Proofs.YtogalfbemmcaaaaDoor
open Go.RowKit

section
variable {P : Program} {E : Env} {B : Nat} {h0 : Hp} {w0 : World} {ρ : Nat → Nat} {st : St} {C : Ctx} {a : Act} {w : World}
/-- A function's result, as the model takes it. -/
def resS (t : Array Value) : ResultVar → Sem Value
  | .tmp s => pure (t.getD s undef)
  | .cell x ty => do loadVar ty (← asAddr (t.getD x undef))
theorem results_eq (fn : Func) (t : Array Value) : results fn t = (do let vs ← fn.results.mapM (resS t); pure (if h : vs.size = 1 then vs[0] else .tuple vs)) := by
  unfold results
  congr 1
theorem resV_run (R : Rep B h0 w0 ρ st C a w) {r : ResultVar} {p : PE} (h : resV P st r = some p) : (resS a.tmps r).run P w = .ok (p.den C ρ) w := by
  cases r with
  | tmp t =>
    have e : a.tmps.getD t undef = p.den C ρ := opd_eval (x := .tmp t) R (conds_nil _) h
    simp only [resS, e, Sem.run_pure]
  | cell x t =>
    simp only [resV, Option.bind_eq_some_iff] at h
    obtain ⟨q, hq, hl⟩ := h
    have e : a.tmps.getD x undef = q.den C ρ := opd_eval (x := .tmp x) R (conds_nil _) hq
    have hrun := load_run R hl
    unfold loadE at hl
    split at hl
    · rename_i k o
      simp only [resS, e, PE.den, CE.den]
      exact hrun
    · cases hl
theorem resVs_run (R : Rep B h0 w0 ρ st C a w) : ∀ {rs : List ResultVar} {ps : List PE}, resVs P st rs = some ps → (rs.mapM (resS a.tmps)).run P w = .ok (ps.map (PE.den C ρ)) w := by
  intro rs
  induction rs with
  | nil => intro ps h; cases h; rfl
  | cons r rs ih =>
    intro ps h
    rw [resVs] at h
    split at h
    · rename_i x xs hx hxs
      cases h
      rw [List.mapM_cons, Sem.run_bind, resV_run R hx, Result.andThen_ok, Sem.run_bind, ih hxs, Result.andThen_ok]
      rfl
    · cases h
def resOf (C : Ctx) (ρ : Nat → Nat) : List PE → Value
  | [x] => x.den C ρ
  | xs => .tuple (xs.map (PE.den C ρ)).toArray
theorem results_run (R : Rep B h0 w0 ρ st C a w) {fn : Func} {ps : List PE} (h : resVs P st fn.results.toList = some ps) : (results fn a.tmps).run P w = .ok (resOf C ρ ps) w := by
  rw [results_eq, Sem.run_bind, Array.mapM_eq_mapM_toList]
  show ((do let x ← fn.results.toList.mapM (resS a.tmps); pure x.toArray : Sem (Array Value)).run P w).andThen _ = _
  rw [Sem.run_bind, resVs_run R h, Result.andThen_ok]
  simp only [Sem.run_pure, Result.andThen_ok]
  congr 1
  match ps with
  | [] => rfl
  | [x] => rfl
  | x :: y :: l => rw [dif_neg (by simp)]; rfl
theorem retE_sound (R : Rep B h0 w0 ρ st C a w) {fn : Func} (hs : (retE P fn st).says E C) : ∃ v, (results fn a.tmps).run P w = .ok v w ∧ E.post v C.h := by
  unfold retE at hs
  split at hs
  · rename_i x hx
    split at hs
    · rename_i hp
      refine ⟨_, results_run R hx, ?_⟩
      have : E.post (x.den C noOwn) C.h := hs
      rw [x.den_plain (σ := ρ) hp] at this
      exact this
    · exact hs.elim
  · rename_i xs hne hx
    split at hs
    · rename_i hp
      refine ⟨_, results_run R hx, ?_⟩
      have : E.post (.tuple (xs.map (PE.den C noOwn)).toArray) C.h := hs
      rw [show xs.map (PE.den C noOwn) = xs.map (PE.den C ρ) from List.map_congr_left fun x hx => PE.den_plain x (List.all_eq_true.1 hp x hx)] at this
      match xs, hne, this with
      | [], _, h => exact h
      | [y], hne, _ => exact absurd rfl (hne y)
      | x :: y :: l, _, h => exact h
    · exact hs.elim
  · exact hs.elim
end

/-- A FUNCTION's CONTRACT. -/
theorem by_formulaP {P : Program} {f : FuncId} {fn : Func} (hf : P.funcs[f]? = some fn) (nw : Cfg) (A : Nat → LAnn) {E : Env} (hE : Good P E) {fm : Fm} {ps : List PE} {n : Cnt} (hfm : genFnP nw P A fn ps n = fm)
    (C : Ctx) (hC : Has C n) (ho : Ones C.v)
    (h : fm.says E C) (w : World) (hH : Holds C.h w) {args : Array Value} (ha : args.toList = ps.map (PE.den C noOwn)) :
    Calls P f args w fun e w' => ∃ v k, e = .returned v ∧ E.post v k ∧ Holds k w' ∧ Fr w.heap.size C.h k w w' := by
  subst hfm
  unfold genFnP at h
  split at h
  · rename_i c hbody
    refine calls_of_wp hf hbody ?_
    have hsz : args.size = ps.length := by
      have := congrArg List.length ha
      simpa using this
    have R : Rep w.heap.size C.h w noOwn ⟨ps.map .p ++ List.replicate (fn.ntmps - ps.length) .dead, [], n⟩ C { tmps := args ++ Array.replicate (fn.ntmps - args.size) undef, defers := [] } w := by
      refine ⟨rfl, by simp [hsz], ?_, fun k b hk => by simp at hk, fun k hk => by simp at hk, fun k j hk => by simp at hk, fun k hk => by simp at hk, hH, Fr.refl _ _ _, Nat.le_refl _, hC.i, hC.b, hC.s, hC.v, hC.l, hC.p, ho⟩
      intro i v hiv
      by_cases hlt : i < ps.length
      · rw [List.getElem?_append_left (by simpa using hlt)] at hiv
        simp only [List.getElem?_map, List.getElem?_eq_getElem hlt, Option.map_some, Option.some.injEq] at hiv
        subst hiv
        show _ = _
        have hai : args.toList[i]? = some (ps[i].den C noOwn) := by rw [ha]; simp [hlt]
        have hax : args[i]? = some (ps[i].den C noOwn) := by simpa using hai
        rw [Array.getD_eq_getD_getElem?, Array.getElem?_append_left (by omega), hax]
        rfl
      · rw [List.getElem?_append_right (by simp; omega)] at hiv
        have := List.mem_of_getElem? hiv
        rw [List.eq_of_mem_replicate this]
        trivial
    refine wp_mono (gen_sound hE nw A c 0 _ _ noOwn C _ w R h) ?_
    rintro e a w' ⟨ρ, st, D, hx, _, R', hs'⟩
    cases e with
    | normal =>
      obtain ⟨v, h1, h2⟩ := retE_sound R' hs'
      exact ⟨R'.defers, v, h1, v, _, rfl, h2, R'.holds, R'.fr⟩
    | ret =>
      obtain ⟨v, h1, h2⟩ := retE_sound R' hs'
      exact ⟨R'.defers, v, h1, v, _, rfl, h2, R'.holds, R'.fr⟩
    | exit id => exact (hs' : False).elim
    | goto l => exact (hs' : False).elim
    | panic ch => exact (hs' : False).elim
    | outgrown => exact (hs' : False).elim
  · exact h.elim

theorem by_formula {P : Program} {f : FuncId} {fn : Func} (hf : P.funcs[f]? = some fn) (nw : Cfg) (A : Nat → LAnn) {E : Env} (hE : Good P E) {fm : Fm} (hfm : genFn nw P A fn = fm) {ps : List PE} {n : Cnt}
    (hp : freshPs P .zero fn.params.toList = some (ps, n)) (C : Ctx) (hC : Has C n) (ho : Ones C.v)
    (h : fm.says E C) (w : World) (hH : Holds C.h w) {args : Array Value} (ha : args.toList = ps.map (PE.den C noOwn)) :
    Calls P f args w fun e w' => ∃ v k, e = .returned v ∧ E.post v k ∧ Holds k w' ∧ Fr w.heap.size C.h k w w' := by
  refine by_formulaP hf nw A hE ?_ C hC ho h w hH ha
  unfold genFn at hfm
  rw [hp] at hfm
  exact hfm

/-! ### Callees -/
/-- What is known of a function: handed these, whatever φ asks of what it hands back is so. -/
structure Ct (P : Program) where
  f : FuncId
  spec : List Value → Hp → (Value → Hp → Prop) → Prop
  ok : ∀ args h φ w, spec args h φ → Holds h w → Calls P f args.toArray w fun e w' => ∃ v k, e = .returned v ∧ φ v k ∧ Holds k w' ∧ Fr w.heap.size h k w w'
def specOf {P : Program} : List (Ct P) → FuncId → List Value → Hp → (Value → Hp → Prop) → Prop
  | [], _, _, _, _ => False
  | c :: cs, f, args, h, φ => if c.f = f then c.spec args h φ else specOf cs f args h φ
theorem specOf_good {P : Program} (cs : List (Ct P)) : ∀ f args h φ w, specOf cs f args h φ → Holds h w → Calls P f args.toArray w fun e w' => ∃ v k, e = .returned v ∧ φ v k ∧ Holds k w' ∧ Fr w.heap.size h k w w' := by
  induction cs with
  | nil => intro f args hh φ w h; exact h.elim
  | cons c cs ih =>
    intro f args hh φ w h hH
    rw [specOf] at h
    split at h
    · rename_i hf
      subst hf
      exact c.ok args hh φ w h hH
    · exact ih f args hh φ w h hH
/-- A function that hands back one value, known. -/
theorem ct_value {P : Program} {f : FuncId} {args : Array Value} {w : World} {v : Value} {h : Hp} {φ : Value → Hp → Prop} (hc : Calls P f args w fun e w' => e = .returned v ∧ Below w.heap.size w w') (hφ : φ v h) (hH : Holds h w) :
    Calls P f args w fun e w' => ∃ v k, e = .returned v ∧ φ v k ∧ Holds k w' ∧ Fr w.heap.size h k w w' := hc.mono fun _ _ ⟨he, hb⟩ => ⟨v, h, he, hφ, hH.below hb, Fr.of_below hb⟩
theorem ct_same {P : Program} {f : FuncId} {args : Array Value} {w : World} {v : Value} {h : Hp} {φ : Value → Hp → Prop} (hc : Calls P f args w fun e w' => e = .returned v ∧ w = w') (hφ : φ v h) (hH : Holds h w) :
    Calls P f args w fun e w' => ∃ v k, e = .returned v ∧ φ v k ∧ Holds k w' ∧ Fr w.heap.size h k w w' := hc.mono fun _ _ ⟨he, hb⟩ => ⟨v, h, he, hφ, hb ▸ hH, hb ▸ Fr.refl _ _ _⟩
theorem B_inj {a b : List UInt8} : (B a = B b) = (a = b) := by
  apply propext
  constructor
  · intro h
    have := congrArg ByteArray.toList h
    rwa [B_toList, B_toList] at this
  · rintro rfl; rfl
end Go.Proofs.YtogalfbemmcaaaaDoor
