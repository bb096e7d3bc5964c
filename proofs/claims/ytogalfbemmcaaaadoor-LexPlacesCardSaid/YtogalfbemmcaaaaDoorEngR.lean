/- The engine, part R: regions that draw their order. Each operation is run on what the operations ahead of it have left; whatever the order, the end is the same. -/
import Derived.Test.YtogalfbemmcaaaaDoorEngE
import Derived.Orders
namespace Go.Proofs.YtogalfbemmcaaaaDoor
open Go.RowKit

/-! ### What is ahead of what -/
def direct (o : Oper) : List Nat := o.after.toList.filterMap fun e => if Region.binds .any e then some e.on else none
def preT : List Oper → List (List Nat) → List (List Nat)
  | [], acc => acc
  | o :: os, acc => preT os (acc ++ [(direct o ++ (direct o).flatMap fun e => acc.getD e []).eraseDups])

/-! ### What an operation does -/
inductive Rec where
  | val (s : Nat) (gs : Gs) (g c : BE) (v : PE)
  | tup (l : List PE)
  | call (k : Nat) (gs : Gs) (g : BE) (f : FuncId) (vas : List PE) (r : VE) (d : Cnt)
  | load (s : Nat) (n0 : Cnt) (gs : Gs) (g : BE) (a : AE) (n : Nat) (r : PE) (d : Cnt)
  | new (k : Nat) (cs : List CE) (ty : TypeId)
  | sto (s k off : Nat) (cs : List CE)
  deriving DecidableEq
def callVE (gs : Gs) : VE → VE
  | .p x => wrapG gs x
  | .tup l => .tup l
  | _ => .dead
def okR (gs : Gs) : VE → Bool
  | .p _ => true
  | .tup _ => gs.isEmpty
  | _ => false
def Rec.ve : Rec → VE
  | .val _ gs _ _ v => wrapG gs v
  | .tup l => .tup l
  | .call _ gs _ _ _ r _ => callVE gs r
  | .load _ _ gs _ _ _ r _ => wrapG gs r
  | .new k _ _ => .p (.one (.own k 0))
  | .sto .. => .dead
def Rec.gs : Rec → Gs
  | .val _ gs .. => gs
  | .tup _ => []
  | .call _ gs .. => gs
  | .load _ _ gs .. => gs
  | .new .. => []
  | .sto .. => []
def Rec.isLoad : Rec → Bool
  | .load .. => true
  | _ => false
def recV (nw : Cfg) (P : Program) (op : Op) (s : Nat) (M : St) (gs : Gs) (g : BE) : Option Rec :=
  match tupMove M op with
  | some l => if gs = [] then some (.tup l) else none
  | none => (pureE nw P M gs op).map fun (c, v) => .val s gs g c v
/-- A look into known memory? -/
def knownLoad (M : St) (gs : Gs) : Op → Option (TypeId × AE)
  | .load t x => match opd M gs x with
    | some (.one (.adr a)) => some (t, a)
    | _ => none
  | _ => none
/-- On a state that holds what is ahead of it. -/
def recE (nw : Cfg) (P : Program) (ops : Array Oper) (o : Oper) (s : Nat) (n0 : Cnt) (M : St) : Option Rec :=
  match guardOf M ops o with
  | none => none
  | some gs => match gexpr M [] gs with
    | none => none
    | some g => match knownLoad M gs o.op with
      | some (t, a) => match freshP P n0 t, sizeB P t, P.underlying t with
        | some (r, n), some sz, some _ =>
          if r.plain && decide (n0.add (n.sub n0) = n) && decide (r.cells.length = sz) && r.aggOk P t then some (.load s n0 gs g a sz r (n.sub n0)) else none
        | _, _, _ => none
      | none => match o.op with
        | .call { callee := .value v, args, .. } =>
          match (calleeE M gs v args.toList).bind fun fv => (freshR P M.n (resTypes P fv.1)).map fun x => (fv.1, fv.2, x.1, x.2) with
          | some (f, vas, r, n) =>
            if hasBody P f && vas.all PE.plain && r.plain && decide (M.n.add (n.sub M.n) = n) && okR gs r then some (.call s gs g f vas r (n.sub M.n)) else none
          | none => none
        | .store t x y => match opd M gs x, opd M gs y, sizeB P t with
          | some (.one (.own k off)), some p, some n => if gs = [] ∧ p.cells.all (CE.sto M.n) = true ∧ p.cells.length = n then some (.sto s k off p.cells) else none
          | _, _, _ => none
        | op => match newOp P M gs op with
          | some (cs, t) => if gs = [] ∧ nw.esc.all (fun d => decide (o.dst ≠ some d)) = true then some (.new M.m.length cs t) else none
          | none => recV nw P op s M gs g

/-- A move that stands behind nothing, and that nothing else disturbs: it may come up ahead of all others. -/
def lazyOk (ops : Array Oper) (i : Nat) : Bool := match ops[i]? with
  | some o => (match o.op with | .move _ => true | _ => false) && o.guard.isNone && o.after.isEmpty && Region.free .any ops (Array.replicate ops.size false) i
  | none => false
def lazies (ops : Array Oper) : List Nat := if Region.noSelect ops then (List.range ops.size).filter (lazyOk ops) else []
structure Dr where
  st : St
  W : List (Option Nat)
  tab : List (List Nat)
  recs : List Rec
  cs : List Cnt
  ns : List Cnt
  calls : List Nat
  /-- So many operations are drawn; those behind keep their order. -/
  L : Nat
  /-- The one that makes a block. -/
  al : Option (Nat × Blk)
  /-- The one that writes a block of the call's own. -/
  sl : Option (Nat × Nat × Blk)
  /-- Those that come up ahead of all others. -/
  z : List Nat
def Dr.ve (D : Dr) (j : Nat) : VE := match D.recs[j]? with
  | some r => r.ve
  | none => .dead
def Dr.pre (D : Dr) (j : Nat) : List Nat := D.tab.getD j []
def Dr.wr (D : Dr) (t : Nat) : Option Nat := (D.W[t]?).getD none
/-- The call's own blocks, but for one that is made. -/
def Dr.mem (D : Dr) (listed : Nat → Bool) : List Blk := match D.sl with
  | some (i, k, b) => if listed i then D.st.m.set k b else D.st.m
  | none => D.st.m
/-- Behind those that are listed. -/
def Dr.at (D : Dr) (listed : Nat → Bool) (n : Cnt) : St :=
  { t := D.st.t.mapIdx fun t v => match D.wr t with
      | some j => if listed j then D.ve j else v
      | none => v
    m := D.mem listed ++ match D.al with
      | some (i, b) => if listed i then [b] else []
      | none => []
    n := n }
/-- What an operation may look at. -/
def Dr.sees (D : Dr) (i : Nat) (n : Cnt) : St :=
  { t := D.st.t.mapIdx fun t v => match D.wr t with
      | some j => if (D.pre i).contains j then D.ve j else if (D.pre j).contains i then v else .dead
      | none => v
    m := match D.sl with
      | some _ => []
      | none => D.st.m
    n := n }
def Dr.n (D : Dr) (s : Nat) : Cnt := D.ns.getD s .zero
def Dr.c (D : Dr) (i : Nat) : Cnt := D.cs.getD i .zero
/-- The stage of an operation: how many calls there are up to the last one that is ahead of it. -/
def Dr.stage (D : Dr) (i : Nat) : Nat := (D.calls.zipIdx.foldl (fun m x => if (D.pre i).contains x.1 then x.2 + 1 else m) 0)
/-- The names at a stage's beginning; behind its looks there are those of D.n. -/
def Dr.start (D : Dr) : Nat → Cnt
  | 0 => D.st.n
  | s + 1 => match (D.calls[s]?).bind (D.recs[·]?) with
    | some (.call _ _ _ _ _ _ d) => (D.n s).add d
    | _ => .zero
def VE.still : VE → Bool
  | .wg _ _ => false
  | _ => true
def Cnt.le (a b : Cnt) : Bool := decide (a.i ≤ b.i) && decide (a.b ≤ b.b) && decide (a.s ≤ b.s) && decide (a.v ≤ b.v) && decide (a.l ≤ b.l) && decide (a.p ≤ b.p)
def Dr.okAt (nw : Cfg) (P : Program) (ops : Array Oper) (D : Dr) (i : Nat) : Bool :=
  match ops[i]?, D.recs[i]? with
  | some o, some r =>
    decide (recE nw P ops o (D.stage i) (D.c i) (D.sees i (D.n (D.stage i))) = some r) &&
    (match o.dst with | some d => decide (D.wr d = some i) | none => true) &&
    (r.gs.all fun g => match D.wr g.1 with | some q => (D.pre i).contains q | none => true) &&
    (match r with
    | .val s _ g c v => !D.calls.contains i && decide (s = D.stage i) && g.blw (D.n s) && c.blw (D.n s) && v.blw (D.n s)
    | .tup l => !D.calls.contains i && l.all (PE.blw (D.n (D.stage i)))
    | .new k cs ty => decide (D.al = some (i, ⟨cs, ty⟩)) && decide (k = D.st.m.length) && !D.calls.contains i && cs.all (CE.okm D.st.m.length) && cs.all (CE.blw (D.n (D.stage i)))
    | .sto s k off cs => decide (s = D.stage i) && !D.calls.contains i && (match D.st.m[k]? with
      | some b => decide (off + cs.length ≤ b.cells.length) && decide (D.sl = some (i, k, ⟨b.cells.take off ++ cs ++ b.cells.drop (off + cs.length), b.ty⟩))
      | none => false)
    | .load s n0 _ g a _ r d => !D.calls.contains i && decide (s = D.stage i) && g.blw n0 && a.blw n0 && r.blw (n0.add d) && (n0.add d).le (D.n s) && n0.le (D.n s)
    | .call k _ g _ _ r _ => decide (k = D.stage i) && decide (D.calls[k]? = some i) && g.blw (D.n k) && r.blw (D.start (k + 1)) && (k == 0 || (match D.calls[k - 1]? with | some c => (D.pre i).contains c | none => false))) &&
    (D.stage i == 0 || (match D.calls[D.stage i - 1]? with | some c => (D.pre i).contains c | none => false)) &&
    decide (D.stage i ≤ D.calls.length) && !(D.pre i).contains i && (match r with | .new .. => true | _ => decide (D.al.map (·.1) ≠ some i)) && (match r with | .sto .. => true | _ => decide (D.sl.map (·.1) ≠ some i))
  | _, _ => false
/-- The looks of a stage follow each other. -/
def chainOk (s : Nat) : List Rec → Cnt → Cnt → Bool
  | [], c, e => decide (c = e)
  | .load s' n0 _ _ _ _ _ d :: rs, c, e => if s' = s then decide (n0 = c) && chainOk s rs (c.add d) e else chainOk s rs c e
  | _ :: rs, c, e => chainOk s rs c e
def Dr.ok (nw : Cfg) (P : Program) (ops : Array Oper) (D : Dr) : Bool :=
  decide (D.tab = preT ops.toList []) && (ops.toList.zipIdx.all fun x => (direct x.1).all fun e => decide (e < x.2)) && D.st.t.all VE.still && D.st.blw && D.st.n.le (D.n 0) && decide D.calls.Nodup && D.calls.all (fun c => decide (c < D.L)) && decide (D.recs.length = D.L) &&
  (List.range D.L).all (D.okAt nw P ops) && ((List.range D.calls.length).all fun k => (D.n k).le (D.n (k + 1))) &&
  ((List.range D.W.length).all fun t => match D.wr t with | some j => decide ((ops[j]?).bind (·.dst) = some t) | none => true) &&
  ((List.range (D.calls.length + 1)).all fun s => chainOk s D.recs (D.start s) (D.n s) && (D.start s).le (D.n s)) &&
  (decide (D.L ≤ ops.size) && ((List.range ops.size).all fun i => decide (i < D.L) || (List.range i).all fun j => D.z.contains j || (D.pre i).contains j) && ((List.range D.W.length).all fun t => match D.wr t with | some j => decide (j < D.L) | none => true) &&
  (match D.al with
   | some (i, _) => D.sl.isNone && decide (i < D.L) && D.st.okm && (D.recs.zipIdx.all fun x => x.2 == i || (D.pre x.2).contains i || x.1.ve.okm D.st.m.length)
   | none => true) &&
  (match D.sl with
   | some (i, _) => decide (i < D.L)
   | none => true)) && (decide D.z.Nodup && (D.z.all fun z => decide (z < D.L) && lazyOk ops z) && (D.z.isEmpty || Region.noSelect ops))
/-- What is needed at a stage. -/
def needsF (s : Nat) : List Rec → Fm → Fm
  | [], k => k
  | .val s' _ g c _ :: rs, k => if s' = s then needF g c (needsF s rs k) else needsF s rs k
  | _ :: rs, k => needsF s rs k
/-- The looks of a stage. -/
def loadsF (s : Nat) : List Rec → Fm → Fm
  | [], k => k
  | .load s' _ _ g a n r d :: rs, k => if s' = s then .load g a n r.cells d (loadsF s rs k) else loadsF s rs k
  | _ :: rs, k => loadsF s rs k
def asmF (recs : List Rec) (k : Fm) : List Nat → Nat → Fm
  | [], s => loadsF s recs (needsF s recs k)
  | c :: cs, s => loadsF s recs (needsF s recs (match recs[c]? with
    | some (.call _ _ g f vas r d) => .call g (recs.any Rec.isLoad) f vas r d (asmF recs k cs (s + 1))
    | _ => .ff))
def Dr.rest (D : Dr) (k : Fm) (s : Nat) : Fm := match D.calls.drop s with
  | [] => k
  | c :: cs => match D.recs[c]? with
    | some (.call _ _ g f vas r d) => .call g (D.recs.any Rec.isLoad) f vas r d (asmF D.recs k cs (s + 1))
    | _ => .ff
def Dr.all (D : Dr) : St := D.at (fun _ => true) (D.n D.calls.length)

/-! ### Finding it -/
def isCall (o : Oper) : Bool := match o.op with
  | .call { callee := .value _, .. } => true
  | _ => false
def cleanSt (st : St) : St := { st with t := st.t.map fun v => if v.still then v else .dead }
def writersF (ops : List Oper) (n : Nat) : List (Option Nat) :=
  ops.zipIdx.foldl (fun W x => match x.1.dst with | some d => W.set d (some x.2) | none => W) (List.replicate n none)
/-- A stage's operations that are no calls. -/
def stageF (nw : Cfg) (P : Program) (ops : Array Oper) (s : Nat) : List (Oper × Nat) → Dr → Cnt → Dr × Cnt
  | [], D, cur => (D, cur)
  | (o, i) :: os, D, cur => match recE nw P ops o s cur (D.sees i cur) with
    | some (.load s n0 gs g a n r d) => stageF nw P ops s os { D with recs := D.recs.set i (.load s n0 gs g a n r d), cs := D.cs.set i cur } (cur.add d)
    | some (.new k cs ty) => stageF nw P ops s os { D with recs := D.recs.set i (.new k cs ty), al := some (i, ⟨cs, ty⟩) } cur
    | some (.sto s k off cs) => match D.sl, D.st.m[k]? with
      | none, some b => stageF nw P ops s os { D with recs := D.recs.set i (.sto s k off cs), sl := some (i, k, ⟨b.cells.take off ++ cs ++ b.cells.drop (off + cs.length), b.ty⟩) } cur
      | _, _ => (D, cur)
    | some r => stageF nw P ops s os { D with recs := D.recs.set i r } cur
    | none => (D, cur)
def recsF (nw : Cfg) (P : Program) (ops : Array Oper) (low : List Oper) : List Nat → Nat → Dr → Cnt → Dr
  | [], s, D, cur =>
    let (D, cur) := stageF nw P ops s (low.zipIdx.filter fun x => D.stage x.2 == s && !isCall x.1) D cur
    { D with ns := D.ns ++ [cur] }
  | c :: cs, s, D, cur =>
    let (D, cur) := stageF nw P ops s (low.zipIdx.filter fun x => D.stage x.2 == s && !isCall x.1) D cur
    let D := { D with ns := D.ns ++ [cur] }
    match (ops[c]?).bind fun o => recE nw P ops o s cur (D.sees c cur) with
    | some (.call k gs g f vas r d) => recsF nw P ops low cs (s + 1) { D with recs := D.recs.set c (.call k gs g f vas r d) } (cur.add d)
    | _ => D
/-- How many operations are drawn: each of the others stands behind all ahead of it. -/
def drawnF (tab : List (List Nat)) (n : Nat) (z : List Nat) : Nat :=
  n - ((List.range n).reverse.takeWhile fun i => !z.contains i && (List.range i).all fun j => z.contains j || (tab.getD i []).contains j).length
def findD (nw : Cfg) (P : Program) (ops : Array Oper) (st : St) (z : List Nat) : Dr :=
  let st := cleanSt st
  let tab := preT ops.toList []
  let L := drawnF tab ops.size z
  let low := ops.toList.take L
  let calls := (low.zipIdx.filter fun x => isCall x.1).map (·.2)
  recsF nw P ops low calls 0 ⟨st, writersF low st.t.length, tab, List.replicate L (.tup []), List.replicate L .zero, [], calls, L, none, none, z⟩ st.n
def Dr.fine (nw : Cfg) (P : Program) (ops : Array Oper) (st : St) (D : Dr) : Bool := D.ok nw P ops && decide (D.st.t = (cleanSt st).t) && decide (D.st.m = st.m) && decide (D.st.n = st.n)
def drawF (nw : Cfg) (P : Program) (ops : Array Oper) (K : St → Fm) (D : Dr) : Fm := asmF D.recs (genOps nw P ops (ops.toList.drop D.L) D.all K) D.calls 0
def genDraw (nw : Cfg) (P : Program) (ops : Array Oper) (st : St) (K : St → Fm) : Fm :=
  if (findD nw P ops st []).fine nw P ops st then drawF nw P ops K (findD nw P ops st [])
  else if (findD nw P ops st (lazies ops)).fine nw P ops st then drawF nw P ops K (findD nw P ops st (lazies ops)) else .ff

/-! ### It is so -/
theorem preT_spec : ∀ (os : List Oper) (acc : List (List Nat)) (j : Nat), acc.length ≤ j → ∀ x ∈ (preT os acc).getD j [], ∃ o, os[j - acc.length]? = some o ∧ (x ∈ direct o ∨ ∃ e ∈ direct o, x ∈ (preT os acc).getD e []) := by
  have hpre : ∀ (os : List Oper) (acc : List (List Nat)), acc <+: preT os acc := by
    intro os
    induction os with
    | nil => intro acc; exact List.prefix_refl _
    | cons o os ih => intro acc; exact (List.prefix_append _ _).trans (ih _)
  intro os
  induction os with
  | nil => intro acc j hj x hx; simp only [preT] at hx; rw [List.getD_eq_getElem?_getD, List.getElem?_eq_none hj] at hx; cases hx
  | cons o os ih =>
    intro acc j hj x hx
    by_cases he : j = acc.length
    · subst he
      refine ⟨o, by simp, ?_⟩
      have hp := hpre os (acc ++ [(direct o ++ (direct o).flatMap fun e => acc.getD e []).eraseDups])
      have hx' : x ∈ (direct o ++ (direct o).flatMap fun e => acc.getD e []).eraseDups := by
        rw [preT, ← prefix_getD hp (by simp)] at hx
        simpa using hx
      rw [List.mem_eraseDups, List.mem_append, List.mem_flatMap] at hx'
      rcases hx' with h | ⟨e, he, hx'⟩
      · exact .inl h
      · refine .inr ⟨e, he, ?_⟩
        by_cases hlt : e < acc.length
        · rw [← prefix_getD (hpre (o :: os) acc) hlt]; exact hx'
        · rw [List.getD_eq_getElem?_getD, List.getElem?_eq_none (by omega)] at hx'; cases hx'
    · have := ih (acc ++ [(direct o ++ (direct o).flatMap fun e => acc.getD e []).eraseDups]) j (by simp; omega) x hx
      obtain ⟨p, hp, hh⟩ := this
      refine ⟨p, ?_, hh⟩
      rw [show j - acc.length = (j - (acc ++ [(direct o ++ (direct o).flatMap fun e => acc.getD e []).eraseDups]).length) + 1 by simp; omega, List.getElem?_cons_succ]
      exact hp

section
variable {P : Program} {E : Env} {B : Nat} {h0 : Hp} {w0 : World} {ρ : Nat → Nat} {st : St} {C : Ctx} {a : Act} {w : World}
theorem needsF_says {s : Nat} : ∀ {rs : List Rec} {k : Fm}, (needsF s rs k).says E C → k.says E C ∧ ∀ gs g c v, Rec.val s gs g c v ∈ rs → g.den C = true → c.den C = true := by
  intro rs
  induction rs with
  | nil => intro k h; exact ⟨h, fun _ _ _ _ h => by cases h⟩
  | cons r rs ih =>
    intro k h
    cases r with
    | val s' gs' g' c' v' =>
      rw [needsF] at h
      split at h
      · rename_i hs
        subst hs
        have h' := need_says h
        obtain ⟨h1, h2⟩ := ih h'.2
        refine ⟨h1, fun gs g c v hm => ?_⟩
        rcases List.mem_cons.1 hm with e | hm
        · cases e; exact h'.1
        · exact h2 gs g c v hm
      · rename_i hs
        obtain ⟨h1, h2⟩ := ih h
        refine ⟨h1, fun gs g c v hm => ?_⟩
        rcases List.mem_cons.1 hm with e | hm
        · cases e; exact absurd rfl hs
        · exact h2 gs g c v hm
    | tup l =>
      obtain ⟨h1, h2⟩ := ih h
      refine ⟨h1, fun gs g c v hm => ?_⟩
      rcases List.mem_cons.1 hm with e | hm
      · cases e
      · exact h2 gs g c v hm
    | call =>
      obtain ⟨h1, h2⟩ := ih h
      refine ⟨h1, fun gs g c v hm => ?_⟩
      rcases List.mem_cons.1 hm with e | hm
      · cases e
      · exact h2 gs g c v hm
    | new =>
      obtain ⟨h1, h2⟩ := ih h
      refine ⟨h1, fun gs g c v hm => ?_⟩
      rcases List.mem_cons.1 hm with e | hm
      · cases e
      · exact h2 gs g c v hm
    | load =>
      obtain ⟨h1, h2⟩ := ih h
      refine ⟨h1, fun gs g c v hm => ?_⟩
      rcases List.mem_cons.1 hm with e | hm
      · cases e
      · exact h2 gs g c v hm
    | sto =>
      obtain ⟨h1, h2⟩ := ih h
      refine ⟨h1, fun gs g c v hm => ?_⟩
      rcases List.mem_cons.1 hm with e | hm
      · cases e
      · exact h2 gs g c v hm
/-- Less is known. -/
theorem rep_weaken (R : Rep B h0 w0 ρ st C a w) {t' : List VE} (hl : t'.length = st.t.length) (h : ∀ (i : Nat) v, t'[i]? = some v → v = .dead ∨ st.t[i]? = some v) : Rep B h0 w0 ρ { st with t := t' } C a w := by
  refine ⟨R.defers, by rw [R.size]; exact hl.symm, ?_, R.blocks, R.fresh, R.inj, R.free, R.holds, R.fr, R.base, R.ci, R.cb, R.cs, R.cv, R.cl, R.cp, R.ones⟩
  intro i v hv
  rcases h i v hv with rfl | h
  · trivial
  · exact R.slots i v h
/-- Fewer blocks are known. -/
theorem rep_fewer (R : Rep B h0 w0 ρ st C a w) {m' x : List Blk} (h : st.m = m' ++ x) : Rep B h0 w0 ρ { st with m := m' } C a w := by
  have hl : ∀ k, k < m'.length → k < st.m.length := fun k hk => by rw [h]; simp; omega
  refine ⟨R.defers, R.size, R.slots, fun k b hk => R.blocks k b (by rw [h, List.getElem?_append_left (List.getElem?_eq_some_iff.1 hk).1]; exact hk), fun k hk => R.fresh k (hl k hk), fun k j hk hj => R.inj k j (hl k hk) (hl j hj), fun k hk => R.free k (hl k hk), R.holds, R.fr, R.base, R.ci, R.cb, R.cs, R.cv, R.cl, R.cp, R.ones⟩
end
end Go.Proofs.YtogalfbemmcaaaaDoor
