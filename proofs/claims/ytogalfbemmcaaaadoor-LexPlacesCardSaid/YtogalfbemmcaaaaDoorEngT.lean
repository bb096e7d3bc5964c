/- The engine, part T: loops, code, functions. -/
import Derived.Test.YtogalfbemmcaaaaDoorEngR
namespace Go.Proofs.YtogalfbemmcaaaaDoor
open Go.RowKit

/-! ### Loops -/
structure LAnn where
  /-- The slots that are read behind the loop's head, ahead of being written: they get names. -/
  live : List Nat
  /-- The other slots that are written in the loop. -/
  wr : List Nat
  /-- The slots that hold the addresses of the call's own blocks that are written in the loop. -/
  blks : List Nat
/-- A loop's head: what lives is given a name. -/
def headC (n : Cnt) : CE → CE × Cnt
  | .i k _ => (.i k (.x n.i), { n with i := n.i + 1 })
  | .b _ => (.b (.x n.b), { n with b := n.b + 1 })
  | .s _ => (.s (.x n.s), { n with s := n.s + 1 })
  | .v _ => (.v n.v, { n with v := n.v + 1 })
  | .c (.fn f) => (.c (.fn f), n)
  | .c .nilp => (.pt n.p, { n with p := n.p + 1 })
  | .c _ => (.v n.v, { n with v := n.v + 1 })
  | .own k o => (.own k o, n)
  | .sl _ => (.sl (.x n.l), { n with l := n.l + 1 })
  | .pt _ => (.pt n.p, { n with p := n.p + 1 })
  | .adr _ => (.pt n.p, { n with p := n.p + 1 })
  | .clo _ _ => (.v n.v, { n with v := n.v + 1 })
def headL (n : Cnt) : List CE → List CE × Cnt
  | [] => ([], n)
  | v :: vs => let (x, n1) := headC n v; let (xs, n2) := headL n1 vs; (x :: xs, n2)
def headV (n : Cnt) : VE → VE × Cnt
  | .p (.one c) => let (x, n) := headC n c; (.p (.one x), n)
  | .p (.agg l) => let (x, n) := headL n l; (.p (.agg x), n)
  | _ => (.dead, n)
def VE.kept : VE → VE
  | .p x => .p x
  | _ => .dead
def headT (live wr : List Nat) (n : Cnt) (j : Nat) : List VE → List VE × Cnt
  | [] => ([], n)
  | v :: vs => let (x, n1) := if live.contains j then headV n v else if wr.contains j then (.dead, n) else (v.kept, n); let (xs, n2) := headT live wr n1 (j + 1) vs; (x :: xs, n2)
def headM (blks : List Nat) (n : Cnt) (j : Nat) : List Blk → List Blk × Cnt
  | [] => ([], n)
  | b :: bs => let (x, n1) := if blks.contains j then (let (l, n) := headL n b.cells; (⟨l, b.ty⟩, n)) else (b, n); let (xs, n2) := headM blks n1 (j + 1) bs; (x :: xs, n2)
def headSt (A : LAnn) (st : St) : St :=
  let (t, n1) := headT A.live A.wr st.n 0 st.t
  let (m, n2) := headM (A.blks.filterMap fun s => match st.t[s]? with | some (VE.p (.one (.own k _))) => some k | _ => none) n1 0 st.m
  ⟨t, m, n2⟩
def matchC (n : Cnt) (g : Got) : CE → CE → Option Got
  | .i k (.x j), .i k' e => if n.i + g.i.length = j ∧ k = k' then some { g with i := g.i ++ [e] } else if k = k' ∧ .x j = e ∧ j < n.i then some g else none
  | .b (.x j), .b e => if n.b + g.b.length = j then some { g with b := g.b ++ [e] } else if .x j = e ∧ j < n.b then some g else none
  | .s (.x j), .s e => if n.s + g.s.length = j then some { g with s := g.s ++ [e] } else if .x j = e ∧ j < n.s then some g else none
  | .v j, .v i => if n.v + g.v.length = j then some { g with v := g.v ++ [.v i] } else if j = i ∧ j < n.v then some g else none
  | .v j, .c x => if n.v + g.v.length = j then some { g with v := g.v ++ [.c x] } else none
  | .sl (.x j), .sl e => if n.l + g.l.length = j then some { g with l := g.l ++ [e] } else if .x j = e ∧ j < n.l then some g else none
  | .pt j, .pt i => if n.p + g.p.length = j then some { g with p := g.p ++ [.pt i] } else if j = i ∧ j < n.p then some g else none
  | .pt j, .c .nilp => if n.p + g.p.length = j then some { g with p := g.p ++ [.c .nilp] } else none
  | c, e => if c = e ∧ c.blw n = true then some g else none
def matchL (n : Cnt) (g : Got) : List CE → List CE → Option Got
  | [], [] => some g
  | c :: cs, e :: es => (matchC n g c e).bind fun g => matchL n g cs es
  | _, _ => none
def matchV (n : Cnt) (g : Got) : VE → VE → Option Got
  | .dead, _ => some g
  | .p (.one c), .p (.one e) => matchC n g c e
  | .p (.agg l), .p (.agg m) => matchL n g l m
  | _, _ => none
def matchT (n : Cnt) (g : Got) : List VE → List VE → Option Got
  | [], [] => some g
  | c :: cs, e :: es => (matchV n g c e).bind fun g => matchT n g cs es
  | _, _ => none
def matchM (n : Cnt) (g : Got) : List Blk → List Blk → Option Got
  | [], _ => some g
  | c :: cs, e :: es => if c.ty = e.ty then (matchL n g c.cells e.cells).bind fun g => matchM n g cs es else none
  | _, _ => none
def matchSt (n : Cnt) (hd st : St) : Option Got := (matchT n ⟨[], [], [], [], [], []⟩ hd.t st.t).bind fun g => matchM n g hd.m st.m
/-- The names' values may stand in a context of these counts. -/
def Got.fits (g : Got) (N : Cnt) : Bool := g.v.all fun c => c.plain && c.sto N

/-! ### Code -/
def loops : Code → Nat
  | .seq a b => loops a + loops b
  | .cond _ a b => loops a + loops b
  | .block _ a => loops a
  | .scope a => loops a + 1
  | .loop a => loops a + 1
  | .rangeFunc _ _ a b => loops a + loops b
  | _ => 0
/-- The label on a scope's spine. -/
def hasL : Code → Option Nat
  | .seq a b => match hasL a with
    | some l => some l
    | none => hasL b
  | .label l => some l
  | _ => none
/-- A loop's round is over. -/
def againF (l : Nat) (n0 : Cnt) (hd st' : St) : Fm :=
  match matchSt n0 hd st' with
  | some g => if !(g.fits st'.n && decide (hd.n = n0.add g.cnt)) then .ff else .again l n0 hd.n g
  | none => .ff
/-- A loop begins; F: what its body is turned into. -/
def loopF (l : Nat) (A : LAnn) (st : St) (F : St → Fm) : Fm :=
  match matchSt st.n (headSt A st) st with
  | some g => if !(g.fits st.n && decide ((headSt A st).n = st.n.add g.cnt)) then .ff else .loop l g (F (headSt A st))
  | none => .ff
mutual
def gen (nw : Cfg) (P : Program) (A : Nat → LAnn) : Code → Nat → St → (Exit → St → Fm) → Fm
  | .skip, _, st, K => K .normal st
  | .region _ ops false, _, st, K => genOps nw P ops ops.toList st (K .normal)
  | .region _ ops true, _, st, K => if P.follows .mixedOrders then genDraw nw P ops st (K .normal) else .ff
  | .seq a b, l, st, K => gen nw P A a l st fun e st => match e with
    | .normal => gen nw P A b (l + loops a) st K
    | e => K e st
  | .cond c a b, l, st, K => match opd st [] c with
    | some (.one (.b (.c true))) => gen nw P A a l st K
    | some (.one (.b (.c false))) => gen nw P A b (l + loops a) st K
    | some (.one (.b e)) => .ite e (gen nw P A a l st K) (gen nw P A b (l + loops a) st K)
    | _ => .ff
  | .block id a, l, st, K => gen nw P A a l st fun e st => match e with
    | .exit j => if j = id then K .normal st else K e st
    | e => K e st
  | .loop a, l, st, K => loopF l (A l) st fun hd => gen nw P A a (l + 1) hd fun e st' => match e with
    | .normal => againF l st.n hd st'
    | e => K e st'
  | .scope a, l, st, K => match hasL a with
    | none => .ff
    | some lb => genB nw P A a (l + 1) st fun e st1 => match e with
      | .normal => loopF l (A l) st1 fun hd => genA nw P A a (l + 1) hd fun e st' => match e with
        | .goto j => if j = lb then againF l st1.n hd st' else .ff
        | e => K e st'
      | .goto _ => .ff
      | e => K e st1
  | .goto j, _, st, K => K (.goto j) st
  | .exit id, _, st, K => K (.exit id) st
  | .ret, _, st, K => K .ret st
  | .label _, _, _, _ => .ff
  | .rangeFunc _ _ _ _, _, _, _ => .ff
  | .refuse _, _, _, _ => .ff
/-- Up to the label. -/
def genB (nw : Cfg) (P : Program) (A : Nat → LAnn) : Code → Nat → St → (Exit → St → Fm) → Fm
  | .seq a b, l, st, K => match hasL a with
    | some _ => genB nw P A a l st K
    | none => gen nw P A a l st fun e st => match e with
      | .normal => genB nw P A b (l + loops a) st K
      | e => K e st
  | .label _, _, st, K => K .normal st
  | _, _, _, _ => .ff
/-- From the label on. -/
def genA (nw : Cfg) (P : Program) (A : Nat → LAnn) : Code → Nat → St → (Exit → St → Fm) → Fm
  | .seq a b, l, st, K => match hasL a with
    | some _ => genA nw P A a l st fun e st => match e with
      | .normal => gen nw P A b (l + loops a) st K
      | e => K e st
    | none => genA nw P A b (l + loops a) st K
  | .label _, _, st, K => K .normal st
  | _, _, _, _ => .ff
end

/-- What a function hands back. -/
def resV (P : Program) (st : St) : ResultVar → Option PE
  | .tmp t => opd st [] (.tmp t)
  | .cell a t => (opd st [] (.tmp a)).bind (loadE P st t)
def resVs (P : Program) (st : St) : List ResultVar → Option (List PE)
  | [] => some []
  | r :: rs => match resV P st r, resVs P st rs with
    | some x, some xs => some (x :: xs)
    | _, _ => none
def retE (P : Program) (fn : Func) (st : St) : Fm :=
  match resVs P st fn.results.toList with
  | some [x] => if x.plain then .ret (.p x) else .ff
  | some xs => if xs.all PE.plain then .ret (.tup xs) else .ff
  | none => .ff
/-- A function, handed these. -/
def genFnP (nw : Cfg) (P : Program) (A : Nat → LAnn) (fn : Func) (ps : List PE) (n : Cnt) : Fm :=
  match fn.body with
  | some c =>
    gen nw P A c 0 ⟨ps.map .p ++ List.replicate (fn.ntmps - ps.length) .dead, [], n⟩ fun e st => match e with
      | .normal => retE P fn st
      | .ret => retE P fn st
      | _ => .ff
  | none => .ff
def genFn (nw : Cfg) (P : Program) (A : Nat → LAnn) (fn : Func) : Fm :=
  match freshPs P .zero fn.params.toList with
  | some (ps, n) => genFnP nw P A fn ps n
  | none => .ff
end Go.Proofs.YtogalfbemmcaaaaDoor
