/- The engine, part B: a function's code is turned into a formula. -/
import Derived.Test.YtcfopechdlgioaaGreatDoorEngA
namespace Go.Proofs.YtcfopechdlgioaaGreatDoor
open Go.RowKit

/-- How it is done: nw: sums are to be shown not to go round; esc: the slots of blocks whose addresses get about: they are known memory. -/
structure Cfg where
  nw : Bool
  esc : List Nat

/-! ### Types -/
def isAggB (P : Program) (t : TypeId) : Bool :=
  match P.underlying t with
  | some (.struct _) | some (.array _ _) => true
  | _ => false
def zeroB (P : Program) (t : TypeId) : Option (List Value) := ((P.info? t).bind (·.zero)).map (·.cells.toList)
def sizeB (P : Program) (t : TypeId) : Option Nat := (P.info? t).map (·.size)
/-- A field's offset, its type. -/
def fieldB (P : Program) (t : TypeId) (f : Nat) : Option (Nat × TypeId) :=
  match P.underlying t with
  | some (.struct fs) => (fs[f]?).map fun x => (x.offset, x.type)
  | _ => none

/-! ### Simple expressions -/
def mkNot : BE → BE
  | .c b => .c (!b)
  | .not e => e
  | e => .not e
def mkAnd : BE → BE → BE
  | .c true, e => e
  | .c false, _ => .c false
  | e, .c true => e
  | e, f => .and e f
def mkOr : BE → BE → BE
  | .c false, e => e
  | .c true, _ => .c true
  | e, .c false => e
  | e, f => .or e f
def mkIte (b p q : BE) : BE :=
  if p = q then p else
  match p, q with
  | .c true, .c false => b
  | .c false, .c true => mkNot b
  | .c true, q => mkOr b q
  | p, .c false => mkAnd b p
  | p, q => .ite b p q
def phiC (e : BE) : CE → CE → Option CE
  | .i k p, .i k' q => if k = k' then some (.i k (if p = q then p else .ite e p q)) else none
  | .b p, .b q => some (.b (mkIte e p q))
  | .s p, .s q => some (.s (if p = q then p else .ite e p q))
  | p, q => if p = q then some p else none
def phiL (e : BE) : List CE → List CE → Option (List CE)
  | [], [] => some []
  | p :: ps, q :: qs => match phiC e p q, phiL e ps qs with
    | some x, some xs => some (x :: xs)
    | _, _ => none
  | _, _ => none
def phi (e : BE) : PE → PE → Option PE
  | .one p, .one q => (phiC e p q).map .one
  | .agg p, .agg q => (phiL e p q).map .agg
  | _, _ => none

def AE.ok : AE → BE
  | .pt n _ => .nnp n
  | .el l _ _ _ => .nns l
  | .ix n _ _ _ => .nnp n
def AE.plus : AE → Nat → AE
  | .pt n off, d => .pt n (off + d)
  | .el l i sz off, d => .el l i sz (off + d)
  | .ix n i sz off, d => .ix n i sz (off + d)
/-! ### Operands -/
def kvOf : Value → Option KV
  | .pointer none => some .nilp
  | .map none => some .nilm
  | .nilIface => some .niliface
  | .nilFunc => some .nilf
  | .tuple ⟨[]⟩ => some .undef
  | _ => none
def ceOf : Value → Option CE
  | .int k n => some (.i k (.c n))
  | .bool b => some (.b (.c b))
  | .string s => some (.s (.c (s.data.toList.map UInt8.toNat)))
  | .slice none 0 0 => some (.sl .nil)
  | v => (kvOf v).map .c
def cesOf : List Value → Option (List CE)
  | [] => some []
  | v :: vs => match ceOf v, cesOf vs with
    | some x, some xs => some (x :: xs)
    | _, _ => none
def peOf : Value → Option PE
  | .agg cs => (cesOf cs.toList).map .agg
  | v => (ceOf v).map .one
abbrev Gs := List (Nat × Bool)
def opd (st : St) (gs : Gs) : Operand → Option PE
  | .tmp t => match st.t[t]? with
    | some (.p x) => some x
    | some (.wg hs x) => if hs.all (gs.contains ·) then some x else none
    | _ => none
  | .const v => peOf v
  | .global g => some (.one (.c (.gl g)))
  | .func f => some (.one (.c (.fn f)))
def opds (st : St) (gs : Gs) : List Operand → Option (List PE)
  | [] => some []
  | x :: xs => match opd st gs x, opds st gs xs with
    | some p, some ps => some (p :: ps)
    | _, _ => none

/-- An address. -/
def adrOf : PE → Option AE
  | .one (.adr a) => some a
  | .one (.pt n) => some (.pt n 0)
  | _ => none

/-! ### Guards -/
def slotB (st : St) (gs : Gs) (s : Nat) : Option BE :=
  match opd st gs (.tmp s) with
  | some (.one (.b e)) => some e
  | _ => none
def lit (e : BE) (w : Bool) : BE := if w then e else mkNot e
def gexpr (st : St) (pre : Gs) : Gs → Option BE
  | [] => some (.c true)
  | (s, w) :: r => match slotB st pre s, gexpr st (pre ++ [(s, w)]) r with
    | some e, some g => some (mkAnd (lit e w) g)
    | _, _ => none
/-- The guard of an operation: which slots hold which truth values. -/
def guardOf (st : St) (ops : Array Oper) (o : Oper) : Option Gs :=
  match o.guard with
  | none => some []
  | some (j, want) => match (ops[j]?).bind (·.dst) with
    | some s => match st.t[s]? with
      | some (.p (.one (.b _))) => some [(s, want)]
      | some (.wg hs (.one (.b _))) => some (hs ++ [(s, want)])
      | _ => none
    | none => none

/-! ### Operations that yield a value -/
def i64rng (e : IE) : BE := .and (.le (.c (-9223372036854775808)) e) (.le e (.c 9223372036854775807))
/-- A sum; where numbers are not to go round, it is to be shown that they don't. -/
def arith (nw : Cfg) (k : IntKind) (e : IE) : BE × PE :=
  if nw.nw && k == .i64 then (i64rng e, .one (.i k e)) else (.c true, .one (.i k (.wr k e)))
def strOp (op : BinOp) (a b : SE) : Option (BE × PE) :=
  match op with
  | .add => some (.le (.add (.len a) (.len b)) (.c 9223372036854775807), .one (.s (.app a b)))
  | .eql => some (.c true, .one (.b (.eqS a b)))
  | .neq => some (.c true, .one (.b (.not (.eqS a b))))
  | .lss => some (.c true, .one (.b (.ltS a b)))
  | .leq => some (.c true, .one (.b (.or (.ltS a b) (.eqS a b))))
  | .gtr => some (.c true, .one (.b (.not (.or (.ltS a b) (.eqS a b)))))
  | .geq => some (.c true, .one (.b (.not (.ltS a b))))
  | _ => none
def intOp (nw : Cfg) (op : BinOp) (k : IntKind) (a b : IE) : Option (BE × PE) :=
  match op with
  | .add => some (arith nw k (.add a b))
  | .sub => some (arith nw k (.sub a b))
  | .mul => some (arith nw k (.mul a b))
  | .quo => some (.not (.eqI b (.c 0)), .one (.i k (.wr k (.quo a b))))
  | .rem => some (.not (.eqI b (.c 0)), .one (.i k (.rem a b)))
  | .and => some (.c true, .one (.i k (.bits .and k a b)))
  | .or => some (.c true, .one (.i k (.bits .or k a b)))
  | .xor => some (.c true, .one (.i k (.bits .xor k a b)))
  | .andNot => some (.c true, .one (.i k (.bits .andNot k a b)))
  | .eql => some (.c true, .one (.b (.eqI a b)))
  | .neq => some (.c true, .one (.b (.not (.eqI a b))))
  | .lss => some (.c true, .one (.b (.lt a b)))
  | .leq => some (.c true, .one (.b (.le a b)))
  | .gtr => some (.c true, .one (.b (.lt b a)))
  | .geq => some (.c true, .one (.b (.le b a)))
  | _ => none
/-- Against nil. -/
def nilOp (op : BinOp) (e : BE) : Option (BE × PE) :=
  match op with
  | .eql => some (.c true, .one (.b (mkNot e)))
  | .neq => some (.c true, .one (.b e))
  | _ => none
/-- Cells of one type, compared. -/
def eqC (P : Program) (t : TypeId) : CE → CE → Option BE
  | .i k a, .i k' b => match P.underlying t with
    | some (.int _) => if k = k' then some (.eqI a b) else none
    | _ => none
  | .b a, .b b => match P.underlying t with
    | some .bool => some (.eqB a b)
    | _ => none
  | .s a, .s b => match P.underlying t with
    | some .string => some (.eqS a b)
    | _ => none
  | _, _ => none
def eqFs (P : Program) (xs ys : List CE) : List Field → Option BE
  | [] => some (.c true)
  | f :: fs => if f.name = "_" ∨ isAggB P f.type = true then none else match xs[f.offset]?, ys[f.offset]? with
    | some x, some y => match eqC P f.type x y, eqFs P xs ys fs with
      | some e, some r => some (mkAnd e r)
      | _, _ => none
    | _, _ => none
def eqAgg (P : Program) (t : TypeId) (xs ys : List CE) : Option BE :=
  if P.stoodInHeld t = true ∨ P.eqGuardType P.depth t = true then none else
  match P.underlying t with
  | some (.struct fs) => eqFs P xs ys fs.toList
  | _ => none
def binE (nw : Cfg) (P : Program) (op : BinOp) (t : TypeId) : PE → PE → Option (BE × PE)
  | .one (.i k a), .one (.i k' b) =>
    match op with
    | .shl => some (.le (.c 0) b, .one (.i k (.sh .shl k a b)))
    | .shr => some (.le (.c 0) b, .one (.i k (.sh .shr k a b)))
    | op => if k = k' then intOp nw op k a b else none
  | .one (.s a), .one (.s b) => strOp op a b
  | .one (.b a), .one (.b b) =>
    match P.underlying t, op with
    | some .bool, .eql => some (.c true, .one (.b (.eqB a b)))
    | some .bool, .neq => some (.c true, .one (.b (.not (.eqB a b))))
    | _, _ => none
  | .one (.sl l), .one (.sl .nil) =>
    match P.underlying t with
    | some (.slice _) => nilOp op (.nns l)
    | _ => none
  | .one (.pt n), .one (.c .nilp) =>
    match P.underlying t with
    | some (.pointer _) => nilOp op (.nnp n)
    | _ => none
  | .one (.own _ _), .one (.c .nilp) =>
    match P.underlying t with
    | some (.pointer _) => nilOp op (.c true)
    | _ => none
  | .agg xs, .agg ys =>
    match op with
    | .eql => (eqAgg P t xs ys).map fun e => (.c true, .one (.b e))
    | .neq => (eqAgg P t xs ys).map fun e => (.c true, .one (.b (mkNot e)))
    | _ => none
  | _, _ => none
def unE (nw : Cfg) (op : UnOp) : PE → Option (BE × PE)
  | .one (.b a) => match op with
    | .not => some (.c true, .one (.b (mkNot a)))
    | _ => none
  | .one (.i k a) => match op with
    | .neg => some (arith nw k (.sub (.c 0) a))
    | .xor => some (.c true, .one (.i k (.bits .xor k (.c (if k.signed then -1 else k.max)) a)))
    | _ => none
  | _ => none
def convE (P : Program) (src dst : TypeId) : PE → Option (BE × PE)
  | .one (.i _ a) => match P.underlying src, P.underlying dst with
    | some (.int _), some (.int k) => some (.c true, .one (.i k (.wr k a)))
    | _, _ => none
  | .one (.s a) => match P.underlying src, P.underlying dst with
    | some .string, some .string => some (.c true, .one (.s a))
    | _, _ => none
  | _ => none
/-- Numbers of one kind. -/
def intsE (k : IntKind) : List CE → Option (List IE)
  | [] => some []
  | .i k' e :: cs => if k' = k then (intsE k cs).map (e :: ·) else none
  | _ :: _ => none
/-- One of them. -/
def nthE (i : IE) : List IE → Int → IE
  | [], _ => .c 0
  | x :: xs, n => if xs.isEmpty then x else .ite (.eqI i (.c n)) x (nthE i xs (n + 1))
def indexE (P : Program) (t : TypeId) : PE → PE → Option (BE × PE)
  | .one (.s a), .one (.i _ i) => match P.underlying t with
    | some .string => some (.and (.le (.c 0) i) (.lt i (.len a)), .one (.i .u8 (.at a i)))
    | _ => none
  | .agg [.s x, .s y], .one (.i _ i) => match P.underlying t with
    | some (.array n e) => match P.underlying e, sizeB P e with
      | some _, some 1 => if n = 2 ∧ isAggB P e = false then some (.and (.le (.c 0) i) (.lt i (.c 2)), .one (.s (.ite (.eqI i (.c 0)) x y))) else none
      | _, _ => none
    | _ => none
  | .agg (.i k x :: xs), .one (.i _ i) => match P.underlying t with
    | some (.array n e) => match P.underlying e, sizeB P e, intsE k xs with
      | some _, some 1, some ys => if n = xs.length + 1 ∧ isAggB P e = false then some (.and (.le (.c 0) i) (.lt i (.c n)), .one (.i k (nthE i (x :: ys) 0))) else none
      | _, _, _ => none
    | _ => none
  | _, _ => none
def loE : Option PE → Option IE
  | none => some (.c 0)
  | some (.one (.i _ l)) => some l
  | _ => none
def hiE (l : LE) : Option PE → Option (BE × IE)
  | none => some (.le (.cnt l) (.cap l), .cnt l)
  | some (.one (.i _ h)) => some (.and (.le (.c 0) h) (.le h (.cap l)), h)
  | _ => none
def sliceE (P : Program) (t : TypeId) (x : PE) (lo hi : Option PE) : Option (BE × PE) :=
  match x, P.underlying t with
  | .one (.sl l), some (.slice e) => match loE lo, hiE l hi, sizeB P e with
    | some a, some (c, b), some n => some (.and c (.and (.le (.c 0) a) (.le a b)), .one (.sl (.sub l a b n)))
    | _, _, _ => none
  | .one (.s a), some .string =>
    match lo, hi with
    | none, none => some (.c true, .one (.s a))
    | some (.one (.i _ l)), none => some (.and (.le (.c 0) l) (.le l (.len a)), .one (.s (.sub a l (.len a))))
    | none, some (.one (.i _ h)) => some (.and (.le (.c 0) h) (.le h (.len a)), .one (.s (.sub a (.c 0) h)))
    | some (.one (.i _ l)), some (.one (.i _ h)) => some (.and (.and (.le (.c 0) h) (.le h (.len a))) (.and (.le (.c 0) l) (.le l h)), .one (.s (.sub a l h)))
    | _, _ => none
  | _, _ => none
def partE (P : Program) (t : TypeId) (l : List CE) (off : Nat) : Option PE :=
  match P.underlying t, sizeB P t with
  | some _, some n => if isAggB P t then some (.agg ((l.drop off).take n)) else (l[off]?).map .one
  | _, _ => none
def loadE (P : Program) (st : St) (t : TypeId) : PE → Option PE
  | .one (.own k o) => match st.m[k]?, P.underlying t, sizeB P t with
    | some b, some _, some n =>
      if isAggB P t then (if o + n ≤ b.cells.length then some (.agg ((b.cells.drop o).take n)) else none)
      else (b.cells[o]?).map .one
    | _, _, _ => none
  | _ => none
def fillE (place : Nat → Option (Nat × Nat)) (cells : List CE) : List (Nat × PE) → Option (List CE)
  | [] => some cells
  | (i, v) :: rest => match place i with
    | some (off, size) => if v.cells.length = size ∧ off + size ≤ cells.length then fillE place (v.cells.zipIdx.foldl (fun cs (c, j) => cs.set (off + j) c) cells) rest else none
    | none => none
def placeB (P : Program) (t : TypeId) (f : Nat) : Option (Nat × Nat) := (fieldB P t f).bind fun (o, u) => (sizeB P u).map fun n => (o, n)
def partsE (st : St) (gs : Gs) : List (Nat × Operand) → Option (List (Nat × PE))
  | [] => some []
  | (i, x) :: xs => match opd st gs x, partsE st gs xs with
    | some p, some ps => some ((i, p) :: ps)
    | _, _ => none
def buildE (P : Program) (t : TypeId) (parts : List (Nat × PE)) : Option PE :=
  match P.underlying t, (zeroB P t).bind cesOf with
  | some (.struct fs), some z => if fs.toList.all fun f => (sizeB P f.type).isSome then (fillE (placeB P t) z parts).map .agg else none
  | some (.array _ e), some z => match sizeB P e with
    | some n => (fillE (fun i => some (i * n, n)) z parts).map .agg
    | none => none
  | _, _ => none

def optd (st : St) (gs : Gs) : Option Operand → Option (Option PE)
  | none => some none
  | some x => (opd st gs x).map some
/-- Captured variables: pointers. -/
def ptsE (st : St) (gs : Gs) : List Operand → Option (List Nat)
  | [] => some []
  | x :: xs => match opd st gs x, ptsE st gs xs with
    | some (.one (.pt n)), some l => some (n :: l)
    | _, _ => none
/-- What is needed, and the value. -/
def pureE (nw : Cfg) (P : Program) (st : St) (gs : Gs) (op : Op) : Option (BE × PE) :=
  match op with
  | .move x | .assign x => (opd st gs x).map fun v => (.c true, v)
  | .pick c a b => match c with
    | .tmp s => match slotB st gs s, opd st (gs ++ [(s, true)]) a, opd st (gs ++ [(s, false)]) b with
      | some e, some x, some y => (phi e x y).map fun v => (.c true, v)
      | _, _, _ => none
    | _ => none
  | .fieldAddr t x f => match opd st gs x, fieldB P t f with
    | some (.one (.own k o)), some (off, u) => if sizeB P u = some 0 ∨ sizeB P u = none then none else some (.c true, .one (.own k (o + off)))
    | some (.one (.adr a)), some (off, u) => if sizeB P u = some 0 ∨ sizeB P u = none then none else some (a.ok, .one (.adr (a.plus off)))
    | _, _ => none
  | .field t x f => match opd st gs x, fieldB P t f with
    | some (.agg l), some (off, u) => (partE P u l off).map fun v => (.c true, v)
    | _, _ => none
  | .nilCheck x => match opd st gs x with
    | some (.one (.own k o)) => some (.c true, .one (.own k o))
    | some (.one (.adr a)) => some (.c true, .one (.adr a))
    | some (.one (.pt n)) => some (.nnp n, .one (.adr (.pt n 0)))
    | some (.one (.c (.fn f))) => some (.c true, .one (.c (.fn f)))
    | _ => none
  | .indexAddr t x i => match opd st gs x, opd st gs i, P.underlying t with
    | some (.one (.sl l)), some (.one (.i _ i)), some (.slice e) => match sizeB P e with
      | some n => some (.and (.and (.le (.c 0) i) (.lt i (.cnt l))) (.nns l), .one (.adr (.el l i n 0)))
      | none => none
    | some (.one (.own k o)), some (.one (.i _ (.c i))), some (.array len e) => match sizeB P e with
      | some n => if 0 ≤ i ∧ i < len then some (.c true, .one (.own k (o + i.toNat * n))) else none
      | none => none
    | some (.one (.pt n)), some (.one (.i _ i)), some (.array len e) => match sizeB P e with
      | some z => some (.and (.and (.le (.c 0) i) (.lt i (.c len))) (.nnp n), .one (.adr (.ix n i z 0)))
      | none => none
    | _, _, _ => none
  | .binOp op t x y _ => match opd st gs x, opd st gs y with
    | some a, some b => binE nw P op t a b
    | _, _ => none
  | .unOp op _ x => (opd st gs x).bind (unE nw op)
  | .convert s d x => (opd st gs x).bind (convE P s d)
  | .index t x i => match opd st gs x, opd st gs i with
    | some a, some b => indexE P t a b
    | _, _ => none
  | .slice t x lo hi none => match opd st gs x, optd st gs lo, optd st gs hi with
    | some a, some l, some h => sliceE P t a l h
    | _, _, _ => none
  | .extract (.tmp s) ix => match st.t[s]? with
    | some (.tup l) => (l[ix]?).map fun v => (.c true, v)
    | _ => none
  | .load t x => (opd st gs x).bind fun p => (loadE P st t p).map fun v => (.c true, v)
  | .build t parts => (partsE st gs parts.toList).bind fun ps => (buildE P t ps).map fun v => (.c true, v)
  | .call { callee := .builtin .len, args, argTypes } => match args.toList, argTypes.toList with
    | [x], [t] => match opd st gs x, P.underlying t with
      | some (.one (.s a)), some .string => some (.c true, .one (.i .i64 (.len a)))
      | some (.one (.sl l)), some (.slice _) => some (.c true, .one (.i .i64 (.cnt l)))
      | _, _ => none
    | _, _ => none
  | .call { callee := .builtin .min, args, .. } => match args.toList with
    | [x, y] => match opd st gs x, opd st gs y with
      | some (.one (.i k a)), some (.one (.i k' b)) => if k = k' then some (.c true, .one (.i k (.ite (.lt b a) b a))) else none
      | _, _ => none
    | _ => none
  | .call { callee := .builtin .max, args, .. } => match args.toList with
    | [x, y] => match opd st gs x, opd st gs y with
      | some (.one (.i k a)), some (.one (.i k' b)) => if k = k' then some (.c true, .one (.i k (.ite (.lt a b) b a))) else none
      | _, _ => none
    | _ => none
  | .makeFunc (.func f) first captured => if first.size = 0 then (ptsE st gs captured.toList).map fun l => (.c true, .one (.clo f l)) else none
  | _ => none

/-! ### States -/
def VE.names (s : Nat) : VE → Bool
  | .wg gs _ => gs.any fun g => g.1 == s
  | _ => false
def St.put (st : St) (d : Nat) (v : VE) : St := { st with t := (st.t.map fun u => if u.names d then .dead else u).set d (if v.names d then .dead else v) }
def St.putO (st : St) (d : Option Nat) (v : VE) : St :=
  match d with
  | some d => st.put d v
  | none => st
def CE.okm (m : Nat) : CE → Bool
  | .own k _ => decide (k < m)
  | .osl k _ => decide (k < m)
  | _ => true
def VE.okm (m : Nat) : VE → Bool
  | .dead => true
  | .p x => x.cells.all (CE.okm m)
  | .tup l => l.all fun x => x.cells.all (CE.okm m)
  | .wg _ x => x.cells.all (CE.okm m)
def St.okm (st : St) : Bool := st.t.all (VE.okm st.m.length) && st.m.all fun b => b.cells.all (CE.okm st.m.length)
def CE.isAdr : CE → Bool
  | .adr _ => true
  | _ => false
def CE.sto (N : Cnt) (c : CE) : Bool := c.blw N && decide (c ≠ .c .undef) && !c.isAdr
def wrapG (gs : Gs) (v : PE) : VE := if gs = [] then .p v else .wg gs v

/-! ### Fresh variables -/
def freshC (n : Cnt) : Value → CE × Cnt
  | .int k _ => (.i k (.x n.i), { n with i := n.i + 1 })
  | .bool _ => (.b (.x n.b), { n with b := n.b + 1 })
  | .string _ => (.s (.x n.s), { n with s := n.s + 1 })
  | .slice none 0 0 => (.sl (.x n.l), { n with l := n.l + 1 })
  | .pointer none => (.pt n.p, { n with p := n.p + 1 })
  | _ => (.v n.v, { n with v := n.v + 1 })
def freshL (n : Cnt) : List Value → List CE × Cnt
  | [] => ([], n)
  | v :: vs => let (x, n1) := freshC n v; let (xs, n2) := freshL n1 vs; (x :: xs, n2)
def freshP (P : Program) (n : Cnt) (t : TypeId) : Option (PE × Cnt) :=
  match zeroB P t with
  | some z => if isAggB P t then (let (l, n) := freshL n z; some (.agg l, n)) else match z with
    | [v] => let (x, n) := freshC n v; some (.one x, n)
    | _ => none
  | none => none
def freshPs (P : Program) (n : Cnt) : List TypeId → Option (List PE × Cnt)
  | [] => some ([], n)
  | t :: ts => match freshP P n t with
    | some (x, n1) => match freshPs P n1 ts with
      | some (xs, n2) => some (x :: xs, n2)
      | none => none
    | none => none
/-- What a callee hands back. -/
def freshR (P : Program) (n : Cnt) (ts : List TypeId) : Option (VE × Cnt) :=
  match freshPs P n ts with
  | some ([x], n) => some (.p x, n)
  | some (xs, n) => some (.tup xs, n)
  | none => none
def Cnt.sub (a b : Cnt) : Cnt := ⟨a.i - b.i, a.b - b.b, a.s - b.s, a.v - b.v, a.l - b.l, a.p - b.p⟩
def Cnt.add (a b : Cnt) : Cnt := ⟨a.i + b.i, a.b + b.b, a.s + b.s, a.v + b.v, a.l + b.l, a.p + b.p⟩
def Cnt.zero : Cnt := ⟨0, 0, 0, 0, 0, 0⟩

def PE.aggOk (P : Program) (t : TypeId) : PE → Bool
  | .one _ => !isAggB P t
  | .agg _ => isAggB P t

/-! ### Regions that keep their order -/
def hasBody (P : Program) (f : FuncId) : Bool :=
  match P.funcs[f]? with
  | some fn => fn.name != "runtime.NumGoroutine" && fn.body.isSome
  | none => false
/-- No function: a call of whatever function a value is; the value is handed in ahead of the arguments. -/
def dynId : FuncId := 1000001
def bodyOk (P : Program) (f : FuncId) : Bool := decide (f = dynId) || hasBody P f
def resTypes (P : Program) (f : FuncId) : List TypeId :=
  match P.funcs[f]? with
  | some fn => fn.resultTypes.toList
  | none => []
def resT (P : Program) (t : TypeId) (f : FuncId) : List TypeId := if f = dynId then [t] else resTypes P f
def needF (g c : BE) (k : Fm) : Fm :=
  match c with
  | .c true => k
  | c => .need g c k
/-- Several results, copied. -/
def tupMove (st : St) : Op → Option (List PE)
  | .move (.tmp s) => match st.t[s]? with
    | some (.tup l) => some l
    | _ => none
  | _ => none
/-- A block of the call's own is made? -/
def newOp (P : Program) (st : St) (gs : Gs) : Op → Option (List CE × TypeId)
  | .alloc t => ((zeroB P t).bind cesOf).map fun cs => (cs, t)
  | .box t x => (opd st gs x).map fun p => (p.cells, t)
  | _ => none
/-- A slice that is written out: its block's cells, and its length. -/
def sliceOp (P : Program) (st : St) (gs : Gs) : Op → Option (List CE × TypeId × Nat)
  | .buildSlice t len parts => match partsE st gs parts.toList, P.underlying t with
    | some ps, some (.slice e) => match sizeB P e, (zeroB P e).bind cesOf with
      | some n, some z =>
        if len * n ≤ 2 ^ 24 ∧ z.length = n ∧ n ≠ 0 then
          match fillE (fun i => some (i * n, n)) ((List.range (len * n)).map fun i => (z[i % n]?).getD (.c .undef)) ps with
          | some cs => some (cs, e, len)
          | none => none
        else none
      | _, _ => none
    | _, _ => none
  | _ => none
def newAny (P : Program) (st : St) (gs : Gs) (op : Op) : Option (List CE × TypeId × Option Nat) :=
  match newOp P st gs op with
  | some (cs, t) => some (cs, t, none)
  | none => (sliceOp P st gs op).map fun x => (x.1, x.2.1, some x.2.2)
def newVal (k : Nat) : Option Nat → CE
  | none => .own k 0
  | some n => .osl k n
/-- The function that a call enters, and what it is handed: what a closure has caught stands behind. -/
def calleeE (st : St) (gs : Gs) (v : Operand) (args : List Operand) : Option (FuncId × List PE) :=
  match opd st gs v, opds st gs args with
  | some (.one (.c (.fn f))), some vas => if dynId ≤ f then none else some (f, vas)
  | some (.one (.clo f l)), some vas => if dynId ≤ f then none else some (f, vas ++ l.map fun n => .one (.pt n))
  | some (.one (.v n)), some vas => some (dynId, .one (.v n) :: vas)
  | _, _ => none
/-! ### Maps with strings for keys: their operations are calls, as it were -/
/-- What a map of this type is asked, and told: 0 a look, 1 a look with its truth value, 2 a store, 3 a deletion; 4: a new one. -/
def mapF (t k : Nat) : Nat := 2000000 + (t * 8 + k)
/-- The elements' type. -/
def strMap (P : Program) (t : TypeId) : Option TypeId := match P.underlying t with
  | some (.map k e) => match P.underlying k with
    | some .string => some e
    | _ => none
  | _ => none
def delOp : Op → Option (TypeId × Operand × Operand)
  | .call { callee := .builtin .delete, args, argTypes } => match args.toList, argTypes.toList with
    | [m, k], t :: _ => some (t, m, k)
    | _, _ => none
  | _ => none
def mapOp (P : Program) (st : St) (gs : Gs) (op : Op) : Option (FuncId × List PE × VE × Cnt) :=
  match op with
  | .lookup t m k ok => match strMap P t, opd st gs m, opd st gs k with
    | some e, some x, some (.one (.s s)) => (freshP P st.n e).map fun r =>
      if ok then (mapF t 1, [x, .one (.s s)], .tup [r.1, .one (.b (.x r.2.b))], { r.2 with b := r.2.b + 1 }) else (mapF t 0, [x, .one (.s s)], .p r.1, r.2)
    | _, _, _ => none
  | .mapUpdate t m k v => match strMap P t, opd st gs m, opd st gs k, opd st gs v with
    | some _, some x, some (.one (.s s)), some y => some (mapF t 2, [x, .one (.s s), y], .p (.one (.c .undef)), st.n)
    | _, _, _, _ => none
  | .makeMap t none => (strMap P t).map fun _ => (mapF t 4, [], .p (.one (.v st.n.v)), { st.n with v := st.n.v + 1 })
  | op => match delOp op with
    | some (t, m, k) => match strMap P t, opd st gs m, opd st gs k with
      | some _, some x, some (.one (.s s)) => some (mapF t 3, [x, .one (.s s)], .tup [], st.n)
      | _, _, _ => none
    | none => none
/-- A call, or what is as good as one: what is called, what it is handed, what it hands back. -/
def opCall (P : Program) (st : St) (gs : Gs) (o : Oper) : Option (FuncId × List PE × VE × Cnt) :=
  match mapOp P st gs o.op with
  | some x => some x
  | none => match o.op with
    | .call { callee := .value v, args, .. } => (calleeE st gs v args.toList).bind fun fv => if bodyOk P fv.1 = true then (freshR P st.n (resT P o.type fv.1)).map fun x => (fv.1, fv.2, x.1, x.2) else none
    | _ => none
def appOp : Op → Option (TypeId × Operand × Operand)
  | .call { callee := .builtin .append, args, argTypes } => match args.toList, argTypes.toList with
    | [s, y], [t, t'] => if t' = t then some (t, s, y) else none
    | _, _ => none
  | _ => none
/-- Stores into known memory, and appends, within a drawn region: calls, too. -/
def stOp (P : Program) (st : St) (gs : Gs) (op : Op) : Option (FuncId × List PE × VE × Cnt) :=
  match op with
  | .store t x y => match opd st gs x, opd st gs y, sizeB P t with
    | some a, some p, some n => if (adrOf a).isSome = true ∧ p.cells.all (CE.sto st.n) = true ∧ p.cells.length = n then some (mapF t 5, [a, p], .p (.one (.c .undef)), st.n) else none
    | _, _, _ => none
  | op => match appOp op with
    | some (t, x, y) => match opd st gs x, opd st gs y, P.underlying t with
      | some (.one (.sl s)), some (.one (.sl u)), some (.slice e) => match P.info? e with
        | some i => match i.zero with
          | some z => if z.cells.size = i.size ∧ 0 < i.size ∧ e < 1000000 then
              some (mapF t 6, [.one (.sl s), .one (.sl u), .one (.i .i64 (.c (i.size : Nat))), .one (.i .i64 (.c (i.bytes : Nat))), .one (.i .i64 (.c (e : Nat)))], .p (.one (.sl (.x st.n.l))), { st.n with l := st.n.l + 1 })
            else none
          | none => none
        | none => none
      | some (.one (.sl s)), some (.one (.osl k n)), some (.slice e) => match P.info? e, st.m[k]? with
        | some i, some b => match i.zero with
          | some z => if z.cells.size = i.size ∧ 0 < i.size ∧ e < 1000000 ∧ b.cells.length = n * i.size ∧ b.cells.all CE.plain = true ∧ b.cells.all (CE.sto st.n) = true then
              some (mapF t 7, [.one (.sl s), .one (.i .i64 (.c (n : Nat))), .one (.i .i64 (.c (i.size : Nat))), .one (.i .i64 (.c (i.bytes : Nat))), .one (.i .i64 (.c (e : Nat)))] ++ b.cells.map .one, .p (.one (.sl (.x st.n.l))), { st.n with l := st.n.l + 1 })
            else none
          | none => none
        | _, _ => none
      | _, _, _ => none
    | none => none
/-- Known memory is made. -/
def newK (st : St) (x : Option (List CE × TypeId)) (gs : Gs) (d : Option Nat) (K : St → Fm) : Fm :=
  match x with
  | some (cs, t) => if gs = [] ∧ st.blw = true ∧ cs.all CE.plain = true then .new cs t (K ({ st with n := { st.n with p := st.n.p + 1 } }.putO d (.p (.one (.pt st.n.p))))) else .ff
  | none => .ff
/-- So many new ones. -/
def mksK (P : Program) (st : St) (gs : Gs) (t : TypeId) (x y : Operand) (d : Option Nat) (K : St → Fm) : Fm :=
  match opd st gs x, opd st gs y, P.underlying t with
  | some (.one (.i _ l)), some (.one (.i _ c)), some (.slice e) => match P.info? e, (zeroB P e).bind cesOf with
    | some i, some [z] => if gs = [] ∧ c = l ∧ st.blw = true ∧ i.size = 1 ∧ i.bytes ≤ 1024 ∧ z.plain = true then .mks l z e (K ({ st with n := { st.n with l := st.n.l + 1 } }.putO d (.p (.one (.sl (.x st.n.l)))))) else .ff
    | _, _ => .ff
  | _, _, _ => .ff
/-- The call's last own block becomes known memory: a closure takes its address. -/
def pubV (k n : Nat) (v : VE) : VE := if v = .p (.one (.own k 0)) then .p (.one (.pt n)) else v
def pubK (st : St) (gs : Gs) (f k : Nat) (d : Option Nat) (K : St → Fm) : Fm :=
  match st.m[k]? with
  | some b => if gs = [] ∧ st.blw = true ∧ st.m.length = k + 1 ∧ b.cells.all CE.plain = true ∧ (st.m.all fun b => b.cells.all (CE.okm k)) = true ∧ (st.t.all fun v => decide (v = .p (.one (.own k 0))) || v.okm k) = true then
      .new b.cells b.ty (K ({ t := st.t.map (pubV k st.n.p), m := st.m.dropLast, n := { st.n with p := st.n.p + 1 } : St }.putO d (.p (.one (.clo f [st.n.p])))))
    else .ff
  | none => .ff
/-- The call's last own block becomes known memory: it is a slice's. -/
def pubSV (k len n : Nat) (v : VE) : VE := if v = .p (.one (.osl k len)) then .p (.one (.sl (.x n))) else v
def oslOf : VE → Option (Nat × Nat)
  | .p (.one (.osl k n)) => some (k, n)
  | _ => none
def pubS (st : St) (K : St → Fm) : Fm :=
  match st.t.findSome? oslOf with
  | some (k, len) => match st.m[k]? with
    | some b => if st.blw = true ∧ st.m.length = k + 1 ∧ b.cells.all CE.plain = true ∧ (st.t.all fun v => decide (v = .p (.one (.osl k len))) || v.okm k) = true then
        .mk b.cells b.ty len (K { t := st.t.map (pubSV k len st.n.l), m := st.m.dropLast, n := { st.n with l := st.n.l + 1 } })
      else .ff
    | none => .ff
  | none => K st
def cloOwn (st : St) (gs : Gs) : Op → Option (Nat × Nat)
  | .makeFunc (.func f) first captured => match first.toList, captured.toList with
    | [], [x] => match opd st gs x with
      | some (.one (.own k 0)) => some (f, k)
      | _ => none
    | _, _ => none
  | _ => none
/-- From bytes to a string. -/
def bytesTy (P : Program) (s d : TypeId) : Bool :=
  match P.underlying s, P.underlying d with
  | some (.slice e), some .string => match P.underlying e with
    | some (.int .u8) => true
    | _ => false
  | _, _ => false
def escs (nw : Cfg) (d : Option Nat) : Bool := nw.esc.any fun s => decide (d = some s)
def genOp (nw : Cfg) (P : Program) (ops : Array Oper) (o : Oper) (st : St) (K : St → Fm) : Fm :=
  match guardOf st ops o with
  | none => .ff
  | some gs => match gexpr st [] gs with
    | none => .ff
    | some g =>
      match opCall P st gs o with
      | some (f, vas, r, n) =>
        if !(st.blw && vas.all PE.plain && r.plain && decide (st.n.add (n.sub st.n) = n)) then .ff else
        match r with
        | .p x => .call g false f vas r (n.sub st.n) (K ({ st with n := n }.putO o.dst (wrapG gs x)))
        | r => if gs = [] then .call g false f vas r (n.sub st.n) (K ({ st with n := n }.putO o.dst r)) else .ff
      | none => match o.op with
      | .alloc t => if escs nw o.dst then newK st (newOp P st gs o.op) gs o.dst K else match zeroB P t with
        | some z => match cesOf z with
          | some cs => if gs = [] ∧ st.okm = true ∧ cs.all (CE.okm st.m.length) = true then K ({ st with m := st.m ++ [Blk.mk cs t] }.putO o.dst (.p (.one (.own st.m.length 0)))) else .ff
          | none => .ff
        | none => .ff
      | .box t x => if escs nw o.dst then newK st (newOp P st gs o.op) gs o.dst K else match opd st gs x with
        | some p => if gs = [] ∧ st.okm = true ∧ p.cells.all (CE.okm st.m.length) = true then K ({ st with m := st.m ++ [Blk.mk p.cells t] }.putO o.dst (.p (.one (.own st.m.length 0)))) else .ff
        | none => .ff
      | .buildSlice t len parts => match partsE st gs parts.toList, P.underlying t with
        | some ps, some (.slice e) => match sizeB P e, (zeroB P e).bind cesOf with
          | some n, some z =>
            if gs = [] ∧ st.blw = true ∧ len * n ≤ 2 ^ 24 ∧ z.length = n ∧ n ≠ 0 then
              match fillE (fun i => some (i * n, n)) ((List.range (len * n)).map fun i => (z[i % n]?).getD (.c .undef)) ps with
              | some cs => if cs.all CE.plain && ps.all (fun x => x.2.plain) then .mk cs e len (K ({ st with n := { st.n with l := st.n.l + 1 } }.putO o.dst (.p (.one (.sl (.x st.n.l)))))) else .ff
              | none => .ff
            else .ff
          | _, _ => .ff
        | _, _ => .ff
      | .call { callee := .builtin .append, args, argTypes } => match opds st gs args.toList, argTypes.toList with
        | some [.one (.sl s), .one (.sl y)], [t, t'] => match P.underlying t, zeroB P t with
          | some (.slice e), some _ => match P.info? e with
            | some i => match i.zero with
              | some z => if gs = [] ∧ t' = t ∧ st.blw = true ∧ z.cells.size = i.size ∧ 0 < i.size ∧ e < 1000000 then
                  .app s y i.size i.bytes e (K ({ st with n := { st.n with l := st.n.l + 1 } }.putO o.dst (.p (.one (.sl (.x st.n.l))))))
                else .ff
              | none => .ff
            | none => .ff
          | _, _ => .ff
        | some [.one (.sl s), .one (.s y)], [t, t'] => match P.underlying t, P.underlying t' with
          | some (.slice e), some .string => match P.info? e with
            | some i => match i.zero with
              | some (.int .u8 z) => if gs = [] ∧ z = 0 ∧ st.blw = true ∧ i.size = 1 ∧ i.bytes = 1 ∧ e < 1000000 then
                  .aps s y e (K ({ st with n := { st.n with l := st.n.l + 1 } }.putO o.dst (.p (.one (.sl (.x st.n.l))))))
                else .ff
              | _ => .ff
            | none => .ff
          | _, _ => .ff
        | _, _ => .ff
      | .convert s d x => match opd st gs x, bytesTy P s d with
        | some (.one (.sl l)), true => if gs = [] ∧ st.blw = true then .str l (K ({ st with n := { st.n with s := st.n.s + 1 } }.putO o.dst (.p (.one (.s (.x st.n.s)))))) else .ff
        | _, _ => match pureE nw P st gs o.op with
          | some (c, v) => needF g c (K (st.putO o.dst (wrapG gs v)))
          | none => .ff
      | .load t x => match (opd st gs x).bind adrOf with
        | some a => match freshP P st.n t, sizeB P t, P.underlying t with
          | some (r, n), some sz, some _ =>
            if st.blw && r.plain && decide (st.n.add (n.sub st.n) = n) && decide (r.cells.length = sz) && r.aggOk P t then
              .load g a sz r.cells (n.sub st.n) (K ({ st with n := n }.putO o.dst (wrapG gs r)))
            else .ff
          | _, _, _ => .ff
        | none => match opd st gs x with
          | some p => match loadE P st t p with
            | some v => K (st.putO o.dst (wrapG gs v))
            | none => .ff
          | none => .ff
      | .store t a x => match (opd st gs a).bind adrOf, opd st gs x, sizeB P t with
        | some a, some p, some n => if gs = [] ∧ st.blw = true ∧ p.plain = true ∧ p.cells.all (CE.sto st.n) = true ∧ p.cells.length = n then .store a p.cells (K (st.putO o.dst .dead)) else .ff
        | _, _, _ => match opd st gs a, opd st gs x, sizeB P t with
          | some (.one (.own k off)), some p, some n => match st.m[k]? with
            | some b => if gs = [] ∧ p.cells.all (CE.sto st.n) = true ∧ p.cells.length = n ∧ off + n ≤ b.cells.length then K ({ st with m := st.m.set k ⟨b.cells.take off ++ p.cells ++ b.cells.drop (off + n), b.ty⟩ }.putO o.dst .dead) else .ff
            | none => .ff
          | _, _, _ => .ff
      | .makeSlice t x y => mksK P st gs t x y o.dst K
      | op => match tupMove st op with
        | some l => if gs = [] then K (st.putO o.dst (.tup l)) else .ff
        | none => match cloOwn st gs op with
          | some (f, k) => pubK st gs f k o.dst K
          | none => match pureE nw P st gs op with
            | some (c, v) => needF g c (K (st.putO o.dst (wrapG gs v)))
            | none => .ff
def genOps (nw : Cfg) (P : Program) (ops : Array Oper) : List Oper → St → (St → Fm) → Fm
  | [], st, K => K st
  | o :: os, st, K => genOp nw P ops o st fun st => genOps nw P ops os st K

end Go.Proofs.YtcfopechdlgioaaGreatDoor
