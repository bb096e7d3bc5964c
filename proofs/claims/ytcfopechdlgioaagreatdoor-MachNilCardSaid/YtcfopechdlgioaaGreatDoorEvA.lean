/- The reckoner, part A: a program's code is run on known values; what it may not know it does not run. -/
import Derived.Test.YtcfopechdlgioaaGreatDoorEngB
namespace Go.Proofs.YtcfopechdlgioaaGreatDoor
open Go.RowKit

/-! ### Values -/
/-- One cell: a number; a truth value; bytes; an address; nil; a slice of block b from cell o on, with this capacity; a slice that was appended to, from element e on, of elements of z cells; a map; a function with what it captured; a value from outside. -/
inductive CV where
  | i (k : IntKind) (n : Int) | b (v : Bool) | s (l : List Nat) | p (b o : Nat) | np | sl (b o n c : Nat) | su (b e z n : Nat) | ns | m (b : Nat) | nm | f (f : Nat) (l : List (Nat × Nat)) | nf | v (n : Nat) | ni | un
  deriving DecidableEq
inductive PV where
  | c (x : CV) | a (l : List CV)
  deriving DecidableEq
inductive EV where
  | p (x : PV) | t (l : List PV)
  deriving DecidableEq
/-- A block. -/
inductive EB where
  | c (cs : List CV) (ty : TypeId)
  | m
  deriving DecidableEq
def PV.cells : PV → List CV
  | .c x => [x]
  | .a l => l

/-! ### Trees -/
inductive Tr (α : Type) where
  | nil | nd (v : Option α) (l r : Tr α)
def Tr.get {α : Type} : Tr α → Nat → Option α
  | .nil, _ => none
  | .nd v _ _, 0 => v
  | .nd _ l r, k + 1 => bif Nat.beq (Nat.mod k 2) 0 then l.get (Nat.div k 2) else r.get (Nat.div k 2)
def Tr.setL {α : Type} (v : Option α) (r : Tr α) : Tr α → Tr α
  | .nil => .nil
  | .nd a b c => .nd v (.nd a b c) r
def Tr.setR {α : Type} (v : Option α) (l : Tr α) : Tr α → Tr α
  | .nil => .nil
  | .nd a b c => .nd v l (.nd a b c)
def Tr.put {α : Type} (x : Option α) : Nat → Nat → Tr α → Tr α
  | 0, _, _ => .nil
  | _ + 1, 0, .nil => .nd x .nil .nil
  | _ + 1, 0, .nd _ l r => .nd x l r
  | f + 1, k + 1, .nil => bif Nat.beq (Nat.mod k 2) 0 then Tr.setL none .nil (put x f (Nat.div k 2) .nil) else Tr.setR none .nil (put x f (Nat.div k 2) .nil)
  | f + 1, k + 1, .nd v l r => bif Nat.beq (Nat.mod k 2) 0 then Tr.setL v r (put x f (Nat.div k 2) l) else Tr.setR v l (put x f (Nat.div k 2) r)
def depthT : Nat := 24

/-! ### Numbers that are reckoned at once -/
def fN {α : Sort _} (n : Nat) (K : Nat → α) : α := match n with
  | 0 => K 0
  | k + 1 => K (k + 1)
def fI {α : Sort _} (n : Int) (K : Int → α) : α := match n with
  | .ofNat m => fN m fun k => K (.ofNat k)
  | .negSucc m => fN m fun k => K (.negSucc k)
def fB {α : Sort _} (b : Bool) (K : Bool → α) : α := match b with
  | true => K true
  | false => K false
theorem fN_eq {α : Sort _} (n : Nat) (K : Nat → α) : fN n K = K n := by cases n <;> rfl
theorem fI_eq {α : Sort _} (n : Int) (K : Int → α) : fI n K = K n := by cases n <;> simp [fI, fN_eq]
theorem fB_eq {α : Sort _} (b : Bool) (K : Bool → α) : fB b K = K b := by cases b <;> rfl

/-! ### Lists -/
def nth {α : Type} : List α → Nat → Option α
  | [], _ => none
  | x :: _, 0 => some x
  | _ :: l, n + 1 => nth l n
def dropC {α : Type} : Nat → List α → List α
  | 0, l => l
  | _ + 1, [] => []
  | n + 1, _ :: l => dropC n l
def consO {α : Type} (x : α) : Option (List α) → Option (List α)
  | none => none
  | some l => some (x :: l)
/-- So many, all there. -/
def takeC {α : Type} : Nat → List α → Option (List α)
  | 0, _ => some []
  | _ + 1, [] => none
  | n + 1, x :: l => consO x (takeC n l)
def app {α : Type} : List α → List α → List α
  | [], l => l
  | x :: k, l => match app k l with
    | [] => [x]
    | y :: r => x :: y :: r
/-- These cells over those from a place on. -/
def over {α : Type} : List α → List α → Option (List α)
  | [], l => some l
  | _ :: _, [] => none
  | x :: k, _ :: l => consO x (over k l)
def setC {α : Type} : Nat → List α → List α → Option (List α)
  | 0, k, l => over k l
  | _ + 1, _, [] => none
  | n + 1, k, x :: l => consO x (setC n k l)
def mapO {α β : Type} (f : α → Option β) : List α → Option (List β)
  | [] => some []
  | x :: l => match f x with
    | none => none
    | some y => consO y (mapO f l)

/-! ### Operands -/
def cvOf : Value → Option CV
  | .int k n => some (.i k n)
  | .bool b => some (.b b)
  | .string s => some (.s (s.data.toList.map UInt8.toNat))
  | .pointer none => some .np
  | .slice none 0 0 => some .ns
  | .map none => some .nm
  | .nilFunc => some .nf
  | .nilIface => some .ni
  | .tuple ⟨[]⟩ => some .un
  | _ => none
def pvOf : Value → Option PV
  | .agg cs => (mapO cvOf cs.toList).map .a
  | v => (cvOf v).map .c
abbrev Tm := Tr EV
def opE (T : Tm) : Operand → Option EV
  | .tmp t => T.get t
  | .const v => (pvOf v).map .p
  | .func f => some (.p (.c (.f f [])))
  | .global _ => none
def opP (T : Tm) (x : Operand) : Option PV := match opE T x with
  | some (.p v) => some v
  | _ => none
def opC (T : Tm) (x : Operand) : Option CV := match opE T x with
  | some (.p (.c v)) => some v
  | _ => none

/-! ### Operations that look at no memory -/
def C0 : Ctx := ⟨[], [], [], [], [], [], fun _ => none, fun _ => 0⟩
def cfg0 : Cfg := ⟨false, []⟩
def CV.ce : CV → Option CE
  | .i k n => some (.i k (.c n))
  | .b q => some (.b (.c q))
  | .s l => some (.s (.c l))
  | _ => none
def PV.pe : PV → Option PE
  | .c x => x.ce.map .one
  | .a l => (mapO CV.ce l).map .agg
/-- A simple value that was reckoned. -/
def retE (x : Option (BE × PE)) : Option EV := match x with
  | some (c, .one (.i k e)) => match c.den C0 with
    | true => fI (e.den C0) fun n => some (.p (.c (.i k n)))
    | false => none
  | some (c, .one (.b e)) => match c.den C0 with
    | true => fB (e.den C0) fun n => some (.p (.c (.b n)))
    | false => none
  | _ => none
def binV (P : Program) (op : BinOp) (t : TypeId) : PV → PV → Option EV
  | .c (.s a), .c (.s b) => match op with
    | .add => bif Nat.ble (a.length + b.length) 1000000 then (match app a b with
      | [] => some (.p (.c (.s [])))
      | x :: l => some (.p (.c (.s (x :: l))))) else none
    | op => retE (strOp op (.c a) (.c b))
  | .c (.p _ _), .c .np => match P.underlying t, op with
    | some (.pointer _), .eql => some (.p (.c (.b false)))
    | some (.pointer _), .neq => some (.p (.c (.b true)))
    | _, _ => none
  | .c .np, .c .np => match P.underlying t, op with
    | some (.pointer _), .eql => some (.p (.c (.b true)))
    | some (.pointer _), .neq => some (.p (.c (.b false)))
    | _, _ => none
  | .c (.sl _ _ _ _), .c .ns => match P.underlying t, op with
    | some (.slice _), .eql => some (.p (.c (.b false)))
    | some (.slice _), .neq => some (.p (.c (.b true)))
    | _, _ => none
  | .c (.su _ _ _ _), .c .ns => match P.underlying t, op with
    | some (.slice _), .eql => some (.p (.c (.b false)))
    | some (.slice _), .neq => some (.p (.c (.b true)))
    | _, _ => none
  | .c .ns, .c .ns => match P.underlying t, op with
    | some (.slice _), .eql => some (.p (.c (.b true)))
    | some (.slice _), .neq => some (.p (.c (.b false)))
    | _, _ => none
  | x, y => match x.pe, y.pe with
    | some a, some b => retE (binE cfg0 P op t a b)
    | _, _ => none
def unV (op : UnOp) (x : PV) : Option EV := match x.pe with
  | some a => retE (unE cfg0 op a)
  | none => none
def convV (P : Program) (s d : TypeId) : PV → Option EV
  | .c (.s l) => match P.underlying s, P.underlying d with
    | some .string, some .string => some (.p (.c (.s l)))
    | _, _ => none
  | .c (.i k n) => retE (convE P s d (.one (.i k (.c n))))
  | _ => none
/-- A part of a struct's cells. -/
def partV (P : Program) (t : TypeId) (l : List CV) (off : Nat) : Option EV :=
  match P.underlying t, sizeB P t with
  | some _, some n => match isAggB P t with
    | true => match takeC n (dropC off l) with
      | some r => some (.p (.a r))
      | none => none
    | false => match nth l off with
      | some x => some (.p (.c x))
      | none => none
  | _, _ => none
def idxOf (n : Int) (len : Nat) : Option Nat := match n with
  | .ofNat k => bif Nat.blt k len then some k else none
  | .negSucc _ => none
/-- An address in a slice, in an array. -/
def adrV (P : Program) (t : TypeId) (x : CV) (i : CV) : Option EV := match i with
  | .i _ n => match P.underlying t, x with
    | some (.slice e), .sl b o len _ => match sizeB P e, idxOf n len with
      | some z, some k => fN (Nat.add o (Nat.mul k z)) fun a => some (.p (.c (.p b a)))
      | _, _ => none
    | some (.slice e), .su b e0 z0 len => match sizeB P e, idxOf n len with
      | some z, some k => bif Nat.beq z z0 then fN (Nat.mul (Nat.add e0 k) z) fun a => some (.p (.c (.p b a))) else none
      | _, _ => none
    | some (.array len e), .p b o => match sizeB P e, idxOf n len with
      | some z, some k => fN (Nat.add o (Nat.mul k z)) fun a => some (.p (.c (.p b a)))
      | _, _ => none
    | _, _ => none
  | _ => none
def boundV (x : Option CV) (d : Nat) : Option Nat := match x with
  | none => some d
  | some (.i _ (.ofNat k)) => some k
  | _ => none
/-- A slice of a slice, of bytes, of an array. -/
def sliceV (P : Program) (t : TypeId) (x : CV) (lo hi mx : Option CV) : Option EV := match P.underlying t, x with
  | some .string, .s l => match mx, boundV lo 0, boundV hi l.length with
    | none, some a, some b => bif Nat.ble a b && Nat.ble b l.length then (match takeC (Nat.sub b a) (dropC a l) with
      | some r => some (.p (.c (.s r)))
      | none => none) else none
    | _, _, _ => none
  | some (.slice e), .sl b o n c => match sizeB P e, boundV lo 0, boundV hi n, boundV mx c with
    | some z, some l, some h, some m => bif Nat.ble l h && (Nat.ble h m && Nat.ble m c) then (bif Nat.beq m l then some (.p (.c (.sl b o 0 0))) else
      fN (Nat.add o (Nat.mul l z)) fun a => fN (Nat.sub h l) fun n => fN (Nat.sub m l) fun c => some (.p (.c (.sl b a n c)))) else none
    | _, _, _, _ => none
  | some (.slice e), .su b e0 z0 n => match sizeB P e, boundV lo 0, boundV hi n with
    | some z, some l, some h => bif Nat.beq z z0 && (Nat.ble l h && Nat.ble h n) then (match mx with
      | none => bif Nat.beq l 0 || Nat.blt l n then fN (Nat.add e0 l) fun e => fN (Nat.sub h l) fun n => some (.p (.c (.su b e z0 n))) else none
      | some _ => match boundV mx 0 with
        | some m => bif Nat.ble h m && Nat.ble m n then (bif Nat.beq m l then fN (Nat.mul e0 z0) fun a => some (.p (.c (.sl b a 0 0))) else
          fN (Nat.mul (Nat.add e0 l) z0) fun a => fN (Nat.sub h l) fun n => fN (Nat.sub m l) fun c => some (.p (.c (.sl b a n c)))) else none
        | none => none) else none
    | _, _, _ => none
  | some (.slice e), .ns => match boundV lo 0, boundV hi 0, boundV mx 0, (sizeB P e).isSome with
    | some 0, some 0, some 0, true => some (.p (.c .ns))
    | _, _, _, _ => none
  | some (.array len e), .p b o => match sizeB P e, boundV lo 0, boundV hi len, mx with
    | some z, some l, some h, none => bif Nat.ble l h && Nat.ble h len then (bif Nat.beq len l then some (.p (.c (.sl b o 0 0))) else
      fN (Nat.add o (Nat.mul l z)) fun a => fN (Nat.sub h l) fun n => fN (Nat.sub len l) fun c => some (.p (.c (.sl b a n c)))) else none
    | _, _, _, _ => none
  | _, _ => none
def optC (T : Tm) : Option Operand → Option (Option CV)
  | none => some none
  | some x => match opC T x with
    | some v => some (some v)
    | none => none
/-- Parts of a struct, of an array. -/
def fillV (place : Nat → Option (Nat × Nat)) (T : Tm) : List (Nat × Operand) → List CV → Option (List CV)
  | [], cs => some cs
  | (i, x) :: r, cs => match place i, opP T x with
    | some (off, size), some v => bif Nat.beq v.cells.length size then (match setC off v.cells cs with
      | some ds => fillV place T r ds
      | none => none) else none
    | _, _ => none
def zeroV (P : Program) (t : TypeId) : Option (List CV) := match zeroB P t with
  | some l => mapO cvOf l
  | none => none
def buildV (P : Program) (t : TypeId) (T : Tm) (parts : List (Nat × Operand)) : Option EV :=
  match P.underlying t, zeroV P t with
  | some (.struct fs), some z => bif fs.toList.all (fun f => (sizeB P f.type).isSome) then (match fillV (placeB P t) T parts z with
    | some l => some (.p (.a l))
    | none => none) else none
  | some (.array _ e), some z => match sizeB P e with
    | some n => match fillV (fun i => some (i * n, n)) T parts z with
      | some l => some (.p (.a l))
      | none => none
    | none => none
  | _, _ => none
def ptrsV (T : Tm) : List Operand → Option (List (Nat × Nat))
  | [] => some []
  | x :: l => match opC T x with
    | some (.p b o) => consO (b, o) (ptrsV T l)
    | _ => none
def lenV (P : Program) (t : TypeId) : CV → Option EV
  | .s l => match P.underlying t with
    | some .string => fN l.length fun n => some (.p (.c (.i .i64 (.ofNat n))))
    | _ => none
  | .sl _ _ n _ => match P.underlying t with
    | some (.slice _) => some (.p (.c (.i .i64 (.ofNat n))))
    | _ => none
  | .su _ _ _ n => match P.underlying t with
    | some (.slice _) => some (.p (.c (.i .i64 (.ofNat n))))
    | _ => none
  | .ns => match P.underlying t with
    | some (.slice _) => some (.p (.c (.i .i64 (.ofNat 0))))
    | _ => none
  | _ => none
def intsV (T : Tm) : List Operand → Option (IntKind × List Int)
  | [] => none
  | [x] => match opC T x with
    | some (.i k n) => some (k, [n])
    | _ => none
  | x :: l => match opC T x, intsV T l with
    | some (.i k n), some (k', r) => if k = k' then some (k, n :: r) else none
    | _, _ => none
def maxI : Int → List Int → Int
  | x, [] => x
  | x, y :: l => maxI (bif Int.blt' x y then y else x) l
where Int.blt' (a b : Int) : Bool := ltB a b
def minI : Int → List Int → Int
  | x, [] => x
  | x, y :: l => minI (bif ltB y x then y else x) l
/-- What looks at no memory. -/
def evP (P : Program) (T : Tm) : Op → Option EV
  | .move x => opE T x
  | .assign x => opE T x
  | .pick c a b => match opC T c with
    | some (.b true) => opE T a
    | some (.b false) => opE T b
    | _ => none
  | .nilCheck x => match opC T x with
    | some (.p b o) => some (.p (.c (.p b o)))
    | _ => none
  | .binOp op t x y _ => match opP T x, opP T y with
    | some a, some b => binV P op t a b
    | _, _ => none
  | .unOp op _ x => match opP T x with
    | some a => unV op a
    | none => none
  | .convert s d x => match opP T x with
    | some a => convV P s d a
    | none => none
  | .fieldAddr s x f => match opC T x, fieldB P s f with
    | some (.p b o), some (off, t) => match sizeB P t with
      | some 0 => none
      | some _ => fN (Nat.add o off) fun a => some (.p (.c (.p b a)))
      | none => none
    | _, _ => none
  | .field s x f => match opP T x, fieldB P s f with
    | some (.a l), some (off, t) => partV P t l off
    | _, _ => none
  | .indexAddr t x i => match opC T x, opC T i with
    | some a, some b => adrV P t a b
    | _, _ => none
  | .index t x i => match opP T x, opC T i, P.underlying t with
    | some (.c (.s l)), some (.i _ (.ofNat k)), some .string => match nth l k with
      | some n => fN (Nat.mod n 256) fun m => some (.p (.c (.i .u8 (.ofNat m))))
      | none => none
    | some (.a l), some (.i _ n), some (.array len e) => match sizeB P e, idxOf n len with
      | some z, some k => partV P e l (Nat.mul k z)
      | _, _ => none
    | _, _, _ => none
  | .slice t x lo hi mx => match opC T x, optC T lo, optC T hi, optC T mx with
    | some a, some l, some h, some m => bif m.isNone || h.isSome then sliceV P t a l h m else none
    | _, _, _, _ => none
  | .extract x i => match opE T x with
    | some (.t l) => match nth l i with
      | some v => some (.p v)
      | none => none
    | _ => none
  | .build t parts => buildV P t T parts.toList
  | .makeFunc (.func f) first cap => match first.toList, ptrsV T cap.toList with
    | [], some l => some (.p (.c (.f f l)))
    | _, _ => none
  | .call { callee := .builtin .len, args, argTypes } => match args.toList, argTypes.toList with
    | [x], t :: _ => match opC T x with
      | some v => lenV P t v
      | none => none
    | _, _ => none
  | .call { callee := .builtin .max, args, .. } => match intsV T args.toList with
    | some (k, x :: l) => fI (maxI x l) fun n => some (.p (.c (.i k n)))
    | _ => none
  | .call { callee := .builtin .min, args, .. } => match intsV T args.toList with
    | some (k, x :: l) => fI (minI x l) fun n => some (.p (.c (.i k n)))
    | _ => none
  | .call { callee := .builtin .unsafeSliceData, args, .. } => match args.toList with
    | [x] => match opC T x with
      | some .ns => some (.p (.c .np))
      | some (.sl b o _ c) => bif Nat.beq c 0 then none else some (.p (.c (.p b o)))
      | some (.su b e z n) => bif Nat.beq n 0 then none else fN (Nat.mul e z) fun a => some (.p (.c (.p b a)))
      | _ => none
    | _ => none
  | _ => none

/-! ### Operations that look at memory, that make new blocks -/
abbrev Hm := Tr EB
def readC (H : Hm) (b o n : Nat) : Option (List CV) := match H.get b with
  | some (.c cs _) => takeC n (dropC o cs)
  | _ => none
/-- The cells of a slice's elements. -/
def cellsC (H : Hm) (z : Nat) : CV → Option (List CV)
  | .sl b o n _ => bif Nat.beq n 0 then some [] else readC H b o (Nat.mul n z)
  | .su b e z0 n => bif Nat.beq z z0 then (bif Nat.beq n 0 then some [] else readC H b (Nat.mul e z) (Nat.mul n z)) else none
  | .ns => some []
  | _ => none
def bytesOf : List CV → Option (List Nat)
  | [] => some []
  | .i .u8 (.ofNat k) :: l => bif Nat.blt k 256 then consO k (bytesOf l) else none
  | _ => none
def evR (P : Program) (T : Tm) (H : Hm) : Op → Option EV
  | .load t x => match opC T x with
    | some (.p b o) => match P.underlying t, sizeB P t with
      | some _, some n => match readC H b o n with
        | some l => match isAggB P t with
          | true => some (.p (.a l))
          | false => match l with
            | [c] => some (.p (.c c))
            | _ => none
        | none => none
      | _, _ => none
    | _ => none
  | .convert s d x => match bytesTy P s d, opC T x with
    | true, some v => match cellsC H 1 v with
      | some l => match bytesOf l with
        | some r => some (.p (.c (.s r)))
        | none => none
      | none => none
    | _, _ => none
  | _ => none
def repC (z : List CV) : Nat → List CV
  | 0 => []
  | n + 1 => app z (repC z n)
def noUn : List CV → Bool
  | [] => true
  | .un :: _ => false
  | _ :: l => noUn l
/-- A new block, and what the value is if it is block b. -/
def evA (P : Program) (T : Tm) : Op → Option (EB × (Nat → CV))
  | .alloc t => match zeroV P t with
    | some z => some (.c z t, fun b => .p b 0)
    | none => none
  | .box t x => match opP T x with
    | some v => bif noUn v.cells then some (.c v.cells t, fun b => .p b 0) else none
    | none => none
  | .buildSlice t len parts => match P.underlying t with
    | some (.slice e) => match sizeB P e, zeroV P e with
      | some z, some zs => bif Nat.blt 0 z && (Nat.beq zs.length z && Nat.ble (Nat.mul len z) 16777216) then (match fillV (fun i => some (i * z, z)) T parts.toList (repC zs len) with
        | some l => bif noUn l then some (.c l e, fun b => .sl b 0 len len) else none
        | none => none) else none
      | _, _ => none
    | _ => none
  | .makeSlice t x y => match P.underlying t, opC T x, opC T y with
    | some (.slice e), some (.i _ (.ofNat n)), some (.i _ (.ofNat c)) => match sizeB P e, zeroV P e, P.info? e with
      | some z, some zs, some i => bif Nat.blt 0 z && (Nat.beq zs.length z && (Nat.ble n c && (Nat.ble c 1000000 && Nat.ble i.bytes 1000000))) then some (.c (repC zs c) e, fun b => .sl b 0 n c) else none
      | _, _, _ => none
    | _, _, _ => none
  | .makeMap _ none => some (.m, fun b => .m b)
  | _ => none

/-! ### Operations that write, calls -/
inductive XR where
  | w (x : EV) (H : Hm) (n : Nat)
  | call (f : FuncId) (args : List EV)
def argsV (T : Tm) : List Operand → Option (List EV)
  | [] => some []
  | x :: l => match opE T x with
    | some (.p v) => consO (.p v) (argsV T l)
    | _ => none
def putH (H : Hm) (b : Nat) (x : Option EB) (K : Hm → Option XR) : Option XR := match H.put x depthT b with
  | .nil => none
  | .nd v l r => K (.nd v l r)
/-- What is appended: its cells, how many elements. -/
def srcV (P : Program) (H : Hm) (z : Nat) (t : TypeId) : CV → Option (List CV × Nat)
  | .s l => match P.underlying t with
    | some .string => bif Nat.beq z 1 then some (l.map fun c => .i .u8 (.ofNat (Nat.mod c 256)), l.length) else none
    | _ => none
  | .sl b o n c => match P.underlying t, cellsC H z (.sl b o n c) with
    | some (.slice _), some l => some (l, n)
    | _, _ => none
  | .su b e z0 n => match P.underlying t, cellsC H z (.su b e z0 n) with
    | some (.slice _), some l => some (l, n)
    | _, _ => none
  | .ns => match P.underlying t with
    | some (.slice _) => some ([], 0)
    | _ => none
  | _ => none
def appV (H : Hm) (nx : Nat) (e z : Nat) (s : CV) (ys : List CV) (m : Nat) : Option XR := match s with
  | .ns => bif Nat.beq m 0 then some (.w (.p (.c .ns)) H nx) else putH H nx (some (.c ys e)) fun K => some (.w (.p (.c (.su nx 0 z m))) K (nx + 1))
  | .sl b o n c => bif Nat.beq m 0 then some (.w (.p (.c (.sl b o n c))) H nx) else bif Nat.ble (Nat.add n m) 10000000 then
    (bif Nat.ble (Nat.add n m) c then (match H.get b with
      | some (.c cs t) => match setC (Nat.add o (Nat.mul n z)) ys cs with
        | some ds => putH H b (some (.c ds t)) fun K => fN (Nat.add n m) fun n => some (.w (.p (.c (.sl b o n c))) K nx)
        | none => none
      | _ => none) else (match cellsC H z (.sl b o n c) with
      | some xs => fN (Nat.add n m) fun n => putH H nx (some (.c (app xs ys) e)) fun K => some (.w (.p (.c (.su nx 0 z n))) K (nx + 1))
      | none => none)) else none
  | .su b 0 z0 n => bif Nat.beq z z0 && Nat.ble (Nat.add n m) 10000000 then (bif Nat.beq m 0 then some (.w (.p (.c (.su b 0 z0 n))) H nx) else match H.get b with
      | some (.c cs t) => bif Nat.beq t e then (match takeC (Nat.mul n z) cs with
        | some xs => putH H b none fun K => fN (Nat.add n m) fun n => putH K nx (some (.c (app xs ys) e)) fun K => some (.w (.p (.c (.su nx 0 z n))) K (nx + 1))
        | none => none) else none
      | _ => none) else none
  | _ => none
def evX (P : Program) (T : Tm) (H : Hm) (nx : Nat) : Op → Option XR
  | .store t a x => match opC T a, opP T x, sizeB P t with
    | some (.p b o), some v, some n => bif Nat.beq v.cells.length n && noUn v.cells then (match H.get b with
      | some (.c cs ty) => match setC o v.cells cs with
        | some ds => putH H b (some (.c ds ty)) fun K => some (.w (.p (.c .un)) K nx)
        | none => none
      | _ => none) else none
    | _, _, _ => none
  | .call { callee := .value f, args, .. } => match opC T f, argsV T args.toList with
    | some (.f f l), some xs => some (.call f (xs ++ l.map fun x => .p (.c (.p x.1 x.2))))
    | _, _ => none
  | .call { callee := .builtin .append, args, argTypes } => match args.toList, argTypes.toList with
    | [s, x], [t, u] => match opC T s, opC T x, P.underlying t with
      | some a, some y, some (.slice e) => match P.info? e with
        | some i => bif Nat.blt 0 i.size && Nat.ble i.bytes 1000000 then (match i.zero with
          | some z => bif Nat.beq z.cells.size i.size then (match srcV P H i.size u y with
            | some (ys, m) => bif noUn ys && Nat.ble m 1000000 then appV H nx e i.size a ys m else none
            | none => none) else none
          | none => none) else none
        | none => none
      | _, _, _ => none
    | _, _ => none
  | .call { callee := .builtin .unsafeString, args, argTypes } => match args.toList, argTypes.toList with
    | [x, y], [pt, _] => match opC T x, opC T y, P.underlying pt with
      | some .np, some (.i .i64 (.ofNat 0)), _ => some (.w (.p (.c (.s []))) H nx)
      | some (.p _ _), some (.i .i64 (.ofNat 0)), _ => some (.w (.p (.c (.s []))) H nx)
      | some (.p b 0), some (.i .i64 (.ofNat n)), some (.pointer e) => match H.get b with
        | some (.c cs t) => bif Nat.beq t e && (Nat.beq (P.cellsOf e) 1 && Nat.ble n 1000000) then (match takeC n cs with
          | some xs => match bytesOf xs with
            | some l => putH H b none fun K => some (.w (.p (.c (.s l))) K nx)
            | none => none
          | none => none) else none
        | _ => none
      | _, _, _ => none
    | _, _ => none
  | _ => none
end Go.Proofs.YtcfopechdlgioaaGreatDoor
