/- The engine, part A: symbolic values, what they stand for, and the formulas that a function's code is turned into. -/
import Derived.Test.YtcfopechdlgioaaGreatDoorBase
namespace Go.Proofs.YtcfopechdlgioaaGreatDoor
open Go.RowKit

/-! ### Expressions -/
mutual
/-- Numbers. -/
inductive IE where
  | x (n : Nat) | c (n : Int) | add (a b : IE) | sub (a b : IE) | mul (a b : IE) | wr (k : IntKind) (a : IE) | quo (a b : IE) | rem (a b : IE) | bits (o : BinOp) (k : IntKind) (a b : IE) | sh (o : BinOp) (k : IntKind) (a b : IE) | len (s : SE) | at (s : SE) (i : IE) | cnt (l : LE) | cap (l : LE) | ite (b : BE) (p q : IE)
  deriving DecidableEq
/-- Truth values. -/
inductive BE where
  | x (n : Nat) | c (b : Bool) | not (a : BE) | and (a b : BE) | or (a b : BE) | imp (a b : BE) | eqI (a b : IE) | lt (a b : IE) | le (a b : IE) | eqB (a b : BE) | eqS (s t : SE) | ltS (s t : SE) | nns (l : LE) | nnp (n : Nat) | ite (b p q : BE)
  deriving DecidableEq
/-- Strings. -/
inductive SE where
  | x (n : Nat) | c (l : List Nat) | app (a b : SE) | sub (s : SE) (lo hi : IE) | ite (b : BE) (p q : SE)
  deriving DecidableEq
/-- Slices. -/
inductive LE where
  | x (n : Nat) | nil | sub (l : LE) (lo hi : IE) (sz : Nat)
  deriving DecidableEq
end
/-- A slice: where it begins, how many elements it has, and may have. -/
structure Slc where
  a : Option (Nat × Nat)
  n : Nat
  c : Nat
def Slc.val (s : Slc) : Value := .slice (s.a.map fun x => ⟨x.1, x.2, none⟩) s.n s.c
/-- Blocks that are known: their cells, their type. -/
structure HO where
  cs : List Value
  ty : TypeId
abbrev Hp := Nat → Option HO
/-- The type of blocks that are but read. -/
abbrev ro : TypeId := 1000003
/-- The type of a block that may be written. -/
structure Rw where
  t : TypeId
  lt : t < 1000000
instance : Coe Rw TypeId := ⟨Rw.t⟩
@[simp] theorem rw_inj (a b : Rw) : (a.t = b.t) = (a = b) := by
  cases a; cases b; simp
@[simp] theorem rw_ne (a : Rw) : (a.t < 1000000) = True := eq_true a.lt
def Hp.set (h : Hp) (b : Nat) (o : HO) : Hp := fun k => if k = b then some o else h k
def Hp.del (h : Hp) (b : Nat) : Hp := fun k => if k = b then none else h k

/-- What the variables stand for. -/
structure Ctx where
  i : List Int
  b : List Bool
  s : List (List UInt8)
  v : List Value
  l : List Slc
  p : List (Option (Nat × Nat))
  h : Hp
  /-- The loops' measures at their heads. -/
  m : Nat → Nat

def ltB (a b : Int) : Bool := decide (a < b)
def leB (a b : Int) : Bool := decide (a ≤ b)
theorem ltB_t (a b : Int) : (ltB a b = true) = (a < b) := by simp [ltB]
theorem leB_t (a b : Int) : (leB a b = true) = (a ≤ b) := by simp [leB]
theorem ltB_f (a b : Int) : (ltB a b = false) = (b ≤ a) := by simp [ltB]
theorem leB_f (a b : Int) : (leB a b = false) = (b < a) := by simp [leB]
def ibits (o : BinOp) (k : IntKind) (x y : Int) : Int :=
  let a := BitVec.ofInt k.bits x
  let b := BitVec.ofInt k.bits y
  match o with
  | .and => k.wrap (a &&& b).toNat
  | .or => k.wrap (a ||| b).toNat
  | .xor => k.wrap (a ^^^ b).toNat
  | .andNot => k.wrap (a &&& ~~~b).toNat
  | _ => 0
def ishift (o : BinOp) (k : IntKind) (x y : Int) : Int :=
  match o with
  | .shl => k.wrap (x * 2 ^ min y.toNat k.bits)
  | .shr => x.fdiv (2 ^ min y.toNat k.bits)
  | _ => 0

mutual
def IE.den (C : Ctx) : IE → Int
  | .x n => C.i.getD n 0
  | .c n => n
  | .add a b => a.den C + b.den C
  | .sub a b => a.den C - b.den C
  | .mul a b => a.den C * b.den C
  | .wr k a => k.wrap (a.den C)
  | .quo a b => (a.den C).tdiv (b.den C)
  | .rem a b => (a.den C).tmod (b.den C)
  | .bits o k a b => ibits o k (a.den C) (b.den C)
  | .sh o k a b => ishift o k (a.den C) (b.den C)
  | .len s => ((s.den C).length : Nat)
  | .at s i => bt (s.den C) (i.den C).toNat
  | .cnt l => ((l.den C).n : Nat)
  | .cap l => ((l.den C).c : Nat)
  | .ite b p q => bif b.den C then p.den C else q.den C
def BE.den (C : Ctx) : BE → Bool
  | .x n => C.b.getD n false
  | .c n => n
  | .not a => !a.den C
  | .and a b => a.den C && b.den C
  | .or a b => a.den C || b.den C
  | .imp a b => !a.den C || b.den C
  | .eqI a b => a.den C == b.den C
  | .lt a b => ltB (a.den C) (b.den C)
  | .le a b => leB (a.den C) (b.den C)
  | .eqB a b => a.den C == b.den C
  | .eqS a b => a.den C == b.den C
  | .ltS a b => Op.bytesLess (a.den C) (b.den C)
  | .nns l => (l.den C).a.isSome
  | .nnp n => (C.p.getD n none).isSome
  | .ite b p q => bif b.den C then p.den C else q.den C
def SE.den (C : Ctx) : SE → List UInt8
  | .x n => C.s.getD n []
  | .c n => n.map UInt8.ofNat
  | .app a b => a.den C ++ b.den C
  | .sub s lo hi => ((s.den C).take (hi.den C).toNat).drop (lo.den C).toNat
  | .ite b p q => bif b.den C then p.den C else q.den C
def LE.den (C : Ctx) : LE → Slc
  | .x n => C.l.getD n ⟨none, 0, 0⟩
  | .nil => ⟨none, 0, 0⟩
  | .sub l lo hi sz => ⟨if (l.den C).c = (lo.den C).toNat then (l.den C).a else (l.den C).a.map fun x => (x.1, x.2 + (lo.den C).toNat * sz), (hi.den C).toNat - (lo.den C).toNat, (l.den C).c - (lo.den C).toNat⟩
end

/-- All variables below these numbers. -/
structure Cnt where
  i : Nat
  b : Nat
  s : Nat
  v : Nat
  l : Nat
  p : Nat
  deriving DecidableEq
mutual
def IE.blw (N : Cnt) : IE → Bool
  | .x n => decide (n < N.i)
  | .c _ => true
  | .add x y => x.blw N && y.blw N
  | .sub x y => x.blw N && y.blw N
  | .mul x y => x.blw N && y.blw N
  | .wr _ x => x.blw N
  | .quo x y => x.blw N && y.blw N
  | .rem x y => x.blw N && y.blw N
  | .bits _ _ x y => x.blw N && y.blw N
  | .sh _ _ x y => x.blw N && y.blw N
  | .len x => x.blw N
  | .at x y => x.blw N && y.blw N
  | .cnt l => l.blw N
  | .cap l => l.blw N
  | .ite x y z => x.blw N && y.blw N && z.blw N
def BE.blw (N : Cnt) : BE → Bool
  | .x n => decide (n < N.b)
  | .c _ => true
  | .not x => x.blw N
  | .and x y => x.blw N && y.blw N
  | .or x y => x.blw N && y.blw N
  | .imp x y => x.blw N && y.blw N
  | .eqI x y => x.blw N && y.blw N
  | .lt x y => x.blw N && y.blw N
  | .le x y => x.blw N && y.blw N
  | .eqB x y => x.blw N && y.blw N
  | .eqS x y => x.blw N && y.blw N
  | .ltS x y => x.blw N && y.blw N
  | .nns l => l.blw N
  | .nnp n => decide (n < N.p)
  | .ite x y z => x.blw N && y.blw N && z.blw N
def SE.blw (N : Cnt) : SE → Bool
  | .x n => decide (n < N.s)
  | .c _ => true
  | .app x y => x.blw N && y.blw N
  | .sub x y z => x.blw N && y.blw N && z.blw N
  | .ite x y z => x.blw N && y.blw N && z.blw N
def LE.blw (N : Cnt) : LE → Bool
  | .x n => decide (n < N.l)
  | .nil => true
  | .sub x y z _ => x.blw N && y.blw N && z.blw N
end
structure Agr (N : Cnt) (C D : Ctx) : Prop where
  i : ∀ n, n < N.i → C.i.getD n 0 = D.i.getD n 0
  b : ∀ n, n < N.b → C.b.getD n false = D.b.getD n false
  s : ∀ n, n < N.s → C.s.getD n [] = D.s.getD n []
  v : ∀ n, n < N.v → C.v.getD n undef = D.v.getD n undef
  l : ∀ n, n < N.l → C.l.getD n ⟨none, 0, 0⟩ = D.l.getD n ⟨none, 0, 0⟩
  p : ∀ n, n < N.p → C.p.getD n none = D.p.getD n none
mutual
theorem IE.den_blw {N : Cnt} {C D : Ctx} (h : Agr N C D) : ∀ e : IE, e.blw N = true → e.den C = e.den D
  | .x n, hb => h.i n (by simpa [IE.blw] using hb)
  | .c _, _ => rfl
  | .add x y, hb => by simp only [IE.blw, Bool.and_eq_true] at hb; simp only [IE.den, IE.den_blw h x hb.1, IE.den_blw h y hb.2]
  | .sub x y, hb => by simp only [IE.blw, Bool.and_eq_true] at hb; simp only [IE.den, IE.den_blw h x hb.1, IE.den_blw h y hb.2]
  | .mul x y, hb => by simp only [IE.blw, Bool.and_eq_true] at hb; simp only [IE.den, IE.den_blw h x hb.1, IE.den_blw h y hb.2]
  | .wr _ x, hb => by simp only [IE.den, IE.den_blw h x (by simpa [IE.blw] using hb)]
  | .quo x y, hb => by simp only [IE.blw, Bool.and_eq_true] at hb; simp only [IE.den, IE.den_blw h x hb.1, IE.den_blw h y hb.2]
  | .rem x y, hb => by simp only [IE.blw, Bool.and_eq_true] at hb; simp only [IE.den, IE.den_blw h x hb.1, IE.den_blw h y hb.2]
  | .bits _ _ x y, hb => by simp only [IE.blw, Bool.and_eq_true] at hb; simp only [IE.den, IE.den_blw h x hb.1, IE.den_blw h y hb.2]
  | .sh _ _ x y, hb => by simp only [IE.blw, Bool.and_eq_true] at hb; simp only [IE.den, IE.den_blw h x hb.1, IE.den_blw h y hb.2]
  | .len x, hb => by simp only [IE.den, SE.den_blw h x (by simpa [IE.blw] using hb)]
  | .at x y, hb => by simp only [IE.blw, Bool.and_eq_true] at hb; simp only [IE.den, SE.den_blw h x hb.1, IE.den_blw h y hb.2]
  | .cnt l, hb => by simp only [IE.den, LE.den_blw h l (by simpa [IE.blw] using hb)]
  | .cap l, hb => by simp only [IE.den, LE.den_blw h l (by simpa [IE.blw] using hb)]
  | .ite x y z, hb => by simp only [IE.blw, Bool.and_eq_true] at hb; simp only [IE.den, BE.den_blw h x hb.1.1, IE.den_blw h y hb.1.2, IE.den_blw h z hb.2]
theorem BE.den_blw {N : Cnt} {C D : Ctx} (h : Agr N C D) : ∀ e : BE, e.blw N = true → e.den C = e.den D
  | .x n, hb => h.b n (by simpa [BE.blw] using hb)
  | .c _, _ => rfl
  | .not x, hb => by simp only [BE.den, BE.den_blw h x (by simpa [BE.blw] using hb)]
  | .and x y, hb => by simp only [BE.blw, Bool.and_eq_true] at hb; simp only [BE.den, BE.den_blw h x hb.1, BE.den_blw h y hb.2]
  | .or x y, hb => by simp only [BE.blw, Bool.and_eq_true] at hb; simp only [BE.den, BE.den_blw h x hb.1, BE.den_blw h y hb.2]
  | .imp x y, hb => by simp only [BE.blw, Bool.and_eq_true] at hb; simp only [BE.den, BE.den_blw h x hb.1, BE.den_blw h y hb.2]
  | .eqI x y, hb => by simp only [BE.blw, Bool.and_eq_true] at hb; simp only [BE.den, IE.den_blw h x hb.1, IE.den_blw h y hb.2]
  | .lt x y, hb => by simp only [BE.blw, Bool.and_eq_true] at hb; simp only [BE.den, IE.den_blw h x hb.1, IE.den_blw h y hb.2]
  | .le x y, hb => by simp only [BE.blw, Bool.and_eq_true] at hb; simp only [BE.den, IE.den_blw h x hb.1, IE.den_blw h y hb.2]
  | .eqB x y, hb => by simp only [BE.blw, Bool.and_eq_true] at hb; simp only [BE.den, BE.den_blw h x hb.1, BE.den_blw h y hb.2]
  | .eqS x y, hb => by simp only [BE.blw, Bool.and_eq_true] at hb; simp only [BE.den, SE.den_blw h x hb.1, SE.den_blw h y hb.2]
  | .ltS x y, hb => by simp only [BE.blw, Bool.and_eq_true] at hb; simp only [BE.den, SE.den_blw h x hb.1, SE.den_blw h y hb.2]
  | .nns l, hb => by simp only [BE.den, LE.den_blw h l (by simpa [BE.blw] using hb)]
  | .nnp n, hb => by simp only [BE.den, h.p n (by simpa [BE.blw] using hb)]
  | .ite x y z, hb => by simp only [BE.blw, Bool.and_eq_true] at hb; simp only [BE.den, BE.den_blw h x hb.1.1, BE.den_blw h y hb.1.2, BE.den_blw h z hb.2]
theorem SE.den_blw {N : Cnt} {C D : Ctx} (h : Agr N C D) : ∀ e : SE, e.blw N = true → e.den C = e.den D
  | .x n, hb => h.s n (by simpa [SE.blw] using hb)
  | .c _, _ => rfl
  | .app x y, hb => by simp only [SE.blw, Bool.and_eq_true] at hb; simp only [SE.den, SE.den_blw h x hb.1, SE.den_blw h y hb.2]
  | .sub x y z, hb => by simp only [SE.blw, Bool.and_eq_true] at hb; simp only [SE.den, SE.den_blw h x hb.1.1, IE.den_blw h y hb.1.2, IE.den_blw h z hb.2]
  | .ite x y z, hb => by simp only [SE.blw, Bool.and_eq_true] at hb; simp only [SE.den, BE.den_blw h x hb.1.1, SE.den_blw h y hb.1.2, SE.den_blw h z hb.2]
theorem LE.den_blw {N : Cnt} {C D : Ctx} (h : Agr N C D) : ∀ e : LE, e.blw N = true → e.den C = e.den D
  | .x n, hb => h.l n (by simpa [LE.blw] using hb)
  | .nil, _ => rfl
  | .sub x y z _, hb => by simp only [LE.blw, Bool.and_eq_true] at hb; simp only [LE.den, LE.den_blw h x hb.1.1, IE.den_blw h y hb.1.2, IE.den_blw h z hb.2]
end
/-- Addresses of known memory. -/
inductive AE where
  | pt (n off : Nat) | el (l : LE) (i : IE) (sz off : Nat) | ix (n : Nat) (i : IE) (sz off : Nat)
  deriving DecidableEq
def AE.den (C : Ctx) : AE → Option (Nat × Nat)
  | .pt n off => (C.p.getD n none).map fun x => (x.1, x.2 + off)
  | .el l i sz off => (l.den C).a.map fun x => (x.1, x.2 + (i.den C).toNat * sz + off)
  | .ix n i sz off => (C.p.getD n none).map fun x => (x.1, x.2 + (i.den C).toNat * sz + off)
def AE.blw (N : Cnt) : AE → Bool
  | .pt n _ => decide (n < N.p)
  | .el l i _ _ => l.blw N && i.blw N
  | .ix n i _ _ => decide (n < N.p) && i.blw N
theorem AE.den_blw {N : Cnt} {C D : Ctx} (h : Agr N C D) : ∀ e : AE, e.blw N = true → e.den C = e.den D
  | .pt n _, hb => by simp only [AE.den, h.p n (by simpa [AE.blw] using hb)]
  | .el l i _ _, hb => by simp only [AE.blw, Bool.and_eq_true] at hb; simp only [AE.den, LE.den_blw h l hb.1, IE.den_blw h i hb.2]
  | .ix n i _ _, hb => by simp only [AE.blw, Bool.and_eq_true, decide_eq_true_eq] at hb; simp only [AE.den, h.p n hb.1, IE.den_blw h i hb.2]
def adrVal : Option (Nat × Nat) → Value
  | some x => .pointer (some ⟨x.1, x.2, none⟩)
  | none => undef

/-! ### Values -/
/-- Constants that are no number, truth value or string. -/
inductive KV where
  | undef | nilp | nilm | niliface | nilf | fn (f : Nat) | gl (g : Nat)
  deriving DecidableEq
def KV.val : KV → Value
  | .undef => Go.undef
  | .nilp => .pointer none
  | .nilm => .map none
  | .niliface => .nilIface
  | .nilf => .nilFunc
  | .fn f => .func (.func f) #[] #[]
  | .gl g => .pointer (some ⟨g, 0, none⟩)
/-- The value of one cell; own k o: the address of cell o of the call's own block k; osl k n: the slice of n that this block is. -/
inductive CE where
  | i (k : IntKind) (e : IE) | b (e : BE) | s (e : SE) | own (k o : Nat) | osl (k n : Nat) | v (n : Nat) | c (x : KV) | sl (l : LE) | pt (n : Nat) | adr (a : AE) | clo (f : Nat) (l : List Nat)
  deriving DecidableEq
def CE.den (C : Ctx) (ρ : Nat → Nat) : CE → Value
  | .i k e => .int k (e.den C)
  | .b e => .bool (e.den C)
  | .s e => .string (B (e.den C))
  | .own k o => .pointer (some ⟨ρ k, o, none⟩)
  | .osl k n => .slice (some ⟨ρ k, 0, none⟩) n n
  | .v n => C.v.getD n undef
  | .c x => x.val
  | .sl l => (l.den C).val
  | .pt n => .pointer ((C.p.getD n none).map fun x => ⟨x.1, x.2, none⟩)
  | .adr a => adrVal (a.den C)
  | .clo f l => .func (.func f) #[] (l.map fun n => Value.pointer ((C.p.getD n none).map fun x => ⟨x.1, x.2, none⟩)).toArray
def CE.blw (N : Cnt) : CE → Bool
  | .i _ e => e.blw N
  | .b e => e.blw N
  | .s e => e.blw N
  | .own _ _ => true
  | .osl _ _ => true
  | .v n => decide (n < N.v)
  | .c _ => true
  | .sl l => l.blw N
  | .pt n => decide (n < N.p)
  | .adr a => a.blw N
  | .clo _ l => l.all fun n => decide (n < N.p)
def CE.plain : CE → Bool
  | .own _ _ => false
  | .osl _ _ => false
  | _ => true
theorem CE.den_blw {N : Cnt} {C D : Ctx} (h : Agr N C D) (ρ : Nat → Nat) : ∀ e : CE, e.blw N = true → e.den C ρ = e.den D ρ
  | .i _ e, hb => by simp only [CE.den, e.den_blw h hb]
  | .b e, hb => by simp only [CE.den, e.den_blw h hb]
  | .s e, hb => by simp only [CE.den, e.den_blw h hb]
  | .own _ _, _ => rfl
  | .osl _ _, _ => rfl
  | .v n, hb => h.v n (by simpa [CE.blw] using hb)
  | .c _, _ => rfl
  | .sl l, hb => by simp only [CE.den, l.den_blw h hb]
  | .pt n, hb => by simp only [CE.den, h.p n (by simpa [CE.blw] using hb)]
  | .adr a, hb => by simp only [CE.den, a.den_blw h hb]
  | .clo f l, hb => by
    simp only [CE.den]
    rw [List.map_congr_left fun n hn => ?_]
    rw [h.p n (by simpa [CE.blw] using List.all_eq_true.1 hb n hn)]
theorem CE.den_plain {C : Ctx} {ρ σ : Nat → Nat} : ∀ e : CE, e.plain = true → e.den C ρ = e.den C σ
  | .i _ _, _ => rfl
  | .b _, _ => rfl
  | .s _, _ => rfl
  | .own _ _, h => by cases h
  | .osl _ _, h => by cases h
  | .v _, _ => rfl
  | .c _, _ => rfl
  | .sl _, _ => rfl
  | .pt _, _ => rfl
  | .adr _, _ => rfl
  | .clo _ _, _ => rfl
/-- One cell's value, or a struct's. -/
inductive PE where
  | one (c : CE) | agg (l : List CE)
  deriving DecidableEq
def PE.den (C : Ctx) (ρ : Nat → Nat) : PE → Value
  | .one c => c.den C ρ
  | .agg l => .agg (l.map (CE.den C ρ)).toArray
def PE.cells : PE → List CE
  | .one c => [c]
  | .agg l => l
def PE.blw (N : Cnt) (p : PE) : Bool := p.cells.all (CE.blw N)
def PE.plain (p : PE) : Bool := p.cells.all CE.plain
theorem map_den_blw {N : Cnt} {C D : Ctx} (h : Agr N C D) (ρ : Nat → Nat) (l : List CE) (hb : l.all (CE.blw N) = true) : l.map (CE.den C ρ) = l.map (CE.den D ρ) :=
  List.map_congr_left fun e he => e.den_blw h ρ (List.all_eq_true.1 hb e he)
theorem map_den_plain {C : Ctx} {ρ σ : Nat → Nat} (l : List CE) (hb : l.all CE.plain = true) : l.map (CE.den C ρ) = l.map (CE.den C σ) :=
  List.map_congr_left fun e he => e.den_plain (List.all_eq_true.1 hb e he)
theorem PE.den_blw {N : Cnt} {C D : Ctx} (h : Agr N C D) (ρ : Nat → Nat) : ∀ e : PE, e.blw N = true → e.den C ρ = e.den D ρ
  | .one c, hb => c.den_blw h ρ (by simpa [PE.blw, PE.cells] using hb)
  | .agg l, hb => by simp only [PE.den, map_den_blw h ρ l hb]
theorem PE.den_plain {C : Ctx} {ρ σ : Nat → Nat} : ∀ e : PE, e.plain = true → e.den C ρ = e.den C σ
  | .one c, hb => c.den_plain (by simpa [PE.plain, PE.cells] using hb)
  | .agg l, hb => by simp only [PE.den, map_den_plain (σ := σ) l hb]
/-- What a slot holds: nothing that is known; a value; several; a value where some slots hold these truth values. -/
inductive VE where
  | dead | p (x : PE) | tup (l : List PE) | wg (gs : List (Nat × Bool)) (x : PE)
  deriving DecidableEq
def VE.den (C : Ctx) (ρ : Nat → Nat) : VE → Value
  | .p x => x.den C ρ
  | .tup l => .tuple (l.map (PE.den C ρ)).toArray
  | _ => undef
def VE.holds (C : Ctx) (ρ : Nat → Nat) (t : Array Value) (u : Value) : VE → Prop
  | .dead => True
  | .p x => u = x.den C ρ
  | .tup l => u = .tuple (l.map (PE.den C ρ)).toArray
  | .wg gs x => ((∀ g ∈ gs, t.getD g.1 undef = .bool g.2) → u = x.den C ρ) ∧ (¬ (∀ g ∈ gs, t.getD g.1 undef = .bool g.2) → u = undef)
def VE.blw (N : Cnt) : VE → Bool
  | .dead => true
  | .p x => x.blw N
  | .tup l => l.all (PE.blw N)
  | .wg _ x => x.blw N
def VE.plain : VE → Bool
  | .dead => true
  | .p x => x.plain
  | .tup l => l.all PE.plain
  | .wg _ x => x.plain
theorem VE.holds_blw {N : Cnt} {C D : Ctx} (h : Agr N C D) (ρ : Nat → Nat) (t : Array Value) (u : Value) : ∀ e : VE, e.blw N = true → e.holds C ρ t u → e.holds D ρ t u
  | .dead, _, _ => trivial
  | .p x, hb, hh => by rw [VE.holds, ← x.den_blw h ρ hb]; exact hh
  | .tup l, hb, hh => by
    have : l.map (PE.den C ρ) = l.map (PE.den D ρ) := List.map_congr_left fun e he => e.den_blw h ρ (List.all_eq_true.1 hb e he)
    rw [VE.holds, ← this]; exact hh
  | .wg gs x, hb, hh => ⟨fun hg => by rw [← x.den_blw h ρ hb]; exact hh.1 hg, hh.2⟩

/-! ### States and formulas -/
/-- A block of the call's own. -/
structure Blk where
  cells : List CE
  ty : TypeId
  deriving DecidableEq
structure St where
  t : List VE
  m : List Blk
  n : Cnt
def St.blw (s : St) : Bool := s.t.all (VE.blw s.n) && s.m.all fun b => b.cells.all (CE.blw s.n)

/-- The values of a context's new names. -/
structure Got where
  i : List IE
  b : List BE
  s : List SE
  v : List CE
  l : List LE
  p : List CE

inductive Fm where
  | tt | ff
  | need (g c : BE) (k : Fm)
  | ite (b : BE) (t e : Fm)
  /-- A call; m: what was known of memory is to stay. -/
  | call (g : BE) (m : Bool) (f : FuncId) (args : List PE) (r : VE) (d : Cnt) (k : Fm)
  /-- A call; what was seen, and is looked at still, is to stay as it was. -/
  | callK (g : BE) (ks : List (BE × AE × Nat)) (f : FuncId) (args : List PE) (r : VE) (d : Cnt) (k : Fm)
  /-- A look into known memory. -/
  | load (g : BE) (a : AE) (n : Nat) (r : List CE) (d : Cnt) (k : Fm)
  /-- Known memory is written. -/
  | store (a : AE) (cs : List CE) (k : Fm)
  /-- A new block, known; its slice is the next one. -/
  | mk (cs : List CE) (ty : TypeId) (len : Nat) (k : Fm)
  /-- A new block of so many equal cells, known; its slice is the next one. -/
  | mks (n : IE) (z : CE) (ty : TypeId) (k : Fm)
  /-- Bytes that are made a string: the next one. -/
  | str (l : LE) (k : Fm)
  /-- A new block, known; its address is the next pointer. -/
  | new (cs : List CE) (ty : TypeId) (k : Fm)
  /-- An append to a slice whose block is the holder's alone; the new slice is the next one. -/
  | app (s y : LE) (sz bytes : Nat) (ty : TypeId) (k : Fm)
  /-- The same, of a string's bytes. -/
  | aps (s : LE) (y : SE) (ty : TypeId) (k : Fm)
  | ret (r : VE)
  | loop (o : Nat) (g : Got) (k : Fm)
  | again (o : Nat) (n0 n1 : Cnt) (g : Got)

/-- What is known outside: the callees, what is to be shown at the end, the loops' invariants and measures. -/
structure Env where
  spec : FuncId → List Value → Hp → (Value → Hp → Prop) → Prop
  post : Value → Hp → Prop
  inv : Nat → Ctx → Prop
  meas : Nat → Ctx → Nat

def exL {α : Type} : Nat → (List α → Prop) → Prop
  | 0, φ => φ []
  | n + 1, φ => ∃ x, exL n fun l => φ (x :: l)
def allL {α : Type} : Nat → (List α → Prop) → Prop
  | 0, φ => φ []
  | n + 1, φ => ∀ x, allL n fun l => φ (x :: l)
theorem exL_iff {α : Type} (n : Nat) : ∀ φ : List α → Prop, exL n φ ↔ ∃ l, l.length = n ∧ φ l := by
  induction n with
  | zero => intro φ; simp only [exL]; exact ⟨fun h => ⟨[], rfl, h⟩, fun ⟨l, h, hφ⟩ => by rw [List.length_eq_zero_iff] at h; rwa [h] at hφ⟩
  | succ n ih =>
    intro φ
    simp only [exL, ih]
    constructor
    · rintro ⟨x, l, h, hφ⟩; exact ⟨x :: l, by simp [h], hφ⟩
    · rintro ⟨l, h, hφ⟩
      cases l with
      | nil => simp at h
      | cons x l => exact ⟨x, l, by simpa using h, hφ⟩
theorem allL_iff {α : Type} (n : Nat) : ∀ φ : List α → Prop, allL n φ ↔ ∀ l, l.length = n → φ l := by
  induction n with
  | zero => intro φ; simp only [allL]; exact ⟨fun h l hl => by rw [List.length_eq_zero_iff] at hl; rwa [hl], fun h => h [] rfl⟩
  | succ n ih =>
    intro φ
    simp only [allL, ih]
    constructor
    · intro h l hl
      cases l with
      | nil => simp at hl
      | cons x l => exact h x l (by simpa using hl)
    · intro h x l hl; exact h (x :: l) (by simp [hl])

/-- More names. -/
structure Inc where
  i : List Int
  b : List Bool
  s : List (List UInt8)
  v : List Value
  l : List Slc
  p : List (Option (Nat × Nat))
def Inc.cnt (x : Inc) : Cnt := ⟨x.i.length, x.b.length, x.s.length, x.v.length, x.l.length, x.p.length⟩
def Ctx.push (C : Ctx) (x : Inc) : Ctx := ⟨C.i ++ x.i, C.b ++ x.b, C.s ++ x.s, C.v ++ x.v, C.l ++ x.l, C.p ++ x.p, C.h, C.m⟩
def Ctx.cut (C : Ctx) (n : Cnt) : Ctx := ⟨C.i.take n.i, C.b.take n.b, C.s.take n.s, C.v.take n.v, C.l.take n.l, C.p.take n.p, C.h, C.m⟩
def Ctx.heap (C : Ctx) (h : Hp) : Ctx := ⟨C.i, C.b, C.s, C.v, C.l, C.p, h, C.m⟩
def noM : Nat → Nat := fun _ => 0
/-- Without the measures. -/
def Ctx.bare (C : Ctx) : Ctx := ⟨C.i, C.b, C.s, C.v, C.l, C.p, C.h, noM⟩
def Ctx.mark (C : Ctx) (o n : Nat) : Ctx := ⟨C.i, C.b, C.s, C.v, C.l, C.p, C.h, fun k => if k = o then n else C.m k⟩
/-- Values of one cell. -/
def Ones (vs : List Value) : Prop := ∀ u ∈ vs, u.oneCell' = true
def exI (d : Cnt) (φ : Inc → Prop) : Prop := exL d.i fun i => exL d.b fun b => exL d.s fun s => exL d.v fun v => exL d.l fun l => exL d.p fun p => Ones v ∧ φ ⟨i, b, s, v, l, p⟩
def allI (d : Cnt) (φ : Inc → Prop) : Prop := allL d.i fun i => allL d.b fun b => allL d.s fun s => allL d.v fun v => allL d.l fun l => allL d.p fun p => Ones v → φ ⟨i, b, s, v, l, p⟩
theorem exI_iff (d : Cnt) (φ : Inc → Prop) : exI d φ ↔ ∃ x : Inc, x.cnt = d ∧ Ones x.v ∧ φ x := by
  unfold exI
  simp only [exL_iff]
  constructor
  · rintro ⟨i, hi, b, hb, s, hs, v, hv, l, hl, p, hp, ho, h⟩
    exact ⟨⟨i, b, s, v, l, p⟩, by simp [Inc.cnt, hi, hb, hs, hv, hl, hp], ho, h⟩
  · rintro ⟨⟨i, b, s, v, l, p⟩, rfl, ho, h⟩
    exact ⟨i, rfl, b, rfl, s, rfl, v, rfl, l, rfl, p, rfl, ho, h⟩
theorem allI_iff (d : Cnt) (φ : Inc → Prop) : allI d φ ↔ ∀ x : Inc, x.cnt = d → Ones x.v → φ x := by
  unfold allI
  simp only [allL_iff]
  constructor
  · rintro h ⟨i, b, s, v, l, p⟩ rfl ho
    exact h i rfl b rfl s rfl v rfl l rfl p rfl ho
  · rintro h i hi b hb s hs v hv l hl p hp ho
    exact h ⟨i, b, s, v, l, p⟩ (by simp [Inc.cnt, hi, hb, hs, hv, hl, hp]) ho
def Inc.blank (d : Cnt) : Inc := ⟨List.replicate d.i 0, List.replicate d.b false, List.replicate d.s [], List.replicate d.v (.pointer none), List.replicate d.l ⟨none, 0, 0⟩, List.replicate d.p none⟩
def noOwn : Nat → Nat := fun _ => 0
def noHeap : Hp := fun _ => none
/-- A pointer's address. -/
def ptrOf : Value → Option (Nat × Nat)
  | .pointer (some a) => some (a.block, a.off)
  | _ => none
def Got.den (g : Got) (C : Ctx) : Inc := ⟨g.i.map (IE.den C), g.b.map (BE.den C), g.s.map (SE.den C), g.v.map (CE.den C noOwn), g.l.map (LE.den C), g.p.map fun c => ptrOf (c.den C noOwn)⟩
def Got.cnt (g : Got) : Cnt := ⟨g.i.length, g.b.length, g.s.length, g.v.length, g.l.length, g.p.length⟩
/-- So many cells from an address on. -/
def hread (h : Hp) (a : Option (Nat × Nat)) (n : Nat) : Option (List Value) :=
  match a with
  | some x => match h x.1 with
    | some o => if x.2 + n ≤ o.cs.length then some ((o.cs.drop x.2).take n) else none
    | none => none
  | none => none
def hwrite (h : Hp) (a : Option (Nat × Nat)) (cs : List Value) : Option Hp :=
  match a with
  | some x => match h x.1 with
    | some o => if x.2 + cs.length ≤ o.cs.length ∧ o.ty < 1000000 then some (h.set x.1 ⟨o.cs.take x.2 ++ cs ++ o.cs.drop (x.2 + cs.length), o.ty⟩) else none
    | none => none
  | none => none
/-- What was known stays. -/
def HLe (h k : Hp) : Prop := ∀ b o, h b = some o → k b = some o

/-- A slice whose block is known whole, and what its elements' cells are. -/
def OwnS (h : Hp) (s : Slc) (xs : List Value) (ty : TypeId) (sz : Nat) : Prop :=
  (s = ⟨none, 0, 0⟩ ∧ xs = []) ∨ ∃ b o, s.a = some (b, 0) ∧ h b = some o ∧ o.ty = ty ∧ o.cs.length = s.c * sz ∧ s.n ≤ s.c ∧ s.c ≤ maxLen ∧ xs = o.cs.take (s.n * sz)
/-- What a slice's elements' cells are. -/
def RdS (h : Hp) (s : Slc) (ys : List Value) (sz : Nat) : Prop := (s.n = 0 ∧ ys = []) ∨ (s.a ≠ none ∧ hread h s.a (s.n * sz) = some ys)
/-- What bytes a slice holds. -/
def BytesAt (h : Hp) (s : Slc) (bs : List UInt8) : Prop := (s.a = none ∧ bs = []) ∨ hread h s.a s.n = some (bs.map fun c => .int .u8 c.toNat)
def Fm.says (E : Env) : Fm → Ctx → Prop
  | .tt, _ => True
  | .ff, _ => False
  | .need g c k, C => (g.den C = true → c.den C = true) ∧ k.says E C
  | .ite b t e, C => (b.den C = true → t.says E C) ∧ (b.den C = false → e.says E C)
  | .call g m f args r d k, C => (g.den C = true → E.spec f (args.map (PE.den C noOwn)) C.h fun v h => (m = true → HLe C.h h) ∧ exI d fun x => v = r.den (C.push x) noOwn ∧ k.says E ((C.push x).heap h)) ∧ (g.den C = false → k.says E (C.push (Inc.blank d)))
  | .callK g ks f args r d k, C => (g.den C = true → E.spec f (args.map (PE.den C noOwn)) C.h fun v h => (∀ x ∈ ks, x.1.den C = true → hread h (x.2.1.den C) x.2.2 = hread C.h (x.2.1.den C) x.2.2) ∧ exI d fun x => v = r.den (C.push x) noOwn ∧ k.says E ((C.push x).heap h)) ∧ (g.den C = false → k.says E (C.push (Inc.blank d)))
  | .load g a n r d k, C => (g.den C = true → exI d fun x => hread C.h (a.den C) n = some (r.map (CE.den (C.push x) noOwn)) ∧ k.says E (C.push x)) ∧ (g.den C = false → k.says E (C.push (Inc.blank d)))
  | .store a cs k, C => ∃ h, hwrite C.h (a.den C) (cs.map (CE.den C noOwn)) = some h ∧ k.says E (C.heap h)
  | .mk cs ty len k, C => ∀ b, C.h b = none → k.says E ((C.push ⟨[], [], [], [], [⟨some (b, 0), len, len⟩], []⟩).heap (C.h.set b ⟨cs.map (CE.den C noOwn), ty⟩))
  | .mks n z ty k, C => 0 ≤ n.den C ∧ n.den C ≤ 16777216 ∧ ∀ b, C.h b = none → k.says E ((C.push ⟨[], [], [], [], [⟨some (b, 0), (n.den C).toNat, (n.den C).toNat⟩], []⟩).heap (C.h.set b ⟨List.replicate (n.den C).toNat (z.den C noOwn), ty⟩))
  | .str l k, C => ∃ bs, BytesAt C.h (l.den C) bs ∧ k.says E (C.push ⟨[], [], [bs], [], [], []⟩)
  | .new cs ty k, C => ∀ b, C.h b = none → k.says E ((C.push ⟨[], [], [], [], [], [some (b, 0)]⟩).heap (C.h.set b ⟨cs.map (CE.den C noOwn), ty⟩))
  | .app s y sz bytes ty k, C => ∃ xs ys, OwnS C.h (s.den C) xs ty sz ∧ RdS C.h (y.den C) ys sz ∧ Ones ys ∧ (s.den C).n + (y.den C).n ≤ maxLen ∧ ((s.den C).n + (y.den C).n) * bytes ≤ 140737488355328 ∧
    ∀ s' h, OwnS h s' (xs ++ ys) ty sz → s'.n = (s.den C).n + (y.den C).n → (∀ x, s'.a = some x → (∃ z, (s.den C).a = some z ∧ z.1 = x.1) ∨ C.h x.1 = none) → (∀ b o, (∀ x, (s.den C).a = some x → x.1 ≠ b) → C.h b = some o → h b = some o) → k.says E ((C.push ⟨[], [], [], [], [s'], []⟩).heap h)
  | .aps s y ty k, C => ∃ xs, OwnS C.h (s.den C) xs ty 1 ∧ (s.den C).n + (y.den C).length ≤ 2000000000000 ∧
    ∀ s' h, OwnS h s' (xs ++ (y.den C).map fun c => Value.int .u8 c.toNat) ty 1 → s'.n = (s.den C).n + (y.den C).length → (∀ x, s'.a = some x → (∃ z, (s.den C).a = some z ∧ z.1 = x.1) ∨ C.h x.1 = none) → (∀ b o, (∀ x, (s.den C).a = some x → x.1 ≠ b) → C.h b = some o → h b = some o) → k.says E ((C.push ⟨[], [], [], [], [s'], []⟩).heap h)
  | .ret r, C => E.post (r.den C noOwn) C.h
  | .loop o g k, C => E.inv o (C.push (g.den C)).bare ∧ allI g.cnt fun x => ∀ h, E.inv o ((C.push x).heap h).bare → k.says E (((C.push x).heap h).mark o (E.meas o ((C.push x).heap h).bare))
  | .again o n0 _ g, C => E.inv o ((C.cut n0).push (g.den C)).bare ∧ E.meas o ((C.cut n0).push (g.den C)).bare < C.m o
end Go.Proofs.YtcfopechdlgioaaGreatDoor
