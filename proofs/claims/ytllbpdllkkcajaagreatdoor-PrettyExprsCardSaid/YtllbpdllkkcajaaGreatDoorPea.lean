/- hindcastlaw07: texts joined: Base, EngA, EngB, EngC, EngD, EngE, EngR. -/
import Derived.Test.YtllbpdllkkcajaaGreatDoorRows
import Derived.WalkKit
import Derived.WalkSpells
import Derived.WalkLawsBesides
import Derived.Deep.RegionHeld3
import Derived.Deep.QuietTactic
import Derived.BigQuiet
import Derived.Lib.Hide
import Derived.Laws.StructEq
import Derived.Laws.AppendOwn
import Derived.Laws.BytesString
import Derived.Laws.MakeOwn
import Derived.Lib.AppendStr
import Derived.Orders
import Derived.Carry
import Derived.MapKept
import Derived.Deep.LoopGhost
import Derived.ScopeJumps
import Derived.Shelf.Strings.Builder1
import Derived.Shelf.Strings.Builder2
import Derived.Shelf.Strings.Trim
import Derived.Shelf.Small.Utf8
import Derived.Shelf.Small.Strs
import Derived.Shelf.Strings.BuilderF
import Derived.Shelf.Strings.BuilderK
import Derived.Shelf.Strings.Builder2Cap
import Derived.Shelf.Strings.Search1
import Derived.Shelf.Strings.Prefix
import Derived.Shelf.Unicode.Decode
import Derived.Shelf.Strings.Runes
import Derived.Shelf.Strings.AsciiSet
import Derived.Shelf.Bits.Mul64
import Derived.Shelf.Strings.Repeat
import Derived.Shelf.Unicode.DecodeSlow
import Derived.Shelf.Unicode.DecodeAny
import Derived.Shelf.Strings.BuilderCap
import Derived.Test.YtllbpdllkkcajaaGreatDoorProg
import Derived.Lib.OthersKept
import Derived.Laws.Runes
import Derived.Laws.RangeAny
import Derived.Deep.Slices
import Derived.Deep.Fields
import Derived.ChangeSame
import Derived.Test.YtllbpdllkkcajaaGreatDoorCards
import Derived.Test.YtllbpdllkkcajaaGreatDoorTie
import Derived.ProofKit
import Derived.OpenShut
import Derived.Deep.DeepHandedRow
import Derived.Lib.LaidTab
import Derived.Lib.LaidU8
import Derived.PinnedBridge
import Derived.Lib.SmallJoins
namespace Go.Proofs.YtllbpdllkkcajaaGreatDoor
open Go.RowKit
def B (l:List UInt8):ByteArray:=⟨l.toArray⟩
def bt (l:List UInt8) (i:Nat):Int:=((l.getD i 0).toNat:Int)
theorem Px (l:List UInt8):ByteArray.mk l.toArray=B l:=rfl
theorem dW (l:List UInt8):(B l).size=l.length:=by simp[B,ByteArray.size]
theorem fF (l:List UInt8):(B l).toList=l:=by rw[B,ByteArray.toList_mk]
theorem gm (l:List UInt8) (a b:Nat):(B l).extract a b=B ((l.take b).drop a):=by
 rw[B,ByteArray.extract_mk,B,List.drop_take]
theorem kC (a b:List UInt8):B a++B b=B (a++b):=by
 apply ByteArray.ext;simp[B]
theorem rX (l:List UInt8) (i:Nat) (h:i<(B l).size):(((B l)[i]'h).toNat:Int)=bt l i:=by
 have h':i<l.length:=by rw[dW] at h;exact h
 have e:(B l)[i]'h=l[i]:=by show l.toArray[i]=_;simp
 rw[bt,e,List.getD_eq_getElem?_getD,List.getElem?_eq_getElem h'];rfl
attribute [local go_sem] Px dW fF gm kC rX
theorem Zi (l:List UInt8) (i:Nat):0<=bt l i:=by unfold bt;omega
theorem Zh (l:List UInt8) (i:Nat):bt l i<=255:=by
 unfold bt;have:=(l.getD i 0).toNat_lt;omega
theorem jS (c:UInt8) (l:List UInt8):bt (c::l) 0=(c.toNat:Int):=by simp[bt]
theorem Xv (c:UInt8) (l:List UInt8) (i:Nat):bt (c::l) (i+1)=bt l i:=by simp[bt]
theorem Dn (l:List UInt8) (k i:Nat):bt (l.drop k) i=bt l (k+i):=by simp[bt]
theorem I4 (s:ByteArray):s=B s.data.toList:=by
 apply ByteArray.ext;simp[B]
theorem RX {P:Program} (x y:List UInt8) (h:x.length+y.length<=9223372036854775807) (w:World):(Op.stringOp .add (B x) (B y)).run P w=.ok (.string (B (x++y))) w:=by
 rw[run_string_add_sum w _ _ (by rw[dW,dW];exact h),kC]
theorem YV {k:IntKind} {a b:Int} (h:a=b):Ending.returned (.int k a)=.returned (.int k b):=by rw[h]
theorem MB {W w1:World} (hb:Below W.heap.size W w1):(∀ b o,b<W.heap.size->w1.cell? ⟨b,o,none⟩=W.cell? ⟨b,o,none⟩)/\(∀ b o,b<W.heap.size->w1.frozen? ⟨b,o,none⟩=W.frozen? ⟨b,o,none⟩):=
 ⟨fun b o h=>hb.cell (p:=⟨b,o,none⟩) h,fun b o h=>hb.frozen (p:=⟨b,o,none⟩) h⟩
theorem below_draws {B:Nat} {a w:World} (h:Below B a w) (n:Nat):Below B a (w.drewN n):=⟨h.os,h.tape,h.output,h.size,h.block⟩
def was (w:World) (b o:Nat):Value:=(w.cell? ⟨b,o,none⟩).getD undef
theorem Xj {w:World} {b o:Nat} {v:Value} (h:w.cell? ⟨b,o,none⟩=some v):w.cell? ⟨b,o,none⟩=some (was w b o):=by
 unfold was;rw[h];rfl
theorem SC {w:World} {b o:Nat} (p:Addr) (v:Value) (h:w.cell? ⟨b,o,none⟩=some (was w b o)):(w.setCell p v).cell? ⟨b,o,none⟩=some (was (w.setCell p v) b o):=by
 obtain⟨u,hu⟩:=cell?_setCell_some (w:=w) (p:=p) (x:=v) (q:=⟨b,o,none⟩) (v:=was w b o) h;exact Xj hu
theorem vZ {P:Program} (w:World) (src dst e:TypeId) (b off c:Nat) (l:List UInt8)
 (hs:P.underlying src=some (.slice e)) (he:P.underlying e=some (.int .u8)) (hd:P.underlying dst=some .string)
 (h:∀ j,j<l.length->w.cell? ⟨b,off+j,none⟩=some (.int .u8 (bt l j))):
 (convert src dst (.slice (some ⟨b,off,none⟩) l.length c)).run P w=.ok (.string (B l)) w:=by
 rw[run_convert_bytes_string w src dst e _ _ _ hs he hd];have hl:(loadCells ⟨b,off,none⟩ l.length).run P w=.ok ((l.map fun c=>(c.toNat:Int)).map (Value.int .u8)).toArray w:=by
  have:=run_loadCells_list (P:=P) w ⟨b,off,none⟩ ((l.map fun c=>(c.toNat:Int)).map (Value.int .u8)) (by
   intro j v hv;have hj:j<l.length:=by
    have:=List.getElem?_eq_some_iff.1 hv;obtain⟨h1,_⟩:=this;simpa using h1
   have e1:=h j hj;have e2:v=.int .u8 (bt l j):=by
    simp only[List.map_map,List.getElem?_map,List.getElem?_eq_getElem hj,Option.map_some,Option.some.injEq] at hv;rw[<- hv,bt,List.getD_eq_getElem?_getD,List.getElem?_eq_getElem hj];rfl
   rw[e2,<- e1];unfold Addr.add;by_cases hj0:j=0<;>simp[hj0])
  simpa using this
 rw[run_bytesToString w _ _ _ _ hl];congr 2;have hgen:∀ (l:List UInt8) (s:ByteArray),(l.map fun c=>(c.toNat:Int)).foldl (fun r n=>r.push (UInt8.ofNat n.toNat)) s=s++B l:=by
  intro l
  induction l with
  | nil=>intro s;apply ByteArray.ext;simp[B]
  | cons c l ih=>
    intro s;simp only[List.map_cons,List.foldl_cons];rw[ih];apply ByteArray.ext;simp[B,ByteArray.data_append]
 rw[hgen];apply ByteArray.ext;simp[B]
mutual
inductive IE where
 | x (n:Nat) | c (n:Int) | add (a b:IE) | sub (a b:IE) | mul (a b:IE) | wr (k:IntKind) (a:IE) | quo (a b:IE) | rem (a b:IE) | bits (o:BinOp) (k:IntKind) (a b:IE) | sh (o:BinOp) (k:IntKind) (a b:IE) | len (s:SE) | at (s:SE) (i:IE) | cnt (l:LE) | cap (l:LE) | ite (b:BE) (p q:IE)
 deriving DecidableEq
inductive BE where
 | x (n:Nat) | c (b:Bool) | not (a:BE) | and (a b:BE) | or (a b:BE) | imp (a b:BE) | eqI (a b:IE) | lt (a b:IE) | le (a b:IE) | eqB (a b:BE) | eqS (s t:SE) | ltS (s t:SE) | nns (l:LE) | nnp (n:Nat) | ite (b p q:BE)
 deriving DecidableEq
inductive SE where
 | x (n:Nat) | c (l:List Nat) | app (a b:SE) | sub (s:SE) (lo hi:IE) | ite (b:BE) (p q:SE)
 deriving DecidableEq
inductive LE where
 | x (n:Nat) | nil | sub (l:LE) (lo hi:IE) (sz:Nat)
 deriving DecidableEq
end
structure bM where
 a:Option (Nat×Nat)
 n:Nat
 c:Nat
def bM.val (s:bM):Value:=.slice (s.a.map fun x=>⟨x.1,x.2,none⟩) s.n s.c
structure HO where
 cs:List Value
 ty:TypeId
abbrev Hp:=Nat->Option HO
abbrev ro:TypeId:=1000003
structure Rw where
 t:TypeId
 ne:t≠1000003
instance:Coe Rw TypeId:=⟨Rw.t⟩
@[simp] theorem abG (a b:Rw):(a.t=b.t)=(a=b):=by
 cases a;cases b;simp
@[simp] theorem abL (a:Rw):(a.t=1000003)=False:=eq_false a.ne
def Hp.set (h:Hp) (b:Nat) (o:HO):Hp:=fun k=>if k=b then some o else h k
def Hp.del (h:Hp) (b:Nat):Hp:=fun k=>if k=b then none else h k
structure Ctx where
 i:List Int
 b:List Bool
 s:List (List UInt8)
 v:List Value
 l:List bM
 p:List (Option (Nat×Nat))
 h:Hp
 m:Nat->Nat
def Ob (a b:Int):Bool:=decide (a<b)
def leB (a b:Int):Bool:=decide (a<=b)
theorem kJ (a b:Int):(Ob a b=true)=(a<b):=by simp[Ob]
theorem fO (a b:Int):(leB a b=true)=(a<=b):=by simp[leB]
theorem U8 (a b:Int):(Ob a b=false)=(b<=a):=by simp[Ob]
theorem aaZ (a b:Int):(leB a b=false)=(b<a):=by simp[leB]
def UZ (o:BinOp) (k:IntKind) (x y:Int):Int:=
 let a:=BitVec.ofInt k.bits x
 let b:=BitVec.ofInt k.bits y
 match o with
 | .and=>k.wrap (a &&& b).toNat
 | .or=>k.wrap (a ||| b).toNat
 | .xor=>k.wrap (a ^^^ b).toNat
 | .andNot=>k.wrap (a &&& ~~~b).toNat
 | _=>0
def Kv (o:BinOp) (k:IntKind) (x y:Int):Int:=
 match o with
 | .shl=>k.wrap (x*2 ^ min y.toNat k.bits)
 | .shr=>x.fdiv (2 ^ min y.toNat k.bits)
 | _=>0
mutual
def IE.den (C:Ctx):IE->Int
 | .x n=>C.i.getD n 0
 | .c n=>n
 | .add a b=>a.den C+b.den C
 | .sub a b=>a.den C - b.den C
 | .mul a b=>a.den C*b.den C
 | .wr k a=>k.wrap (a.den C)
 | .quo a b=>(a.den C).tdiv (b.den C)
 | .rem a b=>(a.den C).tmod (b.den C)
 | .bits o k a b=>UZ o k (a.den C) (b.den C)
 | .sh o k a b=>Kv o k (a.den C) (b.den C)
 | .len s=>((s.den C).length:Nat)
 | .at s i=>bt (s.den C) (i.den C).toNat
 | .cnt l=>((l.den C).n:Nat)
 | .cap l=>((l.den C).c:Nat)
 | .ite b p q=>bif b.den C then p.den C else q.den C
def BE.den (C:Ctx):BE->Bool
 | .x n=>C.b.getD n false
 | .c n=>n
 | .not a=>!a.den C
 | .and a b=>a.den C&&b.den C
 | .or a b=>a.den C||b.den C
 | .imp a b=>!a.den C||b.den C
 | .eqI a b=>a.den C==b.den C
 | .lt a b=>Ob (a.den C) (b.den C)
 | .le a b=>leB (a.den C) (b.den C)
 | .eqB a b=>a.den C==b.den C
 | .eqS a b=>a.den C==b.den C
 | .ltS a b=>Op.bytesLess (a.den C) (b.den C)
 | .nns l=>(l.den C).a.isSome
 | .nnp n=>(C.p.getD n none).isSome
 | .ite b p q=>bif b.den C then p.den C else q.den C
def SE.den (C:Ctx):SE->List UInt8
 | .x n=>C.s.getD n []
 | .c n=>n.map UInt8.ofNat
 | .app a b=>a.den C++b.den C
 | .sub s lo hi=>((s.den C).take (hi.den C).toNat).drop (lo.den C).toNat
 | .ite b p q=>bif b.den C then p.den C else q.den C
def LE.den (C:Ctx):LE->bM
 | .x n=>C.l.getD n ⟨none,0,0⟩
 | .nil=>⟨none,0,0⟩
 | .sub l lo hi sz=>⟨if (l.den C).c=(lo.den C).toNat then (l.den C).a else (l.den C).a.map fun x=>(x.1,x.2+(lo.den C).toNat*sz),(hi.den C).toNat - (lo.den C).toNat,(l.den C).c - (lo.den C).toNat⟩
end
structure Cnt where
 i:Nat
 b:Nat
 s:Nat
 v:Nat
 l:Nat
 p:Nat
 deriving DecidableEq
mutual
def IE.blw (N:Cnt):IE->Bool
 | .x n=>decide (n<N.i)
 | .c _=>true
 | .add x y=>x.blw N&&y.blw N
 | .sub x y=>x.blw N&&y.blw N
 | .mul x y=>x.blw N&&y.blw N
 | .wr _ x=>x.blw N
 | .quo x y=>x.blw N&&y.blw N
 | .rem x y=>x.blw N&&y.blw N
 | .bits _ _ x y=>x.blw N&&y.blw N
 | .sh _ _ x y=>x.blw N&&y.blw N
 | .len x=>x.blw N
 | .at x y=>x.blw N&&y.blw N
 | .cnt l=>l.blw N
 | .cap l=>l.blw N
 | .ite x y z=>x.blw N&&y.blw N&&z.blw N
def BE.blw (N:Cnt):BE->Bool
 | .x n=>decide (n<N.b)
 | .c _=>true
 | .not x=>x.blw N
 | .and x y=>x.blw N&&y.blw N
 | .or x y=>x.blw N&&y.blw N
 | .imp x y=>x.blw N&&y.blw N
 | .eqI x y=>x.blw N&&y.blw N
 | .lt x y=>x.blw N&&y.blw N
 | .le x y=>x.blw N&&y.blw N
 | .eqB x y=>x.blw N&&y.blw N
 | .eqS x y=>x.blw N&&y.blw N
 | .ltS x y=>x.blw N&&y.blw N
 | .nns l=>l.blw N
 | .nnp n=>decide (n<N.p)
 | .ite x y z=>x.blw N&&y.blw N&&z.blw N
def SE.blw (N:Cnt):SE->Bool
 | .x n=>decide (n<N.s)
 | .c _=>true
 | .app x y=>x.blw N&&y.blw N
 | .sub x y z=>x.blw N&&y.blw N&&z.blw N
 | .ite x y z=>x.blw N&&y.blw N&&z.blw N
def LE.blw (N:Cnt):LE->Bool
 | .x n=>decide (n<N.l)
 | .nil=>true
 | .sub x y z _=>x.blw N&&y.blw N&&z.blw N
end
structure CY (N:Cnt) (C D:Ctx):Prop where
 i:∀ n,n<N.i->C.i.getD n 0=D.i.getD n 0
 b:∀ n,n<N.b->C.b.getD n false=D.b.getD n false
 s:∀ n,n<N.s->C.s.getD n []=D.s.getD n []
 v:∀ n,n<N.v->C.v.getD n undef=D.v.getD n undef
 l:∀ n,n<N.l->C.l.getD n ⟨none,0,0⟩=D.l.getD n ⟨none,0,0⟩
 p:∀ n,n<N.p->C.p.getD n none=D.p.getD n none
mutual
theorem IE.aH {N:Cnt} {C D:Ctx} (h:CY N C D):∀ e:IE,e.blw N=true->e.den C=e.den D
 | .x n,hb=>h.i n (by simpa[IE.blw] using hb)
 | .c _,_=>rfl
 | .add x y,hb=>by simp only[IE.blw,Bool.and_eq_true] at hb;simp only[IE.den,IE.aH h x hb.1,IE.aH h y hb.2]
 | .sub x y,hb=>by simp only[IE.blw,Bool.and_eq_true] at hb;simp only[IE.den,IE.aH h x hb.1,IE.aH h y hb.2]
 | .mul x y,hb=>by simp only[IE.blw,Bool.and_eq_true] at hb;simp only[IE.den,IE.aH h x hb.1,IE.aH h y hb.2]
 | .wr _ x,hb=>by simp only[IE.den,IE.aH h x (by simpa[IE.blw] using hb)]
 | .quo x y,hb=>by simp only[IE.blw,Bool.and_eq_true] at hb;simp only[IE.den,IE.aH h x hb.1,IE.aH h y hb.2]
 | .rem x y,hb=>by simp only[IE.blw,Bool.and_eq_true] at hb;simp only[IE.den,IE.aH h x hb.1,IE.aH h y hb.2]
 | .bits _ _ x y,hb=>by simp only[IE.blw,Bool.and_eq_true] at hb;simp only[IE.den,IE.aH h x hb.1,IE.aH h y hb.2]
 | .sh _ _ x y,hb=>by simp only[IE.blw,Bool.and_eq_true] at hb;simp only[IE.den,IE.aH h x hb.1,IE.aH h y hb.2]
 | .len x,hb=>by simp only[IE.den,SE.aH h x (by simpa[IE.blw] using hb)]
 | .at x y,hb=>by simp only[IE.blw,Bool.and_eq_true] at hb;simp only[IE.den,SE.aH h x hb.1,IE.aH h y hb.2]
 | .cnt l,hb=>by simp only[IE.den,LE.aH h l (by simpa[IE.blw] using hb)]
 | .cap l,hb=>by simp only[IE.den,LE.aH h l (by simpa[IE.blw] using hb)]
 | .ite x y z,hb=>by simp only[IE.blw,Bool.and_eq_true] at hb;simp only[IE.den,BE.aH h x hb.1.1,IE.aH h y hb.1.2,IE.aH h z hb.2]
theorem BE.aH {N:Cnt} {C D:Ctx} (h:CY N C D):∀ e:BE,e.blw N=true->e.den C=e.den D
 | .x n,hb=>h.b n (by simpa[BE.blw] using hb)
 | .c _,_=>rfl
 | .not x,hb=>by simp only[BE.den,BE.aH h x (by simpa[BE.blw] using hb)]
 | .and x y,hb=>by simp only[BE.blw,Bool.and_eq_true] at hb;simp only[BE.den,BE.aH h x hb.1,BE.aH h y hb.2]
 | .or x y,hb=>by simp only[BE.blw,Bool.and_eq_true] at hb;simp only[BE.den,BE.aH h x hb.1,BE.aH h y hb.2]
 | .imp x y,hb=>by simp only[BE.blw,Bool.and_eq_true] at hb;simp only[BE.den,BE.aH h x hb.1,BE.aH h y hb.2]
 | .eqI x y,hb=>by simp only[BE.blw,Bool.and_eq_true] at hb;simp only[BE.den,IE.aH h x hb.1,IE.aH h y hb.2]
 | .lt x y,hb=>by simp only[BE.blw,Bool.and_eq_true] at hb;simp only[BE.den,IE.aH h x hb.1,IE.aH h y hb.2]
 | .le x y,hb=>by simp only[BE.blw,Bool.and_eq_true] at hb;simp only[BE.den,IE.aH h x hb.1,IE.aH h y hb.2]
 | .eqB x y,hb=>by simp only[BE.blw,Bool.and_eq_true] at hb;simp only[BE.den,BE.aH h x hb.1,BE.aH h y hb.2]
 | .eqS x y,hb=>by simp only[BE.blw,Bool.and_eq_true] at hb;simp only[BE.den,SE.aH h x hb.1,SE.aH h y hb.2]
 | .ltS x y,hb=>by simp only[BE.blw,Bool.and_eq_true] at hb;simp only[BE.den,SE.aH h x hb.1,SE.aH h y hb.2]
 | .nns l,hb=>by simp only[BE.den,LE.aH h l (by simpa[BE.blw] using hb)]
 | .nnp n,hb=>by simp only[BE.den,h.p n (by simpa[BE.blw] using hb)]
 | .ite x y z,hb=>by simp only[BE.blw,Bool.and_eq_true] at hb;simp only[BE.den,BE.aH h x hb.1.1,BE.aH h y hb.1.2,BE.aH h z hb.2]
theorem SE.aH {N:Cnt} {C D:Ctx} (h:CY N C D):∀ e:SE,e.blw N=true->e.den C=e.den D
 | .x n,hb=>h.s n (by simpa[SE.blw] using hb)
 | .c _,_=>rfl
 | .app x y,hb=>by simp only[SE.blw,Bool.and_eq_true] at hb;simp only[SE.den,SE.aH h x hb.1,SE.aH h y hb.2]
 | .sub x y z,hb=>by simp only[SE.blw,Bool.and_eq_true] at hb;simp only[SE.den,SE.aH h x hb.1.1,IE.aH h y hb.1.2,IE.aH h z hb.2]
 | .ite x y z,hb=>by simp only[SE.blw,Bool.and_eq_true] at hb;simp only[SE.den,BE.aH h x hb.1.1,SE.aH h y hb.1.2,SE.aH h z hb.2]
theorem LE.aH {N:Cnt} {C D:Ctx} (h:CY N C D):∀ e:LE,e.blw N=true->e.den C=e.den D
 | .x n,hb=>h.l n (by simpa[LE.blw] using hb)
 | .nil,_=>rfl
 | .sub x y z _,hb=>by simp only[LE.blw,Bool.and_eq_true] at hb;simp only[LE.den,LE.aH h x hb.1.1,IE.aH h y hb.1.2,IE.aH h z hb.2]
end
inductive AE where
 | pt (n off:Nat) | el (l:LE) (i:IE) (sz off:Nat)
 deriving DecidableEq
def AE.den (C:Ctx):AE->Option (Nat×Nat)
 | .pt n off=>(C.p.getD n none).map fun x=>(x.1,x.2+off)
 | .el l i sz off=>(l.den C).a.map fun x=>(x.1,x.2+(i.den C).toNat*sz+off)
def AE.blw (N:Cnt):AE->Bool
 | .pt n _=>decide (n<N.p)
 | .el l i _ _=>l.blw N&&i.blw N
theorem AE.aH {N:Cnt} {C D:Ctx} (h:CY N C D):∀ e:AE,e.blw N=true->e.den C=e.den D
 | .pt n _,hb=>by simp only[AE.den,h.p n (by simpa[AE.blw] using hb)]
 | .el l i _ _,hb=>by simp only[AE.blw,Bool.and_eq_true] at hb;simp only[AE.den,LE.aH h l hb.1,IE.aH h i hb.2]
def nI:Option (Nat×Nat)->Value
 | some x=>.pointer (some ⟨x.1,x.2,none⟩)
 | none=>undef
inductive KV where
 | undef | nilp | nilm | niliface | nilf | fn (f:Nat) | gl (g:Nat)
 deriving DecidableEq
def KV.val:KV->Value
 | .undef=>Go.undef
 | .nilp=>.pointer none
 | .nilm=>.map none
 | .niliface=>.nilIface
 | .nilf=>.nilFunc
 | .fn f=>.func (.func f) #[] #[]
 | .gl g=>.pointer (some ⟨g,0,none⟩)
inductive CE where
 | i (k:IntKind) (e:IE) | b (e:BE) | s (e:SE) | own (k o:Nat) | osl (k n:Nat) | v (n:Nat) | c (x:KV) | sl (l:LE) | pt (n:Nat) | adr (a:AE) | clo (f:Nat) (l:List Nat)
 deriving DecidableEq
def CE.den (C:Ctx) (ρ:Nat->Nat):CE->Value
 | .i k e=>.int k (e.den C)
 | .b e=>.bool (e.den C)
 | .s e=>.string (B (e.den C))
 | .own k o=>.pointer (some ⟨ρ k,o,none⟩)
 | .osl k n=>.slice (some ⟨ρ k,0,none⟩) n n
 | .v n=>C.v.getD n undef
 | .c x=>x.val
 | .sl l=>(l.den C).val
 | .pt n=>.pointer ((C.p.getD n none).map fun x=>⟨x.1,x.2,none⟩)
 | .adr a=>nI (a.den C)
 | .clo f l=>.func (.func f) #[] (l.map fun n=>Value.pointer ((C.p.getD n none).map fun x=>⟨x.1,x.2,none⟩)).toArray
def CE.blw (N:Cnt):CE->Bool
 | .i _ e=>e.blw N
 | .b e=>e.blw N
 | .s e=>e.blw N
 | .own _ _=>true
 | .osl _ _=>true
 | .v n=>decide (n<N.v)
 | .c _=>true
 | .sl l=>l.blw N
 | .pt n=>decide (n<N.p)
 | .adr a=>a.blw N
 | .clo _ l=>l.all fun n=>decide (n<N.p)
def CE.plain:CE->Bool
 | .own _ _=>false
 | .osl _ _=>false
 | _=>true
theorem CE.aH {N:Cnt} {C D:Ctx} (h:CY N C D) (ρ:Nat->Nat):∀ e:CE,e.blw N=true->e.den C ρ=e.den D ρ
 | .i _ e,hb=>by simp only[CE.den,e.aH h hb]
 | .b e,hb=>by simp only[CE.den,e.aH h hb]
 | .s e,hb=>by simp only[CE.den,e.aH h hb]
 | .own _ _,_=>rfl
 | .osl _ _,_=>rfl
 | .v n,hb=>h.v n (by simpa[CE.blw] using hb)
 | .c _,_=>rfl
 | .sl l,hb=>by simp only[CE.den,l.aH h hb]
 | .pt n,hb=>by simp only[CE.den,h.p n (by simpa[CE.blw] using hb)]
 | .adr a,hb=>by simp only[CE.den,a.aH h hb]
 | .clo f l,hb=>by
   simp only[CE.den];rw[List.map_congr_left fun n hn=>?_];rw[h.p n (by simpa[CE.blw] using List.all_eq_true.1 hb n hn)]
theorem CE.dY {C:Ctx} {ρ σ:Nat->Nat}:∀ e:CE,e.plain=true->e.den C ρ=e.den C σ
 | .i _ _,_=>rfl
 | .b _,_=>rfl
 | .s _,_=>rfl
 | .own _ _,h=>by cases h
 | .osl _ _,h=>by cases h
 | .v _,_=>rfl
 | .c _,_=>rfl
 | .sl _,_=>rfl
 | .pt _,_=>rfl
 | .adr _,_=>rfl
 | .clo _ _,_=>rfl
inductive PE where
 | one (c:CE) | agg (l:List CE)
 deriving DecidableEq
def PE.den (C:Ctx) (ρ:Nat->Nat):PE->Value
 | .one c=>c.den C ρ
 | .agg l=>.agg (l.map (CE.den C ρ)).toArray
def PE.cells:PE->List CE
 | .one c=>[c]
 | .agg l=>l
def PE.blw (N:Cnt) (p:PE):Bool:=p.cells.all (CE.blw N)
def PE.plain (p:PE):Bool:=p.cells.all CE.plain
theorem iO {N:Cnt} {C D:Ctx} (h:CY N C D) (ρ:Nat->Nat) (l:List CE) (hb:l.all (CE.blw N)=true):l.map (CE.den C ρ)=l.map (CE.den D ρ):=
 List.map_congr_left fun e he=>e.aH h ρ (List.all_eq_true.1 hb e he)
theorem qV {C:Ctx} {ρ σ:Nat->Nat} (l:List CE) (hb:l.all CE.plain=true):l.map (CE.den C ρ)=l.map (CE.den C σ):=
 List.map_congr_left fun e he=>e.dY (List.all_eq_true.1 hb e he)
theorem PE.aH {N:Cnt} {C D:Ctx} (h:CY N C D) (ρ:Nat->Nat):∀ e:PE,e.blw N=true->e.den C ρ=e.den D ρ
 | .one c,hb=>c.aH h ρ (by simpa[PE.blw,PE.cells] using hb)
 | .agg l,hb=>by simp only[PE.den,iO h ρ l hb]
theorem PE.dY {C:Ctx} {ρ σ:Nat->Nat}:∀ e:PE,e.plain=true->e.den C ρ=e.den C σ
 | .one c,hb=>c.dY (by simpa[PE.plain,PE.cells] using hb)
 | .agg l,hb=>by simp only[PE.den,qV (σ:=σ) l hb]
inductive VE where
 | dead | p (x:PE) | tup (l:List PE) | wg (gs:List (Nat×Bool)) (x:PE)
 deriving DecidableEq
def VE.den (C:Ctx) (ρ:Nat->Nat):VE->Value
 | .p x=>x.den C ρ
 | .tup l=>.tuple (l.map (PE.den C ρ)).toArray
 | _=>undef
def VE.holds (C:Ctx) (ρ:Nat->Nat) (t:Array Value) (u:Value):VE->Prop
 | .dead=>True
 | .p x=>u=x.den C ρ
 | .tup l=>u=.tuple (l.map (PE.den C ρ)).toArray
 | .wg gs x=>((∀ g∈gs,t.getD g.1 undef=.bool g.2)->u=x.den C ρ)/\(¬ (∀ g∈gs,t.getD g.1 undef=.bool g.2)->u=undef)
def VE.blw (N:Cnt):VE->Bool
 | .dead=>true
 | .p x=>x.blw N
 | .tup l=>l.all (PE.blw N)
 | .wg _ x=>x.blw N
def VE.plain:VE->Bool
 | .dead=>true
 | .p x=>x.plain
 | .tup l=>l.all PE.plain
 | .wg _ x=>x.plain
theorem VE.ql {N:Cnt} {C D:Ctx} (h:CY N C D) (ρ:Nat->Nat) (t:Array Value) (u:Value):∀ e:VE,e.blw N=true->e.holds C ρ t u->e.holds D ρ t u
 | .dead,_,_=>trivial
 | .p x,hb,hh=>by rw[VE.holds,<- x.aH h ρ hb];exact hh
 | .tup l,hb,hh=>by
   have:l.map (PE.den C ρ)=l.map (PE.den D ρ):=List.map_congr_left fun e he=>e.aH h ρ (List.all_eq_true.1 hb e he)
   rw[VE.holds,<- this];exact hh
 | .wg gs x,hb,hh=>⟨fun hg=>by rw[<- x.aH h ρ hb];exact hh.1 hg,hh.2⟩
structure oO where
 cells:List CE
 ty:TypeId
 deriving DecidableEq
structure St where
 t:List VE
 m:List oO
 n:Cnt
def St.blw (s:St):Bool:=s.t.all (VE.blw s.n)&&s.m.all fun b=>b.cells.all (CE.blw s.n)
structure kZ where
 i:List IE
 b:List BE
 s:List SE
 v:List CE
 l:List LE
 p:List CE
inductive Fm where
 | tt | ff
 | need (g c:BE) (k:Fm)
 | ite (b:BE) (t e:Fm)
 | call (g:BE) (m:Bool) (f:FuncId) (args:List PE) (r:VE) (d:Cnt) (k:Fm)
 | callK (g:BE) (ks:List (BE×AE×Nat)) (f:FuncId) (args:List PE) (r:VE) (d:Cnt) (k:Fm)
 | load (g:BE) (a:AE) (n:Nat) (r:List CE) (d:Cnt) (k:Fm)
 | store (a:AE) (cs:List CE) (k:Fm)
 | mk (cs:List CE) (ty:TypeId) (len:Nat) (k:Fm)
 | Zu (n:IE) (z:CE) (ty:TypeId) (k:Fm)
 | str (l:LE) (k:Fm)
 | new (cs:List CE) (ty:TypeId) (k:Fm)
 | app (s y:LE) (sz bytes:Nat) (ty:TypeId) (k:Fm)
 | aps (s:LE) (y:SE) (ty:TypeId) (k:Fm)
 | ret (r:VE)
 | loop (o:Nat) (g:kZ) (k:Fm)
 | again (o:Nat) (n0 n1:Cnt) (g:kZ)
abbrev z6:Cnt:=⟨0,0,0,0,0,0⟩
abbrev Fm.C (f:FuncId) (a:List PE) (r:VE) (d:Cnt) (k:Fm):Fm:=.call (.c true) false f a r d k
abbrev Fm.V (f:FuncId) (a:List PE) (k:Fm):Fm:=.call (.c true) false f a (.tup []) ⟨0,0,0,0,0,0⟩ k
abbrev Fm.N (c:BE) (k:Fm):Fm:=.need (.c true) c k
abbrev Fm.Z (n:Nat) (k:Fm):Fm:=.need (.c true) (.nnp n) k
abbrev Fm.O (a:AE) (n:Nat) (r:List CE) (d:Cnt) (k:Fm):Fm:=.load (.c true) a n r d k
abbrev Fm.E:Fm:=.ret (.tup [])
abbrev CE.J (n:Nat):CE:=.i .i64 (.x n)
abbrev CE.U (n:Nat):CE:=.i .u8 (.x n)
abbrev PE.J (n:Nat):PE:=.one (.i .i64 (.x n))
abbrev PE.I (e:IE):PE:=.one (.i .i64 e)
abbrev PE.P (n:Nat):PE:=.one (.pt n)
abbrev PE.L (n:Nat):PE:=.one (.sl (.x n))
abbrev PE.S (n:Nat):PE:=.one (.s (.x n))
abbrev PE.W (l:List Nat):PE:=.one (.s (.c l))
abbrev PE.B (n:Nat):PE:=.one (.b (.x n))
abbrev PE.K (a b c d e:Nat):PE:=.agg [.i .u8 (.x a),.i .i64 (.x b),.i .i64 (.x c),.i .i64 (.x d),.s (.x e)]
abbrev BE.R (e:IE):BE:=.and (.le (.c (-9223372036854775808)) e) (.le e (.c 9223372036854775807))
abbrev BE.X (i:IE) (l:LE):BE:=.and (.and (.le (.c 0) i) (.lt i (.cnt l))) (.nns l)
structure Env where
 spec:FuncId->List Value->Hp->(Value->Hp->Prop)->Prop
 post:Value->Hp->Prop
 inv:Nat->Ctx->Prop
 meas:Nat->Ctx->Nat
def Ud {α:Type}:Nat->(List α->Prop)->Prop
 | 0,φ=>φ []
 | n+1,φ=>∃ x,Ud n fun l=>φ (x::l)
def allL {α:Type}:Nat->(List α->Prop)->Prop
 | 0,φ=>φ []
 | n+1,φ=>∀ x,allL n fun l=>φ (x::l)
theorem XJ {α:Type} (n:Nat):∀ φ:List α->Prop,Ud n φ↔∃ l,l.length=n/\φ l:=by
 induction n with
 | zero=>intro φ;simp only[Ud];exact⟨fun h=>⟨[],rfl,h⟩,fun ⟨l,h,hφ⟩=>by rw[List.length_eq_zero_iff] at h;rwa [h] at hφ⟩
 | succ n ih=>
   intro φ;simp only[Ud,ih];constructor
   . rintro⟨x,l,h,hφ⟩;exact⟨x::l,by simp[h],hφ⟩
   . rintro⟨l,h,hφ⟩;cases l with
     | nil=>simp at h
     | cons x l=>exact⟨x,l,by simpa using h,hφ⟩
theorem Tf {α:Type} (n:Nat):∀ φ:List α->Prop,allL n φ↔∀ l,l.length=n->φ l:=by
 induction n with
 | zero=>intro φ;simp only[allL];exact⟨fun h l hl=>by rw[List.length_eq_zero_iff] at hl;rwa [hl],fun h=>h [] rfl⟩
 | succ n ih=>
   intro φ;simp only[allL,ih];constructor
   . intro h l hl;cases l with
     | nil=>simp at hl
     | cons x l=>exact h x l (by simpa using hl)
   . intro h x l hl;exact h (x::l) (by simp[hl])
structure Inc where
 i:List Int
 b:List Bool
 s:List (List UInt8)
 v:List Value
 l:List bM
 p:List (Option (Nat×Nat))
def Inc.cnt (x:Inc):Cnt:=⟨x.i.length,x.b.length,x.s.length,x.v.length,x.l.length,x.p.length⟩
def Ctx.push (C:Ctx) (x:Inc):Ctx:=⟨C.i++x.i,C.b++x.b,C.s++x.s,C.v++x.v,C.l++x.l,C.p++x.p,C.h,C.m⟩
def Ctx.cut (C:Ctx) (n:Cnt):Ctx:=⟨C.i.take n.i,C.b.take n.b,C.s.take n.s,C.v.take n.v,C.l.take n.l,C.p.take n.p,C.h,C.m⟩
def Ctx.heap (C:Ctx) (h:Hp):Ctx:=⟨C.i,C.b,C.s,C.v,C.l,C.p,h,C.m⟩
def cu:Nat->Nat:=fun _=>0
def Ctx.bare (C:Ctx):Ctx:=⟨C.i,C.b,C.s,C.v,C.l,C.p,C.h,cu⟩
def Ctx.mark (C:Ctx) (o n:Nat):Ctx:=⟨C.i,C.b,C.s,C.v,C.l,C.p,C.h,fun k=>if k=o then n else C.m k⟩
def eG (vs:List Value):Prop:=∀ u∈vs,u.oneCell'=true
def DL (d:Cnt) (φ:Inc->Prop):Prop:=Ud d.i fun i=>Ud d.b fun b=>Ud d.s fun s=>Ud d.v fun v=>Ud d.l fun l=>Ud d.p fun p=>eG v/\φ ⟨i,b,s,v,l,p⟩
def Xt (d:Cnt) (φ:Inc->Prop):Prop:=allL d.i fun i=>allL d.b fun b=>allL d.s fun s=>allL d.v fun v=>allL d.l fun l=>allL d.p fun p=>eG v->φ ⟨i,b,s,v,l,p⟩
theorem bn (d:Cnt) (φ:Inc->Prop):DL d φ↔∃ x:Inc,x.cnt=d/\eG x.v/\φ x:=by
 unfold DL;simp only[XJ];constructor
 . rintro⟨i,hi,b,hb,s,hs,v,hv,l,hl,p,hp,ho,h⟩;exact⟨⟨i,b,s,v,l,p⟩,by simp[Inc.cnt,hi,hb,hs,hv,hl,hp],ho,h⟩
 . rintro⟨⟨i,b,s,v,l,p⟩,rfl,ho,h⟩;exact⟨i,rfl,b,rfl,s,rfl,v,rfl,l,rfl,p,rfl,ho,h⟩
theorem xH (d:Cnt) (φ:Inc->Prop):Xt d φ↔∀ x:Inc,x.cnt=d->eG x.v->φ x:=by
 unfold Xt;simp only[Tf];constructor
 . rintro h ⟨i,b,s,v,l,p⟩ rfl ho;exact h i rfl b rfl s rfl v rfl l rfl p rfl ho
 . rintro h i hi b hb s hs v hv l hl p hp ho;exact h ⟨i,b,s,v,l,p⟩ (by simp[Inc.cnt,hi,hb,hs,hv,hl,hp]) ho
def Inc.blank (d:Cnt):Inc:=⟨List.replicate d.i 0,List.replicate d.b false,List.replicate d.s [],List.replicate d.v (.pointer none),List.replicate d.l ⟨none,0,0⟩,List.replicate d.p none⟩
def bg:Nat->Nat:=fun _=>0
def yU:Hp:=fun _=>none
def qX:Value->Option (Nat×Nat)
 | .pointer (some a)=>some (a.block,a.off)
 | _=>none
def kZ.den (g:kZ) (C:Ctx):Inc:=⟨g.i.map (IE.den C),g.b.map (BE.den C),g.s.map (SE.den C),g.v.map (CE.den C bg),g.l.map (LE.den C),g.p.map fun c=>qX (c.den C bg)⟩
def kZ.cnt (g:kZ):Cnt:=⟨g.i.length,g.b.length,g.s.length,g.v.length,g.l.length,g.p.length⟩
def hread (h:Hp) (a:Option (Nat×Nat)) (n:Nat):Option (List Value):=
 match a with
 | some x=>match h x.1 with
   | some o=>if x.2+n<=o.cs.length then some ((o.cs.drop x.2).take n) else none
   | none=>none
 | none=>none
def l9 (h:Hp) (a:Option (Nat×Nat)) (cs:List Value):Option Hp:=
 match a with
 | some x=>match h x.1 with
   | some o=>if x.2+cs.length<=o.cs.length/\o.ty≠1000003 then some (h.set x.1 ⟨o.cs.take x.2++cs++o.cs.drop (x.2+cs.length),o.ty⟩) else none
   | none=>none
 | none=>none
def bY (h k:Hp):Prop:=∀ b o,h b=some o->k b=some o
def dC (h:Hp) (s:bM) (xs:List Value) (ty:TypeId) (sz:Nat):Prop:=
 (s=⟨none,0,0⟩/\xs=[])\/∃ b o,s.a=some (b,0)/\h b=some o/\o.ty=ty/\o.cs.length=s.c*sz/\s.n<=s.c/\s.c<=maxLen/\xs=o.cs.take (s.n*sz)
def RdS (h:Hp) (s:bM) (ys:List Value) (sz:Nat):Prop:=(s.n=0/\ys=[])\/(s.a≠none/\hread h s.a (s.n*sz)=some ys)
def BytesAt (h:Hp) (s:bM) (bs:List UInt8):Prop:=(s.a=none/\bs=[])\/hread h s.a s.n=some (bs.map fun c=>.int .u8 c.toNat)
def Fm.says (E:Env):Fm->Ctx->Prop
 | .tt,_=>True
 | .ff,_=>False
 | .need g c k,C=>(g.den C=true->c.den C=true)/\k.says E C
 | .ite b t e,C=>(b.den C=true->t.says E C)/\(b.den C=false->e.says E C)
 | .call g m f args r d k,C=>(g.den C=true->E.spec f (args.map (PE.den C bg)) C.h fun v h=>(m=true->bY C.h h)/\DL d fun x=>v=r.den (C.push x) bg/\k.says E ((C.push x).heap h))/\(g.den C=false->k.says E (C.push (Inc.blank d)))
 | .callK g ks f args r d k,C=>(g.den C=true->E.spec f (args.map (PE.den C bg)) C.h fun v h=>(∀ x∈ks,x.1.den C=true->hread h (x.2.1.den C) x.2.2=hread C.h (x.2.1.den C) x.2.2)/\DL d fun x=>v=r.den (C.push x) bg/\k.says E ((C.push x).heap h))/\(g.den C=false->k.says E (C.push (Inc.blank d)))
 | .load g a n r d k,C=>(g.den C=true->DL d fun x=>hread C.h (a.den C) n=some (r.map (CE.den (C.push x) bg))/\k.says E (C.push x))/\(g.den C=false->k.says E (C.push (Inc.blank d)))
 | .store a cs k,C=>∃ h,l9 C.h (a.den C) (cs.map (CE.den C bg))=some h/\k.says E (C.heap h)
 | .mk cs ty len k,C=>∀ b,C.h b=none->k.says E ((C.push ⟨[],[],[],[],[⟨some (b,0),len,len⟩],[]⟩).heap (C.h.set b ⟨cs.map (CE.den C bg),ty⟩))
 | .Zu n z ty k,C=>0<=n.den C/\n.den C<=16777216/\∀ b,C.h b=none->k.says E ((C.push ⟨[],[],[],[],[⟨some (b,0),(n.den C).toNat,(n.den C).toNat⟩],[]⟩).heap (C.h.set b ⟨List.replicate (n.den C).toNat (z.den C bg),ty⟩))
 | .str l k,C=>∃ bs,BytesAt C.h (l.den C) bs/\k.says E (C.push ⟨[],[],[bs],[],[],[]⟩)
 | .new cs ty k,C=>∀ b,C.h b=none->k.says E ((C.push ⟨[],[],[],[],[],[some (b,0)]⟩).heap (C.h.set b ⟨cs.map (CE.den C bg),ty⟩))
 | .app s y sz bytes ty k,C=>∃ xs ys,dC C.h (s.den C) xs ty sz∧RdS C.h (y.den C) ys sz∧eG ys∧(s.den C).n+(y.den C).n≤maxLen∧((s.den C).n+(y.den C).n)*bytes≤140737488355328∧
   ∀ s' h,dC h s' (xs++ys) ty sz->s'.n=(s.den C).n+(y.den C).n->(∀ x,s'.a=some x->(∃ z,(s.den C).a=some z/\z.1=x.1)\/C.h x.1=none)->(∀ b o,(∀ x,(s.den C).a=some x->x.1≠b)->C.h b=some o->h b=some o)->k.says E ((C.push ⟨[],[],[],[],[s'],[]⟩).heap h)
 | .aps s y ty k,C=>∃ xs,dC C.h (s.den C) xs ty 1∧(s.den C).n+(y.den C).length≤2000000000000∧
   ∀ s' h,dC h s' (xs++(y.den C).map fun c=>Value.int .u8 c.toNat) ty 1->s'.n=(s.den C).n+(y.den C).length->(∀ x,s'.a=some x->(∃ z,(s.den C).a=some z/\z.1=x.1)\/C.h x.1=none)->(∀ b o,(∀ x,(s.den C).a=some x->x.1≠b)->C.h b=some o->h b=some o)->k.says E ((C.push ⟨[],[],[],[],[s'],[]⟩).heap h)
 | .ret r,C=>E.post (r.den C bg) C.h
 | .loop o g k,C=>E.inv o (C.push (g.den C)).bare/\Xt g.cnt fun x=>∀ h,E.inv o ((C.push x).heap h).bare->k.says E (((C.push x).heap h).mark o (E.meas o ((C.push x).heap h).bare))
 | .again o n0 _ g,C=>E.inv o ((C.cut n0).push (g.den C)).bare/\E.meas o ((C.cut n0).push (g.den C)).bare<C.m o
structure iY where
 nw:Bool
 esc:List Nat
def gy (P:Program) (t:TypeId):Bool:=
 match P.underlying t with
 | some (.struct _) | some (.array _ _)=>true
 | _=>false
def kW (P:Program) (t:TypeId):Option (List Value):=((P.info? t).bind (·.zero)).map (·.cells.toList)
def dX (P:Program) (t:TypeId):Option Nat:=(P.info? t).map (·.size)
def rD (P:Program) (t:TypeId) (f:Nat):Option (Nat×TypeId):=
 match P.underlying t with
 | some (.struct fs)=>(fs[f]?).map fun x=>(x.offset,x.type)
 | _=>none
def mkNot:BE->BE
 | .c b=>.c (!b)
 | .not e=>e
 | e=>.not e
def mkAnd:BE->BE->BE
 | .c true,e=>e
 | .c false,_=>.c false
 | e,.c true=>e
 | e,f=>.and e f
def aab:BE->BE->BE
 | .c false,e=>e
 | .c true,_=>.c true
 | e,.c false=>e
 | e,f=>.or e f
def Ve (b p q:BE):BE:=
 if p=q then p else
 match p,q with
 | .c true,.c false=>b
 | .c false,.c true=>mkNot b
 | .c true,q=>aab b q
 | p,.c false=>mkAnd b p
 | p,q=>.ite b p q
def Yj (e:BE):CE->CE->Option CE
 | .i k p,.i k' q=>if k=k' then some (.i k (if p=q then p else .ite e p q)) else none
 | .b p,.b q=>some (.b (Ve e p q))
 | .s p,.s q=>some (.s (if p=q then p else .ite e p q))
 | p,q=>if p=q then some p else none
def Yk (e:BE):List CE->List CE->Option (List CE)
 | [],[]=>some []
 | p::ps,q::qs=>match Yj e p q,Yk e ps qs with
   | some x,some xs=>some (x::xs)
   | _,_=>none
 | _,_=>none
def phi (e:BE):PE->PE->Option PE
 | .one p,.one q=>(Yj e p q).map .one
 | .agg p,.agg q=>(Yk e p q).map .agg
 | _,_=>none
def AE.ok:AE->BE
 | .pt n _=>.nnp n
 | .el l _ _ _=>.nns l
def AE.plus:AE->Nat->AE
 | .pt n off,d=>.pt n (off+d)
 | .el l i sz off,d=>.el l i sz (off+d)
def Z8:Value->Option KV
 | .pointer none=>some .nilp
 | .map none=>some .nilm
 | .nilIface=>some .niliface
 | .nilFunc=>some .nilf
 | .tuple ⟨[]⟩=>some .undef
 | _=>none
def Xy:Value->Option CE
 | .int k n=>some (.i k (.c n))
 | .bool b=>some (.b (.c b))
 | .string s=>some (.s (.c (s.data.toList.map UInt8.toNat)))
 | .slice none 0 0=>some (.sl .nil)
 | v=>(Z8 v).map .c
def qO:List Value->Option (List CE)
 | []=>some []
 | v::vs=>match Xy v,qO vs with
   | some x,some xs=>some (x::xs)
   | _,_=>none
def aag:Value->Option PE
 | .agg cs=>(qO cs.toList).map .agg
 | v=>(Xy v).map .one
abbrev Gs:=List (Nat×Bool)
def iZ (st:St) (gs:Gs):Operand->Option PE
 | .tmp t=>match st.t[t]? with
   | some (.p x)=>some x
   | some (.wg hs x)=>if hs.all (gs.contains ·) then some x else none
   | _=>none
 | .const v=>aag v
 | .global g=>some (.one (.c (.gl g)))
 | .func f=>some (.one (.c (.fn f)))
def Iq (st:St) (gs:Gs):List Operand->Option (List PE)
 | []=>some []
 | x::xs=>match iZ st gs x,Iq st gs xs with
   | some p,some ps=>some (p::ps)
   | _,_=>none
def pX (st:St) (gs:Gs) (s:Nat):Option BE:=
 match iZ st gs (.tmp s) with
 | some (.one (.b e))=>some e
 | _=>none
def lit (e:BE) (w:Bool):BE:=if w then e else mkNot e
def o7 (st:St) (pre:Gs):Gs->Option BE
 | []=>some (.c true)
 | (s,w)::r=>match pX st pre s,o7 st (pre++[(s,w)]) r with
   | some e,some g=>some (mkAnd (lit e w) g)
   | _,_=>none
def guardOf (st:St) (ops:Array Oper) (o:Oper):Option Gs:=
 match o.guard with
 | none=>some []
 | some (j,want)=>match (ops[j]?).bind (·.dst) with
   | some s=>match st.t[s]? with
     | some (.p (.one (.b _)))=>some [(s,want)]
     | some (.wg hs (.one (.b _)))=>some (hs++[(s,want)])
     | _=>none
   | none=>none
def Kq (e:IE):BE:=.and (.le (.c (-9223372036854775808)) e) (.le e (.c 9223372036854775807))
def arith (nw:iY) (k:IntKind) (e:IE):BE×PE:=
 if nw.nw&&k==.i64 then (Kq e,.one (.i k e)) else (.c true,.one (.i k (.wr k e)))
def WT (op:BinOp) (a b:SE):Option (BE×PE):=
 match op with
 | .add=>some (.le (.add (.len a) (.len b)) (.c 9223372036854775807),.one (.s (.app a b)))
 | .eql=>some (.c true,.one (.b (.eqS a b)))
 | .neq=>some (.c true,.one (.b (.not (.eqS a b))))
 | .lss=>some (.c true,.one (.b (.ltS a b)))
 | .leq=>some (.c true,.one (.b (.or (.ltS a b) (.eqS a b))))
 | .gtr=>some (.c true,.one (.b (.not (.or (.ltS a b) (.eqS a b)))))
 | .geq=>some (.c true,.one (.b (.not (.ltS a b))))
 | _=>none
def U0 (nw:iY) (op:BinOp) (k:IntKind) (a b:IE):Option (BE×PE):=
 match op with
 | .add=>some (arith nw k (.add a b))
 | .sub=>some (arith nw k (.sub a b))
 | .mul=>some (arith nw k (.mul a b))
 | .quo=>some (.not (.eqI b (.c 0)),.one (.i k (.wr k (.quo a b))))
 | .rem=>some (.not (.eqI b (.c 0)),.one (.i k (.rem a b)))
 | .and=>some (.c true,.one (.i k (.bits .and k a b)))
 | .or=>some (.c true,.one (.i k (.bits .or k a b)))
 | .xor=>some (.c true,.one (.i k (.bits .xor k a b)))
 | .andNot=>some (.c true,.one (.i k (.bits .andNot k a b)))
 | .eql=>some (.c true,.one (.b (.eqI a b)))
 | .neq=>some (.c true,.one (.b (.not (.eqI a b))))
 | .lss=>some (.c true,.one (.b (.lt a b)))
 | .leq=>some (.c true,.one (.b (.le a b)))
 | .gtr=>some (.c true,.one (.b (.lt b a)))
 | .geq=>some (.c true,.one (.b (.le b a)))
 | _=>none
def Ij (op:BinOp) (e:BE):Option (BE×PE):=
 match op with
 | .eql=>some (.c true,.one (.b (mkNot e)))
 | .neq=>some (.c true,.one (.b e))
 | _=>none
def eqC (P:Program) (t:TypeId):CE->CE->Option BE
 | .i k a,.i k' b=>match P.underlying t with
   | some (.int _)=>if k=k' then some (.eqI a b) else none
   | _=>none
 | .b a,.b b=>match P.underlying t with
   | some .bool=>some (.eqB a b)
   | _=>none
 | .s a,.s b=>match P.underlying t with
   | some .string=>some (.eqS a b)
   | _=>none
 | _,_=>none
def XG (P:Program) (xs ys:List CE):List Field->Option BE
 | []=>some (.c true)
 | f :: fs => if f.name = "_" ∨ gy P f.type = true then none else match xs[f.offset]?, ys[f.offset]? with
   | some x,some y=>match eqC P f.type x y,XG P xs ys fs with
     | some e,some r=>some (mkAnd e r)
     | _,_=>none
   | _,_=>none
def Np (P:Program) (t:TypeId) (xs ys:List CE):Option BE:=
 if P.stoodInHeld t=true\/P.eqGuardType P.depth t=true then none else
 match P.underlying t with
 | some (.struct fs)=>XG P xs ys fs.toList
 | _=>none
def ZP (nw:iY) (P:Program) (op:BinOp) (t:TypeId):PE->PE->Option (BE×PE)
 | .one (.i k a),.one (.i k' b)=>
   match op with
   | .shl=>some (.le (.c 0) b,.one (.i k (.sh .shl k a b)))
   | .shr=>some (.le (.c 0) b,.one (.i k (.sh .shr k a b)))
   | op=>if k=k' then U0 nw op k a b else none
 | .one (.s a),.one (.s b)=>WT op a b
 | .one (.b a),.one (.b b)=>
   match P.underlying t,op with
   | some .bool,.eql=>some (.c true,.one (.b (.eqB a b)))
   | some .bool,.neq=>some (.c true,.one (.b (.not (.eqB a b))))
   | _,_=>none
 | .one (.sl l),.one (.sl .nil)=>
   match P.underlying t with
   | some (.slice _)=>Ij op (.nns l)
   | _=>none
 | .one (.pt n),.one (.c .nilp)=>
   match P.underlying t with
   | some (.pointer _)=>Ij op (.nnp n)
   | _=>none
 | .one (.own _ _),.one (.c .nilp)=>
   match P.underlying t with
   | some (.pointer _)=>Ij op (.c true)
   | _=>none
 | .agg xs,.agg ys=>
   match op with
   | .eql=>(Np P t xs ys).map fun e=>(.c true,.one (.b e))
   | .neq=>(Np P t xs ys).map fun e=>(.c true,.one (.b (mkNot e)))
   | _=>none
 | _,_=>none
def unE (nw:iY) (op:UnOp):PE->Option (BE×PE)
 | .one (.b a)=>match op with
   | .not=>some (.c true,.one (.b (mkNot a)))
   | _=>none
 | .one (.i k a)=>match op with
   | .neg=>some (arith nw k (.sub (.c 0) a))
   | .xor=>some (.c true,.one (.i k (.bits .xor k (.c (if k.signed then -1 else k.max)) a)))
   | _=>none
 | _=>none
def Tu (P:Program) (src dst:TypeId):PE->Option (BE×PE)
 | .one (.i _ a)=>match P.underlying src,P.underlying dst with
   | some (.int _),some (.int k)=>some (.c true,.one (.i k (.wr k a)))
   | _,_=>none
 | .one (.s a)=>match P.underlying src,P.underlying dst with
   | some .string,some .string=>some (.c true,.one (.s a))
   | _,_=>none
 | _=>none
def Kr (P:Program) (t:TypeId):PE->PE->Option (BE×PE)
 | .one (.s a),.one (.i _ i)=>match P.underlying t with
   | some .string=>some (.and (.le (.c 0) i) (.lt i (.len a)),.one (.i .u8 (.at a i)))
   | _=>none
 | .agg [.s x,.s y],.one (.i _ i)=>match P.underlying t with
   | some (.array n e)=>match P.underlying e,dX P e with
     | some _,some 1=>if n=2/\gy P e=false then some (.and (.le (.c 0) i) (.lt i (.c 2)),.one (.s (.ite (.eqI i (.c 0)) x y))) else none
     | _,_=>none
   | _=>none
 | _,_=>none
def loE:Option PE->Option IE
 | none=>some (.c 0)
 | some (.one (.i _ l))=>some l
 | _=>none
def hiE (l:LE):Option PE->Option (BE×IE)
 | none=>some (.le (.cnt l) (.cap l),.cnt l)
 | some (.one (.i _ h))=>some (.and (.le (.c 0) h) (.le h (.cap l)),h)
 | _=>none
def LM (P:Program) (t:TypeId) (x:PE) (lo hi:Option PE):Option (BE×PE):=
 match x,P.underlying t with
 | .one (.sl l),some (.slice e)=>match loE lo,hiE l hi,dX P e with
   | some a,some (c,b),some n=>some (.and c (.and (.le (.c 0) a) (.le a b)),.one (.sl (.sub l a b n)))
   | _,_,_=>none
 | .one (.s a),some .string=>
   match lo,hi with
   | none,none=>some (.c true,.one (.s a))
   | some (.one (.i _ l)),none=>some (.and (.le (.c 0) l) (.le l (.len a)),.one (.s (.sub a l (.len a))))
   | none,some (.one (.i _ h))=>some (.and (.le (.c 0) h) (.le h (.len a)),.one (.s (.sub a (.c 0) h)))
   | some (.one (.i _ l)),some (.one (.i _ h))=>some (.and (.and (.le (.c 0) h) (.le h (.len a))) (.and (.le (.c 0) l) (.le l h)),.one (.s (.sub a l h)))
   | _,_=>none
 | _,_=>none
def Vl (P:Program) (t:TypeId) (l:List CE) (off:Nat):Option PE:=
 match P.underlying t,dX P t with
 | some _,some n=>if gy P t then some (.agg ((l.drop off).take n)) else (l[off]?).map .one
 | _,_=>none
def vU (P:Program) (st:St) (t:TypeId):PE->Option PE
 | .one (.own k o)=>match st.m[k]?,P.underlying t,dX P t with
   | some b,some _,some n=>
     if gy P t then (if o+n<=b.cells.length then some (.agg ((b.cells.drop o).take n)) else none)
     else (b.cells[o]?).map .one
   | _,_,_=>none
 | _=>none
def yf (place:Nat->Option (Nat×Nat)) (cells:List CE):List (Nat×PE)->Option (List CE)
 | []=>some cells
 | (i,v)::rest=>match place i with
   | some (off,size)=>if v.cells.length=size/\off+size<=cells.length then yf place (v.cells.zipIdx.foldl (fun cs (c,j)=>cs.set (off+j) c) cells) rest else none
   | none=>none
def uN (P:Program) (t:TypeId) (f:Nat):Option (Nat×Nat):=(rD P t f).bind fun (o,u)=>(dX P u).map fun n=>(o,n)
def iI (st:St) (gs:Gs):List (Nat×Operand)->Option (List (Nat×PE))
 | []=>some []
 | (i,x)::xs=>match iZ st gs x,iI st gs xs with
   | some p,some ps=>some ((i,p)::ps)
   | _,_=>none
def Jn (P:Program) (t:TypeId) (parts:List (Nat×PE)):Option PE:=
 match P.underlying t,(kW P t).bind qO with
 | some (.struct fs),some z=>if fs.toList.all fun f=>(dX P f.type).isSome then (yf (uN P t) z parts).map .agg else none
 | some (.array _ e),some z=>match dX P e with
   | some n=>(yf (fun i=>some (i*n,n)) z parts).map .agg
   | none=>none
 | _,_=>none
def KW (st:St) (gs:Gs):Option Operand->Option (Option PE)
 | none=>some none
 | some x=>(iZ st gs x).map some
def Lp (st:St) (gs:Gs):List Operand->Option (List Nat)
 | []=>some []
 | x::xs=>match iZ st gs x,Lp st gs xs with
   | some (.one (.pt n)),some l=>some (n::l)
   | _,_=>none
def pO (nw:iY) (P:Program) (st:St) (gs:Gs) (op:Op):Option (BE×PE):=
 match op with
 | .move x | .assign x=>(iZ st gs x).map fun v=>(.c true,v)
 | .pick c a b=>match c with
   | .tmp s=>match pX st gs s,iZ st (gs++[(s,true)]) a,iZ st (gs++[(s,false)]) b with
     | some e,some x,some y=>(phi e x y).map fun v=>(.c true,v)
     | _,_,_=>none
   | _=>none
 | .fieldAddr t x f=>match iZ st gs x,rD P t f with
   | some (.one (.own k o)),some (off,u)=>if dX P u=some 0\/dX P u=none then none else some (.c true,.one (.own k (o+off)))
   | some (.one (.adr a)),some (off,u)=>if dX P u=some 0\/dX P u=none then none else some (a.ok,.one (.adr (a.plus off)))
   | _,_=>none
 | .field t x f=>match iZ st gs x,rD P t f with
   | some (.agg l),some (off,u)=>(Vl P u l off).map fun v=>(.c true,v)
   | _,_=>none
 | .nilCheck x=>match iZ st gs x with
   | some (.one (.own k o))=>some (.c true,.one (.own k o))
   | some (.one (.adr a))=>some (.c true,.one (.adr a))
   | some (.one (.pt n))=>some (.nnp n,.one (.adr (.pt n 0)))
   | some (.one (.c (.fn f)))=>some (.c true,.one (.c (.fn f)))
   | _=>none
 | .indexAddr t x i=>match iZ st gs x,iZ st gs i,P.underlying t with
   | some (.one (.sl l)),some (.one (.i _ i)),some (.slice e)=>match dX P e with
     | some n=>some (.and (.and (.le (.c 0) i) (.lt i (.cnt l))) (.nns l),.one (.adr (.el l i n 0)))
     | none=>none
   | some (.one (.own k o)),some (.one (.i _ (.c i))),some (.array len e)=>match dX P e with
     | some n=>if 0<=i/\i<len then some (.c true,.one (.own k (o+i.toNat*n))) else none
     | none=>none
   | _,_,_=>none
 | .binOp op t x y _=>match iZ st gs x,iZ st gs y with
   | some a,some b=>ZP nw P op t a b
   | _,_=>none
 | .unOp op _ x=>(iZ st gs x).bind (unE nw op)
 | .convert s d x=>(iZ st gs x).bind (Tu P s d)
 | .index t x i=>match iZ st gs x,iZ st gs i with
   | some a,some b=>Kr P t a b
   | _,_=>none
 | .slice t x lo hi none=>match iZ st gs x,KW st gs lo,KW st gs hi with
   | some a,some l,some h=>LM P t a l h
   | _,_,_=>none
 | .extract (.tmp s) ix=>match st.t[s]? with
   | some (.tup l)=>(l[ix]?).map fun v=>(.c true,v)
   | _=>none
 | .load t x=>(iZ st gs x).bind fun p=>(vU P st t p).map fun v=>(.c true,v)
 | .build t parts=>(iI st gs parts.toList).bind fun ps=>(Jn P t ps).map fun v=>(.c true,v)
 | .call { callee:=.builtin .len,args,argTypes }=>match args.toList,argTypes.toList with
   | [x],[t]=>match iZ st gs x,P.underlying t with
     | some (.one (.s a)),some .string=>some (.c true,.one (.i .i64 (.len a)))
     | some (.one (.sl l)),some (.slice _)=>some (.c true,.one (.i .i64 (.cnt l)))
     | _,_=>none
   | _,_=>none
 | .call { callee:=.builtin .min,args,.. }=>match args.toList with
   | [x,y]=>match iZ st gs x,iZ st gs y with
     | some (.one (.i k a)),some (.one (.i k' b))=>if k=k' then some (.c true,.one (.i k (.ite (.lt b a) b a))) else none
     | _,_=>none
   | _=>none
 | .call { callee:=.builtin .max,args,.. }=>match args.toList with
   | [x,y]=>match iZ st gs x,iZ st gs y with
     | some (.one (.i k a)),some (.one (.i k' b))=>if k=k' then some (.c true,.one (.i k (.ite (.lt a b) b a))) else none
     | _,_=>none
   | _=>none
 | .makeFunc (.func f) first captured=>if first.size=0 then (Lp st gs captured.toList).map fun l=>(.c true,.one (.clo f l)) else none
 | _=>none
def VE.names (s:Nat):VE->Bool
 | .wg gs _=>gs.any fun g=>g.1==s
 | _=>false
def St.put (st:St) (d:Nat) (v:VE):St:={ st with t:=(st.t.map fun u=>if u.names d then .dead else u).set d (if v.names d then .dead else v) }
def St.lm (st:St) (d:Option Nat) (v:VE):St:=
 match d with
 | some d=>st.put d v
 | none=>st
def CE.qJ (m:Nat):CE->Bool
 | .own k _=>decide (k<m)
 | .osl k _=>decide (k<m)
 | _=>true
def VE.qJ (m:Nat):VE->Bool
 | .dead=>true
 | .p x=>x.cells.all (CE.qJ m)
 | .tup l=>l.all fun x=>x.cells.all (CE.qJ m)
 | .wg _ x=>x.cells.all (CE.qJ m)
def St.qJ (st:St):Bool:=st.t.all (VE.qJ st.m.length)&&st.m.all fun b=>b.cells.all (CE.qJ st.m.length)
def CE.Zt:CE->Bool
 | .adr _=>true
 | _=>false
def CE.sto (N:Cnt) (c:CE):Bool:=c.blw N&&decide (c≠.c .undef)&&!c.Zt
def iR (gs:Gs) (v:PE):VE:=if gs=[] then .p v else .wg gs v
def Ur (n:Cnt):Value->CE×Cnt
 | .int k _=>(.i k (.x n.i),{ n with i:=n.i+1 })
 | .bool _=>(.b (.x n.b),{ n with b:=n.b+1 })
 | .string _=>(.s (.x n.s),{ n with s:=n.s+1 })
 | .slice none 0 0=>(.sl (.x n.l),{ n with l:=n.l+1 })
 | .pointer none=>(.pt n.p,{ n with p:=n.p+1 })
 | _=>(.v n.v,{ n with v:=n.v+1 })
def Us (n:Cnt):List Value->List CE×Cnt
 | []=>([],n)
 | v::vs=>let (x,n1):=Ur n v;let (xs,n2):=Us n1 vs;(x::xs,n2)
def Jy (P:Program) (n:Cnt) (t:TypeId):Option (PE×Cnt):=
 match kW P t with
 | some z=>if gy P t then (let (l,n):=Us n z;some (.agg l,n)) else match z with
   | [v]=>let (x,n):=Ur n v;some (.one x,n)
   | _=>none
 | none=>none
def az (P:Program) (n:Cnt):List TypeId->Option (List PE×Cnt)
 | []=>some ([],n)
 | t::ts=>match Jy P n t with
   | some (x,n1)=>match az P n1 ts with
     | some (xs,n2)=>some (x::xs,n2)
     | none=>none
   | none=>none
def yC (P:Program) (n:Cnt) (ts:List TypeId):Option (VE×Cnt):=
 match az P n ts with
 | some ([x],n)=>some (.p x,n)
 | some (xs,n)=>some (.tup xs,n)
 | none=>none
def Cnt.sub (a b:Cnt):Cnt:=⟨a.i - b.i,a.b - b.b,a.s - b.s,a.v - b.v,a.l - b.l,a.p - b.p⟩
def Cnt.add (a b:Cnt):Cnt:=⟨a.i+b.i,a.b+b.b,a.s+b.s,a.v+b.v,a.l+b.l,a.p+b.p⟩
def Cnt.zero:Cnt:=⟨0,0,0,0,0,0⟩
def PE.Fb (P:Program) (t:TypeId):PE->Bool
 | .one _=>!gy P t
 | .agg _=>gy P t
def nN (P:Program) (f:FuncId):Bool:=
 match P.funcs[f]? with
 | some fn => fn.name != "runtime.NumGoroutine" && fn.body.isSome
 | none=>false
def iM:FuncId:=1000001
def xM (P:Program) (f:FuncId):Bool:=decide (f=iM)||nN P f
def Wv (P:Program) (f:FuncId):List TypeId:=
 match P.funcs[f]? with
 | some fn=>fn.resultTypes.toList
 | none=>[]
def YT (P:Program) (t:TypeId) (f:FuncId):List TypeId:=if f=iM then [t] else Wv P f
def Ii (g c:BE) (k:Fm):Fm:=
 match c with
 | .c true=>k
 | c=>.need g c k
def uo (st:St):Op->Option (List PE)
 | .move (.tmp s)=>match st.t[s]? with
   | some (.tup l)=>some l
   | _=>none
 | _=>none
def yR (P:Program) (st:St) (gs:Gs):Op->Option (List CE×TypeId)
 | .alloc t=>((kW P t).bind qO).map fun cs=>(cs,t)
 | .box t x=>(iZ st gs x).map fun p=>(p.cells,t)
 | _=>none
def jB (P:Program) (st:St) (gs:Gs):Op->Option (List CE×TypeId×Nat)
 | .buildSlice t len parts=>match iI st gs parts.toList,P.underlying t with
   | some ps,some (.slice e)=>match dX P e,(kW P e).bind qO with
     | some n,some z=>
       if len*n<=2 ^ 24/\z.length=n/\n≠0 then
        match yf (fun i=>some (i*n,n)) ((List.range (len*n)).map fun i=>(z[i % n]?).getD (.c .undef)) ps with
        | some cs=>some (cs,e,len)
        | none=>none
       else none
     | _,_=>none
   | _,_=>none
 | _=>none
def rM (P:Program) (st:St) (gs:Gs) (op:Op):Option (List CE×TypeId×Option Nat):=
 match yR P st gs op with
 | some (cs,t)=>some (cs,t,none)
 | none=>(jB P st gs op).map fun x=>(x.1,x.2.1,some x.2.2)
def yS (k:Nat):Option Nat->CE
 | none=>.own k 0
 | some n=>.osl k n
def lC (st:St) (gs:Gs) (v:Operand) (args:List Operand):Option (FuncId×List PE):=
 match iZ st gs v,Iq st gs args with
 | some (.one (.c (.fn f))),some vas=>if f=iM then none else some (f,vas)
 | some (.one (.clo f l)),some vas=>if f=iM then none else some (f,vas++l.map fun n=>.one (.pt n))
 | some (.one (.v n)),some vas=>some (iM,.one (.v n)::vas)
 | _,_=>none
def Yb (st:St) (x:Option (List CE×TypeId)) (gs:Gs) (d:Option Nat) (K:St->Fm):Fm:=
 match x with
 | some (cs,t)=>if gs=[]/\st.blw=true/\cs.all CE.plain=true then .new cs t (K ({ st with n:={ st.n with p:=st.n.p+1 } }.lm d (.p (.one (.pt st.n.p))))) else .ff
 | none=>.ff
def aac (P:Program) (st:St) (gs:Gs) (t:TypeId) (x y:Operand) (d:Option Nat) (K:St->Fm):Fm:=
 match iZ st gs x,iZ st gs y,P.underlying t with
 | some (.one (.i _ l)),some (.one (.i _ c)),some (.slice e)=>match P.info? e,(kW P e).bind qO with
   | some i,some [z]=>if gs=[]/\c=l/\st.blw=true/\i.size=1/\i.bytes<=1024/\z.plain=true then .Zu l z e (K ({ st with n:={ st.n with l:=st.n.l+1 } }.lm d (.p (.one (.sl (.x st.n.l)))))) else .ff
   | _,_=>.ff
 | _,_,_=>.ff
def aas (k n:Nat) (v:VE):VE:=if v=.p (.one (.own k 0)) then .p (.one (.pt n)) else v
def aar (st:St) (gs:Gs) (f k:Nat) (d:Option Nat) (K:St->Fm):Fm:=
 match st.m[k]? with
 | some b=>if gs=[]/\st.blw=true/\st.m.length=k+1/\b.cells.all CE.plain=true/\(st.m.all fun b=>b.cells.all (CE.qJ k))=true/\(st.t.all fun v=>decide (v=.p (.one (.own k 0)))||v.qJ k)=true then
  .new b.cells b.ty (K ({ t:=st.t.map (aas k st.n.p),m:=st.m.dropLast,n:={ st.n with p:=st.n.p+1 }:St }.lm d (.p (.one (.clo f [st.n.p])))))
  else .ff
 | none=>.ff
def Wi (k len n:Nat) (v:VE):VE:=if v=.p (.one (.osl k len)) then .p (.one (.sl (.x n))) else v
def aa5:VE->Option (Nat×Nat)
 | .p (.one (.osl k n))=>some (k,n)
 | _=>none
def YO (st:St) (K:St->Fm):Fm:=
 match st.t.findSome? aa5 with
 | some (k,len)=>match st.m[k]? with
   | some b=>if st.blw=true/\st.m.length=k+1/\b.cells.all CE.plain=true/\(st.t.all fun v=>decide (v=.p (.one (.osl k len)))||v.qJ k)=true then
    .mk b.cells b.ty len (K { t:=st.t.map (Wi k len st.n.l),m:=st.m.dropLast,n:={ st.n with l:=st.n.l+1 } })
    else .ff
   | none=>.ff
 | none=>K st
def Jq (st:St) (gs:Gs):Op->Option (Nat×Nat)
 | .makeFunc (.func f) first captured=>match first.toList,captured.toList with
   | [],[x]=>match iZ st gs x with
     | some (.one (.own k 0))=>some (f,k)
     | _=>none
   | _,_=>none
 | _=>none
def Dp (P:Program) (s d:TypeId):Bool:=
 match P.underlying s,P.underlying d with
 | some (.slice e),some .string=>match P.underlying e with
   | some (.int .u8)=>true
   | _=>false
 | _,_=>false
def aaQ (nw:iY) (d:Option Nat):Bool:=nw.esc.any fun s=>decide (d=some s)
def Hl (nw:iY) (P:Program) (ops:Array Oper) (o:Oper) (st:St) (K:St->Fm):Fm:=
 match guardOf st ops o with
 | none=>.ff
 | some gs=>match o7 st [] gs with
   | none=>.ff
   | some g=>
     match o.op with
     | .call { callee:=.value v,args,.. }=>
       match (lC st gs v args.toList).bind fun fv=>(yC P st.n (YT P o.type fv.1)).map fun x=>(fv.1,fv.2,x.1,x.2) with
       | some (f,vas,r,n)=>
         if !(xM P f&&st.blw&&vas.all PE.plain&&r.plain&&decide (st.n.add (n.sub st.n)=n)) then .ff else
         match r with
         | .p x=>.call g false f vas r (n.sub st.n) (K ({ st with n:=n }.lm o.dst (iR gs x)))
         | r=>if gs=[] then .call g false f vas r (n.sub st.n) (K ({ st with n:=n }.lm o.dst r)) else .ff
       | none=>.ff
     | .alloc t=>if aaQ nw o.dst then Yb st (yR P st gs o.op) gs o.dst K else match kW P t with
       | some z=>match qO z with
         | some cs=>if gs=[]/\st.qJ=true/\cs.all (CE.qJ st.m.length)=true then K ({ st with m:=st.m++[oO.mk cs t] }.lm o.dst (.p (.one (.own st.m.length 0)))) else .ff
         | none=>.ff
       | none=>.ff
     | .box t x=>if aaQ nw o.dst then Yb st (yR P st gs o.op) gs o.dst K else match iZ st gs x with
       | some p=>if gs=[]/\st.qJ=true/\p.cells.all (CE.qJ st.m.length)=true then K ({ st with m:=st.m++[oO.mk p.cells t] }.lm o.dst (.p (.one (.own st.m.length 0)))) else .ff
       | none=>.ff
     | .buildSlice t len parts=>match iI st gs parts.toList,P.underlying t with
       | some ps,some (.slice e)=>match dX P e,(kW P e).bind qO with
         | some n,some z=>
           if gs=[]/\st.blw=true/\len*n<=2 ^ 24/\z.length=n/\n≠0 then
            match yf (fun i=>some (i*n,n)) ((List.range (len*n)).map fun i=>(z[i % n]?).getD (.c .undef)) ps with
            | some cs=>if cs.all CE.plain&&ps.all (fun x=>x.2.plain) then .mk cs e len (K ({ st with n:={ st.n with l:=st.n.l+1 } }.lm o.dst (.p (.one (.sl (.x st.n.l)))))) else .ff
            | none=>.ff
           else .ff
         | _,_=>.ff
       | _,_=>.ff
     | .call { callee:=.builtin .append,args,argTypes }=>match Iq st gs args.toList,argTypes.toList with
       | some [.one (.sl s),.one (.sl y)],[t,t']=>match P.underlying t,kW P t with
         | some (.slice e),some _=>match P.info? e with
           | some i=>match i.zero with
             | some z=>if gs=[]/\t'=t/\st.blw=true/\z.cells.size=i.size/\0<i.size/\e≠1000003 then
              .app s y i.size i.bytes e (K ({ st with n:={ st.n with l:=st.n.l+1 } }.lm o.dst (.p (.one (.sl (.x st.n.l))))))
              else .ff
             | none=>.ff
           | none=>.ff
         | _,_=>.ff
       | some [.one (.sl s),.one (.s y)],[t,t']=>match P.underlying t,P.underlying t' with
         | some (.slice e),some .string=>match P.info? e with
           | some i=>match i.zero with
             | some (.int .u8 z)=>if gs=[]/\z=0/\st.blw=true/\i.size=1/\i.bytes=1/\e≠1000003 then
              .aps s y e (K ({ st with n:={ st.n with l:=st.n.l+1 } }.lm o.dst (.p (.one (.sl (.x st.n.l))))))
              else .ff
             | _=>.ff
           | none=>.ff
         | _,_=>.ff
       | _,_=>.ff
     | .convert s d x=>match iZ st gs x,Dp P s d with
       | some (.one (.sl l)),true=>if gs=[]/\st.blw=true then .str l (K ({ st with n:={ st.n with s:=st.n.s+1 } }.lm o.dst (.p (.one (.s (.x st.n.s)))))) else .ff
       | _,_=>match pO nw P st gs o.op with
         | some (c,v)=>Ii g c (K (st.lm o.dst (iR gs v)))
         | none=>.ff
     | .load t x=>match iZ st gs x with
       | some (.one (.adr a))=>match Jy P st.n t,dX P t,P.underlying t with
         | some (r,n),some sz,some _=>
           if st.blw&&r.plain&&decide (st.n.add (n.sub st.n)=n)&&decide (r.cells.length=sz)&&r.Fb P t then
            .load g a sz r.cells (n.sub st.n) (K ({ st with n:=n }.lm o.dst (iR gs r)))
           else .ff
         | _,_,_=>.ff
       | some p=>match vU P st t p with
         | some v=>K (st.lm o.dst (iR gs v))
         | none=>.ff
       | none=>.ff
     | .store t a x=>match iZ st gs a,iZ st gs x,dX P t with
       | some (.one (.adr a)),some p,some n=>if gs=[]/\st.blw=true/\p.plain=true/\p.cells.all (CE.sto st.n)=true/\p.cells.length=n then .store a p.cells (K (st.lm o.dst .dead)) else .ff
       | some (.one (.own k off)),some p,some n=>match st.m[k]? with
         | some b=>if gs=[]/\p.cells.all (CE.sto st.n)=true/\p.cells.length=n/\off+n<=b.cells.length then K ({ st with m:=st.m.set k ⟨b.cells.take off++p.cells++b.cells.drop (off+n),b.ty⟩ }.lm o.dst .dead) else .ff
         | none=>.ff
       | _,_,_=>.ff
     | .makeSlice t x y=>aac P st gs t x y o.dst K
     | op=>match uo st op with
       | some l=>if gs=[] then K (st.lm o.dst (.tup l)) else .ff
       | none=>match Jq st gs op with
         | some (f,k)=>aar st gs f k o.dst K
         | none=>match pO nw P st gs op with
           | some (c,v)=>Ii g c (K (st.lm o.dst (iR gs v)))
           | none=>.ff
def rE (nw:iY) (P:Program) (ops:Array Oper):List Oper->St->(St->Fm)->Fm
 | [],st,K=>K st
 | o::os,st,K=>Hl nw P ops o st fun st=>rE nw P ops os st K
def Un (h:Hp) (k:Nat):Prop:=∀ o,h k=some o->o.ty=1000003
theorem Un.none {h:Hp} {k:Nat} (hn:h k=.none):Un h k:=fun o ho=>by rw[hn] at ho;cases ho
theorem Un.set {h:Hp} {k b:Nat} {o:HO} (hb:k≠b) (hn:Un h k):Un (h.set b o) k:=fun x hx=>hn x (by simp only[Hp.set,if_neg hb] at hx;exact hx)
theorem Un.ne {h:Hp} {k b:Nat} {o:HO} (hn:Un h k) (hb:h b=some o) (hT:o.ty≠1000003):k≠b:=fun e=>hT (hn o (by rw[e];exact hb))
structure Fr (B:Nat) (h0 h:Hp) (w0 w:World):Prop where
 os:w.os=w0.os
 tape:w.tape=w0.tape
 output:w.output=w0.output
 size:w0.heap.size<=w.heap.size
 block:∀ k,k<B->Un h0 k->w.heap[k]? = w0.heap[k]?
 ghost:∀ k,k<B->h0 k=none->h k=none
 un:∀ k,k<B->Un h0 k->Un h k
theorem Fr.refl (B:Nat) (h:Hp) (w:World):Fr B h h w w:=⟨rfl,rfl,rfl,Nat.le_refl _,fun _ _ _=>rfl,fun _ _ h=>h,fun _ _ h=>h⟩
theorem Fr.trans {B:Nat} {h0 h k:Hp} {w0 w u:World} (a:Fr B h0 h w0 w) (b:Fr w.heap.size h k w u) (hB:B<=w.heap.size):Fr B h0 k w0 u:=
 ⟨b.os.trans a.os,b.tape.trans a.tape,b.output.trans a.output,Nat.le_trans a.size b.size,fun i hi h0=>(b.block i (by omega) (a.un i hi h0)).trans (a.block i hi h0),fun i hi h0=>b.ghost i (by omega) (a.ghost i hi h0),fun i hi h0=>b.un i (by omega) (a.un i hi h0)⟩
def lq (o:HO) (x:Option Obj):Prop:=∃ T fz,x=some (.cells o.cs.toArray T fz)/\(o.ty≠1000003->T=o.ty/\fz=(0,0))
theorem lq.of {o:HO} {x:Option Obj} (h:x=some (.cells o.cs.toArray o.ty (0,0))):lq o x:=⟨_,_,h,fun _=>⟨rfl,rfl⟩⟩
theorem lq.rw {o:HO} {x:Option Obj} (h:lq o x) (hT:o.ty≠1000003):x=some (.cells o.cs.toArray o.ty (0,0)):=by
 obtain⟨T,fz,rfl,h2⟩:=h;obtain⟨rfl,rfl⟩:=h2 hT;rfl
def Holds (h:Hp) (w:World):Prop:=∀ b o,h b=some o->lq o w.heap[b]?
theorem Holds.lt {h:Hp} {w:World} (H:Holds h w) {b:Nat} (hb:h b≠none):b<w.heap.size:=by
 cases e:h b with
 | none=>exact absurd e hb
 | some o=>
   obtain⟨T,fz,h1,_⟩:=H b o e;exact (Array.getElem?_eq_some_iff.1 h1).1
theorem Holds.below {h:Hp} {w u:World} (H:Holds h w) (k:Below w.heap.size w u):Holds h u:=fun b o hb=>by
 rw[k.block b (H.lt (by rw[hb];simp))];exact H b o hb
theorem Fr.of_below {h:Hp} {w u:World} (k:Below w.heap.size w u):Fr w.heap.size h h w u:=⟨k.os,k.tape,k.output,k.size,fun i hi _=>k.block i hi,fun _ _ h=>h,fun _ _ h=>h⟩
structure Rep (B:Nat) (h0:Hp) (w0:World) (ρ:Nat->Nat) (st:St) (C:Ctx) (a:Act) (w:World):Prop where
 defers:a.defers=[]
 size:a.tmps.size=st.t.length
 slots:∀ (i:Nat) (v:VE),st.t[i]? = some v->v.holds C ρ a.tmps (a.tmps.getD i undef)
 blocks:∀ (k:Nat) (b:oO),st.m[k]? = some b->w.heap[ρ k]? = some (.cells (b.cells.map (CE.den C ρ)).toArray b.ty (0,0))
 fresh:∀ k,k<st.m.length->B<=ρ k\/¬ Un h0 (ρ k)
 inj:∀ k j,k<st.m.length->j<st.m.length->ρ k=ρ j->k=j
 free:∀ k,k<st.m.length->C.h (ρ k)=none
 holds:Holds C.h w
 fr:Fr B h0 C.h w0 w
 base:B<=w.heap.size
 ci:C.i.length=st.n.i
 cb:C.b.length=st.n.b
 cs:C.s.length=st.n.s
 cv:C.v.length=st.n.v
 cl:C.l.length=st.n.l
 cp:C.p.length=st.n.p
 ones:eG C.v
def dE (gs:Gs) (t:Array Value):Prop:=∀ g∈gs,t.getD g.1 undef=.bool g.2
theorem aN (t:Array Value):dE [] t:=fun _ h=>by cases h
theorem jZ {g h:Gs} {t:Array Value}:dE (g++h) t↔dE g t/\dE h t:=by
 unfold dE;constructor
 . exact fun H=>⟨fun x hx=>H x (List.mem_append_left _ hx),fun x hx=>H x (List.mem_append_right _ hx)⟩
 . rintro⟨h1,h2⟩ x hx;rcases List.mem_append.1 hx with hx | hx
   . exact h1 x hx
   . exact h2 x hx
theorem jf {s:Nat} {w:Bool} {t:Array Value}:dE [(s,w)] t↔t.getD s undef=.bool w:=by
 unfold dE;simp
theorem Tt {C:Ctx} (ho:eG C.v) (ρ:Nat->Nat) (c:CE):(c.den C ρ).cells=#[c.den C ρ]:=by
 cases c with
 | v n=>
   show (C.v.getD n undef).cells=#[C.v.getD n undef];rw[List.getD_eq_getElem?_getD];cases h:C.v[n]? with
   | none=>rfl
   | some u=>
     have hu:=ho u (List.mem_of_getElem? h);show u.cells=#[u];cases u<;>first | rfl | cases hu
 | c k=>cases k<;>rfl
 | adr x=>
   show (nI (x.den C)).cells=#[nI (x.den C)];cases x.den C<;>rfl
 | _=>rfl
theorem Dq {C:Ctx} (ho:eG C.v) (ρ:Nat->Nat) (c:CE) (N:Cnt) (hN:N.v=C.v.length) (hb:c.blw N=true) (hk:c≠.c .undef) (ha:c.Zt=false):(c.den C ρ).oneCell'=true:=by
 cases c with
 | v n=>
   have hn:n<C.v.length:=by simp only[CE.blw,decide_eq_true_eq] at hb;omega
   show (C.v.getD n undef).oneCell'=true;rw[List.getD_eq_getElem?_getD,List.getElem?_eq_getElem hn];exact ho _ (List.getElem_mem hn)
 | c k=>cases k<;>first | rfl | exact absurd rfl hk
 | adr x=>cases ha
 | _=>rfl
theorem mY {C:Ctx} (ho:eG C.v) (ρ:Nat->Nat) (p:PE):(p.den C ρ).cells=(p.cells.map (CE.den C ρ)).toArray:=by
 cases p with
 | one c=>exact Tt ho ρ c
 | agg l=>rfl
theorem uX (l:List UInt8):(l.map UInt8.toNat).map UInt8.ofNat=l:=by
 induction l with
 | nil=>rfl
 | cons x l ih=>simp only[List.map_cons,ih];simp
theorem U5 {v:Value} {k:KV} (h:Z8 v=some k):k.val=v:=by
 unfold Z8 at h;split at h<;>cases h<;>rfl
theorem Fp {v:Value} {e:CE} (C:Ctx) (ρ:Nat->Nat) (h:Xy v=some e):e.den C ρ=v:=by
 unfold Xy at h;split at h
 . cases h;rfl
 . cases h;rfl
 . rename_i s;cases h;show Value.string (B _)=_;congr 1;show B ((s.data.toList.map UInt8.toNat).map UInt8.ofNat)=s;rw[uX];exact (I4 s).symm
 . cases h;rfl
 . simp only[Option.map_eq_some_iff] at h;obtain⟨k,hk,rfl⟩:=h;exact U5 hk
theorem iL {vs:List Value}:∀ {es:List CE} (C:Ctx) (ρ:Nat->Nat),qO vs=some es->es.map (CE.den C ρ)=vs:=by
 induction vs with
 | nil=>intro es C ρ h;cases h;rfl
 | cons v vs ih=>
   intro es C ρ h;rw[qO] at h;split at h
   . rename_i x xs hx hxs;cases h;rw[List.map_cons,Fp C ρ hx,ih C ρ hxs]
   . cases h
theorem Vp {v:Value} {p:PE} (C:Ctx) (ρ:Nat->Nat) (h:aag v=some p):p.den C ρ=v:=by
 unfold aag at h;split at h
 . rename_i cs;simp only[Option.map_eq_some_iff] at h;obtain⟨es,he,rfl⟩:=h;show Value.agg (es.map (CE.den C ρ)).toArray=_;rw[iL C ρ he]
 . simp only[Option.map_eq_some_iff] at h;obtain⟨e,he,rfl⟩:=h;exact Fp C ρ he
section
variable {B:Nat} {h0:Hp} {w0:World} {ρ:Nat->Nat} {st:St} {C:Ctx} {a:Act} {w:World}
theorem aK (R:Rep B h0 w0 ρ st C a w) {gs:Gs} (hg:dE gs a.tmps) {x:Operand} {p:PE} (h:iZ st gs x=some p):a.eval x=p.den C ρ:=by
 cases x with
 | tmp t=>
   simp only[iZ] at h;have hs:=R.slots t;show a.tmps.getD t undef=_;split at h
   . rename_i y hy;cases h;exact hs _ hy
   . rename_i hs' y hy;split at h
     . rename_i hall;cases h;refine (hs _ hy).1 (fun g hgm=>?_);have:=List.all_eq_true.1 hall g hgm;exact hg g (by simpa using this)
     . cases h
   . cases h
 | const v=>exact (Vp C ρ h).symm
 | global g=>cases h;rfl
 | func f=>cases h;rfl
theorem mX (R:Rep B h0 w0 ρ st C a w) {gs:Gs} (hg:dE gs a.tmps) {xs:List Operand}:∀ {ps:List PE},Iq st gs xs=some ps->xs.map a.eval=ps.map (PE.den C ρ):=by
 induction xs with
 | nil=>intro ps h;cases h;rfl
 | cons x xs ih=>
   intro ps h;rw[Iq] at h;split at h
   . rename_i p ps hp hps;cases h;rw[List.map_cons,List.map_cons,aK R hg hp,ih hps]
   . cases h
theorem oh (R:Rep B h0 w0 ρ st C a w) {gs:Gs} (hg:dE gs a.tmps) {s:Nat} {e:BE} (h:pX st gs s=some e):a.tmps.getD s undef=.bool (e.den C):=by
 unfold pX at h;split at h
 . rename_i e' he;cases h;exact aK R hg he
 . cases h
theorem mV (e:BE):(mkNot e).den C=!e.den C:=by
 unfold mkNot;split<;>simp[BE.den]
theorem uJ (e f:BE):(mkAnd e f).den C=(e.den C&&f.den C):=by
 unfold mkAnd;split<;>simp[BE.den]
theorem Vf (e f:BE):(aab e f).den C=(e.den C||f.den C):=by
 unfold aab;split<;>simp[BE.den]
theorem X8 (e:BE) (x:Bool):(lit e x).den C=true↔e.den C=x:=by
 unfold lit;cases x
 . simp[mV]
 . simp
theorem QO (b p q:BE):(Ve b p q).den C=bif b.den C then p.den C else q.den C:=by
 unfold Ve;split
 . rename_i h;subst h;cases b.den C<;>rfl
 . split
   . simp[BE.den]
   . simp[BE.den,mV]
   . simp[BE.den,Vf]
   . simp[BE.den,uJ]
   . rfl
theorem Iz {e:BE} {x y z:CE} (h:Yj e x y=some z):z.den C ρ=bif e.den C then x.den C ρ else y.den C ρ:=by
 unfold Yj at h;split at h
 . split at h
   . rename_i hk;subst hk;cases h;split
     . rename_i hpq;subst hpq;cases e.den C<;>rfl
     . simp only[CE.den,IE.den];cases e.den C<;>rfl
   . cases h
 . cases h;simp only[CE.den,QO];cases e.den C<;>rfl
 . cases h;split
   . rename_i hpq;subst hpq;cases e.den C<;>rfl
   . simp only[CE.den,SE.den];cases e.den C<;>rfl
 . split at h
   . rename_i hpq;cases h;subst hpq;cases e.den C<;>rfl
   . cases h
theorem Vq {e:BE}:∀ {x y z:List CE},Yk e x y=some z->z.map (CE.den C ρ)=bif e.den C then x.map (CE.den C ρ) else y.map (CE.den C ρ):=by
 intro x
 induction x with
 | nil=>
   intro y z h;cases y with
   | nil=>cases h;cases e.den C<;>rfl
   | cons _ _=>cases h
 | cons p ps ih=>
   intro y z h;cases y with
   | nil=>cases h
   | cons q qs=>
     rw[Yk] at h;split at h
     . rename_i u us hu hus;cases h;have h1:=Iz (C:=C) (ρ:=ρ) hu;have h2:=ih hus;rw[List.map_cons,h1,h2];cases e.den C<;>rfl
     . cases h
theorem Yl {e:BE} {x y z:PE} (h:phi e x y=some z):z.den C ρ=bif e.den C then x.den C ρ else y.den C ρ:=by
 unfold phi at h;split at h
 . simp only[Option.map_eq_some_iff] at h;obtain⟨u,hu,rfl⟩:=h;exact Iz hu
 . simp only[Option.map_eq_some_iff] at h;obtain⟨u,hu,rfl⟩:=h;have:=Vq (C:=C) (ρ:=ρ) hu;simp only[PE.den,this];cases e.den C<;>rfl
 . cases h
theorem uG (R:Rep B h0 w0 ρ st C a w):∀ (l pre:Gs) (g:BE),dE pre a.tmps->o7 st pre l=some g->(g.den C=true↔dE l a.tmps):=by
 intro l
 induction l with
 | nil=>intro pre g _ h;cases h;simp[BE.den,aN]
 | cons x r ih=>
   obtain⟨s,v⟩:=x;intro pre g hp h;rw[o7] at h;split at h
   . rename_i e g' he hg';cases h;rw[uJ,Bool.and_eq_true,X8,show (s,v)::r=[(s,v)]++r from rfl,jZ,jf,oh R hp he];constructor
     . rintro⟨h1,h2⟩;have hc:dE [(s,v)] a.tmps:=by rw[jf,oh R hp he,h1]
       exact⟨by rw[h1],(ih _ _ (jZ.2 ⟨hp,hc⟩) hg').1 h2⟩
     . rintro⟨h1,h2⟩;have h1':e.den C=v:=by injection h1
       have hc:dE [(s,v)] a.tmps:=by rw[jf,oh R hp he,h1']
       exact⟨h1',(ih _ _ (jZ.2 ⟨hp,hc⟩) hg').2 h2⟩
   . cases h
theorem getD_some {t:Array Value} {s:Nat} {v:Value} (h:t.getD s undef=v) (hv:v≠undef):t[s]? = some v:=by
 rw[Array.getD_eq_getD_getElem?] at h;cases e:t[s]? with
 | none=>rw[e] at h;exact absurd h.symm hv
 | some u=>rw[e] at h;rw[<- h];rfl
theorem zU {ops:Array Oper} {t:Array Value} {j s:Nat} (hs:(ops[j]?).bind (·.dst)=some s) {b:Bool} (h:t.getD s undef=.bool b):yielded ops t j=some b:=by
 unfold yielded;rw[hs];show (match t[s]? with | some (.bool b)=>some b | _=>none)=_;rw[getD_some h (by simp[undef])]
theorem Aq {ops:Array Oper} {t:Array Value} {j s:Nat} (hs:(ops[j]?).bind (·.dst)=some s) (h:t.getD s undef=undef):yielded ops t j=none:=by
 unfold yielded;rw[hs];show (match t[s]? with | some (.bool b)=>some b | _=>none)=_;rw[Array.getD_eq_getD_getElem?] at h;cases e:t[s]? with
 | none=>rfl
 | some u=>rw[e] at h;have:u=undef:=h;rw[this];rfl
theorem gZ (R:Rep B h0 w0 ρ st C a w) {ops:Array Oper} {o:Oper} {gs:Gs} (h:guardOf st ops o=some gs):Region.wanted o (yielded ops a.tmps)=true↔dE gs a.tmps:=by
 unfold guardOf at h;unfold Region.wanted;cases hgu:o.guard with
 | none=>rw[hgu] at h;cases h;simp[aN]
 | some jw=>
   obtain⟨j,want⟩:=jw;rw[hgu] at h;simp only at h⊢;split at h
   . rename_i s hs;split at h
     . rename_i e he;cases h;have hv:=R.slots s _ he;simp only[VE.holds,PE.den,CE.den] at hv;rw[zU hs hv,jf,hv];simp
     . rename_i hs' e he;cases h;have hv:=R.slots s _ he;simp only[VE.holds,PE.den,CE.den] at hv;rw[jZ,jf];by_cases hc:dE hs' a.tmps
       . have:=hv.1 hc;rw[zU hs this,this];simp[hc]
       . have:=hv.2 hc;rw[Aq hs this];simp[hc]
     . cases h
   . cases h
theorem getD_set_ne {t:Array Value} {d i:Nat} {u:Value} (h:d≠i):(t.setIfInBounds d u).getD i undef=t.getD i undef:=by
 simp only[Array.getD_eq_getD_getElem?,Array.getElem?_setIfInBounds_ne h]
theorem lL {t:Array Value} {d:Nat} {u:Value} (h:d<t.size):(t.setIfInBounds d u).getD d undef=u:=by
 simp[Array.getD_eq_getD_getElem?,h]
theorem qm {v:VE} {d:Nat} {t:Array Value} {u x:Value} (hn:v.names d=false) (h:v.holds C ρ t u):v.holds C ρ (t.setIfInBounds d x) u:=by
 cases v with
 | dead=>trivial
 | p _=>exact h
 | tup _=>exact h
 | wg gs y=>
   have e:(∀ g∈gs,(t.setIfInBounds d x).getD g.1 undef=.bool g.2)↔(∀ g∈gs,t.getD g.1 undef=.bool g.2):=by
    refine forall_congr' fun g=>?_
    refine forall_congr' fun hg=>?_
    have hne:d≠g.1:=by
     intro hd;simp only[VE.names,List.any_eq_false] at hn;exact absurd (by simp[hd]) (hn g hg)
    rw[getD_set_ne hne]
   exact⟨fun hc=>h.1 (e.1 hc),fun hc=>h.2 (fun k=>hc (e.2 k))⟩
theorem xu (R:Rep B h0 w0 ρ st C a w) (d:Nat) (v:VE) (u:Value) (h:v.names d=false->v.holds C ρ a.tmps u):Rep B h0 w0 ρ (st.put d v) C (a.put (some d) u) w:=by
 have hsz:=R.size;refine⟨R.defers,by simp[St.put,Act.put,hsz],?_,R.blocks,R.fresh,R.inj,R.free,R.holds,R.fr,R.base,R.ci,R.cb,R.cs,R.cv,R.cl,R.cp,R.ones⟩;intro i v' hi;simp only[St.put,Act.put] at hi⊢;by_cases hd:d=i
 . subst hd;rw[List.getElem?_set_self'] at hi;cases hh:(st.t.map fun u=>if u.names d then VE.dead else u)[d]? with
   | none=>rw[hh] at hi;cases hi
   | some y=>
     rw[hh] at hi;have hlt:d<a.tmps.size:=by
      rw[hsz];have:=(List.getElem?_eq_some_iff.1 hh).1;simpa using this
     have hv:(if v.names d=true then VE.dead else v)=v':=by simpa using hi
     rw[lL hlt,<- hv];split
     . trivial
     . rename_i hn;have hn':v.names d=false:=by simpa using hn
       exact qm hn' (h hn')
 . rw[List.getElem?_set_ne hd,List.getElem?_map] at hi;cases hh:st.t[i]? with
   | none=>rw[hh] at hi;cases hi
   | some y=>
     rw[hh] at hi;have hv:(if y.names d=true then VE.dead else y)=v':=by simpa using hi
     rw[getD_set_ne hd,<- hv];split
     . trivial
     . rename_i hn;exact qm (by simpa using hn) (R.slots i y hh)
theorem dh (R:Rep B h0 w0 ρ st C a w) (d:Option Nat) (v:VE) (u:Value) (h:v.holds C ρ a.tmps u):Rep B h0 w0 ρ (st.lm d v) C (a.put d u) w:=by
 cases d with
 | none=>exact R
 | some d=>exact xu R d v u (fun _=>h)
theorem iW {gs:Gs} {v:PE} {t:Array Value} {u:Value} (hg:dE gs t) (h:u=v.den C ρ):(iR gs v).holds C ρ t u:=by
 unfold iR;split
 . exact h
 . exact⟨fun _=>h,fun hc=>absurd hg hc⟩
theorem jC {gs:Gs} {v:PE} {t:Array Value} (hg:¬ dE gs t):(iR gs v).holds C ρ t undef:=by
 unfold iR;split
 . rename_i h;subst h;exact absurd (aN t) hg
 . exact⟨fun hc=>absurd hc hg,fun _=>rfl⟩
end
section
variable {P:Program} {C:Ctx} {ρ:Nat->Nat} {w:World}
theorem kw (t:TypeId) {d:TypeDesc} (h:P.underlying t=some d):(isAgg t).run P w=.ok (gy P t) w:=by
 unfold isAgg gy;rw[h];cases d<;>simp[run_underlying h]
theorem dI {t:TypeId} {n:Nat} (h:dX P t=some n):(sizeOf t).run P w=.ok n w:=by
 unfold dX at h;simp only[Option.map_eq_some_iff] at h;obtain⟨i,hi,rfl⟩:=h;simp[sizeOf,typeInfo,hi]
theorem QM {e:IE} (h:(Kq e).den C=true):IntKind.i64.wrap (e.den C)=e.den C:=by
 simp only[Kq,BE.den,IE.den,Bool.and_eq_true,fO] at h;exact IntWalk.i64_in _ h
theorem qf {nw:iY} {k:IntKind} {e:IE} {c:BE} {v:PE} (h:arith nw k e=(c,v)) (hc:c.den C=true):v.den C ρ=.int k (k.wrap (e.den C)):=by
 unfold arith at h;split at h
 . rename_i hk;simp only[Bool.and_eq_true,beq_iff_eq] at hk;obtain⟨_,rfl⟩:=hk;cases h;show Value.int .i64 (e.den C)=_;rw[QM hc]
 . cases h;rfl
theorem FZ (op:BinOp) (t:TypeId) (x y:Operand) (k k':IntKind) (a b:Int):(eqGuard op t x y (.int k a) (.int k' b)).run P w=.ok () w:=by
 unfold eqGuard;cases op<;>rfl
theorem DJ (op:BinOp) (t:TypeId) (x y:Operand) (a b:Bool):(eqGuard op t x y (.bool a) (.bool b)).run P w=.ok () w:=by
 unfold eqGuard;cases op<;>rfl
theorem x8 (op:BinOp) (t:TypeId) (x y:Operand) (a b:ByteArray):(eqGuard op t x y (.string a) (.string b)).run P w=.ok () w:=by
 unfold eqGuard;cases op<;>rfl
theorem H7 {nw:iY} {op:BinOp} {t:TypeId} {k:IntKind} {a b:IE} {c:BE} {v:PE} (hsl:op≠.shl) (hsr:op≠.shr) (h:U0 nw op k a b=some (c,v)) (hc:c.den C=true):
 (binOp op t (.int k (a.den C)) (.int k (b.den C))).run P w=.ok (v.den C ρ) w:=by
 cases op<;>simp only[U0,Option.some.injEq,reduceCtorEq] at h<;>simp only[binOp,ne_eq,not_true_eq_false,if_false]
 case add=>rw[qf h hc];rfl
 case sub=>rw[qf h hc];rfl
 case mul=>rw[qf h hc];rfl
 case quo=>
  cases h;have hb:b.den C≠0:=by simpa[BE.den,IE.den,kJ,fO] using hc
  simp[Op.intDiv,hb,PE.den,CE.den,IE.den]
 case rem=>
  cases h;have hb:b.den C≠0:=by simpa[BE.den,IE.den,kJ,fO] using hc
  simp[Op.intDiv,hb,PE.den,CE.den,IE.den]
 all_goals first
  | exact absurd rfl hsl
  | exact absurd rfl hsr
  | (cases h;simp[Op.intBits,Op.intCmp,PE.den,CE.den,IE.den,BE.den,UZ,bne,Ob,leB])
theorem IZ {op:BinOp} {a b:SE} {c:BE} {v:PE} {t:TypeId} (h:WT op a b=some (c,v)) (hc:c.den C=true):
 (binOp op t (.string (B (a.den C))) (.string (B (b.den C)))).run P w=.ok (v.den C ρ) w:=by
 have hb:binOp op t (.string (B (a.den C))) (.string (B (b.den C)))=Op.stringOp op (B (a.den C)) (B (b.den C)):=by
  cases op<;>rfl
 rw[hb];cases op<;>simp only[WT,Option.some.injEq,reduceCtorEq] at h
 case add=>
  cases h;rw[RX _ _ (by simp only[BE.den,IE.den,fO] at hc;omega)];rfl
 all_goals (cases h;simp[Op.stringOp,fF,PE.den,CE.den,BE.den])
theorem Nq {t:TypeId} (hu:P.underlying t=some .bool) (x y:Bool):(Op.equal t (.bool x) (.bool y)).run P w=.ok (x==y) w:=by
 unfold Op.equal Op.maxDepth;rw[show (10000:Nat)=9999+1 from rfl,Op.equalIn,Sem.run_bind,run_underlying hu];rfl
theorem zZ (op:BinOp) (t:TypeId) (x y:Operand) (a b:bM):(eqGuard op t x y a.val b.val).run P w=.ok () w:=by
 unfold eqGuard;cases op<;>rfl
theorem xZ (op:BinOp) (t:TypeId) (x y:Operand) (a b:Option Addr):(eqGuard op t x y (.pointer a) (.pointer b)).run P w=.ok () w:=by
 unfold eqGuard;cases op<;>rfl
theorem DK {t e:TypeId} (hu:P.underlying t=some (.slice e)) (s:bM):(Op.equal t s.val (LE.nil.den C).val).run P w=.ok (!s.a.isSome) w:=by
 unfold Op.equal Op.maxDepth;rw[show (10000:Nat)=9999+1 from rfl,Op.equalIn,Sem.run_bind,run_underlying hu];cases s with
 | mk a n c=>cases a<;>rfl
theorem AU {t e:TypeId} (hu:P.underlying t=some (.pointer e)) (a:Option Addr):(Op.equal t (.pointer a) (.pointer none)).run P w=.ok (!a.isSome) w:=by
 unfold Op.equal Op.maxDepth;rw[show (10000:Nat)=9999+1 from rfl,Op.equalIn,Sem.run_bind,run_underlying hu];cases a<;>rfl
theorem pF {op:BinOp} {t:TypeId} {x y:Value} {e:BE} {c:BE} {v:PE} (h:Ij op e=some (c,v)) (he:(Op.equal t x y).run P w=.ok (!e.den C) w)
 (hx:∀ op,(op=.eql->binOp op t x y=do pure (Value.bool (<- Op.equal t x y)))/\(op=.neq->binOp op t x y=do pure (Value.bool (!(<- Op.equal t x y))))):(binOp op t x y).run P w=.ok (v.den C ρ) w:=by
 unfold Ij at h;split at h
 . cases h;rw[(hx .eql).1 rfl,Sem.run_bind,he];simp[PE.den,CE.den,mV]
 . cases h;rw[(hx .neq).2 rfl,Sem.run_bind,he];simp[PE.den,CE.den]
 . cases h
theorem jQ (l:List CE) (i:Nat):((l.map (CE.den C ρ)).toArray)[i]? = (l[i]?).map (CE.den C ρ):=by
 simp
theorem XF {d:Nat} {t:TypeId} {x y:CE} {e:BE} (h:eqC P t x y=some e):(P.underlying t≠none)/\(Op.equalIn (d+1) t (x.den C ρ) (y.den C ρ)).run P w=.ok (e.den C) w:=by
 unfold eqC at h;split at h
 . split at h
   . rename_i hu;split at h
     . rename_i hk;subst hk;cases h;exact⟨by rw[hu];simp,run_equalIn_int w d t _ _ _ _ hu⟩
     . cases h
   . cases h
 . split at h
   . rename_i hu;cases h;exact⟨by rw[hu];simp,run_equalIn_bool' w d t _ _ hu⟩
   . cases h
 . split at h
   . rename_i hu;cases h;refine⟨by rw[hu];simp,?_⟩;show (Op.equalIn (d+1) t (.string (B _)) (.string (B _))).run P w=_;rw[run_equalIn_string w d t _ _ hu,fF,fF];rfl
   . cases h
 . cases h
theorem Iy {t:TypeId} {l:List CE} {off:Nat} {x:CE} (hu:P.underlying t≠none) (ha:gy P t=false) (h:l[off]? = some x):(part t (l.map (CE.den C ρ)).toArray off).run P w=.ok (x.den C ρ) w:=by
 obtain⟨d,hd⟩:=Option.ne_none_iff_exists'.1 hu;unfold part;rw[Sem.run_bind,kw t hd,Result.andThen_ok,if_neg (by rw[ha];decide),jQ,h];rfl
theorem Uc {d:Nat} {xs ys:List CE}:∀ {fs:List Field} {e:BE},XG P xs ys fs=some e->(Op.eqFields (d+1) (xs.map (CE.den C ρ)).toArray (ys.map (CE.den C ρ)).toArray fs).run P w=.ok (e.den C) w:=by
 intro fs
 induction fs with
 | nil=>intro e h;cases h;rfl
 | cons f fs ih=>
   intro e h;rw[XG] at h;split at h
   . cases h
   . rename_i hn;split at h
     . rename_i x y hx hy;split at h
       . rename_i e1 r h1 h2;cases h;have hne : f.name ≠ "_" := fun hh => hn (.inl hh)
         have hag:gy P f.type=false:=by
          cases hq:gy P f.type
          . rfl
          . exact absurd (.inr hq) hn
         obtain⟨hu,hrun⟩:=XF (C:=C) (ρ:=ρ) (w:=w) (d:=d) h1;rw[Op.eqFields,if_pos hne,Sem.run_bind,Iy hu hag hx,Result.andThen_ok,Sem.run_bind,Iy hu hag hy,Result.andThen_ok,Sem.run_bind,hrun,Result.andThen_ok,uJ];cases e1.den C
         . rfl
         . simp only[Bool.not_true,Bool.false_eq_true,if_false,Bool.true_and];exact ih h2
       . cases h
     . cases h
theorem AQ {t:TypeId} {xs ys:List CE} {e:BE} (h:Np P t xs ys=some e):(∀ op x y,(eqGuard op t x y (.agg (xs.map (CE.den C ρ)).toArray) (.agg (ys.map (CE.den C ρ)).toArray)).run P w=.ok () w)/\
 (Op.equalIn 10000 t (.agg (xs.map (CE.den C ρ)).toArray) (.agg (ys.map (CE.den C ρ)).toArray)).run P w=.ok (e.den C) w:=by
 unfold Np at h;split at h
 . cases h
 . rename_i hn;have h1:P.stoodInHeld t=false:=by
    cases hq:P.stoodInHeld t
    . rfl
    . exact absurd (.inl hq) hn
   have h2:P.eqGuardType P.depth t=false:=by
    cases hq:P.eqGuardType P.depth t
    . rfl
    . exact absurd (.inr hq) hn
   refine⟨fun op x y=>run_eqGuard_agg w op t x y _ _ h2,?_⟩;split at h
   . rename_i fs hu;have hf:P.fieldsOf t=fs:=by unfold Program.fieldsOf;rw[hu]
     rw[show (10000:Nat)=9999+1 from rfl,run_equalIn_struct w 9999 t _ _ (by rw[hf];exact hu) h1,hf];exact Uc (d:=9998) h
   . cases h
theorem Jm {nw:iY} {op:BinOp} {t:TypeId} {x y:Operand} {p q:PE} {c:BE} {v:PE} (h:ZP nw P op t p q=some (c,v)) (hc:c.den C=true):
 (eqGuard op t x y (p.den C ρ) (q.den C ρ)).run P w=.ok () w/\(binOp op t (p.den C ρ) (q.den C ρ)).run P w=.ok (v.den C ρ) w:=by
 unfold ZP at h;split at h
 . rename_i k a k' b;refine⟨FZ ..,?_⟩;split at h
   . cases h;have hb:¬ b.den C<0:=by
      have:0<=b.den C:=by simpa[BE.den,IE.den,kJ,fO] using hc
      omega
     simp[PE.den,CE.den,binOp,Op.shift,hb,IE.den,Kv]
   . cases h;have hb:¬ b.den C<0:=by
      have:0<=b.den C:=by simpa[BE.den,IE.den,kJ,fO] using hc
      omega
     simp[PE.den,CE.den,binOp,Op.shift,hb,IE.den,Kv]
   . rename_i hsl hsr;split at h
     . rename_i hk;subst hk;exact H7 (fun e=>by subst e;exact hsl rfl) (fun e=>by subst e;exact hsr rfl) h hc
     . cases h
 . exact⟨x8 ..,IZ h hc⟩
 . rename_i a b;refine⟨DJ ..,?_⟩;split at h
   . rename_i hu;cases h;show (do pure (Value.bool (<- Op.equal t (.bool (a.den C)) (.bool (b.den C))))).run P w=_;rw[Sem.run_bind,Nq hu];rfl
   . rename_i hu;cases h;show (do pure (Value.bool (!(<- Op.equal t (.bool (a.den C)) (.bool (b.den C)))))).run P w=_;rw[Sem.run_bind,Nq hu];rfl
   . cases h
 . rename_i l;refine⟨zZ ..,?_⟩;split at h
   . rename_i e hu;refine pF h (DK hu _) (fun op=>⟨fun h=>?_,fun h=>?_⟩)<;>(subst h;rfl)
   . cases h
 . rename_i n;refine⟨xZ ..,?_⟩;split at h
   . rename_i e hu;refine pF h ?_ (fun op=>⟨fun h=>?_,fun h=>?_⟩)
     . have:=AU (w:=w) hu ((C.p.getD n none).map fun x=>(⟨x.1,x.2,none⟩:Addr));rw[Option.isSome_map] at this;exact this
     . subst h;rfl
     . subst h;rfl
   . cases h
 . rename_i k o;refine⟨xZ ..,?_⟩;split at h
   . rename_i e hu;refine pF h (AU hu _) (fun op=>⟨fun h=>?_,fun h=>?_⟩)<;>(subst h;rfl)
   . cases h
 . rename_i xs ys;split at h
   . simp only[Option.map_eq_some_iff,Prod.mk.injEq] at h;obtain⟨e,he,-,rfl⟩:=h;obtain⟨h1,h2⟩:=AQ (C:=C) (ρ:=ρ) (w:=w) he;refine⟨h1 _ _ _,?_⟩;show (binOp .eql t (.agg _) (.agg _)).run P w=_;rw[run_eql_struct,h2];rfl
   . simp only[Option.map_eq_some_iff,Prod.mk.injEq] at h;obtain⟨e,he,-,rfl⟩:=h;obtain⟨h1,h2⟩:=AQ (C:=C) (ρ:=ρ) (w:=w) he;refine⟨h1 _ _ _,?_⟩;show (binOp .neq t (.agg _) (.agg _)).run P w=_;rw[run_neq_struct,h2];simp[PE.den,CE.den,mV]
   . cases h
 . cases h
theorem Sv {nw:iY} {op:UnOp} {p:PE} {c:BE} {v:PE} (h:unE nw op p=some (c,v)) (hc:c.den C=true):(Op.unary op (p.den C ρ)).run P w=.ok (v.den C ρ) w:=by
 unfold unE at h;split at h
 . split at h
   . cases h;simp[PE.den,CE.den,Op.unary,mV]
   . cases h
 . split at h
   . simp only[Option.some.injEq] at h;rw[qf h hc];simp[PE.den,CE.den,Op.unary,Op.intArith,IE.den]
   . cases h;simp[PE.den,CE.den,Op.unary,Op.intBits,IE.den,UZ]
   . cases h
 . cases h
theorem Fq {s d:TypeId} {p:PE} {c:BE} {v:PE} (h:Tu P s d p=some (c,v)):(convert s d (p.den C ρ)).run P w=.ok (v.den C ρ) w:=by
 unfold Tu at h;split at h
 . split at h
   . rename_i h1 h2;cases h;simp[PE.den,CE.den,convert,run_underlying h1,run_underlying h2,Conv.intToInt,IE.den]
   . cases h
 . split at h
   . rename_i h1 h2;cases h;simp[PE.den,CE.den,convert,run_underlying h1,run_underlying h2]
   . cases h
 . cases h
theorem DY {t:TypeId} {p q:PE} {c:BE} {v:PE} (h:Kr P t p q=some (c,v)) (hc:c.den C=true):(Instr.index t (p.den C ρ) (q.den C ρ)).run P w=.ok (v.den C ρ) w:=by
 unfold Kr at h;split at h
 . rename_i s k i;split at h
   . rename_i hu;cases h;simp only[BE.den,IE.den,Bool.and_eq_true,kJ,fO] at hc;obtain⟨h0,h1⟩:=hc;have hlt:(i.den C).toNat<(B (s.den C)).size:=by rw[dW];omega
     have hget:(B (s.den C))[(i.den C).toNat]? = some ((B (s.den C))[(i.den C).toNat]'hlt):=by
      rw[getElem?_pos]
     simp[PE.den,CE.den,Instr.index,asIntOf,run_underlying hu,h0,hget,IE.den,rX]
   . cases h
 . rename_i x y k i;split at h
   . rename_i n e hu;split at h
     . rename_i d hd hn;split at h
       . rename_i hck;obtain⟨rfl,hagg⟩:=hck;cases h;simp only[BE.den,IE.den,Bool.and_eq_true,kJ,fO] at hc;obtain⟨h0,h1⟩:=hc;have hpart:∀ m,m<2->(part e #[.string (B (x.den C)),.string (B (y.den C))] (m*1)).run P w=.ok (if m=0 then .string (B (x.den C)) else .string (B (y.den C))) w:=by
          intro m hm;unfold part;rw[Sem.run_bind,kw e hd,Result.andThen_ok,hagg];have:m=0\/m=1:=by omega
          rcases this with rfl | rfl<;>simp
         have e:(i.den C).toNat=0\/(i.den C).toNat=1:=by omega
         simp only[PE.den,List.map_cons,List.map_nil,CE.den,Instr.index,asIntOf,Sem.run_bind,run_underlying hu,Result.andThen_ok,Sem.run_pure];rw[if_pos ⟨h0,h1⟩,Sem.run_bind,dI hn,Result.andThen_ok,hpart _ (by omega)];simp only[SE.den,BE.den,IE.den];rcases e with e | e
         . have:i.den C=0:=by omega
           simp[this]
         . have:i.den C=1:=by omega
           simp[this]
       . cases h
     . cases h
   . cases h
 . cases h
theorem EC {t:TypeId} {x:PE} {lo hi:Option PE} {c:BE} {v:PE} (h:LM P t x lo hi=some (c,v)) (hc:c.den C=true):
 (Instr.sliceAt t (x.den C ρ) (lo.map (PE.den C ρ)) (hi.map (PE.den C ρ)) none).run P w=.ok (v.den C ρ) w:=by
 unfold LM at h;split at h
 . rename_i l e hu;split at h
   . rename_i lo' c' hi' n hl hh hn;cases h;simp only[BE.den,Bool.and_eq_true,fO,IE.den] at hc;obtain⟨hcc,h1,h2⟩:=hc;have hbounds:(Instr.sliceBounds true (l.den C).n (l.den C).c (lo.map (PE.den C ρ)) (hi.map (PE.den C ρ)) none).run P w=.ok ((lo'.den C).toNat,(hi'.den C).toNat,(l.den C).c) w:=by
      have hhi:(match hi.map (PE.den C ρ) with | some v=>Instr.sliceBound v (l.den C).c .sliceAcap | none=>pure (l.den C).n).run P w=.ok (hi'.den C).toNat w:=by
       cases hi with
       | none=>
         simp only[hiE,Option.some.injEq,Prod.mk.injEq] at hh;obtain⟨rfl,rfl⟩:=hh;simp[IE.den]
       | some q=>
         unfold hiE at hh;split at hh
         . rename_i hq;cases hq
         . rename_i k x hq;cases hq;cases hh;simp only[BE.den,Bool.and_eq_true,fO,IE.den] at hcc;simp[PE.den,CE.den,Instr.sliceBound,asIntOf,hcc.1,hcc.2]
         . cases hh
      have hlo:(match lo.map (PE.den C ρ) with | some v=>Instr.sliceBound v (hi'.den C).toNat .sliceB | none=>pure 0).run P w=.ok (lo'.den C).toNat w:=by
       cases lo with
       | none=>
         simp only[loE,Option.some.injEq] at hl;subst hl;simp[IE.den]
       | some q=>
         unfold loE at hl;split at hl
         . rename_i hq;cases hq
         . rename_i k x hq;cases hq;cases hl;have h3:lo'.den C<=(((hi'.den C).toNat:Nat):Int):=by omega
           simp[PE.den,CE.den,Instr.sliceBound,asIntOf,h1];intro hx;omega
         . cases hl
      unfold Instr.sliceBounds;simp only[Sem.run_bind,Sem.run_pure,Result.andThen_ok,if_true,Option.isSome_none,Bool.false_eq_true,if_false];cases hi with
      | none=>
        simp only[Option.map_none] at hhi⊢;rw[Sem.run_bind,hhi,Result.andThen_ok];cases lo with
        | none=>simp only[Option.map_none] at hlo ⊢;rw[Sem.run_bind,hlo];rfl
        | some q=>simp only[Option.map_some] at hlo ⊢;rw[Sem.run_bind,hlo];rfl
      | some q'=>
        simp only[Option.map_some] at hhi⊢;rw[Sem.run_bind,hhi,Result.andThen_ok];cases lo with
        | none=>simp only[Option.map_none] at hlo ⊢;rw[Sem.run_bind,hlo];rfl
        | some q=>simp only[Option.map_some] at hlo ⊢;rw[Sem.run_bind,hlo];rfl
     show (Instr.sliceAt t (l.den C).val _ _ none).run P w=_;unfold Instr.sliceAt;rw[Sem.run_bind,run_underlying hu,Result.andThen_ok];simp only[bM.val];unfold Instr.slice;rw[Sem.run_bind,run_underlying hu,Result.andThen_ok];simp only[Sem.run_bind,hbounds,Result.andThen_ok,dI hn,Sem.run_pure];simp only[PE.den,CE.den,LE.den,bM.val];congr 2;by_cases he:(l.den C).c=(lo'.den C).toNat
     . simp[he]
     . simp only[he,if_false];cases (l.den C).a with
       | none=>rfl
       | some x=>
         simp only[Option.map_some];congr 1;unfold Addr.add;split
         . rename_i h0;rw[h0];rfl
         . rfl
   . cases h
 . rename_i a hu;split at h
   . cases h;simp[PE.den,CE.den,Instr.sliceAt,Instr.slice,Instr.sliceBounds,run_underlying hu]
   . rename_i k l;cases h;simp only[BE.den,IE.den,Bool.and_eq_true,fO] at hc;obtain⟨h0,h1⟩:=hc;have h1':l.den C<=((B (a.den C)).size:Int):=by rw[dW];exact h1
     simp[PE.den,CE.den,Instr.sliceAt,Instr.slice,Instr.sliceBounds,Instr.sliceBound,asIntOf,run_underlying hu,h0,SE.den,IE.den,gm,dW];intro hx;omega
   . rename_i k hh;cases h;simp only[BE.den,IE.den,Bool.and_eq_true,fO] at hc;obtain⟨h0,h1⟩:=hc;have h1':hh.den C<=((B (a.den C)).size:Int):=by rw[dW];exact h1
     simp[PE.den,CE.den,Instr.sliceAt,Instr.slice,Instr.sliceBounds,Instr.sliceBound,asIntOf,run_underlying hu,h0,h1',SE.den,IE.den,gm]
   . rename_i k l k' hh;cases h;simp only[BE.den,IE.den,Bool.and_eq_true,fO] at hc;obtain⟨⟨h0,h1⟩,h2,h3⟩:=hc;have h1':hh.den C<=((B (a.den C)).size:Int):=by rw[dW];exact h1
     have h3':l.den C<=(((hh.den C).toNat:Nat):Int):=by omega
     simp[PE.den,CE.den,Instr.sliceAt,Instr.slice,Instr.sliceBounds,Instr.sliceBound,asIntOf,run_underlying hu,h0,h1',h2,SE.den,gm];intro hx;omega
   . cases h
 . cases h
theorem WB {α β:Type} {f:α->Sem β} {g:α->β}:∀ {l:List α},(∀ x∈l,(f x).run P w=.ok (g x) w)->(l.mapM f).run P w=.ok (l.map g) w:=by
 intro l
 induction l with
 | nil=>intro _;rfl
 | cons x l ih=>
   intro h;rw[List.mapM_cons,Sem.run_bind,h x (by simp),Result.andThen_ok,Sem.run_bind,ih (fun y hy=>h y (by simp[hy])),Result.andThen_ok];rfl
theorem Et {α β:Type} {f:α->Sem β} {g:α->β} {l:Array α} (h:∀ x∈l.toList,(f x).run P w=.ok (g x) w):(l.mapM f).run P w=.ok (l.toList.map g).toArray w:=by
 rw[Array.mapM_eq_mapM_toList];show (do let x <- l.toList.mapM f;pure x.toArray).run P w=_;rw[Sem.run_bind,WB h];rfl
theorem Vm {t:TypeId} {l:List CE} {off:Nat} {v:PE} (h:Vl P t l off=some v):(part t (l.map (CE.den C ρ)).toArray off).run P w=.ok (v.den C ρ) w:=by
 unfold Vl at h;split at h
 . rename_i d n hd hn;unfold part;rw[Sem.run_bind,kw t hd,Result.andThen_ok];split at h
   . rename_i hagg;cases h;rw[if_pos hagg,Sem.run_bind,dI hn,Result.andThen_ok];simp[PE.den,List.map_take,List.map_drop]
   . rename_i hagg;simp only[Option.map_eq_some_iff] at h;obtain⟨x,hx,rfl⟩:=h;rw[if_neg hagg,jQ,hx];rfl
 . cases h
theorem sS (ho:eG C.v) (place:Nat->Option (Nat×Nat)) (parts:List (Nat×PE)):∀ (cells out:List CE),yf place cells parts=some out->
 Instr.fill place (cells.map (CE.den C ρ)).toArray (parts.map fun x=>(x.1,x.2.den C ρ))=some (out.map (CE.den C ρ)).toArray:=by
 induction parts with
 | nil=>intro cells out h;cases h;rfl
 | cons x rest ih=>
   obtain⟨i,v⟩:=x;intro cells out h;rw[yf] at h;rw[List.map_cons,Instr.fill];split at h
   . rename_i off size hp;split at h
     . rename_i hc;obtain⟨h1,h2⟩:=hc;have hcells:=mY ho ρ v;simp only[hp,hcells];have hsz:(v.cells.map (CE.den C ρ)).toArray.size=size:=by simpa using h1
       rw[if_neg (by rw[hsz];simp;omega)];have hfold:∀ (l:List (CE×Nat)) (cs:List CE),(l.map fun x=>(x.1.den C ρ,x.2)).foldl (fun (cs:Array Value) (x:Value×Nat)=>cs.setIfInBounds (off+x.2) x.1) (cs.map (CE.den C ρ)).toArray=((l.foldl (fun cs x=>cs.set (off+x.2) x.1) cs).map (CE.den C ρ)).toArray:=by
        intro l
        induction l with
        | nil=>intro cs;rfl
        | cons y l ih2=>
          intro cs;simp only[List.map_cons,List.foldl_cons];rw[<- ih2];congr 1;simp[List.map_set]
       have hz:(v.cells.map (CE.den C ρ)).toArray.zipIdx.toList=v.cells.zipIdx.map fun x=>(x.1.den C ρ,x.2):=by
        simp[List.zipIdx_map]
       rw[<- Array.foldl_toList,hz,hfold];exact ih _ _ h
     . cases h
   . cases h
theorem PG (ho:eG C.v) {t:TypeId} {parts:List (Nat×PE)} {ps:Array (Nat×Value)} (hps:ps.toList=parts.map fun x=>(x.1,x.2.den C ρ)) {v:PE} (h:Jn P t parts=some v):(Instr.build t ps).run P w=.ok (v.den C ρ) w:=by
 unfold Jn at h;split at h
 . rename_i fs z hu hz;split at h
   . rename_i hall;simp only[Option.map_eq_some_iff] at h;obtain⟨out,hout,rfl⟩:=h;simp only[Option.bind_eq_some_iff] at hz;obtain⟨zs,hzs,hz⟩:=hz;unfold kW at hzs;simp only[Option.map_eq_some_iff,Option.bind_eq_some_iff] at hzs;obtain⟨zv,⟨inf,hinf,hzv⟩,rfl⟩:=hzs;have hzero:(zeroValue t).run P w=.ok zv w:=by simp[zeroValue,typeInfo,hinf,hzv]
     have hmap:(fs.mapM fun f=>(do pure (f.offset,<- sizeOf f.type):Sem (Nat×Nat))).run P w=.ok ((fs.toList.map fun f=>(f.offset,(dX P f.type).getD 0)).toArray) w:=by
      refine Et fun f hf=>?_
      have:=List.all_eq_true.1 hall f hf;obtain⟨n,hn⟩:=Option.isSome_iff_exists.1 this;rw[Sem.run_bind,dI hn,hn];rfl
     unfold Instr.build;rw[Sem.run_bind,hzero,Result.andThen_ok,Sem.run_bind,run_underlying hu,Result.andThen_ok];simp only;rw[Sem.run_bind,hmap,Result.andThen_ok];have hplace:∀ i x,uN P t i=some x->((fs.toList.map fun f=>(f.offset,(dX P f.type).getD 0)).toArray)[i]? = some x:=by
      intro i x hx;unfold uN rD at hx;rw[hu] at hx;simp only[Option.bind_eq_some_iff,Option.map_eq_some_iff] at hx;obtain⟨⟨o,u⟩,⟨f,hf,he⟩,n,hn,rfl⟩:=hx;cases he;simp[hf,hn]
     have hcells:zv.cells=(z.map (CE.den C ρ)).toArray:=by rw[iL C ρ hz]
     have hfill:=sS (C:=C) (ρ:=ρ) ho (uN P t) parts z out hout;have hmono:∀ (l:List (Nat×Value)) (cs out:Array Value),Instr.fill (uN P t) cs l=some out->Instr.fill (((fs.toList.map fun f=>(f.offset,(dX P f.type).getD 0)).toArray)[·]?) cs l=some out:=by
      intro l
      induction l with
      | nil=>intro cs out h;exact h
      | cons y l ih=>
        obtain⟨i,u⟩:=y;intro cs out h;rw[Instr.fill] at h⊢;cases hpl:uN P t i with
        | none=>rw[hpl] at h;cases h
        | some q=>
          rw[hpl] at h;rw[hplace i q hpl];simp only at h⊢;split at h
          . cases h
          . rename_i hn;rw[if_neg hn];exact ih _ _ h
     rw[hcells,hps,hmono _ _ _ hfill];rfl
   . cases h
 . rename_i len e z hu hz;split at h
   . rename_i n hn;simp only[Option.map_eq_some_iff] at h;obtain⟨out,hout,rfl⟩:=h;simp only[Option.bind_eq_some_iff] at hz;obtain⟨zs,hzs,hz⟩:=hz;unfold kW at hzs;simp only[Option.map_eq_some_iff,Option.bind_eq_some_iff] at hzs;obtain⟨zv,⟨inf,hinf,hzv⟩,rfl⟩:=hzs;have hzero:(zeroValue t).run P w=.ok zv w:=by simp[zeroValue,typeInfo,hinf,hzv]
     have hcells:zv.cells=(z.map (CE.den C ρ)).toArray:=by rw[iL C ρ hz]
     unfold Instr.build;rw[Sem.run_bind,hzero,Result.andThen_ok,Sem.run_bind,run_underlying hu,Result.andThen_ok];simp only;rw[Sem.run_bind,dI hn,Result.andThen_ok,hcells,hps,sS (C:=C) (ρ:=ρ) ho _ parts z out hout];rfl
   . cases h
 . cases h
variable {B:Nat} {h0:Hp} {w0:World} {st:St} {a:Act}
theorem xK (R:Rep B h0 w0 ρ st C a w) {k:Nat} {b:oO} (h:st.m[k]? = some b) (o:Nat):w.cell? ⟨ρ k,o,none⟩=(b.cells[o]?).map (CE.den C ρ):=by
 unfold World.cell?;rw[R.blocks k b h];simp
theorem yI (R:Rep B h0 w0 ρ st C a w) {t:TypeId} {p v:PE} (h:vU P st t p=some v):(Instr.loadAt t (p.den C ρ)).run P w=.ok (v.den C ρ) w:=by
 unfold vU at h;split at h
 . rename_i k o;split at h
   . rename_i b d n hb hd hn;show (do loadVar t (<- Instr.sureAddr (.pointer (some ⟨ρ k,o,none⟩)))).run P w=_;rw[Sem.run_bind];show (loadVar t ⟨ρ k,o,none⟩).run P w=_;unfold loadVar;rw[Sem.run_bind,kw t hd,Result.andThen_ok];split at h
     . rename_i hagg;rw[if_pos hagg,Sem.run_bind,dI hn,Result.andThen_ok];split at h
       . rename_i hle;cases h;have hl:((b.cells.drop o).take n |>.map (CE.den C ρ)).length=n:=by simp;omega
         have:=run_loadCells_list (P:=P) w ⟨ρ k,o,none⟩ ((b.cells.drop o).take n |>.map (CE.den C ρ)) (by
          intro j u hu;have e:(⟨ρ k,o,none⟩:Addr).add j=⟨ρ k,o+j,none⟩:=by
           unfold Addr.add;split
           . rename_i h0;subst h0;rfl
           . rfl
          rw[e,xK R hb];rw[List.getElem?_map,List.getElem?_take] at hu;split at hu
          . rw[List.getElem?_drop] at hu;exact hu
          . cases hu)
         rw[hl] at this;rw[Sem.run_bind,this];rfl
       . cases h
     . rename_i hagg;rw[if_neg hagg];simp only[Option.map_eq_some_iff] at h;obtain⟨x,hx,rfl⟩:=h;have hc:=xK R hb o;rw[hx] at hc;simp[hc,PE.den]
   . cases h
 . cases h
theorem parts_eval (R:Rep B h0 w0 ρ st C a w) {gs:Gs} (hg:dE gs a.tmps) {xs:List (Nat×Operand)}:∀ {ps:List (Nat×PE)},iI st gs xs=some ps->xs.map (fun x=>(x.1,a.eval x.2))=ps.map fun x=>(x.1,x.2.den C ρ):=by
 induction xs with
 | nil=>intro ps h;cases h;rfl
 | cons x xs ih=>
   obtain⟨i,x⟩:=x;intro ps h;rw[iI] at h;split at h
   . rename_i p ps hp hps;cases h;rw[List.map_cons,List.map_cons,aK R hg hp,ih hps]
   . cases h
theorem iQ {s:Sem Value} {x:Value} (h:s.run P w=.ok x w):(do pure (Next.value (<- s)):Sem Next).run P w=.ok (.value x) w:=by
 rw[Sem.run_bind,h];rfl
theorem Cf (R:Rep B h0 w0 ρ st C a w) {gs:Gs} (hg:dE gs a.tmps) {x:Option Operand} {p:Option PE} (h:KW st gs x=some p):x.map a.eval=p.map (PE.den C ρ):=by
 cases x with
 | none=>cases h;rfl
 | some x=>
   simp only[KW,Option.map_eq_some_iff] at h;obtain⟨q,hq,rfl⟩:=h;simp[aK R hg hq]
theorem II (R:Rep B h0 w0 ρ st C a w) {gs:Gs} (hg:dE gs a.tmps):∀ {xs:List Operand} {l:List Nat},Lp st gs xs=some l->xs.map a.eval=l.map fun n=>Value.pointer ((C.p.getD n none).map fun x=>⟨x.1,x.2,none⟩)
 | [],l,h=>by cases h;rfl
 | x::xs,l,h=>by
   unfold Lp at h;split at h
   . rename_i n l' hx hxs;cases h;have:=aK R hg hx;simp only[List.map_cons,II R hg hxs,this,PE.den,CE.den]
   . cases h
set_option maxHeartbeats 1000000 in
theorem nV (R:Rep B h0 w0 ρ st C a w) {nw:iY} {gs:Gs} (hg:dE gs a.tmps) {o:Oper} {c:BE} {v:PE} (h:pO nw P st gs o.op=some (c,v)) (hc:c.den C=true):
 (execOp a.eval o).run P w=.ok (.value (v.den C ρ)) w:=by
 obtain⟨dst,op,type,pos,after,guard⟩:=o;simp only at h;unfold pO at h;unfold execOp;split at h
 . -- move
   simp only[Option.map_eq_some_iff,Prod.mk.injEq] at h;obtain⟨u,hu,-,rfl⟩:=h;simp[aK R hg hu]
 . -- assign
   simp only[Option.map_eq_some_iff,Prod.mk.injEq] at h;obtain⟨u,hu,-,rfl⟩:=h;simp[aK R hg hu]
 . -- pick
   rename_i c' x y;split at h
   . rename_i s;split at h
     . rename_i e p q he hp hq;simp only[Option.map_eq_some_iff,Prod.mk.injEq] at h;obtain⟨u,hu,-,rfl⟩:=h;have hs:=oh R hg he;have hs':a.eval (.tmp s)=.bool (e.den C):=hs;simp only[hs',asBool];rw[Yl hu];cases hb:e.den C
       . rw[hb] at hs;have:=aK R (gs:=gs++[(s,false)]) (jZ.2 ⟨hg,jf.2 hs⟩) hq;simp[this]
       . rw[hb] at hs;have:=aK R (gs:=gs++[(s,true)]) (jZ.2 ⟨hg,jf.2 hs⟩) hp;simp[this]
     . cases h
   . cases h
 . -- fieldAddr
   rename_i t x f;split at h
   . rename_i k o off u hx hf;split at h
     . cases h
     . rename_i hsz;cases h;unfold rD at hf;split at hf
       . rename_i fs hu;simp only[Option.map_eq_some_iff,Prod.mk.injEq] at hf;obtain⟨fd,hfd,rfl,rfl⟩:=hf;have hn:∃ n,dX P fd.type=some n/\n≠0:=by
          cases hq:dX P fd.type with
          | none=>exact absurd (.inr hq) hsz
          | some n=>exact⟨n,rfl,fun h0=>hsz (.inl (by rw[hq,h0]))⟩
         obtain⟨n,hn,hn0⟩:=hn;refine iQ ?_;have hx':=aK R hg hx;simp only[hx',PE.den,CE.den,Instr.fieldAt];rw[Sem.run_bind,run_underlying hu,Result.andThen_ok];simp only[hfd,Instr.sureAddr,fieldPlace,Sem.run_bind,Sem.run_pure,Result.andThen_ok,dI hn,if_neg hn0];unfold Addr.add;split
         . rename_i h0;rw[h0];rfl
         . rfl
       . cases hf
   . rename_i x' off u hx hf;split at h
     . cases h
     . rename_i hsz;cases h;unfold rD at hf;split at hf
       . rename_i fs hu;simp only[Option.map_eq_some_iff,Prod.mk.injEq] at hf;obtain⟨fd,hfd,rfl,rfl⟩:=hf;have hn:∃ n,dX P fd.type=some n/\n≠0:=by
          cases hq:dX P fd.type with
          | none=>exact absurd (.inr hq) hsz
          | some n=>exact⟨n,rfl,fun h0=>hsz (.inl (by rw[hq,h0]))⟩
         obtain⟨n,hn,hn0⟩:=hn;cases hax:x'.den C with
         | none=>
           exfalso;cases x' with
           | pt n off=>
             simp only[AE.den,Option.map_eq_none_iff] at hax;rw[AE.ok,BE.den,hax] at hc;cases hc
           | el l i sz off=>
             simp only[AE.den,Option.map_eq_none_iff] at hax;rw[AE.ok,BE.den,hax] at hc;cases hc
         | some q=>
           refine iQ ?_;have hx':=aK R hg hx;have hv:a.eval x=.pointer (some ⟨q.1,q.2,none⟩):=by rw[hx'];show nI (x'.den C)=_;rw[hax];rfl
           simp only[hv,Instr.fieldAt];rw[Sem.run_bind,run_underlying hu,Result.andThen_ok];simp only[hfd,Instr.sureAddr,fieldPlace,Sem.run_bind,Sem.run_pure,Result.andThen_ok,dI hn,if_neg hn0];have hp:(x'.plus fd.offset).den C=some (q.1,q.2+fd.offset):=by
            cases x' with
            | pt n off=>
              simp only[AE.den,Option.map_eq_some_iff] at hax;obtain⟨z,hz,rfl⟩:=hax;simp only[AE.plus,AE.den,hz,Option.map_some,Nat.add_assoc]
            | el l i sz off=>
              simp only[AE.den,Option.map_eq_some_iff] at hax;obtain⟨z,hz,rfl⟩:=hax;simp only[AE.plus,AE.den,hz,Option.map_some,Nat.add_assoc]
           show _=Result.ok (nI ((x'.plus fd.offset).den C)) w;rw[hp];unfold Addr.add;split
           . rename_i h0;rw[h0];rfl
           . rfl
       . cases hf
   . cases h
 . -- field
   split at h
   . rename_i l off u hx hf;simp only[Option.map_eq_some_iff,Prod.mk.injEq] at h;obtain⟨x,hx2,-,rfl⟩:=h;unfold rD at hf;split at hf
     . rename_i fs hu;simp only[Option.map_eq_some_iff,Prod.mk.injEq] at hf;obtain⟨fd,hfd,rfl,rfl⟩:=hf;refine iQ ?_;have hx':=aK R hg hx;simp only[hx',PE.den,Instr.field];rw[Sem.run_bind,run_underlying hu,Result.andThen_ok];simp only[hfd,asAgg,Sem.run_bind,Sem.run_pure,Result.andThen_ok];exact Vm hx2
     . cases hf
   . cases h
 . -- nilCheck
   split at h
   . rename_i k o hx;cases h;have hx':=aK R hg hx;simp only[hx',PE.den,CE.den];rfl
   . rename_i a' hx;cases h;have hx':=aK R hg hx;simp only[hx',PE.den,CE.den];cases a'.den C<;>rfl
   . rename_i n hx;cases h;have hx':=aK R hg hx;simp only[hx',PE.den,CE.den,AE.den];cases hq:C.p.getD n none with
     | none=>rw[BE.den,hq] at hc;cases hc
     | some q=>rfl
   . rename_i f hx;cases h;have hx':=aK R hg hx;simp only[hx',PE.den,CE.den];rfl
   . cases h
 . -- indexAddr
   split at h
   . rename_i l k ix e hx hix hu;split at h
     . rename_i n hn;cases h;simp only[BE.den,Bool.and_eq_true,fO,kJ,IE.den] at hc;obtain⟨⟨h1,h2⟩,h3⟩:=hc;have hx':=aK R hg hx;have hi':=aK R hg hix;refine iQ ?_;rw[hx',hi'];simp only[PE.den,CE.den,AE.den,bM.val];obtain⟨q,hq⟩:=Option.isSome_iff_exists.1 h3;rw[hq];unfold Instr.indexAt;simp only[asIntOf,Sem.run_bind,Sem.run_pure,Result.andThen_ok,run_underlying hu,Option.map_some,h1,h2,and_self,if_true,dI hn];show _=Result.ok (nI (some (q.1,q.2+(ix.den C).toNat*n+0))) w;unfold Addr.add;split
       . rename_i h0;rw[h0];rfl
       . rfl
     . cases h
   . rename_i k o k' ix len e hx hix hu;split at h
     . rename_i n hn;split at h
       . rename_i hb;cases h;have hx':=aK R hg hx;have hi':=aK R hg hix;refine iQ ?_;rw[hx',hi'];simp only[PE.den,CE.den,IE.den];unfold Instr.indexAt;simp only[asIntOf,Sem.run_bind,Sem.run_pure,Result.andThen_ok,run_underlying hu,Instr.sureAddr,hb.1,hb.2,and_self,if_true,dI hn];unfold Addr.add;split
         . rename_i h0;rw[h0];rfl
         . rfl
       . cases h
     . cases h
   . cases h
 . -- binOp
   rename_i op t x y yt;split at h
   . rename_i p q hp hq;obtain⟨h1,h2⟩:=Jm (w:=w) (ρ:=ρ) (x:=x) (y:=y) h hc;refine iQ ?_;rw[aK R hg hp,aK R hg hq,Sem.run_bind,h1,Result.andThen_ok];exact h2
   . cases h
 . -- unOp
   simp only[Option.bind_eq_some_iff] at h;obtain⟨p,hp,h⟩:=h;exact iQ (by rw[aK R hg hp];exact Sv h hc)
 . -- convert
   simp only[Option.bind_eq_some_iff] at h;obtain⟨p,hp,h⟩:=h;exact iQ (by rw[aK R hg hp];exact Fq h)
 . -- index
   split at h
   . rename_i p q hp hq;exact iQ (by rw[aK R hg hp,aK R hg hq];exact DY h hc)
   . cases h
 . -- slice
   split at h
   . rename_i p l hh hp hl hh';refine iQ ?_;rw[aK R hg hp,Cf R hg hl,Cf R hg hh'];exact EC h hc
   . cases h
 . -- extract
   rename_i s ix;split at h
   . rename_i l hs;simp only[Option.map_eq_some_iff,Prod.mk.injEq] at h;obtain⟨x,hx,-,rfl⟩:=h;have:=R.slots s _ hs;have hs':a.eval (.tmp s)=.tuple (l.map (PE.den C ρ)).toArray:=this;refine iQ ?_;rw[hs'];simp[Instr.extract,hx]
   . cases h
 . -- load
   simp only[Option.bind_eq_some_iff,Option.map_eq_some_iff,Prod.mk.injEq] at h;obtain⟨p,hp,u,hu,-,rfl⟩:=h;refine iQ ?_;rw[aK R hg hp];exact yI R hu
 . -- build
   simp only[Option.bind_eq_some_iff,Option.map_eq_some_iff,Prod.mk.injEq] at h;obtain⟨ps,hps,x,hx,-,rfl⟩:=h;refine iQ ?_;refine PG R.ones ?_ hx;have:=parts_eval R hg hps;simpa using this
 . -- len
   rename_i ars tys;split at h
   . rename_i x t ha ht;split at h
     . rename_i s hx hu;cases h;have hargs:ars=#[x]:=by cases ars;simp at ha;subst ha;rfl
       have htys:tys=#[t]:=by cases tys;simp at ht;subst ht;rfl
       subst hargs htys;have hx':=aK R hg hx;simp[resolve,invoke,builtin,Builtin.len_,hx',PE.den,CE.den,run_underlying hu,IE.den,goInt,dW]
     . rename_i l e hx hu;cases h;have hargs:ars=#[x]:=by cases ars;simp at ha;subst ha;rfl
       have htys:tys=#[t]:=by cases tys;simp at ht;subst ht;rfl
       subst hargs htys;have hx':=aK R hg hx;simp[resolve,invoke,builtin,Builtin.len_,hx',PE.den,CE.den,run_underlying hu,IE.den,goInt,bM.val]
     . cases h
   . cases h
 . -- min
   rename_i ars _;split at h
   . rename_i x y ha;split at h
     . rename_i k p k' q hx hy;split at h
       . rename_i hk;subst hk;cases h;have hargs:ars=#[x,y]:=by cases ars;simp at ha;subst ha;rfl
         subst hargs;have hx':=aK R hg hx;have hy':=aK R hg hy;by_cases hlt:q.den C<p.den C
         . simp[resolve,invoke,builtin,Builtin.min_,Builtin.min2,hx',hy',PE.den,CE.den,IE.den,BE.den,Ob,hlt]
         . simp[resolve,invoke,builtin,Builtin.min_,Builtin.min2,hx',hy',PE.den,CE.den,IE.den,BE.den,Ob,hlt]
       . cases h
     . cases h
   . cases h
 . -- max
   rename_i ars _;split at h
   . rename_i x y ha;split at h
     . rename_i k p k' q hx hy;split at h
       . rename_i hk;subst hk;cases h;have hargs:ars=#[x,y]:=by cases ars;simp at ha;subst ha;rfl
         subst hargs;have hx':=aK R hg hx;have hy':=aK R hg hy;by_cases hlt:p.den C<q.den C
         . simp[resolve,invoke,builtin,Builtin.max_,Builtin.max2,hx',hy',PE.den,CE.den,IE.den,BE.den,Ob,hlt]
         . simp[resolve,invoke,builtin,Builtin.max_,Builtin.max2,hx',hy',PE.den,CE.den,IE.den,BE.den,Ob,hlt]
       . cases h
     . cases h
   . cases h
 . -- makeFunc
   rename_i f first captured
   split at h
   . rename_i hz;simp only[Option.map_eq_some_iff,Prod.mk.injEq] at h;obtain⟨l,hl,-,rfl⟩:=h;have hf:first=#[]:=Array.eq_empty_of_size_eq_zero hz
     subst hf;have hp:=II R hg hl;refine iQ ?_;have hc2:captured.map a.eval=(l.map fun n=>Value.pointer ((C.p.getD n none).map fun x=>⟨x.1,x.2,none⟩)).toArray:=by
      rw[<- hp];exact Array.toList_inj.1 (by rw[Array.toList_map])
     rw[hc2,show Array.map a.eval #[]=#[] from Array.toList_inj.1 (by rw[Array.toList_map];rfl)];rfl
   . cases h
 . cases h
end
def Good (P:Program) (E:Env):Prop:=∀ f args h φ w,E.spec f args h φ->Holds h w->
 if f=iM then ∃ args' f' cap,args=.func (.func f') #[] (List.toArray cap)::args'/\nN P f'=true/\Calls P f' (args'++cap).toArray w fun e w'=>∃ v k,e=.returned v/\φ v k/\Holds k w'/\Fr w.heap.size h k w w'
 else Calls P f args.toArray w fun e w'=>∃ v k,e=.returned v/\φ v k/\Holds k w'/\Fr w.heap.size h k w w'
structure ExtL (C D:Ctx):Prop where
 i:C.i <+: D.i
 b:C.b <+: D.b
 s:C.s <+: D.s
 v:C.v <+: D.v
 l:C.l <+: D.l
 p:C.p <+: D.p
structure Ext (C D:Ctx):Prop extends ExtL C D where
 m:D.m=C.m
theorem ExtL.refl (C:Ctx):ExtL C C:=⟨List.prefix_refl _,List.prefix_refl _,List.prefix_refl _,List.prefix_refl _,List.prefix_refl _,List.prefix_refl _⟩
theorem ExtL.trans {C D F:Ctx} (h:ExtL C D) (k:ExtL D F):ExtL C F:=⟨h.i.trans k.i,h.b.trans k.b,h.s.trans k.s,h.v.trans k.v,h.l.trans k.l,h.p.trans k.p⟩
theorem Ext.refl (C:Ctx):Ext C C:=⟨ExtL.refl C,rfl⟩
theorem Ext.trans {C D F:Ctx} (h:Ext C D) (k:Ext D F):Ext C F:=⟨h.toExtL.trans k.toExtL,k.m.trans h.m⟩
theorem Ext.push (C:Ctx) (x:Inc):Ext C (C.push x):=
 ⟨⟨List.prefix_append _ _,List.prefix_append _ _,List.prefix_append _ _,List.prefix_append _ _,List.prefix_append _ _,List.prefix_append _ _⟩,rfl⟩
theorem Ext.heap (C:Ctx) (h:Hp):Ext C (C.heap h):=⟨⟨List.prefix_refl _,List.prefix_refl _,List.prefix_refl _,List.prefix_refl _,List.prefix_refl _,List.prefix_refl _⟩,rfl⟩
theorem fQ {α:Type} {l m:List α} {d:α} (h:l <+: m) {n:Nat} (hn:n<l.length):l.getD n d=m.getD n d:=by
 obtain⟨t,rfl⟩:=h;simp[List.getElem?_append_left hn]
structure Has (C:Ctx) (N:Cnt):Prop where
 i:C.i.length=N.i
 b:C.b.length=N.b
 s:C.s.length=N.s
 v:C.v.length=N.v
 l:C.l.length=N.l
 p:C.p.length=N.p
theorem ExtL.Dh {C D:Ctx} (h:ExtL C D) {N:Cnt} (H:Has C N):CY N C D:=
 ⟨fun _ hn=>fQ h.i (by rw[H.i];exact hn),fun _ hn=>fQ h.b (by rw[H.b];exact hn),fun _ hn=>fQ h.s (by rw[H.s];exact hn),fun _ hn=>fQ h.v (by rw[H.v];exact hn),fun _ hn=>fQ h.l (by rw[H.l];exact hn),fun _ hn=>fQ h.p (by rw[H.p];exact hn)⟩
theorem Ext.Dh {C D:Ctx} (h:Ext C D) {N:Cnt} (H:Has C N):CY N C D:=h.toExtL.Dh H
theorem Has.push {C:Ctx} {N M:Cnt} (H:Has C N) {x:Inc} (h:N.add x.cnt=M):Has (C.push x) M:=by
 subst h;exact⟨by simp[Ctx.push,Cnt.add,Inc.cnt,H.i],by simp[Ctx.push,Cnt.add,Inc.cnt,H.b],by simp[Ctx.push,Cnt.add,Inc.cnt,H.s],by simp[Ctx.push,Cnt.add,Inc.cnt,H.v],by simp[Ctx.push,Cnt.add,Inc.cnt,H.l],by simp[Ctx.push,Cnt.add,Inc.cnt,H.p]⟩
theorem Has.heap {C:Ctx} {N:Cnt} (H:Has C N) (h:Hp):Has (C.heap h) N:=⟨H.i,H.b,H.s,H.v,H.l,H.p⟩
structure Same (C D:Ctx):Prop where
 i:C.i=D.i
 b:C.b=D.b
 s:C.s=D.s
 v:C.v=D.v
 l:C.l=D.l
 p:C.p=D.p
section
variable {C D:Ctx} (h:Same C D)
include h
mutual
theorem IE.aC:∀ e:IE,e.den C=e.den D
 | .x _=>by simp only[IE.den,h.i]
 | .c _=>rfl
 | .add x y=>by simp only[IE.den,IE.aC x,IE.aC y]
 | .sub x y=>by simp only[IE.den,IE.aC x,IE.aC y]
 | .mul x y=>by simp only[IE.den,IE.aC x,IE.aC y]
 | .wr _ x=>by simp only[IE.den,IE.aC x]
 | .quo x y=>by simp only[IE.den,IE.aC x,IE.aC y]
 | .rem x y=>by simp only[IE.den,IE.aC x,IE.aC y]
 | .bits _ _ x y=>by simp only[IE.den,IE.aC x,IE.aC y]
 | .sh _ _ x y=>by simp only[IE.den,IE.aC x,IE.aC y]
 | .len x=>by simp only[IE.den,SE.aC x]
 | .at x y=>by simp only[IE.den,SE.aC x,IE.aC y]
 | .cnt x=>by simp only[IE.den,LE.aC x]
 | .cap x=>by simp only[IE.den,LE.aC x]
 | .ite x y z=>by simp only[IE.den,BE.aC x,IE.aC y,IE.aC z]
theorem BE.aC:∀ e:BE,e.den C=e.den D
 | .x _=>by simp only[BE.den,h.b]
 | .c _=>rfl
 | .not x=>by simp only[BE.den,BE.aC x]
 | .and x y=>by simp only[BE.den,BE.aC x,BE.aC y]
 | .or x y=>by simp only[BE.den,BE.aC x,BE.aC y]
 | .imp x y=>by simp only[BE.den,BE.aC x,BE.aC y]
 | .eqI x y=>by simp only[BE.den,IE.aC x,IE.aC y]
 | .lt x y=>by simp only[BE.den,IE.aC x,IE.aC y]
 | .le x y=>by simp only[BE.den,IE.aC x,IE.aC y]
 | .eqB x y=>by simp only[BE.den,BE.aC x,BE.aC y]
 | .eqS x y=>by simp only[BE.den,SE.aC x,SE.aC y]
 | .ltS x y=>by simp only[BE.den,SE.aC x,SE.aC y]
 | .nns x=>by simp only[BE.den,LE.aC x]
 | .nnp _=>by simp only[BE.den,h.p]
 | .ite x y z=>by simp only[BE.den,BE.aC x,BE.aC y,BE.aC z]
theorem SE.aC:∀ e:SE,e.den C=e.den D
 | .x _=>by simp only[SE.den,h.s]
 | .c _=>rfl
 | .app x y=>by simp only[SE.den,SE.aC x,SE.aC y]
 | .sub x y z=>by simp only[SE.den,SE.aC x,IE.aC y,IE.aC z]
 | .ite x y z=>by simp only[SE.den,BE.aC x,SE.aC y,SE.aC z]
theorem LE.aC:∀ e:LE,e.den C=e.den D
 | .x _=>by simp only[LE.den,h.l]
 | .nil=>rfl
 | .sub x y z _=>by simp only[LE.den,LE.aC x,IE.aC y,IE.aC z]
end
theorem AE.aC:∀ e:AE,e.den C=e.den D
 | .pt _ _=>by simp only[AE.den,h.p]
 | .el l i _ _=>by simp only[AE.den,LE.aC h l,IE.aC h i]
theorem CE.aC (ρ:Nat->Nat):∀ e:CE,e.den C ρ=e.den D ρ
 | .i _ e=>by simp only[CE.den,IE.aC h e]
 | .b e=>by simp only[CE.den,BE.aC h e]
 | .s e=>by simp only[CE.den,SE.aC h e]
 | .own _ _=>rfl
 | .osl _ _=>rfl
 | .v _=>by simp only[CE.den,h.v]
 | .c _=>rfl
 | .sl l=>by simp only[CE.den,LE.aC h l]
 | .pt _=>by simp only[CE.den,h.p]
 | .adr a=>by simp only[CE.den,AE.aC h a]
 | .clo _ _=>by simp only[CE.den,h.p]
theorem PE.aC (ρ:Nat->Nat) (e:PE):e.den C ρ=e.den D ρ:=by
 cases e with
 | one c=>exact CE.aC h ρ c
 | agg l=>simp only[PE.den];rw[show CE.den C ρ=CE.den D ρ from funext fun c=>CE.aC h ρ c]
theorem VE.aC (ρ:Nat->Nat) (e:VE):e.den C ρ=e.den D ρ:=by
 cases e with
 | p x=>exact PE.aC h ρ x
 | tup l=>simp only[VE.den];rw[show PE.den C ρ=PE.den D ρ from funext fun c=>PE.aC h ρ c]
 | _=>rfl
end
theorem Same.heap (C:Ctx) (h:Hp):Same (C.heap h) C:=⟨rfl,rfl,rfl,rfl,rfl,rfl⟩
theorem VE.xU (C:Ctx) (h:Hp) (ρ:Nat->Nat) (e:VE):e.den (C.heap h) ρ=e.den C ρ:=VE.aC (Same.heap C h) ρ e
theorem VE.J9 {C D:Ctx} (h:Same C D) (ρ:Nat->Nat) (t:Array Value) (u:Value) (e:VE) (hh:e.holds C ρ t u):e.holds D ρ t u:=by
 cases e with
 | dead=>trivial
 | p x=>rw[VE.holds,<- PE.aC h ρ x];exact hh
 | tup l=>
   have:l.map (PE.den C ρ)=l.map (PE.den D ρ):=List.map_congr_left fun e _=>PE.aC h ρ e
   rw[VE.holds,<- this];exact hh
 | wg gs x=>exact⟨fun hg=>by rw[<- PE.aC h ρ x];exact hh.1 hg,hh.2⟩
theorem Rep.same {B:Nat} {h0:Hp} {w0:World} {ρ:Nat->Nat} {st:St} {C D:Ctx} {a:Act} {w:World} (R:Rep B h0 w0 ρ st C a w) (h:Same C D) (hh:D.h=C.h):Rep B h0 w0 ρ st D a w:=by
 refine⟨R.defers,R.size,fun i v hv=>VE.J9 h ρ _ _ v (R.slots i v hv),fun k b hb=>?_,R.fresh,R.inj,fun k hk=>by rw[hh];exact R.free k hk,by rw[hh];exact R.holds,by rw[hh];exact R.fr,R.base,by rw[<- h.i];exact R.ci,by rw[<- h.b];exact R.cb,by rw[<- h.s];exact R.cs,by rw[<- h.v];exact R.cv,by rw[<- h.l];exact R.cl,by rw[<- h.p];exact R.cp,by rw[<- h.v];exact R.ones⟩;rw[R.blocks k b hb,show b.cells.map (CE.den C ρ)=b.cells.map (CE.den D ρ) from List.map_congr_left fun e _=>CE.aC h ρ e]
theorem ZX (bs:List UInt8):∀ s:ByteArray,(bs.map fun c=>(c.toNat:Int)).foldl (fun r n=>r.push (UInt8.ofNat n.toNat)) s=s++B bs:=by
 induction bs with
 | nil=>intro s;apply ByteArray.ext;simp[B]
 | cons c t ih=>
   intro s;simp only[List.map_cons,List.foldl_cons];rw[ih];apply ByteArray.ext;simp[B]
section
variable {P:Program} {E:Env} {B:Nat} {h0:Hp} {w0:World} {ρ:Nat->Nat} {st:St} {C:Ctx} {a:Act} {w:World}
theorem Rep.has (R:Rep B h0 w0 ρ st C a w):Has C st.n:=⟨R.ci,R.cb,R.cs,R.cv,R.cl,R.cp⟩
theorem Rep.owned (R:Rep B h0 w0 ρ st C a w) {k:Nat} (hk:k<st.m.length):ρ k<w.heap.size:=by
 obtain⟨b,hb⟩:∃ b,st.m[k]? = some b:=⟨_,List.getElem?_eq_getElem hk⟩;exact (Array.getElem?_eq_some_iff.1 (R.blocks k b hb)).1
theorem jG (R:Rep B h0 w0 ρ st C a w) (hb:st.blw=true) {D:Ctx} (hx:Ext C D) {n:Cnt} (hn:Has D n) (ho:eG D.v) {w':World} (hH:Holds D.h w') (hF:Fr w.heap.size C.h D.h w w'):Rep B h0 w0 ρ { st with n:=n } D a w':=by
 simp only[St.blw,Bool.and_eq_true] at hb;have hA:=hx.Dh R.has;refine⟨R.defers,R.size,?_,?_,R.fresh,R.inj,fun k hk=>hF.ghost _ (R.owned hk) (R.free k hk),hH,R.fr.trans hF R.base,Nat.le_trans R.base hF.size,hn.i,hn.b,hn.s,hn.v,hn.l,hn.p,ho⟩
 . intro i v h;exact VE.ql hA ρ _ _ v (List.all_eq_true.1 hb.1 v (List.mem_of_getElem? h)) (R.slots i v h)
 . intro k b h;have hk:=(List.getElem?_eq_some_iff.1 h).1;rw[hF.block _ (R.owned hk) (.none (R.free k hk)),R.blocks k b h,iO hA ρ b.cells (List.all_eq_true.1 hb.2 b (List.mem_of_getElem? h))]
theorem uf (R:Rep B h0 w0 ρ st C a w) (hb:st.blw=true) {x:Inc} {n:Cnt} (hn:st.n.add x.cnt=n) (ho:eG x.v):Rep B h0 w0 ρ { st with n:=n } (C.push x) a w:=
 jG R hb (Ext.push C x) (R.has.push hn) (fun u hu=>by rcases List.mem_append.1 hu with h | h<;>first | exact R.ones u h | exact ho u h) R.holds (Fr.refl _ _ _)
theorem zB {o:Oper} {v:Operand} {f:FuncId} {args:Array Operand} {ts:Array TypeId} {cap:Array Value} (ho:o.op=.call { callee:=.value v,args:=args,argTypes:=ts }) (hv:a.eval v=.func (.func f) #[] cap) (hb:nN P f=true):
 (execOp a.eval o).run P w=.ok (.enter f (args.map a.eval++cap)) w:=by
 unfold nN at hb;split at hb
 . rename_i fn hf;simp only[Bool.and_eq_true,bne_iff_ne,ne_eq] at hb;obtain⟨h1,h2⟩:=hb;have h3:¬ fn.body=none:=fun hbd=>by rw[hbd] at h2;cases h2
   unfold execOp;rw[ho];simp[resolve,hv,Deferred.ofValue,invoke,callFunc,hf,h1,h3]
 . cases hb
theorem sF (hE:Good P E) (R:Rep B h0 w0 ρ st C a w) {gs:Gs} (hg:dE gs a.tmps) {o:Oper} {v:Operand} {f:FuncId} {args:Array Operand} {ts:Array TypeId} {vas:List PE} (ho:o.op=.call { callee:=.value v,args:=args,argTypes:=ts })
 (h:lC st gs v args.toList=some (f,vas)) (hb:xM P f=true) (hpl:vas.all PE.plain=true) {φ:Value->Hp->Prop} (hs:E.spec f (vas.map (PE.den C bg)) C.h φ):
 ∃ f' args',(execOp a.eval o).run P w=.ok (.enter f' args') w/\Calls P f' args' w fun e w'=>∃ v k,e=.returned v/\φ v k/\Holds k w'/\Fr w.heap.size C.h k w w':=by
 have h2:vas.map (PE.den C bg)=vas.map (PE.den C ρ):=List.map_congr_left fun x hx=>x.dY (List.all_eq_true.1 hpl x hx)
 rw[h2] at hs;have hcall:=hE f _ _ _ w hs R.holds;unfold xM at hb;unfold lC at h;split at h
 . rename_i f' vas' hv hvas;split at h
   . cases h
   rename_i hne;cases h;rw[if_neg hne] at hcall;rw[decide_eq_false hne,Bool.false_or] at hb;have hv':a.eval v=.func (.func f) #[] #[]:=aK R hg hv;refine⟨_,_,zB ho hv' hb,?_⟩;have h1:=mX R hg hvas;have:args.map a.eval++#[]=(vas.map (PE.den C ρ)).toArray:=by
    rw[<- h1];apply Array.ext';simp
   rw[this];exact hcall
 . rename_i f' l vas' hv hvas;split at h
   . cases h
   rename_i hne;cases h;rw[if_neg hne] at hcall;rw[decide_eq_false hne,Bool.false_or] at hb;have hv':a.eval v=.func (.func f) #[] (l.map fun n=>Value.pointer ((C.p.getD n none).map fun x=>⟨x.1,x.2,none⟩)).toArray:=aK R hg hv;refine⟨_,_,zB ho hv' hb,?_⟩;have h1:=mX R hg hvas;have:args.map a.eval++(l.map fun n=>Value.pointer ((C.p.getD n none).map fun x=>⟨x.1,x.2,none⟩)).toArray=((vas'++l.map fun n=>PE.one (.pt n)).map (PE.den C ρ)).toArray:=by
    rw[List.map_append,<- h1];apply Array.ext';simp[PE.den,CE.den]
   rw[this];exact hcall
 . rename_i n vas' hv hvas;cases h;rw[if_pos rfl] at hcall;obtain⟨args',f',cap,he,hbd,hc⟩:=hcall;rw[List.map_cons] at he;injection he with he1 he2
   have hv':a.eval v=.func (.func f') #[] cap.toArray:=(aK R hg hv).trans he1;refine⟨_,_,zB ho hv' hbd,?_⟩;have h1:=mX R hg hvas;have:args.map a.eval++cap.toArray=(args'++cap).toArray:=by
    rw[<- he2,<- h1];apply Array.ext';simp
   rw[this];exact hc
 . cases h
def jH (P:Program) (ops:Array Oper) (o:Oper) (Next:Act->World->Prop) (Q:Exit->Act->World->Prop) (a:Act) (w:World):Prop:=
 if Region.wanted o (yielded ops a.tmps)=true then o.wp P a w Next Q\/(o.asks P a w/\LetsOut Q) else Next (a.put o.dst undef) w
theorem fA {ops:Array Oper} {o:Oper} {Next:Act->World->Prop} {Q:Exit->Act->World->Prop} {v:Value} {w':World} (h:(execOp a.eval o).run P w=.ok (.value v) w') (hn:Next (a.put o.dst v) w')
 (hu:¬ Region.wanted o (yielded ops a.tmps)=true->Next (a.put o.dst undef) w):jH P ops o Next Q a w:=by
 unfold jH;split
 . left;unfold Oper.wp;rw[h];exact hn
 . rename_i hw;exact hu hw
theorem Ox {ρ σ:Nat->Nat} {m:Nat} (h:∀ k,k<m->ρ k=σ k):∀ c:CE,c.qJ m=true->c.den C ρ=c.den C σ
 | .own k o,hk=>by simp only[CE.qJ,decide_eq_true_eq] at hk;simp only[CE.den,h k hk]
 | .osl k o,hk=>by simp only[CE.qJ,decide_eq_true_eq] at hk;simp only[CE.den,h k hk]
 | .i _ _,_=>rfl
 | .b _,_=>rfl
 | .s _,_=>rfl
 | .v _,_=>rfl
 | .c _,_=>rfl
 | .sl _,_=>rfl
 | .pt _,_=>rfl
 | .adr _,_=>rfl
 | .clo _ _,_=>rfl
theorem y8 {ρ σ:Nat->Nat} {m:Nat} (h:∀ k,k<m->ρ k=σ k) {l:List CE} (hl:l.all (CE.qJ m)=true):l.map (CE.den C ρ)=l.map (CE.den C σ):=
 List.map_congr_left fun c hc=>Ox h c (List.all_eq_true.1 hl c hc)
theorem KQ {ρ σ:Nat->Nat} {m:Nat} (h:∀ k,k<m->ρ k=σ k) (p:PE) (hp:p.cells.all (CE.qJ m)=true):p.den C ρ=p.den C σ:=by
 cases p with
 | one c=>exact Ox h c (by simpa[PE.cells] using hp)
 | agg l=>exact congrArg (fun x=>Value.agg x.toArray) (y8 (l:=l) h hp)
theorem uS (R:Rep B h0 w0 ρ st C a w) (hm:st.qJ=true) {cs:List CE} (hc:cs.all (CE.qJ st.m.length)=true) (t:TypeId):
 ∃ σ,σ st.m.length=w.heap.size/\Rep B h0 w0 σ { st with m:=st.m++[⟨cs,t⟩] } C a (w.alloc (.cells (cs.map (CE.den C ρ)).toArray t)):=by
 simp only[St.qJ,Bool.and_eq_true] at hm;refine⟨fun k=>if k=st.m.length then w.heap.size else ρ k,by simp,?_⟩;have hag:∀ k,k<st.m.length->ρ k=(fun k=>if k=st.m.length then w.heap.size else ρ k) k:=fun k hk=>by simp only;rw[if_neg (by omega)]
 have hbel:Below w.heap.size w (w.alloc (.cells (cs.map (CE.den C ρ)).toArray t)):=(Below.refl _ _).alloc (Nat.le_refl _) _;refine⟨R.defers,R.size,?_,?_,?_,?_,?_,R.holds.below hbel,R.fr.trans (Fr.of_below hbel) R.base,Nat.le_trans R.base hbel.size,R.ci,R.cb,R.cs,R.cv,R.cl,R.cp,R.ones⟩
 . intro i v h;have hk:=List.all_eq_true.1 hm.1 v (List.mem_of_getElem? h);have hh:=R.slots i v h;cases v with
   | dead=>trivial
   | p x=>rw[VE.holds,<- KQ hag x hk];exact hh
   | tup l=>
     have e:l.map (PE.den C ρ)=l.map (PE.den C fun k=>if k=st.m.length then w.heap.size else ρ k):=
      List.map_congr_left fun x hx=>KQ hag x (List.all_eq_true.1 hk x hx)
     rw[VE.holds,<- e];exact hh
   | wg gs x=>exact⟨fun hg=>by rw[<- KQ hag x hk];exact hh.1 hg,hh.2⟩
 . intro k b h;by_cases hk:k<st.m.length
   . rw[List.getElem?_append_left hk] at h;have h1:=R.blocks k b h;have h2:=R.owned hk;rw[if_neg (by omega),Below.heap_alloc _ _ _ h2,h1,y8 hag (List.all_eq_true.1 hm.2 b (List.mem_of_getElem? h))]
   . have hk2:k=st.m.length:=by
      have:=(List.getElem?_eq_some_iff.1 h).1;simp at this;omega
     subst hk2;rw[List.getElem?_append_right (Nat.le_refl _)] at h;simp at h;subst h;simp only[if_true];rw[<- y8 hag hc];show (w.heap.push _)[w.heap.size]? = _;simp
 . intro k hk;by_cases he:k=st.m.length
   . simp only[he,if_true];exact .inl R.base
   . simp only[if_neg he];exact R.fresh k (by simp at hk;omega)
 . intro k j hk hj e;simp only[List.length_append,List.length_cons,List.length_nil] at hk hj;by_cases h1:k=st.m.length<;>by_cases h2:j=st.m.length
   . omega
   . have:=R.owned (k:=j) (by omega);simp only[h1,if_true,if_neg h2] at e;omega
   . have:=R.owned (k:=k) (by omega);simp only[if_neg h1,h2,if_true] at e;omega
   . simp only[if_neg h1,if_neg h2] at e;exact R.inj k j (by omega) (by omega) e
 . intro k hk;by_cases he:k=st.m.length
   . simp only[he,if_true];cases hq:C.h w.heap.size with
     | none=>rfl
     | some o=>have:=R.holds.lt (b:=w.heap.size) (by rw[hq];simp);omega
   . simp only[if_neg he];exact R.free k (by simp at hk;omega)
theorem CP (R:Rep B h0 w0 ρ st C a w) {k:Nat} {b:oO} (hk:st.m[k]? = some b) {cs:List CE}:
 Rep B h0 w0 ρ { st with m:=st.m.set k ⟨cs,b.ty⟩ } C a (w.setRow (ρ k) (cs.map (CE.den C ρ)).toArray):=by
 have hlt:k<st.m.length:=(List.getElem?_eq_some_iff.1 hk).1;refine⟨R.defers,R.size,R.slots,?_,by simpa using R.fresh,by simpa using R.inj,by simpa using R.free,?_,?_,by simpa using R.base,R.ci,R.cb,R.cs,R.cv,R.cl,R.cp,R.ones⟩
 . intro j c h;by_cases hj:k=j
   . subst hj;rw[List.getElem?_set_self' ] at h;rw[hk] at h;simp at h;subst h;exact setRow_heap _ _ _ _ _ _ (R.blocks k b hk)
   . rw[List.getElem?_set_ne hj] at h;rw[setRow_other _ _ _ _ (fun e=>hj (R.inj k j hlt (List.getElem?_eq_some_iff.1 h).1 e.symm)),R.blocks j c h]
 . intro g o hg;rw[setRow_other _ _ _ _ (fun e=>by rw[e,R.free k hlt] at hg;cases hg)];exact R.holds g o hg
 . refine⟨R.fr.os,R.fr.tape,R.fr.output,by simpa using R.fr.size,fun i hi hn=>?_,R.fr.ghost,R.fr.un⟩;rw[setRow_other _ _ _ _ (fun e=>?_),R.fr.block i hi hn];rcases R.fresh k hlt with h | h
   . omega
   . rw[<- e] at h;exact h hn
theorem RQ (R:Rep B h0 w0 ρ st C a w) (hb:st.blw=true) {g:Nat} {o:HO} (hg:C.h g=some o) (hT:o.ty≠1000003) (cs:List Value):
 Rep B h0 w0 ρ st (C.heap (C.h.set g ⟨cs,o.ty⟩)) a (w.setRow g cs.toArray):=by
 have hw:=(R.holds g o hg).rw hT;refine jG (n:=st.n) (D:=C.heap (C.h.set g ⟨cs,o.ty⟩)) R hb (Ext.heap C _) (R.has.heap _) R.ones ?_ ?_
 . intro b x hx;show lq x (w.setRow g cs.toArray).heap[b]?;by_cases hbg:b=g
   . subst hbg;have hx':(C.h.set b ⟨cs,o.ty⟩) b=some x:=hx;simp only[Hp.set,if_true,Option.some.injEq] at hx';subst hx';exact .of (setRow_heap _ _ _ _ _ _ hw)
   . have hx':(C.h.set g ⟨cs,o.ty⟩) b=some x:=hx;simp only[Hp.set,if_neg hbg] at hx';rw[setRow_other _ _ _ _ hbg];exact R.holds b x hx'
 . refine⟨rfl,rfl,rfl,by simp,fun k hk hn=>setRow_other _ _ _ _ (hn.ne hg hT),fun k hk hn=>?_,fun k hk hn=>hn.set (hn.ne hg hT)⟩;show (C.h.set g ⟨cs,o.ty⟩) k=none;simp only[Hp.set];rw[if_neg (fun e=>by rw[e,hg] at hn;cases hn)];exact hn
theorem Em (R:Rep B h0 w0 ρ st C a w) (hb:st.blw=true) {n:Cnt} {x:Inc} (hn:st.n.add x.cnt=n) (ho:eG x.v) (cs:List Value) (ty:TypeId):
 Rep B h0 w0 ρ { st with n:=n } ((C.push x).heap (C.h.set w.heap.size ⟨cs,ty⟩)) a (w.alloc (.cells cs.toArray ty)):=by
 have hbel:Below w.heap.size w (w.alloc (.cells cs.toArray ty)):=(Below.refl _ _).alloc (Nat.le_refl _) _;refine jG (D:=(C.push x).heap (C.h.set w.heap.size ⟨cs,ty⟩)) R hb ((Ext.push C x).trans (Ext.heap _ _)) ((R.has.push hn).heap _) (fun u hu=>by rcases List.mem_append.1 hu with h | h<;>first | exact R.ones u h | exact ho u h) ?_ ?_
 . intro b y hy;have hy':(C.h.set w.heap.size ⟨cs,ty⟩) b=some y:=hy;simp only[Hp.set] at hy';by_cases he:b=w.heap.size
   . rw[if_pos he] at hy';cases hy';subst he;refine .of ?_;show (w.heap.push _)[w.heap.size]? = _;simp
   . rw[if_neg he] at hy';exact R.holds.below hbel b y hy'
 . refine⟨hbel.os,hbel.tape,hbel.output,hbel.size,fun k hk _=>hbel.block k hk,fun k hk hn=>?_,fun k hk hn=>hn.set (by omega)⟩;show (C.h.set w.heap.size ⟨cs,ty⟩) k=none;simp only[Hp.set];rw[if_neg (by omega)];exact hn
theorem uK {g c:BE} {k:Fm} (h:(Ii g c k).says E C):(g.den C=true->c.den C=true)/\k.says E C:=by
 unfold Ii at h;split at h
 . exact⟨fun _=>rfl,h⟩
 . exact h
theorem iP {l:List CE} (h:l.all CE.plain=true):l.map (CE.den C bg)=l.map (CE.den C ρ):=qV l h
theorem ik {x:Inc} (h:eG C.v) (k:eG x.v):eG (C.push x).v:=fun u hu=>by rcases List.mem_append.1 hu with y | y<;>first | exact h u y | exact k u y
theorem xO {b:Nat} {cs:List Value} {ty:TypeId} {fz:Nat×Nat} (h:w.heap[b]? = some (.cells cs.toArray ty fz)) (o:Nat):w.cell? ⟨b,o,none⟩=cs[o]?:=by
 unfold World.cell?;rw[h];simp
theorem addr_add (b o j:Nat):(⟨b,o,none⟩:Addr).add j=⟨b,o+j,none⟩:=by
 unfold Addr.add;split
 . rename_i h0;subst h0;rfl
 . rfl
theorem qo {h:Hp} (H:Holds h w) {x:Option (Nat×Nat)} {n:Nat} {cs:List Value} (hr:hread h x n=some cs):∃ q,x=some q/\cs.length=n/\∀ j u,cs[j]? = some u->w.cell? ⟨q.1,q.2+j,none⟩=some u:=by
 unfold hread at hr;split at hr
 . rename_i q;split at hr
   . rename_i o ho;split at hr
     . rename_i hle;cases hr;refine⟨q,rfl,by simp;omega,fun j u hu=>?_⟩;obtain⟨T,fz,hbl,_⟩:=H _ _ ho;rw[xO hbl];rw[List.getElem?_take] at hu;split at hu
       . rw[List.getElem?_drop] at hu;exact hu
       . cases hu
     . cases hr
   . cases hr
 . cases hr
theorem uB {src dst:TypeId} (hty:Dp P src dst=true) {s:bM} {bs:List UInt8} {h:Hp} (H:Holds h w) (hb:BytesAt h s bs):(convert src dst s.val).run P w=.ok (.string (Go.Proofs.YtllbpdllkkcajaaGreatDoor.B bs)) w:=by
 unfold Dp at hty;split at hty
 . rename_i e hs1 hd1;split at hty
   . rename_i he1;unfold convert;simp only[Sem.run_bind,run_underlying hs1,run_underlying hd1,run_underlying he1,Result.andThen_ok,bM.val];rcases hb with ⟨ha,rfl⟩ | hread
     . rw[ha];rfl
     . obtain⟨q,hq,hlen,hcell⟩:=qo H hread;rw[hq];have hl:=run_loadCells_list (P:=P) w ⟨q.1,q.2,none⟩ (bs.map fun c=>Value.int .u8 c.toNat) (by
        intro j v hv;rw[addr_add];exact hcell j v hv)
       rw[hlen] at hl;have:=run_bytesToString (P:=P) w ⟨q.1,q.2,none⟩ s.n s.c (bs.map fun c=>(c.toNat:Int)) (by
        rw[hl];simp)
       simp only[Option.map_some];rw[this,ZX];congr 2
   . cases hty
 . cases hty
theorem BQ {t:TypeId} {d:TypeDesc} (hu:P.underlying t=some d) {n:Nat} (hn:dX P t=some n) {q:Nat×Nat} {cs:List Value} (hl:cs.length=n) (hc:∀ j u,cs[j]? = some u->w.cell? ⟨q.1,q.2+j,none⟩=some u):
 (gy P t=true->(Instr.loadAt t (.pointer (some ⟨q.1,q.2,none⟩))).run P w=.ok (.agg cs.toArray) w)/\(gy P t=false->∀ u,cs=[u]->(Instr.loadAt t (.pointer (some ⟨q.1,q.2,none⟩))).run P w=.ok u w):=by
 refine⟨fun hagg=>?_,fun hagg u hcs=>?_⟩
 . show (do loadVar t (<- Instr.sureAddr (.pointer (some ⟨q.1,q.2,none⟩)))).run P w=_;rw[Sem.run_bind];show (loadVar t ⟨q.1,q.2,none⟩).run P w=_;unfold loadVar;rw[Sem.run_bind,kw t hu,Result.andThen_ok,if_pos hagg,Sem.run_bind,dI hn,Result.andThen_ok];have:=run_loadCells_list (P:=P) w ⟨q.1,q.2,none⟩ cs (by
    intro j u hu;rw[addr_add];exact hc j u hu)
   rw[hl] at this;rw[Sem.run_bind,this];rfl
 . show (do loadVar t (<- Instr.sureAddr (.pointer (some ⟨q.1,q.2,none⟩)))).run P w=_;rw[Sem.run_bind];show (loadVar t ⟨q.1,q.2,none⟩).run P w=_;unfold loadVar;rw[Sem.run_bind,kw t hu,Result.andThen_ok,if_neg (by rw[hagg];decide)];have hx:=hc 0 u (by rw[hcs];rfl);rw[Nat.add_zero] at hx;simp[hx]
theorem rU {t:TypeId} {b off:Nat} {ty:TypeId} {cur:List Value} (hb:w.heap[b]? = some (.cells cur.toArray ty (0,0))) {v:Value} {cs:List Value} (hv:v.cells=cs.toArray) {n:Nat} (hn:dX P t=some n) (hl:cs.length=n) (hle:off+n<=cur.length) (h1:∀ u∈cs,u.oneCell'=true):
 (Instr.storeAt t (.pointer (some ⟨b,off,none⟩)) v).run P w=.ok () (w.setRow b (cur.take off++cs++cur.drop (off+n)).toArray):=by
 have hst:=run_storeCells_at (P:=P) b off ty cs 0 cur.toArray w hb (by simp;omega) h1;simp only[Instr.storeAt,Instr.sureAddr,storeVar,Sem.run_bind,Sem.run_pure,Result.andThen_ok,dI hn];have hsz:v.cells.size=n:=by rw[hv];simp[hl]
 rw[if_neg (by simpa using hsz),hv];show ((storeCells ⟨b,off,none⟩ cs).run P w)=_;simp only[Nat.add_zero] at hst;rw[hst];simp[hl]
theorem kT {ops:Array Oper} {o:Oper} {Next:Act->World->Prop} {Q:Exit->Act->World->Prop} {gs:Gs} {g:BE} (hw:Region.wanted o (yielded ops a.tmps)=true↔dE gs a.tmps) (hgi:g.den C=true↔dE gs a.tmps)
 (hy:g.den C=true->dE gs a.tmps->o.wp P a w Next Q) (hn:g.den C=false->¬ dE gs a.tmps->Next (a.put o.dst undef) w):jH P ops o Next Q a w:=by
 unfold jH;split
 . rename_i hwant;left;have hc:=hw.1 hwant;exact hy (hgi.2 hc) hc
 . rename_i hwant;have hc:¬ dE gs a.tmps:=fun h=>hwant (hw.2 h)
   refine hn ?_ hc;cases hq:g.den C
   . rfl
   . exact absurd (hgi.1 hq) hc
theorem BL (h:Hp) {k b:Nat} {o:HO} (hk:k≠b):(h.set b o) k=h k:=by simp only[Hp.set,if_neg hk]
theorem uj (s:List UInt8):Lib.strCells (Go.Proofs.YtllbpdllkkcajaaGreatDoor.B s)=s.map fun c=>Value.int .u8 c.toNat:=by simp[Lib.strCells,Go.Proofs.YtllbpdllkkcajaaGreatDoor.B]
theorem xI {P:Program} {h:Hp} {w:World} (H:Holds h w) {s:bM} {xs:List Value} {t u e:TypeId} {i:TypeInfo} (ht:P.underlying t=some (.slice e)) (hu:P.underlying u=some .string) (hi:P.info? e=some i) (hz:i.zero=some (.int .u8 0)) (hsz:i.size=1) (hby:i.bytes=1)
 (hs:dC h s xs e 1) (bs:ByteArray) (h63:s.n+bs.size<=2000000000000) (ty:TypeId) (hT:e≠1000003):
 ∃ s' h' w',(Builtin.append_ #[t,u] ty #[s.val,.string bs]).run P w=.ok s'.val w'/\dC h' s' (xs++Lib.strCells bs) e 1/\s'.n=s.n+bs.size/\(∀ x,s'.a=some x->(∃ z,s.a=some z/\z.1=x.1)\/h x.1=none)/\(∀ b o,(∀ x,s.a=some x->x.1≠b)->h b=some o->h' b=some o)/\Holds h' w'/\Fr w.heap.size h h' w w'/\(s'.a=none↔s.a=none/\bs.size=0):=by
 have hnone:h w.heap.size=none:=by
  cases hq:h w.heap.size with
  | none=>rfl
  | some o=>have:=H.lt (b:=w.heap.size) (by rw[hq];simp);omega
 have hm:s.n+bs.size<=maxLen:=by unfold maxLen;omega
 have hcl:=Lib.strCells_length bs;have hz1:(Value.int IntKind.u8 0).cells.size=1:=rfl;have grown:∀ (old:Nat) (olds:List Value),olds.length=s.n->old<s.n+bs.size->∀ cap,cap=grownCap w (s.n+bs.size) old e->∀ cs,cs=olds.toArray++(Lib.strCells bs).toArray++Builtin.zeroCells (Value.int .u8 0).cells (cap - (s.n+bs.size))->
  dC (h.set w.heap.size ⟨cs.toList,e⟩) ⟨some (w.heap.size,0),s.n+bs.size,cap⟩ (olds++Lib.strCells bs) e 1/\Holds (h.set w.heap.size ⟨cs.toList,e⟩) (w.drew.alloc (.cells cs e))/\Fr w.heap.size h (h.set w.heap.size ⟨cs.toList,e⟩) w (w.drew.alloc (.cells cs e)):=by
  intro old olds ho hold cap hcap cs hcs;have hge:s.n+bs.size<=cap:=by rw[hcap];exact grownCap_ge w (s.n+bs.size) old e
  have hcm:cap<=maxLen:=by rw[hcap];exact grownCap_le_maxLen w (s.n+bs.size) old e hm
  have hlo:(olds++Lib.strCells bs).length=(s.n+bs.size)*1:=by rw[List.length_append,ho,hcl,Nat.mul_one]
  refine⟨.inr ⟨w.heap.size,⟨cs.toList,e⟩,rfl,(by simp only[Hp.set,if_true]),rfl,?_,hge,hcm,?_⟩,?_,?_⟩
  . rw[hcs];simp only[Array.length_toList,Array.size_append,List.size_toArray,size_zeroCells,hz1,ho,hcl];omega
  . rw[hcs];simp only[Array.toList_append,List.append_assoc];rw[<- List.append_assoc,<- hlo];exact List.take_left.symm
  . intro b o hbo;by_cases hb:b=w.heap.size
    . subst hb;simp only[Hp.set,if_true] at hbo;cases hbo;refine .of ?_;show (w.drew.heap.push _)[w.heap.size]? = _;have:w.drew.heap=w.heap:=rfl;rw[this];simp
    . rw[BL _ hb] at hbo;have hlt:=H.lt (b:=b) (by rw[hbo];simp);have:=H b o hbo;show lq o (w.heap.push _)[b]?;rw[Array.getElem?_push_lt hlt];rw[Array.getElem?_eq_getElem hlt] at this;exact this
  . refine⟨rfl,rfl,rfl,by show w.heap.size<=(w.heap.push _).size;simp,fun k hk _=>?_,fun k hk hk0=>?_,fun k hk hn=>hn.set (by omega)⟩
    . show (w.heap.push _)[k]? = _;rw[Array.getElem?_push_lt hk,Array.getElem?_eq_getElem hk]
    . rw[BL _ (by omega)];exact hk0
 have kept:∀ (o':HO) (b:Nat) (o:HO),(∀ x,s.a=some x->x.1≠b)->h b=some o->(h.set w.heap.size o') b=some o:=by
  intro o' b o _ hbo;rw[BL _ (fun e=>by rw[e,hnone] at hbo;cases hbo)];exact hbo
 rcases hs with ⟨rfl,rfl⟩ | ⟨b,o,hsa,hob,hoty,hol,hnc,hcm,rfl⟩
 . by_cases hb0:bs.size=0
   . have hn:Lib.strCells bs=[]:=List.eq_nil_of_length_eq_zero (by rw[hcl];exact hb0);refine⟨⟨none,0,0⟩,h,w,?_,.inl ⟨rfl,by rw[hn];rfl⟩,by simp[hb0],(fun x hx=>by cases hx),fun _ _ _ h=>h,H,Fr.refl _ _ _,by simp[hb0]⟩;have hf:=Lib.run_firstCells_string (P:=P) w 1 bs;rw[hb0] at hf;simp[bM.val,Builtin.append_,run_underlying ht,run_underlying hu,sizeOf,typeInfo,hi,hsz,Builtin.lenOf,hb0,hf]
   . have hr:=run_append_nil_string (P:=P) w t u ty e i (.int .u8 0) ht hu hi hz bs (by omega) (by simp only[Nat.zero_add] at h63;omega) (by rw[hby];simp only[Nat.zero_add] at h63;omega);have e1:(bs.data.map fun b=>Value.int .u8 b.toNat)=(Lib.strCells bs).toArray:=by
      apply Array.ext';simp[Lib.strCells]
     rw[e1] at hr;obtain⟨g1,g2,g3⟩:=grown 0 [] rfl (by simp only[Nat.zero_add];omega) _ rfl _ rfl;simp only[Nat.zero_add,List.nil_append,Array.empty_append] at g1 g2 g3;exact⟨⟨some (w.heap.size,0),bs.size,grownCap w bs.size 0 e⟩,_,_,hr,g1,by simp,(fun x hx=>by cases hx;exact .inr hnone),kept _,g2,g3,by simp[hb0]⟩
 . subst hoty;have hsv:s.val=.slice (some ⟨b,0,none⟩) s.n s.c:=by unfold bM.val;rw[hsa];rfl
   have hrow:=(H b o hob).rw hT;by_cases hroom:s.n+bs.size<=s.c
   . have hr:=Lib.run_append_room_string (P:=P) w t u ty o.ty i ht hu hi hsz b s.n s.c o.cs.toArray hrow bs hroom (by simp only[List.size_toArray];omega);simp only at hr;refine⟨⟨some (b,0),s.n+bs.size,s.c⟩,h.set b ⟨o.cs.take s.n++Lib.strCells bs++o.cs.drop (s.n+bs.size),o.ty⟩,_,by rw[hsv];exact hr,.inr ⟨b,⟨o.cs.take s.n++Lib.strCells bs++o.cs.drop (s.n+bs.size),o.ty⟩,rfl,(by simp only[Hp.set,if_true]),rfl,?_,hroom,hcm,?_⟩,rfl,(fun x hx=>by cases hx;exact .inl ⟨_,hsa,rfl⟩),?_,?_,?_,by simp[hsa]⟩
     . simp only[List.length_append,List.length_take,List.length_drop,hcl];omega
     . have hlo:(o.cs.take (s.n*1)++Lib.strCells bs).length=(s.n+bs.size)*1:=by
        rw[List.length_append,List.length_take,hcl];omega
       rw[<- hlo,Nat.mul_one];exact List.take_left.symm
     . intro b' o' hne hbo;rw[BL _ (fun e=>hne (b,0) hsa e.symm)];exact hbo
     . intro b' o' hbo;by_cases hb':b'=b
       . subst hb';simp only[Hp.set,if_true] at hbo;cases hbo;exact .of (setRow_heap _ _ _ _ _ _ hrow)
       . rw[BL _ hb'] at hbo;rw[setRow_other _ _ _ _ hb'];exact H b' o' hbo
     . refine⟨rfl,rfl,rfl,by simp,fun k hk hn=>setRow_other _ _ _ _ (hn.ne hob hT),fun k hk hn=>?_,fun k hk hn=>hn.set (hn.ne hob hT)⟩;rw[BL _ (fun e=>by rw[e,hob] at hn;cases hn)];exact hn
   . have hxl:(o.cs.take (s.n*1)).length=s.n:=by
      rw[List.length_take,hol];omega
     have holds:∀ j u,(o.cs.take (s.n*1))[j]? = some u->w.cell? ((⟨b,0,none⟩:Addr).add j)=some u:=fun j u hu=>by
      rw[addr_add,xO hrow,Nat.zero_add];rw[List.getElem?_take] at hu;split at hu
      . exact hu
      . cases hu
     have hr:=Lib.run_append_grow_string (P:=P) w t u ty o.ty i (.int .u8 0) ht hu hi hz ⟨b,0,none⟩ s.n s.c _ (by rw[hxl,hsz,Nat.mul_one]) holds bs (by omega) (by omega) (by rw[hby];exact growslice_fits (by omega) (by omega));obtain⟨g1,g2,g3⟩:=grown s.c _ hxl (by omega) _ rfl _ rfl;exact⟨⟨some (w.heap.size,0),s.n+bs.size,grownCap w (s.n+bs.size) s.c o.ty⟩,_,_,by rw[hsv];exact hr,g1,rfl,(fun x hx=>by cases hx;exact .inr hnone),kept _,g2,g3,by simp[hsa]⟩
theorem Jj (R:Rep B h0 w0 ρ st C a w) {s y:bM} {xs ys:List Value} {t e:TypeId} {i:TypeInfo} {z:Value} (ht:P.underlying t=some (.slice e)) (hi:P.info? e=some i) (hz:i.zero=some z) (hzs:z.cells.size=i.size) (_hsz:0<i.size)
 (hs:dC C.h s xs e i.size) (hy:RdS C.h y ys i.size) (h1:eG ys) (h63:s.n+y.n<=maxLen) (hb:(s.n+y.n)*i.bytes<=140737488355328) (ty:TypeId) (hT:e≠1000003):
 ∃ s' h w',(Builtin.append_ #[t,t] ty #[s.val,y.val]).run P w=.ok s'.val w'/\dC h s' (xs++ys) e i.size/\s'.n=s.n+y.n/\(∀ x,s'.a=some x->(∃ z,s.a=some z/\z.1=x.1)\/C.h x.1=none)/\(∀ b o,(∀ x,s.a=some x->x.1≠b)->C.h b=some o->h b=some o)/\Holds h w'/\Fr w.heap.size C.h h w w':=by
 rcases hy with ⟨hy0,rfl⟩ | ⟨hya,hyr⟩
 . refine⟨s,C.h,w,?_,by rw[List.append_nil];exact hs,by omega,fun x hx=>.inl ⟨x,hx,rfl⟩,fun _ _ _ h=>h,R.holds,Fr.refl _ _ _⟩;have hsc:s.n<=s.c:=by
    rcases hs with ⟨rfl,_⟩ | ⟨_,_,_,_,_,_,h5,_⟩
    . exact Nat.le_refl _
    . exact h5
   obtain⟨ya,yn,yc⟩:=y;simp only at hy0;subst hy0;have hf:(Builtin.firstCells i.size 0 (bM.val ⟨ya,0,yc⟩)).run P w=.ok #[] w:=by cases ya<;>simp[bM.val,Builtin.firstCells,loadCells,loadCellsFrom]
   obtain⟨sa,sn,sc⟩:=s;simp only at hsc;simp only[bM.val] at hf;cases sa<;>simp[bM.val,Builtin.append_,run_underlying ht,sizeOf,typeInfo,hi,Builtin.lenOf,hsc,hf,storeCells]
 obtain⟨q,hq,hlen,hcell⟩:=qo R.holds hyr;have hyv:y.val=.slice (some ⟨q.1,q.2,none⟩) y.n y.c:=by unfold bM.val;rw[hq];rfl
 have hcell':∀ j u,ys[j]? = some u->w.cell? ((⟨q.1,q.2,none⟩:Addr).add j)=some u:=fun j u hu=>by rw[addr_add];exact hcell j u hu
 have hnone:C.h w.heap.size=none:=by
  cases hq:C.h w.heap.size with
  | none=>rfl
  | some o=>have:=R.holds.lt (b:=w.heap.size) (by rw[hq];simp);omega
 have hsmall:s.n+y.n<=9223372036854775807:=by simp only[maxLen] at h63;omega
 have grown:∀ (old:Nat) (olds:List Value),olds.length=s.n*i.size->old<s.n+y.n->
  dC (C.h.set w.heap.size ⟨(olds.toArray++ys.toArray++Builtin.zeroCells z.cells (grownCap w (s.n+y.n) old e - (s.n+y.n))).toList,e⟩) ⟨some (w.heap.size,0),s.n+y.n,grownCap w (s.n+y.n) old e⟩ (olds++ys) e i.size/\
  Holds (C.h.set w.heap.size ⟨(olds.toArray++ys.toArray++Builtin.zeroCells z.cells (grownCap w (s.n+y.n) old e - (s.n+y.n))).toList,e⟩) (w.drew.alloc (.cells (olds.toArray++ys.toArray++Builtin.zeroCells z.cells (grownCap w (s.n+y.n) old e - (s.n+y.n))) e))/\
  Fr w.heap.size C.h (C.h.set w.heap.size ⟨(olds.toArray++ys.toArray++Builtin.zeroCells z.cells (grownCap w (s.n+y.n) old e - (s.n+y.n))).toList,e⟩) w (w.drew.alloc (.cells (olds.toArray++ys.toArray++Builtin.zeroCells z.cells (grownCap w (s.n+y.n) old e - (s.n+y.n))) e)):=by
  intro old olds ho hold;have hge:=grownCap_ge w (s.n+y.n) old e;have hcm:grownCap w (s.n+y.n) old e<=maxLen:=grownCap_le_maxLen w (s.n+y.n) old e h63;have hlo:(olds++ys).length=(s.n+y.n)*i.size:=by rw[List.length_append,ho,hlen,Nat.add_mul]
  generalize grownCap w (s.n+y.n) old e=cap at hge hcm⊢;refine⟨.inr ⟨w.heap.size,⟨(olds.toArray++ys.toArray++Builtin.zeroCells z.cells (cap - (s.n+y.n))).toList,e⟩,rfl,by simp only[Hp.set,if_true],rfl,?_,hge,hcm,?_⟩,?_,?_⟩
  . simp only[Array.length_toList,Array.size_append,List.size_toArray,size_zeroCells,hzs,ho,hlen,<- Nat.add_mul];congr 1;omega
  . simp only[Array.toList_append,List.append_assoc];rw[<- List.append_assoc,<- hlo];exact List.take_left.symm
  . intro b o hbo;simp only[Hp.set] at hbo;split at hbo
    . rename_i hb';subst hb';cases hbo;refine .of ?_;show (w.drew.heap.push _)[w.heap.size]? = _;have:w.drew.heap=w.heap:=rfl;rw[this];simp
    . have hlt:=R.holds.lt (b:=b) (by rw[hbo];simp);have:=R.holds b o hbo;show lq o (w.heap.push _)[b]?;rw[Array.getElem?_push_lt hlt];rw[Array.getElem?_eq_getElem hlt] at this;exact this
  . refine⟨rfl,rfl,rfl,by show w.heap.size<=(w.heap.push _).size;simp,fun k hk _=>?_,fun k hk hk0=>?_,fun k hk hn=>hn.set (by omega)⟩
    . show (w.heap.push _)[k]? = _;rw[Array.getElem?_push_lt hk,Array.getElem?_eq_getElem hk]
    . simp only[Hp.set];rw[if_neg (by omega)];exact hk0
 have kept:∀ (o':HO) (b:Nat) (o:HO),(∀ x,s.a=some x->x.1≠b)->C.h b=some o->(C.h.set w.heap.size o') b=some o:=by
  intro o' b o _ hbo;simp only[Hp.set];rw[if_neg (fun e=>by rw[e,hnone] at hbo;cases hbo)];exact hbo
 rcases hs with ⟨rfl,rfl⟩ | ⟨b,o,hsa,hob,hoty,hol,hnc,hcm,rfl⟩
 . by_cases hm:y.n=0
   . have hn:ys=[]:=List.eq_nil_of_length_eq_zero (by rw[hlen,hm];simp);subst hn;refine⟨⟨none,0,0⟩,C.h,w,?_,.inl ⟨rfl,rfl⟩,by simp[hm],(fun x hx=>by cases hx),fun _ _ _ h=>h,R.holds,Fr.refl _ _ _⟩;rw[hyv,hm];simp[bM.val,Builtin.append_,run_underlying ht,sizeOf,typeInfo,hi,Builtin.lenOf,Builtin.firstCells,loadCells,loadCellsFrom]
   . have hr:=run_append_nil (P:=P) w t ty e i z ht hi hz ⟨q.1,q.2,none⟩ y.n y.c ys hlen hcell' (by omega) (by simp only[Nat.zero_add] at hsmall;omega) (by simp only[Nat.zero_add] at hb;omega);obtain⟨g1,g2,g3⟩:=grown 0 [] (by simp) (by simp only[Nat.zero_add];omega);simp only[Nat.zero_add,List.nil_append,Array.empty_append] at g1 g2 g3;refine⟨⟨some (w.heap.size,0),y.n,grownCap w y.n 0 e⟩,_,_,?_,g1,by simp,(fun x hx=>by cases hx;exact .inr hnone),kept _,g2,g3⟩;rw[hyv];exact hr
 . subst hoty;have hsv:s.val=.slice (some ⟨b,0,none⟩) s.n s.c:=by unfold bM.val;rw[hsa];rfl
   have hrow:=(R.holds b o hob).rw hT;by_cases hroom:s.n+y.n<=s.c
   . have hfit:s.n*i.size+ys.length<=o.cs.toArray.size:=by rw[hlen,List.size_toArray,hol,<- Nat.add_mul];exact Nat.mul_le_mul_right _ hroom
     have hr:=run_append_room (P:=P) w t ty o.ty i ht hi b s.n s.c o.cs.toArray hrow ⟨q.1,q.2,none⟩ y.n y.c ys hlen hcell' h1 hroom hfit;simp only[List.size_toArray] at hfit;simp only at hr;refine⟨⟨some (b,0),s.n+y.n,s.c⟩,C.h.set b ⟨o.cs.take (s.n*i.size)++ys++o.cs.drop (s.n*i.size+ys.length),o.ty⟩,_,by rw[hsv,hyv];exact hr,.inr ⟨b,⟨o.cs.take (s.n*i.size)++ys++o.cs.drop (s.n*i.size+ys.length),o.ty⟩,rfl,by simp only[Hp.set,if_true],rfl,?_,hroom,hcm,?_⟩,rfl,(fun x hx=>by cases hx;exact .inl ⟨_,hsa,rfl⟩),?_,?_,?_⟩
     . simp only[List.length_append,List.length_take,List.length_drop];omega
     . have hlo:(o.cs.take (s.n*i.size)++ys).length=(s.n+y.n)*i.size:=by
        rw[List.length_append,List.length_take,hlen,Nat.add_mul];omega
       rw[<- hlo];exact List.take_left.symm
     . intro b' o' hne hbo;simp only[Hp.set];rw[if_neg (fun e=>hne (b,0) hsa e.symm)];exact hbo
     . intro b' o' hbo;simp only[Hp.set] at hbo;split at hbo
       . rename_i hb';subst hb';cases hbo;exact .of (setRow_heap _ _ _ _ _ _ hrow)
       . rename_i hb';rw[setRow_other _ _ _ _ hb'];exact R.holds b' o' hbo
     . refine⟨rfl,rfl,rfl,by simp,fun k hk hn=>setRow_other _ _ _ _ (hn.ne hob hT),fun k hk hn=>?_,fun k hk hn=>hn.set (hn.ne hob hT)⟩;simp only[Hp.set];rw[if_neg (fun e=>by rw[e,hob] at hn;cases hn)];exact hn
   . have hxl:(o.cs.take (s.n*i.size)).length=s.n*i.size:=by
      rw[List.length_take,hol];exact Nat.min_eq_left (Nat.mul_le_mul_right _ hnc)
     have holds:∀ j u,(o.cs.take (s.n*i.size))[j]? = some u->w.cell? ((⟨b,0,none⟩:Addr).add j)=some u:=fun j u hu=>by
      rw[addr_add,xO hrow,Nat.zero_add];rw[List.getElem?_take] at hu;split at hu
      . exact hu
      . cases hu
     have hr:=run_append_grow (P:=P) w t ty o.ty i z ht hi hz ⟨b,0,none⟩ s.n s.c _ hxl holds ⟨q.1,q.2,none⟩ y.n y.c ys hlen hcell' (by omega) (by omega) (growslice_fits (by omega) hb);obtain⟨g1,g2,g3⟩:=grown s.c _ hxl (by omega);exact⟨⟨some (w.heap.size,0),s.n+y.n,grownCap w (s.n+y.n) s.c o.ty⟩,_,_,by rw[hsv,hyv];exact hr,g1,rfl,(fun x hx=>by cases hx;exact .inr hnone),kept _,g2,g3⟩
theorem BZ (R:Rep B h0 w0 ρ st C a w) {o:Oper} {cs:List CE} {t:TypeId} (h:yR P st [] o.op=some (cs,t)):
 (execOp a.eval o).run P w=.ok (.value (.pointer (some ⟨w.heap.size,0,none⟩))) (w.alloc (.cells (cs.map (CE.den C ρ)).toArray t)):=by
 unfold yR at h;split at h
 . rename_i t' ho;simp only[Option.map_eq_some_iff,Option.bind_eq_some_iff] at h;obtain⟨es,⟨z,hz,hes⟩,he⟩:=h;cases he;unfold kW at hz;simp only[Option.map_eq_some_iff,Option.bind_eq_some_iff] at hz;obtain⟨zv,⟨inf,hinf,hzv⟩,rfl⟩:=hz;have hzero:(zeroValue t).run P w=.ok zv w:=by simp[zeroValue,typeInfo,hinf,hzv]
   have hcells:zv.cells=(cs.map (CE.den C ρ)).toArray:=by rw[iL C ρ hes]
   unfold execOp;rw[ho];simp[Instr.alloc,hzero,newVar,newRow,hcells]
 . rename_i t' x ho;simp only[Option.map_eq_some_iff] at h;obtain⟨p,hp,he⟩:=h;cases he;have hx:=aK R (aN _) hp;unfold execOp;rw[ho];simp[Instr.box,newVar,newRow,hx,mY R.ones]
 . cases h
theorem yQ (R:Rep B h0 w0 ρ st C a w) {ops:Array Oper} {o:Oper} {gs:Gs} {K:St->Fm} (hw:Region.wanted o (yielded ops a.tmps)=true↔dE gs a.tmps) (hs:(Yb st (yR P st gs o.op) gs o.dst K).says E C)
 {Next:Act->World->Prop} {Q:Exit->Act->World->Prop} (hK:∀ ρ st D a w,Ext C D->Rep B h0 w0 ρ st D a w->(K st).says E D->Next a w):jH P ops o Next Q a w:=by
 unfold Yb at hs;split at hs
 . rename_i cs t hnew;split at hs
   . rename_i hck;obtain⟨rfl,hblw,hpl⟩:=hck;have hnone:C.h w.heap.size=none:=by
      cases hq:C.h w.heap.size with
      | none=>rfl
      | some o=>have:=R.holds.lt (b:=w.heap.size) (by rw[hq];simp);omega
     have hsay:=hs w.heap.size hnone;rw[iP (ρ:=ρ) hpl] at hsay;have R1:=Em (n:={ st.n with p:=st.n.p+1 }) (x:=⟨[],[],[],[],[],[some (w.heap.size,0)]⟩) R hblw rfl (fun u hu=>by cases hu) (cs.map (CE.den C ρ)) t;refine fA (v:=.pointer (some ⟨w.heap.size,0,none⟩)) (w':=w.alloc (.cells (cs.map (CE.den C ρ)).toArray t)) (BZ R hnew) (hK ρ _ _ _ _ ((Ext.push C _).trans (Ext.heap _ _)) (dh R1 o.dst _ _ ?_) hsay) (fun h=>absurd (hw.2 (aN _)) h);show _=Value.pointer (((C.p++[some (w.heap.size,0)]).getD st.n.p none).map fun x:Nat×Nat=>(⟨x.1,x.2,none⟩:Addr));rw[<- R.cp];simp
   . exact hs.elim
 . exact hs.elim
theorem Va (v:Value) (n:Nat):madeCells #[v] n=(List.replicate n v).toArray:=by
 apply Array.ext';rw[madeCells,Array.toList_map,Array.toList_range];refine List.eq_replicate_iff.2 ⟨by simp,fun b hb=>?_⟩;obtain⟨i,_,rfl⟩:=List.mem_map.1 hb;simp[Nat.mod_one]
theorem KH (R:Rep B h0 w0 ρ st C a w) {ops:Array Oper} {o:Oper} {gs:Gs} {t:TypeId} {x y:Operand} {K:St->Fm} (ho:o.op=.makeSlice t x y) (hw:Region.wanted o (yielded ops a.tmps)=true↔dE gs a.tmps) (hs:(aac P st gs t x y o.dst K).says E C)
 {Next:Act->World->Prop} {Q:Exit->Act->World->Prop} (hK:∀ ρ st D a w,Ext C D->Rep B h0 w0 ρ st D a w->(K st).says E D->Next a w):jH P ops o Next Q a w:=by
 unfold aac at hs;split at hs
 . rename_i kl l kc c e hx hy hu;split at hs
   . rename_i i z hi hz;split at hs
     . rename_i hck;obtain⟨rfl,rfl,hblw,hsz,hby,hpl⟩:=hck;obtain⟨n0,n1,hs⟩:=hs;simp only[Option.bind_eq_some_iff] at hz;obtain⟨zs,hzs,hz⟩:=hz;unfold kW at hzs;simp only[Option.map_eq_some_iff,Option.bind_eq_some_iff] at hzs;obtain⟨zv,⟨inf,hinf,hzv⟩,rfl⟩:=hzs;obtain rfl:inf=i:=Option.some.inj (hinf.symm.trans hi);have hzc:zv.cells=#[z.den C ρ]:=by
        apply Array.ext';exact (iL C ρ hz).symm
       have h1:a.eval x=.int kl (c.den C):=aK R (aN _) hx;have h2:a.eval y=.int kc (c.den C):=aK R (aN _) hy;have hnone:C.h w.heap.size=none:=by
        cases hq:C.h w.heap.size with
        | none=>rfl
        | some o=>have:=R.holds.lt (b:=w.heap.size) (by rw[hq];simp);omega
       have hsay:=hs w.heap.size hnone;rw[CE.dY (σ:=ρ) z hpl] at hsay;have hm:madeCells zv.cells ((c.den C).toNat*inf.size)=(List.replicate (c.den C).toNat (z.den C ρ)).toArray:=by rw[hzc,hsz,Nat.mul_one,Va]
       have hb:(inf.bytes:Int)*c.den C<=281474976710656:=by
        have h3:(inf.bytes:Int)*c.den C<=1024*16777216:=Int.mul_le_mul (by omega) n1 n0 (by omega);omega
       have hrun:=run_make (P:=P) w t e inf zv hu hinf hzv kl kc (c.den C) (c.den C) n0 (Int.le_refl _) hb (by omega);rw[hm] at hrun;have R1:=Em (n:={ st.n with l:=st.n.l+1 }) (x:=⟨[],[],[],[],[⟨some (w.heap.size,0),(c.den C).toNat,(c.den C).toNat⟩],[]⟩) R hblw rfl (fun u hu=>by cases hu) (List.replicate (c.den C).toNat (z.den C ρ)) e;refine fA (v:=.slice (some ⟨w.heap.size,0,none⟩) (c.den C).toNat (c.den C).toNat) (w':=w.alloc (.cells (List.replicate (c.den C).toNat (z.den C ρ)).toArray e)) ?_ (hK ρ _ _ _ _ ((Ext.push C _).trans (Ext.heap _ _)) (dh R1 o.dst _ _ ?_) hsay) (fun h=>absurd (hw.2 (aN _)) h)
       . unfold execOp;rw[ho];simp only[h1,h2,Sem.run_bind,hrun];rfl
       . show _=((C.l++[(⟨some (w.heap.size,0),(c.den C).toNat,(c.den C).toNat⟩:bM)]).getD st.n.l ⟨none,0,0⟩).val;rw[<- R.cl];simp[bM.val]
     . exact hs.elim
   . exact hs.elim
 . exact hs.elim
theorem YS (R:Rep B h0 w0 ρ st C a w) (hb:st.blw=true) {k:Nat} {b:oO} (hk:st.m[k]? = some b) (hl:st.m.length=k+1)
 (_ht:(st.t.all fun v=>decide (v=.p (.one (.own k 0)))||v.qJ k)=true):
 Rep B h0 w0 ρ { t:=st.t.map (aas k st.n.p),m:=st.m.dropLast,n:={ st.n with p:=st.n.p+1 } } ((C.push ⟨[],[],[],[],[],[some (ρ k,0)]⟩).heap (C.h.set (ρ k) ⟨b.cells.map (CE.den C ρ),b.ty⟩)) a w:=by
 simp only[St.blw,Bool.and_eq_true] at hb;have hx:Ext C ((C.push ⟨[],[],[],[],[],[some (ρ k,0)]⟩).heap (C.h.set (ρ k) ⟨b.cells.map (CE.den C ρ),b.ty⟩)):=(Ext.push C _).trans (Ext.heap _ _);have hA:=hx.Dh R.has;have hH:=(R.has.push (M:={ st.n with p:=st.n.p+1 }) (x:=⟨[],[],[],[],[],[some (ρ k,0)]⟩) rfl).heap (C.h.set (ρ k) ⟨b.cells.map (CE.den C ρ),b.ty⟩);have hd:st.m.dropLast.length=k:=by rw[List.length_dropLast,hl];rfl
 have hm:∀ (j:Nat) (c:oO),st.m.dropLast[j]? = some c->st.m[j]? = some c:=fun j c h=>by
  have hj:=(List.getElem?_eq_some_iff.1 h).1;rw[List.dropLast_eq_take,List.getElem?_take] at h;split at h
  . exact h
  . cases h
 have hfk:=R.fresh k (by omega);have hlt:∀ j,j<st.m.dropLast.length->j<st.m.length:=fun j h=>by omega
 have hlk:∀ j,j<st.m.dropLast.length->j≠k:=fun j h=>by omega
 refine⟨R.defers,by rw[R.size];exact (List.length_map ..).symm,?_,?_,fun j hj=>R.fresh j (hlt j hj),fun i j hi hj=>R.inj i j (hlt i hi) (hlt j hj),?_,?_,?_,R.base,hH.i,hH.b,hH.s,hH.v,hH.l,hH.p,ik R.ones (fun u hu=>by cases hu)⟩
 . intro i v h;simp only[List.getElem?_map,Option.map_eq_some_iff] at h;obtain⟨u,hu,rfl⟩:=h;have hs:=R.slots i u hu;unfold aas;split
   . rename_i he;subst he;have hs':a.tmps.getD i undef=.pointer (some ⟨ρ k,0,none⟩):=hs;show a.tmps.getD i undef=Value.pointer (((C.p++[some (ρ k,0)]).getD st.n.p none).map fun x:Nat×Nat=>(⟨x.1,x.2,none⟩:Addr));rw[hs',<- R.cp];simp
   . exact VE.ql hA ρ _ _ u (List.all_eq_true.1 hb.1 u (List.mem_of_getElem? hu)) hs
 . intro j c h;have h':=hm j c h;rw[R.blocks j c h',iO hA ρ c.cells (List.all_eq_true.1 hb.2 c (List.mem_of_getElem? h'))]
 . intro j hj;show (C.h.set (ρ k) _) (ρ j)=none;simp only[Hp.set];rw[if_neg (fun e=>hlk j hj (R.inj j k (hlt j hj) (by omega) e))];exact R.free j (hlt j hj)
 . intro c y hy;have hy':(C.h.set (ρ k) ⟨b.cells.map (CE.den C ρ),b.ty⟩) c=some y:=hy;simp only[Hp.set] at hy';by_cases he:c=ρ k
   . rw[if_pos he] at hy';cases hy';subst he;exact .of (R.blocks k b hk)
   . rw[if_neg he] at hy';exact R.holds c y hy'
 . refine⟨R.fr.os,R.fr.tape,R.fr.output,R.fr.size,R.fr.block,fun c hc hn=>?_,fun c hc hn=>(R.fr.un c hc hn).set (fun e=>by subst e;rcases hfk with h | h;omega;exact h hn)⟩;show (C.h.set (ρ k) _) c=none;simp only[Hp.set];rw[if_neg (fun e=>by subst e;rcases hfk with h | h;omega;exact h (.none hn))];exact R.fr.ghost c hc hn
theorem Wu (R:Rep B h0 w0 ρ st C a w) (hb:st.blw=true) {k len:Nat} {b:oO} (hk:st.m[k]? = some b) (hl:st.m.length=k+1)
 (_ht:(st.t.all fun v=>decide (v=.p (.one (.osl k len)))||v.qJ k)=true):
 Rep B h0 w0 ρ { t:=st.t.map (Wi k len st.n.l),m:=st.m.dropLast,n:={ st.n with l:=st.n.l+1 } } ((C.push ⟨[],[],[],[],[⟨some (ρ k,0),len,len⟩],[]⟩).heap (C.h.set (ρ k) ⟨b.cells.map (CE.den C ρ),b.ty⟩)) a w:=by
 simp only[St.blw,Bool.and_eq_true] at hb;have hx:Ext C ((C.push ⟨[],[],[],[],[⟨some (ρ k,0),len,len⟩],[]⟩).heap (C.h.set (ρ k) ⟨b.cells.map (CE.den C ρ),b.ty⟩)):=(Ext.push C _).trans (Ext.heap _ _);have hA:=hx.Dh R.has;have hH:=(R.has.push (M:={ st.n with l:=st.n.l+1 }) (x:=⟨[],[],[],[],[⟨some (ρ k,0),len,len⟩],[]⟩) rfl).heap (C.h.set (ρ k) ⟨b.cells.map (CE.den C ρ),b.ty⟩);have hd:st.m.dropLast.length=k:=by rw[List.length_dropLast,hl];rfl
 have hm:∀ (j:Nat) (c:oO),st.m.dropLast[j]? = some c->st.m[j]? = some c:=fun j c h=>by
  have hj:=(List.getElem?_eq_some_iff.1 h).1;rw[List.dropLast_eq_take,List.getElem?_take] at h;split at h
  . exact h
  . cases h
 have hfk:=R.fresh k (by omega);have hlt:∀ j,j<st.m.dropLast.length->j<st.m.length:=fun j h=>by omega
 have hlk:∀ j,j<st.m.dropLast.length->j≠k:=fun j h=>by omega
 refine⟨R.defers,by rw[R.size];exact (List.length_map ..).symm,?_,?_,fun j hj=>R.fresh j (hlt j hj),fun i j hi hj=>R.inj i j (hlt i hi) (hlt j hj),?_,?_,?_,R.base,hH.i,hH.b,hH.s,hH.v,hH.l,hH.p,ik R.ones (fun u hu=>by cases hu)⟩
 . intro i v h;simp only[List.getElem?_map,Option.map_eq_some_iff] at h;obtain⟨u,hu,rfl⟩:=h;have hs:=R.slots i u hu;unfold Wi;split
   . rename_i he;subst he;have hs':a.tmps.getD i undef=.slice (some ⟨ρ k,0,none⟩) len len:=hs;show a.tmps.getD i undef=((C.l++[(⟨some (ρ k,0),len,len⟩:bM)]).getD st.n.l ⟨none,0,0⟩).val;rw[hs',<- R.cl];simp[bM.val]
   . exact VE.ql hA ρ _ _ u (List.all_eq_true.1 hb.1 u (List.mem_of_getElem? hu)) hs
 . intro j c h;have h':=hm j c h;rw[R.blocks j c h',iO hA ρ c.cells (List.all_eq_true.1 hb.2 c (List.mem_of_getElem? h'))]
 . intro j hj;show (C.h.set (ρ k) _) (ρ j)=none;simp only[Hp.set];rw[if_neg (fun e=>hlk j hj (R.inj j k (hlt j hj) (by omega) e))];exact R.free j (hlt j hj)
 . intro c y hy;have hy':(C.h.set (ρ k) ⟨b.cells.map (CE.den C ρ),b.ty⟩) c=some y:=hy;simp only[Hp.set] at hy';by_cases he:c=ρ k
   . rw[if_pos he] at hy';cases hy';subst he;exact .of (R.blocks k b hk)
   . rw[if_neg he] at hy';exact R.holds c y hy'
 . refine⟨R.fr.os,R.fr.tape,R.fr.output,R.fr.size,R.fr.block,fun c hc hn=>?_,fun c hc hn=>(R.fr.un c hc hn).set (fun e=>by subst e;rcases hfk with h | h;omega;exact h hn)⟩;show (C.h.set (ρ k) _) c=none;simp only[Hp.set];rw[if_neg (fun e=>by subst e;rcases hfk with h | h;omega;exact h (.none hn))];exact R.fr.ghost c hc hn
theorem Ls (R:Rep B h0 w0 ρ st C a w) {K:St->Fm} (hs:(YO st K).says E C):∃ C' st',Ext C C'/\Rep B h0 w0 ρ st' C' a w/\(K st').says E C':=by
 unfold YO at hs;split at hs
 . rename_i k len _;split at hs
   . rename_i b hb;split at hs
     . rename_i hck;obtain⟨hblw,hl,hpl,ht⟩:=hck;have hsay:=hs (ρ k) (R.free k (by omega));rw[iP (ρ:=ρ) hpl] at hsay;exact⟨_,_,(Ext.push C _).trans (Ext.heap _ _),Wu R hblw hb hl ht,hsay⟩
     . exact hs.elim
   . exact hs.elim
 . exact⟨C,st,Ext.refl C,R,hs⟩
theorem wu (R:Rep B h0 w0 ρ st C a w) {o:Oper} {cs:List CE} {e:TypeId} {len:Nat} (h:jB P st [] o.op=some (cs,e,len)):
 (execOp a.eval o).run P w=.ok (.value (.slice (some ⟨w.heap.size,0,none⟩) len len)) (w.alloc (.cells (cs.map (CE.den C ρ)).toArray e)):=by
 unfold jB at h;split at h
 . rename_i t len' parts ho;split at h
   . rename_i ps e' hps hu;split at h
     . rename_i n z hn hz;split at h
       . rename_i hck;obtain⟨hlim,hzl,hn0⟩:=hck;split at h
         . rename_i cs' hcs;cases h;simp only[Option.bind_eq_some_iff] at hz;obtain⟨zs,hzs,hz⟩:=hz;unfold kW at hzs;simp only[Option.map_eq_some_iff,Option.bind_eq_some_iff] at hzs;obtain⟨zv,⟨inf,hinf,hzv⟩,rfl⟩:=hzs;have hzero:(zeroValue e).run P w=.ok zv w:=by simp[zeroValue,typeInfo,hinf,hzv]
           have hzc:zv.cells=(z.map (CE.den C ρ)).toArray:=by rw[iL C ρ hz]
           have hfill:=sS (C:=C) (ρ:=ρ) R.ones (fun i=>some (i*n,n)) ps _ _ hcs;have hparts:=parts_eval R (aN _) hps;have hbase:((Array.range (len*n)).map fun i=>zv.cells[i % zv.cells.size]!)=(((List.range (len*n)).map fun i=>(z[i % n]?).getD (.c .undef)).map (CE.den C ρ)).toArray:=by
            apply Array.ext';simp only[Array.toList_map,Array.toList_range,List.map_map];refine List.map_congr_left fun i hi=>?_
            have hlt:i % n<z.length:=by rw[hzl];exact Nat.mod_lt _ (by omega)
            simp only[Function.comp,hzc,List.size_toArray,List.length_map,hzl];rw[List.getElem?_eq_getElem hlt];simp[hlt]
           unfold execOp;rw[ho];simp only
           suffices hb:(Instr.buildSlice t len (parts.map fun x=>(x.1,a.eval x.2))).run P w=.ok (.slice (some ⟨w.heap.size,0,none⟩) len len) (w.alloc (.cells (cs.map (CE.den C ρ)).toArray e)) by
            rw[Sem.run_bind,hb];rfl
           unfold Instr.buildSlice;rw[Sem.run_bind,run_underlying hu,Result.andThen_ok]
           try simp only
           rw[Sem.run_bind,dI hn,Result.andThen_ok,if_neg (by omega)];have e3:(Array.map (fun x=>(x.1,a.eval x.2)) parts).toList=ps.map fun x=>(x.1,x.2.den C ρ):=by
            rw[<- hparts];simp
           by_cases h0:len*n=0
           . have hbz:((Array.range (len*n)).map fun i=>(#[]:Array Value)[i % (#[]:Array Value).size]!)=(((List.range (len*n)).map fun i=>(z[i % n]?).getD (.c .undef)).map (CE.den C ρ)).toArray:=by
              rw[h0];simp
             rw[if_pos h0,Sem.run_bind,Sem.run_pure,Result.andThen_ok,hbz,e3,hfill];rfl
           . rw[if_neg h0,Sem.run_bind,hzero,Result.andThen_ok,Sem.run_bind,Sem.run_pure,Result.andThen_ok,hbase,e3,hfill];rfl
         . cases h
       . cases h
     . cases h
   . cases h
 . cases h
theorem KI (R:Rep B h0 w0 ρ st C a w) {o:Oper} {cs:List CE} {t:TypeId} {sl:Option Nat} (h:rM P st [] o.op=some (cs,t,sl)) {σ:Nat->Nat} {k:Nat} (hσ:σ k=w.heap.size):
 (execOp a.eval o).run P w=.ok (.value ((yS k sl).den C σ)) (w.alloc (.cells (cs.map (CE.den C ρ)).toArray t)):=by
 unfold rM at h;split at h
 . rename_i hn;cases h;rw[BZ R hn];simp only[yS,CE.den,hσ]
 . simp only[Option.map_eq_some_iff] at h;obtain⟨⟨cs',t',n⟩,hn,he⟩:=h;cases he;rw[wu R hn];simp only[yS,CE.den,hσ]
theorem Lr (R:Rep B h0 w0 ρ st C a w) {ops:Array Oper} {o:Oper} {gs:Gs} {f k:Nat} {K:St->Fm} (hw:Region.wanted o (yielded ops a.tmps)=true↔dE gs a.tmps) (hc:Jq st gs o.op=some (f,k)) (hs:(aar st gs f k o.dst K).says E C)
 {Next:Act->World->Prop} {Q:Exit->Act->World->Prop} (hK:∀ ρ st D a w,Ext C D->Rep B h0 w0 ρ st D a w->(K st).says E D->Next a w):jH P ops o Next Q a w:=by
 unfold aar at hs;split at hs
 . rename_i b hb;split at hs
   . rename_i hck;obtain⟨rfl,hblw,hl,hpl,hok,ht⟩:=hck;have hk:k<st.m.length:=by omega
     have hsay:=hs (ρ k) (R.free k hk);rw[iP (ρ:=ρ) hpl] at hsay;have R1:=YS R hblw hb hl ht;unfold Jq at hc;split at hc
     . rename_i f' first captured ho
       split at hc
       . rename_i x hf hx;split at hc
         . rename_i k' hop;cases hc;have hv:=aK R (aN _) hop;have hf2:first=#[]:=Array.toList_inj.1 hf
           have hx2:captured=#[x]:=Array.toList_inj.1 hx;refine fA (v:=.func (.func f) #[] #[.pointer (some ⟨ρ k,0,none⟩)]) (w':=w) ?_ (hK ρ _ _ _ _ ((Ext.push C _).trans (Ext.heap _ _)) (dh R1 o.dst _ _ ?_) hsay) (fun h=>absurd (hw.2 (aN _)) h)
           . unfold execOp;rw[ho,hf2,hx2];refine iQ ?_;rw[show Array.map a.eval #[x]=#[a.eval x] from Array.toList_inj.1 (by rw[Array.toList_map];rfl),show Array.map a.eval #[]=#[] from Array.toList_inj.1 (by rw[Array.toList_map];rfl),hv];rfl
           . show _=Value.func (.func f) #[] ([st.n.p].map fun n=>Value.pointer (((C.p++[some (ρ k,0)]).getD n none).map fun x:Nat×Nat=>(⟨x.1,x.2,none⟩:Addr))).toArray;rw[<- R.cp];simp
         . cases hc
       . cases hc
     . cases hc
   . exact hs.elim
 . exact hs.elim
set_option maxHeartbeats 2000000 in
theorem lK (hE:Good P E) (R:Rep B h0 w0 ρ st C a w) {nw:iY} {ops:Array Oper} {o:Oper} {K:St->Fm} (hs:(Hl nw P ops o st K).says E C)
 {Next:Act->World->Prop} {Q:Exit->Act->World->Prop} (hK:∀ ρ st D a w,Ext C D->Rep B h0 w0 ρ st D a w->(K st).says E D->Next a w):jH P ops o Next Q a w:=by
 unfold Hl at hs;split at hs
 . exact hs.elim
 rename_i gs hgs;have hw:=gZ R hgs;split at hs
 . exact hs.elim
 rename_i g hg;have hgi:=uG R gs [] g (aN _) hg;split at hs
 . -- a call
   rename_i vf args ts ho;split at hs
   . rename_i f vas r n hvx;simp only[Option.bind_eq_some_iff,Option.map_eq_some_iff,Prod.mk.injEq] at hvx;obtain⟨fv,hcal',x',hr',h1,h2,h3,h4⟩:=hvx;have hcal:lC st gs vf args.toList=some (f,vas):=by rw[hcal',<- h1,<- h2]
     have hr:yC P st.n (YT P o.type f)=some (r,n):=by rw[<- h1,hr',<- h3,<- h4]
     clear hcal' hr' h1 h2 h3 h4;split at hs
     . exact hs.elim
     . rename_i hck;simp only[Bool.not_eq_true,Bool.not_eq_false',Bool.and_eq_true,decide_eq_true_eq] at hck;obtain⟨⟨⟨⟨hbody,hblw⟩,hpl⟩,hrp⟩,hn⟩:=hck;have hrn:∀ D,r.den D bg=r.den D ρ:=fun D=>by
        cases r with
        | p x=>exact x.dY hrp
        | tup l=>exact congrArg (fun x=>Value.tuple (List.toArray x)) (List.map_congr_left fun x hx=>PE.dY x (List.all_eq_true.1 hrp x hx))
        | _=>rfl
       have main:∀ (v:VE) (hv:∀ D u (t:Array Value),dE gs t->u=r.den D ρ->v.holds D ρ t u) (hv0:∀ D (t:Array Value),¬ dE gs t->v.holds D ρ t undef)
        (hsay:Fm.says E (.call g false f vas r (n.sub st.n) (K ({ st with n:=n }.lm o.dst v))) C),jH P ops o Next Q a w:=by
        intro v hv hv0 hsay;obtain⟨hy,hno⟩:=hsay;refine kT hw hgi (fun hgt hc=>?_) (fun hgf hc=>?_)
        . have hspec:=hy hgt;obtain⟨f',args',hrun,hcl⟩:=sF hE R hc ho hcal hbody hpl hspec;unfold Oper.wp;rw[hrun];show Calls P f' args' w _;refine hcl.mono ?_;rintro e w' ⟨u,h,rfl,⟨_,hu⟩,hH,hF⟩;show Next (a.put o.dst u) w';rw[bn] at hu;obtain⟨x,hx,hones,hval,hsays⟩:=hu;have hex:Ext C ((C.push x).heap h):=(Ext.push C x).trans (Ext.heap _ h);have R1:=jG (n:=n) R hblw hex ((R.has.push (by rw[hx];exact hn)).heap h) (ik R.ones hones) hH hF;refine hK ρ _ _ _ _ hex (dh R1 o.dst v u ?_) hsays;exact hv _ _ _ hc (by rw[hval,hrn,VE.xU])
        . have hsays:=hno hgf;have hones:eG (Inc.blank (n.sub st.n)).v:=fun u hu=>by rw[List.eq_of_mem_replicate hu];rfl
          have hcnt:(Inc.blank (n.sub st.n)).cnt=n.sub st.n:=by simp[Inc.blank,Inc.cnt]
          have R1:=uf R hblw (x:=Inc.blank (n.sub st.n)) (n:=n) (by rw[hcnt];exact hn) hones;exact hK ρ _ _ _ _ (Ext.push C _) (dh R1 o.dst v undef (hv0 _ _ hc)) hsays
       split at hs
       . rename_i x hrx;exact main _ (fun D u t hc hu=>iW hc (by rw[hu];rfl)) (fun D t hc=>jC hc) hs
       . rename_i hrx;split at hs
         . rename_i hg0;subst hg0;refine main r (fun D u t hc hu=>?_) (fun D t hc=>absurd (aN t) hc) hs;cases r with
           | dead=>trivial
           | p x=>exact absurd rfl (hrx x)
           | tup l=>exact hu
           | wg gs x=>
             exfalso;unfold yC at hr;split at hr<;>cases hr
         . exact hs.elim
   . exact hs.elim
 . -- alloc
   rename_i t ho;split at hs
   . exact yQ R hw (ho▸hs) hK
   split at hs
   . rename_i z hz;split at hs
     . rename_i cs hcs;split at hs
       . rename_i hck;obtain⟨rfl,hm,hc⟩:=hck;unfold kW at hz;simp only[Option.map_eq_some_iff,Option.bind_eq_some_iff] at hz;obtain⟨zv,⟨inf,hinf,hzv⟩,rfl⟩:=hz;have hzero:(zeroValue t).run P w=.ok zv w:=by simp[zeroValue,typeInfo,hinf,hzv]
         obtain⟨σ,hσ,R1⟩:=uS R hm hc t;have hcells:zv.cells=(cs.map (CE.den C ρ)).toArray:=by rw[iL C ρ hcs]
         refine fA (v:=.pointer (some ⟨w.heap.size,0,none⟩)) (w':=w.alloc (.cells (cs.map (CE.den C ρ)).toArray t)) ?_ ?_ (fun h=>absurd (hw.2 (aN _)) h)
         . unfold execOp;rw[ho];simp[Instr.alloc,hzero,newVar,newRow,hcells]
         . refine hK σ _ C _ _ (Ext.refl C) (dh R1 o.dst _ _ ?_) hs;show _=Value.pointer (some ⟨σ st.m.length,0,none⟩);rw[hσ]
       . exact hs.elim
     . exact hs.elim
   . exact hs.elim
 . -- box
   rename_i t x ho;split at hs
   . exact yQ R hw (ho▸hs) hK
   split at hs
   . rename_i p hp;split at hs
     . rename_i hck;obtain⟨rfl,hm,hc⟩:=hck;obtain⟨σ,hσ,R1⟩:=uS R hm hc t;have hx:=aK R (aN _) hp;refine fA (v:=.pointer (some ⟨w.heap.size,0,none⟩)) (w':=w.alloc (.cells (p.cells.map (CE.den C ρ)).toArray t)) ?_ ?_ (fun h=>absurd (hw.2 (aN _)) h)
       . unfold execOp;rw[ho];simp[Instr.box,newVar,newRow,hx,mY R.ones]
       . refine hK σ _ C _ _ (Ext.refl C) (dh R1 o.dst _ _ ?_) hs;show _=Value.pointer (some ⟨σ st.m.length,0,none⟩);rw[hσ]
     . exact hs.elim
   . exact hs.elim
 . -- a slice that is written out
   rename_i t len parts ho;split at hs
   . rename_i ps e hps hu;split at hs
     . rename_i n z hn hz;split at hs
       . rename_i hck;obtain⟨rfl,hblw,hlim,hzl,hn0⟩:=hck;split at hs
         . rename_i cs hcs;split at hs
           . rename_i hpl;simp only[Bool.and_eq_true] at hpl;simp only[Option.bind_eq_some_iff] at hz;obtain⟨zs,hzs,hz⟩:=hz;unfold kW at hzs;simp only[Option.map_eq_some_iff,Option.bind_eq_some_iff] at hzs;obtain⟨zv,⟨inf,hinf,hzv⟩,rfl⟩:=hzs;have hzero:(zeroValue e).run P w=.ok zv w:=by simp[zeroValue,typeInfo,hinf,hzv]
             have hzc:zv.cells=(z.map (CE.den C ρ)).toArray:=by rw[iL C ρ hz]
             have hfill:=sS (C:=C) (ρ:=ρ) R.ones (fun i=>some (i*n,n)) ps _ _ hcs;have hparts:=parts_eval R (aN _) hps;have hbase:((Array.range (len*n)).map fun i=>zv.cells[i % zv.cells.size]!)=(((List.range (len*n)).map fun i=>(z[i % n]?).getD (.c .undef)).map (CE.den C ρ)).toArray:=by
              apply Array.ext';simp only[Array.toList_map,Array.toList_range,List.map_map];refine List.map_congr_left fun i hi=>?_
              have hlt:i % n<z.length:=by rw[hzl];exact Nat.mod_lt _ (by omega)
              simp only[Function.comp,hzc,List.size_toArray,List.length_map,hzl];rw[List.getElem?_eq_getElem hlt];simp[hlt]
             have hd:∀ D:Ctx,D.l=C.l++[⟨some (w.heap.size,0),len,len⟩]->(PE.one (.sl (.x st.n.l))).den D ρ=.slice (some ⟨w.heap.size,0,none⟩) len len:=by
              intro D hD;show (D.l.getD st.n.l ⟨none,0,0⟩).val=_;rw[hD,<- R.cl];simp[bM.val]
             have hnone:C.h w.heap.size=none:=by
              cases hq:C.h w.heap.size with
              | none=>rfl
              | some o=>have:=R.holds.lt (b:=w.heap.size) (by rw[hq];simp);omega
             have hsay:=hs w.heap.size hnone;rw[iP (ρ:=ρ) hpl.1] at hsay;have R1:=Em (n:={ st.n with l:=st.n.l+1 }) (x:=⟨[],[],[],[],[⟨some (w.heap.size,0),len,len⟩],[]⟩) R hblw rfl (fun u hu=>by cases hu) (cs.map (CE.den C ρ)) e;refine fA (v:=.slice (some ⟨w.heap.size,0,none⟩) len len) (w':=w.alloc (.cells (cs.map (CE.den C ρ)).toArray e)) ?_ (hK ρ _ _ _ _ ((Ext.push C _).trans (Ext.heap _ _)) (dh R1 o.dst (.p (.one (.sl (.x st.n.l)))) _ (hd ((C.push ⟨[],[],[],[],[⟨some (w.heap.size,0),len,len⟩],[]⟩).heap (C.h.set w.heap.size ⟨cs.map (CE.den C ρ),e⟩)) rfl).symm) hsay) (fun h=>absurd (hw.2 (aN _)) h);unfold execOp;rw[ho];simp only
             suffices hb:(Instr.buildSlice t len (parts.map fun x=>(x.1,a.eval x.2))).run P w=.ok (.slice (some ⟨w.heap.size,0,none⟩) len len) (w.alloc (.cells (cs.map (CE.den C ρ)).toArray e)) by
              rw[Sem.run_bind,hb];rfl
             unfold Instr.buildSlice;rw[Sem.run_bind,run_underlying hu,Result.andThen_ok]
             try simp only
             rw[Sem.run_bind,dI hn,Result.andThen_ok,if_neg (by omega)];have e3:(Array.map (fun x=>(x.1,a.eval x.2)) parts).toList=ps.map fun x=>(x.1,x.2.den C ρ):=by
              rw[<- hparts];simp
             by_cases h0:len*n=0
             . have hbz:((Array.range (len*n)).map fun i=>(#[]:Array Value)[i % (#[]:Array Value).size]!)=(((List.range (len*n)).map fun i=>(z[i % n]?).getD (.c .undef)).map (CE.den C ρ)).toArray:=by
                rw[h0];simp
               rw[if_pos h0,Sem.run_bind,Sem.run_pure,Result.andThen_ok,hbz,e3,hfill];rfl
             . rw[if_neg h0,Sem.run_bind,hzero,Result.andThen_ok,Sem.run_bind,Sem.run_pure,Result.andThen_ok,hbase,e3,hfill];rfl
           . exact hs.elim
         . exact hs.elim
       . exact hs.elim
     . exact hs.elim
   . exact hs.elim
 . -- append
   rename_i args ts ho;split at hs
   . rename_i s y t t' has hts;split at hs
     . rename_i e zt hu _;split at hs
       . rename_i i hi;split at hs
         . rename_i z hz;split at hs
           . rename_i hck;obtain⟨rfl,rfl,hblw,hzs,hsz,hT⟩:=hck;obtain⟨xs,ys,h1,h2,h3,h4,h5,hsay⟩:=hs;have hargs:=mX R (aN _) has;obtain⟨s',h,w',hrun,hown,hn,hsame,hkept,hH,hF⟩:=Jj R hu hi hz hzs hsz h1 h2 h3 h4 h5 o.type hT;have hsay':=hsay s' h hown hn hsame hkept;have hex:Ext C ((C.push ⟨[],[],[],[],[s'],[]⟩).heap h):=(Ext.push C _).trans (Ext.heap _ h);have R1:=jG (n:={ st.n with l:=st.n.l+1 }) R hblw hex ((R.has.push rfl).heap h) (ik R.ones (fun u hu=>by cases hu)) hH hF;refine fA (v:=s'.val) (w':=w') ?_ (hK ρ _ _ _ _ hex (dh R1 o.dst _ _ ?_) hsay') (fun h=>absurd (hw.2 (aN _)) h)
             . unfold execOp;rw[ho];have ha:args.map a.eval=#[(s.den C).val,(y.den C).val]:=by
                have hargs:args.toList.map a.eval=[(s.den C).val,(y.den C).val]:=hargs;apply Array.ext';simpa using hargs
               have ht:ts=#[t',t']:=by apply Array.ext';simpa using hts
               simp[resolve,invoke,builtin,ha,ht,hrun]
             . show _=((C.l++[s']).getD st.n.l ⟨none,0,0⟩).val;rw[<- R.cl];simp
           . exact hs.elim
         . exact hs.elim
       . exact hs.elim
     . exact hs.elim
   . rename_i s y t t' has hts;split at hs
     . rename_i e hu hu2;split at hs
       . rename_i i hi;split at hs
         . rename_i z hz;split at hs
           . rename_i hck;obtain⟨rfl,rfl,hblw,hsz,hby,hT⟩:=hck;obtain⟨xs,h1,h2,hsay⟩:=hs;have hargs:=mX R (aN _) has;have hbl:(Go.Proofs.YtllbpdllkkcajaaGreatDoor.B (y.den C)).size=(y.den C).length:=by simp[Go.Proofs.YtllbpdllkkcajaaGreatDoor.B,ByteArray.size]
             obtain⟨s',h,w',hrun,hown,hn,hsame,hkept,hH,hF,_⟩:=xI R.holds hu hu2 hi hz hsz hby h1 (Go.Proofs.YtllbpdllkkcajaaGreatDoor.B (y.den C)) (by rw[hbl];exact h2) o.type hT;rw[uj] at hown;rw[hbl] at hn;have hsay':=hsay s' h hown hn hsame hkept;have hex:Ext C ((C.push ⟨[],[],[],[],[s'],[]⟩).heap h):=(Ext.push C _).trans (Ext.heap _ h);have R1:=jG (n:={ st.n with l:=st.n.l+1 }) R hblw hex ((R.has.push rfl).heap h) (ik R.ones (fun u hu=>by cases hu)) hH hF;refine fA (v:=s'.val) (w':=w') ?_ (hK ρ _ _ _ _ hex (dh R1 o.dst _ _ ?_) hsay') (fun h=>absurd (hw.2 (aN _)) h)
             . unfold execOp;rw[ho];have ha:args.map a.eval=#[(s.den C).val,.string (Go.Proofs.YtllbpdllkkcajaaGreatDoor.B (y.den C))]:=by
                have hargs:args.toList.map a.eval=[(s.den C).val,.string (Go.Proofs.YtllbpdllkkcajaaGreatDoor.B (y.den C))]:=hargs;apply Array.ext';simpa using hargs
               have ht:ts=#[t,t']:=by apply Array.ext';simpa using hts
               simp[resolve,invoke,builtin,ha,ht,hrun]
             . show _=((C.l++[s']).getD st.n.l ⟨none,0,0⟩).val;rw[<- R.cl];simp
           . exact hs.elim
         . exact hs.elim
       . exact hs.elim
     . exact hs.elim
   . exact hs.elim
 . -- bytes to a string
   rename_i src dst x ho;split at hs
   . rename_i l hx hty;split at hs
     . rename_i hck;obtain⟨rfl,hblw⟩:=hck;obtain⟨bs,hbs,hsay⟩:=hs;have hx':=aK R (aN _) hx;have hrun:(convert src dst (a.eval x)).run P w=.ok (.string (Go.Proofs.YtllbpdllkkcajaaGreatDoor.B bs)) w:=by
        rw[hx'];exact uB hty R.holds hbs
       have R1:=uf (n:={ st.n with s:=st.n.s+1 }) (x:=⟨[],[],[bs],[],[],[]⟩) R hblw rfl (fun u hu=>by cases hu);refine fA (v:=.string (Go.Proofs.YtllbpdllkkcajaaGreatDoor.B bs)) (w':=w) ?_ (hK ρ _ _ _ _ (Ext.push C _) (dh R1 o.dst _ _ ?_) hsay) (fun h=>absurd (hw.2 (aN _)) h)
       . unfold execOp;rw[ho];exact iQ hrun
       . show _=Value.string (Go.Proofs.YtllbpdllkkcajaaGreatDoor.B ((C.s++[bs]).getD st.n.s []));rw[<- R.cs];simp
     . exact hs.elim
   . split at hs
     . rename_i c v hp;have hs:=uK hs;refine kT hw hgi (fun hgt hc=>?_) (fun hgf hc=>?_)
       . have:=nV R hc hp (hs.1 hgt);unfold Oper.wp;rw[this];exact hK ρ _ C _ _ (Ext.refl C) (dh R o.dst _ _ (iW hc rfl)) hs.2
       . exact hK ρ _ C _ _ (Ext.refl C) (dh R o.dst _ _ (jC hc)) hs.2
     . exact hs.elim
 . -- load
   rename_i t x ho;split at hs
   . rename_i ad hx;split at hs
     . rename_i r n sz d hr hsz hd;split at hs
       . rename_i hck;simp only[Bool.and_eq_true,decide_eq_true_eq] at hck;obtain⟨⟨⟨⟨hblw,hpl⟩,hn⟩,hl⟩,hag⟩:=hck;obtain⟨hy,hno⟩:=hs;refine kT hw hgi (fun hgt hc=>?_) (fun hgf hc=>?_)
         . have hu:=hy hgt;rw[bn] at hu;obtain⟨y,hx',hones,hread,hsays⟩:=hu;obtain⟨q,hq,hlen,hcell⟩:=qo R.holds hread;have he:=aK R hc hx;have he':a.eval x=.pointer (some ⟨q.1,q.2,none⟩):=by rw[he];show nI (ad.den C)=_;rw[hq];rfl
           obtain⟨L1,L2⟩:=BQ hd hsz hlen hcell;have R1:=uf R hblw (x:=y) (n:=n) (by rw[hx'];exact hn) hones;have hrun:(execOp a.eval o).run P w=.ok (.value (r.den (C.push y) ρ)) w:=by
            unfold execOp;rw[ho];simp only[he'];refine iQ ?_;cases r with
            | one c=>
              have hagg:gy P t=false:=by simpa[PE.Fb] using hag
              have hp:c.plain=true:=by simpa[PE.plain,PE.cells] using hpl
              exact L2 hagg _ (by rw[show PE.den (C.push y) ρ (.one c)=c.den (C.push y) bg from c.dY hp];rfl)
            | agg l=>
              have hagg:gy P t=true:=hag;rw[L1 hagg];show _=Result.ok (Value.agg (l.map (CE.den (C.push y) ρ)).toArray) w;rw[<- iP (ρ:=ρ) (l:=l) hpl];rfl
           unfold Oper.wp;rw[hrun];exact hK ρ _ _ _ _ (Ext.push C _) (dh R1 o.dst _ _ (iW hc rfl)) hsays
         . have hsays:=hno hgf;have hones:eG (Inc.blank (n.sub st.n)).v:=fun u hu=>by rw[List.eq_of_mem_replicate hu];rfl
           have hcnt:(Inc.blank (n.sub st.n)).cnt=n.sub st.n:=by simp[Inc.blank,Inc.cnt]
           have R1:=uf R hblw (x:=Inc.blank (n.sub st.n)) (n:=n) (by rw[hcnt];exact hn) hones;exact hK ρ _ _ _ _ (Ext.push C _) (dh R1 o.dst _ undef (jC hc)) hsays
       . exact hs.elim
     . exact hs.elim
   . rename_i p hnad hp;split at hs
     . rename_i v hv;refine kT hw hgi (fun hgt hc=>?_) (fun hgf hc=>?_)
       . have:=yI R hv;have he:=aK R hc hp;have hrun:(execOp a.eval o).run P w=.ok (.value (v.den C ρ)) w:=by
          unfold execOp;rw[ho];simp only[he];exact iQ this
         unfold Oper.wp;rw[hrun];exact hK ρ _ C _ _ (Ext.refl C) (dh R o.dst _ _ (iW hc rfl)) hs
       . exact hK ρ _ C _ _ (Ext.refl C) (dh R o.dst _ undef (jC hc)) hs
     . exact hs.elim
   . exact hs.elim
 . -- store
   rename_i t x y ho;split at hs
   . rename_i ad p n hx hy hn;split at hs
     . rename_i hck;obtain⟨rfl,hblw,hpl,hsto,hlen⟩:=hck;obtain⟨h,hwr,hsay⟩:=hs;have h1:=aK R (aN _) hx;have h2:=aK R (aN _) hy;rw[iP (ρ:=ρ) hpl] at hwr;unfold l9 at hwr;split at hwr
       . rename_i q hq;split at hwr
         . rename_i ob hob;split at hwr
           . rename_i hle;obtain⟨hle,hT⟩:=hle;cases hwr;have hrun:(execOp a.eval o).run P w=.ok .skip (w.setRow q.1 (ob.cs.take q.2++p.cells.map (CE.den C ρ)++ob.cs.drop (q.2+n)).toArray):=by
              unfold execOp;rw[ho];have h1':a.eval x=.pointer (some ⟨q.1,q.2,none⟩):=by rw[h1];show nI (ad.den C)=_;rw[hq];rfl
              have hst:=rU (P:=P) (t:=t) (off:=q.2) ((R.holds _ _ hob).rw hT) (mY R.ones ρ p) hn (by simp[hlen]) (by simp[hlen] at hle;omega) (by
               intro u hu;obtain⟨c,hc,rfl⟩:=List.mem_map.1 hu;have:=List.all_eq_true.1 hsto c hc;simp only[CE.sto,Bool.and_eq_true,decide_eq_true_eq,Bool.not_eq_true'] at this;exact Dq R.ones ρ c st.n R.cv.symm this.1.1 this.1.2 this.2)
              simp only[h1',h2,Sem.run_bind,hst];rfl
             unfold jH;rw[if_pos (hw.2 (aN _))];left;unfold Oper.wp;rw[hrun];have R1:=RQ R hblw hob hT (ob.cs.take q.2++p.cells.map (CE.den C ρ)++ob.cs.drop (q.2+n));rw[List.length_map,hlen] at hsay;exact hK ρ _ _ _ _ (Ext.heap C _) (dh R1 o.dst .dead undef trivial) hsay
           . cases hwr
         . cases hwr
       . cases hwr
     . exact hs.elim
   . rename_i k off p n hx hy hn;split at hs
     . rename_i b hb;split at hs
       . rename_i hck;obtain⟨rfl,hsto,hlen,hle⟩:=hck;have h1:=aK R (aN _) hx;have h2:=aK R (aN _) hy;have hrun:(execOp a.eval o).run P w=.ok .skip (w.setRow (ρ k) ((b.cells.take off++p.cells++b.cells.drop (off+n)).map (CE.den C ρ)).toArray):=by
          unfold execOp;rw[ho];have h1':a.eval x=.pointer (some ⟨ρ k,off,none⟩):=h1;have hst:=rU (P:=P) (t:=t) (off:=off) (R.blocks k b hb) (mY R.ones ρ p) hn (by simp[hlen]) (by simp;omega) (by
           intro u hu;obtain⟨c,hc,rfl⟩:=List.mem_map.1 hu;have:=List.all_eq_true.1 hsto c hc;simp only[CE.sto,Bool.and_eq_true,decide_eq_true_eq,Bool.not_eq_true'] at this;exact Dq R.ones ρ c st.n R.cv.symm this.1.1 this.1.2 this.2)
          simp only[h1',h2,Sem.run_bind,hst];simp[List.map_take,List.map_drop]
         unfold jH;rw[if_pos (hw.2 (aN _))];left;unfold Oper.wp;rw[hrun];exact hK ρ _ C _ _ (Ext.refl C) (dh (CP R hb) o.dst .dead undef trivial) hs
       . exact hs.elim
     . exact hs.elim
   . exact hs.elim
 . -- so many new ones
   rename_i t x y ho;exact KH R ho hw hs hK
 . -- a value
   split at hs
   . rename_i l hl;split at hs
     . rename_i hg0;subst hg0;unfold uo at hl;split at hl
       . rename_i s ho;split at hl
         . rename_i l' hs';cases hl;have hv:a.eval (.tmp s)=.tuple (l.map (PE.den C ρ)).toArray:=R.slots s _ hs';refine fA (v:=.tuple (l.map (PE.den C ρ)).toArray) (w':=w) ?_ (hK ρ _ C _ _ (Ext.refl C) (dh R o.dst (.tup l) _ rfl) hs) (fun h=>absurd (hw.2 (aN _)) h);unfold execOp;rw[ho,<- hv];rfl
         . cases hl
       . cases hl
     . exact hs.elim
   split at hs
   . rename_i f k hc;exact Lr R hw hc hs hK
   split at hs
   . rename_i c v hp;have hs:=uK hs;refine kT hw hgi (fun hgt hc=>?_) (fun hgf hc=>?_)
     . have:=nV R hc hp (hs.1 hgt);unfold Oper.wp;rw[this];exact hK ρ _ C _ _ (Ext.refl C) (dh R o.dst _ _ (iW hc rfl)) hs.2
     . exact hK ρ _ C _ _ (Ext.refl C) (dh R o.dst _ _ (jC hc)) hs.2
   . exact hs.elim
theorem DU (hE:Good P E) {nw:iY} {ops:Array Oper} {K:St->Fm} {Q:Exit->Act->World->Prop}:∀ (l:List Oper) {ρ:Nat->Nat} {st:St} {C:Ctx} {a:Act} {w:World},Rep B h0 w0 ρ st C a w->(rE nw P ops l st K).says E C->
 (∀ ρ st D a w,Ext C D->Rep B h0 w0 ρ st D a w->(K st).says E D->Q .normal a w)->wpList P ops Q l a w:=by
 intro l
 induction l with
 | nil=>intro ρ st C a w R hs hK;exact hK ρ st C a w (Ext.refl C) R hs
 | cons o l ih=>
   intro ρ st C a w R hs hK;exact lK hE R hs fun ρ st D a w hx R hs=>ih R hs fun ρ st F a w hx2 R hs=>hK ρ st F a w (hx.trans hx2) R hs
end
def direct (o:Oper):List Nat:=o.after.toList.filterMap fun e=>if Region.binds .any e then some e.on else none
def qK:List Oper->List (List Nat)->List (List Nat)
 | [],acc=>acc
 | o::os,acc=>qK os (acc++[(direct o++(direct o).flatMap fun e=>acc.getD e []).eraseDups])
inductive Rec where
 | val (s:Nat) (gs:Gs) (g c:BE) (v:PE)
 | tup (l:List PE)
 | call (k:Nat) (gs:Gs) (g:BE) (f:FuncId) (vas:List PE) (r:VE) (d:Cnt)
 | load (s:Nat) (n0:Cnt) (gs:Gs) (g:BE) (a:AE) (n:Nat) (r:PE) (d:Cnt)
 | new (k:Nat) (cs:List CE) (ty:TypeId) (sl:Option Nat)
 | sto (s k off:Nat) (cs:List CE)
 | mkS (k:Nat) (cs:List CE) (ty:TypeId) (len:Nat) (n:Cnt)
 deriving DecidableEq
def xN (gs:Gs):VE->VE
 | .p x=>iR gs x
 | .tup l=>.tup l
 | _=>.dead
def okR (gs:Gs):VE->Bool
 | .p _=>true
 | .tup _=>gs.isEmpty
 | _=>false
def Rec.ve:Rec->VE
 | .val _ gs _ _ v=>iR gs v
 | .tup l=>.tup l
 | .call _ gs _ _ _ r _=>xN gs r
 | .load _ _ gs _ _ _ r _=>iR gs r
 | .new k _ _ sl=>.p (.one (yS k sl))
 | .sto ..=>.dead
 | .mkS _ _ _ _ n=>.p (.one (.sl (.x n.l)))
def Rec.gs:Rec->Gs
 | .val _ gs ..=>gs
 | .tup _=>[]
 | .call _ gs ..=>gs
 | .load _ _ gs ..=>gs
 | .new ..=>[]
 | .sto ..=>[]
 | .mkS ..=>[]
def aba (nw:iY) (P:Program) (op:Op) (s:Nat) (M:St) (gs:Gs) (g:BE):Option Rec:=
 match uo M op with
 | some l=>if gs=[] then some (.tup l) else none
 | none=>(pO nw P M gs op).map fun (c,v)=>.val s gs g c v
def BP (M:St) (gs:Gs):Op->Option (TypeId×AE)
 | .load t x=>match iZ M gs x with
   | some (.one (.adr a))=>some (t,a)
   | _=>none
 | _=>none
def iY.mk1 (nw:iY):iY:={ nw with esc:=1000003::nw.esc }
def iY.Zu (nw:iY):Bool:=nw.esc.contains 1000003
def aa1 (nw:iY) (P:Program) (M:St) (gs:Gs) (op:Op):Option (List CE×TypeId×Nat):=
 if nw.Zu=true/\gs=[] then match jB P M gs op with
  | some (cs,t,len)=>if cs.all CE.plain=true then some (cs,t,len) else none
  | none=>none
 else none
def RI (nw:iY) (P:Program) (ops:Array Oper) (o:Oper) (s:Nat) (n0:Cnt) (M:St):Option Rec:=
 match guardOf M ops o with
 | none=>none
 | some gs=>match o7 M [] gs with
   | none=>none
   | some g=>match BP M gs o.op with
     | some (t,a)=>match Jy P n0 t,dX P t,P.underlying t with
       | some (r,n),some sz,some _=>
         if r.plain&&decide (n0.add (n.sub n0)=n)&&decide (r.cells.length=sz)&&r.Fb P t then some (.load s n0 gs g a sz r (n.sub n0)) else none
       | _,_,_=>none
     | none=>match aa1 nw P M gs o.op with
       | some (cs,t,len)=>some (.mkS s cs t len M.n)
       | none=>match o.op with
       | .call { callee:=.value v,args,.. }=>
         match (lC M gs v args.toList).bind fun fv=>(yC P M.n (YT P o.type fv.1)).map fun x=>(fv.1,fv.2,x.1,x.2) with
         | some (f,vas,r,n)=>
           if xM P f&&vas.all PE.plain&&r.plain&&decide (M.n.add (n.sub M.n)=n)&&okR gs r then some (.call s gs g f vas r (n.sub M.n)) else none
         | none=>none
       | .store t x y=>match iZ M gs x,iZ M gs y,dX P t with
         | some (.one (.own k off)),some p,some n=>if gs=[]/\p.cells.all (CE.sto M.n)=true/\p.cells.length=n then some (.sto s k off p.cells) else none
         | _,_,_=>none
       | op=>match rM P M gs op with
         | some (cs,t,sl)=>if gs=[]/\nw.esc.all (fun d=>decide (o.dst≠some d))=true then some (.new M.m.length cs t sl) else none
         | none=>aba nw P op s M gs g
def DZ (ops:Array Oper) (i:Nat):Bool:=match ops[i]? with
 | some o=>(match o.op with | .move _=>true | _=>false)&&o.guard.isNone&&o.after.isEmpty&&Region.free .any ops (Array.replicate ops.size false) i
 | none=>false
def KA (ops:Array Oper):List Nat:=if Region.noSelect ops then (List.range ops.size).filter (DZ ops) else []
structure Dr where
 st:St
 W:List (Option Nat)
 tab:List (List Nat)
 recs:List Rec
 cs:List Cnt
 ns:List Cnt
 calls:List Nat
 L:Nat
 al:Option (Nat×oO)
 sl:List (Nat×Nat×oO)
 z:List Nat
def Dr.ve (D:Dr) (j:Nat):VE:=match D.recs[j]? with
 | some r=>r.ve
 | none=>.dead
def Dr.pre (D:Dr) (j:Nat):List Nat:=D.tab.getD j []
def Dr.wr (D:Dr) (t:Nat):Option Nat:=(D.W[t]?).getD none
def jM (m:List oO) (l:List (Nat×Nat×oO)):List oO:=l.foldl (fun m x=>m.set x.2.1 x.2.2) m
def subs {α:Type}:List α->List (List α)
 | []=>[[]]
 | x::xs=>subs xs++(subs xs).map (x::·)
def Dr.mem (D:Dr) (listed:Nat->Bool):List oO:=jM D.st.m (D.sl.filter fun x=>listed x.1)
def yL {α β:Type} (n:Nat):List α->(Nat->α->β)->List β
 | [],_=>[]
 | x::xs,f=>f n x::yL (n+1) xs f
theorem pg {α β:Type} (f:Nat->α->β):∀ (l:List α) (n:Nat),(yL n l f).length=l.length
 | [],_=>rfl
 | _::xs,n=>by rw[yL,List.length_cons,List.length_cons,pg f xs]
theorem BU {α β:Type} (f:Nat->α->β):∀ (l:List α) (n t:Nat),(yL n l f)[t]? = (l[t]?).map (f (n+t))
 | [],_,_=>by simp[yL]
 | _::xs,n,0=>by simp[yL]
 | _::xs,n,t+1=>by rw[yL,List.getElem?_cons_succ,List.getElem?_cons_succ,BU f xs,show n+1+t=n+(t+1) by omega]
theorem kK {α β:Type} (f:Nat->α->β) (l:List α) (t:Nat):(yL 0 l f)[t]? = (l[t]?).map (f t):=by rw[BU,Nat.zero_add]
def Dr.at (D:Dr) (listed:Nat->Bool) (n:Cnt):St:=
 { t:=yL 0 D.st.t fun t v=>match D.wr t with
    | some j=>if listed j then D.ve j else v
    | none=>v
   m:=D.mem listed++match D.al with
    | some (i,b)=>if listed i then [b] else []
    | none=>[]
   n:=n }
def Dr.sees (D:Dr) (i:Nat) (n:Cnt) (m:List oO):St:=
 { t:=yL 0 D.st.t fun t v=>match D.wr t with
    | some j=>if (D.pre i).contains j then D.ve j else if (D.pre j).contains i then v else .dead
    | none=>v
   m:=m
   n:=n }
def Dr.n (D:Dr) (s:Nat):Cnt:=D.ns.getD s .zero
def Dr.c (D:Dr) (i:Nat):Cnt:=D.cs.getD i .zero
def Dr.stage (D:Dr) (i:Nat):Nat:=(D.calls.zipIdx.foldl (fun m x=>if (D.pre i).contains x.1 then x.2+1 else m) 0)
def Dr.start (D:Dr):Nat->Cnt
 | 0=>D.st.n
 | s+1=>match (D.calls[s]?).bind (D.recs[·]?) with
   | some (.call _ _ _ _ _ _ d)=>(D.n s).add d
   | some (.mkS ..)=>(D.n s).add ⟨0,0,0,0,1,0⟩
   | _=>.zero
def VE.still:VE->Bool
 | .wg _ _=>false
 | _=>true
def Cnt.le (a b:Cnt):Bool:=decide (a.i<=b.i)&&decide (a.b<=b.b)&&decide (a.s<=b.s)&&decide (a.v<=b.v)&&decide (a.l<=b.l)&&decide (a.p<=b.p)
def Dr.okAt (nw:iY) (P:Program) (ops:Array Oper) (D:Dr) (i:Nat):Bool:=
 match ops[i]?,D.recs[i]? with
 | some o,some r=>
   ((subs D.sl).all fun S=>decide (RI nw P ops o (D.stage i) (D.c i) (D.sees i (D.n (D.stage i)) (jM D.st.m S))=some r))&&
   (match o.dst with | some d=>decide (D.wr d=some i) | none=>true)&&
   (r.gs.all fun g=>match D.wr g.1 with | some q=>(D.pre i).contains q | none=>true)&&
   (match r with
   | .val s _ g c v=>!D.calls.contains i&&decide (s=D.stage i)&&g.blw (D.n s)&&c.blw (D.n s)&&v.blw (D.n s)
   | .tup l=>!D.calls.contains i&&l.all (PE.blw (D.n (D.stage i)))
   | .new k cs ty _=>decide (D.al=some (i,⟨cs,ty⟩))&&decide (k=D.st.m.length)&&!D.calls.contains i&&cs.all (CE.qJ D.st.m.length)&&cs.all (CE.blw (D.n (D.stage i)))
   | .sto s k off cs=>decide (s=D.stage i)&&!D.calls.contains i&&(match D.st.m[k]? with
     | some b=>decide (off+cs.length<=b.cells.length)&&D.sl.contains (i,k,⟨b.cells.take off++cs++b.cells.drop (off+cs.length),b.ty⟩)
     | none=>false)
   | .load s n0 _ g a _ r d=>!D.calls.contains i&&decide (s=D.stage i)&&g.blw n0&&a.blw n0&&r.blw (n0.add d)&&(n0.add d).le (D.n s)&&n0.le (D.n s)
   | .call k _ g _ _ r _=>decide (k=D.stage i)&&decide (D.calls[k]? = some i)&&g.blw (D.n k)&&r.blw (D.start (k+1))&&(k==0||(match D.calls[k - 1]? with | some c=>(D.pre i).contains c | none=>false))
   | .mkS k _ _ _ n=>decide (k=D.stage i)&&decide (D.calls[k]? = some i)&&decide (n=D.n k)&&r.ve.blw (D.start (k+1)))&&
   (D.stage i==0||(match D.calls[D.stage i - 1]? with | some c=>(D.pre i).contains c | none=>false))&&
   decide (D.stage i<=D.calls.length)&&!(D.pre i).contains i&&(match r with | .new ..=>true | _=>decide (D.al.map (·.1)≠some i))&&(match r with | .sto ..=>true | _=>D.sl.all fun x=>decide (x.1≠i))
 | _,_=>false
def jr (s:Nat):List Rec->Cnt->Cnt->Bool
 | [],c,e=>decide (c=e)
 | .load s' n0 _ _ _ _ _ d::rs,c,e=>if s'=s then decide (n0=c)&&jr s rs (c.add d) e else jr s rs c e
 | _::rs,c,e=>jr s rs c e
def Dr.ok (nw:iY) (P:Program) (ops:Array Oper) (D:Dr):Bool:=
 decide (D.tab=qK ops.toList [])&&(ops.toList.zipIdx.all fun x=>(direct x.1).all fun e=>decide (e<x.2))&&D.st.t.all VE.still&&D.st.blw&&D.st.n.le (D.n 0)&&decide D.calls.Nodup&&D.calls.all (fun c=>decide (c<D.L))&&decide (D.recs.length=D.L)&&
 (List.range D.L).all (D.okAt nw P ops)&&((List.range D.calls.length).all fun k=>(D.n k).le (D.n (k+1)))&&
 ((List.range D.W.length).all fun t=>match D.wr t with | some j=>decide ((ops[j]?).bind (·.dst)=some t) | none=>true)&&
 ((List.range (D.calls.length+1)).all fun s=>jr s D.recs (D.start s) (D.n s)&&(D.start s).le (D.n s))&&
 (decide (D.L<=ops.size)&&((List.range ops.size).all fun i=>decide (i<D.L)||(List.range i).all fun j=>D.z.contains j||(D.pre i).contains j)&&((List.range D.W.length).all fun t=>match D.wr t with | some j=>decide (j<D.L) | none=>true)&&
 (match D.al with
  | some (i,_)=>D.sl.isEmpty&&decide (i<D.L)&&D.st.qJ&&(D.recs.zipIdx.all fun x=>x.2==i||(D.pre x.2).contains i||x.1.ve.qJ D.st.m.length)
  | none=>true)&&
 (D.sl.all (fun x=>decide (x.1<D.L))&&decide (D.sl.map (·.1)).Nodup&&decide (D.sl.map (·.2.1)).Nodup))&&(decide D.z.Nodup&&(D.z.all fun z=>decide (z<D.L)&&DZ ops z)&&(D.z.isEmpty||Region.noSelect ops))
def pq (s:Nat):List Rec->Fm->Fm
 | [],k=>k
 | .val s' _ g c _::rs,k=>if s'=s then Ii g c (pq s rs k) else pq s rs k
 | _::rs,k=>pq s rs k
def kH (s:Nat):List Rec->Fm->Fm
 | [],k=>k
 | .load s' _ _ g a n r d::rs,k=>if s'=s then .load g a n r.cells d (kH s rs k) else kH s rs k
 | _::rs,k=>kH s rs k
def yJ (s:Nat) (recs:List Rec):List (BE×AE×Nat):=recs.filterMap fun r=>match r with
 | .load s' _ _ g a n _ _=>if s'<=s then some (g,a,n) else none
 | _=>none
def Fj (ks:List (BE×AE×Nat)) (g:BE) (f:FuncId) (vas:List PE) (r:VE) (d:Cnt) (k:Fm):Fm:=if ks=[] then .call g false f vas r d k else .callK g ks f vas r d k
def zY (recs:List Rec) (k:Fm):List Nat->Nat->Fm
 | [],s=>kH s recs (pq s recs k)
 | c::cs,s=>kH s recs (pq s recs (match recs[c]? with
   | some (.call _ _ g f vas r d)=>Fj (yJ s recs) g f vas r d (zY recs k cs (s+1))
   | some (.mkS _ ces t len _)=>.mk ces t len (zY recs k cs (s+1))
   | _=>.ff))
def Dr.rest (D:Dr) (k:Fm) (s:Nat):Fm:=match D.calls.drop s with
 | []=>k
 | c::cs=>match D.recs[c]? with
   | some (.call _ _ g f vas r d)=>Fj (yJ s D.recs) g f vas r d (zY D.recs k cs (s+1))
   | some (.mkS _ ces t len _)=>.mk ces t len (zY D.recs k cs (s+1))
   | _=>.ff
def Dr.all (D:Dr):St:=D.at (fun _=>true) (D.n D.calls.length)
def Ku (nw:iY) (o:Oper):Bool:=match o.op with
 | .call { callee:=.value _,.. }=>true
 | .buildSlice ..=>nw.Zu
 | _=>false
def lD (st:St):St:={ st with t:=st.t.map fun v=>if v.still then v else .dead }
def Xm (ops:List Oper) (n:Nat):List (Option Nat):=
 ops.zipIdx.foldl (fun W x=>match x.1.dst with | some d=>W.set d (some x.2) | none=>W) (List.replicate n none)
def uU (nw:iY) (P:Program) (ops:Array Oper) (s:Nat):List (Oper×Nat)->Dr->Cnt->Dr×Cnt
 | [],D,cur=>(D,cur)
 | (o,i)::os,D,cur=>match RI nw P ops o s cur (D.sees i cur D.st.m) with
   | some (.load s n0 gs g a n r d)=>uU nw P ops s os { D with recs:=D.recs.set i (.load s n0 gs g a n r d),cs:=D.cs.set i cur } (cur.add d)
   | some (.new k cs ty sl)=>uU nw P ops s os { D with recs:=D.recs.set i (.new k cs ty sl),al:=some (i,⟨cs,ty⟩) } cur
   | some (.sto s k off cs)=>match D.st.m[k]? with
     | some b=>uU nw P ops s os { D with recs:=D.recs.set i (.sto s k off cs),sl:=D.sl++[(i,k,⟨b.cells.take off++cs++b.cells.drop (off+cs.length),b.ty⟩)] } cur
     | _=>(D,cur)
   | some r=>uU nw P ops s os { D with recs:=D.recs.set i r } cur
   | none=>(D,cur)
def Wq (nw:iY) (P:Program) (ops:Array Oper) (low:List Oper):List Nat->Nat->Dr->Cnt->Dr
 | [],s,D,cur=>
   let (D,cur):=uU nw P ops s (low.zipIdx.filter fun x=>D.stage x.2==s&&!Ku nw x.1) D cur
   { D with ns:=D.ns++[cur] }
 | c::cs,s,D,cur=>
   let (D,cur):=uU nw P ops s (low.zipIdx.filter fun x=>D.stage x.2==s&&!Ku nw x.1) D cur
   let D:={ D with ns:=D.ns++[cur] }
   match (ops[c]?).bind fun o=>RI nw P ops o s cur (D.sees c cur D.st.m) with
   | some (.call k gs g f vas r d)=>Wq nw P ops low cs (s+1) { D with recs:=D.recs.set c (.call k gs g f vas r d) } (cur.add d)
   | some (.mkS k ces t len n)=>Wq nw P ops low cs (s+1) { D with recs:=D.recs.set c (.mkS k ces t len n) } (cur.add ⟨0,0,0,0,1,0⟩)
   | _=>D
def ZV (tab:List (List Nat)) (n:Nat) (z:List Nat):Nat:=
 n - ((List.range n).reverse.takeWhile fun i=>!z.contains i&&(List.range i).all fun j=>z.contains j||(tab.getD i []).contains j).length
def sU (nw:iY) (P:Program) (ops:Array Oper) (st:St) (z:List Nat):Dr:=
 let st:=lD st
 let tab:=qK ops.toList []
 let L:=ZV tab ops.size z
 let low:=ops.toList.take L
 let calls:=(low.zipIdx.filter fun x=>Ku nw x.1).map (·.2)
 Wq nw P ops low calls 0 ⟨st,Xm low st.t.length,tab,List.replicate L (.tup []),List.replicate L .zero,[],calls,L,none,[],z⟩ st.n
def Dr.fine (nw:iY) (P:Program) (ops:Array Oper) (st:St) (D:Dr):Bool:=D.ok nw P ops&&decide (D.st.t=(lD st).t)&&decide (D.st.m=st.m)&&decide (D.st.n=st.n)
def FW (nw:iY) (P:Program) (ops:Array Oper) (K:St->Fm) (D:Dr):Fm:=zY D.recs (YO D.all fun st=>rE nw P ops (ops.toList.drop D.L) st K) D.calls 0
def sW (nw:iY) (P:Program) (ops:Array Oper) (st:St) (K:St->Fm):Fm:=
 if (sU nw P ops st []).fine nw P ops st then FW nw P ops K (sU nw P ops st [])
 else if (sU nw P ops st (KA ops)).fine nw P ops st then FW nw P ops K (sU nw P ops st (KA ops))
 else if (sU nw.mk1 P ops st []).fine nw.mk1 P ops st then FW nw.mk1 P ops K (sU nw.mk1 P ops st []) else .ff
theorem ni:∀ (os:List Oper) (acc:List (List Nat)) (j:Nat),acc.length<=j->∀ x∈(qK os acc).getD j [],∃ o,os[j - acc.length]? = some o/\(x∈direct o\/∃ e∈direct o,x∈(qK os acc).getD e []):=by
 have hpre:∀ (os:List Oper) (acc:List (List Nat)),acc <+: qK os acc:=by
  intro os
  induction os with
  | nil=>intro acc;exact List.prefix_refl _
  | cons o os ih=>intro acc;exact (List.prefix_append _ _).trans (ih _)
 intro os
 induction os with
 | nil=>intro acc j hj x hx;simp only[qK] at hx;rw[List.getD_eq_getElem?_getD,List.getElem?_eq_none hj] at hx;cases hx
 | cons o os ih=>
   intro acc j hj x hx;by_cases he:j=acc.length
   . subst he;refine⟨o,by simp,?_⟩;have hp:=hpre os (acc++[(direct o++(direct o).flatMap fun e=>acc.getD e []).eraseDups]);have hx':x∈(direct o++(direct o).flatMap fun e=>acc.getD e []).eraseDups:=by
      rw[qK,<- fQ hp (by simp)] at hx;simpa using hx
     rw[List.mem_eraseDups,List.mem_append,List.mem_flatMap] at hx';rcases hx' with h | ⟨e,he,hx'⟩
     . exact .inl h
     . refine .inr ⟨e,he,?_⟩;by_cases hlt:e<acc.length
       . rw[<- fQ (hpre (o::os) acc) hlt];exact hx'
       . rw[List.getD_eq_getElem?_getD,List.getElem?_eq_none (by omega)] at hx';cases hx'
   . have:=ih (acc++[(direct o++(direct o).flatMap fun e=>acc.getD e []).eraseDups]) j (by simp;omega) x hx;obtain⟨p,hp,hh⟩:=this;refine⟨p,?_,hh⟩;rw[show j - acc.length=(j - (acc++[(direct o++(direct o).flatMap fun e=>acc.getD e []).eraseDups]).length)+1 by simp;omega,List.getElem?_cons_succ];exact hp
section
variable {P:Program} {E:Env} {B:Nat} {h0:Hp} {w0:World} {ρ:Nat->Nat} {st:St} {C:Ctx} {a:Act} {w:World}
theorem vV {s:Nat}:∀ {rs:List Rec} {k:Fm},(pq s rs k).says E C->k.says E C/\∀ gs g c v,Rec.val s gs g c v∈rs->g.den C=true->c.den C=true:=by
 intro rs
 induction rs with
 | nil=>intro k h;exact⟨h,fun _ _ _ _ h=>by cases h⟩
 | cons r rs ih=>
   intro k h;cases r with
   | val s' gs' g' c' v'=>
     rw[pq] at h;split at h
     . rename_i hs;subst hs;have h':=uK h;obtain⟨h1,h2⟩:=ih h'.2;refine⟨h1,fun gs g c v hm=>?_⟩;rcases List.mem_cons.1 hm with e | hm
       . cases e;exact h'.1
       . exact h2 gs g c v hm
     . rename_i hs;obtain⟨h1,h2⟩:=ih h;refine⟨h1,fun gs g c v hm=>?_⟩;rcases List.mem_cons.1 hm with e | hm
       . cases e;exact absurd rfl hs
       . exact h2 gs g c v hm
   | tup l=>
     obtain⟨h1,h2⟩:=ih h;refine⟨h1,fun gs g c v hm=>?_⟩;rcases List.mem_cons.1 hm with e | hm
     . cases e
     . exact h2 gs g c v hm
   | call=>
     obtain⟨h1,h2⟩:=ih h;refine⟨h1,fun gs g c v hm=>?_⟩;rcases List.mem_cons.1 hm with e | hm
     . cases e
     . exact h2 gs g c v hm
   | new=>
     obtain⟨h1,h2⟩:=ih h;refine⟨h1,fun gs g c v hm=>?_⟩;rcases List.mem_cons.1 hm with e | hm
     . cases e
     . exact h2 gs g c v hm
   | load=>
     obtain⟨h1,h2⟩:=ih h;refine⟨h1,fun gs g c v hm=>?_⟩;rcases List.mem_cons.1 hm with e | hm
     . cases e
     . exact h2 gs g c v hm
   | sto=>
     obtain⟨h1,h2⟩:=ih h;refine⟨h1,fun gs g c v hm=>?_⟩;rcases List.mem_cons.1 hm with e | hm
     . cases e
     . exact h2 gs g c v hm
   | mkS=>
     obtain⟨h1,h2⟩:=ih h;refine⟨h1,fun gs g c v hm=>?_⟩;rcases List.mem_cons.1 hm with e | hm
     . cases e
     . exact h2 gs g c v hm
theorem zq (R:Rep B h0 w0 ρ st C a w) {t':List VE} (hl:t'.length=st.t.length) (h:∀ (i:Nat) v,t'[i]? = some v->v=.dead\/st.t[i]? = some v):Rep B h0 w0 ρ { st with t:=t' } C a w:=by
 refine⟨R.defers,by rw[R.size];exact hl.symm,?_,R.blocks,R.fresh,R.inj,R.free,R.holds,R.fr,R.base,R.ci,R.cb,R.cs,R.cv,R.cl,R.cp,R.ones⟩;intro i v hv;rcases h i v hv with rfl | h
 . trivial
 . exact R.slots i v h
theorem RP (R:Rep B h0 w0 ρ st C a w) {m' x:List oO} (h:st.m=m'++x):Rep B h0 w0 ρ { st with m:=m' } C a w:=by
 have hl:∀ k,k<m'.length->k<st.m.length:=fun k hk=>by rw[h];simp;omega
 refine⟨R.defers,R.size,R.slots,fun k b hk=>R.blocks k b (by rw[h,List.getElem?_append_left (List.getElem?_eq_some_iff.1 hk).1];exact hk),fun k hk=>R.fresh k (hl k hk),fun k j hk hj=>R.inj k j (hl k hk) (hl j hj),fun k hk=>R.free k (hl k hk),R.holds,R.fr,R.base,R.ci,R.cb,R.cs,R.cv,R.cl,R.cp,R.ones⟩
end
end Go.Proofs.YtllbpdllkkcajaaGreatDoor
