/- hindcastlaw29: texts joined: Base. -/
import Derived.Test.YtgpanefhaiohnaaGreatDoorRows
import Derived.WalkKit
import Derived.WalkSpells
import Derived.WalkLawsBesides
import Derived.Deep.RegionHeld3
import Derived.Deep.QuietTactic
import Derived.BigQuiet
import Derived.Lib.Hide
import Derived.Lib.Split
import Derived.Lib.SplitLaws
import Derived.Lib.IndexBytes
import Derived.Lib.IndexLaws
import Derived.Laws.StructEq
import Derived.MapKept
import Derived.Laws.AppendOwn
import Derived.Laws.BytesString
import Derived.Laws.MakeOwn
import Derived.Lib.AppendStr
import Derived.Orders
import Derived.Carry
import Derived.Deep.LoopGhost
import Derived.ScopeJumps
import Derived.Shelf.Strings.Builder1
import Derived.Shelf.Strings.Trim
import Derived.Shelf.Small.Utf8
import Derived.Shelf.Small.Strs
import Derived.Shelf.Small.Wraps
import Derived.Shelf.Strings.BuilderF
import Derived.Shelf.Strings.BuilderK
import Derived.Shelf.Strconv.Itoa0
import Derived.Shelf.Strconv.Itoa1
import Derived.Shelf.LaysM
import Derived.Shelf.Strconv.Itoa2
import Derived.Shelf.Strconv.Itoa3
import Derived.Shelf.Strings.Search1
import Derived.Shelf.Strings.Search2
import Derived.Shelf.Strings.Search3
import Derived.Shelf.Strings.Count
import Derived.Shelf.Strings.Shaped
import Derived.Shelf.Strings.Prefix
import Derived.Shelf.Strings.Split
import Derived.Shelf.Unicode.Decode
import Derived.Shelf.Strings.Runes
import Derived.Shelf.Strings.IndexAny
import Derived.Shelf.Strings.AsciiSet
import Derived.Shelf.Strings.IndexAnyAll
import Derived.Shelf.Bits.Mul64
import Derived.Shelf.Unicode.DecodeSlow
import Derived.Shelf.Unicode.DecodeAny
import Derived.Shelf.Unicode.DecodeLast
import Derived.Shelf.Strings.BuilderCap
import Derived.Test.YtgpanefhaiohnaaGreatDoorProg
import Derived.Lib.ItoaNum
import Derived.Lib.OthersKept
import Derived.Laws.Runes
import Derived.Laws.RangeAny
import Derived.Lib.IndexMore
import Derived.Lib.UnsafeStr
import Derived.Deep.Upon
import Derived.Lib.DecodeN
import Derived.Lib.TrimUEq
import Derived.Scope
import Derived.Lib.Bytealg
import Derived.Deep.Slices
import Derived.Deep.Fields
import Derived.ChangeSame
import Derived.Lib.LaidU8
import Derived.Test.YtgpanefhaiohnaaGreatDoorCards
import Derived.Test.YtgpanefhaiohnaaGreatDoorTie
import Derived.ProofKit
import Derived.OpenShut
import Derived.Deep.DeepHandedRow
import Derived.Lib.LaidTab
import Derived.PinnedBridge
import Derived.Lib.SmallJoins
import GoSem.ClaimGoes
import GoSem.ClaimFollow
namespace Go.Proofs.YtgpanefhaiohnaaGreatDoor
open Go.RowKit
def B (l:List UInt8):ByteArray:=⟨l.toArray⟩
def bt (l:List UInt8) (i:Nat):Int:=((l.getD i 0).toNat:Int)
theorem JW (l:List UInt8):ByteArray.mk l.toArray=B l:=rfl
theorem dJ (l:List UInt8):(B l).size=l.length:=by simp[B,ByteArray.size]
theorem fQ (l:List UInt8):(B l).toList=l:=by rw[B,ByteArray.toList_mk]
theorem fO (l:List UInt8) (a b:Nat):(B l).extract a b=B ((l.take b).drop a):=by
 rw[B,ByteArray.extract_mk,B,List.drop_take]
theorem jK (a b:List UInt8):B a++B b=B (a++b):=by
 apply ByteArray.ext;simp[B]
theorem oz (l:List UInt8) (i:Nat) (h:i<(B l).size):(((B l)[i]'h).toNat:Int)=bt l i:=by
 have h':i<l.length:=by rw[dJ] at h;exact h
 have e:(B l)[i]'h=l[i]:=by show l.toArray[i]=_;simp
 rw[bt,e,List.getD_eq_getElem?_getD,List.getElem?_eq_getElem h'];rfl
attribute [local go_sem] JW dJ fQ fO jK oz
theorem Nz (l:List UInt8) (i:Nat):0≤bt l i:=by unfold bt;omega
theorem Ny (l:List UInt8) (i:Nat):bt l i≤255:=by
 unfold bt;have:=(l.getD i 0).toNat_lt;omega
theorem iQ (c:UInt8) (l:List UInt8):bt (c::l) 0=(c.toNat:Int):=by simp[bt]
theorem VV (c:UInt8) (l:List UInt8) (i:Nat):bt (c::l) (i+1)=bt l i:=by simp[bt]
theorem pg (s:ByteArray):s=B s.data.toList:=by
 apply ByteArray.ext;simp[B]
theorem DX {P:Program} (x y:List UInt8) (h:x.length+y.length≤9223372036854775807) (w:World):(Op.stringOp .add (B x) (B y)).run P w=.ok (.string (B (x++y))) w:=by
 rw[run_string_add_sum w _ _ (by rw[dJ,dJ];exact h),jK]
theorem Xr {k:IntKind} {a b:Int} (h:a=b):Ending.returned (.int k a)=.returned (.int k b):=by rw[h]
theorem Nw {W w1:World} (hb:Below W.heap.size W w1):(∀ b o,b<W.heap.size→w1.cell? ⟨b,o,none⟩=W.cell? ⟨b,o,none⟩)∧(∀ b o,b<W.heap.size→w1.frozen? ⟨b,o,none⟩=W.frozen? ⟨b,o,none⟩):=
 ⟨fun b o h=>hb.cell (p:=⟨b,o,none⟩) h,fun b o h=>hb.frozen (p:=⟨b,o,none⟩) h⟩
theorem below_draws {B:Nat} {a w:World} (h:Below B a w) (n:Nat):Below B a (w.drewN n):=⟨h.os,h.tape,h.output,h.size,h.block⟩
def was (w:World) (b o:Nat):Value:=(w.cell? ⟨b,o,none⟩).getD undef
theorem VD {w:World} {b o:Nat} {v:Value} (h:w.cell? ⟨b,o,none⟩=some v):w.cell? ⟨b,o,none⟩=some (was w b o):=by
 unfold was;rw[h];rfl
theorem Q8 {w:World} {b o:Nat} (p:Addr) (v:Value) (h:w.cell? ⟨b,o,none⟩=some (was w b o)):(w.setCell p v).cell? ⟨b,o,none⟩=some (was (w.setCell p v) b o):=by
 obtain⟨u,hu⟩:=cell?_setCell_some (w:=w) (p:=p) (x:=v) (q:=⟨b,o,none⟩) (v:=was w b o) h
 exact VD hu
theorem o6 {P:Program} (w:World) (src dst e:TypeId) (b off c:Nat) (l:List UInt8)
 (hs:P.underlying src=some (.slice e)) (he:P.underlying e=some (.int .u8)) (hd:P.underlying dst=some .string)
 (h:∀ j,j<l.length→w.cell? ⟨b,off+j,none⟩=some (.int .u8 (bt l j))):
 (convert src dst (.slice (some ⟨b,off,none⟩) l.length c)).run P w=.ok (.string (B l)) w:=by
 rw[run_convert_bytes_string w src dst e _ _ _ hs he hd]
 have hl:(loadCells ⟨b,off,none⟩ l.length).run P w=.ok ((l.map fun c=>(c.toNat:Int)).map (Value.int .u8)).toArray w:=by
  have:=run_loadCells_list (P:=P) w ⟨b,off,none⟩ ((l.map fun c=>(c.toNat:Int)).map (Value.int .u8)) (by
   intro j v hv
   have hj:j<l.length:=by
    have:=List.getElem?_eq_some_iff.1 hv
    obtain⟨h1,_⟩:=this
    simpa using h1
   have e1:=h j hj
   have e2:v=.int .u8 (bt l j):=by
    simp only[List.map_map,List.getElem?_map,List.getElem?_eq_getElem hj,Option.map_some,Option.some.injEq] at hv
    rw[← hv,bt,List.getD_eq_getElem?_getD,List.getElem?_eq_getElem hj];rfl
   rw[e2,← e1];unfold Addr.add;by_cases hj0:j=0<;>simp[hj0])
  simpa using this
 rw[run_bytesToString w _ _ _ _ hl]
 congr 2
 have hgen:∀ (l:List UInt8) (s:ByteArray),(l.map fun c=>(c.toNat:Int)).foldl (fun r n=>r.push (UInt8.ofNat n.toNat)) s=s++B l:=by
  intro l
  induction l with
  | nil=>intro s;apply ByteArray.ext;simp[B]
  | cons c l ih=>
    intro s
    simp only[List.map_cons,List.foldl_cons]
    rw[ih]
    apply ByteArray.ext
    simp[B,ByteArray.data_append]
 rw[hgen]
 apply ByteArray.ext;simp[B]
end Go.Proofs.YtgpanefhaiohnaaGreatDoor
