/- hindcastlaw29: texts joined: ParA, ParB, ParC, LexOA, ParG, ParGB. -/
import Derived.Test.YtgpanefhaiohnaaGreatDoorZbg
namespace Go.Proofs.YtgpanefhaiohnaaGreatDoor
open Go.RowKit
inductive Tr where
 | nd (k l c n:Int) (x:List UInt8) (ks:List Tr)
def Tr.k:Tr→Int
 | .nd k _ _ _ _ _=>k
structure PS where
 a:Nat
 d:Int
 f:Int×Int×Int
section
variable (L:List Tok)
def tk (p:PS):Tok:=L.getD p.a ⟨8,0,0,0,[]⟩
def PS.bad (p:PS):Bool:=!(p.f.1==0)
def qL (e:Int) (p:PS):PS:=if p.bad then p else { p with f:=(e,(tk L p).l,(tk L p).c) }
def pIs (s:List UInt8) (p:PS):Bool:=!p.bad&&((tk L p).k==6||(tk L p).k==7)&&(tk L p).x==s
def wI (p:PS):PS:=if (tk L p).k=8 then p else { p with a:=p.a+1 }
def OO (s:List UInt8) (p:PS):PS:=if pIs L s p then wI L p else qL L 5 p
def DC (s:List UInt8) (p:PS):PS:=
 let p1:=if pIs L s p&&p.d==40 then qL L 6 p else p
 { OO L s p1 with d:=(OO L s p1).d+1 }
def OQ (k:Int) (p:PS):PS:=if p.bad||!((tk L p).k==k) then qL L 5 p else wI L p
def nd (k:Int) (t:Tok) (n:Int) (x:List UInt8) (ks:List Tr):Tr:=.nd k t.l t.c n x ks
def aae:List UInt8:=[116,114,117,101]
def Zh:List UInt8:=[102,97,108,115,101]
def aal:List UInt8:=[110,105,108]
def aad:List UInt8:=[109,97,107,101]
def aak:List UInt8:=[105,110,116]
def aab:List UInt8:=[98,111,111,108]
def aam:List UInt8:=[115,116,114]
def aac:List UInt8:=[99,111,109,112]
end
mutual
def Tr.sz:Tr→Nat
 | .nd _ _ _ _ _ ks=>Tr.Zq ks
def Tr.Zq:List Tr→Nat
 | []=>0
 | t::ts=>t.sz+1+Tr.Zq ts
end
structure VR where
 k:Int
 l:Int
 c:Int
 z:Nat
 n:Int
 x:List UInt8
 deriving DecidableEq
mutual
def Tr.Qs:Tr→List VR
 | .nd k l c n x ks=>⟨k,l,c,Tr.Zq ks,n,x⟩::Tr.qJ ks
def Tr.qJ:List Tr→List VR
 | []=>[]
 | t::ts=>t.Qs++Tr.qJ ts
end
end Go.Proofs.YtgpanefhaiohnaaGreatDoor
namespace Go.Proofs.YtgpanefhaiohnaaGreatDoor
open Go.RowKit
structure LW (L:List Tok):Prop where
 pos:0<L.length
 last:(L.getD (L.length - 1) ⟨8,0,0,0,[]⟩).k=8
section
variable {L:List Tok}
structure AO (L:List Tok) (p q:PS) (e:Int):Prop where
 d:q.d=p.d+e
 a:p.a≤q.a
 v:p.a<L.length→q.a<L.length
 b:p.bad=true→q.f=p.f
theorem AO.refl (p:PS):AO L p p 0:=⟨by omega,Nat.le_refl _,id,fun _=>rfl⟩
theorem XQ {p q:PS} (h:q.f=p.f):q.bad=p.bad:=by unfold PS.bad;rw[h]
theorem AO.trans {p q r:PS} {e f:Int} (h:AO L p q e) (k:AO L q r f):AO L p r (e+f):=⟨by rw[k.d,h.d];omega,Nat.le_trans h.a k.a,fun x=>k.v (h.v x),fun x=>(k.b (by rw[XQ (h.b x)];exact x)).trans (h.b x)⟩
theorem AO.of {p q:PS} {e f:Int} (h:AO L p q e) (he:e=f):AO L p q f:=he▸h
theorem rM (e:Int) (p:PS):AO L p (qL L e p) 0:=by
 unfold qL;split
 · exact AO.refl p
 · rename_i hb
   exact⟨by simp,Nat.le_refl _,id,fun h=>absurd h hb⟩
theorem xN (H:LW L) (p:PS):AO L p (wI L p) 0:=by
 unfold wI;split
 · exact AO.refl p
 · rename_i h
   refine⟨by simp,Nat.le_succ _,fun hv=>?_,fun _=>rfl⟩
   show p.a+1<L.length
   by_cases e:p.a=L.length - 1
   · exfalso;apply h
     unfold tk;rw[e];exact H.last
   · omega
theorem Rx (H:LW L) (s:List UInt8) (p:PS):AO L p (OO L s p) 0:=by
 unfold OO;split
 · exact xN H p
 · exact rM 5 p
theorem Ry (H:LW L) (s:List UInt8) (p:PS):AO L p (DC L s p) 1:=by
 unfold DC
 have h1:AO L p (if (pIs L s p&&p.d==40)=true then qL L 6 p else p) 0:=by
  split
  · exact rM 6 p
  · exact AO.refl p
 have h2:=h1.trans (Rx H s _)
 exact⟨by simp only;rw[h2.d];omega,h2.a,h2.v,h2.b⟩
theorem Rz (H:LW L) (k:Int) (p:PS):AO L p (OQ L k p) 0:=by
 unfold OQ;split
 · exact rM 5 p
 · exact xN H p
end
end Go.Proofs.YtgpanefhaiohnaaGreatDoor
namespace Go.Proofs.YtgpanefhaiohnaaGreatDoor
open Go.RowKit
section
variable {L:List Tok}
def Pq (p q:PS):Prop:=q.bad=true∨p.a<q.a
theorem Pq.trans {p q r:PS} {e:Int} (h:Pq p q) (k:AO L q r e):Pq p r:=by
 rcases h with h | h
 · exact .inl (by rw[XQ (k.b h)];exact h)
 · exact .inr (by have:=k.a;omega)
theorem Pq.after {p q r:PS} {e:Int} (k:AO L p q e) (h:Pq q r):Pq p r:=by
 rcases h with h | h
 · exact .inl h
 · exact .inr (by have:=k.a;omega)
end
end Go.Proofs.YtgpanefhaiohnaaGreatDoor
namespace Go.Proofs.YtgpanefhaiohnaaGreatDoor
open Go.RowKit
attribute [local go_sem] aZ aY ag ai ak aN au aC di jZ pq nY aj says_again fG BE.den IE.den SE.den LE.den AE.den CE.den PE.den VE.den KV.val dw.den dw.cnt iM dU iY allL Ctx.push Ctx.heap Ctx.cut Ctx.bare Ctx.mark Inc.blank List.getD_cons_zero List.getD_cons_succ List.cons_append List.nil_append List.append_nil List.map_cons List.map_nil List.replicate_zero List.replicate_succ aB bQ bu bG bn bY cO aU aT aV bF bD aF aO aH aA ax aS aI bW af and_assoc
theorem Vq (l:List Tok) (j:Nat):(O9 l).drop (j*5)=O9 (l.drop j):=by
 induction l generalizing j with
 | nil=>simp[O9]
 | cons a l ih=>
   cases j with
   | zero=>simp
   | succ j=>
     have:O9 (a::l)=a.cs++O9 l:=by simp[O9]
     rw[this,show (j+1)*5=a.cs.length+j*5 by simp[Tok.cs];omega,List.drop_append,List.drop_succ_cons,← ih]
     simp
def TS (h:Hp) (sl:bg) (l:List Tok):Prop:=sl.n=l.length∧(l=[]∨∃ b c T r,sl=⟨some (b,0),l.length,c⟩∧h b=some ⟨O9 l++r,T⟩)
theorem TS.eu {h:Hp} {sl:bg} {l:List Tok} {T:TypeId} (ho:bJ h sl (O9 l) T 5) (hn:sl.n=l.length):TS h sl l:=by
 refine⟨hn,?_⟩
 rcases ho with ⟨_,hx⟩ | ⟨b,o,h1,h2,_,h4,h5,_,h7⟩
 · left
   cases l with
   | nil=>rfl
   | cons a l=>have:=congrArg List.length hx;rw[Pe] at this;simp at this
 · right
   obtain⟨cs,T'⟩:=o
   refine⟨b,sl.c,T',cs.drop (sl.n*5),?_,?_⟩
   · rw[← hn,← h1]
   · rw[h2,h7];simp only[List.take_append_drop]
theorem TS.le {h k:Hp} {sl:bg} {l:List Tok} (ht:TS h sl l) (hl:dm h k):TS k sl l:=by
 refine⟨ht.1,?_⟩
 rcases ht.2 with h0 | ⟨b,c,T,r,h1,h2⟩
 · exact .inl h0
 · exact .inr ⟨b,c,T,r,h1,hl _ _ h2⟩
theorem TS.read {h:Hp} {b:Nat} {l:List Tok} {r:List Value} {T:TypeId} (hb:h b=some ⟨O9 l++r,T⟩) {j:Nat} (hj:j<l.length):
 hread h (some (b,j*5)) 5=some [.int .u8 l[j].k,.int .i64 l[j].l,.int .i64 l[j].c,.int .i64 l[j].n,.string (B l[j].x)]:=by
 have hlen:=Pe l
 rw[dN hb,if_pos (by simp only[List.length_append];omega)]
 simp only
 rw[List.drop_append_of_le_length (by omega),Vq,List.drop_eq_getElem_cons hj]
 rw[O9,List.flatMap_cons]
 rfl
end Go.Proofs.YtgpanefhaiohnaaGreatDoor
namespace Go.Proofs.YtgpanefhaiohnaaGreatDoor
open Go.RowKit
section
variable {L:List Tok}
def Tr.n (t:Tr):Nat:=t.Qs.length
def Tr.ns (l:List Tr):Nat:=(Tr.qJ l).length
theorem Du:∀ a b:List Tr,Tr.qJ (a++b)=Tr.qJ a++Tr.qJ b
 | [],b=>rfl
 | t::a,b=>by simp[Tr.qJ,Du a b]
theorem zD (t:Tr) (l:List Tr):Tr.qJ (t::l)=t.Qs++Tr.qJ l:=rfl
theorem WV (t:Tr) (l:List Tr):Tr.ns (t::l)=t.n+Tr.ns l:=by simp[Tr.n,Tr.ns,zD]
end
end Go.Proofs.YtgpanefhaiohnaaGreatDoor
namespace Go.Proofs.YtgpanefhaiohnaaGreatDoor
open Go.RowKit
section
variable {L:List Tok}
end
def p0:PS:=⟨0,0,(0,0,0)⟩
end Go.Proofs.YtgpanefhaiohnaaGreatDoor
