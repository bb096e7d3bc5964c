/- hindcastlaw07: texts joined: ParA, ParB, ParC, ParD, ParE, LexOA, LexZD, ParF, ParG, ParGB. -/
import Derived.Test.YtllbpdllkkcajaaGreatDoorPqe
namespace Go.Proofs.YtllbpdllkkcajaaGreatDoor
open Go.RowKit
inductive Tr where
 | nd (k l c n:Int) (x:List UInt8) (ks:List Tr)
def Tr.k:Tr→Int
 | .nd k _ _ _ _ _=>k
structure PS where
 a:Nat
 d:Int
 f:Int×Int×Int
section
variable (L:List Tok)
def tk (p:PS):Tok:=L.getD p.a ⟨8,0,0,0,[]⟩
def PS.bad (p:PS):Bool:=!(p.f.1==0)
def eF (e:Int) (p:PS):PS:=if p.bad then p else { p with f:=(e,(tk L p).l,(tk L p).c) }
def dn (s:List UInt8) (p:PS):Bool:=!p.bad&&((tk L p).k==6||(tk L p).k==7)&&(tk L p).x==s
def bn (p:PS):PS:=if (tk L p).k=8 then p else { p with a:=p.a+1 }
def bM (s:List UInt8) (p:PS):PS:=if dn L s p then bn L p else eF L 5 p
def dX (s:List UInt8) (p:PS):PS:=
 let p1:=if dn L s p&&p.d==40 then eF L 6 p else p
 { bM L s p1 with d:=(bM L s p1).d+1 }
def dD (s:List UInt8) (p:PS):PS:={ bM L s p with d:=(bM L s p).d - 1 }
def gW (k:Int) (p:PS):PS:=if p.bad||!((tk L p).k==k) then eF L 5 p else bn L p
def nd (k:Int) (t:Tok) (n:Int) (x:List UInt8) (ks:List Tr):Tr:=.nd k t.l t.c n x ks
def oW (x:List UInt8):Int×Nat:=
 if x=[124,124] then (15,1) else if x=[38,38] then (14,2) else if x=[61,61] then (6,3) else if x=[33,61] then (7,3)
 else if x=[60] then (8,4) else if x=[60,61] then (9,4) else if x=[62] then (10,4) else if x=[62,61] then (11,4)
 else if x=[43] then (1,5) else if x=[45] then (2,5) else if x=[42] then (3,6) else if x=[47] then (4,6) else if x=[37] then (5,6) else (0,0)
def xI (lvl:Nat) (p:PS):Int:=if p.bad||!((tk L p).k==7) then 0 else if (oW (tk L p).x).2=lvl then (oW (tk L p).x).1 else 0
def jv:List UInt8:=[116,114,117,101]
def gB:List UInt8:=[102,97,108,115,101]
def oz:List UInt8:=[110,105,108]
def eP:List UInt8:=[109,97,107,101]
def vI:List UInt8:=[105,110,116]
def pg:List UInt8:=[98,111,111,108]
def yC:List UInt8:=[115,116,114]
def rH:List UInt8:=[99,111,109,112]
def fK:Nat→PS→Option (Tr×PS)
 | 0,_=>none
 | n+1,p=>
   if p.bad then some (nd 15 (tk L p) 0 [] [],p)
   else if dn L vI p then some (nd 15 (tk L p) 0 [] [],bn L p)
   else if dn L pg p then some (nd 16 (tk L p) 0 [] [],bn L p)
   else if dn L yC p then some (nd 17 (tk L p) 0 [] [],bn L p)
   else if dn L rH p then some (nd 18 (tk L p) 0 [] [],bn L p)
   else if (tk L p).k=2 then some (nd 19 (tk L p) 0 (tk L p).x [],bn L p)
   else if dn L [91] p then (fK n (dX L [91] p)).map fun r=>(nd 20 (tk L p) 0 [] [r.1],dD L [93] r.2)
   else some (nd 15 (tk L p) 0 [] [],eF L 5 p)
def gV (p:PS):PS:=if !((tk L (bn L p)).k==2)&&!dn L [91] (bn L p) then eF L 5 (bn L p) else bn L p
mutual
def eQ:Nat→Nat→PS→Option (Tr×PS)
 | 0,_,_=>none
 | n+1,lvl,p=>if 6<lvl then wP n p else (eQ n (lvl+1) p).bind fun r=>jQ n lvl r.1 r.2
def jQ:Nat→Nat→Tr→PS→Option (Tr×PS)
 | 0,_,_,_=>none
 | n+1,lvl,x,p=>
   if xI L lvl p=0 then some (x,p)
   else (eQ n (lvl+1) (bn L p)).bind fun r=>
    if lvl=3∨lvl=4 then some (nd 31 (tk L p) (xI L lvl p) [] [x,r.1],r.2) else jQ n lvl (nd 31 (tk L p) (xI L lvl p) [] [x,r.1]) r.2
def wP:Nat→PS→Option (Tr×PS)
 | 0,_=>none
 | n+1,p=>
   if dn L [45] p then (wP n (dX L (tk L p).x p)).map fun r=>(nd 30 (tk L p) 12 [] [r.1],{ r.2 with d:=r.2.d - 1 })
   else if dn L [33] p then (wP n (dX L (tk L p).x p)).map fun r=>(nd 30 (tk L p) 13 [] [r.1],{ r.2 with d:=r.2.d - 1 })
   else (fO n p).bind fun r=>jr n r.1 r.2
def jr:Nat→Tr→PS→Option (Tr×PS)
 | 0,_,_=>none
 | n+1,x,p=>
   if dn L [91] p then (eQ n 1 (dX L [91] p)).bind fun r=>jr n (nd 28 (tk L p) 0 [] [x,r.1]) (dD L [93] r.2)
   else if dn L [46] p then jr n (nd 29 (tk L p) 0 (tk L (bn L p)).x [x]) (gW L 1 (bn L p))
   else some (x,p)
def fO:Nat→PS→Option (Tr×PS)
 | 0,_=>none
 | n+1,p=>
   if p.bad then some (nd 25 (tk L p) 0 [] [],p)
   else if (tk L p).k=3 then some (nd 21 (tk L p) (tk L p).n [] [],bn L p)
   else if (tk L p).k=4 then some (nd 22 (tk L p) (tk L p).n [] [],bn L p)
   else if (tk L p).k=5 then some (nd 23 (tk L p) 0 (tk L p).x [],bn L p)
   else if dn L jv p then some (nd 24 (tk L p) 1 [] [],bn L p)
   else if dn L gB p then some (nd 24 (tk L p) 0 [] [],bn L p)
   else if dn L oz p then some (nd 25 (tk L p) 0 [] [],bn L p)
   else if (tk L p).k=1 then
    if dn L [40] (bn L p) then (iY n true [] (dX L [40] (bn L p))).map fun r=>(nd 27 (tk L p) 0 (tk L p).x r.1,dD L [41] r.2)
    else some (nd 26 (tk L p) 0 (tk L p).x [],bn L p)
   else if dn L [40] p then (eQ n 1 (dX L [40] p)).map fun r=>(r.1,dD L [41] r.2)
   else if dn L eP p then
    (fK L n (gV L p)).bind fun r=>
     if r.1.k=20 then (eQ n 1 (dX L [40] r.2)).map fun y=>(nd 32 (tk L p) 0 [] [r.1,y.1],dD L [41] y.2)
     else some (nd 32 (tk L p) 0 [] [r.1],dD L [41] (dX L [40] r.2))
   else some (nd 25 (tk L p) 0 [] [],eF L 5 p)
def iY:Nat→Bool→List Tr→PS→Option (List Tr×PS)
 | 0,_,_,_=>none
 | n+1,first,acc,p=>
   if p.bad||dn L [41] p then some (acc,p)
   else (eQ n 1 (if first then p else bM L [44] p)).bind fun r=>iY n false (acc++[r.1]) r.2
end
def l9:List UInt8:=[118,97,114]
def uO:List UInt8:=[105,102]
def ou:List UInt8:=[101,108,115,101]
def fU:List UInt8:=[119,104,105,108,101]
def dE:List UInt8:=[114,101,116,117,114,110]
def gm:List UInt8:=[112,114,105,110,116]
def jJ:List UInt8:=[114,101,99]
def sZ:List UInt8:=[102,110]
def iC (n:Nat) (kind:Int) (p:PS):Option (Tr×PS):=
 (fK L n (bM L [58] (gW L 1 p))).map fun r=>(nd kind (tk L p) 0 (tk L p).x [r.1],r.2)
def jG (n:Nat) (t:Tok) (p:PS):Option (Tr×PS):=
 (eQ L n 1 p).bind fun r=>
  let x:=r.1
  let q:=r.2
  if q.bad then some (nd 13 t 0 [] [x],q)
  else if dn L [61] q&&(x.k==26||x.k==28||x.k==29) then (eQ L n 1 (bn L q)).map fun y=>(nd 8 t 0 [] [x,y.1],bM L [59] y.2)
  else if dn L [61] q||!(x.k==27) then some (nd 13 t 0 [] [x],bM L [59] (eF L 5 q))
  else some (nd 13 t 0 [] [x],bM L [59] q)
mutual
def jd:Nat→PS→Option (Tr×PS)
 | 0,_=>none
 | n+1,p=>
   let t:=tk L p
   if dn L l9 p then
    let q:=bn L p
    (fK L n (bM L [58] (gW L 1 q))).bind fun r=>(eQ L n 1 (bM L [61] r.2)).map fun y=>(nd 7 t 0 (tk L q).x [r.1,y.1],bM L [59] y.2)
   else if dn L uO p then
    (eQ L n 1 (bn L p)).bind fun r=>(fQ n r.2).bind fun b=>
     if dn L ou b.2 then (fQ n (bn L b.2)).map fun e=>(nd 9 t 0 [] [r.1,b.1,e.1],e.2)
     else some (nd 9 t 0 [] [r.1,b.1],b.2)
   else if dn L fU p then (eQ L n 1 (bn L p)).bind fun r=>(fQ n r.2).map fun b=>(nd 10 t 0 [] [r.1,b.1],b.2)
   else if dn L dE p then
    if dn L [59] (bn L p) then some (nd 11 t 0 [] [],bM L [59] (bn L p))
    else (eQ L n 1 (bn L p)).map fun r=>(nd 11 t 0 [] [r.1],bM L [59] r.2)
   else if dn L gm p then (eQ L n 1 (bn L p)).map fun r=>(nd 12 t 0 [] [r.1],bM L [59] r.2)
   else jG L n t p
def fQ:Nat→PS→Option (Tr×PS)
 | 0,_=>none
 | n+1,p=>(iy n [] (dX L [123] p)).map fun r=>(nd 6 (tk L p) 0 [] r.1,dD L [125] r.2)
def iy:Nat→List Tr→PS→Option (List Tr×PS)
 | 0,_,_=>none
 | n+1,acc,p=>if p.bad||dn L [125] p then some (acc,p) else (jd n p).bind fun r=>iy n (acc++[r.1]) r.2
end
def gq:Nat→List Tr→PS→Option (List Tr×PS)
 | 0,_,_=>none
 | n+1,acc,p=>if p.bad||dn L [125] p then some (acc,p) else (iC L n 3 p).bind fun r=>gq n (acc++[r.1]) (bM L [59] r.2)
def gu (n:Nat) (p:PS):Option (Tr×PS):=
 let q:=bM L jJ p
 (gq L n [] (dX L [123] (gW L 2 q))).map fun r=>(nd 2 (tk L p) 0 (tk L q).x r.1,dD L [125] r.2)
def eH:Nat→Bool→List Tr→PS→Option (List Tr×PS)
 | 0,_,_,_=>none
 | n+1,first,acc,p=>if p.bad||dn L [41] p then some (acc,p) else (iC L n 5 (if first then p else bM L [44] p)).bind fun r=>eH n false (acc++[r.1]) r.2
def Ih (n:Nat) (p:PS):Option (Tr×PS):=
 let q:=bM L sZ p
 (eH L n true [] (dX L [40] (gW L 1 q))).bind fun r=>
  let q2:=dD L [41] r.2
  (if dn L [58] q2 then fK L n (bn L q2) else some (Tr.nd 14 0 0 0 [] [],q2)).bind fun k=>
   (fQ L n k.2).map fun b=>(nd 4 (tk L p) r.1.length (tk L q).x (r.1++[k.1,b.1]),b.2)
def fP:Nat→List Tr→PS→Option (List Tr×PS)
 | 0,_,_=>none
 | n+1,acc,p=>
   if p.bad||(tk L p).k==8 then some (acc,p)
   else if dn L jJ p then (gu L n p).bind fun r=>fP n (acc++[r.1]) r.2
   else if dn L sZ p then (Ih L n p).bind fun r=>fP n (acc++[r.1]) r.2
   else fP n acc (eF L 5 p)
def rG (n:Nat) (p:PS):Option (Tr×PS):=(fP L n [] p).map fun r=>(.nd 1 1 1 0 [] r.1,r.2)
end
mutual
def Tr.sz:Tr→Nat
 | .nd _ _ _ _ _ ks=>Tr.szs ks
def Tr.szs:List Tr→Nat
 | []=>0
 | t::ts=>t.sz+1+Tr.szs ts
end
structure zB where
 k:Int
 l:Int
 c:Int
 z:Nat
 n:Int
 x:List UInt8
 deriving DecidableEq
mutual
def Tr.qL:Tr→List zB
 | .nd k l c n x ks=>⟨k,l,c,Tr.szs ks,n,x⟩::Tr.jc ks
def Tr.jc:List Tr→List zB
 | []=>[]
 | t::ts=>t.qL++Tr.jc ts
end
end Go.Proofs.YtllbpdllkkcajaaGreatDoor
namespace Go.Proofs.YtllbpdllkkcajaaGreatDoor
open Go.RowKit
structure LW (L:List Tok):Prop where
 pos:0<L.length
 last:(L.getD (L.length - 1) ⟨8,0,0,0,[]⟩).k=8
section
variable {L:List Tok}
structure gK (L:List Tok) (p q:PS) (e:Int):Prop where
 d:q.d=p.d+e
 a:p.a≤q.a
 v:p.a<L.length→q.a<L.length
 b:p.bad=true→q.f=p.f
theorem gK.refl (p:PS):gK L p p 0:=⟨by omega,Nat.le_refl _,id,fun _=>rfl⟩
theorem Qa {p q:PS} (h:q.f=p.f):q.bad=p.bad:=by unfold PS.bad;rw[h]
theorem gK.trans {p q r:PS} {e f:Int} (h:gK L p q e) (k:gK L q r f):gK L p r (e+f):=⟨by rw[k.d,h.d];omega,Nat.le_trans h.a k.a,fun x=>k.v (h.v x),fun x=>(k.b (by rw[Qa (h.b x)];exact x)).trans (h.b x)⟩
theorem gK.of {p q:PS} {e f:Int} (h:gK L p q e) (he:e=f):gK L p q f:=he▸h
theorem fE (e:Int) (p:PS):gK L p (eF L e p) 0:=by
 unfold eF;split
 · exact gK.refl p
 · rename_i hb
   exact⟨by simp,Nat.le_refl _,id,fun h=>absurd h hb⟩
theorem aJ (H:LW L) (p:PS):gK L p (bn L p) 0:=by
 unfold bn;split
 · exact gK.refl p
 · rename_i h
   refine⟨by simp,Nat.le_succ _,fun hv=>?_,fun _=>rfl⟩
   show p.a+1<L.length
   by_cases e:p.a=L.length - 1
   · exfalso;apply h
     unfold tk;rw[e];exact H.last
   · omega
theorem aN (H:LW L) (s:List UInt8) (p:PS):gK L p (bM L s p) 0:=by
 unfold bM;split
 · exact aJ H p
 · exact fE 5 p
theorem bf (H:LW L) (s:List UInt8) (p:PS):gK L p (dX L s p) 1:=by
 unfold dX
 have h1:gK L p (if (dn L s p&&p.d==40)=true then eF L 6 p else p) 0:=by
  split
  · exact fE 6 p
  · exact gK.refl p
 have h2:=h1.trans (aN H s _)
 exact⟨by simp only;rw[h2.d];omega,h2.a,h2.v,h2.b⟩
theorem bU (H:LW L) (s:List UInt8) (p:PS):gK L p (dD L s p) (-1):=by
 have h2:=aN H s p
 exact⟨by show _ - 1=_;rw[h2.d];omega,h2.a,h2.v,h2.b⟩
theorem dF (H:LW L) (k:Int) (p:PS):gK L p (gW L k p) 0:=by
 unfold gW;split
 · exact fE 5 p
 · exact aJ H p
theorem dQ (H:LW L):∀ (n:Nat) (p:PS) {t:Tr} {q:PS},fK L n p=some (t,q)→gK L p q 0
 | 0,p,t,q,h=>by cases h
 | n+1,p,t,q,h=>by
   rw[fK] at h
   split at h
   · cases h;exact gK.refl p
   split at h
   · cases h;exact aJ H p
   split at h
   · cases h;exact aJ H p
   split at h
   · cases h;exact aJ H p
   split at h
   · cases h;exact aJ H p
   split at h
   · cases h;exact aJ H p
   split at h
   · simp only[Option.map_eq_some_iff] at h
     obtain⟨⟨x,r⟩,h1,h2⟩:=h
     cases h2
     exact (((bf H _ p).trans (dQ H n _ h1)).trans (bU H _ r)).of (by omega)
   · cases h;exact fE 5 p
def adS (L:List Tok) (n:Nat):Prop:=
 (∀ lvl p t q,eQ L n lvl p=some (t,q)→gK L p q 0)∧(∀ lvl x p t q,jQ L n lvl x p=some (t,q)→gK L p q 0)∧(∀ p t q,wP L n p=some (t,q)→gK L p q 0)∧
 (∀ x p t q,jr L n x p=some (t,q)→gK L p q 0)∧(∀ p t q,fO L n p=some (t,q)→gK L p q 0)∧(∀ f acc p l q,iY L n f acc p=some (l,q)→gK L p q 0)
theorem lh (H:LW L):∀ n,adS L n
 | 0=>⟨fun _ _ _ _ h=>(by cases h),fun _ _ _ _ _ h=>(by cases h),fun _ _ _ h=>(by cases h),fun _ _ _ _ h=>(by cases h),fun _ _ _ h=>(by cases h),fun _ _ _ _ _ h=>(by cases h)⟩
 | n+1=>by
   obtain⟨i1,i2,i3,i4,i5,i6⟩:=lh H n
   refine⟨fun lvl p t q h=>?_,fun lvl x p t q h=>?_,fun p t q h=>?_,fun x p t q h=>?_,fun p t q h=>?_,fun f acc p l q h=>?_⟩
   · rw[eQ] at h
     split at h
     · exact i3 _ _ _ h
     · simp only[Option.bind_eq_some_iff] at h
       obtain⟨⟨y,r⟩,h1,h2⟩:=h
       exact (i1 _ _ _ _ h1).trans (i2 _ _ _ _ _ h2)
   · rw[jQ] at h
     split at h
     · cases h;exact gK.refl p
     · simp only[Option.bind_eq_some_iff] at h
       obtain⟨⟨y,r⟩,h1,h2⟩:=h
       have hr:=(aJ H p).trans (i1 _ _ _ _ h1)
       split at h2
       · cases h2;exact hr
       · exact hr.trans (i2 _ _ _ _ _ h2)
   · rw[wP] at h
     split at h
     · simp only[Option.map_eq_some_iff] at h
       obtain⟨⟨y,r⟩,h1,h2⟩:=h
       cases h2
       have:=(bf H (tk L p).x p).trans (i3 _ _ _ h1)
       exact⟨by simp only;rw[this.d];omega,this.a,this.v,this.b⟩
     · split at h
       · simp only[Option.map_eq_some_iff] at h
         obtain⟨⟨y,r⟩,h1,h2⟩:=h
         cases h2
         have:=(bf H (tk L p).x p).trans (i3 _ _ _ h1)
         exact⟨by simp only;rw[this.d];omega,this.a,this.v,this.b⟩
       · simp only[Option.bind_eq_some_iff] at h
         obtain⟨⟨y,r⟩,h1,h2⟩:=h
         exact (i5 _ _ _ h1).trans (i4 _ _ _ _ h2)
   · rw[jr] at h
     split at h
     · simp only[Option.bind_eq_some_iff] at h
       obtain⟨⟨y,r⟩,h1,h2⟩:=h
       exact ((((bf H _ p).trans (i1 _ _ _ _ h1)).trans (bU H _ r)).trans (i4 _ _ _ _ h2)).of (by omega)
     · split at h
       · exact (((aJ H p).trans (dF H 1 _)).trans (i4 _ _ _ _ h)).of (by omega)
       · cases h;exact gK.refl p
   · rw[fO] at h
     by_cases c:p.bad=true
     · rw[if_pos c] at h;cases h;exact gK.refl p
     rw[if_neg c] at h;clear c
     by_cases c:(tk L p).k=3
     · rw[if_pos c] at h;cases h;exact aJ H p
     rw[if_neg c] at h;clear c
     by_cases c:(tk L p).k=4
     · rw[if_pos c] at h;cases h;exact aJ H p
     rw[if_neg c] at h;clear c
     by_cases c:(tk L p).k=5
     · rw[if_pos c] at h;cases h;exact aJ H p
     rw[if_neg c] at h;clear c
     by_cases c:dn L jv p=true
     · rw[if_pos c] at h;cases h;exact aJ H p
     rw[if_neg c] at h;clear c
     by_cases c:dn L gB p=true
     · rw[if_pos c] at h;cases h;exact aJ H p
     rw[if_neg c] at h;clear c
     by_cases c:dn L oz p=true
     · rw[if_pos c] at h;cases h;exact aJ H p
     rw[if_neg c] at h;clear c
     by_cases c:(tk L p).k=1
     · rw[if_pos c] at h
       by_cases c2:dn L [40] (bn L p)=true
       · rw[if_pos c2] at h
         simp only[Option.map_eq_some_iff] at h
         obtain⟨⟨y,r⟩,h1,h2⟩:=h
         cases h2
         exact ((((aJ H p).trans (bf H _ _)).trans (i6 _ _ _ _ _ h1)).trans (bU H _ r)).of (by omega)
       · rw[if_neg c2] at h
         cases h;exact aJ H p
     rw[if_neg c] at h;clear c
     by_cases c:dn L [40] p=true
     · rw[if_pos c] at h
       simp only[Option.map_eq_some_iff] at h
       obtain⟨⟨y,r⟩,h1,h2⟩:=h
       cases h2
       exact (((bf H _ _).trans (i1 _ _ _ _ h1)).trans (bU H _ r)).of (by omega)
     rw[if_neg c] at h;clear c
     by_cases c:dn L eP p=true
     · rw[if_pos c] at h
       simp only[Option.bind_eq_some_iff] at h
       obtain⟨⟨y,r⟩,h1,h2⟩:=h
       have h0:gK L p (gV L p) 0:=by
        unfold gV;split
        · exact ((aJ H p).trans (fE 5 _)).of (by omega)
        · exact aJ H p
       have hk:=h0.trans (dQ H n _ h1)
       split at h2
       · simp only[Option.map_eq_some_iff] at h2
         obtain⟨⟨z,u⟩,h3,h4⟩:=h2
         cases h4
         exact (((hk.trans (bf H _ r)).trans (i1 _ _ _ _ h3)).trans (bU H _ u)).of (by omega)
       · cases h2
         exact ((hk.trans (bf H _ r)).trans (bU H _ _)).of (by omega)
     rw[if_neg c] at h
     cases h;exact fE 5 p
   · rw[iY] at h
     split at h
     · cases h;exact gK.refl p
     · simp only[Option.bind_eq_some_iff] at h
       obtain⟨⟨y,r⟩,h1,h2⟩:=h
       have h0:gK L p (if f=true then p else bM L [44] p) 0:=by
        split
        · exact gK.refl p
        · exact aN H _ p
       exact ((h0.trans (i1 _ _ _ _ h1)).trans (i6 _ _ _ _ _ h2)).of (by omega)
end
end Go.Proofs.YtllbpdllkkcajaaGreatDoor
namespace Go.Proofs.YtllbpdllkkcajaaGreatDoor
open Go.RowKit
section
variable {L:List Tok}
def lJ (p q:PS):Prop:=q.bad=true∨p.a<q.a
theorem lJ.trans {p q r:PS} {e:Int} (h:lJ p q) (k:gK L q r e):lJ p r:=by
 rcases h with h | h
 · exact .inl (by rw[Qa (k.b h)];exact h)
 · exact .inr (by have:=k.a;omega)
theorem lJ.after {p q r:PS} {e:Int} (k:gK L p q e) (h:lJ q r):lJ p r:=by
 rcases h with h | h
 · exact .inl h
 · exact .inr (by have:=k.a;omega)
theorem jD {p:PS} (h:(tk L p).k≠8):lJ p (bn L p):=by
 unfold bn;rw[if_neg h];exact .inr (Nat.lt_succ_self _)
theorem iI {s:List UInt8} {p:PS} (h:dn L s p=true):p.bad=false∧(tk L p).k≠8:=by
 unfold dn at h
 simp only[Bool.and_eq_true,Bool.or_eq_true,Bool.not_eq_true',beq_iff_eq] at h
 exact⟨h.1.1,by omega⟩
theorem iO {s:List UInt8} {p:PS} (h:dn L s p=true):lJ p (bn L p):=jD (iI h).2
theorem iP {e:Int} (he:e≠0) (p:PS):(eF L e p).bad=true:=by
 unfold eF;split
 · assumption
 · unfold PS.bad;simp[he]
theorem Nw {s:List UInt8} {p:PS} (h:p.bad=true):dn L s p=false:=by unfold dn;rw[h];rfl
theorem ja {s:List UInt8} {p:PS} (h:dn L s p=true):lJ p (dX L s p):=by
 unfold dX
 by_cases c:(dn L s p&&p.d==40)=true
 · left
   simp only[c,if_true]
   have hb:(eF L 6 p).bad=true:=iP (by decide) p
   have:bM L s (eF L 6 p)=eF L 6 p:=by
    unfold bM;rw[Nw hb]
    show eF L 5 (eF L 6 p)=_
    rw[eF.eq_def L 5,if_pos hb]
   show (bM L s (eF L 6 p)).bad=true
   rw[this];exact hb
 · have e:bM L s p=bn L p:=by unfold bM;rw[if_pos h]
   simp only[c]
   show lJ p { bM L s p with d:=_ }
   rw[e]
   exact iO h
def adc (L:List Tok) (n:Nat):Prop:=
 (∀ lvl p t q,eQ L n lvl p=some (t,q)→lJ p q)∧(∀ p t q,wP L n p=some (t,q)→lJ p q)∧(∀ p t q,fO L n p=some (t,q)→lJ p q)
theorem RZ (H:LW L):∀ n,adc L n
 | 0=>⟨fun _ _ _ _ h=>(by cases h),fun _ _ _ h=>(by cases h),fun _ _ _ h=>(by cases h)⟩
 | n+1=>by
   obtain⟨i1,i3,i5⟩:=RZ H n
   obtain⟨a1,a2,a3,a4,a5,a6⟩:=lh H n
   refine⟨fun lvl p t q h=>?_,fun p t q h=>?_,fun p t q h=>?_⟩
   · rw[eQ] at h
     split at h
     · exact i3 _ _ _ h
     · simp only[Option.bind_eq_some_iff] at h
       obtain⟨⟨y,r⟩,h1,h2⟩:=h
       exact (i1 _ _ _ _ h1).trans (a2 _ _ _ _ _ h2)
   · rw[wP] at h
     split at h
     · rename_i c
       simp only[Option.map_eq_some_iff] at h
       obtain⟨⟨y,r⟩,h1,h2⟩:=h
       cases h2
       have hx:(tk L p).x=[45]:=by
        unfold dn at c;simp only[Bool.and_eq_true,beq_iff_eq] at c;exact c.2
       rw[hx] at h1
       have w:lJ p r:=(ja c).trans (a3 _ _ _ h1)
       exact w
     · split at h
       · rename_i c
         simp only[Option.map_eq_some_iff] at h
         obtain⟨⟨y,r⟩,h1,h2⟩:=h
         cases h2
         have hx:(tk L p).x=[33]:=by
          unfold dn at c;simp only[Bool.and_eq_true,beq_iff_eq] at c;exact c.2
         rw[hx] at h1
         have w:lJ p r:=(ja c).trans (a3 _ _ _ h1)
         exact w
       · simp only[Option.bind_eq_some_iff] at h
         obtain⟨⟨y,r⟩,h1,h2⟩:=h
         exact (i5 _ _ _ h1).trans (a4 _ _ _ _ h2)
   · rw[fO] at h
     by_cases c:p.bad=true
     · rw[if_pos c] at h;cases h;exact .inl c
     rw[if_neg c] at h;clear c
     by_cases c:(tk L p).k=3
     · rw[if_pos c] at h;cases h;exact jD (by omega)
     rw[if_neg c] at h;clear c
     by_cases c:(tk L p).k=4
     · rw[if_pos c] at h;cases h;exact jD (by omega)
     rw[if_neg c] at h;clear c
     by_cases c:(tk L p).k=5
     · rw[if_pos c] at h;cases h;exact jD (by omega)
     rw[if_neg c] at h;clear c
     by_cases c:dn L jv p=true
     · rw[if_pos c] at h;cases h;exact iO c
     rw[if_neg c] at h;clear c
     by_cases c:dn L gB p=true
     · rw[if_pos c] at h;cases h;exact iO c
     rw[if_neg c] at h;clear c
     by_cases c:dn L oz p=true
     · rw[if_pos c] at h;cases h;exact iO c
     rw[if_neg c] at h;clear c
     by_cases c:(tk L p).k=1
     · rw[if_pos c] at h
       have hp:lJ p (bn L p):=jD (by omega)
       by_cases c2:dn L [40] (bn L p)=true
       · rw[if_pos c2] at h
         simp only[Option.map_eq_some_iff] at h
         obtain⟨⟨y,r⟩,h1,h2⟩:=h
         cases h2
         exact ((hp.trans (bf H _ _)).trans (a6 _ _ _ _ _ h1)).trans (bU H _ r)
       · rw[if_neg c2] at h
         cases h;exact hp
     rw[if_neg c] at h;clear c
     by_cases c:dn L [40] p=true
     · rw[if_pos c] at h
       simp only[Option.map_eq_some_iff] at h
       obtain⟨⟨y,r⟩,h1,h2⟩:=h
       cases h2
       exact ((ja c).trans (a1 _ _ _ _ h1)).trans (bU H _ r)
     rw[if_neg c] at h;clear c
     by_cases c:dn L eP p=true
     · rw[if_pos c] at h
       simp only[Option.bind_eq_some_iff] at h
       obtain⟨⟨y,r⟩,h1,h2⟩:=h
       have h0:lJ p (gV L p):=by
        unfold gV;split
        · exact (iO c).trans (fE 5 _)
        · exact iO c
       have hk:=h0.trans (dQ H n _ h1)
       split at h2
       · simp only[Option.map_eq_some_iff] at h2
         obtain⟨⟨z,u⟩,h3,h4⟩:=h2
         cases h4
         exact ((hk.trans (bf H _ r)).trans (a1 _ _ _ _ h3)).trans (bU H _ u)
       · cases h2
         exact (hk.trans (bf H _ r)).trans (bU H _ _)
     rw[if_neg c] at h
     cases h;exact .inl (iP (by decide) p)
def mu (L:List Tok) (p:PS):Nat:=if p.bad then 0 else L.length - p.a
theorem iq {p q:PS} {e:Int} (h:gK L p q e):mu L q≤mu L p:=by
 unfold mu
 by_cases c:p.bad=true
 · rw[Qa (h.b c),if_pos c,if_pos c];exact Nat.le_refl _
 · rw[if_neg c]
   split
   · omega
   · have:=h.a;omega
theorem nS {p q:PS} (h:lJ p q) (hp:p.bad=false) (hv:p.a<L.length):mu L q+1≤mu L p:=by
 unfold mu
 rw[hp]
 rcases h with h | h
 · rw[if_pos h];simp;omega
 · split<;>simp<;>omega
theorem jU {p q:PS} {e:Int} (h:lJ p q) (k:gK L p q e) (hv:p.a<L.length):12*mu L q+1≤12*mu L p+1∧(mu L q=0∨mu L q+1≤mu L p):=by
 refine⟨by have:=iq k;omega,?_⟩
 by_cases c:p.bad=true
 · left
   have:=iq k
   unfold mu at this⊢
   rw[c] at this
   simp at this⊢
   exact this
 · exact .inr (nS h (by simpa using c) hv)
theorem pY (H:LW L):∀ (n:Nat) (p:PS),p.a<L.length→mu L p+1≤n→(fK L n p).isSome=true
 | 0,p,_,h=>by omega
 | n+1,p,hv,h=>by
   rw[fK]
   by_cases c:dn L [91] p=true
   · have hm:=nS (ja c) (iI c).1 hv
     have:=pY H n (dX L [91] p) ((bf H _ p).v hv) (by omega)
     repeat' split
     all_goals first | rfl | (rw[Option.isSome_map];exact this)
   · repeat' split
     all_goals first | rfl | (rename_i hh;exact absurd hh c)
end
end Go.Proofs.YtllbpdllkkcajaaGreatDoor
namespace Go.Proofs.YtllbpdllkkcajaaGreatDoor
open Go.RowKit
section
variable {L:List Tok}
theorem CV {lvl:Nat} {p:PS} (h:¬ xI L lvl p=0):p.bad=false∧(tk L p).k≠8:=by
 unfold xI at h
 split at h
 · exact absurd rfl h
 · rename_i c
   simp only[Bool.or_eq_true,Bool.not_eq_true',beq_eq_false_iff_ne,not_or] at c
   exact⟨by simpa using c.1,by have:=c.2;simp at this;omega⟩
def ac5 (L:List Tok) (n:Nat):Prop:=
 (∀ lvl p,p.a<L.length→12*mu L p+3+(7 - lvl)≤n→(eQ L n lvl p).isSome=true)∧(∀ lvl x p,p.a<L.length→12*mu L p+1≤n→(jQ L n lvl x p).isSome=true)∧
 (∀ p,p.a<L.length→12*mu L p+2≤n→(wP L n p).isSome=true)∧(∀ x p,p.a<L.length→12*mu L p+1≤n→(jr L n x p).isSome=true)∧
 (∀ p,p.a<L.length→12*mu L p+1≤n→(fO L n p).isSome=true)∧(∀ f acc p,p.a<L.length→12*mu L p+10≤n→(iY L n f acc p).isSome=true)
theorem eu {α β:Type} {o:Option α} {f:α→Option β} (h:o.isSome=true) (k:∀ x,o=some x→(f x).isSome=true):(o.bind f).isSome=true:=by
 cases o with
 | none=>cases h
 | some x=>exact k x rfl
theorem gX {α β:Type} {o:Option α} {f:α→β} (h:o.isSome=true):(o.map f).isSome=true:=by rw[Option.isSome_map];exact h
theorem adu {s:List UInt8} {p:PS} (h:dn L s p=true):(tk L p).x=s:=by
 unfold dn at h;simp only[Bool.and_eq_true,beq_iff_eq] at h;exact h.2
theorem nT {p:PS} (hp:p.bad=false) (hv:p.a<L.length):1≤mu L p:=by unfold mu;rw[hp];simp;omega
theorem KC (H:LW L):∀ n,ac5 L n
 | 0=>⟨fun _ _ _ h=>by omega,fun _ _ _ _ h=>by omega,fun _ _ h=>by omega,fun _ _ _ h=>by omega,fun _ _ h=>by omega,fun _ _ _ _ h=>by omega⟩
 | n+1=>by
   obtain⟨i1,i2,i3,i4,i5,i6⟩:=KC H n
   obtain⟨a1,a2,a3,a4,a5,a6⟩:=lh H n
   obtain⟨w1,w3,w5⟩:=RZ H n
   refine⟨fun lvl p hv hn=>?_,fun lvl x p hv hn=>?_,fun p hv hn=>?_,fun x p hv hn=>?_,fun p hv hn=>?_,fun f acc p hv hn=>?_⟩
   · rw[eQ]
     split
     · exact i3 p hv (by omega)
     · refine eu (i1 _ p hv (by omega)) fun r hr=>?_
       have A:=a1 _ _ _ _ hr
       exact i2 _ _ _ (A.v hv) (by have:=iq A;omega)
   · rw[jQ]
     split
     · rfl
     · rename_i c
       have hm:=nS (jD (CV c).2) (CV c).1 hv
       have hw:=(aJ H p).v hv
       refine eu (i1 _ _ hw (by omega)) fun r hr=>?_
       have A:=a1 _ _ _ _ hr
       split
       · rfl
       · exact i2 _ _ _ (A.v hw) (by have:=iq A;omega)
   · rw[wP]
     split
     · rename_i c
       have hm:=nS (ja c) (iI c).1 hv
       rw[adu c]
       exact gX (i3 _ ((bf H _ p).v hv) (by omega))
     · split
       · rename_i c
         have hm:=nS (ja c) (iI c).1 hv
         rw[adu c]
         exact gX (i3 _ ((bf H _ p).v hv) (by omega))
       · refine eu (i5 p hv (by omega)) fun r hr=>?_
         have A:=a5 _ _ _ hr
         exact i4 _ _ (A.v hv) (by have:=iq A;omega)
   · rw[jr]
     split
     · rename_i c
       have hm:=nS (ja c) (iI c).1 hv
       have hw:=(bf H [91] p).v hv
       refine eu (i1 _ _ hw (by omega)) fun r hr=>?_
       have A:=(a1 _ _ _ _ hr).trans (bU H [93] r.2)
       exact i4 _ _ (A.v hw) (by have:=iq A;omega)
     · split
       · rename_i c
         have hm:=nS (iO c) (iI c).1 hv
         have A:=(aJ H p).trans (dF H 1 _)
         have:=iq (dF H 1 (bn L p))
         exact i4 _ _ (A.v hv) (by omega)
       · rfl
   · rw[fO]
     have hw:=(aJ H p).v hv
     by_cases c0:p.bad=true
     · rw[if_pos c0];rfl
     rw[if_neg c0]
     have hb:p.bad=false:=by simpa using c0
     clear c0
     by_cases c1:(tk L p).k=3
     · rw[if_pos c1];rfl
     rw[if_neg c1]
     clear c1
     by_cases c2:(tk L p).k=4
     · rw[if_pos c2];rfl
     rw[if_neg c2]
     clear c2
     by_cases c3:(tk L p).k=5
     · rw[if_pos c3];rfl
     rw[if_neg c3]
     clear c3
     by_cases c4:dn L jv p=true
     · rw[if_pos c4];rfl
     rw[if_neg c4]
     clear c4
     by_cases c5:dn L gB p=true
     · rw[if_pos c5];rfl
     rw[if_neg c5]
     clear c5
     by_cases c6:dn L oz p=true
     · rw[if_pos c6];rfl
     rw[if_neg c6]
     clear c6
     by_cases c:(tk L p).k=1
     · rw[if_pos c]
       have hm:=nS (jD (L:=L) (p:=p) (by omega)) hb hv
       by_cases c2:dn L [40] (bn L p)=true
       · rw[if_pos c2]
         have hm2:=nS (ja c2) (iI c2).1 hw
         exact gX (i6 true [] _ ((bf H [40] _).v hw) (by omega))
       · rw[if_neg c2];rfl
     rw[if_neg c];clear c
     by_cases c:dn L [40] p=true
     · rw[if_pos c]
       have hm:=nS (ja c) (iI c).1 hv
       exact gX (i1 1 _ ((bf H [40] p).v hv) (by omega))
     rw[if_neg c];clear c
     by_cases c3:dn L eP p=true
     · rw[if_pos c3]
       have hm:=nS (iO c3) (iI c3).1 hv
       have h0:gK L p (gV L p) 0:=by
        unfold gV;split
        · exact ((aJ H p).trans (fE 5 _)).of (by omega)
        · exact aJ H p
       have hq:gK L (bn L p) (gV L p) 0:=by
        unfold gV;split
        · exact fE 5 _
        · exact gK.refl _
       have:=iq hq
       refine eu (pY H n _ (h0.v hv) (by omega)) fun r hr=>?_
       have A:=dQ H n _ hr
       split
       · have B:=bf H [40] r.2
         exact gX (i1 _ _ (B.v (A.v (h0.v hv))) (by have:=iq A;have:=iq B;omega))
       · rfl
     rw[if_neg c3];rfl
   · rw[iY]
     split
     · rfl
     · rename_i c
       have hb:p.bad=false:=by
        cases e:p.bad with
        | false=>rfl
        | true=>exfalso;apply c;rw[e];rfl
       have h0:gK L p (if f=true then p else bM L [44] p) 0:=by
        split
        · exact gK.refl p
        · exact aN H _ p
       have hm:=iq h0
       have hv1:=h0.v hv
       refine eu (i1 _ _ hv1 (by omega)) fun r hr=>?_
       have A:=a1 _ _ _ _ hr
       have W:=(jU (w1 _ _ _ _ hr) A hv1).2
       have:=nT hb hv
       exact i6 _ _ _ (A.v hv1) (by omega)
end
end Go.Proofs.YtllbpdllkkcajaaGreatDoor
namespace Go.Proofs.YtllbpdllkkcajaaGreatDoor
open Go.RowKit
section
variable {L:List Tok}
theorem Va {k:Int} (hk:k≠8) (p:PS):lJ p (gW L k p):=by
 unfold gW;split
 · exact .inl (iP (by decide) p)
 · rename_i c
   refine jD ?_
   simp only[Bool.or_eq_true,Bool.not_eq_true',beq_eq_false_iff_ne,not_or] at c
   have:=c.2
   simp at this;omega
theorem yD (s:List UInt8) (p:PS):lJ p (bM L s p):=by
 unfold bM;split
 · exact iO (by assumption)
 · exact .inl (iP (by decide) p)
theorem P5 (s:List UInt8) (p:PS):lJ p (dX L s p):=by
 by_cases c:dn L s p=true
 · exact ja c
 · unfold dX
   have:¬ (dn L s p&&p.d==40)=true:=by simp[c]
   simp only[this]
   exact yD s p
theorem jA (H:LW L) {n:Nat} {k:Int} {p q:PS} {t:Tr} (h:iC L n k p=some (t,q)):gK L p q 0∧lJ p q:=by
 unfold iC at h
 simp only[Option.map_eq_some_iff] at h
 obtain⟨⟨y,r⟩,h1,h2⟩:=h
 cases h2
 have A:=(aN H [58] (gW L 1 p)).trans (dQ H n _ h1)
 exact⟨((dF H 1 p).trans A).of (by omega),(Va (by decide) p).trans A⟩
theorem BI (H:LW L) {n:Nat} {k:Int} {p:PS} (hv:p.a<L.length) (hn:mu L p+1≤n):(iC L n k p).isSome=true:=by
 unfold iC
 have A:=(dF H 1 p).trans (aN H [58] _)
 exact gX (pY H n _ (A.v hv) (by have:=iq A;omega))
theorem SB (H:LW L) {n:Nat} {u:Tok} {p q:PS} {t:Tr} (h:jG L n u p=some (t,q)):gK L p q 0∧lJ p q:=by
 unfold jG at h
 simp only[Option.bind_eq_some_iff] at h
 obtain⟨⟨y,r⟩,h1,h2⟩:=h
 have A:=(lh H n).1 _ _ _ _ h1
 have W:=(RZ H n).1 _ _ _ _ h1
 dsimp only at h2
 have B:gK L r q 0:=by
  split at h2
  · cases h2;exact gK.refl _
  · split at h2
    · simp only[Option.map_eq_some_iff] at h2
      obtain⟨⟨z,v⟩,h3,h4⟩:=h2
      cases h4
      exact (((aJ H r).trans ((lh H n).1 _ _ _ _ h3)).trans (aN H [59] v)).of (by omega)
    · split at h2
      · cases h2;exact ((fE 5 r).trans (aN H [59] _)).of (by omega)
      · cases h2;exact aN H [59] r
 exact⟨(A.trans B).of (by omega),W.trans B⟩
theorem BH (H:LW L) {n:Nat} {u:Tok} {p:PS} (hv:p.a<L.length) (hn:12*mu L p+9≤n):(jG L n u p).isSome=true:=by
 unfold jG
 refine eu ((KC H n).1 1 p hv (by omega)) fun r hr=>?_
 have A:=(lh H n).1 _ _ _ _ hr
 have B:=A.trans (aJ H r.2)
 dsimp only
 split
 · rfl
 · split
   · exact gX ((KC H n).1 1 _ (B.v hv) (by have:=iq B;omega))
   · split<;>rfl
def adT (L:List Tok) (n:Nat):Prop:=
 (∀ p t q,jd L n p=some (t,q)→gK L p q 0∧lJ p q)∧(∀ p t q,fQ L n p=some (t,q)→gK L p q 0∧lJ p q)∧(∀ acc p t q,iy L n acc p=some (t,q)→gK L p q 0)
theorem Gv (H:LW L):∀ n,adT L n
 | 0=>⟨fun _ _ _ h=>(by cases h),fun _ _ _ h=>(by cases h),fun _ _ _ _ h=>(by cases h)⟩
 | n+1=>by
   obtain⟨i1,i2,i3⟩:=Gv H n
   have aB:=(lh H n).1
   refine⟨fun p t q h=>?_,fun p t q h=>?_,fun acc p t q h=>?_⟩
   · rw[jd] at h
     dsimp only at h
     by_cases c:dn L l9 p=true
     · rw[if_pos c] at h
       simp only[Option.bind_eq_some_iff,Option.map_eq_some_iff] at h
       obtain⟨⟨y,r⟩,h1,⟨z,v⟩,h2,h3⟩:=h
       cases h3
       have A:=(((((dF H 1 (bn L p)).trans (aN H [58] _)).trans (dQ H n _ h1)).trans (aN H [61] r)).trans (aB _ _ _ _ h2)).trans (aN H [59] v)
       exact⟨((aJ H p).trans A).of (by omega),(iO c).trans A⟩
     rw[if_neg c] at h;clear c
     by_cases c:dn L uO p=true
     · rw[if_pos c] at h
       simp only[Option.bind_eq_some_iff] at h
       obtain⟨⟨y,r⟩,h1,⟨z,v⟩,h2,h3⟩:=h
       have A:=(aB _ _ _ _ h1).trans (i2 _ _ _ h2).1
       have B:gK L v q 0:=by
        split at h3
        · simp only[Option.map_eq_some_iff] at h3
          obtain⟨⟨e,w⟩,h4,h5⟩:=h3
          cases h5
          exact ((aJ H v).trans (i2 _ _ _ h4).1).of (by omega)
        · cases h3;exact gK.refl _
       exact⟨((aJ H p).trans (A.trans B)).of (by omega),(iO c).trans (A.trans B)⟩
     rw[if_neg c] at h;clear c
     by_cases c:dn L fU p=true
     · rw[if_pos c] at h
       simp only[Option.bind_eq_some_iff,Option.map_eq_some_iff] at h
       obtain⟨⟨y,r⟩,h1,⟨z,v⟩,h2,h3⟩:=h
       cases h3
       have A:=(aB _ _ _ _ h1).trans (i2 _ _ _ h2).1
       exact⟨((aJ H p).trans A).of (by omega),(iO c).trans A⟩
     rw[if_neg c] at h;clear c
     by_cases c:dn L dE p=true
     · rw[if_pos c] at h
       split at h
       · cases h
         exact⟨((aJ H p).trans (aN H [59] _)).of (by omega),(iO c).trans (aN H [59] _)⟩
       · simp only[Option.map_eq_some_iff] at h
         obtain⟨⟨y,r⟩,h1,h3⟩:=h
         cases h3
         have A:=(aB _ _ _ _ h1).trans (aN H [59] r)
         exact⟨((aJ H p).trans A).of (by omega),(iO c).trans A⟩
     rw[if_neg c] at h;clear c
     by_cases c:dn L gm p=true
     · rw[if_pos c] at h
       simp only[Option.map_eq_some_iff] at h
       obtain⟨⟨y,r⟩,h1,h3⟩:=h
       cases h3
       have A:=(aB _ _ _ _ h1).trans (aN H [59] r)
       exact⟨((aJ H p).trans A).of (by omega),(iO c).trans A⟩
     rw[if_neg c] at h
     exact SB H h
   · rw[fQ] at h
     simp only[Option.map_eq_some_iff] at h
     obtain⟨⟨y,r⟩,h1,h3⟩:=h
     cases h3
     have A:=(i3 _ _ _ _ h1).trans (bU H [125] r)
     exact⟨((bf H [123] p).trans A).of (by omega),(P5 [123] p).trans A⟩
   · rw[iy] at h
     split at h
     · cases h;exact gK.refl _
     · simp only[Option.bind_eq_some_iff] at h
       obtain⟨⟨y,r⟩,h1,h2⟩:=h
       exact ((i1 _ _ _ h1).1.trans (i3 _ _ _ _ h2)).of (by omega)
def ac6 (L:List Tok) (n:Nat):Prop:=
 (∀ p,p.a<L.length→12*mu L p+10≤n→(jd L n p).isSome=true)∧(∀ p,p.a<L.length→12*mu L p+12≤n→(fQ L n p).isSome=true)∧
 (∀ acc p,p.a<L.length→12*mu L p+11≤n→(iy L n acc p).isSome=true)
theorem abv (H:LW L):∀ n,ac6 L n
 | 0=>⟨fun _ _ h=>by omega,fun _ _ h=>by omega,fun _ _ _ h=>by omega⟩
 | n+1=>by
   obtain⟨i1,i2,i3⟩:=abv H n
   obtain⟨s1,s2,s3⟩:=Gv H n
   have aB:=(lh H n).1
   have fB:=(KC H n).1
   refine⟨fun p hv hn=>?_,fun p hv hn=>?_,fun acc p hv hn=>?_⟩
   · rw[jd]
     dsimp only
     by_cases hb:p.bad=true
     · have:∀ s,dn L s p=false:=fun s=>Nw hb
       simp only[this]
       exact BH H hv (by omega)
     have hb:p.bad=false:=by simpa using hb
     have hw:=(aJ H p).v hv
     have hp:=nT hb hv
     have mp:(tk L p).k≠8→mu L (bn L p)+1≤mu L p:=fun h=>nS (jD h) hb hv
     by_cases c:dn L l9 p=true
     · rw[if_pos c]
       have:=mp (iI c).2
       have A:=(dF H 1 (bn L p)).trans (aN H [58] _)
       have:=iq A
       refine eu (pY H n _ (A.v hw) (by omega)) fun r hr=>?_
       have B:=(dQ H n _ hr).trans (aN H [61] r.2)
       exact gX (fB 1 _ (B.v (A.v hw)) (by have:=iq B;omega))
     rw[if_neg c];clear c
     by_cases c:dn L uO p=true
     · rw[if_pos c]
       have:=mp (iI c).2
       refine eu (fB 1 _ hw (by omega)) fun r hr=>?_
       have A:=aB _ _ _ _ hr
       have:=iq A
       refine eu (i2 _ (A.v hw) (by omega)) fun r hr=>?_
       have B:=(s2 _ _ _ hr).1.trans (aJ H r.2)
       split
       · exact gX (i2 _ (B.v (A.v hw)) (by have:=iq B;omega))
       · rfl
     rw[if_neg c];clear c
     by_cases c:dn L fU p=true
     · rw[if_pos c]
       have:=mp (iI c).2
       refine eu (fB 1 _ hw (by omega)) fun r hr=>?_
       have A:=aB _ _ _ _ hr
       exact gX (i2 _ (A.v hw) (by have:=iq A;omega))
     rw[if_neg c];clear c
     by_cases c:dn L dE p=true
     · rw[if_pos c]
       have:=mp (iI c).2
       split
       · rfl
       · exact gX (fB 1 _ hw (by omega))
     rw[if_neg c];clear c
     by_cases c:dn L gm p=true
     · rw[if_pos c]
       have:=mp (iI c).2
       exact gX (fB 1 _ hw (by omega))
     rw[if_neg c]
     exact BH H hv (by omega)
   · rw[fQ]
     have A:=bf H [123] p
     exact gX (i3 _ _ (A.v hv) (by have:=iq A;omega))
   · rw[iy]
     split
     · rfl
     · rename_i c
       have hb:p.bad=false:=by
        cases e:p.bad with
        | false=>rfl
        | true=>exfalso;apply c;rw[e];rfl
       have:=nT hb hv
       refine eu (i1 _ hv (by omega)) fun r hr=>?_
       obtain⟨A,W⟩:=s1 _ _ _ hr
       have:=(jU W A hv).2
       exact i3 _ _ (A.v hv) (by omega)
theorem lQ (H:LW L):∀ (n:Nat) (acc:List Tr) (p:PS) {l:List Tr} {q:PS},gq L n acc p=some (l,q)→gK L p q 0
 | 0,_,_,_,_,h=>by cases h
 | n+1,acc,p,l,q,h=>by
   rw[gq] at h
   split at h
   · cases h;exact gK.refl _
   · simp only[Option.bind_eq_some_iff] at h
     obtain⟨⟨y,r⟩,h1,h2⟩:=h
     exact (((jA H h1).1.trans (aN H [59] r)).trans (lQ H n _ _ h2)).of (by omega)
theorem yU (H:LW L):∀ (n:Nat) (acc:List Tr) (p:PS),p.a<L.length→mu L p+2≤n→(gq L n acc p).isSome=true
 | 0,_,_,_,h=>by omega
 | n+1,acc,p,hv,hn=>by
   rw[gq]
   split
   · rfl
   · rename_i c
     have hb:p.bad=false:=by
      cases e:p.bad with
      | false=>rfl
      | true=>exfalso;apply c;rw[e];rfl
     have:=nT hb hv
     refine eu (BI H hv (by omega)) fun r hr=>?_
     obtain⟨A,W⟩:=jA H hr
     have A2:=A.trans (aN H [59] r.2)
     have:=(jU (W.trans (aN H [59] r.2)) A2 hv).2
     exact yU H n _ _ (A2.v hv) (by omega)
theorem kJ (H:LW L):∀ (n:Nat) (f:Bool) (acc:List Tr) (p:PS) {l:List Tr} {q:PS},eH L n f acc p=some (l,q)→gK L p q 0
 | 0,_,_,_,_,_,h=>by cases h
 | n+1,f,acc,p,l,q,h=>by
   rw[eH] at h
   split at h
   · cases h;exact gK.refl _
   · simp only[Option.bind_eq_some_iff] at h
     obtain⟨⟨y,r⟩,h1,h2⟩:=h
     have h0:gK L p (if f=true then p else bM L [44] p) 0:=by
      split
      · exact gK.refl p
      · exact aN H _ p
     exact ((h0.trans (jA H h1).1).trans (kJ H n _ _ _ h2)).of (by omega)
theorem yV (H:LW L):∀ (n:Nat) (f:Bool) (acc:List Tr) (p:PS),p.a<L.length→mu L p+2≤n→(eH L n f acc p).isSome=true
 | 0,_,_,_,_,h=>by omega
 | n+1,f,acc,p,hv,hn=>by
   rw[eH]
   split
   · rfl
   · rename_i c
     have hb:p.bad=false:=by
      cases e:p.bad with
      | false=>rfl
      | true=>exfalso;apply c;rw[e];rfl
     have h0:gK L p (if f=true then p else bM L [44] p) 0:=by
      split
      · exact gK.refl p
      · exact aN H _ p
     have:=nT hb hv
     have:=iq h0
     refine eu (BI H (h0.v hv) (by omega)) fun r hr=>?_
     obtain⟨A,W⟩:=jA H hr
     have:=(jU W A (h0.v hv)).2
     exact yV H n _ _ _ (A.v (h0.v hv)) (by omega)
theorem nI (H:LW L) {n:Nat} {p q:PS} {t:Tr} (h:gu L n p=some (t,q)):gK L p q 0∧lJ p q:=by
 unfold gu at h
 simp only[Option.map_eq_some_iff] at h
 obtain⟨⟨y,r⟩,h1,h2⟩:=h
 cases h2
 have A:=(((dF H 2 (bM L jJ p)).trans (bf H [123] _)).trans (lQ H n _ _ h1)).trans (bU H [125] r)
 exact⟨((aN H jJ p).trans A).of (by omega),(yD jJ p).trans A⟩
theorem KD (H:LW L) {n:Nat} {p:PS} (hv:p.a<L.length) (hn:mu L p+2≤n):(gu L n p).isSome=true:=by
 unfold gu
 have A:=((aN H jJ p).trans (dF H 2 _)).trans (bf H [123] _)
 exact gX (yU H n _ _ (A.v hv) (by have:=iq A;omega))
theorem AL (H:LW L) {n:Nat} {p q:PS} {t:Tr} (h:Ih L n p=some (t,q)):gK L p q 0∧lJ p q:=by
 unfold Ih at h
 simp only[Option.map_eq_some_iff,Option.bind_eq_some_iff] at h
 obtain⟨⟨y,r⟩,h1,⟨z,v⟩,h2,⟨e,w⟩,h3,h4⟩:=h
 cases h4
 have B:gK L (dD L [41] r) v 0:=by
  split at h2
  · exact ((aJ H _).trans (dQ H n _ h2)).of (by omega)
  · cases h2;exact gK.refl _
 have A:=(((((dF H 1 (bM L sZ p)).trans (bf H [40] _)).trans (kJ H n _ _ _ h1)).trans (bU H [41] r)).trans B).trans ((Gv H n).2.1 _ _ _ h3).1
 exact⟨((aN H sZ p).trans A).of (by omega),(yD sZ p).trans A⟩
theorem ZT (H:LW L) {n:Nat} {p:PS} (hv:p.a<L.length) (hn:12*mu L p+12≤n):(Ih L n p).isSome=true:=by
 unfold Ih
 have A:=((aN H sZ p).trans (dF H 1 _)).trans (bf H [40] _)
 refine eu (yV H n _ _ _ (A.v hv) (by have:=iq A;omega)) fun r hr=>?_
 have B:=(A.trans (kJ H n _ _ _ hr)).trans (bU H [41] r.2)
 have C:=B.trans (aJ H _)
 have k:((if dn L [58] (dD L [41] r.2) then fK L n (bn L (dD L [41] r.2)) else some (Tr.nd 14 0 0 0 [] [],dD L [41] r.2))).isSome=true:=by
  split
  · exact pY H n _ (C.v hv) (by have:=iq C;omega)
  · rfl
 refine eu k fun y hy=>?_
 have D:gK L (dD L [41] r.2) y.2 0:=by
  split at hy
  · exact ((aJ H _).trans (dQ H n _ hy)).of (by omega)
  · cases hy;exact gK.refl _
 have E:=B.trans D
 exact gX ((abv H n).2.1 _ (E.v hv) (by have:=iq E;omega))
theorem jy (H:LW L):∀ (n:Nat) (acc:List Tr) (p:PS) {l:List Tr} {q:PS},fP L n acc p=some (l,q)→gK L p q 0
 | 0,_,_,_,_,h=>by cases h
 | n+1,acc,p,l,q,h=>by
   rw[fP] at h
   split at h
   · cases h;exact gK.refl _
   split at h
   · simp only[Option.bind_eq_some_iff] at h
     obtain⟨⟨y,r⟩,h1,h2⟩:=h
     exact ((nI H h1).1.trans (jy H n _ _ h2)).of (by omega)
   split at h
   · simp only[Option.bind_eq_some_iff] at h
     obtain⟨⟨y,r⟩,h1,h2⟩:=h
     exact ((AL H h1).1.trans (jy H n _ _ h2)).of (by omega)
   · exact ((fE 5 p).trans (jy H n _ _ h)).of (by omega)
theorem qJ (H:LW L):∀ (n:Nat) (acc:List Tr) (p:PS),p.a<L.length→12*mu L p+13≤n→(fP L n acc p).isSome=true
 | 0,_,_,_,h=>by omega
 | n+1,acc,p,hv,hn=>by
   rw[fP]
   split
   · rfl
   · rename_i c
     have hb:p.bad=false:=by
      cases e:p.bad with
      | false=>rfl
      | true=>exfalso;apply c;rw[e];rfl
     have:=nT hb hv
     split
     · refine eu (KD H hv (by omega)) fun r hr=>?_
       obtain⟨A,W⟩:=nI H hr
       have:=(jU W A hv).2
       exact qJ H n _ _ (A.v hv) (by omega)
     split
     · refine eu (ZT H hv (by omega)) fun r hr=>?_
       obtain⟨A,W⟩:=AL H hr
       have:=(jU W A hv).2
       exact qJ H n _ _ (A.v hv) (by omega)
     · have A:=fE (L:=L) 5 p
       have:mu L (eF L 5 p)=0:=by unfold mu;rw[if_pos (iP (by decide) p)]
       exact qJ H n _ _ (A.v hv) (by omega)
end
end Go.Proofs.YtllbpdllkkcajaaGreatDoor
namespace Go.Proofs.YtllbpdllkkcajaaGreatDoor
open Go.RowKit
attribute [local go_sem] bI bH aj ah ag aS ax aQ aT fC jR jm ak says_again dG BE.den IE.den SE.den LE.den AE.den CE.den PE.den VE.den KV.val dO.den dO.cnt jO fD jX allL Ctx.push Ctx.heap Ctx.cut Ctx.bare Ctx.mark Inc.blank List.getD_cons_zero List.getD_cons_succ List.cons_append List.nil_append List.append_nil List.map_cons List.map_nil List.replicate_zero List.replicate_succ az dm bY dh cO dK dJ bC bz bD bW bV aH aX aI aG au aP aO dH af and_assoc
theorem YX (l:List Tok) (j:Nat):(rP l).drop (j*5)=rP (l.drop j):=by
 induction l generalizing j with
 | nil=>simp[rP]
 | cons a l ih=>
   cases j with
   | zero=>simp
   | succ j=>
     have:rP (a::l)=a.cs++rP l:=by simp[rP]
     rw[this,show (j+1)*5=a.cs.length+j*5 by simp[Tok.cs];omega,List.drop_append,List.drop_succ_cons,← ih]
     simp
def TS (h:Hp) (sl:bT) (l:List Tok):Prop:=sl.n=l.length∧(l=[]∨∃ b c T r,sl=⟨some (b,0),l.length,c⟩∧h b=some ⟨rP l++r,T⟩)
theorem TS.Ie {h:Hp} {sl:bT} {l:List Tok} {T:TypeId} (ho:fJ h sl (rP l) T 5) (hn:sl.n=l.length):TS h sl l:=by
 refine⟨hn,?_⟩
 rcases ho with ⟨_,hx⟩ | ⟨b,o,h1,h2,_,h4,h5,_,h7⟩
 · left
   cases l with
   | nil=>rfl
   | cons a l=>have:=congrArg List.length hx;rw[Aq] at this;simp at this
 · right
   obtain⟨cs,T'⟩:=o
   refine⟨b,sl.c,T',cs.drop (sl.n*5),?_,?_⟩
   · rw[← hn,← h1]
   · rw[h2,h7];simp only[List.take_append_drop]
theorem TS.le {h k:Hp} {sl:bT} {l:List Tok} (ht:TS h sl l) (hl:dP h k):TS k sl l:=by
 refine⟨ht.1,?_⟩
 rcases ht.2 with h0 | ⟨b,c,T,r,h1,h2⟩
 · exact .inl h0
 · exact .inr ⟨b,c,T,r,h1,hl _ _ h2⟩
theorem TS.read {h:Hp} {b:Nat} {l:List Tok} {r:List Value} {T:TypeId} (hb:h b=some ⟨rP l++r,T⟩) {j:Nat} (hj:j<l.length):
 hread h (some (b,j*5)) 5=some [.int .u8 l[j].k,.int .i64 l[j].l,.int .i64 l[j].c,.int .i64 l[j].n,.string (B l[j].x)]:=by
 have hlen:=Aq l
 rw[bu hb,if_pos (by simp only[List.length_append];omega)]
 simp only
 rw[List.drop_append_of_le_length (by omega),YX,List.drop_eq_getElem_cons hj]
 rw[rP,List.flatMap_cons]
 rfl
end Go.Proofs.YtllbpdllkkcajaaGreatDoor
namespace Go.Proofs.YtllbpdllkkcajaaGreatDoor
open Go.RowKit
attribute [local go_sem] bI bH aj ah ag aS ax aQ aT fC jR jm ak says_again dG BE.den IE.den SE.den LE.den AE.den CE.den PE.den VE.den KV.val dO.den dO.cnt jO fD jX allL Ctx.push Ctx.heap Ctx.cut Ctx.bare Ctx.mark Inc.blank List.getD_cons_zero List.getD_cons_succ List.cons_append List.nil_append List.append_nil List.map_cons List.map_nil List.replicate_zero List.replicate_succ az dm bY dh cO dK dJ bC bz bD bW bV aH aX aI aG au aP aO dH af and_assoc
def Pls (s:List UInt8):Nat→List Tok→Prop
 | _,[]=>False
 | i,t::l=>i+kH false s i≤s.length∧(t.l,t.c)=pl s (i+kH false s i)∧
   ((i+kH false s i=s.length∧t.k=8∧l=[])∨
     (i+kH false s i<s.length∧(one s (i+kH false s i)).f=0∧t.k=(one s (i+kH false s i)).k∧t.n=(one s (i+kH false s i)).n∧t.x=(one s (i+kH false s i)).x∧t.k≠8∧l≠[]∧Pls s (one s (i+kH false s i)).e l))
theorem Xo {k most:Int} {d:List UInt8} {e:Nat} (h:(pJ k most d e).1=0):(pJ k most d e).2.1=k:=by
 unfold pJ at h⊢
 split
 · rfl
 · rename_i h1;rw[if_neg h1] at h;exact absurd h (by decide)
theorem adF {s:List UInt8} {i:Nat} (h:(one s i).f=0):(one s i).k≠8:=by
 unfold one at h⊢
 split
 · simp only;unfold qj;split
   · decide
   · split<;>decide
 · rename_i h1
   rw[if_neg h1] at h
   split
   · rename_i h2
     rw[if_pos h2] at h
     simp only at h⊢
     unfold nm at h⊢
     split
     · rename_i h3;rw[if_pos h3] at h;rw[Xo h];decide
     · rename_i h3
       rw[if_neg h3] at h
       split
       · rename_i h4;rw[if_pos h4] at h;rw[Xo h];decide
       · rename_i h4;rw[if_neg h4] at h;exact absurd h (by decide)
   · rename_i h2
     rw[if_neg h2] at h
     split
     · rename_i h3
       rw[if_pos h3] at h
       cases hq:C9 (s.drop i) with
       | none=>rw[hq] at h;simp at h
       | some r=>simp
     · rename_i h3
       rw[if_neg h3] at h
       split
       · rename_i h4;rw[if_pos h4] at h;simp at h
       · simp
theorem KZ:∀ (m:Nat) (s:List UInt8) (i:Nat) (acc:List Tok),i≤s.length→s.length<m+i→(Ed m s i (pl s i) acc).1.1=0→∃ l,(Ed m s i (pl s i) acc).2=acc++l∧Pls s i l
 | 0,s,i,acc,hi,hm,_=>by omega
 | m+1,s,i,acc,hi,hm,h=>by
   have hj:=PN (s:=s) (i:=i) false hi
   rw[Ed] at h⊢
   rw[CY (Nat.le_add_right i _) hj] at h⊢
   split
   · rename_i h1
     exact⟨[_],rfl,hj,rfl,.inl ⟨by omega,rfl,rfl⟩⟩
   · rename_i h1
     rw[if_neg h1] at h
     split
     · rename_i h2
       rw[if_pos h2] at h
       obtain⟨o1,o2,_⟩:=x8 (by omega) h2
       rw[CY (by omega) o2] at h⊢
       obtain⟨l,hl,hp⟩:=KZ m s _ _ o2 (by omega) h
       refine⟨_::l,by rw[hl];simp;rfl,hj,rfl,.inr ⟨by omega,h2,rfl,rfl,rfl,adF h2,?_,hp⟩⟩
       rintro rfl
       exact hp
     · rename_i h2
       rw[if_neg h2] at h
       exact absurd h h2
end Go.Proofs.YtllbpdllkkcajaaGreatDoor
namespace Go.Proofs.YtllbpdllkkcajaaGreatDoor
open Go.RowKit
def abj (s:List UInt8) (t:Tok):Prop:=∃ j,j<s.length∧(one s j).f=0∧t.k=(one s j).k∧t.n=(one s j).n∧t.x=(one s j).x∧t.k≠8
theorem O6 {s:List UInt8}:∀ {l:List Tok} {i:Nat},Pls s i l→LW l∧∀ t∈l,t.k=8∨abj s t
 | [],_,h=>by cases h
 | t::l,i,⟨_,_,h3⟩=>by
   rcases h3 with ⟨_,h5,rfl⟩ | ⟨h4,h5,h6,h7,h8,h9,h10,h11⟩
   · refine⟨⟨by simp,by simpa using h5⟩,fun u hu=>?_⟩
     rw[List.mem_singleton] at hu;subst hu;exact .inl h5
   · obtain⟨⟨p,q⟩,r⟩:=O6 h11
     refine⟨⟨by simp,?_⟩,fun u hu=>?_⟩
     · obtain⟨n,hn⟩:∃ n,l.length=n+1:=⟨l.length - 1,by omega⟩
       rw[List.length_cons,hn,Nat.add_sub_cancel,List.getD_cons_succ]
       rw[hn,Nat.add_sub_cancel] at q
       exact q
     · rcases List.mem_cons.mp hu with rfl | hu
       · exact .inr ⟨_,h4,h5,h6,h7,h8,h9⟩
       · exact r u hu
theorem aaq (s:List UInt8):pl s 0=(1,1):=by simp[pl,sub];rfl
theorem uY {s:List UInt8} (h:(bQ s).1.1=0):Pls s 0 (bQ s).2:=by
 unfold bQ at h⊢
 rw[← aaq s] at h⊢
 obtain⟨l,h1,h2⟩:=KZ (s.length+1) s 0 [] (Nat.zero_le _) (by omega) h
 rw[h1];exact h2
end Go.Proofs.YtllbpdllkkcajaaGreatDoor
namespace Go.Proofs.YtllbpdllkkcajaaGreatDoor
open Go.RowKit
section
variable {L:List Tok}
def Plc (L:List Tok) (x:zB):Prop:=(∃ a,a<L.length∧x.l=(L.getD a ⟨8,0,0,0,[]⟩).l∧x.c=(L.getD a ⟨8,0,0,0,[]⟩).c)∨(x.k=14∧x.l=0∧x.c=0)
def IX (L:List Tok) (t:Tr):Prop:=∀ x∈t.qL,Plc L x
def AC (L:List Tok) (l:List Tr):Prop:=∀ x∈Tr.jc l,Plc L x
def Kd (t:Tr):Prop:=21≤t.k∧t.k≤32
def Tr.n (t:Tr):Nat:=t.qL.length
def Tr.ns (l:List Tr):Nat:=(Tr.jc l).length
theorem ql:∀ a b:List Tr,Tr.jc (a++b)=Tr.jc a++Tr.jc b
 | [],b=>rfl
 | t::a,b=>by simp[Tr.jc,ql a b]
theorem FN:Tr.jc []=[]:=rfl
theorem qM (t:Tr) (l:List Tr):Tr.jc (t::l)=t.qL++Tr.jc l:=rfl
theorem oH (k:Int) (t:Tok) (n:Int) (x:List UInt8) (ks:List Tr):(nd k t n x ks).n=Tr.ns ks+1:=by simp[nd,Tr.n,Tr.ns,Tr.qL]
theorem bg:Tr.ns []=0:=rfl
theorem aA (t:Tr) (l:List Tr):Tr.ns (t::l)=t.n+Tr.ns l:=by simp[Tr.n,Tr.ns,qM]
theorem nU (a b:List Tr):Tr.ns (a++b)=Tr.ns a+Tr.ns b:=by simp[Tr.ns,ql]
theorem mP:AC L []:=fun _ h=>by cases h
theorem iZ {t:Tr} {l:List Tr} (h:IX L t) (k:AC L l):AC L (t::l):=fun x hx=>by
 rw[qM] at hx
 rcases List.mem_append.1 hx with hx | hx
 · exact h x hx
 · exact k x hx
theorem qp {a b:List Tr} (h:AC L a) (k:AC L b):AC L (a++b):=fun x hx=>by
 rw[ql] at hx
 rcases List.mem_append.1 hx with hx | hx
 · exact h x hx
 · exact k x hx
theorem dY {t:Tr} (h:IX L t):AC L [t]:=iZ h mP
theorem fG {p:PS} (hv:p.a<L.length) {k n:Int} {x:List UInt8} {ks:List Tr} (h:AC L ks):IX L (nd k (tk L p) n x ks):=fun y hy=>by
 unfold nd at hy
 rw[Tr.qL] at hy
 rcases List.mem_cons.1 hy with rfl | hy
 · exact .inl ⟨p.a,hv,rfl,rfl⟩
 · exact h y hy
theorem ay {p q:PS} {e:Int} (h:gK L p q e) (hq:q.bad=false):p.bad=false:=by
 cases c:p.bad with
 | false=>rfl
 | true=>rw[Qa (h.b c),c] at hq;cases hq
theorem dI {p:PS} (h:(tk L p).k≠8):(bn L p).a=p.a+1:=by unfold bn;rw[if_neg h]
theorem iE {s:List UInt8} {p:PS} (h:(bM L s p).bad=false):dn L s p=true∧bM L s p=bn L p∧(bM L s p).a=p.a+1:=by
 unfold bM at h⊢
 split at h
 · rename_i c
   rw[if_pos c]
   exact⟨c,rfl,dI (iI c).2⟩
 · rw[iP (by decide) p] at h;cases h
theorem dS {s:List UInt8} {p:PS} (h:(dX L s p).bad=false):dn L s p=true∧p.d≠40∧dX L s p={ bn L p with d:=(bn L p).d+1 }∧(dX L s p).a=p.a+1:=by
 unfold dX at h⊢
 by_cases c:(dn L s p&&p.d==40)=true
 · simp only[c,if_true] at h
   have hb:(eF L 6 p).bad=true:=iP (by decide) p
   have h':(bM L s (eF L 6 p)).bad=false:=h
   have:=(iE h').1
   rw[Nw hb] at this;cases this
 · simp only[if_neg c] at h⊢
   have h':(bM L s p).bad=false:=h
   obtain⟨h1,h2,h3⟩:=iE h'
   refine⟨h1,fun e=>c (by rw[h1,e];rfl),by rw[h2],h3⟩
theorem jB {s:List UInt8} {p:PS} (h:(dD L s p).bad=false):dn L s p=true∧dD L s p={ bn L p with d:=(bn L p).d - 1 }∧(dD L s p).a=p.a+1:=by
 have h':(bM L s p).bad=false:=h
 obtain⟨h1,h2,h3⟩:=iE h'
 exact⟨h1,by unfold dD;rw[h2],h3⟩
theorem kR {k:Int} (hk:k≠8) {p:PS} (h:(gW L k p).bad=false):p.bad=false∧(tk L p).k=k∧gW L k p=bn L p∧(gW L k p).a=p.a+1:=by
 unfold gW at h⊢
 split at h
 · rw[iP (by decide) p] at h;cases h
 · rename_i c
   rw[if_neg c]
   simp only[Bool.or_eq_true,Bool.not_eq_true',beq_eq_false_iff_ne,not_or] at c
   have c2:(tk L p).k=k:=by have:=c.2;simp at this;exact this
   exact⟨by simpa using c.1,c2,rfl,dI (by omega)⟩
theorem lG {e:Int} (he:e≠0) {p:PS} (h:(eF L e p).bad=false):False:=by rw[iP he p] at h;cases h
structure Nb (L:List Tok) (p:PS) (t:Tr) (q:PS):Prop where
 cnt:q.bad=false→t.n+p.a≤q.a
 plc:p.a<L.length→IX L t
structure ab1 (L:List Tok) (p:PS) (x t:Tr) (q:PS):Prop where
 cnt:q.bad=false→t.n+p.a≤q.a+x.n
 plc:p.a<L.length→IX L x→IX L t
 kd:Kd x→Kd t
structure SA (L:List Tok) (p:PS) (a l:List Tr) (q:PS):Prop where
 cnt:q.bad=false→Tr.ns l+p.a≤q.a+Tr.ns a
 plc:p.a<L.length→AC L a→AC L l
theorem nZ {p q:PS} {k n:Int} {x:List UInt8} (h:q.bad=false→1+p.a≤q.a):Nb L p (nd k (tk L p) n x []) q:=⟨fun hq=>by rw[oH,bg];have:=h hq;omega,fun hv=>fG hv mP⟩
theorem sQ (H:LW L):∀ (n:Nat) (p:PS) {t:Tr} {q:PS},fK L n p=some (t,q)→Nb L p t q∧15≤t.k∧t.k≤20
 | 0,p,t,q,h=>by cases h
 | n+1,p,t,q,h=>by
   have kk:∀ (k:Int) (u:Tok) (m:Int) (x:List UInt8) (ks:List Tr),(nd k u m x ks).k=k:=fun _ _ _ _ _=>rfl
   rw[fK] at h
   have pas:∀ {k m:Int} {x:List UInt8} {s:List UInt8},dn L s p=true→Nb L p (nd k (tk L p) m x []) (bn L p):=fun c=>nZ fun _=>by rw[dI (iI c).2];omega
   split at h
   · rename_i c
     cases h;exact⟨nZ fun hq=>(by rw[c] at hq;cases hq),by rw[kk];omega⟩
   split at h
   · cases h;exact⟨pas (by assumption),by rw[kk];omega⟩
   split at h
   · cases h;exact⟨pas (by assumption),by rw[kk];omega⟩
   split at h
   · cases h;exact⟨pas (by assumption),by rw[kk];omega⟩
   split at h
   · cases h;exact⟨pas (by assumption),by rw[kk];omega⟩
   split at h
   · rename_i c
     cases h;exact⟨nZ fun _=>by rw[dI (by omega)];omega,by rw[kk];omega⟩
   split at h
   · simp only[Option.map_eq_some_iff] at h
     obtain⟨⟨x,r⟩,h1,h2⟩:=h
     cases h2
     obtain⟨R,_,_⟩:=sQ H n _ h1
     refine⟨⟨fun hq=>?_,fun hv=>?_⟩,by rw[kk];omega⟩
     · obtain⟨_,_,g3⟩:=jB hq
       have hr:=ay (bU H [93] r) hq
       have:=R.cnt hr
       obtain⟨_,_,_,g4⟩:=dS (ay (dQ H n _ h1) hr)
       rw[oH,aA,bg];dsimp only at *;omega
     · exact fG hv (dY (R.plc ((bf H _ p).v hv)))
   · cases h;exact⟨nZ fun hq=>(lG (by decide) hq).elim,by rw[kk];omega⟩
def adV (L:List Tok) (n:Nat):Prop:=
 (∀ lvl p t q,eQ L n lvl p=some (t,q)→Nb L p t q∧Kd t)∧(∀ lvl x p t q,jQ L n lvl x p=some (t,q)→ab1 L p x t q)∧(∀ p t q,wP L n p=some (t,q)→Nb L p t q∧Kd t)∧
 (∀ x p t q,jr L n x p=some (t,q)→ab1 L p x t q)∧(∀ p t q,fO L n p=some (t,q)→Nb L p t q∧Kd t)∧(∀ f acc p l q,iY L n f acc p=some (l,q)→SA L p acc l q)
theorem uG {k:Int} (h:21≤k∧k≤32) (t:Tok) (n:Int) (x:List UInt8) (ks:List Tr):Kd (nd k t n x ks):=h
theorem Yz (H:LW L):∀ n,adV L n
 | 0=>⟨fun _ _ _ _ h=>(by cases h),fun _ _ _ _ _ h=>(by cases h),fun _ _ _ h=>(by cases h),fun _ _ _ _ h=>(by cases h),fun _ _ _ h=>(by cases h),fun _ _ _ _ _ h=>(by cases h)⟩
 | n+1=>by
   obtain⟨i1,i2,i3,i4,i5,i6⟩:=Yz H n
   obtain⟨a1,a2,a3,a4,a5,a6⟩:=lh H n
   refine⟨fun lvl p t q h=>?_,fun lvl x p t q h=>?_,fun p t q h=>?_,fun x p t q h=>?_,fun p t q h=>?_,fun f acc p l q h=>?_⟩
   · rw[eQ] at h
     split at h
     · exact i3 _ _ _ h
     · simp only[Option.bind_eq_some_iff] at h
       obtain⟨⟨y,r⟩,h1,h2⟩:=h
       obtain⟨R,K⟩:=i1 _ _ _ _ h1
       have S:=i2 _ _ _ _ _ h2
       refine⟨⟨fun hq=>?_,fun hv=>S.plc ((a1 _ _ _ _ h1).v hv) (R.plc hv)⟩,S.kd K⟩
       have:=S.cnt hq
       have:=R.cnt (ay (a2 _ _ _ _ _ h2) hq)
       dsimp only at *;omega
   · rw[jQ] at h
     split at h
     · cases h;exact⟨fun _=>by omega,fun _ h=>h,id⟩
     · rename_i c
       simp only[Option.bind_eq_some_iff] at h
       obtain⟨⟨y,r⟩,h1,h2⟩:=h
       obtain⟨R,K⟩:=i1 _ _ _ _ h1
       have gp:=dI (CV c).2
       have key:ab1 L p x (nd 31 (tk L p) (xI L lvl p) [] [x,y]) r:=by
        refine⟨fun hq=>?_,fun hv hx=>?_,fun _=>uG (by omega) _ _ _ _⟩
        · have:=R.cnt hq
          rw[oH,aA,aA,bg];omega
        · exact fG hv (iZ hx (dY (R.plc ((aJ H p).v hv))))
       split at h2
       · cases h2;exact key
       · have S:=i2 _ _ _ _ _ h2
         refine⟨fun hq=>?_,fun hv hx=>S.plc ((a1 _ _ _ _ h1).v ((aJ H p).v hv)) (key.plc hv hx),fun k=>S.kd (key.kd k)⟩
         have:=S.cnt hq
         have:=key.cnt (ay (a2 _ _ _ _ _ h2) hq)
         dsimp only at *;omega
   · have un:∀ {s:List UInt8} {m:Int},dn L s p=true→(wP L n (dX L (tk L p).x p)).map (fun r=>(nd 30 (tk L p) m [] [r.1],{ r.2 with d:=r.2.d - 1 }))=some (t,q)→Nb L p t q∧Kd t:=by
      intro s m c h
      simp only[Option.map_eq_some_iff] at h
      obtain⟨⟨y,r⟩,h1,h2⟩:=h
      cases h2
      obtain⟨R,K⟩:=i3 _ _ _ h1
      refine⟨⟨fun hq=>?_,fun hv=>fG hv (dY (R.plc ((bf H _ p).v hv)))⟩,uG (by omega) _ _ _ _⟩
      have hr:r.bad=false:=hq
      have:=R.cnt hr
      obtain⟨_,_,_,g4⟩:=dS (ay (a3 _ _ _ h1) hr)
      rw[oH,aA,bg]
      show _≤r.a
      dsimp only at *;omega
     rw[wP] at h
     split at h
     · exact un (by assumption) h
     · split at h
       · exact un (by assumption) h
       · simp only[Option.bind_eq_some_iff] at h
         obtain⟨⟨y,r⟩,h1,h2⟩:=h
         obtain⟨R,K⟩:=i5 _ _ _ h1
         have S:=i4 _ _ _ _ h2
         refine⟨⟨fun hq=>?_,fun hv=>S.plc ((a5 _ _ _ h1).v hv) (R.plc hv)⟩,S.kd K⟩
         have:=S.cnt hq
         have:=R.cnt (ay (a4 _ _ _ _ h2) hq)
         dsimp only at *;omega
   · rw[jr] at h
     split at h
     · simp only[Option.bind_eq_some_iff] at h
       obtain⟨⟨y,r⟩,h1,h2⟩:=h
       obtain⟨R,K⟩:=i1 _ _ _ _ h1
       have S:=i4 _ _ _ _ h2
       refine⟨fun hq=>?_,fun hv hx=>S.plc ((bU H [93] r).v ((a1 _ _ _ _ h1).v ((bf H _ p).v hv))) (fG hv (iZ hx (dY (R.plc ((bf H _ p).v hv))))),fun _=>S.kd (uG (by omega) _ _ _ _)⟩
       have e1:=S.cnt hq
       have hs:=ay (a4 _ _ _ _ h2) hq
       obtain⟨_,_,g3⟩:=jB hs
       have hr:=ay (bU H [93] r) hs
       have:=R.cnt hr
       obtain⟨_,_,_,g4⟩:=dS (ay (a1 _ _ _ _ h1) hr)
       rw[oH,aA,aA,bg] at e1
       dsimp only at *;omega
     · split at h
       · rename_i c
         have S:=i4 _ _ _ _ h
         refine⟨fun hq=>?_,fun hv hx=>S.plc ((dF H 1 _).v ((aJ H p).v hv)) (fG hv (dY hx)),fun _=>S.kd (uG (by omega) _ _ _ _)⟩
         have e1:=S.cnt hq
         have hs:=ay (a4 _ _ _ _ h) hq
         obtain⟨_,_,_,g4⟩:=kR (by decide) hs
         have g5:=dI (iI c).2
         rw[oH,aA,bg] at e1
         omega
       · cases h;exact⟨fun _=>by omega,fun _ h=>h,id⟩
   · rw[fO] at h
     have leaf:∀ {k m:Int} {x:List UInt8},21≤k∧k≤32→(tk L p).k≠8→Nb L p (nd k (tk L p) m x []) (bn L p)∧Kd (nd k (tk L p) m x []):=fun hk h8=>⟨nZ fun _=>by rw[dI h8];omega,uG hk _ _ _ _⟩
     by_cases c:p.bad=true
     · rw[if_pos c] at h;cases h
       exact⟨nZ fun hq=>(by rw[c] at hq;cases hq),uG (by omega) _ _ _ _⟩
     rw[if_neg c] at h;clear c
     by_cases c:(tk L p).k=3
     · rw[if_pos c] at h;cases h;exact leaf (by omega) (by omega)
     rw[if_neg c] at h;clear c
     by_cases c:(tk L p).k=4
     · rw[if_pos c] at h;cases h;exact leaf (by omega) (by omega)
     rw[if_neg c] at h;clear c
     by_cases c:(tk L p).k=5
     · rw[if_pos c] at h;cases h;exact leaf (by omega) (by omega)
     rw[if_neg c] at h;clear c
     by_cases c:dn L jv p=true
     · rw[if_pos c] at h;cases h;exact leaf (by omega) (iI c).2
     rw[if_neg c] at h;clear c
     by_cases c:dn L gB p=true
     · rw[if_pos c] at h;cases h;exact leaf (by omega) (iI c).2
     rw[if_neg c] at h;clear c
     by_cases c:dn L oz p=true
     · rw[if_pos c] at h;cases h;exact leaf (by omega) (iI c).2
     rw[if_neg c] at h;clear c
     by_cases c:(tk L p).k=1
     · rw[if_pos c] at h
       have gp:=dI (L:=L) (p:=p) (by omega)
       by_cases c2:dn L [40] (bn L p)=true
       · rw[if_pos c2] at h
         simp only[Option.map_eq_some_iff] at h
         obtain⟨⟨y,r⟩,h1,h2⟩:=h
         cases h2
         have S:=i6 _ _ _ _ _ h1
         refine⟨⟨fun hq=>?_,fun hv=>fG hv (S.plc ((bf H _ _).v ((aJ H p).v hv)) mP)⟩,uG (by omega) _ _ _ _⟩
         obtain⟨_,_,g3⟩:=jB hq
         have hr:=ay (bU H [41] r) hq
         have e1:=S.cnt hr
         obtain⟨_,_,_,g4⟩:=dS (ay (a6 _ _ _ _ _ h1) hr)
         rw[oH];rw[bg] at e1
         dsimp only at *;omega
       · rw[if_neg c2] at h
         cases h;exact leaf (by omega) (by omega)
     rw[if_neg c] at h;clear c
     by_cases c:dn L [40] p=true
     · rw[if_pos c] at h
       simp only[Option.map_eq_some_iff] at h
       obtain⟨⟨y,r⟩,h1,h2⟩:=h
       cases h2
       obtain⟨R,K⟩:=i1 _ _ _ _ h1
       refine⟨⟨fun hq=>?_,fun hv=>R.plc ((bf H _ p).v hv)⟩,K⟩
       obtain⟨_,_,g3⟩:=jB hq
       have hr:=ay (bU H [41] r) hq
       have:=R.cnt hr
       obtain⟨_,_,_,g4⟩:=dS (ay (a1 _ _ _ _ h1) hr)
       dsimp only at *;omega
     rw[if_neg c] at h;clear c
     by_cases c:dn L eP p=true
     · rw[if_pos c] at h
       have gp:=dI (iI c).2
       simp only[Option.bind_eq_some_iff] at h
       obtain⟨⟨y,r⟩,h1,h2⟩:=h
       have h0:gK L (bn L p) (gV L p) 0:=by
        unfold gV;split
        · exact fE 5 _
        · exact gK.refl _
       obtain⟨R,_,_⟩:=sQ H n _ h1
       have hd:(gV L p).bad=false→(gV L p).a=p.a+1:=by
        unfold gV;split
        · exact fun h=>(lG (by decide) h).elim
        · exact fun _=>gp
       dsimp only at h2
       split at h2
       · simp only[Option.map_eq_some_iff] at h2
         obtain⟨⟨z,u⟩,h3,h4⟩:=h2
         cases h4
         obtain⟨S,K⟩:=i1 _ _ _ _ h3
         refine⟨⟨fun hq=>?_,fun hv=>?_⟩,uG (by omega) _ _ _ _⟩
         · obtain⟨_,_,g3⟩:=jB hq
           have hu:=ay (bU H [41] u) hq
           have:=S.cnt hu
           have ho:=ay (a1 _ _ _ _ h3) hu
           obtain⟨_,_,_,g4⟩:=dS ho
           have hr:=ay (bf H _ r) ho
           have:=R.cnt hr
           have:=hd (ay (dQ H n _ h1) hr)
           rw[oH,aA,aA,bg]
           dsimp only at *;omega
         · have v1:=h0.v ((aJ H p).v hv)
           exact fG hv (iZ (R.plc v1) (dY (S.plc ((bf H _ r).v ((dQ H n _ h1).v v1)))))
       · cases h2
         refine⟨⟨fun hq=>?_,fun hv=>fG hv (dY (R.plc (h0.v ((aJ H p).v hv))))⟩,uG (by omega) _ _ _ _⟩
         obtain⟨_,_,g3⟩:=jB hq
         have ho:=ay (bU H [41] _) hq
         obtain⟨_,_,_,g4⟩:=dS ho
         have hr:=ay (bf H _ r) ho
         have:=R.cnt hr
         have:=hd (ay (dQ H n _ h1) hr)
         rw[oH,aA,bg]
         dsimp only at *;omega
     rw[if_neg c] at h
     cases h;exact⟨nZ fun hq=>(lG (by decide) hq).elim,uG (by omega) _ _ _ _⟩
   · rw[iY] at h
     split at h
     · cases h;exact⟨fun _=>by omega,fun _ h=>h⟩
     · simp only[Option.bind_eq_some_iff] at h
       obtain⟨⟨y,r⟩,h1,h2⟩:=h
       have h0:gK L p (if f=true then p else bM L [44] p) 0:=by
        split
        · exact gK.refl p
        · exact aN H _ p
       obtain⟨R,K⟩:=i1 _ _ _ _ h1
       have S:=i6 _ _ _ _ _ h2
       refine⟨fun hq=>?_,fun hv ha=>S.plc ((a1 _ _ _ _ h1).v (h0.v hv)) (qp ha (dY (R.plc (h0.v hv))))⟩
       have e1:=S.cnt hq
       have:=R.cnt (ay (a6 _ _ _ _ _ h2) hq)
       have:=h0.a
       rw[nU,aA,bg] at e1
       dsimp only at *;omega
end
end Go.Proofs.YtllbpdllkkcajaaGreatDoor
namespace Go.Proofs.YtllbpdllkkcajaaGreatDoor
open Go.RowKit
section
variable {L:List Tok}
theorem FZ (H:LW L) {n:Nat} {k:Int} {p q:PS} {t:Tr} (h:iC L n k p=some (t,q)):Nb L p t q:=by
 unfold iC at h
 simp only[Option.map_eq_some_iff] at h
 obtain⟨⟨y,r⟩,h1,h2⟩:=h
 cases h2
 obtain⟨R,_⟩:=sQ H n _ h1
 have A1:=dF H 1 p
 have A2:=aN H [58] (gW L 1 p)
 refine⟨fun hq=>?_,fun hv=>fG hv (dY (R.plc (A2.v (A1.v hv))))⟩
 have:=R.cnt hq
 have hm:=ay (dQ H n _ h1) hq
 obtain⟨_,_,g1⟩:=iE hm
 obtain⟨_,_,_,g2⟩:=kR (by decide) (ay A2 hm)
 rw[oH,aA,bg]
 first | omega | (dsimp only at *;omega)
theorem UO (H:LW L) {n:Nat} {p q:PS} {t:Tr} (h:jG L n (tk L p) p=some (t,q)):Nb L p t q:=by
 unfold jG at h
 simp only[Option.bind_eq_some_iff] at h
 obtain⟨⟨y,r⟩,h1,h2⟩:=h
 dsimp only at h2
 obtain⟨R,_⟩:=(Yz H n).1 _ _ _ _ h1
 have Ad:=(lh H n).1 _ _ _ _ h1
 have one:Nb L p (nd 13 (tk L p) 0 [] [y]) (bM L [59] r):=by
  refine⟨fun hq=>?_,fun hv=>fG hv (dY (R.plc hv))⟩
  obtain⟨_,_,g1⟩:=iE hq
  have:=R.cnt (ay (aN H [59] r) hq)
  rw[oH,aA,bg]
  first | omega | (dsimp only at *;omega)
 split at h2
 · rename_i c
   cases h2
   exact⟨fun hq=>(by rw[c] at hq;cases hq),fun hv=>fG hv (dY (R.plc hv))⟩
 split at h2
 · rename_i c
   simp only[Option.map_eq_some_iff] at h2
   obtain⟨⟨z,v⟩,h3,h4⟩:=h2
   cases h4
   obtain⟨S,_⟩:=(Yz H n).1 _ _ _ _ h3
   have c1:dn L [61] r=true:=by simp only[Bool.and_eq_true] at c;exact c.1
   have gp:=dI (iI c1).2
   refine⟨fun hq=>?_,fun hv=>fG hv (iZ (R.plc hv) (dY (S.plc ((aJ H r).v (Ad.v hv)))))⟩
   obtain⟨_,_,g1⟩:=iE hq
   have hv:=ay (aN H [59] v) hq
   have:=S.cnt hv
   have:=R.cnt (ay (aJ H r) (ay ((lh H n).1 _ _ _ _ h3) hv))
   rw[oH,aA,aA,bg]
   first | omega | (dsimp only at *;omega)
 split at h2
 · cases h2
   refine⟨fun hq=>?_,one.plc⟩
   exact (lG (by decide) (ay (aN H [59] _) hq)).elim
 · cases h2;exact one
def ada (L:List Tok) (n:Nat):Prop:=
 (∀ p t q,jd L n p=some (t,q)→Nb L p t q)∧(∀ p t q,fQ L n p=some (t,q)→Nb L p t q)∧(∀ acc p l q,iy L n acc p=some (l,q)→SA L p acc l q)
theorem abO (H:LW L):∀ n,ada L n
 | 0=>⟨fun _ _ _ h=>(by cases h),fun _ _ _ h=>(by cases h),fun _ _ _ _ h=>(by cases h)⟩
 | n+1=>by
   obtain⟨i1,i2,i3⟩:=abO H n
   obtain⟨a1,a2,a3⟩:=Gv H n
   have eB:=(Yz H n).1
   have aB:=(lh H n).1
   refine⟨fun p t q h=>?_,fun p t q h=>?_,fun acc p l q h=>?_⟩
   · rw[jd] at h
     dsimp only at h
     have Ap:=aJ H p
     by_cases c:dn L l9 p=true
     · rw[if_pos c] at h
       simp only[Option.bind_eq_some_iff,Option.map_eq_some_iff] at h
       obtain⟨⟨y,r⟩,h1,⟨z,v⟩,h2,h3⟩:=h
       cases h3
       have gp:=dI (iI c).2
       obtain⟨R,_⟩:=sQ H n _ h1
       obtain⟨S,_⟩:=eB _ _ _ _ h2
       have Aw:=dF H 1 (bn L p)
       have Am:=aN H [58] (gW L 1 (bn L p))
       have Ak:=dQ H n _ h1
       have Ae:=aN H [61] r
       refine⟨fun hq=>?_,fun hv=>fG hv (iZ (R.plc (Am.v (Aw.v (Ap.v hv)))) (dY (S.plc (Ae.v (Ak.v (Am.v (Aw.v (Ap.v hv)))))))) ⟩
       obtain⟨_,_,g1⟩:=iE hq
       have b1:=ay (aN H [59] v) hq
       have:=S.cnt b1
       have b2:=ay (aB _ _ _ _ h2) b1
       obtain⟨_,_,g2⟩:=iE b2
       have b3:=ay Ae b2
       have:=R.cnt b3
       have b4:=ay Ak b3
       obtain⟨_,_,g3⟩:=iE b4
       obtain⟨_,_,_,g4⟩:=kR (by decide) (ay Am b4)
       rw[oH,aA,aA,bg]
       first | omega | (dsimp only at *;omega)
     rw[if_neg c] at h;clear c
     by_cases c:dn L uO p=true
     · rw[if_pos c] at h
       simp only[Option.bind_eq_some_iff] at h
       obtain⟨⟨y,r⟩,h1,⟨z,v⟩,h2,h3⟩:=h
       have gp:=dI (iI c).2
       obtain⟨R,_⟩:=eB _ _ _ _ h1
       have S:=i2 _ _ _ h2
       have Ae:=aB _ _ _ _ h1
       have Ab:=(a2 _ _ _ h2).1
       dsimp only at h3
       split at h3
       · rename_i ce
         simp only[Option.map_eq_some_iff] at h3
         obtain⟨⟨e,w⟩,h4,h5⟩:=h3
         cases h5
         have T:=i2 _ _ _ h4
         have gp2:=dI (iI ce).2
         refine⟨fun hq=>?_,fun hv=>fG hv (iZ (R.plc (Ap.v hv)) (iZ (S.plc (Ae.v (Ap.v hv))) (dY (T.plc ((aJ H v).v (Ab.v (Ae.v (Ap.v hv))))))))⟩
         have:=T.cnt hq
         have b1:=ay (aJ H v) (ay (a2 _ _ _ h4).1 hq)
         have:=S.cnt b1
         have:=R.cnt (ay Ab b1)
         rw[oH,aA,aA,aA,bg]
         first | omega | (dsimp only at *;omega)
       · cases h3
         refine⟨fun hq=>?_,fun hv=>fG hv (iZ (R.plc (Ap.v hv)) (dY (S.plc (Ae.v (Ap.v hv)))))⟩
         have:=S.cnt hq
         have:=R.cnt (ay Ab hq)
         rw[oH,aA,aA,bg]
         first | omega | (dsimp only at *;omega)
     rw[if_neg c] at h;clear c
     by_cases c:dn L fU p=true
     · rw[if_pos c] at h
       simp only[Option.bind_eq_some_iff,Option.map_eq_some_iff] at h
       obtain⟨⟨y,r⟩,h1,⟨z,v⟩,h2,h3⟩:=h
       cases h3
       have gp:=dI (iI c).2
       obtain⟨R,_⟩:=eB _ _ _ _ h1
       have S:=i2 _ _ _ h2
       have Ae:=aB _ _ _ _ h1
       have Ab:=(a2 _ _ _ h2).1
       refine⟨fun hq=>?_,fun hv=>fG hv (iZ (R.plc (Ap.v hv)) (dY (S.plc (Ae.v (Ap.v hv)))))⟩
       have:=S.cnt hq
       have:=R.cnt (ay Ab hq)
       rw[oH,aA,aA,bg]
       first | omega | (dsimp only at *;omega)
     rw[if_neg c] at h;clear c
     by_cases c:dn L dE p=true
     · rw[if_pos c] at h
       have gp:=dI (iI c).2
       split at h
       · cases h
         refine⟨fun hq=>?_,fun hv=>fG hv mP⟩
         obtain⟨_,_,g1⟩:=iE hq
         rw[oH,bg];omega
       · simp only[Option.map_eq_some_iff] at h
         obtain⟨⟨y,r⟩,h1,h3⟩:=h
         cases h3
         obtain⟨R,_⟩:=eB _ _ _ _ h1
         refine⟨fun hq=>?_,fun hv=>fG hv (dY (R.plc (Ap.v hv)))⟩
         obtain⟨_,_,g1⟩:=iE hq
         have:=R.cnt (ay (aN H [59] r) hq)
         rw[oH,aA,bg]
         first | omega | (dsimp only at *;omega)
     rw[if_neg c] at h;clear c
     by_cases c:dn L gm p=true
     · rw[if_pos c] at h
       have gp:=dI (iI c).2
       simp only[Option.map_eq_some_iff] at h
       obtain⟨⟨y,r⟩,h1,h3⟩:=h
       cases h3
       obtain⟨R,_⟩:=eB _ _ _ _ h1
       refine⟨fun hq=>?_,fun hv=>fG hv (dY (R.plc (Ap.v hv)))⟩
       obtain⟨_,_,g1⟩:=iE hq
       have:=R.cnt (ay (aN H [59] r) hq)
       rw[oH,aA,bg]
       first | omega | (dsimp only at *;omega)
     rw[if_neg c] at h
     exact UO H h
   · rw[fQ] at h
     simp only[Option.map_eq_some_iff] at h
     obtain⟨⟨y,r⟩,h1,h3⟩:=h
     cases h3
     have R:=i3 _ _ _ _ h1
     refine⟨fun hq=>?_,fun hv=>fG hv (R.plc ((bf H [123] p).v hv) mP)⟩
     obtain⟨_,_,g1⟩:=jB hq
     have b1:=ay (bU H [125] r) hq
     have e1:=R.cnt b1
     obtain⟨_,_,_,g2⟩:=dS (ay (a3 _ _ _ _ h1) b1)
     rw[bg] at e1
     rw[oH]
     first | omega | (dsimp only at *;omega)
   · rw[iy] at h
     split at h
     · cases h;exact⟨fun _=>by omega,fun _ h=>h⟩
     · simp only[Option.bind_eq_some_iff] at h
       obtain⟨⟨y,r⟩,h1,h2⟩:=h
       have R:=i1 _ _ _ h1
       have S:=i3 _ _ _ _ h2
       refine⟨fun hq=>?_,fun hv ha=>S.plc ((a1 _ _ _ h1).1.v hv) (qp ha (dY (R.plc hv)))⟩
       have e1:=S.cnt hq
       have:=R.cnt (ay (a3 _ _ _ _ h2) hq)
       rw[nU,aA,bg] at e1
       first | omega | (dsimp only at *;omega)
theorem Df (H:LW L):∀ (n:Nat) (acc:List Tr) (p:PS) {l:List Tr} {q:PS},gq L n acc p=some (l,q)→SA L p acc l q
 | 0,_,_,_,_,h=>by cases h
 | n+1,acc,p,l,q,h=>by
   rw[gq] at h
   split at h
   · cases h;exact⟨fun _=>by omega,fun _ h=>h⟩
   · simp only[Option.bind_eq_some_iff] at h
     obtain⟨⟨y,r⟩,h1,h2⟩:=h
     have R:=FZ H h1
     have S:=Df H n _ _ h2
     have At':=(jA H h1).1
     have Am:=aN H [59] r
     refine⟨fun hq=>?_,fun hv ha=>S.plc (Am.v (At'.v hv)) (qp ha (dY (R.plc hv)))⟩
     have e1:=S.cnt hq
     have:=R.cnt (ay Am (ay (lQ H n _ _ h2) hq))
     have:=Am.a
     rw[nU,aA,bg] at e1
     first | omega | (dsimp only at *;omega)
theorem Dh (H:LW L):∀ (n:Nat) (f:Bool) (acc:List Tr) (p:PS) {l:List Tr} {q:PS},eH L n f acc p=some (l,q)→SA L p acc l q
 | 0,_,_,_,_,_,h=>by cases h
 | n+1,f,acc,p,l,q,h=>by
   rw[eH] at h
   split at h
   · cases h;exact⟨fun _=>by omega,fun _ h=>h⟩
   · simp only[Option.bind_eq_some_iff] at h
     obtain⟨⟨y,r⟩,h1,h2⟩:=h
     have h0:gK L p (if f=true then p else bM L [44] p) 0:=by
      split
      · exact gK.refl p
      · exact aN H _ p
     have R:=FZ H h1
     have S:=Dh H n _ _ _ h2
     have At':=(jA H h1).1
     refine⟨fun hq=>?_,fun hv ha=>S.plc (At'.v (h0.v hv)) (qp ha (dY (R.plc (h0.v hv))))⟩
     have e1:=S.cnt hq
     have:=R.cnt (ay (kJ H n _ _ _ h2) hq)
     have:=h0.a
     rw[nU,aA,bg] at e1
     first | omega | (dsimp only at *;omega)
theorem Pv (H:LW L) {n:Nat} {p q:PS} {t:Tr} (h:gu L n p=some (t,q)):Nb L p t q:=by
 unfold gu at h
 simp only[Option.map_eq_some_iff] at h
 obtain⟨⟨y,r⟩,h1,h2⟩:=h
 cases h2
 have R:=Df H n _ _ h1
 have Am:=aN H jJ p
 have Aw:=dF H 2 (bM L jJ p)
 have Ao:=bf H [123] (gW L 2 (bM L jJ p))
 refine⟨fun hq=>?_,fun hv=>fG hv (R.plc (Ao.v (Aw.v (Am.v hv))) mP)⟩
 obtain⟨_,_,g1⟩:=jB hq
 have b1:=ay (bU H [125] r) hq
 have e1:=R.cnt b1
 obtain⟨_,_,_,g2⟩:=dS (ay (lQ H n _ _ h1) b1)
 have:=Am.a
 have:=Aw.a
 rw[bg] at e1
 rw[oH]
 first | omega | (dsimp only at *;omega)
theorem acP (H:LW L) {n:Nat} {p q:PS} {t:Tr} (h:Ih L n p=some (t,q)):Nb L p t q:=by
 unfold Ih at h
 simp only[Option.map_eq_some_iff,Option.bind_eq_some_iff] at h
 obtain⟨⟨y,r⟩,h1,⟨z,v⟩,h2,⟨e,w⟩,h3,h4⟩:=h
 cases h4
 dsimp only at h2 h3⊢
 have R:=Dh H n _ _ _ h1
 have T:=(abO H n).2.1 _ _ _ h3
 have Am:=aN H sZ p
 have Aw:=dF H 1 (bM L sZ p)
 have Ao:=bf H [40] (gW L 1 (bM L sZ p))
 have Ap:=kJ H n _ _ _ h1
 have As:=bU H [41] r
 have B:gK L (dD L [41] r) v 0:=by
  split at h2
  · exact ((aJ H _).trans (dQ H n _ h2)).of (by omega)
  · cases h2;exact gK.refl _
 have S:(v.bad=false→z.n+(dD L [41] r).a≤v.a+1)∧((dD L [41] r).a<L.length→IX L z):=by
  split at h2
  · rename_i c
    obtain⟨K,_⟩:=sQ H n _ h2
    refine⟨fun hq=>?_,fun hv=>K.plc ((aJ H _).v hv)⟩
    have:=K.cnt hq
    have:=(aJ H (dD L [41] r)).a
    omega
  · cases h2
    refine⟨fun _=>by simp[Tr.n,Tr.qL,Tr.jc];omega,fun _ x hx=>?_⟩
    simp only[Tr.qL,Tr.jc,List.mem_singleton] at hx
    subst hx
    exact .inr ⟨rfl,rfl,rfl⟩
 refine⟨fun hq=>?_,fun hv=>fG hv (qp (R.plc (Ao.v (Aw.v (Am.v hv))) mP) (iZ (S.2 (As.v (Ap.v (Ao.v (Aw.v (Am.v hv)))))) (dY (T.plc (B.v (As.v (Ap.v (Ao.v (Aw.v (Am.v hv)))))))))) ⟩
 have:=T.cnt hq
 have b1:=ay (((Gv H n).2.1 _ _ _ h3).1) hq
 have:=S.1 b1
 have b2:=ay B b1
 obtain⟨_,_,g1⟩:=jB b2
 have b3:=ay As b2
 have e1:=R.cnt b3
 obtain⟨_,_,_,g2⟩:=dS (ay Ap b3)
 have:=Am.a
 have:=Aw.a
 rw[bg] at e1
 rw[oH,nU,aA,aA,bg]
 first | omega | (dsimp only at *;omega)
theorem yg (H:LW L):∀ (n:Nat) (acc:List Tr) (p:PS) {l:List Tr} {q:PS},fP L n acc p=some (l,q)→SA L p acc l q
 | 0,_,_,_,_,h=>by cases h
 | n+1,acc,p,l,q,h=>by
   rw[fP] at h
   split at h
   · cases h;exact⟨fun _=>by omega,fun _ h=>h⟩
   have more:∀ {y:Tr} {r:PS},Nb L p y r→gK L p r 0→fP L n (acc++[y]) r=some (l,q)→SA L p acc l q:=by
    intro y r R A h2
    have S:=yg H n _ _ h2
    refine⟨fun hq=>?_,fun hv ha=>S.plc (A.v hv) (qp ha (dY (R.plc hv)))⟩
    have e1:=S.cnt hq
    have:=R.cnt (ay (jy H n _ _ h2) hq)
    rw[nU,aA,bg] at e1
    omega
   split at h
   · simp only[Option.bind_eq_some_iff] at h
     obtain⟨⟨y,r⟩,h1,h2⟩:=h
     exact more (Pv H h1) (nI H h1).1 h2
   split at h
   · simp only[Option.bind_eq_some_iff] at h
     obtain⟨⟨y,r⟩,h1,h2⟩:=h
     exact more (acP H h1) (AL H h1).1 h2
   · have S:=yg H n _ _ h
     have A:=fE (L:=L) 5 p
     refine⟨fun hq=>(lG (by decide) (ay (jy H n _ _ h) hq)).elim,fun hv ha=>S.plc (A.v hv) ha⟩
end
theorem Rt {s:List UInt8}:∀ {l:List Tok} {i:Nat},Pls s i l→l.length+i≤s.length+1
 | [],_,h=>by cases h
 | t::l,i,⟨h1,_,h3⟩=>by
   rcases h3 with ⟨_,_,rfl⟩ | ⟨h4,h5,_,_,_,_,_,h11⟩
   · simp;omega
   · have:=Rt h11
     have:=(x8 h4 h5).1
     simp;omega
def iR (L:List Tok):Nat:=12*L.length+20
def p0:PS:=⟨0,0,(0,0,0)⟩
def vX (L:List Tok) (p:PS):PS:=if (tk L p).k=8 then p else eF L 5 p
def gy (prog:Bool) (s:List UInt8):Option ((Int×Int×Int)×Tr):=
 if (bQ s).1.1≠0 then some ((bQ s).1,.nd 0 0 0 0 [] [])
 else (if prog then rG (bQ s).2 (iR (bQ s).2) p0 else eQ (bQ s).2 (iR (bQ s).2) 1 p0).map fun r=>((vX (bQ s).2 r.2).f,r.1)
structure adb (s:List UInt8) (L:List Tok):Prop where
 lw:LW L
 len:L.length≤s.length+1
 tok:∀ t∈L,t.k=8∨abj s t
theorem rf {s:List UInt8} (h:(bQ s).1.1=0):adb s (bQ s).2:=by
 have P:=uY h
 exact⟨(O6 P).1,by have:=Rt P;omega,(O6 P).2⟩
theorem abE (L:List Tok):mu L p0=L.length:=rfl
theorem qN (prog:Bool) (s:List UInt8):∃ r,gy prog s=some r:=by
 unfold gy
 split
 · exact⟨_,rfl⟩
 · rename_i h
   have h0:(bQ s).1.1=0:=by simpa using h
   have T:=rf h0
   have hv:p0.a<(bQ s).2.length:=T.lw.pos
   rw[← Option.isSome_iff_exists,Option.isSome_map]
   cases prog with
   | true=>
     show (rG _ _ _).isSome=true
     unfold rG
     rw[Option.isSome_map]
     exact qJ T.lw _ _ _ hv (by rw[abE];unfold iR;omega)
   | false=>exact (KC T.lw _).1 1 p0 hv (by rw[abE];unfold iR;omega)
theorem lX {prog:Bool} {s:List UInt8} {f:Int×Int×Int} {t:Tr} (h:gy prog s=some (f,t)) (hf:f.1=0):
 (bQ s).1.1=0∧t.n≤s.length+1∧(prog=false→Kd t∧IX (bQ s).2 t)∧(prog=true→∃ rl,t=.nd 1 1 1 0 [] rl∧AC (bQ s).2 rl):=by
 unfold gy at h
 split at h
 · rename_i h0
   cases h
   exact absurd hf h0
 rename_i h0
 have h0:(bQ s).1.1=0:=by simpa using h0
 have T:=rf h0
 have hv:p0.a<(bQ s).2.length:=T.lw.pos
 have hlen:=T.len
 simp only[Option.map_eq_some_iff] at h
 obtain⟨⟨t',q⟩,h1,h2⟩:=h
 cases h2
 have hq:q.bad=false:=by
  unfold vX at hf
  split at hf
  · unfold PS.bad;rw[hf];rfl
  · exfalso
    have:=iP (L:=(bQ s).2) (e:=5) (by decide) q
    unfold PS.bad at this
    rw[hf] at this
    exact absurd this (by decide)
 refine⟨h0,?_⟩
 cases prog with
 | false=>
   have h1:eQ (bQ s).2 (iR (bQ s).2) 1 p0=some (t',q):=h1
   obtain⟨R,K⟩:=(Yz T.lw _).1 _ _ _ _ h1
   have:=R.cnt hq
   have:=((lh T.lw _).1 _ _ _ _ h1).v hv
   exact⟨by dsimp only at *;omega,fun _=>⟨K,R.plc hv⟩,fun h=>by cases h⟩
 | true=>
   have h1:rG (bQ s).2 (iR (bQ s).2) p0=some (t',q):=h1
   unfold rG at h1
   simp only[Option.map_eq_some_iff] at h1
   obtain⟨⟨rl,r⟩,h3,h4⟩:=h1
   cases h4
   have R:=yg T.lw _ _ _ h3
   have e:=R.cnt hq
   rw[bg] at e
   have:=(jy T.lw _ _ _ h3).v hv
   refine⟨?_,fun h=>(by cases h),fun _=>⟨rl,rfl,R.plc hv mP⟩⟩
   have:(Tr.nd 1 1 1 0 [] rl).n=Tr.ns rl+1:=by simp[Tr.n,Tr.ns,Tr.qL]
   rw[this]
   first | omega | (dsimp only at *;omega)
end Go.Proofs.YtllbpdllkkcajaaGreatDoor
