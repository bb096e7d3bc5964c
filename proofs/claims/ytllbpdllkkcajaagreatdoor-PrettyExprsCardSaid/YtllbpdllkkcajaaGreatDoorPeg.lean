/- hindcastlaw07: texts joined: ParA, ParB, ParC, ParD, ParE, LexOA, LexZD, ParF, ParG, ParGB. -/
import Derived.Test.YtllbpdllkkcajaaGreatDoorPef
namespace Go.Proofs.YtllbpdllkkcajaaGreatDoor
open Go.RowKit
inductive Tr where
 | nd (k l c n:Int) (x:List UInt8) (ks:List Tr)
def Tr.k:Tr->Int
 | .nd k _ _ _ _ _=>k
structure PS where
 a:Nat
 d:Int
 f:Int×Int×Int
section
variable (L:List Tok)
def tk (p:PS):Tok:=L.getD p.a ⟨8,0,0,0,[]⟩
def PS.bad (p:PS):Bool:=!(p.f.1==0)
def dG (e:Int) (p:PS):PS:=if p.bad then p else { p with f:=(e,(tk L p).l,(tk L p).c) }
def dw (s:List UInt8) (p:PS):Bool:=!p.bad&&((tk L p).k==6||(tk L p).k==7)&&(tk L p).x==s
def bK (p:PS):PS:=if (tk L p).k=8 then p else { p with a:=p.a+1 }
def bZ (s:List UInt8) (p:PS):PS:=if dw L s p then bK L p else dG L 5 p
def dP (s:List UInt8) (p:PS):PS:=
 let p1:=if dw L s p&&p.d==40 then dG L 6 p else p
 { bZ L s p1 with d:=(bZ L s p1).d+1 }
def dQ (s:List UInt8) (p:PS):PS:={ bZ L s p with d:=(bZ L s p).d - 1 }
def iw (k:Int) (p:PS):PS:=if p.bad||!((tk L p).k==k) then dG L 5 p else bK L p
def nd (k:Int) (t:Tok) (n:Int) (x:List UInt8) (ks:List Tr):Tr:=.nd k t.l t.c n x ks
def OA (x:List UInt8):Int×Nat:=
 if x=[124,124] then (15,1) else if x=[38,38] then (14,2) else if x=[61,61] then (6,3) else if x=[33,61] then (7,3)
 else if x=[60] then (8,4) else if x=[60,61] then (9,4) else if x=[62] then (10,4) else if x=[62,61] then (11,4)
 else if x=[43] then (1,5) else if x=[45] then (2,5) else if x=[42] then (3,6) else if x=[47] then (4,6) else if x=[37] then (5,6) else (0,0)
def OD (lvl:Nat) (p:PS):Int:=if p.bad||!((tk L p).k==7) then 0 else if (OA (tk L p).x).2=lvl then (OA (tk L p).x).1 else 0
def oL:List UInt8:=[116,114,117,101]
def jO:List UInt8:=[102,97,108,115,101]
def wJ:List UInt8:=[110,105,108]
def fZ:List UInt8:=[109,97,107,101]
def SA:List UInt8:=[105,110,116]
def CW:List UInt8:=[98,111,111,108]
def SB:List UInt8:=[115,116,114]
def CX:List UInt8:=[99,111,109,112]
def jd:Nat->PS->Option (Tr×PS)
 | 0,_=>none
 | n+1,p=>
   if p.bad then some (nd 15 (tk L p) 0 [] [],p)
   else if dw L SA p then some (nd 15 (tk L p) 0 [] [],bK L p)
   else if dw L CW p then some (nd 16 (tk L p) 0 [] [],bK L p)
   else if dw L SB p then some (nd 17 (tk L p) 0 [] [],bK L p)
   else if dw L CX p then some (nd 18 (tk L p) 0 [] [],bK L p)
   else if (tk L p).k=2 then some (nd 19 (tk L p) 0 (tk L p).x [],bK L p)
   else if dw L [91] p then (jd n (dP L [91] p)).map fun r=>(nd 20 (tk L p) 0 [] [r.1],dQ L [93] r.2)
   else some (nd 15 (tk L p) 0 [] [],dG L 5 p)
def lT (p:PS):PS:=if !((tk L (bK L p)).k==2)&&!dw L [91] (bK L p) then dG L 5 (bK L p) else bK L p
mutual
def iE:Nat->Nat->PS->Option (Tr×PS)
 | 0,_,_=>none
 | n+1,lvl,p=>if 6<lvl then ER n p else (iE n (lvl+1) p).bind fun r=>lQ n lvl r.1 r.2
def lQ:Nat->Nat->Tr->PS->Option (Tr×PS)
 | 0,_,_,_=>none
 | n+1,lvl,x,p=>
   if OD L lvl p=0 then some (x,p)
   else (iE n (lvl+1) (bK L p)).bind fun r=>
    if lvl=3\/lvl=4 then some (nd 31 (tk L p) (OD L lvl p) [] [x,r.1],r.2) else lQ n lvl (nd 31 (tk L p) (OD L lvl p) [] [x,r.1]) r.2
def ER:Nat->PS->Option (Tr×PS)
 | 0,_=>none
 | n+1,p=>
   if dw L [45] p then (ER n (dP L (tk L p).x p)).map fun r=>(nd 30 (tk L p) 12 [] [r.1],{ r.2 with d:=r.2.d - 1 })
   else if dw L [33] p then (ER n (dP L (tk L p).x p)).map fun r=>(nd 30 (tk L p) 13 [] [r.1],{ r.2 with d:=r.2.d - 1 })
   else (lN n p).bind fun r=>jR n r.1 r.2
def jR:Nat->Tr->PS->Option (Tr×PS)
 | 0,_,_=>none
 | n+1,x,p=>
   if dw L [91] p then (iE n 1 (dP L [91] p)).bind fun r=>jR n (nd 28 (tk L p) 0 [] [x,r.1]) (dQ L [93] r.2)
   else if dw L [46] p then jR n (nd 29 (tk L p) 0 (tk L (bK L p)).x [x]) (iw L 1 (bK L p))
   else some (x,p)
def lN:Nat->PS->Option (Tr×PS)
 | 0,_=>none
 | n+1,p=>
   if p.bad then some (nd 25 (tk L p) 0 [] [],p)
   else if (tk L p).k=3 then some (nd 21 (tk L p) (tk L p).n [] [],bK L p)
   else if (tk L p).k=4 then some (nd 22 (tk L p) (tk L p).n [] [],bK L p)
   else if (tk L p).k=5 then some (nd 23 (tk L p) 0 (tk L p).x [],bK L p)
   else if dw L oL p then some (nd 24 (tk L p) 1 [] [],bK L p)
   else if dw L jO p then some (nd 24 (tk L p) 0 [] [],bK L p)
   else if dw L wJ p then some (nd 25 (tk L p) 0 [] [],bK L p)
   else if (tk L p).k=1 then
    if dw L [40] (bK L p) then (pI n true [] (dP L [40] (bK L p))).map fun r=>(nd 27 (tk L p) 0 (tk L p).x r.1,dQ L [41] r.2)
    else some (nd 26 (tk L p) 0 (tk L p).x [],bK L p)
   else if dw L [40] p then (iE n 1 (dP L [40] p)).map fun r=>(r.1,dQ L [41] r.2)
   else if dw L fZ p then
    (jd L n (lT L p)).bind fun r=>
     if r.1.k=20 then (iE n 1 (dP L [40] r.2)).map fun y=>(nd 32 (tk L p) 0 [] [r.1,y.1],dQ L [41] y.2)
     else some (nd 32 (tk L p) 0 [] [r.1],dQ L [41] (dP L [40] r.2))
   else some (nd 25 (tk L p) 0 [] [],dG L 5 p)
def pI:Nat->Bool->List Tr->PS->Option (List Tr×PS)
 | 0,_,_,_=>none
 | n+1,first,acc,p=>
   if p.bad||dw L [41] p then some (acc,p)
   else (iE n 1 (if first then p else bZ L [44] p)).bind fun r=>pI n false (acc++[r.1]) r.2
end
def Zc:List UInt8:=[118,97,114]
def wIf:List UInt8:=[105,102]
def abu:List UInt8:=[101,108,115,101]
def EL:List UInt8:=[119,104,105,108,101]
def xA:List UInt8:=[114,101,116,117,114,110]
def EJ:List UInt8:=[112,114,105,110,116]
def EK:List UInt8:=[114,101,99]
def Za:List UInt8:=[102,110]
def pK (n:Nat) (kind:Int) (p:PS):Option (Tr×PS):=
 (jd L n (bZ L [58] (iw L 1 p))).map fun r=>(nd kind (tk L p) 0 (tk L p).x [r.1],r.2)
def rO (n:Nat) (t:Tok) (p:PS):Option (Tr×PS):=
 (iE L n 1 p).bind fun r=>
  let x:=r.1
  let q:=r.2
  if q.bad then some (nd 13 t 0 [] [x],q)
  else if dw L [61] q&&(x.k==26||x.k==28||x.k==29) then (iE L n 1 (bK L q)).map fun y=>(nd 8 t 0 [] [x,y.1],bZ L [59] y.2)
  else if dw L [61] q||!(x.k==27) then some (nd 13 t 0 [] [x],bZ L [59] (dG L 5 q))
  else some (nd 13 t 0 [] [x],bZ L [59] q)
mutual
def zf:Nat->PS->Option (Tr×PS)
 | 0,_=>none
 | n+1,p=>
   let t:=tk L p
   if dw L Zc p then
    let q:=bK L p
    (jd L n (bZ L [58] (iw L 1 q))).bind fun r=>(iE L n 1 (bZ L [61] r.2)).map fun y=>(nd 7 t 0 (tk L q).x [r.1,y.1],bZ L [59] y.2)
   else if dw L wIf p then
    (iE L n 1 (bK L p)).bind fun r=>(mg n r.2).bind fun b=>
     if dw L abu b.2 then (mg n (bK L b.2)).map fun e=>(nd 9 t 0 [] [r.1,b.1,e.1],e.2)
     else some (nd 9 t 0 [] [r.1,b.1],b.2)
   else if dw L EL p then (iE L n 1 (bK L p)).bind fun r=>(mg n r.2).map fun b=>(nd 10 t 0 [] [r.1,b.1],b.2)
   else if dw L xA p then
    if dw L [59] (bK L p) then some (nd 11 t 0 [] [],bZ L [59] (bK L p))
    else (iE L n 1 (bK L p)).map fun r=>(nd 11 t 0 [] [r.1],bZ L [59] r.2)
   else if dw L EJ p then (iE L n 1 (bK L p)).map fun r=>(nd 12 t 0 [] [r.1],bZ L [59] r.2)
   else rO L n t p
def mg:Nat->PS->Option (Tr×PS)
 | 0,_=>none
 | n+1,p=>(pJ n [] (dP L [123] p)).map fun r=>(nd 6 (tk L p) 0 [] r.1,dQ L [125] r.2)
def pJ:Nat->List Tr->PS->Option (List Tr×PS)
 | 0,_,_=>none
 | n+1,acc,p=>if p.bad||dw L [125] p then some (acc,p) else (zf n p).bind fun r=>pJ n (acc++[r.1]) r.2
end
def lS:Nat->List Tr->PS->Option (List Tr×PS)
 | 0,_,_=>none
 | n+1,acc,p=>if p.bad||dw L [125] p then some (acc,p) else (pK L n 3 p).bind fun r=>lS n (acc++[r.1]) (bZ L [59] r.2)
def nT (n:Nat) (p:PS):Option (Tr×PS):=
 let q:=bZ L EK p
 (lS L n [] (dP L [123] (iw L 2 q))).map fun r=>(nd 2 (tk L p) 0 (tk L q).x r.1,dQ L [125] r.2)
def lU:Nat->Bool->List Tr->PS->Option (List Tr×PS)
 | 0,_,_,_=>none
 | n+1,first,acc,p=>if p.bad||dw L [41] p then some (acc,p) else (pK L n 5 (if first then p else bZ L [44] p)).bind fun r=>lU n false (acc++[r.1]) r.2
def pFn (n:Nat) (p:PS):Option (Tr×PS):=
 let q:=bZ L Za p
 (lU L n true [] (dP L [40] (iw L 1 q))).bind fun r=>
  let q2:=dQ L [41] r.2
  (if dw L [58] q2 then jd L n (bK L q2) else some (Tr.nd 14 0 0 0 [] [],q2)).bind fun k=>
   (mg L n k.2).map fun b=>(nd 4 (tk L p) r.1.length (tk L q).x (r.1++[k.1,b.1]),b.2)
def kP:Nat->List Tr->PS->Option (List Tr×PS)
 | 0,_,_=>none
 | n+1,acc,p=>
   if p.bad||(tk L p).k==8 then some (acc,p)
   else if dw L EK p then (nT L n p).bind fun r=>kP n (acc++[r.1]) r.2
   else if dw L Za p then (pFn L n p).bind fun r=>kP n (acc++[r.1]) r.2
   else kP n acc (dG L 5 p)
def Iu (n:Nat) (p:PS):Option (Tr×PS):=(kP L n [] p).map fun r=>(.nd 1 1 1 0 [] r.1,r.2)
end
mutual
def Tr.sz:Tr->Nat
 | .nd _ _ _ _ _ ks=>Tr.szs ks
def Tr.szs:List Tr->Nat
 | []=>0
 | t::ts=>t.sz+1+Tr.szs ts
end
structure wC where
 k:Int
 l:Int
 c:Int
 z:Nat
 n:Int
 x:List UInt8
 deriving DecidableEq
mutual
def Tr.nR:Tr->List wC
 | .nd k l c n x ks=>⟨k,l,c,Tr.szs ks,n,x⟩::Tr.fP ks
def Tr.fP:List Tr->List wC
 | []=>[]
 | t::ts=>t.nR++Tr.fP ts
end
structure LW (L:List Tok):Prop where
 pos:0<L.length
 last:(L.getD (L.length - 1) ⟨8,0,0,0,[]⟩).k=8
section
variable {L:List Tok}
structure fC (L:List Tok) (p q:PS) (e:Int):Prop where
 d:q.d=p.d+e
 a:p.a<=q.a
 v:p.a<L.length->q.a<L.length
 b:p.bad=true->q.f=p.f
theorem fC.refl (p:PS):fC L p p 0:=⟨by omega,Nat.le_refl _,id,fun _=>rfl⟩
theorem Me {p q:PS} (h:q.f=p.f):q.bad=p.bad:=by unfold PS.bad;rw[h]
theorem fC.trans {p q r:PS} {e f:Int} (h:fC L p q e) (k:fC L q r f):fC L p r (e+f):=⟨by rw[k.d,h.d];omega,Nat.le_trans h.a k.a,fun x=>k.v (h.v x),fun x=>(k.b (by rw[Me (h.b x)];exact x)).trans (h.b x)⟩
theorem fC.of {p q:PS} {e f:Int} (h:fC L p q e) (he:e=f):fC L p q f:=he▸h
theorem dO (e:Int) (p:PS):fC L p (dG L e p) 0:=by
 unfold dG;split
 . exact fC.refl p
 . rename_i hb;exact⟨by simp,Nat.le_refl _,id,fun h=>absurd h hb⟩
theorem aP (H:LW L) (p:PS):fC L p (bK L p) 0:=by
 unfold bK;split
 . exact fC.refl p
 . rename_i h;refine⟨by simp,Nat.le_succ _,fun hv=>?_,fun _=>rfl⟩;show p.a+1<L.length;by_cases e:p.a=L.length - 1
   . exfalso;apply h;unfold tk;rw[e];exact H.last
   . omega
theorem bu (H:LW L) (s:List UInt8) (p:PS):fC L p (bZ L s p) 0:=by
 unfold bZ;split
 . exact aP H p
 . exact dO 5 p
theorem bC (H:LW L) (s:List UInt8) (p:PS):fC L p (dP L s p) 1:=by
 unfold dP;have h1:fC L p (if (dw L s p&&p.d==40)=true then dG L 6 p else p) 0:=by
  split
  . exact dO 6 p
  . exact fC.refl p
 have h2:=h1.trans (bu H s _);exact⟨by simp only;rw[h2.d];omega,h2.a,h2.v,h2.b⟩
theorem cO (H:LW L) (s:List UInt8) (p:PS):fC L p (dQ L s p) (-1):=by
 have h2:=bu H s p;exact⟨by show _ - 1=_;rw[h2.d];omega,h2.a,h2.v,h2.b⟩
theorem dL (H:LW L) (k:Int) (p:PS):fC L p (iw L k p) 0:=by
 unfold iw;split
 . exact dO 5 p
 . exact aP H p
theorem dK (H:LW L):∀ (n:Nat) (p:PS) {t:Tr} {q:PS},jd L n p=some (t,q)->fC L p q 0
 | 0,p,t,q,h=>by cases h
 | n+1,p,t,q,h=>by
   rw[jd] at h;split at h
   . cases h;exact fC.refl p
   split at h
   . cases h;exact aP H p
   split at h
   . cases h;exact aP H p
   split at h
   . cases h;exact aP H p
   split at h
   . cases h;exact aP H p
   split at h
   . cases h;exact aP H p
   split at h
   . simp only[Option.map_eq_some_iff] at h;obtain⟨⟨x,r⟩,h1,h2⟩:=h;cases h2;exact (((bC H _ p).trans (dK H n _ h1)).trans (cO H _ r)).of (by omega)
   . cases h;exact dO 5 p
def aby (L:List Tok) (n:Nat):Prop:=
 (∀ lvl p t q,iE L n lvl p=some (t,q)->fC L p q 0)/\(∀ lvl x p t q,lQ L n lvl x p=some (t,q)->fC L p q 0)/\(∀ p t q,ER L n p=some (t,q)->fC L p q 0)/\
 (∀ x p t q,jR L n x p=some (t,q)->fC L p q 0)/\(∀ p t q,lN L n p=some (t,q)->fC L p q 0)/\(∀ f acc p l q,pI L n f acc p=some (l,q)->fC L p q 0)
theorem lg (H:LW L):∀ n,aby L n
 | 0=>⟨fun _ _ _ _ h=>(by cases h),fun _ _ _ _ _ h=>(by cases h),fun _ _ _ h=>(by cases h),fun _ _ _ _ h=>(by cases h),fun _ _ _ h=>(by cases h),fun _ _ _ _ _ h=>(by cases h)⟩
 | n+1=>by
   obtain⟨i1,i2,i3,i4,i5,i6⟩:=lg H n;refine⟨fun lvl p t q h=>?_,fun lvl x p t q h=>?_,fun p t q h=>?_,fun x p t q h=>?_,fun p t q h=>?_,fun f acc p l q h=>?_⟩
   . rw[iE] at h;split at h
     . exact i3 _ _ _ h
     . simp only[Option.bind_eq_some_iff] at h;obtain⟨⟨y,r⟩,h1,h2⟩:=h;exact (i1 _ _ _ _ h1).trans (i2 _ _ _ _ _ h2)
   . rw[lQ] at h;split at h
     . cases h;exact fC.refl p
     . simp only[Option.bind_eq_some_iff] at h;obtain⟨⟨y,r⟩,h1,h2⟩:=h;have hr:=(aP H p).trans (i1 _ _ _ _ h1);split at h2
       . cases h2;exact hr
       . exact hr.trans (i2 _ _ _ _ _ h2)
   . rw[ER] at h;split at h
     . simp only[Option.map_eq_some_iff] at h;obtain⟨⟨y,r⟩,h1,h2⟩:=h;cases h2;have:=(bC H (tk L p).x p).trans (i3 _ _ _ h1);exact⟨by simp only;rw[this.d];omega,this.a,this.v,this.b⟩
     . split at h
       . simp only[Option.map_eq_some_iff] at h;obtain⟨⟨y,r⟩,h1,h2⟩:=h;cases h2;have:=(bC H (tk L p).x p).trans (i3 _ _ _ h1);exact⟨by simp only;rw[this.d];omega,this.a,this.v,this.b⟩
       . simp only[Option.bind_eq_some_iff] at h;obtain⟨⟨y,r⟩,h1,h2⟩:=h;exact (i5 _ _ _ h1).trans (i4 _ _ _ _ h2)
   . rw[jR] at h;split at h
     . simp only[Option.bind_eq_some_iff] at h;obtain⟨⟨y,r⟩,h1,h2⟩:=h;exact ((((bC H _ p).trans (i1 _ _ _ _ h1)).trans (cO H _ r)).trans (i4 _ _ _ _ h2)).of (by omega)
     . split at h
       . exact (((aP H p).trans (dL H 1 _)).trans (i4 _ _ _ _ h)).of (by omega)
       . cases h;exact fC.refl p
   . rw[lN] at h;by_cases c:p.bad=true
     . rw[if_pos c] at h;cases h;exact fC.refl p
     rw[if_neg c] at h;clear c;by_cases c:(tk L p).k=3
     . rw[if_pos c] at h;cases h;exact aP H p
     rw[if_neg c] at h;clear c;by_cases c:(tk L p).k=4
     . rw[if_pos c] at h;cases h;exact aP H p
     rw[if_neg c] at h;clear c;by_cases c:(tk L p).k=5
     . rw[if_pos c] at h;cases h;exact aP H p
     rw[if_neg c] at h;clear c;by_cases c:dw L oL p=true
     . rw[if_pos c] at h;cases h;exact aP H p
     rw[if_neg c] at h;clear c;by_cases c:dw L jO p=true
     . rw[if_pos c] at h;cases h;exact aP H p
     rw[if_neg c] at h;clear c;by_cases c:dw L wJ p=true
     . rw[if_pos c] at h;cases h;exact aP H p
     rw[if_neg c] at h;clear c;by_cases c:(tk L p).k=1
     . rw[if_pos c] at h;by_cases c2:dw L [40] (bK L p)=true
       . rw[if_pos c2] at h;simp only[Option.map_eq_some_iff] at h;obtain⟨⟨y,r⟩,h1,h2⟩:=h;cases h2;exact ((((aP H p).trans (bC H _ _)).trans (i6 _ _ _ _ _ h1)).trans (cO H _ r)).of (by omega)
       . rw[if_neg c2] at h;cases h;exact aP H p
     rw[if_neg c] at h;clear c;by_cases c:dw L [40] p=true
     . rw[if_pos c] at h;simp only[Option.map_eq_some_iff] at h;obtain⟨⟨y,r⟩,h1,h2⟩:=h;cases h2;exact (((bC H _ _).trans (i1 _ _ _ _ h1)).trans (cO H _ r)).of (by omega)
     rw[if_neg c] at h;clear c;by_cases c:dw L fZ p=true
     . rw[if_pos c] at h;simp only[Option.bind_eq_some_iff] at h;obtain⟨⟨y,r⟩,h1,h2⟩:=h;have h0:fC L p (lT L p) 0:=by
        unfold lT;split
        . exact ((aP H p).trans (dO 5 _)).of (by omega)
        . exact aP H p
       have hk:=h0.trans (dK H n _ h1);split at h2
       . simp only[Option.map_eq_some_iff] at h2;obtain⟨⟨z,u⟩,h3,h4⟩:=h2;cases h4;exact (((hk.trans (bC H _ r)).trans (i1 _ _ _ _ h3)).trans (cO H _ u)).of (by omega)
       . cases h2;exact ((hk.trans (bC H _ r)).trans (cO H _ _)).of (by omega)
     rw[if_neg c] at h;cases h;exact dO 5 p
   . rw[pI] at h;split at h
     . cases h;exact fC.refl p
     . simp only[Option.bind_eq_some_iff] at h;obtain⟨⟨y,r⟩,h1,h2⟩:=h;have h0:fC L p (if f=true then p else bZ L [44] p) 0:=by
        split
        . exact fC.refl p
        . exact bu H _ p
       exact ((h0.trans (i1 _ _ _ _ h1)).trans (i6 _ _ _ _ _ h2)).of (by omega)
end
section
variable {L:List Tok}
def ja (p q:PS):Prop:=q.bad=true\/p.a<q.a
theorem ja.trans {p q r:PS} {e:Int} (h:ja p q) (k:fC L q r e):ja p r:=by
 rcases h with h | h
 . exact .inl (by rw[Me (k.b h)];exact h)
 . exact .inr (by have:=k.a;omega)
theorem ja.after {p q r:PS} {e:Int} (k:fC L p q e) (h:ja q r):ja p r:=by
 rcases h with h | h
 . exact .inl h
 . exact .inr (by have:=k.a;omega)
theorem gu {p:PS} (h:(tk L p).k≠8):ja p (bK L p):=by
 unfold bK;rw[if_neg h];exact .inr (Nat.lt_succ_self _)
theorem iT {s:List UInt8} {p:PS} (h:dw L s p=true):p.bad=false/\(tk L p).k≠8:=by
 unfold dw at h;simp only[Bool.and_eq_true,Bool.or_eq_true,Bool.not_eq_true',beq_iff_eq] at h;exact⟨h.1.1,by omega⟩
theorem fE {s:List UInt8} {p:PS} (h:dw L s p=true):ja p (bK L p):=gu (iT h).2
theorem iF {e:Int} (he:e≠0) (p:PS):(dG L e p).bad=true:=by
 unfold dG;split
 . assumption
 . unfold PS.bad;simp[he]
theorem Jl {s:List UInt8} {p:PS} (h:p.bad=true):dw L s p=false:=by unfold dw;rw[h];rfl
theorem fK {s:List UInt8} {p:PS} (h:dw L s p=true):ja p (dP L s p):=by
 unfold dP;by_cases c:(dw L s p&&p.d==40)=true
 . left;simp only[c,if_true];have hb:(dG L 6 p).bad=true:=iF (by decide) p;have:bZ L s (dG L 6 p)=dG L 6 p:=by
    unfold bZ;rw[Jl hb];show dG L 5 (dG L 6 p)=_;rw[dG.eq_def L 5,if_pos hb]
   show (bZ L s (dG L 6 p)).bad=true;rw[this];exact hb
 . have e:bZ L s p=bK L p:=by unfold bZ;rw[if_pos h]
   simp only[c];show ja p { bZ L s p with d:=_ };rw[e];exact fE h
def aaK (L:List Tok) (n:Nat):Prop:=
 (∀ lvl p t q,iE L n lvl p=some (t,q)->ja p q)/\(∀ p t q,ER L n p=some (t,q)->ja p q)/\(∀ p t q,lN L n p=some (t,q)->ja p q)
theorem Pi (H:LW L):∀ n,aaK L n
 | 0=>⟨fun _ _ _ _ h=>(by cases h),fun _ _ _ h=>(by cases h),fun _ _ _ h=>(by cases h)⟩
 | n+1=>by
   obtain⟨i1,i3,i5⟩:=Pi H n;obtain⟨a1,a2,a3,a4,a5,a6⟩:=lg H n;refine⟨fun lvl p t q h=>?_,fun p t q h=>?_,fun p t q h=>?_⟩
   . rw[iE] at h;split at h
     . exact i3 _ _ _ h
     . simp only[Option.bind_eq_some_iff] at h;obtain⟨⟨y,r⟩,h1,h2⟩:=h;exact (i1 _ _ _ _ h1).trans (a2 _ _ _ _ _ h2)
   . rw[ER] at h;split at h
     . rename_i c;simp only[Option.map_eq_some_iff] at h;obtain⟨⟨y,r⟩,h1,h2⟩:=h;cases h2;have hx:(tk L p).x=[45]:=by
        unfold dw at c;simp only[Bool.and_eq_true,beq_iff_eq] at c;exact c.2
       rw[hx] at h1;have w:ja p r:=(fK c).trans (a3 _ _ _ h1);exact w
     . split at h
       . rename_i c;simp only[Option.map_eq_some_iff] at h;obtain⟨⟨y,r⟩,h1,h2⟩:=h;cases h2;have hx:(tk L p).x=[33]:=by
          unfold dw at c;simp only[Bool.and_eq_true,beq_iff_eq] at c;exact c.2
         rw[hx] at h1;have w:ja p r:=(fK c).trans (a3 _ _ _ h1);exact w
       . simp only[Option.bind_eq_some_iff] at h;obtain⟨⟨y,r⟩,h1,h2⟩:=h;exact (i5 _ _ _ h1).trans (a4 _ _ _ _ h2)
   . rw[lN] at h;by_cases c:p.bad=true
     . rw[if_pos c] at h;cases h;exact .inl c
     rw[if_neg c] at h;clear c;by_cases c:(tk L p).k=3
     . rw[if_pos c] at h;cases h;exact gu (by omega)
     rw[if_neg c] at h;clear c;by_cases c:(tk L p).k=4
     . rw[if_pos c] at h;cases h;exact gu (by omega)
     rw[if_neg c] at h;clear c;by_cases c:(tk L p).k=5
     . rw[if_pos c] at h;cases h;exact gu (by omega)
     rw[if_neg c] at h;clear c;by_cases c:dw L oL p=true
     . rw[if_pos c] at h;cases h;exact fE c
     rw[if_neg c] at h;clear c;by_cases c:dw L jO p=true
     . rw[if_pos c] at h;cases h;exact fE c
     rw[if_neg c] at h;clear c;by_cases c:dw L wJ p=true
     . rw[if_pos c] at h;cases h;exact fE c
     rw[if_neg c] at h;clear c;by_cases c:(tk L p).k=1
     . rw[if_pos c] at h;have hp:ja p (bK L p):=gu (by omega);by_cases c2:dw L [40] (bK L p)=true
       . rw[if_pos c2] at h;simp only[Option.map_eq_some_iff] at h;obtain⟨⟨y,r⟩,h1,h2⟩:=h;cases h2;exact ((hp.trans (bC H _ _)).trans (a6 _ _ _ _ _ h1)).trans (cO H _ r)
       . rw[if_neg c2] at h;cases h;exact hp
     rw[if_neg c] at h;clear c;by_cases c:dw L [40] p=true
     . rw[if_pos c] at h;simp only[Option.map_eq_some_iff] at h;obtain⟨⟨y,r⟩,h1,h2⟩:=h;cases h2;exact ((fK c).trans (a1 _ _ _ _ h1)).trans (cO H _ r)
     rw[if_neg c] at h;clear c;by_cases c:dw L fZ p=true
     . rw[if_pos c] at h;simp only[Option.bind_eq_some_iff] at h;obtain⟨⟨y,r⟩,h1,h2⟩:=h;have h0:ja p (lT L p):=by
        unfold lT;split
        . exact (fE c).trans (dO 5 _)
        . exact fE c
       have hk:=h0.trans (dK H n _ h1);split at h2
       . simp only[Option.map_eq_some_iff] at h2;obtain⟨⟨z,u⟩,h3,h4⟩:=h2;cases h4;exact ((hk.trans (bC H _ r)).trans (a1 _ _ _ _ h3)).trans (cO H _ u)
       . cases h2;exact (hk.trans (bC H _ r)).trans (cO H _ _)
     rw[if_neg c] at h;cases h;exact .inl (iF (by decide) p)
def mu (L:List Tok) (p:PS):Nat:=if p.bad then 0 else L.length - p.a
theorem fD {p q:PS} {e:Int} (h:fC L p q e):mu L q<=mu L p:=by
 unfold mu;by_cases c:p.bad=true
 . rw[Me (h.b c),if_pos c,if_pos c];exact Nat.le_refl _
 . rw[if_neg c];split
   . omega
   . have:=h.a;omega
theorem kM {p q:PS} (h:ja p q) (hp:p.bad=false) (hv:p.a<L.length):mu L q+1<=mu L p:=by
 unfold mu;rw[hp];rcases h with h | h
 . rw[if_pos h];simp;omega
 . split<;>simp<;>omega
theorem nP {p q:PS} {e:Int} (h:ja p q) (k:fC L p q e) (hv:p.a<L.length):12*mu L q+1<=12*mu L p+1/\(mu L q=0\/mu L q+1<=mu L p):=by
 refine⟨by have:=fD k;omega,?_⟩;by_cases c:p.bad=true
 . left;have:=fD k;unfold mu at this⊢;rw[c] at this;simp at this⊢;exact this
 . exact .inr (kM h (by simpa using c) hv)
theorem mM (H:LW L):∀ (n:Nat) (p:PS),p.a<L.length->mu L p+1<=n->(jd L n p).isSome=true
 | 0,p,_,h=>by omega
 | n+1,p,hv,h=>by
   rw[jd];by_cases c:dw L [91] p=true
   . have hm:=kM (fK c) (iT c).1 hv;have:=mM H n (dP L [91] p) ((bC H _ p).v hv) (by omega)
     repeat' split
     all_goals first | rfl | (rw[Option.isSome_map];exact this)
   . repeat' split
     all_goals first | rfl | (rename_i hh;exact absurd hh c)
end
section
variable {L:List Tok}
theorem y9 {lvl:Nat} {p:PS} (h:¬ OD L lvl p=0):p.bad=false/\(tk L p).k≠8:=by
 unfold OD at h;split at h
 . exact absurd rfl h
 . rename_i c;simp only[Bool.or_eq_true,Bool.not_eq_true',beq_eq_false_iff_ne,not_or] at c;exact⟨by simpa using c.1,by have:=c.2;simp at this;omega⟩
def aaG (L:List Tok) (n:Nat):Prop:=
 (∀ lvl p,p.a<L.length->12*mu L p+3+(7 - lvl)<=n->(iE L n lvl p).isSome=true)/\(∀ lvl x p,p.a<L.length->12*mu L p+1<=n->(lQ L n lvl x p).isSome=true)/\
 (∀ p,p.a<L.length->12*mu L p+2<=n->(ER L n p).isSome=true)/\(∀ x p,p.a<L.length->12*mu L p+1<=n->(jR L n x p).isSome=true)/\
 (∀ p,p.a<L.length->12*mu L p+1<=n->(lN L n p).isSome=true)/\(∀ f acc p,p.a<L.length->12*mu L p+10<=n->(pI L n f acc p).isSome=true)
theorem dA {α β:Type} {o:Option α} {f:α->Option β} (h:o.isSome=true) (k:∀ x,o=some x->(f x).isSome=true):(o.bind f).isSome=true:=by
 cases o with
 | none=>cases h
 | some x=>exact k x rfl
theorem eF {α β:Type} {o:Option α} {f:α->β} (h:o.isSome=true):(o.map f).isSome=true:=by rw[Option.isSome_map];exact h
theorem aaU {s:List UInt8} {p:PS} (h:dw L s p=true):(tk L p).x=s:=by
 unfold dw at h;simp only[Bool.and_eq_true,beq_iff_eq] at h;exact h.2
theorem rH {p:PS} (hp:p.bad=false) (hv:p.a<L.length):1<=mu L p:=by unfold mu;rw[hp];simp;omega
theorem Hf (H:LW L):∀ n,aaG L n
 | 0=>⟨fun _ _ _ h=>by omega,fun _ _ _ _ h=>by omega,fun _ _ h=>by omega,fun _ _ _ h=>by omega,fun _ _ h=>by omega,fun _ _ _ _ h=>by omega⟩
 | n+1=>by
   obtain⟨i1,i2,i3,i4,i5,i6⟩:=Hf H n;obtain⟨a1,a2,a3,a4,a5,a6⟩:=lg H n;obtain⟨w1,w3,w5⟩:=Pi H n;refine⟨fun lvl p hv hn=>?_,fun lvl x p hv hn=>?_,fun p hv hn=>?_,fun x p hv hn=>?_,fun p hv hn=>?_,fun f acc p hv hn=>?_⟩
   . rw[iE];split
     . exact i3 p hv (by omega)
     . refine dA (i1 _ p hv (by omega)) fun r hr=>?_
       have A:=a1 _ _ _ _ hr;exact i2 _ _ _ (A.v hv) (by have:=fD A;omega)
   . rw[lQ];split
     . rfl
     . rename_i c;have hm:=kM (gu (y9 c).2) (y9 c).1 hv;have hw:=(aP H p).v hv;refine dA (i1 _ _ hw (by omega)) fun r hr=>?_
       have A:=a1 _ _ _ _ hr;split
       . rfl
       . exact i2 _ _ _ (A.v hw) (by have:=fD A;omega)
   . rw[ER];split
     . rename_i c;have hm:=kM (fK c) (iT c).1 hv;rw[aaU c];exact eF (i3 _ ((bC H _ p).v hv) (by omega))
     . split
       . rename_i c;have hm:=kM (fK c) (iT c).1 hv;rw[aaU c];exact eF (i3 _ ((bC H _ p).v hv) (by omega))
       . refine dA (i5 p hv (by omega)) fun r hr=>?_
         have A:=a5 _ _ _ hr;exact i4 _ _ (A.v hv) (by have:=fD A;omega)
   . rw[jR];split
     . rename_i c;have hm:=kM (fK c) (iT c).1 hv;have hw:=(bC H [91] p).v hv;refine dA (i1 _ _ hw (by omega)) fun r hr=>?_
       have A:=(a1 _ _ _ _ hr).trans (cO H [93] r.2);exact i4 _ _ (A.v hw) (by have:=fD A;omega)
     . split
       . rename_i c;have hm:=kM (fE c) (iT c).1 hv;have A:=(aP H p).trans (dL H 1 _);have:=fD (dL H 1 (bK L p));exact i4 _ _ (A.v hv) (by omega)
       . rfl
   . rw[lN];have hw:=(aP H p).v hv;by_cases c0:p.bad=true
     . rw[if_pos c0];rfl
     rw[if_neg c0];have hb:p.bad=false:=by simpa using c0
     clear c0;by_cases c1:(tk L p).k=3
     . rw[if_pos c1];rfl
     rw[if_neg c1];clear c1;by_cases c2:(tk L p).k=4
     . rw[if_pos c2];rfl
     rw[if_neg c2];clear c2;by_cases c3:(tk L p).k=5
     . rw[if_pos c3];rfl
     rw[if_neg c3];clear c3;by_cases c4:dw L oL p=true
     . rw[if_pos c4];rfl
     rw[if_neg c4];clear c4;by_cases c5:dw L jO p=true
     . rw[if_pos c5];rfl
     rw[if_neg c5];clear c5;by_cases c6:dw L wJ p=true
     . rw[if_pos c6];rfl
     rw[if_neg c6];clear c6;by_cases c:(tk L p).k=1
     . rw[if_pos c];have hm:=kM (gu (L:=L) (p:=p) (by omega)) hb hv;by_cases c2:dw L [40] (bK L p)=true
       . rw[if_pos c2];have hm2:=kM (fK c2) (iT c2).1 hw;exact eF (i6 true [] _ ((bC H [40] _).v hw) (by omega))
       . rw[if_neg c2];rfl
     rw[if_neg c];clear c;by_cases c:dw L [40] p=true
     . rw[if_pos c];have hm:=kM (fK c) (iT c).1 hv;exact eF (i1 1 _ ((bC H [40] p).v hv) (by omega))
     rw[if_neg c];clear c;by_cases c3:dw L fZ p=true
     . rw[if_pos c3];have hm:=kM (fE c3) (iT c3).1 hv;have h0:fC L p (lT L p) 0:=by
        unfold lT;split
        . exact ((aP H p).trans (dO 5 _)).of (by omega)
        . exact aP H p
       have hq:fC L (bK L p) (lT L p) 0:=by
        unfold lT;split
        . exact dO 5 _
        . exact fC.refl _
       have:=fD hq;refine dA (mM H n _ (h0.v hv) (by omega)) fun r hr=>?_
       have A:=dK H n _ hr;split
       . have B:=bC H [40] r.2;exact eF (i1 _ _ (B.v (A.v (h0.v hv))) (by have:=fD A;have:=fD B;omega))
       . rfl
     rw[if_neg c3];rfl
   . rw[pI];split
     . rfl
     . rename_i c;have hb:p.bad=false:=by
        cases e:p.bad with
        | false=>rfl
        | true=>exfalso;apply c;rw[e];rfl
       have h0:fC L p (if f=true then p else bZ L [44] p) 0:=by
        split
        . exact fC.refl p
        . exact bu H _ p
       have hm:=fD h0;have hv1:=h0.v hv;refine dA (i1 _ _ hv1 (by omega)) fun r hr=>?_
       have A:=a1 _ _ _ _ hr;have W:=(nP (w1 _ _ _ _ hr) A hv1).2;have:=rH hb hv;exact i6 _ _ _ (A.v hv1) (by omega)
end
section
variable {L:List Tok}
theorem SG {k:Int} (hk:k≠8) (p:PS):ja p (iw L k p):=by
 unfold iw;split
 . exact .inl (iF (by decide) p)
 . rename_i c;refine gu ?_;simp only[Bool.or_eq_true,Bool.not_eq_true',beq_eq_false_iff_ne,not_or] at c;have:=c.2;simp at this;omega
theorem vg (s:List UInt8) (p:PS):ja p (bZ L s p):=by
 unfold bZ;split
 . exact fE (by assumption)
 . exact .inl (iF (by decide) p)
theorem LY (s:List UInt8) (p:PS):ja p (dP L s p):=by
 by_cases c:dw L s p=true
 . exact fK c
 . unfold dP;have:¬ (dw L s p&&p.d==40)=true:=by simp[c]
   simp only[this];exact vg s p
theorem jY (H:LW L) {n:Nat} {k:Int} {p q:PS} {t:Tr} (h:pK L n k p=some (t,q)):fC L p q 0/\ja p q:=by
 unfold pK at h;simp only[Option.map_eq_some_iff] at h;obtain⟨⟨y,r⟩,h1,h2⟩:=h;cases h2;have A:=(bu H [58] (iw L 1 p)).trans (dK H n _ h1);exact⟨((dL H 1 p).trans A).of (by omega),(SG (by decide) p).trans A⟩
theorem yE (H:LW L) {n:Nat} {k:Int} {p:PS} (hv:p.a<L.length) (hn:mu L p+1<=n):(pK L n k p).isSome=true:=by
 unfold pK;have A:=(dL H 1 p).trans (bu H [58] _);exact eF (mM H n _ (A.v hv) (by have:=fD A;omega))
theorem PD (H:LW L) {n:Nat} {u:Tok} {p q:PS} {t:Tr} (h:rO L n u p=some (t,q)):fC L p q 0/\ja p q:=by
 unfold rO at h;simp only[Option.bind_eq_some_iff] at h;obtain⟨⟨y,r⟩,h1,h2⟩:=h;have A:=(lg H n).1 _ _ _ _ h1;have W:=(Pi H n).1 _ _ _ _ h1;dsimp only at h2;have B:fC L r q 0:=by
  split at h2
  . cases h2;exact fC.refl _
  . split at h2
    . simp only[Option.map_eq_some_iff] at h2;obtain⟨⟨z,v⟩,h3,h4⟩:=h2;cases h4;exact (((aP H r).trans ((lg H n).1 _ _ _ _ h3)).trans (bu H [59] v)).of (by omega)
    . split at h2
      . cases h2;exact ((dO 5 r).trans (bu H [59] _)).of (by omega)
      . cases h2;exact bu H [59] r
 exact⟨(A.trans B).of (by omega),W.trans B⟩
theorem yD (H:LW L) {n:Nat} {u:Tok} {p:PS} (hv:p.a<L.length) (hn:12*mu L p+9<=n):(rO L n u p).isSome=true:=by
 unfold rO;refine dA ((Hf H n).1 1 p hv (by omega)) fun r hr=>?_
 have A:=(lg H n).1 _ _ _ _ hr;have B:=A.trans (aP H r.2);dsimp only;split
 . rfl
 . split
   . exact eF ((Hf H n).1 1 _ (B.v hv) (by have:=fD B;omega))
   . split<;>rfl
def abz (L:List Tok) (n:Nat):Prop:=
 (∀ p t q,zf L n p=some (t,q)->fC L p q 0/\ja p q)/\(∀ p t q,mg L n p=some (t,q)->fC L p q 0/\ja p q)/\(∀ acc p t q,pJ L n acc p=some (t,q)->fC L p q 0)
theorem SY (H:LW L):∀ n,abz L n
 | 0=>⟨fun _ _ _ h=>(by cases h),fun _ _ _ h=>(by cases h),fun _ _ _ _ h=>(by cases h)⟩
 | n+1=>by
   obtain⟨i1,i2,i3⟩:=SY H n;have aB:=(lg H n).1;refine⟨fun p t q h=>?_,fun p t q h=>?_,fun acc p t q h=>?_⟩
   . rw[zf] at h;dsimp only at h;by_cases c:dw L Zc p=true
     . rw[if_pos c] at h;simp only[Option.bind_eq_some_iff,Option.map_eq_some_iff] at h;obtain⟨⟨y,r⟩,h1,⟨z,v⟩,h2,h3⟩:=h;cases h3;have A:=(((((dL H 1 (bK L p)).trans (bu H [58] _)).trans (dK H n _ h1)).trans (bu H [61] r)).trans (aB _ _ _ _ h2)).trans (bu H [59] v);exact⟨((aP H p).trans A).of (by omega),(fE c).trans A⟩
     rw[if_neg c] at h;clear c;by_cases c:dw L wIf p=true
     . rw[if_pos c] at h;simp only[Option.bind_eq_some_iff] at h;obtain⟨⟨y,r⟩,h1,⟨z,v⟩,h2,h3⟩:=h;have A:=(aB _ _ _ _ h1).trans (i2 _ _ _ h2).1;have B:fC L v q 0:=by
        split at h3
        . simp only[Option.map_eq_some_iff] at h3;obtain⟨⟨e,w⟩,h4,h5⟩:=h3;cases h5;exact ((aP H v).trans (i2 _ _ _ h4).1).of (by omega)
        . cases h3;exact fC.refl _
       exact⟨((aP H p).trans (A.trans B)).of (by omega),(fE c).trans (A.trans B)⟩
     rw[if_neg c] at h;clear c;by_cases c:dw L EL p=true
     . rw[if_pos c] at h;simp only[Option.bind_eq_some_iff,Option.map_eq_some_iff] at h;obtain⟨⟨y,r⟩,h1,⟨z,v⟩,h2,h3⟩:=h;cases h3;have A:=(aB _ _ _ _ h1).trans (i2 _ _ _ h2).1;exact⟨((aP H p).trans A).of (by omega),(fE c).trans A⟩
     rw[if_neg c] at h;clear c;by_cases c:dw L xA p=true
     . rw[if_pos c] at h;split at h
       . cases h;exact⟨((aP H p).trans (bu H [59] _)).of (by omega),(fE c).trans (bu H [59] _)⟩
       . simp only[Option.map_eq_some_iff] at h;obtain⟨⟨y,r⟩,h1,h3⟩:=h;cases h3;have A:=(aB _ _ _ _ h1).trans (bu H [59] r);exact⟨((aP H p).trans A).of (by omega),(fE c).trans A⟩
     rw[if_neg c] at h;clear c;by_cases c:dw L EJ p=true
     . rw[if_pos c] at h;simp only[Option.map_eq_some_iff] at h;obtain⟨⟨y,r⟩,h1,h3⟩:=h;cases h3;have A:=(aB _ _ _ _ h1).trans (bu H [59] r);exact⟨((aP H p).trans A).of (by omega),(fE c).trans A⟩
     rw[if_neg c] at h;exact PD H h
   . rw[mg] at h;simp only[Option.map_eq_some_iff] at h;obtain⟨⟨y,r⟩,h1,h3⟩:=h;cases h3;have A:=(i3 _ _ _ _ h1).trans (cO H [125] r);exact⟨((bC H [123] p).trans A).of (by omega),(LY [123] p).trans A⟩
   . rw[pJ] at h;split at h
     . cases h;exact fC.refl _
     . simp only[Option.bind_eq_some_iff] at h;obtain⟨⟨y,r⟩,h1,h2⟩:=h;exact ((i1 _ _ _ h1).1.trans (i3 _ _ _ _ h2)).of (by omega)
def aaH (L:List Tok) (n:Nat):Prop:=
 (∀ p,p.a<L.length->12*mu L p+10<=n->(zf L n p).isSome=true)/\(∀ p,p.a<L.length->12*mu L p+12<=n->(mg L n p).isSome=true)/\
 (∀ acc p,p.a<L.length->12*mu L p+11<=n->(pJ L n acc p).isSome=true)
theorem Zn (H:LW L):∀ n,aaH L n
 | 0=>⟨fun _ _ h=>by omega,fun _ _ h=>by omega,fun _ _ _ h=>by omega⟩
 | n+1=>by
   obtain⟨i1,i2,i3⟩:=Zn H n;obtain⟨s1,s2,s3⟩:=SY H n;have aB:=(lg H n).1;have fB:=(Hf H n).1;refine⟨fun p hv hn=>?_,fun p hv hn=>?_,fun acc p hv hn=>?_⟩
   . rw[zf];dsimp only;by_cases hb:p.bad=true
     . have:∀ s,dw L s p=false:=fun s=>Jl hb
       simp only[this];exact yD H hv (by omega)
     have hb:p.bad=false:=by simpa using hb
     have hw:=(aP H p).v hv;have hp:=rH hb hv;have mp:(tk L p).k≠8->mu L (bK L p)+1<=mu L p:=fun h=>kM (gu h) hb hv
     by_cases c:dw L Zc p=true
     . rw[if_pos c];have:=mp (iT c).2;have A:=(dL H 1 (bK L p)).trans (bu H [58] _);have:=fD A;refine dA (mM H n _ (A.v hw) (by omega)) fun r hr=>?_
       have B:=(dK H n _ hr).trans (bu H [61] r.2);exact eF (fB 1 _ (B.v (A.v hw)) (by have:=fD B;omega))
     rw[if_neg c];clear c;by_cases c:dw L wIf p=true
     . rw[if_pos c];have:=mp (iT c).2;refine dA (fB 1 _ hw (by omega)) fun r hr=>?_
       have A:=aB _ _ _ _ hr;have:=fD A;refine dA (i2 _ (A.v hw) (by omega)) fun r hr=>?_
       have B:=(s2 _ _ _ hr).1.trans (aP H r.2);split
       . exact eF (i2 _ (B.v (A.v hw)) (by have:=fD B;omega))
       . rfl
     rw[if_neg c];clear c;by_cases c:dw L EL p=true
     . rw[if_pos c];have:=mp (iT c).2;refine dA (fB 1 _ hw (by omega)) fun r hr=>?_
       have A:=aB _ _ _ _ hr;exact eF (i2 _ (A.v hw) (by have:=fD A;omega))
     rw[if_neg c];clear c;by_cases c:dw L xA p=true
     . rw[if_pos c];have:=mp (iT c).2;split
       . rfl
       . exact eF (fB 1 _ hw (by omega))
     rw[if_neg c];clear c;by_cases c:dw L EJ p=true
     . rw[if_pos c];have:=mp (iT c).2;exact eF (fB 1 _ hw (by omega))
     rw[if_neg c];exact yD H hv (by omega)
   . rw[mg];have A:=bC H [123] p;exact eF (i3 _ _ (A.v hv) (by have:=fD A;omega))
   . rw[pJ];split
     . rfl
     . rename_i c;have hb:p.bad=false:=by
        cases e:p.bad with
        | false=>rfl
        | true=>exfalso;apply c;rw[e];rfl
       have:=rH hb hv;refine dA (i1 _ hv (by omega)) fun r hr=>?_
       obtain⟨A,W⟩:=s1 _ _ _ hr;have:=(nP W A hv).2;exact i3 _ _ (A.v hv) (by omega)
theorem nJ (H:LW L):∀ (n:Nat) (acc:List Tr) (p:PS) {l:List Tr} {q:PS},lS L n acc p=some (l,q)->fC L p q 0
 | 0,_,_,_,_,h=>by cases h
 | n+1,acc,p,l,q,h=>by
   rw[lS] at h;split at h
   . cases h;exact fC.refl _
   . simp only[Option.bind_eq_some_iff] at h;obtain⟨⟨y,r⟩,h1,h2⟩:=h;exact (((jY H h1).1.trans (bu H [59] r)).trans (nJ H n _ _ h2)).of (by omega)
theorem vP (H:LW L):∀ (n:Nat) (acc:List Tr) (p:PS),p.a<L.length->mu L p+2<=n->(lS L n acc p).isSome=true
 | 0,_,_,_,h=>by omega
 | n+1,acc,p,hv,hn=>by
   rw[lS];split
   . rfl
   . rename_i c;have hb:p.bad=false:=by
      cases e:p.bad with
      | false=>rfl
      | true=>exfalso;apply c;rw[e];rfl
     have:=rH hb hv;refine dA (yE H hv (by omega)) fun r hr=>?_
     obtain⟨A,W⟩:=jY H hr;have A2:=A.trans (bu H [59] r.2);have:=(nP (W.trans (bu H [59] r.2)) A2 hv).2;exact vP H n _ _ (A2.v hv) (by omega)
theorem kD (H:LW L):∀ (n:Nat) (f:Bool) (acc:List Tr) (p:PS) {l:List Tr} {q:PS},lU L n f acc p=some (l,q)->fC L p q 0
 | 0,_,_,_,_,_,h=>by cases h
 | n+1,f,acc,p,l,q,h=>by
   rw[lU] at h;split at h
   . cases h;exact fC.refl _
   . simp only[Option.bind_eq_some_iff] at h;obtain⟨⟨y,r⟩,h1,h2⟩:=h;have h0:fC L p (if f=true then p else bZ L [44] p) 0:=by
      split
      . exact fC.refl p
      . exact bu H _ p
     exact ((h0.trans (jY H h1).1).trans (kD H n _ _ _ h2)).of (by omega)
theorem vS (H:LW L):∀ (n:Nat) (f:Bool) (acc:List Tr) (p:PS),p.a<L.length->mu L p+2<=n->(lU L n f acc p).isSome=true
 | 0,_,_,_,_,h=>by omega
 | n+1,f,acc,p,hv,hn=>by
   rw[lU];split
   . rfl
   . rename_i c;have hb:p.bad=false:=by
      cases e:p.bad with
      | false=>rfl
      | true=>exfalso;apply c;rw[e];rfl
     have h0:fC L p (if f=true then p else bZ L [44] p) 0:=by
      split
      . exact fC.refl p
      . exact bu H _ p
     have:=rH hb hv;have:=fD h0;refine dA (yE H (h0.v hv) (by omega)) fun r hr=>?_
     obtain⟨A,W⟩:=jY H hr;have:=(nP W A (h0.v hv)).2;exact vS H n _ _ _ (A.v (h0.v hv)) (by omega)
theorem ru (H:LW L) {n:Nat} {p q:PS} {t:Tr} (h:nT L n p=some (t,q)):fC L p q 0/\ja p q:=by
 unfold nT at h;simp only[Option.map_eq_some_iff] at h;obtain⟨⟨y,r⟩,h1,h2⟩:=h;cases h2;have A:=(((dL H 2 (bZ L EK p)).trans (bC H [123] _)).trans (nJ H n _ _ h1)).trans (cO H [125] r);exact⟨((bu H EK p).trans A).of (by omega),(vg EK p).trans A⟩
theorem Hg (H:LW L) {n:Nat} {p:PS} (hv:p.a<L.length) (hn:mu L p+2<=n):(nT L n p).isSome=true:=by
 unfold nT;have A:=((bu H EK p).trans (dL H 2 _)).trans (bC H [123] _);exact eF (vP H n _ _ (A.v hv) (by have:=fD A;omega))
theorem Jh (H:LW L) {n:Nat} {p q:PS} {t:Tr} (h:pFn L n p=some (t,q)):fC L p q 0/\ja p q:=by
 unfold pFn at h;simp only[Option.map_eq_some_iff,Option.bind_eq_some_iff] at h;obtain⟨⟨y,r⟩,h1,⟨z,v⟩,h2,⟨e,w⟩,h3,h4⟩:=h;cases h4;have B:fC L (dQ L [41] r) v 0:=by
  split at h2
  . exact ((aP H _).trans (dK H n _ h2)).of (by omega)
  . cases h2;exact fC.refl _
 have A:=(((((dL H 1 (bZ L Za p)).trans (bC H [40] _)).trans (kD H n _ _ _ h1)).trans (cO H [41] r)).trans B).trans ((SY H n).2.1 _ _ _ h3).1;exact⟨((bu H Za p).trans A).of (by omega),(vg Za p).trans A⟩
theorem XP (H:LW L) {n:Nat} {p:PS} (hv:p.a<L.length) (hn:12*mu L p+12<=n):(pFn L n p).isSome=true:=by
 unfold pFn;have A:=((bu H Za p).trans (dL H 1 _)).trans (bC H [40] _);refine dA (vS H n _ _ _ (A.v hv) (by have:=fD A;omega)) fun r hr=>?_
 have B:=(A.trans (kD H n _ _ _ hr)).trans (cO H [41] r.2);have C:=B.trans (aP H _);have k:((if dw L [58] (dQ L [41] r.2) then jd L n (bK L (dQ L [41] r.2)) else some (Tr.nd 14 0 0 0 [] [],dQ L [41] r.2))).isSome=true:=by
  split
  . exact mM H n _ (C.v hv) (by have:=fD C;omega)
  . rfl
 refine dA k fun y hy=>?_
 have D:fC L (dQ L [41] r.2) y.2 0:=by
  split at hy
  . exact ((aP H _).trans (dK H n _ hy)).of (by omega)
  . cases hy;exact fC.refl _
 have E:=B.trans D;exact eF ((Zn H n).2.1 _ (E.v hv) (by have:=fD E;omega))
theorem jX (H:LW L):∀ (n:Nat) (acc:List Tr) (p:PS) {l:List Tr} {q:PS},kP L n acc p=some (l,q)->fC L p q 0
 | 0,_,_,_,_,h=>by cases h
 | n+1,acc,p,l,q,h=>by
   rw[kP] at h;split at h
   . cases h;exact fC.refl _
   split at h
   . simp only[Option.bind_eq_some_iff] at h;obtain⟨⟨y,r⟩,h1,h2⟩:=h;exact ((ru H h1).1.trans (jX H n _ _ h2)).of (by omega)
   split at h
   . simp only[Option.bind_eq_some_iff] at h;obtain⟨⟨y,r⟩,h1,h2⟩:=h;exact ((Jh H h1).1.trans (jX H n _ _ h2)).of (by omega)
   . exact ((dO 5 p).trans (jX H n _ _ h)).of (by omega)
theorem nM (H:LW L):∀ (n:Nat) (acc:List Tr) (p:PS),p.a<L.length->12*mu L p+13<=n->(kP L n acc p).isSome=true
 | 0,_,_,_,h=>by omega
 | n+1,acc,p,hv,hn=>by
   rw[kP];split
   . rfl
   . rename_i c;have hb:p.bad=false:=by
      cases e:p.bad with
      | false=>rfl
      | true=>exfalso;apply c;rw[e];rfl
     have:=rH hb hv;split
     . refine dA (Hg H hv (by omega)) fun r hr=>?_
       obtain⟨A,W⟩:=ru H hr;have:=(nP W A hv).2;exact nM H n _ _ (A.v hv) (by omega)
     split
     . refine dA (XP H hv (by omega)) fun r hr=>?_
       obtain⟨A,W⟩:=Jh H hr;have:=(nP W A hv).2;exact nM H n _ _ (A.v hv) (by omega)
     . have A:=dO (L:=L) 5 p;have:mu L (dG L 5 p)=0:=by unfold mu;rw[if_pos (iF (by decide) p)]
       exact nM H n _ _ (A.v hv) (by omega)
end
section
attribute [local go_sem] aY aX aA ak ax aF aT aJ aW dN gV eQ au says_again bT
theorem WW (l:List Tok) (j:Nat):(oM l).drop (j*5)=oM (l.drop j):=by
 induction l generalizing j with
 | nil=>simp[oM]
 | cons a l ih=>
   cases j with
   | zero=>simp
   | succ j=>
     have:oM (a::l)=a.cs++oM l:=by simp[oM]
     rw[this,show (j+1)*5=a.cs.length+j*5 by simp[Tok.cs];omega,List.drop_append,List.drop_succ_cons,<- ih];simp
def TS (h:Hp) (sl:bM) (l:List Tok):Prop:=sl.n=l.length/\(l=[]\/∃ b c T r,sl=⟨some (b,0),l.length,c⟩/\h b=some ⟨oM l++r,T⟩)
theorem TS.y7 {h:Hp} {sl:bM} {l:List Tok} {T:TypeId} (ho:dC h sl (oM l) T 5) (hn:sl.n=l.length):TS h sl l:=by
 refine⟨hn,?_⟩;rcases ho with ⟨_,hx⟩ | ⟨b,o,h1,h2,_,h4,h5,_,h7⟩
 . left;cases l with
   | nil=>rfl
   | cons a l=>have:=congrArg List.length hx;rw[xy] at this;simp at this
 . right;obtain⟨cs,T'⟩:=o;refine⟨b,sl.c,T',cs.drop (sl.n*5),?_,?_⟩
   . rw[<- hn,<- h1]
   . rw[h2,h7];simp only[List.take_append_drop]
theorem TS.le {h k:Hp} {sl:bM} {l:List Tok} (ht:TS h sl l) (hl:bY h k):TS k sl l:=by
 refine⟨ht.1,?_⟩;rcases ht.2 with h0 | ⟨b,c,T,r,h1,h2⟩
 . exact .inl h0
 . exact .inr ⟨b,c,T,r,h1,hl _ _ h2⟩
theorem TS.read {h:Hp} {b:Nat} {l:List Tok} {r:List Value} {T:TypeId} (hb:h b=some ⟨oM l++r,T⟩) {j:Nat} (hj:j<l.length):
 hread h (some (b,j*5)) 5=some [.int .u8 l[j].k,.int .i64 l[j].l,.int .i64 l[j].c,.int .i64 l[j].n,.string (B l[j].x)]:=by
 have hlen:=xy l;rw[bI hb,if_pos (by simp only[List.length_append];omega)];simp only;rw[List.drop_append_of_le_length (by omega),WW,List.drop_eq_getElem_cons hj];rw[oM,List.flatMap_cons];rfl
def Pls (s:List UInt8):Nat->List Tok->Prop
 | _,[]=>False
 | i,t::l=>i+jV false s i≤s.length∧(t.l,t.c)=pl s (i+jV false s i)∧
   ((i+jV false s i=s.length∧t.k=8∧l=[])∨
     (i+jV false s i<s.length/\(one s (i+jV false s i)).f=0/\t.k=(one s (i+jV false s i)).k/\t.n=(one s (i+jV false s i)).n/\t.x=(one s (i+jV false s i)).x/\t.k≠8/\l≠[]/\Pls s (one s (i+jV false s i)).e l))
theorem Vj {k most:Int} {d:List UInt8} {e:Nat} (h:(pz k most d e).1=0):(pz k most d e).2.1=k:=by
 unfold pz at h⊢;split
 . rfl
 . rename_i h1;rw[if_neg h1] at h;exact absurd h (by decide)
theorem aa3 {s:List UInt8} {i:Nat} (h:(one s i).f=0):(one s i).k≠8:=by
 unfold one at h⊢;split
 . simp only;unfold kN;split
   . decide
   . split<;>decide
 . rename_i h1;rw[if_neg h1] at h;split
   . rename_i h2;rw[if_pos h2] at h;simp only at h⊢;unfold nm at h⊢;split
     . rename_i h3;rw[if_pos h3] at h;rw[Vj h];decide
     . rename_i h3;rw[if_neg h3] at h;split
       . rename_i h4;rw[if_pos h4] at h;rw[Vj h];decide
       . rename_i h4;rw[if_neg h4] at h;exact absurd h (by decide)
   . rename_i h2;rw[if_neg h2] at h;split
     . rename_i h3;rw[if_pos h3] at h;cases hq:Ag (s.drop i) with
       | none=>rw[hq] at h;simp at h
       | some r=>simp
     . rename_i h3;rw[if_neg h3] at h;split
       . rename_i h4;rw[if_pos h4] at h;simp at h
       . simp
theorem Ib:∀ (m:Nat) (s:List UInt8) (i:Nat) (acc:List Tok),i<=s.length->s.length<m+i->(Ia m s i (pl s i) acc).1.1=0->∃ l,(Ia m s i (pl s i) acc).2=acc++l/\Pls s i l
 | 0,s,i,acc,hi,hm,_=>by omega
 | m+1,s,i,acc,hi,hm,h=>by
   have hj:=WL (s:=s) (i:=i) false hi;rw[Ia] at h⊢;rw[zi (Nat.le_add_right i _) hj] at h⊢;split
   . rename_i h1;exact⟨[_],rfl,hj,rfl,.inl ⟨by omega,rfl,rfl⟩⟩
   . rename_i h1;rw[if_neg h1] at h;split
     . rename_i h2;rw[if_pos h2] at h;obtain⟨o1,o2,_⟩:=Eh (by omega) h2;rw[zi (by omega) o2] at h⊢;obtain⟨l,hl,hp⟩:=Ib m s _ _ o2 (by omega) h;refine⟨_::l,by rw[hl];simp;rfl,hj,rfl,.inr ⟨by omega,h2,rfl,rfl,rfl,aa3 h2,?_,hp⟩⟩;rintro rfl;exact hp
     . rename_i h2;rw[if_neg h2] at h;exact absurd h h2
end
def Zf (s:List UInt8) (t:Tok):Prop:=∃ j,j<s.length/\(one s j).f=0/\t.k=(one s j).k/\t.n=(one s j).n/\t.x=(one s j).x/\t.k≠8
theorem KY {s:List UInt8}:∀ {l:List Tok} {i:Nat},Pls s i l->LW l/\∀ t∈l,t.k=8\/Zf s t
 | [],_,h=>by cases h
 | t::l,i,⟨_,_,h3⟩=>by
   rcases h3 with ⟨_,h5,rfl⟩ | ⟨h4,h5,h6,h7,h8,h9,h10,h11⟩
   . refine⟨⟨by simp,by simpa using h5⟩,fun u hu=>?_⟩;rw[List.mem_singleton] at hu;subst hu;exact .inl h5
   . obtain⟨⟨p,q⟩,r⟩:=KY h11;refine⟨⟨by simp,?_⟩,fun u hu=>?_⟩
     . obtain⟨n,hn⟩:∃ n,l.length=n+1:=⟨l.length - 1,by omega⟩;rw[List.length_cons,hn,Nat.add_sub_cancel,List.getD_cons_succ];rw[hn,Nat.add_sub_cancel] at q;exact q
     . rcases List.mem_cons.mp hu with rfl | hu
       . exact .inr ⟨_,h4,h5,h6,h7,h8,h9⟩
       . exact r u hu
theorem Ym (s:List UInt8):pl s 0=(1,1):=by simp[pl,sub];rfl
theorem KC {s:List UInt8} (h:(cZ s).1.1=0):Pls s 0 (cZ s).2:=by
 unfold cZ at h⊢;rw[<- Ym s] at h⊢;obtain⟨l,h1,h2⟩:=Ib (s.length+1) s 0 [] (Nat.zero_le _) (by omega) h;rw[h1];exact h2
section
variable {L:List Tok}
def Plc (L:List Tok) (x:wC):Prop:=(∃ a,a<L.length/\x.l=(L.getD a ⟨8,0,0,0,[]⟩).l/\x.c=(L.getD a ⟨8,0,0,0,[]⟩).c)\/(x.k=14/\x.l=0/\x.c=0)
def EW (L:List Tok) (t:Tr):Prop:=∀ x∈t.nR,Plc L x
def xE (L:List Tok) (l:List Tr):Prop:=∀ x∈Tr.fP l,Plc L x
def Kd (t:Tr):Prop:=21<=t.k/\t.k<=32
def Tr.n (t:Tr):Nat:=t.nR.length
def Tr.ns (l:List Tr):Nat:=(Tr.fP l).length
theorem kz:∀ a b:List Tr,Tr.fP (a++b)=Tr.fP a++Tr.fP b
 | [],b=>rfl
 | t::a,b=>by simp[Tr.fP,kz a b]
theorem Cb:Tr.fP []=[]:=rfl
theorem nS (t:Tr) (l:List Tr):Tr.fP (t::l)=t.nR++Tr.fP l:=rfl
theorem lh (k:Int) (t:Tok) (n:Int) (x:List UInt8) (ks:List Tr):(nd k t n x ks).n=Tr.ns ks+1:=by simp[nd,Tr.n,Tr.ns,Tr.nR]
theorem bF:Tr.ns []=0:=rfl
theorem aI (t:Tr) (l:List Tr):Tr.ns (t::l)=t.n+Tr.ns l:=by simp[Tr.n,Tr.ns,nS]
theorem gU (a b:List Tr):Tr.ns (a++b)=Tr.ns a+Tr.ns b:=by simp[Tr.ns,kz]
theorem jF:xE L []:=fun _ h=>by cases h
theorem fH {t:Tr} {l:List Tr} (h:EW L t) (k:xE L l):xE L (t::l):=fun x hx=>by
 rw[nS] at hx;rcases List.mem_append.1 hx with hx | hx
 . exact h x hx
 . exact k x hx
theorem ng {a b:List Tr} (h:xE L a) (k:xE L b):xE L (a++b):=fun x hx=>by
 rw[kz] at hx;rcases List.mem_append.1 hx with hx | hx
 . exact h x hx
 . exact k x hx
theorem di {t:Tr} (h:EW L t):xE L [t]:=fH h jF
theorem dH {p:PS} (hv:p.a<L.length) {k n:Int} {x:List UInt8} {ks:List Tr} (h:xE L ks):EW L (nd k (tk L p) n x ks):=fun y hy=>by
 unfold nd at hy;rw[Tr.nR] at hy;rcases List.mem_cons.1 hy with rfl | hy
 . exact .inl ⟨p.a,hv,rfl,rfl⟩
 . exact h y hy
theorem aQ {p q:PS} {e:Int} (h:fC L p q e) (hq:q.bad=false):p.bad=false:=by
 cases c:p.bad with
 | false=>rfl
 | true=>rw[Me (h.b c),c] at hq;cases hq
theorem dJ {p:PS} (h:(tk L p).k≠8):(bK L p).a=p.a+1:=by unfold bK;rw[if_neg h]
theorem eU {s:List UInt8} {p:PS} (h:(bZ L s p).bad=false):dw L s p=true/\bZ L s p=bK L p/\(bZ L s p).a=p.a+1:=by
 unfold bZ at h⊢;split at h
 . rename_i c;rw[if_pos c];exact⟨c,rfl,dJ (iT c).2⟩
 . rw[iF (by decide) p] at h;cases h
theorem gq {s:List UInt8} {p:PS} (h:(dP L s p).bad=false):dw L s p=true/\p.d≠40/\dP L s p={ bK L p with d:=(bK L p).d+1 }/\(dP L s p).a=p.a+1:=by
 unfold dP at h⊢;by_cases c:(dw L s p&&p.d==40)=true
 . simp only[c,if_true] at h;have hb:(dG L 6 p).bad=true:=iF (by decide) p;have h':(bZ L s (dG L 6 p)).bad=false:=h;have:=(eU h').1;rw[Jl hb] at this;cases this
 . simp only[if_neg c] at h⊢;have h':(bZ L s p).bad=false:=h;obtain⟨h1,h2,h3⟩:=eU h';refine⟨h1,fun e=>c (by rw[h1,e];rfl),by rw[h2],h3⟩
theorem gY {s:List UInt8} {p:PS} (h:(dQ L s p).bad=false):dw L s p=true/\dQ L s p={ bK L p with d:=(bK L p).d - 1 }/\(dQ L s p).a=p.a+1:=by
 have h':(bZ L s p).bad=false:=h;obtain⟨h1,h2,h3⟩:=eU h';exact⟨h1,by unfold dQ;rw[h2],h3⟩
theorem uH {k:Int} (hk:k≠8) {p:PS} (h:(iw L k p).bad=false):p.bad=false/\(tk L p).k=k/\iw L k p=bK L p/\(iw L k p).a=p.a+1:=by
 unfold iw at h⊢;split at h
 . rw[iF (by decide) p] at h;cases h
 . rename_i c;rw[if_neg c];simp only[Bool.or_eq_true,Bool.not_eq_true',beq_eq_false_iff_ne,not_or] at c;have c2:(tk L p).k=k:=by have:=c.2;simp at this;exact this
   exact⟨by simpa using c.1,c2,rfl,dJ (by omega)⟩
theorem tK {e:Int} (he:e≠0) {p:PS} (h:(dG L e p).bad=false):False:=by rw[iF he p] at h;cases h
structure Jb (L:List Tok) (p:PS) (t:Tr) (q:PS):Prop where
 cnt:q.bad=false->t.n+p.a<=q.a
 plc:p.a<L.length->EW L t
structure ZM (L:List Tok) (p:PS) (x t:Tr) (q:PS):Prop where
 cnt:q.bad=false->t.n+p.a<=q.a+x.n
 plc:p.a<L.length->EW L x->EW L t
 kd:Kd x->Kd t
structure Py (L:List Tok) (p:PS) (a l:List Tr) (q:PS):Prop where
 cnt:q.bad=false->Tr.ns l+p.a<=q.a+Tr.ns a
 plc:p.a<L.length->xE L a->xE L l
theorem kS {p q:PS} {k n:Int} {x:List UInt8} (h:q.bad=false->1+p.a<=q.a):Jb L p (nd k (tk L p) n x []) q:=⟨fun hq=>by rw[lh,bF];have:=h hq;omega,fun hv=>dH hv jF⟩
theorem pR (H:LW L):∀ (n:Nat) (p:PS) {t:Tr} {q:PS},jd L n p=some (t,q)->Jb L p t q/\15<=t.k/\t.k<=20
 | 0,p,t,q,h=>by cases h
 | n+1,p,t,q,h=>by
   have kk:∀ (k:Int) (u:Tok) (m:Int) (x:List UInt8) (ks:List Tr),(nd k u m x ks).k=k:=fun _ _ _ _ _=>rfl
   rw[jd] at h;have pas:∀ {k m:Int} {x:List UInt8} {s:List UInt8},dw L s p=true->Jb L p (nd k (tk L p) m x []) (bK L p):=fun c=>kS fun _=>by rw[dJ (iT c).2];omega
   split at h
   . rename_i c;cases h;exact⟨kS fun hq=>(by rw[c] at hq;cases hq),by rw[kk];omega⟩
   split at h
   . cases h;exact⟨pas (by assumption),by rw[kk];omega⟩
   split at h
   . cases h;exact⟨pas (by assumption),by rw[kk];omega⟩
   split at h
   . cases h;exact⟨pas (by assumption),by rw[kk];omega⟩
   split at h
   . cases h;exact⟨pas (by assumption),by rw[kk];omega⟩
   split at h
   . rename_i c;cases h;exact⟨kS fun _=>by rw[dJ (by omega)];omega,by rw[kk];omega⟩
   split at h
   . simp only[Option.map_eq_some_iff] at h;obtain⟨⟨x,r⟩,h1,h2⟩:=h;cases h2;obtain⟨R,_,_⟩:=pR H n _ h1;refine⟨⟨fun hq=>?_,fun hv=>?_⟩,by rw[kk];omega⟩
     . obtain⟨_,_,g3⟩:=gY hq;have hr:=aQ (cO H [93] r) hq;have:=R.cnt hr;obtain⟨_,_,_,g4⟩:=gq (aQ (dK H n _ h1) hr);rw[lh,aI,bF];dsimp only at *;omega
     . exact dH hv (di (R.plc ((bC H _ p).v hv)))
   . cases h;exact⟨kS fun hq=>(tK (by decide) hq).elim,by rw[kk];omega⟩
def abA (L:List Tok) (n:Nat):Prop:=
 (∀ lvl p t q,iE L n lvl p=some (t,q)->Jb L p t q/\Kd t)/\(∀ lvl x p t q,lQ L n lvl x p=some (t,q)->ZM L p x t q)/\(∀ p t q,ER L n p=some (t,q)->Jb L p t q/\Kd t)/\
 (∀ x p t q,jR L n x p=some (t,q)->ZM L p x t q)/\(∀ p t q,lN L n p=some (t,q)->Jb L p t q/\Kd t)/\(∀ f acc p l q,pI L n f acc p=some (l,q)->Py L p acc l q)
theorem qR {k:Int} (h:21<=k/\k<=32) (t:Tok) (n:Int) (x:List UInt8) (ks:List Tr):Kd (nd k t n x ks):=h
theorem Ws (H:LW L):∀ n,abA L n
 | 0=>⟨fun _ _ _ _ h=>(by cases h),fun _ _ _ _ _ h=>(by cases h),fun _ _ _ h=>(by cases h),fun _ _ _ _ h=>(by cases h),fun _ _ _ h=>(by cases h),fun _ _ _ _ _ h=>(by cases h)⟩
 | n+1=>by
   obtain⟨i1,i2,i3,i4,i5,i6⟩:=Ws H n;obtain⟨a1,a2,a3,a4,a5,a6⟩:=lg H n;refine⟨fun lvl p t q h=>?_,fun lvl x p t q h=>?_,fun p t q h=>?_,fun x p t q h=>?_,fun p t q h=>?_,fun f acc p l q h=>?_⟩
   . rw[iE] at h;split at h
     . exact i3 _ _ _ h
     . simp only[Option.bind_eq_some_iff] at h;obtain⟨⟨y,r⟩,h1,h2⟩:=h;obtain⟨R,K⟩:=i1 _ _ _ _ h1;have S:=i2 _ _ _ _ _ h2;refine⟨⟨fun hq=>?_,fun hv=>S.plc ((a1 _ _ _ _ h1).v hv) (R.plc hv)⟩,S.kd K⟩;have:=S.cnt hq;have:=R.cnt (aQ (a2 _ _ _ _ _ h2) hq);dsimp only at *;omega
   . rw[lQ] at h;split at h
     . cases h;exact⟨fun _=>by omega,fun _ h=>h,id⟩
     . rename_i c;simp only[Option.bind_eq_some_iff] at h;obtain⟨⟨y,r⟩,h1,h2⟩:=h;obtain⟨R,K⟩:=i1 _ _ _ _ h1;have gp:=dJ (y9 c).2;have key:ZM L p x (nd 31 (tk L p) (OD L lvl p) [] [x,y]) r:=by
        refine⟨fun hq=>?_,fun hv hx=>?_,fun _=>qR (by omega) _ _ _ _⟩
        . have:=R.cnt hq;rw[lh,aI,aI,bF];omega
        . exact dH hv (fH hx (di (R.plc ((aP H p).v hv))))
       split at h2
       . cases h2;exact key
       . have S:=i2 _ _ _ _ _ h2;refine⟨fun hq=>?_,fun hv hx=>S.plc ((a1 _ _ _ _ h1).v ((aP H p).v hv)) (key.plc hv hx),fun k=>S.kd (key.kd k)⟩;have:=S.cnt hq;have:=key.cnt (aQ (a2 _ _ _ _ _ h2) hq);dsimp only at *;omega
   . have un:∀ {s:List UInt8} {m:Int},dw L s p=true->(ER L n (dP L (tk L p).x p)).map (fun r=>(nd 30 (tk L p) m [] [r.1],{ r.2 with d:=r.2.d - 1 }))=some (t,q)->Jb L p t q/\Kd t:=by
      intro s m c h;simp only[Option.map_eq_some_iff] at h;obtain⟨⟨y,r⟩,h1,h2⟩:=h;cases h2;obtain⟨R,K⟩:=i3 _ _ _ h1;refine⟨⟨fun hq=>?_,fun hv=>dH hv (di (R.plc ((bC H _ p).v hv)))⟩,qR (by omega) _ _ _ _⟩;have hr:r.bad=false:=hq;have:=R.cnt hr;obtain⟨_,_,_,g4⟩:=gq (aQ (a3 _ _ _ h1) hr);rw[lh,aI,bF];show _<=r.a;dsimp only at *;omega
     rw[ER] at h;split at h
     . exact un (by assumption) h
     . split at h
       . exact un (by assumption) h
       . simp only[Option.bind_eq_some_iff] at h;obtain⟨⟨y,r⟩,h1,h2⟩:=h;obtain⟨R,K⟩:=i5 _ _ _ h1;have S:=i4 _ _ _ _ h2;refine⟨⟨fun hq=>?_,fun hv=>S.plc ((a5 _ _ _ h1).v hv) (R.plc hv)⟩,S.kd K⟩;have:=S.cnt hq;have:=R.cnt (aQ (a4 _ _ _ _ h2) hq);dsimp only at *;omega
   . rw[jR] at h;split at h
     . simp only[Option.bind_eq_some_iff] at h;obtain⟨⟨y,r⟩,h1,h2⟩:=h;obtain⟨R,K⟩:=i1 _ _ _ _ h1;have S:=i4 _ _ _ _ h2;refine⟨fun hq=>?_,fun hv hx=>S.plc ((cO H [93] r).v ((a1 _ _ _ _ h1).v ((bC H _ p).v hv))) (dH hv (fH hx (di (R.plc ((bC H _ p).v hv))))),fun _=>S.kd (qR (by omega) _ _ _ _)⟩;have e1:=S.cnt hq;have hs:=aQ (a4 _ _ _ _ h2) hq;obtain⟨_,_,g3⟩:=gY hs;have hr:=aQ (cO H [93] r) hs;have:=R.cnt hr;obtain⟨_,_,_,g4⟩:=gq (aQ (a1 _ _ _ _ h1) hr);rw[lh,aI,aI,bF] at e1;dsimp only at *;omega
     . split at h
       . rename_i c;have S:=i4 _ _ _ _ h;refine⟨fun hq=>?_,fun hv hx=>S.plc ((dL H 1 _).v ((aP H p).v hv)) (dH hv (di hx)),fun _=>S.kd (qR (by omega) _ _ _ _)⟩;have e1:=S.cnt hq;have hs:=aQ (a4 _ _ _ _ h) hq;obtain⟨_,_,_,g4⟩:=uH (by decide) hs;have g5:=dJ (iT c).2;rw[lh,aI,bF] at e1;omega
       . cases h;exact⟨fun _=>by omega,fun _ h=>h,id⟩
   . rw[lN] at h;have leaf:∀ {k m:Int} {x:List UInt8},21<=k/\k<=32->(tk L p).k≠8->Jb L p (nd k (tk L p) m x []) (bK L p)/\Kd (nd k (tk L p) m x []):=fun hk h8=>⟨kS fun _=>by rw[dJ h8];omega,qR hk _ _ _ _⟩
     by_cases c:p.bad=true
     . rw[if_pos c] at h;cases h;exact⟨kS fun hq=>(by rw[c] at hq;cases hq),qR (by omega) _ _ _ _⟩
     rw[if_neg c] at h;clear c;by_cases c:(tk L p).k=3
     . rw[if_pos c] at h;cases h;exact leaf (by omega) (by omega)
     rw[if_neg c] at h;clear c;by_cases c:(tk L p).k=4
     . rw[if_pos c] at h;cases h;exact leaf (by omega) (by omega)
     rw[if_neg c] at h;clear c;by_cases c:(tk L p).k=5
     . rw[if_pos c] at h;cases h;exact leaf (by omega) (by omega)
     rw[if_neg c] at h;clear c;by_cases c:dw L oL p=true
     . rw[if_pos c] at h;cases h;exact leaf (by omega) (iT c).2
     rw[if_neg c] at h;clear c;by_cases c:dw L jO p=true
     . rw[if_pos c] at h;cases h;exact leaf (by omega) (iT c).2
     rw[if_neg c] at h;clear c;by_cases c:dw L wJ p=true
     . rw[if_pos c] at h;cases h;exact leaf (by omega) (iT c).2
     rw[if_neg c] at h;clear c;by_cases c:(tk L p).k=1
     . rw[if_pos c] at h;have gp:=dJ (L:=L) (p:=p) (by omega);by_cases c2:dw L [40] (bK L p)=true
       . rw[if_pos c2] at h;simp only[Option.map_eq_some_iff] at h;obtain⟨⟨y,r⟩,h1,h2⟩:=h;cases h2;have S:=i6 _ _ _ _ _ h1;refine⟨⟨fun hq=>?_,fun hv=>dH hv (S.plc ((bC H _ _).v ((aP H p).v hv)) jF)⟩,qR (by omega) _ _ _ _⟩;obtain⟨_,_,g3⟩:=gY hq;have hr:=aQ (cO H [41] r) hq;have e1:=S.cnt hr;obtain⟨_,_,_,g4⟩:=gq (aQ (a6 _ _ _ _ _ h1) hr);rw[lh];rw[bF] at e1;dsimp only at *;omega
       . rw[if_neg c2] at h;cases h;exact leaf (by omega) (by omega)
     rw[if_neg c] at h;clear c;by_cases c:dw L [40] p=true
     . rw[if_pos c] at h;simp only[Option.map_eq_some_iff] at h;obtain⟨⟨y,r⟩,h1,h2⟩:=h;cases h2;obtain⟨R,K⟩:=i1 _ _ _ _ h1;refine⟨⟨fun hq=>?_,fun hv=>R.plc ((bC H _ p).v hv)⟩,K⟩;obtain⟨_,_,g3⟩:=gY hq;have hr:=aQ (cO H [41] r) hq;have:=R.cnt hr;obtain⟨_,_,_,g4⟩:=gq (aQ (a1 _ _ _ _ h1) hr);dsimp only at *;omega
     rw[if_neg c] at h;clear c;by_cases c:dw L fZ p=true
     . rw[if_pos c] at h;have gp:=dJ (iT c).2;simp only[Option.bind_eq_some_iff] at h;obtain⟨⟨y,r⟩,h1,h2⟩:=h;have h0:fC L (bK L p) (lT L p) 0:=by
        unfold lT;split
        . exact dO 5 _
        . exact fC.refl _
       obtain⟨R,_,_⟩:=pR H n _ h1;have hd:(lT L p).bad=false->(lT L p).a=p.a+1:=by
        unfold lT;split
        . exact fun h=>(tK (by decide) h).elim
        . exact fun _=>gp
       dsimp only at h2;split at h2
       . simp only[Option.map_eq_some_iff] at h2;obtain⟨⟨z,u⟩,h3,h4⟩:=h2;cases h4;obtain⟨S,K⟩:=i1 _ _ _ _ h3;refine⟨⟨fun hq=>?_,fun hv=>?_⟩,qR (by omega) _ _ _ _⟩
         . obtain⟨_,_,g3⟩:=gY hq;have hu:=aQ (cO H [41] u) hq;have:=S.cnt hu;have ho:=aQ (a1 _ _ _ _ h3) hu;obtain⟨_,_,_,g4⟩:=gq ho;have hr:=aQ (bC H _ r) ho;have:=R.cnt hr;have:=hd (aQ (dK H n _ h1) hr);rw[lh,aI,aI,bF];dsimp only at *;omega
         . have v1:=h0.v ((aP H p).v hv);exact dH hv (fH (R.plc v1) (di (S.plc ((bC H _ r).v ((dK H n _ h1).v v1)))))
       . cases h2;refine⟨⟨fun hq=>?_,fun hv=>dH hv (di (R.plc (h0.v ((aP H p).v hv))))⟩,qR (by omega) _ _ _ _⟩;obtain⟨_,_,g3⟩:=gY hq;have ho:=aQ (cO H [41] _) hq;obtain⟨_,_,_,g4⟩:=gq ho;have hr:=aQ (bC H _ r) ho;have:=R.cnt hr;have:=hd (aQ (dK H n _ h1) hr);rw[lh,aI,bF];dsimp only at *;omega
     rw[if_neg c] at h;cases h;exact⟨kS fun hq=>(tK (by decide) hq).elim,qR (by omega) _ _ _ _⟩
   . rw[pI] at h;split at h
     . cases h;exact⟨fun _=>by omega,fun _ h=>h⟩
     . simp only[Option.bind_eq_some_iff] at h;obtain⟨⟨y,r⟩,h1,h2⟩:=h;have h0:fC L p (if f=true then p else bZ L [44] p) 0:=by
        split
        . exact fC.refl p
        . exact bu H _ p
       obtain⟨R,K⟩:=i1 _ _ _ _ h1;have S:=i6 _ _ _ _ _ h2;refine⟨fun hq=>?_,fun hv ha=>S.plc ((a1 _ _ _ _ h1).v (h0.v hv)) (ng ha (di (R.plc (h0.v hv))))⟩;have e1:=S.cnt hq;have:=R.cnt (aQ (a6 _ _ _ _ _ h2) hq);have:=h0.a;rw[gU,aI,bF] at e1;dsimp only at *;omega
end
section
variable {L:List Tok}
theorem CG (H:LW L) {n:Nat} {k:Int} {p q:PS} {t:Tr} (h:pK L n k p=some (t,q)):Jb L p t q:=by
 unfold pK at h;simp only[Option.map_eq_some_iff] at h;obtain⟨⟨y,r⟩,h1,h2⟩:=h;cases h2;obtain⟨R,_⟩:=pR H n _ h1;have A1:=dL H 1 p;have A2:=bu H [58] (iw L 1 p);refine⟨fun hq=>?_,fun hv=>dH hv (di (R.plc (A2.v (A1.v hv))))⟩;have:=R.cnt hq;have hm:=aQ (dK H n _ h1) hq;obtain⟨_,_,g1⟩:=eU hm;obtain⟨_,_,_,g2⟩:=uH (by decide) (aQ A2 hm);rw[lh,aI,bF]
 first | omega | (dsimp only at *;omega)
theorem RJ (H:LW L) {n:Nat} {p q:PS} {t:Tr} (h:rO L n (tk L p) p=some (t,q)):Jb L p t q:=by
 unfold rO at h;simp only[Option.bind_eq_some_iff] at h;obtain⟨⟨y,r⟩,h1,h2⟩:=h;dsimp only at h2;obtain⟨R,_⟩:=(Ws H n).1 _ _ _ _ h1;have Ad:=(lg H n).1 _ _ _ _ h1;have one:Jb L p (nd 13 (tk L p) 0 [] [y]) (bZ L [59] r):=by
  refine⟨fun hq=>?_,fun hv=>dH hv (di (R.plc hv))⟩;obtain⟨_,_,g1⟩:=eU hq;have:=R.cnt (aQ (bu H [59] r) hq);rw[lh,aI,bF]
  first | omega | (dsimp only at *;omega)
 split at h2
 . rename_i c;cases h2;exact⟨fun hq=>(by rw[c] at hq;cases hq),fun hv=>dH hv (di (R.plc hv))⟩
 split at h2
 . rename_i c;simp only[Option.map_eq_some_iff] at h2;obtain⟨⟨z,v⟩,h3,h4⟩:=h2;cases h4;obtain⟨S,_⟩:=(Ws H n).1 _ _ _ _ h3;have c1:dw L [61] r=true:=by simp only[Bool.and_eq_true] at c;exact c.1
   have gp:=dJ (iT c1).2;refine⟨fun hq=>?_,fun hv=>dH hv (fH (R.plc hv) (di (S.plc ((aP H r).v (Ad.v hv)))))⟩;obtain⟨_,_,g1⟩:=eU hq;have hv:=aQ (bu H [59] v) hq;have:=S.cnt hv;have:=R.cnt (aQ (aP H r) (aQ ((lg H n).1 _ _ _ _ h3) hv));rw[lh,aI,aI,bF]
   first | omega | (dsimp only at *;omega)
 split at h2
 . cases h2;refine⟨fun hq=>?_,one.plc⟩;exact (tK (by decide) (aQ (bu H [59] _) hq)).elim
 . cases h2;exact one
def aaJ (L:List Tok) (n:Nat):Prop:=
 (∀ p t q,zf L n p=some (t,q)->Jb L p t q)/\(∀ p t q,mg L n p=some (t,q)->Jb L p t q)/\(∀ acc p l q,pJ L n acc p=some (l,q)->Py L p acc l q)
theorem ZC (H:LW L):∀ n,aaJ L n
 | 0=>⟨fun _ _ _ h=>(by cases h),fun _ _ _ h=>(by cases h),fun _ _ _ _ h=>(by cases h)⟩
 | n+1=>by
   obtain⟨i1,i2,i3⟩:=ZC H n;obtain⟨a1,a2,a3⟩:=SY H n;have eB:=(Ws H n).1;have aB:=(lg H n).1;refine⟨fun p t q h=>?_,fun p t q h=>?_,fun acc p l q h=>?_⟩
   . rw[zf] at h;dsimp only at h;have Ap:=aP H p;by_cases c:dw L Zc p=true
     . rw[if_pos c] at h;simp only[Option.bind_eq_some_iff,Option.map_eq_some_iff] at h;obtain⟨⟨y,r⟩,h1,⟨z,v⟩,h2,h3⟩:=h;cases h3;have gp:=dJ (iT c).2;obtain⟨R,_⟩:=pR H n _ h1;obtain⟨S,_⟩:=eB _ _ _ _ h2;have Aw:=dL H 1 (bK L p);have Am:=bu H [58] (iw L 1 (bK L p));have Ak:=dK H n _ h1;have Ae:=bu H [61] r;refine⟨fun hq=>?_,fun hv=>dH hv (fH (R.plc (Am.v (Aw.v (Ap.v hv)))) (di (S.plc (Ae.v (Ak.v (Am.v (Aw.v (Ap.v hv)))))))) ⟩;obtain⟨_,_,g1⟩:=eU hq;have b1:=aQ (bu H [59] v) hq;have:=S.cnt b1;have b2:=aQ (aB _ _ _ _ h2) b1;obtain⟨_,_,g2⟩:=eU b2;have b3:=aQ Ae b2;have:=R.cnt b3;have b4:=aQ Ak b3;obtain⟨_,_,g3⟩:=eU b4;obtain⟨_,_,_,g4⟩:=uH (by decide) (aQ Am b4);rw[lh,aI,aI,bF]
       first | omega | (dsimp only at *;omega)
     rw[if_neg c] at h;clear c;by_cases c:dw L wIf p=true
     . rw[if_pos c] at h;simp only[Option.bind_eq_some_iff] at h;obtain⟨⟨y,r⟩,h1,⟨z,v⟩,h2,h3⟩:=h;have gp:=dJ (iT c).2;obtain⟨R,_⟩:=eB _ _ _ _ h1;have S:=i2 _ _ _ h2;have Ae:=aB _ _ _ _ h1;have Ab:=(a2 _ _ _ h2).1;dsimp only at h3;split at h3
       . rename_i ce;simp only[Option.map_eq_some_iff] at h3;obtain⟨⟨e,w⟩,h4,h5⟩:=h3;cases h5;have T:=i2 _ _ _ h4;have gp2:=dJ (iT ce).2;refine⟨fun hq=>?_,fun hv=>dH hv (fH (R.plc (Ap.v hv)) (fH (S.plc (Ae.v (Ap.v hv))) (di (T.plc ((aP H v).v (Ab.v (Ae.v (Ap.v hv))))))))⟩;have:=T.cnt hq;have b1:=aQ (aP H v) (aQ (a2 _ _ _ h4).1 hq);have:=S.cnt b1;have:=R.cnt (aQ Ab b1);rw[lh,aI,aI,aI,bF]
         first | omega | (dsimp only at *;omega)
       . cases h3;refine⟨fun hq=>?_,fun hv=>dH hv (fH (R.plc (Ap.v hv)) (di (S.plc (Ae.v (Ap.v hv)))))⟩;have:=S.cnt hq;have:=R.cnt (aQ Ab hq);rw[lh,aI,aI,bF]
         first | omega | (dsimp only at *;omega)
     rw[if_neg c] at h;clear c;by_cases c:dw L EL p=true
     . rw[if_pos c] at h;simp only[Option.bind_eq_some_iff,Option.map_eq_some_iff] at h;obtain⟨⟨y,r⟩,h1,⟨z,v⟩,h2,h3⟩:=h;cases h3;have gp:=dJ (iT c).2;obtain⟨R,_⟩:=eB _ _ _ _ h1;have S:=i2 _ _ _ h2;have Ae:=aB _ _ _ _ h1;have Ab:=(a2 _ _ _ h2).1;refine⟨fun hq=>?_,fun hv=>dH hv (fH (R.plc (Ap.v hv)) (di (S.plc (Ae.v (Ap.v hv)))))⟩;have:=S.cnt hq;have:=R.cnt (aQ Ab hq);rw[lh,aI,aI,bF]
       first | omega | (dsimp only at *;omega)
     rw[if_neg c] at h;clear c;by_cases c:dw L xA p=true
     . rw[if_pos c] at h;have gp:=dJ (iT c).2;split at h
       . cases h;refine⟨fun hq=>?_,fun hv=>dH hv jF⟩;obtain⟨_,_,g1⟩:=eU hq;rw[lh,bF];omega
       . simp only[Option.map_eq_some_iff] at h;obtain⟨⟨y,r⟩,h1,h3⟩:=h;cases h3;obtain⟨R,_⟩:=eB _ _ _ _ h1;refine⟨fun hq=>?_,fun hv=>dH hv (di (R.plc (Ap.v hv)))⟩;obtain⟨_,_,g1⟩:=eU hq;have:=R.cnt (aQ (bu H [59] r) hq);rw[lh,aI,bF]
         first | omega | (dsimp only at *;omega)
     rw[if_neg c] at h;clear c;by_cases c:dw L EJ p=true
     . rw[if_pos c] at h;have gp:=dJ (iT c).2;simp only[Option.map_eq_some_iff] at h;obtain⟨⟨y,r⟩,h1,h3⟩:=h;cases h3;obtain⟨R,_⟩:=eB _ _ _ _ h1;refine⟨fun hq=>?_,fun hv=>dH hv (di (R.plc (Ap.v hv)))⟩;obtain⟨_,_,g1⟩:=eU hq;have:=R.cnt (aQ (bu H [59] r) hq);rw[lh,aI,bF]
       first | omega | (dsimp only at *;omega)
     rw[if_neg c] at h;exact RJ H h
   . rw[mg] at h;simp only[Option.map_eq_some_iff] at h;obtain⟨⟨y,r⟩,h1,h3⟩:=h;cases h3;have R:=i3 _ _ _ _ h1;refine⟨fun hq=>?_,fun hv=>dH hv (R.plc ((bC H [123] p).v hv) jF)⟩;obtain⟨_,_,g1⟩:=gY hq;have b1:=aQ (cO H [125] r) hq;have e1:=R.cnt b1;obtain⟨_,_,_,g2⟩:=gq (aQ (a3 _ _ _ _ h1) b1);rw[bF] at e1;rw[lh]
     first | omega | (dsimp only at *;omega)
   . rw[pJ] at h;split at h
     . cases h;exact⟨fun _=>by omega,fun _ h=>h⟩
     . simp only[Option.bind_eq_some_iff] at h;obtain⟨⟨y,r⟩,h1,h2⟩:=h;have R:=i1 _ _ _ h1;have S:=i3 _ _ _ _ h2;refine⟨fun hq=>?_,fun hv ha=>S.plc ((a1 _ _ _ h1).1.v hv) (ng ha (di (R.plc hv)))⟩;have e1:=S.cnt hq;have:=R.cnt (aQ (a3 _ _ _ _ h2) hq);rw[gU,aI,bF] at e1
       first | omega | (dsimp only at *;omega)
theorem zl (H:LW L):∀ (n:Nat) (acc:List Tr) (p:PS) {l:List Tr} {q:PS},lS L n acc p=some (l,q)->Py L p acc l q
 | 0,_,_,_,_,h=>by cases h
 | n+1,acc,p,l,q,h=>by
   rw[lS] at h;split at h
   . cases h;exact⟨fun _=>by omega,fun _ h=>h⟩
   . simp only[Option.bind_eq_some_iff] at h;obtain⟨⟨y,r⟩,h1,h2⟩:=h;have R:=CG H h1;have S:=zl H n _ _ h2;have At':=(jY H h1).1;have Am:=bu H [59] r;refine⟨fun hq=>?_,fun hv ha=>S.plc (Am.v (At'.v hv)) (ng ha (di (R.plc hv)))⟩;have e1:=S.cnt hq;have:=R.cnt (aQ Am (aQ (nJ H n _ _ h2) hq));have:=Am.a;rw[gU,aI,bF] at e1
     first | omega | (dsimp only at *;omega)
theorem zn (H:LW L):∀ (n:Nat) (f:Bool) (acc:List Tr) (p:PS) {l:List Tr} {q:PS},lU L n f acc p=some (l,q)->Py L p acc l q
 | 0,_,_,_,_,_,h=>by cases h
 | n+1,f,acc,p,l,q,h=>by
   rw[lU] at h;split at h
   . cases h;exact⟨fun _=>by omega,fun _ h=>h⟩
   . simp only[Option.bind_eq_some_iff] at h;obtain⟨⟨y,r⟩,h1,h2⟩:=h;have h0:fC L p (if f=true then p else bZ L [44] p) 0:=by
      split
      . exact fC.refl p
      . exact bu H _ p
     have R:=CG H h1;have S:=zn H n _ _ _ h2;have At':=(jY H h1).1;refine⟨fun hq=>?_,fun hv ha=>S.plc (At'.v (h0.v hv)) (ng ha (di (R.plc (h0.v hv))))⟩;have e1:=S.cnt hq;have:=R.cnt (aQ (kD H n _ _ _ h2) hq);have:=h0.a;rw[gU,aI,bF] at e1
     first | omega | (dsimp only at *;omega)
theorem LC (H:LW L) {n:Nat} {p q:PS} {t:Tr} (h:nT L n p=some (t,q)):Jb L p t q:=by
 unfold nT at h;simp only[Option.map_eq_some_iff] at h;obtain⟨⟨y,r⟩,h1,h2⟩:=h;cases h2;have R:=zl H n _ _ h1;have Am:=bu H EK p;have Aw:=dL H 2 (bZ L EK p);have Ao:=bC H [123] (iw L 2 (bZ L EK p));refine⟨fun hq=>?_,fun hv=>dH hv (R.plc (Ao.v (Aw.v (Am.v hv))) jF)⟩;obtain⟨_,_,g1⟩:=gY hq;have b1:=aQ (cO H [125] r) hq;have e1:=R.cnt b1;obtain⟨_,_,_,g2⟩:=gq (aQ (nJ H n _ _ h1) b1);have:=Am.a;have:=Aw.a;rw[bF] at e1;rw[lh]
 first | omega | (dsimp only at *;omega)
theorem aau (H:LW L) {n:Nat} {p q:PS} {t:Tr} (h:pFn L n p=some (t,q)):Jb L p t q:=by
 unfold pFn at h;simp only[Option.map_eq_some_iff,Option.bind_eq_some_iff] at h;obtain⟨⟨y,r⟩,h1,⟨z,v⟩,h2,⟨e,w⟩,h3,h4⟩:=h;cases h4;dsimp only at h2 h3⊢;have R:=zn H n _ _ _ h1;have T:=(ZC H n).2.1 _ _ _ h3;have Am:=bu H Za p;have Aw:=dL H 1 (bZ L Za p);have Ao:=bC H [40] (iw L 1 (bZ L Za p));have Ap:=kD H n _ _ _ h1;have As:=cO H [41] r;have B:fC L (dQ L [41] r) v 0:=by
  split at h2
  . exact ((aP H _).trans (dK H n _ h2)).of (by omega)
  . cases h2;exact fC.refl _
 have S:(v.bad=false->z.n+(dQ L [41] r).a<=v.a+1)/\((dQ L [41] r).a<L.length->EW L z):=by
  split at h2
  . rename_i c;obtain⟨K,_⟩:=pR H n _ h2;refine⟨fun hq=>?_,fun hv=>K.plc ((aP H _).v hv)⟩;have:=K.cnt hq;have:=(aP H (dQ L [41] r)).a;omega
  . cases h2;refine⟨fun _=>by simp[Tr.n,Tr.nR,Tr.fP];omega,fun _ x hx=>?_⟩;simp only[Tr.nR,Tr.fP,List.mem_singleton] at hx;subst hx;exact .inr ⟨rfl,rfl,rfl⟩
 refine⟨fun hq=>?_,fun hv=>dH hv (ng (R.plc (Ao.v (Aw.v (Am.v hv))) jF) (fH (S.2 (As.v (Ap.v (Ao.v (Aw.v (Am.v hv)))))) (di (T.plc (B.v (As.v (Ap.v (Ao.v (Aw.v (Am.v hv)))))))))) ⟩;have:=T.cnt hq;have b1:=aQ (((SY H n).2.1 _ _ _ h3).1) hq;have:=S.1 b1;have b2:=aQ B b1;obtain⟨_,_,g1⟩:=gY b2;have b3:=aQ As b2;have e1:=R.cnt b3;obtain⟨_,_,_,g2⟩:=gq (aQ Ap b3);have:=Am.a;have:=Aw.a;rw[bF] at e1;rw[lh,gU,aI,aI,bF]
 first | omega | (dsimp only at *;omega)
theorem uQ (H:LW L):∀ (n:Nat) (acc:List Tr) (p:PS) {l:List Tr} {q:PS},kP L n acc p=some (l,q)->Py L p acc l q
 | 0,_,_,_,_,h=>by cases h
 | n+1,acc,p,l,q,h=>by
   rw[kP] at h;split at h
   . cases h;exact⟨fun _=>by omega,fun _ h=>h⟩
   have more:∀ {y:Tr} {r:PS},Jb L p y r->fC L p r 0->kP L n (acc++[y]) r=some (l,q)->Py L p acc l q:=by
    intro y r R A h2;have S:=uQ H n _ _ h2;refine⟨fun hq=>?_,fun hv ha=>S.plc (A.v hv) (ng ha (di (R.plc hv)))⟩;have e1:=S.cnt hq;have:=R.cnt (aQ (jX H n _ _ h2) hq);rw[gU,aI,bF] at e1;omega
   split at h
   . simp only[Option.bind_eq_some_iff] at h;obtain⟨⟨y,r⟩,h1,h2⟩:=h;exact more (LC H h1) (ru H h1).1 h2
   split at h
   . simp only[Option.bind_eq_some_iff] at h;obtain⟨⟨y,r⟩,h1,h2⟩:=h;exact more (aau H h1) (Jh H h1).1 h2
   . have S:=uQ H n _ _ h;have A:=dO (L:=L) 5 p;refine⟨fun hq=>(tK (by decide) (aQ (jX H n _ _ h) hq)).elim,fun hv ha=>S.plc (A.v hv) ha⟩
end
theorem OE {s:List UInt8}:∀ {l:List Tok} {i:Nat},Pls s i l->l.length+i<=s.length+1
 | [],_,h=>by cases h
 | t::l,i,⟨h1,_,h3⟩=>by
   rcases h3 with ⟨_,_,rfl⟩ | ⟨h4,h5,_,_,_,_,_,h11⟩
   . simp;omega
   . have:=OE h11;have:=(Eh h4 h5).1;simp;omega
def kF (L:List Tok):Nat:=12*L.length+20
def p0:PS:=⟨0,0,(0,0,0)⟩
def PN (L:List Tok) (p:PS):PS:=if (tk L p).k=8 then p else dG L 5 p
def jl (prog:Bool) (s:List UInt8):Option ((Int×Int×Int)×Tr):=
 if (cZ s).1.1≠0 then some ((cZ s).1,.nd 0 0 0 0 [] [])
 else (if prog then Iu (cZ s).2 (kF (cZ s).2) p0 else iE (cZ s).2 (kF (cZ s).2) 1 p0).map fun r=>((PN (cZ s).2 r.2).f,r.1)
structure abB (s:List UInt8) (L:List Tok):Prop where
 lw:LW L
 len:L.length<=s.length+1
 tok:∀ t∈L,t.k=8\/Zf s t
theorem EE {s:List UInt8} (h:(cZ s).1.1=0):abB s (cZ s).2:=by
 have P:=KC h;exact⟨(KY P).1,by have:=OE P;omega,(KY P).2⟩
theorem Zv (L:List Tok):mu L p0=L.length:=rfl
theorem KX (prog:Bool) (s:List UInt8):∃ r,jl prog s=some r:=by
 unfold jl;split
 . exact⟨_,rfl⟩
 . rename_i h;have h0:(cZ s).1.1=0:=by simpa using h
   have T:=EE h0;have hv:p0.a<(cZ s).2.length:=T.lw.pos;rw[<- Option.isSome_iff_exists,Option.isSome_map];cases prog with
   | true=>
     show (Iu _ _ _).isSome=true;unfold Iu;rw[Option.isSome_map];exact nM T.lw _ _ _ hv (by rw[Zv];unfold kF;omega)
   | false=>exact (Hf T.lw _).1 1 p0 hv (by rw[Zv];unfold kF;omega)
theorem QT {prog:Bool} {s:List UInt8} {f:Int×Int×Int} {t:Tr} (h:jl prog s=some (f,t)) (hf:f.1=0):
 (cZ s).1.1=0/\t.n<=s.length+1/\(prog=false->Kd t/\EW (cZ s).2 t)/\(prog=true->∃ rl,t=.nd 1 1 1 0 [] rl/\xE (cZ s).2 rl):=by
 unfold jl at h;split at h
 . rename_i h0;cases h;exact absurd hf h0
 rename_i h0;have h0:(cZ s).1.1=0:=by simpa using h0
 have T:=EE h0;have hv:p0.a<(cZ s).2.length:=T.lw.pos;have hlen:=T.len;simp only[Option.map_eq_some_iff] at h;obtain⟨⟨t',q⟩,h1,h2⟩:=h;cases h2;have hq:q.bad=false:=by
  unfold PN at hf;split at hf
  . unfold PS.bad;rw[hf];rfl
  . exfalso;have:=iF (L:=(cZ s).2) (e:=5) (by decide) q;unfold PS.bad at this;rw[hf] at this;exact absurd this (by decide)
 refine⟨h0,?_⟩;cases prog with
 | false=>
   have h1:iE (cZ s).2 (kF (cZ s).2) 1 p0=some (t',q):=h1;obtain⟨R,K⟩:=(Ws T.lw _).1 _ _ _ _ h1;have:=R.cnt hq;have:=((lg T.lw _).1 _ _ _ _ h1).v hv;exact⟨by dsimp only at *;omega,fun _=>⟨K,R.plc hv⟩,fun h=>by cases h⟩
 | true=>
   have h1:Iu (cZ s).2 (kF (cZ s).2) p0=some (t',q):=h1;unfold Iu at h1;simp only[Option.map_eq_some_iff] at h1;obtain⟨⟨rl,r⟩,h3,h4⟩:=h1;cases h4;have R:=uQ T.lw _ _ _ h3;have e:=R.cnt hq;rw[bF] at e;have:=(jX T.lw _ _ _ h3).v hv;refine⟨?_,fun h=>(by cases h),fun _=>⟨rl,rfl,R.plc hv jF⟩⟩;have:(Tr.nd 1 1 1 0 [] rl).n=Tr.ns rl+1:=by simp[Tr.n,Tr.ns,Tr.nR]
   rw[this]
   first | omega | (dsimp only at *;omega)
end Go.Proofs.YtllbpdllkkcajaaGreatDoor
