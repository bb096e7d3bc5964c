/- hindcastlaw07: texts joined: ParA, ParB, ParC, ParD, ParE, LexOA, LexZD, ParF, ParG, ParGB. -/
import Derived.Test.YtllbpdllkkcajaaGreatDoorPbe
namespace Go.Proofs.YtllbpdllkkcajaaGreatDoor
open Go.RowKit
inductive Tr where
 | nd (k l c n:Int) (x:List UInt8) (ks:List Tr)
def Tr.k:Tr->Int
 | .nd k _ _ _ _ _=>k
structure PS where
 a:Nat
 d:Int
 f:Int×Int×Int
section
variable (L:List Tok)
def tk (p:PS):Tok:=L.getD p.a ⟨8,0,0,0,[]⟩
def PS.bad (p:PS):Bool:=!(p.f.1==0)
def dD (e:Int) (p:PS):PS:=if p.bad then p else { p with f:=(e,(tk L p).l,(tk L p).c) }
def dm (s:List UInt8) (p:PS):Bool:=!p.bad&&((tk L p).k==6||(tk L p).k==7)&&(tk L p).x==s
def bF (p:PS):PS:=if (tk L p).k=8 then p else { p with a:=p.a+1 }
def bC (s:List UInt8) (p:PS):PS:=if dm L s p then bF L p else dD L 5 p
def dE (s:List UInt8) (p:PS):PS:=
 let p1:=if dm L s p&&p.d==40 then dD L 6 p else p
 { bC L s p1 with d:=(bC L s p1).d+1 }
def dw (s:List UInt8) (p:PS):PS:={ bC L s p with d:=(bC L s p).d - 1 }
def gK (k:Int) (p:PS):PS:=if p.bad||!((tk L p).k==k) then dD L 5 p else bF L p
def nd (k:Int) (t:Tok) (n:Int) (x:List UInt8) (ks:List Tr):Tr:=.nd k t.l t.c n x ks
def GI (x:List UInt8):Int×Nat:=
 if x=[124,124] then (15,1) else if x=[38,38] then (14,2) else if x=[61,61] then (6,3) else if x=[33,61] then (7,3)
 else if x=[60] then (8,4) else if x=[60,61] then (9,4) else if x=[62] then (10,4) else if x=[62,61] then (11,4)
 else if x=[43] then (1,5) else if x=[45] then (2,5) else if x=[42] then (3,6) else if x=[47] then (4,6) else if x=[37] then (5,6) else (0,0)
def Nv (lvl:Nat) (p:PS):Int:=if p.bad||!((tk L p).k==7) then 0 else if (GI (tk L p).x).2=lvl then (GI (tk L p).x).1 else 0
def jq:List UInt8:=[116,114,117,101]
def gz:List UInt8:=[102,97,108,115,101]
def oh:List UInt8:=[110,105,108]
def dX:List UInt8:=[109,97,107,101]
def yC:List UInt8:=[105,110,116]
def qy:List UInt8:=[98,111,111,108]
def AC:List UInt8:=[115,116,114]
def uh:List UInt8:=[99,111,109,112]
def fD:Nat->PS->Option (Tr×PS)
 | 0,_=>none
 | n+1,p=>
   if p.bad then some (nd 15 (tk L p) 0 [] [],p)
   else if dm L yC p then some (nd 15 (tk L p) 0 [] [],bF L p)
   else if dm L qy p then some (nd 16 (tk L p) 0 [] [],bF L p)
   else if dm L AC p then some (nd 17 (tk L p) 0 [] [],bF L p)
   else if dm L uh p then some (nd 18 (tk L p) 0 [] [],bF L p)
   else if (tk L p).k=2 then some (nd 19 (tk L p) 0 (tk L p).x [],bF L p)
   else if dm L [91] p then (fD n (dE L [91] p)).map fun r=>(nd 20 (tk L p) 0 [] [r.1],dw L [93] r.2)
   else some (nd 15 (tk L p) 0 [] [],dD L 5 p)
def jo (p:PS):PS:=if !((tk L (bF L p)).k==2)&&!dm L [91] (bF L p) then dD L 5 (bF L p) else bF L p
mutual
def dW:Nat->Nat->PS->Option (Tr×PS)
 | 0,_,_=>none
 | n+1,lvl,p=>if 6<lvl then wF n p else (dW n (lvl+1) p).bind fun r=>jc n lvl r.1 r.2
def jc:Nat->Nat->Tr->PS->Option (Tr×PS)
 | 0,_,_,_=>none
 | n+1,lvl,x,p=>
   if Nv L lvl p=0 then some (x,p)
   else (dW n (lvl+1) (bF L p)).bind fun r=>
    if lvl=3\/lvl=4 then some (nd 31 (tk L p) (Nv L lvl p) [] [x,r.1],r.2) else jc n lvl (nd 31 (tk L p) (Nv L lvl p) [] [x,r.1]) r.2
def wF:Nat->PS->Option (Tr×PS)
 | 0,_=>none
 | n+1,p=>
   if dm L [45] p then (wF n (dE L (tk L p).x p)).map fun r=>(nd 30 (tk L p) 12 [] [r.1],{ r.2 with d:=r.2.d - 1 })
   else if dm L [33] p then (wF n (dE L (tk L p).x p)).map fun r=>(nd 30 (tk L p) 13 [] [r.1],{ r.2 with d:=r.2.d - 1 })
   else (eH n p).bind fun r=>iM n r.1 r.2
def iM:Nat->Tr->PS->Option (Tr×PS)
 | 0,_,_=>none
 | n+1,x,p=>
   if dm L [91] p then (dW n 1 (dE L [91] p)).bind fun r=>iM n (nd 28 (tk L p) 0 [] [x,r.1]) (dw L [93] r.2)
   else if dm L [46] p then iM n (nd 29 (tk L p) 0 (tk L (bF L p)).x [x]) (gK L 1 (bF L p))
   else some (x,p)
def eH:Nat->PS->Option (Tr×PS)
 | 0,_=>none
 | n+1,p=>
   if p.bad then some (nd 25 (tk L p) 0 [] [],p)
   else if (tk L p).k=3 then some (nd 21 (tk L p) (tk L p).n [] [],bF L p)
   else if (tk L p).k=4 then some (nd 22 (tk L p) (tk L p).n [] [],bF L p)
   else if (tk L p).k=5 then some (nd 23 (tk L p) 0 (tk L p).x [],bF L p)
   else if dm L jq p then some (nd 24 (tk L p) 1 [] [],bF L p)
   else if dm L gz p then some (nd 24 (tk L p) 0 [] [],bF L p)
   else if dm L oh p then some (nd 25 (tk L p) 0 [] [],bF L p)
   else if (tk L p).k=1 then
    if dm L [40] (bF L p) then (gY n true [] (dE L [40] (bF L p))).map fun r=>(nd 27 (tk L p) 0 (tk L p).x r.1,dw L [41] r.2)
    else some (nd 26 (tk L p) 0 (tk L p).x [],bF L p)
   else if dm L [40] p then (dW n 1 (dE L [40] p)).map fun r=>(r.1,dw L [41] r.2)
   else if dm L dX p then
    (fD L n (jo L p)).bind fun r=>
     if r.1.k=20 then (dW n 1 (dE L [40] r.2)).map fun y=>(nd 32 (tk L p) 0 [] [r.1,y.1],dw L [41] y.2)
     else some (nd 32 (tk L p) 0 [] [r.1],dw L [41] (dE L [40] r.2))
   else some (nd 25 (tk L p) 0 [] [],dD L 5 p)
def gY:Nat->Bool->List Tr->PS->Option (List Tr×PS)
 | 0,_,_,_=>none
 | n+1,first,acc,p=>
   if p.bad||dm L [41] p then some (acc,p)
   else (dW n 1 (if first then p else bC L [44] p)).bind fun r=>gY n false (acc++[r.1]) r.2
end
def lX:List UInt8:=[118,97,114]
def wM:List UInt8:=[105,102]
def nU:List UInt8:=[101,108,115,101]
def fK:List UInt8:=[119,104,105,108,101]
def dC:List UInt8:=[114,101,116,117,114,110]
def fQ:List UInt8:=[112,114,105,110,116]
def jO:List UInt8:=[114,101,99]
def vS:List UInt8:=[102,110]
def gq (n:Nat) (kind:Int) (p:PS):Option (Tr×PS):=
 (fD L n (bC L [58] (gK L 1 p))).map fun r=>(nd kind (tk L p) 0 (tk L p).x [r.1],r.2)
def ja (n:Nat) (t:Tok) (p:PS):Option (Tr×PS):=
 (dW L n 1 p).bind fun r=>
  let x:=r.1
  let q:=r.2
  if q.bad then some (nd 13 t 0 [] [x],q)
  else if dm L [61] q&&(x.k==26||x.k==28||x.k==29) then (dW L n 1 (bF L q)).map fun y=>(nd 8 t 0 [] [x,y.1],bC L [59] y.2)
  else if dm L [61] q||!(x.k==27) then some (nd 13 t 0 [] [x],bC L [59] (dD L 5 q))
  else some (nd 13 t 0 [] [x],bC L [59] q)
mutual
def iw:Nat->PS->Option (Tr×PS)
 | 0,_=>none
 | n+1,p=>
   let t:=tk L p
   if dm L lX p then
    let q:=bF L p
    (fD L n (bC L [58] (gK L 1 q))).bind fun r=>(dW L n 1 (bC L [61] r.2)).map fun y=>(nd 7 t 0 (tk L q).x [r.1,y.1],bC L [59] y.2)
   else if dm L wM p then
    (dW L n 1 (bF L p)).bind fun r=>(eX n r.2).bind fun b=>
     if dm L nU b.2 then (eX n (bF L b.2)).map fun e=>(nd 9 t 0 [] [r.1,b.1,e.1],e.2)
     else some (nd 9 t 0 [] [r.1,b.1],b.2)
   else if dm L fK p then (dW L n 1 (bF L p)).bind fun r=>(eX n r.2).map fun b=>(nd 10 t 0 [] [r.1,b.1],b.2)
   else if dm L dC p then
    if dm L [59] (bF L p) then some (nd 11 t 0 [] [],bC L [59] (bF L p))
    else (dW L n 1 (bF L p)).map fun r=>(nd 11 t 0 [] [r.1],bC L [59] r.2)
   else if dm L fQ p then (dW L n 1 (bF L p)).map fun r=>(nd 12 t 0 [] [r.1],bC L [59] r.2)
   else ja L n t p
def eX:Nat->PS->Option (Tr×PS)
 | 0,_=>none
 | n+1,p=>(fP n [] (dE L [123] p)).map fun r=>(nd 6 (tk L p) 0 [] r.1,dw L [125] r.2)
def fP:Nat->List Tr->PS->Option (List Tr×PS)
 | 0,_,_=>none
 | n+1,acc,p=>if p.bad||dm L [125] p then some (acc,p) else (iw n p).bind fun r=>fP n (acc++[r.1]) r.2
end
def fF:Nat->List Tr->PS->Option (List Tr×PS)
 | 0,_,_=>none
 | n+1,acc,p=>if p.bad||dm L [125] p then some (acc,p) else (gq L n 3 p).bind fun r=>fF n (acc++[r.1]) (bC L [59] r.2)
def fH (n:Nat) (p:PS):Option (Tr×PS):=
 let q:=bC L jO p
 (fF L n [] (dE L [123] (gK L 2 q))).map fun r=>(nd 2 (tk L p) 0 (tk L q).x r.1,dw L [125] r.2)
def dN:Nat->Bool->List Tr->PS->Option (List Tr×PS)
 | 0,_,_,_=>none
 | n+1,first,acc,p=>if p.bad||dm L [41] p then some (acc,p) else (gq L n 5 (if first then p else bC L [44] p)).bind fun r=>dN n false (acc++[r.1]) r.2
def GL (n:Nat) (p:PS):Option (Tr×PS):=
 let q:=bC L vS p
 (dN L n true [] (dE L [40] (gK L 1 q))).bind fun r=>
  let q2:=dw L [41] r.2
  (if dm L [58] q2 then fD L n (bF L q2) else some (Tr.nd 14 0 0 0 [] [],q2)).bind fun k=>
   (eX L n k.2).map fun b=>(nd 4 (tk L p) r.1.length (tk L q).x (r.1++[k.1,b.1]),b.2)
def eY:Nat->List Tr->PS->Option (List Tr×PS)
 | 0,_,_=>none
 | n+1,acc,p=>
   if p.bad||(tk L p).k==8 then some (acc,p)
   else if dm L jO p then (fH L n p).bind fun r=>eY n (acc++[r.1]) r.2
   else if dm L vS p then (GL L n p).bind fun r=>eY n (acc++[r.1]) r.2
   else eY n acc (dD L 5 p)
def vK (n:Nat) (p:PS):Option (Tr×PS):=(eY L n [] p).map fun r=>(.nd 1 1 1 0 [] r.1,r.2)
end
mutual
def Tr.sz:Tr->Nat
 | .nd _ _ _ _ _ ks=>Tr.szs ks
def Tr.szs:List Tr->Nat
 | []=>0
 | t::ts=>t.sz+1+Tr.szs ts
end
structure Az where
 k:Int
 l:Int
 c:Int
 z:Nat
 n:Int
 x:List UInt8
 deriving DecidableEq
mutual
def Tr.qP:Tr->List Az
 | .nd k l c n x ks=>⟨k,l,c,Tr.szs ks,n,x⟩::Tr.iT ks
def Tr.iT:List Tr->List Az
 | []=>[]
 | t::ts=>t.qP++Tr.iT ts
end
structure LW (L:List Tok):Prop where
 pos:0<L.length
 last:(L.getD (L.length - 1) ⟨8,0,0,0,[]⟩).k=8
section
variable {L:List Tok}
structure gZ (L:List Tok) (p q:PS) (e:Int):Prop where
 d:q.d=p.d+e
 a:p.a<=q.a
 v:p.a<L.length->q.a<L.length
 b:p.bad=true->q.f=p.f
theorem gZ.refl (p:PS):gZ L p p 0:=⟨by omega,Nat.le_refl _,id,fun _=>rfl⟩
theorem vk {p q:PS} (h:q.f=p.f):q.bad=p.bad:=by unfold PS.bad;rw[h]
theorem gZ.trans {p q r:PS} {e f:Int} (h:gZ L p q e) (k:gZ L q r f):gZ L p r (e+f):=⟨by rw[k.d,h.d];omega,Nat.le_trans h.a k.a,fun x=>k.v (h.v x),fun x=>(k.b (by rw[vk (h.b x)];exact x)).trans (h.b x)⟩
theorem gZ.of {p q:PS} {e f:Int} (h:gZ L p q e) (he:e=f):gZ L p q f:=he▸h
theorem dP (e:Int) (p:PS):gZ L p (dD L e p) 0:=by
 unfold dD;split
 . exact gZ.refl p
 . rename_i hb;exact⟨by simp,Nat.le_refl _,id,fun h=>absurd h hb⟩
theorem aN (H:LW L) (p:PS):gZ L p (bF L p) 0:=by
 unfold bF;split
 . exact gZ.refl p
 . rename_i h;refine⟨by simp,Nat.le_succ _,fun hv=>?_,fun _=>rfl⟩;show p.a+1<L.length;by_cases e:p.a=L.length - 1
   . exfalso;apply h;unfold tk;rw[e];exact H.last
   . omega
theorem aV (H:LW L) (s:List UInt8) (p:PS):gZ L p (bC L s p) 0:=by
 unfold bC;split
 . exact aN H p
 . exact dP 5 p
theorem bG (H:LW L) (s:List UInt8) (p:PS):gZ L p (dE L s p) 1:=by
 unfold dE;have h1:gZ L p (if (dm L s p&&p.d==40)=true then dD L 6 p else p) 0:=by
  split
  . exact dP 6 p
  . exact gZ.refl p
 have h2:=h1.trans (aV H s _);exact⟨by simp only;rw[h2.d];omega,h2.a,h2.v,h2.b⟩
theorem dB (H:LW L) (s:List UInt8) (p:PS):gZ L p (dw L s p) (-1):=by
 have h2:=aV H s p;exact⟨by show _ - 1=_;rw[h2.d];omega,h2.a,h2.v,h2.b⟩
theorem dF (H:LW L) (k:Int) (p:PS):gZ L p (gK L k p) 0:=by
 unfold gK;split
 . exact dP 5 p
 . exact aN H p
theorem dV (H:LW L):∀ (n:Nat) (p:PS) {t:Tr} {q:PS},fD L n p=some (t,q)->gZ L p q 0
 | 0,p,t,q,h=>by cases h
 | n+1,p,t,q,h=>by
   rw[fD] at h;split at h
   . cases h;exact gZ.refl p
   split at h
   . cases h;exact aN H p
   split at h
   . cases h;exact aN H p
   split at h
   . cases h;exact aN H p
   split at h
   . cases h;exact aN H p
   split at h
   . cases h;exact aN H p
   split at h
   . simp only[Option.map_eq_some_iff] at h;obtain⟨⟨x,r⟩,h1,h2⟩:=h;cases h2;exact (((bG H _ p).trans (dV H n _ h1)).trans (dB H _ r)).of (by omega)
   . cases h;exact dP 5 p
def agB (L:List Tok) (n:Nat):Prop:=
 (∀ lvl p t q,dW L n lvl p=some (t,q)->gZ L p q 0)/\(∀ lvl x p t q,jc L n lvl x p=some (t,q)->gZ L p q 0)/\(∀ p t q,wF L n p=some (t,q)->gZ L p q 0)/\
 (∀ x p t q,iM L n x p=some (t,q)->gZ L p q 0)/\(∀ p t q,eH L n p=some (t,q)->gZ L p q 0)/\(∀ f acc p l q,gY L n f acc p=some (l,q)->gZ L p q 0)
theorem mG (H:LW L):∀ n,agB L n
 | 0=>⟨fun _ _ _ _ h=>(by cases h),fun _ _ _ _ _ h=>(by cases h),fun _ _ _ h=>(by cases h),fun _ _ _ _ h=>(by cases h),fun _ _ _ h=>(by cases h),fun _ _ _ _ _ h=>(by cases h)⟩
 | n+1=>by
   obtain⟨i1,i2,i3,i4,i5,i6⟩:=mG H n;refine⟨fun lvl p t q h=>?_,fun lvl x p t q h=>?_,fun p t q h=>?_,fun x p t q h=>?_,fun p t q h=>?_,fun f acc p l q h=>?_⟩
   . rw[dW] at h;split at h
     . exact i3 _ _ _ h
     . simp only[Option.bind_eq_some_iff] at h;obtain⟨⟨y,r⟩,h1,h2⟩:=h;exact (i1 _ _ _ _ h1).trans (i2 _ _ _ _ _ h2)
   . rw[jc] at h;split at h
     . cases h;exact gZ.refl p
     . simp only[Option.bind_eq_some_iff] at h;obtain⟨⟨y,r⟩,h1,h2⟩:=h;have hr:=(aN H p).trans (i1 _ _ _ _ h1);split at h2
       . cases h2;exact hr
       . exact hr.trans (i2 _ _ _ _ _ h2)
   . rw[wF] at h;split at h
     . simp only[Option.map_eq_some_iff] at h;obtain⟨⟨y,r⟩,h1,h2⟩:=h;cases h2;have:=(bG H (tk L p).x p).trans (i3 _ _ _ h1);exact⟨by simp only;rw[this.d];omega,this.a,this.v,this.b⟩
     . split at h
       . simp only[Option.map_eq_some_iff] at h;obtain⟨⟨y,r⟩,h1,h2⟩:=h;cases h2;have:=(bG H (tk L p).x p).trans (i3 _ _ _ h1);exact⟨by simp only;rw[this.d];omega,this.a,this.v,this.b⟩
       . simp only[Option.bind_eq_some_iff] at h;obtain⟨⟨y,r⟩,h1,h2⟩:=h;exact (i5 _ _ _ h1).trans (i4 _ _ _ _ h2)
   . rw[iM] at h;split at h
     . simp only[Option.bind_eq_some_iff] at h;obtain⟨⟨y,r⟩,h1,h2⟩:=h;exact ((((bG H _ p).trans (i1 _ _ _ _ h1)).trans (dB H _ r)).trans (i4 _ _ _ _ h2)).of (by omega)
     . split at h
       . exact (((aN H p).trans (dF H 1 _)).trans (i4 _ _ _ _ h)).of (by omega)
       . cases h;exact gZ.refl p
   . rw[eH] at h;by_cases c:p.bad=true
     . rw[if_pos c] at h;cases h;exact gZ.refl p
     rw[if_neg c] at h;clear c;by_cases c:(tk L p).k=3
     . rw[if_pos c] at h;cases h;exact aN H p
     rw[if_neg c] at h;clear c;by_cases c:(tk L p).k=4
     . rw[if_pos c] at h;cases h;exact aN H p
     rw[if_neg c] at h;clear c;by_cases c:(tk L p).k=5
     . rw[if_pos c] at h;cases h;exact aN H p
     rw[if_neg c] at h;clear c;by_cases c:dm L jq p=true
     . rw[if_pos c] at h;cases h;exact aN H p
     rw[if_neg c] at h;clear c;by_cases c:dm L gz p=true
     . rw[if_pos c] at h;cases h;exact aN H p
     rw[if_neg c] at h;clear c;by_cases c:dm L oh p=true
     . rw[if_pos c] at h;cases h;exact aN H p
     rw[if_neg c] at h;clear c;by_cases c:(tk L p).k=1
     . rw[if_pos c] at h;by_cases c2:dm L [40] (bF L p)=true
       . rw[if_pos c2] at h;simp only[Option.map_eq_some_iff] at h;obtain⟨⟨y,r⟩,h1,h2⟩:=h;cases h2;exact ((((aN H p).trans (bG H _ _)).trans (i6 _ _ _ _ _ h1)).trans (dB H _ r)).of (by omega)
       . rw[if_neg c2] at h;cases h;exact aN H p
     rw[if_neg c] at h;clear c;by_cases c:dm L [40] p=true
     . rw[if_pos c] at h;simp only[Option.map_eq_some_iff] at h;obtain⟨⟨y,r⟩,h1,h2⟩:=h;cases h2;exact (((bG H _ _).trans (i1 _ _ _ _ h1)).trans (dB H _ r)).of (by omega)
     rw[if_neg c] at h;clear c;by_cases c:dm L dX p=true
     . rw[if_pos c] at h;simp only[Option.bind_eq_some_iff] at h;obtain⟨⟨y,r⟩,h1,h2⟩:=h;have h0:gZ L p (jo L p) 0:=by
        unfold jo;split
        . exact ((aN H p).trans (dP 5 _)).of (by omega)
        . exact aN H p
       have hk:=h0.trans (dV H n _ h1);split at h2
       . simp only[Option.map_eq_some_iff] at h2;obtain⟨⟨z,u⟩,h3,h4⟩:=h2;cases h4;exact (((hk.trans (bG H _ r)).trans (i1 _ _ _ _ h3)).trans (dB H _ u)).of (by omega)
       . cases h2;exact ((hk.trans (bG H _ r)).trans (dB H _ _)).of (by omega)
     rw[if_neg c] at h;cases h;exact dP 5 p
   . rw[gY] at h;split at h
     . cases h;exact gZ.refl p
     . simp only[Option.bind_eq_some_iff] at h;obtain⟨⟨y,r⟩,h1,h2⟩:=h;have h0:gZ L p (if f=true then p else bC L [44] p) 0:=by
        split
        . exact gZ.refl p
        . exact aV H _ p
       exact ((h0.trans (i1 _ _ _ _ h1)).trans (i6 _ _ _ _ _ h2)).of (by omega)
end
section
variable {L:List Tok}
def kV (p q:PS):Prop:=q.bad=true\/p.a<q.a
theorem kV.trans {p q r:PS} {e:Int} (h:kV p q) (k:gZ L q r e):kV p r:=by
 rcases h with h | h
 . exact .inl (by rw[vk (k.b h)];exact h)
 . exact .inr (by have:=k.a;omega)
theorem kV.after {p q r:PS} {e:Int} (k:gZ L p q e) (h:kV q r):kV p r:=by
 rcases h with h | h
 . exact .inl h
 . exact .inr (by have:=k.a;omega)
theorem ji {p:PS} (h:(tk L p).k≠8):kV p (bF L p):=by
 unfold bF;rw[if_neg h];exact .inr (Nat.lt_succ_self _)
theorem jV {s:List UInt8} {p:PS} (h:dm L s p=true):p.bad=false/\(tk L p).k≠8:=by
 unfold dm at h;simp only[Bool.and_eq_true,Bool.or_eq_true,Bool.not_eq_true',beq_iff_eq] at h;exact⟨h.1.1,by omega⟩
theorem iE {s:List UInt8} {p:PS} (h:dm L s p=true):kV p (bF L p):=ji (jV h).2
theorem jv {e:Int} (he:e≠0) (p:PS):(dD L e p).bad=true:=by
 unfold dD;split
 . assumption
 . unfold PS.bad;simp[he]
theorem OY {s:List UInt8} {p:PS} (h:p.bad=true):dm L s p=false:=by unfold dm;rw[h];rfl
theorem iQ {s:List UInt8} {p:PS} (h:dm L s p=true):kV p (dE L s p):=by
 unfold dE;by_cases c:(dm L s p&&p.d==40)=true
 . left;simp only[c,if_true];have hb:(dD L 6 p).bad=true:=jv (by decide) p;have:bC L s (dD L 6 p)=dD L 6 p:=by
    unfold bC;rw[OY hb];show dD L 5 (dD L 6 p)=_;rw[dD.eq_def L 5,if_pos hb]
   show (bC L s (dD L 6 p)).bad=true;rw[this];exact hb
 . have e:bC L s p=bF L p:=by unfold bC;rw[if_pos h]
   simp only[c];show kV p { bC L s p with d:=_ };rw[e];exact iE h
def afI (L:List Tok) (n:Nat):Prop:=
 (∀ lvl p t q,dW L n lvl p=some (t,q)->kV p q)/\(∀ p t q,wF L n p=some (t,q)->kV p q)/\(∀ p t q,eH L n p=some (t,q)->kV p q)
theorem UU (H:LW L):∀ n,afI L n
 | 0=>⟨fun _ _ _ _ h=>(by cases h),fun _ _ _ h=>(by cases h),fun _ _ _ h=>(by cases h)⟩
 | n+1=>by
   obtain⟨i1,i3,i5⟩:=UU H n;obtain⟨a1,a2,a3,a4,a5,a6⟩:=mG H n;refine⟨fun lvl p t q h=>?_,fun p t q h=>?_,fun p t q h=>?_⟩
   . rw[dW] at h;split at h
     . exact i3 _ _ _ h
     . simp only[Option.bind_eq_some_iff] at h;obtain⟨⟨y,r⟩,h1,h2⟩:=h;exact (i1 _ _ _ _ h1).trans (a2 _ _ _ _ _ h2)
   . rw[wF] at h;split at h
     . rename_i c;simp only[Option.map_eq_some_iff] at h;obtain⟨⟨y,r⟩,h1,h2⟩:=h;cases h2;have hx:(tk L p).x=[45]:=by
        unfold dm at c;simp only[Bool.and_eq_true,beq_iff_eq] at c;exact c.2
       rw[hx] at h1;have w:kV p r:=(iQ c).trans (a3 _ _ _ h1);exact w
     . split at h
       . rename_i c;simp only[Option.map_eq_some_iff] at h;obtain⟨⟨y,r⟩,h1,h2⟩:=h;cases h2;have hx:(tk L p).x=[33]:=by
          unfold dm at c;simp only[Bool.and_eq_true,beq_iff_eq] at c;exact c.2
         rw[hx] at h1;have w:kV p r:=(iQ c).trans (a3 _ _ _ h1);exact w
       . simp only[Option.bind_eq_some_iff] at h;obtain⟨⟨y,r⟩,h1,h2⟩:=h;exact (i5 _ _ _ h1).trans (a4 _ _ _ _ h2)
   . rw[eH] at h;by_cases c:p.bad=true
     . rw[if_pos c] at h;cases h;exact .inl c
     rw[if_neg c] at h;clear c;by_cases c:(tk L p).k=3
     . rw[if_pos c] at h;cases h;exact ji (by omega)
     rw[if_neg c] at h;clear c;by_cases c:(tk L p).k=4
     . rw[if_pos c] at h;cases h;exact ji (by omega)
     rw[if_neg c] at h;clear c;by_cases c:(tk L p).k=5
     . rw[if_pos c] at h;cases h;exact ji (by omega)
     rw[if_neg c] at h;clear c;by_cases c:dm L jq p=true
     . rw[if_pos c] at h;cases h;exact iE c
     rw[if_neg c] at h;clear c;by_cases c:dm L gz p=true
     . rw[if_pos c] at h;cases h;exact iE c
     rw[if_neg c] at h;clear c;by_cases c:dm L oh p=true
     . rw[if_pos c] at h;cases h;exact iE c
     rw[if_neg c] at h;clear c;by_cases c:(tk L p).k=1
     . rw[if_pos c] at h;have hp:kV p (bF L p):=ji (by omega);by_cases c2:dm L [40] (bF L p)=true
       . rw[if_pos c2] at h;simp only[Option.map_eq_some_iff] at h;obtain⟨⟨y,r⟩,h1,h2⟩:=h;cases h2;exact ((hp.trans (bG H _ _)).trans (a6 _ _ _ _ _ h1)).trans (dB H _ r)
       . rw[if_neg c2] at h;cases h;exact hp
     rw[if_neg c] at h;clear c;by_cases c:dm L [40] p=true
     . rw[if_pos c] at h;simp only[Option.map_eq_some_iff] at h;obtain⟨⟨y,r⟩,h1,h2⟩:=h;cases h2;exact ((iQ c).trans (a1 _ _ _ _ h1)).trans (dB H _ r)
     rw[if_neg c] at h;clear c;by_cases c:dm L dX p=true
     . rw[if_pos c] at h;simp only[Option.bind_eq_some_iff] at h;obtain⟨⟨y,r⟩,h1,h2⟩:=h;have h0:kV p (jo L p):=by
        unfold jo;split
        . exact (iE c).trans (dP 5 _)
        . exact iE c
       have hk:=h0.trans (dV H n _ h1);split at h2
       . simp only[Option.map_eq_some_iff] at h2;obtain⟨⟨z,u⟩,h3,h4⟩:=h2;cases h4;exact ((hk.trans (bG H _ r)).trans (a1 _ _ _ _ h3)).trans (dB H _ u)
       . cases h2;exact (hk.trans (bG H _ r)).trans (dB H _ _)
     rw[if_neg c] at h;cases h;exact .inl (jv (by decide) p)
def mu (L:List Tok) (p:PS):Nat:=if p.bad then 0 else L.length - p.a
theorem gJ {p q:PS} {e:Int} (h:gZ L p q e):mu L q<=mu L p:=by
 unfold mu;by_cases c:p.bad=true
 . rw[vk (h.b c),if_pos c,if_pos c];exact Nat.le_refl _
 . rw[if_neg c];split
   . omega
   . have:=h.a;omega
theorem nK {p q:PS} (h:kV p q) (hp:p.bad=false) (hv:p.a<L.length):mu L q+1<=mu L p:=by
 unfold mu;rw[hp];rcases h with h | h
 . rw[if_pos h];simp;omega
 . split<;>simp<;>omega
theorem jH {p q:PS} {e:Int} (h:kV p q) (k:gZ L p q e) (hv:p.a<L.length):12*mu L q+1<=12*mu L p+1/\(mu L q=0\/mu L q+1<=mu L p):=by
 refine⟨by have:=gJ k;omega,?_⟩;by_cases c:p.bad=true
 . left;have:=gJ k;unfold mu at this⊢;rw[c] at this;simp at this⊢;exact this
 . exact .inr (nK h (by simpa using c) hv)
theorem pR (H:LW L):∀ (n:Nat) (p:PS),p.a<L.length->mu L p+1<=n->(fD L n p).isSome=true
 | 0,p,_,h=>by omega
 | n+1,p,hv,h=>by
   rw[fD];by_cases c:dm L [91] p=true
   . have hm:=nK (iQ c) (jV c).1 hv;have:=pR H n (dE L [91] p) ((bG H _ p).v hv) (by omega)
     repeat' split
     all_goals first | rfl | (rw[Option.isSome_map];exact this)
   . repeat' split
     all_goals first | rfl | (rename_i hh;exact absurd hh c)
end
section
variable {L:List Tok}
theorem DU {lvl:Nat} {p:PS} (h:¬ Nv L lvl p=0):p.bad=false/\(tk L p).k≠8:=by
 unfold Nv at h;split at h
 . exact absurd rfl h
 . rename_i c;simp only[Bool.or_eq_true,Bool.not_eq_true',beq_eq_false_iff_ne,not_or] at c;exact⟨by simpa using c.1,by have:=c.2;simp at this;omega⟩
def afC (L:List Tok) (n:Nat):Prop:=
 (∀ lvl p,p.a<L.length->12*mu L p+3+(7 - lvl)<=n->(dW L n lvl p).isSome=true)/\(∀ lvl x p,p.a<L.length->12*mu L p+1<=n->(jc L n lvl x p).isSome=true)/\
 (∀ p,p.a<L.length->12*mu L p+2<=n->(wF L n p).isSome=true)/\(∀ x p,p.a<L.length->12*mu L p+1<=n->(iM L n x p).isSome=true)/\
 (∀ p,p.a<L.length->12*mu L p+1<=n->(eH L n p).isSome=true)/\(∀ f acc p,p.a<L.length->12*mu L p+10<=n->(gY L n f acc p).isSome=true)
theorem dO {α β:Type} {o:Option α} {f:α->Option β} (h:o.isSome=true) (k:∀ x,o=some x->(f x).isSome=true):(o.bind f).isSome=true:=by
 cases o with
 | none=>cases h
 | some x=>exact k x rfl
theorem gu {α β:Type} {o:Option α} {f:α->β} (h:o.isSome=true):(o.map f).isSome=true:=by rw[Option.isSome_map];exact h
theorem afW {s:List UInt8} {p:PS} (h:dm L s p=true):(tk L p).x=s:=by
 unfold dm at h;simp only[Bool.and_eq_true,beq_iff_eq] at h;exact h.2
theorem nM {p:PS} (hp:p.bad=false) (hv:p.a<L.length):1<=mu L p:=by unfold mu;rw[hp];simp;omega
theorem MB (H:LW L):∀ n,afC L n
 | 0=>⟨fun _ _ _ h=>by omega,fun _ _ _ _ h=>by omega,fun _ _ h=>by omega,fun _ _ _ h=>by omega,fun _ _ h=>by omega,fun _ _ _ _ h=>by omega⟩
 | n+1=>by
   obtain⟨i1,i2,i3,i4,i5,i6⟩:=MB H n;obtain⟨a1,a2,a3,a4,a5,a6⟩:=mG H n;obtain⟨w1,w3,w5⟩:=UU H n;refine⟨fun lvl p hv hn=>?_,fun lvl x p hv hn=>?_,fun p hv hn=>?_,fun x p hv hn=>?_,fun p hv hn=>?_,fun f acc p hv hn=>?_⟩
   . rw[dW];split
     . exact i3 p hv (by omega)
     . refine dO (i1 _ p hv (by omega)) fun r hr=>?_
       have A:=a1 _ _ _ _ hr;exact i2 _ _ _ (A.v hv) (by have:=gJ A;omega)
   . rw[jc];split
     . rfl
     . rename_i c;have hm:=nK (ji (DU c).2) (DU c).1 hv;have hw:=(aN H p).v hv;refine dO (i1 _ _ hw (by omega)) fun r hr=>?_
       have A:=a1 _ _ _ _ hr;split
       . rfl
       . exact i2 _ _ _ (A.v hw) (by have:=gJ A;omega)
   . rw[wF];split
     . rename_i c;have hm:=nK (iQ c) (jV c).1 hv;rw[afW c];exact gu (i3 _ ((bG H _ p).v hv) (by omega))
     . split
       . rename_i c;have hm:=nK (iQ c) (jV c).1 hv;rw[afW c];exact gu (i3 _ ((bG H _ p).v hv) (by omega))
       . refine dO (i5 p hv (by omega)) fun r hr=>?_
         have A:=a5 _ _ _ hr;exact i4 _ _ (A.v hv) (by have:=gJ A;omega)
   . rw[iM];split
     . rename_i c;have hm:=nK (iQ c) (jV c).1 hv;have hw:=(bG H [91] p).v hv;refine dO (i1 _ _ hw (by omega)) fun r hr=>?_
       have A:=(a1 _ _ _ _ hr).trans (dB H [93] r.2);exact i4 _ _ (A.v hw) (by have:=gJ A;omega)
     . split
       . rename_i c;have hm:=nK (iE c) (jV c).1 hv;have A:=(aN H p).trans (dF H 1 _);have:=gJ (dF H 1 (bF L p));exact i4 _ _ (A.v hv) (by omega)
       . rfl
   . rw[eH];have hw:=(aN H p).v hv;by_cases c0:p.bad=true
     . rw[if_pos c0];rfl
     rw[if_neg c0];have hb:p.bad=false:=by simpa using c0
     clear c0;by_cases c1:(tk L p).k=3
     . rw[if_pos c1];rfl
     rw[if_neg c1];clear c1;by_cases c2:(tk L p).k=4
     . rw[if_pos c2];rfl
     rw[if_neg c2];clear c2;by_cases c3:(tk L p).k=5
     . rw[if_pos c3];rfl
     rw[if_neg c3];clear c3;by_cases c4:dm L jq p=true
     . rw[if_pos c4];rfl
     rw[if_neg c4];clear c4;by_cases c5:dm L gz p=true
     . rw[if_pos c5];rfl
     rw[if_neg c5];clear c5;by_cases c6:dm L oh p=true
     . rw[if_pos c6];rfl
     rw[if_neg c6];clear c6;by_cases c:(tk L p).k=1
     . rw[if_pos c];have hm:=nK (ji (L:=L) (p:=p) (by omega)) hb hv;by_cases c2:dm L [40] (bF L p)=true
       . rw[if_pos c2];have hm2:=nK (iQ c2) (jV c2).1 hw;exact gu (i6 true [] _ ((bG H [40] _).v hw) (by omega))
       . rw[if_neg c2];rfl
     rw[if_neg c];clear c;by_cases c:dm L [40] p=true
     . rw[if_pos c];have hm:=nK (iQ c) (jV c).1 hv;exact gu (i1 1 _ ((bG H [40] p).v hv) (by omega))
     rw[if_neg c];clear c;by_cases c3:dm L dX p=true
     . rw[if_pos c3];have hm:=nK (iE c3) (jV c3).1 hv;have h0:gZ L p (jo L p) 0:=by
        unfold jo;split
        . exact ((aN H p).trans (dP 5 _)).of (by omega)
        . exact aN H p
       have hq:gZ L (bF L p) (jo L p) 0:=by
        unfold jo;split
        . exact dP 5 _
        . exact gZ.refl _
       have:=gJ hq;refine dO (pR H n _ (h0.v hv) (by omega)) fun r hr=>?_
       have A:=dV H n _ hr;split
       . have B:=bG H [40] r.2;exact gu (i1 _ _ (B.v (A.v (h0.v hv))) (by have:=gJ A;have:=gJ B;omega))
       . rfl
     rw[if_neg c3];rfl
   . rw[gY];split
     . rfl
     . rename_i c;have hb:p.bad=false:=by
        cases e:p.bad with
        | false=>rfl
        | true=>exfalso;apply c;rw[e];rfl
       have h0:gZ L p (if f=true then p else bC L [44] p) 0:=by
        split
        . exact gZ.refl p
        . exact aV H _ p
       have hm:=gJ h0;have hv1:=h0.v hv;refine dO (i1 _ _ hv1 (by omega)) fun r hr=>?_
       have A:=a1 _ _ _ _ hr;have W:=(jH (w1 _ _ _ _ hr) A hv1).2;have:=nM hb hv;exact i6 _ _ _ (A.v hv1) (by omega)
end
section
variable {L:List Tok}
theorem Xy {k:Int} (hk:k≠8) (p:PS):kV p (gK L k p):=by
 unfold gK;split
 . exact .inl (jv (by decide) p)
 . rename_i c;refine ji ?_;simp only[Bool.or_eq_true,Bool.not_eq_true',beq_eq_false_iff_ne,not_or] at c;have:=c.2;simp at this;omega
theorem zq (s:List UInt8) (p:PS):kV p (bC L s p):=by
 unfold bC;split
 . exact iE (by assumption)
 . exact .inl (jv (by decide) p)
theorem Ro (s:List UInt8) (p:PS):kV p (dE L s p):=by
 by_cases c:dm L s p=true
 . exact iQ c
 . unfold dE;have:¬ (dm L s p&&p.d==40)=true:=by simp[c]
   simp only[this];exact zq s p
theorem kw (H:LW L) {n:Nat} {k:Int} {p q:PS} {t:Tr} (h:gq L n k p=some (t,q)):gZ L p q 0/\kV p q:=by
 unfold gq at h;simp only[Option.map_eq_some_iff] at h;obtain⟨⟨y,r⟩,h1,h2⟩:=h;cases h2;have A:=(aV H [58] (gK L 1 p)).trans (dV H n _ h1);exact⟨((dF H 1 p).trans A).of (by omega),(Xy (by decide) p).trans A⟩
theorem CX (H:LW L) {n:Nat} {k:Int} {p:PS} (hv:p.a<L.length) (hn:mu L p+1<=n):(gq L n k p).isSome=true:=by
 unfold gq;have A:=(dF H 1 p).trans (aV H [58] _);exact gu (pR H n _ (A.v hv) (by have:=gJ A;omega))
theorem U8 (H:LW L) {n:Nat} {u:Tok} {p q:PS} {t:Tr} (h:ja L n u p=some (t,q)):gZ L p q 0/\kV p q:=by
 unfold ja at h;simp only[Option.bind_eq_some_iff] at h;obtain⟨⟨y,r⟩,h1,h2⟩:=h;have A:=(mG H n).1 _ _ _ _ h1;have W:=(UU H n).1 _ _ _ _ h1;dsimp only at h2;have B:gZ L r q 0:=by
  split at h2
  . cases h2;exact gZ.refl _
  . split at h2
    . simp only[Option.map_eq_some_iff] at h2;obtain⟨⟨z,v⟩,h3,h4⟩:=h2;cases h4;exact (((aN H r).trans ((mG H n).1 _ _ _ _ h3)).trans (aV H [59] v)).of (by omega)
    . split at h2
      . cases h2;exact ((dP 5 r).trans (aV H [59] _)).of (by omega)
      . cases h2;exact aV H [59] r
 exact⟨(A.trans B).of (by omega),W.trans B⟩
theorem CW (H:LW L) {n:Nat} {u:Tok} {p:PS} (hv:p.a<L.length) (hn:12*mu L p+9<=n):(ja L n u p).isSome=true:=by
 unfold ja;refine dO ((MB H n).1 1 p hv (by omega)) fun r hr=>?_
 have A:=(mG H n).1 _ _ _ _ hr;have B:=A.trans (aN H r.2);dsimp only;split
 . rfl
 . split
   . exact gu ((MB H n).1 1 _ (B.v hv) (by have:=gJ B;omega))
   . split<;>rfl
def agC (L:List Tok) (n:Nat):Prop:=
 (∀ p t q,iw L n p=some (t,q)->gZ L p q 0/\kV p q)/\(∀ p t q,eX L n p=some (t,q)->gZ L p q 0/\kV p q)/\(∀ acc p t q,fP L n acc p=some (t,q)->gZ L p q 0)
theorem OQ (H:LW L):∀ n,agC L n
 | 0=>⟨fun _ _ _ h=>(by cases h),fun _ _ _ h=>(by cases h),fun _ _ _ _ h=>(by cases h)⟩
 | n+1=>by
   obtain⟨i1,i2,i3⟩:=OQ H n;have aB:=(mG H n).1;refine⟨fun p t q h=>?_,fun p t q h=>?_,fun acc p t q h=>?_⟩
   . rw[iw] at h;dsimp only at h;by_cases c:dm L lX p=true
     . rw[if_pos c] at h;simp only[Option.bind_eq_some_iff,Option.map_eq_some_iff] at h;obtain⟨⟨y,r⟩,h1,⟨z,v⟩,h2,h3⟩:=h;cases h3;have A:=(((((dF H 1 (bF L p)).trans (aV H [58] _)).trans (dV H n _ h1)).trans (aV H [61] r)).trans (aB _ _ _ _ h2)).trans (aV H [59] v);exact⟨((aN H p).trans A).of (by omega),(iE c).trans A⟩
     rw[if_neg c] at h;clear c;by_cases c:dm L wM p=true
     . rw[if_pos c] at h;simp only[Option.bind_eq_some_iff] at h;obtain⟨⟨y,r⟩,h1,⟨z,v⟩,h2,h3⟩:=h;have A:=(aB _ _ _ _ h1).trans (i2 _ _ _ h2).1;have B:gZ L v q 0:=by
        split at h3
        . simp only[Option.map_eq_some_iff] at h3;obtain⟨⟨e,w⟩,h4,h5⟩:=h3;cases h5;exact ((aN H v).trans (i2 _ _ _ h4).1).of (by omega)
        . cases h3;exact gZ.refl _
       exact⟨((aN H p).trans (A.trans B)).of (by omega),(iE c).trans (A.trans B)⟩
     rw[if_neg c] at h;clear c;by_cases c:dm L fK p=true
     . rw[if_pos c] at h;simp only[Option.bind_eq_some_iff,Option.map_eq_some_iff] at h;obtain⟨⟨y,r⟩,h1,⟨z,v⟩,h2,h3⟩:=h;cases h3;have A:=(aB _ _ _ _ h1).trans (i2 _ _ _ h2).1;exact⟨((aN H p).trans A).of (by omega),(iE c).trans A⟩
     rw[if_neg c] at h;clear c;by_cases c:dm L dC p=true
     . rw[if_pos c] at h;split at h
       . cases h;exact⟨((aN H p).trans (aV H [59] _)).of (by omega),(iE c).trans (aV H [59] _)⟩
       . simp only[Option.map_eq_some_iff] at h;obtain⟨⟨y,r⟩,h1,h3⟩:=h;cases h3;have A:=(aB _ _ _ _ h1).trans (aV H [59] r);exact⟨((aN H p).trans A).of (by omega),(iE c).trans A⟩
     rw[if_neg c] at h;clear c;by_cases c:dm L fQ p=true
     . rw[if_pos c] at h;simp only[Option.map_eq_some_iff] at h;obtain⟨⟨y,r⟩,h1,h3⟩:=h;cases h3;have A:=(aB _ _ _ _ h1).trans (aV H [59] r);exact⟨((aN H p).trans A).of (by omega),(iE c).trans A⟩
     rw[if_neg c] at h;exact U8 H h
   . rw[eX] at h;simp only[Option.map_eq_some_iff] at h;obtain⟨⟨y,r⟩,h1,h3⟩:=h;cases h3;have A:=(i3 _ _ _ _ h1).trans (dB H [125] r);exact⟨((bG H [123] p).trans A).of (by omega),(Ro [123] p).trans A⟩
   . rw[fP] at h;split at h
     . cases h;exact gZ.refl _
     . simp only[Option.bind_eq_some_iff] at h;obtain⟨⟨y,r⟩,h1,h2⟩:=h;exact ((i1 _ _ _ h1).1.trans (i3 _ _ _ _ h2)).of (by omega)
def afD (L:List Tok) (n:Nat):Prop:=
 (∀ p,p.a<L.length->12*mu L p+10<=n->(iw L n p).isSome=true)/\(∀ p,p.a<L.length->12*mu L p+12<=n->(eX L n p).isSome=true)/\
 (∀ acc p,p.a<L.length->12*mu L p+11<=n->(fP L n acc p).isSome=true)
theorem adZ (H:LW L):∀ n,afD L n
 | 0=>⟨fun _ _ h=>by omega,fun _ _ h=>by omega,fun _ _ _ h=>by omega⟩
 | n+1=>by
   obtain⟨i1,i2,i3⟩:=adZ H n;obtain⟨s1,s2,s3⟩:=OQ H n;have aB:=(mG H n).1;have fB:=(MB H n).1;refine⟨fun p hv hn=>?_,fun p hv hn=>?_,fun acc p hv hn=>?_⟩
   . rw[iw];dsimp only;by_cases hb:p.bad=true
     . have:∀ s,dm L s p=false:=fun s=>OY hb
       simp only[this];exact CW H hv (by omega)
     have hb:p.bad=false:=by simpa using hb
     have hw:=(aN H p).v hv;have hp:=nM hb hv;have mp:(tk L p).k≠8->mu L (bF L p)+1<=mu L p:=fun h=>nK (ji h) hb hv
     by_cases c:dm L lX p=true
     . rw[if_pos c];have:=mp (jV c).2;have A:=(dF H 1 (bF L p)).trans (aV H [58] _);have:=gJ A;refine dO (pR H n _ (A.v hw) (by omega)) fun r hr=>?_
       have B:=(dV H n _ hr).trans (aV H [61] r.2);exact gu (fB 1 _ (B.v (A.v hw)) (by have:=gJ B;omega))
     rw[if_neg c];clear c;by_cases c:dm L wM p=true
     . rw[if_pos c];have:=mp (jV c).2;refine dO (fB 1 _ hw (by omega)) fun r hr=>?_
       have A:=aB _ _ _ _ hr;have:=gJ A;refine dO (i2 _ (A.v hw) (by omega)) fun r hr=>?_
       have B:=(s2 _ _ _ hr).1.trans (aN H r.2);split
       . exact gu (i2 _ (B.v (A.v hw)) (by have:=gJ B;omega))
       . rfl
     rw[if_neg c];clear c;by_cases c:dm L fK p=true
     . rw[if_pos c];have:=mp (jV c).2;refine dO (fB 1 _ hw (by omega)) fun r hr=>?_
       have A:=aB _ _ _ _ hr;exact gu (i2 _ (A.v hw) (by have:=gJ A;omega))
     rw[if_neg c];clear c;by_cases c:dm L dC p=true
     . rw[if_pos c];have:=mp (jV c).2;split
       . rfl
       . exact gu (fB 1 _ hw (by omega))
     rw[if_neg c];clear c;by_cases c:dm L fQ p=true
     . rw[if_pos c];have:=mp (jV c).2;exact gu (fB 1 _ hw (by omega))
     rw[if_neg c];exact CW H hv (by omega)
   . rw[eX];have A:=bG H [123] p;exact gu (i3 _ _ (A.v hv) (by have:=gJ A;omega))
   . rw[fP];split
     . rfl
     . rename_i c;have hb:p.bad=false:=by
        cases e:p.bad with
        | false=>rfl
        | true=>exfalso;apply c;rw[e];rfl
       have:=nM hb hv;refine dO (i1 _ hv (by omega)) fun r hr=>?_
       obtain⟨A,W⟩:=s1 _ _ _ hr;have:=(jH W A hv).2;exact i3 _ _ (A.v hv) (by omega)
theorem qF (H:LW L):∀ (n:Nat) (acc:List Tr) (p:PS) {l:List Tr} {q:PS},fF L n acc p=some (l,q)->gZ L p q 0
 | 0,_,_,_,_,h=>by cases h
 | n+1,acc,p,l,q,h=>by
   rw[fF] at h;split at h
   . cases h;exact gZ.refl _
   . simp only[Option.bind_eq_some_iff] at h;obtain⟨⟨y,r⟩,h1,h2⟩:=h;exact (((kw H h1).1.trans (aV H [59] r)).trans (qF H n _ _ h2)).of (by omega)
theorem zQ (H:LW L):∀ (n:Nat) (acc:List Tr) (p:PS),p.a<L.length->mu L p+2<=n->(fF L n acc p).isSome=true
 | 0,_,_,_,h=>by omega
 | n+1,acc,p,hv,hn=>by
   rw[fF];split
   . rfl
   . rename_i c;have hb:p.bad=false:=by
      cases e:p.bad with
      | false=>rfl
      | true=>exfalso;apply c;rw[e];rfl
     have:=nM hb hv;refine dO (CX H hv (by omega)) fun r hr=>?_
     obtain⟨A,W⟩:=kw H hr;have A2:=A.trans (aV H [59] r.2);have:=(jH (W.trans (aV H [59] r.2)) A2 hv).2;exact zQ H n _ _ (A2.v hv) (by omega)
theorem ng (H:LW L):∀ (n:Nat) (f:Bool) (acc:List Tr) (p:PS) {l:List Tr} {q:PS},dN L n f acc p=some (l,q)->gZ L p q 0
 | 0,_,_,_,_,_,h=>by cases h
 | n+1,f,acc,p,l,q,h=>by
   rw[dN] at h;split at h
   . cases h;exact gZ.refl _
   . simp only[Option.bind_eq_some_iff] at h;obtain⟨⟨y,r⟩,h1,h2⟩:=h;have h0:gZ L p (if f=true then p else bC L [44] p) 0:=by
      split
      . exact gZ.refl p
      . exact aV H _ p
     exact ((h0.trans (kw H h1).1).trans (ng H n _ _ _ h2)).of (by omega)
theorem zS (H:LW L):∀ (n:Nat) (f:Bool) (acc:List Tr) (p:PS),p.a<L.length->mu L p+2<=n->(dN L n f acc p).isSome=true
 | 0,_,_,_,_,h=>by omega
 | n+1,f,acc,p,hv,hn=>by
   rw[dN];split
   . rfl
   . rename_i c;have hb:p.bad=false:=by
      cases e:p.bad with
      | false=>rfl
      | true=>exfalso;apply c;rw[e];rfl
     have h0:gZ L p (if f=true then p else bC L [44] p) 0:=by
      split
      . exact gZ.refl p
      . exact aV H _ p
     have:=nM hb hv;have:=gJ h0;refine dO (CX H (h0.v hv) (by omega)) fun r hr=>?_
     obtain⟨A,W⟩:=kw H hr;have:=(jH W A (h0.v hv)).2;exact zS H n _ _ _ (A.v (h0.v hv)) (by omega)
theorem qG (H:LW L) {n:Nat} {p q:PS} {t:Tr} (h:fH L n p=some (t,q)):gZ L p q 0/\kV p q:=by
 unfold fH at h;simp only[Option.map_eq_some_iff] at h;obtain⟨⟨y,r⟩,h1,h2⟩:=h;cases h2;have A:=(((dF H 2 (bC L jO p)).trans (bG H [123] _)).trans (qF H n _ _ h1)).trans (dB H [125] r);exact⟨((aV H jO p).trans A).of (by omega),(zq jO p).trans A⟩
theorem MC (H:LW L) {n:Nat} {p:PS} (hv:p.a<L.length) (hn:mu L p+2<=n):(fH L n p).isSome=true:=by
 unfold fH;have A:=((aV H jO p).trans (dF H 2 _)).trans (bG H [123] _);exact gu (zQ H n _ _ (A.v hv) (by have:=gJ A;omega))
theorem H7 (H:LW L) {n:Nat} {p q:PS} {t:Tr} (h:GL L n p=some (t,q)):gZ L p q 0/\kV p q:=by
 unfold GL at h;simp only[Option.map_eq_some_iff,Option.bind_eq_some_iff] at h;obtain⟨⟨y,r⟩,h1,⟨z,v⟩,h2,⟨e,w⟩,h3,h4⟩:=h;cases h4;have B:gZ L (dw L [41] r) v 0:=by
  split at h2
  . exact ((aN H _).trans (dV H n _ h2)).of (by omega)
  . cases h2;exact gZ.refl _
 have A:=(((((dF H 1 (bC L vS p)).trans (bG H [40] _)).trans (ng H n _ _ _ h1)).trans (dB H [41] r)).trans B).trans ((OQ H n).2.1 _ _ _ h3).1;exact⟨((aV H vS p).trans A).of (by omega),(zq vS p).trans A⟩
theorem acf (H:LW L) {n:Nat} {p:PS} (hv:p.a<L.length) (hn:12*mu L p+12<=n):(GL L n p).isSome=true:=by
 unfold GL;have A:=((aV H vS p).trans (dF H 1 _)).trans (bG H [40] _);refine dO (zS H n _ _ _ (A.v hv) (by have:=gJ A;omega)) fun r hr=>?_
 have B:=(A.trans (ng H n _ _ _ hr)).trans (dB H [41] r.2);have C:=B.trans (aN H _);have k:((if dm L [58] (dw L [41] r.2) then fD L n (bF L (dw L [41] r.2)) else some (Tr.nd 14 0 0 0 [] [],dw L [41] r.2))).isSome=true:=by
  split
  . exact pR H n _ (C.v hv) (by have:=gJ C;omega)
  . rfl
 refine dO k fun y hy=>?_
 have D:gZ L (dw L [41] r.2) y.2 0:=by
  split at hy
  . exact ((aN H _).trans (dV H n _ hy)).of (by omega)
  . cases hy;exact gZ.refl _
 have E:=B.trans D;exact gu ((adZ H n).2.1 _ (E.v hv) (by have:=gJ E;omega))
theorem lg (H:LW L):∀ (n:Nat) (acc:List Tr) (p:PS) {l:List Tr} {q:PS},eY L n acc p=some (l,q)->gZ L p q 0
 | 0,_,_,_,_,h=>by cases h
 | n+1,acc,p,l,q,h=>by
   rw[eY] at h;split at h
   . cases h;exact gZ.refl _
   split at h
   . simp only[Option.bind_eq_some_iff] at h;obtain⟨⟨y,r⟩,h1,h2⟩:=h;exact ((qG H h1).1.trans (lg H n _ _ h2)).of (by omega)
   split at h
   . simp only[Option.bind_eq_some_iff] at h;obtain⟨⟨y,r⟩,h1,h2⟩:=h;exact ((H7 H h1).1.trans (lg H n _ _ h2)).of (by omega)
   . exact ((dP 5 p).trans (lg H n _ _ h)).of (by omega)
theorem qJ (H:LW L):∀ (n:Nat) (acc:List Tr) (p:PS),p.a<L.length->12*mu L p+13<=n->(eY L n acc p).isSome=true
 | 0,_,_,_,h=>by omega
 | n+1,acc,p,hv,hn=>by
   rw[eY];split
   . rfl
   . rename_i c;have hb:p.bad=false:=by
      cases e:p.bad with
      | false=>rfl
      | true=>exfalso;apply c;rw[e];rfl
     have:=nM hb hv;split
     . refine dO (MC H hv (by omega)) fun r hr=>?_
       obtain⟨A,W⟩:=qG H hr;have:=(jH W A hv).2;exact qJ H n _ _ (A.v hv) (by omega)
     split
     . refine dO (acf H hv (by omega)) fun r hr=>?_
       obtain⟨A,W⟩:=H7 H hr;have:=(jH W A hv).2;exact qJ H n _ _ (A.v hv) (by omega)
     . have A:=dP (L:=L) 5 p;have:mu L (dD L 5 p)=0:=by unfold mu;rw[if_pos (jv (by decide) p)]
       exact qJ H n _ _ (A.v hv) (by omega)
end
section
attribute [local go_sem] bg bf aC aj au aI aU aH aK eu jB ik ax says_again cu
theorem abh (l:List Tok) (j:Nat):(rX l).drop (j*5)=rX (l.drop j):=by
 induction l generalizing j with
 | nil=>simp[rX]
 | cons a l ih=>
   cases j with
   | zero=>simp
   | succ j=>
     have:rX (a::l)=a.cs++rX l:=by simp[rX]
     rw[this,show (j+1)*5=a.cs.length+j*5 by simp[Tok.cs];omega,List.drop_append,List.drop_succ_cons,<- ih];simp
def TS (h:Hp) (sl:bM) (l:List Tok):Prop:=sl.n=l.length/\(l=[]\/∃ b c T r,sl=⟨some (b,0),l.length,c⟩/\h b=some ⟨rX l++r,T⟩)
theorem TS.Jb {h:Hp} {sl:bM} {l:List Tok} {T:TypeId} (ho:eF h sl (rX l) T 5) (hn:sl.n=l.length):TS h sl l:=by
 refine⟨hn,?_⟩;rcases ho with ⟨_,hx⟩ | ⟨b,o,h1,h2,_,h4,h5,_,h7⟩
 . left;cases l with
   | nil=>rfl
   | cons a l=>have:=congrArg List.length hx;rw[Bo] at this;simp at this
 . right;obtain⟨cs,T'⟩:=o;refine⟨b,sl.c,T',cs.drop (sl.n*5),?_,?_⟩
   . rw[<- hn,<- h1]
   . rw[h2,h7];simp only[List.take_append_drop]
theorem TS.le {h k:Hp} {sl:bM} {l:List Tok} (ht:TS h sl l) (hl:dA h k):TS k sl l:=by
 refine⟨ht.1,?_⟩;rcases ht.2 with h0 | ⟨b,c,T,r,h1,h2⟩
 . exact .inl h0
 . exact .inr ⟨b,c,T,r,h1,hl _ _ h2⟩
theorem TS.read {h:Hp} {b:Nat} {l:List Tok} {r:List Value} {T:TypeId} (hb:h b=some ⟨rX l++r,T⟩) {j:Nat} (hj:j<l.length):
 hread h (some (b,j*5)) 5=some [.int .u8 l[j].k,.int .i64 l[j].l,.int .i64 l[j].c,.int .i64 l[j].n,.string (B l[j].x)]:=by
 have hlen:=Bo l;rw[bz hb,if_pos (by simp only[List.length_append];omega)];simp only;rw[List.drop_append_of_le_length (by omega),abh,List.drop_eq_getElem_cons hj];rw[rX,List.flatMap_cons];rfl
def Pls (s:List UInt8):Nat->List Tok->Prop
 | _,[]=>False
 | i,t::l=>i+jU false s i≤s.length∧(t.l,t.c)=pl s (i+jU false s i)∧
   ((i+jU false s i=s.length∧t.k=8∧l=[])∨
     (i+jU false s i<s.length/\(one s (i+jU false s i)).f=0/\t.k=(one s (i+jU false s i)).k/\t.n=(one s (i+jU false s i)).n/\t.x=(one s (i+jU false s i)).x/\t.k≠8/\l≠[]/\Pls s (one s (i+jU false s i)).e l))
theorem ZC {k most:Int} {d:List UInt8} {e:Nat} (h:(qc k most d e).1=0):(qc k most d e).2.1=k:=by
 unfold qc at h⊢;split
 . rfl
 . rename_i h1;rw[if_neg h1] at h;exact absurd h (by decide)
theorem af7 {s:List UInt8} {i:Nat} (h:(one s i).f=0):(one s i).k≠8:=by
 unfold one at h⊢;split
 . simp only;unfold kS;split
   . decide
   . split<;>decide
 . rename_i h1;rw[if_neg h1] at h;split
   . rename_i h2;rw[if_pos h2] at h;simp only at h⊢;unfold nm at h⊢;split
     . rename_i h3;rw[if_pos h3] at h;rw[ZC h];decide
     . rename_i h3;rw[if_neg h3] at h;split
       . rename_i h4;rw[if_pos h4] at h;rw[ZC h];decide
       . rename_i h4;rw[if_neg h4] at h;exact absurd h (by decide)
   . rename_i h2;rw[if_neg h2] at h;split
     . rename_i h3;rw[if_pos h3] at h;cases hq:Bg (s.drop i) with
       | none=>rw[hq] at h;simp at h
       | some r=>simp
     . rename_i h3;rw[if_neg h3] at h;split
       . rename_i h4;rw[if_pos h4] at h;simp at h
       . simp
theorem MZ:∀ (m:Nat) (s:List UInt8) (i:Nat) (acc:List Tok),i<=s.length->s.length<m+i->(EN m s i (pl s i) acc).1.1=0->∃ l,(EN m s i (pl s i) acc).2=acc++l/\Pls s i l
 | 0,s,i,acc,hi,hm,_=>by omega
 | m+1,s,i,acc,hi,hm,h=>by
   have hj:=Q9 (s:=s) (i:=i) false hi;rw[EN] at h⊢;rw[DW (Nat.le_add_right i _) hj] at h⊢;split
   . rename_i h1;exact⟨[_],rfl,hj,rfl,.inl ⟨by omega,rfl,rfl⟩⟩
   . rename_i h1;rw[if_neg h1] at h;split
     . rename_i h2;rw[if_pos h2] at h;obtain⟨o1,o2,_⟩:=DT (by omega) h2;rw[DW (by omega) o2] at h⊢;obtain⟨l,hl,hp⟩:=MZ m s _ _ o2 (by omega) h;refine⟨_::l,by rw[hl];simp;rfl,hj,rfl,.inr ⟨by omega,h2,rfl,rfl,rfl,af7 h2,?_,hp⟩⟩;rintro rfl;exact hp
     . rename_i h2;rw[if_neg h2] at h;exact absurd h h2
end
def adQ (s:List UInt8) (t:Tok):Prop:=∃ j,j<s.length/\(one s j).f=0/\t.k=(one s j).k/\t.n=(one s j).n/\t.x=(one s j).x/\t.k≠8
theorem QL {s:List UInt8}:∀ {l:List Tok} {i:Nat},Pls s i l->LW l/\∀ t∈l,t.k=8\/adQ s t
 | [],_,h=>by cases h
 | t::l,i,⟨_,_,h3⟩=>by
   rcases h3 with ⟨_,h5,rfl⟩ | ⟨h4,h5,h6,h7,h8,h9,h10,h11⟩
   . refine⟨⟨by simp,by simpa using h5⟩,fun u hu=>?_⟩;rw[List.mem_singleton] at hu;subst hu;exact .inl h5
   . obtain⟨⟨p,q⟩,r⟩:=QL h11;refine⟨⟨by simp,?_⟩,fun u hu=>?_⟩
     . obtain⟨n,hn⟩:∃ n,l.length=n+1:=⟨l.length - 1,by omega⟩;rw[List.length_cons,hn,Nat.add_sub_cancel,List.getD_cons_succ];rw[hn,Nat.add_sub_cancel] at q;exact q
     . rcases List.mem_cons.mp hu with rfl | hu
       . exact .inr ⟨_,h4,h5,h6,h7,h8,h9⟩
       . exact r u hu
theorem acL (s:List UInt8):pl s 0=(1,1):=by simp[pl,sub];rfl
theorem Qs {s:List UInt8} (h:(bZ s).1.1=0):Pls s 0 (bZ s).2:=by
 unfold bZ at h⊢;rw[<- acL s] at h⊢;obtain⟨l,h1,h2⟩:=MZ (s.length+1) s 0 [] (Nat.zero_le _) (by omega) h;rw[h1];exact h2
section
variable {L:List Tok}
def Plc (L:List Tok) (x:Az):Prop:=(∃ a,a<L.length/\x.l=(L.getD a ⟨8,0,0,0,[]⟩).l/\x.c=(L.getD a ⟨8,0,0,0,[]⟩).c)\/(x.k=14/\x.l=0/\x.c=0)
def JK (L:List Tok) (t:Tr):Prop:=∀ x∈t.qP,Plc L x
def BF (L:List Tok) (l:List Tr):Prop:=∀ x∈Tr.iT l,Plc L x
def Kd (t:Tr):Prop:=21<=t.k/\t.k<=32
def Tr.n (t:Tr):Nat:=t.qP.length
def Tr.ns (l:List Tr):Nat:=(Tr.iT l).length
theorem mY:∀ a b:List Tr,Tr.iT (a++b)=Tr.iT a++Tr.iT b
 | [],b=>rfl
 | t::a,b=>by simp[Tr.iT,mY a b]
theorem Gz:Tr.iT []=[]:=rfl
theorem qQ (t:Tr) (l:List Tr):Tr.iT (t::l)=t.qP++Tr.iT l:=rfl
theorem nZ (k:Int) (t:Tok) (n:Int) (x:List UInt8) (ks:List Tr):(nd k t n x ks).n=Tr.ns ks+1:=by simp[nd,Tr.n,Tr.ns,Tr.qP]
theorem aQ:Tr.ns []=0:=rfl
theorem ay (t:Tr) (l:List Tr):Tr.ns (t::l)=t.n+Tr.ns l:=by simp[Tr.n,Tr.ns,qQ]
theorem iZ (a b:List Tr):Tr.ns (a++b)=Tr.ns a+Tr.ns b:=by simp[Tr.ns,mY]
theorem lW:BF L []:=fun _ h=>by cases h
theorem iO {t:Tr} {l:List Tr} (h:JK L t) (k:BF L l):BF L (t::l):=fun x hx=>by
 rw[qQ] at hx;rcases List.mem_append.1 hx with hx | hx
 . exact h x hx
 . exact k x hx
theorem qi {a b:List Tr} (h:BF L a) (k:BF L b):BF L (a++b):=fun x hx=>by
 rw[mY] at hx;rcases List.mem_append.1 hx with hx | hx
 . exact h x hx
 . exact k x hx
theorem dL {t:Tr} (h:JK L t):BF L [t]:=iO h lW
theorem eP {p:PS} (hv:p.a<L.length) {k n:Int} {x:List UInt8} {ks:List Tr} (h:BF L ks):JK L (nd k (tk L p) n x ks):=fun y hy=>by
 unfold nd at hy;rw[Tr.qP] at hy;rcases List.mem_cons.1 hy with rfl | hy
 . exact .inl ⟨p.a,hv,rfl,rfl⟩
 . exact h y hy
theorem aY {p q:PS} {e:Int} (h:gZ L p q e) (hq:q.bad=false):p.bad=false:=by
 cases c:p.bad with
 | false=>rfl
 | true=>rw[vk (h.b c),c] at hq;cases hq
theorem eU {p:PS} (h:(tk L p).k≠8):(bF L p).a=p.a+1:=by unfold bF;rw[if_neg h]
theorem gW {s:List UInt8} {p:PS} (h:(bC L s p).bad=false):dm L s p=true/\bC L s p=bF L p/\(bC L s p).a=p.a+1:=by
 unfold bC at h⊢;split at h
 . rename_i c;rw[if_pos c];exact⟨c,rfl,eU (jV c).2⟩
 . rw[jv (by decide) p] at h;cases h
theorem je {s:List UInt8} {p:PS} (h:(dE L s p).bad=false):dm L s p=true/\p.d≠40/\dE L s p={ bF L p with d:=(bF L p).d+1 }/\(dE L s p).a=p.a+1:=by
 unfold dE at h⊢;by_cases c:(dm L s p&&p.d==40)=true
 . simp only[c,if_true] at h;have hb:(dD L 6 p).bad=true:=jv (by decide) p;have h':(bC L s (dD L 6 p)).bad=false:=h;have:=(gW h').1;rw[OY hb] at this;cases this
 . simp only[if_neg c] at h⊢;have h':(bC L s p).bad=false:=h;obtain⟨h1,h2,h3⟩:=gW h';refine⟨h1,fun e=>c (by rw[h1,e];rfl),by rw[h2],h3⟩
theorem jE {s:List UInt8} {p:PS} (h:(dw L s p).bad=false):dm L s p=true/\dw L s p={ bF L p with d:=(bF L p).d - 1 }/\(dw L s p).a=p.a+1:=by
 have h':(bC L s p).bad=false:=h;obtain⟨h1,h2,h3⟩:=gW h';exact⟨h1,by unfold dw;rw[h2],h3⟩
theorem yR {k:Int} (hk:k≠8) {p:PS} (h:(gK L k p).bad=false):p.bad=false/\(tk L p).k=k/\gK L k p=bF L p/\(gK L k p).a=p.a+1:=by
 unfold gK at h⊢;split at h
 . rw[jv (by decide) p] at h;cases h
 . rename_i c;rw[if_neg c];simp only[Bool.or_eq_true,Bool.not_eq_true',beq_eq_false_iff_ne,not_or] at c;have c2:(tk L p).k=k:=by have:=c.2;simp at this;exact this
   exact⟨by simpa using c.1,c2,rfl,eU (by omega)⟩
theorem xP {e:Int} (he:e≠0) {p:PS} (h:(dD L e p).bad=false):False:=by rw[jv he p] at h;cases h
structure OD (L:List Tok) (p:PS) (t:Tr) (q:PS):Prop where
 cnt:q.bad=false->t.n+p.a<=q.a
 plc:p.a<L.length->JK L t
structure aes (L:List Tok) (p:PS) (x t:Tr) (q:PS):Prop where
 cnt:q.bad=false->t.n+p.a<=q.a+x.n
 plc:p.a<L.length->JK L x->JK L t
 kd:Kd x->Kd t
structure U6 (L:List Tok) (p:PS) (a l:List Tr) (q:PS):Prop where
 cnt:q.bad=false->Tr.ns l+p.a<=q.a+Tr.ns a
 plc:p.a<L.length->BF L a->BF L l
theorem nP {p q:PS} {k n:Int} {x:List UInt8} (h:q.bad=false->1+p.a<=q.a):OD L p (nd k (tk L p) n x []) q:=⟨fun hq=>by rw[nZ,aQ];have:=h hq;omega,fun hv=>eP hv lW⟩
theorem tN (H:LW L):∀ (n:Nat) (p:PS) {t:Tr} {q:PS},fD L n p=some (t,q)->OD L p t q/\15<=t.k/\t.k<=20
 | 0,p,t,q,h=>by cases h
 | n+1,p,t,q,h=>by
   have kk:∀ (k:Int) (u:Tok) (m:Int) (x:List UInt8) (ks:List Tr),(nd k u m x ks).k=k:=fun _ _ _ _ _=>rfl
   rw[fD] at h;have pas:∀ {k m:Int} {x:List UInt8} {s:List UInt8},dm L s p=true->OD L p (nd k (tk L p) m x []) (bF L p):=fun c=>nP fun _=>by rw[eU (jV c).2];omega
   split at h
   . rename_i c;cases h;exact⟨nP fun hq=>(by rw[c] at hq;cases hq),by rw[kk];omega⟩
   split at h
   . cases h;exact⟨pas (by assumption),by rw[kk];omega⟩
   split at h
   . cases h;exact⟨pas (by assumption),by rw[kk];omega⟩
   split at h
   . cases h;exact⟨pas (by assumption),by rw[kk];omega⟩
   split at h
   . cases h;exact⟨pas (by assumption),by rw[kk];omega⟩
   split at h
   . rename_i c;cases h;exact⟨nP fun _=>by rw[eU (by omega)];omega,by rw[kk];omega⟩
   split at h
   . simp only[Option.map_eq_some_iff] at h;obtain⟨⟨x,r⟩,h1,h2⟩:=h;cases h2;obtain⟨R,_,_⟩:=tN H n _ h1;refine⟨⟨fun hq=>?_,fun hv=>?_⟩,by rw[kk];omega⟩
     . obtain⟨_,_,g3⟩:=jE hq;have hr:=aY (dB H [93] r) hq;have:=R.cnt hr;obtain⟨_,_,_,g4⟩:=je (aY (dV H n _ h1) hr);rw[nZ,ay,aQ];dsimp only at *;omega
     . exact eP hv (dL (R.plc ((bG H _ p).v hv)))
   . cases h;exact⟨nP fun hq=>(xP (by decide) hq).elim,by rw[kk];omega⟩
def agD (L:List Tok) (n:Nat):Prop:=
 (∀ lvl p t q,dW L n lvl p=some (t,q)->OD L p t q/\Kd t)/\(∀ lvl x p t q,jc L n lvl x p=some (t,q)->aes L p x t q)/\(∀ p t q,wF L n p=some (t,q)->OD L p t q/\Kd t)/\
 (∀ x p t q,iM L n x p=some (t,q)->aes L p x t q)/\(∀ p t q,eH L n p=some (t,q)->OD L p t q/\Kd t)/\(∀ f acc p l q,gY L n f acc p=some (l,q)->U6 L p acc l q)
theorem vF {k:Int} (h:21<=k/\k<=32) (t:Tok) (n:Int) (x:List UInt8) (ks:List Tr):Kd (nd k t n x ks):=h
theorem aaO (H:LW L):∀ n,agD L n
 | 0=>⟨fun _ _ _ _ h=>(by cases h),fun _ _ _ _ _ h=>(by cases h),fun _ _ _ h=>(by cases h),fun _ _ _ _ h=>(by cases h),fun _ _ _ h=>(by cases h),fun _ _ _ _ _ h=>(by cases h)⟩
 | n+1=>by
   obtain⟨i1,i2,i3,i4,i5,i6⟩:=aaO H n;obtain⟨a1,a2,a3,a4,a5,a6⟩:=mG H n;refine⟨fun lvl p t q h=>?_,fun lvl x p t q h=>?_,fun p t q h=>?_,fun x p t q h=>?_,fun p t q h=>?_,fun f acc p l q h=>?_⟩
   . rw[dW] at h;split at h
     . exact i3 _ _ _ h
     . simp only[Option.bind_eq_some_iff] at h;obtain⟨⟨y,r⟩,h1,h2⟩:=h;obtain⟨R,K⟩:=i1 _ _ _ _ h1;have S:=i2 _ _ _ _ _ h2;refine⟨⟨fun hq=>?_,fun hv=>S.plc ((a1 _ _ _ _ h1).v hv) (R.plc hv)⟩,S.kd K⟩;have:=S.cnt hq;have:=R.cnt (aY (a2 _ _ _ _ _ h2) hq);dsimp only at *;omega
   . rw[jc] at h;split at h
     . cases h;exact⟨fun _=>by omega,fun _ h=>h,id⟩
     . rename_i c;simp only[Option.bind_eq_some_iff] at h;obtain⟨⟨y,r⟩,h1,h2⟩:=h;obtain⟨R,K⟩:=i1 _ _ _ _ h1;have gp:=eU (DU c).2;have key:aes L p x (nd 31 (tk L p) (Nv L lvl p) [] [x,y]) r:=by
        refine⟨fun hq=>?_,fun hv hx=>?_,fun _=>vF (by omega) _ _ _ _⟩
        . have:=R.cnt hq;rw[nZ,ay,ay,aQ];omega
        . exact eP hv (iO hx (dL (R.plc ((aN H p).v hv))))
       split at h2
       . cases h2;exact key
       . have S:=i2 _ _ _ _ _ h2;refine⟨fun hq=>?_,fun hv hx=>S.plc ((a1 _ _ _ _ h1).v ((aN H p).v hv)) (key.plc hv hx),fun k=>S.kd (key.kd k)⟩;have:=S.cnt hq;have:=key.cnt (aY (a2 _ _ _ _ _ h2) hq);dsimp only at *;omega
   . have un:∀ {s:List UInt8} {m:Int},dm L s p=true->(wF L n (dE L (tk L p).x p)).map (fun r=>(nd 30 (tk L p) m [] [r.1],{ r.2 with d:=r.2.d - 1 }))=some (t,q)->OD L p t q/\Kd t:=by
      intro s m c h;simp only[Option.map_eq_some_iff] at h;obtain⟨⟨y,r⟩,h1,h2⟩:=h;cases h2;obtain⟨R,K⟩:=i3 _ _ _ h1;refine⟨⟨fun hq=>?_,fun hv=>eP hv (dL (R.plc ((bG H _ p).v hv)))⟩,vF (by omega) _ _ _ _⟩;have hr:r.bad=false:=hq;have:=R.cnt hr;obtain⟨_,_,_,g4⟩:=je (aY (a3 _ _ _ h1) hr);rw[nZ,ay,aQ];show _<=r.a;dsimp only at *;omega
     rw[wF] at h;split at h
     . exact un (by assumption) h
     . split at h
       . exact un (by assumption) h
       . simp only[Option.bind_eq_some_iff] at h;obtain⟨⟨y,r⟩,h1,h2⟩:=h;obtain⟨R,K⟩:=i5 _ _ _ h1;have S:=i4 _ _ _ _ h2;refine⟨⟨fun hq=>?_,fun hv=>S.plc ((a5 _ _ _ h1).v hv) (R.plc hv)⟩,S.kd K⟩;have:=S.cnt hq;have:=R.cnt (aY (a4 _ _ _ _ h2) hq);dsimp only at *;omega
   . rw[iM] at h;split at h
     . simp only[Option.bind_eq_some_iff] at h;obtain⟨⟨y,r⟩,h1,h2⟩:=h;obtain⟨R,K⟩:=i1 _ _ _ _ h1;have S:=i4 _ _ _ _ h2;refine⟨fun hq=>?_,fun hv hx=>S.plc ((dB H [93] r).v ((a1 _ _ _ _ h1).v ((bG H _ p).v hv))) (eP hv (iO hx (dL (R.plc ((bG H _ p).v hv))))),fun _=>S.kd (vF (by omega) _ _ _ _)⟩;have e1:=S.cnt hq;have hs:=aY (a4 _ _ _ _ h2) hq;obtain⟨_,_,g3⟩:=jE hs;have hr:=aY (dB H [93] r) hs;have:=R.cnt hr;obtain⟨_,_,_,g4⟩:=je (aY (a1 _ _ _ _ h1) hr);rw[nZ,ay,ay,aQ] at e1;dsimp only at *;omega
     . split at h
       . rename_i c;have S:=i4 _ _ _ _ h;refine⟨fun hq=>?_,fun hv hx=>S.plc ((dF H 1 _).v ((aN H p).v hv)) (eP hv (dL hx)),fun _=>S.kd (vF (by omega) _ _ _ _)⟩;have e1:=S.cnt hq;have hs:=aY (a4 _ _ _ _ h) hq;obtain⟨_,_,_,g4⟩:=yR (by decide) hs;have g5:=eU (jV c).2;rw[nZ,ay,aQ] at e1;omega
       . cases h;exact⟨fun _=>by omega,fun _ h=>h,id⟩
   . rw[eH] at h;have leaf:∀ {k m:Int} {x:List UInt8},21<=k/\k<=32->(tk L p).k≠8->OD L p (nd k (tk L p) m x []) (bF L p)/\Kd (nd k (tk L p) m x []):=fun hk h8=>⟨nP fun _=>by rw[eU h8];omega,vF hk _ _ _ _⟩
     by_cases c:p.bad=true
     . rw[if_pos c] at h;cases h;exact⟨nP fun hq=>(by rw[c] at hq;cases hq),vF (by omega) _ _ _ _⟩
     rw[if_neg c] at h;clear c;by_cases c:(tk L p).k=3
     . rw[if_pos c] at h;cases h;exact leaf (by omega) (by omega)
     rw[if_neg c] at h;clear c;by_cases c:(tk L p).k=4
     . rw[if_pos c] at h;cases h;exact leaf (by omega) (by omega)
     rw[if_neg c] at h;clear c;by_cases c:(tk L p).k=5
     . rw[if_pos c] at h;cases h;exact leaf (by omega) (by omega)
     rw[if_neg c] at h;clear c;by_cases c:dm L jq p=true
     . rw[if_pos c] at h;cases h;exact leaf (by omega) (jV c).2
     rw[if_neg c] at h;clear c;by_cases c:dm L gz p=true
     . rw[if_pos c] at h;cases h;exact leaf (by omega) (jV c).2
     rw[if_neg c] at h;clear c;by_cases c:dm L oh p=true
     . rw[if_pos c] at h;cases h;exact leaf (by omega) (jV c).2
     rw[if_neg c] at h;clear c;by_cases c:(tk L p).k=1
     . rw[if_pos c] at h;have gp:=eU (L:=L) (p:=p) (by omega);by_cases c2:dm L [40] (bF L p)=true
       . rw[if_pos c2] at h;simp only[Option.map_eq_some_iff] at h;obtain⟨⟨y,r⟩,h1,h2⟩:=h;cases h2;have S:=i6 _ _ _ _ _ h1;refine⟨⟨fun hq=>?_,fun hv=>eP hv (S.plc ((bG H _ _).v ((aN H p).v hv)) lW)⟩,vF (by omega) _ _ _ _⟩;obtain⟨_,_,g3⟩:=jE hq;have hr:=aY (dB H [41] r) hq;have e1:=S.cnt hr;obtain⟨_,_,_,g4⟩:=je (aY (a6 _ _ _ _ _ h1) hr);rw[nZ];rw[aQ] at e1;dsimp only at *;omega
       . rw[if_neg c2] at h;cases h;exact leaf (by omega) (by omega)
     rw[if_neg c] at h;clear c;by_cases c:dm L [40] p=true
     . rw[if_pos c] at h;simp only[Option.map_eq_some_iff] at h;obtain⟨⟨y,r⟩,h1,h2⟩:=h;cases h2;obtain⟨R,K⟩:=i1 _ _ _ _ h1;refine⟨⟨fun hq=>?_,fun hv=>R.plc ((bG H _ p).v hv)⟩,K⟩;obtain⟨_,_,g3⟩:=jE hq;have hr:=aY (dB H [41] r) hq;have:=R.cnt hr;obtain⟨_,_,_,g4⟩:=je (aY (a1 _ _ _ _ h1) hr);dsimp only at *;omega
     rw[if_neg c] at h;clear c;by_cases c:dm L dX p=true
     . rw[if_pos c] at h;have gp:=eU (jV c).2;simp only[Option.bind_eq_some_iff] at h;obtain⟨⟨y,r⟩,h1,h2⟩:=h;have h0:gZ L (bF L p) (jo L p) 0:=by
        unfold jo;split
        . exact dP 5 _
        . exact gZ.refl _
       obtain⟨R,_,_⟩:=tN H n _ h1;have hd:(jo L p).bad=false->(jo L p).a=p.a+1:=by
        unfold jo;split
        . exact fun h=>(xP (by decide) h).elim
        . exact fun _=>gp
       dsimp only at h2;split at h2
       . simp only[Option.map_eq_some_iff] at h2;obtain⟨⟨z,u⟩,h3,h4⟩:=h2;cases h4;obtain⟨S,K⟩:=i1 _ _ _ _ h3;refine⟨⟨fun hq=>?_,fun hv=>?_⟩,vF (by omega) _ _ _ _⟩
         . obtain⟨_,_,g3⟩:=jE hq;have hu:=aY (dB H [41] u) hq;have:=S.cnt hu;have ho:=aY (a1 _ _ _ _ h3) hu;obtain⟨_,_,_,g4⟩:=je ho;have hr:=aY (bG H _ r) ho;have:=R.cnt hr;have:=hd (aY (dV H n _ h1) hr);rw[nZ,ay,ay,aQ];dsimp only at *;omega
         . have v1:=h0.v ((aN H p).v hv);exact eP hv (iO (R.plc v1) (dL (S.plc ((bG H _ r).v ((dV H n _ h1).v v1)))))
       . cases h2;refine⟨⟨fun hq=>?_,fun hv=>eP hv (dL (R.plc (h0.v ((aN H p).v hv))))⟩,vF (by omega) _ _ _ _⟩;obtain⟨_,_,g3⟩:=jE hq;have ho:=aY (dB H [41] _) hq;obtain⟨_,_,_,g4⟩:=je ho;have hr:=aY (bG H _ r) ho;have:=R.cnt hr;have:=hd (aY (dV H n _ h1) hr);rw[nZ,ay,aQ];dsimp only at *;omega
     rw[if_neg c] at h;cases h;exact⟨nP fun hq=>(xP (by decide) hq).elim,vF (by omega) _ _ _ _⟩
   . rw[gY] at h;split at h
     . cases h;exact⟨fun _=>by omega,fun _ h=>h⟩
     . simp only[Option.bind_eq_some_iff] at h;obtain⟨⟨y,r⟩,h1,h2⟩:=h;have h0:gZ L p (if f=true then p else bC L [44] p) 0:=by
        split
        . exact gZ.refl p
        . exact aV H _ p
       obtain⟨R,K⟩:=i1 _ _ _ _ h1;have S:=i6 _ _ _ _ _ h2;refine⟨fun hq=>?_,fun hv ha=>S.plc ((a1 _ _ _ _ h1).v (h0.v hv)) (qi ha (dL (R.plc (h0.v hv))))⟩;have e1:=S.cnt hq;have:=R.cnt (aY (a6 _ _ _ _ _ h2) hq);have:=h0.a;rw[iZ,ay,aQ] at e1;dsimp only at *;omega
end
section
variable {L:List Tok}
theorem GZ (H:LW L) {n:Nat} {k:Int} {p q:PS} {t:Tr} (h:gq L n k p=some (t,q)):OD L p t q:=by
 unfold gq at h;simp only[Option.map_eq_some_iff] at h;obtain⟨⟨y,r⟩,h1,h2⟩:=h;cases h2;obtain⟨R,_⟩:=tN H n _ h1;have A1:=dF H 1 p;have A2:=aV H [58] (gK L 1 p);refine⟨fun hq=>?_,fun hv=>eP hv (dL (R.plc (A2.v (A1.v hv))))⟩;have:=R.cnt hq;have hm:=aY (dV H n _ h1) hq;obtain⟨_,_,g1⟩:=gW hm;obtain⟨_,_,_,g2⟩:=yR (by decide) (aY A2 hm);rw[nZ,ay,aQ]
 first | omega | (dsimp only at *;omega)
theorem Xb (H:LW L) {n:Nat} {p q:PS} {t:Tr} (h:ja L n (tk L p) p=some (t,q)):OD L p t q:=by
 unfold ja at h;simp only[Option.bind_eq_some_iff] at h;obtain⟨⟨y,r⟩,h1,h2⟩:=h;dsimp only at h2;obtain⟨R,_⟩:=(aaO H n).1 _ _ _ _ h1;have Ad:=(mG H n).1 _ _ _ _ h1;have one:OD L p (nd 13 (tk L p) 0 [] [y]) (bC L [59] r):=by
  refine⟨fun hq=>?_,fun hv=>eP hv (dL (R.plc hv))⟩;obtain⟨_,_,g1⟩:=gW hq;have:=R.cnt (aY (aV H [59] r) hq);rw[nZ,ay,aQ]
  first | omega | (dsimp only at *;omega)
 split at h2
 . rename_i c;cases h2;exact⟨fun hq=>(by rw[c] at hq;cases hq),fun hv=>eP hv (dL (R.plc hv))⟩
 split at h2
 . rename_i c;simp only[Option.map_eq_some_iff] at h2;obtain⟨⟨z,v⟩,h3,h4⟩:=h2;cases h4;obtain⟨S,_⟩:=(aaO H n).1 _ _ _ _ h3;have c1:dm L [61] r=true:=by simp only[Bool.and_eq_true] at c;exact c.1
   have gp:=eU (jV c1).2;refine⟨fun hq=>?_,fun hv=>eP hv (iO (R.plc hv) (dL (S.plc ((aN H r).v (Ad.v hv)))))⟩;obtain⟨_,_,g1⟩:=gW hq;have hv:=aY (aV H [59] v) hq;have:=S.cnt hv;have:=R.cnt (aY (aN H r) (aY ((mG H n).1 _ _ _ _ h3) hv));rw[nZ,ay,ay,aQ]
   first | omega | (dsimp only at *;omega)
 split at h2
 . cases h2;refine⟨fun hq=>?_,one.plc⟩;exact (xP (by decide) (aY (aV H [59] _) hq)).elim
 . cases h2;exact one
def afH (L:List Tok) (n:Nat):Prop:=
 (∀ p t q,iw L n p=some (t,q)->OD L p t q)/\(∀ p t q,eX L n p=some (t,q)->OD L p t q)/\(∀ acc p l q,fP L n acc p=some (l,q)->U6 L p acc l q)
theorem aeg (H:LW L):∀ n,afH L n
 | 0=>⟨fun _ _ _ h=>(by cases h),fun _ _ _ h=>(by cases h),fun _ _ _ _ h=>(by cases h)⟩
 | n+1=>by
   obtain⟨i1,i2,i3⟩:=aeg H n;obtain⟨a1,a2,a3⟩:=OQ H n;have eB:=(aaO H n).1;have aB:=(mG H n).1;refine⟨fun p t q h=>?_,fun p t q h=>?_,fun acc p l q h=>?_⟩
   . rw[iw] at h;dsimp only at h;have Ap:=aN H p;by_cases c:dm L lX p=true
     . rw[if_pos c] at h;simp only[Option.bind_eq_some_iff,Option.map_eq_some_iff] at h;obtain⟨⟨y,r⟩,h1,⟨z,v⟩,h2,h3⟩:=h;cases h3;have gp:=eU (jV c).2;obtain⟨R,_⟩:=tN H n _ h1;obtain⟨S,_⟩:=eB _ _ _ _ h2;have Aw:=dF H 1 (bF L p);have Am:=aV H [58] (gK L 1 (bF L p));have Ak:=dV H n _ h1;have Ae:=aV H [61] r;refine⟨fun hq=>?_,fun hv=>eP hv (iO (R.plc (Am.v (Aw.v (Ap.v hv)))) (dL (S.plc (Ae.v (Ak.v (Am.v (Aw.v (Ap.v hv)))))))) ⟩;obtain⟨_,_,g1⟩:=gW hq;have b1:=aY (aV H [59] v) hq;have:=S.cnt b1;have b2:=aY (aB _ _ _ _ h2) b1;obtain⟨_,_,g2⟩:=gW b2;have b3:=aY Ae b2;have:=R.cnt b3;have b4:=aY Ak b3;obtain⟨_,_,g3⟩:=gW b4;obtain⟨_,_,_,g4⟩:=yR (by decide) (aY Am b4);rw[nZ,ay,ay,aQ]
       first | omega | (dsimp only at *;omega)
     rw[if_neg c] at h;clear c;by_cases c:dm L wM p=true
     . rw[if_pos c] at h;simp only[Option.bind_eq_some_iff] at h;obtain⟨⟨y,r⟩,h1,⟨z,v⟩,h2,h3⟩:=h;have gp:=eU (jV c).2;obtain⟨R,_⟩:=eB _ _ _ _ h1;have S:=i2 _ _ _ h2;have Ae:=aB _ _ _ _ h1;have Ab:=(a2 _ _ _ h2).1;dsimp only at h3;split at h3
       . rename_i ce;simp only[Option.map_eq_some_iff] at h3;obtain⟨⟨e,w⟩,h4,h5⟩:=h3;cases h5;have T:=i2 _ _ _ h4;have gp2:=eU (jV ce).2;refine⟨fun hq=>?_,fun hv=>eP hv (iO (R.plc (Ap.v hv)) (iO (S.plc (Ae.v (Ap.v hv))) (dL (T.plc ((aN H v).v (Ab.v (Ae.v (Ap.v hv))))))))⟩;have:=T.cnt hq;have b1:=aY (aN H v) (aY (a2 _ _ _ h4).1 hq);have:=S.cnt b1;have:=R.cnt (aY Ab b1);rw[nZ,ay,ay,ay,aQ]
         first | omega | (dsimp only at *;omega)
       . cases h3;refine⟨fun hq=>?_,fun hv=>eP hv (iO (R.plc (Ap.v hv)) (dL (S.plc (Ae.v (Ap.v hv)))))⟩;have:=S.cnt hq;have:=R.cnt (aY Ab hq);rw[nZ,ay,ay,aQ]
         first | omega | (dsimp only at *;omega)
     rw[if_neg c] at h;clear c;by_cases c:dm L fK p=true
     . rw[if_pos c] at h;simp only[Option.bind_eq_some_iff,Option.map_eq_some_iff] at h;obtain⟨⟨y,r⟩,h1,⟨z,v⟩,h2,h3⟩:=h;cases h3;have gp:=eU (jV c).2;obtain⟨R,_⟩:=eB _ _ _ _ h1;have S:=i2 _ _ _ h2;have Ae:=aB _ _ _ _ h1;have Ab:=(a2 _ _ _ h2).1;refine⟨fun hq=>?_,fun hv=>eP hv (iO (R.plc (Ap.v hv)) (dL (S.plc (Ae.v (Ap.v hv)))))⟩;have:=S.cnt hq;have:=R.cnt (aY Ab hq);rw[nZ,ay,ay,aQ]
       first | omega | (dsimp only at *;omega)
     rw[if_neg c] at h;clear c;by_cases c:dm L dC p=true
     . rw[if_pos c] at h;have gp:=eU (jV c).2;split at h
       . cases h;refine⟨fun hq=>?_,fun hv=>eP hv lW⟩;obtain⟨_,_,g1⟩:=gW hq;rw[nZ,aQ];omega
       . simp only[Option.map_eq_some_iff] at h;obtain⟨⟨y,r⟩,h1,h3⟩:=h;cases h3;obtain⟨R,_⟩:=eB _ _ _ _ h1;refine⟨fun hq=>?_,fun hv=>eP hv (dL (R.plc (Ap.v hv)))⟩;obtain⟨_,_,g1⟩:=gW hq;have:=R.cnt (aY (aV H [59] r) hq);rw[nZ,ay,aQ]
         first | omega | (dsimp only at *;omega)
     rw[if_neg c] at h;clear c;by_cases c:dm L fQ p=true
     . rw[if_pos c] at h;have gp:=eU (jV c).2;simp only[Option.map_eq_some_iff] at h;obtain⟨⟨y,r⟩,h1,h3⟩:=h;cases h3;obtain⟨R,_⟩:=eB _ _ _ _ h1;refine⟨fun hq=>?_,fun hv=>eP hv (dL (R.plc (Ap.v hv)))⟩;obtain⟨_,_,g1⟩:=gW hq;have:=R.cnt (aY (aV H [59] r) hq);rw[nZ,ay,aQ]
       first | omega | (dsimp only at *;omega)
     rw[if_neg c] at h;exact Xb H h
   . rw[eX] at h;simp only[Option.map_eq_some_iff] at h;obtain⟨⟨y,r⟩,h1,h3⟩:=h;cases h3;have R:=i3 _ _ _ _ h1;refine⟨fun hq=>?_,fun hv=>eP hv (R.plc ((bG H [123] p).v hv) lW)⟩;obtain⟨_,_,g1⟩:=jE hq;have b1:=aY (dB H [125] r) hq;have e1:=R.cnt b1;obtain⟨_,_,_,g2⟩:=je (aY (a3 _ _ _ _ h1) b1);rw[aQ] at e1;rw[nZ]
     first | omega | (dsimp only at *;omega)
   . rw[fP] at h;split at h
     . cases h;exact⟨fun _=>by omega,fun _ h=>h⟩
     . simp only[Option.bind_eq_some_iff] at h;obtain⟨⟨y,r⟩,h1,h2⟩:=h;have R:=i1 _ _ _ h1;have S:=i3 _ _ _ _ h2;refine⟨fun hq=>?_,fun hv ha=>S.plc ((a1 _ _ _ h1).1.v hv) (qi ha (dL (R.plc hv)))⟩;have e1:=S.cnt hq;have:=R.cnt (aY (a3 _ _ _ _ h2) hq);rw[iZ,ay,aQ] at e1
       first | omega | (dsimp only at *;omega)
theorem DY (H:LW L):∀ (n:Nat) (acc:List Tr) (p:PS) {l:List Tr} {q:PS},fF L n acc p=some (l,q)->U6 L p acc l q
 | 0,_,_,_,_,h=>by cases h
 | n+1,acc,p,l,q,h=>by
   rw[fF] at h;split at h
   . cases h;exact⟨fun _=>by omega,fun _ h=>h⟩
   . simp only[Option.bind_eq_some_iff] at h;obtain⟨⟨y,r⟩,h1,h2⟩:=h;have R:=GZ H h1;have S:=DY H n _ _ h2;have At':=(kw H h1).1;have Am:=aV H [59] r;refine⟨fun hq=>?_,fun hv ha=>S.plc (Am.v (At'.v hv)) (qi ha (dL (R.plc hv)))⟩;have e1:=S.cnt hq;have:=R.cnt (aY Am (aY (qF H n _ _ h2) hq));have:=Am.a;rw[iZ,ay,aQ] at e1
     first | omega | (dsimp only at *;omega)
theorem DZ (H:LW L):∀ (n:Nat) (f:Bool) (acc:List Tr) (p:PS) {l:List Tr} {q:PS},dN L n f acc p=some (l,q)->U6 L p acc l q
 | 0,_,_,_,_,_,h=>by cases h
 | n+1,f,acc,p,l,q,h=>by
   rw[dN] at h;split at h
   . cases h;exact⟨fun _=>by omega,fun _ h=>h⟩
   . simp only[Option.bind_eq_some_iff] at h;obtain⟨⟨y,r⟩,h1,h2⟩:=h;have h0:gZ L p (if f=true then p else bC L [44] p) 0:=by
      split
      . exact gZ.refl p
      . exact aV H _ p
     have R:=GZ H h1;have S:=DZ H n _ _ _ h2;have At':=(kw H h1).1;refine⟨fun hq=>?_,fun hv ha=>S.plc (At'.v (h0.v hv)) (qi ha (dL (R.plc (h0.v hv))))⟩;have e1:=S.cnt hq;have:=R.cnt (aY (ng H n _ _ _ h2) hq);have:=h0.a;rw[iZ,ay,aQ] at e1
     first | omega | (dsimp only at *;omega)
theorem QZ (H:LW L) {n:Nat} {p q:PS} {t:Tr} (h:fH L n p=some (t,q)):OD L p t q:=by
 unfold fH at h;simp only[Option.map_eq_some_iff] at h;obtain⟨⟨y,r⟩,h1,h2⟩:=h;cases h2;have R:=DY H n _ _ h1;have Am:=aV H jO p;have Aw:=dF H 2 (bC L jO p);have Ao:=bG H [123] (gK L 2 (bC L jO p));refine⟨fun hq=>?_,fun hv=>eP hv (R.plc (Ao.v (Aw.v (Am.v hv))) lW)⟩;obtain⟨_,_,g1⟩:=jE hq;have b1:=aY (dB H [125] r) hq;have e1:=R.cnt b1;obtain⟨_,_,_,g2⟩:=je (aY (qF H n _ _ h1) b1);have:=Am.a;have:=Aw.a;rw[aQ] at e1;rw[nZ]
 first | omega | (dsimp only at *;omega)
theorem afk (H:LW L) {n:Nat} {p q:PS} {t:Tr} (h:GL L n p=some (t,q)):OD L p t q:=by
 unfold GL at h;simp only[Option.map_eq_some_iff,Option.bind_eq_some_iff] at h;obtain⟨⟨y,r⟩,h1,⟨z,v⟩,h2,⟨e,w⟩,h3,h4⟩:=h;cases h4;dsimp only at h2 h3⊢;have R:=DZ H n _ _ _ h1;have T:=(aeg H n).2.1 _ _ _ h3;have Am:=aV H vS p;have Aw:=dF H 1 (bC L vS p);have Ao:=bG H [40] (gK L 1 (bC L vS p));have Ap:=ng H n _ _ _ h1;have As:=dB H [41] r;have B:gZ L (dw L [41] r) v 0:=by
  split at h2
  . exact ((aN H _).trans (dV H n _ h2)).of (by omega)
  . cases h2;exact gZ.refl _
 have S:(v.bad=false->z.n+(dw L [41] r).a<=v.a+1)/\((dw L [41] r).a<L.length->JK L z):=by
  split at h2
  . rename_i c;obtain⟨K,_⟩:=tN H n _ h2;refine⟨fun hq=>?_,fun hv=>K.plc ((aN H _).v hv)⟩;have:=K.cnt hq;have:=(aN H (dw L [41] r)).a;omega
  . cases h2;refine⟨fun _=>by simp[Tr.n,Tr.qP,Tr.iT];omega,fun _ x hx=>?_⟩;simp only[Tr.qP,Tr.iT,List.mem_singleton] at hx;subst hx;exact .inr ⟨rfl,rfl,rfl⟩
 refine⟨fun hq=>?_,fun hv=>eP hv (qi (R.plc (Ao.v (Aw.v (Am.v hv))) lW) (iO (S.2 (As.v (Ap.v (Ao.v (Aw.v (Am.v hv)))))) (dL (T.plc (B.v (As.v (Ap.v (Ao.v (Aw.v (Am.v hv)))))))))) ⟩;have:=T.cnt hq;have b1:=aY (((OQ H n).2.1 _ _ _ h3).1) hq;have:=S.1 b1;have b2:=aY B b1;obtain⟨_,_,g1⟩:=jE b2;have b3:=aY As b2;have e1:=R.cnt b3;obtain⟨_,_,_,g2⟩:=je (aY Ap b3);have:=Am.a;have:=Aw.a;rw[aQ] at e1;rw[nZ,iZ,ay,ay,aQ]
 first | omega | (dsimp only at *;omega)
theorem y7 (H:LW L):∀ (n:Nat) (acc:List Tr) (p:PS) {l:List Tr} {q:PS},eY L n acc p=some (l,q)->U6 L p acc l q
 | 0,_,_,_,_,h=>by cases h
 | n+1,acc,p,l,q,h=>by
   rw[eY] at h;split at h
   . cases h;exact⟨fun _=>by omega,fun _ h=>h⟩
   have more:∀ {y:Tr} {r:PS},OD L p y r->gZ L p r 0->eY L n (acc++[y]) r=some (l,q)->U6 L p acc l q:=by
    intro y r R A h2;have S:=y7 H n _ _ h2;refine⟨fun hq=>?_,fun hv ha=>S.plc (A.v hv) (qi ha (dL (R.plc hv)))⟩;have e1:=S.cnt hq;have:=R.cnt (aY (lg H n _ _ h2) hq);rw[iZ,ay,aQ] at e1;omega
   split at h
   . simp only[Option.bind_eq_some_iff] at h;obtain⟨⟨y,r⟩,h1,h2⟩:=h;exact more (QZ H h1) (qG H h1).1 h2
   split at h
   . simp only[Option.bind_eq_some_iff] at h;obtain⟨⟨y,r⟩,h1,h2⟩:=h;exact more (afk H h1) (H7 H h1).1 h2
   . have S:=y7 H n _ _ h;have A:=dP (L:=L) 5 p;refine⟨fun hq=>(xP (by decide) (aY (lg H n _ _ h) hq)).elim,fun hv ha=>S.plc (A.v hv) ha⟩
end
theorem Um {s:List UInt8}:∀ {l:List Tok} {i:Nat},Pls s i l->l.length+i<=s.length+1
 | [],_,h=>by cases h
 | t::l,i,⟨h1,_,h3⟩=>by
   rcases h3 with ⟨_,_,rfl⟩ | ⟨h4,h5,_,_,_,_,_,h11⟩
   . simp;omega
   . have:=Um h11;have:=(DT h4 h5).1;simp;omega
def iG (L:List Tok):Nat:=12*L.length+20
def p0:PS:=⟨0,0,(0,0,0)⟩
def yP (L:List Tok) (p:PS):PS:=if (tk L p).k=8 then p else dD L 5 p
def jA (prog:Bool) (s:List UInt8):Option ((Int×Int×Int)×Tr):=
 if (bZ s).1.1≠0 then some ((bZ s).1,.nd 0 0 0 0 [] [])
 else (if prog then vK (bZ s).2 (iG (bZ s).2) p0 else dW (bZ s).2 (iG (bZ s).2) 1 p0).map fun r=>((yP (bZ s).2 r.2).f,r.1)
structure agE (s:List UInt8) (L:List Tok):Prop where
 lw:LW L
 len:L.length<=s.length+1
 tok:∀ t∈L,t.k=8\/adQ s t
theorem yx {s:List UInt8} (h:(bZ s).1.1=0):agE s (bZ s).2:=by
 have P:=Qs h;exact⟨(QL P).1,by have:=Um P;omega,(QL P).2⟩
theorem ad9 (L:List Tok):mu L p0=L.length:=rfl
theorem wG (prog:Bool) (s:List UInt8):∃ r,jA prog s=some r:=by
 unfold jA;split
 . exact⟨_,rfl⟩
 . rename_i h;have h0:(bZ s).1.1=0:=by simpa using h
   have T:=yx h0;have hv:p0.a<(bZ s).2.length:=T.lw.pos;rw[<- Option.isSome_iff_exists,Option.isSome_map];cases prog with
   | true=>
     show (vK _ _ _).isSome=true;unfold vK;rw[Option.isSome_map];exact qJ T.lw _ _ _ hv (by rw[ad9];unfold iG;omega)
   | false=>exact (MB T.lw _).1 1 p0 hv (by rw[ad9];unfold iG;omega)
theorem GM {prog:Bool} {s:List UInt8} {f:Int×Int×Int} {t:Tr} (h:jA prog s=some (f,t)) (hf:f.1=0):
 (bZ s).1.1=0/\t.n<=s.length+1/\(prog=false->Kd t/\JK (bZ s).2 t)/\(prog=true->∃ rl,t=.nd 1 1 1 0 [] rl/\BF (bZ s).2 rl):=by
 unfold jA at h;split at h
 . rename_i h0;cases h;exact absurd hf h0
 rename_i h0;have h0:(bZ s).1.1=0:=by simpa using h0
 have T:=yx h0;have hv:p0.a<(bZ s).2.length:=T.lw.pos;have hlen:=T.len;simp only[Option.map_eq_some_iff] at h;obtain⟨⟨t',q⟩,h1,h2⟩:=h;cases h2;have hq:q.bad=false:=by
  unfold yP at hf;split at hf
  . unfold PS.bad;rw[hf];rfl
  . exfalso;have:=jv (L:=(bZ s).2) (e:=5) (by decide) q;unfold PS.bad at this;rw[hf] at this;exact absurd this (by decide)
 refine⟨h0,?_⟩;cases prog with
 | false=>
   have h1:dW (bZ s).2 (iG (bZ s).2) 1 p0=some (t',q):=h1;obtain⟨R,K⟩:=(aaO T.lw _).1 _ _ _ _ h1;have:=R.cnt hq;have:=((mG T.lw _).1 _ _ _ _ h1).v hv;exact⟨by dsimp only at *;omega,fun _=>⟨K,R.plc hv⟩,fun h=>by cases h⟩
 | true=>
   have h1:vK (bZ s).2 (iG (bZ s).2) p0=some (t',q):=h1;unfold vK at h1;simp only[Option.map_eq_some_iff] at h1;obtain⟨⟨rl,r⟩,h3,h4⟩:=h1;cases h4;have R:=y7 T.lw _ _ _ h3;have e:=R.cnt hq;rw[aQ] at e;have:=(lg T.lw _ _ _ h3).v hv;refine⟨?_,fun h=>(by cases h),fun _=>⟨rl,rfl,R.plc hv lW⟩⟩;have:(Tr.nd 1 1 1 0 [] rl).n=Tr.ns rl+1:=by simp[Tr.n,Tr.ns,Tr.qP]
   rw[this]
   first | omega | (dsimp only at *;omega)
end Go.Proofs.YtllbpdllkkcajaaGreatDoor
