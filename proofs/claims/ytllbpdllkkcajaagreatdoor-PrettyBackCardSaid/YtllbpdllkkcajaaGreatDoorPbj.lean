/- The law hindcastlaw07.PrettyBack: the statement, out of its walk: it answers true whatever it is handed, and what it was handed reads as before. (Texts joined: PreS, RefA, RefB, RefC, LexW, LexY, LexZN, TreY, RefD, RefE, RefF, RefG, RefH, RefI, RefJ, RefK, TreZ, TreZA, RefL, RefM, Card, Laid, LawBack.) -/
import Derived.Test.YtllbpdllkkcajaaGreatDoorPbi
namespace Go.Proofs.YtllbpdllkkcajaaGreatDoor
open Go.RowKit
section
variable {L:List Tok} {K:Int} (H:LW L)
include H
def UE (L:List Tok) (K:Int) (n:Nat):Prop:=
 (∀ lvl,UG K (dW L n lvl))/\(∀ lvl x,UG K (jc L n lvl x))/\UG K (wF L n)/\(∀ x,UG K (iM L n x))/\UG K (eH L n)/\(∀ f acc,UG K (gY L n f acc))
theorem uE:∀ n,UE L K n
 | 0=>⟨fun _=>.none fun _=>by rw[dW],fun _ _=>.none fun _=>by rw[jc],.none fun _=>by rw[wF],fun _=>.none fun _=>by rw[iM],.none fun _=>by rw[eH],fun _ _=>.none fun _=>by rw[gY]⟩
 | n+1=>by
   obtain⟨i1,i2,i3,i4,i5,i6⟩:=uE n;have P:=xN (K:=K) H;have hp:∀ p,tk L (bF L (up K p))=tk L (bF L p):=fun p=>by rw[oQ];rfl
   refine⟨fun lvl=>?_,fun lvl x=>?_,?_,fun x=>?_,?_,fun f acc=>?_⟩
   . have e:dW L (n+1) lvl=fun p=>_:=funext fun p=>by rw[dW]
     rw[e];refine UG.ite (fun _=>Iff.rfl) i3 ?_;exact UG.bind (i1 _) (fun _=>rfl) fun p t=>i2 lvl t
   . have e:jc L (n+1) lvl x=fun p=>_:=funext fun p=>by rw[jc]
     rw[e];refine UG.ite (fun _=>Iff.rfl) (UG.ret UM.id fun _=>rfl) ?_;refine UG.bind (UG.to P (i1 _)) (fun _=>rfl) fun p t=>?_
     exact UG.ite (fun _=>Iff.rfl) (UG.ret UM.id fun _=>rfl) (i2 lvl (nd 31 (tk L p) (Nv L lvl p) [] [x,t]))
   . have e:wF L (n+1)=fun p=>_:=funext fun p=>by rw[wF]
     rw[e];have hO:UG K fun p=>wF L n (dE L (tk L p).x p):=by
      refine⟨fun p t q h hb=>?_,fun p t q r h hq h'=>?_⟩
      . exact (UG.to (kR H (tk L p).x) i3).st p t q h hb
      . exact (UG.to (kR H (tk L p).x) i3).cp p t q r h hq h'
     refine UG.ite (fun _=>Iff.rfl) ?_ (UG.ite (fun _=>Iff.rfl) ?_ ?_)
     . exact UG.map hO (fun _=>rfl) fun p t=>UG.ret TZ fun _=>rfl
     . exact UG.map hO (fun _=>rfl) fun p t=>UG.ret TZ fun _=>rfl
     . exact UG.bind i5 (fun _=>rfl) fun p t=>i4 t
   . have e:iM L (n+1) x=fun p=>_:=funext fun p=>by rw[iM]
     rw[e];refine UG.ite (fun _=>Iff.rfl) ?_ (UG.ite (fun _=>Iff.rfl) ?_ (UG.ret UM.id fun _=>rfl))
     . refine UG.bind (UG.to (kR H [91]) (i1 1)) (fun _=>rfl) fun p t=>?_
       exact UG.to (lN H [93]) (i4 (nd 28 (tk L p) 0 [] [x,t]))
     . exact UG.pre (a:=fun p=>nd 29 (tk L p) 0 (tk L (bF L p)).x [x]) (UM.comp P (xO H 1)) (fun p=>by rw[hp];rfl) i4
   . have e:eH L (n+1)=fun p=>_:=funext fun p=>by rw[eH]
     rw[e];refine UG.ite (fun _=>Iff.rfl) (UG.ret UM.id fun _=>rfl) ?_;refine UG.ite (fun _=>Iff.rfl) (UG.ret P fun _=>rfl) ?_;refine UG.ite (fun _=>Iff.rfl) (UG.ret P fun _=>rfl) ?_;refine UG.ite (fun _=>Iff.rfl) (UG.ret P fun _=>rfl) ?_;refine UG.ite (fun _=>Iff.rfl) (UG.ret P fun _=>rfl) ?_;refine UG.ite (fun _=>Iff.rfl) (UG.ret P fun _=>rfl) ?_;refine UG.ite (fun _=>Iff.rfl) (UG.ret P fun _=>rfl) ?_;refine UG.ite (fun _=>Iff.rfl) ?_ ?_
     . refine UG.ite (fun p=>by rw[oQ];exact Iff.rfl) ?_ (UG.ret P fun _=>rfl);exact UG.map (UG.to (UM.comp P (kR H [40])) (i6 _ _)) (fun _=>rfl) fun p t=>UG.ret (lN H [41]) fun _=>rfl
     refine UG.ite (fun _=>Iff.rfl) ?_ ?_
     . exact UG.map (UG.to (kR H [40]) (i1 1)) (fun _=>rfl) fun p t=>UG.ret (lN H [41]) fun _=>rfl
     refine UG.ite (fun _=>Iff.rfl) ?_ (UG.ret (Bf 5) fun _=>rfl);refine UG.bind (UG.to (acA H) (sV H n)) (fun _=>rfl) fun p t=>?_
     refine UG.ite (fun _=>Iff.rfl) ?_ ?_
     . exact UG.map (UG.to (kR H [40]) (i1 1)) (fun _=>rfl) fun q y=>UG.ret (lN H [41]) fun _=>rfl
     . exact UG.ret (UM.comp (kR H [40]) (lN H [41])) fun _=>rfl
   . have e:gY L (n+1) f acc=fun p=>_:=funext fun p=>by rw[gY]
     rw[e];refine UG.ite (fun _=>Iff.rfl) (UG.ret UM.id fun _=>rfl) ?_;refine UG.bind ?_ (fun _=>rfl) fun p t=>i6 false (acc++[t])
     cases f
     . exact UG.to (iY H [44]) (i1 1)
     . exact i1 1
theorem JE (n:Nat) (k:Int):UG K (gq L n k):=by
 have e:gq L n k=fun p=>_:=funext fun p=>by rw[gq]
 rw[e];exact UG.map (UG.to (UM.comp (xO H 1) (iY H [58])) (sV H n)) (fun _=>rfl) fun p t=>UG.ret UM.id fun _=>rfl
theorem UR (n:Nat) (u:Tok):UG K (ja L n u):=by
 have i1:=(uE (K:=K) H n).1;have e:ja L n u=fun p=>_:=funext fun p=>by rw[ja]
 rw[e];refine UG.bind (i1 1) (fun _=>rfl) fun p t=>?_
 refine UG.ite (fun _=>Iff.rfl) (UG.ret UM.id fun _=>rfl) ?_;refine UG.ite (fun _=>Iff.rfl) ?_ ?_
 . exact UG.map (UG.to (xN H) (i1 1)) (fun _=>rfl) fun p t=>UG.ret (iY H [59]) fun _=>rfl
 . exact UG.ite (fun _=>Iff.rfl) (UG.ret (UM.comp (Bf 5) (iY H [59])) fun _=>rfl) (UG.ret (iY H [59]) fun _=>rfl)
def US (L:List Tok) (K:Int) (n:Nat):Prop:=UG K (iw L n)/\UG K (eX L n)/\∀ acc,UG K (fP L n acc)
theorem uS:∀ n,US L K n
 | 0=>⟨.none fun _=>by rw[iw],.none fun _=>by rw[eX],fun _=>.none fun _=>by rw[fP]⟩
 | n+1=>by
   obtain⟨i1,i2,i3⟩:=uS n;have b1:=(uE (K:=K) H n).1 1;have P:=xN (K:=K) H;have hp:∀ p,tk L (bF L (up K p))=tk L (bF L p):=fun p=>by rw[oQ];rfl
   refine⟨?_,?_,fun acc=>?_⟩
   . have e:iw L (n+1)=fun p=>_:=funext fun p=>by rw[iw]
     rw[e];refine UG.ite (fun _=>Iff.rfl) ?_ ?_
     . refine UG.bind (UG.to (UM.comp (UM.comp P (xO H 1)) (iY H [58])) (sV H n)) (fun p=>by funext r;rw[hp];rfl) fun p t=>?_
       exact UG.map (UG.to (iY H [61]) b1) (fun _=>rfl) fun q y=>UG.ret (iY H [59]) fun _=>rfl
     refine UG.ite (fun _=>Iff.rfl) ?_ ?_
     . refine UG.bind (UG.to P b1) (fun _=>rfl) fun p t=>?_
       refine UG.bind i2 (fun _=>rfl) fun q y=>?_
       refine UG.ite (fun _=>Iff.rfl) ?_ (UG.ret UM.id fun _=>rfl);exact UG.map (UG.to P i2) (fun _=>rfl) fun _ _=>UG.ret UM.id fun _=>rfl
     refine UG.ite (fun _=>Iff.rfl) ?_ ?_
     . refine UG.bind (UG.to P b1) (fun _=>rfl) fun p t=>?_
       exact UG.map i2 (fun _=>rfl) fun _ _=>UG.ret UM.id fun _=>rfl
     refine UG.ite (fun _=>Iff.rfl) ?_ ?_
     . refine UG.ite (fun p=>by rw[oQ];exact Iff.rfl) (UG.ret (UM.comp P (iY H [59])) fun _=>rfl) ?_;exact UG.map (UG.to P b1) (fun _=>rfl) fun _ _=>UG.ret (iY H [59]) fun _=>rfl
     refine UG.ite (fun _=>Iff.rfl) ?_ ?_
     . exact UG.map (UG.to P b1) (fun _=>rfl) fun _ _=>UG.ret (iY H [59]) fun _=>rfl
     . refine⟨fun p t q h hb=>?_,fun p t q r h hq h'=>?_⟩
       . exact (UR (K:=K) H n (tk L p)).st p t q h hb
       . exact (UR (K:=K) H n (tk L p)).cp p t q r h hq h'
   . have e:eX L (n+1)=fun p=>_:=funext fun p=>by rw[eX]
     rw[e];exact UG.map (UG.to (kR H [123]) (i3 _)) (fun _=>rfl) fun _ _=>UG.ret (lN H [125]) fun _=>rfl
   . have e:fP L (n+1) acc=fun p=>_:=funext fun p=>by rw[fP]
     rw[e];refine UG.ite (fun _=>Iff.rfl) (UG.ret UM.id fun _=>rfl) ?_;exact UG.bind i1 (fun _=>rfl) fun p t=>i3 (acc++[t])
theorem Oi:∀ (n:Nat) (acc:List Tr),UG K (fF L n acc)
 | 0,_=>.none fun _=>by rw[fF]
 | n+1,acc=>by
   have e:fF L (n+1) acc=fun p=>_:=funext fun p=>by rw[fF]
   rw[e];refine UG.ite (fun _=>Iff.rfl) (UG.ret UM.id fun _=>rfl) ?_;exact UG.bind (JE H n 3) (fun _=>rfl) fun p t=>UG.to (iY H [59]) (Oi n (acc++[t]))
theorem Ol:∀ (n:Nat) (f:Bool) (acc:List Tr),UG K (dN L n f acc)
 | 0,_,_=>.none fun _=>by rw[dN]
 | n+1,f,acc=>by
   have e:dN L (n+1) f acc=fun p=>_:=funext fun p=>by rw[dN]
   rw[e];refine UG.ite (fun _=>Iff.rfl) (UG.ret UM.id fun _=>rfl) ?_;refine UG.bind ?_ (fun _=>rfl) fun p t=>Ol n false (acc++[t])
   cases f
   . exact UG.to (iY H [44]) (JE H n 5)
   . exact JE H n 5
theorem agx (n:Nat):UG K (fH L n):=by
 have e:fH L n=fun p=>_:=funext fun p=>by rw[fH]
 rw[e];refine UG.map (UG.to (UM.comp (UM.comp (iY H jO) (xO H 2)) (kR H [123])) (Oi H n _)) (fun p=>?_) fun _ _=>UG.ret (lN H [125]) fun _=>rfl
 funext r;rw[yB];rfl
theorem agJ (n:Nat):UG K (GL L n):=by
 have e:GL L n=fun p=>_:=funext fun p=>by rw[GL]
 rw[e];refine UG.bind (UG.to (UM.comp (UM.comp (iY H vS) (xO H 1)) (kR H [40])) (Ol H n _ _)) (fun p=>?_) fun p t=>?_
 . funext r;rw[yB];rfl
 refine UG.bind (F:=fun q=>if dm L [58] (dw L [41] q)=true then fD L n (bF L (dw L [41] q)) else some (Tr.nd 14 0 0 0 [] [],dw L [41] q)) ?_ (fun _=>rfl) fun q y=>?_
 . refine UG.ite (fun q=>by rw[UT];exact Iff.rfl) (UG.to (UM.comp (lN H [41]) (xN H)) (sV H n)) (UG.ret (lN H [41]) fun _=>rfl)
 . exact UG.map (uS H n).2.1 (fun _=>rfl) fun _ _=>UG.ret UM.id fun _=>rfl
theorem BA:∀ (n:Nat) (acc:List Tr),UG K (eY L n acc)
 | 0,_=>.none fun _=>by rw[eY]
 | n+1,acc=>by
   have e:eY L (n+1) acc=fun p=>_:=funext fun p=>by rw[eY]
   rw[e];refine UG.ite (fun _=>Iff.rfl) (UG.ret UM.id fun _=>rfl) ?_;refine UG.ite (fun _=>Iff.rfl) ?_ ?_
   . exact UG.bind (agx H n) (fun _=>rfl) fun p t=>BA n (acc++[t])
   refine UG.ite (fun _=>Iff.rfl) ?_ ?_
   . exact UG.bind (agJ H n) (fun _=>rfl) fun p t=>BA n (acc++[t])
   . exact UG.to (Bf 5) (BA n acc)
end
theorem ab4 {L:List Tok} {p:PS} (h:(tk L p).k=8):yP L p=p:=by
 unfold yP;rw[if_pos h]
theorem Q7 {l c:Int} {ks:List Tr} (w:∀ t∈ks,rH t):∃ t' f',jA true (fA ks)=some (f',t')/\(f'.1=6\/(f'.1=0/\t'.bare=(Tr.nd 1 l c 0 [] ks).bare)):=by
 obtain⟨L,hL,hp⟩:=aeO (s:=fA ks) (T:=jL ks++[(8,0,[])]) (by
  have:=TP w (u:=[]) (T:=[(8,0,[])]) aeR;simpa using this)
 have hT:bV L 0 (jL ks++[(8,0,[])]):=hp;have H:LW L:=by
  have hl0:(bZ (fA ks)).1.1=0:=by rw[hL]
  have:=(yx hl0).lw;rw[hL] at this;exact this
 obtain⟨ks',hb,hE⟩:=SK w (a:=0) (d:=40 - (l9 ks:Int)) hT (by omega);obtain⟨⟨f',u⟩,hpu⟩:=wG true (fA ks);have hpu':=hpu;unfold jA at hpu;have hl1:(bZ (fA ks)).1.1=0:=by rw[hL]
 rw[if_neg (by simpa using hl1),hL] at hpu;simp only[Option.map_eq_some_iff] at hpu;obtain⟨⟨t2,q2⟩,h3,h4⟩:=hpu;have h3:vK L (iG L) p0=some (t2,q2):=h3;unfold vK at h3;simp only[Option.map_eq_some_iff] at h3;obtain⟨⟨rl,r⟩,h5,h6⟩:=h3;obtain⟨N,hN⟩:=hE [];have h7:=hN (max N (iG L)) (Nat.le_max_left _ _);have h8:=qV (Nat.le_max_right N (iG L)) h5;have hup:p0=up ((l9 ks:Int) - 40) (gs 0 (40 - (l9 ks:Int))):=by
  unfold up gs p0;congr 1;show (0:Int)=40 - (l9 ks:Int)+((l9 ks:Int) - 40);omega
 rw[hup] at h8;cases h6;cases h4;rcases (BA H (K:=(l9 ks:Int) - 40) (max N (iG L)) []).cp _ _ _ _ h7 dI h8 with e | e
 . cases e;refine⟨_,_,hpu',.inr ⟨?_,?_⟩⟩
   . have hk:(tk L (up ((l9 ks:Int) - 40) (gs (0+(jL ks).length) (40 - (l9 ks:Int))))).k=8:=(hT.app.hd (d:=0)).1;exact (congrArg (fun p:PS=>p.f.1) (ab4 hk)).trans rfl
   . simp[Tr.bare,hb]
 . refine⟨_,_,hpu',.inl ?_⟩;unfold yP;split
   . exact e
   . have:=(dP (L:=L) 5 r).b (OX e);rw[this];exact e
theorem ug (t:Tr):0<t.n:=by rw[mQ];omega
theorem acE:∀ {ts:List Tr},Tr.ns ts=0->ts=[]
 | [],_=>rfl
 | t::ts,h=>by
   have:=ug t;rw[ay] at h;omega
theorem IM (a b:List Tr):Tr.rP (a++b)=Tr.rP a++Tr.rP b:=by simp[Tr.rP,mY]
theorem pre_eq {a b:List Tr} (h:a <+: b) (hn:Tr.ns b<=Tr.ns a):a=b:=by
 obtain⟨v,rfl⟩:=h;rw[iZ] at hn;rw[acE (ts:=v) (by omega),List.append_nil]
theorem ny:∀ (m:Nat) (ts us:List Tr) (r s:List Ng),Tr.ns ts<=m->Tr.rP ts++r=Tr.rP us++s->ts <+: us\/us <+: ts
 | _,[],us,_,_,_,_=>.inl List.nil_prefix
 | _,t::ts,[],_,_,_,_=>.inr List.nil_prefix
 | 0,t::ts,u::us,_,_,hm,_=>by
   have:=ug t;rw[ay] at hm;omega
 | m+1,.nd k l c n x ks::ts,.nd k' l' c' n' x' ks'::us,r,s,hm,h=>by
   rw[eG,eG,nC,nC] at h;simp only[List.cons_append,List.append_assoc,List.cons.injEq,Ng.mk.injEq] at h;obtain⟨⟨rfl,rfl,rfl,hz,rfl,rfl⟩,h⟩:=h;have hk:Tr.ns ks=Tr.ns ks':=by omega
   rw[ay,mQ,Tr.sz,mr] at hm;have e:ks=ks':=by
    rcases ny m ks ks' _ _ (by omega) h with e | e
    . exact pre_eq e (by omega)
    . exact (pre_eq e (by omega)).symm
   subst e;rcases ny m ts us r s (by omega) (List.append_cancel_left h) with e | e
   . exact .inl (List.cons_prefix_cons.2 ⟨rfl,e⟩)
   . exact .inr (List.cons_prefix_cons.2 ⟨rfl,e⟩)
theorem Og {t u:Tr} {r s:List Ng} (h:t.gs++r=u.gs++s):t=u/\r=s:=by
 have h2:Tr.rP [t]++r=Tr.rP [u]++s:=by
  rw[eG,eG];simpa[show Tr.rP []=[] from rfl] using h
 have e:t=u:=by
  rcases ny _ _ _ _ _ (Nat.le_refl _) h2 with e | e
  . exact (List.cons_prefix_cons.1 e).1
  . exact (List.cons_prefix_cons.1 e).1.symm
 subst e;exact⟨rfl,List.append_cancel_left h⟩
section
attribute [local go_sem] bg bf aC aj au aI aU aH ax says_again
def Tm:Fm:=(.need (.not (.le (.cnt (.x 0)) (.x 0))) (.X (.x 0) (.x 0))
 (.need (.not (.le (.cnt (.x 0)) (.x 0))) (.nns (.x 0))
 (.load (.not (.le (.cnt (.x 0)) (.x 0))) (.el (.x 0) (.x 0) 6 3) 1 [.J 1] ⟨1,0,0,0,0,0⟩
 (.need (.not (.or (.le (.cnt (.x 0)) (.x 0)) (.lt (.x 1) (.c 0)))) (.X (.x 0) (.x 0))
 (.need (.not (.or (.le (.cnt (.x 0)) (.x 0)) (.lt (.x 1) (.c 0)))) (.nns (.x 0))
 (.load (.not (.or (.le (.cnt (.x 0)) (.x 0)) (.lt (.x 1) (.c 0)))) (.el (.x 0) (.x 0) 6 3) 1 [.J 2] ⟨1,0,0,0,0,0⟩
 (.need (.not (.or (.le (.cnt (.x 0)) (.x 0)) (.lt (.x 1) (.c 0)))) (.R (.sub (.cnt (.x 0)) (.c 1)))
 (.need (.not (.or (.le (.cnt (.x 0)) (.x 0)) (.lt (.x 1) (.c 0)))) (.R (.sub (.sub (.cnt (.x 0)) (.c 1)) (.x 0)))
 (.ite (.or (.or (.le (.cnt (.x 0)) (.x 0)) (.lt (.x 1) (.c 0))) (.lt (.sub (.sub (.cnt (.x 0)) (.c 1)) (.x 0)) (.x 2)))
 (.ret (.p (.I (.c (-1)))))
 (.N (.R (.add (.x 0) (.c 1)))
 (.N (.X (.x 0) (.x 0))
 (.N (.nns (.x 0))
 (.O (.el (.x 0) (.x 0) 6 3) 1 [.J 3] ⟨1,0,0,0,0,0⟩
 (.N (.R (.add (.add (.x 0) (.c 1)) (.x 3)))
 (.N (.R (.add (.x 0) (.c 1)))
 (.loop 0 ⟨[(.add (.x 0) (.c 1))],[],[],[],[],[]⟩
 (.ite (.and (.le (.c 0) (.x 4)) (.lt (.x 4) (.add (.add (.x 0) (.c 1)) (.x 3))))
 (.C 59 [.L 0,.J 4] (.p (.J 5)) ⟨1,0,0,0,0,0⟩
 (.again 0 ⟨4,0,0,0,1,0⟩ ⟨5,0,0,0,1,0⟩ ⟨[(.x 5)],[],[],[],[],[]⟩))
 (.ite (.not (.eqI (.x 4) (.add (.add (.x 0) (.c 1)) (.x 3))))
 (.ret (.p (.I (.c (-1)))))
 (.ret (.p (.I (.add (.add (.x 0) (.c 1)) (.x 3)))))))))))))))))))))))
theorem Y6:aZ ⟨true,[]⟩ Tryz.prog (fun l=>([⟨[6],[42,43,44,45,46,47,48,49,50,51],[]⟩]:List bK).getD l ⟨[],[],[]⟩) Tryz.f59=Tm:=by kernel_rfl
theorem ac3:az Tryz.prog .zero Tryz.f59.params.toList=some ([.L 0,.J 0],⟨1,0,0,0,1,0⟩):=by kernel_rfl
def FM:Fm:=(.call (.lt (.c 0) (.cnt (.x 0))) false 59 [.L 0,(.I (.c 0))] (.p (.J 0)) ⟨1,0,0,0,0,0⟩
 (.ret (.p (.one (.b (.and (.lt (.c 0) (.cnt (.x 0))) (.eqI (.x 0) (.cnt (.x 0)))))))))
theorem PV:aZ ⟨true,[]⟩ Tryz.prog (fun l=>([]:List bK).getD l ⟨[],[],[]⟩) Tryz.f29=FM:=by kernel_rfl
theorem WL:az Tryz.prog .zero Tryz.f29.params.toList=some ([.L 0],⟨0,0,0,0,1,0⟩):=by kernel_rfl
def Yx (l:List Ng) (p:Nat) (v:Int):Prop:=
 (∃ t r,l.drop p=Tr.gs t++r/\v=((p+t.n:Nat):Int))\/((∀ t r,l.drop p≠Tr.gs t++r)/\v=-1)
def aeh (n:Nat) (args:List Value) (h:Hp) (φ:Value->Hp->Prop):Prop:=
 ∃ sl l p,args=[bM.val sl,.int .i64 ((p:Nat):Int)]/\NG h sl l/\l.length<=1000000/\p<=l.length/\l.length<p+n/\∀ v,Yx l p v->φ (.int .i64 v) h
def XF (n:Nat):Prop:=∀ args h φ w,aeh n args h φ->Holds h w->Calls Tryz.prog 59 args.toArray w fun e w'=>∃ v k,e=.returned v/\φ v k/\Holds k w'/\Fr w.heap.size h k w w'
def Ik {n:Nat} (H:XF n):Ct Tryz.prog:=⟨59,aeh n,H⟩
def Ui (l:List Ng) (p:Nat) (z k:Int):Prop:=
 (∃ ts r,l.drop (p+1)=Tr.rP ts++r/\k=((p+1+Tr.ns ts:Nat):Int)/\∀ us u,ts=us++[u]->(Tr.ns us:Int)<z)\/(k=-1/\∀ t r,l.drop p≠Tr.gs t++r)
def Yw (h:Hp) (sl:bM) (l:List Ng) (p:Nat) (_:Nat) (C:Ctx):Prop:=
 ∃ (z1 z2 k:Int) (x:Ng),C=⟨[p,z1,z2,x.z,k],[],[],[],[sl],[],h,df⟩/\l[p]? = some x/\0<=x.z/\(p:Int)+1+x.z<=l.length/\Ui l p x.z k
def SG (l:List Ng) (C:Ctx):Nat:=if C.i.getD 4 0<0 then 0 else ((l.length:Int)+1 - C.i.getD 4 0).toNat
theorem uT {l:List Ng} {p:Nat} {x:Ng} (hx:l[p]? = some x) {t:Tr} {r:List Ng} (h:l.drop p=t.gs++r):x.z=(Tr.ns t.kl:Nat)/\l.drop (p+1)=Tr.rP t.kl++r:=by
 obtain⟨k,ln,c,n,y,ks⟩:=t;obtain⟨hp,rfl⟩:=List.getElem?_eq_some_iff.1 hx;rw[List.drop_eq_getElem_cons hp,nC,List.cons_append] at h;obtain⟨h1,h2⟩:=List.cons.inj h;exact⟨by rw[h1];rfl,h2⟩
theorem QG {l:List Ng} {p:Nat} {x:Ng} (hx:l[p]? = some x) {k v:Int} (hw:Ui l p x.z k) (h0:0<=k) (hk:k<(p:Int)+1+x.z) (hv:Yx l k.toNat v):Ui l p x.z v/\(v<0\/k<v):=by
 rcases hw with ⟨ts,r,hd,rfl,hlast⟩ | ⟨rfl,_⟩
 rotate_left
 . omega
 rw[Int.toNat_natCast] at hv;have hr:l.drop (p+1+Tr.ns ts)=r:=by rw[<- List.drop_drop,hd,<- oJ,List.drop_left]
 rw[Yx,hr] at hv;rcases hv with ⟨t,r',rfl,rfl⟩ | ⟨hno,rfl⟩
 . refine⟨.inl ⟨ts++[t],r',?_,?_,fun us u e=>?_⟩,.inr ?_⟩
   . rw[hd,IM,eG,show Tr.rP []=[] from rfl,List.append_nil,List.append_assoc]
   . rw[iZ,ay,aQ];omega
   . obtain⟨rfl,_⟩:=List.append_inj' e rfl;omega
   . have:=ug t;omega
 . refine⟨.inr ⟨rfl,fun t r2 h=>?_⟩,.inl (by omega)⟩;obtain⟨hz,hd2⟩:=uT hx h;rw[hd] at hd2;rcases ny _ _ _ _ _ (Nat.le_refl _) hd2 with ⟨v,e⟩ | ⟨v,e⟩
   . cases v with
     | nil=>rw[List.append_nil] at e;rw[<- e] at hz;omega
     | cons u w=>
       rw[<- e,IM,List.append_assoc] at hd2;have:=List.append_cancel_left hd2;rw[eG,List.append_assoc] at this;exact hno _ _ this
   . rw[<- e,iZ] at hk;omega
theorem Wu {l:List Ng} {p:Nat} {x:Ng} (hx:l[p]? = some x) {k:Int} (hz0:0<=x.z) (hw:Ui l p x.z k) (hk:¬ (0<=k/\k<(p:Int)+1+x.z)):Yx l p (if k=(p:Int)+1+x.z then (p:Int)+1+x.z else -1):=by
 obtain⟨hp,rfl⟩:=List.getElem?_eq_some_iff.1 hx;rcases hw with ⟨ts,r,hd,rfl,hlast⟩ | ⟨rfl,hno⟩
 rotate_left
 . rw[if_neg (by omega)];exact .inr ⟨hno,rfl⟩
 split
 . rename_i e;refine .inl ⟨.nd l[p].k l[p].l l[p].c l[p].n l[p].x ts,r,?_,?_⟩
   . rw[List.drop_eq_getElem_cons hp,hd,nC,List.cons_append];have hz:l[p].z=(Tr.ns ts:Nat):=by omega
     rw[<- hz]
   . rw[mQ,Tr.sz,mr];omega
 . rename_i e;refine .inr ⟨fun t r2 h=>?_,rfl⟩;obtain⟨hz,hd2⟩:=uT hx h;rw[hd] at hd2;rcases ny _ _ _ _ _ (Nat.le_refl _) hd2 with ⟨v,e2⟩ | ⟨v,e2⟩
   . rw[<- e2,iZ] at hz;omega
   . rcases List.eq_nil_or_concat v with rfl | ⟨us,u,rfl⟩
     . rw[List.append_nil] at e2;rw[e2] at hz;omega
     . have:=hlast (t.kl++us) u (by rw[<- e2,List.concat_eq_append,List.append_assoc]);rw[iZ] at this;omega
set_option maxHeartbeats 4000000 in
theorem Jg:∀ n,XF n
 | 0=>by
   rintro args h φ w ⟨sl,l,p,rfl,R,hl,hp,hn,_⟩ hH;omega
 | n+1=>by
   have ih:=Jg n;rintro args h φ w ⟨sl,l,p,rfl,R,hl,hpl,hpn,hφ⟩ hH;refine bn Tryz.func59 Y6 ac3 [Ik ih] φ (Yw h sl l p) (fun _ C=>SG l C) ⟨[((p:Nat):Int)],[],[],[],[sl],[],h,df⟩ ⟨rfl,rfl,rfl,rfl,rfl,rfl⟩ af ?_ w hH rfl;generalize hE:(⟨aG _,_,_,_⟩:Env)=E;have san:E.spec 59=(Ik ih).spec:=by rw[<- hE];rfl
   have ep:E.post=φ:=by rw[<- hE]
   have ei:E.inv=(Yw h sl l p):=by rw[<- hE]
   have em:E.meas=(fun _ C=>SG l C):=by rw[<- hE]
   clear hE;unfold Tm;have hn:=NG.n R;have fin:∀ (C:Ctx) (e:IE),C.h=h->Yx l p (e.den C)->Then E (.ret (.p (.one (.i .i64 e)))) C:=by
    intro C e hC hv;rw[ak,ep];simp only[VE.den,PE.den,CE.den];rw[hC];exact hφ _ hv
   by_cases hp:p<l.length;rotate_left
   . have hz:sl.n<=p:=by omega
     rw[aC];refine⟨by simp[go_sem,Nat.not_lt.2 hz],?_⟩;rw[ai];refine⟨by simp[go_sem,Nat.not_lt.2 hz],?_⟩;rw[bY,if_neg (by simp[go_sem,Nat.not_lt.2 hz]),ae,aC];refine⟨by simp[go_sem,Nat.not_lt.2 hz],?_⟩;rw[ai];refine⟨by simp[go_sem,Nat.not_lt.2 hz],?_⟩;rw[bY,if_neg (by simp[go_sem,Nat.not_lt.2 hz]),ae,aC];refine⟨by simp[go_sem,Nat.not_lt.2 hz],?_⟩;rw[ai];refine⟨by simp[go_sem,Nat.not_lt.2 hz],?_⟩;rw[ah,if_pos (by simp[go_sem,hz])];refine fin _ _ rfl (.inr ⟨fun t r e=>?_,rfl⟩);rw[List.drop_eq_nil_of_le (by omega)] at e;have:=congrArg List.length e;have h1:=ug t;rw[List.length_append,kN] at this;simp at this;omega
   have hz:¬ ((sl.n:Int)<=p):=by omega
   have hx:l[p]? = some l[p]:=List.getElem?_eq_getElem hp;obtain⟨b,o,ha⟩:=Rows.nn R (j:=p) (by omega);have hr0:=Rows.read (off:=3) (m:=1) R (j:=p) (by omega) (by omega) ha;rw[<- List.drop_drop,jl hp] at hr0;generalize l[p]=x at hx hr0;rw[aC];refine⟨by simp[go_sem,ha]<;>omega,?_⟩;rw[ai];refine⟨by simp[go_sem,ha],?_⟩;rw[bY,if_pos (by simp[go_sem];omega)];refine (bQ _ _).2 ⟨⟨[x.z],[],[],[],[],[]⟩,rfl,af,by simpa[go_sem,ha,Ng.cs] using hr0,?_⟩;rw[ai];refine⟨by simp[go_sem,ha]<;>omega,?_⟩;rw[ai];refine⟨by simp[go_sem,ha],?_⟩;by_cases hz0:x.z<0
   . rw[bY,if_neg (by simp[go_sem,Int.not_le.2 hz0]),ae,aC];refine⟨by simp[go_sem,Int.not_le.2 hz0],?_⟩;rw[ai];refine⟨by simp[go_sem,Int.not_le.2 hz0],?_⟩;rw[ah,if_pos (by simp[go_sem,hz0])];refine fin _ _ rfl (.inr ⟨fun t r e=>?_,rfl⟩);have:=(uT hx e).1;omega
   rw[bY,if_pos (by simp[go_sem];omega)];refine (bQ _ _).2 ⟨⟨[x.z],[],[],[],[],[]⟩,rfl,af,by simpa[go_sem,ha,Ng.cs] using hr0,?_⟩;rw[ai];refine⟨by simp[go_sem]<;>omega,?_⟩;rw[ai];refine⟨by simp[go_sem]<;>omega,?_⟩;by_cases hz1:(l.length:Int) - 1 - p<x.z
   . rw[ah,if_pos (by simp[go_sem];omega)];refine fin _ _ rfl (.inr ⟨fun t r e=>?_,rfl⟩);obtain⟨e1,e2⟩:=uT hx e;have:=congrArg List.length e2;rw[List.length_drop,List.length_append,oJ] at this;omega
   rw[ah,if_neg (by simp[go_sem];omega)];rw[ai];refine⟨by simp[go_sem]<;>omega,?_⟩;rw[ai];refine⟨by simp[go_sem,ha]<;>omega,?_⟩;rw[ai];refine⟨by simp[go_sem,ha],?_⟩;refine rL ⟨[x.z],[],[],[],[],[]⟩ rfl af (by simpa[go_sem,ha,Ng.cs] using hr0) ?_;rw[ai];refine⟨by simp[go_sem]<;>omega,?_⟩;rw[ai];refine⟨by simp[go_sem]<;>omega,?_⟩;rw[ae];refine bI ?_ ?_
   . rw[ei];refine⟨_,_,_,x,rfl,hx,by omega,by omega,.inl ⟨[],l.drop (p+1),rfl,?_,fun us u e=>by simp at e⟩⟩;simp[go_sem,aQ]
   rw[ei,em];rintro i bbs ss v ll pp hh M ⟨z1,z2,k,y,hC,hy,y0,y1,hw⟩ hM;cases hC;have hM':M 0=if k<0 then 0 else ((l.length:Int)+1 - k).toNat:=hM;clear hM;by_cases hc:0<=k/\k<(p:Int)+1+y.z
   . obtain⟨hk0,hk1⟩:=hc;rw[aj,if_pos (by simpa[go_sem] using ⟨hk0,hk1⟩)];rw[ag,san];obtain⟨kn,rfl⟩:∃ kn:Nat,k=kn:=⟨k.toNat,by omega⟩;have hpk:p<kn:=by
      rcases hw with ⟨ts,r,_,e,_⟩ | ⟨e,_⟩<;>omega
     refine⟨sl,l,kn,rfl,R,hl,by omega,by omega,fun v hv=>?_⟩;refine rR ⟨[v],[],[],[],[],[]⟩ rfl af rfl ?_;obtain⟨hw2,hv2⟩:=QG hy hw (by omega) hk1 (by rw[Int.toNat_natCast];exact hv);rw[ae,says_again,ei,em];refine⟨⟨z1,z2,v,y,rfl,hy,y0,y1,hw2⟩,?_⟩;show (if v<0 then 0 else ((l.length:Int)+1 - v).toNat)<M 0;have hM2:M 0=((l.length:Int)+1 - (kn:Int)).toNat:=by rw[hM'];exact if_neg (by omega)
     rw[hM2];split<;>omega
   . rw[aj,if_neg (by simpa[go_sem] using hc)];have he:=Wu hy y0 hw hc;by_cases hk:k=(p:Int)+1+y.z
     . rw[ah,if_neg (by simp[go_sem,hk])];rw[if_pos hk] at he;exact fin _ _ rfl (by simpa[go_sem] using he)
     . rw[ah,if_pos (by simpa[go_sem] using hk)];rw[if_neg hk] at he;exact fin _ _ rfl he
def BO:Ct Tryz.prog where
 f:=29
 spec:=fun args h φ=>∃ sl l,args=[bM.val sl]/\NG h sl l/\l.length<=1000000/\∀ b:Bool,(b=true↔∃ t,l=Tr.gs t)->φ (.bool b) h
 ok:=by
  rintro args h φ w ⟨sl,l,rfl,R,hl,hφ⟩ hH;refine bn Tryz.func29 PV WL [Ik (Jg 1000001)] φ (bP) (bu) ⟨[],[],[],[],[sl],[],h,df⟩ ⟨rfl,rfl,rfl,rfl,rfl,rfl⟩ af ?_ w hH rfl;generalize hE:(⟨aG _,_,_,_⟩:Env)=E;have san:E.spec 59=(Ik (Jg 1000001)).spec:=by rw[<- hE];rfl
  have ep:E.post=φ:=by rw[<- hE]
  clear hE;unfold FM;have hn:=NG.n R;by_cases h0:l=[]
  . have hz:sl.n=0:=by rw[hn,h0];rfl
    rw[au,if_neg (by simp[go_sem,hz])];rw[ak,ep];refine hφ _ ?_;simp only[BE.den,go_sem,hz];simp only[Int.natCast_zero];constructor
    . intro e;exact absurd e (by decide)
    . rintro⟨t,e⟩;obtain⟨r,hr,_⟩:=qL t;rw[h0,hr] at e;cases e
  have hpos:0<l.length:=by
   cases l with
   | nil=>exact absurd rfl h0
   | cons x r=>simp
  have hz:(0:Int)<sl.n:=by omega
  rw[au,if_pos (by simpa[go_sem] using hz),san];refine⟨sl,l,0,rfl,R,hl,by omega,by omega,fun v hv=>?_⟩;refine rR ⟨[v],[],[],[],[],[]⟩ rfl af rfl ?_;rw[ak,ep];refine hφ _ ?_;have hz2:decide ((0:Int)<(sl.n:Int))=true:=decide_eq_true hz;simp[go_sem];rcases hv with ⟨t,r,hd,rfl⟩ | ⟨hno,rfl⟩
  . rw[List.drop_zero] at hd;constructor
    . intro e;refine⟨t,?_⟩;have:=congrArg List.length hd;rw[List.length_append,kN] at this;have hr:r=[]:=List.eq_nil_of_length_eq_zero (by omega);rw[hd,hr,List.append_nil]
    . rintro⟨u,e⟩;rw[e] at hd;have:=Og (t:=u) (u:=t) (r:=[]) (s:=r) (by simpa using hd);have e2:sl.n=t.n:=by rw[hn,e,kN,this.1]
      omega
  . constructor
    . rintro⟨_,e⟩;have e2:(-1:Int)=(sl.n:Int):=e;omega
    . rintro⟨t,e⟩;exact absurd (by rw[List.drop_zero,List.append_nil];exact e) (hno t [])
def LC:Fm:=(.mk [] 3 0
 (.N (.R (.add (.x 0) (.c 1)))
 (.loop 0 ⟨[(.add (.x 0) (.c 1))],[],[],[],[(.x 1)],[]⟩
 (.N (.R (.add (.x 0) (.c 1)))
 (.N (.X (.x 0) (.x 0))
 (.N (.nns (.x 0))
 (.O (.el (.x 0) (.x 0) 6 3) 1 [.J 2] ⟨1,0,0,0,0,0⟩
 (.N (.R (.add (.add (.x 0) (.c 1)) (.x 2)))
 (.ite (.lt (.x 1) (.add (.add (.x 0) (.c 1)) (.x 2)))
 (.mk [.J 1] 3 1
 (.app (.x 2) (.x 3) 1 8 3
 (.N (.R (.add (.x 1) (.c 1)))
 (.N (.X (.x 1) (.x 0))
 (.N (.nns (.x 0))
 (.O (.el (.x 0) (.x 1) 6 3) 1 [.J 3] ⟨1,0,0,0,0,0⟩
 (.N (.R (.add (.add (.x 1) (.c 1)) (.x 3)))
 (.again 0 ⟨1,0,0,0,2,0⟩ ⟨2,0,0,0,3,0⟩ ⟨[(.add (.add (.x 1) (.c 1)) (.x 3))],[],[],[],[(.x 4)],[]⟩))))))))
 (.ret (.p (.L 2))))))))))))
theorem VQ:aZ ⟨true,[]⟩ Tryz.prog (fun l=>([⟨[5,6],[10,11,12,13,14,15,16,17,18,19,28,29,30,31,20,21,22,23,24,25,26,27],[]⟩]:List bK).getD l ⟨[],[],[]⟩) Tryz.f30=LC:=by kernel_rfl
theorem aak:az Tryz.prog .zero Tryz.f30.params.toList=some ([.L 0,.J 0],⟨1,0,0,0,1,0⟩):=by kernel_rfl
def vU (l:List Ng) (p:Nat) (x:Ng) (ks:List Tr):Prop:=l[p]? = some x/\x.z=(Tr.ns ks:Nat)/\∃ r,l.drop (p+1)=Tr.rP ks++r
theorem vU.fit {l:List Ng} {p:Nat} {x:Ng} {ks:List Tr} (H:vU l p x ks):p+1+Tr.ns ks<=l.length:=by
 obtain⟨h,_,r,hr⟩:=H;obtain⟨hp,_⟩:=List.getElem?_eq_some_iff.1 h;have:=congrArg List.length hr;rw[List.length_drop,List.length_append,oJ] at this;omega
def NT (h:Hp) (sl:bM) (p:Nat) (ks:List Tr) (_:Nat) (C:Ctx):Prop:=
 ∃ (done rest:List Tr) (lit out:bM) (hh:Hp),C=⟨[p,((p+1+Tr.ns done:Nat):Int)],[],[],[],[sl,lit,out],[],hh,df⟩/\ks=done++rest/\dA h hh/\eF hh out (qN (places ((p+1:Nat):Int) done)) 3 1/\out.n=done.length/\(∀ y,out.a=some y->h y.1=none)
set_option maxHeartbeats 4000000 in
def RS:Ct Tryz.prog where
 f:=30
 spec:=fun args h φ=>∃ sl l p x ks,args=[bM.val sl,.int .i64 ((p:Nat):Int)]/\NG h sl l/\l.length<=1000000/\vU l p x ks/\∀ sl' k,dA h k->iy k sl' (places ((p+1:Nat):Int) ks)->sl'.n=ks.length->φ sl'.val k
 ok:=by
  rintro args h φ w ⟨sl,l,p,x,ks,rfl,R,hl,H,hφ⟩ hH;refine bn Tryz.func30 VQ aak [] φ (NT h sl p ks) (fun _ C=>((p:Int)+1+Tr.ns ks - C.i.getD 1 0).toNat) ⟨[((p:Nat):Int)],[],[],[],[sl],[],h,df⟩ ⟨rfl,rfl,rfl,rfl,rfl,rfl⟩ af ?_ w hH rfl;generalize hE:(⟨aG _,_,_,_⟩:Env)=E;have ep:E.post=φ:=by rw[<- hE]
  have ei:E.inv=(NT h sl p ks):=by rw[<- hE]
  have em:E.meas=(fun _ C=>((p:Int)+1+Tr.ns ks - C.i.getD 1 0).toNat):=by rw[<- hE]
  clear hE;unfold LC;have hn:=NG.n R;have hfit:=H.fit;obtain⟨hx,hxz,r,hr⟩:=H;obtain⟨hp,hpx⟩:=List.getElem?_eq_some_iff.1 hx;rw[aK];intro b0 hb0;have hb0':h b0=none:=hb0;rw[ai];refine⟨by simp[go_sem]<;>omega,?_⟩;rw[ae];refine bI ?_ ?_
  . rw[ei];refine⟨[],ks,⟨some (b0,0),0,0⟩,⟨some (b0,0),0,0⟩,h.set b0 ⟨[],3⟩,rfl,rfl,fE hb0' _,.inr ⟨b0,⟨[],3⟩,rfl,by simp[Hp.set],rfl,rfl,Nat.le_refl _,Nat.zero_le _,rfl⟩,rfl,fun y hy=>?_⟩;cases hy;exact hb0'
  rw[ei,em];rintro i bb ss v ll pp hh M ⟨done,rest,lit,out,hh',hC,hks,hle,ho,hon,hfr⟩ hM;cases hC;have hM':M 0=((p:Int)+1+Tr.ns ks - ((p+1+Tr.ns done:Nat):Int)).toNat:=hM;clear hM;have R':=NG.le R hle;obtain⟨b,o,ha⟩:=Rows.nn R' (j:=p) (by omega);have rz:=Rows.read (off:=3) (m:=1) R' (j:=p) (by omega) (by omega) ha;rw[<- List.drop_drop,jl (by omega),hpx] at rz;rw[aC];refine⟨by simp[go_sem]<;>omega,?_⟩;rw[ai];refine⟨by simp[go_sem,ha]<;>omega,?_⟩;rw[ai];refine⟨by simp[go_sem,ha],?_⟩;refine rL ⟨[x.z],[],[],[],[],[]⟩ rfl af (by simpa[go_sem,ha,Ng.cs] using rz) ?_;rw[ai];refine⟨by simp[go_sem]<;>omega,?_⟩;have hns:Tr.ns ks=Tr.ns done+Tr.ns rest:=by rw[hks,iZ]
  cases rest with
  | nil=>
    rw[aQ] at hns;rw[ah,if_neg (by simp[go_sem];omega)];rw[ak,ep];rw[List.append_nil] at hks;subst hks;exact hφ out hh hle (iy.own ho (by rw[dK];exact hon)) hon
  | cons t rest=>
    rw[ay] at hns;have ht:=ug t;have hdl:done.length<=Tr.ns done:=by
     clear hr hks hns hM' ho hon
     induction done with
     | nil=>exact Nat.le_refl _
     | cons a d ih=>have:=ug a;rw[ay,List.length_cons];omega
    have hd:l.drop (p+1+Tr.ns done)=t.gs++(Tr.rP rest++r):=by
     rw[<- List.drop_drop,hr,hks,IM,eG,List.append_assoc,<- oJ done,List.drop_left,List.append_assoc]
    obtain⟨tr,htr,_⟩:=qL t;have hq:p+1+Tr.ns done<l.length:=by omega
    have hqx:l[p+1+Tr.ns done]=t.g:=by
     rw[List.drop_eq_getElem_cons hq,htr,List.cons_append] at hd;exact (List.cons.inj hd).1
    have htz:t.g.z=(t.n:Int) - 1:=by
     obtain⟨k,ln,c,n,y,us⟩:=t;show ((Tr.ns us:Nat):Int)=_;rw[mQ,Tr.sz,mr];omega
    generalize hqe:p+1+Tr.ns done=q at *;rw[ah,if_pos (by simp[go_sem];omega)];rw[ae,aK];intro bb hbb;have hbb':hh bb=none:=hbb;rw[ae,cu];have hle2:=fE hbb' ⟨[Value.int .i64 (q:Int)],3⟩;refine⟨qN (places ((p+1:Nat):Int) done),qN [(q:Int)],yV ho hle2,.inr ⟨by simp[go_sem],?_⟩,?_,?_,?_,?_⟩
    . simp[go_sem,qN]
    . intro u hu;simp[qN] at hu;subst hu;rfl
    . show out.n+1<=maxLen;unfold maxLen;omega
    . show (out.n+1)*8<=_;omega
    intro s' k' g1 g2 g3 g4;have g2':s'.n=out.n+1:=g2;have hle3:dA h k':=fun c oo hc=>g4 c oo (fun y hy e=>by
     have:=hfr y hy;rw[e,hc] at this;cases this) (hle2 _ _ (hle _ _ hc))
    have R3:=NG.le R hle3;have rk:=Rows.read (off:=3) (m:=1) R3 (j:=q) (by omega) (by omega) ha;rw[<- List.drop_drop,jl (by omega),hqx] at rk;generalize t.g=y at *;rw[aC];refine⟨by simp[go_sem]<;>omega,?_⟩;rw[ai];refine⟨by simp[go_sem,ha]<;>omega,?_⟩;rw[ai];refine⟨by simp[go_sem,ha],?_⟩;refine rL ⟨[y.z],[],[],[],[],[]⟩ rfl af (by simpa[go_sem,ha,Ng.cs] using rk) ?_;rw[ai];refine⟨by simp[go_sem]<;>omega,?_⟩;rw[ae,says_again,ei,em];have hnd:Tr.ns (done++[t])=Tr.ns done+t.n:=by rw[iZ,ay,aQ];omega
    refine⟨?_,?_⟩
    . refine⟨done++[t],rest,lit,s',k',?_,by rw[hks];simp,hle3,?_,by rw[g2',hon];simp,fun q2 hq2=>?_⟩
      . rw[hnd];have e:(q:Int)+1+y.z=((p+1+(Tr.ns done+t.n):Nat):Int):=by omega
        rw[<- e];rfl
      . rw[qU,xH];have e:(((p+1:Nat):Int)+(Tr.ns done:Nat))=(q:Int):=by omega
        rw[e];exact g1
      . rcases g3 q2 hq2 with ⟨q3,hq3,e⟩ | hn2
        . rw[<- e];exact hfr q3 hq3
        . cases hh2:h q2.1 with
          | none=>rfl
          | some oo=>
            have:(hh.set bb ⟨[Value.int .i64 (q:Int)],3⟩) q2.1=none:=hn2;rw[hle2 _ _ (hle _ _ hh2)] at this;cases this
    . show ((p:Int)+1+Tr.ns ks - ((q:Int)+1+y.z)).toNat<M 0;rw[hM'];omega
def FQ:Fm:=(.ite (.and (.le (.c 48) (.x 0)) (.le (.x 0) (.c 57)))
 (.N (.R (.sub (.wr .i64 (.x 0)) (.c 48)))
 (.ret (.p (.I (.sub (.wr .i64 (.x 0)) (.c 48))))))
 (.ite (.and (.le (.c 97) (.x 0)) (.le (.x 0) (.c 102)))
 (.N (.R (.sub (.wr .i64 (.x 0)) (.c 87)))
 (.ret (.p (.I (.sub (.wr .i64 (.x 0)) (.c 87))))))
 (.ite (.and (.le (.c 65) (.x 0)) (.le (.x 0) (.c 70)))
 (.N (.R (.sub (.wr .i64 (.x 0)) (.c 55)))
 (.ret (.p (.I (.sub (.wr .i64 (.x 0)) (.c 55))))))
 (.ret (.p (.I (.c (-1))))))))
theorem P5:aZ ⟨true,[]⟩ Tryz.prog (fun l=>([]:List bK).getD l ⟨[],[],[]⟩) Tryz.f162=FQ:=by kernel_rfl
theorem WM:az Tryz.prog .zero Tryz.f162.params.toList=some ([(.one (.U 0))],⟨1,0,0,0,0,0⟩):=by kernel_rfl
def LH:Fm:=(.need (.not (.eqI (.len (.x 0)) (.c 0))) (.and (.le (.c 0) (.c 0)) (.lt (.c 0) (.len (.x 0))))
 (.ite (.or (.eqI (.len (.x 0)) (.c 0)) (.not (.eqI (.at (.x 0) (.c 0)) (.c 34))))
 (.ret (.tup [.W [],(.I (.c 0)),(.one (.b (.c false)))]))
 (.mk [] 5 0
 (.loop 0 ⟨[(.c 0),(.c 1)],[(.c false)],[(.c [])],[],[(.x 0)],[]⟩
 (.ite (.lt (.x 1) (.len (.x 0)))
 (.N (.and (.le (.c 0) (.x 1)) (.lt (.x 1) (.len (.x 0))))
 (.ite (.or (.lt (.at (.x 0) (.x 1)) (.c 32)) (.lt (.c 126) (.at (.x 0) (.x 1))))
 (.ret (.tup [.W [],.J 1,(.one (.b (.c false)))]))
 (.ite (.eqI (.at (.x 0) (.x 1)) (.c 34))
 (.str (.x 1)
 (.N (.R (.add (.x 1) (.c 1)))
 (.ret (.tup [.S 2,(.I (.add (.x 1) (.c 1))),(.one (.b (.c true)))]))))
 (.ite (.not (.eqI (.at (.x 0) (.x 1)) (.c 92)))
 (.mk [(.i .u8 (.at (.x 0) (.x 1)))] 5 1
 (.app (.x 1) (.x 2) 1 1 5
 (.N (.R (.add (.x 1) (.c 1)))
 (.again 0 ⟨0,0,1,0,1,0⟩ ⟨2,1,2,0,2,0⟩ ⟨[(.x 0),(.add (.x 1) (.c 1))],[(.x 0)],[(.x 1)],[],[(.x 3)],[]⟩))))
 (.N (.R (.add (.x 1) (.c 1)))
 (.ite (.le (.len (.x 0)) (.add (.x 1) (.c 1)))
 (.ret (.tup [.W [],(.I (.add (.x 1) (.c 1))),(.one (.b (.c false)))]))
 (.N (.and (.le (.c 0) (.add (.x 1) (.c 1))) (.lt (.add (.x 1) (.c 1)) (.len (.x 0))))
 (.ite (.eqI (.at (.x 0) (.add (.x 1) (.c 1))) (.c 34))
 (.ite (.eqI (.at (.x 0) (.add (.x 1) (.c 1))) (.c 34))
 (.N (.and (.le (.c 0) (.add (.x 1) (.c 1))) (.lt (.add (.x 1) (.c 1)) (.len (.x 0))))
 (.mk [(.i .u8 (.at (.x 0) (.add (.x 1) (.c 1))))] 5 1
 (.app (.x 1) (.x 2) 1 1 5
 (.N (.R (.add (.add (.x 1) (.c 1)) (.c 1)))
 (.again 0 ⟨0,0,1,0,1,0⟩ ⟨2,1,2,0,2,0⟩ ⟨[(.x 0),(.add (.add (.x 1) (.c 1)) (.c 1))],[(.x 0)],[(.x 1)],[],[(.x 3)],[]⟩)))))
 (.ite (.eqI (.at (.x 0) (.add (.x 1) (.c 1))) (.c 110))
 (.mk [(.i .u8 (.c 10))] 5 1
 (.app (.x 1) (.x 2) 1 1 5
 (.N (.R (.add (.add (.x 1) (.c 1)) (.c 1)))
 (.again 0 ⟨0,0,1,0,1,0⟩ ⟨2,1,2,0,2,0⟩ ⟨[(.x 0),(.add (.add (.x 1) (.c 1)) (.c 1))],[(.x 0)],[(.x 1)],[],[(.x 3)],[]⟩))))
 (.ite (.eqI (.at (.x 0) (.add (.x 1) (.c 1))) (.c 116))
 (.mk [(.i .u8 (.c 9))] 5 1
 (.app (.x 1) (.x 2) 1 1 5
 (.N (.R (.add (.add (.x 1) (.c 1)) (.c 1)))
 (.again 0 ⟨0,0,1,0,1,0⟩ ⟨2,1,2,0,2,0⟩ ⟨[(.x 0),(.add (.add (.x 1) (.c 1)) (.c 1))],[(.x 0)],[(.x 1)],[],[(.x 3)],[]⟩))))
 (.ite (.eqI (.at (.x 0) (.add (.x 1) (.c 1))) (.c 120))
 (.loop 1 ⟨[(.x 0),(.c 1)],[(.x 0)],[(.x 1)],[],[],[]⟩
 (.ite (.le (.x 3) (.c 2))
 (.N (.R (.add (.add (.x 1) (.c 1)) (.x 3)))
 (.need (.not (.le (.len (.x 0)) (.add (.add (.x 1) (.c 1)) (.x 3)))) (.R (.add (.add (.x 1) (.c 1)) (.x 3)))
 (.need (.not (.le (.len (.x 0)) (.add (.add (.x 1) (.c 1)) (.x 3)))) (.and (.le (.c 0) (.add (.add (.x 1) (.c 1)) (.x 3))) (.lt (.add (.add (.x 1) (.c 1)) (.x 3)) (.len (.x 0))))
 (.call (.not (.le (.len (.x 0)) (.add (.add (.x 1) (.c 1)) (.x 3)))) false 162 [(.one (.i .u8 (.at (.x 0) (.add (.add (.x 1) (.c 1)) (.x 3)))))] (.p (.J 4)) ⟨1,0,0,0,0,0⟩
 (.ite (.or (.le (.len (.x 0)) (.add (.add (.x 1) (.c 1)) (.x 3))) (.lt (.x 4) (.c 0)))
 (.N (.R (.add (.add (.x 1) (.c 1)) (.x 3)))
 (.ret (.tup [.W [],(.I (.add (.add (.x 1) (.c 1)) (.x 3))),(.one (.b (.c false)))])))
 (.N (.R (.add (.x 3) (.c 1)))
 (.again 1 ⟨2,1,2,0,2,0⟩ ⟨4,2,3,0,2,0⟩ ⟨[(.x 2),(.add (.x 3) (.c 1))],[(.x 1)],[(.x 2)],[],[],[]⟩)))))))
 (.N (.R (.add (.add (.x 1) (.c 1)) (.c 1)))
 (.N (.and (.le (.c 0) (.add (.add (.x 1) (.c 1)) (.c 1))) (.lt (.add (.add (.x 1) (.c 1)) (.c 1)) (.len (.x 0))))
 (.N (.R (.add (.add (.x 1) (.c 1)) (.c 2)))
 (.N (.and (.le (.c 0) (.add (.add (.x 1) (.c 1)) (.c 2))) (.lt (.add (.add (.x 1) (.c 1)) (.c 2)) (.len (.x 0))))
 (.C 162 [(.one (.i .u8 (.at (.x 0) (.add (.add (.x 1) (.c 1)) (.c 1)))))] (.p (.J 4)) ⟨1,0,0,0,0,0⟩
 (.N (.R (.mul (.x 4) (.c 16)))
 (.C 162 [(.one (.i .u8 (.at (.x 0) (.add (.add (.x 1) (.c 1)) (.c 2)))))] (.p (.J 5)) ⟨1,0,0,0,0,0⟩
 (.N (.R (.add (.mul (.x 4) (.c 16)) (.x 5)))
 (.mk [(.i .u8 (.wr .u8 (.add (.mul (.x 4) (.c 16)) (.x 5))))] 5 1
 (.app (.x 1) (.x 2) 1 1 5
 (.N (.R (.add (.add (.x 1) (.c 1)) (.c 2)))
 (.N (.R (.add (.add (.add (.x 1) (.c 1)) (.c 2)) (.c 1)))
 (.again 0 ⟨0,0,1,0,1,0⟩ ⟨2,1,2,0,2,0⟩ ⟨[(.x 2),(.add (.add (.add (.x 1) (.c 1)) (.c 2)) (.c 1))],[(.x 1)],[(.x 2)],[],[(.x 3)],[]⟩)))))))))))))))
 (.ret (.tup [.W [],(.I (.add (.x 1) (.c 1))),(.one (.b (.c false)))]))))))
 (.ite (.eqI (.at (.x 0) (.add (.x 1) (.c 1))) (.c 92))
 (.N (.and (.le (.c 0) (.add (.x 1) (.c 1))) (.lt (.add (.x 1) (.c 1)) (.len (.x 0))))
 (.mk [(.i .u8 (.at (.x 0) (.add (.x 1) (.c 1))))] 5 1
 (.app (.x 1) (.x 2) 1 1 5
 (.N (.R (.add (.add (.x 1) (.c 1)) (.c 1)))
 (.again 0 ⟨0,0,1,0,1,0⟩ ⟨2,1,2,0,2,0⟩ ⟨[(.x 0),(.add (.add (.x 1) (.c 1)) (.c 1))],[(.x 0)],[(.x 1)],[],[(.x 3)],[]⟩)))))
 (.ite (.eqI (.at (.x 0) (.add (.x 1) (.c 1))) (.c 110))
 (.mk [(.i .u8 (.c 10))] 5 1
 (.app (.x 1) (.x 2) 1 1 5
 (.N (.R (.add (.add (.x 1) (.c 1)) (.c 1)))
 (.again 0 ⟨0,0,1,0,1,0⟩ ⟨2,1,2,0,2,0⟩ ⟨[(.x 0),(.add (.add (.x 1) (.c 1)) (.c 1))],[(.x 0)],[(.x 1)],[],[(.x 3)],[]⟩))))
 (.ite (.eqI (.at (.x 0) (.add (.x 1) (.c 1))) (.c 116))
 (.mk [(.i .u8 (.c 9))] 5 1
 (.app (.x 1) (.x 2) 1 1 5
 (.N (.R (.add (.add (.x 1) (.c 1)) (.c 1)))
 (.again 0 ⟨0,0,1,0,1,0⟩ ⟨2,1,2,0,2,0⟩ ⟨[(.x 0),(.add (.add (.x 1) (.c 1)) (.c 1))],[(.x 0)],[(.x 1)],[],[(.x 3)],[]⟩))))
 (.ite (.eqI (.at (.x 0) (.add (.x 1) (.c 1))) (.c 120))
 (.loop 1 ⟨[(.x 0),(.c 1)],[(.x 0)],[(.x 1)],[],[],[]⟩
 (.ite (.le (.x 3) (.c 2))
 (.N (.R (.add (.add (.x 1) (.c 1)) (.x 3)))
 (.need (.not (.le (.len (.x 0)) (.add (.add (.x 1) (.c 1)) (.x 3)))) (.R (.add (.add (.x 1) (.c 1)) (.x 3)))
 (.need (.not (.le (.len (.x 0)) (.add (.add (.x 1) (.c 1)) (.x 3)))) (.and (.le (.c 0) (.add (.add (.x 1) (.c 1)) (.x 3))) (.lt (.add (.add (.x 1) (.c 1)) (.x 3)) (.len (.x 0))))
 (.call (.not (.le (.len (.x 0)) (.add (.add (.x 1) (.c 1)) (.x 3)))) false 162 [(.one (.i .u8 (.at (.x 0) (.add (.add (.x 1) (.c 1)) (.x 3)))))] (.p (.J 4)) ⟨1,0,0,0,0,0⟩
 (.ite (.or (.le (.len (.x 0)) (.add (.add (.x 1) (.c 1)) (.x 3))) (.lt (.x 4) (.c 0)))
 (.N (.R (.add (.add (.x 1) (.c 1)) (.x 3)))
 (.ret (.tup [.W [],(.I (.add (.add (.x 1) (.c 1)) (.x 3))),(.one (.b (.c false)))])))
 (.N (.R (.add (.x 3) (.c 1)))
 (.again 1 ⟨2,1,2,0,2,0⟩ ⟨4,2,3,0,2,0⟩ ⟨[(.x 2),(.add (.x 3) (.c 1))],[(.x 1)],[(.x 2)],[],[],[]⟩)))))))
 (.N (.R (.add (.add (.x 1) (.c 1)) (.c 1)))
 (.N (.and (.le (.c 0) (.add (.add (.x 1) (.c 1)) (.c 1))) (.lt (.add (.add (.x 1) (.c 1)) (.c 1)) (.len (.x 0))))
 (.N (.R (.add (.add (.x 1) (.c 1)) (.c 2)))
 (.N (.and (.le (.c 0) (.add (.add (.x 1) (.c 1)) (.c 2))) (.lt (.add (.add (.x 1) (.c 1)) (.c 2)) (.len (.x 0))))
 (.C 162 [(.one (.i .u8 (.at (.x 0) (.add (.add (.x 1) (.c 1)) (.c 1)))))] (.p (.J 4)) ⟨1,0,0,0,0,0⟩
 (.N (.R (.mul (.x 4) (.c 16)))
 (.C 162 [(.one (.i .u8 (.at (.x 0) (.add (.add (.x 1) (.c 1)) (.c 2)))))] (.p (.J 5)) ⟨1,0,0,0,0,0⟩
 (.N (.R (.add (.mul (.x 4) (.c 16)) (.x 5)))
 (.mk [(.i .u8 (.wr .u8 (.add (.mul (.x 4) (.c 16)) (.x 5))))] 5 1
 (.app (.x 1) (.x 2) 1 1 5
 (.N (.R (.add (.add (.x 1) (.c 1)) (.c 2)))
 (.N (.R (.add (.add (.add (.x 1) (.c 1)) (.c 2)) (.c 1)))
 (.again 0 ⟨0,0,1,0,1,0⟩ ⟨2,1,2,0,2,0⟩ ⟨[(.x 2),(.add (.add (.add (.x 1) (.c 1)) (.c 2)) (.c 1))],[(.x 1)],[(.x 2)],[],[(.x 3)],[]⟩)))))))))))))))
 (.ret (.tup [.W [],(.I (.add (.x 1) (.c 1))),(.one (.b (.c false)))]))))))))))))))
 (.ret (.tup [.W [],(.I (.len (.x 0))),(.one (.b (.c false)))])))))))
theorem VT:aZ ⟨true,[]⟩ Tryz.prog (fun l=>([⟨[2,3,4,5,6],[18,19,20,21,24,25,26,7,27,28,29,30,31,32,33,34,35,36,37,38,39,40,41,42,43,44,45,46,47,48,49,50,51,52,53,54,55,58,57,59,60,61,62,63,64,65,67,66,68,69,70,72,71,73,74,75,77,76,8,78,79,82,83,84,85,86,87,88,89,90,91,92,93,94,95,96,97,98,99,80,81,100,101,102,103,104,105,106,107,108,109,110,111,112,113,114,115,116,117,56,22,23],[]⟩,⟨[2,3,4,8],[78,79,82,83,84,85,86,87,88,89,90,91,92,93,94,95,96,97,98,99,80,81],[]⟩]:List bK).getD l ⟨[],[],[]⟩) Tryz.f150=LH:=by kernel_rfl
theorem aan:az Tryz.prog .zero Tryz.f150.params.toList=some ([.S 0],⟨0,0,1,0,0,0⟩):=by kernel_rfl
set_option maxHeartbeats 1000000 in
def sN:Ct Tryz.prog where
 f:=162
 spec:=fun args h φ=>∃ c:Int,args=[.int .u8 c]/\0<=c/\c<=255/\φ (.int .i64 (hx c)) h
 ok:=by
  rintro args h φ w ⟨c,rfl,c0,c1,hφ⟩ hH;refine bn Tryz.func162 P5 WM [] φ bP bu ⟨[c],[],[],[],[],[],h,df⟩ ⟨rfl,rfl,rfl,rfl,rfl,rfl⟩ af ?_ w hH rfl;have hw:IntKind.i64.wrap c=c:=by rw[IntKind.wrap_i64];omega
  unfold hx at hφ;rw[<- ae];unfold FQ;by_cases h1:48<=c/\c<=57
  . rw[if_pos h1] at hφ
    iterate 4 (try simp only[ae];try simp[go_sem,h1.1,h1.2,hw])
    exact⟨by omega,by omega,hφ⟩
  . rw[if_neg h1] at hφ;by_cases h2:97<=c/\c<=102
    . rw[if_pos h2] at hφ;have h1':48<=c->¬ c<=57:=by omega
      iterate 5 (try simp only[ae];try simp[go_sem,h2.1,h2.2,hw])
      rw[if_neg h1];exact⟨by omega,by omega,hφ⟩
    . rw[if_neg h2] at hφ;by_cases h3:65<=c/\c<=70
      . rw[if_pos h3] at hφ
        iterate 6 (try simp only[ae];try simp[go_sem,h3.1,h3.2,hw])
        rw[if_neg h1,if_neg h2];exact⟨by omega,by omega,hφ⟩
      . rw[if_neg h3] at hφ
        iterate 6 (try simp only[ae];try simp[go_sem,hw])
        rw[if_neg h1,if_neg h2,if_neg h3];exact hφ
structure BI (h:Hp) (sl:bM) (acc:List UInt8) (hh:Hp):Prop where
 own:eF hh sl (uo acc) 5 1
 n:sl.n=acc.length
 nn:sl.a≠none
 fresh:∀ z,sl.a=some z->h z.1=none
 kept:dA h hh
theorem vV {E:Env} {C:Ctx} {x y:LE} {f:Fm} {h:Hp} {sl:bM} {acc:List UInt8} {hh:Hp} (I:BI h sl acc hh) (hlen:acc.length<=1000000) {b:Nat} (hb:hh b=none) {c:Int} (c0:0<=c) (c1:c<=255)
 (hx:x.den C=sl) (hy:y.den C=⟨some (b,0),1,1⟩) (hC:C.h=hh.set b ⟨[.int .u8 c],5⟩)
 (hk:∀ s' k',BI h s' (acc++[ub c]) k'->f.says E ((C.push ⟨[],[],[],[],[s'],[]⟩).heap k')):
 (Fm.app x y 1 1 5 f).says E C:=by
 have h1:=I.n;have hcs:[Value.int .u8 c]=uo [ub c]:=by simp[uo,JF c0 c1]
 have hlt:∀ z,sl.a=some z->z.1≠b:=fun z hz e=>by
  rcases I.own with ⟨q,_⟩ | ⟨d,o,q1,q2,_⟩
  . rw[q] at hz;cases hz
  . rw[q1] at hz;cases hz;subst e;rw[hb] at q2;cases q2
 rw[cu,hx,hy,hC];refine⟨uo acc,uo [ub c],lQ I.own hlt _,.inr ⟨by simp,?_⟩,?_,?_,?_,?_⟩
 . rw[<- hcs,jf,if_pos (by simp)];rfl
 . rw[<- hcs];exact GH rfl
 . show sl.n+1<=maxLen;unfold maxLen;omega
 . show (sl.n+1)*1<=_;omega
 . intro s' k' g1 g2 g3 g4;refine hk s' k' ⟨by rw[Rz];exact g1,by rw[show s'.n=sl.n+1 from g2,h1];simp,?_,fun z hz=>?_,fun d o hd=>?_⟩
   . rcases g1 with ⟨q,_⟩ | ⟨d,o,q1,_⟩
     . rw[q] at g2;have:(0:Nat)=sl.n+1:=g2;omega
     . rw[q1];simp
   . rcases g3 z hz with ⟨y',hy',e⟩ | hn
     . rw[<- e];exact I.fresh y' hy'
     . have m1:z.1≠b:=fun e=>by rw[e,aA] at hn;cases hn
       rw[aO _ m1] at hn;cases hq:h z.1 with
       | none=>rfl
       | some o=>rw[I.kept _ _ hq] at hn;cases hn
   . refine g4 d o (fun z hz e=>by have:=I.fresh z hz;rw[e,hd] at this;cases this) ?_;rw[aO _ (fun e=>by have:=I.kept d o hd;rw[e,hb] at this;cases this)];exact I.kept d o hd
theorem BI.bytes {h:Hp} {sl:bM} {acc:List UInt8} {hh:Hp} (I:BI h sl acc hh):BytesAt hh sl acc:=by
 rcases I.own with ⟨q,_⟩ | ⟨d,o,q1,q2,_,q4,q5,_,q7⟩
 . exact absurd (by rw[q]) I.nn
 . refine .inr ?_;rw[q1,bz q2,if_pos (by omega)];have:uo acc=acc.map fun c=>Value.int .u8 c.toNat:=rfl
   rw[<- this,q7,Nat.mul_one];rfl
def agc (h:Hp) (s:List UInt8):Nat->Ctx->Prop
 | 0,C=>∃ x0 i y t l0 sl acc hh,C=⟨[x0,(i:Nat)],[y],[s,t],[],[l0,sl],[],hh,df⟩/\BI h sl acc hh/\1<=i/\i<=s.length/\acc.length<=i/\∃ m,s.length<m+i/\rdA s.length s 1 []=rdA m s i acc
 | _+1,C=>∃ x0 i x2 k y y' t t' l0 sl acc hh,C=⟨[x0,(i:Nat),x2,(k:Nat)],[y,y'],[s,t,t'],[],[l0,sl],[],hh,df⟩/\BI h sl acc hh/\1<=i/\i+1<s.length/\acc.length<=i/\(∃ m,s.length<m+i/\rdA s.length s 1 []=rdA m s i acc)/\
  1<=k/\k<=3/\(2<=k->i+2<s.length/\0<=hx (bt s (i+2)))/\(3<=k->i+3<s.length/\0<=hx (bt s (i+3)))
def xU (s:List UInt8):Nat->Ctx->Nat
 | 0,C=>((s.length:Int) - C.i.getD 1 0).toNat
 | _+1,C=>(3 - C.i.getD 3 0).toNat
theorem uH {s acc:List UInt8} {i:Nat} (h:∃ m,s.length<m+i/\rdA s.length s 1 []=rdA m s i acc) (hi:i<=s.length) {r:Option (List UInt8×Nat)} (hs:∀ m,rdA (m+1) s i acc=r):rdA s.length s 1 []=r:=by
 obtain⟨m,hm,he⟩:=h;obtain⟨m',rfl⟩:∃ m',m=m'+1:=⟨m - 1,by omega⟩;rw[he,hs]
theorem uG {s acc acc':List UInt8} {i i':Nat} (h:∃ m,s.length<m+i/\rdA s.length s 1 []=rdA m s i acc) (hi:i<=s.length) (hlt:i<i') (hs:∀ m,rdA (m+1) s i acc=rdA m s i' acc'):∃ m,s.length<m+i'/\rdA s.length s 1 []=rdA m s i' acc':=by
 obtain⟨m,hm,he⟩:=h;obtain⟨m',rfl⟩:∃ m',m=m'+1:=⟨m - 1,by omega⟩;exact⟨m',by omega,by rw[he,hs]⟩
set_option maxRecDepth 100000 in
set_option maxHeartbeats 8000000 in
def RY:Ct Tryz.prog where
 f:=150
 spec:=fun args h φ=>∃ s,args=[.string (B s)]/\s.length<=100000/\
  (match Bg s with
   | some (t,e)=>φ (.tuple #[.string (B t),.int .i64 (e:Nat),.bool true]) h
   | none=>∀ t n,φ (.tuple #[.string (B t),.int .i64 n,.bool false]) h)
 ok:=by
  rintro args h φ w ⟨s,rfl,hlen,hφ⟩ hH;refine dh (bn Tryz.func150 VT aan [sN] (fun v k=>∃ k',dA k' k/\φ v k') (agc h s) (xU s) ⟨[],[],[s],[],[],[],h,df⟩ ⟨rfl,rfl,rfl,rfl,rfl,rfl⟩ af ?_ w hH rfl);generalize hE:(⟨aG _,_,_,_⟩:Env)=E;have s1:E.spec 162=sN.spec:=by rw[<- hE];rfl
  have ep:E.post=fun v k=>∃ k',dA k' k/\φ v k':=by rw[<- hE]
  have ei:E.inv=agc h s:=by rw[<- hE]
  have em:E.meas=xU s:=by rw[<- hE]
  clear hE;unfold Bg at hφ;have no:∀ {hh},dA h hh->rdA s.length s 1 []=none->∀ t n,∃ k',dA k' hh/\φ (.tuple #[.string (B t),.int .i64 n,.bool false]) k':=fun hle hr t n=>by
   refine⟨h,hle,?_⟩;rw[hr] at hφ;split at hφ
   . rename_i heq;split at heq<;>cases heq
   . exact hφ t n
  rw[<- ae];unfold LH;by_cases hs0:s=[]
  . subst hs0;rw[if_pos (.inl rfl)] at hφ
    iterate 3 (try simp only[ae];try simp[go_sem,ep])
    exact⟨h,fun _ _ h=>h,hφ _ _⟩
  have hpos:0<s.length:=List.length_pos_iff.2 hs0;have hposz:(0:Int)<s.length:=by omega
  have hnz:¬ (s.length:Int)=0:=by omega
  by_cases h34:bt s 0=34
  . rw[if_neg (by omega)] at hφ
    iterate 3 (try simp only[ae];try simp[go_sem,hs0,h34])
    refine⟨hpos,?_⟩;rw[aK];intro b0 hb0;refine bI ?_ ?_
    . rw[ei];exact⟨0,1,false,[],⟨some (b0,0),0,0⟩,⟨some (b0,0),0,0⟩,[],h.set b0 ⟨[],5⟩,rfl,⟨.inr ⟨b0,⟨[],5⟩,rfl,aA _ _ _,rfl,rfl,Nat.le_refl _,Nat.zero_le _,rfl⟩,rfl,by simp,fun z hz=>by cases hz;exact hb0,fE hb0 _⟩,Nat.le_refl _,hpos,Nat.zero_le _,s.length,by omega,rfl⟩
    . rw[ei,em];rintro i' bb ss v ll pp hh0 M ⟨x0,i,y,t,l0,sl,acc,hh,hC,X,lo,le,cnt,all⟩ hM;cases hC;have hM':M 0=((s.length:Int) - i).toNat:=hM;clear hM hb0;have hibd:=zF s i;rw[<- ae];by_cases hil:i=s.length
      . have hz:¬ (i:Int)<s.length:=by omega
        iterate 2 (try simp only[ae];try simp[go_sem,ep,hz])
        exact no X.kept (uH all le fun m=>by rw[rdA,if_pos (.inl (by omega))]) _ _
      have hlt:i<s.length:=by omega
      have hz:(i:Int)<s.length:=by omega
      by_cases hpr:bt s i<32\/126<bt s i
      . iterate 4 (try simp only[ae];try simp[go_sem,ep,hz,hpr])
        exact no X.kept (uH all le fun m=>by rw[rdA,if_pos (.inr hpr)]) _ _
      have p1:¬ bt s i<32:=by omega
      have p2:¬ 126<bt s i:=by omega
      by_cases q34:bt s i=34
      . iterate 4 (try simp only[ae];try simp[go_sem,hz,q34])
        have hr:rdA s.length s 1 []=some (acc,i+1):=uH all le fun m=>by rw[rdA,if_neg (by omega),if_pos q34]
        rw[hr] at hφ;rw[ae,ik];refine⟨acc,X.bytes,?_⟩
        iterate 2 (try simp only[ae];try simp[go_sem,ep])
        exact⟨by omega,by omega,h,X.kept,by simpa using hφ⟩
      by_cases q92:bt s i=92
      . have e1:((i:Int)+1).toNat=i+1:=by omega
        have hibd1:=zF s (i+1);by_cases hi1:i+1=s.length
        . have hz1:(s.length:Int)<=(i:Int)+1:=by omega
          iterate 10 (try simp only[ae];try simp[go_sem,ep,hz,q92,hz1])
          exact⟨by omega,by omega,no X.kept (uH all le fun m=>by rw[rdA,if_neg (by omega),if_neg q34,if_neg (fun h=>h q92),if_pos (by omega)]) _ _⟩
        have hz3:(i:Int)+1<s.length:=by omega
        have hz4:¬ (s.length:Int)<=(i:Int)+1:=by omega
        by_cases c34:bt s (i+1)=34
        . iterate 16 (try simp only[ae];try simp[go_sem,hz,hz3,hz4,q92,e1,c34])
          refine⟨by omega,by omega,by omega,?_⟩;rw[aK];intro b hb;refine vV X (by omega) hb (c:=34) (by omega) (by omega) rfl rfl (by simp[go_sem,e1,c34]) (fun s' k' X'=>?_);rw[<- ae]
          iterate 2 (try simp only[ae];try simp[go_sem,ei,em])
          refine⟨by omega,by omega,⟨x0,i+2,y,t,l0,s',_,k',by rw[show ((i+2:Nat):Int)=(i:Int)+1+1 by omega],X',by omega,by omega,by simp;omega,uG all le (i':=i+2) (by omega) (fun m=>by rw[rdA,if_neg (by omega),if_neg q34,if_neg (fun h=>h q92),if_neg (by omega),if_pos (.inl c34),c34])⟩,?_⟩;simp only[xU,List.getD_cons_succ,List.getD_cons_zero];omega
        by_cases c92:bt s (i+1)=92
        . iterate 16 (try simp only[ae];try simp[go_sem,hz,hz3,hz4,q92,e1,c92])
          refine⟨by omega,by omega,by omega,?_⟩;rw[aK];intro b hb;refine vV X (by omega) hb (c:=92) (by omega) (by omega) rfl rfl (by simp[go_sem,e1,c92]) (fun s' k' X'=>?_);rw[<- ae]
          iterate 2 (try simp only[ae];try simp[go_sem,ei,em])
          refine⟨by omega,by omega,⟨x0,i+2,y,t,l0,s',_,k',by rw[show ((i+2:Nat):Int)=(i:Int)+1+1 by omega],X',by omega,by omega,by simp;omega,uG all le (i':=i+2) (by omega) (fun m=>by rw[rdA,if_neg (by omega),if_neg q34,if_neg (fun h=>h q92),if_neg (by omega),if_pos (.inr c92),c92])⟩,?_⟩;simp only[xU,List.getD_cons_succ,List.getD_cons_zero];omega
        by_cases c110:bt s (i+1)=110
        . iterate 16 (try simp only[ae];try simp[go_sem,hz,hz3,hz4,q92,e1,c110])
          refine⟨by omega,by omega,by omega,?_⟩;rw[aK];intro b hb;refine vV X (by omega) hb (c:=10) (by omega) (by omega) rfl rfl rfl (fun s' k' X'=>?_);rw[<- ae]
          iterate 2 (try simp only[ae];try simp[go_sem,ei,em])
          refine⟨by omega,by omega,⟨x0,i+2,y,t,l0,s',_,k',by rw[show ((i+2:Nat):Int)=(i:Int)+1+1 by omega],X',by omega,by omega,by simp;omega,uG all le (i':=i+2) (by omega) (fun m=>by rw[rdA,if_neg (by omega),if_neg q34,if_neg (fun h=>h q92),if_neg (by omega),if_neg (by omega),if_pos c110];rfl)⟩,?_⟩;simp only[xU,List.getD_cons_succ,List.getD_cons_zero];omega
        by_cases c116:bt s (i+1)=116
        . iterate 16 (try simp only[ae];try simp[go_sem,hz,hz3,hz4,q92,e1,c116])
          refine⟨by omega,by omega,by omega,?_⟩;rw[aK];intro b hb;refine vV X (by omega) hb (c:=9) (by omega) (by omega) rfl rfl rfl (fun s' k' X'=>?_);rw[<- ae]
          iterate 2 (try simp only[ae];try simp[go_sem,ei,em])
          refine⟨by omega,by omega,⟨x0,i+2,y,t,l0,s',_,k',by rw[show ((i+2:Nat):Int)=(i:Int)+1+1 by omega],X',by omega,by omega,by simp;omega,uG all le (i':=i+2) (by omega) (fun m=>by rw[rdA,if_neg (by omega),if_neg q34,if_neg (fun h=>h q92),if_neg (by omega),if_neg (by omega),if_neg c110,if_pos c116];rfl)⟩,?_⟩;simp only[xU,List.getD_cons_succ,List.getD_cons_zero];omega
        by_cases c120:bt s (i+1)=120
        . iterate 16 (try simp only[ae];try simp[go_sem,hz,hz3,hz4,q92,e1,c120])
          refine⟨by omega,by omega,by omega,?_⟩;refine lL ?_ ?_
          . rw[ei];exact⟨x0,i,x0,1,y,y,t,t,l0,sl,acc,hh0,by simp[go_sem,Ctx.bare,nY.den],X,lo,by omega,cnt,all,Nat.le_refl _,by omega,by omega,by omega⟩
          . rintro⟨xi,xb,xs,xv,xl,xp⟩ h' M' hc hinv hm hM1;rw[ei] at hinv;rw[em] at hm;obtain⟨x0',i2,x2,k,y1,y2,t1,t2,l1,sl2,acc2,hh2,hC,X2,lo2,a1,cnt2,all2,k1,k3,a4,a5⟩:=hinv;simp[Ctx.push,Ctx.heap,Ctx.bare] at hC;obtain⟨⟨rfl,hii,rfl⟩,⟨rfl,rfl⟩,⟨rfl,rfl⟩,rfl,⟨rfl,rfl,rfl⟩,rfl,rfl⟩:=hC;obtain rfl:i2=i:=by omega
            have hm':M' 1=((3:Int) - k).toNat:=hm;have hM0:M' 0=M 0:=hM1 0 (by decide);clear hm hM1 hc;have hno:¬ (i2+3<s.length/\0<=hx (bt s (i2+2))/\0<=hx (bt s (i2+3)))->rdA s.length s 1 []=none:=fun hn=>uH all2 le fun m=>by
             rw[rdA,if_neg (by omega),if_neg q34,if_neg (fun h=>h q92),if_neg (by omega),if_neg (by omega),if_neg (by omega),if_neg (by omega),if_pos c120,if_neg hn]
            have hx15:=MQ (bt s (i2+2));have hx16:=MQ (bt s (i2+3));rw[<- ae];by_cases hk:k<=2
            . have hkz:(k:Int)<=2:=by omega
              have e2:((i2:Int)+1+k).toNat=i2+1+k:=by omega
              have hjd:=zF s (i2+1+k);by_cases hjl:s.length<=i2+1+k
              . have hjz:(s.length:Int)<=(i2:Int)+1+k:=by omega
                have hjz':¬ (i2:Int)+1+k<s.length:=by omega
                iterate 12 (try simp only[ae];try simp[go_sem,ep,hkz,hjz,hjz'])
                exact⟨by omega,by omega,by omega,by omega,no X2.kept (hno (by omega)) _ _⟩
              have hjz:¬ (s.length:Int)<=(i2:Int)+1+k:=by omega
              have hjz3:(i2:Int)+1+k<s.length:=by omega
              by_cases hneg:hx (bt s (i2+1+k))<0
              . iterate 12 (try simp only[ae];try simp[go_sem,ep,s1,sN,hkz,hjz,hjz3,e2,hjd.1,hjd.2,hneg])
                refine⟨by omega,by omega,by omega,by omega,by omega,by omega,by omega,no X2.kept (hno ?_) _ _⟩;rintro⟨_,g1,g2⟩;rcases (by omega:k=1\/k=2) with rfl | rfl
                . exact absurd hneg (by rw[show i2+1+1=i2+2 by omega];omega)
                . exact absurd hneg (by rw[show i2+1+2=i2+3 by omega];omega)
              . iterate 12 (try simp only[ae];try simp[go_sem,s1,sN,hkz,hjz,hjz3,e2,hjd.1,hjd.2,hneg])
                refine⟨by omega,by omega,by omega,by omega,by omega,by omega,by omega,?_,?_⟩
                . rw[ei];refine⟨x0,i2,x2,k+1,y,y2,t,t2,l0,sl,acc2,h',by simp,X2,lo2,a1,cnt2,all2,by omega,by omega,fun h2=>?_,fun h3=>?_⟩
                  . by_cases e:k=1
                    . subst e;rw[show i2+1+1=i2+2 by omega] at hneg;exact⟨by omega,by omega⟩
                    . exact a4 (by omega)
                  . obtain rfl:k=2:=by omega
                    rw[show i2+1+2=i2+3 by omega] at hneg;exact⟨by omega,by omega⟩
                . rw[em];simp only[xU,List.getD_cons_succ,List.getD_cons_zero];omega
            . have hkz:¬ (k:Int)<=2:=by omega
              obtain⟨g1,g2⟩:=a4 (by omega);obtain⟨g3,g4⟩:=a5 (by omega);have e3:((i2:Int)+1+1).toNat=i2+2:=by omega
              have e4:((i2:Int)+1+2).toNat=i2+3:=by omega
              have b3:=zF s (i2+2);have b4:=zF s (i2+3);have z3:(i2:Int)+1+1<s.length:=by omega
              have z4:(i2:Int)+1+2<s.length:=by omega
              iterate 12 (try simp only[ae];try simp[go_sem,s1,sN,hkz,e3,e4,z3,z4,b3.1,b3.2,b4.1,b4.2])
              refine⟨by omega,by omega,by omega,by omega,by omega,by omega,by omega,by omega,by omega,by omega,?_⟩;have hw:IntKind.u8.wrap (hx (bt s (i2+2))*16+hx (bt s (i2+3)))=16*hx (bt s (i2+2))+hx (bt s (i2+3)):=by rw[IntKind.wrap_u8];omega
              rw[aK];intro b hb;refine vV X2 (by omega) hb (c:=16*hx (bt s (i2+2))+hx (bt s (i2+3))) (by omega) (by omega) rfl rfl (by simp[go_sem,hw]) (fun s' k' X'=>?_);rw[<- ae]
              iterate 4 (try simp only[ae];try simp[go_sem,ei,em])
              refine⟨by omega,by omega,by omega,by omega,⟨x2,i2+4,y2,t2,l0,s',_,k',by rw[show ((i2+4:Nat):Int)=(i2:Int)+1+2+1 by omega],X',by omega,by omega,by simp;omega,uG all2 le (i':=i2+4) (by omega) (fun m=>by
               rw[rdA,if_neg (by omega),if_neg q34,if_neg (fun h=>h q92),if_neg (by omega),if_neg (by omega),if_neg (by omega),if_neg (by omega),if_pos c120,if_pos ⟨g3,g2,g4⟩])⟩,?_⟩
              simp only[xU,List.getD_cons_succ,List.getD_cons_zero];omega
        . iterate 16 (try simp only[ae];try simp[go_sem,ep,hz,hz3,hz4,q92,e1,c34,c92,c110,c116,c120])
          refine⟨by omega,by omega,by omega,?_⟩;exact no X.kept (uH all le fun m=>by rw[rdA,if_neg (by omega),if_neg q34,if_neg (fun h=>h q92),if_neg (by omega),if_neg (by omega),if_neg c110,if_neg c116,if_neg c120]) _ _
      . iterate 6 (try simp only[ae];try simp[go_sem,hz,p1,p2,q34,q92])
        rw[aK];intro b hb;refine vV X (by omega) hb (c:=bt s i) hibd.1 hibd.2 rfl rfl rfl (fun s' k' X'=>?_);rw[<- ae]
        iterate 2 (try simp only[ae];try simp[go_sem,ei,em])
        refine⟨by omega,by omega,⟨x0,i+1,y,t,l0,s',_,k',by simp,X',by omega,by omega,by simp;omega,uG all le (Nat.lt_succ_self i) (fun m=>by rw[rdA,if_neg (by omega),if_neg q34,if_pos q92])⟩,?_⟩;simp only[xU,List.getD_cons_succ,List.getD_cons_zero];omega
  . rw[if_pos (.inr h34)] at hφ
    iterate 3 (try simp only[ae];try simp[go_sem,ep,hs0,h34])
    exact⟨hpos,h,fun _ _ h=>h,hφ _ _⟩
def Tq:Fm:=(.N (.and (.le (.c 0) (.x 0)) (.lt (.x 0) (.len (.x 0))))
 (.C 146 [(.one (.i .u8 (.at (.x 0) (.x 0))))] (.p (.J 1)) ⟨1,0,0,0,0,0⟩
 (.ite (.eqI (.x 1) (.c 1))
 (.ite (.eqI (.x 1) (.c 1))
 (.C 147 [.S 0,.J 0] (.p (.J 2)) ⟨1,0,0,0,0,0⟩
 (.N (.and (.and (.le (.c 0) (.x 2)) (.le (.x 2) (.len (.x 0)))) (.and (.le (.c 0) (.x 0)) (.le (.x 0) (.x 2))))
 (.N (.and (.le (.c 0) (.x 0)) (.lt (.x 0) (.len (.x 0))))
 (.C 146 [(.one (.i .u8 (.at (.x 0) (.x 0))))] (.p (.J 3)) ⟨1,0,0,0,0,0⟩
 (.ite (.eqI (.x 3) (.c 2))
 (.ret (.tup [(.agg [(.i .u8 (.c 2)),(.i .i64 (.c 0)),(.i .i64 (.c 0)),(.i .i64 (.c 0)),(.s (.sub (.x 0) (.x 0) (.x 2)))]),.J 2,(.I (.c 0))]))
 (.C 148 [(.one (.s (.sub (.x 0) (.x 0) (.x 2))))] (.p (.B 0)) ⟨0,1,0,0,0,0⟩
 (.ite (.x 0)
 (.ret (.tup [(.agg [(.i .u8 (.c 6)),(.i .i64 (.c 0)),(.i .i64 (.c 0)),(.i .i64 (.c 0)),(.s (.sub (.x 0) (.x 0) (.x 2)))]),.J 2,(.I (.c 0))]))
 (.ret (.tup [(.agg [(.i .u8 (.c 1)),(.i .i64 (.c 0)),(.i .i64 (.c 0)),(.i .i64 (.c 0)),(.s (.sub (.x 0) (.x 0) (.x 2)))]),.J 2,(.I (.c 0))])))))))))
 (.ite (.eqI (.x 1) (.c 3))
 (.C 149 [.S 0,.J 0] (.tup [.K 2 3 4 5 1,.J 6,.J 7]) ⟨6,0,1,0,0,0⟩
 (.ret (.tup [.K 2 3 4 5 1,.J 6,.J 7])))
 (.N (.and (.le (.c 0) (.x 0)) (.lt (.x 0) (.len (.x 0))))
 (.ite (.eqI (.at (.x 0) (.x 0)) (.c 34))
 (.N (.and (.le (.c 0) (.x 0)) (.le (.x 0) (.len (.x 0))))
 (.C 150 [(.one (.s (.sub (.x 0) (.x 0) (.len (.x 0)))))] (.tup [.S 1,.J 2,.B 0]) ⟨1,1,1,0,0,0⟩
 (.ite (.not (.x 0))
 (.ret (.tup [(.agg [(.i .u8 (.c 0)),(.i .i64 (.c 0)),(.i .i64 (.c 0)),(.i .i64 (.c 0)),(.s (.c []))]),(.I (.c 0)),(.I (.c 4))]))
 (.N (.R (.add (.x 0) (.x 2)))
 (.ret (.tup [(.agg [(.i .u8 (.c 5)),(.i .i64 (.c 0)),(.i .i64 (.c 0)),(.i .i64 (.c 0)),(.s (.x 1))]),(.I (.add (.x 0) (.x 2))),(.I (.c 0))]))))))
 (.mk [(.s (.c [38,38])),(.s (.c [124,124])),(.s (.c [61,61])),(.s (.c [33,61])),(.s (.c [60,61])),(.s (.c [62,61]))] 9 6
 (.loop 0 ⟨[(.c 0),(.c 0),(.c 0),(.c 0),(.c 0),(.c 0),(.c 0)],[],[(.c [])],[],[],[]⟩
 (.ite (.lt (.x 4) (.cnt (.x 0)))
 (.load (.le (.add (.x 0) (.c 2)) (.len (.x 0))) (.el (.x 0) (.x 4) 1 0) 1 [(.s (.x 2))] ⟨0,0,1,0,0,0⟩
 (.N (.R (.add (.x 0) (.c 2)))
 (.need (.le (.add (.x 0) (.c 2)) (.len (.x 0))) (.R (.add (.x 0) (.c 2)))
 (.need (.le (.add (.x 0) (.c 2)) (.len (.x 0))) (.and (.and (.le (.c 0) (.add (.x 0) (.c 2))) (.le (.add (.x 0) (.c 2)) (.len (.x 0)))) (.and (.le (.c 0) (.x 0)) (.le (.x 0) (.add (.x 0) (.c 2)))))
 (.need (.le (.add (.x 0) (.c 2)) (.len (.x 0))) (.X (.x 4) (.x 0))
 (.ite (.and (.le (.add (.x 0) (.c 2)) (.len (.x 0))) (.eqS (.sub (.x 0) (.x 0) (.add (.x 0) (.c 2))) (.x 2)))
 (.N (.X (.x 4) (.x 0))
 (.O (.el (.x 0) (.x 4) 1 0) 1 [(.s (.x 3))] ⟨0,0,1,0,0,0⟩
 (.N (.R (.add (.x 0) (.c 2)))
 (.ret (.tup [(.agg [(.i .u8 (.c 7)),(.i .i64 (.c 0)),(.i .i64 (.c 0)),(.i .i64 (.c 0)),(.s (.x 3))]),(.I (.add (.x 0) (.c 2))),(.I (.c 0))])))))
 (.N (.R (.add (.x 4) (.c 1)))
 (.again 0 ⟨2,0,1,0,1,0⟩ ⟨9,0,2,0,1,0⟩ ⟨[(.x 2),(.x 3),(.add (.x 4) (.c 1)),(.x 5),(.x 6),(.x 7),(.x 8)],[],[(.x 1)],[],[],[]⟩))))))))
 (.loop 1 ⟨[(.x 2),(.x 3),(.c 0),(.x 5),(.x 6),(.x 7),(.x 8)],[],[(.x 1)],[],[],[]⟩
 (.ite (.lt (.x 11) (.len (.c [43,45,42,47,37,60,62,33,61,40,41,123,125,91,93,44,59,58,46])))
 (.N (.and (.le (.c 0) (.x 0)) (.lt (.x 0) (.len (.x 0))))
 (.N (.and (.le (.c 0) (.x 11)) (.lt (.x 11) (.len (.c [43,45,42,47,37,60,62,33,61,40,41,123,125,91,93,44,59,58,46]))))
 (.ite (.eqI (.at (.x 0) (.x 0)) (.at (.c [43,45,42,47,37,60,62,33,61,40,41,123,125,91,93,44,59,58,46]) (.x 11)))
 (.N (.R (.add (.x 11) (.c 1)))
 (.N (.and (.and (.le (.c 0) (.add (.x 11) (.c 1))) (.le (.add (.x 11) (.c 1)) (.len (.c [43,45,42,47,37,60,62,33,61,40,41,123,125,91,93,44,59,58,46])))) (.and (.le (.c 0) (.x 11)) (.le (.x 11) (.add (.x 11) (.c 1)))))
 (.N (.R (.add (.x 0) (.c 1)))
 (.ret (.tup [(.agg [(.i .u8 (.c 7)),(.i .i64 (.c 0)),(.i .i64 (.c 0)),(.i .i64 (.c 0)),(.s (.sub (.c [43,45,42,47,37,60,62,33,61,40,41,123,125,91,93,44,59,58,46]) (.x 11) (.add (.x 11) (.c 1))))]),(.I (.add (.x 0) (.c 1))),(.I (.c 0))])))))
 (.N (.R (.add (.x 11) (.c 1)))
 (.again 1 ⟨9,0,2,0,1,0⟩ ⟨16,0,3,0,1,0⟩ ⟨[(.x 9),(.x 10),(.add (.x 11) (.c 1)),(.x 12),(.x 13),(.x 14),(.x 15)],[],[(.x 2)],[],[],[]⟩)))))
 (.ret (.tup [(.agg [(.i .u8 (.c 0)),(.i .i64 (.c 0)),(.i .i64 (.c 0)),(.i .i64 (.c 0)),(.s (.c []))]),(.I (.c 0)),(.I (.c 4))])))))))))))
 (.ite (.eqI (.x 1) (.c 2))
 (.C 147 [.S 0,.J 0] (.p (.J 2)) ⟨1,0,0,0,0,0⟩
 (.N (.and (.and (.le (.c 0) (.x 2)) (.le (.x 2) (.len (.x 0)))) (.and (.le (.c 0) (.x 0)) (.le (.x 0) (.x 2))))
 (.N (.and (.le (.c 0) (.x 0)) (.lt (.x 0) (.len (.x 0))))
 (.C 146 [(.one (.i .u8 (.at (.x 0) (.x 0))))] (.p (.J 3)) ⟨1,0,0,0,0,0⟩
 (.ite (.eqI (.x 3) (.c 2))
 (.ret (.tup [(.agg [(.i .u8 (.c 2)),(.i .i64 (.c 0)),(.i .i64 (.c 0)),(.i .i64 (.c 0)),(.s (.sub (.x 0) (.x 0) (.x 2)))]),.J 2,(.I (.c 0))]))
 (.C 148 [(.one (.s (.sub (.x 0) (.x 0) (.x 2))))] (.p (.B 0)) ⟨0,1,0,0,0,0⟩
 (.ite (.x 0)
 (.ret (.tup [(.agg [(.i .u8 (.c 6)),(.i .i64 (.c 0)),(.i .i64 (.c 0)),(.i .i64 (.c 0)),(.s (.sub (.x 0) (.x 0) (.x 2)))]),.J 2,(.I (.c 0))]))
 (.ret (.tup [(.agg [(.i .u8 (.c 1)),(.i .i64 (.c 0)),(.i .i64 (.c 0)),(.i .i64 (.c 0)),(.s (.sub (.x 0) (.x 0) (.x 2)))]),.J 2,(.I (.c 0))])))))))))
 (.ite (.eqI (.x 1) (.c 3))
 (.C 149 [.S 0,.J 0] (.tup [.K 2 3 4 5 1,.J 6,.J 7]) ⟨6,0,1,0,0,0⟩
 (.ret (.tup [.K 2 3 4 5 1,.J 6,.J 7])))
 (.N (.and (.le (.c 0) (.x 0)) (.lt (.x 0) (.len (.x 0))))
 (.ite (.eqI (.at (.x 0) (.x 0)) (.c 34))
 (.N (.and (.le (.c 0) (.x 0)) (.le (.x 0) (.len (.x 0))))
 (.C 150 [(.one (.s (.sub (.x 0) (.x 0) (.len (.x 0)))))] (.tup [.S 1,.J 2,.B 0]) ⟨1,1,1,0,0,0⟩
 (.ite (.not (.x 0))
 (.ret (.tup [(.agg [(.i .u8 (.c 0)),(.i .i64 (.c 0)),(.i .i64 (.c 0)),(.i .i64 (.c 0)),(.s (.c []))]),(.I (.c 0)),(.I (.c 4))]))
 (.N (.R (.add (.x 0) (.x 2)))
 (.ret (.tup [(.agg [(.i .u8 (.c 5)),(.i .i64 (.c 0)),(.i .i64 (.c 0)),(.i .i64 (.c 0)),(.s (.x 1))]),(.I (.add (.x 0) (.x 2))),(.I (.c 0))]))))))
 (.mk [(.s (.c [38,38])),(.s (.c [124,124])),(.s (.c [61,61])),(.s (.c [33,61])),(.s (.c [60,61])),(.s (.c [62,61]))] 9 6
 (.loop 0 ⟨[(.c 0),(.c 0),(.c 0),(.c 0),(.c 0),(.c 0),(.c 0)],[],[(.c [])],[],[],[]⟩
 (.ite (.lt (.x 4) (.cnt (.x 0)))
 (.load (.le (.add (.x 0) (.c 2)) (.len (.x 0))) (.el (.x 0) (.x 4) 1 0) 1 [(.s (.x 2))] ⟨0,0,1,0,0,0⟩
 (.N (.R (.add (.x 0) (.c 2)))
 (.need (.le (.add (.x 0) (.c 2)) (.len (.x 0))) (.R (.add (.x 0) (.c 2)))
 (.need (.le (.add (.x 0) (.c 2)) (.len (.x 0))) (.and (.and (.le (.c 0) (.add (.x 0) (.c 2))) (.le (.add (.x 0) (.c 2)) (.len (.x 0)))) (.and (.le (.c 0) (.x 0)) (.le (.x 0) (.add (.x 0) (.c 2)))))
 (.need (.le (.add (.x 0) (.c 2)) (.len (.x 0))) (.X (.x 4) (.x 0))
 (.ite (.and (.le (.add (.x 0) (.c 2)) (.len (.x 0))) (.eqS (.sub (.x 0) (.x 0) (.add (.x 0) (.c 2))) (.x 2)))
 (.N (.X (.x 4) (.x 0))
 (.O (.el (.x 0) (.x 4) 1 0) 1 [(.s (.x 3))] ⟨0,0,1,0,0,0⟩
 (.N (.R (.add (.x 0) (.c 2)))
 (.ret (.tup [(.agg [(.i .u8 (.c 7)),(.i .i64 (.c 0)),(.i .i64 (.c 0)),(.i .i64 (.c 0)),(.s (.x 3))]),(.I (.add (.x 0) (.c 2))),(.I (.c 0))])))))
 (.N (.R (.add (.x 4) (.c 1)))
 (.again 0 ⟨2,0,1,0,1,0⟩ ⟨9,0,2,0,1,0⟩ ⟨[(.x 2),(.x 3),(.add (.x 4) (.c 1)),(.x 5),(.x 6),(.x 7),(.x 8)],[],[(.x 1)],[],[],[]⟩))))))))
 (.loop 1 ⟨[(.x 2),(.x 3),(.c 0),(.x 5),(.x 6),(.x 7),(.x 8)],[],[(.x 1)],[],[],[]⟩
 (.ite (.lt (.x 11) (.len (.c [43,45,42,47,37,60,62,33,61,40,41,123,125,91,93,44,59,58,46])))
 (.N (.and (.le (.c 0) (.x 0)) (.lt (.x 0) (.len (.x 0))))
 (.N (.and (.le (.c 0) (.x 11)) (.lt (.x 11) (.len (.c [43,45,42,47,37,60,62,33,61,40,41,123,125,91,93,44,59,58,46]))))
 (.ite (.eqI (.at (.x 0) (.x 0)) (.at (.c [43,45,42,47,37,60,62,33,61,40,41,123,125,91,93,44,59,58,46]) (.x 11)))
 (.N (.R (.add (.x 11) (.c 1)))
 (.N (.and (.and (.le (.c 0) (.add (.x 11) (.c 1))) (.le (.add (.x 11) (.c 1)) (.len (.c [43,45,42,47,37,60,62,33,61,40,41,123,125,91,93,44,59,58,46])))) (.and (.le (.c 0) (.x 11)) (.le (.x 11) (.add (.x 11) (.c 1)))))
 (.N (.R (.add (.x 0) (.c 1)))
 (.ret (.tup [(.agg [(.i .u8 (.c 7)),(.i .i64 (.c 0)),(.i .i64 (.c 0)),(.i .i64 (.c 0)),(.s (.sub (.c [43,45,42,47,37,60,62,33,61,40,41,123,125,91,93,44,59,58,46]) (.x 11) (.add (.x 11) (.c 1))))]),(.I (.add (.x 0) (.c 1))),(.I (.c 0))])))))
 (.N (.R (.add (.x 11) (.c 1)))
 (.again 1 ⟨9,0,2,0,1,0⟩ ⟨16,0,3,0,1,0⟩ ⟨[(.x 9),(.x 10),(.add (.x 11) (.c 1)),(.x 12),(.x 13),(.x 14),(.x 15)],[],[(.x 2)],[],[],[]⟩)))))
 (.ret (.tup [(.agg [(.i .u8 (.c 0)),(.i .i64 (.c 0)),(.i .i64 (.c 0)),(.i .i64 (.c 0)),(.s (.c []))]),(.I (.c 0)),(.I (.c 4))]))))))))))))))
theorem Y8:aZ ⟨true,[]⟩ Tryz.prog (fun l=>([⟨[5,6,74],[75,76,13,77,78,79,80,81,82,83,84,85,86,87,88,89,90,91,92,93,94,95,96,97,98,99,100,101],[4]⟩,⟨[5,6,15],[102,103,104,105,108,109,110,111,112,113,114,115,116,117,118,119,120,121,122,106,107],[4]⟩]:List bK).getD l ⟨[],[],[]⟩) Tryz.f135=Tq:=by kernel_rfl
theorem ac5:az Tryz.prog .zero Tryz.f135.params.toList=some ([.S 0,.J 0],⟨1,0,1,0,0,0⟩):=by kernel_rfl
theorem abf (s:List UInt8) {i j:Nat} (h:i<j) (hj:j<=s.length):sub s i j=s[i]::sub s (i+1) j:=by
 unfold sub;have hl:i<(s.take j).length:=by rw[List.length_take];omega
 rw[List.drop_eq_getElem_cons hl,List.getElem_take]
def TWO:List (List UInt8):=[[38,38],[124,124],[61,61],[33,61],[60,61],[62,61]]
def ONE:List UInt8:=[43,45,42,47,37,60,62,33,61,40,41,123,125,91,93,44,59,58,46]
theorem H9:dQ=TWO++ONE.map fun c=>[c]:=rfl
theorem Cf {α:Type} (P:α->Bool):∀ (l:List α) (j:Nat) (x:α),l[j]? = some x->P x=true->(∀ k y,k<j->l[k]? = some y->P y=false)->l.find? P=some x
 | [],j,x,h,_,_=>by cases h
 | a::l,0,x,h,hp,_=>by
   have e:a=x:=by simpa using h
   rw[List.find?_cons,e,hp]
 | a::l,j+1,x,h,hp,hn=>by
   rw[List.find?_cons,hn 0 a (by omega) rfl];exact Cf P l j x (by simpa using h) hp (fun k y hk hy=>hn (k+1) y (by omega) (by simpa using hy))
theorem Fp {α:Type} (P:α->Bool) (l:List α) (h:∀ (k:Nat) y,l[k]? = some y->P y=false):l.find? P=none:=by
 rw[List.find?_eq_none];intro x hx;obtain⟨k,hk⟩:=List.getElem?_of_mem hx;rw[h k x hk];simp
theorem JA {s p:List UInt8} {i:Nat} (hp:p.length=2):p.isPrefixOf (s.drop i)=true↔(i+2<=s.length/\sub s i (i+2)=p):=by
 have e:sub s i (i+2)=(s.drop i).take 2:=by
  unfold sub;rw[List.drop_take];congr 1;omega
 rw[List.isPrefixOf_iff_prefix,List.prefix_iff_eq_take,hp,e];constructor
 . intro h;have:=congrArg List.length h;rw[hp,List.length_take,List.length_drop] at this;exact⟨by omega,h.symm⟩
 . intro h;exact h.2.symm
theorem Je {s:List UInt8} {i:Nat} (hi:i<s.length) (c:UInt8):[c].isPrefixOf (s.drop i)=true↔bt s i=c.toNat:=by
 rw[List.drop_eq_getElem_cons hi,rM s i hi];simp[List.isPrefixOf];constructor
 . rintro rfl;rfl
 . intro h;exact (UInt8.toNat_inj.1 (by omega))
def BD (s:List UInt8) (i0 j:Nat):Prop:=∀ (k:Nat) y,k<j->TWO[k]? = some y->y.isPrefixOf (s.drop i0)=false
def af6 (h:Hp) (s:List UInt8) (i0:Nat):Nat->Ctx->Prop
 | 0,C=>∃ kx a0 a1 j a3 a4 a5 a6 t b,C=⟨[(i0:Nat),kx,a0,a1,(j:Nat),a3,a4,a5,a6],[],[s,t],[],[⟨some (b,0),6,6⟩],[],Hp.set h b ⟨strs TWO,9⟩,df⟩/\h b=none/\j<=6/\BD s i0 j
 | _+1,C=>∃ kx a0 a1 a2 a3 a4 a5 a6 c0 c1 j c3 c4 c5 c6 t t' b,C=⟨[(i0:Nat),kx,a0,a1,a2,a3,a4,a5,a6,c0,c1,(j:Nat),c3,c4,c5,c6],[],[s,t,t'],[],[⟨some (b,0),6,6⟩],[],Hp.set h b ⟨strs TWO,9⟩,df⟩/\h b=none/\j<=19/\BD s i0 6/\
  ∀ (k:Nat) y,k<j->ONE[k]? = some y->bt s i0≠y.toNat
def Nr:Nat->Ctx->Nat
 | 0,C=>(6 - C.i.getD 4 0).toNat
 | _+1,C=>(19 - C.i.getD 11 0).toNat
theorem ae2 {s:List UInt8} {i0:Nat} (hk:¬ (jh (bt s i0)=1\/jh (bt s i0)=2)) (hk3:¬ jh (bt s i0)=3) (h34:¬ bt s i0=34):one s i0=if sg (s.drop i0)=[] then ⟨4,0,[],0,0⟩ else ⟨0,7,sg (s.drop i0),0,i0+(sg (s.drop i0)).length⟩:=by
 unfold one;rw[if_neg hk,if_neg hk3,if_neg h34]
theorem adt {s:List UInt8} {i0 j:Nat} {x:List UInt8} (hn:BD s i0 j) (hx:TWO[j]? = some x) (hp:x.isPrefixOf (s.drop i0)=true):sg (s.drop i0)=x:=by
 unfold sg;rw[H9,List.find?_append,Cf (fun p=>p.isPrefixOf (s.drop i0)) TWO j x hx hp (fun k y hk hy=>hn k y hk hy)];rfl
theorem Nj {s:List UInt8} {i0:Nat} (hn:BD s i0 6):TWO.find? (fun p=>p.isPrefixOf (s.drop i0))=none:=
 Fp _ _ fun k y hy=>hn k y (by have:=(List.getElem?_eq_some_iff.1 hy).1;exact this) hy
theorem ads {s:List UInt8} {i0 j:Nat} {c:UInt8} (hi:i0<s.length) (hn:BD s i0 6) (hj:∀ (k:Nat) y,k<j->ONE[k]? = some y->bt s i0≠y.toNat) (hx:ONE[j]? = some c) (hp:bt s i0=c.toNat):sg (s.drop i0)=[c]:=by
 unfold sg;rw[H9,List.find?_append,Nj hn,Option.none_or,Cf (fun p=>p.isPrefixOf (s.drop i0)) (ONE.map fun c=>[c]) j [c] (by simp[hx]) ((Je hi c).2 hp) (fun k y hk hy=>?_)]
 . rfl
 . simp only[List.getElem?_map,Option.map_eq_some_iff] at hy;obtain⟨d,hd,rfl⟩:=hy;cases hq:[d].isPrefixOf (s.drop i0)
   . rfl
   . exact absurd ((Je hi d).1 hq) (hj k d hk hd)
theorem adq {s:List UInt8} {i0:Nat} (hi:i0<s.length) (hn:BD s i0 6) (hj:∀ (k:Nat) y,k<19->ONE[k]? = some y->bt s i0≠y.toNat):sg (s.drop i0)=[]:=by
 unfold sg;rw[H9,List.find?_append,Nj hn,Option.none_or,Fp (fun p=>p.isPrefixOf (s.drop i0)) (ONE.map fun c=>[c]) (fun k y hy=>?_)]
 . rfl
 . simp only[List.getElem?_map,Option.map_eq_some_iff] at hy;obtain⟨d,hd,rfl⟩:=hy;cases hq:[d].isPrefixOf (s.drop i0)
   . rfl
   . exact absurd ((Je hi d).1 hq) (hj k d (by have:=(List.getElem?_eq_some_iff.1 hd).1;exact this) hd)
set_option maxRecDepth 100000 in
set_option maxHeartbeats 8000000 in
def Yg:Ct Tryz.prog where
 f:=135
 spec:=fun args h φ=>∃ s i0,args=[.string (B s),.int .i64 (i0:Nat)]/\i0<s.length/\s.length<=100000/\jh (bt s i0)≠3/\
  (if (one s i0).f=0 then φ (.tuple #[fM (one s i0).k 0 0 (one s i0).n (one s i0).x,.int .i64 ((one s i0).e:Nat),.int .i64 0]) h
   else ∀ kk,φ (.tuple #[fM kk 0 0 0 [],.int .i64 0,.int .i64 (one s i0).f]) h)
 ok:=by
  rintro args h φ w ⟨s,i0,rfl,hi0,hlen,k3,hφ⟩ hH;refine dh (bn Tryz.func135 Y8 ac5 [l7,Kq,Si,RY] (fun v k=>∃ k',dA k' k/\φ v k') (af6 h s i0) Nr ⟨[(i0:Nat)],[],[s],[],[],[],h,df⟩ ⟨rfl,rfl,rfl,rfl,rfl,rfl⟩ af ?_ w hH rfl);generalize hE:(⟨aG _,_,_,_⟩:Env)=E;have s1:E.spec 146=l7.spec:=by rw[<- hE];rfl
  have s2:E.spec 147=Kq.spec:=by rw[<- hE];rfl
  have s3:E.spec 148=Si.spec:=by rw[<- hE];rfl
  have s5:E.spec 150=RY.spec:=by rw[<- hE];rfl
  have ep:E.post=fun v k=>∃ k',dA k' k/\φ v k':=by rw[<- hE]
  have ei:E.inv=af6 h s i0:=by rw[<- hE]
  have em:E.meas=Nr:=by rw[<- hE]
  clear hE;have hz:(i0:Int)<s.length:=by omega
  rw[<- ae];unfold Tq;by_cases k1:jh (bt s i0)=1
  . iterate 4 (try simp only[ae];try simp[go_sem,s1,l7,hz,k1])
    have hin:inB (bt s i0)=true:=by simp[inB,k1]
    have hone:one s i0=⟨0,kS (bt s i0) (sub s i0 (i0+rn inB s i0)),sub s i0 (i0+rn inB s i0),0,i0+rn inB s i0⟩:=by unfold one;rw[if_pos (.inl k1)]
    have hle:=D7 (p:=inB) (s:=s) (i:=i0) (by omega);rw[hone,if_pos rfl] at hφ;rw[ag,s2];refine⟨s,i0,rfl,by omega,by omega,by omega,(fun h=>by cases h),?_⟩;rw[Int.toNat_natCast];simp[go_sem];generalize rn inB s i0=N at *;have e1:((i0:Int)+N).toNat=i0+N:=by omega
    have e2:List.drop i0 (List.take (i0+N) s)=sub s i0 (i0+N):=rfl
    iterate 5 (try simp only[ae];try simp[go_sem,s1,l7,hz,k1,e1,e2])
    refine⟨by omega,by omega,by omega,?_⟩;rw[s3];refine⟨sub s i0 (i0+N),rfl,fun k' hk'=>?_⟩;have hk2':¬ jh (bt s i0)=2:=by omega
    unfold kS at hφ;rw[if_neg hk2'] at hφ;cases hw:jd (sub s i0 (i0+N))
    . rw[hw] at hφ;refine .inl ⟨rfl,?_⟩
      iterate 2 (try simp only[ae];try simp[go_sem,ep,e1,e2])
      exact⟨h,hk',by simpa[fM] using hφ⟩
    . rw[hw] at hφ;refine .inr ⟨rfl,?_⟩
      iterate 2 (try simp only[ae];try simp[go_sem,ep,e1,e2])
      exact⟨h,hk',by simpa[fM] using hφ⟩
  by_cases k2:jh (bt s i0)=2
  . iterate 4 (try simp only[ae];try simp[go_sem,s1,l7,hz,k2])
    have hin:inB (bt s i0)=true:=by simp[inB,k2]
    have hone:one s i0=⟨0,kS (bt s i0) (sub s i0 (i0+rn inB s i0)),sub s i0 (i0+rn inB s i0),0,i0+rn inB s i0⟩:=by unfold one;rw[if_pos (.inr k2)]
    have hle:=D7 (p:=inB) (s:=s) (i:=i0) (by omega);rw[hone,if_pos rfl] at hφ;rw[ag,s2];refine⟨s,i0,rfl,by omega,by omega,by omega,(fun h=>by cases h),?_⟩;rw[Int.toNat_natCast];simp[go_sem];generalize rn inB s i0=N at *;have e1:((i0:Int)+N).toNat=i0+N:=by omega
    have e2:List.drop i0 (List.take (i0+N) s)=sub s i0 (i0+N):=rfl
    iterate 5 (try simp only[ae];try simp[go_sem,s1,l7,hz,k2,e1,e2,ep])
    unfold kS at hφ;rw[if_pos k2] at hφ;exact⟨by omega,by omega,by omega,h,fun _ _ h=>h,by simpa[fM] using hφ⟩
  by_cases h34:bt s i0=34
  . have hk34:jh 34=0:=by decide
    iterate 8 (try simp only[ae];try simp[go_sem,s1,l7,hz,h34,hk34])
    refine⟨by omega,?_⟩;have hdl:(s.drop i0).length=s.length - i0:=List.length_drop;have htl:List.drop i0 (List.take s.length s)=s.drop i0:=by rw[List.take_length]
    have hk12:¬ (jh (bt s i0)=1\/jh (bt s i0)=2):=by omega
    rw[ag,s5];refine⟨s.drop i0,by simp[go_sem],by omega,?_⟩;cases hq:Bg (s.drop i0) with
    | none=>
      have hone:one s i0=⟨4,0,[],0,0⟩:=by
       unfold one;rw[if_neg hk12,if_neg k3,if_pos h34,hq]
      rw[hone,if_neg (by decide)] at hφ;intro t n;refine⟨(fun h=>by cases h),?_⟩;simp[go_sem]
      iterate 2 (try simp only[ae];try simp[go_sem,ep])
      exact⟨h,fun _ _ h=>h,by simpa[fM] using hφ 0⟩
    | some r=>
      obtain⟨t,m⟩:=r;obtain⟨m1,m2,_⟩:=xW hq;have hone:one s i0=⟨0,5,t,0,i0+m⟩:=by
       unfold one;rw[if_neg hk12,if_neg k3,if_pos h34,hq]
      rw[hone,if_pos rfl] at hφ;refine⟨(fun h=>by cases h),?_⟩;simp[go_sem]
      iterate 3 (try simp only[ae];try simp[go_sem,ep])
      exact⟨by omega,by omega,h,fun _ _ h=>h,by simpa[fM] using hφ⟩
  iterate 7 (try simp only[ae];try simp[go_sem,s1,l7,hz,k1,k2,k3,h34])
  have hk12:¬ (jh (bt s i0)=1\/jh (bt s i0)=2):=by omega
  have hone:=ae2 hk12 k3 h34;rw[ae,aK];intro b hb;refine bI ?_ ?_
  . rw[ei];exact⟨jh (bt s i0),0,0,0,0,0,0,0,[],b,rfl,hb,by omega,fun k y hk=>by omega⟩
  rw[ei,em];rintro i' bb ss v ll pp hh0 M ⟨kx,a0,a1,j,a3,a4,a5,a6,t,b',hC,hb',hj6,hno⟩ hM;cases hC;have hM':M 0=((6:Int) - j).toNat:=hM;clear hM hb;have hle':dA h (Hp.set h b' ⟨strs TWO,9⟩):=fE hb' _;have kb:(Hp.set h b' ⟨strs TWO,9⟩) b'=some ⟨strs TWO,9⟩:=aA _ _ _;generalize hHd:Hp.set h b' ⟨strs TWO,9⟩=H at *;rw[<- ae];by_cases hj:j<6
  . have hjz:(j:Int)<6:=by omega
    obtain⟨x,hx⟩:∃ x,TWO[j]? = some x:=⟨_,List.getElem?_eq_getElem (show j<TWO.length from hj)⟩;have hx2:x.length=2:=by
     have hall:TWO.all (fun x=>decide (x.length=2))=true:=by decide
     simpa using List.all_eq_true.1 hall x (List.mem_of_getElem? hx)
    have hrd:=wo kb hx;have e1:((i0:Int)+2).toNat=i0+2:=by omega
    have e2:List.drop i0 (List.take (i0+2) s)=sub s i0 (i0+2):=rfl;have nt:x.isPrefixOf (s.drop i0)=false->BD s i0 (j+1):=fun hf k y hk hy=>by
     by_cases e:k=j
     . subst e;rw[hx] at hy;cases hy;exact hf
     . exact hno k y (by omega) hy
    by_cases h2:i0+2<=s.length
    . have h2z:(i0:Int)+2<=s.length:=by omega
      by_cases hp:sub s i0 (i0+2)=x
      . have hsg:=adt hno hx ((JA hx2).2 ⟨h2,hp⟩);rw[hsg,if_neg (by intro e;rw[e] at hx2;cases hx2)] at hone;rw[hone,if_pos rfl] at hφ
        iterate 11 (try simp only[ae];try simp[go_sem,ep,hjz,hrd,h2z,e1,e2,hp])
        refine⟨by omega,by omega,by omega,by omega,by omega,by omega,by omega,by omega,h,hle',?_⟩;have hl2:((i0+x.length:Nat):Int)=(i0:Int)+2:=by omega
        simpa[fM,hl2,hx2] using hφ
      . iterate 11 (try simp only[ae];try simp[go_sem,ei,em,hjz,hrd,h2z,e1,e2,hp])
        refine⟨by omega,by omega,by omega,by omega,by omega,by omega,by omega,by omega,⟨kx,a0,a1,j+1,a3,a4,a5,a6,t,b',by rw[hHd,show ((j+1:Nat):Int)=(j:Int)+1 by omega],hb',by omega,nt ?_⟩,?_⟩
        . cases hq:x.isPrefixOf (s.drop i0)
          . rfl
          . exact absurd ((JA hx2).1 hq).2 hp
        . simp only[Nr,List.getD_cons_succ,List.getD_cons_zero];omega
    . have h2z:¬ (i0:Int)+2<=s.length:=by omega
      iterate 11 (try simp only[ae];try simp[go_sem,ei,em,hjz,h2z])
      refine⟨by omega,by omega,by omega,by omega,⟨kx,a0,a1,j+1,a3,a4,a5,a6,t,b',by rw[hHd,show ((j+1:Nat):Int)=(j:Int)+1 by omega],hb',by omega,nt ?_⟩,?_⟩
      . cases hq:x.isPrefixOf (s.drop i0)
        . rfl
        . exact absurd ((JA hx2).1 hq).1 h2
      . simp only[Nr,List.getD_cons_succ,List.getD_cons_zero];omega
  . have hjz:¬ (j:Int)<6:=by omega
    iterate 1 (try simp only[ae];try simp[go_sem,hjz])
    try rw[ae]
    refine bI ?_ ?_
    . rw[ei];exact⟨kx,a0,a1,(j:Nat),a3,a4,a5,a6,a0,a1,0,a3,a4,a5,a6,t,t,b',by rw[hHd];rfl,hb',by omega,by rw[show j=6 by omega] at hno;exact hno,fun k y hk=>by omega⟩
    . clear hno hM' hj6 hj hjz;clear hle' kb hHd;rw[ei,em];rintro i' bb ss v ll pp hh1 M1 ⟨kx1,d0,d1,d2,d3,d4,d5,d6,c0,c1,j1,c3,c4,c5,c6,t1,t2,b1,hC,hb1,hj19,hno6,hn1⟩ hM;cases hC;have hM':M1 1=((19:Int) - j1).toNat:=hM;clear hM;have hle':dA h (Hp.set h b1 ⟨strs TWO,9⟩):=fE hb1 _;generalize hHd:Hp.set h b1 ⟨strs TWO,9⟩=H1 at *;have hONE:([43,45,42,47,37,60,62,33,61,40,41,123,125,91,93,44,59,58,46]:List UInt8)=ONE:=rfl;have hol:ONE.length=19:=rfl;rw[<- ae];by_cases hj:j1<19
      . have hjz:(j1:Int)<19:=by omega
        obtain⟨c,hc⟩:∃ c,ONE[j1]? = some c:=⟨_,List.getElem?_eq_getElem (show j1<ONE.length from hj)⟩;have hob:bt ONE j1=c.toNat:=by
         have hjl:j1<ONE.length:=hj;rw[rM ONE j1 hjl,(List.getElem?_eq_some_iff.1 hc).2]
        have e1:((j1:Int)+1).toNat=j1+1:=by omega
        have e3:List.drop j1 (List.take (j1+1) ONE)=[c]:=by
         have hjl:j1<ONE.length:=hj;have:=abf ONE (i:=j1) (j:=j1+1) (by omega) hjl;rw[yj,(List.getElem?_eq_some_iff.1 hc).2] at this;exact this
        by_cases hp:bt s i0=bt ONE j1
        . have hsg:=ads hi0 hno6 hn1 hc (by rw[hp,hob]);rw[hsg,if_neg (by simp)] at hone;rw[hone,if_pos rfl] at hφ
          iterate 9 (try simp only[ae];try simp[go_sem,ep,hONE,hol,hjz,hz,hp,e1,e3])
          exact⟨by omega,by omega,by omega,by omega,by omega,by omega,by omega,h,hle',by simpa[fM] using hφ⟩
        . iterate 9 (try simp only[ae];try simp[go_sem,ei,em,hONE,hol,hjz,hz,hp])
          refine⟨by omega,by omega,⟨kx1,d0,d1,d2,d3,d4,d5,d6,c0,c1,j1+1,c3,c4,c5,c6,t1,t2,b1,by rw[hHd,show ((j1+1:Nat):Int)=(j1:Int)+1 by omega],hb1,by omega,hno6,fun k y hk hy=>?_⟩,?_⟩
          . by_cases e:k=j1
            . subst e;rw[hc] at hy;cases hy;rw[<- hob];exact hp
            . exact hn1 k y (by omega) hy
          . simp only[Nr,List.getD_cons_succ,List.getD_cons_zero];omega
      . have hjz:¬ (j1:Int)<19:=by omega
        have hsg:=adq hi0 hno6 (by rw[show j1=19 by omega] at hn1;exact hn1);rw[hsg,if_pos rfl] at hone;rw[hone,if_neg (by decide)] at hφ
        iterate 3 (try simp only[ae];try simp[go_sem,ep,hONE,hol,hjz])
        exact⟨h,hle',by simpa[fM] using hφ 0⟩
end
theorem jG {x:List UInt8} (h:aT o8 x=true) (hl:x.length<=1000000):rG x:=by
 cases x with
 | nil=>cases h
 | cons c r=>
   rw[aT] at h;simp only[Bool.and_eq_true,Bool.not_eq_true'] at h;obtain⟨h1,h2,h3⟩:=h;refine⟨?_,List.all_eq_true.1 h3,h2,hl⟩;rw[fO];unfold o8 at h1;simp only[Bool.or_eq_true,beq_iff_eq,Bool.and_eq_true,iJ] at h1;unfold jh;rw[if_pos (by omega)]
theorem lK {x:List UInt8} (h:aT C9 x=true) (hl:x.length<=1000000):sF x:=by
 cases x with
 | nil=>cases h
 | cons c r=>
   rw[aT] at h;simp only[Bool.and_eq_true,Bool.not_eq_true'] at h;obtain⟨h1,h2,h3⟩:=h;refine⟨?_,List.all_eq_true.1 h3,hl⟩;rw[fO];unfold C9 at h1;simp only[Bool.and_eq_true,iJ] at h1;unfold jh;rw[if_neg (by omega),if_pos (by omega)]
theorem Aa {p:Ng->Bool} {ks:List Tr} (h:rowB [p] (ks.map Tr.g)=true):∃ a,ks=[a]/\p a.g=true:=by
 match ks,h with
 | [a],h=>exact⟨a,rfl,by simpa[rowB] using h⟩
 | [],h=>simp[rowB] at h
 | _::_::_,h=>simp[rowB] at h
theorem D8 {p q:Ng->Bool} {ks:List Tr} (h:rowB [p,q] (ks.map Tr.g)=true):∃ a b,ks=[a,b]/\p a.g=true/\q b.g=true:=by
 match ks,h with
 | [a,b],h=>exact⟨a,b,rfl,by simpa[rowB] using h⟩
 | [],h=>simp[rowB] at h
 | [_],h=>simp[rowB] at h
 | _::_::_::_,h=>simp[rowB] at h
theorem vO {ks:List Tr} (h:rowB [] (ks.map Tr.g)=true):ks=[]:=by
 match ks,h with
 | [],_=>rfl
 | _::_,h=>simp[rowB] at h
theorem ni {k l c n:Int} {x:List UInt8} {ks:List Tr} (h:kW (.nd k l c n x ks)=true):fieldsB ⟨k,l,c,(Tr.ns ks:Nat),n,x⟩=true/\fG k n (ks.map Tr.g)=true/\ks.all kW=true:=by
 rw[gB,Jc] at h;simp only[Bool.and_eq_true] at h;exact⟨h.1.1,h.1.2,h.2⟩
theorem mf {x:List UInt8} (h:(x==[])=true):x=[]:=by simpa using h
def nB (t:Tr):Prop:=∀ x∈t.gs,x.n<=9223372036854775807/\x.x.length<=1000000
theorem Dx {k l c n:Int} {x:List UInt8} {ks:List Tr} (h:nB (.nd k l c n x ks)):(n<=9223372036854775807/\x.length<=1000000)/\∀ t∈ks,nB t:=by
 unfold nB at h;rw[nC] at h;refine⟨h ⟨k,l,c,(Tr.ns ks:Nat),n,x⟩ (by simp),fun t ht y hy=>h y (List.mem_cons_of_mem _ ?_)⟩
 induction ks with
 | nil=>simp at ht
 | cons a ks ih=>
   rw[eG];rcases List.mem_cons.1 ht with rfl | ht
   . exact List.mem_append_left _ hy
   . refine List.mem_append_right _ (ih ?_ ht);intro z hz;rw[eG] at h;rcases List.mem_cons.1 hz with rfl | hz
     . exact h ⟨k,l,c,(Tr.ns (a::ks):Nat),n,x⟩ (by simp)
     . exact h z (List.mem_cons_of_mem _ (List.mem_append_right _ hz))
theorem zu:∀ (m:Nat) (t:Tr),t.n<=m->nB t->kW t=true->Oo t.g=true->yK t
 | 0,t,hm,_,_,_=>by rw[mQ] at hm;omega
 | m+1,.nd k l c n x ks,hm,hnb,h,hk=>by
   obtain⟨h1,h2,h3⟩:=ni h;obtain⟨⟨_,hxl⟩,hb2⟩:=Dx hnb;have hkk:15<=k/\k<=20:=by simpa[ut,nz] using hk
   rw[iC] at hm;by_cases k20:k=20
   . subst k20;obtain⟨a,rfl,ha⟩:=Aa (show rowB [Oo] (ks.map Tr.g)=true from h2);have hf:(x==[]&&decide (n=0))=true:=h1;simp only[Bool.and_eq_true,decide_eq_true_eq] at hf;obtain rfl:=mf hf.1;obtain rfl:=hf.2;rw[ay,aQ] at hm;exact .list _ _ _ (zu m a (by omega) (hb2 a (by simp)) (by simpa using h3) ha)
   by_cases k19:k=19
   . subst k19;have hf:(aT C9 x&&decide (n=0))=true:=h1;simp only[Bool.and_eq_true,decide_eq_true_eq] at hf;obtain rfl:=hf.2;obtain rfl:=vO (show rowB [] (ks.map Tr.g)=true from h2);exact .big _ _ _ (lK hf.1 hxl)
   have h4:k=15\/k=16\/k=17\/k=18:=by omega
   have hf:(x==[]&&decide (n=0))=true:=by
    rcases h4 with rfl | rfl | rfl | rfl<;>exact h1
   have hr:rowB [] (ks.map Tr.g)=true:=by
    rcases h4 with rfl | rfl | rfl | rfl<;>exact h2
   simp only[Bool.and_eq_true,decide_eq_true_eq] at hf;obtain rfl:=mf hf.1;obtain rfl:=hf.2;obtain rfl:=vO hr;exact .word _ _ _ (by omega)
theorem UV {m:Nat} (ih:∀ t:Tr,t.n<=m->nB t->kW t=true->wE t.g=true->jC t):∀ ks:List Tr,Tr.ns ks<=m->(∀ t∈ks,nB t)->ks.all kW=true->(ks.map Tr.g).all wE=true->sG ks
 | [],_,_,_,_=>.nil
 | t::ts,hm,hb,h1,h2=>by
   rw[ay] at hm;rw[List.all_cons,Bool.and_eq_true] at h1;rw[List.map_cons,List.all_cons,Bool.and_eq_true] at h2;exact .cons _ _ (ih t (by omega) (hb t (by simp)) h1.1 h2.1) (UV ih ts (by omega) (fun u hu=>hb u (List.mem_cons_of_mem _ hu)) h1.2 h2.2)
theorem wO1 {k:Int} {x:Ng} (h:wO [k] x=true):x.k=k:=by simpa using h
theorem Rq:∀ (m:Nat) (t:Tr),t.n<=m->nB t->kW t=true->wE t.g=true->jC t
 | 0,t,hm,_,_,_=>by rw[mQ] at hm;omega
 | m+1,.nd k l c n x ks,hm,hnb,h,hk=>by
   have ih:=Rq m;obtain⟨h1,h2,h3⟩:=ni h;obtain⟨⟨hb1,hxl⟩,hb2⟩:=Dx hnb;have hkk:21<=k/\k<=32:=by simpa[ut,nz] using hk
   rw[iC] at hm;have dflt:(x==[]&&decide (n=0))=true->x=[]/\n=0:=fun hf=>by
    simp only[Bool.and_eq_true,decide_eq_true_eq] at hf;exact⟨mf hf.1,hf.2⟩
   have nmd:(aT o8 x&&decide (n=0))=true->rG x/\n=0:=fun hf=>by
    simp only[Bool.and_eq_true,decide_eq_true_eq] at hf;exact⟨jG hf.1 hxl,hf.2⟩
   have one:∀ a:Tr,ks=[a]->wE a.g=true->jC a:=fun a e ha=>by
    subst e;rw[ay,aQ] at hm;exact ih a (by omega) (hb2 a (by simp)) (by simpa using h3) ha
   have two:∀ a b:Tr,ks=[a,b]->(wE a.g=true->jC a)/\(wE b.g=true->jC b):=fun a b e=>by
    subst e;rw[ay,ay,aQ] at hm;simp only[List.all_cons,List.all_nil,Bool.and_true,Bool.and_eq_true] at h3;exact⟨ih a (by omega) (hb2 a (by simp)) h3.1,ih b (by omega) (hb2 b (by simp)) h3.2⟩
   have hcase:k=21\/k=22\/k=23\/k=24\/k=25\/k=26\/k=27\/k=28\/k=29\/k=30\/k=31\/k=32:=by omega
   rcases hcase with rfl | rfl | rfl | rfl | rfl | rfl | rfl | rfl | rfl | rfl | rfl | rfl
   . have hf:(x==[]&&leB 0 n)=true:=h1;simp only[Bool.and_eq_true,iJ] at hf;obtain rfl:=mf hf.1;obtain rfl:=vO (show rowB [] (ks.map Tr.g)=true from h2);exact .int _ _ _ ⟨hf.2,hb1⟩
   . have hf:(x==[]&&leB 0 n&&TM n 8388608)=true:=h1;simp only[Bool.and_eq_true,iJ,nI] at hf;obtain rfl:=mf hf.1.1;obtain rfl:=vO (show rowB [] (ks.map Tr.g)=true from h2);exact .comp _ _ _ ⟨hf.1.2,by omega⟩
   . have hf:decide (n=0)=true:=h1;obtain rfl:=of_decide_eq_true hf;obtain rfl:=vO (show rowB [] (ks.map Tr.g)=true from h2);exact .str _ _ _ hxl
   . have hf:(x==[]&&(decide (n=0)||decide (n=1)))=true:=h1;simp only[Bool.and_eq_true,Bool.or_eq_true,decide_eq_true_eq] at hf;obtain rfl:=mf hf.1;obtain rfl:=vO (show rowB [] (ks.map Tr.g)=true from h2);exact .bool _ _ _ hf.2
   . obtain⟨rfl,rfl⟩:=dflt h1;obtain rfl:=vO (show rowB [] (ks.map Tr.g)=true from h2);exact .nil _ _
   . obtain⟨hx,rfl⟩:=nmd h1;obtain rfl:=vO (show rowB [] (ks.map Tr.g)=true from h2);exact .name _ _ _ hx
   . obtain⟨hx,rfl⟩:=nmd h1;exact .call _ _ _ hx _ (UV ih ks (by omega) hb2 h3 h2)
   . obtain⟨rfl,rfl⟩:=dflt h1;obtain⟨a,b,e,ha,hb⟩:=D8 (show rowB [wE,wE] (ks.map Tr.g)=true from h2);have:=two a b e;subst e;exact .index _ _ _ _ (this.1 ha) (this.2 hb)
   . obtain⟨hx,rfl⟩:=nmd h1;obtain⟨a,e,ha⟩:=Aa (show rowB [wE] (ks.map Tr.g)=true from h2);have:=one a e ha;subst e;exact .dot _ _ _ hx _ this
   . have hf:(x==[]&&(decide (n=12)||decide (n=13)))=true:=h1;simp only[Bool.and_eq_true,Bool.or_eq_true,decide_eq_true_eq] at hf;obtain rfl:=mf hf.1;obtain⟨a,e,ha⟩:=Aa (show rowB [wE] (ks.map Tr.g)=true from h2);have:=one a e ha;subst e;exact .un _ _ _ hf.2 _ this
   . have hf:(x==[]&&((leB 1 n&&leB n 11)||decide (n=14)||decide (n=15)))=true:=h1;simp only[Bool.and_eq_true,Bool.or_eq_true,decide_eq_true_eq,iJ] at hf;obtain rfl:=mf hf.1;obtain⟨a,b,e,ha,hb⟩:=D8 (show rowB [wE,wE] (ks.map Tr.g)=true from h2);have:=two a b e;subst e;exact .bin _ _ _ (by omega) _ _ (this.1 ha) (this.2 hb)
   . obtain⟨rfl,rfl⟩:=dflt h1;have hr:(rowB [wO [19]] (ks.map Tr.g)||rowB [wO [20],wE] (ks.map Tr.g))=true:=h2;rw[Bool.or_eq_true] at hr;rcases hr with hr | hr
     . obtain⟨a,rfl,ha⟩:=Aa hr;have hw:=zu a.n a (Nat.le_refl _) (hb2 a (by simp)) (by simpa using h3) (by simp only[wO1 ha,ut];rfl);cases hw with
       | word k l c h=>
         have:=wO1 ha;simp only[nz] at this;omega
       | big l c x hg=>exact .make _ _ _ _ _ hg
       | list l c t h=>
         have:=wO1 ha;simp only[nz] at this;omega
     . obtain⟨a,b,e,ha,hb⟩:=D8 hr;have hB:=(two a b e).2 hb;subst e;have hw:=zu a.n a (Nat.le_refl _) (hb2 a (by simp)) (by simp only[List.all_cons,Bool.and_eq_true] at h3;exact h3.1) (by simp only[wO1 ha,ut];rfl);cases hw with
       | word k l c h=>
         have:=wO1 ha;simp only[nz] at this;omega
       | big l c x h=>
         have:=wO1 ha;simp only[nz] at this;omega
       | list l c t hg=>exact .makes _ _ _ _ _ hg _ hB
def iV:List Ng->List Ng->Bool
 | [],[]=>true
 | x::a,y::b=>(x.k==y.k&&x.z==y.z&&x.n==y.n&&x.x==y.x)&&iV a b
 | _,_=>false
theorem Hl:∀ {a b:List Ng},a.length≠b.length->iV a b=false
 | [],[],h=>absurd rfl h
 | [],_::_,_=>rfl
 | _::_,[],_=>rfl
 | x::a,y::b,h=>by rw[iV,Hl (fun e=>h (by simp[e])),Bool.and_false]
theorem Xk {a b c d:List Ng} (h1:iV a b=true) (h2:iV c d=true):iV (a++c) (b++d)=true:=by
 induction a generalizing b with
 | nil=>
   cases b with
   | nil=>exact h2
   | cons=>cases h1
 | cons x a ih=>
   cases b with
   | nil=>cases h1
   | cons y b=>
     rw[iV,Bool.and_eq_true] at h1;rw[List.cons_append,List.cons_append,iV,h1.1,ih h1.2];rfl
mutual
theorem zf:∀ t:Tr,iV t.gs t.bare.gs=true/\t.bare.n=t.n
 | .nd k l c n x ks=>by
   obtain⟨h1,h2⟩:=wI ks;rw[Tr.bare,nC,nC,iV,h1,h2,iC,iC,h2];simp
theorem wI:∀ ts:List Tr,iV (Tr.rP ts) (Tr.rP (bH ts))=true/\Tr.ns (bH ts)=Tr.ns ts
 | []=>⟨rfl,rfl⟩
 | t::ts=>by
   obtain⟨h1,h2⟩:=zf t;obtain⟨h3,h4⟩:=wI ts;rw[bH,eG,eG,ay,ay,h2,h4];exact⟨Xk h1 h3,rfl⟩
end
theorem Eb:∀ {a b:List Ng},iV a b=true->iV b a=true
 | [],[],_=>rfl
 | x::a,y::b,h=>by
   rw[iV,Bool.and_eq_true] at h⊢;simp only[Bool.and_eq_true,beq_iff_eq] at h⊢;exact⟨⟨⟨⟨h.1.1.1.1.symm,h.1.1.1.2.symm⟩,h.1.1.2.symm⟩,h.1.2.symm⟩,Eb h.2⟩
theorem Ag:∀ {a b c:List Ng},iV a b=true->iV b c=true->iV a c=true
 | [],[],_,_,h=>h
 | x::a,y::b,[],_,h=>h
 | x::a,y::b,z::c,h,h'=>by
   rw[iV,Bool.and_eq_true] at h h'⊢;simp only[Bool.and_eq_true,beq_iff_eq] at h h'⊢;exact⟨⟨⟨⟨h.1.1.1.1.trans h'.1.1.1.1,h.1.1.1.2.trans h'.1.1.1.2⟩,h.1.1.2.trans h'.1.1.2⟩,h.1.2.trans h'.1.2⟩,Ag h.2 h'.2⟩
theorem Jo {t u:Tr} (h:t.bare=u.bare):iV t.gs u.gs=true:=by
 have h1:=(zf t).1;rw[h] at h1;exact Ag h1 (Eb (zf u).1)
section
attribute [local go_sem] bg bf aC aj au aI aU aH ax says_again
def FK:Fm:=(.need (.not (.eqI (.len (.x 0)) (.c 0))) (.and (.le (.c 0) (.c 0)) (.lt (.c 0) (.len (.x 0))))
 (.need (.and (.not (.eqI (.len (.x 0)) (.c 0))) (.le (.c 48) (.at (.x 0) (.c 0)))) (.and (.le (.c 0) (.c 0)) (.lt (.c 0) (.len (.x 0))))
 (.ite (.or (.eqI (.len (.x 0)) (.c 0)) (.and (.le (.c 48) (.at (.x 0) (.c 0))) (.le (.at (.x 0) (.c 0)) (.c 57))))
 (.ret (.p (.one (.b (.c false)))))
 (.C 135 [.S 0,(.I (.c 0))] (.tup [.K 1 2 3 4 1,.J 5,.J 6]) ⟨6,0,1,0,0,0⟩
 (.ret (.p (.one (.b (.and (.and (.eqI (.x 6) (.c 0)) (.eqI (.x 5) (.len (.x 0)))) (.eqI (.x 1) (.x 0)))))))))))
theorem PU:aZ ⟨true,[]⟩ Tryz.prog (fun l=>([]:List bK).getD l ⟨[],[],[]⟩) Tryz.f101=FK:=by kernel_rfl
theorem WJ:az Tryz.prog .zero Tryz.f101.params.toList=some ([.S 0,(.one (.U 0))],⟨1,0,1,0,0,0⟩):=by kernel_rfl
def CO:Fm:=(.C 101 [.S 0,(.one (.i .u8 (.c 1)))] (.p (.B 0)) ⟨0,1,0,0,0,0⟩
 (.ret (.p (.B 0))))
theorem ML:aZ ⟨true,[]⟩ Tryz.prog (fun l=>([]:List bK).getD l ⟨[],[],[]⟩) Tryz.f64=CO:=by kernel_rfl
theorem QS:az Tryz.prog .zero Tryz.f64.params.toList=some ([.S 0],⟨0,0,1,0,0,0⟩):=by kernel_rfl
def zO:Fm:=(.C 101 [.S 0,(.one (.i .u8 (.c 2)))] (.p (.B 0)) ⟨0,1,0,0,0,0⟩
 (.ret (.p (.B 0))))
theorem IL:aZ ⟨true,[]⟩ Tryz.prog (fun l=>([]:List bK).getD l ⟨[],[],[]⟩) Tryz.f63=zO:=by kernel_rfl
theorem NH:az Tryz.prog .zero Tryz.f63.params.toList=some ([.S 0],⟨0,0,1,0,0,0⟩):=by kernel_rfl
theorem UQ {α:Type} {p:α->Bool}:∀ {l:List α},(∀ c∈l,p c=true)->l.takeWhile p=l
 | [],_=>rfl
 | a::l,h=>by rw[List.takeWhile_cons,if_pos (h a (by simp)),UQ (fun c hc=>h c (by simp[hc]))]
theorem aaT {p:Int->Bool} {s:List UInt8}:rn p s 0=s.length↔∀ c∈s,p c.toNat=true:=by
 unfold rn;rw[List.drop_zero];constructor
 . intro h c hc;have e:=(List.takeWhile_sublist (l:=s) (fun c:UInt8=>p c.toNat)).eq_of_length h;rw[<- e] at hc;have:=List.all_eq_true.1 (List.all_takeWhile (p:=fun c:UInt8=>p c.toNat) (l:=s)) c hc;exact this
 . intro h;rw[UQ (p:=fun c:UInt8=>p c.toNat) h]
def EP (k:Int) (s:List UInt8):Bool:=if k=1 then aT o8 s else aT C9 s
theorem UI (s:List UInt8):sub s 0 s.length=s:=by unfold sub;simp
theorem Nk {k:Int} (hk:k=1\/k=2) {s:List UInt8} (_h0:s≠[]) (hl:s.length<=100000):((one s 0).f=0/\(one s 0).e=s.length/\(one s 0).k=k)↔EP k s=true:=by
 have hn:EP k s=true↔(if k=1 then rG s else sF s):=by
  unfold EP;split
  . exact⟨fun h=>jG h (by omega),mO⟩
  . exact⟨fun h=>lK h (by omega),vC⟩
 rw[hn];by_cases h12:jh (bt s 0)=1\/jh (bt s 0)=2
 . have ho:one s 0=⟨0,kS (bt s 0) (sub s 0 (0+rn inB s 0)),sub s 0 (0+rn inB s 0),0,0+rn inB s 0⟩:=by unfold one;rw[if_pos h12]
   rw[ho];simp only[Nat.zero_add,true_and];constructor
   . rintro⟨he,hkk⟩;rw[he,UI] at hkk;have hall:=aaT.1 he;unfold kS at hkk;split
     . rename_i hk1;subst hk1;split at hkk
       . omega
       . rename_i h2;split at hkk
         . omega
         . rename_i hw;exact⟨by omega,hall,by simpa using hw,by omega⟩
     . split at hkk
       . rename_i h2;exact⟨h2,hall,by omega⟩
       . split at hkk<;>omega
   . intro h;have hall:∀ c∈s,inB c.toNat=true:=by
      split at h
      . exact h.2.1
      . exact h.2.1
     have he:=aaT.2 hall;refine⟨he,?_⟩;rw[he,UI];unfold kS;split at h
     . rename_i hk1;obtain⟨e1,_,e2,_⟩:=h;rw[if_neg (by omega),e2,hk1];rfl
     . rw[if_pos h.1];omega
 . have hno:¬ (if k=1 then rG s else sF s):=by
    intro h;split at h
    . exact h12 (.inl h.1)
    . exact h12 (.inr h.1)
   refine⟨fun h=>absurd h ?_,fun h=>absurd h hno⟩;rintro⟨h1,_,h3⟩;unfold one at h1 h3;rw[if_neg h12] at h1 h3;split at h3
   . rename_i h4;rw[if_pos h4] at h1;unfold nm qc at h1 h3
     revert h1 h3
     repeat' split
     all_goals (intro h1 h3;simp only at h1 h3;omega)
   . rename_i h4;rw[if_neg h4] at h1;split at h3
     . rename_i h5;rw[if_pos h5] at h1;cases hq:Bg (s.drop 0) with
       | none=>rw[hq] at h1;simp at h1
       | some r=>rw[hq] at h3;simp at h3;omega
     . rename_i h5;rw[if_neg h5] at h1;split at h3
       . rename_i h6;rw[if_pos h6] at h1;simp at h1
       . simp at h3;omega
def xg:Ct Tryz.prog where
 f:=101
 spec:=fun args h φ=>∃ s k,args=[.string (B s),.int .u8 k]/\(k=1\/k=2)/\s.length<=100000/\φ (.bool (EP k s)) h
 ok:=by
  rintro args h φ w ⟨s,k,rfl,hk,hl,hφ⟩ hH;refine dh (bn Tryz.func101 PU WJ [Yg] (fun v k=>∃ k',dA k' k/\φ v k') (bP) (bu) ⟨[k],[],[s],[],[],[],h,df⟩ ⟨rfl,rfl,rfl,rfl,rfl,rfl⟩ af ?_ w hH rfl);generalize hE:(⟨aG _,_,_,_⟩:Env)=E;have sbv:E.spec 135=(Yg).spec:=by rw[<- hE];rfl
  have ep:E.post=(fun v k=>∃ k',dA k' k/\φ v k'):=by rw[<- hE]
  clear hE;unfold FK;have no:∀ b:Bool,b=false->EP k s=false->φ (.bool b) h:=by
   intro b h1 h2;rw[h1,<- h2];exact hφ
  by_cases h0:s=[]
  . subst h0;rw[aC];refine⟨by simp[go_sem],?_⟩;rw[ai];refine⟨by simp[go_sem],?_⟩;rw[ah,if_pos (by simp[go_sem])];rw[ak,ep];refine⟨h,fun _ _ h=>h,no _ rfl ?_⟩;unfold EP;split<;>rfl
  have hpos:0<s.length:=List.length_pos_iff.2 h0;have hz:¬ (s.length:Int)=0:=by omega
  rw[aC];refine⟨by simp[go_sem];omega,?_⟩;rw[ai];refine⟨by simp[go_sem];omega,?_⟩;have hb:(SE.x 0).den ⟨[k],[],[s],[],[],[],h,df⟩=s:=rfl;by_cases hd:48<=bt s 0/\bt s 0<=57
  . rw[ah,if_pos (by simp[go_sem];right;exact hd)];rw[ak,ep];refine⟨h,fun _ _ h=>h,no _ rfl ?_⟩;cases hq:EP k s with
    | false=>rfl
    | true=>
      exfalso;unfold EP at hq;have hkd:jh (bt s 0)=1\/jh (bt s 0)=2:=by
       split at hq
       . exact .inl (jG hq (by omega)).1
       . exact .inr (lK hq (by omega)).1
      unfold jh at hkd;rw[if_neg (by omega),if_neg (by omega),if_pos (by omega)] at hkd;omega
  rw[ah,if_neg (by simp[go_sem];exact⟨h0,fun _=>by omega⟩)];rw[ag,sbv];refine⟨s,0,rfl,hpos,hl,(by unfold jh;split<;>(try split)<;>(try split)<;>omega),?_⟩;have hp:=Nk hk h0 hl;split
  . rename_i hf;rw[hf] at hp;refine rR ⟨[(one s 0).k,0,0,(one s 0).n,((one s 0).e:Nat),0],[],[(one s 0).x],[],[],[]⟩ rfl af rfl ?_;rw[ak,ep];refine⟨h,fun _ _ h=>h,?_⟩;have e:EP k s=((((one s 0).e:Nat):Int)==((s.length:Nat):Int)&&(one s 0).k==k):=by
     rw[Bool.eq_iff_iff,<- hp];simp;omega
    rw[e] at hφ;simpa[go_sem] using hφ
  . rename_i hf;intro kk;refine rR ⟨[kk,0,0,0,0,(one s 0).f],[],[[]],[],[],[]⟩ rfl af rfl ?_;rw[ak,ep];refine⟨h,fun _ _ h=>h,no _ (by simp[go_sem,hf]) ?_⟩;cases hq:EP k s with
    | false=>rfl
    | true=>exact absurd (hp.2 hq).1 hf
def RV:Ct Tryz.prog where
 f:=64
 spec:=fun args h φ=>∃ s,args=[.string (B s)]/\s.length<=100000/\φ (.bool (aT o8 s)) h
 ok:=by
  rintro args h φ w ⟨s,rfl,hl,hφ⟩ hH;refine bn Tryz.func64 ML QS [xg] φ (bP) (bu) ⟨[],[],[s],[],[],[],h,df⟩ ⟨rfl,rfl,rfl,rfl,rfl,rfl⟩ af ?_ w hH rfl;generalize hE:(⟨aG _,_,_,_⟩:Env)=E;have sbw:E.spec 101=(xg).spec:=by rw[<- hE];rfl
  have ep:E.post=φ:=by rw[<- hE]
  clear hE;unfold CO;rw[au,if_pos (by rfl),sbw];refine⟨s,1,rfl,.inl rfl,hl,?_⟩;refine rR ⟨[],[aT o8 s],[],[],[],[]⟩ rfl af rfl ?_;rw[ak,ep];exact hφ
def Ko:Ct Tryz.prog where
 f:=63
 spec:=fun args h φ=>∃ s,args=[.string (B s)]/\s.length<=100000/\φ (.bool (aT C9 s)) h
 ok:=by
  rintro args h φ w ⟨s,rfl,hl,hφ⟩ hH;refine bn Tryz.func63 IL NH [xg] φ (bP) (bu) ⟨[],[],[s],[],[],[],h,df⟩ ⟨rfl,rfl,rfl,rfl,rfl,rfl⟩ af ?_ w hH rfl;generalize hE:(⟨aG _,_,_,_⟩:Env)=E;have sbw:E.spec 101=(xg).spec:=by rw[<- hE];rfl
  have ep:E.post=φ:=by rw[<- hE]
  clear hE;unfold zO;rw[au,if_pos (by rfl),sbw];refine⟨s,2,rfl,.inr rfl,hl,?_⟩;refine rR ⟨[],[aT C9 s],[],[],[],[]⟩ rfl af rfl ?_;rw[ak,ep];exact hφ
def LJ:Fm:=(.ite (.eqI (.x 0) (.c 14))
 (.ret (.p (.one (.i .u8 (.c 48)))))
 (.ite (.and (.le (.c 15) (.x 0)) (.le (.x 0) (.c 20)))
 (.ret (.p (.one (.i .u8 (.c 116)))))
 (.ite (.and (.le (.c 21) (.x 0)) (.le (.x 0) (.c 32)))
 (.ret (.p (.one (.i .u8 (.c 101)))))
 (.ite (.and (.le (.c 7) (.x 0)) (.le (.x 0) (.c 13)))
 (.ret (.p (.one (.i .u8 (.c 115)))))
 (.ite (.eqI (.x 0) (.c 6))
 (.ret (.p (.one (.i .u8 (.c 98)))))
 (.ite (.eqI (.x 0) (.c 5))
 (.ret (.p (.one (.i .u8 (.c 112)))))
 (.ite (.eqI (.x 0) (.c 3))
 (.ret (.p (.one (.i .u8 (.c 102)))))
 (.ite (.or (.eqI (.x 0) (.c 2)) (.eqI (.x 0) (.c 4)))
 (.ret (.p (.one (.i .u8 (.c 100)))))
 (.ret (.p (.one (.i .u8 (.c 45)))))))))))))
theorem VU:aZ ⟨true,[]⟩ Tryz.prog (fun l=>([]:List bK).getD l ⟨[],[],[]⟩) Tryz.f65=LJ:=by kernel_rfl
theorem aao:az Tryz.prog .zero Tryz.f65.params.toList=some ([(.agg [.U 0,.J 1,.J 2,.J 3,.J 4,(.s (.x 0))])],⟨5,0,1,0,0,0⟩):=by kernel_rfl
def LG:Fm:=(.loop 0 ⟨[(.c 0)],[(.c false)],[],[],[],[]⟩
 (.ite (.lt (.x 1) (.len (.x 0)))
 (.N (.and (.le (.c 0) (.x 1)) (.lt (.x 1) (.len (.x 0))))
 (.ite (.not (.eqI (.at (.x 0) (.x 1)) (.x 0)))
 (.ret (.p (.one (.b (.c false)))))
 (.N (.R (.add (.x 1) (.c 1)))
 (.again 0 ⟨1,0,1,0,0,0⟩ ⟨2,1,1,0,0,0⟩ ⟨[(.add (.x 1) (.c 1))],[(.x 0)],[],[],[],[]⟩))))
 (.ret (.p (.one (.b (.c true)))))))
theorem VS:aZ ⟨true,[]⟩ Tryz.prog (fun l=>([⟨[4,5],[6,7,8,9,12,13,14,15,16,10,11],[]⟩]:List bK).getD l ⟨[],[],[]⟩) Tryz.f66=LG:=by kernel_rfl
theorem aam:az Tryz.prog .zero Tryz.f66.params.toList=some ([.S 0,(.one (.U 0))],⟨1,0,1,0,0,0⟩):=by kernel_rfl
def FI:Fm:=(.ite (.eqI (.x 0) (.c 2))
 (.C 63 [.S 0] (.p (.B 0)) ⟨0,1,0,0,0,0⟩
 (.ret (.p (.one (.b (.and (.x 0) (.eqI (.x 4) (.c 0))))))))
 (.ite (.eqI (.x 0) (.c 19))
 (.C 63 [.S 0] (.p (.B 0)) ⟨0,1,0,0,0,0⟩
 (.ret (.p (.one (.b (.and (.x 0) (.eqI (.x 4) (.c 0))))))))
 (.ite (.eqI (.x 0) (.c 3))
 (.C 64 [.S 0] (.p (.B 0)) ⟨0,1,0,0,0,0⟩
 (.ret (.p (.one (.b (.and (.x 0) (.eqI (.x 4) (.c 0))))))))
 (.ite (.eqI (.x 0) (.c 5))
 (.C 64 [.S 0] (.p (.B 0)) ⟨0,1,0,0,0,0⟩
 (.ret (.p (.one (.b (.and (.x 0) (.eqI (.x 4) (.c 0))))))))
 (.ite (.eqI (.x 0) (.c 7))
 (.C 64 [.S 0] (.p (.B 0)) ⟨0,1,0,0,0,0⟩
 (.ret (.p (.one (.b (.and (.x 0) (.eqI (.x 4) (.c 0))))))))
 (.ite (.eqI (.x 0) (.c 26))
 (.C 64 [.S 0] (.p (.B 0)) ⟨0,1,0,0,0,0⟩
 (.ret (.p (.one (.b (.and (.x 0) (.eqI (.x 4) (.c 0))))))))
 (.ite (.eqI (.x 0) (.c 27))
 (.C 64 [.S 0] (.p (.B 0)) ⟨0,1,0,0,0,0⟩
 (.ret (.p (.one (.b (.and (.x 0) (.eqI (.x 4) (.c 0))))))))
 (.ite (.eqI (.x 0) (.c 29))
 (.C 64 [.S 0] (.p (.B 0)) ⟨0,1,0,0,0,0⟩
 (.ret (.p (.one (.b (.and (.x 0) (.eqI (.x 4) (.c 0))))))))
 (.ite (.eqI (.x 0) (.c 4))
 (.C 64 [.S 0] (.p (.B 0)) ⟨0,1,0,0,0,0⟩
 (.ret (.p (.B 0))))
 (.ite (.eqI (.x 0) (.c 23))
 (.ret (.p (.one (.b (.eqI (.x 4) (.c 0))))))
 (.ite (.not (.eqS (.x 0) (.c [])))
 (.ret (.p (.one (.b (.c false)))))
 (.ite (.eqI (.x 0) (.c 21))
 (.ret (.p (.one (.b (.le (.c 0) (.x 4))))))
 (.ite (.eqI (.x 0) (.c 22))
 (.ret (.p (.one (.b (.and (.le (.c 0) (.x 4)) (.lt (.x 4) (.c 8388608)))))))
 (.ite (.eqI (.x 0) (.c 24))
 (.ret (.p (.one (.b (.or (.eqI (.x 4) (.c 0)) (.eqI (.x 4) (.c 1)))))))
 (.ite (.eqI (.x 0) (.c 30))
 (.ret (.p (.one (.b (.or (.eqI (.x 4) (.c 12)) (.eqI (.x 4) (.c 13)))))))
 (.ite (.eqI (.x 0) (.c 31))
 (.ret (.p (.one (.b (.or (.or (.and (.le (.c 1) (.x 4)) (.le (.x 4) (.c 11))) (.eqI (.x 4) (.c 14))) (.eqI (.x 4) (.c 15)))))))
 (.ret (.p (.one (.b (.eqI (.x 4) (.c 0))))))))))))))))))))))
theorem PP:aZ ⟨true,[1000005]⟩ Tryz.prog (fun l=>([]:List bK).getD l ⟨[],[],[]⟩) Tryz.f36=FI:=by kernel_rfl
theorem WH:az Tryz.prog .zero Tryz.f36.params.toList=some ([(.agg [.U 0,.J 1,.J 2,.J 3,.J 4,(.s (.x 0))])],⟨5,0,1,0,0,0⟩):=by kernel_rfl
def sortB (x:Ng):Int:=if x.k=14 then 48 else if 15<=x.k/\x.k<=20 then 116 else if 21<=x.k/\x.k<=32 then 101 else if 7<=x.k/\x.k<=13 then 115 else if x.k=6 then 98 else if x.k=5 then 112 else if x.k=3 then 102 else if x.k=2\/x.k=4 then 100 else 45
def RZ:Ct Tryz.prog where
 f:=65
 spec:=fun args h φ=>∃ x:Ng,args=[.agg x.cs.toArray]/\φ (.int .u8 (sortB x)) h
 ok:=by
  rintro args h φ w ⟨x,rfl,hφ⟩ hH;refine bn Tryz.func65 VU aao [] φ (bP) (bu) ⟨[x.k,x.l,x.c,x.z,x.n],[],[x.x],[],[],[],h,df⟩ ⟨rfl,rfl,rfl,rfl,rfl,rfl⟩ af ?_ w hH rfl;generalize hE:(⟨aG _,_,_,_⟩:Env)=E;have ep:E.post=φ:=by rw[<- hE]
  clear hE;unfold LJ;unfold sortB at hφ;by_cases c0:x.k=14
  . rw[if_pos c0] at hφ;rw[aj,if_pos (by simpa[go_sem] using c0),ae,ax,ep];exact hφ
  rw[if_neg c0] at hφ;rw[aj,if_neg (by simpa[go_sem] using c0)];by_cases c1:15<=x.k/\x.k<=20
  . rw[if_pos c1] at hφ;rw[ah,if_pos (by simpa[go_sem] using c1),ae,ax,ep];exact hφ
  rw[if_neg c1] at hφ;rw[ah,if_neg (by simpa[go_sem] using c1)];by_cases c2:21<=x.k/\x.k<=32
  . rw[if_pos c2] at hφ;rw[ah,if_pos (by simpa[go_sem] using c2),ae,ax,ep];exact hφ
  rw[if_neg c2] at hφ;rw[ah,if_neg (by simpa[go_sem] using c2)];by_cases c3:7<=x.k/\x.k<=13
  . rw[if_pos c3] at hφ;rw[ah,if_pos (by simpa[go_sem] using c3),ae,ax,ep];exact hφ
  rw[if_neg c3] at hφ;rw[ah,if_neg (by simpa[go_sem] using c3)];by_cases c4:x.k=6
  . rw[if_pos c4] at hφ;rw[ah,if_pos (by simpa[go_sem] using c4),ae,ax,ep];exact hφ
  rw[if_neg c4] at hφ;rw[ah,if_neg (by simpa[go_sem] using c4)];by_cases c5:x.k=5
  . rw[if_pos c5] at hφ;rw[ah,if_pos (by simpa[go_sem] using c5),ae,ax,ep];exact hφ
  rw[if_neg c5] at hφ;rw[ah,if_neg (by simpa[go_sem] using c5)];by_cases c6:x.k=3
  . rw[if_pos c6] at hφ;rw[ah,if_pos (by simpa[go_sem] using c6),ae,ax,ep];exact hφ
  rw[if_neg c6] at hφ;rw[ah,if_neg (by simpa[go_sem] using c6)];by_cases c7:x.k=2\/x.k=4
  . rw[if_pos c7] at hφ;rw[ah,if_pos (by simpa[go_sem] using c7),ae,ax,ep];exact hφ
  rw[if_neg c7] at hφ;rw[ah,if_neg (by simpa[go_sem] using c7)];rw[ak,ep];exact hφ
def onlyB (s:List UInt8) (c:Int):Bool:=s.all fun d=>decide ((d.toNat:Int)=c)
def Uj (h:Hp) (s:List UInt8) (c:Int) (_:Nat) (C:Ctx):Prop:=
 ∃ (j:Nat) (b:Bool),C=⟨[c,j],[b],[s],[],[],[],h,df⟩/\j<=s.length/\onlyB s c=onlyB (s.drop j) c
def RX:Ct Tryz.prog where
 f:=66
 spec:=fun args h φ=>∃ s c,args=[.string (B s),.int .u8 c]/\s.length<=1000000/\φ (.bool (onlyB s c)) h
 ok:=by
  rintro args h φ w ⟨s,c,rfl,hl,hφ⟩ hH;refine dh (bn Tryz.func66 VS aam [] (fun v k=>∃ k',dA k' k/\φ v k') (Uj h s c) (fun _ C=>((s.length:Int) - C.i.getD 1 0).toNat) ⟨[c],[],[s],[],[],[],h,df⟩ ⟨rfl,rfl,rfl,rfl,rfl,rfl⟩ af ?_ w hH rfl);generalize hE:(⟨aG _,_,_,_⟩:Env)=E;have ep:E.post=(fun v k=>∃ k',dA k' k/\φ v k'):=by rw[<- hE]
  have ei:E.inv=(Uj h s c):=by rw[<- hE]
  have em:E.meas=(fun _ C=>((s.length:Int) - C.i.getD 1 0).toNat):=by rw[<- hE]
  clear hE;unfold LG;refine bI ?_ ?_
  . rw[ei];exact⟨0,false,rfl,Nat.zero_le _,by rw[List.drop_zero]⟩
  rw[ei,em];rintro i bbs ss v ll pp hh M ⟨j,b,hC,hj,hF⟩ hM;cases hC;have hM':M 0=((s.length:Int) - j).toNat:=hM;clear hM;by_cases hjl:j<s.length;rotate_left
  . rw[aj,if_neg (by simpa[go_sem] using hjl)];rw[ak,ep];rw[List.drop_eq_nil_of_le (by omega)] at hF;rw[hF] at hφ;exact⟨h,fun _ _ h=>h,hφ⟩
  rw[List.drop_eq_getElem_cons hjl] at hF;have hb:=rM s j hjl;rw[aj,if_pos (by simpa[go_sem] using hjl)];rw[ai];refine⟨by simp[go_sem]<;>omega,?_⟩;by_cases hc:bt s j=c;rotate_left
  . rw[ah,if_pos (by simpa[go_sem] using hc)];rw[ak,ep];rw[hF] at hφ;refine⟨h,fun _ _ h=>h,?_⟩;have e:onlyB (s[j]::s.drop (j+1)) c=false:=by
     unfold onlyB;rw[List.all_cons,decide_eq_false (by omega)];rfl
    rw[e] at hφ;exact hφ
  rw[ah,if_neg (by simpa[go_sem] using hc)];rw[ai];refine⟨by simp[go_sem]<;>omega,?_⟩;rw[ae,says_again,ei,em];refine⟨⟨j+1,b,rfl,hjl,?_⟩,?_⟩
  . rw[hF];unfold onlyB;rw[List.all_cons,decide_eq_true (by omega),Bool.true_and]
  . show (((s.length:Int) - (j+1:Nat)).toNat)<M 0;omega
def uI (x:Ng):Bool:=if x.k=4 then aT o8 x.x else fieldsB x
theorem cZ {E:Env} {C:Ctx} {b:BE} {t e:Fm} (h:b.den C=true) (k:Then E t C):Then E (.ite b t e) C:=by rw[ah,if_pos h];exact k
theorem cO {E:Env} {C:Ctx} {b:BE} {t e:Fm} (h:¬ b.den C=true) (k:Then E e C):Then E (.ite b t e) C:=by rw[ah,if_neg h];exact k
theorem Zp (k:Int):k=2\/k=19\/k=3\/k=5\/k=7\/k=26\/k=27\/k=29\/k=4\/k=21\/k=22\/k=23\/k=24\/k=30\/k=31\/(¬ k=2/\¬ k=19/\¬ k=3/\¬ k=5/\¬ k=7/\¬ k=26/\¬ k=27/\¬ k=29/\¬ k=4/\¬ k=21/\¬ k=22/\¬ k=23/\¬ k=24/\¬ k=30/\¬ k=31):=by omega
set_option maxHeartbeats 8000000 in
def J9:Ct Tryz.prog where
 f:=36
 spec:=fun args h φ=>∃ x:Ng,args=[.agg x.cs.toArray]/\x.x.length<=100000/\φ (.bool (uI x)) h
 ok:=by
  rintro args h φ w ⟨⟨k,l,c,z,n,s⟩,rfl,hl,hφ⟩ hH;refine bn Tryz.func36 PP WH [RV,Ko] φ (bP) (bu) ⟨[k,l,c,z,n],[],[s],[],[],[],h,df⟩ ⟨rfl,rfl,rfl,rfl,rfl,rfl⟩ af ?_ w hH rfl;generalize hE:(⟨aG _,_,_,_⟩:Env)=E;have sbx:E.spec 64=(RV).spec:=by rw[<- hE];rfl
  have sby:E.spec 63=(Ko).spec:=by rw[<- hE];rfl
  have ep:E.post=φ:=by rw[<- hE]
  clear hE;unfold FI;unfold uI fieldsB at hφ;simp only at hφ hl;rw[<- ae];have fin:∀ (C:Ctx) (e:BE) (v:Bool),C.h=h->φ (.bool v) h->e.den C=v->Then E (.ret (.p (.one (.b e)))) C:=by
   intro C e v hC hv he;rw[ak,ep];simp only[VE.den,PE.den,CE.den];rw[hC,he];exact hv
  rcases Zp k with rfl | rfl | rfl | rfl | rfl | rfl | rfl | rfl | rfl | rfl | rfl | rfl | rfl | rfl | rfl | ⟨n2,n19,n3,n5,n7,n26,n27,n29,n4,n21,n22,n23,n24,n30,n31⟩
  . repeat (first | (refine cZ ?_ ?_;focus (simp[go_sem]<;>fail)) | (refine cO ?_ ?_;focus (simp[go_sem]<;>fail)) | fail)
    rw[ag,sby];refine⟨s,rfl,hl,?_⟩;refine rR ⟨[],[aT C9 s],[],[],[],[]⟩ rfl af rfl ?_;refine fin _ _ _ rfl hφ ?_
    first | (simp[go_sem]<;>fail) | (simp[go_sem];rfl)
  . repeat (first | (refine cZ ?_ ?_;focus (simp[go_sem]<;>fail)) | (refine cO ?_ ?_;focus (simp[go_sem]<;>fail)) | fail)
    rw[ag,sby];refine⟨s,rfl,hl,?_⟩;refine rR ⟨[],[aT C9 s],[],[],[],[]⟩ rfl af rfl ?_;refine fin _ _ _ rfl hφ ?_
    first | (simp[go_sem]<;>fail) | (simp[go_sem];rfl)
  . repeat (first | (refine cZ ?_ ?_;focus (simp[go_sem]<;>fail)) | (refine cO ?_ ?_;focus (simp[go_sem]<;>fail)) | fail)
    rw[ag,sbx];refine⟨s,rfl,hl,?_⟩;refine rR ⟨[],[aT o8 s],[],[],[],[]⟩ rfl af rfl ?_;refine fin _ _ _ rfl hφ ?_
    first | (simp[go_sem]<;>fail) | (simp[go_sem];rfl)
  . repeat (first | (refine cZ ?_ ?_;focus (simp[go_sem]<;>fail)) | (refine cO ?_ ?_;focus (simp[go_sem]<;>fail)) | fail)
    rw[ag,sbx];refine⟨s,rfl,hl,?_⟩;refine rR ⟨[],[aT o8 s],[],[],[],[]⟩ rfl af rfl ?_;refine fin _ _ _ rfl hφ ?_
    first | (simp[go_sem]<;>fail) | (simp[go_sem];rfl)
  . repeat (first | (refine cZ ?_ ?_;focus (simp[go_sem]<;>fail)) | (refine cO ?_ ?_;focus (simp[go_sem]<;>fail)) | fail)
    rw[ag,sbx];refine⟨s,rfl,hl,?_⟩;refine rR ⟨[],[aT o8 s],[],[],[],[]⟩ rfl af rfl ?_;refine fin _ _ _ rfl hφ ?_
    first | (simp[go_sem]<;>fail) | (simp[go_sem];rfl)
  . repeat (first | (refine cZ ?_ ?_;focus (simp[go_sem]<;>fail)) | (refine cO ?_ ?_;focus (simp[go_sem]<;>fail)) | fail)
    rw[ag,sbx];refine⟨s,rfl,hl,?_⟩;refine rR ⟨[],[aT o8 s],[],[],[],[]⟩ rfl af rfl ?_;refine fin _ _ _ rfl hφ ?_
    first | (simp[go_sem]<;>fail) | (simp[go_sem];rfl)
  . repeat (first | (refine cZ ?_ ?_;focus (simp[go_sem]<;>fail)) | (refine cO ?_ ?_;focus (simp[go_sem]<;>fail)) | fail)
    rw[ag,sbx];refine⟨s,rfl,hl,?_⟩;refine rR ⟨[],[aT o8 s],[],[],[],[]⟩ rfl af rfl ?_;refine fin _ _ _ rfl hφ ?_
    first | (simp[go_sem]<;>fail) | (simp[go_sem];rfl)
  . repeat (first | (refine cZ ?_ ?_;focus (simp[go_sem]<;>fail)) | (refine cO ?_ ?_;focus (simp[go_sem]<;>fail)) | fail)
    rw[ag,sbx];refine⟨s,rfl,hl,?_⟩;refine rR ⟨[],[aT o8 s],[],[],[],[]⟩ rfl af rfl ?_;refine fin _ _ _ rfl hφ ?_
    first | (simp[go_sem]<;>fail) | (simp[go_sem];rfl)
  . repeat (first | (refine cZ ?_ ?_;focus (simp[go_sem]<;>fail)) | (refine cO ?_ ?_;focus (simp[go_sem]<;>fail)) | fail)
    rw[ag,sbx];refine⟨s,rfl,hl,?_⟩;refine rR ⟨[],[aT o8 s],[],[],[],[]⟩ rfl af rfl ?_;refine fin _ _ _ rfl hφ ?_
    first | (simp[go_sem]<;>fail) | (simp[go_sem];rfl)
  . by_cases hs:s=[]
    . subst hs
      repeat (first | (refine cZ ?_ ?_;focus (simp[go_sem]<;>fail)) | (refine cO ?_ ?_;focus (simp[go_sem]<;>fail)) | fail)
      refine fin _ _ _ rfl hφ ?_
      first | (simp[go_sem]<;>fail) | (simp[go_sem];rfl)
    . repeat (first | (refine cZ ?_ ?_;focus (simp[go_sem,hs]<;>fail)) | (refine cO ?_ ?_;focus (simp[go_sem]<;>fail)) | fail)
      refine fin _ _ _ rfl hφ ?_
      first | (simp[go_sem,hs]<;>fail) | (simp[go_sem,hs];rfl)
  . by_cases hs:s=[]
    . subst hs
      repeat (first | (refine cZ ?_ ?_;focus (simp[go_sem]<;>fail)) | (refine cO ?_ ?_;focus (simp[go_sem]<;>fail)) | fail)
      refine fin _ _ _ rfl hφ ?_
      first | (simp[go_sem]<;>fail) | (simp[go_sem];rfl)
    . repeat (first | (refine cZ ?_ ?_;focus (simp[go_sem,hs]<;>fail)) | (refine cO ?_ ?_;focus (simp[go_sem]<;>fail)) | fail)
      refine fin _ _ _ rfl hφ ?_
      first | (simp[go_sem,hs]<;>fail) | (simp[go_sem,hs];rfl)
  . repeat (first | (refine cZ ?_ ?_;focus (simp[go_sem]<;>fail)) | (refine cO ?_ ?_;focus (simp[go_sem]<;>fail)) | fail)
    refine fin _ _ _ rfl hφ ?_
    first | (simp[go_sem]<;>fail) | (simp[go_sem];rfl)
  . by_cases hs:s=[]
    . subst hs
      repeat (first | (refine cZ ?_ ?_;focus (simp[go_sem]<;>fail)) | (refine cO ?_ ?_;focus (simp[go_sem]<;>fail)) | fail)
      refine fin _ _ _ rfl hφ ?_
      first | (simp[go_sem]<;>fail) | (simp[go_sem];rfl)
    . repeat (first | (refine cZ ?_ ?_;focus (simp[go_sem,hs]<;>fail)) | (refine cO ?_ ?_;focus (simp[go_sem]<;>fail)) | fail)
      refine fin _ _ _ rfl hφ ?_
      first | (simp[go_sem,hs]<;>fail) | (simp[go_sem,hs];rfl)
  . by_cases hs:s=[]
    . subst hs
      repeat (first | (refine cZ ?_ ?_;focus (simp[go_sem]<;>fail)) | (refine cO ?_ ?_;focus (simp[go_sem]<;>fail)) | fail)
      refine fin _ _ _ rfl hφ ?_
      first | (simp[go_sem]<;>fail) | (simp[go_sem];rfl)
    . repeat (first | (refine cZ ?_ ?_;focus (simp[go_sem,hs]<;>fail)) | (refine cO ?_ ?_;focus (simp[go_sem]<;>fail)) | fail)
      refine fin _ _ _ rfl hφ ?_
      first | (simp[go_sem,hs]<;>fail) | (simp[go_sem,hs];rfl)
  . by_cases hs:s=[]
    . subst hs
      repeat (first | (refine cZ ?_ ?_;focus (simp[go_sem]<;>fail)) | (refine cO ?_ ?_;focus (simp[go_sem]<;>fail)) | fail)
      refine fin _ _ _ rfl hφ ?_
      first | (simp[go_sem]<;>fail) | (simp[go_sem];rfl)
    . repeat (first | (refine cZ ?_ ?_;focus (simp[go_sem,hs]<;>fail)) | (refine cO ?_ ?_;focus (simp[go_sem]<;>fail)) | fail)
      refine fin _ _ _ rfl hφ ?_
      first | (simp[go_sem,hs]<;>fail) | (simp[go_sem,hs];rfl)
  . by_cases hs:s=[]
    . subst hs
      repeat (first | (refine cZ ?_ ?_;focus (simp[go_sem,n2,n19,n3,n5,n7,n26,n27,n29,n4,n21,n22,n23,n24,n30,n31]<;>fail)) | (refine cO ?_ ?_;focus (simp[go_sem,n2,n19,n3,n5,n7,n26,n27,n29,n4,n21,n22,n23,n24,n30,n31]<;>fail)) | fail)
      refine fin _ _ _ rfl hφ ?_
      first | (simp[go_sem,n2,n19,n3,n5,n7,n26,n27,n29,n4,n21,n22,n23,n24,n30,n31]<;>fail) | (simp[go_sem,n2,n19,n3,n5,n7,n26,n27,n29,n4,n21,n22,n23,n24,n30,n31];rfl)
    . repeat (first | (refine cZ ?_ ?_;focus (simp[go_sem,hs,n2,n19,n3,n5,n7,n26,n27,n29,n4,n23]<;>fail)) | (refine cO ?_ ?_;focus (simp[go_sem,n2,n19,n3,n5,n7,n26,n27,n29,n4,n23]<;>fail)) | fail)
      refine fin _ _ _ rfl hφ ?_
      first | (simp[go_sem,hs,n2,n19,n3,n5,n7,n26,n27,n29,n4,n21,n22,n23,n24,n30,n31]<;>fail) | (simp[go_sem,hs,n2,n19,n3,n5,n7,n26,n27,n29,n4,n21,n22,n23,n24,n30,n31];rfl)
end
def su (x:Ng):UInt8:=ub (sortB x)
def bJ (ks:List Ng):List UInt8:=ks.map su
theorem Ej (x:Ng):0<=sortB x/\sortB x<=255:=by
 unfold sortB
 repeat' split
 all_goals omega
theorem Rj (x:Ng):((su x).toNat:Int)=sortB x:=by
 have h:=Ej x;have h2:=JF h.1 h.2;simpa[su] using h2
theorem aft {x:Ng} {c:UInt8}:su x=c↔sortB x=(c.toNat:Int):=by
 rw[<- Rj];constructor
 . rintro rfl;rfl
 . intro h;exact UInt8.toNat_inj.1 (by omega)
theorem N7 (x:Ng):sortB x=116↔Oo x=true:=by
 unfold sortB;simp only[ut,Bool.and_eq_true,decide_eq_true_eq]
 repeat' split
 all_goals omega
theorem NZ (x:Ng):sortB x=101↔wE x=true:=by
 unfold sortB;simp only[ut,Bool.and_eq_true,decide_eq_true_eq]
 repeat' split
 all_goals omega
theorem aa6 (x:Ng):sortB x=115↔ut 7 13 x=true:=by
 unfold sortB;simp only[ut,Bool.and_eq_true,decide_eq_true_eq]
 repeat' split
 all_goals omega
theorem UH (x:Ng):sortB x=98↔wB x=true:=by
 unfold sortB;simp only[decide_eq_true_eq]
 repeat' split
 all_goals (simp;omega)
theorem aa5 (x:Ng):sortB x=112↔wO [5] x=true:=by
 unfold sortB
 repeat' split
 all_goals (simp;omega)
theorem aa4 (x:Ng):sortB x=102↔wO [3] x=true:=by
 unfold sortB
 repeat' split
 all_goals (simp;omega)
theorem aa3 (x:Ng):sortB x=100↔wO [2,4] x=true:=by
 unfold sortB
 repeat' split
 all_goals (simp;omega)
theorem adw (x:Ng):sortB x=48↔x.k=14:=by
 unfold sortB
 repeat' split
 all_goals omega
theorem qf {c:Int} {p:Ng->Bool} (h:∀ x,sortB x=c↔p x=true):∀ ks:List Ng,onlyB (bJ ks) c=ks.all p
 | []=>rfl
 | x::ks=>by
   have ih:=qf h ks;unfold onlyB bJ at ih⊢;rw[List.map_cons,List.all_cons,List.all_cons,ih,Rj];congr 1;rw[Bool.eq_iff_iff,<- h];simp
theorem xw:∀ (cs:List (UInt8×(Ng->Bool))) (ks:List Ng),(∀ c∈cs,∀ x,sortB x=(c.1.toNat:Int)↔c.2 x=true)->(bJ ks==cs.map (·.1))=rowB (cs.map (·.2)) ks
 | [],[],_=>rfl
 | [],_::_,_=>rfl
 | _::_,[],_=>rfl
 | c::cs,x::ks,h=>by
   have ih:=xw cs ks fun d hd=>h d (List.mem_cons_of_mem _ hd)
   rw[List.map_cons,List.map_cons,rowB,<- ih];show (su x==c.1&&(bJ ks==cs.map (·.1)))=_;congr 1;rw[Bool.eq_iff_iff,beq_iff_eq,aft];exact h c List.mem_cons_self x
def iP (p:Nat) (k n:Int) (ks:List Ng):Bool:=if k=1 then decide (p=0)&&ks.all (wO [2,4]) else fG k n ks
theorem fs0 (ks:List Ng):(bJ ks==[])=rowB [] ks:=xw [] ks (by simp)
theorem fs1 {c:UInt8} {p:Ng->Bool} (h:∀ x,sortB x=(c.toNat:Int)↔p x=true) (ks:List Ng):(bJ ks==[c])=rowB [p] ks:=xw [(c,p)] ks (by simpa using h)
theorem fs2 {c d:UInt8} {p q:Ng->Bool} (h:∀ x,sortB x=(c.toNat:Int)↔p x=true) (h2:∀ x,sortB x=(d.toNat:Int)↔q x=true) (ks:List Ng):(bJ ks==[c,d])=rowB [p,q] ks:=
 xw [(c,p),(d,q)] ks (by
  intro e he;simp only[List.mem_cons,List.not_mem_nil,or_false] at he;rcases he with rfl | rfl
  . exact h
  . exact h2)
theorem fs3 {c d e:UInt8} {p q r:Ng->Bool} (h:∀ x,sortB x=(c.toNat:Int)↔p x=true) (h2:∀ x,sortB x=(d.toNat:Int)↔q x=true) (h3:∀ x,sortB x=(e.toNat:Int)↔r x=true) (ks:List Ng):(bJ ks==[c,d,e])=rowB [p,q,r] ks:=
 xw [(c,p),(d,q),(e,r)] ks (by
  intro f hf;simp only[List.mem_cons,List.not_mem_nil,or_false] at hf;rcases hf with rfl | rfl | rfl
  . exact h
  . exact h2
  . exact h3)
theorem Xj:∀ x,sortB x=((116:UInt8).toNat:Int)↔Oo x=true:=N7
theorem vg:∀ x,sortB x=((101:UInt8).toNat:Int)↔wE x=true:=NZ
theorem s98:∀ x,sortB x=((98:UInt8).toNat:Int)↔wB x=true:=UH
variable (p:Nat) (n:Int) (ks:List Ng)
theorem rf1:iP p 1 n ks=(decide (p=0)&&onlyB (bJ ks) 100):=by rw[qf aa3];rfl
theorem rf2:iP p 2 n ks=onlyB (bJ ks) 102:=by rw[qf aa4];rfl
theorem rf3:iP p 3 n ks=(bJ ks==[116]):=by rw[fs1 Xj];rfl
theorem rf5:iP p 5 n ks=(bJ ks==[116]):=by rw[fs1 Xj];rfl
theorem agk:iP p 20 n ks=(bJ ks==[116]):=by rw[fs1 Xj];rfl
theorem rf6:iP p 6 n ks=onlyB (bJ ks) 115:=by rw[qf aa6];rfl
theorem rf7:iP p 7 n ks=(bJ ks==[116,101]):=by rw[fs2 Xj vg];rfl
theorem rf9:iP p 9 n ks=(bJ ks==[101,98]||bJ ks==[101,98,98]):=by rw[fs2 vg s98,fs3 vg s98 s98];rfl
theorem agf:iP p 10 n ks=(bJ ks==[101,98]):=by rw[fs2 vg s98];rfl
theorem agh:iP p 11 n ks=(bJ ks==[]||bJ ks==[101]):=by rw[fs0,fs1 vg];rfl
theorem agi:iP p 12 n ks=(bJ ks==[101]):=by rw[fs1 vg];rfl
theorem agn:iP p 29 n ks=(bJ ks==[101]):=by rw[fs1 vg];rfl
theorem agp:iP p 30 n ks=(bJ ks==[101]):=by rw[fs1 vg];rfl
theorem agl:iP p 27 n ks=onlyB (bJ ks) 101:=by rw[qf NZ];rfl
theorem agm:iP p 28 n ks=(bJ ks==[101,101]):=by rw[fs2 vg vg];rfl
theorem agq:iP p 31 n ks=(bJ ks==[101,101]):=by rw[fs2 vg vg];rfl
theorem rf8:iP p 8 n ks=(bJ ks==[101,101]&&wO [26,28,29] (ks.getD 0 Gy)):=by
 rw[fs2 vg vg];show rowB [wO [26,28,29],wE] ks=_
 match ks with
 | []=>rfl
 | [a]=>simp[rowB]
 | [a,b]=>
   simp only[rowB,Bool.and_true,List.getD_cons_zero];have h:wO [26,28,29] a=true->wE a=true:=by
    intro h;simp[ut] at h⊢;omega
   cases h1:wO [26,28,29] a with
   | false=>simp
   | true=>rw[h h1];simp
 | a::b::c::r=>simp[rowB]
theorem agj:iP p 13 n ks=(bJ ks==[101]&&wO [27] (ks.getD 0 Gy)):=by
 rw[fs1 vg];show rowB [wO [27]] ks=_
 match ks with
 | []=>rfl
 | [a]=>
   simp only[rowB,Bool.and_true,List.getD_cons_zero];have h:wO [27] a=true->wE a=true:=by
    intro h;simp[ut] at h⊢;omega
   cases h1:wO [27] a with
   | false=>simp
   | true=>rw[h h1];simp
 | a::b::r=>simp[rowB]
theorem ags:iP p 32 n ks=((bJ ks==[116]&&wO [19] (ks.getD 0 Gy))||(bJ ks==[116,101]&&wO [20] (ks.getD 0 Gy))):=by
 rw[fs1 Xj,fs2 Xj vg];show (rowB [wO [19]] ks||rowB [wO [20],wE] ks)=_
 match ks with
 | []=>rfl
 | [a]=>
   simp only[rowB,Bool.and_true,List.getD_cons_zero,Bool.and_false,Bool.false_and,Bool.or_false];have h:wO [19] a=true->Oo a=true:=by
    intro h;simp[ut] at h⊢;omega
   cases h1:wO [19] a with
   | false=>simp
   | true=>rw[h h1];simp
 | [a,b]=>
   simp only[rowB,Bool.and_true,List.getD_cons_zero,Bool.and_false,Bool.false_and,Bool.false_or];have h:wO [20] a=true->Oo a=true:=by
    intro h;simp[ut] at h⊢;omega
   cases h1:wO [20] a with
   | false=>simp
   | true=>rw[h h1];simp
 | a::b::c::r=>simp[rowB]
theorem rf4:iP p 4 n ks=(decide (2<=(bJ ks).length)&&decide (((bJ ks).length:Int) - 2=n)&&onlyB (sub (bJ ks) 0 ((bJ ks).length - 2)) 112&&(decide (bt (bJ ks) ((bJ ks).length - 2)=116)||decide (bt (bJ ks) ((bJ ks).length - 2)=48))&&decide (bt (bJ ks) ((bJ ks).length - 1)=98)):=by
 have hl:(bJ ks).length=ks.length:=List.length_map _;have hb:∀ i,i<ks.length->bt (bJ ks) i=sortB (ks.getD i Gy):=by
  intro i hi;rw[rM _ i (by omega)];have e:(bJ ks)[i]'(by omega)=su ks[i]:=by simp[bJ]
  rw[e,Rj];simp[List.getD_eq_getElem?_getD,hi]
 have ht:∀ m,sub (bJ ks) 0 m=bJ (ks.take m):=by
  intro m;unfold sub bJ;rw[List.drop_zero,<- List.map_take]
 show YM n ks=_;unfold YM;rw[hl];by_cases h2:2<=ks.length
 . rw[decide_eq_true h2,hb _ (by omega),hb _ (by omega),ht,qf aa5];have e1:decide ((ks.getD (ks.length - 1) Gy).k=6)=decide (sortB (ks.getD (ks.length - 1) Gy)=98):=by
    rw[Bool.eq_iff_iff,decide_eq_true_eq (p:=sortB _=98),UH]
   have e2:(decide ((ks.getD (ks.length - 2) Gy).k=14)||Oo (ks.getD (ks.length - 2) Gy))=(decide (sortB (ks.getD (ks.length - 2) Gy)=116)||decide (sortB (ks.getD (ks.length - 2) Gy)=48)):=by
    rw[Bool.eq_iff_iff,Bool.or_eq_true,Bool.or_eq_true,decide_eq_true_eq,decide_eq_true_eq,decide_eq_true_eq,N7,adw];exact or_comm
   rw[e1,e2];generalize decide (sortB (ks.getD (ks.length - 1) Gy)=98)=a;generalize (decide (sortB (ks.getD (ks.length - 2) Gy)=116)||decide (sortB (ks.getD (ks.length - 2) Gy)=48))=b;generalize (ks.take (ks.length - 2)).all (wO [5])=c;generalize decide ((ks.length:Int) - 2=n)=d;cases a<;>cases b<;>cases c<;>cases d<;>rfl
 . rw[decide_eq_false h2];rfl
theorem rfD {k:Int} (h1:k<=0\/14<=k) (h2:k≠20) (h3:k<=26\/33<=k):iP p k n ks=(bJ ks==[]&&decide (14<=k)&&decide (k<=26)):=by
 by_cases h:14<=k/\k<=26
 . rw[decide_eq_true h.1,decide_eq_true h.2,Bool.and_true,Bool.and_true,fs0];have:k=14\/k=15\/k=16\/k=17\/k=18\/k=19\/k=21\/k=22\/k=23\/k=24\/k=25\/k=26:=by omega
   rcases this with rfl | rfl | rfl | rfl | rfl | rfl | rfl | rfl | rfl | rfl | rfl | rfl<;>rfl
 . have e:(decide (14<=k)&&decide (k<=26))=false:=by
    rw[Bool.and_eq_false_iff,decide_eq_false_iff_not,decide_eq_false_iff_not];omega
   rw[Bool.and_assoc,e,Bool.and_false];unfold iP fG
   repeat rw[if_neg (by omega)]
section
attribute [local go_sem] bg bf aC aj au aI aU aH ax says_again
def CJ:Fm:=(.C 30 [.L 0,.J 0] (.p (.L 1)) ⟨0,0,0,0,1,0⟩
 (.mk [] 5 0
 (.loop 0 ⟨[(.c 0)],[],[],[],[(.x 2)],[]⟩
 (.ite (.lt (.x 1) (.cnt (.x 1)))
 (.N (.X (.x 1) (.x 1))
 (.O (.el (.x 1) (.x 1) 1 0) 1 [.J 2] ⟨1,0,0,0,0,0⟩
 (.N (.X (.x 2) (.x 0))
 (.O (.el (.x 0) (.x 2) 6 0) 6 [.U 3,.J 4,.J 5,.J 6,.J 7,(.s (.x 0))] ⟨5,0,1,0,0,0⟩
 (.C 65 [(.agg [.U 3,.J 4,.J 5,.J 6,.J 7,(.s (.x 0))])] (.p (.one (.U 8))) ⟨1,0,0,0,0,0⟩
 (.mk [.U 8] 5 1
 (.app (.x 3) (.x 4) 1 1 5
 (.N (.R (.add (.x 1) (.c 1)))
 (.again 0 ⟨1,0,0,0,3,0⟩ ⟨2,0,0,0,4,0⟩ ⟨[(.add (.x 1) (.c 1))],[],[],[],[(.x 5)],[]⟩)))))))))
 (.str (.x 3)
 (.ite (.lt (.c 0) (.cnt (.x 1)))
 (.N (.X (.c 0) (.x 1))
 (.O (.el (.x 1) (.c 0) 1 0) 1 [.J 2] ⟨1,0,0,0,0,0⟩
 (.N (.X (.x 2) (.x 0))
 (.O (.el (.x 0) (.x 2) 6 0) 6 [.U 3,.J 4,.J 5,.J 6,.J 7,(.s (.x 1))] ⟨5,0,1,0,0,0⟩
 (.N (.X (.x 0) (.x 0))
 (.N (.nns (.x 0))
 (.O (.el (.x 0) (.x 0) 6 0) 1 [.U 8] ⟨1,0,0,0,0,0⟩
 (.ite (.eqI (.x 8) (.c 1))
 (.call (.eqI (.x 0) (.c 0)) false 66 [.S 0,(.one (.i .u8 (.c 100)))] (.p (.B 0)) ⟨0,1,0,0,0,0⟩
 (.ret (.p (.one (.b (.and (.eqI (.x 0) (.c 0)) (.x 0)))))))
 (.ite (.eqI (.x 8) (.c 2))
 (.C 66 [.S 0,(.one (.i .u8 (.c 102)))] (.p (.B 0)) ⟨0,1,0,0,0,0⟩
 (.ret (.p (.B 0))))
 (.ite (.eqI (.x 8) (.c 3))
 (.ret (.p (.one (.b (.eqS (.x 0) (.c [116]))))))
 (.ite (.eqI (.x 8) (.c 5))
 (.ret (.p (.one (.b (.eqS (.x 0) (.c [116]))))))
 (.ite (.eqI (.x 8) (.c 20))
 (.ret (.p (.one (.b (.eqS (.x 0) (.c [116]))))))
 (.ite (.eqI (.x 8) (.c 4))
 (.need (.le (.c 2) (.len (.x 0))) (.R (.sub (.len (.x 0)) (.c 2)))
 (.need (.le (.c 2) (.len (.x 0))) (.X (.x 0) (.x 0))
 (.need (.le (.c 2) (.len (.x 0))) (.nns (.x 0))
 (.load (.le (.c 2) (.len (.x 0))) (.el (.x 0) (.x 0) 6 4) 1 [.J 9] ⟨1,0,0,0,0,0⟩
 (.need (.and (.le (.c 2) (.len (.x 0))) (.eqI (.sub (.len (.x 0)) (.c 2)) (.x 9))) (.R (.sub (.len (.x 0)) (.c 2)))
 (.need (.and (.le (.c 2) (.len (.x 0))) (.eqI (.sub (.len (.x 0)) (.c 2)) (.x 9))) (.and (.le (.c 0) (.sub (.len (.x 0)) (.c 2))) (.le (.sub (.len (.x 0)) (.c 2)) (.len (.x 0))))
 (.call (.and (.le (.c 2) (.len (.x 0))) (.eqI (.sub (.len (.x 0)) (.c 2)) (.x 9))) false 66 [(.one (.s (.sub (.x 0) (.c 0) (.sub (.len (.x 0)) (.c 2))))),(.one (.i .u8 (.c 112)))] (.p (.B 0)) ⟨0,1,0,0,0,0⟩
 (.need (.and (.and (.le (.c 2) (.len (.x 0))) (.eqI (.sub (.len (.x 0)) (.c 2)) (.x 9))) (.x 0)) (.R (.sub (.len (.x 0)) (.c 2)))
 (.need (.and (.and (.le (.c 2) (.len (.x 0))) (.eqI (.sub (.len (.x 0)) (.c 2)) (.x 9))) (.x 0)) (.and (.le (.c 0) (.sub (.len (.x 0)) (.c 2))) (.lt (.sub (.len (.x 0)) (.c 2)) (.len (.x 0))))
 (.need (.and (.and (.and (.le (.c 2) (.len (.x 0))) (.eqI (.sub (.len (.x 0)) (.c 2)) (.x 9))) (.x 0)) (.not (.eqI (.at (.x 0) (.sub (.len (.x 0)) (.c 2))) (.c 116)))) (.R (.sub (.len (.x 0)) (.c 2)))
 (.need (.and (.and (.and (.le (.c 2) (.len (.x 0))) (.eqI (.sub (.len (.x 0)) (.c 2)) (.x 9))) (.x 0)) (.not (.eqI (.at (.x 0) (.sub (.len (.x 0)) (.c 2))) (.c 116)))) (.and (.le (.c 0) (.sub (.len (.x 0)) (.c 2))) (.lt (.sub (.len (.x 0)) (.c 2)) (.len (.x 0))))
 (.need (.and (.and (.and (.le (.c 2) (.len (.x 0))) (.eqI (.sub (.len (.x 0)) (.c 2)) (.x 9))) (.x 0)) (.or (.eqI (.at (.x 0) (.sub (.len (.x 0)) (.c 2))) (.c 116)) (.eqI (.at (.x 0) (.sub (.len (.x 0)) (.c 2))) (.c 48)))) (.R (.sub (.len (.x 0)) (.c 1)))
 (.need (.and (.and (.and (.le (.c 2) (.len (.x 0))) (.eqI (.sub (.len (.x 0)) (.c 2)) (.x 9))) (.x 0)) (.or (.eqI (.at (.x 0) (.sub (.len (.x 0)) (.c 2))) (.c 116)) (.eqI (.at (.x 0) (.sub (.len (.x 0)) (.c 2))) (.c 48)))) (.and (.le (.c 0) (.sub (.len (.x 0)) (.c 1))) (.lt (.sub (.len (.x 0)) (.c 1)) (.len (.x 0))))
 (.ret (.p (.one (.b (.and (.and (.and (.and (.le (.c 2) (.len (.x 0))) (.eqI (.sub (.len (.x 0)) (.c 2)) (.x 9))) (.x 0)) (.or (.eqI (.at (.x 0) (.sub (.len (.x 0)) (.c 2))) (.c 116)) (.eqI (.at (.x 0) (.sub (.len (.x 0)) (.c 2))) (.c 48)))) (.eqI (.at (.x 0) (.sub (.len (.x 0)) (.c 1))) (.c 98))))))))))))))))))))
 (.ite (.eqI (.x 8) (.c 6))
 (.C 66 [.S 0,(.one (.i .u8 (.c 115)))] (.p (.B 0)) ⟨0,1,0,0,0,0⟩
 (.ret (.p (.B 0))))
 (.ite (.eqI (.x 8) (.c 7))
 (.ret (.p (.one (.b (.eqS (.x 0) (.c [116,101]))))))
 (.ite (.eqI (.x 8) (.c 8))
 (.ret (.p (.one (.b (.and (.eqS (.x 0) (.c [101,101])) (.or (.or (.eqI (.x 3) (.c 26)) (.eqI (.x 3) (.c 28))) (.eqI (.x 3) (.c 29))))))))
 (.ite (.eqI (.x 8) (.c 9))
 (.ret (.p (.one (.b (.or (.eqS (.x 0) (.c [101,98])) (.eqS (.x 0) (.c [101,98,98])))))))
 (.ite (.eqI (.x 8) (.c 10))
 (.ret (.p (.one (.b (.eqS (.x 0) (.c [101,98]))))))
 (.ite (.eqI (.x 8) (.c 11))
 (.ret (.p (.one (.b (.or (.eqS (.x 0) (.c [])) (.eqS (.x 0) (.c [101])))))))
 (.ite (.eqI (.x 8) (.c 12))
 (.ret (.p (.one (.b (.eqS (.x 0) (.c [101]))))))
 (.ite (.eqI (.x 8) (.c 29))
 (.ret (.p (.one (.b (.eqS (.x 0) (.c [101]))))))
 (.ite (.eqI (.x 8) (.c 30))
 (.ret (.p (.one (.b (.eqS (.x 0) (.c [101]))))))
 (.ite (.eqI (.x 8) (.c 13))
 (.ret (.p (.one (.b (.and (.eqS (.x 0) (.c [101])) (.eqI (.x 3) (.c 27)))))))
 (.ite (.eqI (.x 8) (.c 27))
 (.C 66 [.S 0,(.one (.i .u8 (.c 101)))] (.p (.B 0)) ⟨0,1,0,0,0,0⟩
 (.ret (.p (.B 0))))
 (.ite (.eqI (.x 8) (.c 28))
 (.ret (.p (.one (.b (.eqS (.x 0) (.c [101,101]))))))
 (.ite (.eqI (.x 8) (.c 31))
 (.ret (.p (.one (.b (.eqS (.x 0) (.c [101,101]))))))
 (.ite (.eqI (.x 8) (.c 32))
 (.ret (.p (.one (.b (.or (.and (.eqS (.x 0) (.c [116])) (.eqI (.x 3) (.c 19))) (.and (.eqS (.x 0) (.c [116,101])) (.eqI (.x 3) (.c 20))))))))
 (.need (.eqS (.x 0) (.c [])) (.X (.x 0) (.x 0))
 (.need (.eqS (.x 0) (.c [])) (.nns (.x 0))
 (.load (.eqS (.x 0) (.c [])) (.el (.x 0) (.x 0) 6 0) 1 [.U 9] ⟨1,0,0,0,0,0⟩
 (.need (.and (.eqS (.x 0) (.c [])) (.le (.c 14) (.x 9))) (.X (.x 0) (.x 0))
 (.need (.and (.eqS (.x 0) (.c [])) (.le (.c 14) (.x 9))) (.nns (.x 0))
 (.load (.and (.eqS (.x 0) (.c [])) (.le (.c 14) (.x 9))) (.el (.x 0) (.x 0) 6 0) 1 [.U 10] ⟨1,0,0,0,0,0⟩
 (.ret (.p (.one (.b (.and (.and (.eqS (.x 0) (.c [])) (.le (.c 14) (.x 9))) (.le (.x 10) (.c 26))))))))))))))))))))))))))))))))))))))))
 (.N (.X (.x 0) (.x 0))
 (.N (.nns (.x 0))
 (.O (.el (.x 0) (.x 0) 6 0) 1 [.U 2] ⟨1,0,0,0,0,0⟩
 (.ite (.eqI (.x 2) (.c 1))
 (.call (.eqI (.x 0) (.c 0)) false 66 [.S 0,(.one (.i .u8 (.c 100)))] (.p (.B 0)) ⟨0,1,0,0,0,0⟩
 (.ret (.p (.one (.b (.and (.eqI (.x 0) (.c 0)) (.x 0)))))))
 (.ite (.eqI (.x 2) (.c 2))
 (.C 66 [.S 0,(.one (.i .u8 (.c 102)))] (.p (.B 0)) ⟨0,1,0,0,0,0⟩
 (.ret (.p (.B 0))))
 (.ite (.eqI (.x 2) (.c 3))
 (.ret (.p (.one (.b (.eqS (.x 0) (.c [116]))))))
 (.ite (.eqI (.x 2) (.c 5))
 (.ret (.p (.one (.b (.eqS (.x 0) (.c [116]))))))
 (.ite (.eqI (.x 2) (.c 20))
 (.ret (.p (.one (.b (.eqS (.x 0) (.c [116]))))))
 (.ite (.eqI (.x 2) (.c 4))
 (.need (.le (.c 2) (.len (.x 0))) (.R (.sub (.len (.x 0)) (.c 2)))
 (.need (.le (.c 2) (.len (.x 0))) (.X (.x 0) (.x 0))
 (.need (.le (.c 2) (.len (.x 0))) (.nns (.x 0))
 (.load (.le (.c 2) (.len (.x 0))) (.el (.x 0) (.x 0) 6 4) 1 [.J 3] ⟨1,0,0,0,0,0⟩
 (.need (.and (.le (.c 2) (.len (.x 0))) (.eqI (.sub (.len (.x 0)) (.c 2)) (.x 3))) (.R (.sub (.len (.x 0)) (.c 2)))
 (.need (.and (.le (.c 2) (.len (.x 0))) (.eqI (.sub (.len (.x 0)) (.c 2)) (.x 3))) (.and (.le (.c 0) (.sub (.len (.x 0)) (.c 2))) (.le (.sub (.len (.x 0)) (.c 2)) (.len (.x 0))))
 (.call (.and (.le (.c 2) (.len (.x 0))) (.eqI (.sub (.len (.x 0)) (.c 2)) (.x 3))) false 66 [(.one (.s (.sub (.x 0) (.c 0) (.sub (.len (.x 0)) (.c 2))))),(.one (.i .u8 (.c 112)))] (.p (.B 0)) ⟨0,1,0,0,0,0⟩
 (.need (.and (.and (.le (.c 2) (.len (.x 0))) (.eqI (.sub (.len (.x 0)) (.c 2)) (.x 3))) (.x 0)) (.R (.sub (.len (.x 0)) (.c 2)))
 (.need (.and (.and (.le (.c 2) (.len (.x 0))) (.eqI (.sub (.len (.x 0)) (.c 2)) (.x 3))) (.x 0)) (.and (.le (.c 0) (.sub (.len (.x 0)) (.c 2))) (.lt (.sub (.len (.x 0)) (.c 2)) (.len (.x 0))))
 (.need (.and (.and (.and (.le (.c 2) (.len (.x 0))) (.eqI (.sub (.len (.x 0)) (.c 2)) (.x 3))) (.x 0)) (.not (.eqI (.at (.x 0) (.sub (.len (.x 0)) (.c 2))) (.c 116)))) (.R (.sub (.len (.x 0)) (.c 2)))
 (.need (.and (.and (.and (.le (.c 2) (.len (.x 0))) (.eqI (.sub (.len (.x 0)) (.c 2)) (.x 3))) (.x 0)) (.not (.eqI (.at (.x 0) (.sub (.len (.x 0)) (.c 2))) (.c 116)))) (.and (.le (.c 0) (.sub (.len (.x 0)) (.c 2))) (.lt (.sub (.len (.x 0)) (.c 2)) (.len (.x 0))))
 (.need (.and (.and (.and (.le (.c 2) (.len (.x 0))) (.eqI (.sub (.len (.x 0)) (.c 2)) (.x 3))) (.x 0)) (.or (.eqI (.at (.x 0) (.sub (.len (.x 0)) (.c 2))) (.c 116)) (.eqI (.at (.x 0) (.sub (.len (.x 0)) (.c 2))) (.c 48)))) (.R (.sub (.len (.x 0)) (.c 1)))
 (.need (.and (.and (.and (.le (.c 2) (.len (.x 0))) (.eqI (.sub (.len (.x 0)) (.c 2)) (.x 3))) (.x 0)) (.or (.eqI (.at (.x 0) (.sub (.len (.x 0)) (.c 2))) (.c 116)) (.eqI (.at (.x 0) (.sub (.len (.x 0)) (.c 2))) (.c 48)))) (.and (.le (.c 0) (.sub (.len (.x 0)) (.c 1))) (.lt (.sub (.len (.x 0)) (.c 1)) (.len (.x 0))))
 (.ret (.p (.one (.b (.and (.and (.and (.and (.le (.c 2) (.len (.x 0))) (.eqI (.sub (.len (.x 0)) (.c 2)) (.x 3))) (.x 0)) (.or (.eqI (.at (.x 0) (.sub (.len (.x 0)) (.c 2))) (.c 116)) (.eqI (.at (.x 0) (.sub (.len (.x 0)) (.c 2))) (.c 48)))) (.eqI (.at (.x 0) (.sub (.len (.x 0)) (.c 1))) (.c 98))))))))))))))))))))
 (.ite (.eqI (.x 2) (.c 6))
 (.C 66 [.S 0,(.one (.i .u8 (.c 115)))] (.p (.B 0)) ⟨0,1,0,0,0,0⟩
 (.ret (.p (.B 0))))
 (.ite (.eqI (.x 2) (.c 7))
 (.ret (.p (.one (.b (.eqS (.x 0) (.c [116,101]))))))
 (.ite (.eqI (.x 2) (.c 8))
 (.ret (.p (.one (.b (.and (.eqS (.x 0) (.c [101,101])) (.or (.or (.eqI (.c 0) (.c 26)) (.eqI (.c 0) (.c 28))) (.eqI (.c 0) (.c 29))))))))
 (.ite (.eqI (.x 2) (.c 9))
 (.ret (.p (.one (.b (.or (.eqS (.x 0) (.c [101,98])) (.eqS (.x 0) (.c [101,98,98])))))))
 (.ite (.eqI (.x 2) (.c 10))
 (.ret (.p (.one (.b (.eqS (.x 0) (.c [101,98]))))))
 (.ite (.eqI (.x 2) (.c 11))
 (.ret (.p (.one (.b (.or (.eqS (.x 0) (.c [])) (.eqS (.x 0) (.c [101])))))))
 (.ite (.eqI (.x 2) (.c 12))
 (.ret (.p (.one (.b (.eqS (.x 0) (.c [101]))))))
 (.ite (.eqI (.x 2) (.c 29))
 (.ret (.p (.one (.b (.eqS (.x 0) (.c [101]))))))
 (.ite (.eqI (.x 2) (.c 30))
 (.ret (.p (.one (.b (.eqS (.x 0) (.c [101]))))))
 (.ite (.eqI (.x 2) (.c 13))
 (.ret (.p (.one (.b (.and (.eqS (.x 0) (.c [101])) (.eqI (.c 0) (.c 27)))))))
 (.ite (.eqI (.x 2) (.c 27))
 (.C 66 [.S 0,(.one (.i .u8 (.c 101)))] (.p (.B 0)) ⟨0,1,0,0,0,0⟩
 (.ret (.p (.B 0))))
 (.ite (.eqI (.x 2) (.c 28))
 (.ret (.p (.one (.b (.eqS (.x 0) (.c [101,101]))))))
 (.ite (.eqI (.x 2) (.c 31))
 (.ret (.p (.one (.b (.eqS (.x 0) (.c [101,101]))))))
 (.ite (.eqI (.x 2) (.c 32))
 (.ret (.p (.one (.b (.or (.and (.eqS (.x 0) (.c [116])) (.eqI (.c 0) (.c 19))) (.and (.eqS (.x 0) (.c [116,101])) (.eqI (.c 0) (.c 20))))))))
 (.need (.eqS (.x 0) (.c [])) (.X (.x 0) (.x 0))
 (.need (.eqS (.x 0) (.c [])) (.nns (.x 0))
 (.load (.eqS (.x 0) (.c [])) (.el (.x 0) (.x 0) 6 0) 1 [.U 3] ⟨1,0,0,0,0,0⟩
 (.need (.and (.eqS (.x 0) (.c [])) (.le (.c 14) (.x 3))) (.X (.x 0) (.x 0))
 (.need (.and (.eqS (.x 0) (.c [])) (.le (.c 14) (.x 3))) (.nns (.x 0))
 (.load (.and (.eqS (.x 0) (.c [])) (.le (.c 14) (.x 3))) (.el (.x 0) (.x 0) 6 0) 1 [.U 4] ⟨1,0,0,0,0,0⟩
 (.ret (.p (.one (.b (.and (.and (.eqS (.x 0) (.c [])) (.le (.c 14) (.x 3))) (.le (.x 4) (.c 26))))))))))))))))))))))))))))))))))))))))))
theorem MK:aZ ⟨true,[1000005]⟩ Tryz.prog (fun l=>([⟨[6,17],[18,19,7,20,21,22,23,24,25,26,27,28,29,30,31],[]⟩]:List bK).getD l ⟨[],[],[]⟩) Tryz.f37=CJ:=by kernel_rfl
theorem QR:az Tryz.prog .zero Tryz.f37.params.toList=some ([.L 0,.J 0],⟨1,0,0,0,1,0⟩):=by kernel_rfl
def YC (p:Nat) (sl:bM) (h:Hp) (ks:List Tr) (_:Nat) (C:Ctx):Prop:=
 ∃ (j:Nat) (kl lit out:bM) (k0 hh:Hp),C=⟨[p,j],[],[],[],[sl,kl,lit,out],[],hh,df⟩/\j<=ks.length/\dA h k0/\iy k0 kl (places ((p+1:Nat):Int) ks)/\kl.n=ks.length/\BI k0 out (bJ ((ks.take j).map Tr.g)) hh
theorem vU.pss {l:List Ng} {p:Nat} {x:Ng} {ks:List Tr} (H:vU l p x ks):JM l (p+1) ks:=by
 have hf:=H.fit;obtain⟨_,_,r,hr⟩:=H;exact⟨l.take (p+1),r,by rw[List.append_assoc,<- hr,List.take_append_drop],by rw[List.length_take];omega⟩
theorem Gl (k:Int):k=1\/k=2\/k=3\/k=4\/k=5\/k=20\/k=6\/k=7\/k=8\/k=9\/k=10\/k=11\/k=12\/k=13\/k=27\/k=28\/k=29\/k=30\/k=31\/k=32\/(¬ k=1/\¬ k=2/\¬ k=3/\¬ k=4/\¬ k=5/\¬ k=20/\¬ k=6/\¬ k=7/\¬ k=8/\¬ k=9/\¬ k=10/\¬ k=11/\¬ k=12/\¬ k=13/\¬ k=27/\¬ k=28/\¬ k=29/\¬ k=30/\¬ k=31/\¬ k=32):=by omega
set_option maxRecDepth 100000 in
set_option maxHeartbeats 16000000 in
def EZ:Ct Tryz.prog where
 f:=37
 spec:=fun args h φ=>∃ sl l p x ks,args=[bM.val sl,.int .i64 ((p:Nat):Int)]/\NG h sl l/\l.length<=1000000/\vU l p x ks/\φ (.bool (iP p x.k x.n (ks.map Tr.g))) h
 ok:=by
  rintro args h φ w ⟨sl,l,p,x,ks,rfl,R,hl,H,hφ⟩ hH;refine dh (bn Tryz.func37 MK QR [RS,RZ,RX] (fun v k=>∃ k',dA k' k/\φ v k') (YC p sl h ks) (fun _ C=>((ks.length:Int) - C.i.getD 1 0).toNat) ⟨[((p:Nat):Int)],[],[],[],[sl],[],h,df⟩ ⟨rfl,rfl,rfl,rfl,rfl,rfl⟩ af ?_ w hH rfl);generalize hE:(⟨aG _,_,_,_⟩:Env)=E;have sbz:E.spec 30=(RS).spec:=by rw[<- hE];rfl
  have sc0:E.spec 65=(RZ).spec:=by rw[<- hE];rfl
  have sc1:E.spec 66=(RX).spec:=by rw[<- hE];rfl
  have ep:E.post=(fun v k=>∃ k',dA k' k/\φ v k'):=by rw[<- hE]
  have ei:E.inv=(YC p sl h ks):=by rw[<- hE]
  have em:E.meas=(fun _ C=>((ks.length:Int) - C.i.getD 1 0).toNat):=by rw[<- hE]
  clear hE;unfold CJ;have hn:=NG.n R;have hfit:=H.fit;have hps:=H.pss;obtain⟨hp,hpx⟩:=List.getElem?_eq_some_iff.1 H.1;have hkl:ks.length<=1000000:=by
   have h1:∀ ts:List Tr,ts.length<=Tr.ns ts:=fun ts=>by
    induction ts with
    | nil=>exact Nat.le_refl _
    | cons a d ih=>have:=ug a;rw[ay,List.length_cons];omega
   have:=h1 ks;omega
  obtain⟨b,o,ha⟩:=Rows.nn R (j:=p) (by omega);have hre:∀ {k:Hp} {q:Nat},dA h k->(hq:q<l.length)->hread k (some (b,o+q*6+0)) 6=some l[q].cs:=fun hk hq=>NG.node (NG.le R hk) hq ha
  have hr1:∀ {k:Hp} (off:Nat) (v:Value),dA h k->off<6->(x.cs.drop off).take 1=[v]->hread k (some (b,o+p*6+off)) 1=some [v]:=by
   intro k off v hk ho hv;have:=Rows.read (off:=off) (m:=1) (NG.le R hk) (j:=p) (by omega) (by omega) ha;rw[<- List.drop_drop,jl hp,hpx] at this;rw[this];obtain⟨k1,l1,c1,z1,n1,s1⟩:=x;congr 1;rw[<- hv]
   match off,ho with
   | 0,_ | 1,_ | 2,_ | 3,_ | 4,_ | 5,_=>rfl
  rw[au,if_pos (by rfl),sbz];refine⟨sl,l,p,x,ks,rfl,R,hl,H,fun kl k0 hle0 hI hkn=>?_⟩;refine rR ⟨[],[],[],[],[kl],[]⟩ rfl af rfl ?_;rw[ae,aK];intro b0 hb0;have hb0':k0 b0=none:=hb0;rw[ae];refine bI ?_ ?_
  . rw[ei];exact⟨0,kl,⟨some (b0,0),0,0⟩,⟨some (b0,0),0,0⟩,k0,k0.set b0 ⟨[],5⟩,rfl,Nat.zero_le _,hle0,hI,hkn,⟨.inr ⟨b0,⟨[],5⟩,rfl,aA _ _ _,rfl,rfl,Nat.le_refl _,Nat.zero_le _,rfl⟩,rfl,by simp,fun z hz=>by cases hz;exact hb0',fE hb0' _⟩⟩
  clear hb0 hb0' hI hkn hle0 kl k0;rw[ei,em];rintro i bbs ss v ll pp hh M ⟨j,kl,lit,out,k0,hh1,hC,hj,hle0,hI,hkn,X⟩ hM;cases hC;have hM':M 0=((ks.length:Int) - j).toNat:=hM;clear hM;have hleh:dA h hh:=fun c oo hc=>X.kept c oo (hle0 c oo hc)
  by_cases hjl:j<ks.length
  . have hz:(j:Int)<kl.n:=by omega
    obtain⟨q,hq,hP⟩:=yY ks (p+1) hps j hjl;obtain⟨hqi,hqe⟩:=List.getElem?_eq_some_iff.1 hq;obtain⟨b2,o2,ha2,hr2⟩:=(hI.le X.kept).read (j:=j) (by rw[dK];exact hjl);rw[hqe] at hr2;obtain⟨hql,hqx⟩:=hP.node;have hrn:=hre hleh hql;rw[hqx] at hrn;have htk:(ks.take (j+1)).map Tr.g=(ks.take j).map Tr.g++[ks[j].g]:=by
     rw[List.take_succ_eq_append_getElem hjl,List.map_append];rfl
    generalize ks[j].g=y at *;rw[aj,if_pos (by simpa[go_sem] using hz)];rw[ai];refine⟨by simp[go_sem,ha2];omega,?_⟩;refine rL ⟨[(q:Int)],[],[],[],[],[]⟩ rfl af (by simpa[go_sem,ha2] using hr2) ?_;rw[ai];refine⟨by simp[go_sem,ha];omega,?_⟩;refine rL ⟨[y.k,y.l,y.c,y.z,y.n],[],[y.x],[],[],[]⟩ rfl af (by simpa[go_sem,ha,Ng.cs] using hrn) ?_;rw[ag,sc0];refine⟨y,rfl,?_⟩;refine rR ⟨[sortB y],[],[],[],[],[]⟩ rfl af rfl ?_;rw[ae,aK];intro bb hbb;have hbb':hh bb=none:=hbb;rw[ae];refine vV X (by rw[bJ,List.length_map,List.length_map,List.length_take];omega) hbb' (c:=sortB y) (Ej y).1 (Ej y).2 rfl rfl rfl fun s' k' X'=>?_
    rw[aC];refine⟨by simp[go_sem]<;>omega,?_⟩;rw[ae,says_again,ei,em];refine⟨⟨j+1,kl,lit,s',k0,k',rfl,hjl,hle0,hI,hkn,?_⟩,?_⟩
    . rw[htk];unfold bJ at X'⊢;rw[List.map_append];exact X'
    . show (((ks.length:Int) - (j+1:Nat)).toNat)<M 0;omega
  have hjk:j=ks.length:=by omega
  subst hjk;have hz:¬ (ks.length:Int)<kl.n:=by omega
  rw[List.take_length] at X;rw[aj,if_neg (by simpa[go_sem] using hz)];rw[ae,ik];refine⟨bJ (ks.map Tr.g),X.bytes,?_⟩;have hgl:(bJ (ks.map Tr.g)).length=ks.length:=by rw[bJ,List.length_map,List.length_map]
  have hfl:(bJ (ks.map Tr.g)).length<=1000000:=by omega
  have rk:=hr1 (k:=hh) 0 (.int .u8 x.k) hleh (by omega) rfl;have rn:=hr1 (k:=hh) 4 (.int .i64 x.n) hleh (by omega) rfl;have fin:∀ (C:Ctx) (e:BE) (v:Bool),dA h C.h->φ (.bool v) h->e.den C=v->Then E (.ret (.p (.one (.b e)))) C:=by
   intro C e v hC hv he;rw[ak,ep];refine⟨h,hC,?_⟩;simp only[VE.den,PE.den,CE.den];rw[he];exact hv
  obtain⟨k,x1,x2,x3,n,x5⟩:=x;simp only at hφ rk rn;have hIh:=hI.le X.kept;clear H hr1 hpx hM' hz hI X;by_cases hks:ks=[]
  . subst hks;have hz:¬ (0:Int)<kl.n:=by rw[hkn];simp
    rw[ah,if_neg (by simpa[go_sem] using hz)];rw[ai];refine⟨by simp[go_sem,ha]<;>omega,?_⟩;rw[ai];refine⟨by simp[go_sem,ha],?_⟩;refine rL ⟨[k],[],[],[],[],[]⟩ rfl af (by simpa[go_sem,ha] using rk) ?_;rcases Gl k with rfl | rfl | rfl | rfl | rfl | rfl | rfl | rfl | rfl | rfl | rfl | rfl | rfl | rfl | rfl | rfl | rfl | rfl | rfl | rfl | ⟨n1,n2,n3,n4,n5,n20,n6,n7,n8,n9,n10,n11,n12,n13,n27,n28,n29,n30,n31,n32⟩
    . repeat (first | (refine cZ ?_ ?_;focus (simp[go_sem]<;>fail)) | (refine cO ?_ ?_;focus (simp[go_sem]<;>fail)) | fail)
      rw[rf1] at hφ;rw[dn];by_cases hp0:p=0
      . rw[if_pos (by simp[go_sem,hp0]),sc1];refine⟨_,100,rfl,hfl,?_⟩;refine rR ⟨[],[onlyB (bJ (List.map Tr.g [])) 100],[],[],[],[]⟩ rfl af rfl ?_;refine fin _ _ _ hleh hφ ?_;simp[go_sem,hp0]
      . rw[if_neg (by simp[go_sem,hp0])];refine fin _ _ _ hleh hφ ?_;simp[go_sem,hp0]
    . repeat (first | (refine cZ ?_ ?_;focus (simp[go_sem]<;>fail)) | (refine cO ?_ ?_;focus (simp[go_sem]<;>fail)) | fail)
      rw[rf2] at hφ;rw[ag,sc1];refine⟨_,102,rfl,hfl,?_⟩;refine rR ⟨[],[onlyB (bJ (List.map Tr.g [])) 102],[],[],[],[]⟩ rfl af rfl ?_;refine fin _ _ _ hleh hφ ?_
      first | (simp[go_sem]<;>fail) | (simp[go_sem];rfl) | (simp[go_sem];done)
    . repeat (first | (refine cZ ?_ ?_;focus (simp[go_sem]<;>fail)) | (refine cO ?_ ?_;focus (simp[go_sem]<;>fail)) | fail)
      rw[rf3] at hφ;refine fin _ _ _ hleh hφ ?_
      first | (simp[go_sem,bJ]<;>fail) | (simp[go_sem,bJ];rfl) | (simp[go_sem,bJ];done)
    . repeat (first | (refine cZ ?_ ?_;focus (simp[go_sem]<;>fail)) | (refine cO ?_ ?_;focus (simp[go_sem]<;>fail)) | fail)
      rw[rf4] at hφ;rw[ai];refine⟨by simp[go_sem,bJ],?_⟩;rw[ai];refine⟨by simp[go_sem,bJ],?_⟩;rw[ai];refine⟨by simp[go_sem,bJ],?_⟩;rw[bY,if_neg (by simp[go_sem,bJ])];rw[ai];refine⟨by simp[go_sem,bJ],?_⟩;rw[ai];refine⟨by simp[go_sem,bJ],?_⟩;rw[dn,if_neg (by simp[go_sem,bJ])];rw[ai];refine⟨by simp[go_sem,bJ],?_⟩;rw[ai];refine⟨by simp[go_sem,bJ],?_⟩;rw[ai];refine⟨by simp[go_sem,bJ],?_⟩;rw[ai];refine⟨by simp[go_sem,bJ],?_⟩;rw[ai];refine⟨by simp[go_sem,bJ],?_⟩;rw[ai];refine⟨by simp[go_sem,bJ],?_⟩;refine fin _ _ _ hleh hφ ?_;simp[go_sem,bJ]
    . repeat (first | (refine cZ ?_ ?_;focus (simp[go_sem]<;>fail)) | (refine cO ?_ ?_;focus (simp[go_sem]<;>fail)) | fail)
      rw[rf5] at hφ;refine fin _ _ _ hleh hφ ?_
      first | (simp[go_sem,bJ]<;>fail) | (simp[go_sem,bJ];rfl) | (simp[go_sem,bJ];done)
    . repeat (first | (refine cZ ?_ ?_;focus (simp[go_sem]<;>fail)) | (refine cO ?_ ?_;focus (simp[go_sem]<;>fail)) | fail)
      rw[agk] at hφ;refine fin _ _ _ hleh hφ ?_
      first | (simp[go_sem,bJ]<;>fail) | (simp[go_sem,bJ];rfl) | (simp[go_sem,bJ];done)
    . repeat (first | (refine cZ ?_ ?_;focus (simp[go_sem]<;>fail)) | (refine cO ?_ ?_;focus (simp[go_sem]<;>fail)) | fail)
      rw[rf6] at hφ;rw[ag,sc1];refine⟨_,115,rfl,hfl,?_⟩;refine rR ⟨[],[onlyB (bJ (List.map Tr.g [])) 115],[],[],[],[]⟩ rfl af rfl ?_;refine fin _ _ _ hleh hφ ?_
      first | (simp[go_sem]<;>fail) | (simp[go_sem];rfl) | (simp[go_sem];done)
    . repeat (first | (refine cZ ?_ ?_;focus (simp[go_sem]<;>fail)) | (refine cO ?_ ?_;focus (simp[go_sem]<;>fail)) | fail)
      rw[rf7] at hφ;refine fin _ _ _ hleh hφ ?_
      first | (simp[go_sem,bJ]<;>fail) | (simp[go_sem,bJ];rfl) | (simp[go_sem,bJ];done)
    . repeat (first | (refine cZ ?_ ?_;focus (simp[go_sem]<;>fail)) | (refine cO ?_ ?_;focus (simp[go_sem]<;>fail)) | fail)
      rw[rf8] at hφ;refine fin _ _ _ hleh hφ ?_
      first | (simp[go_sem,bJ]<;>fail) | (simp[go_sem,bJ];rfl) | (simp[go_sem,bJ];done)
    . repeat (first | (refine cZ ?_ ?_;focus (simp[go_sem]<;>fail)) | (refine cO ?_ ?_;focus (simp[go_sem]<;>fail)) | fail)
      rw[rf9] at hφ;refine fin _ _ _ hleh hφ ?_
      first | (simp[go_sem,bJ]<;>fail) | (simp[go_sem,bJ];rfl) | (simp[go_sem,bJ];done)
    . repeat (first | (refine cZ ?_ ?_;focus (simp[go_sem]<;>fail)) | (refine cO ?_ ?_;focus (simp[go_sem]<;>fail)) | fail)
      rw[agf] at hφ;refine fin _ _ _ hleh hφ ?_
      first | (simp[go_sem,bJ]<;>fail) | (simp[go_sem,bJ];rfl) | (simp[go_sem,bJ];done)
    . repeat (first | (refine cZ ?_ ?_;focus (simp[go_sem]<;>fail)) | (refine cO ?_ ?_;focus (simp[go_sem]<;>fail)) | fail)
      rw[agh] at hφ;refine fin _ _ _ hleh hφ ?_
      first | (simp[go_sem,bJ]<;>fail) | (simp[go_sem,bJ];rfl) | (simp[go_sem,bJ];done)
    . repeat (first | (refine cZ ?_ ?_;focus (simp[go_sem]<;>fail)) | (refine cO ?_ ?_;focus (simp[go_sem]<;>fail)) | fail)
      rw[agi] at hφ;refine fin _ _ _ hleh hφ ?_
      first | (simp[go_sem,bJ]<;>fail) | (simp[go_sem,bJ];rfl) | (simp[go_sem,bJ];done)
    . repeat (first | (refine cZ ?_ ?_;focus (simp[go_sem]<;>fail)) | (refine cO ?_ ?_;focus (simp[go_sem]<;>fail)) | fail)
      rw[agj] at hφ;refine fin _ _ _ hleh hφ ?_
      first | (simp[go_sem,bJ]<;>fail) | (simp[go_sem,bJ];rfl) | (simp[go_sem,bJ];done)
    . repeat (first | (refine cZ ?_ ?_;focus (simp[go_sem]<;>fail)) | (refine cO ?_ ?_;focus (simp[go_sem]<;>fail)) | fail)
      rw[agl] at hφ;rw[ag,sc1];refine⟨_,101,rfl,hfl,?_⟩;refine rR ⟨[],[onlyB (bJ (List.map Tr.g [])) 101],[],[],[],[]⟩ rfl af rfl ?_;refine fin _ _ _ hleh hφ ?_
      first | (simp[go_sem]<;>fail) | (simp[go_sem];rfl) | (simp[go_sem];done)
    . repeat (first | (refine cZ ?_ ?_;focus (simp[go_sem]<;>fail)) | (refine cO ?_ ?_;focus (simp[go_sem]<;>fail)) | fail)
      rw[agm] at hφ;refine fin _ _ _ hleh hφ ?_
      first | (simp[go_sem,bJ]<;>fail) | (simp[go_sem,bJ];rfl) | (simp[go_sem,bJ];done)
    . repeat (first | (refine cZ ?_ ?_;focus (simp[go_sem]<;>fail)) | (refine cO ?_ ?_;focus (simp[go_sem]<;>fail)) | fail)
      rw[agn] at hφ;refine fin _ _ _ hleh hφ ?_
      first | (simp[go_sem,bJ]<;>fail) | (simp[go_sem,bJ];rfl) | (simp[go_sem,bJ];done)
    . repeat (first | (refine cZ ?_ ?_;focus (simp[go_sem]<;>fail)) | (refine cO ?_ ?_;focus (simp[go_sem]<;>fail)) | fail)
      rw[agp] at hφ;refine fin _ _ _ hleh hφ ?_
      first | (simp[go_sem,bJ]<;>fail) | (simp[go_sem,bJ];rfl) | (simp[go_sem,bJ];done)
    . repeat (first | (refine cZ ?_ ?_;focus (simp[go_sem]<;>fail)) | (refine cO ?_ ?_;focus (simp[go_sem]<;>fail)) | fail)
      rw[agq] at hφ;refine fin _ _ _ hleh hφ ?_
      first | (simp[go_sem,bJ]<;>fail) | (simp[go_sem,bJ];rfl) | (simp[go_sem,bJ];done)
    . repeat (first | (refine cZ ?_ ?_;focus (simp[go_sem]<;>fail)) | (refine cO ?_ ?_;focus (simp[go_sem]<;>fail)) | fail)
      rw[ags] at hφ;refine fin _ _ _ hleh hφ ?_
      first | (simp[go_sem,bJ]<;>fail) | (simp[go_sem,bJ];rfl) | (simp[go_sem,bJ];done)
    . repeat (first | (refine cZ ?_ ?_;focus (simp[go_sem,n1,n2,n3,n4,n5,n20,n6,n7,n8,n9,n10,n11,n12,n13,n27,n28,n29,n30,n31,n32]<;>fail)) | (refine cO ?_ ?_;focus (simp[go_sem,n1,n2,n3,n4,n5,n20,n6,n7,n8,n9,n10,n11,n12,n13,n27,n28,n29,n30,n31,n32]<;>fail)) | fail)
      rw[rfD _ _ _ (by omega) (by omega) (by omega)] at hφ;rw[ai];refine⟨by simp[go_sem,bJ,ha]<;>omega,?_⟩;rw[ai];refine⟨by simp[go_sem,ha],?_⟩;rw[bY,if_pos (by simp[go_sem,bJ])];refine (bQ _ _).2 ⟨⟨[k],[],[],[],[],[]⟩,rfl,af,by simpa[go_sem,ha] using rk,?_⟩;rw[ai];refine⟨by simp[go_sem,bJ,ha]<;>omega,?_⟩;rw[ai];refine⟨by simp[go_sem,ha],?_⟩;by_cases h14:14<=k
      . rw[bY,if_pos (by simp[go_sem,bJ,h14])];refine (bQ _ _).2 ⟨⟨[k],[],[],[],[],[]⟩,rfl,af,by simpa[go_sem,ha] using rk,?_⟩;refine fin _ _ _ hleh hφ ?_;simp[go_sem,bJ,h14,leB]
      . rw[bY,if_neg (by simp[go_sem,bJ];omega)];refine fin _ _ _ hleh hφ ?_;simp[go_sem,bJ,h14]
  have hpos:0<ks.length:=List.length_pos_iff.2 hks;have hz:(0:Int)<kl.n:=by omega
  obtain⟨t0,kr,rfl⟩:∃ t r,ks=t::r:=by
   cases ks with
   | nil=>exact absurd rfl hks
   | cons t r=>exact⟨t,r,rfl⟩
  obtain⟨b2,o2,ha2,hr2⟩:=hIh.read (j:=0) (by rw[dK];exact hpos);have hr2':hread hh (some (b2,o2+0*1+0)) 1=some [.int .i64 ((p+1:Nat):Int)]:=hr2;obtain⟨hql,hqx⟩:=hps.cons.1.node;have hrn:=hre hleh hql;rw[hqx] at hrn;have hfst:(List.map Tr.g (t0::kr)).getD 0 Gy=t0.g:=rfl;have hS0:¬ bJ (List.map Tr.g (t0::kr))=[]:=by simp[bJ]
  generalize t0::kr=ks at *;generalize t0.g=y at *;rw[ah,if_pos (by simpa[go_sem] using hz)];rw[ai];refine⟨by simp[go_sem,ha2]<;>omega,?_⟩;refine rL ⟨[((p+1:Nat):Int)],[],[],[],[],[]⟩ rfl af (by simpa[go_sem,ha2] using hr2') ?_;rw[ai];refine⟨by simp[go_sem,ha]<;>omega,?_⟩;refine rL ⟨[y.k,y.l,y.c,y.z,y.n],[],[y.x],[],[],[]⟩ rfl af (by simpa[go_sem,ha,Ng.cs] using hrn) ?_;rw[ai];refine⟨by simp[go_sem,ha]<;>omega,?_⟩;rw[ai];refine⟨by simp[go_sem,ha],?_⟩;refine rL ⟨[k],[],[],[],[],[]⟩ rfl af (by simpa[go_sem,ha] using rk) ?_;rcases Gl k with rfl | rfl | rfl | rfl | rfl | rfl | rfl | rfl | rfl | rfl | rfl | rfl | rfl | rfl | rfl | rfl | rfl | rfl | rfl | rfl | ⟨n1,n2,n3,n4,n5,n20,n6,n7,n8,n9,n10,n11,n12,n13,n27,n28,n29,n30,n31,n32⟩
  . repeat (first | (refine cZ ?_ ?_;focus (simp[go_sem]<;>fail)) | (refine cO ?_ ?_;focus (simp[go_sem]<;>fail)) | fail)
    rw[rf1] at hφ;rw[dn];by_cases hp0:p=0
    . rw[if_pos (by simp[go_sem,hp0]),sc1];refine⟨_,100,rfl,hfl,?_⟩;refine rR ⟨[],[onlyB (bJ (List.map Tr.g ks)) 100],[],[],[],[]⟩ rfl af rfl ?_;refine fin _ _ _ hleh hφ ?_;simp[go_sem,hp0]
    . rw[if_neg (by simp[go_sem,hp0])];refine fin _ _ _ hleh hφ ?_;simp[go_sem,hp0]
  . repeat (first | (refine cZ ?_ ?_;focus (simp[go_sem]<;>fail)) | (refine cO ?_ ?_;focus (simp[go_sem]<;>fail)) | fail)
    rw[rf2] at hφ;rw[ag,sc1];refine⟨_,102,rfl,hfl,?_⟩;refine rR ⟨[],[onlyB (bJ (List.map Tr.g ks)) 102],[],[],[],[]⟩ rfl af rfl ?_;refine fin _ _ _ hleh hφ ?_
    first | (simp[go_sem]<;>fail) | (simp[go_sem];rfl) | (simp[go_sem];done)
  . repeat (first | (refine cZ ?_ ?_;focus (simp[go_sem]<;>fail)) | (refine cO ?_ ?_;focus (simp[go_sem]<;>fail)) | fail)
    rw[rf3] at hφ;refine fin _ _ _ hleh hφ ?_
    first | (simp[go_sem]<;>fail) | (simp[go_sem];rfl) | (simp[go_sem];done)
  . repeat (first | (refine cZ ?_ ?_;focus (simp[go_sem]<;>fail)) | (refine cO ?_ ?_;focus (simp[go_sem]<;>fail)) | fail)
    rw[rf4] at hφ;generalize bJ (List.map Tr.g ks)=S at *;have e2:((S.length:Int) - 2).toNat=S.length - 2:=by omega
    have e1:((S.length:Int) - 1).toNat=S.length - 1:=by omega
    have e3:sub S 0 (S.length - 2)=S.take (S.length - 2):=by unfold sub;rw[List.drop_zero]
    by_cases hA:2<=S.length;rotate_left
    . have hA':¬ (2:Int)<=S.length:=by omega
      rw[ai];refine⟨by simp[go_sem,hA'],?_⟩;rw[ai];refine⟨by simp[go_sem,hA'],?_⟩;rw[ai];refine⟨by simp[go_sem,hA'],?_⟩;rw[bY,if_neg (by simp[go_sem,hA'])];rw[ai];refine⟨by simp[go_sem,hA'],?_⟩;rw[ai];refine⟨by simp[go_sem,hA'],?_⟩;rw[dn,if_neg (by simp[go_sem,hA'])];rw[ai];refine⟨by simp[go_sem],?_⟩;rw[ai];refine⟨by simp[go_sem],?_⟩;rw[ai];refine⟨by simp[go_sem],?_⟩;rw[ai];refine⟨by simp[go_sem],?_⟩;rw[ai];refine⟨by simp[go_sem],?_⟩;rw[ai];refine⟨by simp[go_sem],?_⟩;refine fin _ _ _ hleh hφ ?_;simp[go_sem,hA]
    have hA':(2:Int)<=S.length:=by omega
    rw[ai];refine⟨by split;(simp[go_sem];omega);trivial,?_⟩;rw[ai];refine⟨by split;(simp[go_sem,ha];omega);trivial,?_⟩;rw[ai];refine⟨by simp[go_sem,ha],?_⟩;rw[bY,if_pos (by simp[go_sem];omega)];refine (bQ _ _).2 ⟨⟨[n],[],[],[],[],[]⟩,rfl,af,by simpa[go_sem,ha] using rn,?_⟩;rw[ai];refine⟨by split;(simp[go_sem];omega);trivial,?_⟩;rw[ai];refine⟨by split;(simp[go_sem];omega);trivial,?_⟩;by_cases hB:(S.length:Int) - 2=n;rotate_left
    . rw[dn,if_neg (by simp[go_sem,hB])];rw[ai];refine⟨by simp[go_sem],?_⟩;rw[ai];refine⟨by simp[go_sem],?_⟩;rw[ai];refine⟨by simp[go_sem],?_⟩;rw[ai];refine⟨by simp[go_sem],?_⟩;rw[ai];refine⟨by simp[go_sem],?_⟩;rw[ai];refine⟨by simp[go_sem],?_⟩;refine fin _ _ _ hleh hφ ?_;simp[go_sem,hB]
    rw[dn,if_pos (by simp[go_sem,hB,(iJ 2 _).mpr hA']),sc1];refine⟨sub S 0 (S.length - 2),112,by simp[go_sem,e2,e3],by unfold sub;rw[List.length_drop,List.length_take];omega,?_⟩;refine rR ⟨[],[onlyB (sub S 0 (S.length - 2)) 112],[],[],[],[]⟩ rfl af rfl ?_;rw[ai];refine⟨by split;(simp[go_sem];omega);trivial,?_⟩;rw[ai];refine⟨by split;(simp[go_sem];omega);trivial,?_⟩;rw[ai];refine⟨by split;(simp[go_sem];omega);trivial,?_⟩;rw[ai];refine⟨by split;(simp[go_sem];omega);trivial,?_⟩;rw[ai];refine⟨by split;(simp[go_sem];omega);trivial,?_⟩;rw[ai];refine⟨by split;(simp[go_sem];omega);trivial,?_⟩;refine fin _ _ _ hleh hφ ?_;have e4:n.toNat=S.length - 2:=by omega
    first | (simp[go_sem,e1,e4,hA,hB,(iJ 2 _).mpr hA']<;>fail) | (simp[go_sem,e1,e4,hA,hB,(iJ 2 _).mpr hA'];rfl)
  . repeat (first | (refine cZ ?_ ?_;focus (simp[go_sem]<;>fail)) | (refine cO ?_ ?_;focus (simp[go_sem]<;>fail)) | fail)
    rw[rf5] at hφ;refine fin _ _ _ hleh hφ ?_
    first | (simp[go_sem]<;>fail) | (simp[go_sem];rfl) | (simp[go_sem];done)
  . repeat (first | (refine cZ ?_ ?_;focus (simp[go_sem]<;>fail)) | (refine cO ?_ ?_;focus (simp[go_sem]<;>fail)) | fail)
    rw[agk] at hφ;refine fin _ _ _ hleh hφ ?_
    first | (simp[go_sem]<;>fail) | (simp[go_sem];rfl) | (simp[go_sem];done)
  . repeat (first | (refine cZ ?_ ?_;focus (simp[go_sem]<;>fail)) | (refine cO ?_ ?_;focus (simp[go_sem]<;>fail)) | fail)
    rw[rf6] at hφ;rw[ag,sc1];refine⟨_,115,rfl,hfl,?_⟩;refine rR ⟨[],[onlyB (bJ (List.map Tr.g ks)) 115],[],[],[],[]⟩ rfl af rfl ?_;refine fin _ _ _ hleh hφ ?_
    first | (simp[go_sem]<;>fail) | (simp[go_sem];rfl) | (simp[go_sem];done)
  . repeat (first | (refine cZ ?_ ?_;focus (simp[go_sem]<;>fail)) | (refine cO ?_ ?_;focus (simp[go_sem]<;>fail)) | fail)
    rw[rf7] at hφ;refine fin _ _ _ hleh hφ ?_
    first | (simp[go_sem]<;>fail) | (simp[go_sem];rfl) | (simp[go_sem];done)
  . repeat (first | (refine cZ ?_ ?_;focus (simp[go_sem]<;>fail)) | (refine cO ?_ ?_;focus (simp[go_sem]<;>fail)) | fail)
    rw[rf8,hfst] at hφ;refine fin _ _ _ hleh hφ ?_
    first | (simp[go_sem,Bool.or_assoc]<;>fail) | (simp[go_sem,Bool.or_assoc];rfl) | (simp[go_sem,Bool.or_assoc];done)
  . repeat (first | (refine cZ ?_ ?_;focus (simp[go_sem]<;>fail)) | (refine cO ?_ ?_;focus (simp[go_sem]<;>fail)) | fail)
    rw[rf9] at hφ;refine fin _ _ _ hleh hφ ?_
    first | (simp[go_sem]<;>fail) | (simp[go_sem];rfl) | (simp[go_sem];done)
  . repeat (first | (refine cZ ?_ ?_;focus (simp[go_sem]<;>fail)) | (refine cO ?_ ?_;focus (simp[go_sem]<;>fail)) | fail)
    rw[agf] at hφ;refine fin _ _ _ hleh hφ ?_
    first | (simp[go_sem]<;>fail) | (simp[go_sem];rfl) | (simp[go_sem];done)
  . repeat (first | (refine cZ ?_ ?_;focus (simp[go_sem]<;>fail)) | (refine cO ?_ ?_;focus (simp[go_sem]<;>fail)) | fail)
    rw[agh] at hφ;refine fin _ _ _ hleh hφ ?_
    first | (simp[go_sem]<;>fail) | (simp[go_sem];rfl) | (simp[go_sem];done)
  . repeat (first | (refine cZ ?_ ?_;focus (simp[go_sem]<;>fail)) | (refine cO ?_ ?_;focus (simp[go_sem]<;>fail)) | fail)
    rw[agi] at hφ;refine fin _ _ _ hleh hφ ?_
    first | (simp[go_sem]<;>fail) | (simp[go_sem];rfl) | (simp[go_sem];done)
  . repeat (first | (refine cZ ?_ ?_;focus (simp[go_sem]<;>fail)) | (refine cO ?_ ?_;focus (simp[go_sem]<;>fail)) | fail)
    rw[agj,hfst] at hφ;refine fin _ _ _ hleh hφ ?_
    first | (simp[go_sem]<;>fail) | (simp[go_sem];rfl) | (simp[go_sem,Bool.or_assoc];done)
  . repeat (first | (refine cZ ?_ ?_;focus (simp[go_sem]<;>fail)) | (refine cO ?_ ?_;focus (simp[go_sem]<;>fail)) | fail)
    rw[agl] at hφ;rw[ag,sc1];refine⟨_,101,rfl,hfl,?_⟩;refine rR ⟨[],[onlyB (bJ (List.map Tr.g ks)) 101],[],[],[],[]⟩ rfl af rfl ?_;refine fin _ _ _ hleh hφ ?_
    first | (simp[go_sem]<;>fail) | (simp[go_sem];rfl) | (simp[go_sem];done)
  . repeat (first | (refine cZ ?_ ?_;focus (simp[go_sem]<;>fail)) | (refine cO ?_ ?_;focus (simp[go_sem]<;>fail)) | fail)
    rw[agm] at hφ;refine fin _ _ _ hleh hφ ?_
    first | (simp[go_sem]<;>fail) | (simp[go_sem];rfl) | (simp[go_sem];done)
  . repeat (first | (refine cZ ?_ ?_;focus (simp[go_sem]<;>fail)) | (refine cO ?_ ?_;focus (simp[go_sem]<;>fail)) | fail)
    rw[agn] at hφ;refine fin _ _ _ hleh hφ ?_
    first | (simp[go_sem]<;>fail) | (simp[go_sem];rfl) | (simp[go_sem];done)
  . repeat (first | (refine cZ ?_ ?_;focus (simp[go_sem]<;>fail)) | (refine cO ?_ ?_;focus (simp[go_sem]<;>fail)) | fail)
    rw[agp] at hφ;refine fin _ _ _ hleh hφ ?_
    first | (simp[go_sem]<;>fail) | (simp[go_sem];rfl) | (simp[go_sem];done)
  . repeat (first | (refine cZ ?_ ?_;focus (simp[go_sem]<;>fail)) | (refine cO ?_ ?_;focus (simp[go_sem]<;>fail)) | fail)
    rw[agq] at hφ;refine fin _ _ _ hleh hφ ?_
    first | (simp[go_sem]<;>fail) | (simp[go_sem];rfl) | (simp[go_sem];done)
  . repeat (first | (refine cZ ?_ ?_;focus (simp[go_sem]<;>fail)) | (refine cO ?_ ?_;focus (simp[go_sem]<;>fail)) | fail)
    rw[ags,hfst] at hφ;refine fin _ _ _ hleh hφ ?_
    first | (simp[go_sem]<;>fail) | (simp[go_sem];rfl) | (simp[go_sem,Bool.or_assoc];done)
  . repeat (first | (refine cZ ?_ ?_;focus (simp[go_sem,n1,n2,n3,n4,n5,n20,n6,n7,n8,n9,n10,n11,n12,n13,n27,n28,n29,n30,n31,n32]<;>fail)) | (refine cO ?_ ?_;focus (simp[go_sem,n1,n2,n3,n4,n5,n20,n6,n7,n8,n9,n10,n11,n12,n13,n27,n28,n29,n30,n31,n32]<;>fail)) | fail)
    rw[rfD _ _ _ (by omega) (by omega) (by omega)] at hφ;rw[ai];refine⟨by simp[go_sem,hS0],?_⟩;rw[ai];refine⟨by simp[go_sem,hS0],?_⟩;rw[bY,if_neg (by simp[go_sem,hS0])];rw[ai];refine⟨by simp[go_sem,hS0],?_⟩;rw[ai];refine⟨by simp[go_sem,hS0],?_⟩;rw[bY,if_neg (by simp[go_sem,hS0])];have hS1:(bJ (List.map Tr.g ks)).isEmpty=false:=by rw[List.isEmpty_eq_false_iff];exact hS0
    refine fin _ _ _ hleh hφ ?_;simp[go_sem,hS1]
def LD:Fm:=(.loop 0 ⟨[(.c 0),(.c 0)],[(.c false)],[],[],[],[]⟩
 (.ite (.lt (.x 1) (.cnt (.x 0)))
 (.N (.X (.x 1) (.x 0))
 (.N (.nns (.x 0))
 (.O (.el (.x 0) (.x 1) 6 5) 1 [(.s (.x 0))] ⟨0,0,1,0,0,0⟩
 (.N (.and (.le (.c (-9223372036854775808)) (.add (.c 1) (.ite (.lt (.c 5000) (.len (.x 0))) (.c 5000) (.len (.x 0))))) (.le (.add (.c 1) (.ite (.lt (.c 5000) (.len (.x 0))) (.c 5000) (.len (.x 0)))) (.c 9223372036854775807)))
 (.N (.and (.le (.c (-9223372036854775808)) (.add (.x 0) (.add (.c 1) (.ite (.lt (.c 5000) (.len (.x 0))) (.c 5000) (.len (.x 0)))))) (.le (.add (.x 0) (.add (.c 1) (.ite (.lt (.c 5000) (.len (.x 0))) (.c 5000) (.len (.x 0))))) (.c 9223372036854775807)))
 (.ite (.lt (.c 4000) (.add (.x 0) (.add (.c 1) (.ite (.lt (.c 5000) (.len (.x 0))) (.c 5000) (.len (.x 0))))))
 (.ret (.p (.one (.b (.c true)))))
 (.N (.R (.add (.x 1) (.c 1)))
 (.again 0 ⟨0,0,0,0,1,0⟩ ⟨2,1,0,0,1,0⟩ ⟨[(.add (.x 0) (.add (.c 1) (.ite (.lt (.c 5000) (.len (.x 0))) (.c 5000) (.len (.x 0))))),(.add (.x 1) (.c 1))],[(.x 0)],[],[],[],[]⟩))))))))
 (.ret (.p (.one (.b (.c false)))))))
theorem VR:aZ ⟨true,[]⟩ Tryz.prog (fun l=>([⟨[3,2,7],[8,9,4,10,11,12,13,14,15,16,17,18,19,20,21,22],[]⟩]:List bK).getD l ⟨[],[],[]⟩) Tryz.f11=LD:=by kernel_rfl
theorem aal:az Tryz.prog .zero Tryz.f11.params.toList=some ([.L 0],⟨0,0,0,0,1,0⟩):=by kernel_rfl
def vG:Nat->List Ng->Bool
 | _,[]=>false
 | n,x::l=>if 4000<n+(1+min x.x.length 5000) then true else vG (n+(1+min x.x.length 5000)) l
theorem TR:∀ {l:List Ng} {n:Nat},n<=4000->vG n l=false->n+l.length<=4000/\∀ x∈l,x.x.length<=4000
 | [],n,hn,_=>⟨by simpa using hn,fun x hx=>by cases hx⟩
 | x::l,n,hn,h=>by
   rw[vG] at h;split at h
   . cases h
   . rename_i hlt;obtain⟨h1,h2⟩:=TR (by omega) h;refine⟨by rw[List.length_cons];omega,fun y hy=>?_⟩;rcases List.mem_cons.1 hy with rfl | hy
     . omega
     . exact h2 y hy
def TQ (h:Hp) (sl:bM) (l:List Ng) (_:Nat) (C:Ctx):Prop:=
 ∃ (j n:Nat) (b:Bool),C=⟨[n,j],[b],[],[],[sl],[],h,df⟩/\j<=l.length/\j<=n/\n<=4000/\vG 0 l=vG n (l.drop j)
set_option maxHeartbeats 4000000 in
def RU:Ct Tryz.prog where
 f:=11
 spec:=fun args h φ=>∃ sl l,args=[bM.val sl]/\NG h sl l/\l.length<=9223372036854775807/\φ (.bool (vG 0 l)) h
 ok:=by
  rintro args h φ w ⟨sl,l,rfl,R,hl,hφ⟩ hH;refine bn Tryz.func11 VR aal [] φ (TQ h sl l) (fun _ C=>((l.length:Int) - C.i.getD 1 0).toNat) ⟨[],[],[],[],[sl],[],h,df⟩ ⟨rfl,rfl,rfl,rfl,rfl,rfl⟩ af ?_ w hH rfl;generalize hE:(⟨aG _,_,_,_⟩:Env)=E;have ep:E.post=φ:=by rw[<- hE]
  have ei:E.inv=(TQ h sl l):=by rw[<- hE]
  have em:E.meas=(fun _ C=>((l.length:Int) - C.i.getD 1 0).toNat):=by rw[<- hE]
  clear hE;unfold LD;have hn:=NG.n R;refine bI ?_ ?_
  . rw[ei];exact⟨0,0,false,rfl,Nat.zero_le _,Nat.zero_le _,Nat.zero_le _,by rw[List.drop_zero]⟩
  rw[ei,em];rintro i bbs ss v ll pp hh M ⟨j,n,b,hC,hj,hjn,hn4,hF⟩ hM;cases hC;have hM':M 0=((l.length:Int) - j).toNat:=hM;clear hM;by_cases hjl:j<l.length;rotate_left
  . have hz:¬ ((j:Int)<sl.n):=by omega
    rw[aj,if_neg (by simpa[go_sem] using hz)];rw[ak,ep];rw[List.drop_eq_nil_of_le (by omega),vG] at hF;rw[hF] at hφ;exact hφ
  have hz:(j:Int)<sl.n:=by omega
  obtain⟨b2,o,ha⟩:=Rows.nn R (j:=j) (by omega);have rz:=Rows.read (off:=5) (m:=1) R (j:=j) (by omega) (by omega) ha;rw[<- List.drop_drop,jl hjl] at rz;rw[List.drop_eq_getElem_cons hjl,vG] at hF;generalize l[j]=x at *;rw[aj,if_pos (by simpa[go_sem] using hz)];rw[ai];refine⟨by simp[go_sem,ha]<;>omega,?_⟩;rw[ai];refine⟨by simp[go_sem,ha],?_⟩;refine rL ⟨[],[],[x.x],[],[],[]⟩ rfl af (by simpa[go_sem,ha,Ng.cs] using rz) ?_;have hmin:(bif TM 5000 (x.x.length:Int) then (5000:Int) else (x.x.length:Int))=((min x.x.length 5000:Nat):Int):=by
   by_cases hq:(5000:Int)<(x.x.length:Int)
   . rw[(nI _ _).mpr hq];simp only[cond_true];omega
   . rw[(Zw _ _).mpr (by omega)];simp only[cond_false];omega
  generalize hm:min x.x.length 5000=m at *;have hm5:m<=5000:=by omega
  rw[ai];refine⟨by simp[go_sem,hmin]<;>omega,?_⟩;rw[ai];refine⟨by simp[go_sem,hmin]<;>omega,?_⟩;by_cases hbig:4000<n+(1+m)
  . rw[if_pos hbig] at hF;rw[ah,if_pos (by simp[go_sem,hmin];omega)];rw[ak,ep];rw[hF] at hφ;exact hφ
  rw[if_neg hbig] at hF;rw[ah,if_neg (by simp[go_sem,hmin];omega)];rw[ai];refine⟨by simp[go_sem]<;>omega,?_⟩;rw[ae,says_again,ei,em];refine⟨⟨j+1,n+(1+m),b,?_,hjl,by omega,by omega,hF⟩,?_⟩
  . simp[go_sem,hmin]
  . show (((l.length:Int) - (j+1:Nat)).toNat)<M 0;omega
def Tn:Fm:=(.C 29 [.L 0] (.p (.B 0)) ⟨0,1,0,0,0,0⟩
 (.need (.x 0) (.X (.c 0) (.x 0))
 (.need (.x 0) (.nns (.x 0))
 (.load (.x 0) (.el (.x 0) (.c 0) 6 0) 1 [.U 0] ⟨1,0,0,0,0,0⟩
 (.ite (.or (.not (.x 0)) (.not (.eqI (.x 0) (.c 1))))
 (.ret (.p (.one (.b (.c false)))))
 (.loop 0 ⟨[(.c 0)],[(.c false)],[],[],[],[]⟩
 (.ite (.lt (.x 1) (.cnt (.x 0)))
 (.N (.X (.x 1) (.x 0))
 (.O (.el (.x 0) (.x 1) 6 0) 6 [.U 2,.J 3,.J 4,.J 5,.J 6,(.s (.x 0))] ⟨5,0,1,0,0,0⟩
 (.C 36 [(.agg [.U 2,.J 3,.J 4,.J 5,.J 6,(.s (.x 0))])] (.p (.B 2)) ⟨0,1,0,0,0,0⟩
 (.call (.x 2) false 37 [.L 0,.J 1] (.p (.B 3)) ⟨0,1,0,0,0,0⟩
 (.ite (.or (.not (.x 2)) (.not (.x 3)))
 (.ret (.p (.one (.b (.c false)))))
 (.N (.R (.add (.x 1) (.c 1)))
 (.again 0 ⟨1,1,0,0,1,0⟩ ⟨2,2,0,0,1,0⟩ ⟨[(.add (.x 1) (.c 1))],[(.x 1)],[],[],[],[]⟩)))))))
 (.ret (.p (.one (.b (.c true))))))))))))
theorem Y7:aZ ⟨true,[]⟩ Tryz.prog (fun l=>([⟨[2,16],[17,18,3,19,20,21,22,23,24,25,26,27,28,29,30,31],[]⟩]:List bK).getD l ⟨[],[],[]⟩) Tryz.f17=Tn:=by kernel_rfl
theorem ac4:az Tryz.prog .zero Tryz.f17.params.toList=some ([.L 0],⟨0,0,0,0,1,0⟩):=by kernel_rfl
def okW (i:Nat) (s:Tr):Bool:=uI s.g&&iP i s.g.k s.g.n (s.kl.map Tr.g)
def Jd:Nat->List Tr->Bool
 | _,[]=>true
 | i,s::l=>okW i s&&Jd (i+1) l
theorem ab9 {x:Ng} (h:x.k=4):fieldsB x=(aT o8 x.x&&leB 0 x.n):=by
 unfold fieldsB;rw[h];rfl
theorem ae1 {i:Nat} {s:Tr} (hi:i≠0):okW i s=okI i s:=by
 unfold okW okI;rw[if_neg hi];unfold uI iP;by_cases h1:s.g.k=1
 . rw[if_pos h1,decide_eq_false hi,if_neg (by omega)];have:fG s.g.k s.g.n (s.kl.map Tr.g)=false:=by rw[h1];rfl
   rw[this,Bool.false_and]
 . rw[if_neg h1];by_cases h4:s.g.k=4
   . rw[if_pos h4,ab9 h4,h4];show (_&&YM _ _)=(_&&YM _ _);unfold YM;by_cases h2:2<=(s.kl.map Tr.g).length
     . by_cases hn:((s.kl.map Tr.g).length:Int) - 2=s.g.n
       . rw[(iJ _ _).mpr (show (0:Int)<=s.g.n by omega),Bool.and_true]
       . rw[decide_eq_false hn];simp
     . rw[decide_eq_false h2];simp
   . rw[if_neg h4]
theorem Ug:∀ (l:List Tr) (i:Nat),i≠0->Jd i l=xQ i l
 | [],_,_=>rfl
 | s::l,i,hi=>by rw[Jd,xQ,ae1 hi,Ug l (i+1) (by omega)]
theorem aeW {t:Tr} (h1:t.g.k=1):Jd 0 t.subs=tC t:=by
 obtain⟨k,l,c,n,x,ks⟩:=t;have hk:k=1:=h1;subst hk;unfold tC;rw[Tr.subs,Jd,xQ,Ug _ _ (by omega),decide_eq_true h1,Bool.true_and,<- Bool.and_assoc];congr 1
def TW (h:Hp) (sl:bM) (t:Tr) (_:Nat) (C:Ctx):Prop:=
 ∃ (j:Nat) (b:Bool) (k:Int),C=⟨[k,j],[true,b],[],[],[sl],[],h,df⟩/\j<=t.n/\Jd 0 t.subs=Jd j (t.subs.drop j)
theorem Ps.root {l:List Ng} {p:Nat} {s:Tr} (P:Ps l p s):vU l p s.g s.kl:=by
 obtain⟨hp,hx⟩:=P.node;obtain⟨pre,post,rfl,rfl⟩:=P;obtain⟨k,ln,c,n,x,ks⟩:=s;refine⟨by rw[List.getElem?_eq_getElem hp,hx],rfl,post,?_⟩;rw[nC,List.append_assoc,<- List.drop_drop,List.drop_left];rfl
set_option maxHeartbeats 4000000 in
def Yf:Ct Tryz.prog where
 f:=17
 spec:=fun args h φ=>∃ sl l,args=[bM.val sl]/\NG h sl l/\l.length<=1000000/\(∀ x∈l,x.x.length<=100000)/\∀ b:Bool,(b=true↔∃ t,l=Tr.gs t/\tC t=true)->φ (.bool b) h
 ok:=by
  rintro args h φ w ⟨sl,l,rfl,R,hl,hx,hφ⟩ hH;have hb:∃ t,l=Tr.gs t\/∀ u,l≠Tr.gs u:=by
   by_cases h0:∃ t,l=Tr.gs t
   . obtain⟨t,ht⟩:=h0;exact⟨t,.inl ht⟩
   . exact⟨.nd 0 0 0 0 [] [],.inr fun u e=>h0 ⟨u,e⟩⟩
  obtain⟨t,ht⟩:=hb;refine bn Tryz.func17 Y7 ac4 [BO,J9,EZ] φ (TW h sl t) (fun _ C=>((t.n:Int) - C.i.getD 1 0).toNat) ⟨[],[],[],[],[sl],[],h,df⟩ ⟨rfl,rfl,rfl,rfl,rfl,rfl⟩ af ?_ w hH rfl;generalize hE:(⟨aG _,_,_,_⟩:Env)=E;have sc2:E.spec 29=(BO).spec:=by rw[<- hE];rfl
  have sc3:E.spec 36=(J9).spec:=by rw[<- hE];rfl
  have sc4:E.spec 37=(EZ).spec:=by rw[<- hE];rfl
  have ep:E.post=φ:=by rw[<- hE]
  have ei:E.inv=(TW h sl t):=by rw[<- hE]
  have em:E.meas=(fun _ C=>((t.n:Int) - C.i.getD 1 0).toNat):=by rw[<- hE]
  clear hE;unfold Tn;have hn:=NG.n R;rw[au,if_pos (by rfl),sc2];refine⟨sl,l,rfl,R,hl,fun b0 hb0=>?_⟩;refine rR ⟨[],[b0],[],[],[],[]⟩ rfl af rfl ?_;cases b0 with
  | false=>
    rw[ai];refine⟨by simp[go_sem],?_⟩;rw[ai];refine⟨by simp[go_sem],?_⟩;rw[bY,if_neg (by simp[go_sem]),ae,aj,if_pos (by simp[go_sem])];rw[ak,ep];exact hφ _ ⟨fun e=>(by cases e),fun ⟨u,hu,_⟩=>hb0.2 ⟨u,hu⟩⟩
  | true=>
    obtain⟨u,hu⟩:=hb0.1 rfl;rcases ht with rfl | hno
    rotate_left
    . exact absurd hu (hno u)
    clear hb0 hu u;have P0:Ps t.gs 0 t:=⟨[],[],by simp,rfl⟩;have hpos:=ug t;have hgl:=kN t;have hφ':∀ b:Bool,b=tC t->φ (.bool b) h:=fun b hb=>hφ b ⟨fun e=>⟨t,rfl,by rw[<- hb,e]⟩,fun ⟨u,e,h'⟩=>by
     have:=Og (t:=t) (u:=u) (r:=[]) (s:=[]) (by rw[e]);rw[hb,this.1];exact h'⟩
    obtain⟨b1,o,ha⟩:=Rows.nn R (j:=0) (by omega);obtain⟨h0l,h0x⟩:=P0.node;have rk:=Rows.read (off:=0) (m:=1) R (j:=0) (by omega) (by omega) ha;rw[<- List.drop_drop,jl h0l,h0x] at rk;have hz0:sl.n≠0:=by omega
    rw[ai];refine⟨by simp[go_sem,ha]<;>omega,?_⟩;rw[ai];refine⟨by simp[go_sem,ha],?_⟩;refine rL ⟨[t.g.k],[],[],[],[],[]⟩ rfl af (by simpa[go_sem,ha,Ng.cs] using rk) ?_;by_cases h1:t.g.k=1;rotate_left
    . rw[ah,if_pos (by simpa[go_sem] using h1)];rw[ak,ep];refine hφ' _ ?_;unfold tC;rw[decide_eq_false h1,Bool.false_and,Bool.false_and];rfl
    rw[<- aeW h1] at hφ';rw[ah,if_neg (by simpa[go_sem] using h1),ae];refine bI ?_ ?_
    . rw[ei];exact⟨0,false,t.g.k,rfl,Nat.zero_le _,by rw[List.drop_zero]⟩
    rw[ei,em];rintro i bbs ss v ll pp hh M ⟨j,b,k,hC,hj,hF⟩ hM;cases hC;have hM':M 0=((t.n:Int) - j).toNat:=hM;clear hM rk;have hsl:=tZ t;by_cases hjl:j<t.n;rotate_left
    . have hz:¬ ((j:Int)<sl.n):=by omega
      rw[aj,if_neg (by simpa[go_sem] using hz)];rw[ak,ep];rw[List.drop_eq_nil_of_le (by omega),Jd] at hF;exact hφ' _ hF.symm
    have hz:(j:Int)<sl.n:=by omega
    have hjs:j<t.subs.length:=by omega
    rw[List.drop_eq_getElem_cons hjs,Jd] at hF;have hsub:t.subs[j]? = some t.subs[j]:=List.getElem?_eq_getElem hjs;generalize t.subs[j]=s at *;have P:=Jw t P0 j s hsub;rw[Nat.zero_add] at P;have hroot:=P.root;obtain⟨hjl2,hjx⟩:=P.node;have hnd:=NG.node R hjl2 ha;rw[hjx] at hnd;have hxl:=hx _ (List.getElem_mem hjl2);rw[hjx] at hxl;rw[aj,if_pos (by simpa[go_sem] using hz)];rw[ai];refine⟨by simp[go_sem,ha]<;>omega,?_⟩;refine rL ⟨[s.g.k,s.g.l,s.g.c,s.g.z,s.g.n],[],[s.g.x],[],[],[]⟩ rfl af (by simpa[go_sem,ha,Ng.cs] using hnd) ?_;rw[ag,sc3];refine⟨s.g,rfl,hxl,?_⟩;refine rR ⟨[],[uI s.g],[],[],[],[]⟩ rfl af rfl ?_;cases hf:uI s.g with
    | false=>
      rw[dn,if_neg (by simp[go_sem])];rw[ah,if_pos (by simp[go_sem])];rw[ak,ep];refine hφ' _ ?_;rw[hF];unfold okW;rw[hf];rfl
    | true=>
      rw[dn,if_pos (by simp[go_sem]),sc4];refine⟨sl,t.gs,j,s.g,s.kl,rfl,R,hl,hroot,?_⟩;refine rR ⟨[],[iP j s.g.k s.g.n (s.kl.map Tr.g)],[],[],[],[]⟩ rfl af rfl ?_;cases hg:iP j s.g.k s.g.n (s.kl.map Tr.g) with
      | false=>
        rw[ah,if_pos (by simp[go_sem])];rw[ak,ep];refine hφ' _ ?_;rw[hF];unfold okW;rw[hf,hg];rfl
      | true=>
        rw[ah,if_neg (by simp[go_sem])];rw[ai];refine⟨by simp[go_sem]<;>omega,?_⟩;rw[ae,says_again,ei,em];refine⟨⟨j+1,b,k,rfl,hjl,?_⟩,?_⟩
        . rw[hF];unfold okW;rw[hf,hg];rfl
        . show (((t.n:Int) - (j+1:Nat)).toNat)<M 0;omega
end
theorem agt {p q r:Ng->Bool} {ks:List Tr} (h:rowB [p,q,r] (ks.map Tr.g)=true):∃ a b c,ks=[a,b,c]/\p a.g=true/\q b.g=true/\r c.g=true:=by
 match ks,h with
 | [a,b,c],h=>exact⟨a,b,c,rfl,by simpa[rowB,and_assoc] using h⟩
 | [],h=>simp[rowB] at h
 | [_],h=>simp[rowB] at h
 | [_,_],h=>simp[rowB] at h
 | _::_::_::_::_,h=>simp[rowB] at h
theorem k_g (t:Tr):t.g.k=t.k:=by cases t;rfl
def OfS (m:Nat):Prop:=(∀ t:Tr,t.n<=m->nB t->kW t=true->ut 7 13 t.g=true->JR t)/\(∀ t:Tr,t.n<=m->nB t->kW t=true->wB t.g=true->JQ t)
theorem UX {m:Nat} (ih:∀ t:Tr,t.n<=m->nB t->kW t=true->ut 7 13 t.g=true->JR t):∀ ks:List Tr,Tr.ns ks<=m->(∀ t∈ks,nB t)->ks.all kW=true->(ks.map Tr.g).all (ut 7 13)=true->qC ks
 | [],_,_,_,_=>.nil
 | t::ts,hm,hb,h1,h2=>by
   rw[ay] at hm;rw[List.all_cons,Bool.and_eq_true] at h1;rw[List.map_cons,List.all_cons,Bool.and_eq_true] at h2;exact .cons _ _ (ih t (by omega) (hb t (by simp)) h1.1 h2.1) (UX ih ts (by omega) (fun u hu=>hb u (List.mem_cons_of_mem _ hu)) h1.2 h2.2)
theorem abD:∀ m,OfS m
 | 0=>⟨fun t hm=>by rw[mQ] at hm;omega,fun t hm=>by rw[mQ] at hm;omega⟩
 | m+1=>by
   obtain⟨i1,i2⟩:=abD m;refine⟨fun t hm hnb h hk=>?_,fun t hm hnb h hk=>?_⟩
   . obtain⟨k,l,c,n,x,ks⟩:=t;obtain⟨h1,h2,h3⟩:=ni h;obtain⟨⟨_,hxl⟩,hb2⟩:=Dx hnb;have hkk:(decide (7<=k)&&decide (k<=13))=true:=hk;simp only[Bool.and_eq_true,decide_eq_true_eq] at hkk;rw[iC] at hm;have dflt:(x==[]&&decide (n=0))=true->x=[]/\n=0:=fun hf=>by
      simp only[Bool.and_eq_true,decide_eq_true_eq] at hf;exact⟨mf hf.1,hf.2⟩
     have part:∀ a∈ks,a.n<=m/\nB a/\kW a=true:=fun a ha=>by
      refine⟨?_,hb2 a ha,List.all_eq_true.1 h3 a ha⟩;obtain⟨u,v,rfl⟩:=List.append_of_mem ha;rw[iZ,ay] at hm;omega
     have pE:∀ a∈ks,wE a.g=true->jC a:=fun a ha he=>Rq a.n a (Nat.le_refl _) (part a ha).2.1 (part a ha).2.2 he
     have pK:∀ a∈ks,Oo a.g=true->yK a:=fun a ha he=>zu a.n a (Nat.le_refl _) (part a ha).2.1 (part a ha).2.2 he
     have pB:∀ a∈ks,wB a.g=true->JQ a:=fun a ha he=>i2 a (part a ha).1 (part a ha).2.1 (part a ha).2.2 he
     have hcase:k=7\/k=8\/k=9\/k=10\/k=11\/k=12\/k=13:=by omega
     rcases hcase with rfl | rfl | rfl | rfl | rfl | rfl | rfl
     . have hf:(aT o8 x&&decide (n=0))=true:=h1;simp only[Bool.and_eq_true,decide_eq_true_eq] at hf;obtain rfl:=hf.2;obtain⟨a,b,rfl,ha,hb⟩:=D8 (show rowB [Oo,wE] (ks.map Tr.g)=true from h2);exact .var _ _ _ (jG hf.1 hxl) _ _ (pK a (by simp) ha) (pE b (by simp) hb)
     . obtain⟨rfl,rfl⟩:=dflt h1;obtain⟨a,b,rfl,ha,hb⟩:=D8 (show rowB [wO [26,28,29],wE] (ks.map Tr.g)=true from h2);have hak:a.k=26\/a.k=28\/a.k=29:=by
        rw[<- k_g];simpa using ha
       refine .set _ _ _ _ (pE a (by simp) ?_) hak (pE b (by simp) hb);rw[<- k_g] at hak;rcases hak with e | e | e<;>simp only[ut,e]<;>rfl
     . obtain⟨rfl,rfl⟩:=dflt h1;have hr:(rowB [wE,wB] (ks.map Tr.g)||rowB [wE,wB,wB] (ks.map Tr.g))=true:=h2;rw[Bool.or_eq_true] at hr;rcases hr with hr | hr
       . obtain⟨a,b,rfl,ha,hb⟩:=D8 hr;exact .if1 _ _ _ _ (pE a (by simp) ha) (pB b (by simp) hb)
       . obtain⟨a,b,d,rfl,ha,hb,hd⟩:=agt hr;exact .if2 _ _ _ _ _ (pE a (by simp) ha) (pB b (by simp) hb) (pB d (by simp) hd)
     . obtain⟨rfl,rfl⟩:=dflt h1;obtain⟨a,b,rfl,ha,hb⟩:=D8 (show rowB [wE,wB] (ks.map Tr.g)=true from h2);exact .while_ _ _ _ _ (pE a (by simp) ha) (pB b (by simp) hb)
     . obtain⟨rfl,rfl⟩:=dflt h1;have hr:(rowB [] (ks.map Tr.g)||rowB [wE] (ks.map Tr.g))=true:=h2;rw[Bool.or_eq_true] at hr;rcases hr with hr | hr
       . obtain rfl:=vO hr;exact .ret0 _ _
       . obtain⟨a,rfl,ha⟩:=Aa hr;exact .ret1 _ _ _ (pE a (by simp) ha)
     . obtain⟨rfl,rfl⟩:=dflt h1;obtain⟨a,rfl,ha⟩:=Aa (show rowB [wE] (ks.map Tr.g)=true from h2);exact .print _ _ _ (pE a (by simp) ha)
     . obtain⟨rfl,rfl⟩:=dflt h1;obtain⟨a,rfl,ha⟩:=Aa (show rowB [wO [27]] (ks.map Tr.g)=true from h2);have hak:=wO1 ha;refine .do_ _ _ _ (pE a (by simp) ?_) (by rw[<- k_g];exact hak);simp only[ut,hak];rfl
   . obtain⟨k,l,c,n,x,ks⟩:=t;obtain⟨h1,h2,h3⟩:=ni h;obtain⟨_,hb2⟩:=Dx hnb;have hkk:k=6:=by simpa[nz] using hk
     subst hkk;rw[iC] at hm;have hf:(x==[]&&decide (n=0))=true:=h1;simp only[Bool.and_eq_true,decide_eq_true_eq] at hf;obtain rfl:=mf hf.1;obtain rfl:=hf.2;exact .blk _ _ _ (UX i1 ks (by omega) hb2 h3 h2)
theorem afx {k:Int} (hk:k=3\/k=5) {t:Tr} (hnb:nB t) (h:kW t=true) (hg:wO [k] t.g=true):zB k t:=by
 obtain⟨k',l,c,n,x,ks⟩:=t;obtain⟨h1,h2,h3⟩:=ni h;obtain⟨⟨_,hxl⟩,hb2⟩:=Dx hnb;have hkk:k'=k:=by simpa[nz] using wO1 hg
 subst hkk;have hf:(aT o8 x&&decide (n=0))=true:=by rcases hk with rfl | rfl<;>exact h1
 have hr:rowB [Oo] (ks.map Tr.g)=true:=by rcases hk with rfl | rfl<;>exact h2
 simp only[Bool.and_eq_true,decide_eq_true_eq] at hf;obtain rfl:=hf.2;obtain⟨a,rfl,ha⟩:=Aa hr;exact .mk _ _ _ (jG hf.1 hxl) _ (zu a.n a (Nat.le_refl _) (hb2 a (by simp)) (List.all_eq_true.1 h3 a (by simp)) ha)
theorem UY {k:Int} (hk:k=3\/k=5) {ts:List Tr} (hb:∀ t∈ts,nB t) (h:ts.all kW=true) (hg:(ts.map Tr.g).all (wO [k])=true):∀ t∈ts,zB k t:=fun t ht=>
 afx hk (hb t ht) (List.all_eq_true.1 h t ht) (List.all_eq_true.1 hg t.g (List.mem_map_of_mem ht))
theorem U9 {r:Tr} (h:r.k=14) (ha:kW r=true):r.bare=.nd 14 0 0 0 [] []:=by
 obtain⟨k,l,c,n,x,ks⟩:=r;have hk:k=14:=h;subst hk;obtain⟨h1,h2,_⟩:=ni ha;have hf:(x==[]&&decide (n=0))=true:=h1;simp only[Bool.and_eq_true,decide_eq_true_eq] at hf;obtain rfl:=mf hf.1;obtain rfl:=hf.2;obtain rfl:=vO (show rowB [] (ks.map Tr.g)=true from h2);rfl
theorem uX {t:Tr} (W:yK t):yK t.bare:=by
 induction W with
 | word k l c h=>exact .word _ _ _ h
 | big l c x h=>exact .big _ _ _ h
 | list l c t h ih=>exact .list _ _ _ ih
mutual
theorem dY:∀ {t:Tr},jC t->jC t.bare
 | _,.int l c n h=>.int _ _ _ h
 | _,.comp l c n h=>.comp _ _ _ h
 | _,.str l c x h=>.str _ _ _ h
 | _,.bool l c n h=>.bool _ _ _ h
 | _,.nil l c=>.nil _ _
 | _,.name l c x h=>.name _ _ _ h
 | _,.call l c x h ks hk=>.call _ _ _ h _ (Ez hk)
 | _,.index l c a b ha hb=>.index _ _ _ _ (dY ha) (dY hb)
 | _,.dot l c x h a ha=>.dot _ _ _ h _ (dY ha)
 | _,.un l c n h a ha=>.un _ _ _ h _ (dY ha)
 | _,.bin l c n h a b ha hb=>.bin _ _ _ h _ _ (dY ha) (dY hb)
 | _,.make l c l' c' x h=>.make _ _ _ _ _ h
 | _,.makes l c l' c' t ht b hb=>.makes _ _ _ _ _ (uX ht) _ (dY hb)
theorem Ez:∀ {ts:List Tr},sG ts->sG (bH ts)
 | _,.nil=>.nil
 | _,.cons _ _ h hs=>.cons _ _ (dY h) (Ez hs)
end
theorem Gh (t:Tr):t.bare.k=t.k:=by cases t;rfl
mutual
theorem abC:∀ {t:Tr},JR t->JR t.bare
 | _,.var l c x h a b ha hb=>.var _ _ _ h _ _ (uX ha) (dY hb)
 | _,.set l c a b ha hk hb=>.set _ _ _ _ (dY ha) (by rw[Gh];exact hk) (dY hb)
 | _,.if1 l c a b ha hb=>.if1 _ _ _ _ (dY ha) (ui hb)
 | _,.if2 l c a b e ha hb he=>.if2 _ _ _ _ _ (dY ha) (ui hb) (ui he)
 | _,.while_ l c a b ha hb=>.while_ _ _ _ _ (dY ha) (ui hb)
 | _,.ret0 l c=>.ret0 _ _
 | _,.ret1 l c a ha=>.ret1 _ _ _ (dY ha)
 | _,.print l c a ha=>.print _ _ _ (dY ha)
 | _,.do_ l c a ha hk=>.do_ _ _ _ (dY ha) (by rw[Gh];exact hk)
theorem ui:∀ {t:Tr},JQ t->JQ t.bare
 | _,.blk l c ks h=>.blk _ _ _ (Hr h)
theorem Hr:∀ {ts:List Tr},qC ts->qC (bH ts)
 | _,.nil=>.nil
 | _,.cons _ _ h hs=>.cons _ _ (abC h) (Hr hs)
end
theorem abE {k:Int} {t:Tr} (W:zB k t):zB k t.bare:=by
 cases W with
 | mk l c x h a ha=>exact .mk _ _ _ h _ (uX ha)
theorem Ht {k:Int} {ts:List Tr} (h:∀ t∈ts,zB k t):∀ t∈bH ts,zB k t:=by
 intro t ht;rw[pF] at ht;obtain⟨u,hu,rfl⟩:=List.mem_map.1 ht;exact abE (h u hu)
theorem abG {t:Tr} (hnb:nB t) (h:kW t=true) (hg:wO [2,4] t.g=true):OO t/\rH t.bare:=by
 obtain⟨k,l,c,n,x,ks⟩:=t;obtain⟨h1,h2,h3⟩:=ni h;obtain⟨⟨_,hxl⟩,hb2⟩:=Dx hnb;have hkk:k=2\/k=4:=by simpa[nz] using hg
 rcases hkk with rfl | rfl
 . have hf:(aT C9 x&&decide (n=0))=true:=h1;simp only[Bool.and_eq_true,decide_eq_true_eq] at hf;obtain rfl:=hf.2;have W:=UY (.inl rfl) hb2 h3 (show (ks.map Tr.g).all (wO [3])=true from h2);exact⟨.rc _ _ _ _ _ W,.rc _ _ _ (lK hf.1 hxl) _ (Ht W)⟩
 . have hf:(aT o8 x&&leB 0 n)=true:=h1;simp only[Bool.and_eq_true,iJ] at hf;have hr:YM n (ks.map Tr.g)=true:=h2;unfold YM at hr;simp only[Bool.and_eq_true,Bool.or_eq_true,decide_eq_true_eq,List.length_map] at hr;obtain⟨⟨⟨⟨r1,r2⟩,r3⟩,r4⟩,r5⟩:=hr;obtain⟨ps,r,b,rfl⟩:∃ ps r b,ks=ps++[r,b]:=by
    refine⟨ks.take (ks.length - 2),ks[ks.length - 2],ks[ks.length - 1],(List.take_append_drop (ks.length - 2) ks).symm.trans ?_⟩;congr 1;rw[List.drop_eq_getElem_cons (by omega),List.drop_eq_getElem_cons (by omega),List.drop_eq_nil_of_le (by omega)];simp only[show ks.length - 2+1=ks.length - 1 by omega]
   have e1:(ps++[r,b]).length=ps.length+2:=by simp
   have e2:((ps++[r,b]).map Tr.g).getD (ps.length+2 - 1) Gy=b.g:=by
    simp[List.getD_eq_getElem?_getD]
   have e3:((ps++[r,b]).map Tr.g).getD (ps.length+2 - 2) Gy=r.g:=by
    simp[List.getD_eq_getElem?_getD]
   have e4:((ps++[r,b]).map Tr.g).take (ps.length+2 - 2)=ps.map Tr.g:=by
    rw[List.map_append,Nat.add_sub_cancel,<- List.length_map (f:=Tr.g),List.take_left]
   rw[e1] at r2 r3 r4 r5;rw[e2] at r3;rw[e3] at r4;rw[e4] at r5;have hn:n=ps.length:=by omega
   subst hn;have hps:ps.all kW=true/\kW r=true/\kW b=true:=by
    rw[List.all_append] at h3;simpa[and_assoc] using h3
   have W:=UY (.inr rfl) (fun t ht=>hb2 t (by simp[ht])) hps.1 r5;have Wb:=(abD b.n).2 b (Nat.le_refl _) (hb2 b (by simp)) hps.2.2 (by simpa using r3);have Wr:r.k=14\/yK r:=by
    rcases r4 with e | e
    . exact .inl (by rw[<- k_g];exact e)
    . exact .inr (zu r.n r (Nat.le_refl _) (hb2 r (by simp)) hps.2.1 e)
   refine⟨.fn _ _ _ _ _ _ W Wr Wb,?_⟩;rw[Tr.bare,ul,show bH [r,b]=[r.bare,b.bare] from rfl,<- um ps];refine .fn _ _ _ (jG hf.1 hxl) _ (Ht W) _ _ ?_ (ui Wb);rcases Wr with e | e
   . exact .inl (U9 e hps.2.1)
   . exact .inr (uX e)
theorem aeX {t:Tr} (hnb:nB t) (h:tC t=true):∃ l c ks,t=.nd 1 l c 0 [] ks/\(∀ k∈ks,OO k)/\∀ k∈bH ks,rH k:=by
 obtain⟨k,l,c,n,x,ks⟩:=t;rw[TV] at h;simp only[Bool.and_eq_true,decide_eq_true_eq] at h;obtain⟨⟨rfl,h1⟩,h2,h3⟩:=h;have hf:(x==[]&&decide (n=0))=true:=h1;simp only[Bool.and_eq_true,decide_eq_true_eq] at hf;obtain rfl:=mf hf.1;obtain rfl:=hf.2;obtain⟨_,hb2⟩:=Dx hnb;have W:∀ k∈ks,OO k/\rH k.bare:=fun t ht=>abG (hb2 t ht) (List.all_eq_true.1 h3 t ht) (List.all_eq_true.1 h2 t.g (List.mem_map_of_mem ht))
 refine⟨l,c,ks,rfl,fun t ht=>(W t ht).1,fun t ht=>?_⟩;rw[pF] at ht;obtain⟨u,hu,rfl⟩:=List.mem_map.1 ht;exact (W u hu).2
section
attribute [local go_sem] bg bf aC aj au aI aU aH ax says_again
def FT:Fm:=(.ite (.not (.eqI (.cnt (.x 0)) (.cnt (.x 1))))
 (.ret (.p (.one (.b (.c false)))))
 (.loop 0 ⟨[(.c 0)],[(.c false)],[],[],[],[]⟩
 (.ite (.lt (.x 0) (.cnt (.x 0)))
 (.O (.el (.x 0) (.x 0) 6 0) 1 [.U 1] ⟨1,0,0,0,0,0⟩
 (.O (.el (.x 1) (.x 0) 6 0) 1 [.U 2] ⟨1,0,0,0,0,0⟩
 (.load (.eqI (.x 1) (.x 2)) (.el (.x 0) (.x 0) 6 3) 1 [.J 3] ⟨1,0,0,0,0,0⟩
 (.load (.eqI (.x 1) (.x 2)) (.el (.x 1) (.x 0) 6 3) 1 [.J 4] ⟨1,0,0,0,0,0⟩
 (.load (.not (.or (.not (.eqI (.x 1) (.x 2))) (.not (.eqI (.x 3) (.x 4))))) (.el (.x 0) (.x 0) 6 4) 1 [.J 5] ⟨1,0,0,0,0,0⟩
 (.load (.not (.or (.not (.eqI (.x 1) (.x 2))) (.not (.eqI (.x 3) (.x 4))))) (.el (.x 1) (.x 0) 6 4) 1 [.J 6] ⟨1,0,0,0,0,0⟩
 (.load (.not (.or (.or (.not (.eqI (.x 1) (.x 2))) (.not (.eqI (.x 3) (.x 4)))) (.not (.eqI (.x 5) (.x 6))))) (.el (.x 0) (.x 0) 6 5) 1 [(.s (.x 0))] ⟨0,0,1,0,0,0⟩
 (.load (.not (.or (.or (.not (.eqI (.x 1) (.x 2))) (.not (.eqI (.x 3) (.x 4)))) (.not (.eqI (.x 5) (.x 6))))) (.el (.x 1) (.x 0) 6 5) 1 [(.s (.x 1))] ⟨0,0,1,0,0,0⟩
 (.N (.X (.x 0) (.x 0))
 (.N (.nns (.x 0))
 (.N (.X (.x 0) (.x 1))
 (.N (.nns (.x 1))
 (.need (.eqI (.x 1) (.x 2)) (.X (.x 0) (.x 0))
 (.need (.eqI (.x 1) (.x 2)) (.nns (.x 0))
 (.need (.eqI (.x 1) (.x 2)) (.X (.x 0) (.x 1))
 (.need (.eqI (.x 1) (.x 2)) (.nns (.x 1))
 (.need (.not (.or (.not (.eqI (.x 1) (.x 2))) (.not (.eqI (.x 3) (.x 4))))) (.X (.x 0) (.x 0))
 (.need (.not (.or (.not (.eqI (.x 1) (.x 2))) (.not (.eqI (.x 3) (.x 4))))) (.nns (.x 0))
 (.need (.not (.or (.not (.eqI (.x 1) (.x 2))) (.not (.eqI (.x 3) (.x 4))))) (.X (.x 0) (.x 1))
 (.need (.not (.or (.not (.eqI (.x 1) (.x 2))) (.not (.eqI (.x 3) (.x 4))))) (.nns (.x 1))
 (.need (.not (.or (.or (.not (.eqI (.x 1) (.x 2))) (.not (.eqI (.x 3) (.x 4)))) (.not (.eqI (.x 5) (.x 6))))) (.X (.x 0) (.x 0))
 (.need (.not (.or (.or (.not (.eqI (.x 1) (.x 2))) (.not (.eqI (.x 3) (.x 4)))) (.not (.eqI (.x 5) (.x 6))))) (.nns (.x 0))
 (.need (.not (.or (.or (.not (.eqI (.x 1) (.x 2))) (.not (.eqI (.x 3) (.x 4)))) (.not (.eqI (.x 5) (.x 6))))) (.X (.x 0) (.x 1))
 (.need (.not (.or (.or (.not (.eqI (.x 1) (.x 2))) (.not (.eqI (.x 3) (.x 4)))) (.not (.eqI (.x 5) (.x 6))))) (.nns (.x 1))
 (.ite (.or (.or (.or (.not (.eqI (.x 1) (.x 2))) (.not (.eqI (.x 3) (.x 4)))) (.not (.eqI (.x 5) (.x 6)))) (.not (.eqS (.x 0) (.x 1))))
 (.ret (.p (.one (.b (.c false)))))
 (.N (.R (.add (.x 0) (.c 1)))
 (.again 0 ⟨0,0,0,0,2,0⟩ ⟨1,1,0,0,2,0⟩ ⟨[(.add (.x 0) (.c 1))],[(.x 0)],[],[],[],[]⟩)))))))))))))))))))))))))))
 (.ret (.p (.one (.b (.c true))))))))
theorem P6:aZ ⟨true,[]⟩ Tryz.prog (fun l=>([⟨[4,13],[14,15,5,16,17,18,19,20,21,22,23,24,25,26,27,28,29,30,31,32,33,34,35,36,37,38,39,40,41,42,43,44,45,46,47,48,49,50,51,52,53,54,55,56,57,58,59,60,61,62,63,64,65,66],[]⟩]:List bK).getD l ⟨[],[],[]⟩) Tryz.f10=FT:=by kernel_rfl
theorem WN:az Tryz.prog .zero Tryz.f10.params.toList=some ([.L 0,.L 1],⟨0,0,0,0,2,0⟩):=by kernel_rfl
set_option maxHeartbeats 4000000 in
def Ku:Ct Tryz.prog where
 f:=10
 spec:=fun args h φ=>∃ s1 s2 a b,args=[bM.val s1,bM.val s2]/\NG h s1 a/\NG h s2 b/\a.length<=1000000/\φ (.bool (iV a b)) h
 ok:=by
  rintro args h φ w ⟨s1,s2,a,b,rfl,R1,R2,hl,hφ⟩ hH;have hn1:=NG.n R1;have hn2:=NG.n R2;refine bn Tryz.func10 P6 WN [] φ (fun _ C=>∃ (j:Nat) (bb:Bool),C=⟨[j],[bb],[],[],[s1,s2],[],h,df⟩/\j<=a.length/\iV a b=iV (a.drop j) (b.drop j)) (fun _ C=>((a.length:Int) - C.i.getD 0 0).toNat) ⟨[],[],[],[],[s1,s2],[],h,df⟩ ⟨rfl,rfl,rfl,rfl,rfl,rfl⟩ af ?_ w hH rfl;generalize hE:(⟨aG _,_,_,_⟩:Env)=E;have ep:E.post=φ:=by rw[<- hE]
  have ei:E.inv=(fun _ C=>∃ (j:Nat) (bb:Bool),C=⟨[j],[bb],[],[],[s1,s2],[],h,df⟩/\j<=a.length/\iV a b=iV (a.drop j) (b.drop j)):=by rw[<- hE]
  have em:E.meas=(fun _ C=>((a.length:Int) - C.i.getD 0 0).toNat):=by rw[<- hE]
  clear hE;unfold FT;by_cases hlen:a.length=b.length;rotate_left
  . rw[Hl hlen] at hφ;rw[aj,if_pos (by simp[go_sem];omega)];rw[ak,ep];exact hφ
  rw[aj,if_neg (by simp[go_sem];omega),ae];refine bI ?_ ?_
  . rw[ei];exact⟨0,false,rfl,by omega,rfl⟩
  rw[ei,em];rintro i bbs ss v ll pp hh M ⟨j,bb,hC,hj,hs⟩ hM;cases hC;have hM':M 0=((a.length:Int) - j).toNat:=hM;by_cases hjl:j<a.length;rotate_left
  . have hz:¬ ((j:Int)<s1.n):=by omega
    rw[List.drop_eq_nil_of_le (by omega),List.drop_eq_nil_of_le (by omega),iV] at hs;rw[hs] at hφ;rw[aj,if_neg (by simpa[go_sem] using hz)];rw[ak,ep];exact hφ
  have hz:((j:Int)<s1.n):=by omega
  have hjb:j<b.length:=by omega
  obtain⟨c1,o1,ha1⟩:=Rows.nn R1 (j:=j) (by omega);obtain⟨c2,o2,ha2⟩:=Rows.nn R2 (j:=j) (by omega);have rd1:∀ off,off<6->hread h (some (c1,o1+j*6+off)) 1=some ((a[j].cs.drop off).take 1):=fun off ho=>by
   have:=Rows.read (off:=off) (m:=1) R1 (j:=j) (by omega) (by omega) ha1;rw[<- List.drop_drop,jl hjl,List.drop_append_of_le_length (by simp[Ng.cs];omega),List.take_append_of_le_length (by simp[Ng.cs];omega)] at this;exact this
  have rd2:∀ off,off<6->hread h (some (c2,o2+j*6+off)) 1=some ((b[j].cs.drop off).take 1):=fun off ho=>by
   have:=Rows.read (off:=off) (m:=1) R2 (j:=j) (by omega) (by omega) ha2;rw[<- List.drop_drop,jl hjb,List.drop_append_of_le_length (by simp[Ng.cs];omega),List.take_append_of_le_length (by simp[Ng.cs];omega)] at this;exact this
  rw[List.drop_eq_getElem_cons hjl,List.drop_eq_getElem_cons hjb,iV] at hs;generalize a[j]=x at *;generalize b[j]=y at *;have x0:=rd1 0 (by omega);have x3:=rd1 3 (by omega);have x4:=rd1 4 (by omega);have x5:=rd1 5 (by omega);have y0:=rd2 0 (by omega);have y3:=rd2 3 (by omega);have y4:=rd2 4 (by omega);have y5:=rd2 5 (by omega);clear rd1 rd2;simp only[Ng.cs,List.drop_zero,List.drop_succ_cons,List.take_succ_cons,List.take_zero] at x0 x3 x4 x5 y0 y3 y4 y5;have A1:∀ off,(s1.a.map fun x=>(x.1,x.2+((j:Nat):Int).toNat*6+off))=some (c1,o1+j*6+off):=fun off=>by rw[ha1];rfl
  have A2:∀ off,(s2.a.map fun x=>(x.1,x.2+((j:Nat):Int).toNat*6+off))=some (c2,o2+j*6+off):=fun off=>by rw[ha2];rfl
  rw[aj,if_pos (by simpa[go_sem] using hz),ae,aU,if_pos (by rfl)];refine (bQ _ _).2 ⟨⟨[x.k],[],[],[],[],[]⟩,rfl,af,(congrArg (fun q=>hread h q 1) (A1 0)).trans x0,?_⟩;refine rL ⟨[y.k],[],[],[],[],[]⟩ rfl af ((congrArg (fun q=>hread h q 1) (A2 0)).trans y0) ?_;have lk:∀ {q:Option (Nat×Nat)} {q':Nat×Nat} {z:Int},q=some q'->hread h (some q') 1=some [.int .i64 z]->hread h q 1=some [.int .i64 z]:=fun h1 h2=>by rw[h1];exact h2
  rw[ae];refine ww rfl (fun _=>⟨x.z,(congrArg (fun q=>hread h q 1) (A1 3)).trans x3⟩) fun v3 h3=>?_
  rw[ae];refine ww rfl (fun _=>⟨y.z,(congrArg (fun q=>hread h q 1) (A2 3)).trans y3⟩) fun v4 h4=>?_
  rw[ae];refine ww rfl (fun _=>⟨x.n,(congrArg (fun q=>hread h q 1) (A1 4)).trans x4⟩) fun v5 h5=>?_
  rw[ae];refine ww rfl (fun _=>⟨y.n,(congrArg (fun q=>hread h q 1) (A2 4)).trans y4⟩) fun v6 h6=>?_
  rw[ae];refine Zv rfl (fun _=>⟨x.x,(congrArg (fun q=>hread h q 1) (A1 5)).trans x5⟩) fun v7 h7=>?_
  rw[ae];refine Zv rfl (fun _=>⟨y.x,(congrArg (fun q=>hread h q 1) (A2 5)).trans y5⟩) fun v8 h8=>?_
  have inj:∀ {u z:Int},some [Value.int .i64 z]=some [Value.int .i64 u]->u=z:=fun h=>by simpa using h.symm
  have injs:∀ {u z:List UInt8},some [Value.string (B z)]=some [Value.string (B u)]->u=z:=fun h=>by simpa[adO] using h.symm
  have e34:x.k=y.k->v3=x.z/\v4=y.z:=fun w1=>by
   have g1:BE.den (⟨[(j:Int),x.k,y.k],[bb],[],[],[s1,s2],[],h,M⟩:Ctx) (.eqI (.x 1) (.x 2))=true:=by simpa[go_sem] using w1
   exact⟨inj (((congrArg (fun q=>hread h q 1) (A1 3)).trans x3).symm.trans (h3 g1)),inj (((congrArg (fun q=>hread h q 1) (A2 3)).trans y3).symm.trans (h4 g1))⟩
  have e56:x.k=y.k->v3=v4->v5=x.n/\v6=y.n:=fun w1 w2=>by
   have g1:BE.den (⟨[(j:Int),x.k,y.k,v3,v4],[bb],[],[],[s1,s2],[],h,M⟩:Ctx) (.not (.or (.not (.eqI (.x 1) (.x 2))) (.not (.eqI (.x 3) (.x 4)))))=true:=by simp[go_sem,w1,w2]
   exact⟨inj (((congrArg (fun q=>hread h q 1) (A1 4)).trans x4).symm.trans (h5 g1)),inj (((congrArg (fun q=>hread h q 1) (A2 4)).trans y4).symm.trans (h6 g1))⟩
  have e78:x.k=y.k->v3=v4->v5=v6->v7=x.x/\v8=y.x:=fun w1 w2 w3=>by
   have g1:BE.den (⟨[(j:Int),x.k,y.k,v3,v4,v5,v6],[bb],[],[],[s1,s2],[],h,M⟩:Ctx) (.not (.or (.or (.not (.eqI (.x 1) (.x 2))) (.not (.eqI (.x 3) (.x 4)))) (.not (.eqI (.x 5) (.x 6)))))=true:=by simp[go_sem,w1,w2,w3]
   exact⟨injs (((congrArg (fun q=>hread h q 1) (A1 5)).trans x5).symm.trans (h7 g1)),injs (((congrArg (fun q=>hread h q 1) (A2 5)).trans y5).symm.trans (h8 g1))⟩
  clear h3 h4 h5 h6 h7 h8
  iterate 16 (rw[ae];refine iL (fun _=>by simp[go_sem,ha1,ha2]<;>omega) ?_)
  by_cases heq:(((x.k=y.k/\v3=v4)/\v5=v6)/\v7=v8)
  . obtain⟨⟨⟨q1,q2⟩,q3⟩,q4⟩:=heq;obtain⟨r1,r2⟩:=e34 q1;obtain⟨r3,r4⟩:=e56 q1 q2;obtain⟨r5,r6⟩:=e78 q1 q2 q3;have e:(x.k==y.k&&x.z==y.z&&x.n==y.n&&x.x==y.x)=true:=by
     simp only[Bool.and_eq_true,beq_iff_eq];exact⟨⟨⟨q1,by rw[<- r1,<- r2];exact q2⟩,by rw[<- r3,<- r4];exact q3⟩,by rw[<- r5,<- r6];exact q4⟩
    rw[e,Bool.true_and] at hs;rw[ah,if_neg (by simp[go_sem,q1,q2,q3,q4])];rw[ai];refine⟨by simp[go_sem]<;>omega,?_⟩;rw[ae,says_again,ei,em];refine⟨⟨j+1,bb,rfl,by omega,hs⟩,?_⟩;show (((a.length:Int) - ((j:Int)+1)).toNat)<M 0;omega
  . have e:(x.k==y.k&&x.z==y.z&&x.n==y.n&&x.x==y.x)=false:=by
     cases hq:(x.k==y.k&&x.z==y.z&&x.n==y.n&&x.x==y.x) with
     | false=>rfl
     | true=>
       simp only[Bool.and_eq_true,beq_iff_eq] at hq;obtain⟨⟨⟨q1,q2⟩,q3⟩,q4⟩:=hq;obtain⟨r1,r2⟩:=e34 q1;obtain⟨r3,r4⟩:=e56 q1 (by rw[r1,r2];exact q2);obtain⟨r5,r6⟩:=e78 q1 (by rw[r1,r2];exact q2) (by rw[r3,r4];exact q3);exact absurd ⟨⟨⟨q1,by rw[r1,r2];exact q2⟩,by rw[r3,r4];exact q3⟩,by rw[r5,r6];exact q4⟩ heq
    rw[e,Bool.false_and] at hs;rw[hs] at hφ;rw[ah,if_pos (by
     simp only[go_sem];simp only[not_and] at heq;by_cases q1:x.k=y.k
     . by_cases q2:v3=v4
       . by_cases q3:v5=v6
         . simp[q1,q2,q3,heq ⟨⟨q1,q2⟩,q3⟩]
         . simp[q3]
       . simp[q2]
     . simp[q1])]
    rw[ak,ep];exact hφ
def Cj:Fm:=(.C 8 [.S 0] (.tup [.L 0,(.agg [.J 0,.J 1,.J 2])]) ⟨3,0,0,0,1,0⟩
 (.C 9 [.L 0] (.tup [.S 1,.J 3]) ⟨1,0,1,0,0,0⟩
 (.ret (.p (.S 1)))))
theorem MG:aZ ⟨true,[]⟩ Tryz.prog (fun l=>([]:List bK).getD l ⟨[],[],[]⟩) Tryz.f20=Cj:=by kernel_rfl
theorem QN:az Tryz.prog .zero Tryz.f20.params.toList=some ([.S 0],⟨0,0,1,0,0,0⟩):=by kernel_rfl
def Cm:Fm:=(.C 20 [.W [40,97,43,98,41,42,40,99,41]] (.p (.S 0)) ⟨0,0,1,0,0,0⟩
 (.call (.eqS (.x 0) (.c [40,97,32,43,32,98,41,32,42,32,99])) false 20 [.W [97,45,40,98,45,99,41,45,100]] (.p (.S 1)) ⟨0,0,1,0,0,0⟩
 (.call (.and (.eqS (.x 0) (.c [40,97,32,43,32,98,41,32,42,32,99])) (.eqS (.x 1) (.c [97,32,45,32,40,98,32,45,32,99,41,32,45,32,100]))) false 20 [.W [45,40,45,120,41]] (.p (.S 2)) ⟨0,0,1,0,0,0⟩
 (.ret (.p (.one (.b (.and (.and (.eqS (.x 0) (.c [40,97,32,43,32,98,41,32,42,32,99])) (.eqS (.x 1) (.c [97,32,45,32,40,98,32,45,32,99,41,32,45,32,100]))) (.eqS (.x 2) (.c [45,45,120]))))))))))
theorem MH:aZ ⟨true,[]⟩ Tryz.prog (fun l=>([]:List bK).getD l ⟨[],[],[]⟩) Tryz.f7=Cm:=by kernel_rfl
theorem QO:az Tryz.prog .zero Tryz.f7.params.toList=some ([],⟨0,0,0,0,0,0⟩):=by kernel_rfl
theorem NG.Uf {h:Hp} {sl:bM} {t:Tr} {T:TypeId} (ho:eF h sl (wz t.qP) T 6):NG h sl t.gs:=by
 rw[<- ach] at ho;exact Rows.Jb ho
set_option maxHeartbeats 2000000 in
def EW:Ct Tryz.prog where
 f:=20
 spec:=fun args h φ=>∃ s t,args=[.string (B s)]/\s.length<=2000/\(∃ f,jA false s=some (f,t)/\f.1=0)/\(jC t/\t.n<=2000)/\(tx t).length<=2000/\φ (.string (B (tx t))) h
 ok:=by
  rintro args h φ w ⟨s,t,rfl,hs,⟨f,hft,hf⟩,⟨W,htn⟩,hlen,hφ⟩ hH;have hgl:=kN t;refine dh (bn Tryz.func20 MG QN [RN,Ky] (fun v k=>∃ k',dA k' k/\φ v k') (bP) (bu) ⟨[],[],[s],[],[],[],h,df⟩ ⟨rfl,rfl,rfl,rfl,rfl,rfl⟩ af ?_ w hH rfl);generalize hE:(⟨aG _,_,_,_⟩:Env)=E;have sc5:E.spec 8=(RN).spec:=by rw[<- hE];rfl
  have sc6:E.spec 9=(Ky).spec:=by rw[<- hE];rfl
  have ep:E.post=(fun v k=>∃ k',dA k' k/\φ v k'):=by rw[<- hE]
  clear hE;unfold Cj;rw[au,if_pos (by rfl),sc5];refine⟨s,rfl,?_⟩;unfold o9;rw[if_neg (by omega)];intro f' t' hft';rw[hft] at hft';cases hft';rw[if_pos hf];intro sl k hle ho hn;have hle':dA h k:=hle;refine rR ⟨[0,0,0],[],[],[],[sl],[]⟩ rfl af rfl ?_;rw[dn,if_pos (by rfl),sc6];refine⟨sl,t.gs,rfl,NG.Uf ho,by omega,.inr ⟨t,rfl,.inr ⟨Zy W,W,by omega,?_⟩⟩⟩;refine rR ⟨[0],[],[tx t],[],[],[]⟩ rfl af rfl ?_;rw[ak,ep];exact⟨h,hle',hφ⟩
def A1:List UInt8:=[40,97,43,98,41,42,40,99,41]
def A2:List UInt8:=[97,45,40,98,45,99,41,45,100]
def A3:List UInt8:=[45,40,45,120,41]
def Vb (t:Tr):Bool:=kW t&&wE t.g&&t.gs.all (fun x=>decide (x.n<=9223372036854775807)&&decide (x.x.length<=1000000))&&decide (t.n<=2000)
theorem abT {t:Tr} (h:Vb t=true):jC t/\t.n<=2000:=by
 unfold Vb at h;simp only[Bool.and_eq_true,decide_eq_true_eq,List.all_eq_true] at h;exact⟨Rq _ t (Nat.le_refl _) (fun x hx=>h.1.2 x hx) h.1.1.1 h.1.1.2,h.2⟩
set_option maxRecDepth 100000 in
theorem ag1:(jA false A1).map (fun r=>(r.1,Vb r.2,tx r.2))=some ((0,0,0),true,[40,97,32,43,32,98,41,32,42,32,99]):=by decide +kernel
set_option maxRecDepth 100000 in
theorem ag2:(jA false A2).map (fun r=>(r.1,Vb r.2,tx r.2))=some ((0,0,0),true,[97,32,45,32,40,98,32,45,32,99,41,32,45,32,100]):=by decide +kernel
set_option maxRecDepth 100000 in
theorem ag3:(jA false A3).map (fun r=>(r.1,Vb r.2,tx r.2))=some ((0,0,0),true,[45,45,120]):=by decide +kernel
theorem XK {s:List UInt8} {u:List UInt8} (h:(jA false s).map (fun r=>(r.1,Vb r.2,tx r.2))=some ((0,0,0),true,u)):∃ t,(∃ f,jA false s=some (f,t)/\f.1=0)/\(jC t/\t.n<=2000)/\tx t=u:=by
 obtain⟨⟨f,t⟩,h1,h2⟩:=Option.map_eq_some_iff.1 h;obtain⟨h3,h4⟩:=Prod.mk.inj h2;obtain⟨h5,h6⟩:=Prod.mk.inj h4;exact⟨t,⟨f,h1,by rw[show f=(0,0,0) from h3]⟩,abT h5,h6⟩
set_option maxHeartbeats 2000000 in
def EX:Ct Tryz.prog where
 f:=7
 spec:=fun args h φ=>args=[]/\φ (.bool true) h
 ok:=by
  rintro args h φ w ⟨rfl,hφ⟩ hH;obtain⟨t1,p1,c1,e1⟩:=XK ag1;obtain⟨t2,p2,c2,e2⟩:=XK ag2;obtain⟨t3,p3,c3,e3⟩:=XK ag3;refine bn Tryz.func7 MH QO [EW] φ (bP) (bu) ⟨[],[],[],[],[],[],h,df⟩ ⟨rfl,rfl,rfl,rfl,rfl,rfl⟩ af ?_ w hH rfl;generalize hE:(⟨aG _,_,_,_⟩:Env)=E;have sc7:E.spec 20=(EW).spec:=by rw[<- hE];rfl
  have ep:E.post=φ:=by rw[<- hE]
  clear hE;unfold Cm;rw[au,if_pos (by rfl),sc7];refine⟨A1,t1,rfl,by decide,p1,c1,by rw[e1];decide,?_⟩;rw[e1];refine rR ⟨[],[],[[40,97,32,43,32,98,41,32,42,32,99]],[],[],[]⟩ rfl af rfl ?_;rw[dn,if_pos (by rfl),sc7];refine⟨A2,t2,rfl,by decide,p2,c2,by rw[e2];decide,?_⟩;rw[e2];refine rR ⟨[],[],[[97,32,45,32,40,98,32,45,32,99,41,32,45,32,100]],[],[],[]⟩ rfl af rfl ?_;rw[dn,if_pos (by rfl),sc7];refine⟨A3,t3,rfl,by decide,p3,c3,by rw[e3];decide,?_⟩;rw[e3];refine rR ⟨[],[],[[45,45,120]],[],[],[]⟩ rfl af rfl ?_;rw[ak,ep];exact hφ
end
section
open Go.ChangeShapes Go.WideShapes Go.Deep Go.RowKit
theorem pO {H:Type} {enc:TypeId×Value->H} {P:Program} {W:World} {base:Nat} {spare:Nat->Bool} {held:Bool} {n:Nat} {fs:Array Field} {cs:List Value} {xs:List (DataW H×List MemPlace)} (hone:oneCellFields P fs=true)
 (hg:∀ (i:Nat) (f:Field),fs[i]? = some f->DataW.trod enc P W base spare held n f.type ((cs.drop f.offset).take (P.cellsOf f.type))=xs[i]?) (j:Nat) {f:Field} {c:Value} {y:Option (DataW H×List MemPlace)} (hj:fs[j]? = some f) (hc:cs[j]? = some c) (hy:xs[j]? = y):DataW.trod enc P W base spare held n f.type [c]=y:=by
 have h:=hg j f hj;obtain⟨o,k⟩:=hone_of hone j f hj;obtain⟨hl,he⟩:=List.getElem?_eq_some_iff.1 hc;rw[o,k,List.drop_eq_getElem_cons hl,he] at h;exact h.trans hy
theorem aeK {n:Int} (h:(Lit.int .i64 n).wf=true):n<=9223372036854775807:=by
 simp[Lit.wf] at h;have:=h.2;simpa[IntKind.max] using this
instance:Inhabited Ng:=⟨⟨0,0,0,0,0,[]⟩⟩
set_option maxRecDepth 100000 in
theorem node_cells {H:Type} {enc:TypeId×Value->H} {W:World} {base:Nat} {spare:Nat->Bool} {held:Bool} {fuel:Nat} {cs:List Value} {x:DataW H×List MemPlace}
 (h:DataW.trod enc Tryz.prog W base spare held fuel 52 cs=some x):∃ g:Ng,cs=g.cs/\g.n<=9223372036854775807:=by
 obtain⟨xs,n,_,hx,hl,hxl,hg⟩:=DataW.trod_struct Tryz.underlying52 h;have h6:Tryz.prog.cellsOf 52=6:=by kernel_rfl
 rw[h6] at hl;have hxl6:xs.length=6:=hxl
 match cs,hl with
 | [c0,c1,c2,c3,c4,c5],_=>
   match xs,hxl6,hg with
   | [y0,y1,y2,y3,y4,y5],_,hg=>
     have q0:=pO (by kernel_rfl) hg 0 rfl rfl rfl;have q1:=pO (by kernel_rfl) hg 1 rfl rfl rfl;have q2:=pO (by kernel_rfl) hg 2 rfl rfl rfl;have q3:=pO (by kernel_rfl) hg 3 rfl rfl rfl;have q4:=pO (by kernel_rfl) hg 4 rfl rfl rfl;have q5:=pO (by kernel_rfl) hg 5 rfl rfl rfl;obtain⟨n0,e0,_,_⟩:=DataW.trod_int Tryz.underlying5 q0;obtain⟨n1,e1,_,_⟩:=DataW.trod_int Tryz.underlying3 q1;obtain⟨n2,e2,_,_⟩:=DataW.trod_int Tryz.underlying3 q2;obtain⟨n3,e3,_,_⟩:=DataW.trod_int Tryz.underlying3 q3;obtain⟨n4,e4,_,w4⟩:=DataW.trod_int Tryz.underlying2 q4;obtain⟨s5,e5,_,_⟩:=DataW.trod_string Tryz.underlying9 q5;simp only[List.cons.injEq,and_true] at e0 e1 e2 e3 e4 e5;subst e0 e1 e2 e3 e4 e5;refine⟨⟨n0,n1,n2,n3,n4,s5.data.toList⟩,?_,aeK w4⟩;unfold Ng.cs;rw[<- N9 s5]
theorem acg {l:List Ng} {i j:Nat} (hi:i<l.length) (hj:j<6):(qA l)[i*6+j]? = (l[i].cs)[j]?:=by
 rw[<- List.getElem?_drop,jl hi,List.getElem?_append_left (by simpa[Ng.cs] using hj)]
set_option maxRecDepth 100000 in
theorem QH {H:Type} {enc:TypeId×Value->H} {W:World} {b0 base:Nat} {spare:Nat->Bool} {held:Bool} {v:Value} {d:DataW H} {p:List MemPlace}
 (hv:Value.okWide Tryz.prog W .any b0 23 v) (h:DataW.Trod enc Tryz.prog W base spare held 23 v d p):
 ∃ (h:Hp) (sl:bM) (l:List Ng),v=sl.val/\NG h sl l/\Holds h W/\(∀ b o,h b=some o->o.ty=1000003)/\l.length<=9223372036854775807/\∀ x∈l,x.n<=9223372036854775807:=by
 obtain⟨fuel,hf⟩:=h;have hs:Tryz.prog.underlying 23=some (.slice 52):=Tryz.underlying23;have h6:Tryz.prog.cellsOf 52=6:=by kernel_rfl
 have hv2:=hv;obtain⟨a',n',c',rfl⟩:=okWide_slice hs hv;rcases open_slice hs hf with ⟨e,_⟩ | ⟨a,len,cap,m,n,D,Pl,e,_,hl,hc,hm,_,hi⟩
 . have e':Value.slice a' n' c'=.slice none 0 0:=by simpa[Value.cells] using e
   rw[e'];exact⟨fun _=>none,⟨none,0,0⟩,[],rfl,⟨rfl,.inl rfl⟩,fun b o hb=>(by cases hb),fun b o hb=>(by cases hb),by simp,fun x hx=>(by cases hx)⟩
 . have e':Value.slice a' n' c'=.slice (some a) len cap:=by simpa[Value.cells] using e
   rw[e'] at hv2⊢;have hsp:a.spot=none/\∃ row cells,W.shape? a.block=some (row,cells):=by
    simp only[Value.okWide,hs,Cell.okWide,Cell.ok,World.has] at hv2;obtain⟨_,_,_,h1,row,cells,h2,_⟩:=hv2;exact⟨h1,row,cells,h2⟩
   obtain⟨b,off,sp⟩:=a;obtain⟨rfl,row,cells,hsh⟩:=hsp;have hlm:len<=m:=by rw[hm];split<;>omega
   have each:∀ i,i<len->∃ g:Ng,W.cells? base ((⟨b,off,none⟩:Addr).add (i*6)) 6=some g.cs/\g.n<=9223372036854775807:=fun i hil=>by
    obtain⟨cs',h1,h2⟩:=hi i (by omega);rw[h6] at h1;obtain⟨g,rfl,hg⟩:=node_cells h2;exact⟨g,h1,hg⟩
   obtain⟨G,hG⟩:=choose_lt each;have hblk:∃ c T fz,W.heap[b]? = some (.cells c T fz):=by
    unfold World.shape? at hsh;split at hsh
    . rename_i c T fz hb;exact⟨c,T,fz,hb⟩
    . cases hsh
   obtain⟨c,T,fz,hblk⟩:=hblk;have hcell:∀ i j,i<len->j<6->c.toList[off+(i*6+j)]? = ((G i).cs)[j]?:=by
    intro i j hil hj;obtain⟨_,hl6,hat⟩:=World.cells?_some (hG i hil).1;have h1:=hat j hj;rw[addr_add,addr_add] at h1;unfold World.cell? at h1;rw[hblk] at h1;simp only[Option.isSome_none,Bool.false_eq_true,if_false] at h1;rw[Array.getElem?_toList,<- Nat.add_assoc,h1]
   let l:=(List.range len).map G
   have hll:l.length=len:=by simp[l]
   have hget:∀ i (hi:i<l.length),l[i]=G i:=fun i hi=>by simp[l]
   have hcs:∀ q,q<len*6->c.toList[off+q]? = (qA l)[q]?:=by
    intro q hq;have e1:q=q / 6*6+q % 6:=by omega
    have hil:q / 6<len:=by omega
    rw[e1,hcell _ _ hil (by omega),acg (by omega) (by omega),hget _ (by omega)]
   refine⟨fun k=>if k=b then some ⟨c.toList,ro⟩ else none,⟨some (b,off),len,cap⟩,l,rfl,⟨by rw[qK,hll],?_⟩,?_,fun b' o hb=>(by simp only at hb;split at hb;cases hb;rfl;cases hb),by rw[hll];unfold maxLen at hc;omega,?_⟩
   . by_cases h0:len=0
     . exact .inl h0
     right;have hlast:=hcs (len*6 - 1) (by omega);rw[List.getElem?_eq_getElem (l:=qA l) (by rw[qK,hll];omega)] at hlast;have hsz:=(List.getElem?_eq_some_iff.1 hlast).1;unfold hread;simp only[if_true];rw[if_pos (by omega)];congr 1;apply List.ext_getElem?;intro q;rw[List.getElem?_take];split
     . rw[List.getElem?_drop];exact hcs q (by assumption)
     . rw[List.getElem?_eq_none (by rw[qK,hll];omega)]
   . intro b' o hb;simp only at hb;split at hb
     . rename_i e;subst e;cases hb;exact⟨T,fz,by rw[hblk],fun hne=>absurd rfl hne⟩
     . cases hb
   . intro x hx;obtain⟨i,hi,rfl⟩:=List.mem_map.1 hx;exact (hG i (List.mem_range.1 hi)).2
theorem Yn (c:Ct Tryz.prog) {args:List Value} {r:Value} {h:Hp} (hs:c.spec args h (fun v _=>v=r)) {w:World} (H:Holds h w) (hro:∀ b o,h b=some o->o.ty=1000003):Calls Tryz.prog c.f args.toArray w fun e w'=>e=.returned r/\Below w.heap.size w w':=by
 refine (c.ok args h _ w hs H).mono ?_;rintro e w' ⟨v,k,rfl,rfl,_,F⟩;exact⟨rfl,F.os,F.tape,F.output,F.size,fun i hi=>F.block i hi (hro i)⟩
end
section
attribute [local go_sem] bg bf aC aj au aI aU aH ax says_again
def KP:Fm:=(.C 11 [.L 0] (.p (.B 0)) ⟨0,1,0,0,0,0⟩
 (.call (.not (.x 0)) false 17 [.L 0] (.p (.B 1)) ⟨0,1,0,0,0,0⟩
 (.ite (.or (.x 0) (.not (.x 1)))
 (.C 7 [] (.p (.B 2)) ⟨0,1,0,0,0,0⟩
 (.ret (.p (.B 2))))
 (.C 18 [.L 0] (.tup [.S 0,.J 0]) ⟨1,0,1,0,0,0⟩
 (.C 19 [.S 0] (.tup [.L 1,(.agg [.J 1,.J 2,.J 3])]) ⟨3,0,0,0,1,0⟩
 (.ite (.or (.eqI (.x 1) (.c 3)) (.eqI (.x 1) (.c 6)))
 (.call (.and (.eqI (.x 0) (.c 0)) (.eqI (.cnt (.x 1)) (.c 0))) false 7 [] (.p (.B 2)) ⟨0,1,0,0,0,0⟩
 (.ret (.p (.one (.b (.and (.and (.eqI (.x 0) (.c 0)) (.eqI (.cnt (.x 1)) (.c 0))) (.x 2)))))))
 (.call (.and (.eqI (.x 0) (.c 0)) (.eqI (.x 1) (.c 0))) false 10 [.L 0,.L 1] (.p (.B 2)) ⟨0,1,0,0,0,0⟩
 (.call (.and (.and (.eqI (.x 0) (.c 0)) (.eqI (.x 1) (.c 0))) (.x 2)) false 7 [] (.p (.B 3)) ⟨0,1,0,0,0,0⟩
 (.ret (.p (.one (.b (.and (.and (.and (.eqI (.x 0) (.c 0)) (.eqI (.x 1) (.c 0))) (.x 2)) (.x 3))))))))))))))
theorem Vr:aZ ⟨true,[]⟩ Tryz.prog (fun l=>([]:List bK).getD l ⟨[],[],[]⟩) Tryz.f5=KP:=by kernel_rfl
theorem ZT:az Tryz.prog .zero Tryz.f5.params.toList=some ([.L 0],⟨0,0,0,0,1,0⟩):=by kernel_rfl
mutual
theorem OZ:∀ t:Tr,t.bare.bare=t.bare
 | .nd k l c n x ks=>by rw[Tr.bare,Tr.bare,sJ ks]
theorem sJ:∀ ts:List Tr,bH (bH ts)=bH ts
 | []=>rfl
 | t::ts=>by rw[bH,bH,OZ t,sJ ts]
end
set_option maxHeartbeats 4000000 in
def aey:Ct Tryz.prog where
 f:=5
 spec:=fun args h φ=>∃ sl l,args=[bM.val sl]/\NG h sl l/\l.length<=9223372036854775807/\(∀ x∈l,x.n<=9223372036854775807)/\φ (.bool true) h
 ok:=by
  rintro args h φ w ⟨sl,l,rfl,R,hl,hnn,hφ⟩ hH;refine dh (bn Tryz.func5 Vr ZT [RU,Yf,EX,Sv,J7,Ku] (fun v k=>∃ k',dA k' k/\φ v k') (bP) (bu) ⟨[],[],[],[],[sl],[],h,df⟩ ⟨rfl,rfl,rfl,rfl,rfl,rfl⟩ af ?_ w hH rfl);generalize hE:(⟨aG _,_,_,_⟩:Env)=E;have sc8:E.spec 11=(RU).spec:=by rw[<- hE];rfl
  have sc9:E.spec 17=(Yf).spec:=by rw[<- hE];rfl
  have sca:E.spec 7=(EX).spec:=by rw[<- hE];rfl
  have scb:E.spec 18=(Sv).spec:=by rw[<- hE];rfl
  have scc:E.spec 19=(J7).spec:=by rw[<- hE];rfl
  have scd:E.spec 10=(Ku).spec:=by rw[<- hE];rfl
  have ep:E.post=(fun v k=>∃ k',dA k' k/\φ v k'):=by rw[<- hE]
  clear hE;unfold KP;rw[au,if_pos (by rfl),sc8];refine⟨sl,l,rfl,R,hl,?_⟩;refine rR ⟨[],[vG 0 l],[],[],[],[]⟩ rfl af rfl ?_;cases hm:vG 0 l with
  | true=>
    rw[dn,if_neg (by simp[go_sem])];rw[ah,if_pos (by simp[go_sem])];rw[ag,sca];refine⟨rfl,?_⟩;refine rR ⟨[],[true],[],[],[],[]⟩ rfl af rfl ?_;rw[ak,ep];exact⟨h,fun _ _ h=>h,hφ⟩
  | false=>
    obtain⟨m1,m2⟩:=TR (Nat.zero_le _) hm;rw[dn,if_pos (by simp[go_sem]),sc9];refine⟨sl,l,rfl,R,by omega,fun x hx=>by have:=m2 x hx;omega,fun b hb=>?_⟩;refine rR ⟨[],[b],[],[],[],[]⟩ rfl af rfl ?_;cases b with
    | false=>
      rw[ah,if_pos (by simp[go_sem])];rw[ag,sca];refine⟨rfl,?_⟩;refine rR ⟨[],[true],[],[],[],[]⟩ rfl af rfl ?_;rw[ak,ep];exact⟨h,fun _ _ h=>h,hφ⟩
    | true=>
      rw[ah,if_neg (by simp[go_sem])];obtain⟨t,rfl,hmay⟩:=hb.1 rfl;have hgl:=kN t;have hnb:nB t:=fun x hx=>⟨hnn x hx,by have:=m2 x hx;omega⟩
      obtain⟨ln,c,ks,rfl,hY,hW⟩:=aeX hnb hmay;rw[iC] at hgl;have hnk:=(wI ks).2;have hlen:=Ep hW (by omega);rw[uf,hnk] at hlen;obtain⟨t',f',hft',hcase⟩:=Q7 (l:=ln) (c:=c) hW;rw[uf] at hft';rw[ag,scb];refine⟨sl,_,rfl,R,by omega,.inr ⟨_,rfl,.inr ⟨hmay,ln,c,0,[],ks,rfl,hY,by omega,?_⟩⟩⟩;refine rR ⟨[0],[],[fA ks],[],[],[]⟩ rfl af rfl ?_;rw[ag,scc];refine⟨fA ks,rfl,?_⟩;unfold o9;by_cases hlong:65536<(fA ks).length
      . rw[if_pos hlong];refine rR ⟨[3,0,0],[],[],[],[⟨none,0,0⟩],[]⟩ rfl af rfl ?_;rw[ah,if_pos (by simp[go_sem]),ae,au,if_pos (by simp[go_sem]),sca];refine⟨rfl,?_⟩;refine rR ⟨[],[true],[],[],[],[]⟩ rfl af rfl ?_;rw[ak,ep];refine⟨h,fun _ _ h=>h,?_⟩;simpa[go_sem] using hφ
      rw[if_neg hlong];intro f2 t2 hft2;rw[hft'] at hft2;cases hft2;rcases hcase with h6 | ⟨h0,hbare⟩
      . rw[if_neg (by rw[h6];decide)];refine rR ⟨[f'.1,f'.2.1,f'.2.2],[],[],[],[⟨none,0,0⟩],[]⟩ rfl af rfl ?_;rw[ah,if_pos (by simp[go_sem,h6]),ae,au,if_pos (by simp[go_sem]),sca];refine⟨rfl,?_⟩;refine rR ⟨[],[true],[],[],[],[]⟩ rfl af rfl ?_;rw[ak,ep];refine⟨h,fun _ _ h=>h,?_⟩;simpa[go_sem] using hφ
      . rw[if_pos h0];intro sl2 k2 hle2 ho2 hn2;have hle2':dA h k2:=hle2;refine rR ⟨[0,0,0],[],[],[],[sl2],[]⟩ rfl af rfl ?_;rw[ah,if_neg (by simp[go_sem]),ae,au,if_pos (by simp[go_sem]),scd];refine⟨sl,sl2,_,_,rfl,R.le hle2',NG.Uf ho2,by omega,?_⟩;rw[Jo (show (Tr.nd 1 ln c 0 [] ks).bare=t'.bare by rw[hbare,Tr.bare,Tr.bare,sJ])];refine rR ⟨[],[true],[],[],[],[]⟩ rfl af rfl ?_;rw[dn,if_pos (by simp[go_sem]),sca];refine⟨rfl,?_⟩;refine rR ⟨[],[true],[],[],[],[]⟩ rfl af rfl ?_;rw[ak,ep];refine⟨h,hle2',?_⟩;simpa[go_sem] using hφ
theorem Zr {h:Hp} {sl:bM} {l:List Ng} (R:NG h sl l) {W:World} (H:Holds h W) (hro:∀ b o,h b=some o->o.ty=1000003) (hl:l.length<=9223372036854775807) (hn:∀ x∈l,x.n<=9223372036854775807):
 Calls Tryz.prog 5 #[sl.val] W fun e w'=>e=.returned (.bool true)/\Below W.heap.size W w':=
 Yn aey (args:=[sl.val]) ⟨sl,l,rfl,R,hl,hn,rfl⟩ H hro
end
section
open Go.ChangeShapes Go.WideShapes Go.ChangeAt Go.RowKit
theorem own:ownKnob Tryz.prog.godebug=none:=by kernel_rfl
theorem laidOutB:laidOutB Tryz.prog=true:=by kernel_rfl
theorem XM {H:Type} {enc:TypeId×Value->H} {W W':World} (hb:Below W.heap.size W W'):
 ∀ (ts:List TypeId) (vs:List Value) (ds:List (DataW H)) (ps:List MemPlace),(∀ t∈ts,Tryz.prog.readableRec t=true/\t<Tryz.prog.types.size)->(∀ x∈ps,x.block<W.heap.size)->
 DataW.TrodAll enc Tryz.prog W 0 (fun _=>true) true ts vs ds ps->DataW.TrodAll enc Tryz.prog W' 0 (fun b=>decide (b<W.heap.size)) true ts vs ds ps:=by
 intro ts
 induction ts with
 | nil=>
   intro vs ds ps _ _ h;obtain⟨rfl,rfl,rfl⟩:=trodAll_nil h;exact trodAll_mk0
 | cons t ts ih=>
   intro vs ds ps ht hp h;obtain⟨v,vs',d,ds',p,q,rfl,rfl,rfl,h1,h2⟩:=trodAll_cons h;have h3:=ht t (by simp);exact trodAll_cons_mk (Below.trod laidOutB h3.1 h3.2 h1 hb (fun x hx=>hp x (by simp[hx]))) (ih vs' ds' q (fun u hu=>ht u (by simp[hu])) (fun x hx=>hp x (by simp[hx])) h2)
theorem acu {H:Type} {enc:TypeId×Value->H} {s:ChangeSpec} {f:Func} {W W':World} {args:Array Value} {ds gs:List (DataW H)} {before:List MemPlace}
 (hv:s.vars=[]) (hres:f.resultTypes.toList=[4]) (hs1:f.resultTypes.size=1) (hts:∀ t∈f.params.toList,Tryz.prog.readableRec t=true/\t<Tryz.prog.types.size)
 (hfn:s.fn H ds={ results:=[.lit (.bool true)],args:=ds })
 (hW:DataW.Whole enc Tryz.prog f.params.toList s.vars false W args.toList ds gs before) (hb:Below W.heap.size W W'):
 s.post enc Tryz.prog f false true false false W args (.bool true) W':=by
 have hW0:=hW;have hlt:=hW.lt;obtain⟨p,q,hA,hV,hpq,hfz,hnd⟩:=hW;rw[hv] at hV;obtain⟨rfl,rfl⟩:=trodVars_none hV;rw[List.append_nil] at hpq;subst hpq;have e:s.fn H (ds++[])={ results:=[.lit (.bool true)],args:=ds }:=by rw[List.append_nil];exact hfn
 refine⟨ds,[],before,[],before,[],hW0,?_,?_,?_,hb.frame _,fun h=>by cases h⟩
 . rw[e,hres,hs1];exact trodAll_mk1 (shut_bool Tryz.underlying4 true)
 . rw[e];exact XM hb _ _ _ _ hts hlt hA
 . rw[e,hv];rfl
def firstCells:Array Value:=(Lib.firstTab.map (Value.int .u8)).toArray
def JS:Array Value:=#[.int .u8 128,.int .u8 191,.int .u8 160,.int .u8 191,.int .u8 128,.int .u8 159,.int .u8 144,.int .u8 191,.int .u8 128,.int .u8 143,.int .u8 0,.int .u8 0,.int .u8 0,.int .u8 0,.int .u8 0,.int .u8 0,.int .u8 0,.int .u8 0,.int .u8 0,.int .u8 0,.int .u8 0,.int .u8 0,.int .u8 0,.int .u8 0,.int .u8 0,.int .u8 0,.int .u8 0,.int .u8 0,.int .u8 0,.int .u8 0,.int .u8 0,.int .u8 0]
def putCells (c:Array Value):Obj->Obj
 | .cells _ t frozen=>.cells c t frozen
 | o=>o
noncomputable def laidWorld (os:Os):World:=
 { World.holding Tryz.prog os ⟨#[],#[],[]⟩ with heap:=((World.holding Tryz.prog os ⟨#[],#[],[]⟩).heap.modify 0 (putCells firstCells)).modify 1 (putCells JS) }
end
end Go.Proofs.YtllbpdllkkcajaaGreatDoor
namespace Go.Proofs.YtllbpdllkkcajaaGreatDoor.prettyBack
open Go.ChangeShapes Go.WideShapes Go.ChangeAt Go.RowKit Go.Joins
open Go.ChangeMaps (open_string)
theorem Nw:∀ t∈Tryz.f5.params.toList,Tryz.prog.readableRec t=true/\t<Tryz.prog.types.size:=by
 rw[Tryz.params5];intro t ht;have hm:t∈[23]:=by simpa using ht
 have hall:([23].all fun u=>Tryz.prog.readableRec u&&decide (u<Tryz.prog.types.size))=true:=by kernel_rfl
 have:=List.all_eq_true.1 hall t hm;simpa using this
set_option maxRecDepth 100000 in
theorem contract (H:Type) (enc:TypeId×Value->H) (W:World) (base:Nat) (args:Array Value) (ds gs:List (DataW H)) (before:List MemPlace)
 (hval:∀ (j:Nat) t v,Tryz.f5.params[j]? = some t->args[j]? = some v->Value.okWide Tryz.prog W .any base t v)
 (hW:DataW.Whole enc Tryz.prog Tryz.f5.params.toList Rows.prettyBackSpec.vars false W args.toList ds gs before) (_hL:laidMetH Tryz.prog Rows.prettyBackRow.laid W):
 Calls Tryz.prog 5 args W fun e W'=>∃ v,e=.returned v/\Rows.prettyBackSpec.post enc Tryz.prog Tryz.f5 false true false false W args v W':=by
 have hW':=hW;obtain⟨p,q,hA0,hV,rfl,hfz,hnd⟩:=hW;have hA:DataW.TrodAll enc Tryz.prog W 0 (fun _=>true) true Tryz.f5.params.toList args.toList ds p:=hA0;rw[Tryz.params5] at hA hval;obtain⟨v0,vs0,d0,ds0,p0,q0,hargs,rfl,rfl,h0,r0⟩:=trodAll_cons hA;obtain⟨rfl,rfl,rfl⟩:=trodAll_nil r0;obtain rfl:args=#[v0]:=by cases args;simp_all
 obtain⟨k0,sl0,l0,rfl,R0,H0,ro0,len0,num0⟩:=QH (hval 0 23 v0 rfl rfl) h0;refine (Zr R0 H0 ro0 len0 num0).mono fun e W' ⟨he,hb⟩=>?_
 subst he;exact⟨_,rfl,acu rfl (by kernel_rfl) (by kernel_rfl) Nw rfl hW' hb⟩
theorem laid_met (os:Os):laidMet Tryz.prog Rows.prettyBackRow.laid ((laidWorld os).forCall (fun _ _=>0) ⟨#[],#[.slice none 0 0],[]⟩).memory:=
 laidMet_of_run' 8 (by kernel_rfl) (by kernel_rfl)
theorem reads (os:Os) {H:Type} (enc:TypeId×Value->H):∃ places,DataW.whole enc Tryz.prog ((laidWorld os).forCall (fun _ _=>0) ⟨#[],#[.slice none 0 0],[]⟩).memory Tryz.f5.params.toList Rows.prettyBackSpec.vars false (#[.slice none 0 0]:Array Value).toList 8=some ([.nil],[],places):=
 ⟨[],by kernel_rfl⟩
set_option maxRecDepth 100000 in
theorem lifted (os:Os) (started:os.Started) (H:Type) (enc:TypeId×Value->H) (F:Stop.Interp):
 ReturnsInHanded {} Tryz.checked os 5 .any ((OpenSpec.ofChange Rows.prettyBackSpec).preRow enc Tryz.prog Tryz.f5 Rows.prettyBackRow.domain false Rows.prettyBackRow.laid) (((OpenSpec.ofChange Rows.prettyBackSpec).at F).post enc Tryz.prog Tryz.f5 false true false false):=by
 obtain⟨places,hx⟩:=reads os enc;refine returnsInHanded_of_row (C:=Tryz.checked) (s:=OpenSpec.ofChange Rows.prettyBackSpec) own started (by kernel_rfl) Tryz.func5
  (witness_row_at (enc:=enc) (C:=Tryz.checked) false (laidWorld os) #[.slice none 0 0] rfl (by kernel_rfl) (by kernel_rfl) (by kernel_rfl)
   (OpenSpec.preRow_of_cond 8 hx (by kernel_rfl) (fun k hk=>by cases hk) (by kernel_rfl) (laid_met os))) ?_
 intro W base args ds gs before hval hW _ _ _ hL _ _;exact contract H enc W base args ds gs before hval hW hL
theorem said:Rows.PrettyBackSaid:=
 OpenClaim.holds_of_cond 5 Tryz.f5 rfl rfl rfl rfl rfl rfl rfl ⟨rfl,rfl,rfl,rfl,rfl⟩ rfl rfl rfl rfl rfl (by kernel_rfl) Tryz.func5 (by kernel_rfl)
  (of_decide_eq_true (by kernel_rfl)) (by unfold Func.isWrapper;first | (rw[if_pos (by decide +kernel)];kernel_rfl) | (rw[if_neg (by decide +kernel)];exact⟨rfl,rfl⟩))
  (fun os started H enc _ F=>by rw[OpenClaim.pre_eq_preRow];exact lifted os started H enc F)
theorem plain (f : FuncId) (fn : Func) (hf : Tryz.pinned.checked.prog.funcNamed "hindcast/hindcastlaw07.PrettyBack" = some f) (hfn : Tryz.pinned.checked.prog.funcs[f]? = some fn) :
 false=Tryz.pinned.checked.prog.looks []/\∀ (j:Nat) t,fn.params[j]? = some t->Tryz.pinned.checked.prog.wantsStandIn t=false:=by
 obtain rfl : f = 5 := Option.some.inj ((show Tryz.prog.funcNamed "hindcast/hindcastlaw07.PrettyBack" = some 5 by kernel_rfl).symm.trans hf) |>.symm
 obtain rfl:fn=Tryz.f5:=(Option.some.inj (Tryz.func5.symm.trans hfn)).symm;refine⟨by kernel_rfl,fun j t ht=>?_⟩;rw[Tryz.params5] at ht;have hm:t∈[23]:=by simpa using Array.mem_of_getElem? ht
 have hall:([23].all fun u=>!Tryz.prog.wantsStandIn u)=true:=by kernel_rfl
 exact (show Tryz.prog.wantsStandIn t=false by simpa using List.all_eq_true.1 hall t hm)
theorem card:Rows.PrettyBackCardSaid:=
 Claim7.holds_tied_plain_at .later [] _ _ _ _ said (fun _ h=>by cases h) (by kernel_rfl) (fun _ h=>by cases h) prettyBack_row_tie rfl ⟨rfl,rfl⟩ (by kernel_rfl) rfl plain (by kernel_rfl)
end Go.Proofs.YtllbpdllkkcajaaGreatDoor.prettyBack
