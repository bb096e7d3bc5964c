/- hindcastlaw07: texts joined: ParO, ParP, ParQ, ParR, ParS, ParT, ParU, LexT, LexU, LexP, LexV, ParV, TreF, TreN, TreO, TreP, TreT, TreR, TreS, TreB, TreC. -/
import Derived.Test.YtllbpdllkkcajaaGreatDoorPbg
namespace Go.Proofs.YtllbpdllkkcajaaGreatDoor
open Go.RowKit
section
attribute [local go_sem] bg bf aC aj au aI aU aH ax says_again
def Lh:Fm:=(.C 145 [.P 0] (.p (.P 1)) ⟨0,0,0,0,0,1⟩
 (.loop 0 ⟨[],[],[],[],[],[(.c .nilp),(.pt 1)]⟩
 (.C 44 [.P 0] (.p (.K 0 1 2 3 0)) ⟨4,0,1,0,0,0⟩
 (.C 69 [.P 0,.W [91]] (.p (.B 0)) ⟨0,1,0,0,0,0⟩
 (.ite (.x 0)
 (.C 108 [.P 0,.W [91]] (.p (.K 4 5 6 7 1)) ⟨4,0,1,0,0,0⟩
 (.C 22 [.P 0] (.p (.P 4)) ⟨0,0,0,0,0,1⟩
 (.V 110 [.P 0,.W [93]]
 (.mk [(.pt 3),(.pt 4)] 71 2
 (.C 128 [(.one (.i .u8 (.c 28))),.K 0 1 2 3 0,.L 0] (.p (.P 5)) ⟨0,0,0,0,0,1⟩
 (.again 0 ⟨0,0,0,0,0,2⟩ ⟨0,0,0,0,0,4⟩ ⟨[],[],[],[],[],[(.pt 2),(.pt 5)]⟩))))))
 (.C 111 [.P 0,.W [46]] (.p (.B 1)) ⟨0,1,0,0,0,0⟩
 (.ite (.x 1)
 (.C 107 [.P 0,(.one (.i .u8 (.c 1)))] (.p (.K 4 5 6 7 1)) ⟨4,0,1,0,0,0⟩
 (.mk [(.pt 3)] 71 1
 (.C 106 [(.one (.i .u8 (.c 29))),.K 0 1 2 3 0,.S 1,.L 0] (.p (.P 4)) ⟨0,0,0,0,0,1⟩
 (.again 0 ⟨0,0,0,0,0,2⟩ ⟨0,0,0,0,0,4⟩ ⟨[],[],[],[],[],[(.pt 2),(.pt 4)]⟩))))
 (.ret (.p (.P 3))))))))))
theorem VH:aZ ⟨true,[]⟩ Tryz.prog (fun l=>([⟨[3,2],[8,9,4,12,13,11,14,15,16,17,5,18,19,20,21,22,23,24,26,27,25,28,29,30,31,32,33,34,10],[4]⟩]:List bK).getD l ⟨[],[],[]⟩) Tryz.f127=Lh:=by kernel_rfl
theorem aad:az Tryz.prog .zero Tryz.f127.params.toList=some ([.P 0],⟨0,0,0,0,0,1⟩):=by kernel_rfl
def KY:Fm:=(.C 106 [(.one (.i .u8 (.c 27))),.K 0 1 2 3 0,.S 0,(.one (.sl .nil))] (.p (.P 1)) ⟨0,0,0,0,0,1⟩
 (.C 108 [.P 0,.W [40]] (.p (.K 4 5 6 7 1)) ⟨4,0,1,0,0,0⟩
 (.loop 0 ⟨[],[(.c true)],[],[],[],[]⟩
 (.C 46 [.P 0] (.p (.B 1)) ⟨0,1,0,0,0,0⟩
 (.call (.not (.x 1)) false 69 [.P 0,.W [41]] (.p (.B 2)) ⟨0,1,0,0,0,0⟩
 (.ite (.and (.not (.x 1)) (.not (.x 2)))
 (.ite (.not (.x 0))
 (.C 105 [.P 0,.W [44]] (.p (.K 8 9 10 11 2)) ⟨4,0,1,0,0,0⟩
 (.O (.pt 1 6) 1 [(.sl (.x 0))] ⟨0,0,0,0,1,0⟩
 (.Z 1
 (.Z 1
 (.callK (.c true) [((.c true),(.pt 1 6),1)] 22 [.P 0] (.p (.P 2)) ⟨0,0,0,0,0,1⟩
 (.mk [(.pt 2)] 71 1
 (.app (.x 0) (.x 1) 1 8 71
 (.Z 1
 (.Z 1
 (.store (.pt 1 6) [(.sl (.x 2))]
 (.again 0 ⟨8,0,2,0,0,2⟩ ⟨8,1,2,0,0,2⟩ ⟨[],[(.c false)],[],[],[],[]⟩)))))))))))
 (.O (.pt 1 6) 1 [(.sl (.x 0))] ⟨0,0,0,0,1,0⟩
 (.Z 1
 (.Z 1
 (.callK (.c true) [((.c true),(.pt 1 6),1)] 22 [.P 0] (.p (.P 2)) ⟨0,0,0,0,0,1⟩
 (.mk [(.pt 2)] 71 1
 (.app (.x 0) (.x 1) 1 8 71
 (.Z 1
 (.Z 1
 (.store (.pt 1 6) [(.sl (.x 2))]
 (.again 0 ⟨8,0,2,0,0,2⟩ ⟨8,1,2,0,0,2⟩ ⟨[],[(.c false)],[],[],[],[]⟩)))))))))))
 (.V 110 [.P 0,.W [41]]
 (.ret (.p (.P 1))))))))))
theorem Vy:aZ ⟨true,[]⟩ Tryz.prog (fun l=>([⟨[6],[13,14,15,16,17,18,19,20,21,22,23,24,25,26,27,28,29,30,31,32,33,34,35],[10]⟩]:List bK).getD l ⟨[],[],[]⟩) Tryz.f159=KY:=by kernel_rfl
theorem ZZ:az Tryz.prog .zero Tryz.f159.params.toList=some ([.P 0,.K 0 1 2 3 0],⟨4,0,1,0,0,1⟩):=by kernel_rfl
def Uo (h:Hp) (b:Nat) (sl:bM) (L:List Tok) (t:Tr) (q:PS) (n:Nat):Nat->Ctx->Prop:=fun _ C=>
 ∃ x0 x1 v x p1 k1 g1 m1,C=⟨[],[],[],[],[],[some (b,0),x0,x1,some (v,0)],k1,df⟩/\At h b sl L p1 k1 g1/\It g1 v x/\m1<=n/\iM L m1 x p1=some (t,q)/\p1.d+m1<=1000000000000
set_option maxHeartbeats 4000000 in
theorem acN {n:Nat} (HE:vT n) (HA:Hw n):OL n:=by
 rintro args h φ w ⟨m,hm,b,sl,L,p,t,q,rfl,W,hr,hd,hφ⟩ hH;refine bn Tryz.func127 VH aad [gI,kX,jk,jJ,gG,rO,lH,iD,kL HE,XX HA] φ (Uo h b sl L t q n) (fun _=>iK b L.length) ⟨[],[],[],[],[],[some (b,0)],h,df⟩ ⟨rfl,rfl,rfl,rfl,rfl,rfl⟩ af ?_ w hH rfl;generalize hE:(⟨aG _,_,_,_⟩:Env)=E;have sa6:E.spec 44=(gI).spec:=by rw[<- hE];rfl
 have sa8:E.spec 69=(kX).spec:=by rw[<- hE];rfl
 have saf:E.spec 108=(jk).spec:=by rw[<- hE];rfl
 have sag:E.spec 110=(jJ).spec:=by rw[<- hE];rfl
 have sad:E.spec 128=(gG).spec:=by rw[<- hE];rfl
 have saa:E.spec 111=(rO).spec:=by rw[<- hE];rfl
 have sam:E.spec 107=(lH).spec:=by rw[<- hE];rfl
 have sae:E.spec 106=(iD).spec:=by rw[<- hE];rfl
 have san:E.spec 22=(kL HE).spec:=by rw[<- hE];rfl
 have sao:E.spec 145=(XX HA).spec:=by rw[<- hE];rfl
 have ep:E.post=φ:=by rw[<- hE]
 have ei:E.inv=(Uo h b sl L t q n):=by rw[<- hE]
 have em:E.meas=(fun _=>iK b L.length):=by rw[<- hE]
 clear hE;unfold Lh;unfold Jm at hr;simp only[Option.bind_eq_some_iff] at hr;obtain⟨⟨x,r⟩,h1,h2⟩:=hr;rw[au,if_pos (by rfl),sao];refine⟨m,hm,b,sl,L,p,x,r,rfl,W,h1,hd,fun v k g A1 hI=>?_⟩;simp[go_sem,bT];refine⟨some (v,0),rfl,?_⟩;have hrd:=((mG W.lw m).2.2.2.2.1 _ _ _ h1).d;rw[ae];refine bI ?_ ?_
 . rw[ei];exact⟨some (v,0),none,v,x,r,k,g,m,rfl,A1,hI,by omega,h2,by dsimp only at *;omega⟩
 rw[ei,em];rintro i' bb ss v' ll pp hh0 M ⟨x0,x1,v,x,p1,k1,g1,m1,hC,A1,hI,hm1,hb1,hd1⟩ hM;cases hC;have hM:M 0=mu L p1:=hM.trans (fC A1.pw rfl);clear h1 h2;cases m1 with
 | zero=>cases hb1
 | succ m1=>
 rw[iM] at hb1;rw[au,if_pos (by rfl),sa6];refine⟨b,sl,L,p1,rfl,A1.pw,?_⟩;simp[go_sem,dH,fM];rw[ag,sa8];refine⟨b,sl,L,p1,[91],rfl,A1.pw,?_⟩;have hd0:=A1.pw.d0;cases c1:dm L [91] p1 with
 | true=>
   rw[if_pos c1] at hb1;simp only[Option.bind_eq_some_iff] at hb1;obtain⟨⟨y,r1⟩,h3,h4⟩:=hb1;simp[go_sem];rw[ah,if_pos (by simp[go_sem])];rw[ag,saf];refine⟨b,sl,L,p1,[91],rfl,A1.pw,?_⟩;simp[go_sem,dH,fM];have Ao:=bG W.lw [91] p1;have hod:=Ao.d;have A2:=A1.open [91] (by omega);rw[ag,san];refine⟨m1,by omega,b,sl,L,_,y,r1,rfl,A2.pw,h3,by omega,fun v2 k2 g2 A3 hI2=>?_⟩;simp[go_sem,bT];refine⟨some (v2,0),rfl,?_⟩;have A4:=A2.then A3;have Ad:=(mG W.lw m1).1 _ _ _ _ h3;have hrd1:=Ad.d;rw[ag,sag];refine⟨b,sl,L,r1,[93],rfl,A4.pw,?_⟩;have A5:=A4.shut [93] (by omega);have As:=dB W.lw [93] r1;have hsd:=As.d;simp[go_sem];rw[ae,aK];intro kb hkb;simp[go_sem];rw[ag,sad];refine⟨28,tk L p1,⟨some (kb,0),2,2⟩,rfl,fun v3 hv3=>?_⟩;simp[go_sem,bT];refine⟨some (v3,0),rfl,?_⟩;obtain⟨A6,I6⟩:=A5.node (vs:=[v,v2]) (ts:=[x,y]) hkb ⟨It.le (sZ _ _) _ _ hI,It.le (A2.disj A3) _ _ hI2,trivial⟩ (by simp) hv3 28 (tk L p1).l (tk L p1).c 0 [];rw[ae,says_again,ei,em];refine⟨⟨_,_,v3,_,dw L [93] r1,_,_,m1,rfl,A6,I6,by omega,h4,by omega⟩,?_⟩;show iK b L.length _<M 0;rw[hM];refine Nat.lt_of_le_of_lt (Nat.le_of_eq (fC A6.pw rfl)) ?_;have m1:=nK (iQ c1) (jV c1).1 A1.pw.at';have m2:=gJ (Ad.trans As);omega
 | false=>
 rw[c1,if_neg (by decide)] at hb1;simp[go_sem];rw[ah,if_neg (by simp[go_sem])];rw[ag,saa];refine⟨b,sl,L,p1,[46],rfl,A1.pw,?_⟩;cases c2:dm L [46] p1 with
 | true=>
   rw[if_pos c2] at hb1;rw[if_pos rfl];simp[go_sem];rw[ah,if_pos (by simp[go_sem])];have A2:=A1.pass;rw[ag,sam];refine⟨b,sl,L,_,1,rfl,A2.pw,?_⟩;simp[go_sem,dH,fM];have A3:=A2.word 1;rw[dZ] at A3;rw[ae,aK];intro kb hkb;simp[go_sem];rw[ag,sae];refine⟨29,tk L p1,(tk L (bF L p1)).x,⟨some (kb,0),1,1⟩,rfl,fun v3 hv3=>?_⟩;simp[go_sem,bT];refine⟨some (v3,0),rfl,?_⟩;obtain⟨A6,I6⟩:=A3.node (vs:=[v]) (ts:=[x]) hkb ⟨hI,trivial⟩ (by simp) hv3 29 (tk L p1).l (tk L p1).c 0 (tk L (bF L p1)).x;have Ap:=aN W.lw p1;have Aw:=dF W.lw 1 (bF L p1);have hwd:=(Ap.trans Aw).d;rw[ae,says_again,ei,em];refine⟨⟨_,_,v3,_,_,_,_,m1,rfl,A6,I6,by omega,hb1,by omega⟩,?_⟩;show iK b L.length _<M 0;rw[hM];refine Nat.lt_of_le_of_lt (Nat.le_of_eq (fC A6.pw rfl)) ?_;have m1:=nK (iE c2) (jV c2).1 A1.pw.at';have m2:=gJ Aw;omega
 | false=>
 rw[c2,if_neg (by decide)] at hb1;cases hb1;rw[if_neg (by decide)];simp[go_sem];rw[ah,if_neg (by simp[go_sem])];simp only[ae];simp[go_sem,ep];exact hφ v _ _ A1 hI
def Jj (L:List Tok) (n:Nat) (t0:Tok) (p:PS):Option (Tr×PS):=(gY L n true [] (dE L [40] p)).map fun r=>(nd 27 t0 0 t0.x r.1,dw L [41] r.2)
def GV (f:List Tok->Nat->Tok->PS->Option (Tr×PS)) (n:Nat) (args:List Value) (h:Hp) (φ:Value->Hp->Prop):Prop:=
 ∃ m,m<=n/\∃ b sl L p t q t0,args=[bT b,dH t0]/\PW h b sl L p/\f L m t0 p=some (t,q)/\p.d+m+1<=1000000000000/\∀ v k g,At h b sl L q k g->It g v t->φ (bT v) k
def OI (n:Nat):Prop:=∀ args h φ w,GV Jj n args h φ->Holds h w->Calls Tryz.prog 159 args.toArray w fun e w'=>∃ v k,e=.returned v/\φ v k/\Holds k w'/\Fr w.heap.size h k w w'
def XY {n:Nat} (H:OI n):Ct Tryz.prog:=⟨159,GV Jj n,H⟩
def RF (h:Hp) (b:Nat) (sl:bM) (L:List Tok) (t0:Tok) (rl:List Tr) (r:PS) (d:Int) (n:Nat):Nat->Ctx->Prop:=fun _ C=>
 ∃ i4 i5 i6 i7 s1 first o s vs ts p1 k1 g1 m1,C=⟨[t0.k,t0.l,t0.c,t0.n,i4,i5,i6,i7],[first],[t0.x,s1],[],[],[some (b,0),some (o,0)],k1,df⟩/\Out h b sl L p1 k1 g1 o 27 t0.l t0.c 0 t0.x s vs ts/\m1<=n/\
  gY L m1 first ts p1=some (rl,r)/\p1.d+m1<=1000000000000/\vs.length+mu L p1<=L.length/\p1.d=d
theorem o7 (L:List Tok) (p:PS):mu L p<=L.length:=by unfold mu;split<;>omega
set_option maxHeartbeats 4000000 in
theorem abQ {n:Nat} (HE:vT n):OI n:=by
 rintro args h φ w ⟨m,hm,b,sl,L,p,t,q,t0,rfl,W,hr,hd,hφ⟩ hH;unfold Jj at hr;simp only[Option.map_eq_some_iff] at hr;obtain⟨⟨rl,r⟩,h1,h2⟩:=hr;cases h2;refine bn Tryz.func159 Vy ZZ [iD,jk,iq,kX,jI,jJ,kL HE] φ (RF h b sl L t0 rl r (p.d+1) n) (fun _=>iK b L.length) ⟨[t0.k,t0.l,t0.c,t0.n],[],[t0.x],[],[],[some (b,0)],h,df⟩ ⟨rfl,rfl,rfl,rfl,rfl,rfl⟩ af ?_ w hH rfl;generalize hE:(⟨aG _,_,_,_⟩:Env)=E;have sae:E.spec 106=(iD).spec:=by rw[<- hE];rfl
 have saf:E.spec 108=(jk).spec:=by rw[<- hE];rfl
 have sa7:E.spec 46=(iq).spec:=by rw[<- hE];rfl
 have sa8:E.spec 69=(kX).spec:=by rw[<- hE];rfl
 have sac:E.spec 105=(jI).spec:=by rw[<- hE];rfl
 have sag:E.spec 110=(jJ).spec:=by rw[<- hE];rfl
 have san:E.spec 22=(kL HE).spec:=by rw[<- hE];rfl
 have ep:E.post=φ:=by rw[<- hE]
 have ei:E.inv=(RF h b sl L t0 rl r (p.d+1) n):=by rw[<- hE]
 have em:E.meas=(fun _=>iK b L.length):=by rw[<- hE]
 clear hE;unfold KY;have A:=At.start W;have hd0:=W.d0;have hlen:=W.len;rw[au,if_pos (by rfl),sae];refine⟨27,t0,t0.x,⟨none,0,0⟩,rfl,fun o ho=>?_⟩;simp[go_sem,bT];refine⟨some (o,0),rfl,?_⟩;have O:=A.out ho 27 t0.l t0.c 0 t0.x;rw[ag,saf];refine⟨b,sl,L,p,[40],rfl,O.at'.pw,?_⟩;simp[go_sem,dH,fM];have hod:=(bG W.lw [40] p).d;have O1:=O.open [40] (by omega);rw[ae];refine bI ?_ ?_
 . rw[ei];exact⟨_,_,_,_,_,true,o,⟨none,0,0⟩,[],[],_,_,_,m,rfl,O1,hm,h1,by omega,by have:=o7 L (dE L [40] p);simp;omega,hod⟩
 rw[ei,em];rintro i' bb ss v' ll pp hh0 M ⟨i4,i5,i6,i7,s1,first,o,s,vs,ts,p1,k1,g1,m1,hC,O1,hm1,hb1,hd1,hmu,hpd⟩ hM;cases hC;have hM:M 0=mu L p1:=hM.trans (fC O1.at'.pw rfl);clear h1 hod O ho;cases m1 with
 | zero=>cases hb1
 | succ m1=>
 rw[gY] at hb1;have stop:(p1.bad||dm L [41] p1)=true->∀ bs M,Then E (.V 110 [.P 0,.W [41]] (.ret (.p (.P 1)))) ⟨[t0.k,t0.l,t0.c,t0.n,i4,i5,i6,i7],bs,[t0.x,s1],[],[],[some (b,0),some (o,0)],hh0,M⟩:=by
  intro hc bs M;rw[if_pos hc] at hb1;cases hb1;rw[ag,sag];refine⟨b,sl,L,_,[41],rfl,O1.at'.pw,?_⟩;have O2:=O1.shut [41] (by omega);simp[go_sem];simp only[ae];simp[go_sem,ep];obtain⟨g',A',I'⟩:=O2.done;exact hφ o _ g' A' I'
 rw[au,if_pos (by rfl),sa7];refine⟨b,sl,L,p1,rfl,O1.at'.pw,?_⟩;simp[go_sem];cases c0:p1.bad with
 | true=>
   rw[dn,if_neg (by simp[go_sem])];simp[go_sem];rw[ah,if_neg (by simp[go_sem])];exact stop (by rw[c0];rfl) _ _
 | false=>
 rw[dn,if_pos (by simp[go_sem]),sa8];refine⟨b,sl,L,p1,[41],rfl,O1.at'.pw,?_⟩;simp[go_sem];cases c1:dm L [41] p1 with
 | true=>
   rw[ah,if_neg (by simp[go_sem])];exact stop (by rw[c1];simp) _ _
 | false=>
 clear stop;rw[if_neg (by rw[c0,c1];decide)] at hb1;simp only[Option.bind_eq_some_iff] at hb1;obtain⟨⟨y,r1⟩,h3,h4⟩:=hb1;rw[ah,if_pos (by simp[go_sem])];have hmp:=nM c0 O1.at'.pw.at';have more:∀ (p2:PS) (k2:Hp) (bs:List Bool) (is':List Int) (ss':List (List UInt8)),Out h b sl L p2 k2 g1 o 27 t0.l t0.c 0 t0.x s vs ts->gZ L p1 p2 0->dW L m1 1 p2=some (y,r1)->
  Then E (Fm.O (.pt 1 6) 1 [(.sl (.x 0))] ⟨0,0,0,0,1,0⟩
 (.Z 1
 (.Z 1
 (.callK (.c true) [((.c true),(.pt 1 6),1)] 22 [.P 0] (.p (.P 2)) ⟨0,0,0,0,0,1⟩
 (.mk [(.pt 2)] PI 1
 (.app (.x 0) (.x 1) 1 8 PI
 (.Z 1
 (.Z 1
 (.store (.pt 1 6) [(.sl (.x 2))]
 (.again 0 ⟨8,0,2,0,0,2⟩ ⟨8,1,2,0,0,2⟩ ⟨[],[(.c false)],[],[],[],[]⟩)))))))))) ⟨[t0.k,t0.l,t0.c,t0.n,i4,i5,i6,i7]++is',bs,[t0.x,s1]++ss',[],[],[some (b,0),some (o,0)],k2,M⟩:=by
  intro p2 k2 bs is' ss' O2 Ap2 h3;have hpd2:=Ap2.d;have hbl:=O2.blk;rw[bY,if_pos (by rfl)];simp[go_sem,bz hbl,oL];rw[ai];refine⟨by simp[go_sem],?_⟩;rw[ai];refine⟨by simp[go_sem],?_⟩;rw[ae,aI,if_pos (by rfl),san];refine⟨m1,by omega,b,sl,L,p2,y,r1,rfl,O2.at'.pw,h3,by omega,fun v2 k3 g3 A3 hI2=>?_⟩;have O3:=O2.then A3;have Ad:=(mG W.lw m1).1 _ _ _ _ h3;have hrd1:=Ad.d;have hbl3:=O3.blk;simp[go_sem,bT];refine⟨by rw[bz hbl,bz hbl3],some (v2,0),rfl,?_⟩;rw[ae,aK];intro kb hkb;simp[go_sem];rw[ae];have hkl:=o7 L p1;refine Jf O3 (It.le (O2.at'.disj A3) _ _ hI2) (by omega) hkb rfl rfl rfl fun s' k4 hk4 O4=>?_
  rw[aC];refine⟨by simp[go_sem],?_⟩;rw[ai];refine⟨by simp[go_sem],?_⟩;rw[ae,aH];refine⟨_,by simp[go_sem,jg hk4,oL];rfl,?_⟩;rw[ae,says_again,ei,em];have hw:=jH (((UU W.lw m1).1 _ _ _ _ h3)) Ad O2.at'.pw.at';have hm2:=gJ Ap2;refine⟨⟨_,_,_,_,_,false,o,s',vs++[v2],ts++[y],r1,_,_,m1,rfl,O4,by omega,h4,by omega,by simp;omega,by omega⟩,?_⟩;show iK b L.length _<M 0;rw[hM];refine Nat.lt_of_le_of_lt (Nat.le_of_eq (fC O4.at'.pw rfl)) ?_;omega
 cases first with
 | true=>
   rw[ah,if_neg (by simp[go_sem])];exact more p1 hh0 _ [] [] O1 (gZ.refl p1) h3
 | false=>
   rw[ah,if_pos (by simp[go_sem])];rw[ag,sac];refine⟨b,sl,L,p1,[44],rfl,O1.at'.pw,?_⟩;simp[go_sem,dH,fM];exact more (bC L [44] p1) _ _ [_,_,_,_] [_] (O1.must [44]) (aV W.lw [44] p1) h3
def sS:Fm:=(.C 44 [.P 0] (.p (.K 4 5 6 7 1)) ⟨4,0,1,0,0,0⟩
 (.call (.not (.eqI (.x 4) (.c 2))) false 69 [.P 0,.W [91]] (.p (.B 0)) ⟨0,1,0,0,0,0⟩
 (.ite (.and (.not (.eqI (.x 4) (.c 2))) (.not (.x 0)))
 (.V 45 [.P 0,(.I (.c 5))]
 (.C 112 [.P 0] (.p (.P 1)) ⟨0,0,0,0,0,1⟩
 (.mk [(.pt 1)] 71 1
 (.C 128 [(.one (.i .u8 (.c 32))),.K 0 1 2 3 0,.L 0] (.p (.P 2)) ⟨0,0,0,0,0,1⟩
 (.C 108 [.P 0,.W [40]] (.p (.K 8 9 10 11 2)) ⟨4,0,1,0,0,0⟩
 (.Z 1
 (.Z 1
 (.Z 1
 (.O (.pt 1 0) 1 [.U 12] ⟨1,0,0,0,0,0⟩
 (.ite (.eqI (.x 12) (.c 20))
 (.O (.pt 2 6) 1 [(.sl (.x 1))] ⟨0,0,0,0,1,0⟩
 (.Z 2
 (.Z 2
 (.callK (.c true) [((.c true),(.pt 2 6),1)] 22 [.P 0] (.p (.P 3)) ⟨0,0,0,0,0,1⟩
 (.mk [(.pt 3)] 71 1
 (.app (.x 1) (.x 2) 1 8 71
 (.Z 2
 (.Z 2
 (.store (.pt 2 6) [(.sl (.x 3))]
 (.V 110 [.P 0,.W [41]]
 (.ret (.p (.P 2)))))))))))))
 (.V 110 [.P 0,.W [41]]
 (.ret (.p (.P 2))))))))))))))
 (.C 112 [.P 0] (.p (.P 1)) ⟨0,0,0,0,0,1⟩
 (.mk [(.pt 1)] 71 1
 (.C 128 [(.one (.i .u8 (.c 32))),.K 0 1 2 3 0,.L 0] (.p (.P 2)) ⟨0,0,0,0,0,1⟩
 (.C 108 [.P 0,.W [40]] (.p (.K 8 9 10 11 2)) ⟨4,0,1,0,0,0⟩
 (.Z 1
 (.Z 1
 (.Z 1
 (.O (.pt 1 0) 1 [.U 12] ⟨1,0,0,0,0,0⟩
 (.ite (.eqI (.x 12) (.c 20))
 (.O (.pt 2 6) 1 [(.sl (.x 1))] ⟨0,0,0,0,1,0⟩
 (.Z 2
 (.Z 2
 (.callK (.c true) [((.c true),(.pt 2 6),1)] 22 [.P 0] (.p (.P 3)) ⟨0,0,0,0,0,1⟩
 (.mk [(.pt 3)] 71 1
 (.app (.x 1) (.x 2) 1 8 71
 (.Z 2
 (.Z 2
 (.store (.pt 2 6) [(.sl (.x 3))]
 (.V 110 [.P 0,.W [41]]
 (.ret (.p (.P 2)))))))))))))
 (.V 110 [.P 0,.W [41]]
 (.ret (.p (.P 2))))))))))))))))
theorem VC:aZ ⟨true,[]⟩ Tryz.prog (fun l=>([]:List bK).getD l ⟨[],[],[]⟩) Tryz.f160=sS:=by kernel_rfl
theorem Z8:az Tryz.prog .zero Tryz.f160.params.toList=some ([.P 0,.K 0 1 2 3 0],⟨4,0,1,0,0,1⟩):=by kernel_rfl
def KX:Fm:=(.C 44 [.P 0] (.p (.K 0 1 2 3 0)) ⟨4,0,1,0,0,0⟩
 (.C 46 [.P 0] (.p (.B 0)) ⟨0,1,0,0,0,0⟩
 (.ite (.x 0)
 (.C 128 [(.one (.i .u8 (.c 25))),.K 0 1 2 3 0,(.one (.sl .nil))] (.p (.P 1)) ⟨0,0,0,0,0,1⟩
 (.ret (.p (.P 1))))
 (.ite (.eqI (.x 0) (.c 3))
 (.C 82 [.P 0] (.p (.K 4 5 6 7 1)) ⟨4,0,1,0,0,0⟩
 (.C 83 [(.one (.i .u8 (.c 21))),.K 4 5 6 7 1,.J 3,(.one (.sl .nil))] (.p (.P 1)) ⟨0,0,0,0,0,1⟩
 (.ret (.p (.P 1)))))
 (.ite (.eqI (.x 0) (.c 4))
 (.C 82 [.P 0] (.p (.K 4 5 6 7 1)) ⟨4,0,1,0,0,0⟩
 (.C 83 [(.one (.i .u8 (.c 22))),.K 4 5 6 7 1,.J 3,(.one (.sl .nil))] (.p (.P 1)) ⟨0,0,0,0,0,1⟩
 (.ret (.p (.P 1)))))
 (.ite (.eqI (.x 0) (.c 5))
 (.C 82 [.P 0] (.p (.K 4 5 6 7 1)) ⟨4,0,1,0,0,0⟩
 (.C 106 [(.one (.i .u8 (.c 23))),.K 4 5 6 7 1,.S 0,(.one (.sl .nil))] (.p (.P 1)) ⟨0,0,0,0,0,1⟩
 (.ret (.p (.P 1)))))
 (.C 111 [.P 0,.W [116,114,117,101]] (.p (.B 1)) ⟨0,1,0,0,0,0⟩
 (.ite (.x 1)
 (.C 83 [(.one (.i .u8 (.c 24))),.K 0 1 2 3 0,(.I (.c 1)),(.one (.sl .nil))] (.p (.P 1)) ⟨0,0,0,0,0,1⟩
 (.ret (.p (.P 1))))
 (.C 111 [.P 0,.W [102,97,108,115,101]] (.p (.B 2)) ⟨0,1,0,0,0,0⟩
 (.ite (.x 2)
 (.C 83 [(.one (.i .u8 (.c 24))),.K 0 1 2 3 0,(.I (.c 0)),(.one (.sl .nil))] (.p (.P 1)) ⟨0,0,0,0,0,1⟩
 (.ret (.p (.P 1))))
 (.C 111 [.P 0,.W [110,105,108]] (.p (.B 3)) ⟨0,1,0,0,0,0⟩
 (.ite (.x 3)
 (.C 128 [(.one (.i .u8 (.c 25))),.K 0 1 2 3 0,(.one (.sl .nil))] (.p (.P 1)) ⟨0,0,0,0,0,1⟩
 (.ret (.p (.P 1))))
 (.ite (.eqI (.x 0) (.c 1))
 (.C 82 [.P 0] (.p (.K 4 5 6 7 1)) ⟨4,0,1,0,0,0⟩
 (.C 69 [.P 0,.W [40]] (.p (.B 4)) ⟨0,1,0,0,0,0⟩
 (.ite (.x 4)
 (.C 159 [.P 0,.K 0 1 2 3 0] (.p (.P 1)) ⟨0,0,0,0,0,1⟩
 (.ret (.p (.P 1))))
 (.C 106 [(.one (.i .u8 (.c 26))),.K 0 1 2 3 0,.S 0,(.one (.sl .nil))] (.p (.P 1)) ⟨0,0,0,0,0,1⟩
 (.ret (.p (.P 1)))))))
 (.C 69 [.P 0,.W [40]] (.p (.B 4)) ⟨0,1,0,0,0,0⟩
 (.ite (.x 4)
 (.C 108 [.P 0,.W [40]] (.p (.K 4 5 6 7 1)) ⟨4,0,1,0,0,0⟩
 (.C 22 [.P 0] (.p (.P 1)) ⟨0,0,0,0,0,1⟩
 (.V 110 [.P 0,.W [41]]
 (.ret (.p (.P 1))))))
 (.C 111 [.P 0,.W [109,97,107,101]] (.p (.B 5)) ⟨0,1,0,0,0,0⟩
 (.ite (.x 5)
 (.C 160 [.P 0,.K 0 1 2 3 0] (.p (.P 1)) ⟨0,0,0,0,0,1⟩
 (.ret (.p (.P 1))))
 (.V 45 [.P 0,(.I (.c 5))]
 (.C 128 [(.one (.i .u8 (.c 25))),.K 0 1 2 3 0,(.one (.sl .nil))] (.p (.P 1)) ⟨0,0,0,0,0,1⟩
 (.ret (.p (.P 1))))))))))))))))))))))
theorem Vx:aZ ⟨true,[]⟩ Tryz.prog (fun l=>([]:List bK).getD l ⟨[],[],[]⟩) Tryz.f145=KX:=by kernel_rfl
theorem ZY:az Tryz.prog .zero Tryz.f145.params.toList=some ([.P 0],⟨0,0,0,0,0,1⟩):=by kernel_rfl
def pHd (L:List Tok) (p:PS):PS:=if !((tk L p).k==2)&&!dm L [91] p then dD L 5 p else p
theorem aet {L:List Tok} (p:PS):gZ L p (pHd L p) 0:=by
 unfold pHd;split
 . exact dP 5 p
 . exact gZ.refl p
def Jl (L:List Tok) (n:Nat) (t0:Tok) (p:PS):Option (Tr×PS):=
 (fD L n (pHd L p)).bind fun r=>
  if r.1.k=20 then (dW L n 1 (dE L [40] r.2)).map fun y=>(nd 32 t0 0 [] [r.1,y.1],dw L [41] y.2)
  else some (nd 32 t0 0 [] [r.1],dw L [41] (dE L [40] r.2))
def OJ (n:Nat):Prop:=∀ args h φ w,GV Jl n args h φ->Holds h w->Calls Tryz.prog 160 args.toArray w fun e w'=>∃ v k,e=.returned v/\φ v k/\Holds k w'/\Fr w.heap.size h k w w'
def Ya {n:Nat} (H:OJ n):Ct Tryz.prog:=⟨160,GV Jl n,H⟩
def oG (n:Nat):Ct Tryz.prog:=⟨112,og fD n,TJ n⟩
theorem MV {h:Hp} {v:Nat} {k l c n:Int} {x:List UInt8} {s:bM} (hx:h v=some ⟨oL k l c n x s,IT⟩):hread h (some (v,0)) 1=some [.int .u8 k]:=by rw[bz hx];rfl
theorem Df {h:Hp} {v:Nat} {k l c n:Int} {x:List UInt8} {s:bM} (hx:h v=some ⟨oL k l c n x s,IT⟩):hread h (some (v,6)) 1=some [s.val]:=by rw[bz hx];rfl
theorem It.head {h:Hp} {v:Nat} {t:Tr} (hi:It h v t):∃ l c n x s,h v=some ⟨oL t.k l c n x s,IT⟩:=by
 cases t with
 | nd k l c n x ks=>obtain⟨s,vs,h1,_⟩:=hi;exact⟨l,c,n,x,s,h1⟩
set_option maxHeartbeats 4000000 in
theorem acz {n:Nat} (HE:vT n):OJ n:=by
 rintro args h φ w ⟨m,hm,b,sl,L,p,t,q,t0,rfl,W,hr,hd,hφ⟩ hH;refine bn Tryz.func160 VC Z8 [gI,kX,iF,gG,jk,jJ,oG n,kL HE] φ (bP) (bu) ⟨[t0.k,t0.l,t0.c,t0.n],[],[t0.x],[],[],[some (b,0)],h,df⟩ ⟨rfl,rfl,rfl,rfl,rfl,rfl⟩ af ?_ w hH rfl;generalize hE:(⟨aG _,_,_,_⟩:Env)=E;have sa6:E.spec 44=(gI).spec:=by rw[<- hE];rfl
 have sa8:E.spec 69=(kX).spec:=by rw[<- hE];rfl
 have sab:E.spec 45=(iF).spec:=by rw[<- hE];rfl
 have sad:E.spec 128=(gG).spec:=by rw[<- hE];rfl
 have saf:E.spec 108=(jk).spec:=by rw[<- hE];rfl
 have sag:E.spec 110=(jJ).spec:=by rw[<- hE];rfl
 have sa0:E.spec 112=(oG n).spec:=by rw[<- hE];rfl
 have san:E.spec 22=(kL HE).spec:=by rw[<- hE];rfl
 have ep:E.post=φ:=by rw[<- hE]
 clear hE;unfold sS;have A:=At.start W;have hd0:=W.d0;unfold Jl at hr;simp only[Option.bind_eq_some_iff] at hr;obtain⟨⟨x,r⟩,h1,h2⟩:=hr;have Ah:=aet (L:=L) p;have Ak:=dV W.lw m _ h1;have hhd:=Ah.d;have hkd:=Ak.d;have Ao:=bG W.lw [40] r;have hod:=Ao.d;have rest:∀ (hh:Hp) (k1 l1 c1 n1:Int) (x1:List UInt8) (y:Bool),At h b sl L (pHd L p) hh DJ->Then E sS.k.k.e ⟨[t0.k,t0.l,t0.c,t0.n,k1,l1,c1,n1],[y],[t0.x,x1],[],[],[some (b,0)],hh,df⟩:=by
  intro hh k1 l1 c1 n1 x1 y A1;unfold sS;simp only[Fm.k,Fm.e];rw[ag,sa0];refine⟨m,hm,b,sl,L,_,x,r,rfl,A1.pw,h1,by omega,fun v k g A2 hI=>?_⟩;simp[go_sem,bT];refine⟨some (v,0),rfl,?_⟩;have A3:=A1.then A2;have hI3:=It.le (A1.disj A2) _ _ hI;rw[ae,aK];intro kb hkb;simp[go_sem];rw[ag,sad];refine⟨32,t0,⟨some (kb,0),1,1⟩,rfl,fun o ho=>?_⟩;simp[go_sem,bT];refine⟨some (o,0),rfl,?_⟩;have O:=A3.outs (vs:=[v]) (ts:=[x]) hkb ⟨hI3,trivial⟩ (by simp) ho 32 t0.l t0.c 0 [];rw[ag,saf];refine⟨b,sl,L,r,[40],rfl,O.at'.pw,?_⟩;simp[go_sem,dH,fM];have O1:=O.open [40] (by omega);obtain⟨xl,xc,xn,xx,xs,hx⟩:=(It.le O1.at'.le _ _ hI3).head
  iterate 3 (rw[ai];refine⟨by simp[go_sem],?_⟩)
  rw[bY,if_pos (by rfl)];have hxr:=MV hx;simp[go_sem];refine⟨x.k,hxr,?_⟩;by_cases c20:x.k=20
  . rw[if_pos c20] at h2;simp only[Option.map_eq_some_iff] at h2;obtain⟨⟨y,u⟩,h3,h4⟩:=h2;cases h4;rw[ah,if_pos (by simp[go_sem,c20])];have hbl:=O1.blk;have hsr:=Df hbl;rw[bY,if_pos (by rfl)];simp[go_sem];refine⟨⟨some (kb,0),1,1⟩,hsr,?_⟩
    iterate 2 (rw[ai];refine⟨by simp[go_sem],?_⟩)
    rw[ae,aI,if_pos (by rfl),san];refine⟨m,hm,b,sl,L,_,y,u,rfl,O1.at'.pw,h3,by omega,fun v2 k3 g3 A5 hI2=>?_⟩;have O3:=O1.then A5;have Ad:=(mG W.lw m).1 _ _ _ _ h3;have hrd1:=Ad.d;have hbl3:=O3.blk;have hsr3:=Df hbl3;simp[go_sem,bT];refine⟨hsr3.trans hsr.symm,some (v2,0),rfl,?_⟩;rw[ae,aK];intro kb2 hkb2;simp[go_sem];rw[ae];refine Jf O3 (It.le (O1.at'.disj A5) _ _ hI2) (by simp) hkb2 rfl rfl rfl fun s' k4 hk4 O4=>?_
    rw[aC];refine⟨by simp[go_sem],?_⟩;rw[ai];refine⟨by simp[go_sem],?_⟩;rw[ae,aH];refine⟨_,by simp[go_sem,jg hk4,oL];rfl,?_⟩;rw[ag,sag];refine⟨b,sl,L,u,[41],rfl,O4.at'.pw,?_⟩;have O5:=O4.shut [41] (by omega);simp[go_sem];simp only[ae];simp[go_sem,ep];obtain⟨g',A',I'⟩:=O5.done;exact hφ o _ g' A' I'
  . rw[if_neg c20] at h2;cases h2;rw[ah,if_neg (by simp[go_sem,c20])];rw[ag,sag];refine⟨b,sl,L,_,[41],rfl,O1.at'.pw,?_⟩;have O5:=O1.shut [41] (by omega);rw[dZ] at O5;simp[go_sem];simp only[ae];simp[go_sem,ep];obtain⟨g',A',I'⟩:=O5.done;exact hφ o _ g' A' I'
 unfold sS at rest;simp only[Fm.k,Fm.e] at rest;rw[au,if_pos (by rfl),sa6];refine⟨b,sl,L,p,rfl,W,?_⟩;simp[go_sem,dH,fM];by_cases c2:(tk L p).k=2
 . have hp:pHd L p=p:=by unfold pHd;rw[c2];rfl
   rw[dn,if_neg (by simp[go_sem,c2])];simp[go_sem];rw[ah,if_neg (by simp[go_sem,c2])];exact rest h _ _ _ _ _ _ (hp.symm▸A)
 rw[dn,if_pos (by simp[go_sem,c2]),sa8];refine⟨b,sl,L,p,[91],rfl,W,?_⟩;simp[go_sem];cases c3:dm L [91] p with
 | true=>
   have hp:pHd L p=p:=by unfold pHd;rw[c3];simp
   rw[ah,if_neg (by simp[go_sem])];exact rest h _ _ _ _ _ _ (hp.symm▸A)
 | false=>
   have hp:pHd L p=dD L 5 p:=by unfold pHd;rw[c3];simp[c2]
   rw[ah,if_pos (by simp[go_sem,c2])];rw[ag,sab];refine⟨b,sl,L,p,5,rfl,W,?_⟩;simp[go_sem];have A1:=A.fail 5;rw[<- hp] at A1;rw[<- hp];exact rest _ _ _ _ _ _ _ A1
set_option maxHeartbeats 8000000 in
theorem abP {n:Nat} (HE:vT n) (HC:OI n) (HM:OJ n):Hw (n+1):=by
 rintro args h φ w ⟨m,hm,b,sl,L,p,t,q,rfl,W,hr,hd,hφ⟩ hH;cases m with
 | zero=>cases hr
 | succ m=>
 refine bn Tryz.func145 Vx ZY [gI,iq,gG,jQ,lm,iD,rO,kX,jk,jJ,iF,XY HC,Ya HM,kL HE] φ (bP) (bu) ⟨[],[],[],[],[],[some (b,0)],h,df⟩ ⟨rfl,rfl,rfl,rfl,rfl,rfl⟩ af ?_ w hH rfl;generalize hE:(⟨aG _,_,_,_⟩:Env)=E;have sa6:E.spec 44=(gI).spec:=by rw[<- hE];rfl
 have sa7:E.spec 46=(iq).spec:=by rw[<- hE];rfl
 have sad:E.spec 128=(gG).spec:=by rw[<- hE];rfl
 have sa9:E.spec 82=(jQ).spec:=by rw[<- hE];rfl
 have sai:E.spec 83=(lm).spec:=by rw[<- hE];rfl
 have sae:E.spec 106=(iD).spec:=by rw[<- hE];rfl
 have saa:E.spec 111=(rO).spec:=by rw[<- hE];rfl
 have sa8:E.spec 69=(kX).spec:=by rw[<- hE];rfl
 have saf:E.spec 108=(jk).spec:=by rw[<- hE];rfl
 have sag:E.spec 110=(jJ).spec:=by rw[<- hE];rfl
 have sab:E.spec 45=(iF).spec:=by rw[<- hE];rfl
 have sap:E.spec 159=(XY HC).spec:=by rw[<- hE];rfl
 have saq:E.spec 160=(Ya HM).spec:=by rw[<- hE];rfl
 have san:E.spec 22=(kL HE).spec:=by rw[<- hE];rfl
 have ep:E.post=φ:=by rw[<- hE]
 clear hE;unfold KX;have A:=At.start W;have hd0:=W.d0;have fin:∀ {k n':Int} {q':PS} {kk:Hp} (A':At h b sl L q' kk DJ) (x:List UInt8),some (nd k (tk L p) n' x [],q')=some (t,q)->∀ v,kk v=none->φ (bT v) (kk.set v ⟨oL k (tk L p).l (tk L p).c n' x ⟨none,0,0⟩,IT⟩):=by
  intro k n' q' kk A' x he v hv;cases he;exact hφ v _ _ (A'.new hv _) (A'.leaf hv ..)
 rw[eH] at hr;rw[au,if_pos (by rfl),sa6];refine⟨b,sl,L,p,rfl,W,?_⟩;simp[go_sem,dH,fM];rw[ag,sa7];refine⟨b,sl,L,p,rfl,W,?_⟩;simp[go_sem];cases c0:p.bad with
 | true=>
   rw[if_pos c0] at hr;rw[ah,if_pos (by simp[go_sem])];rw[ag,sad];refine⟨25,tk L p,⟨none,0,0⟩,rfl,fun v hv=>?_⟩;simp[go_sem,bT];refine⟨some (v,0),rfl,?_⟩;simp only[ae];simp[go_sem,ep];exact fin A [] hr v hv
 | false=>
 rw[c0,if_neg (by decide)] at hr;rw[ah,if_neg (by simp[go_sem])];by_cases c1:(tk L p).k=3
 . rw[if_pos c1] at hr;rw[ah,if_pos (by simp[go_sem,c1])];rw[ag,sa9];refine⟨b,sl,L,p,rfl,W,?_⟩;simp[go_sem,dH,fM];rw[ag,sai];refine⟨21,tk L p,(tk L p).n,⟨none,0,0⟩,rfl,fun v hv=>?_⟩;simp[go_sem,bT];refine⟨some (v,0),rfl,?_⟩;simp only[ae];simp[go_sem,ep];exact fin A.pass [] hr v hv
 rw[if_neg c1] at hr;rw[ah,if_neg (by simp[go_sem,c1])];by_cases c2:(tk L p).k=4
 . rw[if_pos c2] at hr;rw[ah,if_pos (by simp[go_sem,c2])];rw[ag,sa9];refine⟨b,sl,L,p,rfl,W,?_⟩;simp[go_sem,dH,fM];rw[ag,sai];refine⟨22,tk L p,(tk L p).n,⟨none,0,0⟩,rfl,fun v hv=>?_⟩;simp[go_sem,bT];refine⟨some (v,0),rfl,?_⟩;simp only[ae];simp[go_sem,ep];exact fin A.pass [] hr v hv
 rw[if_neg c2] at hr;rw[ah,if_neg (by simp[go_sem,c2])];by_cases c3:(tk L p).k=5
 . rw[if_pos c3] at hr;rw[ah,if_pos (by simp[go_sem,c3])];rw[ag,sa9];refine⟨b,sl,L,p,rfl,W,?_⟩;simp[go_sem,dH,fM];rw[ag,sae];refine⟨23,tk L p,(tk L p).x,⟨none,0,0⟩,rfl,fun v hv=>?_⟩;simp[go_sem,bT];refine⟨some (v,0),rfl,?_⟩;simp only[ae];simp[go_sem,ep];exact fin A.pass _ hr v hv
 rw[if_neg c3] at hr;rw[ah,if_neg (by simp[go_sem,c3])];rw[ag,saa];refine⟨b,sl,L,p,jq,rfl,W,?_⟩;cases c4:dm L jq p with
 | true=>
   rw[if_pos c4] at hr;rw[if_pos rfl];simp[go_sem];rw[ah,if_pos (by simp[go_sem])];rw[ag,sai];refine⟨24,tk L p,1,⟨none,0,0⟩,rfl,fun v hv=>?_⟩;simp[go_sem,bT];refine⟨some (v,0),rfl,?_⟩;simp only[ae];simp[go_sem,ep];exact fin A.pass [] hr v hv
 | false=>
 rw[c4,if_neg (by decide)] at hr;rw[if_neg (by decide)];simp[go_sem];rw[ah,if_neg (by simp[go_sem])];rw[ag,saa];refine⟨b,sl,L,p,gz,rfl,W,?_⟩;cases c5:dm L gz p with
 | true=>
   rw[if_pos c5] at hr;rw[if_pos rfl];simp[go_sem];rw[ah,if_pos (by simp[go_sem])];rw[ag,sai];refine⟨24,tk L p,0,⟨none,0,0⟩,rfl,fun v hv=>?_⟩;simp[go_sem,bT];refine⟨some (v,0),rfl,?_⟩;simp only[ae];simp[go_sem,ep];exact fin A.pass [] hr v hv
 | false=>
 rw[c5,if_neg (by decide)] at hr;rw[if_neg (by decide)];simp[go_sem];rw[ah,if_neg (by simp[go_sem])];rw[ag,saa];refine⟨b,sl,L,p,oh,rfl,W,?_⟩;cases c6:dm L oh p with
 | true=>
   rw[if_pos c6] at hr;rw[if_pos rfl];simp[go_sem];rw[ah,if_pos (by simp[go_sem])];rw[ag,sad];refine⟨25,tk L p,⟨none,0,0⟩,rfl,fun v hv=>?_⟩;simp[go_sem,bT];refine⟨some (v,0),rfl,?_⟩;simp only[ae];simp[go_sem,ep];exact fin A.pass [] hr v hv
 | false=>
 rw[c6,if_neg (by decide)] at hr;rw[if_neg (by decide)];simp[go_sem];rw[ah,if_neg (by simp[go_sem])];by_cases c7:(tk L p).k=1
 . rw[if_pos c7] at hr;rw[ah,if_pos (by simp[go_sem,c7])];rw[ag,sa9];refine⟨b,sl,L,p,rfl,W,?_⟩;simp[go_sem,dH,fM];have A1:=A.pass;have hpd:=(aN W.lw p).d;rw[ag,sa8];refine⟨b,sl,L,_,[40],rfl,A1.pw,?_⟩;simp[go_sem];cases c8:dm L [40] (bF L p) with
   | true=>
     rw[if_pos c8] at hr;rw[ah,if_pos (by simp[go_sem])];rw[ag,sap];refine⟨m,by omega,b,sl,L,_,t,q,tk L p,rfl,A1.pw,hr,by omega,fun v k g A2 hI=>?_⟩;simp[go_sem,bT];refine⟨some (v,0),rfl,?_⟩;simp only[ae];simp[go_sem,ep];exact hφ v _ _ (A1.then A2) (It.le (A1.disj A2) _ _ hI)
   | false=>
     rw[c8,if_neg (by decide)] at hr;rw[ah,if_neg (by simp[go_sem])];rw[ag,sae];refine⟨26,tk L p,(tk L p).x,⟨none,0,0⟩,rfl,fun v hv=>?_⟩;simp[go_sem,bT];refine⟨some (v,0),rfl,?_⟩;simp only[ae];simp[go_sem,ep];exact fin A1 _ hr v hv
 rw[if_neg c7] at hr;rw[ah,if_neg (by simp[go_sem,c7])];rw[ag,sa8];refine⟨b,sl,L,p,[40],rfl,W,?_⟩;simp[go_sem];cases c9:dm L [40] p with
 | true=>
   rw[if_pos c9] at hr;simp only[Option.map_eq_some_iff] at hr;obtain⟨⟨x,r⟩,h1,h2⟩:=hr;cases h2;rw[ah,if_pos (by simp[go_sem])];rw[ag,saf];refine⟨b,sl,L,p,[40],rfl,W,?_⟩;simp[go_sem,dH,fM];have hod:=(bG W.lw [40] p).d;have A1:=A.open [40] (by omega);rw[ag,san];refine⟨m,by omega,b,sl,L,_,x,r,rfl,A1.pw,h1,by omega,fun v k g A2 hI=>?_⟩;simp[go_sem,bT];refine⟨some (v,0),rfl,?_⟩;have A3:=A1.then A2;have hkd:=((mG W.lw m).1 _ _ _ _ h1).d;rw[ag,sag];refine⟨b,sl,L,r,[41],rfl,A3.pw,?_⟩;simp[go_sem];simp only[ae];simp[go_sem,ep];exact hφ v _ _ (A3.shut [41] (by omega)) (It.le (A1.disj A2) _ _ hI)
 | false=>
 rw[c9,if_neg (by decide)] at hr;rw[ah,if_neg (by simp[go_sem])];rw[ag,saa];refine⟨b,sl,L,p,dX,rfl,W,?_⟩;cases c10:dm L dX p with
 | true=>
   rw[if_pos c10] at hr;rw[if_pos rfl];simp[go_sem];rw[ah,if_pos (by simp[go_sem])];have A1:=A.pass;have hpd:=(aN W.lw p).d;rw[ag,saq];refine⟨m,by omega,b,sl,L,_,t,q,tk L p,rfl,A1.pw,hr,by omega,fun v k g A2 hI=>?_⟩;simp[go_sem,bT];refine⟨some (v,0),rfl,?_⟩;simp only[ae];simp[go_sem,ep];exact hφ v _ _ (A1.then A2) (It.le (A1.disj A2) _ _ hI)
 | false=>
   rw[c10,if_neg (by decide)] at hr;rw[if_neg (by decide)];simp[go_sem];rw[ah,if_neg (by simp[go_sem])];rw[ag,sab];refine⟨b,sl,L,p,5,rfl,W,?_⟩;simp[go_sem];rw[ag,sad];refine⟨25,tk L p,⟨none,0,0⟩,rfl,fun v hv=>?_⟩;simp[go_sem,bT];refine⟨some (v,0),rfl,?_⟩;simp only[ae];simp[go_sem,ep];exact fin (A.fail 5) [] hr v hv
theorem adY:∀ n,JI n/\XG n/\Hw n
 | 0=>by
   refine⟨?_,?_,?_⟩
   . rintro args h φ w ⟨m,hm,b,sl,L,p,t,q,lvl,rfl,_,W,hr,_⟩ hH;obtain rfl:m=0:=by omega
     cases hr
   . rintro args h φ w ⟨m,hm,b,sl,L,p,t,q,rfl,W,hr,_⟩ hH;obtain rfl:m=0:=by omega
     cases hr
   . rintro args h φ w ⟨m,hm,b,sl,L,p,t,q,rfl,W,hr,_⟩ hH;obtain rfl:m=0:=by omega
     cases hr
 | n+1=>by
   obtain⟨HB,HU,HA⟩:=adY n;have HE:=SL HB;exact⟨aev HB HU,agy HU (acN HE HA),abP HE (abQ HE) (acz HE)⟩
theorem pM (n:Nat):vT n:=SL (adY n).1
def FD:Fm:=(.C 107 [.P 0,(.one (.i .u8 (.c 1)))] (.p (.K 1 2 3 4 0)) ⟨4,0,1,0,0,0⟩
 (.C 105 [.P 0,.W [58]] (.p (.K 5 6 7 8 1)) ⟨4,0,1,0,0,0⟩
 (.C 112 [.P 0] (.p (.P 1)) ⟨0,0,0,0,0,1⟩
 (.mk [(.pt 1)] 71 1
 (.C 106 [(.one (.U 0)),.K 1 2 3 4 0,.S 0,.L 0] (.p (.P 2)) ⟨0,0,0,0,0,1⟩
 (.ret (.p (.P 2))))))))
theorem PN:aZ ⟨true,[]⟩ Tryz.prog (fun l=>([]:List bK).getD l ⟨[],[],[]⟩) Tryz.f109=FD:=by kernel_rfl
theorem WF:az Tryz.prog .zero Tryz.f109.params.toList=some ([.P 0,(.one (.U 0))],⟨1,0,0,0,0,1⟩):=by kernel_rfl
def CG:Fm:=(.C 105 [.P 0,.W [114,101,99]] (.p (.K 0 1 2 3 0)) ⟨4,0,1,0,0,0⟩
 (.C 107 [.P 0,(.one (.i .u8 (.c 2)))] (.p (.K 4 5 6 7 1)) ⟨4,0,1,0,0,0⟩
 (.C 106 [(.one (.i .u8 (.c 2))),.K 0 1 2 3 0,.S 1,(.one (.sl .nil))] (.p (.P 1)) ⟨0,0,0,0,0,1⟩
 (.C 108 [.P 0,.W [123]] (.p (.K 8 9 10 11 2)) ⟨4,0,1,0,0,0⟩
 (.loop 0 ⟨[],[],[],[],[],[]⟩
 (.C 46 [.P 0] (.p (.B 0)) ⟨0,1,0,0,0,0⟩
 (.call (.not (.x 0)) false 69 [.P 0,.W [125]] (.p (.B 1)) ⟨0,1,0,0,0,0⟩
 (.ite (.and (.not (.x 0)) (.not (.x 1)))
 (.O (.pt 1 6) 1 [(.sl (.x 0))] ⟨0,0,0,0,1,0⟩
 (.Z 1
 (.Z 1
 (.callK (.c true) [((.c true),(.pt 1 6),1)] 109 [.P 0,(.one (.i .u8 (.c 3)))] (.p (.P 2)) ⟨0,0,0,0,0,1⟩
 (.mk [(.pt 2)] 71 1
 (.app (.x 0) (.x 1) 1 8 71
 (.Z 1
 (.Z 1
 (.store (.pt 1 6) [(.sl (.x 2))]
 (.C 105 [.P 0,.W [59]] (.p (.K 12 13 14 15 3)) ⟨4,0,1,0,0,0⟩
 (.again 0 ⟨12,0,3,0,0,2⟩ ⟨12,0,3,0,0,2⟩ ⟨[],[],[],[],[],[]⟩)))))))))))
 (.V 110 [.P 0,.W [125]]
 (.ret (.p (.P 1))))))))))))
theorem MJ:aZ ⟨true,[]⟩ Tryz.prog (fun l=>([⟨[],[14,15,16,17,18,19,20,21,22,23,24,25,26,27,28,29,30,31,32,33,34],[11]⟩]:List bK).getD l ⟨[],[],[]⟩) Tryz.f70=CG:=by kernel_rfl
theorem QQ:az Tryz.prog .zero Tryz.f70.params.toList=some ([.P 0],⟨0,0,0,0,0,1⟩):=by kernel_rfl
def FC:Fm:=(.C 22 [.P 0] (.p (.P 1)) ⟨0,0,0,0,0,1⟩
 (.Z 1
 (.Z 1
 (.Z 1
 (.O (.pt 1 0) 1 [.U 4] ⟨1,0,0,0,0,0⟩
 (.mk [(.pt 1)] 71 1
 (.C 128 [(.one (.i .u8 (.c 13))),.K 0 1 2 3 0,.L 0] (.p (.P 2)) ⟨0,0,0,0,0,1⟩
 (.C 46 [.P 0] (.p (.B 0)) ⟨0,1,0,0,0,0⟩
 (.ite (.x 0)
 (.ret (.p (.P 2)))
 (.C 69 [.P 0,.W [61]] (.p (.B 1)) ⟨0,1,0,0,0,0⟩
 (.ite (.and (.x 1) (.or (.or (.eqI (.x 4) (.c 26)) (.eqI (.x 4) (.c 28))) (.eqI (.x 4) (.c 29))))
 (.C 82 [.P 0] (.p (.K 5 6 7 8 1)) ⟨4,0,1,0,0,0⟩
 (.C 22 [.P 0] (.p (.P 3)) ⟨0,0,0,0,0,1⟩
 (.mk [(.pt 1),(.pt 3)] 71 2
 (.C 128 [(.one (.i .u8 (.c 8))),.K 0 1 2 3 0,.L 1] (.p (.P 4)) ⟨0,0,0,0,0,1⟩
 (.C 105 [.P 0,.W [59]] (.p (.K 9 10 11 12 2)) ⟨4,0,1,0,0,0⟩
 (.ret (.p (.P 4))))))))
 (.C 69 [.P 0,.W [61]] (.p (.B 2)) ⟨0,1,0,0,0,0⟩
 (.ite (.x 2)
 (.ite (.x 2)
 (.V 45 [.P 0,(.I (.c 5))]
 (.C 105 [.P 0,.W [59]] (.p (.K 5 6 7 8 1)) ⟨4,0,1,0,0,0⟩
 (.ret (.p (.P 2)))))
 (.C 105 [.P 0,.W [59]] (.p (.K 5 6 7 8 1)) ⟨4,0,1,0,0,0⟩
 (.ret (.p (.P 2)))))
 (.ite (.not (.eqI (.x 4) (.c 27)))
 (.V 45 [.P 0,(.I (.c 5))]
 (.C 105 [.P 0,.W [59]] (.p (.K 5 6 7 8 1)) ⟨4,0,1,0,0,0⟩
 (.ret (.p (.P 2)))))
 (.C 105 [.P 0,.W [59]] (.p (.K 5 6 7 8 1)) ⟨4,0,1,0,0,0⟩
 (.ret (.p (.P 2))))))))))))))))))
theorem PL:aZ ⟨true,[]⟩ Tryz.prog (fun l=>([]:List bK).getD l ⟨[],[],[]⟩) Tryz.f154=FC:=by kernel_rfl
theorem WE:az Tryz.prog .zero Tryz.f154.params.toList=some ([.P 0,.K 0 1 2 3 0],⟨4,0,1,0,0,1⟩):=by kernel_rfl
def aef (f:List Tok->Nat->Int->PS->Option (Tr×PS)) (n:Nat) (args:List Value) (h:Hp) (φ:Value->Hp->Prop):Prop:=
 ∃ m,m<=n/\∃ b sl L p t q kd,args=[bT b,.int .u8 kd]/\PW h b sl L p/\f L m kd p=some (t,q)/\p.d+m<=1000000000000/\∀ v k g,At h b sl L q k g->It g v t->φ (bT v) k
theorem abu (n:Nat):∀ args h φ w,aef gq n args h φ->Holds h w->Calls Tryz.prog 109 args.toArray w fun e w'=>∃ v k,e=.returned v/\φ v k/\Holds k w'/\Fr w.heap.size h k w w':=by
 rintro args h φ w ⟨m,hm,b,sl,L,p,t,q,kd,rfl,W,hr,hd,hφ⟩ hH;refine bn Tryz.func109 PN WF [lH,jI,iD,oG n] φ (bP) (bu) ⟨[kd],[],[],[],[],[some (b,0)],h,df⟩ ⟨rfl,rfl,rfl,rfl,rfl,rfl⟩ af ?_ w hH rfl;generalize hE:(⟨aG _,_,_,_⟩:Env)=E;have sam:E.spec 107=(lH).spec:=by rw[<- hE];rfl
 have sac:E.spec 105=(jI).spec:=by rw[<- hE];rfl
 have sae:E.spec 106=(iD).spec:=by rw[<- hE];rfl
 have sa0:E.spec 112=(oG n).spec:=by rw[<- hE];rfl
 have ep:E.post=φ:=by rw[<- hE]
 clear hE;unfold FD;unfold gq at hr;simp only[Option.map_eq_some_iff] at hr;obtain⟨⟨x,r⟩,h1,h2⟩:=hr;cases h2;have A:=At.start W;rw[au,if_pos (by rfl),sam];refine⟨b,sl,L,p,1,rfl,W,?_⟩;simp[go_sem,dH,fM];have A1:=A.word 1;rw[ag,sac];refine⟨b,sl,L,_,[58],rfl,A1.pw,?_⟩;simp[go_sem,dH,fM];have A2:=A1.must [58];have hd2:=((dF W.lw 1 p).trans (aV W.lw [58] _)).d;rw[dZ] at A2;rw[ag,sa0];refine⟨m,hm,b,sl,L,_,x,r,rfl,A2.pw,h1,by omega,fun v k g A3 hI=>?_⟩;simp[go_sem,bT];refine⟨some (v,0),rfl,?_⟩;have A4:=A2.then A3;rw[ae,aK];intro kb hkb;simp[go_sem];rw[ag,sae];refine⟨kd,tk L p,(tk L p).x,⟨some (kb,0),1,1⟩,rfl,fun v3 hv3=>?_⟩;simp[go_sem,bT];refine⟨some (v3,0),rfl,?_⟩;simp only[ae];simp[go_sem,ep];obtain⟨A5,I5⟩:=A4.node (vs:=[v]) (ts:=[x]) hkb ⟨It.le (A2.disj A3) _ _ hI,trivial⟩ (by simp) hv3 kd (tk L p).l (tk L p).c 0 (tk L p).x;exact hφ v3 _ _ A5 I5
def AU (n:Nat):Ct Tryz.prog:=⟨109,aef gq n,abu n⟩
def aaM (h:Hp) (b:Nat) (sl:bM) (L:List Tok) (kk l c nn:Int) (x:List UInt8) (rl:List Tr) (r:PS) (d:Int) (n:Nat):Nat->Ctx->Prop:=fun _ C=>
 ∃ i0 i1 i2 i3 i4 i5 i6 i7 i8 i9 i10 i11 s0 s1 s2 o s vs ts p1 k1 g1 m1,C=⟨[i0,i1,i2,i3,i4,i5,i6,i7,i8,i9,i10,i11],[],[s0,s1,s2],[],[],[some (b,0),some (o,0)],k1,df⟩/\Out h b sl L p1 k1 g1 o kk l c nn x s vs ts/\m1<=n/\
  fF L m1 ts p1=some (rl,r)/\p1.d+m1<=1000000000001/\vs.length+mu L p1<=L.length/\p1.d=d
set_option maxHeartbeats 4000000 in
theorem Xa (n:Nat):∀ args h φ w,og fH n args h φ->Holds h w->Calls Tryz.prog 70 args.toArray w fun e w'=>∃ v k,e=.returned v/\φ v k/\Holds k w'/\Fr w.heap.size h k w w':=by
 rintro args h φ w ⟨m,hm,b,sl,L,p,t,q,rfl,W,hr,hd,hφ⟩ hH;unfold fH at hr;simp only[Option.map_eq_some_iff] at hr;obtain⟨⟨rl,r⟩,h1,h2⟩:=hr;cases h2;cases m with
 | zero=>cases h1
 | succ m=>
 refine bn Tryz.func70 MJ QQ [jI,lH,iD,jk,iq,kX,jJ,AU n] φ (aaM h b sl L 2 (tk L p).l (tk L p).c 0 (tk L (bC L jO p)).x rl r (p.d+1) (m+1)) (fun _=>iK b L.length) ⟨[],[],[],[],[],[some (b,0)],h,df⟩ ⟨rfl,rfl,rfl,rfl,rfl,rfl⟩ af ?_ w hH rfl;generalize hE:(⟨aG _,_,_,_⟩:Env)=E;have sac:E.spec 105=(jI).spec:=by rw[<- hE];rfl
 have sam:E.spec 107=(lH).spec:=by rw[<- hE];rfl
 have sae:E.spec 106=(iD).spec:=by rw[<- hE];rfl
 have saf:E.spec 108=(jk).spec:=by rw[<- hE];rfl
 have sa7:E.spec 46=(iq).spec:=by rw[<- hE];rfl
 have sa8:E.spec 69=(kX).spec:=by rw[<- hE];rfl
 have sag:E.spec 110=(jJ).spec:=by rw[<- hE];rfl
 have sar:E.spec 109=(AU n).spec:=by rw[<- hE];rfl
 have ep:E.post=φ:=by rw[<- hE]
 have ei:E.inv=(aaM h b sl L 2 (tk L p).l (tk L p).c 0 (tk L (bC L jO p)).x rl r (p.d+1) (m+1)):=by rw[<- hE]
 have em:E.meas=(fun _=>iK b L.length):=by rw[<- hE]
 clear hE;unfold CG;have A:=At.start W;have hd0:=W.d0;have hlen:=W.len;rw[au,if_pos (by rfl),sac];refine⟨b,sl,L,p,jO,rfl,W,?_⟩;simp[go_sem,dH,fM];have A1:=A.must jO;rw[ag,sam];refine⟨b,sl,L,_,2,rfl,A1.pw,?_⟩;simp[go_sem,dH,fM];have A2:=A1.word 2;rw[dZ] at A2;rw[ag,sae];refine⟨2,tk L p,(tk L (bC L jO p)).x,⟨none,0,0⟩,rfl,fun o ho=>?_⟩;simp[go_sem,bT];refine⟨some (o,0),rfl,?_⟩;have O:=A2.out ho 2 (tk L p).l (tk L p).c 0 (tk L (bC L jO p)).x;rw[ag,saf];refine⟨b,sl,L,_,[123],rfl,O.at'.pw,?_⟩;simp[go_sem,dH,fM];have hod:=(((aV W.lw jO p).trans (dF W.lw 2 _)).trans (bG W.lw [123] _)).d;have hod2:=((aV W.lw jO p).trans (dF W.lw 2 _)).d;have O1:=O.open [123] (by omega);rw[ae];refine bI ?_ ?_
 . rw[ei];exact⟨_,_,_,_,_,_,_,_,_,_,_,_,_,_,_,o,⟨none,0,0⟩,[],[],_,_,_,m+1,rfl,O1,Nat.le_refl _,h1,by omega,by have:=o7 L (dE L [123] (gK L 2 (bC L jO p)));simp;omega,by omega⟩
 rw[ei,em];rintro i' bb ss v' ll pp hh0 M ⟨i0,i1,i2,i3,i4,i5,i6,i7,i8,i9,i10,i11,s0,s1,s2,o,s,vs,ts,p1,k1,g1,m1,hC,O1,hm1,hb1,hd1,hmu,hpd⟩ hM;cases hC;have hM:M 0=mu L p1:=hM.trans (fC O1.at'.pw rfl);clear h1 hod O ho;cases m1 with
 | zero=>cases hb1
 | succ m1=>
 rw[fF] at hb1;have stop:(p1.bad||dm L [125] p1)=true->∀ bs M,Then E (.V 110 [.P 0,.W [125]] (.ret (.p (.P 1)))) ⟨[i0,i1,i2,i3,i4,i5,i6,i7,i8,i9,i10,i11],bs,[s0,s1,s2],[],[],[some (b,0),some (o,0)],hh0,M⟩:=by
  intro hc bs M;rw[if_pos hc] at hb1;cases hb1;rw[ag,sag];refine⟨b,sl,L,_,[125],rfl,O1.at'.pw,?_⟩;have O2:=O1.shut [125] (by omega);simp[go_sem];simp only[ae];simp[go_sem,ep];obtain⟨g',A',I'⟩:=O2.done;exact hφ o _ g' A' I'
 rw[au,if_pos (by rfl),sa7];refine⟨b,sl,L,p1,rfl,O1.at'.pw,?_⟩;simp[go_sem];cases c0:p1.bad with
 | true=>
   rw[dn,if_neg (by simp[go_sem])];simp[go_sem];rw[ah,if_neg (by simp[go_sem])];exact stop (by rw[c0];rfl) _ _
 | false=>
 rw[dn,if_pos (by simp[go_sem]),sa8];refine⟨b,sl,L,p1,[125],rfl,O1.at'.pw,?_⟩;simp[go_sem];cases c1:dm L [125] p1 with
 | true=>
   rw[ah,if_neg (by simp[go_sem])];exact stop (by rw[c1];simp) _ _
 | false=>
 clear stop;rw[if_neg (by rw[c0,c1];decide)] at hb1;simp only[Option.bind_eq_some_iff] at hb1;obtain⟨⟨y,r1⟩,h3,h4⟩:=hb1;rw[ah,if_pos (by simp[go_sem])];have hmp:=nM c0 O1.at'.pw.at';have hkl:=o7 L p1;obtain⟨Ad,Wd⟩:=kw W.lw h3;have hrd1:=Ad.d;refine grow (on:=1) (li:=0) (pi:=2) O1 rfl rfl rfl (by decide) (by omega) (fun ψ hψ=>by rw[sar];exact⟨m1,by omega,b,sl,L,p1,y,r1,3,rfl,O1.at'.pw,h3,by omega,hψ⟩) fun v2 kb s' k5 g5 O4=>?_
 simp only[List.nil_append,List.cons_append];rw[ag,sac];refine⟨b,sl,L,r1,[59],rfl,O4.at'.pw,?_⟩;have O5:=O4.must [59];have Am:=aV W.lw [59] r1;have hmd:=Am.d;simp[go_sem,dH,fM];rw[ae,says_again,ei,em];have hw:=jH Wd Ad O1.at'.pw.at';have hm2:=gJ Am;refine⟨⟨_,_,_,_,_,_,_,_,_,_,_,_,_,_,_,o,s',vs++[v2],ts++[y],_,_,_,m1,rfl,O5,by omega,h4,by omega,by simp;omega,by omega⟩,?_⟩;show iK b L.length _<M 0;rw[hM];refine Nat.lt_of_le_of_lt (Nat.le_of_eq (fC O5.at'.pw rfl)) ?_;omega
def Kr (n:Nat):Ct Tryz.prog:=⟨70,og fH n,Xa n⟩
theorem At.ZE {h:Hp} {b:Nat} {sl:bM} {L:List Tok} {p:PS} {k g:Hp} (A:At h b sl L p k g) {kb v:Nat} {vs:List Nat} {ts:List Tr} (hkb:k kb=none) (hI:Its g vs ts) (hv:(k.set kb ⟨vs.map bT,PI⟩) v=none) (kk l c n:Int) (x:List UInt8):
 Its ((g.set kb ⟨vs.map bT,PI⟩).set v ⟨oL kk l c n x ⟨some (kb,0),vs.length,vs.length⟩,IT⟩) vs ts:=Its.le ((A.new hkb _).gnew hv _) _ _ (Its.le (A.gnew hkb _) _ _ hI)
def D9 (L:List Tok) (n:Nat) (t0:Tok) (p:PS):Option (Tr×PS):=ja L n t0 p
theorem ZN (n:Nat):∀ args h φ w,GV D9 n args h φ->Holds h w->Calls Tryz.prog 154 args.toArray w fun e w'=>∃ v k,e=.returned v/\φ v k/\Holds k w'/\Fr w.heap.size h k w w':=by
 rintro args h φ w ⟨m,hm,b,sl,L,p,t,q,t0,rfl,W,hr,hd,hφ⟩ hH;refine bn Tryz.func154 PL WE [iq,kX,jQ,jI,iF,gG,kL (pM n)] φ (bP) (bu) ⟨[t0.k,t0.l,t0.c,t0.n],[],[t0.x],[],[],[some (b,0)],h,df⟩ ⟨rfl,rfl,rfl,rfl,rfl,rfl⟩ af ?_ w hH rfl;generalize hE:(⟨aG _,_,_,_⟩:Env)=E;have sa7:E.spec 46=(iq).spec:=by rw[<- hE];rfl
 have sa8:E.spec 69=(kX).spec:=by rw[<- hE];rfl
 have sa9:E.spec 82=(jQ).spec:=by rw[<- hE];rfl
 have sac:E.spec 105=(jI).spec:=by rw[<- hE];rfl
 have sab:E.spec 45=(iF).spec:=by rw[<- hE];rfl
 have sad:E.spec 128=(gG).spec:=by rw[<- hE];rfl
 have san:E.spec 22=(kL (pM n)).spec:=by rw[<- hE];rfl
 have ep:E.post=φ:=by rw[<- hE]
 clear hE;unfold FC;have A:=At.start W;unfold D9 ja at hr;simp only[Option.bind_eq_some_iff] at hr;obtain⟨⟨x,r⟩,h1,h2⟩:=hr;dsimp only at h2;rw[au,if_pos (by rfl),san];refine⟨m,hm,b,sl,L,p,x,r,rfl,W,h1,by omega,fun v k g A1 hI=>?_⟩;simp[go_sem,bT];refine⟨some (v,0),rfl,?_⟩;have hd1:=((mG W.lw m).1 _ _ _ _ h1).d;obtain⟨xl,xc,xn,xx,xs,hx⟩:=(It.le A1.le _ _ hI).head
 iterate 3 (rw[ai];refine⟨by simp[go_sem],?_⟩)
 rw[bY,if_pos (by rfl)];have hxr:=MV hx;simp[go_sem];refine⟨x.k,hxr,?_⟩;rw[ae,aK];intro kb hkb;simp[go_sem];rw[ag,sad];refine⟨13,t0,⟨some (kb,0),1,1⟩,rfl,fun o ho=>?_⟩;simp[go_sem,bT];refine⟨some (o,0),rfl,?_⟩;obtain⟨A5,I5⟩:=A1.node (vs:=[v]) (ts:=[x]) hkb ⟨hI,trivial⟩ (by simp) ho 13 t0.l t0.c 0 [];have hI5:=(A1.ZE (vs:=[v]) (ts:=[x]) hkb ⟨hI,trivial⟩ ho 13 t0.l t0.c 0 []).1;rw[ag,sa7];refine⟨b,sl,L,r,rfl,A5.pw,?_⟩;simp[go_sem];cases c0:r.bad with
 | true=>
   rw[if_pos c0] at h2;cases h2;rw[ah,if_pos (by simp[go_sem])];simp only[ae];simp[go_sem,ep];exact hφ o _ _ A5 I5
 | false=>
 rw[c0,if_neg (by decide)] at h2;rw[ah,if_neg (by simp[go_sem])];rw[ag,sa8];refine⟨b,sl,L,r,[61],rfl,A5.pw,?_⟩;simp[go_sem];by_cases cs:(dm L [61] r&&(x.k==26||x.k==28||x.k==29))=true
 . rw[if_pos cs] at h2;simp only[Option.map_eq_some_iff] at h2;obtain⟨⟨y,u⟩,h3,h4⟩:=h2;cases h4;rw[ah,if_pos (by simpa[go_sem] using cs)];rw[ag,sa9];refine⟨b,sl,L,r,rfl,A5.pw,?_⟩;simp[go_sem,dH,fM];have A6:=A5.pass;have hpd:=(aN W.lw r).d;rw[ag,san];refine⟨m,hm,b,sl,L,_,y,u,rfl,A6.pw,h3,by omega,fun v2 k2 g2 A7 hI2=>?_⟩;simp[go_sem,bT];refine⟨some (v2,0),rfl,?_⟩;have A8:=A6.then A7;rw[ae,aK];intro kb2 hkb2;simp[go_sem];rw[ag,sad];refine⟨8,t0,⟨some (kb2,0),2,2⟩,rfl,fun o2 ho2=>?_⟩;simp[go_sem,bT];refine⟨some (o2,0),rfl,?_⟩;obtain⟨A9,I9⟩:=A8.node (vs:=[v,v2]) (ts:=[x,y]) hkb2 ⟨It.le (sZ _ _) _ _ hI5,It.le (A6.disj A7) _ _ hI2,trivial⟩ (by simp) ho2 8 t0.l t0.c 0 [];rw[ag,sac];refine⟨b,sl,L,u,[59],rfl,A9.pw,?_⟩;simp[go_sem,dH,fM];simp only[ae];simp[go_sem,ep];exact hφ o2 _ _ (A9.must [59]) I9
 rw[if_neg cs] at h2;rw[ah,if_neg (by simpa[go_sem] using cs)];rw[ag,sa8];refine⟨b,sl,L,r,[61],rfl,A5.pw,?_⟩;simp[go_sem];by_cases cf:(dm L [61] r||!(x.k==27))=true
 . rw[if_pos cf] at h2;cases h2;cases c1:dm L [61] r with
   | true=>
     iterate 2 (rw[ah,if_pos (by simp[go_sem])])
     rw[ag,sab];refine⟨b,sl,L,r,5,rfl,A5.pw,?_⟩;simp[go_sem];have A6:=A5.fail 5;rw[ag,sac];refine⟨b,sl,L,_,[59],rfl,A6.pw,?_⟩;simp[go_sem,dH,fM];simp only[ae];simp[go_sem,ep];have A7:=A6.must [59];rw[dZ] at A7;exact hφ o _ _ A7 I5
   | false=>
     rw[c1] at cf;rw[ah,if_neg (by simp[go_sem])];rw[ah,if_pos (by simpa[go_sem] using cf)];rw[ag,sab];refine⟨b,sl,L,r,5,rfl,A5.pw,?_⟩;simp[go_sem];have A6:=A5.fail 5;rw[ag,sac];refine⟨b,sl,L,_,[59],rfl,A6.pw,?_⟩;simp[go_sem,dH,fM];simp only[ae];simp[go_sem,ep];have A7:=A6.must [59];rw[dZ] at A7;exact hφ o _ _ A7 I5
 . rw[if_neg cf] at h2;cases h2;simp only[Bool.or_eq_true,not_or,Bool.not_eq_true] at cf;rw[cf.1];rw[ah,if_neg (by simp[go_sem])];rw[ah,if_neg (by simpa[go_sem] using cf.2)];rw[ag,sac];refine⟨b,sl,L,_,[59],rfl,A5.pw,?_⟩;simp[go_sem,dH,fM];simp only[ae];simp[go_sem,ep];exact hφ o _ _ (A5.must [59]) I5
def RP (n:Nat):Ct Tryz.prog:=⟨154,GV D9 n,ZN n⟩
def FB:Fm:=(.C 108 [.P 0,.W [123]] (.p (.K 0 1 2 3 0)) ⟨4,0,1,0,0,0⟩
 (.C 128 [(.one (.i .u8 (.c 6))),.K 0 1 2 3 0,(.one (.sl .nil))] (.p (.P 1)) ⟨0,0,0,0,0,1⟩
 (.loop 0 ⟨[],[],[],[],[],[]⟩
 (.C 46 [.P 0] (.p (.B 0)) ⟨0,1,0,0,0,0⟩
 (.call (.not (.x 0)) false 69 [.P 0,.W [125]] (.p (.B 1)) ⟨0,1,0,0,0,0⟩
 (.ite (.and (.not (.x 0)) (.not (.x 1)))
 (.O (.pt 1 6) 1 [(.sl (.x 0))] ⟨0,0,0,0,1,0⟩
 (.Z 1
 (.Z 1
 (.callK (.c true) [((.c true),(.pt 1 6),1)] 138 [.P 0] (.p (.P 2)) ⟨0,0,0,0,0,1⟩
 (.mk [(.pt 2)] 71 1
 (.app (.x 0) (.x 1) 1 8 71
 (.Z 1
 (.Z 1
 (.store (.pt 1 6) [(.sl (.x 2))]
 (.again 0 ⟨4,0,1,0,0,2⟩ ⟨4,0,1,0,0,2⟩ ⟨[],[],[],[],[],[]⟩))))))))))
 (.V 110 [.P 0,.W [125]]
 (.ret (.p (.P 1))))))))))
theorem PH:aZ ⟨true,[]⟩ Tryz.prog (fun l=>([⟨[],[7,8,9,10,11,12,13,14,15,16,17,18,19,20,21,22,23,24,25],[6]⟩]:List bK).getD l ⟨[],[],[]⟩) Tryz.f113=FB:=by kernel_rfl
theorem WC:az Tryz.prog .zero Tryz.f113.params.toList=some ([.P 0],⟨0,0,0,0,0,1⟩):=by kernel_rfl
def Lr:Fm:=(.C 44 [.P 0] (.p (.K 0 1 2 3 0)) ⟨4,0,1,0,0,0⟩
 (.C 111 [.P 0,.W [118,97,114]] (.p (.B 0)) ⟨0,1,0,0,0,0⟩
 (.ite (.x 0)
 (.C 107 [.P 0,(.one (.i .u8 (.c 1)))] (.p (.K 4 5 6 7 1)) ⟨4,0,1,0,0,0⟩
 (.C 105 [.P 0,.W [58]] (.p (.K 8 9 10 11 2)) ⟨4,0,1,0,0,0⟩
 (.C 112 [.P 0] (.p (.P 1)) ⟨0,0,0,0,0,1⟩
 (.C 105 [.P 0,.W [61]] (.p (.K 12 13 14 15 3)) ⟨4,0,1,0,0,0⟩
 (.C 22 [.P 0] (.p (.P 2)) ⟨0,0,0,0,0,1⟩
 (.C 105 [.P 0,.W [59]] (.p (.K 16 17 18 19 4)) ⟨4,0,1,0,0,0⟩
 (.mk [(.pt 1),(.pt 2)] 71 2
 (.C 106 [(.one (.i .u8 (.c 7))),.K 0 1 2 3 0,.S 1,.L 0] (.p (.P 3)) ⟨0,0,0,0,0,1⟩
 (.ret (.p (.P 3)))))))))))
 (.C 111 [.P 0,.W [105,102]] (.p (.B 1)) ⟨0,1,0,0,0,0⟩
 (.ite (.x 1)
 (.C 22 [.P 0] (.p (.P 1)) ⟨0,0,0,0,0,1⟩
 (.C 113 [.P 0] (.p (.P 2)) ⟨0,0,0,0,0,1⟩
 (.mk [(.pt 1),(.pt 2)] 71 2
 (.C 128 [(.one (.i .u8 (.c 9))),.K 0 1 2 3 0,.L 0] (.p (.P 3)) ⟨0,0,0,0,0,1⟩
 (.C 111 [.P 0,.W [101,108,115,101]] (.p (.B 2)) ⟨0,1,0,0,0,0⟩
 (.ite (.x 2)
 (.O (.pt 3 6) 1 [(.sl (.x 1))] ⟨0,0,0,0,1,0⟩
 (.Z 3
 (.Z 3
 (.callK (.c true) [((.c true),(.pt 3 6),1)] 113 [.P 0] (.p (.P 4)) ⟨0,0,0,0,0,1⟩
 (.mk [(.pt 4)] 71 1
 (.app (.x 1) (.x 2) 1 8 71
 (.Z 3
 (.Z 3
 (.store (.pt 3 6) [(.sl (.x 3))]
 (.ret (.p (.P 3))))))))))))
 (.ret (.p (.P 3)))))))))
 (.C 111 [.P 0,.W [119,104,105,108,101]] (.p (.B 2)) ⟨0,1,0,0,0,0⟩
 (.ite (.x 2)
 (.C 22 [.P 0] (.p (.P 1)) ⟨0,0,0,0,0,1⟩
 (.C 113 [.P 0] (.p (.P 2)) ⟨0,0,0,0,0,1⟩
 (.mk [(.pt 1),(.pt 2)] 71 2
 (.C 128 [(.one (.i .u8 (.c 10))),.K 0 1 2 3 0,.L 0] (.p (.P 3)) ⟨0,0,0,0,0,1⟩
 (.ret (.p (.P 3)))))))
 (.C 111 [.P 0,.W [114,101,116,117,114,110]] (.p (.B 3)) ⟨0,1,0,0,0,0⟩
 (.ite (.x 3)
 (.C 128 [(.one (.i .u8 (.c 11))),.K 0 1 2 3 0,(.one (.sl .nil))] (.p (.P 1)) ⟨0,0,0,0,0,1⟩
 (.C 69 [.P 0,.W [59]] (.p (.B 4)) ⟨0,1,0,0,0,0⟩
 (.ite (.not (.x 4))
 (.O (.pt 1 6) 1 [(.sl (.x 0))] ⟨0,0,0,0,1,0⟩
 (.Z 1
 (.Z 1
 (.callK (.c true) [((.c true),(.pt 1 6),1)] 22 [.P 0] (.p (.P 2)) ⟨0,0,0,0,0,1⟩
 (.mk [(.pt 2)] 71 1
 (.app (.x 0) (.x 1) 1 8 71
 (.Z 1
 (.Z 1
 (.store (.pt 1 6) [(.sl (.x 2))]
 (.C 105 [.P 0,.W [59]] (.p (.K 4 5 6 7 1)) ⟨4,0,1,0,0,0⟩
 (.ret (.p (.P 1)))))))))))))
 (.C 105 [.P 0,.W [59]] (.p (.K 4 5 6 7 1)) ⟨4,0,1,0,0,0⟩
 (.ret (.p (.P 1)))))))
 (.C 111 [.P 0,.W [112,114,105,110,116]] (.p (.B 4)) ⟨0,1,0,0,0,0⟩
 (.ite (.x 4)
 (.C 22 [.P 0] (.p (.P 1)) ⟨0,0,0,0,0,1⟩
 (.mk [(.pt 1)] 71 1
 (.C 128 [(.one (.i .u8 (.c 12))),.K 0 1 2 3 0,.L 0] (.p (.P 2)) ⟨0,0,0,0,0,1⟩
 (.C 105 [.P 0,.W [59]] (.p (.K 4 5 6 7 1)) ⟨4,0,1,0,0,0⟩
 (.ret (.p (.P 2)))))))
 (.C 154 [.P 0,.K 0 1 2 3 0] (.p (.P 1)) ⟨0,0,0,0,0,1⟩
 (.ret (.p (.P 1)))))))))))))))
theorem VM:aZ ⟨true,[]⟩ Tryz.prog (fun l=>([]:List bK).getD l ⟨[],[],[]⟩) Tryz.f138=Lr:=by kernel_rfl
theorem aag:az Tryz.prog .zero Tryz.f138.params.toList=some ([.P 0],⟨0,0,0,0,0,1⟩):=by kernel_rfl
def AL (n:Nat):Prop:=∀ args h φ w,og eX n args h φ->Holds h w->Calls Tryz.prog 113 args.toArray w fun e w'=>∃ v k,e=.returned v/\φ v k/\Holds k w'/\Fr w.heap.size h k w w'
def Hz (n:Nat):Prop:=∀ args h φ w,og iw n args h φ->Holds h w->Calls Tryz.prog 138 args.toArray w fun e w'=>∃ v k,e=.returned v/\φ v k/\Holds k w'/\Fr w.heap.size h k w w'
def Ih {n:Nat} (H:AL n):Ct Tryz.prog:=⟨113,og eX n,H⟩
def Yj {n:Nat} (H:Hz n):Ct Tryz.prog:=⟨138,og iw n,H⟩
def JX (h:Hp) (b:Nat) (sl:bM) (L:List Tok) (l c:Int) (rl:List Tr) (r:PS) (d:Int) (n:Nat):Nat->Ctx->Prop:=fun _ C=>
 ∃ i0 i1 i2 i3 s0 o s vs ts p1 k1 g1 m1,C=⟨[i0,i1,i2,i3],[],[s0],[],[],[some (b,0),some (o,0)],k1,df⟩/\Out h b sl L p1 k1 g1 o 6 l c 0 [] s vs ts/\m1<=n/\
  fP L m1 ts p1=some (rl,r)/\p1.d+m1<=1000000000000/\vs.length+mu L p1<=L.length/\p1.d=d
set_option maxHeartbeats 4000000 in
theorem XR {n:Nat} (HS:Hz n):AL (n+1):=by
 rintro args h φ w ⟨m,hm,b,sl,L,p,t,q,rfl,W,hr,hd,hφ⟩ hH;cases m with
 | zero=>cases hr
 | succ m=>
 rw[eX] at hr;simp only[Option.map_eq_some_iff] at hr;obtain⟨⟨rl,r⟩,h1,h2⟩:=hr;cases h2;refine bn Tryz.func113 PH WC [gG,jk,iq,kX,jJ,Yj HS] φ (JX h b sl L (tk L p).l (tk L p).c rl r (p.d+1) n) (fun _=>iK b L.length) ⟨[],[],[],[],[],[some (b,0)],h,df⟩ ⟨rfl,rfl,rfl,rfl,rfl,rfl⟩ af ?_ w hH rfl;generalize hE:(⟨aG _,_,_,_⟩:Env)=E;have sad:E.spec 128=(gG).spec:=by rw[<- hE];rfl
 have saf:E.spec 108=(jk).spec:=by rw[<- hE];rfl
 have sa7:E.spec 46=(iq).spec:=by rw[<- hE];rfl
 have sa8:E.spec 69=(kX).spec:=by rw[<- hE];rfl
 have sag:E.spec 110=(jJ).spec:=by rw[<- hE];rfl
 have sas:E.spec 138=(Yj HS).spec:=by rw[<- hE];rfl
 have ep:E.post=φ:=by rw[<- hE]
 have ei:E.inv=(JX h b sl L (tk L p).l (tk L p).c rl r (p.d+1) n):=by rw[<- hE]
 have em:E.meas=(fun _=>iK b L.length):=by rw[<- hE]
 clear hE;unfold FB;have A:=At.start W;have hd0:=W.d0;have hlen:=W.len;rw[au,if_pos (by rfl),saf];refine⟨b,sl,L,p,[123],rfl,W,?_⟩;simp[go_sem,dH,fM];have A1:=A.open [123] (by omega);have hod:=(bG W.lw [123] p).d;rw[ag,sad];refine⟨6,tk L p,⟨none,0,0⟩,rfl,fun o ho=>?_⟩;simp[go_sem,bT];refine⟨some (o,0),rfl,?_⟩;have O:=A1.out ho 6 (tk L p).l (tk L p).c 0 [];rw[ae];refine bI ?_ ?_
 . rw[ei];exact⟨_,_,_,_,_,o,⟨none,0,0⟩,[],[],_,_,_,m,rfl,O,by omega,h1,by omega,by have:=o7 L (dE L [123] p);simp;omega,by omega⟩
 rw[ei,em];rintro i' bb ss v' ll pp hh0 M ⟨i0,i1,i2,i3,s0,o,s,vs,ts,p1,k1,g1,m1,hC,O1,hm1,hb1,hd1,hmu,hpd⟩ hM;cases hC;have hM:M 0=mu L p1:=hM.trans (fC O1.at'.pw rfl);clear h1 hod O ho;cases m1 with
 | zero=>cases hb1
 | succ m1=>
 rw[fP] at hb1;have stop:(p1.bad||dm L [125] p1)=true->∀ bs M,Then E (.V 110 [.P 0,.W [125]] (.ret (.p (.P 1)))) ⟨[i0,i1,i2,i3],bs,[s0],[],[],[some (b,0),some (o,0)],hh0,M⟩:=by
  intro hc bs M;rw[if_pos hc] at hb1;cases hb1;rw[ag,sag];refine⟨b,sl,L,_,[125],rfl,O1.at'.pw,?_⟩;have O2:=O1.shut [125] (by omega);simp[go_sem];simp only[ae];simp[go_sem,ep];obtain⟨g',A',I'⟩:=O2.done;exact hφ o _ g' A' I'
 rw[au,if_pos (by rfl),sa7];refine⟨b,sl,L,p1,rfl,O1.at'.pw,?_⟩;simp[go_sem];cases c0:p1.bad with
 | true=>
   rw[dn,if_neg (by simp[go_sem])];simp[go_sem];rw[ah,if_neg (by simp[go_sem])];exact stop (by rw[c0];rfl) _ _
 | false=>
 rw[dn,if_pos (by simp[go_sem]),sa8];refine⟨b,sl,L,p1,[125],rfl,O1.at'.pw,?_⟩;simp[go_sem];cases c1:dm L [125] p1 with
 | true=>
   rw[ah,if_neg (by simp[go_sem])];exact stop (by rw[c1];simp) _ _
 | false=>
 clear stop;rw[if_neg (by rw[c0,c1];decide)] at hb1;simp only[Option.bind_eq_some_iff] at hb1;obtain⟨⟨y,r1⟩,h3,h4⟩:=hb1;rw[ah,if_pos (by simp[go_sem])];have hmp:=nM c0 O1.at'.pw.at';have hkl:=o7 L p1;obtain⟨Ad,Wd⟩:=(OQ W.lw m1).1 _ _ _ h3;have hrd1:=Ad.d;refine grow (on:=1) (li:=0) (pi:=2) O1 rfl rfl rfl (by decide) (by omega) (fun ψ hψ=>by rw[sas];exact⟨m1,by omega,b,sl,L,p1,y,r1,rfl,O1.at'.pw,h3,by omega,hψ⟩) fun v2 kb s' k5 g5 O4=>?_
 simp only[List.nil_append,List.cons_append];rw[ae,says_again,ei,em];have hw:=jH Wd Ad O1.at'.pw.at';refine⟨⟨_,_,_,_,_,o,s',vs++[v2],ts++[y],_,_,_,m1,rfl,O4,by omega,h4,by omega,by simp;omega,by omega⟩,?_⟩;show iK b L.length _<M 0;rw[hM];refine Nat.lt_of_le_of_lt (Nat.le_of_eq (fC O4.at'.pw rfl)) ?_;omega
set_option maxHeartbeats 8000000 in
theorem adx {n:Nat} (HB:AL n):Hz (n+1):=by
 rintro args h φ w ⟨m,hm,b,sl,L,p,t,q,rfl,W,hr,hd,hφ⟩ hH;cases m with
 | zero=>cases hr
 | succ m=>
 refine bn Tryz.func138 VM aag [gI,rO,lH,jI,iD,gG,kX,oG n,kL (pM n),Ih HB,RP n] φ (bP) (bu) ⟨[],[],[],[],[],[some (b,0)],h,df⟩ ⟨rfl,rfl,rfl,rfl,rfl,rfl⟩ af ?_ w hH rfl;generalize hE:(⟨aG _,_,_,_⟩:Env)=E;have sa6:E.spec 44=(gI).spec:=by rw[<- hE];rfl
 have saa:E.spec 111=(rO).spec:=by rw[<- hE];rfl
 have sam:E.spec 107=(lH).spec:=by rw[<- hE];rfl
 have sac:E.spec 105=(jI).spec:=by rw[<- hE];rfl
 have sae:E.spec 106=(iD).spec:=by rw[<- hE];rfl
 have sad:E.spec 128=(gG).spec:=by rw[<- hE];rfl
 have sa8:E.spec 69=(kX).spec:=by rw[<- hE];rfl
 have sa0:E.spec 112=(oG n).spec:=by rw[<- hE];rfl
 have san:E.spec 22=(kL (pM n)).spec:=by rw[<- hE];rfl
 have sah:E.spec 113=(Ih HB).spec:=by rw[<- hE];rfl
 have sat:E.spec 154=(RP n).spec:=by rw[<- hE];rfl
 have ep:E.post=φ:=by rw[<- hE]
 clear hE;unfold Lr;have A:=At.start W;have hd0:=W.d0;have hlen:=W.len;have A1:=A.pass;have hpd:=(aN W.lw p).d;have hE:=(mG W.lw m).1;have hB:=(OQ W.lw m).2.1;rw[iw] at hr;dsimp only at hr;rw[au,if_pos (by rfl),sa6];refine⟨b,sl,L,p,rfl,W,?_⟩;simp[go_sem,dH,fM];rw[ag,saa];refine⟨b,sl,L,p,lX,rfl,W,?_⟩;cases c1:dm L lX p with
 | true=>
   rw[if_pos c1] at hr;simp only[Option.bind_eq_some_iff,Option.map_eq_some_iff] at hr;obtain⟨⟨x,r⟩,h1,⟨y,u⟩,h2,h3⟩:=hr;cases h3;rw[if_pos rfl];simp[go_sem];rw[ah,if_pos (by simp[go_sem])];rw[ag,sam];refine⟨b,sl,L,_,1,rfl,A1.pw,?_⟩;simp[go_sem,dH,fM];have A2:=A1.word 1;rw[dZ] at A2;rw[ag,sac];refine⟨b,sl,L,_,[58],rfl,A2.pw,?_⟩;simp[go_sem,dH,fM];have A3:=A2.must [58];rw[dZ] at A3;have hd3:=(((aN W.lw p).trans (dF W.lw 1 _)).trans (aV W.lw [58] _)).d;rw[ag,sa0];refine⟨m,by omega,b,sl,L,_,x,r,rfl,A3.pw,h1,by omega,fun v k g A4 hI=>?_⟩;simp[go_sem,bT];refine⟨some (v,0),rfl,?_⟩;have A5:=A3.then A4;have hkd:=(dV W.lw m _ h1).d;have hI5:=It.le (A3.disj A4) _ _ hI;rw[ag,sac];refine⟨b,sl,L,r,[61],rfl,A5.pw,?_⟩;simp[go_sem,dH,fM];have A6:=A5.must [61];have hmd:=(aV W.lw [61] r).d;rw[ag,san];refine⟨m,by omega,b,sl,L,_,y,u,rfl,A6.pw,h2,by omega,fun v2 k2 g2 A7 hI2=>?_⟩;simp[go_sem,bT];refine⟨some (v2,0),rfl,?_⟩;have A8:=A6.then A7;rw[ag,sac];refine⟨b,sl,L,u,[59],rfl,A8.pw,?_⟩;simp[go_sem,dH,fM];have A9:=A8.must [59];rw[ae,aK];intro kb hkb;simp[go_sem];rw[ag,sae];refine⟨7,tk L p,(tk L (bF L p)).x,⟨some (kb,0),2,2⟩,rfl,fun o ho=>?_⟩;simp[go_sem,bT];refine⟨some (o,0),rfl,?_⟩;simp only[ae];simp[go_sem,ep];obtain⟨A10,I10⟩:=A9.node (vs:=[v,v2]) (ts:=[x,y]) hkb ⟨It.le (sZ _ _) _ _ hI5,It.le (A6.disj A7) _ _ hI2,trivial⟩ (by simp) ho 7 (tk L p).l (tk L p).c 0 (tk L (bF L p)).x;exact hφ o _ _ A10 I10
 | false=>
 rw[c1,if_neg (by decide)] at hr;rw[if_neg (by decide)];simp[go_sem];rw[ah,if_neg (by simp[go_sem])];rw[ag,saa];refine⟨b,sl,L,p,wM,rfl,W,?_⟩;cases c2:dm L wM p with
 | true=>
   rw[if_pos c2] at hr;simp only[Option.bind_eq_some_iff] at hr;obtain⟨⟨x,r⟩,h1,⟨y,u⟩,h2,h3⟩:=hr;rw[if_pos rfl];simp[go_sem];rw[ah,if_pos (by simp[go_sem])];have hrd:=(hE _ _ _ _ h1).d;have hud:u.d=r.d+0:=(hB _ _ _ h2).1.d;rw[ag,san];refine⟨m,by omega,b,sl,L,_,x,r,rfl,A1.pw,h1,by omega,fun v k g A4 hI=>?_⟩;simp[go_sem,bT];refine⟨some (v,0),rfl,?_⟩;have A5:=A1.then A4;have hI5:=It.le (A1.disj A4) _ _ hI;rw[ag,sah];refine⟨m,by omega,b,sl,L,_,y,u,rfl,A5.pw,h2,by omega,fun v2 k2 g2 A6 hI2=>?_⟩;simp[go_sem,bT];refine⟨some (v2,0),rfl,?_⟩;have A7:=A5.then A6;rw[ae,aK];intro kb hkb;simp[go_sem];rw[ag,sad];refine⟨9,tk L p,⟨some (kb,0),2,2⟩,rfl,fun o ho=>?_⟩;simp[go_sem,bT];refine⟨some (o,0),rfl,?_⟩;have O:=A7.outs (vs:=[v,v2]) (ts:=[x,y]) hkb ⟨It.le (sZ _ _) _ _ hI5,It.le (A5.disj A6) _ _ hI2,trivial⟩ (by simp) ho 9 (tk L p).l (tk L p).c 0 [];rw[ag,saa];refine⟨b,sl,L,u,nU,rfl,O.at'.pw,?_⟩;cases c3:dm L nU u with
   | true=>
     rw[if_pos c3] at h3;simp only[Option.map_eq_some_iff] at h3;obtain⟨⟨z,u2⟩,h4,h5⟩:=h3;cases h5;rw[if_pos rfl];simp[go_sem];rw[ah,if_pos (by simp[go_sem])];have O1:=O.pass;have hpd2:=(aN W.lw u).d;refine grow (on:=3) (li:=1) (pi:=4) O1 rfl rfl rfl (by decide) (by simp) (fun ψ hψ=>by rw[sah];exact⟨m,by omega,b,sl,L,_,z,u2,rfl,O1.at'.pw,h4,by omega,hψ⟩) fun v3 kb3 s' k5 g5 O4=>?_
     simp only[List.nil_append,List.cons_append];simp only[ae];simp[go_sem,ep];obtain⟨g',A',I'⟩:=O4.done;exact hφ o _ g' A' I'
   | false=>
     rw[c3,if_neg (by decide)] at h3;cases h3;rw[if_neg (by decide)];simp[go_sem];rw[ah,if_neg (by simp[go_sem])];simp only[ae];simp[go_sem,ep];obtain⟨g',A',I'⟩:=O.done;exact hφ o _ g' A' I'
 | false=>
 rw[c2,if_neg (by decide)] at hr;rw[if_neg (by decide)];simp[go_sem];rw[ah,if_neg (by simp[go_sem])];rw[ag,saa];refine⟨b,sl,L,p,fK,rfl,W,?_⟩;cases c3:dm L fK p with
 | true=>
   rw[if_pos c3] at hr;simp only[Option.bind_eq_some_iff,Option.map_eq_some_iff] at hr;obtain⟨⟨x,r⟩,h1,⟨y,u⟩,h2,h3⟩:=hr;cases h3;rw[if_pos rfl];simp[go_sem];rw[ah,if_pos (by simp[go_sem])];have hrd:=(hE _ _ _ _ h1).d;rw[ag,san];refine⟨m,by omega,b,sl,L,_,x,r,rfl,A1.pw,h1,by omega,fun v k g A4 hI=>?_⟩;simp[go_sem,bT];refine⟨some (v,0),rfl,?_⟩;have A5:=A1.then A4;have hI5:=It.le (A1.disj A4) _ _ hI;rw[ag,sah];refine⟨m,by omega,b,sl,L,_,y,u,rfl,A5.pw,h2,by omega,fun v2 k2 g2 A6 hI2=>?_⟩;simp[go_sem,bT];refine⟨some (v2,0),rfl,?_⟩;have A7:=A5.then A6;rw[ae,aK];intro kb hkb;simp[go_sem];rw[ag,sad];refine⟨10,tk L p,⟨some (kb,0),2,2⟩,rfl,fun o ho=>?_⟩;simp[go_sem,bT];refine⟨some (o,0),rfl,?_⟩;simp only[ae];simp[go_sem,ep];obtain⟨A10,I10⟩:=A7.node (vs:=[v,v2]) (ts:=[x,y]) hkb ⟨It.le (sZ _ _) _ _ hI5,It.le (A5.disj A6) _ _ hI2,trivial⟩ (by simp) ho 10 (tk L p).l (tk L p).c 0 [];exact hφ o _ _ A10 I10
 | false=>
 rw[c3,if_neg (by decide)] at hr;rw[if_neg (by decide)];simp[go_sem];rw[ah,if_neg (by simp[go_sem])];rw[ag,saa];refine⟨b,sl,L,p,dC,rfl,W,?_⟩;cases c4:dm L dC p with
 | true=>
   rw[if_pos c4] at hr;rw[if_pos rfl];simp[go_sem];rw[ah,if_pos (by simp[go_sem])];rw[ag,sad];refine⟨11,tk L p,⟨none,0,0⟩,rfl,fun o ho=>?_⟩;simp[go_sem,bT];refine⟨some (o,0),rfl,?_⟩;have O:=A1.out ho 11 (tk L p).l (tk L p).c 0 [];rw[ag,sa8];refine⟨b,sl,L,_,[59],rfl,O.at'.pw,?_⟩;simp[go_sem];cases c5:dm L [59] (bF L p) with
   | true=>
     rw[if_pos c5] at hr;cases hr;rw[ah,if_neg (by simp[go_sem])];rw[ag,sac];refine⟨b,sl,L,_,[59],rfl,O.at'.pw,?_⟩;simp[go_sem,dH,fM];have O2:=O.must [59];simp only[ae];simp[go_sem,ep];obtain⟨g',A',I'⟩:=O2.done;exact hφ o _ g' A' I'
   | false=>
     rw[c5,if_neg (by decide)] at hr;simp only[Option.map_eq_some_iff] at hr;obtain⟨⟨x,r⟩,h1,h2⟩:=hr;cases h2;rw[ah,if_pos (by simp[go_sem])];refine grow (on:=1) (li:=0) (pi:=2) O rfl rfl rfl (by decide) (by simp) (fun ψ hψ=>by rw[san];exact⟨m,by omega,b,sl,L,_,x,r,rfl,O.at'.pw,h1,by omega,hψ⟩) fun v3 kb3 s' k5 g5 O4=>?_
     simp only[List.nil_append,List.cons_append];rw[ag,sac];refine⟨b,sl,L,_,[59],rfl,O4.at'.pw,?_⟩;simp[go_sem,dH,fM];have O5:=O4.must [59];simp only[ae];simp[go_sem,ep];obtain⟨g',A',I'⟩:=O5.done;exact hφ o _ g' A' I'
 | false=>
 rw[c4,if_neg (by decide)] at hr;rw[if_neg (by decide)];simp[go_sem];rw[ah,if_neg (by simp[go_sem])];rw[ag,saa];refine⟨b,sl,L,p,fQ,rfl,W,?_⟩;cases c6:dm L fQ p with
 | true=>
   rw[if_pos c6] at hr;simp only[Option.map_eq_some_iff] at hr;obtain⟨⟨x,r⟩,h1,h2⟩:=hr;cases h2;rw[if_pos rfl];simp[go_sem];rw[ah,if_pos (by simp[go_sem])];rw[ag,san];refine⟨m,by omega,b,sl,L,_,x,r,rfl,A1.pw,h1,by omega,fun v k g A4 hI=>?_⟩;simp[go_sem,bT];refine⟨some (v,0),rfl,?_⟩;have A5:=A1.then A4;have hI5:=It.le (A1.disj A4) _ _ hI;rw[ae,aK];intro kb hkb;simp[go_sem];rw[ag,sad];refine⟨12,tk L p,⟨some (kb,0),1,1⟩,rfl,fun o ho=>?_⟩;simp[go_sem,bT];refine⟨some (o,0),rfl,?_⟩;obtain⟨A6,I6⟩:=A5.node (vs:=[v]) (ts:=[x]) hkb ⟨hI5,trivial⟩ (by simp) ho 12 (tk L p).l (tk L p).c 0 [];rw[ag,sac];refine⟨b,sl,L,_,[59],rfl,A6.pw,?_⟩;simp[go_sem,dH,fM];simp only[ae];simp[go_sem,ep];exact hφ o _ _ (A6.must [59]) I6
 | false=>
 rw[c6,if_neg (by decide)] at hr;rw[if_neg (by decide)];simp[go_sem];rw[ah,if_neg (by simp[go_sem])];rw[ag,sat];refine⟨m,by omega,b,sl,L,p,t,q,tk L p,rfl,W,hr,by omega,fun v k g A4 hI=>?_⟩;simp[go_sem,bT];refine⟨some (v,0),rfl,?_⟩;simp only[ae];simp[go_sem,ep];exact hφ v k g A4 hI
theorem aa8:∀ n,AL n/\Hz n
 | 0=>by
   refine⟨?_,?_⟩<;>
   . rintro args h φ w ⟨m,hm,b,sl,L,p,t,q,rfl,W,hr,_⟩ hH;obtain rfl:m=0:=by omega
     cases hr
 | n+1=>⟨XR (aa8 n).2,adx (aa8 n).1⟩
def xC:Fm:=(.C 105 [.P 0,.W [102,110]] (.p (.K 0 1 2 3 0)) ⟨4,0,1,0,0,0⟩
 (.C 107 [.P 0,(.one (.i .u8 (.c 1)))] (.p (.K 4 5 6 7 1)) ⟨4,0,1,0,0,0⟩
 (.C 106 [(.one (.i .u8 (.c 4))),.K 0 1 2 3 0,.S 1,(.one (.sl .nil))] (.p (.P 1)) ⟨0,0,0,0,0,1⟩
 (.C 108 [.P 0,.W [40]] (.p (.K 8 9 10 11 2)) ⟨4,0,1,0,0,0⟩
 (.loop 0 ⟨[],[(.c true)],[],[],[],[]⟩
 (.C 46 [.P 0] (.p (.B 1)) ⟨0,1,0,0,0,0⟩
 (.call (.not (.x 1)) false 69 [.P 0,.W [41]] (.p (.B 2)) ⟨0,1,0,0,0,0⟩
 (.ite (.and (.not (.x 1)) (.not (.x 2)))
 (.ite (.not (.x 0))
 (.C 105 [.P 0,.W [44]] (.p (.K 12 13 14 15 3)) ⟨4,0,1,0,0,0⟩
 (.O (.pt 1 6) 1 [(.sl (.x 0))] ⟨0,0,0,0,1,0⟩
 (.Z 1
 (.Z 1
 (.callK (.c true) [((.c true),(.pt 1 6),1)] 109 [.P 0,(.one (.i .u8 (.c 5)))] (.p (.P 2)) ⟨0,0,0,0,0,1⟩
 (.mk [(.pt 2)] 71 1
 (.app (.x 0) (.x 1) 1 8 71
 (.Z 1
 (.Z 1
 (.store (.pt 1 6) [(.sl (.x 2))]
 (.Z 1
 (.Z 1
 (.Z 1
 (.O (.pt 1 4) 1 [.J 16] ⟨1,0,0,0,0,0⟩
 (.N (.R (.add (.x 16) (.c 1)))
 (.Z 1
 (.Z 1
 (.Z 1
 (.store (.pt 1 4) [(.i .i64 (.add (.x 16) (.c 1)))]
 (.again 0 ⟨12,0,3,0,0,2⟩ ⟨12,1,3,0,0,2⟩ ⟨[],[(.c false)],[],[],[],[]⟩))))))))))))))))))))
 (.O (.pt 1 6) 1 [(.sl (.x 0))] ⟨0,0,0,0,1,0⟩
 (.Z 1
 (.Z 1
 (.callK (.c true) [((.c true),(.pt 1 6),1)] 109 [.P 0,(.one (.i .u8 (.c 5)))] (.p (.P 2)) ⟨0,0,0,0,0,1⟩
 (.mk [(.pt 2)] 71 1
 (.app (.x 0) (.x 1) 1 8 71
 (.Z 1
 (.Z 1
 (.store (.pt 1 6) [(.sl (.x 2))]
 (.Z 1
 (.Z 1
 (.Z 1
 (.O (.pt 1 4) 1 [.J 12] ⟨1,0,0,0,0,0⟩
 (.N (.R (.add (.x 12) (.c 1)))
 (.Z 1
 (.Z 1
 (.Z 1
 (.store (.pt 1 4) [(.i .i64 (.add (.x 12) (.c 1)))]
 (.again 0 ⟨12,0,3,0,0,2⟩ ⟨12,1,3,0,0,2⟩ ⟨[],[(.c false)],[],[],[],[]⟩))))))))))))))))))))
 (.V 110 [.P 0,.W [41]]
 (.new [(.i .u8 (.c 14)),(.i .i64 (.c 0)),(.i .i64 (.c 0)),(.i .i64 (.c 0)),(.i .i64 (.c 0)),(.s (.c [])),(.sl .nil)] 101
 (.C 111 [.P 0,.W [58]] (.p (.B 3)) ⟨0,1,0,0,0,0⟩
 (.ite (.x 3)
 (.C 112 [.P 0] (.p (.P 3)) ⟨0,0,0,0,0,1⟩
 (.O (.pt 1 6) 1 [(.sl (.x 0))] ⟨0,0,0,0,1,0⟩
 (.Z 1
 (.Z 1
 (.callK (.c true) [((.c true),(.pt 1 6),1)] 113 [.P 0] (.p (.P 4)) ⟨0,0,0,0,0,1⟩
 (.mk [(.pt 3),(.pt 4)] 71 2
 (.app (.x 0) (.x 1) 1 8 71
 (.Z 1
 (.Z 1
 (.store (.pt 1 6) [(.sl (.x 2))]
 (.ret (.p (.P 1)))))))))))))
 (.O (.pt 1 6) 1 [(.sl (.x 0))] ⟨0,0,0,0,1,0⟩
 (.Z 1
 (.Z 1
 (.callK (.c true) [((.c true),(.pt 1 6),1)] 113 [.P 0] (.p (.P 3)) ⟨0,0,0,0,0,1⟩
 (.mk [(.pt 2),(.pt 3)] 71 2
 (.app (.x 0) (.x 1) 1 8 71
 (.Z 1
 (.Z 1
 (.store (.pt 1 6) [(.sl (.x 2))]
 (.ret (.p (.P 1))))))))))))))))))))))))
theorem Y0:aZ ⟨true,[52]⟩ Tryz.prog (fun l=>([⟨[5],[16,17,18,19,20,21,22,23,24,25,26,27,28,29,30,31,32,33,34,35,36,37,38,39,40,41,42,43,44,45,46,47],[13]⟩]:List bK).getD l ⟨[],[],[]⟩) Tryz.f71=xC:=by kernel_rfl
theorem acX:az Tryz.prog .zero Tryz.f71.params.toList=some ([.P 0],⟨0,0,0,0,0,1⟩):=by kernel_rfl
def Lj:Fm:=(.new [(.i .u8 (.c 1)),(.i .i64 (.c 1)),(.i .i64 (.c 1)),(.i .i64 (.c 0)),(.i .i64 (.c 0)),(.s (.c [])),(.sl .nil)] 101
 (.loop 0 ⟨[],[],[],[],[],[]⟩
 (.C 46 [.P 0] (.p (.B 0)) ⟨0,1,0,0,0,0⟩
 (.call (.not (.x 0)) false 44 [.P 0] (.p (.K 0 1 2 3 0)) ⟨4,0,1,0,0,0⟩
 (.ite (.and (.not (.x 0)) (.not (.eqI (.x 0) (.c 8))))
 (.C 69 [.P 0,.W [114,101,99]] (.p (.B 1)) ⟨0,1,0,0,0,0⟩
 (.ite (.x 1)
 (.O (.pt 1 6) 1 [(.sl (.x 0))] ⟨0,0,0,0,1,0⟩
 (.Z 1
 (.Z 1
 (.callK (.c true) [((.c true),(.pt 1 6),1)] 70 [.P 0] (.p (.P 2)) ⟨0,0,0,0,0,1⟩
 (.mk [(.pt 2)] 71 1
 (.app (.x 0) (.x 1) 1 8 71
 (.Z 1
 (.Z 1
 (.store (.pt 1 6) [(.sl (.x 2))]
 (.again 0 ⟨0,0,0,0,0,2⟩ ⟨0,0,0,0,0,2⟩ ⟨[],[],[],[],[],[]⟩))))))))))
 (.C 69 [.P 0,.W [102,110]] (.p (.B 2)) ⟨0,1,0,0,0,0⟩
 (.ite (.x 2)
 (.O (.pt 1 6) 1 [(.sl (.x 0))] ⟨0,0,0,0,1,0⟩
 (.Z 1
 (.Z 1
 (.callK (.c true) [((.c true),(.pt 1 6),1)] 71 [.P 0] (.p (.P 2)) ⟨0,0,0,0,0,1⟩
 (.mk [(.pt 2)] 71 1
 (.app (.x 0) (.x 1) 1 8 71
 (.Z 1
 (.Z 1
 (.store (.pt 1 6) [(.sl (.x 2))]
 (.again 0 ⟨0,0,0,0,0,2⟩ ⟨0,0,0,0,0,2⟩ ⟨[],[],[],[],[],[]⟩))))))))))
 (.V 45 [.P 0,(.I (.c 5))]
 (.again 0 ⟨0,0,0,0,0,2⟩ ⟨0,0,0,0,0,2⟩ ⟨[],[],[],[],[],[]⟩))))))
 (.ret (.p (.P 1))))))))
theorem VI:aZ ⟨true,[6]⟩ Tryz.prog (fun l=>([⟨[],[7,8,9,10,11,12,13,14,15,19,20,18,21,22,23,24,25,26,27,28,29,30,31,33,34,32,35,36,37,38,39,40,41,42,43,44,45,16,17],[6]⟩]:List bK).getD l ⟨[],[],[]⟩) Tryz.f42=Lj:=by kernel_rfl
theorem aae:az Tryz.prog .zero Tryz.f42.params.toList=some ([.P 0],⟨0,0,0,0,0,1⟩):=by kernel_rfl
def adT (n:Nat):Ct Tryz.prog:=Ih (aa8 n).1
section
variable {h:Hp} {b:Nat} {sl:bM} {L:List Tok} {p:PS} {k g:Hp} {o:Nat} {kk l c n:Int} {x:List UInt8} {s:bM} {vs:List Nat} {ts:List Tr}
theorem Out.num (O:Out h b sl L p k g o kk l c n x s vs ts) (n':Int):Out h b sl L p (k.set o ⟨oL kk l c n' x s,IT⟩) g o kk l c n' x s vs ts:=by
 refine⟨⟨fun d y hdb hd=>?_,⟨?_,O.at'.pw.tok.keep fun d y hty hd=>?_,O.at'.pw.lw,O.at'.pw.len,O.at'.pw.at',O.at'.pw.d0,O.at'.pw.d1⟩,O.at'.hb,fun d y hd=>?_,O.at'.fr⟩,aA _ _ _,O.ho,O.go,O.kids.keep fun z cs hz hc=>?_,O.hs,O.its⟩
 . rw[aO _ (fun e=>by rw[e,O.ho] at hd;cases hd)];exact O.at'.kp d y hdb hd
 . rw[aO _ O.ob.symm];exact O.at'.pw.blk
 . rw[aO _ (fun e=>by rw[e,O.blk] at hd;cases hd;exact ad6 hty)];exact hd
 . rw[aO _ (fun e=>by rw[e,O.go] at hd;cases hd)];exact O.at'.le d y hd
 . rw[aO _ (O.zo hz)];exact hc
theorem Out.aside (O:Out h b sl L p k g o kk l c n x s vs ts) {v:Nat} (hv:k v=none) (y:HO):Out h b sl L p (k.set v y) (g.set v y) o kk l c n x s vs ts:=by
 refine⟨O.at'.new hv y,by rw[aO _ (fun e=>by rw[<- e,O.blk] at hv;cases hv)];exact O.blk,O.ho,by rw[aO _ (fun e=>by rw[<- e,O.blk] at hv;cases hv)];exact O.go,O.kids.keep fun z cs hz hc=>?_,fun z hz=>?_,Its.le (O.at'.gnew hv y) _ _ O.its⟩
 . rw[aO _ (fun e=>by rw[e,hv] at hc;cases hc)];exact hc
 . obtain⟨cs,h1⟩:=O.kids.blk hz;refine⟨(O.hs z hz).1,?_⟩;rw[aO _ (fun e=>by rw[e,hv] at h1;cases h1)];exact (O.hs z hz).2
end
def YP (h:Hp) (b:Nat) (sl:bM) (L:List Tok) (l c:Int) (x:List UInt8) (rl:List Tr) (r:PS) (d:Int) (n:Nat):Nat->Ctx->Prop:=fun _ C=>
 ∃ i0 i1 i2 i3 i4 i5 i6 i7 i8 i9 i10 i11 s0 s1 s2 first o s vs ts p1 k1 g1 m1,C=⟨[i0,i1,i2,i3,i4,i5,i6,i7,i8,i9,i10,i11],[first],[s0,s1,s2],[],[],[some (b,0),some (o,0)],k1,df⟩/\Out h b sl L p1 k1 g1 o 4 l c (ts.length:Nat) x s vs ts/\m1<=n/\
  dN L m1 first ts p1=some (rl,r)/\p1.d+m1<=1000000000001/\vs.length+mu L p1<=L.length/\p1.d=d
theorem TF {k'':Hp} {o:Nat} {kk l c n:Int} {x:List UInt8} {s:bM} (hk4:k'' o=some ⟨oL kk l c n x s,IT⟩) (n':Int):kP k'' (some (o,4)) [.int .i64 n']=some (k''.set o ⟨oL kk l c n' x s,IT⟩):=by
 simp[jg hk4,oL]
theorem MW {h:Hp} {v:Nat} {k l c n:Int} {x:List UInt8} {s:bM} (hx:h v=some ⟨oL k l c n x s,IT⟩):hread h (some (v,4)) 1=some [.int .i64 n]:=by rw[bz hx];rfl
theorem two {E:Env} {fc:FuncId} {h:Hp} {b:Nat} {sl:bM} {L:List Tok} {p:PS} {k g:Hp} {o:Nat} {kk l c n:Int} {x:List UInt8} {s:bM} {vs:List Nat} {ts:List Tr} {i:List Int} {bb:List Bool} {ss:List (List UInt8)} {pp:List (Option (Nat×Nat))} {M:Nat->Nat} {on rn pi u:Nat} {q:PS} {t tu:Tr}
 (O:Out h b sl L p k g o kk l c n x s vs ts) (hu:It g u tu) (ho:pp.getD on none=some (o,0)) (hr:pp.getD rn none=some (u,0)) (hp:pp.length=pi) (hol:on<pi) (hrl:rn<pi) (hn:vs.length<=2000000)
 (hs:∀ φ:Value->Hp->Prop,(∀ v k' g',At k b sl L q k' g'->It g' v t->φ (bT v) k')->E.spec fc [bT b] k φ) (hb0:pp.getD 0 none=some (b,0))
 (hk:∀ k5,(∃ g',At h b sl L q k5 g'/\It g' o (.nd kk l c n x (ts++[tu,t])))->E.post (bT o) k5):
 Then E (.O (.pt on 6) 1 [(.sl (.x 0))] ⟨0,0,0,0,1,0⟩ (.N (.nnp on) (.N (.nnp on) (.callK (.c true) [((.c true),(.pt on 6),1)] fc [.P 0] (.p (.one (.pt pi))) ⟨0,0,0,0,0,1⟩
  (.mk [(.pt rn),(.pt pi)] PI 2 (.app (.x 0) (.x 1) 1 8 PI (.N (.nnp on) (.N (.nnp on) (.store (.pt on 6) [(.sl (.x 2))] (.ret (.p (.one (.pt on))))))))))))) ⟨i,bb,ss,[],[],pp,k,M⟩:=by
 subst hp;have get:∀ {j:Nat} {y},pp.getD j none=some y->pp[j]? = some (some y):=fun {j y} hj=>by
  rw[List.getD_eq_getElem?_getD] at hj;cases hq:pp[j]? with
  | none=>rw[hq] at hj;cases hj
  | some z=>rw[hq] at hj;exact congrArg some hj
 have ho':=get ho;have hr':=get hr;have hb':=get hb0;have hb1:=O.blk;have hlo:∀ (u:List (Option (Nat×Nat))),(pp++u)[on]? = some (some (o,0)):=fun u=>by rw[List.getElem?_append_left hol];exact ho'
 have hlr:∀ (w:List (Option (Nat×Nat))),(pp++w)[rn]? = some (some (u,0)):=fun w=>by rw[List.getElem?_append_left hrl];exact hr'
 refine rL ⟨[],[],[],[],[s],[]⟩ rfl af (?_) ?_
 . simp[AE.den,CE.den,LE.den,Ctx.push,ho',bz hb1,oL]
 rw[ai];refine⟨by simp[BE.den,Ctx.push,ho'],?_⟩;rw[ai];refine⟨by simp[BE.den,Ctx.push,ho'],?_⟩;rw[ae,aI,if_pos (by rfl)];simp only[Ctx.push,List.append_nil,List.nil_append,List.map_cons,List.map_nil,PE.den,CE.den,hb0,Option.map_some];refine hs _ fun v k' g' A' hI'=>?_
 have O':=O.then A';have hb2:=O'.blk;refine⟨fun y hy _=>?_,(bQ _ _).2 ⟨⟨[],[],[],[],[],[some (v,0)]⟩,rfl,af,?_,?_⟩⟩
 . rw[List.mem_singleton] at hy;subst hy;simp[AE.den,ho',bz hb1,bz hb2]
 . simp[VE.den,PE.den,CE.den,bT]
 rw[ae,aK];intro kb hkb;have hkb':k' kb=none:=hkb;rw[ae];refine Nu (us:=[u,v]) (rs:=[tu,t]) O' ⟨It.le (sZ _ _) _ _ hu,It.le (O.at'.disj A') _ _ hI',trivial⟩ hn ⟨by simp,by simp⟩ hkb' ?_ ?_ ?_ fun s' k4 hk4 O4=>?_
 . simp[LE.den,Ctx.push,Ctx.heap]
 . simp[LE.den,Ctx.push,Ctx.heap]
 . simp[CE.den,Ctx.push,Ctx.heap,bT,hlr]
 rw[aC];refine⟨by simp[BE.den,Ctx.push,Ctx.heap,hlo],?_⟩;rw[ai];refine⟨by simp[BE.den,Ctx.push,Ctx.heap,hlo],?_⟩;rw[ae,aH];refine⟨k4.set o ⟨oL kk l c n x s',IT⟩,?_,?_⟩
 . have e:=Gg hk4 s';simpa[AE.den,CE.den,LE.den,Ctx.push,Ctx.heap,hlo] using e
 . rw[ak];have e:=hk _ O4.done;simpa[VE.den,PE.den,CE.den,Ctx.push,Ctx.heap,hlo,bT] using e
set_option maxHeartbeats 8000000 in
theorem aeJ (n:Nat):∀ args h φ w,og GL n args h φ->Holds h w->Calls Tryz.prog 71 args.toArray w fun e w'=>∃ v k,e=.returned v/\φ v k/\Holds k w'/\Fr w.heap.size h k w w':=by
 rintro args h φ w ⟨m,hm,b,sl,L,p,t,q,rfl,W,hr,hd,hφ⟩ hH;unfold GL at hr;dsimp only at hr;simp only[Option.map_eq_some_iff,Option.bind_eq_some_iff] at hr;obtain⟨⟨rl,r⟩,h1,⟨kt,r2⟩,hk1,⟨bt,r3⟩,hb1',h2⟩:=hr;cases h2;dsimp only at hk1 hb1' hφ;cases m with
 | zero=>cases h1
 | succ m=>
 refine bn Tryz.func71 Y0 acX [jI,lH,iD,jk,iq,kX,jJ,rO,AU n,oG n,adT n] φ (YP h b sl L (tk L p).l (tk L p).c (tk L (bC L vS p)).x rl r (p.d+1) (m+1)) (fun _=>iK b L.length) ⟨[],[],[],[],[],[some (b,0)],h,df⟩ ⟨rfl,rfl,rfl,rfl,rfl,rfl⟩ af ?_ w hH rfl;generalize hE:(⟨aG _,_,_,_⟩:Env)=E;have sac:E.spec 105=(jI).spec:=by rw[<- hE];rfl
 have sam:E.spec 107=(lH).spec:=by rw[<- hE];rfl
 have sae:E.spec 106=(iD).spec:=by rw[<- hE];rfl
 have saf:E.spec 108=(jk).spec:=by rw[<- hE];rfl
 have sa7:E.spec 46=(iq).spec:=by rw[<- hE];rfl
 have sa8:E.spec 69=(kX).spec:=by rw[<- hE];rfl
 have sag:E.spec 110=(jJ).spec:=by rw[<- hE];rfl
 have saa:E.spec 111=(rO).spec:=by rw[<- hE];rfl
 have sar:E.spec 109=(AU n).spec:=by rw[<- hE];rfl
 have sa0:E.spec 112=(oG n).spec:=by rw[<- hE];rfl
 have sah:E.spec 113=(adT n).spec:=by rw[<- hE];rfl
 have ep:E.post=φ:=by rw[<- hE]
 have ei:E.inv=(YP h b sl L (tk L p).l (tk L p).c (tk L (bC L vS p)).x rl r (p.d+1) (m+1)):=by rw[<- hE]
 have em:E.meas=(fun _=>iK b L.length):=by rw[<- hE]
 clear hE;unfold xC;have A:=At.start W;have hd0:=W.d0;have hlen:=W.len;rw[au,if_pos (by rfl),sac];refine⟨b,sl,L,p,vS,rfl,W,?_⟩;simp[go_sem,dH,fM];have A1:=A.must vS;rw[ag,sam];refine⟨b,sl,L,_,1,rfl,A1.pw,?_⟩;simp[go_sem,dH,fM];have A2:=A1.word 1;rw[dZ] at A2;rw[ag,sae];refine⟨4,tk L p,(tk L (bC L vS p)).x,⟨none,0,0⟩,rfl,fun o ho=>?_⟩;simp[go_sem,bT];refine⟨some (o,0),rfl,?_⟩;have O:=A2.out ho 4 (tk L p).l (tk L p).c 0 (tk L (bC L vS p)).x;rw[ag,saf];refine⟨b,sl,L,_,[40],rfl,O.at'.pw,?_⟩;simp[go_sem,dH,fM];have hod:=(((aV W.lw vS p).trans (dF W.lw 1 _)).trans (bG W.lw [40] _)).d;have hod2:=((aV W.lw vS p).trans (dF W.lw 1 _)).d;have O1:=O.open [40] (by omega);rw[ae];refine bI ?_ ?_
 . rw[ei];exact⟨_,_,_,_,_,_,_,_,_,_,_,_,_,_,_,true,o,⟨none,0,0⟩,[],[],_,_,_,m+1,rfl,O1,Nat.le_refl _,h1,by omega,by have:=o7 L (dE L [40] (gK L 1 (bC L vS p)));simp;omega,by omega⟩
 rw[ei,em];rintro i' bb ss v' ll pp hh0 M ⟨i0,i1,i2,i3,i4,i5,i6,i7,i8,i9,i10,i11,s0,s1,s2,first,o,s,vs,ts,p1,k1,g1,m1,hC,O1,hm1,hb1,hd1,hmu,hpd⟩ hM;cases hC;have hM:M 0=mu L p1:=hM.trans (fC O1.at'.pw rfl);clear h1 hod O ho;cases m1 with
 | zero=>cases hb1
 | succ m1=>
 rw[dN] at hb1;have htl:=O1.its.len;have hkl:=o7 L p1;have stop:(p1.bad||dm L [41] p1)=true->∀ bs M,Then E (.V 110 [.P 0,.W [41]] xC.k.k.k.k.k.k.k.e.k) ⟨[i0,i1,i2,i3,i4,i5,i6,i7,i8,i9,i10,i11],[first]++[p1.bad]++[bs],[s0,s1,s2],[],[],[some (b,0),some (o,0)],hh0,M⟩:=by
  intro hc bs M;rw[if_pos hc] at hb1;cases hb1;unfold xC;simp only[Fm.k,Fm.e];rw[ag,sag];refine⟨b,sl,L,_,[41],rfl,O1.at'.pw,?_⟩;have O2:=O1.shut [41] (by omega);have hsd:=(dB W.lw [41] r).d;simp[go_sem];rw[ae,eu];intro nv hnv;simp[go_sem];have O3:=O2.aside hnv ⟨oL 14 0 0 0 [] ⟨none,0,0⟩,IT⟩;have I3:It _ nv (.nd 14 0 0 0 [] []):=O2.at'.leaf hnv 14 0 0 0 [];rw[ag,saa];refine⟨b,sl,L,_,[58],rfl,O3.at'.pw,?_⟩;cases c3:dm L [58] (dw L [41] r) with
  | true=>
    rw[if_pos c3] at hk1;rw[if_pos rfl];simp[go_sem];rw[ah,if_pos (by simp[go_sem])];have O4:=O3.pass;have hpd4:=(aN W.lw (dw L [41] r)).d;have hkd:=(dV W.lw _ _ hk1).d;rw[ag,sa0];refine⟨m+1,by omega,b,sl,L,_,kt,r2,rfl,O4.at'.pw,hk1,by omega,fun v k g A4 hI=>?_⟩;simp[go_sem,bT];refine⟨some (v,0),rfl,?_⟩;have O5:=O4.then A4;refine two (rn:=3) (pi:=4) O5 (It.le (O4.at'.disj A4) _ _ hI) rfl rfl rfl (by decide) (by decide) (by omega) (fun ψ hψ=>by rw[sah];exact⟨m+1,by omega,b,sl,L,_,_,_,rfl,O5.at'.pw,hb1',by omega,hψ⟩) rfl fun k5 hk5=>?_
    obtain⟨g',A',I'⟩:=hk5;rw[ep];exact hφ o _ g' A' I'
  | false=>
    rw[c3,if_neg (by decide)] at hk1;cases hk1;rw[if_neg (by decide)];simp[go_sem];rw[ah,if_neg (by simp[go_sem])];refine two (rn:=2) (pi:=3) O3 I3 rfl rfl rfl (by decide) (by decide) (by omega) (fun ψ hψ=>by rw[sah];exact⟨m+1,by omega,b,sl,L,_,_,_,rfl,O3.at'.pw,hb1',by omega,hψ⟩) rfl fun k5 hk5=>?_
    obtain⟨g',A',I'⟩:=hk5;rw[ep];exact hφ o _ g' A' I'
 unfold xC at stop;simp only[Fm.k,Fm.e] at stop;rw[au,if_pos (by rfl),sa7];refine⟨b,sl,L,p1,rfl,O1.at'.pw,?_⟩;simp[go_sem];cases c0:p1.bad with
 | true=>
   rw[dn,if_neg (by simp[go_sem])];simp[go_sem];rw[ah,if_neg (by simp[go_sem])];have:=stop (by rw[c0];rfl) false M;rw[c0] at this;exact this
 | false=>
 rw[dn,if_pos (by simp[go_sem]),sa8];refine⟨b,sl,L,p1,[41],rfl,O1.at'.pw,?_⟩;simp[go_sem];cases c1:dm L [41] p1 with
 | true=>
   rw[ah,if_neg (by simp[go_sem])];have:=stop (by rw[c1];simp) true M;rw[c0] at this;exact this
 | false=>
 clear stop;rw[if_neg (by rw[c0,c1];decide)] at hb1;simp only[Option.bind_eq_some_iff] at hb1;obtain⟨⟨y,r1⟩,h3,h4⟩:=hb1;rw[ah,if_pos (by simp[go_sem])];have hmp:=nM c0 O1.at'.pw.at';obtain⟨Ad,Wd⟩:=kw W.lw h3;have hrd1:=Ad.d;cases first with
 | true=>
   rw[if_pos rfl] at h3 Ad Wd hrd1;rw[ah,if_neg (by simp[go_sem])];refine grow (on:=1) (li:=0) (pi:=2) O1 rfl rfl rfl (by decide) (by omega) (fun ψ hψ=>by rw[sar];exact⟨m1,by omega,b,sl,L,_,y,r1,5,rfl,O1.at'.pw,h3,by omega,hψ⟩) fun v2 kb s' k5 g5 O4=>?_
   simp only[List.nil_append,List.cons_append];have hn4:=MW O4.blk
   iterate 3 (rw[ai];refine⟨by simp[go_sem],?_⟩)
   rw[bY,if_pos (by rfl)];simp[go_sem];refine⟨_,hn4,?_⟩;rw[ai];refine⟨by simp[go_sem];omega,?_⟩
   iterate 3 (rw[ai];refine⟨by simp[go_sem],?_⟩)
   rw[ae,aH];refine⟨_,by simp[go_sem,TF O4.blk];rfl,?_⟩;have O5:=O4.num ((ts.length:Int)+1);dsimp only at h4;have el:(((ts++[y]).length:Nat):Int)=(ts.length:Int)+1:=by simp
   rw[ae,says_again,ei,em];have hw:=jH Wd Ad O1.at'.pw.at';refine⟨⟨_,_,_,_,_,_,_,_,_,_,_,_,_,_,_,false,o,s',vs++[v2],ts++[y],_,_,_,m1,rfl,by rw[el];exact O5,by omega,h4,by omega,by simp;omega,by omega⟩,?_⟩;show iK b L.length _<M 0;rw[hM];refine Nat.lt_of_le_of_lt (Nat.le_of_eq (fC O5.at'.pw rfl)) ?_;omega
 | false=>
   rw[if_neg (by decide)] at h3 Ad Wd hrd1;rw[ah,if_pos (by simp[go_sem])];rw[ag,sac];refine⟨b,sl,L,p1,[44],rfl,O1.at'.pw,?_⟩;simp[go_sem,dH,fM];have O2:=O1.must [44];have Am:=aV W.lw [44] p1;have hmd:=Am.d;have hm2:=gJ Am;refine grow (on:=1) (li:=0) (pi:=2) O2 rfl rfl rfl (by decide) (by omega) (fun ψ hψ=>by rw[sar];exact⟨m1,by omega,b,sl,L,_,y,r1,5,rfl,O2.at'.pw,h3,by omega,hψ⟩) fun v2 kb s' k5 g5 O4=>?_
   simp only[List.nil_append,List.cons_append];have hn4:=MW O4.blk
   iterate 3 (rw[ai];refine⟨by simp[go_sem],?_⟩)
   rw[bY,if_pos (by rfl)];simp[go_sem];refine⟨_,hn4,?_⟩;rw[ai];refine⟨by simp[go_sem];omega,?_⟩
   iterate 3 (rw[ai];refine⟨by simp[go_sem],?_⟩)
   rw[ae,aH];refine⟨_,by simp[go_sem,TF O4.blk];rfl,?_⟩;have O5:=O4.num ((ts.length:Int)+1);dsimp only at h4;have el:(((ts++[y]).length:Nat):Int)=(ts.length:Int)+1:=by simp
   rw[ae,says_again,ei,em];have hw:=jH Wd Ad O2.at'.pw.at';refine⟨⟨_,_,_,_,_,_,_,_,_,_,_,_,_,_,_,false,o,s',vs++[v2],ts++[y],_,_,_,m1,rfl,by rw[el];exact O5,by omega,h4,by omega,by simp;omega,by omega⟩,?_⟩;show iK b L.length _<M 0;rw[hM];refine Nat.lt_of_le_of_lt (Nat.le_of_eq (fC O5.at'.pw rfl)) ?_;omega
def adV (n:Nat):Ct Tryz.prog:=⟨71,og GL n,aeJ n⟩
def YE:Fm:=(.Z 0
 (.Z 0
 (.O (.pt 0 0) 6 [.U 0,.J 1,.J 2,.J 3,.J 4,(.s (.x 0))] ⟨5,0,1,0,0,0⟩
 (.mk [.U 0,.J 1,.J 2,.J 3,.J 4,(.s (.x 0))] 52 1
 (.app (.x 0) (.x 1) 6 56 52
 (.Z 0
 (.Z 0
 (.O (.pt 0 6) 1 [(.sl (.x 3))] ⟨0,0,0,0,1,0⟩
 (.loop 0 ⟨[(.c 0)],[],[],[],[(.x 2)],[]⟩
 (.ite (.lt (.x 5) (.cnt (.x 3)))
 (.N (.X (.x 5) (.x 3))
 (.O (.el (.x 3) (.x 5) 1 0) 1 [(.pt 1)] ⟨0,0,0,0,0,1⟩
 (.C 47 [.P 1,.L 4] (.p (.L 5)) ⟨0,0,0,0,1,0⟩
 (.N (.R (.add (.x 5) (.c 1)))
 (.again 0 ⟨5,0,1,0,4,1⟩ ⟨6,0,1,0,5,1⟩ ⟨[(.add (.x 5) (.c 1))],[],[],[],[(.x 5)],[]⟩)))))
 (.N (.R (.sub (.cnt (.x 4)) (.cnt (.x 0))))
 (.N (.R (.sub (.sub (.cnt (.x 4)) (.cnt (.x 0))) (.c 1)))
 (.N (.X (.cnt (.x 0)) (.x 4))
 (.N (.nns (.x 4))
 (.store (.el (.x 4) (.cnt (.x 0)) 6 3) [(.i .i64 (.sub (.sub (.cnt (.x 4)) (.cnt (.x 0))) (.c 1)))]
 (.ret (.p (.L 4))))))))))))))))))
theorem ack:aZ ⟨true,[]⟩ Tryz.prog (fun l=>([⟨[1,22],[23,24,25,7,26,27,28,29],[]⟩]:List bK).getD l ⟨[],[],[]⟩) Tryz.f47=YE:=by kernel_rfl
theorem ae7:az Tryz.prog .zero Tryz.f47.params.toList=some ([.P 0,.L 0],⟨0,0,0,0,1,1⟩):=by kernel_rfl
def Ur (h:Hp) (b:Nat) (sl:bM) (L:List Tok) (rl:List Tr) (r:PS) (n:Nat):Nat->Ctx->Prop:=fun _ C=>
 ∃ o s vs ts p1 k1 g1 m1,C=⟨[],[],[],[],[],[some (b,0),some (o,0)],k1,df⟩/\Out h b sl L p1 k1 g1 o 1 1 1 0 [] s vs ts/\m1<=n/\
  eY L m1 ts p1=some (rl,r)/\p1.d+m1<=1000000000000/\vs.length+mu L p1<=L.length
def xZ (L:List Tok) (n:Nat) (p:PS):Option (Tr×PS):=vK L n p
set_option maxHeartbeats 8000000 in
theorem acO (n:Nat):∀ args h φ w,og xZ n args h φ->Holds h w->Calls Tryz.prog 42 args.toArray w fun e w'=>∃ v k,e=.returned v/\φ v k/\Holds k w'/\Fr w.heap.size h k w w':=by
 rintro args h φ w ⟨m,hm,b,sl,L,p,t,q,rfl,W,hr,hd,hφ⟩ hH;unfold xZ vK at hr;simp only[Option.map_eq_some_iff] at hr;obtain⟨⟨rl,r⟩,h1,h2⟩:=hr;cases h2;refine bn Tryz.func42 VI aae [iq,gI,kX,iF,Kr n,adV n] φ (Ur h b sl L rl r n) (fun _=>iK b L.length) ⟨[],[],[],[],[],[some (b,0)],h,df⟩ ⟨rfl,rfl,rfl,rfl,rfl,rfl⟩ af ?_ w hH rfl;generalize hE:(⟨aG _,_,_,_⟩:Env)=E;have sa7:E.spec 46=(iq).spec:=by rw[<- hE];rfl
 have sa6:E.spec 44=(gI).spec:=by rw[<- hE];rfl
 have sa8:E.spec 69=(kX).spec:=by rw[<- hE];rfl
 have sab:E.spec 45=(iF).spec:=by rw[<- hE];rfl
 have sau:E.spec 70=(Kr n).spec:=by rw[<- hE];rfl
 have sav:E.spec 71=(adV n).spec:=by rw[<- hE];rfl
 have ep:E.post=φ:=by rw[<- hE]
 have ei:E.inv=(Ur h b sl L rl r n):=by rw[<- hE]
 have em:E.meas=(fun _=>iK b L.length):=by rw[<- hE]
 clear hE;unfold Lj;have A:=At.start W;have hlen:=W.len;rw[eu];intro o ho;simp[go_sem];have O:=A.out ho 1 1 1 0 [];rw[ae];refine bI ?_ ?_
 . rw[ei];exact⟨o,⟨none,0,0⟩,[],[],_,_,_,m,rfl,O,hm,h1,hd,by have:=o7 L p;simp;omega⟩
 rw[ei,em];rintro i' bb ss v' ll pp hh0 M ⟨o,s,vs,ts,p1,k1,g1,m1,hC,O1,hm1,hb1,hd1,hmu⟩ hM;cases hC;have hM:M 0=mu L p1:=hM.trans (fC O1.at'.pw rfl);clear h1 O ho;cases m1 with
 | zero=>cases hb1
 | succ m1=>
 rw[eY] at hb1;have stop:(p1.bad||(tk L p1).k==8)=true->φ (bT o) hh0:=by
  intro hc;rw[if_pos hc] at hb1;cases hb1;obtain⟨g',A',I'⟩:=O1.done;exact hφ o _ g' A' I'
 rw[au,if_pos (by rfl),sa7];refine⟨b,sl,L,p1,rfl,O1.at'.pw,?_⟩;simp[go_sem];cases c0:p1.bad with
 | true=>
   rw[dn,if_neg (by simp[go_sem])];simp[go_sem];rw[ah,if_neg (by simp[go_sem])];simp only[ae];simp[go_sem,ep];exact stop (by rw[c0];rfl)
 | false=>
 rw[dn,if_pos (by simp[go_sem]),sa6];refine⟨b,sl,L,p1,rfl,O1.at'.pw,?_⟩;simp[go_sem,dH,fM];by_cases c8:(tk L p1).k=8
 . rw[ah,if_neg (by simp[go_sem,c8])];simp only[ae];simp[go_sem,ep];exact stop (by rw[c8];simp)
 clear stop;rw[if_neg (by rw[c0];simp[c8])] at hb1;rw[ah,if_pos (by simp[go_sem,c8])];have hmp:=nM c0 O1.at'.pw.at';have hkl:=o7 L p1;rw[ag,sa8];refine⟨b,sl,L,p1,jO,rfl,O1.at'.pw,?_⟩;simp[go_sem];cases c1:dm L jO p1 with
 | true=>
   rw[if_pos c1] at hb1;simp only[Option.bind_eq_some_iff] at hb1;obtain⟨⟨y,r1⟩,h3,h4⟩:=hb1;dsimp only at h4;rw[ah,if_pos (by simp[go_sem])];obtain⟨Ad,Wd⟩:=qG W.lw h3;have hrd1:=Ad.d;refine grow (on:=1) (li:=0) (pi:=2) O1 rfl rfl rfl (by decide) (by omega) (fun ψ hψ=>by rw[sau];exact⟨m1,by omega,b,sl,L,p1,y,r1,rfl,O1.at'.pw,h3,by omega,hψ⟩) fun v2 kb s' k5 g5 O4=>?_
   simp only[List.nil_append,List.cons_append];rw[ae,says_again,ei,em];have hw:=jH Wd Ad O1.at'.pw.at';refine⟨⟨o,s',vs++[v2],ts++[y],r1,_,_,m1,rfl,O4,by omega,h4,by omega,by simp;omega⟩,?_⟩;show iK b L.length _<M 0;rw[hM];refine Nat.lt_of_le_of_lt (Nat.le_of_eq (fC O4.at'.pw rfl)) ?_;omega
 | false=>
 rw[c1,if_neg (by decide)] at hb1;rw[ah,if_neg (by simp[go_sem])];rw[ag,sa8];refine⟨b,sl,L,p1,vS,rfl,O1.at'.pw,?_⟩;simp[go_sem];cases c2:dm L vS p1 with
 | true=>
   rw[if_pos c2] at hb1;simp only[Option.bind_eq_some_iff] at hb1;obtain⟨⟨y,r1⟩,h3,h4⟩:=hb1;dsimp only at h4;rw[ah,if_pos (by simp[go_sem])];obtain⟨Ad,Wd⟩:=H7 W.lw h3;have hrd1:=Ad.d;refine grow (on:=1) (li:=0) (pi:=2) O1 rfl rfl rfl (by decide) (by omega) (fun ψ hψ=>by rw[sav];exact⟨m1,by omega,b,sl,L,p1,y,r1,rfl,O1.at'.pw,h3,by omega,hψ⟩) fun v2 kb s' k5 g5 O4=>?_
   simp only[List.nil_append,List.cons_append];rw[ae,says_again,ei,em];have hw:=jH Wd Ad O1.at'.pw.at';refine⟨⟨o,s',vs++[v2],ts++[y],r1,_,_,m1,rfl,O4,by omega,h4,by omega,by simp;omega⟩,?_⟩;show iK b L.length _<M 0;rw[hM];refine Nat.lt_of_le_of_lt (Nat.le_of_eq (fC O4.at'.pw rfl)) ?_;omega
 | false=>
   rw[c2,if_neg (by decide)] at hb1;rw[ah,if_neg (by simp[go_sem])];rw[ag,sab];refine⟨b,sl,L,p1,5,rfl,O1.at'.pw,?_⟩;simp[go_sem];have O2:=O1.fail 5;have Af:=dP (L:=L) 5 p1;have hfd:=Af.d;have h0:mu L (dD L 5 p1)=0:=by unfold mu;rw[if_pos (jv (by decide) p1)]
   rw[ae,says_again,ei,em];refine⟨⟨o,s,vs,ts,_,_,_,m1,rfl,O2,by omega,hb1,by omega,by omega⟩,?_⟩;show iK b L.length _<M 0;rw[hM];refine Nat.lt_of_le_of_lt (Nat.le_of_eq (fC O2.at'.pw rfl)) ?_;omega
def Yd (n:Nat):Ct Tryz.prog:=⟨42,og xZ n,acO n⟩
def ND:TypeId:=52
def Az.cs (x:Az):List Value:=[.int .u8 x.k,.int .i64 x.l,.int .i64 x.c,.int .i64 (x.z:Nat),.int .i64 x.n,.string (B x.x)]
def wz (l:List Az):List Value:=l.flatMap Az.cs
theorem Ua (l:List Az):(wz l).length=l.length*6:=by
 induction l with
 | nil=>rfl
 | cons a l ih=>simp only[wz,List.flatMap_cons,List.length_append,List.length_cons] at *;rw[ih];simp[Az.cs];omega
theorem I7 (a b:List Az):wz (a++b)=wz a++wz b:=by simp[wz]
theorem Dy (x:Az) (l:List Az):wz (x::l)=x.cs++wz l:=by simp[wz]
theorem eF.agG {k:Hp} {s:bM} {xs:List Value} {ty:TypeId} {sz:Nat} (ho:eF k s xs ty sz) {j:Nat} (hj:j<xs.length) (u:Value) (hT:ty≠1000003):
 ∃ c o,s.a=some (c,0)/\k c=some o/\kP k (some (c,j)) [u]=some (k.set c ⟨o.cs.take j++[u]++o.cs.drop (j+1),o.ty⟩)/\eF (k.set c ⟨o.cs.take j++[u]++o.cs.drop (j+1),o.ty⟩) s (xs.take j++[u]++xs.drop (j+1)) ty sz:=by
 rcases ho with ⟨_,hx⟩ | ⟨c,o,h1,h2,h3,h4,h5,h6,h7⟩
 . rw[hx] at hj;cases hj
 . have hle:s.n*sz<=o.cs.length:=by rw[h4];exact Nat.mul_le_mul_right _ h5
   have hxl:xs.length=s.n*sz:=by rw[h7,List.length_take];omega
   have hjo:j<o.cs.length:=by omega
   refine⟨c,o,h1,h2,by rw[jg h2,if_pos ⟨by simp;omega,by rw[h3];exact hT⟩];rfl,.inr ⟨c,_,h1,aA _ _ _,h3,?_,h5,h6,?_⟩⟩
   . simp only[List.length_append,List.length_take,List.length_drop,List.length_cons,List.length_nil];omega
   . simp only;rw[h7,List.take_take,Nat.min_eq_left (by omega)];have hl:(o.cs.take j++[u]).length=j+1:=by simp;omega
     rw[List.take_append (l₁:=o.cs.take j++[u]),List.take_of_length_le (l:=o.cs.take j++[u]) (by omega),hl,List.drop_take]
def af1 (N:Nat) (args:List Value) (h:Hp) (φ:Value->Hp->Prop):Prop:=
 ∃ v t s acc,args=[bT v,s.val]/\t.n<=N/\It h v t/\eF h s (wz acc) ND 6/\s.n=acc.length/\acc.length+t.n<=2000000/\
  ∀ s' k,eF k s' (wz (acc++t.qP)) ND 6->s'.n=acc.length+t.n->(∀ c o,(∀ z,s.a=some z->z.1≠c)->h c=some o->k c=some o)->(∀ z,s'.a=some z->(∃ y,s.a=some y/\y.1=z.1)\/h z.1=none)->φ s'.val k
def adP (N:Nat):Prop:=∀ args h φ w,af1 N args h φ->Holds h w->Calls Tryz.prog 47 args.toArray w fun e w'=>∃ v k,e=.returned v/\φ v k/\Holds k w'/\Fr w.heap.size h k w w'
def EY {N:Nat} (H:adP N):Ct Tryz.prog:=⟨47,af1 N,H⟩
theorem aea:ND≠IT:=by decide
theorem aeb:ND≠PI:=by decide
theorem eF.ty {h:Hp} {s:bM} {xs:List Value} {ty:TypeId} {sz:Nat} (ho:eF h s xs ty sz) {z:Nat×Nat} (hz:s.a=some z):∃ cs,h z.1=some ⟨cs,ty⟩:=by
 rcases ho with ⟨h1,_⟩ | ⟨c,o,h1,h2,h3,_⟩
 . rw[h1] at hz;cases hz
 . rw[h1] at hz;cases hz;obtain⟨cs,ty'⟩:=o;simp only at h3;subst h3;exact⟨cs,h2⟩
mutual
theorem It.keep {h k:Hp} (hk:∀ c o,o.ty≠ND->h c=some o->k c=some o):∀ (v:Nat) (t:Tr),It h v t->It k v t
 | v,.nd _ _ _ _ _ ks,hi=>by
   obtain⟨sl,vs,h1,h2,h3⟩:=hi;exact⟨sl,vs,hk _ _ aea.symm h1,h2.keep fun z cs _ hc=>hk _ _ aeb.symm hc,Its.keep hk vs ks h3⟩
theorem Its.keep {h k:Hp} (hk:∀ c o,o.ty≠ND->h c=some o->k c=some o):∀ (vs:List Nat) (ts:List Tr),Its h vs ts->Its k vs ts
 | [],[],_=>trivial
 | v::vs,t::ts,hi=>⟨It.keep hk v t hi.1,Its.keep hk vs ts hi.2⟩
 | [],_::_,hi=>hi
 | _::_,[],hi=>hi
end
theorem Its.get {h:Hp}:∀ {vs:List Nat} {ts:List Tr},Its h vs ts->∀ (j:Nat) (hj:j<ts.length),∃ v,vs[j]? = some v/\It h v ts[j]
 | v::vs,t::ts,hi,0,_=>⟨v,rfl,hi.1⟩
 | v::vs,t::ts,hi,j+1,hj=>by
   obtain⟨u,h1,h2⟩:=Its.get hi.2 j (by simpa using hj);exact⟨u,by simpa using h1,by simpa using h2⟩
 | [],[],_,j,hj=>by cases hj
 | [],_::_,hi,_,_=>by cases hi
 | _::_,[],hi,_,_=>by cases hi
theorem Kids.read {h:Hp} {s:bM} {vs:List Nat} (K:Kids h s vs) {j v:Nat} (hv:vs[j]? = some v):s.a.isSome=true/\hread h (s.a.map fun x=>(x.1,x.2+j*1+0)) 1=some [bT v]:=by
 have hj:=(List.getElem?_eq_some_iff.1 hv).1;rcases K.own with ⟨h1,h2⟩ | ⟨c,o,h1,h2,h3,h4,h5,h6,h7⟩
 . have:=congrArg List.length h2;simp at this;rw[this] at hj;cases hj
 . have hl:=K.len;rw[h1];refine⟨rfl,?_⟩;simp only[Option.map_some,Nat.zero_add,Nat.mul_one,Nat.add_zero];rw[bz h2,if_pos (by omega)];have e:(o.cs.take (s.n*1))[j]? = some (bT v):=by rw[<- h7,List.getElem?_map,hv];rfl
   rw[List.getElem?_take,if_pos (by omega)] at e;rw[List.drop_eq_getElem_cons (by omega)];have e2:o.cs[j]'(by omega)=bT v:=by
    have:=List.getElem?_eq_getElem (l:=o.cs) (i:=j) (by omega);rw[this] at e;exact Option.some.inj e
   rw[e2];rfl
theorem AB {ks:List Tr} {j:Nat} (hj:j<ks.length):Tr.iT (ks.take (j+1))=Tr.iT (ks.take j)++ks[j].qP:=by
 rw[List.take_succ_eq_append_getElem hj,mY,qQ,Gz,List.append_nil]
mutual
theorem Tr.acB:∀ t:Tr,t.n=t.sz+1
 | .nd k l c n x ks=>by
   have:=Tr.Ja ks;simp only[Tr.n,Tr.qP,List.length_cons,Tr.sz];simp only[Tr.ns] at this;omega
theorem Tr.Ja:∀ ks:List Tr,Tr.ns ks=Tr.szs ks
 | []=>rfl
 | t::ks=>by
   rw[ay,Tr.acB t,Tr.Ja ks,Tr.szs]
end
theorem vI:∀ ks:List Tr,ks.length<=Tr.ns ks
 | []=>Nat.zero_le _
 | t::ks=>by
   have:=vI ks;rw[ay,Tr.acB t,List.length_cons];omega
structure LI (h:Hp) (s:bM) (acc:List Az) (nd0:Az) (ks:List Tr) (j:Nat) (s4:bM) (k1:Hp):Prop where
 own:eF k1 s4 (wz (acc++nd0::Tr.iT (ks.take j))) ND 6
 len:s4.n=acc.length+1+Tr.ns (ks.take j)
 kp:∀ c o,(∀ z,s.a=some z->z.1≠c)->h c=some o->k1 c=some o
 fr:∀ z,s4.a=some z->(∃ y,s.a=some y/\y.1=z.1)\/h z.1=none
def Zt (h:Hp) (s:bM) (acc:List Az) (nd0:Az) (ks:List Tr) (v:Nat) (ksl:bM):Nat->Ctx->Prop:=fun _ C=>
 ∃ a0 a1 a2 a3 a4 x0 l1 l2 s4 k1,∃ j:Nat,C=⟨[a0,a1,a2,a3,a4,(j:Nat)],[],[x0],[],[s,l1,l2,ksl,s4],[some (v,0)],k1,df⟩/\j<=ks.length/\LI h s acc nd0 ks j s4 k1
set_option maxHeartbeats 8000000 in
theorem Di:∀ N,adP N
 | 0=>by
   rintro args h φ w ⟨v,t,s,acc,rfl,ht,_⟩ hH;rw[t.acB] at ht;omega
 | N+1=>by
   have ih:=Di N;rintro args h φ w ⟨v,t,s,acc,rfl,ht,hI,hown,hsn,hmax,hφ⟩ hH;cases t with
   | nd k l c n x ks=>
   have hIall:=hI;obtain⟨ksl,vs,hv,hK,hIs⟩:=hI;have hnn:(Tr.nd k l c n x ks).n=Tr.ns ks+1:=by simp[Tr.n,Tr.ns,Tr.qP]
   have hkl:=hIs.len;have hge:=vI ks;have hksn:=hK.len;rw[hnn] at ht hmax hφ;obtain⟨nd0,hnd0⟩:∃ y:Az,y=⟨k,l,c,0,n,x⟩:=⟨_,rfl⟩;have hnc:nd0.cs=[.int .u8 k,.int .i64 l,.int .i64 c,.int .i64 0,.int .i64 n,.string (B x)]:=by rw[hnd0];rfl
   refine dh (bn Tryz.func47 ack ae7 [EY ih] (fun v k=>∃ k',dA k' k/\φ v k') (Zt h s acc nd0 ks v ksl) (fun _ C=>((ks.length:Int) - C.i.getD 5 0).toNat) ⟨[],[],[],[],[s],[some (v,0)],h,df⟩ ⟨rfl,rfl,rfl,rfl,rfl,rfl⟩ af ?_ w hH rfl);generalize hE:(⟨aG _,_,_,_⟩:Env)=E;have saw:E.spec 47=(EY ih).spec:=by rw[<- hE];rfl
   have ep:E.post=(fun v k=>∃ k',dA k' k/\φ v k'):=by rw[<- hE]
   have ei:E.inv=(Zt h s acc nd0 ks v ksl):=by rw[<- hE]
   have em:E.meas=(fun _ C=>((ks.length:Int) - C.i.getD 5 0).toNat):=by rw[<- hE]
   clear hE;unfold YE;have hsb:∀ z,s.a=some z->∃ cs,h z.1=some ⟨cs,ND⟩:=fun z hz=>hown.ty hz
   have hvs:∀ z,s.a=some z->z.1≠v:=fun z hz e=>by
    obtain⟨cs,h1⟩:=hsb z hz;rw[e,hv] at h1;exact aea (HO.mk.inj (Option.some.inj h1)).2.symm
   rw[aC];refine⟨by simp[go_sem],?_⟩;rw[ai];refine⟨by simp[go_sem],?_⟩;have hr0:hread h (some (v,0)) 6=some [.int .u8 k,.int .i64 l,.int .i64 c,.int .i64 0,.int .i64 n,.string (B x)]:=by rw[bz hv];rfl
   refine rL ⟨[k,l,c,0,n],[],[x],[],[],[]⟩ rfl af hr0 ?_;rw[ae,aK];intro nb hnb;have hnb':h nb=none:=hnb;rw[ae,cu];have hm:(2000001:Nat)<=maxLen:=by decide
   have hnsb:∀ z,s.a=some z->z.1≠nb:=fun z hz e=>by
    obtain⟨cs,h1⟩:=hsb z hz;rw[e,hnb'] at h1;cases h1
   have hx1:∀ (C:Ctx),C.l=[s,⟨some (nb,0),1,1⟩]->((LE.x 0).den C)=s/\((LE.x 1).den C)=⟨some (nb,0),1,1⟩:=fun C hC=>by simp[LE.den,hC]
   refine⟨wz acc,nd0.cs,lQ hown hnsb _,.inr ⟨by simp[go_sem],?_⟩,?_,?_,?_,?_⟩
   . simp[go_sem,hnc]
   . intro u hu;simp only[hnc,List.mem_cons,List.not_mem_nil,or_false] at hu;rcases hu with rfl | rfl | rfl | rfl | rfl | rfl<;>rfl
   . simp[go_sem];omega
   . simp[go_sem];omega
   intro s4 k1 g1 g2 g3 g4;have g2':s4.n=s.n+1:=g2;have kp1:∀ c o,(∀ z,s.a=some z->z.1≠c)->h c=some o->k1 c=some o:=fun c o hc ho=>g4 c o hc (by
    show (h.set nb _) c=some o;rw[aO _ (fun e=>by rw[e,hnb'] at ho;cases ho)];exact ho)
   have L0:LI h s acc nd0 ks 0 s4 k1:=by
    have g1':eF k1 s4 (wz acc++nd0.cs) ND 6:=g1;refine⟨by rw[List.take_zero,Gz,I7,Dy];show eF k1 s4 (wz acc++(nd0.cs++[])) ND 6;rw[List.append_nil];exact g1',by rw[List.take_zero,aQ,g2',hsn],kp1,fun z hz=>?_⟩;rcases g3 z hz with hh | hh
    . exact .inl hh
    . have hh':(h.set nb ⟨nd0.cs,ND⟩) z.1=none:=by rw[hnc];exact hh
      rw[aO _ (fun e=>by rw[e,aA] at hh';cases hh')] at hh';exact .inr hh'
   rw[aC];refine⟨by simp[go_sem],?_⟩;rw[ai];refine⟨by simp[go_sem],?_⟩;have hr6:hread k1 (some (v,6)) 1=some [ksl.val]:=Df (kp1 v _ hvs hv);refine rL ⟨[],[],[],[],[ksl],[]⟩ rfl af hr6 ?_;simp[go_sem];rw[ae];refine bI ?_ ?_
   . rw[ei];exact⟨_,_,_,_,_,_,_,_,s4,k1,0,rfl,Nat.zero_le _,L0⟩
   rw[ei,em];rintro i' bb ss v' ll pp hh0 M ⟨a0,a1,a2,a3,a4,x0,l1,l2,s4,k1,j,hC,hj,I⟩ hM;cases hC;have hM':M 0=((ks.length:Int) - j).toNat:=hM;clear hM L0 g1 g2 g3 g4 g2' kp1 hr6 hr0 hx1 hnb hnb' hnsb;have hIk:Its hh0 vs ks:=Its.keep (fun c o ho hc=>I.kp c o (fun z hz e=>by
    obtain⟨cs,h1⟩:=hsb z hz;rw[e,hc] at h1;cases h1;exact ho rfl) hc) _ _ hIs
   have hKk:Kids hh0 ksl vs:=hK.keep fun z cs hz hc=>I.kp _ _ (fun y hy e=>by
    obtain⟨cs',h1⟩:=hsb y hy;rw[e,hc] at h1;exact aeb (HO.mk.inj (Option.some.inj h1)).2.symm) hc
   by_cases hjl:j<ks.length
   . obtain⟨u,hu,hIu⟩:=hIk.get j hjl;obtain⟨hsome,hread1⟩:=hKk.read hu;have e1:=AB hjl;have hns:Tr.ns (ks.take (j+1))=Tr.ns (ks.take j)+ks[j].n:=by simp only[Tr.ns,Tr.n,e1,List.length_append]
     have hle2:Tr.ns (ks.take (j+1))<=Tr.ns ks:=by
      have:=iZ (ks.take (j+1)) (ks.drop (j+1));rw[List.take_append_drop] at this;omega
     rw[aj,if_pos (by simp[go_sem];omega)];rw[ai];refine⟨by simp[go_sem];exact⟨by omega,hsome⟩,?_⟩;refine rL ⟨[],[],[],[],[],[some (u,0)]⟩ rfl af (?_) ?_
     . simpa[go_sem,bT] using hread1
     rw[ag,saw];refine⟨u,ks[j],s4,acc++nd0::Tr.iT (ks.take j),by simp[go_sem,bT],by omega,hIu,I.own,by rw[I.len];simp[Tr.ns];omega,by simp[Tr.ns] at hns hle2 hmax ⊢;omega,fun s5 k2 q1 q2 q3 q4=>?_⟩;have q1':eF k2 s5 (wz (acc++nd0::Tr.iT (ks.take (j+1)))) ND 6:=by rw[e1];simpa using q1
     have I':LI h s acc nd0 ks (j+1) s5 k2:=by
      refine⟨q1',by rw[q2,hns];simp[Tr.ns];omega,fun c o hc ho=>q3 c o (fun z hz e=>?_) (I.kp c o hc ho),fun z hz=>?_⟩
      . rcases I.fr z hz with ⟨y,hy,e2⟩ | hn
        . exact hc y hy (e2.trans e)
        . rw[e,ho] at hn;cases hn
      . rcases q4 z hz with ⟨y,hy,e2⟩ | hn
        . rcases I.fr y hy with ⟨y',hy',e3⟩ | hn
          . exact .inl ⟨y',hy',e3.trans e2⟩
          . exact .inr (by rw[<- e2];exact hn)
        . by_cases hex:∃ y,s.a=some y/\y.1=z.1
          . exact .inl hex
          . cases hq:h z.1 with
            | none=>exact .inr rfl
            | some o=>have hn':hh0 z.1=none:=hn;rw[I.kp z.1 o (fun y hy e=>hex ⟨y,hy,e⟩) hq] at hn';cases hn'
     simp[go_sem];rw[ai];refine⟨by simp[go_sem];omega,?_⟩;rw[ae,says_again,ei,em];refine⟨⟨_,_,_,_,_,_,_,_,s5,k2,j+1,rfl,by omega,I'⟩,?_⟩;simp[go_sem];omega
   . obtain rfl:j=ks.length:=by omega
     have hown4:=I.own;rw[List.take_length] at hown4;have hlen4:=I.len;rw[List.take_length] at hlen4;have hcl:(wz (acc++nd0::Tr.iT ks)).length=(acc.length+1+Tr.ns ks)*6:=by rw[Ua];simp[Tr.ns];omega
     obtain⟨cb,o,p1,p2,p3,p4⟩:=hown4.agG (j:=acc.length*6+3) (by omega) (.int .i64 (Tr.ns ks:Nat)) (by decide);have hz:((s4.n:Int) - s.n - 1)=(Tr.ns ks:Nat):=by omega
     rw[aj,if_neg (by simp[go_sem];omega)];rw[ai];refine⟨by simp[go_sem];omega,?_⟩;rw[ai];refine⟨by simp[go_sem];omega,?_⟩;rw[ai];refine⟨by simp[go_sem,p1];omega,?_⟩;rw[ai];refine⟨by simp[go_sem,p1],?_⟩;rw[ae,aH];refine⟨_,by simp only[AE.den,CE.den,IE.den,LE.den,List.map_cons,List.map_nil,List.getD_cons_zero,List.getD_cons_succ];simp only[p1,Option.map_some,Nat.zero_add,hz];rw[hsn];exact p3,?_⟩;rw[ak,ep];refine⟨_,fun _ _ h=>h,?_⟩;refine hφ s4 _ ?_ (by omega) (fun c' o' hc ho'=>?_) I.fr
     . have e:(wz (acc++nd0::Tr.iT ks)).take (acc.length*6+3)++[Value.int .i64 (Tr.ns ks:Nat)]++(wz (acc++nd0::Tr.iT ks)).drop (acc.length*6+3+1)=wz (acc++(Tr.nd k l c n x ks).qP):=by
        have hal:=Ua acc;rw[Tr.qP,<- Tr.Ja,I7,Dy,I7,Dy];have t1:(wz acc++(nd0.cs++wz (Tr.iT ks))).take (acc.length*6+3)=wz acc++nd0.cs.take 3:=by
         rw[List.take_append,List.take_of_length_le (by omega),hal,show acc.length*6+3 - acc.length*6=3 by omega];rfl
        have t2:(wz acc++(nd0.cs++wz (Tr.iT ks))).drop (acc.length*6+3+1)=nd0.cs.drop 4++wz (Tr.iT ks):=by
         rw[List.drop_append,List.drop_of_length_le (by omega),hal,show acc.length*6+3+1 - acc.length*6=4 by omega];rfl
        rw[t1,t2];rw[hnc];simp[Az.cs]
       rw[<- e];exact p4
     . have hcc:c'≠cb:=fun e=>by
        rcases I.fr _ p1 with ⟨y,hy,e2⟩ | hn
        . exact hc y hy (e2.trans e.symm)
        . rw[<- e,ho'] at hn;cases hn
       show (hh0.set cb _) c'=some o';rw[aO _ hcc];exact I.kp c' o' hc ho'
end
section
attribute [local go_sem] bg bf aC aj au aI aU aH aK eu jB ik ax says_again cu
def FH:Fm:=(.ite (.and (.le (.c 65) (.x 0)) (.le (.x 0) (.c 70)))
 (.C 168 [.W [48,49,50,51,52,53,54,55,56,57,97,98,99,100,101,102],(.one (.i .u8 (.wr .u8 (.add (.x 0) (.c 32)))))] (.p (.J 1)) ⟨1,0,0,0,0,0⟩
 (.ret (.p (.J 1))))
 (.C 168 [.W [48,49,50,51,52,53,54,55,56,57,97,98,99,100,101,102],(.one (.U 0))] (.p (.J 1)) ⟨1,0,0,0,0,0⟩
 (.ret (.p (.J 1)))))
theorem PO:aZ ⟨true,[]⟩ Tryz.prog (fun l=>([]:List bK).getD l ⟨[],[],[]⟩) Tryz.f158=FH:=by kernel_rfl
theorem WG:az Tryz.prog .zero Tryz.f158.params.toList=some ([(.one (.U 0))],⟨1,0,0,0,0,0⟩):=by kernel_rfl
def Lt:Fm:=(.need (.not (.eqS (.x 0) (.c []))) (.and (.le (.c 0) (.c 0)) (.lt (.c 0) (.len (.x 0))))
 (.ite (.or (.eqS (.x 0) (.c [])) (.not (.eqI (.at (.x 0) (.c 0)) (.c 34))))
 (.ret (.tup [.W [],(.I (.c 0)),(.one (.b (.c false)))]))
 (.new [(.c .nilp),(.sl .nil)] 46
 (.loop 0 ⟨[(.c 0),(.c 1)],[(.c false)],[(.c [])],[],[],[]⟩
 (.need (.not (.eqI (.x 1) (.len (.x 0)))) (.and (.le (.c 0) (.x 1)) (.lt (.x 1) (.len (.x 0))))
 (.need (.not (.or (.eqI (.x 1) (.len (.x 0))) (.lt (.at (.x 0) (.x 1)) (.c 32)))) (.and (.le (.c 0) (.x 1)) (.lt (.x 1) (.len (.x 0))))
 (.ite (.or (.or (.eqI (.x 1) (.len (.x 0))) (.lt (.at (.x 0) (.x 1)) (.c 32))) (.lt (.c 126) (.at (.x 0) (.x 1))))
 (.ret (.tup [.W [],.J 1,(.one (.b (.c false)))]))
 (.N (.and (.le (.c 0) (.x 1)) (.lt (.x 1) (.len (.x 0))))
 (.ite (.eqI (.at (.x 0) (.x 1)) (.c 34))
 (.C 27 [.P 0] (.p (.S 2)) ⟨0,0,1,0,0,0⟩
 (.N (.R (.add (.x 1) (.c 1)))
 (.ret (.tup [.S 2,(.I (.add (.x 1) (.c 1))),(.one (.b (.c true)))]))))
 (.ite (.not (.eqI (.at (.x 0) (.x 1)) (.c 92)))
 (.C 93 [.P 0,(.one (.i .u8 (.at (.x 0) (.x 1))))] (.p (.one (.v 0))) ⟨0,0,0,1,0,0⟩
 (.N (.R (.add (.x 1) (.c 1)))
 (.again 0 ⟨0,0,1,0,0,1⟩ ⟨2,1,2,0,0,1⟩ ⟨[(.x 0),(.add (.x 1) (.c 1))],[(.x 0)],[(.x 1)],[],[],[]⟩)))
 (.N (.R (.add (.x 1) (.c 1)))
 (.ite (.eqI (.add (.x 1) (.c 1)) (.len (.x 0)))
 (.ret (.tup [.W [],(.I (.add (.x 1) (.c 1))),(.one (.b (.c false)))]))
 (.N (.and (.le (.c 0) (.add (.x 1) (.c 1))) (.lt (.add (.x 1) (.c 1)) (.len (.x 0))))
 (.ite (.eqI (.at (.x 0) (.add (.x 1) (.c 1))) (.c 34))
 (.ite (.eqI (.at (.x 0) (.add (.x 1) (.c 1))) (.c 34))
 (.N (.and (.le (.c 0) (.add (.x 1) (.c 1))) (.lt (.add (.x 1) (.c 1)) (.len (.x 0))))
 (.C 93 [.P 0,(.one (.i .u8 (.at (.x 0) (.add (.x 1) (.c 1)))))] (.p (.one (.v 0))) ⟨0,0,0,1,0,0⟩
 (.N (.R (.add (.add (.x 1) (.c 1)) (.c 1)))
 (.again 0 ⟨0,0,1,0,0,1⟩ ⟨2,1,2,0,0,1⟩ ⟨[(.x 0),(.add (.add (.x 1) (.c 1)) (.c 1))],[(.x 0)],[(.x 1)],[],[],[]⟩))))
 (.ite (.eqI (.at (.x 0) (.add (.x 1) (.c 1))) (.c 110))
 (.C 93 [.P 0,(.one (.i .u8 (.c 10)))] (.p (.one (.v 0))) ⟨0,0,0,1,0,0⟩
 (.N (.R (.add (.add (.x 1) (.c 1)) (.c 1)))
 (.again 0 ⟨0,0,1,0,0,1⟩ ⟨2,1,2,0,0,1⟩ ⟨[(.x 0),(.add (.add (.x 1) (.c 1)) (.c 1))],[(.x 0)],[(.x 1)],[],[],[]⟩)))
 (.ite (.eqI (.at (.x 0) (.add (.x 1) (.c 1))) (.c 116))
 (.C 93 [.P 0,(.one (.i .u8 (.c 9)))] (.p (.one (.v 0))) ⟨0,0,0,1,0,0⟩
 (.N (.R (.add (.add (.x 1) (.c 1)) (.c 1)))
 (.again 0 ⟨0,0,1,0,0,1⟩ ⟨2,1,2,0,0,1⟩ ⟨[(.x 0),(.add (.add (.x 1) (.c 1)) (.c 1))],[(.x 0)],[(.x 1)],[],[],[]⟩)))
 (.ite (.eqI (.at (.x 0) (.add (.x 1) (.c 1))) (.c 120))
 (.loop 1 ⟨[(.x 0),(.add (.x 1) (.c 1)),(.c 0),(.c 0)],[(.x 0)],[(.x 1)],[],[],[]⟩
 (.ite (.lt (.x 5) (.c 2))
 (.N (.R (.add (.x 3) (.c 1)))
 (.need (.not (.eqI (.add (.x 3) (.c 1)) (.len (.x 0)))) (.and (.le (.c 0) (.add (.x 3) (.c 1))) (.lt (.add (.x 3) (.c 1)) (.len (.x 0))))
 (.call (.not (.eqI (.add (.x 3) (.c 1)) (.len (.x 0)))) false 158 [(.one (.i .u8 (.at (.x 0) (.add (.x 3) (.c 1)))))] (.p (.J 6)) ⟨1,0,0,0,0,0⟩
 (.ite (.or (.eqI (.add (.x 3) (.c 1)) (.len (.x 0))) (.lt (.x 6) (.c 0)))
 (.ret (.tup [.W [],(.I (.add (.x 3) (.c 1))),(.one (.b (.c false)))]))
 (.N (.R (.mul (.c 16) (.x 4)))
 (.N (.and (.le (.c 0) (.add (.x 3) (.c 1))) (.lt (.add (.x 3) (.c 1)) (.len (.x 0))))
 (.C 158 [(.one (.i .u8 (.at (.x 0) (.add (.x 3) (.c 1)))))] (.p (.J 7)) ⟨1,0,0,0,0,0⟩
 (.N (.R (.add (.mul (.c 16) (.x 4)) (.x 7)))
 (.N (.R (.add (.x 5) (.c 1)))
 (.again 1 ⟨2,1,2,0,0,1⟩ ⟨6,2,3,0,0,1⟩ ⟨[(.x 2),(.add (.x 3) (.c 1)),(.add (.mul (.c 16) (.x 4)) (.x 7)),(.add (.x 5) (.c 1))],[(.x 1)],[(.x 2)],[],[],[]⟩))))))))))
 (.C 93 [.P 0,(.one (.i .u8 (.wr .u8 (.x 4))))] (.p (.one (.v 0))) ⟨0,0,0,1,0,0⟩
 (.N (.R (.add (.x 3) (.c 1)))
 (.again 0 ⟨0,0,1,0,0,1⟩ ⟨2,1,2,0,0,1⟩ ⟨[(.x 2),(.add (.x 3) (.c 1))],[(.x 1)],[(.x 2)],[],[],[]⟩)))))
 (.ret (.tup [.W [],(.I (.add (.x 1) (.c 1))),(.one (.b (.c false)))]))))))
 (.ite (.eqI (.at (.x 0) (.add (.x 1) (.c 1))) (.c 92))
 (.N (.and (.le (.c 0) (.add (.x 1) (.c 1))) (.lt (.add (.x 1) (.c 1)) (.len (.x 0))))
 (.C 93 [.P 0,(.one (.i .u8 (.at (.x 0) (.add (.x 1) (.c 1)))))] (.p (.one (.v 0))) ⟨0,0,0,1,0,0⟩
 (.N (.R (.add (.add (.x 1) (.c 1)) (.c 1)))
 (.again 0 ⟨0,0,1,0,0,1⟩ ⟨2,1,2,0,0,1⟩ ⟨[(.x 0),(.add (.add (.x 1) (.c 1)) (.c 1))],[(.x 0)],[(.x 1)],[],[],[]⟩))))
 (.ite (.eqI (.at (.x 0) (.add (.x 1) (.c 1))) (.c 110))
 (.C 93 [.P 0,(.one (.i .u8 (.c 10)))] (.p (.one (.v 0))) ⟨0,0,0,1,0,0⟩
 (.N (.R (.add (.add (.x 1) (.c 1)) (.c 1)))
 (.again 0 ⟨0,0,1,0,0,1⟩ ⟨2,1,2,0,0,1⟩ ⟨[(.x 0),(.add (.add (.x 1) (.c 1)) (.c 1))],[(.x 0)],[(.x 1)],[],[],[]⟩)))
 (.ite (.eqI (.at (.x 0) (.add (.x 1) (.c 1))) (.c 116))
 (.C 93 [.P 0,(.one (.i .u8 (.c 9)))] (.p (.one (.v 0))) ⟨0,0,0,1,0,0⟩
 (.N (.R (.add (.add (.x 1) (.c 1)) (.c 1)))
 (.again 0 ⟨0,0,1,0,0,1⟩ ⟨2,1,2,0,0,1⟩ ⟨[(.x 0),(.add (.add (.x 1) (.c 1)) (.c 1))],[(.x 0)],[(.x 1)],[],[],[]⟩)))
 (.ite (.eqI (.at (.x 0) (.add (.x 1) (.c 1))) (.c 120))
 (.loop 1 ⟨[(.x 0),(.add (.x 1) (.c 1)),(.c 0),(.c 0)],[(.x 0)],[(.x 1)],[],[],[]⟩
 (.ite (.lt (.x 5) (.c 2))
 (.N (.R (.add (.x 3) (.c 1)))
 (.need (.not (.eqI (.add (.x 3) (.c 1)) (.len (.x 0)))) (.and (.le (.c 0) (.add (.x 3) (.c 1))) (.lt (.add (.x 3) (.c 1)) (.len (.x 0))))
 (.call (.not (.eqI (.add (.x 3) (.c 1)) (.len (.x 0)))) false 158 [(.one (.i .u8 (.at (.x 0) (.add (.x 3) (.c 1)))))] (.p (.J 6)) ⟨1,0,0,0,0,0⟩
 (.ite (.or (.eqI (.add (.x 3) (.c 1)) (.len (.x 0))) (.lt (.x 6) (.c 0)))
 (.ret (.tup [.W [],(.I (.add (.x 3) (.c 1))),(.one (.b (.c false)))]))
 (.N (.R (.mul (.c 16) (.x 4)))
 (.N (.and (.le (.c 0) (.add (.x 3) (.c 1))) (.lt (.add (.x 3) (.c 1)) (.len (.x 0))))
 (.C 158 [(.one (.i .u8 (.at (.x 0) (.add (.x 3) (.c 1)))))] (.p (.J 7)) ⟨1,0,0,0,0,0⟩
 (.N (.R (.add (.mul (.c 16) (.x 4)) (.x 7)))
 (.N (.R (.add (.x 5) (.c 1)))
 (.again 1 ⟨2,1,2,0,0,1⟩ ⟨6,2,3,0,0,1⟩ ⟨[(.x 2),(.add (.x 3) (.c 1)),(.add (.mul (.c 16) (.x 4)) (.x 7)),(.add (.x 5) (.c 1))],[(.x 1)],[(.x 2)],[],[],[]⟩))))))))))
 (.C 93 [.P 0,(.one (.i .u8 (.wr .u8 (.x 4))))] (.p (.one (.v 0))) ⟨0,0,0,1,0,0⟩
 (.N (.R (.add (.x 3) (.c 1)))
 (.again 0 ⟨0,0,1,0,0,1⟩ ⟨2,1,2,0,0,1⟩ ⟨[(.x 2),(.add (.x 3) (.c 1))],[(.x 1)],[(.x 2)],[],[],[]⟩)))))
 (.ret (.tup [.W [],(.I (.add (.x 1) (.c 1))),(.one (.b (.c false)))]))))))))))))))))))))
theorem VO:aZ ⟨true,[5]⟩ Tryz.prog (fun l=>([⟨[2,3,4,6],[16,17,18,19,20,21,22,23,24,25,26,27,28,29,30,31,32,33,34,35,7,37,38,36,39,40,41,43,44,42,45,46,47,48,49,50,51,52,53,54,55,56,57,58,61,60,62,63,64,65,66,68,67,69,71,70,72,74,73,8,75,76,77,78,79,80,81,82,83,84,85,86,87,88,89,90,91,92,93,94,95,96,97,98,99,100,101,59,102,103],[]⟩,⟨[6,2,3,4,8,75],[76,77,78,79,80,81,82,83,84,85,86,87,88,89,90,91,92,93,94,95,96,97,98],[]⟩]:List bK).getD l ⟨[],[],[]⟩) Tryz.f143=Lt:=by kernel_rfl
theorem aai:az Tryz.prog .zero Tryz.f143.params.toList=some ([.S 0],⟨0,0,1,0,0,0⟩):=by kernel_rfl
def Ti:Fm:=(.C 143 [.S 0] (.tup [.S 1,.J 0,.B 0]) ⟨1,1,1,0,0,0⟩
 (.ret (.tup [.J 0,.B 0])))
theorem Y3:aZ ⟨true,[]⟩ Tryz.prog (fun l=>([]:List bK).getD l ⟨[],[],[]⟩) Tryz.f121=Ti:=by kernel_rfl
theorem ac0:az Tryz.prog .zero Tryz.f121.params.toList=some ([.S 0],⟨0,0,1,0,0,0⟩):=by kernel_rfl
def Tj:Fm:=(.C 143 [.S 0] (.tup [.S 1,.J 0,.B 0]) ⟨1,1,1,0,0,0⟩
 (.ite (.or (.not (.x 0)) (.not (.eqI (.x 0) (.len (.x 0)))))
 (.ret (.tup [.W [],(.I (.c 2))]))
 (.ret (.tup [.S 1,(.I (.c 0))]))))
theorem Y5:aZ ⟨true,[]⟩ Tryz.prog (fun l=>([]:List bK).getD l ⟨[],[],[]⟩) Tryz.f122=Tj:=by kernel_rfl
theorem ac2:az Tryz.prog .zero Tryz.f122.params.toList=some ([.S 0],⟨0,0,1,0,0,0⟩):=by kernel_rfl
def CB:Fm:=(.O (.pt 0 0) 1 [(.s (.x 1))] ⟨0,0,1,0,0,0⟩
 (.O (.pt 0 1) 1 [.J 4] ⟨1,0,0,0,0,0⟩
 (.Z 0
 (.Z 0
 (.Z 0
 (.Z 0
 (.N (.and (.le (.c 0) (.x 4)) (.le (.x 4) (.len (.x 1))))
 (.callK (.c true) [((.c true),(.pt 0 0),1),((.c true),(.pt 0 1),1)] 121 [(.one (.s (.sub (.x 1) (.x 4) (.len (.x 1)))))] (.tup [.J 5,.B 0]) ⟨1,1,0,0,0,0⟩
 (.ite (.not (.x 0))
 (.ret (.tup [(.agg [(.i .u8 (.c 0)),(.i .i64 (.c 0)),(.i .i64 (.c 0)),(.i .i64 (.c 0)),(.s (.c []))]),(.I (.c 4))]))
 (.O (.pt 0 0) 1 [(.s (.x 2))] ⟨0,0,1,0,0,0⟩
 (.O (.pt 0 1) 1 [.J 6] ⟨1,0,0,0,0,0⟩
 (.O (.pt 0 1) 1 [.J 7] ⟨1,0,0,0,0,0⟩
 (.Z 0
 (.Z 0
 (.Z 0
 (.Z 0
 (.Z 0
 (.Z 0
 (.N (.R (.add (.x 7) (.x 5)))
 (.N (.and (.and (.le (.c 0) (.add (.x 7) (.x 5))) (.le (.add (.x 7) (.x 5)) (.len (.x 2)))) (.and (.le (.c 0) (.x 6)) (.le (.x 6) (.add (.x 7) (.x 5)))))
 (.callK (.c true) [((.c true),(.pt 0 0),1),((.c true),(.pt 0 1),1),((.c true),(.pt 0 1),1)] 122 [(.one (.s (.sub (.x 2) (.x 6) (.add (.x 7) (.x 5)))))] (.tup [.S 3,.J 8]) ⟨1,0,1,0,0,0⟩
 (.V 114 [.P 0,.J 5]
 (.ret (.tup [(.agg [(.i .u8 (.c 5)),.J 1,.J 2,.J 3,(.s (.x 3))]),.J 8]))))))))))))))))))))))))
theorem MI:aZ ⟨true,[]⟩ Tryz.prog (fun l=>([]:List bK).getD l ⟨[],[],[]⟩) Tryz.f78=CB:=by kernel_rfl
theorem QP:az Tryz.prog .zero Tryz.f78.params.toList=some ([.P 0,.K 0 1 2 3 0],⟨4,0,1,0,0,1⟩):=by kernel_rfl
def HD:List UInt8:=[48,49,50,51,52,53,54,55,56,57,97,98,99,100,101,102]
def zI:Ct Tryz.prog where
 f:=168
 spec:=fun args h φ=>∃ s c,args=[.string (B s),.int .u8 c]/\φ (.int .i64 (Lib.indexByte s c.toNat.toUInt8)) h
 ok:=by
  rintro args h φ w ⟨s,c,rfl,hφ⟩ hH;exact AY (v:=.int .i64 (Lib.indexByte s c.toNat.toUInt8)) ((Tryz.strings_IndexByte (B s) c w).mono fun e w' ⟨he,hw⟩=>⟨he,hw.symm⟩) hφ hH
theorem Zh (c:Int) (h0:0<=c) (h1:c<=255):Lib.indexByte HD c.toNat.toUInt8=if 48<=c/\c<=57 then c - 48 else if 97<=c/\c<=102 then c - 87 else -1:=by
 have hall:∀ n:Fin 256,Lib.indexByte HD n.val.toUInt8=if 48<=(n.val:Int)/\(n.val:Int)<=57 then (n.val:Int) - 48 else if 97<=(n.val:Int)/\(n.val:Int)<=102 then (n.val:Int) - 87 else -1:=by decide +kernel
 have:=hall ⟨c.toNat,by omega⟩;simp only[Int.toNat_of_nonneg h0] at this;exact this
def wZ:Ct Tryz.prog where
 f:=158
 spec:=fun args h φ=>∃ c:Int,args=[.int .u8 c]/\0<=c/\c<=255/\φ (.int .i64 (hx c)) h
 ok:=by
  rintro args h φ w ⟨c,rfl,c0,c1,hφ⟩ hH;refine bn Tryz.func158 PO WG [zI] φ bP bu ⟨[c],[],[],[],[],[],h,df⟩ ⟨rfl,rfl,rfl,rfl,rfl,rfl⟩ af ?_ w hH rfl;generalize hE:(⟨aG _,_,_,_⟩:Env)=E;have s1:E.spec 168=zI.spec:=by rw[<- hE];rfl
  have ep:E.post=φ:=by rw[<- hE]
  clear hE;unfold FH;rw[aj];by_cases hc:65<=c/\c<=70
  . rw[if_pos (by simp[go_sem,hc.1,hc.2]),ae,au,if_pos (by rfl),s1];have hw:IntKind.u8.wrap (c+32)=c+32:=by rw[IntKind.wrap_u8];omega
    refine⟨HD,c+32,by simp[go_sem,hw,HD],?_⟩;rw[Zh _ (by omega) (by omega),if_neg (by omega),if_pos (by omega)];have e:hx c=c+32 - 87:=by
     unfold hx;rw[if_neg (by omega),if_neg (by omega),if_pos hc];omega
    rw[<- e];simp[go_sem];simp only[ae];simp[go_sem,ep,hφ]
  . rw[if_neg (by simp[go_sem];omega),ae,au,if_pos (by rfl),s1];refine⟨HD,c,by simp[go_sem,HD],?_⟩;have e:hx c=if 48<=c/\c<=57 then c - 48 else if 97<=c/\c<=102 then c - 87 else -1:=by
     unfold hx;rw[if_neg hc]
    rw[Zh _ c0 c1,<- e];simp[go_sem];simp only[ae];simp[go_sem,ep,hφ]
structure QI (h:Hp) (s:List UInt8) (b:Nat) (i:Nat) (used:Bool) (sl:bM) (acc:List UInt8) (hh:Hp):Prop where
 bld:XD hh b used sl acc
 kept:dA h hh
 nb:h b=none
 fresh:∀ z,sl.a=some z->h z.1=none
 lo:1<=i
 le:i<=s.length
 cnt:acc.length<=i
 all:∃ m,s.length<m+i/\rdA s.length s 1 []=rdA m s i acc
def agb (h:Hp) (s:List UInt8):Nat->Ctx->Prop
 | 0,C=>∃ x0 i y t b used sl acc hh,C=⟨[x0,(i:Nat)],[y],[s,t],[],[],[some (b,0)],hh,df⟩/\QI h s b i used sl acc hh
 | _+1,C=>∃ x0 i x2 j n k y y' t t' b used sl acc hh,C=⟨[x0,(i:Nat),x2,(j:Nat),n,(k:Nat)],[y,y'],[s,t,t'],[],[],[some (b,0)],hh,df⟩∧QI h s b i used sl acc hh∧
   i+1<s.length/\bt s i=92/\bt s (i+1)=120/\j=i+1+k/\((k=0/\n=0)\/(k=1/\i+2<s.length/\n=hx (bt s (i+2))/\0<=n)\/(k=2/\i+3<s.length/\n=16*hx (bt s (i+2))+hx (bt s (i+3))/\0<=hx (bt s (i+2))/\0<=hx (bt s (i+3))))
def GY (s:List UInt8):Nat->Ctx->Nat
 | 0,C=>((s.length:Int) - C.i.getD 1 0).toNat
 | _+1,C=>(2 - C.i.getD 5 0).toNat
theorem lL {E:Env} {o:Nat} {g:nY} {k:Fm} {C:Ctx} (h1:E.inv o (C.push (g.den C)).bare)
 (h2:∀ (x:Inc) h M,x.cnt=g.cnt->E.inv o ((C.push x).heap h).bare->M o=E.meas o ((C.push x).heap h).bare->(∀ j,j≠o->M j=C.m j)->k.says E ⟨C.i++x.i,C.b++x.b,C.s++x.s,C.v++x.v,C.l++x.l,C.p++x.p,h,M⟩):(Fm.loop o g k).says E C:=by
 refine⟨h1,(BH _ _).2 fun x hx _ h hi=>?_⟩;exact h2 x h (fun j=>if j=o then E.meas o ((C.push x).heap h).bare else C.m j) hx hi (by simp) (fun j hj=>by simp[hj])
theorem zF (s:List UInt8) (i:Nat):0<=bt s i/\bt s i<=255:=by
 unfold bt;have:=(s.getD i 0).toNat_lt;omega
theorem QI.next {h:Hp} {s:List UInt8} {b i i':Nat} {used:Bool} {sl:bM} {acc:List UInt8} {hh:Hp} (Q:QI h s b i used sl acc hh) {x:UInt8} {sl':bM} {k:Hp} (h1:XD k b true sl' (acc++[x])) (h2:∀ c o,c≠b->(∀ z,sl.a=some z->z.1≠c)->hh c=some o->k c=some o)
 (h3:∀ z,sl'.a=some z->(∃ y,sl.a=some y/\y.1=z.1)\/hh z.1=none) (hi:i<i') (hl:i'<=s.length) (hs:∀ m,rdA (m+1) s i acc=rdA m s i' (acc++[x])):QI h s b i' true sl' (acc++[x]) k:=by
 refine⟨h1,fun c o hc=>h2 c o (fun e=>by rw[e,Q.nb] at hc;cases hc) (fun z hz e=>by have:=Q.fresh z hz;rw[e,hc] at this;cases this) (Q.kept c o hc),Q.nb,fun z hz=>?_,by have:=Q.lo;omega,hl,by have:=Q.cnt;simp;omega,?_⟩
 . rcases h3 z hz with ⟨y,hy,e⟩ | hn
   . rw[<- e];exact Q.fresh y hy
   . cases hq:h z.1 with
     | none=>rfl
     | some o=>rw[Q.kept _ _ hq] at hn;cases hn
 . obtain⟨m,hm,he⟩:=Q.all;have hle:=Q.le;obtain⟨m',rfl⟩:∃ m',m=m'+1:=⟨m - 1,by omega⟩;exact⟨m',by omega,by rw[he,hs]⟩
theorem QI.stop {h:Hp} {s:List UInt8} {b i:Nat} {used:Bool} {sl:bM} {acc:List UInt8} {hh:Hp} (Q:QI h s b i used sl acc hh) {r:Option (List UInt8×Nat)} (hs:∀ m,rdA (m+1) s i acc=r):rdA s.length s 1 []=r:=by
 obtain⟨m,hm,he⟩:=Q.all;have hle:=Q.le;obtain⟨m',rfl⟩:∃ m',m=m'+1:=⟨m - 1,by omega⟩;rw[he,hs]
theorem MQ (b:Int):hx b<=15:=by
 unfold hx;split
 . omega
 . split
   . omega
   . split<;>omega
theorem GH {v:Value} (h:v.oneCell'=true):gQ [v]:=fun u hu=>by simp at hu;subst hu;exact h
set_option maxRecDepth 100000 in
set_option maxHeartbeats 8000000 in
def Il:Ct Tryz.prog where
 f:=143
 spec:=fun args h φ=>∃ s,args=[.string (B s)]/\s.length<=100000/\
  (match Bg s with
   | some (t,e)=>φ (.tuple #[.string (B t),.int .i64 (e:Nat),.bool true]) h
   | none=>∀ t n,φ (.tuple #[.string (B t),.int .i64 n,.bool false]) h)
 ok:=by
  rintro args h φ w ⟨s,rfl,hlen,hφ⟩ hH;refine dh (bn Tryz.func143 VO aai [xh,lU,wZ] (fun v k=>∃ k',dA k' k/\φ v k') (agb h s) (GY s) ⟨[],[],[s],[],[],[],h,df⟩ ⟨rfl,rfl,rfl,rfl,rfl,rfl⟩ af ?_ w hH rfl);generalize hE:(⟨aG _,_,_,_⟩:Env)=E;have s1:E.spec 27=xh.spec:=by rw[<- hE];rfl
  have s2:E.spec 93=lU.spec:=by rw[<- hE];rfl
  have s3:E.spec 158=wZ.spec:=by rw[<- hE];rfl
  have ep:E.post=fun v k=>∃ k',dA k' k/\φ v k':=by rw[<- hE]
  have ei:E.inv=agb h s:=by rw[<- hE]
  have em:E.meas=GY s:=by rw[<- hE]
  clear hE;unfold Bg at hφ;have no:∀ {hh},dA h hh->rdA s.length s 1 []=none->∀ t n,∃ k',dA k' hh/\φ (.tuple #[.string (B t),.int .i64 n,.bool false]) k':=fun hle hr t n=>by
   refine⟨h,hle,?_⟩;rw[hr] at hφ;split at hφ
   . rename_i heq;split at heq<;>cases heq
   . exact hφ t n
  rw[<- ae];unfold Lt;by_cases hs0:s=[]
  . subst hs0;rw[if_pos (.inl rfl)] at hφ
    iterate 3 (try simp only[ae];try simp[go_sem,ep])
    exact⟨h,fun _ _ h=>h,hφ _ _⟩
  have hpos:0<s.length:=List.length_pos_iff.2 hs0;by_cases h34:bt s 0=34
  . rw[if_neg (by omega)] at hφ;have wr:∀ {hh used sl acc i b} (Q:QI h s b i used sl acc hh) (x:Int),0<=x->x<=255->∀ {i'},i<i'->i'<=s.length->(∀ m,rdA (m+1) s i acc=rdA m s i' (acc++[ub x]))->∀ ψ:Value->Hp->Prop,
     (∀ sl' k',QI h s b i' true sl' (acc++[ub x]) k'->ψ .nilIface k')->lU.spec [.pointer (some ⟨b,0,none⟩),.int .u8 x] hh ψ:=by
     intro hh used sl acc i b Q x x0 x1 i' h1 h2 h3 ψ h4;have:=Q.cnt;have:=Q.le;exact⟨b,used,sl,acc,x,rfl,Q.bld,x0,x1,by omega,fun sl' k hB hf hr=>h4 sl' k (Q.next hB hf hr h1 h2 h3)⟩
    iterate 2 (simp only[ae];simp[go_sem,hs0,h34])
    simp only[ae,eu];refine⟨hpos,fun b hb=>?_⟩;refine bI ?_ ?_
    . rw[ei];refine⟨0,1,false,[],b,false,⟨none,0,0⟩,[],h.set b ⟨bld b false ⟨none,0,0⟩,BT⟩,rfl,⟨⟨aA _ _ _,.inl ⟨rfl,rfl⟩,rfl,fun _ hz=>(by cases hz),fun _=>rfl,fun hz=>absurd rfl hz⟩,fE hb _,hb,fun _ hz=>(by cases hz),Nat.le_refl _,hpos,Nat.zero_le _,s.length,by omega,rfl⟩⟩
    . rw[ei,em];rintro i' bb ss v ll pp hh0 M ⟨x0,i,y,t,b',used,sl,acc,hh,hC,Q⟩ hM;cases hC;have hM':M 0=((s.length:Int) - i).toNat:=hM;clear hM hb;have hile:=Q.le;have hibd:=zF s i;rw[<- ae];by_cases hil:i=s.length
      . have hz:(i:Int)=s.length:=by omega
        iterate 5 (try simp only[ae];try simp[go_sem,ep,hz])
        exact no Q.kept (Q.stop fun m=>by rw[rdA,if_pos (.inl (by omega))]) _ _
      have hlt:i<s.length:=by omega
      have hz:¬ (i:Int)=s.length:=by omega
      have hz2:(i:Int)<s.length:=by omega
      by_cases hpr:bt s i<32\/126<bt s i
      . iterate 4 (try simp only[ae];try simp[go_sem,ep,hz,hz2,hpr])
        exact no Q.kept (Q.stop fun m=>by rw[rdA,if_pos (.inr hpr)]) _ _
      have p1:¬ bt s i<32:=by omega
      have p2:¬ 126<bt s i:=by omega
      by_cases q34:bt s i=34
      . iterate 6 (try simp only[ae];try simp[go_sem,hz,hz2,q34])
        have hr:rdA s.length s 1 []=some (acc,i+1):=Q.stop fun m=>by rw[rdA,if_neg (by omega),if_pos q34]
        rw[hr] at hφ;rw[s1];refine⟨b',used,sl,acc,rfl,Q.bld,?_⟩;refine⟨acc,rfl,?_⟩;have hd:dA h (hh0.drop sl):=fun c o hc=>by
         have h1:=Q.kept c o hc;unfold Hp.drop;cases hsa:sl.a with
         | none=>exact h1
         | some z=>
           simp only[Hp.del];rw[if_neg (fun e=>by have:=Q.fresh z hsa;rw[<- e,hc] at this;cases this)];exact h1
        iterate 3 (try simp only[ae];try simp[go_sem,ep])
        refine⟨by omega,by omega,h,hd,?_⟩;simpa using hφ
      by_cases q92:bt s i=92
      . have e1:((i:Int)+1).toNat=i+1:=by omega
        have hibd1:=zF s (i+1);by_cases hi1:i+1=s.length
        . have hz1:(i:Int)+1=s.length:=by omega
          iterate 12 (try simp only[ae];try simp[go_sem,ep,hz,hz2,q92,hz1])
          exact⟨by omega,no Q.kept (Q.stop fun m=>by rw[rdA,if_neg (by omega),if_neg q34,if_neg (fun h=>h q92),if_pos (by omega)]) _ _⟩
        have hz1:¬ (i:Int)+1=s.length:=by omega
        have hz3:(i:Int)+1<s.length:=by omega
        have fin2:∀ {sl' k' acc'},QI h s b' (i+2) true sl' acc' k'->E.inv 0 ⟨[x0,↑i+1+1],[y],[s,t],[],[],[some (b',0)],k',df⟩/\E.meas 0 ⟨[x0,↑i+1+1],[y],[s,t],[],[],[some (b',0)],k',df⟩<M 0:=by
         intro sl' k' acc' Q';rw[ei,em];refine⟨⟨x0,i+2,y,t,b',true,sl',acc',k',by rw[show ((i+2:Nat):Int)=(i:Int)+1+1 by omega],Q'⟩,?_⟩;simp only[GY,List.getD_cons_succ,List.getD_cons_zero];omega
        by_cases c34:bt s (i+1)=34
        . iterate 18 (try simp only[ae];try simp[go_sem,hz,hz1,hz3,hz2,q92,e1,c34])
          refine⟨by omega,by omega,by omega,?_⟩;rw[s2];exact wr Q 34 (by omega) (by omega) (i':=i+2) (by omega) (by omega) (fun m=>by rw[rdA,if_neg (by omega),if_neg q34,if_neg (fun h=>h q92),if_neg (by omega),if_pos (.inl c34),c34]) _ (fun sl' k' Q'=>⟨.nilIface,GH rfl,rfl,by omega,by omega,fin2 Q'⟩)
        by_cases c92:bt s (i+1)=92
        . iterate 18 (try simp only[ae];try simp[go_sem,hz,hz1,hz3,hz2,q92,e1,c92])
          refine⟨by omega,by omega,by omega,?_⟩;rw[s2];exact wr Q 92 (by omega) (by omega) (i':=i+2) (by omega) (by omega) (fun m=>by rw[rdA,if_neg (by omega),if_neg q34,if_neg (fun h=>h q92),if_neg (by omega),if_pos (.inr c92),c92]) _ (fun sl' k' Q'=>⟨.nilIface,GH rfl,rfl,by omega,by omega,fin2 Q'⟩)
        by_cases c110:bt s (i+1)=110
        . iterate 18 (try simp only[ae];try simp[go_sem,hz,hz1,hz3,hz2,q92,e1,c110])
          refine⟨by omega,by omega,by omega,?_⟩;rw[s2];exact wr Q 10 (by omega) (by omega) (i':=i+2) (by omega) (by omega) (fun m=>by rw[rdA,if_neg (by omega),if_neg q34,if_neg (fun h=>h q92),if_neg (by omega),if_neg (by omega),if_pos c110];rfl) _ (fun sl' k' Q'=>⟨.nilIface,GH rfl,rfl,by omega,by omega,fin2 Q'⟩)
        by_cases c116:bt s (i+1)=116
        . iterate 18 (try simp only[ae];try simp[go_sem,hz,hz1,hz3,hz2,q92,e1,c116])
          refine⟨by omega,by omega,by omega,?_⟩;rw[s2];exact wr Q 9 (by omega) (by omega) (i':=i+2) (by omega) (by omega) (fun m=>by rw[rdA,if_neg (by omega),if_neg q34,if_neg (fun h=>h q92),if_neg (by omega),if_neg (by omega),if_neg c110,if_pos c116];rfl) _ (fun sl' k' Q'=>⟨.nilIface,GH rfl,rfl,by omega,by omega,fin2 Q'⟩)
        by_cases c120:bt s (i+1)=120
        . iterate 18 (try simp only[ae];try simp[go_sem,hz,hz1,hz3,hz2,q92,e1,c120])
          refine⟨by omega,by omega,by omega,?_⟩;refine lL ?_ ?_
          . rw[ei];exact⟨x0,i,x0,i+1,0,0,y,y,t,t,b',used,sl,acc,hh0,by simp[go_sem,Ctx.bare,nY.den],Q,by omega,q92,c120,rfl,.inl ⟨rfl,rfl⟩⟩
          . rintro⟨xi,xb,xs,xv,xl,xp⟩ h' M' hc hinv hm hM1;rw[ei] at hinv;rw[em] at hm;obtain⟨x0',i2,x2,j,n,k,y1,y2,t1,t2,b2,used2,sl2,acc2,hh2,hC,Q2,a1,a2,a3,a4,a5⟩:=hinv;simp[Ctx.push,Ctx.heap,Ctx.bare] at hC;obtain⟨⟨rfl,hii,rfl⟩,⟨rfl,rfl⟩,⟨rfl,rfl⟩,rfl,rfl,⟨rfl,rfl⟩,rfl⟩:=hC;obtain rfl:i2=i:=by omega
            have hm':M' 1=((2:Int) - k).toNat:=hm;have hM0:M' 0=M 0:=hM1 0 (by decide);clear hm hM1 hc;have hno:¬ (i2+3<s.length/\0<=hx (bt s (i2+2))/\0<=hx (bt s (i2+3)))->rdA s.length s 1 []=none:=fun hn=>Q2.stop fun m=>by
             rw[rdA,if_neg (by omega),if_neg q34,if_neg (fun h=>h q92),if_neg (by omega),if_neg (by omega),if_neg (by omega),if_neg (by omega),if_pos c120,if_neg hn]
            have e2:((j:Int)+1).toNat=j+1:=by omega
            have hjd:=zF s (j+1);have hx15:=MQ (bt s (i2+2));have hx16:=MQ (bt s (i2+3));have hx17:=MQ (bt s (j+1));rw[<- ae];by_cases hk:k<2
            . have hkz:(k:Int)<2:=by omega
              have hjj:j+1=i2+2\/j+1=i2+3:=by omega
              by_cases hjl:j+1=s.length
              . have hjz:(j:Int)+1=s.length:=by omega
                iterate 12 (try simp only[ae];try simp[go_sem,ep,hkz,hjz])
                exact⟨by omega,no Q2.kept (hno (by omega)) _ _⟩
              have hjz:¬ (j:Int)+1=s.length:=by omega
              have hjz3:(j:Int)+1<s.length:=by omega
              by_cases hneg:hx (bt s (j+1))<0
              . iterate 12 (try simp only[ae];try simp[go_sem,ep,s3,wZ,hkz,hjz,hjz3,e2,hjd.1,hjd.2,hneg])
                exact⟨by omega,by omega,by omega,no Q2.kept (hno (by
                 rintro⟨_,g1,g2⟩;rcases hjj with e | e<;>rw[e] at hneg<;>omega)) _ _⟩
              . iterate 12 (try simp only[ae];try simp[go_sem,s3,wZ,hkz,hjz,hjz3,e2,hjd.1,hjd.2,hneg])
                refine⟨by omega,by omega,by omega,by omega,by omega,by omega,by omega,by omega,by omega,by omega,?_,?_⟩
                . rw[ei];refine⟨x0,i2,x2,j+1,16*n+hx (bt s (j+1)),k+1,y,y2,t,t2,b',used2,sl2,acc2,h',by simp,Q2,a1,q92,c120,by omega,?_⟩;rcases a5 with ⟨g1,g2⟩ | ⟨g1,g2,g3,g4⟩ | ⟨g1,_⟩
                  . have e:j+1=i2+2:=by omega
                    rw[e] at hneg⊢;exact .inr (.inl ⟨by omega,by omega,by omega,by omega⟩)
                  . have e:j+1=i2+3:=by omega
                    rw[e] at hneg⊢;exact .inr (.inr ⟨by omega,by omega,by rw[g3],by omega,by omega⟩)
                  . omega
                . rw[em];simp only[GY,List.getD_cons_succ,List.getD_cons_zero];omega
            . have hkz:¬ (k:Int)<2:=by omega
              have hw:IntKind.u8.wrap n=n:=by rw[IntKind.wrap_u8];omega
              iterate 12 (try simp only[ae];try simp[go_sem,hkz,hw])
              obtain⟨g1,g2,g3,g4,g5⟩:k=2/\i2+3<s.length/\n=16*hx (bt s (i2+2))+hx (bt s (i2+3))/\0<=hx (bt s (i2+2))/\0<=hx (bt s (i2+3)):=by
               rcases a5 with ⟨g1,_⟩ | ⟨g1,_⟩ | g
               . omega
               . omega
               . exact g
              rw[s2];refine wr Q2 n (by omega) (by omega) (i':=i2+4) (by omega) (by omega) (fun m=>by
               rw[rdA,if_neg (by omega),if_neg q34,if_neg (fun h=>h q92),if_neg (by omega),if_neg (by omega),if_neg (by omega),if_neg (by omega),if_pos c120,if_pos ⟨g2,g4,g5⟩,g3]) _ (fun sl' k' Q'=>⟨.nilIface,GH rfl,rfl,by omega,by omega,?_,?_⟩)
              . rw[ei];exact⟨x2,i2+4,y2,t2,b',true,sl',_,k',by rw[show ((i2+4:Nat):Int)=(j:Int)+1 by omega],Q'⟩
              . rw[em];simp only[GY,List.getD_cons_succ,List.getD_cons_zero];omega
        . have co:bt s (i+1)≠34/\bt s (i+1)≠92:=⟨c34,c92⟩
          iterate 18 (try simp only[ae];try simp[go_sem,ep,hz,hz1,hz3,hz2,q92,e1,c34,c92,c110,c116,c120])
          refine⟨by omega,by omega,by omega,?_⟩;exact no Q.kept (Q.stop fun m=>by rw[rdA,if_neg (by omega),if_neg q34,if_neg (fun h=>h q92),if_neg (by omega),if_neg (by omega),if_neg c110,if_neg c116,if_neg c120]) _ _
      . iterate 7 (try simp only[ae];try simp[go_sem,hz,hz2,p1,p2,q34,q92])
        rw[s2];refine wr Q (bt s i) hibd.1 hibd.2 (Nat.lt_succ_self i) (by omega) (fun m=>by rw[rdA,if_neg (by omega),if_neg q34,if_pos q92]) _ (fun sl' k' Q'=>?_);refine⟨.nilIface,fun u hu=>by simp at hu;subst hu;rfl,rfl,?_⟩
        iterate 2 (try simp only[ae];try simp[go_sem,ei,em])
        refine⟨by omega,by omega,⟨x0,i+1,y,t,b',true,sl',_,k',by simp,Q'⟩,?_⟩;simp only[GY,List.getD_cons_succ,List.getD_cons_zero];omega
  . rw[if_pos (.inr h34)] at hφ
    iterate 3 (try simp only[ae];try simp[go_sem,ep,hs0,h34])
    refine⟨by omega,h,fun _ _ h=>h,hφ _ _⟩
theorem agv:UF 34=false:=by decide
theorem afS:OG 34=false:=by decide
theorem afN:kY 34=false:=by decide
set_option maxRecDepth 100000 in
set_option maxHeartbeats 8000000 in
theorem Xt (cl:Ct Tryz.prog) (hcl:cl.f=78) (good:List UInt8->Prop)
 (hl:∀ (b:Nat) (k l c n:Int) (x s:List UInt8) (a:Nat) (L Co:Int) (T:Rw) (h:Hp) (φ:Value->Hp->Prop),good s->h b=some ⟨rc s a L Co,T⟩->a<s.length->bt s a=34->s.length<=100000->0<=Co->Co<=500000->
  (match Bg (s.drop a) with
   | some (t,m)=>φ (.tuple #[fM 5 l c n t,.int .i64 0]) (Hp.set h b ⟨rc s (a+m:Nat) L (Co+m),T⟩)
   | none=>φ (.tuple #[fM 0 0 0 0 [],.int .i64 4]) h)->cl.spec [.pointer (some ⟨b,0,none⟩),fM k l c n x] h φ)
 (s:List UInt8) (hg:good s) (h:Hp) (φ:Value->Hp->Prop) (w:World)
 (hφ:if 65536<s.length then φ (.tuple #[.slice none 0 0,.agg #[.int .i64 3,.int .i64 0,.int .i64 0]]) h
  else if (bZ s).1.1=0 then ∀ sl k,dA h k->eF k sl (rX (bZ s).2) TK 5->sl.n=(bZ s).2.length->φ (.tuple #[sl.val,.agg #[.int .i64 0,.int .i64 0,.int .i64 0]]) k
  else φ (.tuple #[.slice none 0 0,.agg #[.int .i64 (bZ s).1.1,.int .i64 (bZ s).1.2.1,.int .i64 (bZ s).1.2.2]]) h) (hH:Holds h w):
 Calls Tryz.prog 43 #[.string (B s)] w fun e w'=>∃ v k,e=.returned v/\φ v k/\Holds k w'/\Fr w.heap.size h k w w':=by
 refine dh (bn Tryz.func43 Qa WQ [Ip,kM,iW,Ij,jD,wY,cl,Pg] (fun v k=>∃ k',dA k' k/\φ v k') (abm h s) (fun _ C=>(s.length - Ib C.h (adg C)).toNat) ⟨[],[],[s],[],[],[],h,df⟩ ⟨rfl,rfl,rfl,rfl,rfl,rfl⟩ af ?_ w hH rfl);generalize hE:(⟨aG _,_,_,_⟩:Env)=E;have s1:E.spec 72=Ip.spec:=by rw[<- hE];rfl
 have s2:E.spec 73=kM.spec:=by rw[<- hE];rfl
 have s3:E.spec 74=iW.spec:=by rw[<- hE];rfl
 have s4:E.spec 75=Ij.spec:=by rw[<- hE];rfl
 have s5:E.spec 76=jD.spec:=by rw[<- hE];rfl
 have s6:E.spec 77=wY.spec:=by rw[<- hE];rfl
 have s7:E.spec 78=cl.spec:=by
  rw[<- hE];funext a h φ;simp[aG,rQ,kC,hcl,Ip,kM,iW,Ij,jD,wY]
 have s8:E.spec 79=Pg.spec:=by
  rw[<- hE];funext a h φ;simp[aG,rQ,kC,hcl,Ip,kM,iW,Ij,jD,wY,Pg]
 have ep:E.post=fun v k=>∃ k',dA k' k/\φ v k':=by rw[<- hE]
 have ei:E.inv=abm h s:=by rw[<- hE]
 have em:E.meas=fun _ C=>(s.length - Ib C.h (adg C)).toNat:=by rw[<- hE]
 clear hE;rw[<- ae];unfold FW;simp only[ae,aj];by_cases hlen:65536<s.length
 . rw[if_pos hlen] at hφ;have h2:(65536:Int)<s.length:=by omega
   simp[go_sem,h2,ep];exact⟨_,(fun _ _ h=>h),hφ⟩
 . rw[if_neg hlen] at hφ;have h2:¬ (65536:Int)<s.length:=by omega
   simp[go_sem,h2]
   try simp only[ae]
   try simp only[eu]
   intro rb hrb
   try simp only[ae]
   refine bI ?_ ?_
   . rw[ei];refine⟨0,0,0,⟨none,0,0⟩,⟨none,0,0⟩,rb,0,s.length+1,[],h,rfl,⟨by omega,by omega,Nat.le_refl _,rfl,.inl ⟨rfl,rfl⟩,rfl,(fun z hz=>by cases hz),(fun _ _ h=>h),hrb⟩⟩
   . rw[ei,em];rintro i' bb ss v ll pp hh0 M ⟨x0,x1,x2,l0,sl,rb',i,m,acc,hh,hC,I⟩ hM;cases hC;simp only[adg,List.getD_cons_zero,Option.getD_some,wR] at hM;have hile:=I.le;have hifu:=I.fuel;obtain⟨j,hj⟩:∃ j,j=i+jU false s i:=⟨_,rfl⟩;have hjl:j<=s.length:=hj▸Q9 false I.le;have hij:i<=j:=by omega
     have hpj:mZ (pl s i) (sub s i j)=pl s j:=DW hij hjl;have bi:=aed I.le;have bj:=aed hjl;rw[au,if_pos (by rfl),s1];refine⟨rb',s,i,pl s i,⟨RD,by decide⟩,rfl,aA _ _ _,I.le,by omega,by omega,by omega,by omega,by omega,?_⟩;rw[<- hj,hpj];simp[go_sem];generalize hLc:pl s j=q at *;obtain⟨L,Co⟩:=q;simp only at bj⊢
     iterate 9 (simp only[ae];simp[go_sem,rc])
     obtain⟨m',rfl⟩:∃ m',m=m'+1:=⟨m - 1,by omega⟩;have hall:=I.all;rw[EN,<- hj,hpj] at hall;by_cases hje:j=s.length
     . have hz:(j:Int)=s.length:=by omega
       rw[if_pos (by omega)] at hall;rw[hall,if_pos rfl] at hφ;simp only[ae,aj];simp[go_sem,hz];intro b hb;rw[ae];refine abn (cs:=(Tok.mk 8 L Co 0 []).cs) I (by omega) (b:=b) hb rfl (Tok.ones _) rfl rfl rfl ?_;intro s' k' h1 h2 h3 h4;obtain⟨e1,e2,e3⟩:=UN I hb h3 h4;rw[ax,ep];exact⟨k',fun _ _ h=>h,hφ s' k' e2 (by rw[UK,UL];exact h1) (by rw[h2,I.n];simp)⟩
     . have hz:¬ (j:Int)=s.length:=by omega
       have hjlt:j<s.length:=by omega
       have hjz:(j:Int)<s.length:=by omega
       rw[if_neg (by omega)] at hall;have hbad:(one s j).f≠0->∃ k',dA k' (hh.set rb' ⟨[.string (B s),.int .i64 j,.int .i64 L,.int .i64 Co],RD⟩)/\φ (.tuple #[.slice none 0 0,.agg #[.int .i64 (one s j).f,.int .i64 L,.int .i64 Co]]) k':=by
        intro hf;rw[if_neg hf] at hall;rw[hall,if_neg hf] at hφ;refine⟨h,fun c o hc=>?_,hφ⟩;rw[aO _ (fun e=>by rw[e,I.nrb] at hc;cases hc)];exact I.kept c o hc
       have hpt:(one s j).f=0->pl s (one s j).e=(L,Co+((one s j).e:Int) - j):=fun hf=>by rw[ae5 hjlt hf,hLc]
       have hH1:∀ v,(hh.set rb' ⟨[.string (B s),.int .i64 j,.int .i64 L,.int .i64 Co],v⟩) rb'=some ⟨rc s j L Co,v⟩:=fun v=>by rw[aA];rfl
       have e1:UF (bt s j)=decide (jh (bt s j)=1):=rfl;have e2:OG (bt s j)=decide (jh (bt s j)=2):=rfl;have e3:kY (bt s j)=decide (jh (bt s j)=3):=rfl;have hk5:UF (bt s j)=true\/(UF (bt s j)=false/\OG (bt s j)=true)\/(UF (bt s j)=false/\OG (bt s j)=false/\kY (bt s j)=true)\/(UF (bt s j)=false/\OG (bt s j)=false/\kY (bt s j)=false/\bt s j=34)\/(UF (bt s j)=false/\OG (bt s j)=false/\kY (bt s j)=false/\bt s j≠34):=by
        cases UF (bt s j)<;>cases OG (bt s j)<;>cases kY (bt s j)<;>simp<;>omega
       simp only[ae,aj];simp[go_sem,hz];rcases hk5 with h1 | ⟨h1,h1'⟩ | ⟨h1,h1',h1''⟩ | ⟨h1,h1',h1'',h34⟩ | ⟨h1,h1',h1'',h34⟩
       . iterate 7 (try simp only[ae];try simp[go_sem,s2,kM,hjz,h1])
         have hin:inB (bt s j)=true:=by
          rw[inB,decide_eq_true_eq];simp only[e1,decide_eq_true_eq] at h1;omega
         have hone:one s j=⟨0,kS (bt s j) (sub s j (j+rn inB s j)),sub s j (j+rn inB s j),0,j+rn inB s j⟩:=by
          unfold one;rw[if_pos (by simp only[e1,decide_eq_true_eq] at h1;omega)]
         have hf:(one s j).f=0:=by rw[hone]
         rw[s4];refine⟨rb',0,L,Co,0,[],s,j,L,Co,⟨RD,by decide⟩,rfl,hH1 RD,by omega,hjz,by omega,by omega,by omega,by rw[Int.toNat_natCast];exact hin,?_⟩;rw[Int.toNat_natCast];refine⟨_,_,_,_,_,rfl,?_⟩;rw[ah,if_pos (by rfl),ae,dZ];exact yu I (by omega) ei em hj hjlt hf (by rw[hone];simp) (by rw[hpt hf]) (by rw[hpt hf,hone];simp;omega) hM (by rw[hone,hLc];rfl)
       . iterate 7 (try simp only[ae];try simp[go_sem,s2,s3,kM,iW,hjz,h1,h1'])
         have hin:inB (bt s j)=true:=by
          rw[inB,decide_eq_true_eq];simp only[e1,e2,decide_eq_true_eq] at h1 h1';omega
         have hone:one s j=⟨0,kS (bt s j) (sub s j (j+rn inB s j)),sub s j (j+rn inB s j),0,j+rn inB s j⟩:=by
          unfold one;rw[if_pos (by simp only[e1,e2,decide_eq_true_eq] at h1 h1';omega)]
         have hf:(one s j).f=0:=by rw[hone]
         rw[s4];refine⟨rb',0,L,Co,0,[],s,j,L,Co,⟨RD,by decide⟩,rfl,hH1 RD,by omega,hjz,by omega,by omega,by omega,by rw[Int.toNat_natCast];exact hin,?_⟩;rw[Int.toNat_natCast];refine⟨_,_,_,_,_,rfl,?_⟩;rw[ah,if_pos (by rfl),ae,dZ];exact yu I (by omega) ei em hj hjlt hf (by rw[hone];simp) (by rw[hpt hf]) (by rw[hpt hf,hone];simp;omega) hM (by rw[hone,hLc];rfl)
       . iterate 9 (try simp only[ae];try simp[go_sem,s2,s3,s5,kM,iW,jD,hjz,h1,h1',h1''])
         have hk:¬ (jh (bt s j)=1\/jh (bt s j)=2):=by
          simp only[e1,e2,decide_eq_false_iff_not] at h1 h1';omega
         have hone:one s j=⟨(nm s j).1,(nm s j).2.1,[],(nm s j).2.2.1,(nm s j).2.2.2⟩:=by
          unfold one;rw[if_neg hk,if_pos (by simpa[e3] using h1'')]
         rw[s6];refine⟨rb',0,L,Co,0,[],s,j,L,Co,⟨RD,by decide⟩,rfl,hH1 RD,by omega,hjz,by omega,by omega,by omega,by rw[Int.toNat_natCast];exact h1'',?_⟩;rw[Int.toNat_natCast];by_cases hn:(nm s j).1=0
         . rw[if_pos hn];have hf:(one s j).f=0:=by rw[hone];exact hn
           refine⟨_,_,_,_,_,_,rfl,?_⟩;rw[ah,if_pos (by rfl),ae,dZ];exact yu I (by omega) ei em hj hjlt hf (by rw[hone]) (by rw[hpt hf]) (by rw[hpt hf,hone]) hM (by rw[hone,hLc];rfl)
         . rw[if_neg hn];refine⟨_,_,_,_,_,_,rfl,?_⟩;rw[ah,if_neg (by simp[go_sem];exact hn)]
           iterate 9 (try simp only[ae];try simp[go_sem,ep])
           have hb:=hbad (by rw[hone];exact hn);rw[hone] at hb;simpa[bM.val] using hb
       . iterate 10 (try simp only[ae];try simp[go_sem,s2,s3,s5,kM,iW,jD,hjz,h34,agv,afS,afN])
         have hk:¬ (jh (bt s j)=1\/jh (bt s j)=2):=by
          simp only[e1,e2,decide_eq_false_iff_not] at h1 h1';omega
         have hk3:¬ jh (bt s j)=3:=by simpa[e3] using h1''
         rw[s7];refine hl rb' 0 L Co 0 [] s j L Co ⟨RD,by decide⟩ _ _ hg (hH1 RD) hjlt h34 (by omega) (by omega) (by omega) ?_;cases hq:Bg (s.drop j) with
         | some r=>
           obtain⟨x,m1⟩:=r;have hone:one s j=⟨0,5,x,0,j+m1⟩:=by
            unfold one;rw[if_neg hk,if_neg hk3,if_pos h34,hq]
           have hf:(one s j).f=0:=by rw[hone]
           refine⟨_,_,_,_,_,_,rfl,?_⟩;rw[ah,if_pos (by rfl),ae,dZ];exact yu I (by omega) ei em hj hjlt hf (by rw[hone]) (by rw[hpt hf]) (by rw[hpt hf,hone];simp;omega) hM (by rw[hone,hLc];rfl)
         | none=>
           have hone:one s j=⟨4,0,[],0,0⟩:=by
            unfold one;rw[if_neg hk,if_neg hk3,if_pos h34,hq]
           refine⟨_,_,_,_,_,_,rfl,?_⟩;rw[ah,if_neg (by simp[go_sem])]
           iterate 9 (try simp only[ae];try simp[go_sem,ep])
           have hb:=hbad (by rw[hone];simp);rw[hone] at hb;simpa[bM.val] using hb
       . iterate 10 (try simp only[ae];try simp[go_sem,s2,s3,s5,kM,iW,jD,hjz,h1,h1',h1'',h34])
         have hk:¬ (jh (bt s j)=1\/jh (bt s j)=2):=by
          simp only[e1,e2,decide_eq_false_iff_not] at h1 h1';omega
         have hk3:¬ jh (bt s j)=3:=by simpa[e3] using h1''
         rw[s8];refine⟨rb',0,L,Co,0,[],s,j,L,Co,⟨RD,by decide⟩,rfl,hH1 RD,by omega,by omega,by omega,by omega,by omega,?_⟩;rw[Int.toNat_natCast];by_cases hn:sg (s.drop j)=[]
         . rw[if_pos hn];have hone:one s j=⟨4,0,[],0,0⟩:=by
            unfold one;rw[if_neg hk,if_neg hk3,if_neg h34,if_pos hn]
           refine⟨_,_,_,_,_,_,rfl,?_⟩;rw[ah,if_neg (by simp[go_sem])]
           iterate 9 (try simp only[ae];try simp[go_sem,ep])
           have hb:=hbad (by rw[hone];simp);rw[hone] at hb;simpa[bM.val] using hb
         . rw[if_neg hn];have hone:one s j=⟨0,7,sg (s.drop j),0,j+(sg (s.drop j)).length⟩:=by
            unfold one;rw[if_neg hk,if_neg hk3,if_neg h34,if_neg hn]
           have hf:(one s j).f=0:=by rw[hone]
           refine⟨_,_,_,_,_,_,rfl,?_⟩;rw[ah,if_pos (by rfl),ae,dZ];exact yu I (by omega) ei em hj hjlt hf (by rw[hone];simp) (by rw[hpt hf]) (by rw[hpt hf,hone];simp;omega) hM (by rw[hone,hLc];rfl)
def adU:Ct Tryz.prog where
 f:=121
 spec:=fun args h φ=>∃ s,args=[.string (B s)]/\s.length<=100000/\
  (match Bg s with
   | some (_,e)=>φ (.tuple #[.int .i64 (e:Nat),.bool true]) h
   | none=>∀ n,φ (.tuple #[.int .i64 n,.bool false]) h)
 ok:=by
  rintro args h φ w ⟨s,rfl,hlen,hφ⟩ hH;refine bn Tryz.func121 Y3 ac0 [Il] φ bP bu ⟨[],[],[s],[],[],[],h,df⟩ ⟨rfl,rfl,rfl,rfl,rfl,rfl⟩ af ?_ w hH rfl;generalize hE:(⟨aG _,_,_,_⟩:Env)=E;have s1:E.spec 143=Il.spec:=by rw[<- hE];rfl
  have ep:E.post=φ:=by rw[<- hE]
  clear hE;unfold Ti;rw[au,if_pos (by rfl),s1];refine⟨s,rfl,hlen,?_⟩;cases hq:Bg s with
  | some r=>
    obtain⟨t,e⟩:=r;rw[hq] at hφ;simp[go_sem];simp only[ae];simp[go_sem,ep];exact hφ
  | none=>
    rw[hq] at hφ;simp[go_sem];intro t n;simp only[ae];simp[go_sem,ep];exact hφ n
def Fa:Ct Tryz.prog where
 f:=122
 spec:=fun args h φ=>∃ s,args=[.string (B s)]/\s.length<=100000/\∃ t,Bg s=some (t,s.length)/\φ (.tuple #[.string (B t),.int .i64 0]) h
 ok:=by
  rintro args h φ w ⟨s,rfl,hlen,t,hq,hφ⟩ hH;refine bn Tryz.func122 Y5 ac2 [Il] φ bP bu ⟨[],[],[s],[],[],[],h,df⟩ ⟨rfl,rfl,rfl,rfl,rfl,rfl⟩ af ?_ w hH rfl;generalize hE:(⟨aG _,_,_,_⟩:Env)=E;have s1:E.spec 143=Il.spec:=by rw[<- hE];rfl
  have ep:E.post=φ:=by rw[<- hE]
  clear hE;unfold Tj;rw[au,if_pos (by rfl),s1];refine⟨s,rfl,hlen,?_⟩;rw[hq];simp[go_sem]
  iterate 2 (try simp only[ae];try simp[go_sem,ep])
  exact hφ
set_option maxHeartbeats 2000000 in
def Vd:Ct Tryz.prog where
 f:=78
 spec:=fun args h φ=>∃ b k l c n x s a L Co,∃ T:Rw,args=[.pointer (some ⟨b,0,none⟩),fM k l c n x]/\h b=some ⟨rc s (a:Nat) L Co,T⟩/\a<s.length/\s.length<=100000/\0<=Co/\Co<=500000/\
  (match Bg (s.drop a) with
   | some (t,m)=>φ (.tuple #[fM 5 l c n t,.int .i64 0]) (Hp.set h b ⟨rc s (a+m:Nat) L (Co+m),T⟩)
   | none=>φ (.tuple #[fM 0 0 0 0 [],.int .i64 4]) h)
 ok:=by
  rintro args h φ w ⟨b,k,l,c,n,x,s,a,L,Co,T,rfl,hb,ha,hlen,c0,c1,hφ⟩ hH;obtain⟨h,rfl⟩:∃ h',h=Hp.set h' b ⟨rc s a L Co,T⟩:=⟨h,set_self hb⟩;simp only[dZ] at hφ;refine bn Tryz.func78 MI QP [adU,Fa,jy] φ bP bu ⟨[k,l,c,n],[],[x],[],[],[some (b,0)],h.set b ⟨rc s a L Co,T⟩,df⟩ ⟨rfl,rfl,rfl,rfl,rfl,rfl⟩ af ?_ w hH rfl;generalize hE:(⟨aG _,_,_,_⟩:Env)=E;have s1:E.spec 121=adU.spec:=by rw[<- hE];rfl
  have s2:E.spec 122=Fa.spec:=by rw[<- hE];rfl
  have s3:E.spec 114=jy.spec:=by rw[<- hE];rfl
  have ep:E.post=φ:=by rw[<- hE]
  clear hE;have haz:(a:Int)<=s.length:=by omega
  have htl:List.take s.length s=s:=List.take_length;have hdl:(s.drop a).length=s.length - a:=List.length_drop;rw[<- ae];unfold CB
  iterate 9 (try simp only[ae];try simp[go_sem,rc,haz,htl])
  rw[s1];refine⟨s.drop a,rfl,by omega,?_⟩;cases hq:Bg (s.drop a) with
  | none=>
    rw[hq] at hφ;refine fun n=>⟨by simp[jf],by simp[jf],n,.inl ⟨rfl,?_⟩⟩
    simp only[ae];simp[go_sem,ep];exact hφ
  | some r=>
    obtain⟨t,m⟩:=r;rw[hq] at hφ;obtain⟨m1,m2,_⟩:=xW hq;rw[hdl] at m2;refine⟨by simp[jf],by simp[jf],m,.inr ⟨rfl,?_⟩⟩;have e1:((a:Int)+m).toNat=a+m:=by omega
    have hdt:List.drop a (List.take (a+m) s)=(s.drop a).take m:=by
     rw[List.drop_take];congr 1;omega
    iterate 12 (try simp only[ae];try simp[go_sem,e1])
    refine⟨by omega,by omega,by omega,by omega,by omega,?_⟩;rw[s2,hdt];have hl2:((s.drop a).take m).length=m:=by rw[List.length_take,hdl];omega
    refine⟨(s.drop a).take m,rfl,by omega,t,by rw[hl2];exact aaL hq,?_⟩;refine⟨by simp[jf],by simp[jf],0,t,rfl,?_⟩;rw[ag,s3];refine⟨b,s,a,L,Co,T,m,rfl,aA _ _ _,by omega,by omega,by omega,by omega,by omega,by omega,?_⟩;rw[dZ];simp[go_sem];simp only[ae];simp[go_sem,ep];simpa[rc,fM] using hφ
def xk:Ct Tryz.prog where
 f:=43
 spec:=fun args h φ=>∃ s,args=[.string (B s)]/\
  (if 65536<s.length then φ (.tuple #[.slice none 0 0,.agg #[.int .i64 3,.int .i64 0,.int .i64 0]]) h
   else if (bZ s).1.1=0 then ∀ sl k,dA h k->eF k sl (rX (bZ s).2) TK 5->sl.n=(bZ s).2.length->φ (.tuple #[sl.val,.agg #[.int .i64 0,.int .i64 0,.int .i64 0]]) k
   else φ (.tuple #[.slice none 0 0,.agg #[.int .i64 (bZ s).1.1,.int .i64 (bZ s).1.2.1,.int .i64 (bZ s).1.2.2]]) h)
 ok:=by
  rintro args h φ w ⟨s,rfl,hφ⟩ hH;refine Xt Vd rfl (fun _=>True) ?_ s trivial h φ w hφ hH;intro b k l c n x s a L Co T h φ _ hb ha _ h1 h2 h3 h4;exact⟨b,k,l,c,n,x,s,a,L,Co,T,rfl,hb,ha,h1,h2,h3,h4⟩
end
section
attribute [local go_sem] bg bf aC aj au aI aU aH ax says_again
def Ll:Fm:=(.C 43 [.S 0] (.tup [.L 0,(.agg [.J 0,.J 1,.J 2])]) ⟨3,0,0,0,1,0⟩
 (.ite (.not (.eqI (.x 0) (.c 0)))
 (.ret (.tup [(.one (.sl .nil)),(.agg [.J 0,.J 1,.J 2])]))
 (.new [(.sl (.x 0)),(.i .i64 (.c 0)),(.i .i64 (.c 0)),(.i .i64 (.c 0)),(.i .i64 (.c 0)),(.i .i64 (.c 0))] 70
 (.C 22 [.P 0] (.p (.P 1)) ⟨0,0,0,0,0,1⟩
 (.C 44 [.P 0] (.p (.K 3 4 5 6 1)) ⟨4,0,1,0,0,0⟩
 (.ite (.not (.eqI (.x 3) (.c 8)))
 (.V 45 [.P 0,(.I (.c 5))]
 (.C 46 [.P 0] (.p (.B 0)) ⟨0,1,0,0,0,0⟩
 (.ite (.x 0)
 (.O (.pt 0 3) 3 [.J 7,.J 8,.J 9] ⟨3,0,0,0,0,0⟩
 (.Z 0
 (.Z 0
 (.ret (.tup [(.one (.sl .nil)),(.agg [.J 7,.J 8,.J 9])])))))
 (.C 47 [.P 1,(.one (.sl .nil))] (.p (.L 1)) ⟨0,0,0,0,1,0⟩
 (.ret (.tup [.L 1,(.agg [(.i .i64 (.c 0)),(.i .i64 (.c 0)),(.i .i64 (.c 0))])]))))))
 (.C 46 [.P 0] (.p (.B 0)) ⟨0,1,0,0,0,0⟩
 (.ite (.x 0)
 (.O (.pt 0 3) 3 [.J 7,.J 8,.J 9] ⟨3,0,0,0,0,0⟩
 (.Z 0
 (.Z 0
 (.ret (.tup [(.one (.sl .nil)),(.agg [.J 7,.J 8,.J 9])])))))
 (.C 47 [.P 1,(.one (.sl .nil))] (.p (.L 1)) ⟨0,0,0,0,1,0⟩
 (.ret (.tup [.L 1,(.agg [(.i .i64 (.c 0)),(.i .i64 (.c 0)),(.i .i64 (.c 0))])])))))))))))
theorem VJ:lq ⟨true,[21]⟩ Tryz.prog (fun l=>([]:List bK).getD l ⟨[],[],[]⟩) Tryz.f21 [.S 0,.one (.c (.fn 22))] ⟨0,0,1,0,0,0⟩=Ll:=by kernel_rfl
def Lm:Fm:=(.C 43 [.S 0] (.tup [.L 0,(.agg [.J 0,.J 1,.J 2])]) ⟨3,0,0,0,1,0⟩
 (.ite (.not (.eqI (.x 0) (.c 0)))
 (.ret (.tup [(.one (.sl .nil)),(.agg [.J 0,.J 1,.J 2])]))
 (.new [(.sl (.x 0)),(.i .i64 (.c 0)),(.i .i64 (.c 0)),(.i .i64 (.c 0)),(.i .i64 (.c 0)),(.i .i64 (.c 0))] 70
 (.C 42 [.P 0] (.p (.P 1)) ⟨0,0,0,0,0,1⟩
 (.C 44 [.P 0] (.p (.K 3 4 5 6 1)) ⟨4,0,1,0,0,0⟩
 (.ite (.not (.eqI (.x 3) (.c 8)))
 (.V 45 [.P 0,(.I (.c 5))]
 (.C 46 [.P 0] (.p (.B 0)) ⟨0,1,0,0,0,0⟩
 (.ite (.x 0)
 (.O (.pt 0 3) 3 [.J 7,.J 8,.J 9] ⟨3,0,0,0,0,0⟩
 (.Z 0
 (.Z 0
 (.ret (.tup [(.one (.sl .nil)),(.agg [.J 7,.J 8,.J 9])])))))
 (.C 47 [.P 1,(.one (.sl .nil))] (.p (.L 1)) ⟨0,0,0,0,1,0⟩
 (.ret (.tup [.L 1,(.agg [(.i .i64 (.c 0)),(.i .i64 (.c 0)),(.i .i64 (.c 0))])]))))))
 (.C 46 [.P 0] (.p (.B 0)) ⟨0,1,0,0,0,0⟩
 (.ite (.x 0)
 (.O (.pt 0 3) 3 [.J 7,.J 8,.J 9] ⟨3,0,0,0,0,0⟩
 (.Z 0
 (.Z 0
 (.ret (.tup [(.one (.sl .nil)),(.agg [.J 7,.J 8,.J 9])])))))
 (.C 47 [.P 1,(.one (.sl .nil))] (.p (.L 1)) ⟨0,0,0,0,1,0⟩
 (.ret (.tup [.L 1,(.agg [(.i .i64 (.c 0)),(.i .i64 (.c 0)),(.i .i64 (.c 0))])])))))))))))
theorem VK:lq ⟨true,[21]⟩ Tryz.prog (fun l=>([]:List bK).getD l ⟨[],[],[]⟩) Tryz.f21 [.S 0,.one (.c (.fn 42))] ⟨0,0,1,0,0,0⟩=Lm:=by kernel_rfl
def KW:Fm:=(.C 21 [.S 0,(.one (.c (.fn 22)))] (.tup [.L 0,(.agg [.J 0,.J 1,.J 2])]) ⟨3,0,0,0,1,0⟩
 (.ret (.tup [.L 0,(.agg [.J 0,.J 1,.J 2])])))
theorem Vw:aZ ⟨true,[]⟩ Tryz.prog (fun l=>([]:List bK).getD l ⟨[],[],[]⟩) Tryz.f8=KW:=by kernel_rfl
theorem ZX:az Tryz.prog .zero Tryz.f8.params.toList=some ([.S 0],⟨0,0,1,0,0,0⟩):=by kernel_rfl
def Fz:Fm:=(.C 21 [.S 0,(.one (.c (.fn 42)))] (.tup [.L 0,(.agg [.J 0,.J 1,.J 2])]) ⟨3,0,0,0,1,0⟩
 (.ret (.tup [.L 0,(.agg [.J 0,.J 1,.J 2])])))
theorem PG:aZ ⟨true,[]⟩ Tryz.prog (fun l=>([]:List bK).getD l ⟨[],[],[]⟩) Tryz.f19=Fz:=by kernel_rfl
theorem WB:az Tryz.prog .zero Tryz.f19.params.toList=some ([.S 0],⟨0,0,1,0,0,0⟩):=by kernel_rfl
def Iz (f:Int×Int×Int):Value:=.agg #[.int .i64 f.1,.int .i64 f.2.1,.int .i64 f.2.2]
def o9 (prog:Bool) (s:List UInt8) (h:Hp) (φ:Value->Hp->Prop):Prop:=
 if 65536<s.length then φ (.tuple #[.slice none 0 0,Iz (3,0,0)]) h
 else ∀ f t,jA prog s=some (f,t)->(if f.1=0 then ∀ sl k,dA h k->eF k sl (wz t.qP) ND 6->sl.n=t.n->φ (.tuple #[sl.val,Iz (0,0,0)]) k else φ (.tuple #[.slice none 0 0,Iz f]) h)
theorem Ul {h:Hp} {s:bM} {L:List Tok} (ho:eF h s (rX L) TK 5) (hn:s.n=L.length) (hL:0<L.length):Tks h s L:=by
 rcases ho with ⟨h1,h2⟩ | ⟨b,o,h1,h2,h3,h4,h5,h6,h7⟩
 . have:=congrArg List.length h2;rw[Bo] at this;simp at this;omega
 . obtain⟨cs,ty⟩:=o;simp only at h3 h4 h7;subst h3;refine⟨b,s.c,cs.drop (s.n*5),?_,?_⟩
   . cases s;simp only at h1 hn ⊢;rw[h1,hn]
   . rw[h2];congr 2;rw[h7];exact (List.take_append_drop _ _).symm
set_option maxHeartbeats 4000000 in
def Yh:Ct Tryz.prog where
 f:=21
 spec:=fun args h φ=>∃ s,args=[.string (B s),.func (.func 22) #[] #[]]/\o9 false s h φ
 ok:=by
  rintro args h φ w ⟨s,rfl,hφ⟩ hH;refine dh (qI Tryz.func21 VJ [xk,gI,iF,iq,EY (Di 1000000),kL (pM (iG (bZ s).2))] (fun v k=>∃ k',dA k' k/\φ v k') bP bu ⟨[],[],[s],[],[],[],h,df⟩ ⟨rfl,rfl,rfl,rfl,rfl,rfl⟩ af ?_ w hH rfl);generalize hE:(⟨aG _,_,_,_⟩:Env)=E;have sax:E.spec 43=xk.spec:=by rw[<- hE];rfl
  have sa6:E.spec 44=gI.spec:=by rw[<- hE];rfl
  have sab:E.spec 45=iF.spec:=by rw[<- hE];rfl
  have sa7:E.spec 46=iq.spec:=by rw[<- hE];rfl
  have saw:E.spec 47=(EY (Di 1000000)).spec:=by rw[<- hE];rfl
  have say:E.spec 22=(kL (pM (iG (bZ s).2))).spec:=by rw[<- hE];rfl
  have ep:E.post=fun v k=>∃ k',dA k' k/\φ v k':=by rw[<- hE]
  clear hE;unfold Ll;unfold o9 at hφ;rw[au,if_pos (by rfl),sax];refine⟨s,rfl,?_⟩;by_cases h6:65536<s.length
  . rw[if_pos h6] at hφ⊢;simp[go_sem];rw[ah,if_pos (by simp[go_sem])];simp only[ae];simp[go_sem,ep];exact⟨h,fun _ _ h=>h,hφ⟩
  rw[if_neg h6] at hφ⊢;obtain⟨⟨f,t⟩,hft⟩:=wG false s;have hφ:=hφ f t hft;by_cases hl:(bZ s).1.1=0;rotate_left
  . rw[if_neg hl];have e:=hft;unfold jA at e;rw[if_pos hl] at e;cases e;rw[if_neg hl] at hφ;simp[go_sem];rw[ah,if_pos (by simp[go_sem];exact hl)];simp only[ae];simp[go_sem,ep];exact⟨h,fun _ _ h=>h,hφ⟩
  rw[if_pos hl];intro sl k hk hown hsn;have T:=yx hl;generalize hLe:(bZ s).2=L at *;have htk:=Ul hown hsn T.lw.pos;simp[go_sem];rw[ah,if_neg (by simp[go_sem])];rw[ae,eu];intro b hb;have hb':k b=none:=hb;simp[go_sem];have hlen:=T.len;have W:PW (k.set b ⟨mP sl p0,PT⟩) b sl L p0:=⟨aA _ _ _,htk.keep fun c o _ hc=>by rw[aO _ (fun e=>by rw[e,hb'] at hc;cases hc)];exact hc,T.lw,by omega,T.lw.pos,by decide,by decide⟩;have hft':(Jk L (iG L) p0).map (fun r=>((yP L r.2).f,r.1))=some (f,t):=by
   have e:=hft;unfold jA at e;rw[if_neg (by rw[hl];decide),hLe] at e;exact e
  simp only[Option.map_eq_some_iff] at hft';obtain⟨⟨t',q⟩,h1,h2⟩:=hft';cases h2;dsimp only at hφ;have Ad:gZ L p0 q 0:=by
   exact (mG T.lw _).1 _ _ _ _ h1
  rw[ag,say];refine⟨iG L,Nat.le_refl _,b,sl,L,p0,t',q,rfl,W,h1,by unfold iG;simp[p0];omega,fun v k2 g A hI=>?_⟩;simp[go_sem,bT];refine⟨some (v,0),rfl,?_⟩;have keep:∀ k3,XE b (k.set b ⟨mP sl p0,PT⟩) k3->dA h k3:=fun k3 h3 c o hc=>by
   have hcb:c≠b:=fun e=>by have:=hk c o hc;rw[e,hb'] at this;cases this
   exact h3 c o hcb (by rw[aO _ hcb];exact hk c o hc)
  rw[ag,sa6];refine⟨b,sl,L,q,rfl,A.pw,?_⟩;simp[go_sem,dH,fM];have fin:∀ (q':PS) (k3:Hp) (is':List Int) (ss':List (List UInt8)) (A3:At (k.set b ⟨mP sl p0,PT⟩) b sl L q' k3 g),q'=yP L q -> 
   Then E (.C 46 [.P 0] (.p (.B 0)) ⟨0,1,0,0,0,0⟩
 (.ite (.x 0)
 (.O (.pt 0 3) 3 [.J 7,.J 8,.J 9] ⟨3,0,0,0,0,0⟩
 (.Z 0
 (.Z 0
 (.ret (.tup [(.one (.sl .nil)),(.agg [.J 7,.J 8,.J 9])])))))
 (.C 47 [.P 1,(.one (.sl .nil))] (.p (.L 1)) ⟨0,0,0,0,1,0⟩
 (.ret (.tup [.L 1,(.agg [(.i .i64 (.c 0)),(.i .i64 (.c 0)),(.i .i64 (.c 0))])]))))) ⟨[0,0,0,(tk L q).k,(tk L q).l,(tk L q).c,(tk L q).n],[],[s,(tk L q).x],[],[sl],[some (b,0),some (v,0)],k3,df⟩:=by
   intro q' k3 is' ss' A3 hq';rw[<- hq'] at hφ hft;rw[ag,sa7];refine⟨b,sl,L,q',rfl,A3.pw,?_⟩;simp[go_sem];cases c0:q'.bad with
   | true=>
     have hf:¬ q'.f.1=0:=fun e=>by unfold PS.bad at c0;rw[e] at c0;cases c0
     rw[if_neg hf] at hφ;rw[ah,if_pos (by simp[go_sem])];have hr3:hread k3 (some (b,3)) 3=some [.int .i64 q'.f.1,.int .i64 q'.f.2.1,.int .i64 q'.f.2.2]:=by rw[bz A3.pw.blk];rfl
     refine rL ⟨[q'.f.1,q'.f.2.1,q'.f.2.2],[],[],[],[],[]⟩ rfl af hr3 ?_;rw[ai];refine⟨by simp[go_sem],?_⟩;rw[ai];refine⟨by simp[go_sem],?_⟩;simp only[ae];simp[go_sem,ep];exact⟨h,keep k3 A3.kp,hφ⟩
   | false=>
     have hf:q'.f.1=0:=by unfold PS.bad at c0;simpa using c0
     rw[if_pos hf] at hφ;rw[ah,if_neg (by simp[go_sem])];obtain⟨_,htn,_⟩:=GM hft hf;dsimp only at htn;rw[ag,saw];refine⟨v,t',⟨none,0,0⟩,[],rfl,by omega,It.le A3.le _ _ hI,.inl ⟨rfl,rfl⟩,rfl,by simp;omega,fun s' k4 r1 r2 r3 r4=>?_⟩;simp[go_sem];simp only[ae];simp[go_sem,ep];refine⟨k4,fun _ _ h=>h,hφ s' k4 (fun c o hc=>r3 c o (fun _ hz=>(by cases hz)) (keep k3 A3.kp c o hc)) (by simpa using r1) (by simpa using r2)⟩
  by_cases c8:(tk L q).k=8
  . rw[ah,if_neg (by simp[go_sem,c8])];exact fin q k2 [] [] A (by unfold yP;rw[if_pos c8])
  . rw[ah,if_pos (by simp[go_sem,c8])];rw[ag,sab];refine⟨b,sl,L,q,5,rfl,A.pw,?_⟩;simp[go_sem];exact fin (dD L 5 q) _ [] [] (A.fail 5) (by unfold yP;rw[if_neg c8])
set_option maxHeartbeats 4000000 in
def Yi:Ct Tryz.prog where
 f:=21
 spec:=fun args h φ=>∃ s,args=[.string (B s),.func (.func 42) #[] #[]]/\o9 true s h φ
 ok:=by
  rintro args h φ w ⟨s,rfl,hφ⟩ hH;refine dh (qI Tryz.func21 VK [xk,gI,iF,iq,EY (Di 1000000),Yd (iG (bZ s).2)] (fun v k=>∃ k',dA k' k/\φ v k') bP bu ⟨[],[],[s],[],[],[],h,df⟩ ⟨rfl,rfl,rfl,rfl,rfl,rfl⟩ af ?_ w hH rfl);generalize hE:(⟨aG _,_,_,_⟩:Env)=E;have sax:E.spec 43=xk.spec:=by rw[<- hE];rfl
  have sa6:E.spec 44=gI.spec:=by rw[<- hE];rfl
  have sab:E.spec 45=iF.spec:=by rw[<- hE];rfl
  have sa7:E.spec 46=iq.spec:=by rw[<- hE];rfl
  have saw:E.spec 47=(EY (Di 1000000)).spec:=by rw[<- hE];rfl
  have say:E.spec 42=(Yd (iG (bZ s).2)).spec:=by rw[<- hE];rfl
  have ep:E.post=fun v k=>∃ k',dA k' k/\φ v k':=by rw[<- hE]
  clear hE;unfold Lm;unfold o9 at hφ;rw[au,if_pos (by rfl),sax];refine⟨s,rfl,?_⟩;by_cases h6:65536<s.length
  . rw[if_pos h6] at hφ⊢;simp[go_sem];rw[ah,if_pos (by simp[go_sem])];simp only[ae];simp[go_sem,ep];exact⟨h,fun _ _ h=>h,hφ⟩
  rw[if_neg h6] at hφ⊢;obtain⟨⟨f,t⟩,hft⟩:=wG true s;have hφ:=hφ f t hft;by_cases hl:(bZ s).1.1=0;rotate_left
  . rw[if_neg hl];have e:=hft;unfold jA at e;rw[if_pos hl] at e;cases e;rw[if_neg hl] at hφ;simp[go_sem];rw[ah,if_pos (by simp[go_sem];exact hl)];simp only[ae];simp[go_sem,ep];exact⟨h,fun _ _ h=>h,hφ⟩
  rw[if_pos hl];intro sl k hk hown hsn;have T:=yx hl;generalize hLe:(bZ s).2=L at *;have htk:=Ul hown hsn T.lw.pos;simp[go_sem];rw[ah,if_neg (by simp[go_sem])];rw[ae,eu];intro b hb;have hb':k b=none:=hb;simp[go_sem];have hlen:=T.len;have W:PW (k.set b ⟨mP sl p0,PT⟩) b sl L p0:=⟨aA _ _ _,htk.keep fun c o _ hc=>by rw[aO _ (fun e=>by rw[e,hb'] at hc;cases hc)];exact hc,T.lw,by omega,T.lw.pos,by decide,by decide⟩;have hft':(xZ L (iG L) p0).map (fun r=>((yP L r.2).f,r.1))=some (f,t):=by
   have e:=hft;unfold jA at e;rw[if_neg (by rw[hl];decide),hLe] at e;exact e
  simp only[Option.map_eq_some_iff] at hft';obtain⟨⟨t',q⟩,h1,h2⟩:=hft';cases h2;dsimp only at hφ;have Ad:gZ L p0 q 0:=by
   have h1':=h1;unfold xZ vK at h1';simp only[Option.map_eq_some_iff] at h1';obtain⟨⟨rl,r⟩,h3,h4⟩:=h1';cases h4;exact lg T.lw _ _ _ h3
  rw[ag,say];refine⟨iG L,Nat.le_refl _,b,sl,L,p0,t',q,rfl,W,h1,by unfold iG;simp[p0];omega,fun v k2 g A hI=>?_⟩;simp[go_sem,bT];refine⟨some (v,0),rfl,?_⟩;have keep:∀ k3,XE b (k.set b ⟨mP sl p0,PT⟩) k3->dA h k3:=fun k3 h3 c o hc=>by
   have hcb:c≠b:=fun e=>by have:=hk c o hc;rw[e,hb'] at this;cases this
   exact h3 c o hcb (by rw[aO _ hcb];exact hk c o hc)
  rw[ag,sa6];refine⟨b,sl,L,q,rfl,A.pw,?_⟩;simp[go_sem,dH,fM];have fin:∀ (q':PS) (k3:Hp) (is':List Int) (ss':List (List UInt8)) (A3:At (k.set b ⟨mP sl p0,PT⟩) b sl L q' k3 g),q'=yP L q -> 
   Then E (.C 46 [.P 0] (.p (.B 0)) ⟨0,1,0,0,0,0⟩
 (.ite (.x 0)
 (.O (.pt 0 3) 3 [.J 7,.J 8,.J 9] ⟨3,0,0,0,0,0⟩
 (.Z 0
 (.Z 0
 (.ret (.tup [(.one (.sl .nil)),(.agg [.J 7,.J 8,.J 9])])))))
 (.C 47 [.P 1,(.one (.sl .nil))] (.p (.L 1)) ⟨0,0,0,0,1,0⟩
 (.ret (.tup [.L 1,(.agg [(.i .i64 (.c 0)),(.i .i64 (.c 0)),(.i .i64 (.c 0))])]))))) ⟨[0,0,0,(tk L q).k,(tk L q).l,(tk L q).c,(tk L q).n],[],[s,(tk L q).x],[],[sl],[some (b,0),some (v,0)],k3,df⟩:=by
   intro q' k3 is' ss' A3 hq';rw[<- hq'] at hφ hft;rw[ag,sa7];refine⟨b,sl,L,q',rfl,A3.pw,?_⟩;simp[go_sem];cases c0:q'.bad with
   | true=>
     have hf:¬ q'.f.1=0:=fun e=>by unfold PS.bad at c0;rw[e] at c0;cases c0
     rw[if_neg hf] at hφ;rw[ah,if_pos (by simp[go_sem])];have hr3:hread k3 (some (b,3)) 3=some [.int .i64 q'.f.1,.int .i64 q'.f.2.1,.int .i64 q'.f.2.2]:=by rw[bz A3.pw.blk];rfl
     refine rL ⟨[q'.f.1,q'.f.2.1,q'.f.2.2],[],[],[],[],[]⟩ rfl af hr3 ?_;rw[ai];refine⟨by simp[go_sem],?_⟩;rw[ai];refine⟨by simp[go_sem],?_⟩;simp only[ae];simp[go_sem,ep];exact⟨h,keep k3 A3.kp,hφ⟩
   | false=>
     have hf:q'.f.1=0:=by unfold PS.bad at c0;simpa using c0
     rw[if_pos hf] at hφ;rw[ah,if_neg (by simp[go_sem])];obtain⟨_,htn,_⟩:=GM hft hf;dsimp only at htn;rw[ag,saw];refine⟨v,t',⟨none,0,0⟩,[],rfl,by omega,It.le A3.le _ _ hI,.inl ⟨rfl,rfl⟩,rfl,by simp;omega,fun s' k4 r1 r2 r3 r4=>?_⟩;simp[go_sem];simp only[ae];simp[go_sem,ep];refine⟨k4,fun _ _ h=>h,hφ s' k4 (fun c o hc=>r3 c o (fun _ hz=>(by cases hz)) (keep k3 A3.kp c o hc)) (by simpa using r1) (by simpa using r2)⟩
  by_cases c8:(tk L q).k=8
  . rw[ah,if_neg (by simp[go_sem,c8])];exact fin q k2 [] [] A (by unfold yP;rw[if_pos c8])
  . rw[ah,if_pos (by simp[go_sem,c8])];rw[ag,sab];refine⟨b,sl,L,q,5,rfl,A.pw,?_⟩;simp[go_sem];exact fin (dD L 5 q) _ [] [] (A.fail 5) (by unfold yP;rw[if_neg c8])
def RN:Ct Tryz.prog where
 f:=8
 spec:=fun args h φ=>∃ s,args=[.string (B s)]/\o9 false s h φ
 ok:=by
  rintro args h φ w ⟨s,rfl,hφ⟩ hH;refine bn Tryz.func8 Vw ZX [Yh] φ (bP) (bu) ⟨[],[],[s],[],[],[],h,df⟩ ⟨rfl,rfl,rfl,rfl,rfl,rfl⟩ af ?_ w hH rfl;generalize hE:(⟨aG _,_,_,_⟩:Env)=E;have saz:E.spec 21=(Yh).spec:=by rw[<- hE];rfl
  have ep:E.post=φ:=by rw[<- hE]
  clear hE;unfold KW;rw[au,if_pos (by rfl),saz];refine⟨s,rfl,?_⟩;unfold o9 at hφ⊢;split
  . rename_i h6;rw[if_pos h6] at hφ;simp[go_sem,Iz];simp only[ae];simp[go_sem,ep];exact hφ
  . rename_i h6;rw[if_neg h6] at hφ;intro f t hft;have hφ:=hφ f t hft;split
    . rename_i hf;rw[if_pos hf] at hφ;intro sl k hk ho hn;simp[go_sem,Iz];simp only[ae];simp[go_sem,ep];exact hφ sl k hk ho hn
    . rename_i hf;rw[if_neg hf] at hφ;simp[go_sem,Iz];simp only[ae];simp[go_sem,ep];exact hφ
def J7:Ct Tryz.prog where
 f:=19
 spec:=fun args h φ=>∃ s,args=[.string (B s)]/\o9 true s h φ
 ok:=by
  rintro args h φ w ⟨s,rfl,hφ⟩ hH;refine bn Tryz.func19 PG WB [Yi] φ (bP) (bu) ⟨[],[],[s],[],[],[],h,df⟩ ⟨rfl,rfl,rfl,rfl,rfl,rfl⟩ af ?_ w hH rfl;generalize hE:(⟨aG _,_,_,_⟩:Env)=E;have sb0:E.spec 21=(Yi).spec:=by rw[<- hE];rfl
  have ep:E.post=φ:=by rw[<- hE]
  clear hE;unfold Fz;rw[au,if_pos (by rfl),sb0];refine⟨s,rfl,?_⟩;unfold o9 at hφ⊢;split
  . rename_i h6;rw[if_pos h6] at hφ;simp[go_sem,Iz];simp only[ae];simp[go_sem,ep];exact hφ
  . rename_i h6;rw[if_neg h6] at hφ;intro f t hft;have hφ:=hφ f t hft;split
    . rename_i hf;rw[if_pos hf] at hφ;intro sl k hk ho hn;simp[go_sem,Iz];simp only[ae];simp[go_sem,ep];exact hφ sl k hk ho hn
    . rename_i hf;rw[if_neg hf] at hφ;simp[go_sem,Iz];simp only[ae];simp[go_sem,ep];exact hφ
end
def Az.g (x:Az):Ng:=⟨x.k,x.l,x.c,x.z,x.n,x.x⟩
def Tr.gs (t:Tr):List Ng:=t.qP.map Az.g
def Tr.rP (ts:List Tr):List Ng:=(Tr.iT ts).map Az.g
theorem ach (l:List Az):qA (l.map Az.g)=wz l:=by
 induction l with
 | nil=>rfl
 | cons a l ih=>rw[List.map_cons,CY,ih,wz,wz,List.flatMap_cons];rfl
def places:Int->List Tr->List Int
 | _,[]=>[]
 | p,t::ts=>p::places (p+t.n) ts
theorem eG (t:Tr) (ts:List Tr):Tr.rP (t::ts)=t.gs++Tr.rP ts:=by simp[Tr.rP,Tr.gs,qQ]
theorem kN (t:Tr):t.gs.length=t.n:=by simp[Tr.gs,Tr.n]
theorem oJ (ts:List Tr):(Tr.rP ts).length=Tr.ns ts:=by simp[Tr.rP,Tr.ns]
theorem mQ (t:Tr):t.n=t.sz+1:=Tr.acB t
theorem mr (ts:List Tr):Tr.szs ts=Tr.ns ts:=(Tr.Ja ts).symm
theorem nC (k l c n:Int) (x:List UInt8) (ks:List Tr):(Tr.nd k l c n x ks).gs=⟨k,l,c,Tr.ns ks,n,x⟩::Tr.rP ks:=by
 simp[Tr.gs,Tr.rP,Tr.qP,Az.g,mr]
theorem Gj:∀ (ks:List Tr) (pre post:List Ng) (fuel:Nat),ks.length<=fuel->iI (pre++Tr.rP ks++post) ((pre.length:Int) - 1+Tr.ns ks) fuel pre.length=some (places pre.length ks)
 | [],pre,post,0,_=>by rw[iI,if_neg (by rw[aQ];omega)];rfl
 | [],pre,post,fuel+1,_=>by rw[iI,if_neg (by rw[aQ];omega)];rfl
 | t::ts,pre,post,fuel+1,hf=>by
   obtain⟨k,l,c,n,x,cs⟩:=t;have hn:(Tr.nd k l c n x cs).n=Tr.ns cs+1:=by rw[mQ,Tr.sz,mr]
   have hget:(pre++Tr.rP (.nd k l c n x cs::ts)++post).getD ((pre.length:Int)).toNat ⟨0,0,0,0,0,[]⟩=⟨k,l,c,Tr.ns cs,n,x⟩:=by
    rw[eG,nC];simp[List.getD_eq_getElem?_getD]
   have hlen:(pre++Tr.rP (.nd k l c n x cs::ts)++post).length=pre.length+(Tr.ns cs+1+Tr.ns ts)+post.length:=by
    rw[List.length_append,List.length_append,oJ,ay,hn]
   have e:pre++Tr.rP (.nd k l c n x cs::ts)++post=(pre++(Tr.nd k l c n x cs).gs)++Tr.rP ts++post:=by rw[eG];simp only[List.append_assoc]
   have ih:=Gj ts (pre++(Tr.nd k l c n x cs).gs) post fuel (by simpa using hf);rw[iI,if_pos (by rw[ay,hn];omega),hget];simp only;rw[if_pos (by rw[hlen];omega),e];have h1:((pre++(Tr.nd k l c n x cs).gs).length:Int)=pre.length+(1+(Tr.ns cs:Int)):=by rw[List.length_append,kN,hn];omega
   rw[h1] at ih;rw[show (pre.length:Int) - 1+Tr.ns (.nd k l c n x cs::ts)=pre.length+(1+(Tr.ns cs:Int)) - 1+Tr.ns ts by rw[ay,hn];omega,ih,places,hn];simp only[Option.map_some];congr 3;omega
section
attribute [local go_sem] bg bf aC aj au aI aU aH ax says_again
def Mc:Fm:=(.ite (.eqI (.x 0) (.c 15))
 (.ret (.tup [.W [124,124],(.I (.c 1))]))
 (.ite (.eqI (.x 0) (.c 14))
 (.ret (.tup [.W [38,38],(.I (.c 2))]))
 (.ite (.eqI (.x 0) (.c 6))
 (.ret (.tup [.W [61,61],(.I (.c 3))]))
 (.ite (.eqI (.x 0) (.c 7))
 (.ret (.tup [.W [33,61],(.I (.c 3))]))
 (.ite (.eqI (.x 0) (.c 8))
 (.ret (.tup [.W [60],(.I (.c 4))]))
 (.ite (.eqI (.x 0) (.c 9))
 (.ret (.tup [.W [60,61],(.I (.c 4))]))
 (.ite (.eqI (.x 0) (.c 10))
 (.ret (.tup [.W [62],(.I (.c 4))]))
 (.ite (.eqI (.x 0) (.c 11))
 (.ret (.tup [.W [62,61],(.I (.c 4))]))
 (.ite (.eqI (.x 0) (.c 1))
 (.ret (.tup [.W [43],(.I (.c 5))]))
 (.ite (.eqI (.x 0) (.c 2))
 (.ret (.tup [.W [45],(.I (.c 5))]))
 (.ite (.eqI (.x 0) (.c 3))
 (.ret (.tup [.W [42],(.I (.c 6))]))
 (.ite (.eqI (.x 0) (.c 4))
 (.ret (.tup [.W [47],(.I (.c 6))]))
 (.ret (.tup [.W [37],(.I (.c 6))]))))))))))))))
theorem Wh:aZ ⟨true,[]⟩ Tryz.prog (fun l=>([]:List bK).getD l ⟨[],[],[]⟩) Tryz.f96=Mc:=by kernel_rfl
theorem aaA:az Tryz.prog .zero Tryz.f96.params.toList=some ([.J 0],⟨1,0,0,0,0,0⟩):=by kernel_rfl
def F5:Fm:=(.ite (.eqI (.x 0) (.c 31))
 (.C 96 [.J 4] (.tup [.S 1,.J 5]) ⟨1,0,1,0,0,0⟩
 (.ret (.p (.J 5))))
 (.ite (.eqI (.x 0) (.c 30))
 (.ret (.p (.I (.c 7))))
 (.ret (.p (.I (.c 8))))))
theorem Qe:aZ ⟨true,[]⟩ Tryz.prog (fun l=>([]:List bK).getD l ⟨[],[],[]⟩) Tryz.f95=F5:=by kernel_rfl
theorem WV:az Tryz.prog .zero Tryz.f95.params.toList=some ([(.agg [.U 0,.J 1,.J 2,.J 3,.J 4,(.s (.x 0))])],⟨5,0,1,0,0,0⟩):=by kernel_rfl
def AX:Ct Tryz.prog where
 f:=96
 spec:=fun args h φ=>∃ n,args=[.int .i64 n]/\φ (.tuple #[.string (B (jT n).1),.int .i64 ((jT n).2:Nat)]) h
 ok:=by
  rintro args h φ w ⟨n,rfl,hφ⟩ hH;refine bn Tryz.func96 Wh aaA [] φ (bP) (bu) ⟨[n],[],[],[],[],[],h,df⟩ ⟨rfl,rfl,rfl,rfl,rfl,rfl⟩ af ?_ w hH rfl;generalize hE:(⟨aG _,_,_,_⟩:Env)=E;have ep:E.post=φ:=by rw[<- hE]
  clear hE;unfold Mc;unfold jT at hφ;rw[<- ae];by_cases c15:n=15
  . rw[if_pos c15] at hφ;rw[ah,if_pos (by simpa[go_sem] using c15),ae,ax,ep];exact hφ
  rw[if_neg c15] at hφ;rw[ah,if_neg (by simpa[go_sem] using c15)];by_cases c14:n=14
  . rw[if_pos c14] at hφ;rw[ah,if_pos (by simpa[go_sem] using c14),ae,ax,ep];exact hφ
  rw[if_neg c14] at hφ;rw[ah,if_neg (by simpa[go_sem] using c14)];by_cases c6:n=6
  . rw[if_pos c6] at hφ;rw[ah,if_pos (by simpa[go_sem] using c6),ae,ax,ep];exact hφ
  rw[if_neg c6] at hφ;rw[ah,if_neg (by simpa[go_sem] using c6)];by_cases c7:n=7
  . rw[if_pos c7] at hφ;rw[ah,if_pos (by simpa[go_sem] using c7),ae,ax,ep];exact hφ
  rw[if_neg c7] at hφ;rw[ah,if_neg (by simpa[go_sem] using c7)];by_cases c8:n=8
  . rw[if_pos c8] at hφ;rw[ah,if_pos (by simpa[go_sem] using c8),ae,ax,ep];exact hφ
  rw[if_neg c8] at hφ;rw[ah,if_neg (by simpa[go_sem] using c8)];by_cases c9:n=9
  . rw[if_pos c9] at hφ;rw[ah,if_pos (by simpa[go_sem] using c9),ae,ax,ep];exact hφ
  rw[if_neg c9] at hφ;rw[ah,if_neg (by simpa[go_sem] using c9)];by_cases c10:n=10
  . rw[if_pos c10] at hφ;rw[ah,if_pos (by simpa[go_sem] using c10),ae,ax,ep];exact hφ
  rw[if_neg c10] at hφ;rw[ah,if_neg (by simpa[go_sem] using c10)];by_cases c11:n=11
  . rw[if_pos c11] at hφ;rw[ah,if_pos (by simpa[go_sem] using c11),ae,ax,ep];exact hφ
  rw[if_neg c11] at hφ;rw[ah,if_neg (by simpa[go_sem] using c11)];by_cases c1:n=1
  . rw[if_pos c1] at hφ;rw[ah,if_pos (by simpa[go_sem] using c1),ae,ax,ep];exact hφ
  rw[if_neg c1] at hφ;rw[ah,if_neg (by simpa[go_sem] using c1)];by_cases c2:n=2
  . rw[if_pos c2] at hφ;rw[ah,if_pos (by simpa[go_sem] using c2),ae,ax,ep];exact hφ
  rw[if_neg c2] at hφ;rw[ah,if_neg (by simpa[go_sem] using c2)];by_cases c3:n=3
  . rw[if_pos c3] at hφ;rw[ah,if_pos (by simpa[go_sem] using c3),ae,ax,ep];exact hφ
  rw[if_neg c3] at hφ;rw[ah,if_neg (by simpa[go_sem] using c3)];by_cases c4:n=4
  . rw[if_pos c4] at hφ;rw[ah,if_pos (by simpa[go_sem] using c4),ae,ax,ep];exact hφ
  rw[if_neg c4] at hφ;rw[ah,if_neg (by simpa[go_sem] using c4)];rw[ak,ep];exact hφ
theorem adN (n:Int):(jT n).2<=6:=by
 by_cases h:n=15\/n=14\/n=6\/n=7\/n=8\/n=9\/n=10\/n=11\/n=1\/n=2\/n=3\/n=4
 . rcases h with rfl | rfl | rfl | rfl | rfl | rfl | rfl | rfl | rfl | rfl | rfl | rfl<;>decide
 . simp only[not_or] at h;simp[jT,h]
def Ng.lv (x:Ng):Nat:=if x.k=31 then (jT x.n).2 else if x.k=30 then 7 else 8
def Kz:Ct Tryz.prog where
 f:=95
 spec:=fun args h φ=>∃ x:Ng,args=[x.v]/\φ (.int .i64 (x.lv:Nat)) h
 ok:=by
  rintro args h φ w ⟨x,rfl,hφ⟩ hH;refine bn Tryz.func95 Qe WV [AX] φ (bP) (bu) ⟨[x.k,x.l,x.c,x.z,x.n],[],[x.x],[],[],[],h,df⟩ ⟨rfl,rfl,rfl,rfl,rfl,rfl⟩ af ?_ w hH rfl;generalize hE:(⟨aG _,_,_,_⟩:Env)=E;have sb1:E.spec 96=(AX).spec:=by rw[<- hE];rfl
  have ep:E.post=φ:=by rw[<- hE]
  clear hE;unfold F5;unfold Ng.lv at hφ;by_cases c1:x.k=31
  . rw[if_pos c1] at hφ;rw[aj,if_pos (by simpa[go_sem] using c1),ae,au,if_pos (by rfl),sb1];refine⟨x.n,rfl,?_⟩;refine rR ⟨[((jT x.n).2:Nat)],[],[(jT x.n).1],[],[],[]⟩ rfl af rfl ?_;rw[ak,ep];exact hφ
  rw[if_neg c1] at hφ;rw[aj,if_neg (by simpa[go_sem] using c1)];by_cases c2:x.k=30
  . rw[if_pos c2] at hφ;rw[ah,if_pos (by simpa[go_sem] using c2),ae,ax,ep];exact hφ
  rw[if_neg c2] at hφ;rw[ah,if_neg (by simpa[go_sem] using c2),ae,ax,ep];exact hφ
def Tr.g:Tr->Ng
 | .nd k l c n x ks=>⟨k,l,c,Tr.ns ks,n,x⟩
theorem Tr.agF:∀ t:Tr,t.g.lv=t.lv
 | .nd _ _ _ _ _ _=>rfl
theorem qL:∀ t:Tr,∃ r,t.gs=t.g::r/\r.length=t.sz
 | .nd k l c n x ks=>⟨Tr.rP ks,nC ..,by rw[oJ];simp[Tr.sz,mr]⟩
def Ps (l:List Ng) (p:Nat) (t:Tr):Prop:=∃ pre post,l=pre++t.gs++post/\pre.length=p
def JM (l:List Ng) (p:Nat) (ts:List Tr):Prop:=∃ pre post,l=pre++Tr.rP ts++post/\pre.length=p
theorem Ps.kids {l:List Ng} {p:Nat} {k ln c n:Int} {x:List UInt8} {ks:List Tr} (h:Ps l p (.nd k ln c n x ks)):JM l (p+1) ks:=by
 obtain⟨pre,post,rfl,rfl⟩:=h;exact⟨pre++[⟨k,ln,c,Tr.ns ks,n,x⟩],post,by rw[nC];simp,by simp⟩
theorem JM.cons {l:List Ng} {p:Nat} {t:Tr} {ts:List Tr} (h:JM l p (t::ts)):Ps l p t/\JM l (p+t.n) ts:=by
 obtain⟨pre,post,rfl,rfl⟩:=h;refine⟨⟨pre,Tr.rP ts++post,by rw[eG];simp,rfl⟩,⟨pre++t.gs,post,by rw[eG];simp,by rw[List.length_append,kN]⟩⟩
theorem Ps.node {l:List Ng} {p:Nat} {t:Tr} (h:Ps l p t):∃ hp:p<l.length,l[p]=t.g:=by
 obtain⟨pre,post,rfl,rfl⟩:=h;obtain⟨r,hr,_⟩:=qL t;have hlt:pre.length<(pre++t.gs++post).length:=by rw[hr];simp
 refine⟨hlt,?_⟩;simp[hr]
theorem Ps.lt {l:List Ng} {p:Nat} {t:Tr} (h:Ps l p t):p+t.n<=l.length:=by
 obtain⟨pre,post,rfl,rfl⟩:=h;rw[List.length_append,List.length_append,kN];omega
theorem Ps.iI {l:List Ng} {p fuel:Nat} {k ln c n:Int} {x:List UInt8} {ks:List Tr} (h:Ps l p (.nd k ln c n x ks)) (hf:ks.length<=fuel):iI l ((p:Nat)+(Tr.ns ks:Nat)) fuel ((p:Nat)+1)=some (places ((p:Nat)+1) ks):=by
 obtain⟨pre,post,rfl,rfl⟩:=h;have:=Gj ks (pre++[⟨k,ln,c,Tr.ns ks,n,x⟩]) post fuel hf;rw[nC];simp only[List.length_append,List.length_cons,List.length_nil,Nat.zero_add,List.append_assoc,List.cons_append,List.nil_append] at this⊢;rw[show ((pre.length+1:Nat):Int)=(pre.length:Int)+1 by omega] at this;rw[show ((pre.length:Int)+1 - 1+(Tr.ns ks:Int))=pre.length+(Tr.ns ks:Int) by omega] at this;exact this
theorem qU:∀ (a b:List Tr) (p:Int),places p (a++b)=places p a++places (p+Tr.ns a) b
 | [],b,p=>by rw[aQ];simp[places]
 | t::a,b,p=>by
   rw[List.cons_append,places,places,qU a b,ay,List.cons_append];congr 3;omega
theorem dK:∀ (a:List Tr) (p:Int),(places p a).length=a.length
 | [],_=>rfl
 | t::a,p=>by rw[places,List.length_cons,List.length_cons,dK a]
structure iy (h:Hp) (s:bM) (ks:List Int):Prop where
 n:s.n=ks.length
 c:s.n<=s.c
 at_:ks=[]\/∃ b o ob,s.a=some (b,o)/\h b=some ob/\ob.ty=3/\(ob.cs.drop o).take ks.length=qN ks/\o+ks.length<=ob.cs.length
theorem iy.own {h:Hp} {s:bM} {ks:List Int} (ho:eF h s (qN ks) 3 1) (hn:s.n=ks.length):iy h s ks:=by
 rcases ho with ⟨rfl,hk⟩ | ⟨b,o,h1,h2,h3,h4,h5,_,h7⟩
 . exact⟨hn,Nat.le_refl _,.inl (by simpa[qN] using hk)⟩
 . exact⟨hn,h5,.inr ⟨b,0,o,h1,h2,h3,by rw[List.drop_zero,<- hn,h7,Nat.mul_one],by omega⟩⟩
theorem iy.le {h k:Hp} {s:bM} {ks:List Int} (R:iy h s ks) (hl:dA h k):iy k s ks:=
 ⟨R.n,R.c,R.at_.imp id fun ⟨b,o,ob,h1,h2,h3⟩=>⟨b,o,ob,h1,hl _ _ h2,h3⟩⟩
theorem iy.go {h k:Hp} {b:Nat} {lsl sl sl':bM} {used:Bool} {inn:Int} {acc:List UInt8} {s:bM} {ks:List Int} (R:iy h s ks) (X:JL h b lsl used sl inn acc) (G:qB h k b sl sl'):iy k s ks:=by
 refine⟨R.n,R.c,R.at_.imp id fun ⟨c,o,ob,h1,h2,h3,h4⟩=>⟨c,o,ob,h1,G.keep c ob (fun e=>?_) (fun z hz e=>?_) h2,h3,h4⟩⟩
 . rw[e,X.at_] at h2;cases h2;exact absurd h3 (show ¬ (rU=3) by decide)
 . obtain⟨o',ho,ht⟩:=X.blk hz;rw[e,h2] at ho;cases ho;rw[h3] at ht;exact absurd ht (by decide)
theorem iy.read {h:Hp} {s:bM} {ks:List Int} (R:iy h s ks) {j:Nat} (hj:j<ks.length):∃ b o,s.a=some (b,o)/\hread h (some (b,o+j*1+0)) 1=some [.int .i64 ks[j]]:=by
 rcases R.at_ with rfl | ⟨b,o,ob,h1,h2,h3,h4,h5⟩
 . simp at hj
 . refine⟨b,o,h1,?_⟩;rw[bz h2,if_pos (by omega)];have e:(ob.cs.drop (o+j*1+0)).take 1=(((ob.cs.drop o).take ks.length).drop j).take 1:=by
    rw[List.drop_take,List.take_take,List.drop_drop,Nat.mul_one,Nat.add_zero,Nat.min_eq_left (by omega)]
   rw[e,h4,List.drop_eq_getElem_cons (by rw[TB];exact hj)];simp[qN]
theorem iy.tail {h:Hp} {s:bM} {q:Int} {ks:List Int} (R:iy h s (q::ks)):iy h ⟨if s.c=1 then s.a else s.a.map fun x=>(x.1,x.2+1*1),s.n - 1,s.c - 1⟩ ks:=by
 have hn:=R.n;have hc:=R.c;rw[List.length_cons] at hn;refine⟨by simp[hn],by simp;omega,?_⟩;rcases R.at_ with h0 | ⟨b,o,ob,h1,h2,h3,h4,h5⟩
 . cases h0
 . by_cases hk:ks=[]
   . exact .inl hk
   . have hp:=List.length_pos_iff.2 hk;rw[List.length_cons] at h4 h5;refine .inr ⟨b,o+1,ob,?_,h2,h3,?_,by omega⟩
     . rw[if_neg (by omega),h1];rfl
     . have e:(ob.cs.drop (o+1)).take ks.length=((ob.cs.drop o).take (ks.length+1)).drop 1:=by
        rw[List.drop_take,List.drop_drop];rfl
       rw[e,h4];rfl
theorem lC:∀ {t:Tr},yK t->∀ {l:List Ng} {p n:Nat},Ps l p t->t.n<=n->pU l n p=some (kK t):=by
 intro t W
 induction W with
 | word k ln c h=>
   intro l p n P hn;obtain⟨hp,e⟩:=P.node;cases n with
   | zero=>rw[mQ] at hn;omega
   | succ n=>
     rw[pU,List.getElem?_eq_getElem hp,e,kK];simp only[Tr.g];have:k=15\/k=16\/k=17\/k=18:=by omega
     rcases this with rfl | rfl | rfl | rfl<;>simp[yC,qy,AC,uh]
 | big ln c x h=>
   intro l p n P hn;obtain⟨hp,e⟩:=P.node;cases n with
   | zero=>rw[mQ] at hn;omega
   | succ n=>
     rw[pU,List.getElem?_eq_getElem hp,e,kK];simp[Tr.g]
 | list ln c t h ih=>
   intro l p n P hn;obtain⟨hp,e⟩:=P.node;have hn2:t.n+1<=n:=by
    have:(Tr.nd 20 ln c 0 [] [t]).n=t.n+1:=by rw[mQ,Tr.sz,mr,ay,aQ]
    omega
   cases n with
   | zero=>omega
   | succ n=>
     rw[pU,List.getElem?_eq_getElem hp,e,kK];have:=ih (JM.cons P.kids).1 (show t.n<=n by omega);simp[Tr.g,this]
theorem mF.node {h:Hp} {b:Nat} {lsl sl:bM} {l:List Ng} {used:Bool} {inn:Int} {acc:List UInt8} (X:mF h b lsl l used sl inn acc) {p:Nat} {t:Tr} (P:Ps l p t):∃ c o,lsl.a=some (c,o)/\hread h (some (c,o+p*6+0)) 6=some t.g.cs/\p<lsl.n:=by
 obtain⟨hp,e⟩:=P.node;have hn:=NG.n X.row;obtain⟨c,o,ha⟩:=Rows.nn X.row (j:=p) (by omega);exact⟨c,o,ha,by rw[NG.node X.row hp ha,e],by omega⟩
def L9:Fm:=(.Z 0
 (.Z 0
 (.O (.pt 0 0) 1 [(.sl (.x 0))] ⟨0,0,0,0,1,0⟩
 (.N (.X (.x 0) (.x 0))
 (.O (.el (.x 0) (.x 0) 6 0) 6 [.U 2,.J 3,.J 4,.J 5,.J 6,(.s (.x 0))] ⟨5,0,1,0,0,0⟩
 (.C 95 [(.agg [.U 2,.J 3,.J 4,.J 5,.J 6,(.s (.x 0))])] (.p (.J 7)) ⟨1,0,0,0,0,0⟩
 (.ite (.le (.x 1) (.x 7))
 (.V 26 [.P 0,.J 0]
 .E)
 (.mk [(.s (.c [40]))] 9 1
 (.V 41 [.P 0,.L 1]
 (.V 26 [.P 0,.J 0]
 (.mk [(.s (.c [41]))] 9 1
 (.V 41 [.P 0,.L 2]
 .E))))))))))))
theorem We:aZ ⟨true,[]⟩ Tryz.prog (fun l=>([]:List bK).getD l ⟨[],[],[]⟩) Tryz.f57=L9:=by kernel_rfl
theorem aaz:az Tryz.prog .zero Tryz.f57.params.toList=some ([.P 0,.J 0,.J 1],⟨2,0,0,0,0,1⟩):=by kernel_rfl
def TA:Fm:=(.loop 0 ⟨[(.c 0)],[],[],[],[],[]⟩
 (.ite (.lt (.x 0) (.cnt (.x 0)))
 (.N (.X (.x 0) (.x 0))
 (.O (.el (.x 0) (.x 0) 1 0) 1 [.J 1] ⟨1,0,0,0,0,0⟩
 (.ite (.lt (.c 0) (.x 0))
 (.mk [(.s (.c [44,32]))] 9 1
 (.V 41 [.P 0,.L 1]
 (.V 26 [.P 0,.J 1]
 (.N (.R (.add (.x 0) (.c 1)))
 (.again 0 ⟨0,0,0,0,1,1⟩ ⟨1,0,0,0,1,1⟩ ⟨[(.add (.x 0) (.c 1))],[],[],[],[],[]⟩)))))
 (.V 26 [.P 0,.J 1]
 (.N (.R (.add (.x 0) (.c 1)))
 (.again 0 ⟨0,0,0,0,1,1⟩ ⟨1,0,0,0,1,1⟩ ⟨[(.add (.x 0) (.c 1))],[],[],[],[],[]⟩))))))
 .E))
theorem Zg:aZ ⟨true,[]⟩ Tryz.prog (fun l=>([⟨[8],[9,10,11,12,4,5,13,14,15,16,17,18,19,20,21],[]⟩]:List bK).getD l ⟨[],[],[]⟩) Tryz.f56=TA:=by kernel_rfl
theorem adc:az Tryz.prog .zero Tryz.f56.params.toList=some ([.P 0,.L 0],⟨0,0,0,0,1,1⟩):=by kernel_rfl
def Writes (h:Hp) (b:Nat) (lsl:bM) (l:List Ng) (sl:bM) (inn:Int) (s:List UInt8) (φ:Value->Hp->Prop):Prop:=
 ∀ used' sl' k,mF k b lsl l used' sl' inn s->qB h k b sl sl'->φ (.tuple #[]) k
def Fits (acc s:List UInt8):Prop:=s.length<=1000000000000/\acc.length+s.length<=1000000000000
theorem Fits.sub {acc s a b c:List UInt8} (F:Fits acc s) (h:s=a++(b++c)):Fits (acc++a) b:=by
 obtain⟨h1,h2⟩:=F;subst h;simp only[List.length_append] at h1 h2;exact⟨by omega,by rw[List.length_append];omega⟩
theorem Fits.put {acc s a b c:List UInt8} (F:Fits acc s) (h:s=a++(b++c)):(acc++a).length+b.length<=1000000000000:=(F.sub h).2
theorem Fits.p0 {acc s b c:List UInt8} (F:Fits acc s) (h:s=b++c):acc.length+b.length<=1000000000000:=by
 obtain⟨_,h2⟩:=F;rw[h,List.length_append] at h2;omega
def abJ (n:Nat) (args:List Value) (h:Hp) (φ:Value->Hp->Prop):Prop:=
 ∃ b lsl l used sl inn acc p t,args=[.pointer (some ⟨b,0,none⟩),.int .i64 (p:Nat)]/\mF h b lsl l used sl inn acc/\Ps l p t/\jC t/\t.n<=n/\l.length<=1000000/\Fits acc (tx t)/\Writes h b lsl l sl inn (acc++tx t) φ
def abK (n:Nat) (args:List Value) (h:Hp) (φ:Value->Hp->Prop):Prop:=
 ∃ b lsl l used sl inn acc p t least,args=[.pointer (some ⟨b,0,none⟩),.int .i64 (p:Nat),.int .i64 (least:Nat)]/\mF h b lsl l used sl inn acc/\Ps l p t/\jC t/\t.n<=n/\l.length<=1000000/\Fits acc (brk (decide (t.lv<least)) (tx t))/\Writes h b lsl l sl inn (acc++brk (decide (t.lv<least)) (tx t)) φ
def aeq (n:Nat) (args:List Value) (h:Hp) (φ:Value->Hp->Prop):Prop:=
 ∃ b lsl l used sl inn acc p ts s,args=[.pointer (some ⟨b,0,none⟩),bM.val s]/\mF h b lsl l used sl inn acc/\JM l p ts/\sG ts/\Tr.ns ts<=n/\iy h s (places (p:Nat) ts)/\l.length<=1000000/\Fits acc (rY ts)/\Writes h b lsl l sl inn (acc++rY ts) φ
def XP (n:Int) (a c:Tr):List UInt8:=brk (decide (a.lv<xJ (jT n).2)) (tx a)++(32::((jT n).1++(32::brk (decide (c.lv<(jT n).2+1)) (tx c))))
def aeo (n:Nat) (args:List Value) (h:Hp) (φ:Value->Hp->Prop):Prop:=
 ∃ b lsl l used sl inn acc x p a c s,args=[.pointer (some ⟨b,0,none⟩),Ng.v x,bM.val s]/\mF h b lsl l used sl inn acc/\Ps l p a/\Ps l (p+a.n) c/\jC a/\jC c/\a.n<=n/\c.n<=n/\iy h s [(p:Nat),(p+a.n:Nat)]/\l.length<=1000000/\Fits acc (XP x.n a c)/\Writes h b lsl l sl inn (acc++XP x.n a c) φ
def AO (n:Nat):Prop:=∀ args h φ w,abJ n args h φ->Holds h w->Calls Tryz.prog 26 args.toArray w fun e w'=>∃ v k,e=.returned v/\φ v k/\Holds k w'/\Fr w.heap.size h k w w'
def H5 (n:Nat):Prop:=∀ args h φ w,abK n args h φ->Holds h w->Calls Tryz.prog 57 args.toArray w fun e w'=>∃ v k,e=.returned v/\φ v k/\Holds k w'/\Fr w.heap.size h k w w'
def XI (n:Nat):Prop:=∀ args h φ w,aeq n args h φ->Holds h w->Calls Tryz.prog 56 args.toArray w fun e w'=>∃ v k,e=.returned v/\φ v k/\Holds k w'/\Fr w.heap.size h k w w'
def XH (n:Nat):Prop:=∀ args h φ w,aeo n args h φ->Holds h w->Calls Tryz.prog 58 args.toArray w fun e w'=>∃ v k,e=.returned v/\φ v k/\Holds k w'/\Fr w.heap.size h k w w'
def lI {n:Nat} (H:AO n):Ct Tryz.prog:=⟨26,abJ n,H⟩
def AV {n:Nat} (H:H5 n):Ct Tryz.prog:=⟨57,abK n,H⟩
def Ym {n:Nat} (H:XI n):Ct Tryz.prog:=⟨56,aeq n,H⟩
def Yk {n:Nat} (H:XH n):Ct Tryz.prog:=⟨58,aeo n,H⟩
set_option maxHeartbeats 2000000 in
theorem yH {n:Nat} (ih:AO n):H5 n:=by
 rintro args h φ w ⟨b,lsl,l,used,sl,inn,acc,p,t,least,rfl,X,P,W,hn,hl,F,hφ⟩ hH;refine bn Tryz.func57 We aaz [Kz,ig,lI ih] φ (bP) (bu) ⟨[((p:Nat):Int),((least:Nat):Int)],[],[],[],[],[some (b,0)],h,df⟩ ⟨rfl,rfl,rfl,rfl,rfl,rfl⟩ af ?_ w hH rfl;generalize hE:(⟨aG _,_,_,_⟩:Env)=E;have sb2:E.spec 95=(Kz).spec:=by rw[<- hE];rfl
 have sb3:E.spec 41=(ig).spec:=by rw[<- hE];rfl
 have san:E.spec 26=(lI ih).spec:=by rw[<- hE];rfl
 have ep:E.post=φ:=by rw[<- hE]
 clear hE;unfold L9;obtain⟨c0,o0,ha,hrd,hpn⟩:=X.node P;have hb:=X.prn.at_;rw[<- ae];rw[ai];refine⟨by simp[go_sem]<;>omega,?_⟩;rw[ai];refine⟨by simp[go_sem]<;>omega,?_⟩;refine rL ⟨[],[],[],[],[lsl],[]⟩ rfl af (by simp[go_sem,bz hb,prn]) ?_;rw[ai];refine⟨by simp[go_sem,ha]<;>omega,?_⟩;refine rL ⟨[t.g.k,t.g.l,t.g.c,t.g.z,t.g.n],[],[t.g.x],[],[],[]⟩ rfl af (by simpa[go_sem,ha,Ng.cs] using hrd) ?_;rw[ag,sb2];refine⟨t.g,rfl,?_⟩;refine rR ⟨[((t.g.lv:Nat):Int)],[],[],[],[],[]⟩ rfl af rfl ?_;rw[Tr.agF];by_cases hlv:t.lv<least
 . rw[decide_eq_true hlv] at F hφ;have hz:¬ ((least:Int)<=(t.lv:Int)):=by omega
   rw[ah,if_neg (by simpa[go_sem] using hz)];rw[ae,aK];intro bb hbb;rw[ag,sb3];refine aW (ss:=[[40]]) X hbb (by simpa using F.put (a:=[]) (b:=[40]) (c:=tx t++[41]) rfl) (by simp) fun u1 s1 k1 X1 G1=>?_
   refine rR ⟨[],[],[],[],[],[]⟩ rfl af rfl ?_;rw[ag,san];refine⟨b,lsl,l,u1,s1,inn,acc++[40],p,t,rfl,X1,P,W,hn,hl,F.sub (a:=[40]) (c:=[41]) rfl,fun u2 s2 k2 X2 G2=>?_⟩;refine rR ⟨[],[],[],[],[],[]⟩ rfl af rfl ?_;rw[ae,aK];intro b2 hb2;rw[ag,sb3];refine aW (ss:=[[41]]) X2 hb2 ?_ (by simp) fun u3 s3 k3 X3 G3=>?_
   . have:=F.put (a:=40::tx t) (b:=[41]) (c:=[]) (by simp[brk]);simpa using this
   refine rR ⟨[],[],[],[],[],[]⟩ rfl af rfl ?_;rw[ak,ep];refine hφ u3 s3 k3 ?_ ((G1.trans G2 X1.prn.nn).trans G3 X2.prn.nn);simpa[brk] using X3
 . rw[decide_eq_false hlv] at F hφ;have hz:(least:Int)<=(t.lv:Int):=by omega
   rw[ah,if_pos (by simpa[go_sem] using hz)];rw[ag,san];refine⟨b,lsl,l,used,sl,inn,acc,p,t,rfl,X,P,W,hn,hl,F,fun u2 s2 k2 X2 G2=>?_⟩;refine rR ⟨[],[],[],[],[],[]⟩ rfl af rfl ?_;rw[ak,ep];exact hφ u2 s2 k2 X2 G2
def rtl (j:Nat) (ts:List Tr):List UInt8:=if j=0 then rY ts else Et ts
theorem aaU (j:Nat) (t:Tr) (ts:List Tr):rtl j (t::ts)=(if j=0 then [] else [44,32])++(tx t++rtl (j+1) ts):=by
 unfold rtl;rw[if_neg (Nat.succ_ne_zero j)];split
 . rw[rY];rfl
 . rw[Et];rfl
theorem ado (j:Nat):rtl j []=[]:=by
 unfold rtl;split<;>simp[rY,Et]
theorem sG.app:∀ {a b:List Tr},sG (a++b)->sG b
 | [],_,h=>h
 | _::_,_,.cons _ _ _ hs=>sG.app hs
theorem JM.app {l:List Ng} {p:Nat} {a b:List Tr} (h:JM l p (a++b)):JM l (p+Tr.ns a) b:=by
 obtain⟨pre,post,rfl,rfl⟩:=h;refine⟨pre++Tr.rP a,post,by simp[Tr.rP,mY],by rw[List.length_append,oJ]⟩
def JG (h:Hp) (b:Nat) (lsl:bM) (l:List Ng) (sl:bM) (inn:Int) (acc:List UInt8) (p:Nat) (ts:List Tr) (s:bM) (_:Nat) (C:Ctx):Prop:=
 ∃ (j:Nat) (u:Bool) (s':bM) (k:Hp) (pre rest:List Tr) (a:List UInt8),C=⟨[j],[],[],[],[s],[some (b,0)],k,df⟩/\ts=pre++rest/\pre.length=j/\mF k b lsl l u s' inn (acc++a)/\qB h k b sl s'/\iy k s (places (p:Nat) ts)/\a++rtl j rest=rY ts
set_option maxHeartbeats 4000000 in
theorem U2 {n:Nat} (ih:AO n):XI n:=by
 rintro args h φ w ⟨b,lsl,l,used,sl,inn,acc,p,ts,s,rfl,X,P,W,hn,R,hl,F,hφ⟩ hH;refine bn Tryz.func56 Zg adc [ig,lI ih] φ (JG h b lsl l sl inn acc p ts s) (fun _ C=>((ts.length:Int) - C.i.getD 0 0).toNat) ⟨[],[],[],[],[s],[some (b,0)],h,df⟩ ⟨rfl,rfl,rfl,rfl,rfl,rfl⟩ af ?_ w hH rfl;generalize hE:(⟨aG _,_,_,_⟩:Env)=E;have sb3:E.spec 41=(ig).spec:=by rw[<- hE];rfl
 have san:E.spec 26=(lI ih).spec:=by rw[<- hE];rfl
 have ep:E.post=φ:=by rw[<- hE]
 have ei:E.inv=(JG h b lsl l sl inn acc p ts s):=by rw[<- hE]
 have em:E.meas=(fun _ C=>((ts.length:Int) - C.i.getD 0 0).toNat):=by rw[<- hE]
 clear hE;unfold TA;have hsn:=R.n;rw[dK] at hsn;have hts6:ts.length<=1000000:=by
  obtain⟨pre,post,rfl,_⟩:=P;have:=vI ts;rw[List.length_append,List.length_append,oJ] at hl;omega
 refine bI ?_ ?_
 . rw[ei];exact⟨0,used,sl,h,[],ts,[],rfl,rfl,rfl,by simpa using X,qB.refl _ _ _,R,by simp[rtl]⟩
 rw[ei,em];rintro i bb ss v ll pp hh M ⟨j,u,s',k,pre,rest,a,hC,hts,hj,X',G,R',ha⟩ hM;cases hC;have hM':M 0=((ts.length:Int) - j).toNat:=hM;have htl:ts.length=j+rest.length:=by rw[hts,List.length_append,hj]
 cases rest with
 | nil=>
   rw[List.length_nil] at htl;have hz:¬ ((j:Int)<s.n):=by omega
   rw[ado,List.append_nil] at ha;rw[aj,if_neg (by simpa[go_sem] using hz)];rw[ak,ep];rw[ha] at X';exact hφ u s' hh X' G
 | cons t rest=>
   rw[List.length_cons] at htl;have hz:(j:Int)<s.n:=by omega
   rw[aaU] at ha;have hP:=JM.app (show JM l p (pre++(t::rest)) by rw[<- hts];exact P);have hW:=sG.app (show sG (pre++(t::rest)) by rw[<- hts];exact W);obtain⟨hP1,hP2⟩:=hP.cons;have hWt:jC t:=by cases hW;assumption
   have htn:t.n<=n:=by
    rw[hts,iZ,ay] at hn;omega
   have hpl:(places (p:Nat) ts)[j]? = some ((p+Tr.ns pre:Nat):Int):=by
    rw[hts,qU,List.getElem?_append_right (by rw[dK];omega),dK,hj,Nat.sub_self,places];simp
   obtain⟨hj3,hj4⟩:=List.getElem?_eq_some_iff.1 hpl;obtain⟨c1,o1,hsa,hrd⟩:=R'.read hj3;rw[hj4] at hrd;rw[aj,if_pos (by simpa[go_sem] using hz)];rw[ai];refine⟨by simp[go_sem,hsa]<;>omega,?_⟩;refine rL ⟨[((p+Tr.ns pre:Nat):Int)],[],[],[],[],[]⟩ rfl af (by simpa[go_sem,hsa] using hrd) ?_;have hlast:∀ (u2:Bool) (s2:bM) (k2:Hp),mF k2 b lsl l u2 s2 inn (acc++(a++(if j=0 then [] else [44,32])++tx t))->qB hh k2 b s' s2->
    JG h b lsl l sl inn acc p ts s 0 ⟨[(j:Int)+1],[],[],[],[s],[some (b,0)],k2,df⟩:=fun u2 s2 k2 X2 G2=>
    ⟨j+1,u2,s2,k2,pre++[t],rest,a++(if j=0 then [] else [44,32])++tx t,rfl,by rw[hts];simp,by simp[hj],X2,G.trans G2 X'.prn.nn,R'.go X'.prn G2,by rw[<- ha];simp⟩
   by_cases hj0:j=0
   . have hz0:¬ ((0:Int)<(j:Int)):=by omega
     rw[ah,if_neg (by simpa[go_sem] using hz0)];rw[ag,san];rw[if_pos hj0] at ha hlast;refine⟨b,lsl,l,u,s',inn,acc++a,p+Tr.ns pre,t,rfl,X',hP1,hWt,htn,hl,F.sub (a:=a) (c:=rtl (j+1) rest) ?_,fun u2 s2 k2 X2 G2=>?_⟩
     . rw[<- ha];simp
     refine rR ⟨[],[],[],[],[],[]⟩ rfl af rfl ?_;rw[ai];refine⟨by simp[go_sem]<;>omega,?_⟩;rw[ae,says_again,ei,em];refine⟨hlast u2 s2 k2 (by simpa using X2) G2,?_⟩;show (((ts.length:Int) - ((j:Int)+1)).toNat)<M 0;omega
   . have hz0:(0:Int)<(j:Int):=by omega
     rw[ah,if_pos (by simpa[go_sem] using hz0)];rw[if_neg hj0] at ha hlast;rw[ae,aK];intro b1 hb1;rw[ag,sb3];refine aW (ss:=[[44,32]]) X' hb1 (F.put (a:=a) (b:=[44,32]) (c:=tx t++rtl (j+1) rest) ha.symm) (by simp) fun u1 s1 k1 X1 G1=>?_
     refine rR ⟨[],[],[],[],[],[]⟩ rfl af rfl ?_;rw[ag,san];refine⟨b,lsl,l,u1,s1,inn,_,p+Tr.ns pre,t,rfl,X1,hP1,hWt,htn,hl,?_,fun u2 s2 k2 X2 G2=>?_⟩
     . have:=F.sub (a:=a++[44,32]) (b:=tx t) (c:=rtl (j+1) rest) (by rw[<- ha];simp);simpa using this
     refine rR ⟨[],[],[],[],[],[]⟩ rfl af rfl ?_;rw[ai];refine⟨by simp[go_sem]<;>omega,?_⟩;rw[ae,says_again,ei,em];refine⟨hlast u2 s2 k2 (by simpa using X2) (G1.trans G2 X1.prn.nn),?_⟩;show (((ts.length:Int) - ((j:Int)+1)).toNat)<M 0;omega
def Tu:Fm:=(.C 96 [.J 4] (.tup [.S 1,.J 5]) ⟨1,0,1,0,0,0⟩
 (.ite (.or (.eqI (.x 5) (.c 3)) (.eqI (.x 5) (.c 4)))
 (.N (.R (.add (.x 5) (.c 1)))
 (.N (.X (.c 0) (.x 0))
 (.O (.el (.x 0) (.c 0) 1 0) 1 [.J 6] ⟨1,0,0,0,0,0⟩
 (.V 57 [.P 0,.J 6,(.I (.add (.x 5) (.c 1)))]
 (.mk [(.s (.c [32])),(.s (.x 1)),(.s (.c [32]))] 9 3
 (.V 41 [.P 0,.L 1]
 (.N (.X (.c 1) (.x 0))
 (.O (.el (.x 0) (.c 1) 1 0) 1 [.J 7] ⟨1,0,0,0,0,0⟩
 (.N (.R (.add (.x 5) (.c 1)))
 (.V 57 [.P 0,.J 7,(.I (.add (.x 5) (.c 1)))]
 .E))))))))))
 (.N (.X (.c 0) (.x 0))
 (.O (.el (.x 0) (.c 0) 1 0) 1 [.J 6] ⟨1,0,0,0,0,0⟩
 (.V 57 [.P 0,.J 6,.J 5]
 (.mk [(.s (.c [32])),(.s (.x 1)),(.s (.c [32]))] 9 3
 (.V 41 [.P 0,.L 1]
 (.N (.X (.c 1) (.x 0))
 (.O (.el (.x 0) (.c 1) 1 0) 1 [.J 7] ⟨1,0,0,0,0,0⟩
 (.N (.R (.add (.x 5) (.c 1)))
 (.V 57 [.P 0,.J 7,(.I (.add (.x 5) (.c 1)))]
 .E)))))))))))
theorem Zd:aZ ⟨true,[]⟩ Tryz.prog (fun l=>([]:List bK).getD l ⟨[],[],[]⟩) Tryz.f58=Tu:=by kernel_rfl
theorem ac9:az Tryz.prog .zero Tryz.f58.params.toList=some ([.P 0,(.agg [.U 0,.J 1,.J 2,.J 3,.J 4,(.s (.x 0))]),.L 0],⟨5,0,1,0,1,1⟩):=by kernel_rfl
def L6:Fm:=(.Z 0
 (.Z 0
 (.O (.pt 0 0) 1 [(.sl (.x 0))] ⟨0,0,0,0,1,0⟩
 (.N (.X (.x 0) (.x 0))
 (.O (.el (.x 0) (.x 0) 6 0) 6 [.U 1,.J 2,.J 3,.J 4,.J 5,(.s (.x 0))] ⟨5,0,1,0,0,0⟩
 (.C 38 [.P 0,.J 0] (.p (.L 1)) ⟨0,0,0,0,1,0⟩
 (.ite (.eqI (.x 1) (.c 21))
 (.C 54 [.J 5] (.p (.S 1)) ⟨0,0,1,0,0,0⟩
 (.mk [(.s (.x 1))] 9 1
 (.V 41 [.P 0,.L 2]
 .E)))
 (.ite (.eqI (.x 1) (.c 22))
 (.C 54 [.J 5] (.p (.S 1)) ⟨0,0,1,0,0,0⟩
 (.mk [(.s (.x 1)),(.s (.c [105]))] 9 2
 (.V 41 [.P 0,.L 2]
 .E)))
 (.ite (.eqI (.x 1) (.c 23))
 (.C 55 [.S 0] (.p (.S 1)) ⟨0,0,1,0,0,0⟩
 (.mk [(.s (.x 1))] 9 1
 (.V 41 [.P 0,.L 2]
 .E)))
 (.ite (.eqI (.x 1) (.c 24))
 (.N (.and (.le (.c 0) (.x 5)) (.lt (.x 5) (.c 2)))
 (.mk [(.s (.ite (.eqI (.x 5) (.c 0)) (.c [102,97,108,115,101]) (.c [116,114,117,101])))] 9 1
 (.V 41 [.P 0,.L 2]
 .E)))
 (.ite (.eqI (.x 1) (.c 25))
 (.mk [(.s (.c [110,105,108]))] 9 1
 (.V 41 [.P 0,.L 2]
 .E))
 (.ite (.eqI (.x 1) (.c 26))
 (.mk [(.s (.x 0))] 9 1
 (.V 41 [.P 0,.L 2]
 .E))
 (.ite (.eqI (.x 1) (.c 27))
 (.mk [(.s (.x 0)),(.s (.c [40]))] 9 2
 (.V 41 [.P 0,.L 2]
 (.V 56 [.P 0,.L 1]
 (.mk [(.s (.c [41]))] 9 1
 (.V 41 [.P 0,.L 3]
 .E)))))
 (.ite (.eqI (.x 1) (.c 28))
 (.N (.X (.c 0) (.x 1))
 (.O (.el (.x 1) (.c 0) 1 0) 1 [.J 6] ⟨1,0,0,0,0,0⟩
 (.V 57 [.P 0,.J 6,(.I (.c 8))]
 (.mk [(.s (.c [91]))] 9 1
 (.V 41 [.P 0,.L 2]
 (.N (.X (.c 1) (.x 1))
 (.O (.el (.x 1) (.c 1) 1 0) 1 [.J 7] ⟨1,0,0,0,0,0⟩
 (.V 26 [.P 0,.J 7]
 (.mk [(.s (.c [93]))] 9 1
 (.V 41 [.P 0,.L 3]
 .E))))))))))
 (.ite (.eqI (.x 1) (.c 29))
 (.N (.X (.c 0) (.x 1))
 (.O (.el (.x 1) (.c 0) 1 0) 1 [.J 6] ⟨1,0,0,0,0,0⟩
 (.V 57 [.P 0,.J 6,(.I (.c 8))]
 (.mk [(.s (.c [46])),(.s (.x 0))] 9 2
 (.V 41 [.P 0,.L 2]
 .E)))))
 (.ite (.eqI (.x 1) (.c 30))
 (.mk [(.s (.ite (.eqI (.x 5) (.c 12)) (.c [45]) (.c [33])))] 9 1
 (.V 41 [.P 0,.L 2]
 (.N (.X (.c 0) (.x 1))
 (.O (.el (.x 1) (.c 0) 1 0) 1 [.J 6] ⟨1,0,0,0,0,0⟩
 (.V 57 [.P 0,.J 6,(.I (.c 7))]
 .E)))))
 (.ite (.eqI (.x 1) (.c 31))
 (.V 58 [.P 0,(.agg [.U 1,.J 2,.J 3,.J 4,.J 5,(.s (.x 0))]),.L 1]
 .E)
 (.ite (.eqI (.x 1) (.c 32))
 (.N (.X (.c 0) (.x 1))
 (.O (.el (.x 1) (.c 0) 1 0) 1 [.J 6] ⟨1,0,0,0,0,0⟩
 (.C 28 [.P 0,.J 6] (.p (.S 1)) ⟨0,0,1,0,0,0⟩
 (.mk [(.s (.c [109,97,107,101,32])),(.s (.x 1)),(.s (.c [40]))] 9 3
 (.V 41 [.P 0,.L 2]
 (.N (.and (.le (.cnt (.x 1)) (.cap (.x 1))) (.and (.le (.c 0) (.c 1)) (.le (.c 1) (.cnt (.x 1)))))
 (.V 56 [.P 0,(.one (.sl (.sub (.x 1) (.c 1) (.cnt (.x 1)) 1)))]
 (.mk [(.s (.c [41]))] 9 1
 (.V 41 [.P 0,.L 3]
 .E)))))))))
 .E))))))))))))))))))
theorem V8:aZ ⟨true,[]⟩ Tryz.prog (fun l=>([]:List bK).getD l ⟨[],[],[]⟩) Tryz.f26=L6:=by kernel_rfl
theorem aax:az Tryz.prog .zero Tryz.f26.params.toList=some ([.P 0,.J 0],⟨1,0,0,0,0,1⟩):=by kernel_rfl
set_option maxHeartbeats 4000000 in
theorem UZ {n:Nat} (ih:H5 n):XH n:=by
 rintro args h φ w ⟨b,lsl,l,used,sl,inn,acc,x,p,a,c,s,rfl,X,P,P2,W,W2,hn,hn2,R,hl,F,hφ⟩ hH;refine bn Tryz.func58 Zd ac9 [AX,ig,AV ih] φ (bP) (bu) ⟨[x.k,x.l,x.c,x.z,x.n],[],[x.x],[],[s],[some (b,0)],h,df⟩ ⟨rfl,rfl,rfl,rfl,rfl,rfl⟩ af ?_ w hH rfl;generalize hE:(⟨aG _,_,_,_⟩:Env)=E;have sb1:E.spec 96=(AX).spec:=by rw[<- hE];rfl
 have sb3:E.spec 41=(ig).spec:=by rw[<- hE];rfl
 have sb4:E.spec 57=(AV ih).spec:=by rw[<- hE];rfl
 have ep:E.post=φ:=by rw[<- hE]
 clear hE;unfold Tu;have hsn:=R.n;have hsn2:s.n=2:=hsn;have hlv:=adN x.n;rw[au,if_pos (by rfl),sb1];refine⟨x.n,rfl,?_⟩;generalize hg:jT x.n=g at *;refine rR ⟨[((g.2:Nat):Int)],[],[g.1],[],[],[]⟩ rfl af rfl ?_;unfold XP at F hφ;rw[hg] at F hφ;obtain⟨q0,o0,hq0,hr0⟩:=R.read (j:=0) (by simp);have tail:∀ (u1:Bool) (s1:bM) (k1:Hp) (lf:Nat),lf=xJ g.2->mF k1 b lsl l u1 s1 inn (acc++brk (decide (a.lv<lf)) (tx a))->qB h k1 b sl s1->∀ (i:List Int) (M:Nat->Nat),i.length=7->i.getD 5 0=((g.2:Nat):Int)->
  Then E (.mk [(.s (.c [32])),(.s (.x 1)),(.s (.c [32]))] 9 3 (.V 41 [.P 0,.L 1]
   (.N (.X (.c 1) (.x 0)) (.O (.el (.x 0) (.c 1) 1 0) 1 [.J 7] ⟨1,0,0,0,0,0⟩
   (.N (.R (.add (.x 5) (.c 1)))
   (.V 57 [.P 0,.J 7,(.I (.add (.x 5) (.c 1)))] .E)))))) ⟨i,[],[x.x,g.1],[],[s],[some (b,0)],k1,M⟩:=by
  intro u1 s1 k1 lf hlf X1 G1 i M hi h5;obtain⟨i0,i1,i2,i3,i4,i5,i6,rfl⟩:∃ i0 i1 i2 i3 i4 i5 i6,i=[i0,i1,i2,i3,i4,i5,i6]:=by
   match i,hi with
   | [i0,i1,i2,i3,i4,i5,i6],_=>exact⟨i0,i1,i2,i3,i4,i5,i6,rfl⟩
  have h5':i5=((g.2:Nat):Int):=h5;subst h5' hlf;have R1:=R.go X.prn G1;obtain⟨q1,o1,hq1,hr1⟩:=R1.read (j:=1) (by simp);rw[ae,aK];intro b1 hb1;rw[ag,sb3];refine aW (ss:=[[32],g.1,[32]]) X1 hb1 ?_ (by simp) fun u2 s2 k2 X2 G2=>?_
  . have:=F.put (a:=brk (decide (a.lv<xJ g.2)) (tx a)) (b:=32::(g.1++[32])) (c:=brk (decide (c.lv<g.2+1)) (tx c)) (by simp);simpa using this
  refine rR ⟨[],[],[],[],[],[]⟩ rfl af rfl ?_;have R2:=R1.go X1.prn G2;obtain⟨q2,o2,hq2,hr2⟩:=R2.read (j:=1) (by simp);rw[ai];refine⟨by simp[go_sem,hq2]<;>omega,?_⟩;refine rL ⟨[((p+a.n:Nat):Int)],[],[],[],[],[]⟩ rfl af (by simpa[go_sem,hq2] using hr2) ?_;rw[ai];refine⟨by simp[go_sem]<;>omega,?_⟩;rw[ag,sb4];refine⟨b,lsl,l,u2,s2,inn,_,p+a.n,c,g.2+1,rfl,X2,P2,W2,hn2,hl,?_,fun u3 s3 k3 X3 G3=>?_⟩
  . have:=F.sub (a:=brk (decide (a.lv<xJ g.2)) (tx a)++(32::(g.1++[32]))) (b:=brk (decide (c.lv<g.2+1)) (tx c)) (c:=[]) (by simp);simpa using this
  refine rR ⟨[],[],[],[],[],[]⟩ rfl af rfl ?_;rw[ak,ep];refine hφ u3 s3 k3 ?_ ((G1.trans G2 X1.prn.nn).trans G3 X2.prn.nn);simpa using X3
 by_cases h34:g.2=3\/g.2=4
 . have hz:((g.2:Nat):Int)=3\/((g.2:Nat):Int)=4:=by omega
   have hlf:g.2+1=xJ g.2:=by unfold xJ;rw[if_pos h34]
   rw[ah,if_pos (by simpa[go_sem] using hz)];rw[ai];refine⟨by simp[go_sem]<;>omega,?_⟩;rw[ai];refine⟨by simp[go_sem,hq0]<;>omega,?_⟩;refine rL ⟨[((p:Nat):Int)],[],[],[],[],[]⟩ rfl af (by simpa[go_sem,hq0] using hr0) ?_;rw[ag,sb4];refine⟨b,lsl,l,used,sl,inn,acc,p,a,g.2+1,rfl,X,P,W,hn,hl,?_,fun u1 s1 k1 X1 G1=>?_⟩
   . rw[hlf];simpa using F.sub (a:=[]) (b:=brk (decide (a.lv<xJ g.2)) (tx a)) rfl
   refine rR ⟨[],[],[],[],[],[]⟩ rfl af rfl ?_;exact tail u1 s1 k1 _ hlf X1 G1 _ _ rfl rfl
 . have hz:¬ (((g.2:Nat):Int)=3\/((g.2:Nat):Int)=4):=by omega
   have hlf:g.2=xJ g.2:=by unfold xJ;rw[if_neg h34]
   rw[ah,if_neg (by simpa[go_sem] using hz)];rw[ai];refine⟨by simp[go_sem,hq0]<;>omega,?_⟩;refine rL ⟨[((p:Nat):Int)],[],[],[],[],[]⟩ rfl af (by simpa[go_sem,hq0] using hr0) ?_;rw[ag,sb4];refine⟨b,lsl,l,used,sl,inn,acc,p,a,g.2,rfl,X,P,W,hn,hl,?_,fun u1 s1 k1 X1 G1=>?_⟩
   . have:=F.sub (a:=[]) (b:=brk (decide (a.lv<xJ g.2)) (tx a)) rfl;rw[<- hlf] at this;simpa using this
   refine rR ⟨[],[],[],[],[],[]⟩ rfl af rfl ?_;exact tail u1 s1 k1 _ hlf X1 G1 _ _ rfl rfl
theorem iC (k l c n:Int) (x:List UInt8) (ks:List Tr):(Tr.nd k l c n x ks).n=Tr.ns ks+1:=by rw[mQ,Tr.sz,mr]
set_option maxHeartbeats 8000000 in
set_option maxRecDepth 10000 in
theorem uj:∀ n,AO n
 | 0=>by
   rintro args h φ w ⟨b,lsl,l,used,sl,inn,acc,p,t,rfl,X,P,W,hn,_⟩ hH;rw[mQ] at hn;omega
 | n+1=>by
   have ih:=uj n;rintro args h φ w ⟨b,lsl,l,used,sl,inn,acc,p,t,rfl,X,P,W,hn,hl,F,hφ⟩ hH;refine bn Tryz.func26 V8 aax [jR,RJ,RQ,ig,Ym (U2 ih),AV (yH ih),lI ih,Yk (UZ (yH ih)),lJ (kQ 1000000)] φ (bP) (bu) ⟨[((p:Nat):Int)],[],[],[],[],[some (b,0)],h,df⟩ ⟨rfl,rfl,rfl,rfl,rfl,rfl⟩ af ?_ w hH rfl;generalize hE:(⟨aG _,_,_,_⟩:Env)=E;have sb5:E.spec 38=(jR).spec:=by rw[<- hE];rfl
   have sb6:E.spec 54=(RJ).spec:=by rw[<- hE];rfl
   have sb7:E.spec 55=(RQ).spec:=by rw[<- hE];rfl
   have sb3:E.spec 41=(ig).spec:=by rw[<- hE];rfl
   have sau:E.spec 56=(Ym (U2 ih)).spec:=by rw[<- hE];rfl
   have sb4:E.spec 57=(AV (yH ih)).spec:=by rw[<- hE];rfl
   have san:E.spec 26=(lI ih).spec:=by rw[<- hE];rfl
   have sah:E.spec 58=(Yk (UZ (yH ih))).spec:=by rw[<- hE];rfl
   have sa0:E.spec 28=(lJ (kQ 1000000)).spec:=by rw[<- hE];rfl
   have ep:E.post=φ:=by rw[<- hE]
   clear hE;unfold L6;obtain⟨c0,o0,ha,hrd,hpn⟩:=X.node P;obtain⟨hpl,hpt⟩:=P.node;have hb:=X.prn.at_;have hlt:=P.lt;rw[<- ae];rw[ai];refine⟨by simp[go_sem]<;>omega,?_⟩;rw[ai];refine⟨by simp[go_sem]<;>omega,?_⟩;refine rL ⟨[],[],[],[],[lsl],[]⟩ rfl af (by simp[go_sem,bz hb,prn]) ?_;rw[ai];refine⟨by simp[go_sem,ha]<;>omega,?_⟩;obtain⟨k,ln,c,nn,x,ks⟩:=t;rw[iC] at hlt hn;have hks:=vI ks;refine rL ⟨[k,ln,c,((Tr.ns ks:Nat):Int),nn],[],[x],[],[],[]⟩ rfl af (by simpa[go_sem,ha,Ng.cs,Tr.g] using hrd) ?_;rw[ag,sb5];refine⟨b,lsl,l,p,((Tr.ns ks:Nat):Int),ks.length,places ((p:Nat)+1) ks,_,_,rfl,hb,X.row,hl,by omega,⟨l[p],List.getElem?_eq_getElem hpl,by rw[hpt];rfl⟩,by omega,by omega,P.iI (Nat.le_refl _),fun s k1 hle ho hsn=>?_⟩;refine rR ⟨[],[],[],[],[s],[]⟩ rfl af rfl ?_;have X1:=X.le hle;have R:=iy.own ho hsn;have fin:Writes k1 b lsl l sl inn (acc++tx (.nd k ln c nn x ks)) φ:=fun u2 s2 k2 Y G=>hφ u2 s2 k2 Y (G.le hle)
   have ps:((p:Nat):Int)+1=((p+1:Nat):Int):=by omega
   rw[ps] at R;have hn':Tr.ns ks<=n:=by omega
   clear hφ ho hle;have PK:=P.kids;cases W with
   | int _ _ _ h0=>
     rw[ah,if_pos (by simp[go_sem])];rw[ag,sb6];refine⟨nn,rfl,by omega,by omega,?_⟩;refine rR ⟨[],[],[txt nn],[],[],[]⟩ rfl af rfl ?_;have e:tx (.nd 21 ln c nn [] [])=txt nn:=by rw[tx.eq_def];simp
     rw[e] at F fin;rw[ae,aK];intro bb hbb;rw[ag,sb3];refine aW (ss:=[txt nn]) X1 hbb (by simpa using F.2) (by simp) fun u2 s2 k2 Y G=>?_
     refine rR ⟨[],[],[],[],[],[]⟩ rfl af rfl ?_;rw[ak,ep];exact fin u2 s2 k2 (by simpa using Y) G
   | comp _ _ _ h0=>
     iterate 1 (rw[ah,if_neg (by simp[go_sem])])
     rw[ah,if_pos (by simp[go_sem])];rw[ag,sb6];refine⟨nn,rfl,by omega,by omega,?_⟩;refine rR ⟨[],[],[txt nn],[],[],[]⟩ rfl af rfl ?_;have e:tx (.nd 22 ln c nn [] [])=txt nn++[105]:=by rw[tx.eq_def];simp
     rw[e] at F fin;rw[ae,aK];intro bb hbb;rw[ag,sb3];refine aW (ss:=[txt nn,[105]]) X1 hbb (by simpa using F.2) (by simp) fun u2 s2 k2 Y G=>?_
     refine rR ⟨[],[],[],[],[],[]⟩ rfl af rfl ?_;rw[ak,ep];exact fin u2 s2 k2 (by simpa using Y) G
   | str _ _ _ hx=>
     iterate 2 (rw[ah,if_neg (by simp[go_sem])])
     rw[ah,if_pos (by simp[go_sem])];have e:tx (.nd 23 ln c 0 x [])=quo x:=by rw[tx.eq_def];simp
     rw[e] at F fin;rw[ag,sb7];refine⟨x,rfl,hx,?_⟩;refine rR ⟨[],[],[quo x],[],[],[]⟩ rfl af rfl ?_;rw[ae,aK];intro bb hbb;rw[ag,sb3];refine aW (ss:=[quo x]) X1 hbb (by simpa using F.2) (by simp) fun u2 s2 k2 Y G=>?_
     refine rR ⟨[],[],[],[],[],[]⟩ rfl af rfl ?_;rw[ak,ep];exact fin u2 s2 k2 (by simpa using Y) G
   | bool _ _ _ h0=>
     iterate 3 (rw[ah,if_neg (by simp[go_sem])])
     rw[ah,if_pos (by simp[go_sem])];rw[ai];refine⟨by simp[go_sem]<;>omega,?_⟩;rw[ae,aK];intro bb hbb;rw[ag,sb3];rcases h0 with rfl | rfl
     . have e:tx (.nd 24 ln c 0 [] [])=gz:=by rw[tx.eq_def];simp
       rw[e] at F fin;refine aW (ss:=[gz]) X1 hbb (by simpa using F.2) (by simp) fun u2 s2 k2 Y G=>?_
       refine rR ⟨[],[],[],[],[],[]⟩ rfl af rfl ?_;rw[ak,ep];exact fin u2 s2 k2 (by simpa using Y) G
     . have e:tx (.nd 24 ln c 1 [] [])=jq:=by rw[tx.eq_def];simp
       rw[e] at F fin;refine aW (ss:=[jq]) X1 hbb (by simpa using F.2) (by simp) fun u2 s2 k2 Y G=>?_
       refine rR ⟨[],[],[],[],[],[]⟩ rfl af rfl ?_;rw[ak,ep];exact fin u2 s2 k2 (by simpa using Y) G
   | nil=>
     iterate 4 (rw[ah,if_neg (by simp[go_sem])])
     rw[ah,if_pos (by simp[go_sem])];have e:tx (.nd 25 ln c 0 [] [])=oh:=by rw[tx.eq_def];simp
     rw[e] at F fin;rw[ae,aK];intro bb hbb;rw[ag,sb3];refine aW (ss:=[oh]) X1 hbb (by simpa using F.2) (by simp) fun u2 s2 k2 Y G=>?_
     refine rR ⟨[],[],[],[],[],[]⟩ rfl af rfl ?_;rw[ak,ep];exact fin u2 s2 k2 (by simpa using Y) G
   | name _ _ _ h0=>
     iterate 5 (rw[ah,if_neg (by simp[go_sem])])
     rw[ah,if_pos (by simp[go_sem])];rw[JD] at F fin;rw[ae,aK];intro bb hbb;rw[ag,sb3];refine aW (ss:=[x]) X1 hbb (by simpa using F.2) (by simp) fun u2 s2 k2 Y G=>?_
     refine rR ⟨[],[],[],[],[],[]⟩ rfl af rfl ?_;rw[ak,ep];exact fin u2 s2 k2 (by simpa using Y) G
   | call _ _ _ h0 _ hk=>
     iterate 6 (rw[ah,if_neg (by simp[go_sem])])
     rw[ah,if_pos (by simp[go_sem])];rw[Bz] at F fin;rw[ae,aK];intro bb hbb;rw[ag,sb3];refine aW (ss:=[x,[40]]) X1 hbb (F.p0 (b:=x++[40]) (c:=rY ks++[41]) (by simp)) (by simp) fun u2 s2 k2 X2 G2=>?_
     refine rR ⟨[],[],[],[],[],[]⟩ rfl af rfl ?_;rw[ag,sau];have R2:=R.go X1.prn G2;refine⟨b,lsl,l,u2,s2,inn,_,p+1,ks,s,rfl,X2,PK,hk,hn',R2,hl,?_,fun u3 s3 k3 X3 G3=>?_⟩
     . simpa using F.sub (a:=x++[40]) (b:=rY ks) (c:=[41]) (by simp)
     refine rR ⟨[],[],[],[],[],[]⟩ rfl af rfl ?_;rw[ae,aK];intro b3 hb3;rw[ag,sb3];refine aW (ss:=[[41]]) X3 hb3 (by simpa using F.put (a:=x++(40::rY ks)) (b:=[41]) (c:=[]) (by simp)) (by simp) fun u4 s4 k4 X4 G4=>?_
     refine rR ⟨[],[],[],[],[],[]⟩ rfl af rfl ?_;rw[ak,ep];exact fin u4 s4 k4 (by simpa using X4) ((G2.trans G3 X2.prn.nn).trans G4 X3.prn.nn)
   | index _ _ a a2 w1 w2=>
     iterate 7 (rw[ah,if_neg (by simp[go_sem])])
     rw[ah,if_pos (by simp[go_sem])];rw[yA] at F fin;obtain⟨P1,PK2⟩:=PK.cons;have P2:=PK2.cons.1;have hR:iy k1 s [((p+1:Nat):Int),((p+1+a.n:Nat):Int)]:=by simpa[places] using R
     rw[ay,ay,aQ] at hn';have hs2:s.n=2:=hR.n;obtain⟨q0,y0,hq0,hr0⟩:=hR.read (j:=0) (by simp);rw[ai];refine⟨by simp[go_sem,hq0]<;>omega,?_⟩;refine rL ⟨[((p+1:Nat):Int)],[],[],[],[],[]⟩ rfl af (by simpa[go_sem,hq0] using hr0) ?_;rw[ag,sb4];refine⟨b,lsl,l,used,sl,inn,acc,p+1,a,8,rfl,X1,P1,w1,by omega,hl,?_,fun u2 s2 k2 X2 G2=>?_⟩
     . simpa using F.sub (a:=[]) (b:=brk (decide (a.lv<8)) (tx a)) rfl
     refine rR ⟨[],[],[],[],[],[]⟩ rfl af rfl ?_;rw[ae,aK];intro b2 hb2;rw[ag,sb3];refine aW (ss:=[[91]]) X2 hb2 (by simpa using F.put (a:=brk (decide (a.lv<8)) (tx a)) (b:=[91]) (c:=tx a2++[93]) (by simp)) (by simp) fun u3 s3 k3 X3 G3=>?_
     refine rR ⟨[],[],[],[],[],[]⟩ rfl af rfl ?_;have hR3:=(hR.go X1.prn G2).go X2.prn G3;obtain⟨q1,y1,hq1,hr1⟩:=hR3.read (j:=1) (by simp);rw[ai];refine⟨by simp[go_sem,hq1]<;>omega,?_⟩;refine rL ⟨[((p+1+a.n:Nat):Int)],[],[],[],[],[]⟩ rfl af (by simpa[go_sem,hq1] using hr1) ?_;rw[ag,san];refine⟨b,lsl,l,u3,s3,inn,_,p+1+a.n,a2,rfl,X3,P2,w2,by omega,hl,?_,fun u4 s4 k4 X4 G4=>?_⟩
     . simpa using F.sub (a:=brk (decide (a.lv<8)) (tx a)++[91]) (b:=tx a2) (c:=[93]) (by simp)
     refine rR ⟨[],[],[],[],[],[]⟩ rfl af rfl ?_;rw[ae,aK];intro b4 hb4;rw[ag,sb3];refine aW (ss:=[[93]]) X4 hb4 (by simpa using F.put (a:=brk (decide (a.lv<8)) (tx a)++(91::tx a2)) (b:=[93]) (c:=[]) (by simp)) (by simp) fun u5 s5 k5 X5 G5=>?_
     refine rR ⟨[],[],[],[],[],[]⟩ rfl af rfl ?_;rw[ak,ep];exact fin u5 s5 k5 (by simpa using X5) (((G2.trans G3 X2.prn.nn).trans G4 X3.prn.nn).trans G5 X4.prn.nn)
   | dot _ _ _ h0 a w1=>
     iterate 8 (rw[ah,if_neg (by simp[go_sem])])
     rw[ah,if_pos (by simp[go_sem])];rw[JC] at F fin;obtain⟨P1,_⟩:=PK.cons;have hR:iy k1 s [((p+1:Nat):Int)]:=by simpa[places] using R
     rw[ay,aQ] at hn';have hs2:s.n=1:=hR.n;obtain⟨q0,y0,hq0,hr0⟩:=hR.read (j:=0) (by simp);rw[ai];refine⟨by simp[go_sem,hq0]<;>omega,?_⟩;refine rL ⟨[((p+1:Nat):Int)],[],[],[],[],[]⟩ rfl af (by simpa[go_sem,hq0] using hr0) ?_;rw[ag,sb4];refine⟨b,lsl,l,used,sl,inn,acc,p+1,a,8,rfl,X1,P1,w1,by omega,hl,?_,fun u2 s2 k2 X2 G2=>?_⟩
     . simpa using F.sub (a:=[]) (b:=brk (decide (a.lv<8)) (tx a)) rfl
     refine rR ⟨[],[],[],[],[],[]⟩ rfl af rfl ?_;rw[ae,aK];intro b2 hb2;rw[ag,sb3];refine aW (ss:=[[46],x]) X2 hb2 (by simpa using F.put (a:=brk (decide (a.lv<8)) (tx a)) (b:=46::x) (c:=[]) (by simp)) (by simp) fun u3 s3 k3 X3 G3=>?_
     refine rR ⟨[],[],[],[],[],[]⟩ rfl af rfl ?_;rw[ak,ep];exact fin u3 s3 k3 (by simpa using X3) (G2.trans G3 X2.prn.nn)
   | un _ _ _ h0 a w1=>
     iterate 9 (rw[ah,if_neg (by simp[go_sem])])
     rw[ah,if_pos (by simp[go_sem])];rw[abt] at F fin;obtain⟨P1,_⟩:=PK.cons;have hR:iy k1 s [((p+1:Nat):Int)]:=by simpa[places] using R
     rw[ay,aQ] at hn';have hs2:s.n=1:=hR.n;have go:∀ g:UInt8,Fits acc (g::brk (decide (a.lv<7)) (tx a))->Writes k1 b lsl l sl inn (acc++(g::brk (decide (a.lv<7)) (tx a))) φ->∀ (u2:Bool) (s2:bM) (k2:Hp),mF k2 b lsl l u2 s2 inn (acc++[g])->qB k1 k2 b sl s2->∀ (i:List Int) (s3:bM) (M:Nat->Nat),i.length=6->
      Then E (.N (.X (.c 0) (.x 1)) (.O (.el (.x 1) (.c 0) 1 0) 1 [.J 6] ⟨1,0,0,0,0,0⟩
       (.V 57 [.P 0,.J 6,(.I (.c 7))] .E))) ⟨i,[],[[]],[],[lsl,s,s3],[some (b,0)],k2,M⟩:=by
      intro g F fin u2 s2 k2 X2 G2 i s3 M hi;obtain⟨i0,i1,i2,i3,i4,i5,rfl⟩:∃ i0 i1 i2 i3 i4 i5,i=[i0,i1,i2,i3,i4,i5]:=by
       match i,hi with
       | [i0,i1,i2,i3,i4,i5],_=>exact⟨i0,i1,i2,i3,i4,i5,rfl⟩
      obtain⟨q0,y0,hq0,hr0⟩:=(hR.go X1.prn G2).read (j:=0) (by simp);rw[ai];refine⟨by simp[go_sem,hq0]<;>omega,?_⟩;refine rL ⟨[((p+1:Nat):Int)],[],[],[],[],[]⟩ rfl af (by simpa[go_sem,hq0] using hr0) ?_;rw[ag,sb4];refine⟨b,lsl,l,u2,s2,inn,_,p+1,a,7,rfl,X2,P1,w1,by omega,hl,?_,fun u4 s4 k4 X4 G4=>?_⟩
      . simpa using F.sub (a:=[g]) (b:=brk (decide (a.lv<7)) (tx a)) (c:=[]) (by simp)
      refine rR ⟨[],[],[],[],[],[]⟩ rfl af rfl ?_;rw[ak,ep];exact fin u4 s4 k4 (by simpa using X4) (G2.trans G4 X2.prn.nn)
     rw[ae,aK];intro bb hbb;rw[ag,sb3];rcases h0 with rfl | rfl
     . rw[if_pos rfl] at F fin;refine aW (ss:=[[45]]) X1 hbb (by simpa using F.put (a:=[]) (b:=[45]) (c:=brk (decide (a.lv<7)) (tx a)) rfl) (by simp) fun u2 s2 k2 X2 G2=>?_
       refine rR ⟨[],[],[],[],[],[]⟩ rfl af rfl ?_;exact go 45 F fin u2 s2 k2 (by simpa using X2) G2 _ _ _ rfl
     . rw[if_neg (by decide)] at F fin;refine aW (ss:=[[33]]) X1 hbb (by simpa using F.put (a:=[]) (b:=[33]) (c:=brk (decide (a.lv<7)) (tx a)) rfl) (by simp) fun u2 s2 k2 X2 G2=>?_
       refine rR ⟨[],[],[],[],[],[]⟩ rfl af rfl ?_;exact go 33 F fin u2 s2 k2 (by simpa using X2) G2 _ _ _ rfl
   | bin _ _ _ h0 a a2 w1 w2=>
     iterate 10 (rw[ah,if_neg (by simp[go_sem])])
     rw[ah,if_pos (by simp[go_sem])];rw[JB] at F fin;obtain⟨P1,PK2⟩:=PK.cons;have P2:=PK2.cons.1;have hR:iy k1 s [((p+1:Nat):Int),((p+1+a.n:Nat):Int)]:=by simpa[places] using R
     rw[ay,ay,aQ] at hn';rw[ag,sah];refine⟨b,lsl,l,used,sl,inn,acc,⟨31,ln,c,((Tr.ns [a,a2]:Nat):Int),nn,[]⟩,p+1,a,a2,s,rfl,X1,P1,P2,w1,w2,by omega,by omega,hR,hl,F,fun u2 s2 k2 X2 G2=>?_⟩;refine rR ⟨[],[],[],[],[],[]⟩ rfl af rfl ?_;rw[ak,ep];exact fin u2 s2 k2 X2 G2
   | make _ _ l' c' z h0=>
     iterate 11 (rw[ah,if_neg (by simp[go_sem])])
     rw[ah,if_pos (by simp[go_sem])];rw[uV] at F fin;obtain⟨P1,PK2⟩:=PK.cons;rw[ay,aQ] at hn';have hs2:=R.n;rw[dK,List.length_cons] at hs2;have hsc:=R.c;rw[places] at R;obtain⟨q0,y0,hq0,hr0⟩:=R.read (j:=0) (by simp);have hwk:yK (Tr.nd 19 l' c' 0 z []):=.big _ _ _ h0;have hkp:pU l 1000000 (p+1)=some (kK (Tr.nd 19 l' c' 0 z [])):=lC hwk P1 (by have:=P1.lt;omega);generalize kK (Tr.nd 19 l' c' 0 z [])=kt at F fin hkp;rw[ai];refine⟨by simp[go_sem,hq0]<;>omega,?_⟩;refine rL ⟨[((p+1:Nat):Int)],[],[],[],[],[]⟩ rfl af (by simpa[go_sem,hq0] using hr0) ?_;rw[ag,sa0];refine⟨b,lsl,l,p+1,kt,_,_,rfl,X1.prn.at_,X1.row,hl,hkp,?_,?_⟩
     . have:=(F.sub (a:=dX++[32]) (b:=kt) (c:=40::(rY []++[41])) (by simp)).1;omega
     refine rR ⟨[],[],[kt],[],[],[]⟩ rfl af rfl ?_;rw[ae,aK];intro bb hbb;rw[ag,sb3];refine aW (ss:=[[109,97,107,101,32],kt,[40]]) X1 hbb (F.p0 (b:=dX++(32::(kt++[40]))) (c:=rY []++[41]) (by simp)) (by simp) fun u2 s2 k2 X2 G2=>?_
     refine rR ⟨[],[],[],[],[],[]⟩ rfl af rfl ?_;rw[ai];refine⟨by simp[go_sem]<;>omega,?_⟩;rw[ag,sau];have R2:=(R.tail.go X1.prn G2);rw[show (((p+1:Nat):Int)+((Tr.nd 19 l' c' 0 z []).n:Nat))=((p+1+(Tr.nd 19 l' c' 0 z []).n:Nat):Int) by omega] at R2;refine⟨b,lsl,l,u2,s2,inn,_,p+1+(Tr.nd 19 l' c' 0 z []).n,[],⟨if s.c=1 then s.a else s.a.map fun x=>(x.1,x.2+1*1),s.n - 1,s.c - 1⟩,?_,X2,PK2,.nil,by rw[aQ];omega,R2,hl,?_,fun u3 s3 k3 X3 G3=>?_⟩
     . rfl
     . exact F.sub (a:=dX++(32::(kt++[40]))) (b:=rY []) (c:=[41]) (by simp)
     refine rR ⟨[],[],[],[],[],[]⟩ rfl af rfl ?_;rw[ae,aK];intro b3 hb3;rw[ag,sb3];refine aW (ss:=[[41]]) X3 hb3 (by simpa[dX] using F.put (a:=dX++(32::(kt++(40::rY [])))) (b:=[41]) (c:=[]) (by simp)) (by simp) fun u4 s4 k4 X4 G4=>?_
     refine rR ⟨[],[],[],[],[],[]⟩ rfl af rfl ?_;rw[ak,ep];exact fin u4 s4 k4 (by simpa[dX] using X4) ((G2.trans G3 X2.prn.nn).trans G4 X3.prn.nn)
   | makes _ _ l' c' t ht bb2 w2=>
     iterate 11 (rw[ah,if_neg (by simp[go_sem])])
     rw[ah,if_pos (by simp[go_sem])];rw[uV] at F fin;obtain⟨P1,PK2⟩:=PK.cons;rw[ay,ay,aQ] at hn';have hs2:=R.n;rw[dK,List.length_cons] at hs2;have hsc:=R.c;rw[places] at R;obtain⟨q0,y0,hq0,hr0⟩:=R.read (j:=0) (by simp);have hwk:yK (Tr.nd 20 l' c' 0 [] [t]):=.list _ _ _ ht;have hkp:pU l 1000000 (p+1)=some (kK (Tr.nd 20 l' c' 0 [] [t])):=lC hwk P1 (by have:=P1.lt;omega);generalize kK (Tr.nd 20 l' c' 0 [] [t])=kt at F fin hkp;rw[ai];refine⟨by simp[go_sem,hq0]<;>omega,?_⟩;refine rL ⟨[((p+1:Nat):Int)],[],[],[],[],[]⟩ rfl af (by simpa[go_sem,hq0] using hr0) ?_;rw[ag,sa0];refine⟨b,lsl,l,p+1,kt,_,_,rfl,X1.prn.at_,X1.row,hl,hkp,?_,?_⟩
     . have:=(F.sub (a:=dX++[32]) (b:=kt) (c:=40::(rY [bb2]++[41])) (by simp)).1;omega
     refine rR ⟨[],[],[kt],[],[],[]⟩ rfl af rfl ?_;rw[ae,aK];intro bb hbb;rw[ag,sb3];refine aW (ss:=[[109,97,107,101,32],kt,[40]]) X1 hbb (F.p0 (b:=dX++(32::(kt++[40]))) (c:=rY [bb2]++[41]) (by simp)) (by simp) fun u2 s2 k2 X2 G2=>?_
     refine rR ⟨[],[],[],[],[],[]⟩ rfl af rfl ?_;rw[ai];refine⟨by simp[go_sem]<;>omega,?_⟩;rw[ag,sau];have R2:=(R.tail.go X1.prn G2);rw[show (((p+1:Nat):Int)+((Tr.nd 20 l' c' 0 [] [t]).n:Nat))=((p+1+(Tr.nd 20 l' c' 0 [] [t]).n:Nat):Int) by omega] at R2;refine⟨b,lsl,l,u2,s2,inn,_,p+1+(Tr.nd 20 l' c' 0 [] [t]).n,[bb2],⟨if s.c=1 then s.a else s.a.map fun x=>(x.1,x.2+1*1),s.n - 1,s.c - 1⟩,?_,X2,PK2,.cons _ _ w2 .nil,by rw[ay,aQ];omega,R2,hl,?_,fun u3 s3 k3 X3 G3=>?_⟩
     . rfl
     . exact F.sub (a:=dX++(32::(kt++[40]))) (b:=rY [bb2]) (c:=[41]) (by simp)
     refine rR ⟨[],[],[],[],[],[]⟩ rfl af rfl ?_;rw[ae,aK];intro b3 hb3;rw[ag,sb3];refine aW (ss:=[[41]]) X3 hb3 (by simpa[dX] using F.put (a:=dX++(32::(kt++(40::rY [bb2])))) (b:=[41]) (c:=[]) (by simp)) (by simp) fun u4 s4 k4 X4 G4=>?_
     refine rR ⟨[],[],[],[],[],[]⟩ rfl af rfl ?_;rw[ak,ep];exact fin u4 s4 k4 (by simpa[dX] using X4) ((G2.trans G3 X2.prn.nn).trans G4 X3.prn.nn)
def FX:Fm:=(.need (.not (.eqI (.cnt (.x 0)) (.c 0))) (.X (.c 0) (.x 0))
 (.need (.not (.eqI (.cnt (.x 0)) (.c 0))) (.nns (.x 0))
 (.load (.not (.eqI (.cnt (.x 0)) (.c 0))) (.el (.x 0) (.c 0) 6 3) 1 [.J 0] ⟨1,0,0,0,0,0⟩
 (.need (.not (.eqI (.cnt (.x 0)) (.c 0))) (.R (.sub (.cnt (.x 0)) (.c 1)))
 (.ite (.or (.eqI (.cnt (.x 0)) (.c 0)) (.not (.eqI (.x 0) (.sub (.cnt (.x 0)) (.c 1)))))
 (.ret (.p (.one (.b (.c false)))))
 (.loop 0 ⟨[(.c 0)],[(.c false)],[],[],[.nil],[]⟩
 (.ite (.lt (.x 1) (.cnt (.x 0)))
 (.N (.X (.x 1) (.x 0))
 (.O (.el (.x 0) (.x 1) 6 0) 6 [.U 2,.J 3,.J 4,.J 5,.J 6,(.s (.x 0))] ⟨5,0,1,0,0,0⟩
 (.loop 1 ⟨[],[],[],[],[(.x 1)],[]⟩
 (.need (.lt (.c 0) (.cnt (.x 2))) (.R (.sub (.cnt (.x 2)) (.c 1)))
 (.need (.lt (.c 0) (.cnt (.x 2))) (.X (.sub (.cnt (.x 2)) (.c 1)) (.x 2))
 (.load (.lt (.c 0) (.cnt (.x 2))) (.el (.x 2) (.sub (.cnt (.x 2)) (.c 1)) 1 0) 1 [.J 7] ⟨1,0,0,0,0,0⟩
 (.ite (.and (.lt (.c 0) (.cnt (.x 2))) (.eqI (.x 7) (.x 1)))
 (.N (.R (.sub (.cnt (.x 2)) (.c 1)))
 (.N (.and (.and (.le (.c 0) (.sub (.cnt (.x 2)) (.c 1))) (.le (.sub (.cnt (.x 2)) (.c 1)) (.cap (.x 2)))) (.and (.le (.c 0) (.c 0)) (.le (.c 0) (.sub (.cnt (.x 2)) (.c 1)))))
 (.again 1 ⟨7,1,1,0,2,0⟩ ⟨7,1,1,0,3,0⟩ ⟨[],[],[],[],[(.sub (.x 2) (.c 0) (.sub (.cnt (.x 2)) (.c 1)) 1)],[]⟩)))
 (.need (.not (.lt (.x 5) (.c 0))) (.R (.sub (.cnt (.x 0)) (.c 1)))
 (.need (.not (.lt (.x 5) (.c 0))) (.R (.sub (.sub (.cnt (.x 0)) (.c 1)) (.x 1)))
 (.ite (.or (.lt (.x 5) (.c 0)) (.lt (.sub (.sub (.cnt (.x 0)) (.c 1)) (.x 1)) (.x 5)))
 (.ret (.p (.one (.b (.c false)))))
 (.N (.R (.add (.x 1) (.c 1)))
 (.N (.R (.add (.add (.x 1) (.c 1)) (.x 5)))
 (.need (.lt (.c 0) (.cnt (.x 2))) (.R (.sub (.cnt (.x 2)) (.c 1)))
 (.need (.lt (.c 0) (.cnt (.x 2))) (.X (.sub (.cnt (.x 2)) (.c 1)) (.x 2))
 (.load (.lt (.c 0) (.cnt (.x 2))) (.el (.x 2) (.sub (.cnt (.x 2)) (.c 1)) 1 0) 1 [.J 8] ⟨1,0,0,0,0,0⟩
 (.ite (.and (.lt (.c 0) (.cnt (.x 2))) (.lt (.x 8) (.add (.add (.x 1) (.c 1)) (.x 5))))
 (.ret (.p (.one (.b (.c false)))))
 (.mk [(.i .i64 (.add (.add (.x 1) (.c 1)) (.x 5)))] 3 1
 (.app (.x 2) (.x 3) 1 8 3
 (.N (.R (.add (.x 1) (.c 1)))
 (.again 0 ⟨1,0,0,0,1,0⟩ ⟨2,1,0,0,2,0⟩ ⟨[(.add (.x 1) (.c 1))],[(.x 0)],[],[],[(.x 4)],[]⟩))))))))))))))))))))
 (.ret (.p (.one (.b (.c true))))))))))))
theorem Qb:aZ ⟨true,[]⟩ Tryz.prog (fun l=>([⟨[3,2,22],[23,24,25,26,5,4,27,28,29,30,31,32,33,34,35,36,37,38,39,40,41,42,43,44,45,46,47,48,49,50,51,52,53,54,55,56,57,58,59,60,61,62,6,63,64,65,66,67,68,69,70,71,72,73,74,75,76,77,78,79,80],[5]⟩,⟨[3],[27,28,29,30,31,32,33,34,35,36,37,38,39,40,41,42,43,44],[]⟩]:List bK).getD l ⟨[],[],[]⟩) Tryz.f23=FX:=by kernel_rfl
theorem WS:az Tryz.prog .zero Tryz.f23.params.toList=some ([.L 0],⟨0,0,0,0,1,0⟩):=by kernel_rfl
def jX (i:Int):List Int->List Int
 | []=>[]
 | e::st=>if e=i then jX i st else e::st
def gV (n:Int):Int->List Int->List Ng->Bool
 | _,_,[]=>true
 | i,st,x::l=>if x.z<0∨n - 1 - i<x.z then false else
   match jX i st with
   | []=>gV n (i+1) [i+1+x.z] l
   | e::st'=>if e<i+1+x.z then false else gV n (i+1) ((i+1+x.z)::e::st') l
def qY (l:List Ng):Bool:=match l with
 | []=>false
 | x::_=>decide (x.z=(l.length:Int) - 1)&&gV l.length 0 [] l
theorem uF (i:Int):∀ st,jX i (jX i st)=jX i st
 | []=>rfl
 | e::st=>by
   rw[jX];split
   . exact uF i st
   . rename_i h;rw[jX,if_neg h]
theorem jY (n i:Int) (st:List Int):∀ l,gV n i (jX i st) l=gV n i st l
 | []=>rfl
 | x::l=>by rw[gV,gV,uF]
theorem acH {h:Hp} {s s':bM} {xs:List Int} {x:Int} (ho:eF h s (qN (xs++[x])) 3 1) (hn:s.n=xs.length+1) (ha:s'.a=s.a) (hn':s'.n=xs.length) (hc:s'.c=s.c):eF h s' (qN xs) 3 1:=by
 rcases ho with ⟨rfl,hk⟩ | ⟨b,o,h1,h2,h3,h4,h5,h6,h7⟩
 . simp[qN] at hk
 . refine .inr ⟨b,o,ha.trans h1,h2,h3,by rw[hc];exact h4,by omega,by omega,?_⟩;have:(o.cs.take (s.n*1)).take xs.length=qN xs:=by rw[<- h7,xH,<- TB xs];exact List.take_left
   rw[<- this,List.take_take];congr 1;omega
theorem ZH {h:Hp} {s:bM} {xs:List Int} {x:Int} (ho:eF h s (qN (xs++[x])) 3 1) (hn:s.n=xs.length+1):∃ b,s.a=some (b,0)/\hread h (some (b,0+xs.length*1+0)) 1=some [.int .i64 x]:=by
 obtain⟨b,o,ha,hr⟩:=(iy.own ho (by simp[hn])).read (j:=xs.length) (by simp);rcases ho with ⟨rfl,hk⟩ | ⟨b2,o2,h1,_⟩
 . simp[qN] at hk
 . rw[h1] at ha;obtain⟨rfl,rfl⟩:b2=b/\0=o:=by simpa using ha
   exact⟨_,h1,by simpa using hr⟩
def NS (h:Hp) (sl:bM) (l:List Ng) (o:Nat) (C:Ctx):Prop:=
 match o with
 | 0=>∃ (j:Nat) (z:Int) (bb:Bool) (st:List Int) (s:bM) (k:Hp),C=⟨[z,j],[bb],[],[],[sl,s],[],k,df⟩/\j<=l.length/\dA h k/\eF k s (qN st.reverse) 3 1/\s.n=st.length/\st.length<=j/\(∀ e∈st,0<=e/\e<=l.length)/\(∀ y,s.a=some y->h y.1=none)/\gV l.length 0 [] l=gV l.length j st (l.drop j)
 | _=>∃ (j:Nat) (z:Int) (bb:Bool) (st:List Int) (s s0:bM) (k:Hp) (x:Ng),C=⟨[z,j,x.k,x.l,x.c,x.z,x.n],[bb],[x.x],[],[sl,s0,s],[],k,df⟩/\j<l.length/\l[j]? = some x/\dA h k/\eF k s (qN st.reverse) 3 1/\s.n=st.length/\st.length<=j/\(∀ e∈st,0<=e/\e<=l.length)/\(∀ y,s.a=some y->h y.1=none)/\gV l.length 0 [] l=gV l.length j st (l.drop j)
def Hg (l:List Ng) (o:Nat) (C:Ctx):Nat:=match o with
 | 0=>((l.length:Int) - C.i.getD 1 0).toNat
 | _=>(C.l.getD 2 ⟨none,0,0⟩).n
theorem iL {E:Env} {C:Ctx} {g c:BE} {k:Fm} (h1:g.den C=true->c.den C=true) (h2:Then E k C):(Fm.need g c k).says E C:=⟨h1,h2⟩
theorem ww {E:Env} {C:Ctx} {g:BE} {a:AE} {k:Fm} {n:Nat} {K:IntKind} (hn:C.i.length=n) (hex:g.den C=true->∃ v:Int,hread C.h (a.den C) 1=some [.int K v])
 (h:∀ v:Int,(g.den C=true->hread C.h (a.den C) 1=some [.int K v])->Then E k (C.push ⟨[v],[],[],[],[],[]⟩)):(Fm.load g a 1 [(.i K (.x n))] ⟨1,0,0,0,0,0⟩ k).says E C:=by
 rw[aU];split
 . rename_i hg;obtain⟨v,hv⟩:=hex hg;refine (bQ _ _).2 ⟨⟨[v],[],[],[],[],[]⟩,rfl,af,?_,h v fun _=>hv⟩;rw[hv];simp[CE.den,IE.den,Ctx.push,hn]
 . rename_i hg;exact h 0 fun e=>absurd e hg
theorem Zv {E:Env} {C:Ctx} {g:BE} {a:AE} {k:Fm} {n:Nat} (hn:C.s.length=n) (hex:g.den C=true->∃ v:List UInt8,hread C.h (a.den C) 1=some [.string (B v)])
 (h:∀ v:List UInt8,(g.den C=true->hread C.h (a.den C) 1=some [.string (B v)])->Then E k (C.push ⟨[],[],[v],[],[],[]⟩)):(Fm.load g a 1 [(.s (.x n))] ⟨0,0,1,0,0,0⟩ k).says E C:=by
 rw[aU];split
 . rename_i hg;obtain⟨v,hv⟩:=hex hg;refine (bQ _ _).2 ⟨⟨[],[],[v],[],[],[]⟩,rfl,af,?_,h v fun _=>hv⟩;rw[hv];simp[CE.den,SE.den,Ctx.push,hn]
 . rename_i hg;exact h [] fun e=>absurd e hg
set_option maxHeartbeats 8000000 in
def pG:Ct Tryz.prog where
 f:=23
 spec:=fun args h φ=>∃ sl l,args=[bM.val sl]/\NG h sl l/\l.length<=1000000/\φ (.bool (qY l)) h
 ok:=by
  rintro args h φ w ⟨sl,l,rfl,R,hl,hφ⟩ hH;refine dh (bn Tryz.func23 Qb WS [] (fun v k=>∃ k',dA k' k/\φ v k') (NS h sl l) (fun o C=>Hg l o C) ⟨[],[],[],[],[sl],[],h,df⟩ ⟨rfl,rfl,rfl,rfl,rfl,rfl⟩ af ?_ w hH rfl);generalize hE:(⟨aG _,_,_,_⟩:Env)=E;have ep:E.post=(fun v k=>∃ k',dA k' k/\φ v k'):=by rw[<- hE]
  have ei:E.inv=(NS h sl l):=by rw[<- hE]
  have em:E.meas=(fun o C=>Hg l o C):=by rw[<- hE]
  clear hE;unfold FX;have hn:=NG.n R;have fin:∀ (C:Ctx) (b:Bool),dA h C.h->φ (.bool b) h->Then E (.ret (.p (.one (.b (.c b))))) C:=by
   intro C b hC hb;rw[ak,ep];exact⟨h,hC,hb⟩
  cases hl0:l with
  | nil=>
    rw[hl0] at hn hφ;have hz:sl.n=0:=by simpa using hn
    rw[aC];refine⟨by simp[go_sem,hz],?_⟩;rw[ai];refine⟨by simp[go_sem,hz],?_⟩;rw[bY,if_neg (by simp[go_sem,hz]),ae,aC];refine⟨by simp[go_sem,hz],?_⟩;rw[ah,if_pos (by simp[go_sem,hz])];exact fin _ _ (fun _ _ h=>h) hφ
  | cons x0 r=>
    have hpos:0<l.length:=by rw[hl0];simp
    have hsn:sl.n≠0:=by omega
    have hRR:qY l=(decide (x0.z=(l.length:Int) - 1)&&gV l.length 0 [] l):=by rw[hl0];rfl
    rw[hRR] at hφ;obtain⟨b,o,ha⟩:=Rows.nn R (j:=0) (by omega);have hr0:=Rows.read (off:=3) (m:=1) R (j:=0) (by omega) (by omega) ha;rw[<- List.drop_drop,jl hpos,show l[0]=x0 by simp[hl0]] at hr0;clear hl0;rw[aC];refine⟨by simp[go_sem,ha,hsn]<;>omega,?_⟩;rw[ai];refine⟨by simp[go_sem,ha,hsn],?_⟩;rw[bY,if_pos (by simp[go_sem,hsn])];refine (bQ _ _).2 ⟨⟨[x0.z],[],[],[],[],[]⟩,rfl,af,by simpa[go_sem,ha,Ng.cs] using hr0,?_⟩;rw[ai];refine⟨by simp[go_sem,hsn]<;>omega,?_⟩;by_cases hz:x0.z=(l.length:Int) - 1;rotate_left
    . rw[decide_eq_false hz] at hφ;rw[ah,if_pos (by simp[go_sem,hsn];omega)];exact fin _ _ (fun _ _ h=>h) hφ
    rw[decide_eq_true hz,Bool.true_and] at hφ;rw[ah,if_neg (by simp[go_sem,hsn];omega),ae];refine bI ?_ ?_
    . rw[ei];exact⟨0,x0.z,false,[],⟨none,0,0⟩,h,rfl,by omega,fun _ _ h=>h,.inl ⟨rfl,rfl⟩,rfl,by simp,by simp,fun y hy=>(by cases hy),rfl⟩
    rw[ei,em];rintro i bbs ss v ll pp hh M ⟨j,z,bb,st,s,k,hC,hj,hle,ho,hsn2,hstj,hse,hfr,hF⟩ hM;cases hC;have hM':M 0=((l.length:Int) - j).toNat:=hM;clear hM hr0;by_cases hjl:j<l.length;rotate_left
    . have hz2:¬ ((j:Int)<sl.n):=by omega
      rw[aj,if_neg (by simpa[go_sem] using hz2)];rw[List.drop_eq_nil_of_le (by omega),gV] at hF;rw[hF] at hφ;exact fin _ _ hle hφ
    have hz2:((j:Int)<sl.n):=by omega
    have R1:=NG.le R hle;have hnd:=NG.node R1 hjl ha;have hlj:l[j]? = some l[j]:=List.getElem?_eq_getElem hjl;rw[List.drop_eq_getElem_cons hjl] at hF;rw[aj,if_pos (by simpa[go_sem] using hz2)];rw[ai];refine⟨by simp[go_sem,ha]<;>omega,?_⟩;generalize l[j]=x at *;refine rL ⟨[x.k,x.l,x.c,x.z,x.n],[],[x.x],[],[],[]⟩ rfl af (by simpa[go_sem,ha,Ng.cs] using hnd) ?_;rw[ae];refine lL ?_ ?_
    . rw[ei];exact⟨j,z,bb,st,s,s,hh,x,rfl,hjl,hlj,hle,ho,hsn2,hstj,hse,hfr,by rw[List.drop_eq_getElem_cons hjl,show l[j]=x from Option.some.inj ((List.getElem?_eq_getElem hjl).symm.trans hlj)];exact hF⟩
    rintro⟨xi,xb,xs,xv,xl,xp⟩ h' M' hc hinv hm hM1;rw[ei] at hinv;rw[em] at hm;clear hF hfr hse hstj hsn2 ho hle R1 hnd;obtain⟨j2,z2,bb2,st,s,s0,k,x2,hC,q1,q2,hle,ho,hsn2,hstj,hse,hfr,hF⟩:=hinv;simp[Ctx.push,Ctx.heap,Ctx.bare] at hC;obtain⟨⟨rfl,hj2,e1,e2,e3,e4,e5,rfl⟩,⟨rfl,rfl⟩,⟨e6,rfl⟩,rfl,⟨rfl,rfl⟩,rfl,rfl⟩:=hC;obtain rfl:j2=j:=by omega
    clear q1 q2 e1 e2 e3 e4 e5 e6 hj2 hc x2;have hm':M' 1=s.n:=hm;have hM0:M' 0=((l.length:Int) - j2).toNat:=(hM1 0 (by decide)).trans hM';clear hm hM1 hM';rw[List.drop_eq_getElem_cons hjl,show l[j2]=x from Option.some.inj ((List.getElem?_eq_getElem hjl).symm.trans hlj)] at hF;have hx63:s.n<=1000000:=by omega
    have hsc:s.n<=s.c:=(iy.own ho (by simp[hsn2])).c;have top:∀ e st',st=e::st'->∃ b,s.a=some (b,0)/\hread h' (some (b,0+st'.length*1+0)) 1=some [.int .i64 e]:=fun e st' hs=>by
     rw[hs,List.reverse_cons] at ho;have:=ZH ho (by rw[hsn2,hs];simp);simpa using this
    have some1:0<s.n->∃ e st',st=e::st':=fun h0=>List.exists_cons_of_length_pos (by omega)
    have lastE:0<s.n->∃ v:Int,hread h' (s.a.map fun x=>(x.1,x.2+((s.n:Int) - 1).toNat*1+0)) 1=some [.int .i64 v]/\∀ u,hread h' (s.a.map fun x=>(x.1,x.2+((s.n:Int) - 1).toNat*1+0)) 1=some [.int .i64 u]->∀ e st',st=e::st'->u=e:=fun h0=>by
     obtain⟨e,st',hs⟩:=some1 h0;obtain⟨b2,hb2,hr2⟩:=top e st' hs;have hn1:((s.n:Int) - 1).toNat=st'.length:=by rw[hsn2,hs];simp
     rw[hb2,hn1];refine⟨e,hr2,fun u hu e2 st2 hs2=>?_⟩;have hu':hread h' (some (b2,0+st'.length*1+0)) 1=some [.int .i64 u]:=hu;rw[hr2] at hu';rw[hs] at hs2;cases hs2;simpa using hu'.symm
    have nns:0<s.n->s.a.isSome=true:=fun h0=>by
     obtain⟨e,st',hs⟩:=some1 h0;obtain⟨b2,hb2,hr2⟩:=top e st' hs;rw[hb2];rfl
    refine iL (fun g => by     have:0<s.n:=by simpa[go_sem] using g
                               simp[go_sem];omega) ?_
    rw[ae]
    refine iL (fun g => by     have h0:0<s.n:=by simpa[go_sem] using g
                               simp[go_sem,nns h0];omega) ?_
    rw[ae];refine ww rfl (fun g=>?_) fun v hv=>?_
    . have h0:0<s.n:=by simpa[go_sem] using g
      obtain⟨v,hv,_⟩:=lastE h0;exact⟨v,hv⟩
    have hv':∀ e st',st=e::st'->v=e:=fun e st' hs=>by
     have h0:0<s.n:=by rw[hsn2,hs];simp
     obtain⟨_,_,hu⟩:=lastE h0;exact hu v (hv (by simpa[go_sem] using h0)) e st' hs
    clear hv;by_cases hp:∃ st',st=(j2:Int)::st'
    . obtain⟨st',hs⟩:=hp;have hvj:=hv' _ _ hs;subst hvj;have h0:0<s.n:=by rw[hsn2,hs];simp
      rw[ah,if_pos (by simp[go_sem,h0])];rw[ai];refine⟨by simp[go_sem]<;>omega,?_⟩;rw[ae];refine iL (fun _=>by simp[go_sem];omega) ?_;rw[ae,says_again,ei,em];refine⟨⟨j2,z,bb,st',_,_,h',x,rfl,hjl,hlj,hle,acH (s:=s) (x:=(j2:Int)) (by rw[hs] at ho;simpa using ho) (by rw[hsn2,hs];simp) ?_ ?_ ?_,?_,by rw[hs] at hstj;simp at hstj;omega,fun e he=>hse e (by rw[hs];simp[he]),fun y hy=>hfr y ?_,?_⟩,?_⟩
      . show (if s.c=0 then s.a else s.a.map fun x=>(x.1,x.2+0*1))=s.a;split
        . rfl
        . cases s.a<;>simp
      . show (((s.n:Int) - 1).toNat - 0)=_;rw[hsn2,hs];simp
      . rfl
      . show (((s.n:Int) - 1).toNat - 0)=_;rw[hsn2,hs];simp
      . have:(if s.c=0 then s.a else s.a.map fun x=>(x.1,x.2+0*1))=s.a:=by
         split
         . rfl
         . cases s.a<;>simp
        rw[<- this];exact hy
      . rw[List.drop_eq_getElem_cons hjl,show l[j2]=x from Option.some.inj ((List.getElem?_eq_getElem hjl).symm.trans hlj),hF,<- jY,hs,jX,if_pos rfl,jY]
      . show (((s.n:Int) - 1).toNat - 0)<M' 1;omega
    have hpop:jX j2 st=st:=by
     cases st with
     | nil=>rfl
     | cons e st'=>rw[jX,if_neg (fun e2=>hp ⟨st',by rw[e2]⟩)]
    rw[ah,if_neg (fun g=>by
     have g':0<s.n/\v=(j2:Int):=by simpa[go_sem] using g
     obtain⟨e,st',hs⟩:=some1 g'.1;exact hp ⟨st',by rw[hs,<- hv' _ _ hs,g'.2]⟩),ae]
    clear hp;refine iL (fun _=>by simp[go_sem];omega) ?_;rw[ae];refine iL (fun _=>by simp[go_sem];omega) ?_;rw[gV,hpop] at hF;by_cases hbad:x.z<0\/(l.length:Int) - 1 - j2<x.z
    . rw[if_pos hbad] at hF;rw[hF] at hφ;rw[ah,if_pos (by simpa[go_sem,hn] using hbad)];exact fin _ _ hle hφ
    rw[if_neg hbad] at hF;rw[ah,if_neg (by simpa[go_sem,hn] using hbad),ae];refine iL (fun _=>by simp[go_sem];omega) ?_;rw[ae];refine iL (fun _=>by simp[go_sem];omega) ?_;rw[ae]
    refine iL (fun g => by     have:0<s.n:=by simpa[go_sem] using g
                               simp[go_sem];omega) ?_
    rw[ae]
    refine iL (fun g => by     have h0:0<s.n:=by simpa[go_sem] using g
                               simp[go_sem,nns h0];omega) ?_
    rw[ae];refine ww rfl (fun g=>?_) fun v2 hv2=>?_
    . have h0:0<s.n:=by simpa[go_sem] using g
      obtain⟨v,hv,_⟩:=lastE h0;exact⟨v,hv⟩
    have hv2':∀ e st',st=e::st'->v2=e:=fun e st' hs=>by
     have h0:0<s.n:=by rw[hsn2,hs];simp
     obtain⟨_,_,hu⟩:=lastE h0;exact hu v2 (hv2 (by simpa[go_sem] using h0)) e st' hs
    clear hv2;by_cases hlow:0<s.n/\v2<(j2:Int)+1+x.z
    . obtain⟨e,st',hs⟩:=some1 hlow.1;rw[hs] at hF;simp only at hF;have:=hv2' _ _ hs;rw[if_pos (by omega)] at hF;rw[hF] at hφ;rw[ah,if_pos (by simpa[go_sem] using hlow)];exact fin _ _ hle hφ
    have hF2:gV l.length 0 [] l=gV l.length (j2+1:Int) (((j2:Int)+1+x.z)::st) (l.drop (j2+1)):=by
     rw[hF];cases st with
     | nil=>rfl
     | cons e st'=>
       have:=hv2' _ _ rfl;have h0:0<s.n:=by rw[hsn2];simp
       simp only;rw[if_neg (fun h=>hlow ⟨h0,by omega⟩)]
    rw[ah,if_neg (by simpa[go_sem] using hlow)];rw[ae,aK];intro b2 hb2;have hb2':h' b2=none:=hb2;rw[ae,cu];have hle2:=fE hb2' ⟨[Value.int .i64 ((j2:Int)+1+x.z)],3⟩;refine⟨qN st.reverse,qN [(j2:Int)+1+x.z],yV ho hle2,.inr ⟨by simp[go_sem],?_⟩,?_,?_,?_,?_⟩
    . simp[go_sem,qN]
    . intro u hu;simp[qN] at hu;subst hu;rfl
    . show s.n+1<=maxLen;unfold maxLen;omega
    . show (s.n+1)*8<=_;omega
    intro s3 k3 g1 g2 g3 g4;have g2':s3.n=s.n+1:=g2;have hle3:dA h k3:=fun c oo hc=>g4 c oo (fun y hy e=>by
     have:=hfr y hy;rw[e,hc] at this;cases this) (hle2 _ _ (hle _ _ hc))
    rw[aC];refine⟨by simp[go_sem];omega,?_⟩;rw[ae,says_again,ei,em];refine⟨⟨j2+1,z,bb,((j2:Int)+1+x.z)::st,s3,k3,rfl,by omega,hle3,by rw[List.reverse_cons,xH];exact g1,by rw[g2',hsn2];rfl,by simp;omega,fun e he=>?_,fun q hq=>?_,hF2⟩,?_⟩
    . rcases List.mem_cons.1 he with rfl | he
      . omega
      . exact hse e he
    . rcases g3 q hq with ⟨q2,hq2,e⟩ | hn2
      . rw[<- e];exact hfr q2 hq2
      . cases hh2:h q.1 with
        | none=>rfl
        | some oo=>
          have:(h'.set b2 ⟨[Value.int .i64 ((j2:Int)+1+x.z)],3⟩) q.1=none:=hn2;rw[hle2 _ _ (hle _ _ hh2)] at this;cases this
    . show (((l.length:Int) - ((j2:Int)+1)).toNat)<M' 0;omega
theorem Ov (s:List UInt8) (w:World):Calls Tryz.prog 118 #[.string (B s)] w fun e w'=>e=.returned (.bool (jd s))/\Below w.heap.size w w':=by
 have:=BQ.ok [.string (B s)] (fun _=>none) (fun v _=>v=.bool (jd s)) w ⟨s,rfl,rfl⟩ (fun b o h=>by cases h);refine this.mono ?_;rintro e w' ⟨v,k,rfl,rfl,_,F⟩;exact⟨rfl,F.os,F.tape,F.output,F.size,fun i hi=>F.block i hi (.none rfl)⟩
theorem TD (n:Int):inB n=true↔(97<=n/\n<=122)\/n=95\/(65<=n/\n<=90)\/(48<=n/\n<=57):=by
 unfold inB jh;rw[decide_eq_true_iff];split
 . constructor<;>intro h<;>omega
 . split
   . constructor<;>intro h<;>omega
   . split
     . constructor<;>intro h<;>omega
     . constructor<;>intro h<;>omega
def aT (p:Int->Bool) (s:List UInt8):Bool:=match s with
 | []=>false
 | c::_=>p c.toNat&&(!jd s&&s.all fun c=>inB c.toNat)
set_option maxHeartbeats 4000000 in
set_option maxRecDepth 1000000 in
theorem zT (g:FuncId) (p:Int->Bool) (hg:∀ (c:Int) w,0<=c->c<=255->Calls Tryz.prog g #[.int .u8 c] w fun e w'=>e=.returned (.bool (p c))/\w'=w) (he:∀ args w,(callFunc g args).run Tryz.prog w=.ok (.enter g args) w) (l:List UInt8) (w:World):
 Calls Tryz.prog 129 #[.string (B l),.func (.func g) #[] #[]] w fun e w'=>e=.returned (.bool (aT p l))/\Below w.heap.size w w':=by
 cases l with
 | nil=>
   have hB0:(B []).toList.isEmpty=true:=by rw[jr];rfl
   go_enter Tryz.func129,Tryz.ntmps129
   go_wp2
   go_ret
   exact⟨rfl,Below.refl _ _⟩
 | cons c r=>
   have hB0:(B (c::r)).toList.isEmpty=false:=by rw[jr];rfl
   have hg0:∀ h,(B (c::r))[0]'h=c:=fun h=>UInt8.toNat.inj (by have:=BC (c::r) 0 h;rw[fO] at this;omega)
   have hc:=c.toNat_lt;have hgc:∀ w,Calls Tryz.prog g #[.int .u8 (c.toNat:Nat)] w fun e w'=>e=.returned (.bool (p (c.toNat:Nat)))/\w'=w:=fun w=>hg _ w (by omega) (by omega)
   have hcons:c::r=c::r:=rfl
   revert hcons
   generalize hs:c::r=s at *;intro hcons;have hpos:0<s.length:=by rw[<- hs];simp
   have hLB:aT p s=(p c.toNat&&(!jd s&&s.all fun c=>inB c.toNat)):=by rw[<- hs];rfl
   rw[hLB];cases hp:p c.toNat with
   | false=>
     rw[hp] at hgc
     go_enter Tryz.func129,Tryz.ntmps129
     go_wp2_with (refine (hgc _).mono ?_;rintro e w' ⟨rfl,rfl⟩)
     go_ret
     exact⟨rfl,Below.refl _ _⟩
   | true=>
     rw[hp] at hgc;cases hw:jd s with
     | true=>
       have hwd:=Ov s;rw[hw] at hwd;have e1:∀ args w,(callFunc 118 args).run Tryz.prog w=.ok (.enter 118 args) w:=enters_of Tryz.func118 (by kernel_rfl) rfl
       go_enter Tryz.func129,Tryz.ntmps129
       go_wp2_with (refine (hgc _).mono ?_;rintro e w' ⟨rfl,rfl⟩)
       refine (hwd _).mono ?_;rintro e w1 ⟨rfl,hb1⟩
       go_wp2
       go_ret
       exact⟨rfl,hb1⟩
     | false=>
       have hwd:=Ov s;rw[hw] at hwd;have e1:∀ args w,(callFunc 118 args).run Tryz.prog w=.ok (.enter 118 args) w:=enters_of Tryz.func118 (by kernel_rfl) rfl
       go_enter Tryz.func129,Tryz.ntmps129
       go_wp2_with (refine (hgc _).mono ?_;rintro e w' ⟨rfl,rfl⟩)
       refine (hwd _).mono ?_;rintro e w1 ⟨rfl,hb1⟩;have hsz1:=hb1.size
       go_wp2
       go_loopw [22,23] (fun _ _ wr=>∃ i:Nat,i<=s.length/\wr.heap[w1.heap.size]? = some (.stringIter (B s) i)/\Below w'.heap.size w' wr/\(s.take i).all (fun c=>inB c.toNat)=true) (fun _ _ wr=>s.length - wr.iterPos w1.heap.size)
       case atStart=>exact⟨0,by omega,World.iter_heap _ _ _,hb1.alloc hsz1 _,by simp⟩
       case round=>
        obtain⟨i,hil,hit,hB,hall⟩:=hrel;have hwx:w1.heap.size<wr.heap.size:=(Array.getElem?_eq_some_iff.1 hit).1;by_cases hi:i<s.length
        . have hiB:i<(B s).size:=by rw[gm];exact hi
          have hg:(B s)[i]'hiB=s[i]:=UInt8.toNat.inj (by have:=BC s i hiB;rw[bt,List.getD_eq_getElem?_getD,List.getElem?_eq_getElem hi,Option.getD_some] at this;omega);have hbad:∀ m,m=i->inB (s[i].toNat:Nat)=false->(s.all fun c=>inB c.toNat)=false:=fun m _ h=>by
           rw[List.all_eq_false];exact⟨s[i],List.getElem_mem hi,fun hh=>by rw[h] at hh;cases hh⟩
          have hgood:inB ((s[i].toNat:Nat):Int)=true->(s.take (i+1)).all (fun c=>inB c.toNat)=true:=fun h=>by
           rw[List.take_succ_eq_append_getElem hi,List.all_append,hall,List.all_cons,List.all_nil,Bool.and_true,Bool.true_and];exact h
          by_cases hx:s[i].toNat<128
          . have hnx:=fun ty=>Lib.run_next_ascii_at (P:=Tryz.prog) wr _ (B s) i ty hit hiB (by rw[hg];exact hx)
            rw[hg] at hnx;have hit2:=Lib.iterAt_heap wr w1.heap.size (B s) i (i+1) hit;have hB2:=Lib.below_iterAt hB (k:=w1.heap.size) hsz1 (B s) (i+1);generalize wr.iterAt w1.heap.size (B s) (i+1)=w2 at *;generalize s[i]=x at *;have hin:=TD ((x.toNat:Nat):Int);have hx0:(0:Int)<=x.toNat:=by omega
            cases hi2:inB ((x.toNat:Nat):Int) with
            | true=>
              have HA:=Lib.hid (hgood hi2);rw[hi2] at hin;have HI:=Lib.hid (hin.1 rfl);clear hgood hbad hg hall hin hi2
              go_wp2
              all_goals first
               | (exfalso;have:=HI.out;(try simp only[bne_iff_ne,ne_eq,bne_eq_false_iff_eq] at *);omega)
               | (go_roundw;(case rel=>exact⟨i+1,by omega,hit2,hB2,HA.out⟩);(case measure=>simp only[World.iterPos,hit2,hit];omega))
            | false=>
              have HA:=Lib.hid (hbad i rfl hi2);have HI:=Lib.hid (mt hin.2 (by rw[hi2];exact Bool.false_ne_true));clear hgood hbad hg hall hin hi2
              go_wp2
              all_goals first
               | (exfalso;have:=HI.out;(try simp only[bne_iff_ne,ne_eq,bne_eq_false_iff_eq] at *);omega)
               | (go_ret;exact⟨by rw[HA.out];rfl,hB2⟩)
          . have hnx:=fun ty=>Lib.run_next_any_at (P:=Tryz.prog) wr _ (B s) i ty hit hiB
            obtain⟨d1,d2⟩:=decode_high (B s) i hiB (by rw[hg];omega);have d3:=decode_le (B s) i;have hit2:=Lib.iterAt_heap wr w1.heap.size (B s) i (i+(Utf8.decode (B s) i).2) hit;have hB2:=Lib.below_iterAt hB (k:=w1.heap.size) hsz1 (B s) (i+(Utf8.decode (B s) i).2);have HA:=Lib.hid (hbad i rfl (by
             cases hq:inB ((s[i].toNat:Nat):Int) with
             | false=>rfl
             | true=>have:=(TD _).1 hq;omega))
            generalize Utf8.decode (B s) i=d at *;generalize wr.iterAt w1.heap.size (B s) (i+d.2)=w2 at *;clear hgood hbad hg hall
            go_wp2
            all_goals first
             | (exfalso;(try simp only[bne_iff_ne,ne_eq,bne_eq_false_iff_eq] at *);omega)
             | (go_ret;exact⟨by rw[HA.out];rfl,hB2⟩)
        . obtain rfl:i=s.length:=by omega
          have hnx:=fun ty=>Lib.run_next_end_at (P:=Tryz.prog) wr _ (B s) s.length ty hit (by rw[gm];omega)
          rw[List.take_length] at hall;have HA:=Lib.hid hall;clear hall
          go_wp2
          go_ret
          exact⟨by rw[HA.out];rfl,hB⟩
def LY:Fm:=(.C 129 [.S 0,(.one (.c (.fn 131)))] (.p (.B 0)) ⟨0,1,0,0,0,0⟩
 (.ret (.p (.B 0))))
theorem V6:aZ ⟨true,[]⟩ Tryz.prog (fun l=>([]:List bK).getD l ⟨[],[],[]⟩) Tryz.f85=LY:=by kernel_rfl
theorem aav:az Tryz.prog .zero Tryz.f85.params.toList=some ([.S 0],⟨0,0,1,0,0,0⟩):=by kernel_rfl
def FV:Fm:=(.C 129 [.S 0,(.one (.c (.fn 130)))] (.p (.B 0)) ⟨0,1,0,0,0,0⟩
 (.ret (.p (.B 0))))
theorem P9:aZ ⟨true,[]⟩ Tryz.prog (fun l=>([]:List bK).getD l ⟨[],[],[]⟩) Tryz.f84=FV:=by kernel_rfl
theorem WP:az Tryz.prog .zero Tryz.f84.params.toList=some ([.S 0],⟨0,0,1,0,0,0⟩):=by kernel_rfl
def CP:Fm:=(.ite (.eqI (.x 0) (.c 2))
 (.C 84 [.S 0] (.p (.B 0)) ⟨0,1,0,0,0,0⟩
 (.ret (.p (.one (.b (.and (.x 0) (.eqI (.x 4) (.c 0))))))))
 (.ite (.eqI (.x 0) (.c 19))
 (.C 84 [.S 0] (.p (.B 0)) ⟨0,1,0,0,0,0⟩
 (.ret (.p (.one (.b (.and (.x 0) (.eqI (.x 4) (.c 0))))))))
 (.ite (.eqI (.x 0) (.c 3))
 (.C 85 [.S 0] (.p (.B 0)) ⟨0,1,0,0,0,0⟩
 (.ret (.p (.one (.b (.and (.x 0) (.eqI (.x 4) (.c 0))))))))
 (.ite (.eqI (.x 0) (.c 5))
 (.C 85 [.S 0] (.p (.B 0)) ⟨0,1,0,0,0,0⟩
 (.ret (.p (.one (.b (.and (.x 0) (.eqI (.x 4) (.c 0))))))))
 (.ite (.eqI (.x 0) (.c 7))
 (.C 85 [.S 0] (.p (.B 0)) ⟨0,1,0,0,0,0⟩
 (.ret (.p (.one (.b (.and (.x 0) (.eqI (.x 4) (.c 0))))))))
 (.ite (.eqI (.x 0) (.c 26))
 (.C 85 [.S 0] (.p (.B 0)) ⟨0,1,0,0,0,0⟩
 (.ret (.p (.one (.b (.and (.x 0) (.eqI (.x 4) (.c 0))))))))
 (.ite (.eqI (.x 0) (.c 27))
 (.C 85 [.S 0] (.p (.B 0)) ⟨0,1,0,0,0,0⟩
 (.ret (.p (.one (.b (.and (.x 0) (.eqI (.x 4) (.c 0))))))))
 (.ite (.eqI (.x 0) (.c 29))
 (.C 85 [.S 0] (.p (.B 0)) ⟨0,1,0,0,0,0⟩
 (.ret (.p (.one (.b (.and (.x 0) (.eqI (.x 4) (.c 0))))))))
 (.ite (.eqI (.x 0) (.c 4))
 (.C 85 [.S 0] (.p (.B 0)) ⟨0,1,0,0,0,0⟩
 (.ret (.p (.one (.b (.and (.x 0) (.le (.c 0) (.x 4))))))))
 (.ite (.eqI (.x 0) (.c 21))
 (.ret (.p (.one (.b (.and (.eqS (.x 0) (.c [])) (.le (.c 0) (.x 4)))))))
 (.ite (.eqI (.x 0) (.c 22))
 (.ret (.p (.one (.b (.and (.and (.eqS (.x 0) (.c [])) (.le (.c 0) (.x 4))) (.lt (.x 4) (.c 8388608)))))))
 (.ite (.eqI (.x 0) (.c 23))
 (.ret (.p (.one (.b (.eqI (.x 4) (.c 0))))))
 (.ite (.eqI (.x 0) (.c 24))
 (.ret (.p (.one (.b (.and (.eqS (.x 0) (.c [])) (.or (.eqI (.x 4) (.c 0)) (.eqI (.x 4) (.c 1))))))))
 (.ite (.eqI (.x 0) (.c 30))
 (.ret (.p (.one (.b (.and (.eqS (.x 0) (.c [])) (.or (.eqI (.x 4) (.c 12)) (.eqI (.x 4) (.c 13))))))))
 (.ite (.eqI (.x 0) (.c 31))
 (.ret (.p (.one (.b (.and (.eqS (.x 0) (.c [])) (.or (.or (.and (.le (.c 1) (.x 4)) (.le (.x 4) (.c 11))) (.eqI (.x 4) (.c 14))) (.eqI (.x 4) (.c 15))))))))
 (.ret (.p (.one (.b (.and (.eqS (.x 0) (.c [])) (.eqI (.x 4) (.c 0))))))))))))))))))))))
theorem MM:aZ ⟨true,[1000005]⟩ Tryz.prog (fun l=>([]:List bK).getD l ⟨[],[],[]⟩) Tryz.f49=CP:=by kernel_rfl
theorem QT:az Tryz.prog .zero Tryz.f49.params.toList=some ([(.agg [.U 0,.J 1,.J 2,.J 3,.J 4,(.s (.x 0))])],⟨5,0,1,0,0,0⟩):=by kernel_rfl
def o8 (c:Int):Bool:=c==95||(leB 97 c&&leB c 122)
def C9 (c:Int):Bool:=leB 65 c&&leB c 90
theorem Wp (c:Int) (w:World):Calls Tryz.prog 131 #[.int .u8 c] w fun e w'=>e=.returned (.bool (o8 c))/\w'=w:=by
 go_enter Tryz.func131,Tryz.ntmps131
 by_cases h95:c=95
 . subst h95
   go_wp2
   go_ret
   exact⟨rfl,rfl⟩
 . by_cases h97:97<=c
   . go_wp2
     all_goals first
      | (exfalso;omega)
      | (go_ret;exact⟨by simp[o8,leB,h97]<;>(intros;omega),rfl⟩)
   . go_wp2
     all_goals first
      | (exfalso;omega)
      | (go_ret;exact⟨by simp[o8,leB]<;>(intros;omega),rfl⟩)
theorem Qi (c:Int) (w:World):Calls Tryz.prog 130 #[.int .u8 c] w fun e w'=>e=.returned (.bool (C9 c))/\w'=w:=by
 go_enter Tryz.func130,Tryz.ntmps130
 by_cases h65:65<=c
 . go_wp2
   all_goals first
    | (exfalso;omega)
    | (go_ret;exact⟨by simp[C9,leB,h65]<;>(intros;omega),rfl⟩)
 . go_wp2
   all_goals first
    | (exfalso;omega)
    | (go_ret;exact⟨by simp[C9,leB]<;>(intros;omega),rfl⟩)
def Kw:Ct Tryz.prog where
 f:=129
 spec:=fun args h φ=>∃ s,args=[.string (B s),.func (.func 131) #[] #[]]/\φ (.bool (aT o8 s)) h
 ok:=by
  rintro args h φ w ⟨s,rfl,hφ⟩ hH;refine (zT 131 o8 (fun c w _ _=>Wp c w) (enters_of Tryz.func131 (by kernel_rfl) rfl) s w).mono ?_;rintro e w' ⟨rfl,hb⟩;exact⟨_,h,rfl,hφ,hH.below hb,Fr.of_below hb⟩
def Sm:Ct Tryz.prog where
 f:=85
 spec:=fun args h φ=>∃ s,args=[.string (B s)]/\φ (.bool (aT o8 s)) h
 ok:=by
  rintro args h φ w ⟨s,rfl,hφ⟩ hH;refine bn Tryz.func85 V6 aav [Kw] φ (bP) (bu) ⟨[],[],[s],[],[],[],h,df⟩ ⟨rfl,rfl,rfl,rfl,rfl,rfl⟩ af ?_ w hH rfl;generalize hE:(⟨aG _,_,_,_⟩:Env)=E;have sb8:E.spec 129=(Kw).spec:=by rw[<- hE];rfl
  have ep:E.post=φ:=by rw[<- hE]
  clear hE;unfold LY;rw[au,if_pos (by rfl),sb8];refine⟨s,rfl,?_⟩;refine rR ⟨[],[aT o8 s],[],[],[],[]⟩ rfl af rfl ?_;rw[ak,ep];exact hφ
def E8:Ct Tryz.prog where
 f:=129
 spec:=fun args h φ=>∃ s,args=[.string (B s),.func (.func 130) #[] #[]]/\φ (.bool (aT C9 s)) h
 ok:=by
  rintro args h φ w ⟨s,rfl,hφ⟩ hH;refine (zT 130 C9 (fun c w _ _=>Qi c w) (enters_of Tryz.func130 (by kernel_rfl) rfl) s w).mono ?_;rintro e w' ⟨rfl,hb⟩;exact⟨_,h,rfl,hφ,hH.below hb,Fr.of_below hb⟩
def Kv:Ct Tryz.prog where
 f:=84
 spec:=fun args h φ=>∃ s,args=[.string (B s)]/\φ (.bool (aT C9 s)) h
 ok:=by
  rintro args h φ w ⟨s,rfl,hφ⟩ hH;refine bn Tryz.func84 P9 WP [E8] φ (bP) (bu) ⟨[],[],[s],[],[],[],h,df⟩ ⟨rfl,rfl,rfl,rfl,rfl,rfl⟩ af ?_ w hH rfl;generalize hE:(⟨aG _,_,_,_⟩:Env)=E;have sb9:E.spec 129=(E8).spec:=by rw[<- hE];rfl
  have ep:E.post=φ:=by rw[<- hE]
  clear hE;unfold FV;rw[au,if_pos (by rfl),sb9];refine⟨s,rfl,?_⟩;refine rR ⟨[],[aT C9 s],[],[],[],[]⟩ rfl af rfl ?_;rw[ak,ep];exact hφ
def fieldsB (x:Ng):Bool:=
 if x.k=2 then aT C9 x.x&&decide (x.n=0)
 else if x.k=19 then aT C9 x.x&&decide (x.n=0)
 else if x.k=3 then aT o8 x.x&&decide (x.n=0)
 else if x.k=5 then aT o8 x.x&&decide (x.n=0)
 else if x.k=7 then aT o8 x.x&&decide (x.n=0)
 else if x.k=26 then aT o8 x.x&&decide (x.n=0)
 else if x.k=27 then aT o8 x.x&&decide (x.n=0)
 else if x.k=29 then aT o8 x.x&&decide (x.n=0)
 else if x.k=4 then aT o8 x.x&&leB 0 x.n
 else if x.k=21 then x.x==[]&&leB 0 x.n
 else if x.k=22 then x.x==[]&&leB 0 x.n&&TM x.n 8388608
 else if x.k=23 then decide (x.n=0)
 else if x.k=24 then x.x==[]&&(decide (x.n=0)||decide (x.n=1))
 else if x.k=30 then x.x==[]&&(decide (x.n=12)||decide (x.n=13))
 else if x.k=31 then x.x==[]&&((leB 1 x.n&&leB x.n 11)||decide (x.n=14)||decide (x.n=15))
 else x.x==[]&&decide (x.n=0)
set_option maxHeartbeats 4000000 in
def E5:Ct Tryz.prog where
 f:=49
 spec:=fun args h φ=>∃ x:Ng,args=[x.v]/\φ (.bool (fieldsB x)) h
 ok:=by
  rintro args h φ w ⟨x,rfl,hφ⟩ hH;refine bn Tryz.func49 MM QT [Sm,Kv] φ (bP) (bu) ⟨[x.k,x.l,x.c,x.z,x.n],[],[x.x],[],[],[],h,df⟩ ⟨rfl,rfl,rfl,rfl,rfl,rfl⟩ af ?_ w hH rfl;generalize hE:(⟨aG _,_,_,_⟩:Env)=E;have sba:E.spec 85=(Sm).spec:=by rw[<- hE];rfl
  have sbb:E.spec 84=(Kv).spec:=by rw[<- hE];rfl
  have ep:E.post=φ:=by rw[<- hE]
  clear hE;unfold CP;unfold fieldsB at hφ;rw[<- ae];by_cases c2:x.k=2
  . rw[if_pos c2] at hφ;rw[ah,if_pos (by simpa[go_sem] using c2)];rw[ag,sbb];refine⟨x.x,rfl,?_⟩;refine rR ⟨[],[aT C9 x.x],[],[],[],[]⟩ rfl af rfl ?_;rw[ak,ep];exact hφ
  rw[if_neg c2] at hφ;rw[ah,if_neg (by simpa[go_sem] using c2)];by_cases c19:x.k=19
  . rw[if_pos c19] at hφ;rw[ah,if_pos (by simpa[go_sem] using c19)];rw[ag,sbb];refine⟨x.x,rfl,?_⟩;refine rR ⟨[],[aT C9 x.x],[],[],[],[]⟩ rfl af rfl ?_;rw[ak,ep];exact hφ
  rw[if_neg c19] at hφ;rw[ah,if_neg (by simpa[go_sem] using c19)];by_cases c3:x.k=3
  . rw[if_pos c3] at hφ;rw[ah,if_pos (by simpa[go_sem] using c3)];rw[ag,sba];refine⟨x.x,rfl,?_⟩;refine rR ⟨[],[aT o8 x.x],[],[],[],[]⟩ rfl af rfl ?_;rw[ak,ep];exact hφ
  rw[if_neg c3] at hφ;rw[ah,if_neg (by simpa[go_sem] using c3)];by_cases c5:x.k=5
  . rw[if_pos c5] at hφ;rw[ah,if_pos (by simpa[go_sem] using c5)];rw[ag,sba];refine⟨x.x,rfl,?_⟩;refine rR ⟨[],[aT o8 x.x],[],[],[],[]⟩ rfl af rfl ?_;rw[ak,ep];exact hφ
  rw[if_neg c5] at hφ;rw[ah,if_neg (by simpa[go_sem] using c5)];by_cases c7:x.k=7
  . rw[if_pos c7] at hφ;rw[ah,if_pos (by simpa[go_sem] using c7)];rw[ag,sba];refine⟨x.x,rfl,?_⟩;refine rR ⟨[],[aT o8 x.x],[],[],[],[]⟩ rfl af rfl ?_;rw[ak,ep];exact hφ
  rw[if_neg c7] at hφ;rw[ah,if_neg (by simpa[go_sem] using c7)];by_cases c26:x.k=26
  . rw[if_pos c26] at hφ;rw[ah,if_pos (by simpa[go_sem] using c26)];rw[ag,sba];refine⟨x.x,rfl,?_⟩;refine rR ⟨[],[aT o8 x.x],[],[],[],[]⟩ rfl af rfl ?_;rw[ak,ep];exact hφ
  rw[if_neg c26] at hφ;rw[ah,if_neg (by simpa[go_sem] using c26)];by_cases c27:x.k=27
  . rw[if_pos c27] at hφ;rw[ah,if_pos (by simpa[go_sem] using c27)];rw[ag,sba];refine⟨x.x,rfl,?_⟩;refine rR ⟨[],[aT o8 x.x],[],[],[],[]⟩ rfl af rfl ?_;rw[ak,ep];exact hφ
  rw[if_neg c27] at hφ;rw[ah,if_neg (by simpa[go_sem] using c27)];by_cases c29:x.k=29
  . rw[if_pos c29] at hφ;rw[ah,if_pos (by simpa[go_sem] using c29)];rw[ag,sba];refine⟨x.x,rfl,?_⟩;refine rR ⟨[],[aT o8 x.x],[],[],[],[]⟩ rfl af rfl ?_;rw[ak,ep];exact hφ
  rw[if_neg c29] at hφ;rw[ah,if_neg (by simpa[go_sem] using c29)];by_cases c4:x.k=4
  . rw[if_pos c4] at hφ;rw[ah,if_pos (by simpa[go_sem] using c4)];rw[ag,sba];refine⟨x.x,rfl,?_⟩;refine rR ⟨[],[aT o8 x.x],[],[],[],[]⟩ rfl af rfl ?_;rw[ak,ep];exact hφ
  rw[if_neg c4] at hφ;rw[ah,if_neg (by simpa[go_sem] using c4)];by_cases c21:x.k=21
  . rw[if_pos c21] at hφ;rw[ah,if_pos (by simpa[go_sem] using c21)];rw[ak,ep];exact hφ
  rw[if_neg c21] at hφ;rw[ah,if_neg (by simpa[go_sem] using c21)];by_cases c22:x.k=22
  . rw[if_pos c22] at hφ;rw[ah,if_pos (by simpa[go_sem] using c22)];rw[ak,ep];exact hφ
  rw[if_neg c22] at hφ;rw[ah,if_neg (by simpa[go_sem] using c22)];by_cases c23:x.k=23
  . rw[if_pos c23] at hφ;rw[ah,if_pos (by simpa[go_sem] using c23)];rw[ak,ep];exact hφ
  rw[if_neg c23] at hφ;rw[ah,if_neg (by simpa[go_sem] using c23)];by_cases c24:x.k=24
  . rw[if_pos c24] at hφ;rw[ah,if_pos (by simpa[go_sem] using c24)];rw[ak,ep];exact hφ
  rw[if_neg c24] at hφ;rw[ah,if_neg (by simpa[go_sem] using c24)];by_cases c30:x.k=30
  . rw[if_pos c30] at hφ;rw[ah,if_pos (by simpa[go_sem] using c30)];rw[ak,ep];exact hφ
  rw[if_neg c30] at hφ;rw[ah,if_neg (by simpa[go_sem] using c30)];by_cases c31:x.k=31
  . rw[if_pos c31] at hφ;rw[ah,if_pos (by simpa[go_sem] using c31)];rw[ak,ep];exact hφ
  rw[if_neg c31] at hφ;rw[ah,if_neg (by simpa[go_sem] using c31)];rw[ak,ep];exact hφ
def abU:Ct Tryz.prog where
 f:=92
 spec:=fun args h φ=>∃ x,args=[Ng.v x]/\φ (.bool (ut 21 32 x)) h
 ok:=by
  rintro args h φ w ⟨x,rfl,hφ⟩ hH;refine dh (bn Tryz.func92 Vo ZP [vz,oW] (fun v k=>∃ k',dA k' k/\φ v k') bP bu ⟨[x.k,x.l,x.c,x.z,x.n],[],[x.x],[],[],[],h,df⟩ ⟨rfl,rfl,rfl,rfl,rfl,rfl⟩ af ?_ w hH rfl);have hs:rQ [vz,oW] 133=oW.spec:=rfl;generalize hE:(⟨aG _,_,_,_⟩:Env)=E;have s1:E.spec 90=vz.spec:=by rw[<- hE];rfl
  have s2:E.spec 1000001=aG [vz,oW] kC:=by rw[<- hE];rfl
  have ep:E.post=(fun v k=>∃ k',dA k' k/\φ v k'):=by rw[<- hE]
  clear hE;unfold KL;rw[au,if_pos (by rfl),s1];refine⟨21,32,rfl,fun p q k hk h1 h2=>?_⟩;refine⟨fun h=>(by cases h),(bQ _ _).2 ⟨⟨[],[],[],[.func (.func 133) #[] #[.pointer (some ⟨p,0,none⟩),.pointer (some ⟨q,0,none⟩)]],[],[]⟩,rfl,by intro u hu;simp at hu;subst hu;rfl,rfl,?_⟩⟩;rw[ag,s2];refine JY (x:=x) hs h1 h2 ?_;refine rR ⟨[],[ut 21 32 x],[],[],[],[]⟩ rfl af rfl ?_;rw[ak,ep];exact⟨h,hk,hφ⟩
def wants:List (Ct Tryz.prog):=[Iq,abU,BP,oW,afL]
theorem rE (h:Hp):Want wants h (.func (.func 88) #[] #[]) (ut 15 20):=
 ⟨_,[],rfl,by kernel_rfl,by decide,fun x k φ _ hφ=>⟨x,rfl,hφ⟩⟩
theorem dS (h:Hp):Want wants h (.func (.func 92) #[] #[]) (ut 21 32):=
 ⟨_,[],rfl,by kernel_rfl,by decide,fun x k φ _ hφ=>⟨x,rfl,hφ⟩⟩
theorem rC (h:Hp):Want wants h (.func (.func 132) #[] #[]) (fun x=>decide (x.k=6)):=
 ⟨_,[],rfl,by kernel_rfl,by decide,fun x k φ _ hφ=>⟨x,rfl,hφ⟩⟩
theorem aby {h:Hp} {p q:Nat} {a b:Int} {T U:TypeId} (h1:h p=some ⟨[.int .u8 a],T⟩) (h2:h q=some ⟨[.int .u8 b],U⟩):
 Want wants h (.func (.func 133) #[] #[.pointer (some ⟨p,0,none⟩),.pointer (some ⟨q,0,none⟩)]) (ut a b):=
 ⟨_,[.pointer (some ⟨p,0,none⟩),.pointer (some ⟨q,0,none⟩)],rfl,by kernel_rfl,by decide,fun x k φ hk hφ=>⟨x,p,q,a,b,_,_,rfl,hk _ _ h1,hk _ _ h2,hφ⟩⟩
theorem rD {h:Hp} {p:Nat} {sl:bM} {l:List Int} {T:TypeId} (h1:h p=some ⟨[bM.val sl],T⟩) (R:Rows h sl (Qq l) 1) (hl:l.length<=1000):
 Want wants h (.func (.func 86) #[] #[.pointer (some ⟨p,0,none⟩)]) (fun x=>l.contains x.k):=
 ⟨_,[.pointer (some ⟨p,0,none⟩)],rfl,by kernel_rfl,by decide,fun x k φ hk hφ=>⟨x,p,sl,l,_,rfl,hk _ _ h1,R.le hk,hl,hφ⟩⟩
theorem Want.one {cs:List (Ct Tryz.prog)} {h:Hp} {v:Value} {p:Ng->Bool} (W:Want cs h v p):v.cells=#[v]/\v≠undef:=by
 obtain⟨f,cap,rfl,_⟩:=W;exact⟨rfl,by intro h;cases h⟩
theorem Want.ones {cs:List (Ct Tryz.prog)} {h:Hp} {v:Value} {p:Ng->Bool} (W:Want cs h v p):gQ [v]:=by
 obtain⟨f,cap,rfl,_⟩:=W;intro u hu;simp at hu;subst hu;rfl
def lkv (x:Ng) (sl:bM):Value:=.agg #[.int .u8 x.k,.int .i64 x.l,.int .i64 x.c,.int .i64 x.z,.int .i64 x.n,.string (B x.x),sl.val]
set_option maxHeartbeats 4000000 in
def yM:Ct Tryz.prog where
 f:=51
 spec:=fun args h φ=>∃ x sl l v p,args=[lkv x sl,v]/\NG h sl l/\l.length<=1000000/\Want wants h v p/\φ (.bool (l.all p)) h
 ok:=by
  rintro args h φ w ⟨x,sl,l,v,p,rfl,R,hl,W,hφ⟩ hH;have hn:=NG.n R;refine bn Tryz.func51 YT acQ wants φ (fun _ C=>∃ j:Nat,C=⟨[x.k,x.l,x.c,x.z,x.n,j],[false],[x.x],[v],[sl],[],h,df⟩/\j<=l.length/\l.all p=(l.drop j).all p) (fun _ C=>((l.length:Int) - C.i.getD 5 0).toNat)
   ⟨[x.k,x.l,x.c,x.z,x.n],[],[x.x],[v],[sl],[],h,df⟩ ⟨rfl,rfl,rfl,rfl,rfl,rfl⟩ W.ones ?_ w hH rfl
  generalize hE:(⟨aG _,_,_,_⟩:Env)=E;have s2:E.spec 1000001=aG wants kC:=by rw[<- hE];rfl
  have ep:E.post=φ:=by rw[<- hE]
  have ei:E.inv=(fun _ C=>∃ j:Nat,C=⟨[x.k,x.l,x.c,x.z,x.n,j],[false],[x.x],[v],[sl],[],h,df⟩/\j<=l.length/\l.all p=(l.drop j).all p):=by rw[<- hE]
  have em:E.meas=(fun _ C=>((l.length:Int) - C.i.getD 5 0).toNat):=by rw[<- hE]
  clear hE;unfold SQ;refine bI ?_ ?_
  . rw[ei];exact⟨0,rfl,by omega,rfl⟩
  rw[ei,em];rintro i bb ss vv ll pp hh M ⟨j,hC,h3,h4⟩ hM;cases hC;have hM':M 0=((l.length:Int) - j).toNat:=hM;rw[h4] at hφ;by_cases hj:j<l.length
  . obtain⟨b,o,ha⟩:=Rows.nn R (j:=j) (by omega);have hrd:=NG.node R hj ha;have hz:(j:Int)<sl.n:=by omega
    rw[List.drop_eq_getElem_cons hj,List.all_cons] at h4 hφ;generalize l[j]=y at *;rw[aj,if_pos (by simpa[go_sem] using hz),ae,aC];refine⟨by simp[go_sem,hz,ha],?_⟩;refine rL ⟨[y.k,y.l,y.c,y.z,y.n],[],[y.x],[],[],[]⟩ rfl af (by simpa[go_sem,ha,Ng.cs] using hrd) ?_;rw[ag,s2];refine W.call (x:=y) (fun b o h=>h) ?_;refine rR ⟨[],[p y],[],[],[],[]⟩ rfl af rfl ?_;cases hy:p y with
    | false=>
      rw[hy] at hφ;rw[ah,if_pos (by simp[go_sem]),ae,ax,ep];simpa[go_sem] using hφ
    | true=>
      rw[hy] at hφ h4;rw[ah,if_neg (by simp[go_sem]),ae,aC];refine⟨by simp[go_sem];omega,?_⟩;rw[ae];simp[go_sem,ei,em];exact⟨⟨j+1,by simp,by omega,by simpa using h4⟩,by omega⟩
  . have hz:¬ ((j:Int)<sl.n):=by omega
    rw[List.drop_eq_nil_of_le (by omega)] at hφ;rw[aj,if_neg (by simpa[go_sem] using hz),ae,ax,ep];simpa[go_sem] using hφ
def rowB:List (Ng->Bool)->List Ng->Bool
 | [],[]=>true
 | p::ps,x::l=>p x&&rowB ps l
 | _,_=>false
theorem NU:∀ {ps:List (Ng->Bool)} {l:List Ng},ps.length≠l.length->rowB ps l=false
 | [],[],h=>absurd rfl h
 | [],_::_,_=>rfl
 | _::_,[],_=>rfl
 | p::ps,x::l,h=>by rw[rowB,NU (fun e=>h (by simp[e])),Bool.and_false]
def zA (h:Hp) (sl:bM) (ps:List (Ng->Bool)):Prop:=∃ vs,Rows h sl vs 1/\vs.length=ps.length/\∀ (i:Nat) v p,vs[i]? = some v->ps[i]? = some p->Want wants h v p
theorem zA.n {h:Hp} {sl:bM} {ps:List (Ng->Bool)} (W:zA h sl ps):sl.n=ps.length:=by
 obtain⟨vs,R,hl,_⟩:=W;have:=R.1;omega
theorem fZ (h:Hp):zA h ⟨none,0,0⟩ []:=⟨[],⟨rfl,.inl rfl⟩,rfl,fun i v p h=>by simp at h⟩
theorem Ey {h:Hp} {b n c:Nat} {vs:List Value} {ps:List (Ng->Bool)} {T:TypeId} (hb:h b=some ⟨vs,T⟩) (hn:vs.length=n) (hl:vs.length=ps.length) (H:∀ (i:Nat) v p,vs[i]? = some v->ps[i]? = some p->Want wants h v p):zA h ⟨some (b,0),n,c⟩ ps:=
 ⟨vs,⟨by simp[hn],.inr (by rw[bz hb,if_pos (by simp[hn])];simp[<- hn])⟩,hl,H⟩
set_option maxHeartbeats 4000000 in
def Ii:Ct Tryz.prog where
 f:=87
 spec:=fun args h φ=>∃ x sl l ws ps,args=[lkv x sl,bM.val ws]/\NG h sl l/\l.length<=1000000/\zA h ws ps/\φ (.bool (rowB ps l)) h
 ok:=by
  rintro args h φ w ⟨x,sl,l,ws,ps,rfl,R,hl,W,hφ⟩ hH;have hn:=NG.n R;have hm:=W.n;obtain⟨vs,Rv,hvl,hW⟩:=W;refine bn Tryz.func87 YV acS wants φ (fun _ C=>∃ j:Nat,C=⟨[x.k,x.l,x.c,x.z,x.n,j],[false],[x.x],[],[sl,ws],[],h,df⟩/\j<=l.length/\rowB ps l=rowB (ps.drop j) (l.drop j)) (fun _ C=>((l.length:Int) - C.i.getD 5 0).toNat)
   ⟨[x.k,x.l,x.c,x.z,x.n],[],[x.x],[],[sl,ws],[],h,df⟩ ⟨rfl,rfl,rfl,rfl,rfl,rfl⟩ af ?_ w hH rfl
  generalize hE:(⟨aG _,_,_,_⟩:Env)=E;have s2:E.spec 1000001=aG wants kC:=by rw[<- hE];rfl
  have ep:E.post=φ:=by rw[<- hE]
  have ei:E.inv=(fun _ C=>∃ j:Nat,C=⟨[x.k,x.l,x.c,x.z,x.n,j],[false],[x.x],[],[sl,ws],[],h,df⟩/\j<=l.length/\rowB ps l=rowB (ps.drop j) (l.drop j)):=by rw[<- hE]
  have em:E.meas=(fun _ C=>((l.length:Int) - C.i.getD 5 0).toNat):=by rw[<- hE]
  clear hE;unfold SV;by_cases hlen:l.length=ps.length;rotate_left
  . rw[aj,if_pos (by simp[go_sem];omega),ae,ax,ep];rw[NU (fun e=>hlen e.symm)] at hφ;simpa[go_sem] using hφ
  rw[aj,if_neg (by simp[go_sem];omega),ae];refine bI ?_ ?_
  . rw[ei];exact⟨0,rfl,by omega,rfl⟩
  rw[ei,em];rintro i bb ss vv ll pp hh M ⟨j,hC,h3,h4⟩ hM;cases hC;have hM':M 0=((l.length:Int) - j).toNat:=hM;rw[h4] at hφ;by_cases hj:j<l.length
  . obtain⟨b,o,ha⟩:=Rows.nn R (j:=j) (by omega);obtain⟨b2,o2,ha2⟩:=Rows.nn Rv (j:=j) (by omega);have hrd:=NG.node R hj ha;have hrd2:=Rows.read (off:=0) (m:=1) Rv (j:=j) (by omega) (by omega) ha2;rw[Nat.mul_one,Nat.add_zero,Nat.add_zero,List.drop_eq_getElem_cons (by omega)] at hrd2;have hWj:=hW j vs[j] ps[j] (List.getElem?_eq_getElem (by omega)) (List.getElem?_eq_getElem (by omega));have hz:(j:Int)<sl.n:=by omega
    have hz2:(j:Int)<ws.n:=by omega
    rw[List.drop_eq_getElem_cons hj,List.drop_eq_getElem_cons (by omega:j<ps.length),rowB] at h4 hφ;generalize l[j]=y at *;generalize ps[j]=p at *;generalize vs[j]=v at *;rw[aj,if_pos (by simpa[go_sem] using hz2),ae,aC];refine⟨by simp[go_sem,hz2,ha2],?_⟩;rw[bY,if_pos (by rfl)];refine (bQ _ _).2 ⟨⟨[],[],[],[v],[],[]⟩,rfl,hWj.ones,by simpa[go_sem,ha2] using hrd2,?_⟩;rw[ai];refine⟨by simp[go_sem,hz,ha],?_⟩;refine rL ⟨[y.k,y.l,y.c,y.z,y.n],[],[y.x],[],[],[]⟩ rfl af (by simpa[go_sem,ha,Ng.cs] using hrd) ?_;rw[ag,s2];refine hWj.call (x:=y) (fun b o h=>h) ?_;refine rR ⟨[],[p y],[],[],[],[]⟩ rfl af rfl ?_;cases hy:p y with
    | false=>
      rw[hy] at hφ;rw[ah,if_pos (by simp[go_sem]),ae,ax,ep];simpa[go_sem] using hφ
    | true=>
      rw[hy] at hφ h4;rw[ah,if_neg (by simp[go_sem]),ae,aC];refine⟨by simp[go_sem];omega,?_⟩;rw[ae];simp[go_sem,ei,em];exact⟨⟨j+1,by simp,by omega,by simpa using h4⟩,by omega⟩
  . have hz:¬ ((j:Int)<ws.n):=by omega
    rw[List.drop_eq_nil_of_le (by omega),List.drop_eq_nil_of_le (by omega)] at hφ;rw[aj,if_neg (by simpa[go_sem] using hz),ae,ax,ep];simpa[go_sem,rowB] using hφ
def KQ:Fm:=(.ite (.eqI (.x 0) (.c 7))
 (.mk [(.c (.fn 88)),(.c (.fn 92))] 81 2
 (.C 87 [(.agg [.U 0,.J 1,.J 2,.J 3,.J 4,(.s (.x 0)),(.sl (.x 0))]),.L 1] (.p (.B 0)) ⟨0,1,0,0,0,0⟩
 (.ret (.p (.B 0)))))
 (.ite (.eqI (.x 0) (.c 8))
 (.mk [(.i .u8 (.c 26)),(.i .u8 (.c 28)),(.i .u8 (.c 29))] 5 3
 (.C 52 [.L 1] (.p (.one (.v 0))) ⟨0,0,0,1,0,0⟩
 (.mk [(.v 0),(.c (.fn 92))] 81 2
 (.C 87 [(.agg [.U 0,.J 1,.J 2,.J 3,.J 4,(.s (.x 0)),(.sl (.x 0))]),.L 2] (.p (.B 0)) ⟨0,1,0,0,0,0⟩
 (.ret (.p (.B 0)))))))
 (.ite (.eqI (.x 0) (.c 9))
 (.mk [(.c (.fn 92)),(.c (.fn 132))] 81 2
 (.C 87 [(.agg [.U 0,.J 1,.J 2,.J 3,.J 4,(.s (.x 0)),(.sl (.x 0))]),.L 1] (.p (.B 0)) ⟨0,1,0,0,0,0⟩
 (.ite (.x 0)
 (.ret (.p (.one (.b (.c true)))))
 (.mk [(.c (.fn 92)),(.c (.fn 132)),(.c (.fn 132))] 81 3
 (.C 87 [(.agg [.U 0,.J 1,.J 2,.J 3,.J 4,(.s (.x 0)),(.sl (.x 0))]),.L 2] (.p (.B 1)) ⟨0,1,0,0,0,0⟩
 (.ret (.p (.B 1))))))))
 (.ite (.eqI (.x 0) (.c 10))
 (.mk [(.c (.fn 92)),(.c (.fn 132))] 81 2
 (.C 87 [(.agg [.U 0,.J 1,.J 2,.J 3,.J 4,(.s (.x 0)),(.sl (.x 0))]),.L 1] (.p (.B 0)) ⟨0,1,0,0,0,0⟩
 (.ret (.p (.B 0)))))
 (.ite (.eqI (.x 0) (.c 11))
 (.C 87 [(.agg [.U 0,.J 1,.J 2,.J 3,.J 4,(.s (.x 0)),(.sl (.x 0))]),(.one (.sl .nil))] (.p (.B 0)) ⟨0,1,0,0,0,0⟩
 (.ite (.x 0)
 (.ret (.p (.one (.b (.c true)))))
 (.mk [(.c (.fn 92))] 81 1
 (.C 87 [(.agg [.U 0,.J 1,.J 2,.J 3,.J 4,(.s (.x 0)),(.sl (.x 0))]),.L 1] (.p (.B 1)) ⟨0,1,0,0,0,0⟩
 (.ret (.p (.B 1)))))))
 (.ite (.eqI (.x 0) (.c 12))
 (.mk [(.c (.fn 92))] 81 1
 (.C 87 [(.agg [.U 0,.J 1,.J 2,.J 3,.J 4,(.s (.x 0)),(.sl (.x 0))]),.L 1] (.p (.B 0)) ⟨0,1,0,0,0,0⟩
 (.ret (.p (.B 0)))))
 (.mk [(.i .u8 (.c 27))] 5 1
 (.C 52 [.L 1] (.p (.one (.v 0))) ⟨0,0,0,1,0,0⟩
 (.mk [(.v 0)] 81 1
 (.C 87 [(.agg [.U 0,.J 1,.J 2,.J 3,.J 4,(.s (.x 0)),(.sl (.x 0))]),.L 2] (.p (.B 0)) ⟨0,1,0,0,0,0⟩
 (.ret (.p (.B 0)))))))))))))
theorem Vs:aZ ⟨true,[]⟩ Tryz.prog (fun l=>([]:List bK).getD l ⟨[],[],[]⟩) Tryz.f91=KQ:=by kernel_rfl
theorem ZU:az Tryz.prog .zero Tryz.f91.params.toList=some ([(.agg [.U 0,.J 1,.J 2,.J 3,.J 4,(.s (.x 0)),(.sl (.x 0))])],⟨5,0,1,0,1,0⟩):=by kernel_rfl
def SS:Fm:=(.need (.not (.lt (.cnt (.x 0)) (.c 2))) (.R (.sub (.cnt (.x 0)) (.c 2)))
 (.need (.not (.or (.lt (.cnt (.x 0)) (.c 2)) (.not (.eqI (.sub (.cnt (.x 0)) (.c 2)) (.x 4))))) (.R (.sub (.cnt (.x 0)) (.c 1)))
 (.need (.not (.or (.lt (.cnt (.x 0)) (.c 2)) (.not (.eqI (.sub (.cnt (.x 0)) (.c 2)) (.x 4))))) (.X (.sub (.cnt (.x 0)) (.c 1)) (.x 0))
 (.load (.not (.or (.lt (.cnt (.x 0)) (.c 2)) (.not (.eqI (.sub (.cnt (.x 0)) (.c 2)) (.x 4))))) (.el (.x 0) (.sub (.cnt (.x 0)) (.c 1)) 6 0) 6 [.U 5,.J 6,.J 7,.J 8,.J 9,(.s (.x 1))] ⟨5,0,1,0,0,0⟩
 (.call (.not (.or (.lt (.cnt (.x 0)) (.c 2)) (.not (.eqI (.sub (.cnt (.x 0)) (.c 2)) (.x 4))))) false 132 [(.agg [.U 5,.J 6,.J 7,.J 8,.J 9,(.s (.x 1))])] (.p (.B 0)) ⟨0,1,0,0,0,0⟩
 (.need (.not (.or (.or (.lt (.cnt (.x 0)) (.c 2)) (.not (.eqI (.sub (.cnt (.x 0)) (.c 2)) (.x 4)))) (.not (.x 0)))) (.R (.sub (.cnt (.x 0)) (.c 2)))
 (.need (.not (.or (.or (.lt (.cnt (.x 0)) (.c 2)) (.not (.eqI (.sub (.cnt (.x 0)) (.c 2)) (.x 4)))) (.not (.x 0)))) (.X (.sub (.cnt (.x 0)) (.c 2)) (.x 0))
 (.need (.not (.or (.or (.lt (.cnt (.x 0)) (.c 2)) (.not (.eqI (.sub (.cnt (.x 0)) (.c 2)) (.x 4)))) (.not (.x 0)))) (.nns (.x 0))
 (.load (.not (.or (.or (.lt (.cnt (.x 0)) (.c 2)) (.not (.eqI (.sub (.cnt (.x 0)) (.c 2)) (.x 4)))) (.not (.x 0)))) (.el (.x 0) (.sub (.cnt (.x 0)) (.c 2)) 6 0) 1 [.U 10] ⟨1,0,0,0,0,0⟩
 (.need (.and (.not (.or (.or (.lt (.cnt (.x 0)) (.c 2)) (.not (.eqI (.sub (.cnt (.x 0)) (.c 2)) (.x 4)))) (.not (.x 0)))) (.not (.eqI (.x 10) (.c 14)))) (.R (.sub (.cnt (.x 0)) (.c 2)))
 (.need (.and (.not (.or (.or (.lt (.cnt (.x 0)) (.c 2)) (.not (.eqI (.sub (.cnt (.x 0)) (.c 2)) (.x 4)))) (.not (.x 0)))) (.not (.eqI (.x 10) (.c 14)))) (.X (.sub (.cnt (.x 0)) (.c 2)) (.x 0))
 (.load (.and (.not (.or (.or (.lt (.cnt (.x 0)) (.c 2)) (.not (.eqI (.sub (.cnt (.x 0)) (.c 2)) (.x 4)))) (.not (.x 0)))) (.not (.eqI (.x 10) (.c 14)))) (.el (.x 0) (.sub (.cnt (.x 0)) (.c 2)) 6 0) 6 [.U 11,.J 12,.J 13,.J 14,.J 15,(.s (.x 2))] ⟨5,0,1,0,0,0⟩
 (.call (.and (.not (.or (.or (.lt (.cnt (.x 0)) (.c 2)) (.not (.eqI (.sub (.cnt (.x 0)) (.c 2)) (.x 4)))) (.not (.x 0)))) (.not (.eqI (.x 10) (.c 14)))) false 88 [(.agg [.U 11,.J 12,.J 13,.J 14,.J 15,(.s (.x 2))])] (.p (.B 1)) ⟨0,1,0,0,0,0⟩
 (.ite (.or (.or (.or (.lt (.cnt (.x 0)) (.c 2)) (.not (.eqI (.sub (.cnt (.x 0)) (.c 2)) (.x 4)))) (.not (.x 0))) (.and (.not (.eqI (.x 10) (.c 14))) (.not (.x 1))))
 (.ret (.p (.one (.b (.c false)))))
 (.N (.R (.sub (.cnt (.x 0)) (.c 2)))
 (.N (.and (.and (.le (.c 0) (.sub (.cnt (.x 0)) (.c 2))) (.le (.sub (.cnt (.x 0)) (.c 2)) (.cap (.x 0)))) (.and (.le (.c 0) (.c 0)) (.le (.c 0) (.sub (.cnt (.x 0)) (.c 2)))))
 (.mk [(.i .u8 (.c 5))] 5 1
 (.C 52 [.L 1] (.p (.one (.v 0))) ⟨0,0,0,1,0,0⟩
 (.C 51 [(.agg [.U 0,.J 1,.J 2,.J 3,.J 4,(.s (.x 0)),(.sl (.sub (.x 0) (.c 0) (.sub (.cnt (.x 0)) (.c 2)) 6))]),(.one (.v 0))] (.p (.B 2)) ⟨0,1,0,0,0,0⟩
 (.ret (.p (.B 2))))))))))))))))))))))
theorem YU:aZ ⟨true,[]⟩ Tryz.prog (fun l=>([]:List bK).getD l ⟨[],[],[]⟩) Tryz.f89=SS:=by kernel_rfl
theorem acR:az Tryz.prog .zero Tryz.f89.params.toList=some ([(.agg [.U 0,.J 1,.J 2,.J 3,.J 4,(.s (.x 0)),(.sl (.x 0))])],⟨5,0,1,0,1,0⟩):=by kernel_rfl
abbrev Oo:Ng->Bool:=ut 15 20
abbrev wE:Ng->Bool:=ut 21 32
abbrev wB:Ng->Bool:=fun x=>decide (x.k=6)
abbrev wO (l:List Int):Ng->Bool:=fun x=>l.contains x.k
def stB (k:Int) (l:List Ng):Bool:=
 if k=7 then rowB [Oo,wE] l else if k=8 then rowB [wO [26,28,29],wE] l else if k=9 then rowB [wE,wB] l||rowB [wE,wB,wB] l
 else if k=10 then rowB [wE,wB] l else if k=11 then rowB [] l||rowB [wE] l else if k=12 then rowB [wE] l else rowB [wO [27]] l
theorem hset {h:Hp} {b:Nat} (hb:h b=none) (o:HO):dA h (h.set b o):=fun c x hc=>by rw[aO _ (fun e=>by rw[e,hb] at hc;cases hc)];exact hc
theorem dA.trans {h k m:Hp} (a:dA h k) (b:dA k m):dA h m:=fun c o hc=>b c o (a c o hc)
theorem rF {h:Hp} {b c:Nat} {v:Value} {p:Ng->Bool} {T:TypeId} (hb:h b=some ⟨[v],T⟩) (W:Want wants h v p):zA h ⟨some (b,0),1,c⟩ [p]:=
 Ey hb rfl rfl fun i v' p' h1 h2=>by
  match i with
  | 0=>cases h1;cases h2;exact W
  | i+1=>simp at h1
theorem wQ {h:Hp} {b c:Nat} {v v2:Value} {p p2:Ng->Bool} {T:TypeId} (hb:h b=some ⟨[v,v2],T⟩) (W:Want wants h v p) (W2:Want wants h v2 p2):zA h ⟨some (b,0),2,c⟩ [p,p2]:=
 Ey hb rfl rfl fun i v' p' h1 h2=>by
  match i with
  | 0=>cases h1;cases h2;exact W
  | 1=>cases h1;cases h2;exact W2
  | i+2=>simp at h1
theorem afw {h:Hp} {b c:Nat} {v v2 v3:Value} {p p2 p3:Ng->Bool} {T:TypeId} (hb:h b=some ⟨[v,v2,v3],T⟩) (W:Want wants h v p) (W2:Want wants h v2 p2) (W3:Want wants h v3 p3):zA h ⟨some (b,0),3,c⟩ [p,p2,p3]:=
 Ey hb rfl rfl fun i v' p' h1 h2=>by
  match i with
  | 0=>cases h1;cases h2;exact W
  | 1=>cases h1;cases h2;exact W2
  | 2=>cases h1;cases h2;exact W3
  | i+3=>simp at h1
theorem nD {h:Hp} {b n c:Nat} {l:List Int} {T:TypeId} (hb:h b=some ⟨Qq l,T⟩) (hn:l.length=n):Rows h ⟨some (b,0),n,c⟩ (Qq l) 1:=
 ⟨by simp[xI,hn],.inr (by rw[bz hb,if_pos (by simp[xI,hn])];simp[<- hn,<- xI l])⟩
set_option maxHeartbeats 8000000 in
def RI:Ct Tryz.prog where
 f:=91
 spec:=fun args h φ=>∃ x sl l,args=[lkv x sl]/\NG h sl l/\l.length<=1000000/\φ (.bool (stB x.k l)) h
 ok:=by
  rintro args h φ w ⟨x,sl,l,rfl,R,hl,hφ⟩ hH;refine dh (bn Tryz.func91 Vs ZU [Ii,zK] (fun v k=>∃ k',dA k' k/\φ v k') (bP) (bu) ⟨[x.k,x.l,x.c,x.z,x.n],[],[x.x],[],[sl],[],h,df⟩ ⟨rfl,rfl,rfl,rfl,rfl,rfl⟩ af ?_ w hH rfl);generalize hE:(⟨aG _,_,_,_⟩:Env)=E;have sbc:E.spec 87=(Ii).spec:=by rw[<- hE];rfl
  have sbd:E.spec 52=(zK).spec:=by rw[<- hE];rfl
  have ep:E.post=(fun v k=>∃ k',dA k' k/\φ v k'):=by rw[<- hE]
  clear hE;unfold KQ;unfold stB at hφ;have fin:∀ (C:Ctx) (b:Bool) (e:BE),dA h C.h->e.den C=b->φ (.bool b) h->Then E (.ret (.p (.one (.b e)))) C:=by
   intro C b e hC he hb;rw[ak,ep];refine⟨h,hC,?_⟩;simpa[go_sem,he] using hb
  by_cases h7:x.k=7
  . rw[if_pos h7] at hφ;rw[aj,if_pos (by simpa[go_sem] using h7),ae,aK];intro b hb;have hb':=hset hb;rw[ag,sbc];refine⟨x,sl,l,_,_,rfl,R.le (hb' _),hl,wQ (aA _ _ _) (rE _) (dS _),?_⟩;refine rR ⟨[],[_],[],[],[],[]⟩ rfl af rfl ?_;exact fin _ _ _ (hb' _) rfl hφ
  rw[if_neg h7] at hφ;rw[aj,if_neg (by simpa[go_sem] using h7),ae];by_cases h8:x.k=8
  . rw[if_pos h8] at hφ;rw[aj,if_pos (by simpa[go_sem] using h8),ae,aK];intro b hb;have hb':=hset hb;rw[ag,sbd];refine⟨_,rfl,fun p k T hk hp=>?_⟩;refine⟨fun h=>(by cases h),(bQ _ _).2 ⟨⟨[],[],[],[_],[],[]⟩,rfl,by intro u hu;simp at hu;subst hu;rfl,rfl,?_⟩⟩;have hkk:=dA.trans (hb' _) hk;have hro:Rows k ⟨some (b,0),3,3⟩ (Qq [26,28,29]) 1:=nD (hk _ _ (aA _ _ _)) rfl;have hw:=rD hp hro (by decide);rw[ae,aK];intro b2 hb2;have hb2':=hset hb2;rw[ag,sbc];refine⟨x,sl,l,_,_,rfl,R.le (dA.trans hkk (hb2' _)),hl,wQ (aA _ _ _) (hw.le (hb2' _)) (dS _),?_⟩;refine rR ⟨[],[_],[],[],[],[]⟩ rfl af rfl ?_;exact fin _ _ _ (dA.trans hkk (hb2' _)) rfl hφ
  rw[if_neg h8] at hφ;rw[aj,if_neg (by simpa[go_sem] using h8),ae];by_cases h9:x.k=9
  . rw[if_pos h9] at hφ;rw[aj,if_pos (by simpa[go_sem] using h9),ae,aK];intro b hb;have hb':=hset hb;rw[ag,sbc];refine⟨x,sl,l,_,_,rfl,R.le (hb' _),hl,wQ (aA _ _ _) (dS _) (rC _),?_⟩;refine rR ⟨[],[_],[],[],[],[]⟩ rfl af rfl ?_;cases hc:rowB [wE,wB] l with
    | true=>
      rw[hc] at hφ;rw[ah,if_pos (by simp[go_sem])];exact fin _ _ _ (hb' _) rfl hφ
    | false=>
      rw[hc,Bool.false_or] at hφ;rw[ah,if_neg (by simp[go_sem]),ae,aK];intro b2 hb2;have hb2':=hset hb2;rw[ag,sbc];refine⟨x,sl,l,_,_,rfl,R.le (dA.trans (hb' _) (hb2' _)),hl,afw (aA _ _ _) (dS _) (rC _) (rC _),?_⟩;refine rR ⟨[],[_],[],[],[],[]⟩ rfl af rfl ?_;exact fin _ _ _ (dA.trans (hb' _) (hb2' _)) rfl hφ
  rw[if_neg h9] at hφ;rw[aj,if_neg (by simpa[go_sem] using h9),ae];by_cases h10:x.k=10
  . rw[if_pos h10] at hφ;rw[aj,if_pos (by simpa[go_sem] using h10),ae,aK];intro b hb;have hb':=hset hb;rw[ag,sbc];refine⟨x,sl,l,_,_,rfl,R.le (hb' _),hl,wQ (aA _ _ _) (dS _) (rC _),?_⟩;refine rR ⟨[],[_],[],[],[],[]⟩ rfl af rfl ?_;exact fin _ _ _ (hb' _) rfl hφ
  rw[if_neg h10] at hφ;rw[aj,if_neg (by simpa[go_sem] using h10),ae];by_cases h11:x.k=11
  . rw[if_pos h11] at hφ;rw[aj,if_pos (by simpa[go_sem] using h11),ae,au,if_pos (by rfl),sbc];refine⟨x,sl,l,_,_,rfl,R,hl,fZ _,?_⟩;refine rR ⟨[],[_],[],[],[],[]⟩ rfl af rfl ?_;cases hc:rowB [] l with
    | true=>
      rw[hc] at hφ;rw[ah,if_pos (by simp[go_sem])];exact fin _ _ _ (fun _ _ h=>h) rfl hφ
    | false=>
      rw[hc,Bool.false_or] at hφ;rw[ah,if_neg (by simp[go_sem]),ae,aK];intro b2 hb2;have hb2':=hset hb2;rw[ag,sbc];refine⟨x,sl,l,_,_,rfl,R.le (dA.trans (fun _ _ h=>h) (hb2' _)),hl,rF (aA _ _ _) (dS _),?_⟩;refine rR ⟨[],[_],[],[],[],[]⟩ rfl af rfl ?_;exact fin _ _ _ (dA.trans (fun _ _ h=>h) (hb2' _)) rfl hφ
  rw[if_neg h11] at hφ;rw[aj,if_neg (by simpa[go_sem] using h11),ae];by_cases h12:x.k=12
  . rw[if_pos h12] at hφ;rw[aj,if_pos (by simpa[go_sem] using h12),ae,aK];intro b hb;have hb':=hset hb;rw[ag,sbc];refine⟨x,sl,l,_,_,rfl,R.le (hb' _),hl,rF (aA _ _ _) (dS _),?_⟩;refine rR ⟨[],[_],[],[],[],[]⟩ rfl af rfl ?_;exact fin _ _ _ (hb' _) rfl hφ
  rw[if_neg h12] at hφ;rw[aj,if_neg (by simpa[go_sem] using h12),ae];rw[aK];intro b hb;have hb':=hset hb;rw[ag,sbd];refine⟨_,rfl,fun p k T hk hp=>?_⟩;refine⟨fun h=>(by cases h),(bQ _ _).2 ⟨⟨[],[],[],[_],[],[]⟩,rfl,by intro u hu;simp at hu;subst hu;rfl,rfl,?_⟩⟩;have hkk:=dA.trans (hb' _) hk;have hro:Rows k ⟨some (b,0),1,1⟩ (Qq [27]) 1:=nD (hk _ _ (aA _ _ _)) rfl;have hw:=rD hp hro (by decide);rw[ae,aK];intro b2 hb2;have hb2':=hset hb2;rw[ag,sbc];refine⟨x,sl,l,_,_,rfl,R.le (dA.trans hkk (hb2' _)),hl,rF (aA _ _ _) (hw.le (hb2' _)),?_⟩;refine rR ⟨[],[_],[],[],[],[]⟩ rfl af rfl ?_;exact fin _ _ _ (dA.trans hkk (hb2' _)) rfl hφ
def Gy:Ng:=⟨0,0,0,0,0,[]⟩
def YM (n:Int) (l:List Ng):Bool:=
 decide (2<=l.length)&&decide ((l.length:Int) - 2=n)&&decide ((l.getD (l.length - 1) Gy).k=6)&&(decide ((l.getD (l.length - 2) Gy).k=14)||Oo (l.getD (l.length - 2) Gy))&&(l.take (l.length - 2)).all (wO [5])
theorem NG.take {h:Hp} {sl:bM} {l:List Ng} (R:NG h sl l) {m c:Nat} (hm:m<=l.length):NG h ⟨sl.a,m,c⟩ (l.take m):=by
 have hn:=NG.n R;have e:qA (l.take m)=(qA l).take (m*6):=by
  have h1:qA l=qA (l.take m)++qA (l.drop m):=by rw[<- IG,List.take_append_drop]
  have h2:(qA (l.take m)).length=m*6:=by rw[qK,List.length_take];omega
  rw[h1,<- h2,List.take_left]
 refine⟨by rw[qK,List.length_take];show _=m*6;omega,?_⟩;by_cases h0:m=0
 . exact .inl h0
 right;obtain⟨b,o,ha⟩:=Rows.nn R (j:=0) (by omega);rcases R.2 with h1 | hr
 . omega
 . show hread h sl.a (m*6)=_;rw[ha] at hr⊢;have:=MO hr (k:=0) (m:=m*6) (by omega);rw[e];simpa using this
set_option maxRecDepth 100000 in
set_option maxHeartbeats 8000000 in
def X9:Ct Tryz.prog where
 f:=89
 spec:=fun args h φ=>∃ x sl l,args=[lkv x sl]/\NG h sl l/\l.length<=1000000/\sl.n<=sl.c/\φ (.bool (YM x.n l)) h
 ok:=by
  rintro args h φ w ⟨x,sl,l,rfl,R,hl,hc,hφ⟩ hH;refine dh (bn Tryz.func89 YU acR [BP,Iq,zK,yM] (fun v k=>∃ k',dA k' k/\φ v k') (bP) (bu) ⟨[x.k,x.l,x.c,x.z,x.n],[],[x.x],[],[sl],[],h,df⟩ ⟨rfl,rfl,rfl,rfl,rfl,rfl⟩ af ?_ w hH rfl);generalize hE:(⟨aG _,_,_,_⟩:Env)=E;have sbe:E.spec 132=(BP).spec:=by rw[<- hE];rfl
  have sbf:E.spec 88=(Iq).spec:=by rw[<- hE];rfl
  have sbd:E.spec 52=(zK).spec:=by rw[<- hE];rfl
  have sbg:E.spec 51=(yM).spec:=by rw[<- hE];rfl
  have ep:E.post=(fun v k=>∃ k',dA k' k/\φ v k'):=by rw[<- hE]
  clear hE;unfold SS;have hn:=NG.n R;unfold YM at hφ;by_cases h2:2<=l.length;rotate_left
  . rw[decide_eq_false h2] at hφ;have hz:¬ ((2:Int)<=sl.n):=by omega
    rw[<- ae]
    iterate 16 (try simp only[ae];try simp[go_sem,hz])
    rw[ep];exact⟨h,fun _ _ h=>h,by simpa using hφ⟩
  have hz:¬ ((sl.n:Int)<2):=by omega
  have hz':(2:Int)<=sl.n:=by omega
  have r1:(-9223372036854775808:Int)<=sl.n - 2:=by omega
  have r2:(sl.n:Int) - 2<=9223372036854775807:=by omega
  have r3:(-9223372036854775808:Int)<=sl.n - 1:=by omega
  have r4:(sl.n:Int) - 1<=9223372036854775807:=by omega
  rw[decide_eq_true h2,Bool.true_and] at hφ;by_cases hx:(l.length:Int) - 2=x.n;rotate_left
  . rw[decide_eq_false hx] at hφ;have hx':¬ ((sl.n:Int) - 2=x.n):=by omega
    rw[<- ae]
    iterate 16 (try simp only[ae];try simp[go_sem,hz',hx',r1,r2])
    rw[ep];exact⟨h,fun _ _ h=>h,by simpa using hφ⟩
  have hx':(sl.n:Int) - 2=x.n:=by omega
  rw[decide_eq_true hx,Bool.true_and] at hφ;obtain⟨b,o,ha⟩:=Rows.nn R (j:=0) (by omega);have rd1:=NG.node R (j:=l.length - 1) (by omega) ha;have rd2:=NG.node R (j:=l.length - 2) (by omega) ha;have rdk:=Rows.read (off:=0) (m:=1) R (j:=l.length - 2) (by omega) (by omega) ha;rw[Nat.add_zero,Nat.add_zero,jl (by omega)] at rdk;rw[List.getD_eq_getElem?_getD,List.getD_eq_getElem?_getD,List.getElem?_eq_getElem (by omega:l.length - 1<l.length),List.getElem?_eq_getElem (by omega:l.length - 2<l.length),Option.getD_some,Option.getD_some] at hφ;generalize l[l.length - 1]=y at *;generalize l[l.length - 2]=z at *;have q1:((sl.n:Int) - 1).toNat=l.length - 1:=by omega
  have q2:((sl.n:Int) - 2).toNat=l.length - 2:=by omega
  have q3:(0:Int)<=sl.n - 1:=by omega
  have q4:(0:Int)<=sl.n - 2:=by omega
  have q5:(1:Int)<=sl.n:=by omega
  rw[aC];refine⟨by simp[go_sem];omega,?_⟩;rw[ai];refine⟨by simp[go_sem,hx']<;>omega,?_⟩;rw[ai];refine⟨by simp[go_sem,hx',ha];omega,?_⟩;rw[bY,if_pos (by simp[go_sem,hx',hz'])];refine (bQ _ _).2 ⟨⟨[y.k,y.l,y.c,y.z,y.n],[],[y.x],[],[],[]⟩,rfl,af,by simpa[go_sem,ha,Ng.cs,q1] using rd1,?_⟩;rw[dn,if_pos (by simp[go_sem,hx',hz']),sbe];refine⟨y,rfl,?_⟩;by_cases hy:y.k=6;rotate_left
  . rw[decide_eq_false hy] at hφ;refine⟨fun h=>(by cases h),(bQ _ _).2 ⟨⟨[],[false],[],[],[],[]⟩,rfl,af,by rw[decide_eq_false hy];rfl,?_⟩⟩
    iterate 14 (try simp only[ae];try simp[go_sem,hx'])
    rw[ep];exact⟨h,fun _ _ h=>h,by simpa using hφ⟩
  rw[decide_eq_true hy,Bool.true_and] at hφ;refine⟨fun h=>(by cases h),(bQ _ _).2 ⟨⟨[],[true],[],[],[],[]⟩,rfl,af,by rw[decide_eq_true hy];rfl,?_⟩⟩;rw[ai];refine⟨by simp[go_sem,hx']<;>omega,?_⟩;rw[ai];refine⟨by simp[go_sem,hx',ha]<;>omega,?_⟩;rw[ai];refine⟨by simp[go_sem,hx',ha],?_⟩;rw[bY,if_pos (by simp[go_sem,hx',hz'])];refine (bQ _ _).2 ⟨⟨[z.k],[],[],[],[],[]⟩,rfl,af,by simpa[go_sem,ha,Ng.cs,q2] using rdk,?_⟩;have last:∀ (i1 i2 i3 i4 i5 i6 i7 i8 i9 i10 i11:Int) (b0 b1:Bool) (t1 t2:List UInt8),(b0&&(decide (i6=14)||b1))=true->φ (.bool ((l.take (l.length - 2)).all (wO [5]))) h->
   Then E (.N (.R (.sub (.cnt (.x 0)) (.c 2)))
    (.N (.and (.and (.le (.c 0) (.sub (.cnt (.x 0)) (.c 2))) (.le (.sub (.cnt (.x 0)) (.c 2)) (.cap (.x 0)))) (.and (.le (.c 0) (.c 0)) (.le (.c 0) (.sub (.cnt (.x 0)) (.c 2)))))
    (.mk [(.i .u8 (.c 5))] 5 1
    (.C 52 [.L 1] (.p (.one (.v 0))) ⟨0,0,0,1,0,0⟩
    (.C 51 [(.agg [.U 0,.J 1,.J 2,.J 3,.J 4,(.s (.x 0)),(.sl (.sub (.x 0) (.c 0) (.sub (.cnt (.x 0)) (.c 2)) 6))]),(.one (.v 0))] (.p (.B 2)) ⟨0,1,0,0,0,0⟩
    (.ret (.p (.B 2)))))))) ⟨[x.k,x.l,x.c,x.z,x.n,i1,i2,i3,i4,i5,i6,i7,i8,i9,i10,i11],[b0,b1],[x.x,t1,t2],[],[sl],[],h,df⟩:=by
   intro i1 i2 i3 i4 i5 i6 i7 i8 i9 i10 i11 b0 b1 t1 t2 _ hφ;rw[ai];refine⟨by simp[go_sem]<;>omega,?_⟩;rw[ai];refine⟨by simp[go_sem]<;>omega,?_⟩;rw[ae,aK];intro b2 hb2;have hb2':=hset hb2;rw[ag,sbd];refine⟨_,rfl,fun p k T hk hp=>?_⟩;refine⟨fun h=>(by cases h),(bQ _ _).2 ⟨⟨[],[],[],[_],[],[]⟩,rfl,by intro u hu;simp at hu;subst hu;rfl,rfl,?_⟩⟩;have hkk:=dA.trans (hb2' _) hk;have hro:Rows k ⟨some (b2,0),1,1⟩ (Qq [5]) 1:=nD (hk _ _ (aA _ _ _)) rfl;have hw:=rD hp hro (by decide);rw[ag,sbg];have hsub:(LE.den (⟨[x.k,x.l,x.c,x.z,x.n,i1,i2,i3,i4,i5,i6,i7,i8,i9,i10,i11],[b0,b1],[x.x,t1,t2],[],[sl],[],h,df⟩:Ctx) (.sub (.x 0) (.c 0) (.sub (.cnt (.x 0)) (.c 2)) 6))=⟨sl.a,l.length - 2,sl.c⟩:=by
    show (⟨if sl.c=0 then sl.a else sl.a.map fun x=>(x.1,x.2+0*6),((sl.n:Int) - 2).toNat - 0,sl.c - 0⟩:bM)=_;rw[q2,ha];simp
   have hNG:NG k ⟨sl.a,l.length - 2,sl.c⟩ (l.take (l.length - 2)):=(NG.take R (by omega)).le hkk;refine⟨x,⟨sl.a,l.length - 2,sl.c⟩,l.take (l.length - 2),_,_,by rw[<- hsub];rfl,hNG,by rw[List.length_take];omega,hw,?_⟩;refine rR ⟨[],[_],[],[],[],[]⟩ rfl af rfl ?_;rw[ak,ep];exact⟨h,hkk,hφ⟩
  by_cases hk:z.k=14
  . rw[decide_eq_true hk,Bool.true_or,Bool.true_and] at hφ;rw[ai];refine⟨by simp[go_sem,hk],?_⟩;rw[ai];refine⟨by simp[go_sem,hk],?_⟩;rw[bY,if_neg (by simp[go_sem,hk]),ae,au,if_neg (by simp[go_sem,hk]),ae,aj,if_neg (by simp[go_sem,hk,hz',hx'])];exact last _ _ _ _ _ _ _ _ _ _ _ _ _ _ _ (by simp[hk]) hφ
  . rw[decide_eq_false hk,Bool.false_or] at hφ;rw[ai];refine⟨by simp[go_sem]<;>omega,?_⟩;rw[ai];refine⟨by simp[go_sem,ha]<;>omega,?_⟩;rw[bY,if_pos (by simp[go_sem,hz',hx',hk])];refine (bQ _ _).2 ⟨⟨[z.k,z.l,z.c,z.z,z.n],[],[z.x],[],[],[]⟩,rfl,af,by simpa[go_sem,ha,Ng.cs,q2] using rd2,?_⟩;rw[dn,if_pos (by simp[go_sem,hz',hx',hk]),sbf];refine⟨z,rfl,?_⟩;cases hw:Oo z with
    | false=>
      rw[hw] at hφ;refine⟨fun h=>(by cases h),(bQ _ _).2 ⟨⟨[],[false],[],[],[],[]⟩,rfl,af,by rw[show ut 15 20 z=false from hw];rfl,?_⟩⟩;rw[ah,if_pos (by simp[go_sem,hk]),ae,ax,ep];exact⟨h,fun _ _ h=>h,by simpa[go_sem] using hφ⟩
    | true=>
      rw[hw,Bool.true_and] at hφ;refine⟨fun h=>(by cases h),(bQ _ _).2 ⟨⟨[],[true],[],[],[],[]⟩,rfl,af,by rw[show ut 15 20 z=true from hw];rfl,?_⟩⟩;rw[ah,if_neg (by simp[go_sem,hz',hx'])];exact last _ _ _ _ _ _ _ _ _ _ _ _ _ _ _ (by simp) hφ
end
end Go.Proofs.YtllbpdllkkcajaaGreatDoor
