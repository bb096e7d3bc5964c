/- hindcastlaw07: texts joined: ParO, ParP, ParS, ParT, ParU, LexT, LexU, LexP, LexV, ParV, TreF, TreN, TreO, TreP, TreT, TreR, TreS, TreB, TreC, TreD, TreU, RefA, RefB, RefC, LexW. -/
import Derived.Test.YtllbpdllkkcajaaGreatDoorPeh
namespace Go.Proofs.YtllbpdllkkcajaaGreatDoor
open Go.RowKit
section
attribute [local go_sem] aY aX aA ak ax aF aT aJ au says_again
def Gv:Fm:=(.C 145 [.P 0] (.p (.P 1)) ⟨0,0,0,0,0,1⟩
 (.loop 0 ⟨[],[],[],[],[],[(.c .nilp),(.pt 1)]⟩
 (.C 44 [.P 0] (.p (.K 0 1 2 3 0)) ⟨4,0,1,0,0,0⟩
 (.C 69 [.P 0,.W [91]] (.p (.B 0)) ⟨0,1,0,0,0,0⟩
 (.ite (.x 0)
 (.C 108 [.P 0,.W [91]] (.p (.K 4 5 6 7 1)) ⟨4,0,1,0,0,0⟩
 (.C 22 [.P 0] (.p (.P 4)) ⟨0,0,0,0,0,1⟩
 (.V 110 [.P 0,.W [93]]
 (.mk [(.pt 3),(.pt 4)] 71 2
 (.C 128 [(.one (.i .u8 (.c 28))),.K 0 1 2 3 0,.L 0] (.p (.P 5)) ⟨0,0,0,0,0,1⟩
 (.again 0 ⟨0,0,0,0,0,2⟩ ⟨0,0,0,0,0,4⟩ ⟨[],[],[],[],[],[(.pt 2),(.pt 5)]⟩))))))
 (.C 111 [.P 0,.W [46]] (.p (.B 1)) ⟨0,1,0,0,0,0⟩
 (.ite (.x 1)
 (.C 107 [.P 0,(.one (.i .u8 (.c 1)))] (.p (.K 4 5 6 7 1)) ⟨4,0,1,0,0,0⟩
 (.mk [(.pt 3)] 71 1
 (.C 106 [(.one (.i .u8 (.c 29))),.K 0 1 2 3 0,.S 1,.L 0] (.p (.P 4)) ⟨0,0,0,0,0,1⟩
 (.again 0 ⟨0,0,0,0,0,2⟩ ⟨0,0,0,0,0,4⟩ ⟨[],[],[],[],[],[(.pt 2),(.pt 4)]⟩))))
 (.ret (.p (.P 3))))))))))
theorem Qk:aU ⟨true,[]⟩ Tryz.prog (fun l=>([⟨[3,2],[8,9,4,12,13,11,14,15,16,17,5,18,19,20,21,22,23,24,26,27,25,28,29,30,31,32,33,34,10],[4]⟩]:List bG).getD l ⟨[],[],[]⟩) Tryz.f127=Gv:=by kernel_rfl
theorem VK:az Tryz.prog .zero Tryz.f127.params.toList=some ([.P 0],⟨0,0,0,0,0,1⟩):=by kernel_rfl
def Gm:Fm:=(.C 106 [(.one (.i .u8 (.c 27))),.K 0 1 2 3 0,.S 0,(.one (.sl .nil))] (.p (.P 1)) ⟨0,0,0,0,0,1⟩
 (.C 108 [.P 0,.W [40]] (.p (.K 4 5 6 7 1)) ⟨4,0,1,0,0,0⟩
 (.loop 0 ⟨[],[(.c true)],[],[],[],[]⟩
 (.C 46 [.P 0] (.p (.B 1)) ⟨0,1,0,0,0,0⟩
 (.call (.not (.x 1)) false 69 [.P 0,.W [41]] (.p (.B 2)) ⟨0,1,0,0,0,0⟩
 (.ite (.and (.not (.x 1)) (.not (.x 2)))
 (.ite (.not (.x 0))
 (.C 105 [.P 0,.W [44]] (.p (.K 8 9 10 11 2)) ⟨4,0,1,0,0,0⟩
 (.O (.pt 1 6) 1 [(.sl (.x 0))] ⟨0,0,0,0,1,0⟩
 (.Z 1
 (.Z 1
 (.callK (.c true) [((.c true),(.pt 1 6),1)] 22 [.P 0] (.p (.P 2)) ⟨0,0,0,0,0,1⟩
 (.mk [(.pt 2)] 71 1
 (.app (.x 0) (.x 1) 1 8 71
 (.Z 1
 (.Z 1
 (.store (.pt 1 6) [(.sl (.x 2))]
 (.again 0 ⟨8,0,2,0,0,2⟩ ⟨8,1,2,0,0,2⟩ ⟨[],[(.c false)],[],[],[],[]⟩)))))))))))
 (.O (.pt 1 6) 1 [(.sl (.x 0))] ⟨0,0,0,0,1,0⟩
 (.Z 1
 (.Z 1
 (.callK (.c true) [((.c true),(.pt 1 6),1)] 22 [.P 0] (.p (.P 2)) ⟨0,0,0,0,0,1⟩
 (.mk [(.pt 2)] 71 1
 (.app (.x 0) (.x 1) 1 8 71
 (.Z 1
 (.Z 1
 (.store (.pt 1 6) [(.sl (.x 2))]
 (.again 0 ⟨8,0,2,0,0,2⟩ ⟨8,1,2,0,0,2⟩ ⟨[],[(.c false)],[],[],[],[]⟩)))))))))))
 (.V 110 [.P 0,.W [41]]
 (.ret (.p (.P 1))))))))))
theorem Qb:aU ⟨true,[]⟩ Tryz.prog (fun l=>([⟨[6],[13,14,15,16,17,18,19,20,21,22,23,24,25,26,27,28,29,30,31,32,33,34,35],[10]⟩]:List bG).getD l ⟨[],[],[]⟩) Tryz.f159=Gm:=by kernel_rfl
theorem VB:az Tryz.prog .zero Tryz.f159.params.toList=some ([.P 0,.K 0 1 2 3 0],⟨4,0,1,0,0,1⟩):=by kernel_rfl
def OH (h:Hp) (b:Nat) (sl:bM) (L:List Tok) (t:Tr) (q:PS) (n:Nat):Nat->Ctx->Prop:=fun _ C=>
 ∃ x0 x1 v x p1 k1 g1 m1,C=⟨[],[],[],[],[],[some (b,0),x0,x1,some (v,0)],k1,cu⟩/\At h b sl L p1 k1 g1/\It g1 v x/\m1<=n/\jR L m1 x p1=some (t,q)/\p1.d+m1<=1000000000000
set_option maxHeartbeats 4000000 in
theorem Yo {n:Nat} (HE:rf n) (HA:CZ n):Jf n:=by
 rintro args h φ w ⟨m,hm,b,sl,L,p,t,q,rfl,W,hr,hd,hφ⟩ hH;refine aZ Tryz.func127 Qk VK [gG,qH,jJ,l7,iH,vK,MN,lF,lZ HE,Tv HA] φ (OH h b sl L t q n) (fun _=>oI b L.length) ⟨[],[],[],[],[],[some (b,0)],h,cu⟩ ⟨rfl,rfl,rfl,rfl,rfl,rfl⟩ af ?_ w hH rfl;generalize hE:(⟨aG _,_,_,_⟩:Env)=E;have sa6:E.spec 44=(gG).spec:=by rw[<- hE];rfl
 have sa8:E.spec 69=(qH).spec:=by rw[<- hE];rfl
 have saf:E.spec 108=(jJ).spec:=by rw[<- hE];rfl
 have sag:E.spec 110=(l7).spec:=by rw[<- hE];rfl
 have sad:E.spec 128=(iH).spec:=by rw[<- hE];rfl
 have saa:E.spec 111=(vK).spec:=by rw[<- hE];rfl
 have sam:E.spec 107=(MN).spec:=by rw[<- hE];rfl
 have sae:E.spec 106=(lF).spec:=by rw[<- hE];rfl
 have san:E.spec 22=(lZ HE).spec:=by rw[<- hE];rfl
 have sao:E.spec 145=(Tv HA).spec:=by rw[<- hE];rfl
 have ep:E.post=φ:=by rw[<- hE]
 have ei:E.inv=(OH h b sl L t q n):=by rw[<- hE]
 have em:E.meas=(fun _=>oI b L.length):=by rw[<- hE]
 clear hE;unfold Gv;unfold Es at hr;simp only[Option.bind_eq_some_iff] at hr;obtain⟨⟨x,r⟩,h1,h2⟩:=hr;rw[ax,if_pos (by rfl),sao];refine⟨m,hm,b,sl,L,p,x,r,rfl,W,h1,hd,fun v k g A1 hI=>?_⟩;simp[go_sem,df];refine⟨some (v,0),rfl,?_⟩;have hrd:=((lg W.lw m).2.2.2.2.1 _ _ _ h1).d;rw[ae];refine bH ?_ ?_
 . rw[ei];exact⟨some (v,0),none,v,x,r,k,g,m,rfl,A1,hI,by omega,h2,by dsimp only at *;omega⟩
 rw[ei,em];rintro i' bb ss v' ll pp hh0 M ⟨x0,x1,v,x,p1,k1,g1,m1,hC,A1,hI,hm1,hb1,hd1⟩ hM;cases hC;have hM:M 0=mu L p1:=hM.trans (kL A1.pw rfl);clear h1 h2;cases m1 with
 | zero=>cases hb1
 | succ m1=>
 rw[jR] at hb1;rw[ax,if_pos (by rfl),sa6];refine⟨b,sl,L,p1,rfl,A1.pw,?_⟩;simp[go_sem,dZ,gI];rw[ai,sa8];refine⟨b,sl,L,p1,[91],rfl,A1.pw,?_⟩;have hd0:=A1.pw.d0;cases c1:dw L [91] p1 with
 | true=>
   rw[if_pos c1] at hb1;simp only[Option.bind_eq_some_iff] at hb1;obtain⟨⟨y,r1⟩,h3,h4⟩:=hb1;simp[go_sem];rw[ah,if_pos (by simp[go_sem])];rw[ai,saf];refine⟨b,sl,L,p1,[91],rfl,A1.pw,?_⟩;simp[go_sem,dZ,gI];have Ao:=bC W.lw [91] p1;have hod:=Ao.d;have A2:=A1.open [91] (by omega);rw[ai,san];refine⟨m1,by omega,b,sl,L,_,y,r1,rfl,A2.pw,h3,by omega,fun v2 k2 g2 A3 hI2=>?_⟩;simp[go_sem,df];refine⟨some (v2,0),rfl,?_⟩;have A4:=A2.then A3;have Ad:=(lg W.lw m1).1 _ _ _ _ h3;have hrd1:=Ad.d;rw[ai,sag];refine⟨b,sl,L,r1,[93],rfl,A4.pw,?_⟩;have A5:=A4.shut [93] (by omega);have As:=cO W.lw [93] r1;have hsd:=As.d;simp[go_sem];rw[ae,aW];intro kb hkb;simp[go_sem];rw[ai,sad];refine⟨28,tk L p1,⟨some (kb,0),2,2⟩,rfl,fun v3 hv3=>?_⟩;simp[go_sem,df];refine⟨some (v3,0),rfl,?_⟩;obtain⟨A6,I6⟩:=A5.node (vs:=[v,v2]) (ts:=[x,y]) hkb ⟨It.le (D5 _ _) _ _ hI,It.le (A2.xW A3) _ _ hI2,trivial⟩ (by simp) hv3 28 (tk L p1).l (tk L p1).c 0 [];rw[ae,says_again,ei,em];refine⟨⟨_,_,v3,_,dQ L [93] r1,_,_,m1,rfl,A6,I6,by omega,h4,by omega⟩,?_⟩;show oI b L.length _<M 0;rw[hM];refine Nat.lt_of_le_of_lt (Nat.le_of_eq (kL A6.pw rfl)) ?_;have m1:=kM (fK c1) (iT c1).1 A1.pw.at';have m2:=fD (Ad.trans As);omega
 | false=>
 rw[c1,if_neg (by decide)] at hb1;simp[go_sem];rw[ah,if_neg (by simp[go_sem])];rw[ai,saa];refine⟨b,sl,L,p1,[46],rfl,A1.pw,?_⟩;cases c2:dw L [46] p1 with
 | true=>
   rw[if_pos c2] at hb1;rw[if_pos rfl];simp[go_sem];rw[ah,if_pos (by simp[go_sem])];have A2:=A1.pass;rw[ai,sam];refine⟨b,sl,L,_,1,rfl,A2.pw,?_⟩;simp[go_sem,dZ,gI];have A3:=A2.word 1;rw[eY] at A3;rw[ae,aW];intro kb hkb;simp[go_sem];rw[ai,sae];refine⟨29,tk L p1,(tk L (bK L p1)).x,⟨some (kb,0),1,1⟩,rfl,fun v3 hv3=>?_⟩;simp[go_sem,df];refine⟨some (v3,0),rfl,?_⟩;obtain⟨A6,I6⟩:=A3.node (vs:=[v]) (ts:=[x]) hkb ⟨hI,trivial⟩ (by simp) hv3 29 (tk L p1).l (tk L p1).c 0 (tk L (bK L p1)).x;have Ap:=aP W.lw p1;have Aw:=dL W.lw 1 (bK L p1);have hwd:=(Ap.trans Aw).d;rw[ae,says_again,ei,em];refine⟨⟨_,_,v3,_,_,_,_,m1,rfl,A6,I6,by omega,hb1,by omega⟩,?_⟩;show oI b L.length _<M 0;rw[hM];refine Nat.lt_of_le_of_lt (Nat.le_of_eq (kL A6.pw rfl)) ?_;have m1:=kM (fE c2) (iT c2).1 A1.pw.at';have m2:=fD Aw;omega
 | false=>
 rw[c2,if_neg (by decide)] at hb1;cases hb1;rw[if_neg (by decide)];simp[go_sem];rw[ah,if_neg (by simp[go_sem])];simp only[ae];simp[go_sem,ep];exact hφ v _ _ A1 hI
def En (L:List Tok) (n:Nat) (t0:Tok) (p:PS):Option (Tr×PS):=(pI L n true [] (dP L [40] p)).map fun r=>(nd 27 t0 0 t0.x r.1,dQ L [41] r.2)
def OI (f:List Tok->Nat->Tok->PS->Option (Tr×PS)) (n:Nat) (args:List Value) (h:Hp) (φ:Value->Hp->Prop):Prop:=
 ∃ m,m<=n/\∃ b sl L p t q t0,args=[df b,dZ t0]/\PW h b sl L p/\f L m t0 p=some (t,q)/\p.d+m+1<=1000000000000/\∀ v k g,At h b sl L q k g->It g v t->φ (df v) k
def Jd (n:Nat):Prop:=∀ args h φ w,OI En n args h φ->Holds h w->Calls Tryz.prog 159 args.toArray w fun e w'=>∃ v k,e=.returned v/\φ v k/\Holds k w'/\Fr w.heap.size h k w w'
def Tz {n:Nat} (H:Jd n):Ct Tryz.prog:=⟨159,OI En n,H⟩
def MF (h:Hp) (b:Nat) (sl:bM) (L:List Tok) (t0:Tok) (rl:List Tr) (r:PS) (d:Int) (n:Nat):Nat->Ctx->Prop:=fun _ C=>
 ∃ i4 i5 i6 i7 s1 first o s vs ts p1 k1 g1 m1,C=⟨[t0.k,t0.l,t0.c,t0.n,i4,i5,i6,i7],[first],[t0.x,s1],[],[],[some (b,0),some (o,0)],k1,cu⟩/\Out h b sl L p1 k1 g1 o 27 t0.l t0.c 0 t0.x s vs ts/\m1<=n/\
  pI L m1 first ts p1=some (rl,r)/\p1.d+m1<=1000000000000/\vs.length+mu L p1<=L.length/\p1.d=d
theorem Vg (L:List Tok) (p:PS):mu L p<=L.length:=by unfold mu;split<;>omega
set_option maxHeartbeats 4000000 in
theorem Xw {n:Nat} (HE:rf n):Jd n:=by
 rintro args h φ w ⟨m,hm,b,sl,L,p,t,q,t0,rfl,W,hr,hd,hφ⟩ hH;unfold En at hr;simp only[Option.map_eq_some_iff] at hr;obtain⟨⟨rl,r⟩,h1,h2⟩:=hr;cases h2;refine aZ Tryz.func159 Qb VB [lF,jJ,jP,qH,uD,l7,lZ HE] φ (MF h b sl L t0 rl r (p.d+1) n) (fun _=>oI b L.length) ⟨[t0.k,t0.l,t0.c,t0.n],[],[t0.x],[],[],[some (b,0)],h,cu⟩ ⟨rfl,rfl,rfl,rfl,rfl,rfl⟩ af ?_ w hH rfl;generalize hE:(⟨aG _,_,_,_⟩:Env)=E;have sae:E.spec 106=(lF).spec:=by rw[<- hE];rfl
 have saf:E.spec 108=(jJ).spec:=by rw[<- hE];rfl
 have sa7:E.spec 46=(jP).spec:=by rw[<- hE];rfl
 have sa8:E.spec 69=(qH).spec:=by rw[<- hE];rfl
 have sac:E.spec 105=(uD).spec:=by rw[<- hE];rfl
 have sag:E.spec 110=(l7).spec:=by rw[<- hE];rfl
 have san:E.spec 22=(lZ HE).spec:=by rw[<- hE];rfl
 have ep:E.post=φ:=by rw[<- hE]
 have ei:E.inv=(MF h b sl L t0 rl r (p.d+1) n):=by rw[<- hE]
 have em:E.meas=(fun _=>oI b L.length):=by rw[<- hE]
 clear hE;unfold Gm;have A:=At.start W;have hd0:=W.d0;have hlen:=W.len;rw[ax,if_pos (by rfl),sae];refine⟨27,t0,t0.x,⟨none,0,0⟩,rfl,fun o ho=>?_⟩;simp[go_sem,df];refine⟨some (o,0),rfl,?_⟩;have O:=A.out ho 27 t0.l t0.c 0 t0.x;rw[ai,saf];refine⟨b,sl,L,p,[40],rfl,O.at'.pw,?_⟩;simp[go_sem,dZ,gI];have hod:=(bC W.lw [40] p).d;have O1:=O.open [40] (by omega);rw[ae];refine bH ?_ ?_
 . rw[ei];exact⟨_,_,_,_,_,true,o,⟨none,0,0⟩,[],[],_,_,_,m,rfl,O1,hm,h1,by omega,by have:=Vg L (dP L [40] p);simp;omega,hod⟩
 rw[ei,em];rintro i' bb ss v' ll pp hh0 M ⟨i4,i5,i6,i7,s1,first,o,s,vs,ts,p1,k1,g1,m1,hC,O1,hm1,hb1,hd1,hmu,hpd⟩ hM;cases hC;have hM:M 0=mu L p1:=hM.trans (kL O1.at'.pw rfl);clear h1 hod O ho;cases m1 with
 | zero=>cases hb1
 | succ m1=>
 rw[pI] at hb1;have stop:(p1.bad||dw L [41] p1)=true->∀ bs M,Then E (.V 110 [.P 0,.W [41]] (.ret (.p (.P 1)))) ⟨[t0.k,t0.l,t0.c,t0.n,i4,i5,i6,i7],bs,[t0.x,s1],[],[],[some (b,0),some (o,0)],hh0,M⟩:=by
  intro hc bs M;rw[if_pos hc] at hb1;cases hb1;rw[ai,sag];refine⟨b,sl,L,_,[41],rfl,O1.at'.pw,?_⟩;have O2:=O1.shut [41] (by omega);simp[go_sem];simp only[ae];simp[go_sem,ep];obtain⟨g',A',I'⟩:=O2.done;exact hφ o _ g' A' I'
 rw[ax,if_pos (by rfl),sa7];refine⟨b,sl,L,p1,rfl,O1.at'.pw,?_⟩;simp[go_sem];cases c0:p1.bad with
 | true=>
   rw[bD,if_neg (by simp[go_sem])];simp[go_sem];rw[ah,if_neg (by simp[go_sem])];exact stop (by rw[c0];rfl) _ _
 | false=>
 rw[bD,if_pos (by simp[go_sem]),sa8];refine⟨b,sl,L,p1,[41],rfl,O1.at'.pw,?_⟩;simp[go_sem];cases c1:dw L [41] p1 with
 | true=>
   rw[ah,if_neg (by simp[go_sem])];exact stop (by rw[c1];simp) _ _
 | false=>
 clear stop;rw[if_neg (by rw[c0,c1];decide)] at hb1;simp only[Option.bind_eq_some_iff] at hb1;obtain⟨⟨y,r1⟩,h3,h4⟩:=hb1;rw[ah,if_pos (by simp[go_sem])];have hmp:=rH c0 O1.at'.pw.at';have more:∀ (p2:PS) (k2:Hp) (bs:List Bool) (is':List Int) (ss':List (List UInt8)),Out h b sl L p2 k2 g1 o 27 t0.l t0.c 0 t0.x s vs ts->fC L p1 p2 0->iE L m1 1 p2=some (y,r1)->
  Then E (Fm.O (.pt 1 6) 1 [(.sl (.x 0))] ⟨0,0,0,0,1,0⟩
 (.Z 1
 (.Z 1
 (.callK (.c true) [((.c true),(.pt 1 6),1)] 22 [.P 0] (.p (.P 2)) ⟨0,0,0,0,0,1⟩
 (.mk [(.pt 2)] PI 1
 (.app (.x 0) (.x 1) 1 8 PI
 (.Z 1
 (.Z 1
 (.store (.pt 1 6) [(.sl (.x 2))]
 (.again 0 ⟨8,0,2,0,0,2⟩ ⟨8,1,2,0,0,2⟩ ⟨[],[(.c false)],[],[],[],[]⟩)))))))))) ⟨[t0.k,t0.l,t0.c,t0.n,i4,i5,i6,i7]++is',bs,[t0.x,s1]++ss',[],[],[some (b,0),some (o,0)],k2,M⟩:=by
  intro p2 k2 bs is' ss' O2 Ap2 h3;have hpd2:=Ap2.d;have hbl:=O2.blk;rw[bP,if_pos (by rfl)];simp[go_sem,bI hbl,o8];rw[ag];refine⟨by simp[go_sem],?_⟩;rw[ag];refine⟨by simp[go_sem],?_⟩;rw[ae,aF,if_pos (by rfl),san];refine⟨m1,by omega,b,sl,L,p2,y,r1,rfl,O2.at'.pw,h3,by omega,fun v2 k3 g3 A3 hI2=>?_⟩;have O3:=O2.then A3;have Ad:=(lg W.lw m1).1 _ _ _ _ h3;have hrd1:=Ad.d;have hbl3:=O3.blk;simp[go_sem,df];refine⟨by rw[bI hbl,bI hbl3],some (v2,0),rfl,?_⟩;rw[ae,aW];intro kb hkb;simp[go_sem];rw[ae];have hkl:=Vg L p1;refine OC O3 (It.le (O2.at'.xW A3) _ _ hI2) (by omega) hkb rfl rfl rfl fun s' k4 hk4 O4=>?_
  rw[aA];refine⟨by simp[go_sem],?_⟩;rw[ag];refine⟨by simp[go_sem],?_⟩;rw[ae,aJ];refine⟨_,by simp[go_sem,ig hk4,o8];rfl,?_⟩;rw[ae,says_again,ei,em];have hw:=nP (((Pi W.lw m1).1 _ _ _ _ h3)) Ad O2.at'.pw.at';have hm2:=fD Ap2;refine⟨⟨_,_,_,_,_,false,o,s',vs++[v2],ts++[y],r1,_,_,m1,rfl,O4,by omega,h4,by omega,by simp;omega,by omega⟩,?_⟩;show oI b L.length _<M 0;rw[hM];refine Nat.lt_of_le_of_lt (Nat.le_of_eq (kL O4.at'.pw rfl)) ?_;omega
 cases first with
 | true=>
   rw[ah,if_neg (by simp[go_sem])];exact more p1 hh0 _ [] [] O1 (fC.refl p1) h3
 | false=>
   rw[ah,if_pos (by simp[go_sem])];rw[ai,sac];refine⟨b,sl,L,p1,[44],rfl,O1.at'.pw,?_⟩;simp[go_sem,dZ,gI];exact more (bZ L [44] p1) _ _ [_,_,_,_] [_] (O1.must [44]) (bu W.lw [44] p1) h3
def o5:Fm:=(.C 44 [.P 0] (.p (.K 4 5 6 7 1)) ⟨4,0,1,0,0,0⟩
 (.call (.not (.eqI (.x 4) (.c 2))) false 69 [.P 0,.W [91]] (.p (.B 0)) ⟨0,1,0,0,0,0⟩
 (.ite (.and (.not (.eqI (.x 4) (.c 2))) (.not (.x 0)))
 (.V 45 [.P 0,(.I (.c 5))]
 (.C 112 [.P 0] (.p (.P 1)) ⟨0,0,0,0,0,1⟩
 (.mk [(.pt 1)] 71 1
 (.C 128 [(.one (.i .u8 (.c 32))),.K 0 1 2 3 0,.L 0] (.p (.P 2)) ⟨0,0,0,0,0,1⟩
 (.C 108 [.P 0,.W [40]] (.p (.K 8 9 10 11 2)) ⟨4,0,1,0,0,0⟩
 (.Z 1
 (.Z 1
 (.Z 1
 (.O (.pt 1 0) 1 [.U 12] ⟨1,0,0,0,0,0⟩
 (.ite (.eqI (.x 12) (.c 20))
 (.O (.pt 2 6) 1 [(.sl (.x 1))] ⟨0,0,0,0,1,0⟩
 (.Z 2
 (.Z 2
 (.callK (.c true) [((.c true),(.pt 2 6),1)] 22 [.P 0] (.p (.P 3)) ⟨0,0,0,0,0,1⟩
 (.mk [(.pt 3)] 71 1
 (.app (.x 1) (.x 2) 1 8 71
 (.Z 2
 (.Z 2
 (.store (.pt 2 6) [(.sl (.x 3))]
 (.V 110 [.P 0,.W [41]]
 (.ret (.p (.P 2)))))))))))))
 (.V 110 [.P 0,.W [41]]
 (.ret (.p (.P 2))))))))))))))
 (.C 112 [.P 0] (.p (.P 1)) ⟨0,0,0,0,0,1⟩
 (.mk [(.pt 1)] 71 1
 (.C 128 [(.one (.i .u8 (.c 32))),.K 0 1 2 3 0,.L 0] (.p (.P 2)) ⟨0,0,0,0,0,1⟩
 (.C 108 [.P 0,.W [40]] (.p (.K 8 9 10 11 2)) ⟨4,0,1,0,0,0⟩
 (.Z 1
 (.Z 1
 (.Z 1
 (.O (.pt 1 0) 1 [.U 12] ⟨1,0,0,0,0,0⟩
 (.ite (.eqI (.x 12) (.c 20))
 (.O (.pt 2 6) 1 [(.sl (.x 1))] ⟨0,0,0,0,1,0⟩
 (.Z 2
 (.Z 2
 (.callK (.c true) [((.c true),(.pt 2 6),1)] 22 [.P 0] (.p (.P 3)) ⟨0,0,0,0,0,1⟩
 (.mk [(.pt 3)] 71 1
 (.app (.x 1) (.x 2) 1 8 71
 (.Z 2
 (.Z 2
 (.store (.pt 2 6) [(.sl (.x 3))]
 (.V 110 [.P 0,.W [41]]
 (.ret (.p (.P 2)))))))))))))
 (.V 110 [.P 0,.W [41]]
 (.ret (.p (.P 2))))))))))))))))
theorem Qg:aU ⟨true,[]⟩ Tryz.prog (fun l=>([]:List bG).getD l ⟨[],[],[]⟩) Tryz.f160=o5:=by kernel_rfl
theorem VG:az Tryz.prog .zero Tryz.f160.params.toList=some ([.P 0,.K 0 1 2 3 0],⟨4,0,1,0,0,1⟩):=by kernel_rfl
def Gl:Fm:=(.C 44 [.P 0] (.p (.K 0 1 2 3 0)) ⟨4,0,1,0,0,0⟩
 (.C 46 [.P 0] (.p (.B 0)) ⟨0,1,0,0,0,0⟩
 (.ite (.x 0)
 (.C 128 [(.one (.i .u8 (.c 25))),.K 0 1 2 3 0,(.one (.sl .nil))] (.p (.P 1)) ⟨0,0,0,0,0,1⟩
 (.ret (.p (.P 1))))
 (.ite (.eqI (.x 0) (.c 3))
 (.C 82 [.P 0] (.p (.K 4 5 6 7 1)) ⟨4,0,1,0,0,0⟩
 (.C 83 [(.one (.i .u8 (.c 21))),.K 4 5 6 7 1,.J 3,(.one (.sl .nil))] (.p (.P 1)) ⟨0,0,0,0,0,1⟩
 (.ret (.p (.P 1)))))
 (.ite (.eqI (.x 0) (.c 4))
 (.C 82 [.P 0] (.p (.K 4 5 6 7 1)) ⟨4,0,1,0,0,0⟩
 (.C 83 [(.one (.i .u8 (.c 22))),.K 4 5 6 7 1,.J 3,(.one (.sl .nil))] (.p (.P 1)) ⟨0,0,0,0,0,1⟩
 (.ret (.p (.P 1)))))
 (.ite (.eqI (.x 0) (.c 5))
 (.C 82 [.P 0] (.p (.K 4 5 6 7 1)) ⟨4,0,1,0,0,0⟩
 (.C 106 [(.one (.i .u8 (.c 23))),.K 4 5 6 7 1,.S 0,(.one (.sl .nil))] (.p (.P 1)) ⟨0,0,0,0,0,1⟩
 (.ret (.p (.P 1)))))
 (.C 111 [.P 0,.W [116,114,117,101]] (.p (.B 1)) ⟨0,1,0,0,0,0⟩
 (.ite (.x 1)
 (.C 83 [(.one (.i .u8 (.c 24))),.K 0 1 2 3 0,(.I (.c 1)),(.one (.sl .nil))] (.p (.P 1)) ⟨0,0,0,0,0,1⟩
 (.ret (.p (.P 1))))
 (.C 111 [.P 0,.W [102,97,108,115,101]] (.p (.B 2)) ⟨0,1,0,0,0,0⟩
 (.ite (.x 2)
 (.C 83 [(.one (.i .u8 (.c 24))),.K 0 1 2 3 0,(.I (.c 0)),(.one (.sl .nil))] (.p (.P 1)) ⟨0,0,0,0,0,1⟩
 (.ret (.p (.P 1))))
 (.C 111 [.P 0,.W [110,105,108]] (.p (.B 3)) ⟨0,1,0,0,0,0⟩
 (.ite (.x 3)
 (.C 128 [(.one (.i .u8 (.c 25))),.K 0 1 2 3 0,(.one (.sl .nil))] (.p (.P 1)) ⟨0,0,0,0,0,1⟩
 (.ret (.p (.P 1))))
 (.ite (.eqI (.x 0) (.c 1))
 (.C 82 [.P 0] (.p (.K 4 5 6 7 1)) ⟨4,0,1,0,0,0⟩
 (.C 69 [.P 0,.W [40]] (.p (.B 4)) ⟨0,1,0,0,0,0⟩
 (.ite (.x 4)
 (.C 159 [.P 0,.K 0 1 2 3 0] (.p (.P 1)) ⟨0,0,0,0,0,1⟩
 (.ret (.p (.P 1))))
 (.C 106 [(.one (.i .u8 (.c 26))),.K 0 1 2 3 0,.S 0,(.one (.sl .nil))] (.p (.P 1)) ⟨0,0,0,0,0,1⟩
 (.ret (.p (.P 1)))))))
 (.C 69 [.P 0,.W [40]] (.p (.B 4)) ⟨0,1,0,0,0,0⟩
 (.ite (.x 4)
 (.C 108 [.P 0,.W [40]] (.p (.K 4 5 6 7 1)) ⟨4,0,1,0,0,0⟩
 (.C 22 [.P 0] (.p (.P 1)) ⟨0,0,0,0,0,1⟩
 (.V 110 [.P 0,.W [41]]
 (.ret (.p (.P 1))))))
 (.C 111 [.P 0,.W [109,97,107,101]] (.p (.B 5)) ⟨0,1,0,0,0,0⟩
 (.ite (.x 5)
 (.C 160 [.P 0,.K 0 1 2 3 0] (.p (.P 1)) ⟨0,0,0,0,0,1⟩
 (.ret (.p (.P 1))))
 (.V 45 [.P 0,(.I (.c 5))]
 (.C 128 [(.one (.i .u8 (.c 25))),.K 0 1 2 3 0,(.one (.sl .nil))] (.p (.P 1)) ⟨0,0,0,0,0,1⟩
 (.ret (.p (.P 1))))))))))))))))))))))
theorem Qa:aU ⟨true,[]⟩ Tryz.prog (fun l=>([]:List bG).getD l ⟨[],[],[]⟩) Tryz.f145=Gl:=by kernel_rfl
theorem VA:az Tryz.prog .zero Tryz.f145.params.toList=some ([.P 0],⟨0,0,0,0,0,1⟩):=by kernel_rfl
def Xp (L:List Tok) (p:PS):PS:=if !((tk L p).k==2)&&!dw L [91] p then dG L 5 p else p
theorem ZO {L:List Tok} (p:PS):fC L p (Xp L p) 0:=by
 unfold Xp;split
 . exact dO 5 p
 . exact fC.refl p
def Ep (L:List Tok) (n:Nat) (t0:Tok) (p:PS):Option (Tr×PS):=
 (jd L n (Xp L p)).bind fun r=>
  if r.1.k=20 then (iE L n 1 (dP L [40] r.2)).map fun y=>(nd 32 t0 0 [] [r.1,y.1],dQ L [41] y.2)
  else some (nd 32 t0 0 [] [r.1],dQ L [41] (dP L [40] r.2))
def Je (n:Nat):Prop:=∀ args h φ w,OI Ep n args h φ->Holds h w->Calls Tryz.prog 160 args.toArray w fun e w'=>∃ v k,e=.returned v/\φ v k/\Holds k w'/\Fr w.heap.size h k w w'
def TF {n:Nat} (H:Je n):Ct Tryz.prog:=⟨160,OI Ep n,H⟩
def MM (n:Nat):Ct Tryz.prog:=⟨112,wI jd n,N7 n⟩
theorem U1 {h:Hp} {v:Nat} {k l c n:Int} {x:List UInt8} {s:bM} (hx:h v=some ⟨o8 k l c n x s,IT⟩):hread h (some (v,0)) 1=some [.int .u8 k]:=by rw[bI hx];rfl
theorem yH {h:Hp} {v:Nat} {k l c n:Int} {x:List UInt8} {s:bM} (hx:h v=some ⟨o8 k l c n x s,IT⟩):hread h (some (v,6)) 1=some [s.val]:=by rw[bI hx];rfl
theorem It.head {h:Hp} {v:Nat} {t:Tr} (hi:It h v t):∃ l c n x s,h v=some ⟨o8 t.k l c n x s,IT⟩:=by
 cases t with
 | nd k l c n x ks=>obtain⟨s,vs,h1,_⟩:=hi;exact⟨l,c,n,x,s,h1⟩
set_option maxHeartbeats 4000000 in
theorem X9 {n:Nat} (HE:rf n):Je n:=by
 rintro args h φ w ⟨m,hm,b,sl,L,p,t,q,t0,rfl,W,hr,hd,hφ⟩ hH;refine aZ Tryz.func160 Qg VG [gG,qH,iU,iH,jJ,l7,MM n,lZ HE] φ (bJ) (aV) ⟨[t0.k,t0.l,t0.c,t0.n],[],[t0.x],[],[],[some (b,0)],h,cu⟩ ⟨rfl,rfl,rfl,rfl,rfl,rfl⟩ af ?_ w hH rfl;generalize hE:(⟨aG _,_,_,_⟩:Env)=E;have sa6:E.spec 44=(gG).spec:=by rw[<- hE];rfl
 have sa8:E.spec 69=(qH).spec:=by rw[<- hE];rfl
 have sab:E.spec 45=(iU).spec:=by rw[<- hE];rfl
 have sad:E.spec 128=(iH).spec:=by rw[<- hE];rfl
 have saf:E.spec 108=(jJ).spec:=by rw[<- hE];rfl
 have sag:E.spec 110=(l7).spec:=by rw[<- hE];rfl
 have sa0:E.spec 112=(MM n).spec:=by rw[<- hE];rfl
 have san:E.spec 22=(lZ HE).spec:=by rw[<- hE];rfl
 have ep:E.post=φ:=by rw[<- hE]
 clear hE;unfold o5;have A:=At.start W;have hd0:=W.d0;unfold Ep at hr;simp only[Option.bind_eq_some_iff] at hr;obtain⟨⟨x,r⟩,h1,h2⟩:=hr;have Ah:=ZO (L:=L) p;have Ak:=dK W.lw m _ h1;have hhd:=Ah.d;have hkd:=Ak.d;have Ao:=bC W.lw [40] r;have hod:=Ao.d;have rest:∀ (hh:Hp) (k1 l1 c1 n1:Int) (x1:List UInt8) (y:Bool),At h b sl L (Xp L p) hh yU->Then E o5.k.k.e ⟨[t0.k,t0.l,t0.c,t0.n,k1,l1,c1,n1],[y],[t0.x,x1],[],[],[some (b,0)],hh,cu⟩:=by
  intro hh k1 l1 c1 n1 x1 y A1;unfold o5;simp only[Fm.k,Fm.e];rw[ai,sa0];refine⟨m,hm,b,sl,L,_,x,r,rfl,A1.pw,h1,by omega,fun v k g A2 hI=>?_⟩;simp[go_sem,df];refine⟨some (v,0),rfl,?_⟩;have A3:=A1.then A2;have hI3:=It.le (A1.xW A2) _ _ hI;rw[ae,aW];intro kb hkb;simp[go_sem];rw[ai,sad];refine⟨32,t0,⟨some (kb,0),1,1⟩,rfl,fun o ho=>?_⟩;simp[go_sem,df];refine⟨some (o,0),rfl,?_⟩;have O:=A3.outs (vs:=[v]) (ts:=[x]) hkb ⟨hI3,trivial⟩ (by simp) ho 32 t0.l t0.c 0 [];rw[ai,saf];refine⟨b,sl,L,r,[40],rfl,O.at'.pw,?_⟩;simp[go_sem,dZ,gI];have O1:=O.open [40] (by omega);obtain⟨xl,xc,xn,xx,xs,hx⟩:=(It.le O1.at'.le _ _ hI3).head
  iterate 3 (rw[ag];refine⟨by simp[go_sem],?_⟩)
  rw[bP,if_pos (by rfl)];have hxr:=U1 hx;simp[go_sem];refine⟨x.k,hxr,?_⟩;by_cases c20:x.k=20
  . rw[if_pos c20] at h2;simp only[Option.map_eq_some_iff] at h2;obtain⟨⟨y,u⟩,h3,h4⟩:=h2;cases h4;rw[ah,if_pos (by simp[go_sem,c20])];have hbl:=O1.blk;have hsr:=yH hbl;rw[bP,if_pos (by rfl)];simp[go_sem];refine⟨⟨some (kb,0),1,1⟩,hsr,?_⟩
    iterate 2 (rw[ag];refine⟨by simp[go_sem],?_⟩)
    rw[ae,aF,if_pos (by rfl),san];refine⟨m,hm,b,sl,L,_,y,u,rfl,O1.at'.pw,h3,by omega,fun v2 k3 g3 A5 hI2=>?_⟩;have O3:=O1.then A5;have Ad:=(lg W.lw m).1 _ _ _ _ h3;have hrd1:=Ad.d;have hbl3:=O3.blk;have hsr3:=yH hbl3;simp[go_sem,df];refine⟨hsr3.trans hsr.symm,some (v2,0),rfl,?_⟩;rw[ae,aW];intro kb2 hkb2;simp[go_sem];rw[ae];refine OC O3 (It.le (O1.at'.xW A5) _ _ hI2) (by simp) hkb2 rfl rfl rfl fun s' k4 hk4 O4=>?_
    rw[aA];refine⟨by simp[go_sem],?_⟩;rw[ag];refine⟨by simp[go_sem],?_⟩;rw[ae,aJ];refine⟨_,by simp[go_sem,ig hk4,o8];rfl,?_⟩;rw[ai,sag];refine⟨b,sl,L,u,[41],rfl,O4.at'.pw,?_⟩;have O5:=O4.shut [41] (by omega);simp[go_sem];simp only[ae];simp[go_sem,ep];obtain⟨g',A',I'⟩:=O5.done;exact hφ o _ g' A' I'
  . rw[if_neg c20] at h2;cases h2;rw[ah,if_neg (by simp[go_sem,c20])];rw[ai,sag];refine⟨b,sl,L,_,[41],rfl,O1.at'.pw,?_⟩;have O5:=O1.shut [41] (by omega);rw[eY] at O5;simp[go_sem];simp only[ae];simp[go_sem,ep];obtain⟨g',A',I'⟩:=O5.done;exact hφ o _ g' A' I'
 unfold o5 at rest;simp only[Fm.k,Fm.e] at rest;rw[ax,if_pos (by rfl),sa6];refine⟨b,sl,L,p,rfl,W,?_⟩;simp[go_sem,dZ,gI];by_cases c2:(tk L p).k=2
 . have hp:Xp L p=p:=by unfold Xp;rw[c2];rfl
   rw[bD,if_neg (by simp[go_sem,c2])];simp[go_sem];rw[ah,if_neg (by simp[go_sem,c2])];exact rest h _ _ _ _ _ _ (hp.symm▸A)
 rw[bD,if_pos (by simp[go_sem,c2]),sa8];refine⟨b,sl,L,p,[91],rfl,W,?_⟩;simp[go_sem];cases c3:dw L [91] p with
 | true=>
   have hp:Xp L p=p:=by unfold Xp;rw[c3];simp
   rw[ah,if_neg (by simp[go_sem])];exact rest h _ _ _ _ _ _ (hp.symm▸A)
 | false=>
   have hp:Xp L p=dG L 5 p:=by unfold Xp;rw[c3];simp[c2]
   rw[ah,if_pos (by simp[go_sem,c2])];rw[ai,sab];refine⟨b,sl,L,p,5,rfl,W,?_⟩;simp[go_sem];have A1:=A.fail 5;rw[<- hp] at A1;rw[<- hp];exact rest _ _ _ _ _ _ _ A1
set_option maxHeartbeats 8000000 in
theorem Xu {n:Nat} (HE:rf n) (HC:Jd n) (HM:Je n):CZ (n+1):=by
 rintro args h φ w ⟨m,hm,b,sl,L,p,t,q,rfl,W,hr,hd,hφ⟩ hH;cases m with
 | zero=>cases hr
 | succ m=>
 refine aZ Tryz.func145 Qa VA [gG,jP,iH,jv,jg,lF,vK,qH,jJ,l7,iU,Tz HC,TF HM,lZ HE] φ (bJ) (aV) ⟨[],[],[],[],[],[some (b,0)],h,cu⟩ ⟨rfl,rfl,rfl,rfl,rfl,rfl⟩ af ?_ w hH rfl;generalize hE:(⟨aG _,_,_,_⟩:Env)=E;have sa6:E.spec 44=(gG).spec:=by rw[<- hE];rfl
 have sa7:E.spec 46=(jP).spec:=by rw[<- hE];rfl
 have sad:E.spec 128=(iH).spec:=by rw[<- hE];rfl
 have sa9:E.spec 82=(jv).spec:=by rw[<- hE];rfl
 have sai:E.spec 83=(jg).spec:=by rw[<- hE];rfl
 have sae:E.spec 106=(lF).spec:=by rw[<- hE];rfl
 have saa:E.spec 111=(vK).spec:=by rw[<- hE];rfl
 have sa8:E.spec 69=(qH).spec:=by rw[<- hE];rfl
 have saf:E.spec 108=(jJ).spec:=by rw[<- hE];rfl
 have sag:E.spec 110=(l7).spec:=by rw[<- hE];rfl
 have sab:E.spec 45=(iU).spec:=by rw[<- hE];rfl
 have sap:E.spec 159=(Tz HC).spec:=by rw[<- hE];rfl
 have saq:E.spec 160=(TF HM).spec:=by rw[<- hE];rfl
 have san:E.spec 22=(lZ HE).spec:=by rw[<- hE];rfl
 have ep:E.post=φ:=by rw[<- hE]
 clear hE;unfold Gl;have A:=At.start W;have hd0:=W.d0;have fin:∀ {k n':Int} {q':PS} {kk:Hp} (A':At h b sl L q' kk yU) (x:List UInt8),some (nd k (tk L p) n' x [],q')=some (t,q)->∀ v,kk v=none->φ (df v) (kk.set v ⟨o8 k (tk L p).l (tk L p).c n' x ⟨none,0,0⟩,IT⟩):=by
  intro k n' q' kk A' x he v hv;cases he;exact hφ v _ _ (A'.new hv _) (A'.leaf hv ..)
 rw[lN] at hr;rw[ax,if_pos (by rfl),sa6];refine⟨b,sl,L,p,rfl,W,?_⟩;simp[go_sem,dZ,gI];rw[ai,sa7];refine⟨b,sl,L,p,rfl,W,?_⟩;simp[go_sem];cases c0:p.bad with
 | true=>
   rw[if_pos c0] at hr;rw[ah,if_pos (by simp[go_sem])];rw[ai,sad];refine⟨25,tk L p,⟨none,0,0⟩,rfl,fun v hv=>?_⟩;simp[go_sem,df];refine⟨some (v,0),rfl,?_⟩;simp only[ae];simp[go_sem,ep];exact fin A [] hr v hv
 | false=>
 rw[c0,if_neg (by decide)] at hr;rw[ah,if_neg (by simp[go_sem])];by_cases c1:(tk L p).k=3
 . rw[if_pos c1] at hr;rw[ah,if_pos (by simp[go_sem,c1])];rw[ai,sa9];refine⟨b,sl,L,p,rfl,W,?_⟩;simp[go_sem,dZ,gI];rw[ai,sai];refine⟨21,tk L p,(tk L p).n,⟨none,0,0⟩,rfl,fun v hv=>?_⟩;simp[go_sem,df];refine⟨some (v,0),rfl,?_⟩;simp only[ae];simp[go_sem,ep];exact fin A.pass [] hr v hv
 rw[if_neg c1] at hr;rw[ah,if_neg (by simp[go_sem,c1])];by_cases c2:(tk L p).k=4
 . rw[if_pos c2] at hr;rw[ah,if_pos (by simp[go_sem,c2])];rw[ai,sa9];refine⟨b,sl,L,p,rfl,W,?_⟩;simp[go_sem,dZ,gI];rw[ai,sai];refine⟨22,tk L p,(tk L p).n,⟨none,0,0⟩,rfl,fun v hv=>?_⟩;simp[go_sem,df];refine⟨some (v,0),rfl,?_⟩;simp only[ae];simp[go_sem,ep];exact fin A.pass [] hr v hv
 rw[if_neg c2] at hr;rw[ah,if_neg (by simp[go_sem,c2])];by_cases c3:(tk L p).k=5
 . rw[if_pos c3] at hr;rw[ah,if_pos (by simp[go_sem,c3])];rw[ai,sa9];refine⟨b,sl,L,p,rfl,W,?_⟩;simp[go_sem,dZ,gI];rw[ai,sae];refine⟨23,tk L p,(tk L p).x,⟨none,0,0⟩,rfl,fun v hv=>?_⟩;simp[go_sem,df];refine⟨some (v,0),rfl,?_⟩;simp only[ae];simp[go_sem,ep];exact fin A.pass _ hr v hv
 rw[if_neg c3] at hr;rw[ah,if_neg (by simp[go_sem,c3])];rw[ai,saa];refine⟨b,sl,L,p,oL,rfl,W,?_⟩;cases c4:dw L oL p with
 | true=>
   rw[if_pos c4] at hr;rw[if_pos rfl];simp[go_sem];rw[ah,if_pos (by simp[go_sem])];rw[ai,sai];refine⟨24,tk L p,1,⟨none,0,0⟩,rfl,fun v hv=>?_⟩;simp[go_sem,df];refine⟨some (v,0),rfl,?_⟩;simp only[ae];simp[go_sem,ep];exact fin A.pass [] hr v hv
 | false=>
 rw[c4,if_neg (by decide)] at hr;rw[if_neg (by decide)];simp[go_sem];rw[ah,if_neg (by simp[go_sem])];rw[ai,saa];refine⟨b,sl,L,p,jO,rfl,W,?_⟩;cases c5:dw L jO p with
 | true=>
   rw[if_pos c5] at hr;rw[if_pos rfl];simp[go_sem];rw[ah,if_pos (by simp[go_sem])];rw[ai,sai];refine⟨24,tk L p,0,⟨none,0,0⟩,rfl,fun v hv=>?_⟩;simp[go_sem,df];refine⟨some (v,0),rfl,?_⟩;simp only[ae];simp[go_sem,ep];exact fin A.pass [] hr v hv
 | false=>
 rw[c5,if_neg (by decide)] at hr;rw[if_neg (by decide)];simp[go_sem];rw[ah,if_neg (by simp[go_sem])];rw[ai,saa];refine⟨b,sl,L,p,wJ,rfl,W,?_⟩;cases c6:dw L wJ p with
 | true=>
   rw[if_pos c6] at hr;rw[if_pos rfl];simp[go_sem];rw[ah,if_pos (by simp[go_sem])];rw[ai,sad];refine⟨25,tk L p,⟨none,0,0⟩,rfl,fun v hv=>?_⟩;simp[go_sem,df];refine⟨some (v,0),rfl,?_⟩;simp only[ae];simp[go_sem,ep];exact fin A.pass [] hr v hv
 | false=>
 rw[c6,if_neg (by decide)] at hr;rw[if_neg (by decide)];simp[go_sem];rw[ah,if_neg (by simp[go_sem])];by_cases c7:(tk L p).k=1
 . rw[if_pos c7] at hr;rw[ah,if_pos (by simp[go_sem,c7])];rw[ai,sa9];refine⟨b,sl,L,p,rfl,W,?_⟩;simp[go_sem,dZ,gI];have A1:=A.pass;have hpd:=(aP W.lw p).d;rw[ai,sa8];refine⟨b,sl,L,_,[40],rfl,A1.pw,?_⟩;simp[go_sem];cases c8:dw L [40] (bK L p) with
   | true=>
     rw[if_pos c8] at hr;rw[ah,if_pos (by simp[go_sem])];rw[ai,sap];refine⟨m,by omega,b,sl,L,_,t,q,tk L p,rfl,A1.pw,hr,by omega,fun v k g A2 hI=>?_⟩;simp[go_sem,df];refine⟨some (v,0),rfl,?_⟩;simp only[ae];simp[go_sem,ep];exact hφ v _ _ (A1.then A2) (It.le (A1.xW A2) _ _ hI)
   | false=>
     rw[c8,if_neg (by decide)] at hr;rw[ah,if_neg (by simp[go_sem])];rw[ai,sae];refine⟨26,tk L p,(tk L p).x,⟨none,0,0⟩,rfl,fun v hv=>?_⟩;simp[go_sem,df];refine⟨some (v,0),rfl,?_⟩;simp only[ae];simp[go_sem,ep];exact fin A1 _ hr v hv
 rw[if_neg c7] at hr;rw[ah,if_neg (by simp[go_sem,c7])];rw[ai,sa8];refine⟨b,sl,L,p,[40],rfl,W,?_⟩;simp[go_sem];cases c9:dw L [40] p with
 | true=>
   rw[if_pos c9] at hr;simp only[Option.map_eq_some_iff] at hr;obtain⟨⟨x,r⟩,h1,h2⟩:=hr;cases h2;rw[ah,if_pos (by simp[go_sem])];rw[ai,saf];refine⟨b,sl,L,p,[40],rfl,W,?_⟩;simp[go_sem,dZ,gI];have hod:=(bC W.lw [40] p).d;have A1:=A.open [40] (by omega);rw[ai,san];refine⟨m,by omega,b,sl,L,_,x,r,rfl,A1.pw,h1,by omega,fun v k g A2 hI=>?_⟩;simp[go_sem,df];refine⟨some (v,0),rfl,?_⟩;have A3:=A1.then A2;have hkd:=((lg W.lw m).1 _ _ _ _ h1).d;rw[ai,sag];refine⟨b,sl,L,r,[41],rfl,A3.pw,?_⟩;simp[go_sem];simp only[ae];simp[go_sem,ep];exact hφ v _ _ (A3.shut [41] (by omega)) (It.le (A1.xW A2) _ _ hI)
 | false=>
 rw[c9,if_neg (by decide)] at hr;rw[ah,if_neg (by simp[go_sem])];rw[ai,saa];refine⟨b,sl,L,p,fZ,rfl,W,?_⟩;cases c10:dw L fZ p with
 | true=>
   rw[if_pos c10] at hr;rw[if_pos rfl];simp[go_sem];rw[ah,if_pos (by simp[go_sem])];have A1:=A.pass;have hpd:=(aP W.lw p).d;rw[ai,saq];refine⟨m,by omega,b,sl,L,_,t,q,tk L p,rfl,A1.pw,hr,by omega,fun v k g A2 hI=>?_⟩;simp[go_sem,df];refine⟨some (v,0),rfl,?_⟩;simp only[ae];simp[go_sem,ep];exact hφ v _ _ (A1.then A2) (It.le (A1.xW A2) _ _ hI)
 | false=>
   rw[c10,if_neg (by decide)] at hr;rw[if_neg (by decide)];simp[go_sem];rw[ah,if_neg (by simp[go_sem])];rw[ai,sab];refine⟨b,sl,L,p,5,rfl,W,?_⟩;simp[go_sem];rw[ai,sad];refine⟨25,tk L p,⟨none,0,0⟩,rfl,fun v hv=>?_⟩;simp[go_sem,df];refine⟨some (v,0),rfl,?_⟩;simp only[ae];simp[go_sem,ep];exact fin (A.fail 5) [] hr v hv
theorem Zm:∀ n,ET n/\SS n/\CZ n
 | 0=>by
   refine⟨?_,?_,?_⟩
   . rintro args h φ w ⟨m,hm,b,sl,L,p,t,q,lvl,rfl,_,W,hr,_⟩ hH;obtain rfl:m=0:=by omega
     cases hr
   . rintro args h φ w ⟨m,hm,b,sl,L,p,t,q,rfl,W,hr,_⟩ hH;obtain rfl:m=0:=by omega
     cases hr
   . rintro args h φ w ⟨m,hm,b,sl,L,p,t,q,rfl,W,hr,_⟩ hH;obtain rfl:m=0:=by omega
     cases hr
 | n+1=>by
   obtain⟨HB,HU,HA⟩:=Zm n;have HE:=Nr HB;exact⟨ZQ HB HU,abt HU (Yo HE HA),Xu HE (Xw HE) (X9 HE)⟩
theorem F5 (n:Nat):rf n:=Nr (Zm n).1
section
variable {h:Hp} {b:Nat} {sl:bM} {L:List Tok} {p:PS} {k g:Hp} {o:Nat} {kk l c n:Int} {x:List UInt8} {s:bM} {vs:List Nat} {ts:List Tr}
end
theorem two {E:Env} {fc:FuncId} {h:Hp} {b:Nat} {sl:bM} {L:List Tok} {p:PS} {k g:Hp} {o:Nat} {kk l c n:Int} {x:List UInt8} {s:bM} {vs:List Nat} {ts:List Tr} {i:List Int} {bb:List Bool} {ss:List (List UInt8)} {pp:List (Option (Nat×Nat))} {M:Nat->Nat} {on rn pi u:Nat} {q:PS} {t tu:Tr}
 (O:Out h b sl L p k g o kk l c n x s vs ts) (hu:It g u tu) (ho:pp.getD on none=some (o,0)) (hr:pp.getD rn none=some (u,0)) (hp:pp.length=pi) (hol:on<pi) (hrl:rn<pi) (hn:vs.length<=2000000)
 (hs:∀ φ:Value->Hp->Prop,(∀ v k' g',At k b sl L q k' g'->It g' v t->φ (df v) k')->E.spec fc [df b] k φ) (hb0:pp.getD 0 none=some (b,0))
 (hk:∀ k5,(∃ g',At h b sl L q k5 g'/\It g' o (.nd kk l c n x (ts++[tu,t])))->E.post (df o) k5):
 Then E (.O (.pt on 6) 1 [(.sl (.x 0))] ⟨0,0,0,0,1,0⟩ (.N (.nnp on) (.N (.nnp on) (.callK (.c true) [((.c true),(.pt on 6),1)] fc [.P 0] (.p (.one (.pt pi))) ⟨0,0,0,0,0,1⟩
  (.mk [(.pt rn),(.pt pi)] PI 2 (.app (.x 0) (.x 1) 1 8 PI (.N (.nnp on) (.N (.nnp on) (.store (.pt on 6) [(.sl (.x 2))] (.ret (.p (.one (.pt on))))))))))))) ⟨i,bb,ss,[],[],pp,k,M⟩:=by
 subst hp;have get:∀ {j:Nat} {y},pp.getD j none=some y->pp[j]? = some (some y):=fun {j y} hj=>by
  rw[List.getD_eq_getElem?_getD] at hj;cases hq:pp[j]? with
  | none=>rw[hq] at hj;cases hj
  | some z=>rw[hq] at hj;exact congrArg some hj
 have ho':=get ho;have hr':=get hr;have hb':=get hb0;have hb1:=O.blk;have hlo:∀ (u:List (Option (Nat×Nat))),(pp++u)[on]? = some (some (o,0)):=fun u=>by rw[List.getElem?_append_left hol];exact ho'
 have hlr:∀ (w:List (Option (Nat×Nat))),(pp++w)[rn]? = some (some (u,0)):=fun w=>by rw[List.getElem?_append_left hrl];exact hr'
 refine rL ⟨[],[],[],[],[s],[]⟩ rfl af (?_) ?_
 . simp[AE.den,CE.den,LE.den,Ctx.push,ho',bI hb1,o8]
 rw[ag];refine⟨by simp[BE.den,Ctx.push,ho'],?_⟩;rw[ag];refine⟨by simp[BE.den,Ctx.push,ho'],?_⟩;rw[ae,aF,if_pos (by rfl)];simp only[Ctx.push,List.append_nil,List.nil_append,List.map_cons,List.map_nil,PE.den,CE.den,hb0,Option.map_some];refine hs _ fun v k' g' A' hI'=>?_
 have O':=O.then A';have hb2:=O'.blk;refine⟨fun y hy _=>?_,(bn _ _).2 ⟨⟨[],[],[],[],[],[some (v,0)]⟩,rfl,af,?_,?_⟩⟩
 . rw[List.mem_singleton] at hy;subst hy;simp[AE.den,ho',bI hb1,bI hb2]
 . simp[VE.den,PE.den,CE.den,df]
 rw[ae,aW];intro kb hkb;have hkb':k' kb=none:=hkb;rw[ae];refine Ir (us:=[u,v]) (rs:=[tu,t]) O' ⟨It.le (D5 _ _) _ _ hu,It.le (O.at'.xW A') _ _ hI',trivial⟩ hn ⟨by simp,by simp⟩ hkb' ?_ ?_ ?_ fun s' k4 hk4 O4=>?_
 . simp[LE.den,Ctx.push,Ctx.heap]
 . simp[LE.den,Ctx.push,Ctx.heap]
 . simp[CE.den,Ctx.push,Ctx.heap,df,hlr]
 rw[aA];refine⟨by simp[BE.den,Ctx.push,Ctx.heap,hlo],?_⟩;rw[ag];refine⟨by simp[BE.den,Ctx.push,Ctx.heap,hlo],?_⟩;rw[ae,aJ];refine⟨k4.set o ⟨o8 kk l c n x s',IT⟩,?_,?_⟩
 . have e:=QN hk4 s';simpa[AE.den,CE.den,LE.den,Ctx.push,Ctx.heap,hlo] using e
 . rw[aj];have e:=hk _ O4.done;simpa[VE.den,PE.den,CE.den,Ctx.push,Ctx.heap,hlo,df] using e
def Uh:Fm:=(.Z 0
 (.Z 0
 (.O (.pt 0 0) 6 [.U 0,.J 1,.J 2,.J 3,.J 4,(.s (.x 0))] ⟨5,0,1,0,0,0⟩
 (.mk [.U 0,.J 1,.J 2,.J 3,.J 4,(.s (.x 0))] 52 1
 (.app (.x 0) (.x 1) 6 56 52
 (.Z 0
 (.Z 0
 (.O (.pt 0 6) 1 [(.sl (.x 3))] ⟨0,0,0,0,1,0⟩
 (.loop 0 ⟨[(.c 0)],[],[],[],[(.x 2)],[]⟩
 (.ite (.lt (.x 5) (.cnt (.x 3)))
 (.N (.X (.x 5) (.x 3))
 (.O (.el (.x 3) (.x 5) 1 0) 1 [(.pt 1)] ⟨0,0,0,0,0,1⟩
 (.C 47 [.P 1,.L 4] (.p (.L 5)) ⟨0,0,0,0,1,0⟩
 (.N (.R (.add (.x 5) (.c 1)))
 (.again 0 ⟨5,0,1,0,4,1⟩ ⟨6,0,1,0,5,1⟩ ⟨[(.add (.x 5) (.c 1))],[],[],[],[(.x 5)],[]⟩)))))
 (.N (.R (.sub (.cnt (.x 4)) (.cnt (.x 0))))
 (.N (.R (.sub (.sub (.cnt (.x 4)) (.cnt (.x 0))) (.c 1)))
 (.N (.X (.cnt (.x 0)) (.x 4))
 (.N (.nns (.x 4))
 (.store (.el (.x 4) (.cnt (.x 0)) 6 3) [(.i .i64 (.sub (.sub (.cnt (.x 4)) (.cnt (.x 0))) (.c 1)))]
 (.ret (.p (.L 4))))))))))))))))))
theorem XV:aU ⟨true,[]⟩ Tryz.prog (fun l=>([⟨[1,22],[23,24,25,7,26,27,28,29],[]⟩]:List bG).getD l ⟨[],[],[]⟩) Tryz.f47=Uh:=by kernel_rfl
theorem aaj:az Tryz.prog .zero Tryz.f47.params.toList=some ([.P 0,.L 0],⟨0,0,0,0,1,1⟩):=by kernel_rfl
def ND:TypeId:=52
def wC.cs (x:wC):List Value:=[.int .u8 x.k,.int .i64 x.l,.int .i64 x.c,.int .i64 (x.z:Nat),.int .i64 x.n,.string (B x.x)]
def rJ (l:List wC):List Value:=l.flatMap wC.cs
theorem Om (l:List wC):(rJ l).length=l.length*6:=by
 induction l with
 | nil=>rfl
 | cons a l ih=>simp only[rJ,List.flatMap_cons,List.length_append,List.length_cons] at *;rw[ih];simp[wC.cs];omega
theorem Ed (a b:List wC):rJ (a++b)=rJ a++rJ b:=by simp[rJ]
theorem yP (x:wC) (l:List wC):rJ (x::l)=x.cs++rJ l:=by simp[rJ]
theorem dC.abD {k:Hp} {s:bM} {xs:List Value} {ty:TypeId} {sz:Nat} (ho:dC k s xs ty sz) {j:Nat} (hj:j<xs.length) (u:Value) (hT:ty≠1000003):
 ∃ c o,s.a=some (c,0)/\k c=some o/\l9 k (some (c,j)) [u]=some (k.set c ⟨o.cs.take j++[u]++o.cs.drop (j+1),o.ty⟩)/\dC (k.set c ⟨o.cs.take j++[u]++o.cs.drop (j+1),o.ty⟩) s (xs.take j++[u]++xs.drop (j+1)) ty sz:=by
 rcases ho with ⟨_,hx⟩ | ⟨c,o,h1,h2,h3,h4,h5,h6,h7⟩
 . rw[hx] at hj;cases hj
 . have hle:s.n*sz<=o.cs.length:=by rw[h4];exact Nat.mul_le_mul_right _ h5
   have hxl:xs.length=s.n*sz:=by rw[h7,List.length_take];omega
   have hjo:j<o.cs.length:=by omega
   refine⟨c,o,h1,h2,by rw[ig h2,if_pos ⟨by simp;omega,by rw[h3];exact hT⟩];rfl,.inr ⟨c,_,h1,ay _ _ _,h3,?_,h5,h6,?_⟩⟩
   . simp only[List.length_append,List.length_take,List.length_drop,List.length_cons,List.length_nil];omega
   . simp only;rw[h7,List.take_take,Nat.min_eq_left (by omega)];have hl:(o.cs.take j++[u]).length=j+1:=by simp;omega
     rw[List.take_append (l₁:=o.cs.take j++[u]),List.take_of_length_le (l:=o.cs.take j++[u]) (by omega),hl,List.drop_take]
def aaY (N:Nat) (args:List Value) (h:Hp) (φ:Value->Hp->Prop):Prop:=
 ∃ v t s acc,args=[df v,s.val]/\t.n<=N/\It h v t/\dC h s (rJ acc) ND 6/\s.n=acc.length/\acc.length+t.n<=2000000/\
  ∀ s' k,dC k s' (rJ (acc++t.nR)) ND 6->s'.n=acc.length+t.n->(∀ c o,(∀ z,s.a=some z->z.1≠c)->h c=some o->k c=some o)->(∀ z,s'.a=some z->(∃ y,s.a=some y/\y.1=z.1)\/h z.1=none)->φ s'.val k
def Ze (N:Nat):Prop:=∀ args h φ w,aaY N args h φ->Holds h w->Calls Tryz.prog 47 args.toArray w fun e w'=>∃ v k,e=.returned v/\φ v k/\Holds k w'/\Fr w.heap.size h k w w'
def MJ {N:Nat} (H:Ze N):Ct Tryz.prog:=⟨47,aaY N,H⟩
theorem Zx:ND≠IT:=by decide
theorem Zy:ND≠PI:=by decide
theorem dC.ty {h:Hp} {s:bM} {xs:List Value} {ty:TypeId} {sz:Nat} (ho:dC h s xs ty sz) {z:Nat×Nat} (hz:s.a=some z):∃ cs,h z.1=some ⟨cs,ty⟩:=by
 rcases ho with ⟨h1,_⟩ | ⟨c,o,h1,h2,h3,_⟩
 . rw[h1] at hz;cases hz
 . rw[h1] at hz;cases hz;obtain⟨cs,ty'⟩:=o;simp only at h3;subst h3;exact⟨cs,h2⟩
mutual
theorem It.keep {h k:Hp} (hk:∀ c o,o.ty≠ND->h c=some o->k c=some o):∀ (v:Nat) (t:Tr),It h v t->It k v t
 | v,.nd _ _ _ _ _ ks,hi=>by
   obtain⟨sl,vs,h1,h2,h3⟩:=hi;exact⟨sl,vs,hk _ _ Zx.symm h1,h2.keep fun z cs _ hc=>hk _ _ Zy.symm hc,Its.keep hk vs ks h3⟩
theorem Its.keep {h k:Hp} (hk:∀ c o,o.ty≠ND->h c=some o->k c=some o):∀ (vs:List Nat) (ts:List Tr),Its h vs ts->Its k vs ts
 | [],[],_=>trivial
 | v::vs,t::ts,hi=>⟨It.keep hk v t hi.1,Its.keep hk vs ts hi.2⟩
 | [],_::_,hi=>hi
 | _::_,[],hi=>hi
end
theorem Its.get {h:Hp}:∀ {vs:List Nat} {ts:List Tr},Its h vs ts->∀ (j:Nat) (hj:j<ts.length),∃ v,vs[j]? = some v/\It h v ts[j]
 | v::vs,t::ts,hi,0,_=>⟨v,rfl,hi.1⟩
 | v::vs,t::ts,hi,j+1,hj=>by
   obtain⟨u,h1,h2⟩:=Its.get hi.2 j (by simpa using hj);exact⟨u,by simpa using h1,by simpa using h2⟩
 | [],[],_,j,hj=>by cases hj
 | [],_::_,hi,_,_=>by cases hi
 | _::_,[],hi,_,_=>by cases hi
theorem Kids.read {h:Hp} {s:bM} {vs:List Nat} (K:Kids h s vs) {j v:Nat} (hv:vs[j]? = some v):s.a.isSome=true/\hread h (s.a.map fun x=>(x.1,x.2+j*1+0)) 1=some [df v]:=by
 have hj:=(List.getElem?_eq_some_iff.1 hv).1;rcases K.own with ⟨h1,h2⟩ | ⟨c,o,h1,h2,h3,h4,h5,h6,h7⟩
 . have:=congrArg List.length h2;simp at this;rw[this] at hj;cases hj
 . have hl:=K.len;rw[h1];refine⟨rfl,?_⟩;simp only[Option.map_some,Nat.zero_add,Nat.mul_one,Nat.add_zero];rw[bI h2,if_pos (by omega)];have e:(o.cs.take (s.n*1))[j]? = some (df v):=by rw[<- h7,List.getElem?_map,hv];rfl
   rw[List.getElem?_take,if_pos (by omega)] at e;rw[List.drop_eq_getElem_cons (by omega)];have e2:o.cs[j]'(by omega)=df v:=by
    have:=List.getElem?_eq_getElem (l:=o.cs) (i:=j) (by omega);rw[this] at e;exact Option.some.inj e
   rw[e2];rfl
theorem wH {ks:List Tr} {j:Nat} (hj:j<ks.length):Tr.fP (ks.take (j+1))=Tr.fP (ks.take j)++ks[j].nR:=by
 rw[List.take_succ_eq_append_getElem hj,kz,nS,Cb,List.append_nil]
mutual
theorem Tr.Ya:∀ t:Tr,t.n=t.sz+1
 | .nd k l c n x ks=>by
   have:=Tr.Ef ks;simp only[Tr.n,Tr.nR,List.length_cons,Tr.sz];simp only[Tr.ns] at this;omega
theorem Tr.Ef:∀ ks:List Tr,Tr.ns ks=Tr.szs ks
 | []=>rfl
 | t::ks=>by
   rw[aI,Tr.Ya t,Tr.Ef ks,Tr.szs]
end
theorem yZ:∀ ks:List Tr,ks.length<=Tr.ns ks
 | []=>Nat.zero_le _
 | t::ks=>by
   have:=yZ ks;rw[aI,Tr.Ya t,List.length_cons];omega
structure LI (h:Hp) (s:bM) (acc:List wC) (nd0:wC) (ks:List Tr) (j:Nat) (s4:bM) (k1:Hp):Prop where
 own:dC k1 s4 (rJ (acc++nd0::Tr.fP (ks.take j))) ND 6
 len:s4.n=acc.length+1+Tr.ns (ks.take j)
 kp:∀ c o,(∀ z,s.a=some z->z.1≠c)->h c=some o->k1 c=some o
 fr:∀ z,s4.a=some z->(∃ y,s.a=some y/\y.1=z.1)\/h z.1=none
def U6 (h:Hp) (s:bM) (acc:List wC) (nd0:wC) (ks:List Tr) (v:Nat) (ksl:bM):Nat->Ctx->Prop:=fun _ C=>
 ∃ a0 a1 a2 a3 a4 x0 l1 l2 s4 k1,∃ j:Nat,C=⟨[a0,a1,a2,a3,a4,(j:Nat)],[],[x0],[],[s,l1,l2,ksl,s4],[some (v,0)],k1,cu⟩/\j<=ks.length/\LI h s acc nd0 ks j s4 k1
set_option maxHeartbeats 8000000 in
theorem Kz:∀ N,Ze N
 | 0=>by
   rintro args h φ w ⟨v,t,s,acc,rfl,ht,_⟩ hH;rw[t.Ya] at ht;omega
 | N+1=>by
   have ih:=Kz N;rintro args h φ w ⟨v,t,s,acc,rfl,ht,hI,hown,hsn,hmax,hφ⟩ hH;cases t with
   | nd k l c n x ks=>
   have hIall:=hI;obtain⟨ksl,vs,hv,hK,hIs⟩:=hI;have hnn:(Tr.nd k l c n x ks).n=Tr.ns ks+1:=by simp[Tr.n,Tr.ns,Tr.nR]
   have hkl:=hIs.len;have hge:=yZ ks;have hksn:=hK.len;rw[hnn] at ht hmax hφ;obtain⟨nd0,hnd0⟩:∃ y:wC,y=⟨k,l,c,0,n,x⟩:=⟨_,rfl⟩;have hnc:nd0.cs=[.int .u8 k,.int .i64 l,.int .i64 c,.int .i64 0,.int .i64 n,.string (B x)]:=by rw[hnd0];rfl
   refine bQ (aZ Tryz.func47 XV aaj [MJ ih] (fun v k=>∃ k',bY k' k/\φ v k') (U6 h s acc nd0 ks v ksl) (fun _ C=>((ks.length:Int) - C.i.getD 5 0).toNat) ⟨[],[],[],[],[s],[some (v,0)],h,cu⟩ ⟨rfl,rfl,rfl,rfl,rfl,rfl⟩ af ?_ w hH rfl);generalize hE:(⟨aG _,_,_,_⟩:Env)=E;have sar:E.spec 47=(MJ ih).spec:=by rw[<- hE];rfl
   have ep:E.post=(fun v k=>∃ k',bY k' k/\φ v k'):=by rw[<- hE]
   have ei:E.inv=(U6 h s acc nd0 ks v ksl):=by rw[<- hE]
   have em:E.meas=(fun _ C=>((ks.length:Int) - C.i.getD 5 0).toNat):=by rw[<- hE]
   clear hE;unfold Uh;have hsb:∀ z,s.a=some z->∃ cs,h z.1=some ⟨cs,ND⟩:=fun z hz=>hown.ty hz
   have hvs:∀ z,s.a=some z->z.1≠v:=fun z hz e=>by
    obtain⟨cs,h1⟩:=hsb z hz;rw[e,hv] at h1;exact Zx (HO.mk.inj (Option.some.inj h1)).2.symm
   rw[aA];refine⟨by simp[go_sem],?_⟩;rw[ag];refine⟨by simp[go_sem],?_⟩;have hr0:hread h (some (v,0)) 6=some [.int .u8 k,.int .i64 l,.int .i64 c,.int .i64 0,.int .i64 n,.string (B x)]:=by rw[bI hv];rfl
   refine rL ⟨[k,l,c,0,n],[],[x],[],[],[]⟩ rfl af hr0 ?_;rw[ae,aW];intro nb hnb;have hnb':h nb=none:=hnb;rw[ae,bT];have hm:(2000001:Nat)<=maxLen:=by decide
   have hnsb:∀ z,s.a=some z->z.1≠nb:=fun z hz e=>by
    obtain⟨cs,h1⟩:=hsb z hz;rw[e,hnb'] at h1;cases h1
   have hx1:∀ (C:Ctx),C.l=[s,⟨some (nb,0),1,1⟩]->((LE.x 0).den C)=s/\((LE.x 1).den C)=⟨some (nb,0),1,1⟩:=fun C hC=>by simp[LE.den,hC]
   refine⟨rJ acc,nd0.cs,jA hown hnsb _,.inr ⟨by simp[go_sem],?_⟩,?_,?_,?_,?_⟩
   . simp[go_sem,hnc]
   . intro u hu;simp only[hnc,List.mem_cons,List.not_mem_nil,or_false] at hu;rcases hu with rfl | rfl | rfl | rfl | rfl | rfl<;>rfl
   . simp[go_sem];omega
   . simp[go_sem];omega
   intro s4 k1 g1 g2 g3 g4;have g2':s4.n=s.n+1:=g2;have kp1:∀ c o,(∀ z,s.a=some z->z.1≠c)->h c=some o->k1 c=some o:=fun c o hc ho=>g4 c o hc (by
    show (h.set nb _) c=some o;rw[bf _ (fun e=>by rw[e,hnb'] at ho;cases ho)];exact ho)
   have L0:LI h s acc nd0 ks 0 s4 k1:=by
    have g1':dC k1 s4 (rJ acc++nd0.cs) ND 6:=g1;refine⟨by rw[List.take_zero,Cb,Ed,yP];show dC k1 s4 (rJ acc++(nd0.cs++[])) ND 6;rw[List.append_nil];exact g1',by rw[List.take_zero,bF,g2',hsn],kp1,fun z hz=>?_⟩;rcases g3 z hz with hh | hh
    . exact .inl hh
    . have hh':(h.set nb ⟨nd0.cs,ND⟩) z.1=none:=by rw[hnc];exact hh
      rw[bf _ (fun e=>by rw[e,ay] at hh';cases hh')] at hh';exact .inr hh'
   rw[aA];refine⟨by simp[go_sem],?_⟩;rw[ag];refine⟨by simp[go_sem],?_⟩;have hr6:hread k1 (some (v,6)) 1=some [ksl.val]:=yH (kp1 v _ hvs hv);refine rL ⟨[],[],[],[],[ksl],[]⟩ rfl af hr6 ?_;simp[go_sem];rw[ae];refine bH ?_ ?_
   . rw[ei];exact⟨_,_,_,_,_,_,_,_,s4,k1,0,rfl,Nat.zero_le _,L0⟩
   rw[ei,em];rintro i' bb ss v' ll pp hh0 M ⟨a0,a1,a2,a3,a4,x0,l1,l2,s4,k1,j,hC,hj,I⟩ hM;cases hC;have hM':M 0=((ks.length:Int) - j).toNat:=hM;clear hM L0 g1 g2 g3 g4 g2' kp1 hr6 hr0 hx1 hnb hnb' hnsb;have hIk:Its hh0 vs ks:=Its.keep (fun c o ho hc=>I.kp c o (fun z hz e=>by
    obtain⟨cs,h1⟩:=hsb z hz;rw[e,hc] at h1;cases h1;exact ho rfl) hc) _ _ hIs
   have hKk:Kids hh0 ksl vs:=hK.keep fun z cs hz hc=>I.kp _ _ (fun y hy e=>by
    obtain⟨cs',h1⟩:=hsb y hy;rw[e,hc] at h1;exact Zy (HO.mk.inj (Option.some.inj h1)).2.symm) hc
   by_cases hjl:j<ks.length
   . obtain⟨u,hu,hIu⟩:=hIk.get j hjl;obtain⟨hsome,hread1⟩:=hKk.read hu;have e1:=wH hjl;have hns:Tr.ns (ks.take (j+1))=Tr.ns (ks.take j)+ks[j].n:=by simp only[Tr.ns,Tr.n,e1,List.length_append]
     have hle2:Tr.ns (ks.take (j+1))<=Tr.ns ks:=by
      have:=gU (ks.take (j+1)) (ks.drop (j+1));rw[List.take_append_drop] at this;omega
     rw[ak,if_pos (by simp[go_sem];omega)];rw[ag];refine⟨by simp[go_sem];exact⟨by omega,hsome⟩,?_⟩;refine rL ⟨[],[],[],[],[],[some (u,0)]⟩ rfl af (?_) ?_
     . simpa[go_sem,df] using hread1
     rw[ai,sar];refine⟨u,ks[j],s4,acc++nd0::Tr.fP (ks.take j),by simp[go_sem,df],by omega,hIu,I.own,by rw[I.len];simp[Tr.ns];omega,by simp[Tr.ns] at hns hle2 hmax ⊢;omega,fun s5 k2 q1 q2 q3 q4=>?_⟩;have q1':dC k2 s5 (rJ (acc++nd0::Tr.fP (ks.take (j+1)))) ND 6:=by rw[e1];simpa using q1
     have I':LI h s acc nd0 ks (j+1) s5 k2:=by
      refine⟨q1',by rw[q2,hns];simp[Tr.ns];omega,fun c o hc ho=>q3 c o (fun z hz e=>?_) (I.kp c o hc ho),fun z hz=>?_⟩
      . rcases I.fr z hz with ⟨y,hy,e2⟩ | hn
        . exact hc y hy (e2.trans e)
        . rw[e,ho] at hn;cases hn
      . rcases q4 z hz with ⟨y,hy,e2⟩ | hn
        . rcases I.fr y hy with ⟨y',hy',e3⟩ | hn
          . exact .inl ⟨y',hy',e3.trans e2⟩
          . exact .inr (by rw[<- e2];exact hn)
        . by_cases hex:∃ y,s.a=some y/\y.1=z.1
          . exact .inl hex
          . cases hq:h z.1 with
            | none=>exact .inr rfl
            | some o=>have hn':hh0 z.1=none:=hn;rw[I.kp z.1 o (fun y hy e=>hex ⟨y,hy,e⟩) hq] at hn';cases hn'
     simp[go_sem];rw[ag];refine⟨by simp[go_sem];omega,?_⟩;rw[ae,says_again,ei,em];refine⟨⟨_,_,_,_,_,_,_,_,s5,k2,j+1,rfl,by omega,I'⟩,?_⟩;simp[go_sem];omega
   . obtain rfl:j=ks.length:=by omega
     have hown4:=I.own;rw[List.take_length] at hown4;have hlen4:=I.len;rw[List.take_length] at hlen4;have hcl:(rJ (acc++nd0::Tr.fP ks)).length=(acc.length+1+Tr.ns ks)*6:=by rw[Om];simp[Tr.ns];omega
     obtain⟨cb,o,p1,p2,p3,p4⟩:=hown4.abD (j:=acc.length*6+3) (by omega) (.int .i64 (Tr.ns ks:Nat)) (by decide);have hz:((s4.n:Int) - s.n - 1)=(Tr.ns ks:Nat):=by omega
     rw[ak,if_neg (by simp[go_sem];omega)];rw[ag];refine⟨by simp[go_sem];omega,?_⟩;rw[ag];refine⟨by simp[go_sem];omega,?_⟩;rw[ag];refine⟨by simp[go_sem,p1];omega,?_⟩;rw[ag];refine⟨by simp[go_sem,p1],?_⟩;rw[ae,aJ];refine⟨_,by simp only[AE.den,CE.den,IE.den,LE.den,List.map_cons,List.map_nil,List.getD_cons_zero,List.getD_cons_succ];simp only[p1,Option.map_some,Nat.zero_add,hz];rw[hsn];exact p3,?_⟩;rw[aj,ep];refine⟨_,fun _ _ h=>h,?_⟩;refine hφ s4 _ ?_ (by omega) (fun c' o' hc ho'=>?_) I.fr
     . have e:(rJ (acc++nd0::Tr.fP ks)).take (acc.length*6+3)++[Value.int .i64 (Tr.ns ks:Nat)]++(rJ (acc++nd0::Tr.fP ks)).drop (acc.length*6+3+1)=rJ (acc++(Tr.nd k l c n x ks).nR):=by
        have hal:=Om acc;rw[Tr.nR,<- Tr.Ef,Ed,yP,Ed,yP];have t1:(rJ acc++(nd0.cs++rJ (Tr.fP ks))).take (acc.length*6+3)=rJ acc++nd0.cs.take 3:=by
         rw[List.take_append,List.take_of_length_le (by omega),hal,show acc.length*6+3 - acc.length*6=3 by omega];rfl
        have t2:(rJ acc++(nd0.cs++rJ (Tr.fP ks))).drop (acc.length*6+3+1)=nd0.cs.drop 4++rJ (Tr.fP ks):=by
         rw[List.drop_append,List.drop_of_length_le (by omega),hal,show acc.length*6+3+1 - acc.length*6=4 by omega];rfl
        rw[t1,t2];rw[hnc];simp[wC.cs]
       rw[<- e];exact p4
     . have hcc:c'≠cb:=fun e=>by
        rcases I.fr _ p1 with ⟨y,hy,e2⟩ | hn
        . exact hc y hy (e2.trans e.symm)
        . rw[<- e,ho'] at hn;cases hn
       show (hh0.set cb _) c'=some o';rw[bf _ hcc];exact I.kp c' o' hc ho'
end
section
attribute [local go_sem] aY aX aA ak ax aF aT aJ aW dN gV eQ au says_again bT
def A7:Fm:=(.ite (.and (.le (.c 65) (.x 0)) (.le (.x 0) (.c 70)))
 (.C 168 [.W [48,49,50,51,52,53,54,55,56,57,97,98,99,100,101,102],(.one (.i .u8 (.wr .u8 (.add (.x 0) (.c 32)))))] (.p (.J 1)) ⟨1,0,0,0,0,0⟩
 (.ret (.p (.J 1))))
 (.C 168 [.W [48,49,50,51,52,53,54,55,56,57,97,98,99,100,101,102],(.one (.U 0))] (.p (.J 1)) ⟨1,0,0,0,0,0⟩
 (.ret (.p (.J 1)))))
theorem JC:aU ⟨true,[]⟩ Tryz.prog (fun l=>([]:List bG).getD l ⟨[],[],[]⟩) Tryz.f158=A7:=by kernel_rfl
theorem QZ:az Tryz.prog .zero Tryz.f158.params.toList=some ([(.one (.U 0))],⟨1,0,0,0,0,0⟩):=by kernel_rfl
def Gz:Fm:=(.need (.not (.eqS (.x 0) (.c []))) (.and (.le (.c 0) (.c 0)) (.lt (.c 0) (.len (.x 0))))
 (.ite (.or (.eqS (.x 0) (.c [])) (.not (.eqI (.at (.x 0) (.c 0)) (.c 34))))
 (.ret (.tup [.W [],(.I (.c 0)),(.one (.b (.c false)))]))
 (.new [(.c .nilp),(.sl .nil)] 46
 (.loop 0 ⟨[(.c 0),(.c 1)],[(.c false)],[(.c [])],[],[],[]⟩
 (.need (.not (.eqI (.x 1) (.len (.x 0)))) (.and (.le (.c 0) (.x 1)) (.lt (.x 1) (.len (.x 0))))
 (.need (.not (.or (.eqI (.x 1) (.len (.x 0))) (.lt (.at (.x 0) (.x 1)) (.c 32)))) (.and (.le (.c 0) (.x 1)) (.lt (.x 1) (.len (.x 0))))
 (.ite (.or (.or (.eqI (.x 1) (.len (.x 0))) (.lt (.at (.x 0) (.x 1)) (.c 32))) (.lt (.c 126) (.at (.x 0) (.x 1))))
 (.ret (.tup [.W [],.J 1,(.one (.b (.c false)))]))
 (.N (.and (.le (.c 0) (.x 1)) (.lt (.x 1) (.len (.x 0))))
 (.ite (.eqI (.at (.x 0) (.x 1)) (.c 34))
 (.C 27 [.P 0] (.p (.S 2)) ⟨0,0,1,0,0,0⟩
 (.N (.R (.add (.x 1) (.c 1)))
 (.ret (.tup [.S 2,(.I (.add (.x 1) (.c 1))),(.one (.b (.c true)))]))))
 (.ite (.not (.eqI (.at (.x 0) (.x 1)) (.c 92)))
 (.C 93 [.P 0,(.one (.i .u8 (.at (.x 0) (.x 1))))] (.p (.one (.v 0))) ⟨0,0,0,1,0,0⟩
 (.N (.R (.add (.x 1) (.c 1)))
 (.again 0 ⟨0,0,1,0,0,1⟩ ⟨2,1,2,0,0,1⟩ ⟨[(.x 0),(.add (.x 1) (.c 1))],[(.x 0)],[(.x 1)],[],[],[]⟩)))
 (.N (.R (.add (.x 1) (.c 1)))
 (.ite (.eqI (.add (.x 1) (.c 1)) (.len (.x 0)))
 (.ret (.tup [.W [],(.I (.add (.x 1) (.c 1))),(.one (.b (.c false)))]))
 (.N (.and (.le (.c 0) (.add (.x 1) (.c 1))) (.lt (.add (.x 1) (.c 1)) (.len (.x 0))))
 (.ite (.eqI (.at (.x 0) (.add (.x 1) (.c 1))) (.c 34))
 (.ite (.eqI (.at (.x 0) (.add (.x 1) (.c 1))) (.c 34))
 (.N (.and (.le (.c 0) (.add (.x 1) (.c 1))) (.lt (.add (.x 1) (.c 1)) (.len (.x 0))))
 (.C 93 [.P 0,(.one (.i .u8 (.at (.x 0) (.add (.x 1) (.c 1)))))] (.p (.one (.v 0))) ⟨0,0,0,1,0,0⟩
 (.N (.R (.add (.add (.x 1) (.c 1)) (.c 1)))
 (.again 0 ⟨0,0,1,0,0,1⟩ ⟨2,1,2,0,0,1⟩ ⟨[(.x 0),(.add (.add (.x 1) (.c 1)) (.c 1))],[(.x 0)],[(.x 1)],[],[],[]⟩))))
 (.ite (.eqI (.at (.x 0) (.add (.x 1) (.c 1))) (.c 110))
 (.C 93 [.P 0,(.one (.i .u8 (.c 10)))] (.p (.one (.v 0))) ⟨0,0,0,1,0,0⟩
 (.N (.R (.add (.add (.x 1) (.c 1)) (.c 1)))
 (.again 0 ⟨0,0,1,0,0,1⟩ ⟨2,1,2,0,0,1⟩ ⟨[(.x 0),(.add (.add (.x 1) (.c 1)) (.c 1))],[(.x 0)],[(.x 1)],[],[],[]⟩)))
 (.ite (.eqI (.at (.x 0) (.add (.x 1) (.c 1))) (.c 116))
 (.C 93 [.P 0,(.one (.i .u8 (.c 9)))] (.p (.one (.v 0))) ⟨0,0,0,1,0,0⟩
 (.N (.R (.add (.add (.x 1) (.c 1)) (.c 1)))
 (.again 0 ⟨0,0,1,0,0,1⟩ ⟨2,1,2,0,0,1⟩ ⟨[(.x 0),(.add (.add (.x 1) (.c 1)) (.c 1))],[(.x 0)],[(.x 1)],[],[],[]⟩)))
 (.ite (.eqI (.at (.x 0) (.add (.x 1) (.c 1))) (.c 120))
 (.loop 1 ⟨[(.x 0),(.add (.x 1) (.c 1)),(.c 0),(.c 0)],[(.x 0)],[(.x 1)],[],[],[]⟩
 (.ite (.lt (.x 5) (.c 2))
 (.N (.R (.add (.x 3) (.c 1)))
 (.need (.not (.eqI (.add (.x 3) (.c 1)) (.len (.x 0)))) (.and (.le (.c 0) (.add (.x 3) (.c 1))) (.lt (.add (.x 3) (.c 1)) (.len (.x 0))))
 (.call (.not (.eqI (.add (.x 3) (.c 1)) (.len (.x 0)))) false 158 [(.one (.i .u8 (.at (.x 0) (.add (.x 3) (.c 1)))))] (.p (.J 6)) ⟨1,0,0,0,0,0⟩
 (.ite (.or (.eqI (.add (.x 3) (.c 1)) (.len (.x 0))) (.lt (.x 6) (.c 0)))
 (.ret (.tup [.W [],(.I (.add (.x 3) (.c 1))),(.one (.b (.c false)))]))
 (.N (.R (.mul (.c 16) (.x 4)))
 (.N (.and (.le (.c 0) (.add (.x 3) (.c 1))) (.lt (.add (.x 3) (.c 1)) (.len (.x 0))))
 (.C 158 [(.one (.i .u8 (.at (.x 0) (.add (.x 3) (.c 1)))))] (.p (.J 7)) ⟨1,0,0,0,0,0⟩
 (.N (.R (.add (.mul (.c 16) (.x 4)) (.x 7)))
 (.N (.R (.add (.x 5) (.c 1)))
 (.again 1 ⟨2,1,2,0,0,1⟩ ⟨6,2,3,0,0,1⟩ ⟨[(.x 2),(.add (.x 3) (.c 1)),(.add (.mul (.c 16) (.x 4)) (.x 7)),(.add (.x 5) (.c 1))],[(.x 1)],[(.x 2)],[],[],[]⟩))))))))))
 (.C 93 [.P 0,(.one (.i .u8 (.wr .u8 (.x 4))))] (.p (.one (.v 0))) ⟨0,0,0,1,0,0⟩
 (.N (.R (.add (.x 3) (.c 1)))
 (.again 0 ⟨0,0,1,0,0,1⟩ ⟨2,1,2,0,0,1⟩ ⟨[(.x 2),(.add (.x 3) (.c 1))],[(.x 1)],[(.x 2)],[],[],[]⟩)))))
 (.ret (.tup [.W [],(.I (.add (.x 1) (.c 1))),(.one (.b (.c false)))]))))))
 (.ite (.eqI (.at (.x 0) (.add (.x 1) (.c 1))) (.c 92))
 (.N (.and (.le (.c 0) (.add (.x 1) (.c 1))) (.lt (.add (.x 1) (.c 1)) (.len (.x 0))))
 (.C 93 [.P 0,(.one (.i .u8 (.at (.x 0) (.add (.x 1) (.c 1)))))] (.p (.one (.v 0))) ⟨0,0,0,1,0,0⟩
 (.N (.R (.add (.add (.x 1) (.c 1)) (.c 1)))
 (.again 0 ⟨0,0,1,0,0,1⟩ ⟨2,1,2,0,0,1⟩ ⟨[(.x 0),(.add (.add (.x 1) (.c 1)) (.c 1))],[(.x 0)],[(.x 1)],[],[],[]⟩))))
 (.ite (.eqI (.at (.x 0) (.add (.x 1) (.c 1))) (.c 110))
 (.C 93 [.P 0,(.one (.i .u8 (.c 10)))] (.p (.one (.v 0))) ⟨0,0,0,1,0,0⟩
 (.N (.R (.add (.add (.x 1) (.c 1)) (.c 1)))
 (.again 0 ⟨0,0,1,0,0,1⟩ ⟨2,1,2,0,0,1⟩ ⟨[(.x 0),(.add (.add (.x 1) (.c 1)) (.c 1))],[(.x 0)],[(.x 1)],[],[],[]⟩)))
 (.ite (.eqI (.at (.x 0) (.add (.x 1) (.c 1))) (.c 116))
 (.C 93 [.P 0,(.one (.i .u8 (.c 9)))] (.p (.one (.v 0))) ⟨0,0,0,1,0,0⟩
 (.N (.R (.add (.add (.x 1) (.c 1)) (.c 1)))
 (.again 0 ⟨0,0,1,0,0,1⟩ ⟨2,1,2,0,0,1⟩ ⟨[(.x 0),(.add (.add (.x 1) (.c 1)) (.c 1))],[(.x 0)],[(.x 1)],[],[],[]⟩)))
 (.ite (.eqI (.at (.x 0) (.add (.x 1) (.c 1))) (.c 120))
 (.loop 1 ⟨[(.x 0),(.add (.x 1) (.c 1)),(.c 0),(.c 0)],[(.x 0)],[(.x 1)],[],[],[]⟩
 (.ite (.lt (.x 5) (.c 2))
 (.N (.R (.add (.x 3) (.c 1)))
 (.need (.not (.eqI (.add (.x 3) (.c 1)) (.len (.x 0)))) (.and (.le (.c 0) (.add (.x 3) (.c 1))) (.lt (.add (.x 3) (.c 1)) (.len (.x 0))))
 (.call (.not (.eqI (.add (.x 3) (.c 1)) (.len (.x 0)))) false 158 [(.one (.i .u8 (.at (.x 0) (.add (.x 3) (.c 1)))))] (.p (.J 6)) ⟨1,0,0,0,0,0⟩
 (.ite (.or (.eqI (.add (.x 3) (.c 1)) (.len (.x 0))) (.lt (.x 6) (.c 0)))
 (.ret (.tup [.W [],(.I (.add (.x 3) (.c 1))),(.one (.b (.c false)))]))
 (.N (.R (.mul (.c 16) (.x 4)))
 (.N (.and (.le (.c 0) (.add (.x 3) (.c 1))) (.lt (.add (.x 3) (.c 1)) (.len (.x 0))))
 (.C 158 [(.one (.i .u8 (.at (.x 0) (.add (.x 3) (.c 1)))))] (.p (.J 7)) ⟨1,0,0,0,0,0⟩
 (.N (.R (.add (.mul (.c 16) (.x 4)) (.x 7)))
 (.N (.R (.add (.x 5) (.c 1)))
 (.again 1 ⟨2,1,2,0,0,1⟩ ⟨6,2,3,0,0,1⟩ ⟨[(.x 2),(.add (.x 3) (.c 1)),(.add (.mul (.c 16) (.x 4)) (.x 7)),(.add (.x 5) (.c 1))],[(.x 1)],[(.x 2)],[],[],[]⟩))))))))))
 (.C 93 [.P 0,(.one (.i .u8 (.wr .u8 (.x 4))))] (.p (.one (.v 0))) ⟨0,0,0,1,0,0⟩
 (.N (.R (.add (.x 3) (.c 1)))
 (.again 0 ⟨0,0,1,0,0,1⟩ ⟨2,1,2,0,0,1⟩ ⟨[(.x 2),(.add (.x 3) (.c 1))],[(.x 1)],[(.x 2)],[],[],[]⟩)))))
 (.ret (.tup [.W [],(.I (.add (.x 1) (.c 1))),(.one (.b (.c false)))]))))))))))))))))))))
theorem Qo:aU ⟨true,[5]⟩ Tryz.prog (fun l=>([⟨[2,3,4,6],[16,17,18,19,20,21,22,23,24,25,26,27,28,29,30,31,32,33,34,35,7,37,38,36,39,40,41,43,44,42,45,46,47,48,49,50,51,52,53,54,55,56,57,58,61,60,62,63,64,65,66,68,67,69,71,70,72,74,73,8,75,76,77,78,79,80,81,82,83,84,85,86,87,88,89,90,91,92,93,94,95,96,97,98,99,100,101,59,102,103],[]⟩,⟨[6,2,3,4,8,75],[76,77,78,79,80,81,82,83,84,85,86,87,88,89,90,91,92,93,94,95,96,97,98],[]⟩]:List bG).getD l ⟨[],[],[]⟩) Tryz.f143=Gz:=by kernel_rfl
theorem VN:az Tryz.prog .zero Tryz.f143.params.toList=some ([.S 0],⟨0,0,1,0,0,0⟩):=by kernel_rfl
def NI:Fm:=(.C 143 [.S 0] (.tup [.S 1,.J 0,.B 0]) ⟨1,1,1,0,0,0⟩
 (.ret (.tup [.J 0,.B 0])))
theorem UG:aU ⟨true,[]⟩ Tryz.prog (fun l=>([]:List bG).getD l ⟨[],[],[]⟩) Tryz.f121=NI:=by kernel_rfl
theorem YA:az Tryz.prog .zero Tryz.f121.params.toList=some ([.S 0],⟨0,0,1,0,0,0⟩):=by kernel_rfl
def NJ:Fm:=(.C 143 [.S 0] (.tup [.S 1,.J 0,.B 0]) ⟨1,1,1,0,0,0⟩
 (.ite (.or (.not (.x 0)) (.not (.eqI (.x 0) (.len (.x 0)))))
 (.ret (.tup [.W [],(.I (.c 2))]))
 (.ret (.tup [.S 1,(.I (.c 0))]))))
theorem UI:aU ⟨true,[]⟩ Tryz.prog (fun l=>([]:List bG).getD l ⟨[],[],[]⟩) Tryz.f122=NJ:=by kernel_rfl
theorem YC:az Tryz.prog .zero Tryz.f122.params.toList=some ([.S 0],⟨0,0,1,0,0,0⟩):=by kernel_rfl
def yw:Fm:=(.O (.pt 0 0) 1 [(.s (.x 1))] ⟨0,0,1,0,0,0⟩
 (.O (.pt 0 1) 1 [.J 4] ⟨1,0,0,0,0,0⟩
 (.Z 0
 (.Z 0
 (.Z 0
 (.Z 0
 (.N (.and (.le (.c 0) (.x 4)) (.le (.x 4) (.len (.x 1))))
 (.callK (.c true) [((.c true),(.pt 0 0),1),((.c true),(.pt 0 1),1)] 121 [(.one (.s (.sub (.x 1) (.x 4) (.len (.x 1)))))] (.tup [.J 5,.B 0]) ⟨1,1,0,0,0,0⟩
 (.ite (.not (.x 0))
 (.ret (.tup [(.agg [(.i .u8 (.c 0)),(.i .i64 (.c 0)),(.i .i64 (.c 0)),(.i .i64 (.c 0)),(.s (.c []))]),(.I (.c 4))]))
 (.O (.pt 0 0) 1 [(.s (.x 2))] ⟨0,0,1,0,0,0⟩
 (.O (.pt 0 1) 1 [.J 6] ⟨1,0,0,0,0,0⟩
 (.O (.pt 0 1) 1 [.J 7] ⟨1,0,0,0,0,0⟩
 (.Z 0
 (.Z 0
 (.Z 0
 (.Z 0
 (.Z 0
 (.Z 0
 (.N (.R (.add (.x 7) (.x 5)))
 (.N (.and (.and (.le (.c 0) (.add (.x 7) (.x 5))) (.le (.add (.x 7) (.x 5)) (.len (.x 2)))) (.and (.le (.c 0) (.x 6)) (.le (.x 6) (.add (.x 7) (.x 5)))))
 (.callK (.c true) [((.c true),(.pt 0 0),1),((.c true),(.pt 0 1),1),((.c true),(.pt 0 1),1)] 122 [(.one (.s (.sub (.x 2) (.x 6) (.add (.x 7) (.x 5)))))] (.tup [.S 3,.J 8]) ⟨1,0,1,0,0,0⟩
 (.V 114 [.P 0,.J 5]
 (.ret (.tup [(.agg [(.i .u8 (.c 5)),.J 1,.J 2,.J 3,(.s (.x 3))]),.J 8]))))))))))))))))))))))))
theorem Hr:aU ⟨true,[]⟩ Tryz.prog (fun l=>([]:List bG).getD l ⟨[],[],[]⟩) Tryz.f78=yw:=by kernel_rfl
theorem Le:az Tryz.prog .zero Tryz.f78.params.toList=some ([.P 0,.K 0 1 2 3 0],⟨4,0,1,0,0,1⟩):=by kernel_rfl
def HD:List UInt8:=[48,49,50,51,52,53,54,55,56,57,97,98,99,100,101,102]
def vH:Ct Tryz.prog where
 f:=168
 spec:=fun args h φ=>∃ s c,args=[.string (B s),.int .u8 c]/\φ (.int .i64 (Lib.indexByte s c.toNat.toUInt8)) h
 ok:=by
  rintro args h φ w ⟨s,c,rfl,hφ⟩ hH;exact wW (v:=.int .i64 (Lib.indexByte s c.toNat.toUInt8)) ((Tryz.strings_IndexByte (B s) c w).mono fun e w' ⟨he,hw⟩=>⟨he,hw.symm⟩) hφ hH
theorem UW (c:Int) (h0:0<=c) (h1:c<=255):Lib.indexByte HD c.toNat.toUInt8=if 48<=c/\c<=57 then c - 48 else if 97<=c/\c<=102 then c - 87 else -1:=by
 have hall:∀ n:Fin 256,Lib.indexByte HD n.val.toUInt8=if 48<=(n.val:Int)/\(n.val:Int)<=57 then (n.val:Int) - 48 else if 97<=(n.val:Int)/\(n.val:Int)<=102 then (n.val:Int) - 87 else -1:=by decide +kernel
 have:=hall ⟨c.toNat,by omega⟩;simp only[Int.toNat_of_nonneg h0] at this;exact this
def sH:Ct Tryz.prog where
 f:=158
 spec:=fun args h φ=>∃ c:Int,args=[.int .u8 c]/\0<=c/\c<=255/\φ (.int .i64 (hx c)) h
 ok:=by
  rintro args h φ w ⟨c,rfl,c0,c1,hφ⟩ hH;refine aZ Tryz.func158 JC QZ [vH] φ bJ aV ⟨[c],[],[],[],[],[],h,cu⟩ ⟨rfl,rfl,rfl,rfl,rfl,rfl⟩ af ?_ w hH rfl;generalize hE:(⟨aG _,_,_,_⟩:Env)=E;have s1:E.spec 168=vH.spec:=by rw[<- hE];rfl
  have ep:E.post=φ:=by rw[<- hE]
  clear hE;unfold A7;rw[ak];by_cases hc:65<=c/\c<=70
  . rw[if_pos (by simp[go_sem,hc.1,hc.2]),ae,ax,if_pos (by rfl),s1];have hw:IntKind.u8.wrap (c+32)=c+32:=by rw[IntKind.wrap_u8];omega
    refine⟨HD,c+32,by simp[go_sem,hw,HD],?_⟩;rw[UW _ (by omega) (by omega),if_neg (by omega),if_pos (by omega)];have e:hx c=c+32 - 87:=by
     unfold hx;rw[if_neg (by omega),if_neg (by omega),if_pos hc];omega
    rw[<- e];simp[go_sem];simp only[ae];simp[go_sem,ep,hφ]
  . rw[if_neg (by simp[go_sem];omega),ae,ax,if_pos (by rfl),s1];refine⟨HD,c,by simp[go_sem,HD],?_⟩;have e:hx c=if 48<=c/\c<=57 then c - 48 else if 97<=c/\c<=102 then c - 87 else -1:=by
     unfold hx;rw[if_neg hc]
    rw[UW _ c0 c1,<- e];simp[go_sem];simp only[ae];simp[go_sem,ep,hφ]
structure QI (h:Hp) (s:List UInt8) (b:Nat) (i:Nat) (used:Bool) (sl:bM) (acc:List UInt8) (hh:Hp):Prop where
 bld:SL hh b used sl acc
 kept:bY h hh
 nb:h b=none
 fresh:∀ z,sl.a=some z->h z.1=none
 lo:1<=i
 le:i<=s.length
 cnt:acc.length<=i
 all:∃ m,s.length<m+i/\rdA s.length s 1 []=rdA m s i acc
def aa8 (h:Hp) (s:List UInt8):Nat->Ctx->Prop
 | 0,C=>∃ x0 i y t b used sl acc hh,C=⟨[x0,(i:Nat)],[y],[s,t],[],[],[some (b,0)],hh,cu⟩/\QI h s b i used sl acc hh
 | _+1,C=>∃ x0 i x2 j n k y y' t t' b used sl acc hh,C=⟨[x0,(i:Nat),x2,(j:Nat),n,(k:Nat)],[y,y'],[s,t,t'],[],[],[some (b,0)],hh,cu⟩∧QI h s b i used sl acc hh∧
   i+1<s.length/\bt s i=92/\bt s (i+1)=120/\j=i+1+k/\((k=0/\n=0)\/(k=1/\i+2<s.length/\n=hx (bt s (i+2))/\0<=n)\/(k=2/\i+3<s.length/\n=16*hx (bt s (i+2))+hx (bt s (i+3))/\0<=hx (bt s (i+2))/\0<=hx (bt s (i+3))))
def CB (s:List UInt8):Nat->Ctx->Nat
 | 0,C=>((s.length:Int) - C.i.getD 1 0).toNat
 | _+1,C=>(2 - C.i.getD 5 0).toNat
theorem xm {E:Env} {o:Nat} {g:kZ} {k:Fm} {C:Ctx} (h1:E.inv o (C.push (g.den C)).bare)
 (h2:∀ (x:Inc) h M,x.cnt=g.cnt->E.inv o ((C.push x).heap h).bare->M o=E.meas o ((C.push x).heap h).bare->(∀ j,j≠o->M j=C.m j)->k.says E ⟨C.i++x.i,C.b++x.b,C.s++x.s,C.v++x.v,C.l++x.l,C.p++x.p,h,M⟩):(Fm.loop o g k).says E C:=by
 refine⟨h1,(xH _ _).2 fun x hx _ h hi=>?_⟩;exact h2 x h (fun j=>if j=o then E.meas o ((C.push x).heap h).bare else C.m j) hx hi (by simp) (fun j hj=>by simp[hj])
theorem vC (s:List UInt8) (i:Nat):0<=bt s i/\bt s i<=255:=by
 unfold bt;have:=(s.getD i 0).toNat_lt;omega
theorem QI.next {h:Hp} {s:List UInt8} {b i i':Nat} {used:Bool} {sl:bM} {acc:List UInt8} {hh:Hp} (Q:QI h s b i used sl acc hh) {x:UInt8} {sl':bM} {k:Hp} (h1:SL k b true sl' (acc++[x])) (h2:∀ c o,c≠b->(∀ z,sl.a=some z->z.1≠c)->hh c=some o->k c=some o)
 (h3:∀ z,sl'.a=some z->(∃ y,sl.a=some y/\y.1=z.1)\/hh z.1=none) (hi:i<i') (hl:i'<=s.length) (hs:∀ m,rdA (m+1) s i acc=rdA m s i' (acc++[x])):QI h s b i' true sl' (acc++[x]) k:=by
 refine⟨h1,fun c o hc=>h2 c o (fun e=>by rw[e,Q.nb] at hc;cases hc) (fun z hz e=>by have:=Q.fresh z hz;rw[e,hc] at this;cases this) (Q.kept c o hc),Q.nb,fun z hz=>?_,by have:=Q.lo;omega,hl,by have:=Q.cnt;simp;omega,?_⟩
 . rcases h3 z hz with ⟨y,hy,e⟩ | hn
   . rw[<- e];exact Q.fresh y hy
   . cases hq:h z.1 with
     | none=>rfl
     | some o=>rw[Q.kept _ _ hq] at hn;cases hn
 . obtain⟨m,hm,he⟩:=Q.all;have hle:=Q.le;obtain⟨m',rfl⟩:∃ m',m=m'+1:=⟨m - 1,by omega⟩;exact⟨m',by omega,by rw[he,hs]⟩
theorem QI.stop {h:Hp} {s:List UInt8} {b i:Nat} {used:Bool} {sl:bM} {acc:List UInt8} {hh:Hp} (Q:QI h s b i used sl acc hh) {r:Option (List UInt8×Nat)} (hs:∀ m,rdA (m+1) s i acc=r):rdA s.length s 1 []=r:=by
 obtain⟨m,hm,he⟩:=Q.all;have hle:=Q.le;obtain⟨m',rfl⟩:∃ m',m=m'+1:=⟨m - 1,by omega⟩;rw[he,hs]
theorem H6 (b:Int):hx b<=15:=by
 unfold hx;split
 . omega
 . split
   . omega
   . split<;>omega
theorem Ce {v:Value} (h:v.oneCell'=true):eG [v]:=fun u hu=>by simp at hu;subst hu;exact h
set_option maxRecDepth 100000 in
set_option maxHeartbeats 8000000 in
def Dy:Ct Tryz.prog where
 f:=143
 spec:=fun args h φ=>∃ s,args=[.string (B s)]/\s.length<=100000/\
  (match Ag s with
   | some (t,e)=>φ (.tuple #[.string (B t),.int .i64 (e:Nat),.bool true]) h
   | none=>∀ t n,φ (.tuple #[.string (B t),.int .i64 n,.bool false]) h)
 ok:=by
  rintro args h φ w ⟨s,rfl,hlen,hφ⟩ hH;refine bQ (aZ Tryz.func143 Qo VN [sK,jE,sH] (fun v k=>∃ k',bY k' k/\φ v k') (aa8 h s) (CB s) ⟨[],[],[s],[],[],[],h,cu⟩ ⟨rfl,rfl,rfl,rfl,rfl,rfl⟩ af ?_ w hH rfl);generalize hE:(⟨aG _,_,_,_⟩:Env)=E;have s1:E.spec 27=sK.spec:=by rw[<- hE];rfl
  have s2:E.spec 93=jE.spec:=by rw[<- hE];rfl
  have s3:E.spec 158=sH.spec:=by rw[<- hE];rfl
  have ep:E.post=fun v k=>∃ k',bY k' k/\φ v k':=by rw[<- hE]
  have ei:E.inv=aa8 h s:=by rw[<- hE]
  have em:E.meas=CB s:=by rw[<- hE]
  clear hE;unfold Ag at hφ;have no:∀ {hh},bY h hh->rdA s.length s 1 []=none->∀ t n,∃ k',bY k' hh/\φ (.tuple #[.string (B t),.int .i64 n,.bool false]) k':=fun hle hr t n=>by
   refine⟨h,hle,?_⟩;rw[hr] at hφ;split at hφ
   . rename_i heq;split at heq<;>cases heq
   . exact hφ t n
  rw[<- ae];unfold Gz;by_cases hs0:s=[]
  . subst hs0;rw[if_pos (.inl rfl)] at hφ
    iterate 3 (try simp only[ae];try simp[go_sem,ep])
    exact⟨h,fun _ _ h=>h,hφ _ _⟩
  have hpos:0<s.length:=List.length_pos_iff.2 hs0;by_cases h34:bt s 0=34
  . rw[if_neg (by omega)] at hφ;have wr:∀ {hh used sl acc i b} (Q:QI h s b i used sl acc hh) (x:Int),0<=x->x<=255->∀ {i'},i<i'->i'<=s.length->(∀ m,rdA (m+1) s i acc=rdA m s i' (acc++[ub x]))->∀ ψ:Value->Hp->Prop,
     (∀ sl' k',QI h s b i' true sl' (acc++[ub x]) k'->ψ .nilIface k')->jE.spec [.pointer (some ⟨b,0,none⟩),.int .u8 x] hh ψ:=by
     intro hh used sl acc i b Q x x0 x1 i' h1 h2 h3 ψ h4;have:=Q.cnt;have:=Q.le;exact⟨b,used,sl,acc,x,rfl,Q.bld,x0,x1,by omega,fun sl' k hB hf hr=>h4 sl' k (Q.next hB hf hr h1 h2 h3)⟩
    iterate 2 (simp only[ae];simp[go_sem,hs0,h34])
    simp only[ae,dN];refine⟨hpos,fun b hb=>?_⟩;refine bH ?_ ?_
    . rw[ei];refine⟨0,1,false,[],b,false,⟨none,0,0⟩,[],h.set b ⟨bld b false ⟨none,0,0⟩,BT⟩,rfl,⟨⟨ay _ _ _,.inl ⟨rfl,rfl⟩,rfl,fun _ hz=>(by cases hz),fun _=>rfl,fun hz=>absurd rfl hz⟩,dU hb _,hb,fun _ hz=>(by cases hz),Nat.le_refl _,hpos,Nat.zero_le _,s.length,by omega,rfl⟩⟩
    . rw[ei,em];rintro i' bb ss v ll pp hh0 M ⟨x0,i,y,t,b',used,sl,acc,hh,hC,Q⟩ hM;cases hC;have hM':M 0=((s.length:Int) - i).toNat:=hM;clear hM hb;have hile:=Q.le;have hibd:=vC s i;rw[<- ae];by_cases hil:i=s.length
      . have hz:(i:Int)=s.length:=by omega
        iterate 5 (try simp only[ae];try simp[go_sem,ep,hz])
        exact no Q.kept (Q.stop fun m=>by rw[rdA,if_pos (.inl (by omega))]) _ _
      have hlt:i<s.length:=by omega
      have hz:¬ (i:Int)=s.length:=by omega
      have hz2:(i:Int)<s.length:=by omega
      by_cases hpr:bt s i<32\/126<bt s i
      . iterate 4 (try simp only[ae];try simp[go_sem,ep,hz,hz2,hpr])
        exact no Q.kept (Q.stop fun m=>by rw[rdA,if_pos (.inr hpr)]) _ _
      have p1:¬ bt s i<32:=by omega
      have p2:¬ 126<bt s i:=by omega
      by_cases q34:bt s i=34
      . iterate 6 (try simp only[ae];try simp[go_sem,hz,hz2,q34])
        have hr:rdA s.length s 1 []=some (acc,i+1):=Q.stop fun m=>by rw[rdA,if_neg (by omega),if_pos q34]
        rw[hr] at hφ;rw[s1];refine⟨b',used,sl,acc,rfl,Q.bld,?_⟩;refine⟨acc,rfl,?_⟩;have hd:bY h (hh0.drop sl):=fun c o hc=>by
         have h1:=Q.kept c o hc;unfold Hp.drop;cases hsa:sl.a with
         | none=>exact h1
         | some z=>
           simp only[Hp.del];rw[if_neg (fun e=>by have:=Q.fresh z hsa;rw[<- e,hc] at this;cases this)];exact h1
        iterate 3 (try simp only[ae];try simp[go_sem,ep])
        refine⟨by omega,by omega,h,hd,?_⟩;simpa using hφ
      by_cases q92:bt s i=92
      . have e1:((i:Int)+1).toNat=i+1:=by omega
        have hibd1:=vC s (i+1);by_cases hi1:i+1=s.length
        . have hz1:(i:Int)+1=s.length:=by omega
          iterate 12 (try simp only[ae];try simp[go_sem,ep,hz,hz2,q92,hz1])
          exact⟨by omega,no Q.kept (Q.stop fun m=>by rw[rdA,if_neg (by omega),if_neg q34,if_neg (fun h=>h q92),if_pos (by omega)]) _ _⟩
        have hz1:¬ (i:Int)+1=s.length:=by omega
        have hz3:(i:Int)+1<s.length:=by omega
        have fin2:∀ {sl' k' acc'},QI h s b' (i+2) true sl' acc' k'->E.inv 0 ⟨[x0,↑i+1+1],[y],[s,t],[],[],[some (b',0)],k',cu⟩/\E.meas 0 ⟨[x0,↑i+1+1],[y],[s,t],[],[],[some (b',0)],k',cu⟩<M 0:=by
         intro sl' k' acc' Q';rw[ei,em];refine⟨⟨x0,i+2,y,t,b',true,sl',acc',k',by rw[show ((i+2:Nat):Int)=(i:Int)+1+1 by omega],Q'⟩,?_⟩;simp only[CB,List.getD_cons_succ,List.getD_cons_zero];omega
        by_cases c34:bt s (i+1)=34
        . iterate 18 (try simp only[ae];try simp[go_sem,hz,hz1,hz3,hz2,q92,e1,c34])
          refine⟨by omega,by omega,by omega,?_⟩;rw[s2];exact wr Q 34 (by omega) (by omega) (i':=i+2) (by omega) (by omega) (fun m=>by rw[rdA,if_neg (by omega),if_neg q34,if_neg (fun h=>h q92),if_neg (by omega),if_pos (.inl c34),c34]) _ (fun sl' k' Q'=>⟨.nilIface,Ce rfl,rfl,by omega,by omega,fin2 Q'⟩)
        by_cases c92:bt s (i+1)=92
        . iterate 18 (try simp only[ae];try simp[go_sem,hz,hz1,hz3,hz2,q92,e1,c92])
          refine⟨by omega,by omega,by omega,?_⟩;rw[s2];exact wr Q 92 (by omega) (by omega) (i':=i+2) (by omega) (by omega) (fun m=>by rw[rdA,if_neg (by omega),if_neg q34,if_neg (fun h=>h q92),if_neg (by omega),if_pos (.inr c92),c92]) _ (fun sl' k' Q'=>⟨.nilIface,Ce rfl,rfl,by omega,by omega,fin2 Q'⟩)
        by_cases c110:bt s (i+1)=110
        . iterate 18 (try simp only[ae];try simp[go_sem,hz,hz1,hz3,hz2,q92,e1,c110])
          refine⟨by omega,by omega,by omega,?_⟩;rw[s2];exact wr Q 10 (by omega) (by omega) (i':=i+2) (by omega) (by omega) (fun m=>by rw[rdA,if_neg (by omega),if_neg q34,if_neg (fun h=>h q92),if_neg (by omega),if_neg (by omega),if_pos c110];rfl) _ (fun sl' k' Q'=>⟨.nilIface,Ce rfl,rfl,by omega,by omega,fin2 Q'⟩)
        by_cases c116:bt s (i+1)=116
        . iterate 18 (try simp only[ae];try simp[go_sem,hz,hz1,hz3,hz2,q92,e1,c116])
          refine⟨by omega,by omega,by omega,?_⟩;rw[s2];exact wr Q 9 (by omega) (by omega) (i':=i+2) (by omega) (by omega) (fun m=>by rw[rdA,if_neg (by omega),if_neg q34,if_neg (fun h=>h q92),if_neg (by omega),if_neg (by omega),if_neg c110,if_pos c116];rfl) _ (fun sl' k' Q'=>⟨.nilIface,Ce rfl,rfl,by omega,by omega,fin2 Q'⟩)
        by_cases c120:bt s (i+1)=120
        . iterate 18 (try simp only[ae];try simp[go_sem,hz,hz1,hz3,hz2,q92,e1,c120])
          refine⟨by omega,by omega,by omega,?_⟩;refine xm ?_ ?_
          . rw[ei];exact⟨x0,i,x0,i+1,0,0,y,y,t,t,b',used,sl,acc,hh0,by simp[go_sem,Ctx.bare,kZ.den],Q,by omega,q92,c120,rfl,.inl ⟨rfl,rfl⟩⟩
          . rintro⟨xi,xb,xs,xv,xl,xp⟩ h' M' hc hinv hm hM1;rw[ei] at hinv;rw[em] at hm;obtain⟨x0',i2,x2,j,n,k,y1,y2,t1,t2,b2,used2,sl2,acc2,hh2,hC,Q2,a1,a2,a3,a4,a5⟩:=hinv;simp[Ctx.push,Ctx.heap,Ctx.bare] at hC;obtain⟨⟨rfl,hii,rfl⟩,⟨rfl,rfl⟩,⟨rfl,rfl⟩,rfl,rfl,⟨rfl,rfl⟩,rfl⟩:=hC;obtain rfl:i2=i:=by omega
            have hm':M' 1=((2:Int) - k).toNat:=hm;have hM0:M' 0=M 0:=hM1 0 (by decide);clear hm hM1 hc;have hno:¬ (i2+3<s.length/\0<=hx (bt s (i2+2))/\0<=hx (bt s (i2+3)))->rdA s.length s 1 []=none:=fun hn=>Q2.stop fun m=>by
             rw[rdA,if_neg (by omega),if_neg q34,if_neg (fun h=>h q92),if_neg (by omega),if_neg (by omega),if_neg (by omega),if_neg (by omega),if_pos c120,if_neg hn]
            have e2:((j:Int)+1).toNat=j+1:=by omega
            have hjd:=vC s (j+1);have hx15:=H6 (bt s (i2+2));have hx16:=H6 (bt s (i2+3));have hx17:=H6 (bt s (j+1));rw[<- ae];by_cases hk:k<2
            . have hkz:(k:Int)<2:=by omega
              have hjj:j+1=i2+2\/j+1=i2+3:=by omega
              by_cases hjl:j+1=s.length
              . have hjz:(j:Int)+1=s.length:=by omega
                iterate 12 (try simp only[ae];try simp[go_sem,ep,hkz,hjz])
                exact⟨by omega,no Q2.kept (hno (by omega)) _ _⟩
              have hjz:¬ (j:Int)+1=s.length:=by omega
              have hjz3:(j:Int)+1<s.length:=by omega
              by_cases hneg:hx (bt s (j+1))<0
              . iterate 12 (try simp only[ae];try simp[go_sem,ep,s3,sH,hkz,hjz,hjz3,e2,hjd.1,hjd.2,hneg])
                exact⟨by omega,by omega,by omega,no Q2.kept (hno (by
                 rintro⟨_,g1,g2⟩;rcases hjj with e | e<;>rw[e] at hneg<;>omega)) _ _⟩
              . iterate 12 (try simp only[ae];try simp[go_sem,s3,sH,hkz,hjz,hjz3,e2,hjd.1,hjd.2,hneg])
                refine⟨by omega,by omega,by omega,by omega,by omega,by omega,by omega,by omega,by omega,by omega,?_,?_⟩
                . rw[ei];refine⟨x0,i2,x2,j+1,16*n+hx (bt s (j+1)),k+1,y,y2,t,t2,b',used2,sl2,acc2,h',by simp,Q2,a1,q92,c120,by omega,?_⟩;rcases a5 with ⟨g1,g2⟩ | ⟨g1,g2,g3,g4⟩ | ⟨g1,_⟩
                  . have e:j+1=i2+2:=by omega
                    rw[e] at hneg⊢;exact .inr (.inl ⟨by omega,by omega,by omega,by omega⟩)
                  . have e:j+1=i2+3:=by omega
                    rw[e] at hneg⊢;exact .inr (.inr ⟨by omega,by omega,by rw[g3],by omega,by omega⟩)
                  . omega
                . rw[em];simp only[CB,List.getD_cons_succ,List.getD_cons_zero];omega
            . have hkz:¬ (k:Int)<2:=by omega
              have hw:IntKind.u8.wrap n=n:=by rw[IntKind.wrap_u8];omega
              iterate 12 (try simp only[ae];try simp[go_sem,hkz,hw])
              obtain⟨g1,g2,g3,g4,g5⟩:k=2/\i2+3<s.length/\n=16*hx (bt s (i2+2))+hx (bt s (i2+3))/\0<=hx (bt s (i2+2))/\0<=hx (bt s (i2+3)):=by
               rcases a5 with ⟨g1,_⟩ | ⟨g1,_⟩ | g
               . omega
               . omega
               . exact g
              rw[s2];refine wr Q2 n (by omega) (by omega) (i':=i2+4) (by omega) (by omega) (fun m=>by
               rw[rdA,if_neg (by omega),if_neg q34,if_neg (fun h=>h q92),if_neg (by omega),if_neg (by omega),if_neg (by omega),if_neg (by omega),if_pos c120,if_pos ⟨g2,g4,g5⟩,g3]) _ (fun sl' k' Q'=>⟨.nilIface,Ce rfl,rfl,by omega,by omega,?_,?_⟩)
              . rw[ei];exact⟨x2,i2+4,y2,t2,b',true,sl',_,k',by rw[show ((i2+4:Nat):Int)=(j:Int)+1 by omega],Q'⟩
              . rw[em];simp only[CB,List.getD_cons_succ,List.getD_cons_zero];omega
        . have co:bt s (i+1)≠34/\bt s (i+1)≠92:=⟨c34,c92⟩
          iterate 18 (try simp only[ae];try simp[go_sem,ep,hz,hz1,hz3,hz2,q92,e1,c34,c92,c110,c116,c120])
          refine⟨by omega,by omega,by omega,?_⟩;exact no Q.kept (Q.stop fun m=>by rw[rdA,if_neg (by omega),if_neg q34,if_neg (fun h=>h q92),if_neg (by omega),if_neg (by omega),if_neg c110,if_neg c116,if_neg c120]) _ _
      . iterate 7 (try simp only[ae];try simp[go_sem,hz,hz2,p1,p2,q34,q92])
        rw[s2];refine wr Q (bt s i) hibd.1 hibd.2 (Nat.lt_succ_self i) (by omega) (fun m=>by rw[rdA,if_neg (by omega),if_neg q34,if_pos q92]) _ (fun sl' k' Q'=>?_);refine⟨.nilIface,fun u hu=>by simp at hu;subst hu;rfl,rfl,?_⟩
        iterate 2 (try simp only[ae];try simp[go_sem,ei,em])
        refine⟨by omega,by omega,⟨x0,i+1,y,t,b',true,sl',_,k',by simp,Q'⟩,?_⟩;simp only[CB,List.getD_cons_succ,List.getD_cons_zero];omega
  . rw[if_pos (.inr h34)] at hφ
    iterate 3 (try simp only[ae];try simp[go_sem,ep,hs0,h34])
    refine⟨by omega,h,fun _ _ h=>h,hφ _ _⟩
theorem abq:O0 34=false:=by decide
theorem aaR:Jc 34=false:=by decide
theorem aaP:oG 34=false:=by decide
set_option maxRecDepth 100000 in
set_option maxHeartbeats 8000000 in
theorem Su (cl:Ct Tryz.prog) (hcl:cl.f=78) (good:List UInt8->Prop)
 (hl:∀ (b:Nat) (k l c n:Int) (x s:List UInt8) (a:Nat) (L Co:Int) (T:Rw) (h:Hp) (φ:Value->Hp->Prop),good s->h b=some ⟨rc s a L Co,T⟩->a<s.length->bt s a=34->s.length<=100000->0<=Co->Co<=500000->
  (match Ag (s.drop a) with
   | some (t,m)=>φ (.tuple #[gI 5 l c n t,.int .i64 0]) (Hp.set h b ⟨rc s (a+m:Nat) L (Co+m),T⟩)
   | none=>φ (.tuple #[gI 0 0 0 0 [],.int .i64 4]) h)->cl.spec [.pointer (some ⟨b,0,none⟩),gI k l c n x] h φ)
 (s:List UInt8) (hg:good s) (h:Hp) (φ:Value->Hp->Prop) (w:World)
 (hφ:if 65536<s.length then φ (.tuple #[.slice none 0 0,.agg #[.int .i64 3,.int .i64 0,.int .i64 0]]) h
  else if (cZ s).1.1=0 then ∀ sl k,bY h k->dC k sl (oM (cZ s).2) TK 5->sl.n=(cZ s).2.length->φ (.tuple #[sl.val,.agg #[.int .i64 0,.int .i64 0,.int .i64 0]]) k
  else φ (.tuple #[.slice none 0 0,.agg #[.int .i64 (cZ s).1.1,.int .i64 (cZ s).1.2.1,.int .i64 (cZ s).1.2.2]]) h) (hH:Holds h w):
 Calls Tryz.prog 43 #[.string (B s)] w fun e w'=>∃ v k,e=.returned v/\φ v k/\Holds k w'/\Fr w.heap.size h k w w':=by
 refine bQ (aZ Tryz.func43 JX Rq [DC,iV,fV,Dv,gX,sG,cl,Js] (fun v k=>∃ k',bY k' k/\φ v k') (W9 h s) (fun _ C=>(s.length - Dl C.h (YQ C)).toNat) ⟨[],[],[s],[],[],[],h,cu⟩ ⟨rfl,rfl,rfl,rfl,rfl,rfl⟩ af ?_ w hH rfl);generalize hE:(⟨aG _,_,_,_⟩:Env)=E;have s1:E.spec 72=DC.spec:=by rw[<- hE];rfl
 have s2:E.spec 73=iV.spec:=by rw[<- hE];rfl
 have s3:E.spec 74=fV.spec:=by rw[<- hE];rfl
 have s4:E.spec 75=Dv.spec:=by rw[<- hE];rfl
 have s5:E.spec 76=gX.spec:=by rw[<- hE];rfl
 have s6:E.spec 77=sG.spec:=by rw[<- hE];rfl
 have s7:E.spec 78=cl.spec:=by
  rw[<- hE];funext a h φ;simp[aG,oK,iM,hcl,DC,iV,fV,Dv,gX,sG]
 have s8:E.spec 79=Js.spec:=by
  rw[<- hE];funext a h φ;simp[aG,oK,iM,hcl,DC,iV,fV,Dv,gX,sG,Js]
 have ep:E.post=fun v k=>∃ k',bY k' k/\φ v k':=by rw[<- hE]
 have ei:E.inv=W9 h s:=by rw[<- hE]
 have em:E.meas=fun _ C=>(s.length - Dl C.h (YQ C)).toNat:=by rw[<- hE]
 clear hE;rw[<- ae];unfold BB;simp only[ae,ak];by_cases hlen:65536<s.length
 . rw[if_pos hlen] at hφ;have h2:(65536:Int)<s.length:=by omega
   simp[go_sem,h2,ep];exact⟨_,(fun _ _ h=>h),hφ⟩
 . rw[if_neg hlen] at hφ;have h2:¬ (65536:Int)<s.length:=by omega
   simp[go_sem,h2]
   try simp only[ae]
   try simp only[dN]
   intro rb hrb
   try simp only[ae]
   refine bH ?_ ?_
   . rw[ei];refine⟨0,0,0,⟨none,0,0⟩,⟨none,0,0⟩,rb,0,s.length+1,[],h,rfl,⟨by omega,by omega,Nat.le_refl _,rfl,.inl ⟨rfl,rfl⟩,rfl,(fun z hz=>by cases hz),(fun _ _ h=>h),hrb⟩⟩
   . rw[ei,em];rintro i' bb ss v ll pp hh0 M ⟨x0,x1,x2,l0,sl,rb',i,m,acc,hh,hC,I⟩ hM;cases hC;simp only[YQ,List.getD_cons_zero,Option.getD_some,rY] at hM;have hile:=I.le;have hifu:=I.fuel;obtain⟨j,hj⟩:∃ j,j=i+jV false s i:=⟨_,rfl⟩;have hjl:j<=s.length:=hj▸WL false I.le;have hij:i<=j:=by omega
     have hpj:mr (pl s i) (sub s i j)=pl s j:=zi hij hjl;have bi:=ZA I.le;have bj:=ZA hjl;rw[ax,if_pos (by rfl),s1];refine⟨rb',s,i,pl s i,⟨RD,by decide⟩,rfl,ay _ _ _,I.le,by omega,by omega,by omega,by omega,by omega,?_⟩;rw[<- hj,hpj];simp[go_sem];generalize hLc:pl s j=q at *;obtain⟨L,Co⟩:=q;simp only at bj⊢
     iterate 9 (simp only[ae];simp[go_sem,rc])
     obtain⟨m',rfl⟩:∃ m',m=m'+1:=⟨m - 1,by omega⟩;have hall:=I.all;rw[Ia,<- hj,hpj] at hall;by_cases hje:j=s.length
     . have hz:(j:Int)=s.length:=by omega
       rw[if_pos (by omega)] at hall;rw[hall,if_pos rfl] at hφ;simp only[ae,ak];simp[go_sem,hz];intro b hb;rw[ae];refine Xa (cs:=(Tok.mk 8 L Co 0 []).cs) I (by omega) (b:=b) hb rfl (Tok.ones _) rfl rfl rfl ?_;intro s' k' h1 h2 h3 h4;obtain⟨e1,e2,e3⟩:=Pg I hb h3 h4;rw[au,ep];exact⟨k',fun _ _ h=>h,hφ s' k' e2 (by rw[O9,Pe];exact h1) (by rw[h2,I.n];simp)⟩
     . have hz:¬ (j:Int)=s.length:=by omega
       have hjlt:j<s.length:=by omega
       have hjz:(j:Int)<s.length:=by omega
       rw[if_neg (by omega)] at hall;have hbad:(one s j).f≠0->∃ k',bY k' (hh.set rb' ⟨[.string (B s),.int .i64 j,.int .i64 L,.int .i64 Co],RD⟩)/\φ (.tuple #[.slice none 0 0,.agg #[.int .i64 (one s j).f,.int .i64 L,.int .i64 Co]]) k':=by
        intro hf;rw[if_neg hf] at hall;rw[hall,if_neg hf] at hφ;refine⟨h,fun c o hc=>?_,hφ⟩;rw[bf _ (fun e=>by rw[e,I.nrb] at hc;cases hc)];exact I.kept c o hc
       have hpt:(one s j).f=0->pl s (one s j).e=(L,Co+((one s j).e:Int) - j):=fun hf=>by rw[aah hjlt hf,hLc]
       have hH1:∀ v,(hh.set rb' ⟨[.string (B s),.int .i64 j,.int .i64 L,.int .i64 Co],v⟩) rb'=some ⟨rc s j L Co,v⟩:=fun v=>by rw[ay];rfl
       have e1:O0 (bt s j)=decide (jb (bt s j)=1):=rfl;have e2:Jc (bt s j)=decide (jb (bt s j)=2):=rfl;have e3:oG (bt s j)=decide (jb (bt s j)=3):=rfl;have hk5:O0 (bt s j)=true\/(O0 (bt s j)=false/\Jc (bt s j)=true)\/(O0 (bt s j)=false/\Jc (bt s j)=false/\oG (bt s j)=true)\/(O0 (bt s j)=false/\Jc (bt s j)=false/\oG (bt s j)=false/\bt s j=34)\/(O0 (bt s j)=false/\Jc (bt s j)=false/\oG (bt s j)=false/\bt s j≠34):=by
        cases O0 (bt s j)<;>cases Jc (bt s j)<;>cases oG (bt s j)<;>simp<;>omega
       simp only[ae,ak];simp[go_sem,hz];rcases hk5 with h1 | ⟨h1,h1'⟩ | ⟨h1,h1',h1''⟩ | ⟨h1,h1',h1'',h34⟩ | ⟨h1,h1',h1'',h34⟩
       . iterate 7 (try simp only[ae];try simp[go_sem,s2,iV,hjz,h1])
         have hin:inB (bt s j)=true:=by
          rw[inB,decide_eq_true_eq];simp only[e1,decide_eq_true_eq] at h1;omega
         have hone:one s j=⟨0,kN (bt s j) (sub s j (j+rn inB s j)),sub s j (j+rn inB s j),0,j+rn inB s j⟩:=by
          unfold one;rw[if_pos (by simp only[e1,decide_eq_true_eq] at h1;omega)]
         have hf:(one s j).f=0:=by rw[hone]
         rw[s4];refine⟨rb',0,L,Co,0,[],s,j,L,Co,⟨RD,by decide⟩,rfl,hH1 RD,by omega,hjz,by omega,by omega,by omega,by rw[Int.toNat_natCast];exact hin,?_⟩;rw[Int.toNat_natCast];refine⟨_,_,_,_,_,rfl,?_⟩;rw[ah,if_pos (by rfl),ae,eY];exact um I (by omega) ei em hj hjlt hf (by rw[hone];simp) (by rw[hpt hf]) (by rw[hpt hf,hone];simp;omega) hM (by rw[hone,hLc];rfl)
       . iterate 7 (try simp only[ae];try simp[go_sem,s2,s3,iV,fV,hjz,h1,h1'])
         have hin:inB (bt s j)=true:=by
          rw[inB,decide_eq_true_eq];simp only[e1,e2,decide_eq_true_eq] at h1 h1';omega
         have hone:one s j=⟨0,kN (bt s j) (sub s j (j+rn inB s j)),sub s j (j+rn inB s j),0,j+rn inB s j⟩:=by
          unfold one;rw[if_pos (by simp only[e1,e2,decide_eq_true_eq] at h1 h1';omega)]
         have hf:(one s j).f=0:=by rw[hone]
         rw[s4];refine⟨rb',0,L,Co,0,[],s,j,L,Co,⟨RD,by decide⟩,rfl,hH1 RD,by omega,hjz,by omega,by omega,by omega,by rw[Int.toNat_natCast];exact hin,?_⟩;rw[Int.toNat_natCast];refine⟨_,_,_,_,_,rfl,?_⟩;rw[ah,if_pos (by rfl),ae,eY];exact um I (by omega) ei em hj hjlt hf (by rw[hone];simp) (by rw[hpt hf]) (by rw[hpt hf,hone];simp;omega) hM (by rw[hone,hLc];rfl)
       . iterate 9 (try simp only[ae];try simp[go_sem,s2,s3,s5,iV,fV,gX,hjz,h1,h1',h1''])
         have hk:¬ (jb (bt s j)=1\/jb (bt s j)=2):=by
          simp only[e1,e2,decide_eq_false_iff_not] at h1 h1';omega
         have hone:one s j=⟨(nm s j).1,(nm s j).2.1,[],(nm s j).2.2.1,(nm s j).2.2.2⟩:=by
          unfold one;rw[if_neg hk,if_pos (by simpa[e3] using h1'')]
         rw[s6];refine⟨rb',0,L,Co,0,[],s,j,L,Co,⟨RD,by decide⟩,rfl,hH1 RD,by omega,hjz,by omega,by omega,by omega,by rw[Int.toNat_natCast];exact h1'',?_⟩;rw[Int.toNat_natCast];by_cases hn:(nm s j).1=0
         . rw[if_pos hn];have hf:(one s j).f=0:=by rw[hone];exact hn
           refine⟨_,_,_,_,_,_,rfl,?_⟩;rw[ah,if_pos (by rfl),ae,eY];exact um I (by omega) ei em hj hjlt hf (by rw[hone]) (by rw[hpt hf]) (by rw[hpt hf,hone]) hM (by rw[hone,hLc];rfl)
         . rw[if_neg hn];refine⟨_,_,_,_,_,_,rfl,?_⟩;rw[ah,if_neg (by simp[go_sem];exact hn)]
           iterate 9 (try simp only[ae];try simp[go_sem,ep])
           have hb:=hbad (by rw[hone];exact hn);rw[hone] at hb;simpa[bM.val] using hb
       . iterate 10 (try simp only[ae];try simp[go_sem,s2,s3,s5,iV,fV,gX,hjz,h34,abq,aaR,aaP])
         have hk:¬ (jb (bt s j)=1\/jb (bt s j)=2):=by
          simp only[e1,e2,decide_eq_false_iff_not] at h1 h1';omega
         have hk3:¬ jb (bt s j)=3:=by simpa[e3] using h1''
         rw[s7];refine hl rb' 0 L Co 0 [] s j L Co ⟨RD,by decide⟩ _ _ hg (hH1 RD) hjlt h34 (by omega) (by omega) (by omega) ?_;cases hq:Ag (s.drop j) with
         | some r=>
           obtain⟨x,m1⟩:=r;have hone:one s j=⟨0,5,x,0,j+m1⟩:=by
            unfold one;rw[if_neg hk,if_neg hk3,if_pos h34,hq]
           have hf:(one s j).f=0:=by rw[hone]
           refine⟨_,_,_,_,_,_,rfl,?_⟩;rw[ah,if_pos (by rfl),ae,eY];exact um I (by omega) ei em hj hjlt hf (by rw[hone]) (by rw[hpt hf]) (by rw[hpt hf,hone];simp;omega) hM (by rw[hone,hLc];rfl)
         | none=>
           have hone:one s j=⟨4,0,[],0,0⟩:=by
            unfold one;rw[if_neg hk,if_neg hk3,if_pos h34,hq]
           refine⟨_,_,_,_,_,_,rfl,?_⟩;rw[ah,if_neg (by simp[go_sem])]
           iterate 9 (try simp only[ae];try simp[go_sem,ep])
           have hb:=hbad (by rw[hone];simp);rw[hone] at hb;simpa[bM.val] using hb
       . iterate 10 (try simp only[ae];try simp[go_sem,s2,s3,s5,iV,fV,gX,hjz,h1,h1',h1'',h34])
         have hk:¬ (jb (bt s j)=1\/jb (bt s j)=2):=by
          simp only[e1,e2,decide_eq_false_iff_not] at h1 h1';omega
         have hk3:¬ jb (bt s j)=3:=by simpa[e3] using h1''
         rw[s8];refine⟨rb',0,L,Co,0,[],s,j,L,Co,⟨RD,by decide⟩,rfl,hH1 RD,by omega,by omega,by omega,by omega,by omega,?_⟩;rw[Int.toNat_natCast];by_cases hn:sg (s.drop j)=[]
         . rw[if_pos hn];have hone:one s j=⟨4,0,[],0,0⟩:=by
            unfold one;rw[if_neg hk,if_neg hk3,if_neg h34,if_pos hn]
           refine⟨_,_,_,_,_,_,rfl,?_⟩;rw[ah,if_neg (by simp[go_sem])]
           iterate 9 (try simp only[ae];try simp[go_sem,ep])
           have hb:=hbad (by rw[hone];simp);rw[hone] at hb;simpa[bM.val] using hb
         . rw[if_neg hn];have hone:one s j=⟨0,7,sg (s.drop j),0,j+(sg (s.drop j)).length⟩:=by
            unfold one;rw[if_neg hk,if_neg hk3,if_neg h34,if_neg hn]
           have hf:(one s j).f=0:=by rw[hone]
           refine⟨_,_,_,_,_,_,rfl,?_⟩;rw[ah,if_pos (by rfl),ae,eY];exact um I (by omega) ei em hj hjlt hf (by rw[hone];simp) (by rw[hpt hf]) (by rw[hpt hf,hone];simp;omega) hM (by rw[hone,hLc];rfl)
def Zj:Ct Tryz.prog where
 f:=121
 spec:=fun args h φ=>∃ s,args=[.string (B s)]/\s.length<=100000/\
  (match Ag s with
   | some (_,e)=>φ (.tuple #[.int .i64 (e:Nat),.bool true]) h
   | none=>∀ n,φ (.tuple #[.int .i64 n,.bool false]) h)
 ok:=by
  rintro args h φ w ⟨s,rfl,hlen,hφ⟩ hH;refine aZ Tryz.func121 UG YA [Dy] φ bJ aV ⟨[],[],[s],[],[],[],h,cu⟩ ⟨rfl,rfl,rfl,rfl,rfl,rfl⟩ af ?_ w hH rfl;generalize hE:(⟨aG _,_,_,_⟩:Env)=E;have s1:E.spec 143=Dy.spec:=by rw[<- hE];rfl
  have ep:E.post=φ:=by rw[<- hE]
  clear hE;unfold NI;rw[ax,if_pos (by rfl),s1];refine⟨s,rfl,hlen,?_⟩;cases hq:Ag s with
  | some r=>
    obtain⟨t,e⟩:=r;rw[hq] at hφ;simp[go_sem];simp only[ae];simp[go_sem,ep];exact hφ
  | none=>
    rw[hq] at hφ;simp[go_sem];intro t n;simp only[ae];simp[go_sem,ep];exact hφ n
def AO:Ct Tryz.prog where
 f:=122
 spec:=fun args h φ=>∃ s,args=[.string (B s)]/\s.length<=100000/\∃ t,Ag s=some (t,s.length)/\φ (.tuple #[.string (B t),.int .i64 0]) h
 ok:=by
  rintro args h φ w ⟨s,rfl,hlen,t,hq,hφ⟩ hH;refine aZ Tryz.func122 UI YC [Dy] φ bJ aV ⟨[],[],[s],[],[],[],h,cu⟩ ⟨rfl,rfl,rfl,rfl,rfl,rfl⟩ af ?_ w hH rfl;generalize hE:(⟨aG _,_,_,_⟩:Env)=E;have s1:E.spec 143=Dy.spec:=by rw[<- hE];rfl
  have ep:E.post=φ:=by rw[<- hE]
  clear hE;unfold NJ;rw[ax,if_pos (by rfl),s1];refine⟨s,rfl,hlen,?_⟩;rw[hq];simp[go_sem]
  iterate 2 (try simp only[ae];try simp[go_sem,ep])
  exact hφ
set_option maxHeartbeats 2000000 in
def PL:Ct Tryz.prog where
 f:=78
 spec:=fun args h φ=>∃ b k l c n x s a L Co,∃ T:Rw,args=[.pointer (some ⟨b,0,none⟩),gI k l c n x]/\h b=some ⟨rc s (a:Nat) L Co,T⟩/\a<s.length/\s.length<=100000/\0<=Co/\Co<=500000/\
  (match Ag (s.drop a) with
   | some (t,m)=>φ (.tuple #[gI 5 l c n t,.int .i64 0]) (Hp.set h b ⟨rc s (a+m:Nat) L (Co+m),T⟩)
   | none=>φ (.tuple #[gI 0 0 0 0 [],.int .i64 4]) h)
 ok:=by
  rintro args h φ w ⟨b,k,l,c,n,x,s,a,L,Co,T,rfl,hb,ha,hlen,c0,c1,hφ⟩ hH;obtain⟨h,rfl⟩:∃ h',h=Hp.set h' b ⟨rc s a L Co,T⟩:=⟨h,set_self hb⟩;simp only[eY] at hφ;refine aZ Tryz.func78 Hr Le [Zj,AO,gK] φ bJ aV ⟨[k,l,c,n],[],[x],[],[],[some (b,0)],h.set b ⟨rc s a L Co,T⟩,cu⟩ ⟨rfl,rfl,rfl,rfl,rfl,rfl⟩ af ?_ w hH rfl;generalize hE:(⟨aG _,_,_,_⟩:Env)=E;have s1:E.spec 121=Zj.spec:=by rw[<- hE];rfl
  have s2:E.spec 122=AO.spec:=by rw[<- hE];rfl
  have s3:E.spec 114=gK.spec:=by rw[<- hE];rfl
  have ep:E.post=φ:=by rw[<- hE]
  clear hE;have haz:(a:Int)<=s.length:=by omega
  have htl:List.take s.length s=s:=List.take_length;have hdl:(s.drop a).length=s.length - a:=List.length_drop;rw[<- ae];unfold yw
  iterate 9 (try simp only[ae];try simp[go_sem,rc,haz,htl])
  rw[s1];refine⟨s.drop a,rfl,by omega,?_⟩;cases hq:Ag (s.drop a) with
  | none=>
    rw[hq] at hφ;refine fun n=>⟨by simp[fG],by simp[fG],n,.inl ⟨rfl,?_⟩⟩
    simp only[ae];simp[go_sem,ep];exact hφ
  | some r=>
    obtain⟨t,m⟩:=r;rw[hq] at hφ;obtain⟨m1,m2,_⟩:=tZ hq;rw[hdl] at m2;refine⟨by simp[fG],by simp[fG],m,.inr ⟨rfl,?_⟩⟩;have e1:((a:Int)+m).toNat=a+m:=by omega
    have hdt:List.drop a (List.take (a+m) s)=(s.drop a).take m:=by
     rw[List.drop_take];congr 1;omega
    iterate 12 (try simp only[ae];try simp[go_sem,e1])
    refine⟨by omega,by omega,by omega,by omega,by omega,?_⟩;rw[s2,hdt];have hl2:((s.drop a).take m).length=m:=by rw[List.length_take,hdl];omega
    refine⟨(s.drop a).take m,rfl,by omega,t,by rw[hl2];exact Wp hq,?_⟩;refine⟨by simp[fG],by simp[fG],0,t,rfl,?_⟩;rw[ai,s3];refine⟨b,s,a,L,Co,T,m,rfl,ay _ _ _,by omega,by omega,by omega,by omega,by omega,by omega,?_⟩;rw[eY];simp[go_sem];simp only[ae];simp[go_sem,ep];simpa[rc,gI] using hφ
def FQ:Ct Tryz.prog where
 f:=43
 spec:=fun args h φ=>∃ s,args=[.string (B s)]/\
  (if 65536<s.length then φ (.tuple #[.slice none 0 0,.agg #[.int .i64 3,.int .i64 0,.int .i64 0]]) h
   else if (cZ s).1.1=0 then ∀ sl k,bY h k->dC k sl (oM (cZ s).2) TK 5->sl.n=(cZ s).2.length->φ (.tuple #[sl.val,.agg #[.int .i64 0,.int .i64 0,.int .i64 0]]) k
   else φ (.tuple #[.slice none 0 0,.agg #[.int .i64 (cZ s).1.1,.int .i64 (cZ s).1.2.1,.int .i64 (cZ s).1.2.2]]) h)
 ok:=by
  rintro args h φ w ⟨s,rfl,hφ⟩ hH;refine Su PL rfl (fun _=>True) ?_ s trivial h φ w hφ hH;intro b k l c n x s a L Co T h φ _ hb ha _ h1 h2 h3 h4;exact⟨b,k,l,c,n,x,s,a,L,Co,T,rfl,hb,ha,h1,h2,h3,h4⟩
end
section
attribute [local go_sem] aY aX aA ak ax aF aT aJ au says_again
def Gw:Fm:=(.C 43 [.S 0] (.tup [.L 0,(.agg [.J 0,.J 1,.J 2])]) ⟨3,0,0,0,1,0⟩
 (.ite (.not (.eqI (.x 0) (.c 0)))
 (.ret (.tup [(.one (.sl .nil)),(.agg [.J 0,.J 1,.J 2])]))
 (.new [(.sl (.x 0)),(.i .i64 (.c 0)),(.i .i64 (.c 0)),(.i .i64 (.c 0)),(.i .i64 (.c 0)),(.i .i64 (.c 0))] 70
 (.C 22 [.P 0] (.p (.P 1)) ⟨0,0,0,0,0,1⟩
 (.C 44 [.P 0] (.p (.K 3 4 5 6 1)) ⟨4,0,1,0,0,0⟩
 (.ite (.not (.eqI (.x 3) (.c 8)))
 (.V 45 [.P 0,(.I (.c 5))]
 (.C 46 [.P 0] (.p (.B 0)) ⟨0,1,0,0,0,0⟩
 (.ite (.x 0)
 (.O (.pt 0 3) 3 [.J 7,.J 8,.J 9] ⟨3,0,0,0,0,0⟩
 (.Z 0
 (.Z 0
 (.ret (.tup [(.one (.sl .nil)),(.agg [.J 7,.J 8,.J 9])])))))
 (.C 47 [.P 1,(.one (.sl .nil))] (.p (.L 1)) ⟨0,0,0,0,1,0⟩
 (.ret (.tup [.L 1,(.agg [(.i .i64 (.c 0)),(.i .i64 (.c 0)),(.i .i64 (.c 0))])]))))))
 (.C 46 [.P 0] (.p (.B 0)) ⟨0,1,0,0,0,0⟩
 (.ite (.x 0)
 (.O (.pt 0 3) 3 [.J 7,.J 8,.J 9] ⟨3,0,0,0,0,0⟩
 (.Z 0
 (.Z 0
 (.ret (.tup [(.one (.sl .nil)),(.agg [.J 7,.J 8,.J 9])])))))
 (.C 47 [.P 1,(.one (.sl .nil))] (.p (.L 1)) ⟨0,0,0,0,1,0⟩
 (.ret (.tup [.L 1,(.agg [(.i .i64 (.c 0)),(.i .i64 (.c 0)),(.i .i64 (.c 0))])])))))))))))
theorem Ql:jK ⟨true,[21]⟩ Tryz.prog (fun l=>([]:List bG).getD l ⟨[],[],[]⟩) Tryz.f21 [.S 0,.one (.c (.fn 22))] ⟨0,0,1,0,0,0⟩=Gw:=by kernel_rfl
def Gj:Fm:=(.C 21 [.S 0,(.one (.c (.fn 22)))] (.tup [.L 0,(.agg [.J 0,.J 1,.J 2])]) ⟨3,0,0,0,1,0⟩
 (.ret (.tup [.L 0,(.agg [.J 0,.J 1,.J 2])])))
theorem P9:aU ⟨true,[]⟩ Tryz.prog (fun l=>([]:List bG).getD l ⟨[],[],[]⟩) Tryz.f8=Gj:=by kernel_rfl
theorem Vz:az Tryz.prog .zero Tryz.f8.params.toList=some ([.S 0],⟨0,0,1,0,0,0⟩):=by kernel_rfl
def PR (f:Int×Int×Int):Value:=.agg #[.int .i64 f.1,.int .i64 f.2.1,.int .i64 f.2.2]
def zg (prog:Bool) (s:List UInt8) (h:Hp) (φ:Value->Hp->Prop):Prop:=
 if 65536<s.length then φ (.tuple #[.slice none 0 0,PR (3,0,0)]) h
 else ∀ f t,jl prog s=some (f,t)->(if f.1=0 then ∀ sl k,bY h k->dC k sl (rJ t.nR) ND 6->sl.n=t.n->φ (.tuple #[sl.val,PR (0,0,0)]) k else φ (.tuple #[.slice none 0 0,PR f]) h)
theorem Yi {h:Hp} {s:bM} {L:List Tok} (ho:dC h s (oM L) TK 5) (hn:s.n=L.length) (hL:0<L.length):Tks h s L:=by
 rcases ho with ⟨h1,h2⟩ | ⟨b,o,h1,h2,h3,h4,h5,h6,h7⟩
 . have:=congrArg List.length h2;rw[xy] at this;simp at this;omega
 . obtain⟨cs,ty⟩:=o;simp only at h3 h4 h7;subst h3;refine⟨b,s.c,cs.drop (s.n*5),?_,?_⟩
   . cases s;simp only at h1 hn ⊢;rw[h1,hn]
   . rw[h2];congr 2;rw[h7];exact (List.take_append_drop _ _).symm
set_option maxHeartbeats 4000000 in
def TQ:Ct Tryz.prog where
 f:=21
 spec:=fun args h φ=>∃ s,args=[.string (B s),.func (.func 22) #[] #[]]/\zg false s h φ
 ok:=by
  rintro args h φ w ⟨s,rfl,hφ⟩ hH;refine bQ (oU Tryz.func21 Ql [FQ,gG,iU,jP,MJ (Kz 1000000),lZ (F5 (kF (cZ s).2))] (fun v k=>∃ k',bY k' k/\φ v k') bJ aV ⟨[],[],[s],[],[],[],h,cu⟩ ⟨rfl,rfl,rfl,rfl,rfl,rfl⟩ af ?_ w hH rfl);generalize hE:(⟨aG _,_,_,_⟩:Env)=E;have sas:E.spec 43=FQ.spec:=by rw[<- hE];rfl
  have sa6:E.spec 44=gG.spec:=by rw[<- hE];rfl
  have sab:E.spec 45=iU.spec:=by rw[<- hE];rfl
  have sa7:E.spec 46=jP.spec:=by rw[<- hE];rfl
  have sar:E.spec 47=(MJ (Kz 1000000)).spec:=by rw[<- hE];rfl
  have sat:E.spec 22=(lZ (F5 (kF (cZ s).2))).spec:=by rw[<- hE];rfl
  have ep:E.post=fun v k=>∃ k',bY k' k/\φ v k':=by rw[<- hE]
  clear hE;unfold Gw;unfold zg at hφ;rw[ax,if_pos (by rfl),sas];refine⟨s,rfl,?_⟩;by_cases h6:65536<s.length
  . rw[if_pos h6] at hφ⊢;simp[go_sem];rw[ah,if_pos (by simp[go_sem])];simp only[ae];simp[go_sem,ep];exact⟨h,fun _ _ h=>h,hφ⟩
  rw[if_neg h6] at hφ⊢;obtain⟨⟨f,t⟩,hft⟩:=KX false s;have hφ:=hφ f t hft;by_cases hl:(cZ s).1.1=0;rotate_left
  . rw[if_neg hl];have e:=hft;unfold jl at e;rw[if_pos hl] at e;cases e;rw[if_neg hl] at hφ;simp[go_sem];rw[ah,if_pos (by simp[go_sem];exact hl)];simp only[ae];simp[go_sem,ep];exact⟨h,fun _ _ h=>h,hφ⟩
  rw[if_pos hl];intro sl k hk hown hsn;have T:=EE hl;generalize hLe:(cZ s).2=L at *;have htk:=Yi hown hsn T.lw.pos;simp[go_sem];rw[ah,if_neg (by simp[go_sem])];rw[ae,dN];intro b hb;have hb':k b=none:=hb;simp[go_sem];have hlen:=T.len;have W:PW (k.set b ⟨kY sl p0,PT⟩) b sl L p0:=⟨ay _ _ _,htk.keep fun c o _ hc=>by rw[bf _ (fun e=>by rw[e,hb'] at hc;cases hc)];exact hc,T.lw,by omega,T.lw.pos,by decide,by decide⟩;have hft':(Eo L (kF L) p0).map (fun r=>((PN L r.2).f,r.1))=some (f,t):=by
   have e:=hft;unfold jl at e;rw[if_neg (by rw[hl];decide),hLe] at e;exact e
  simp only[Option.map_eq_some_iff] at hft';obtain⟨⟨t',q⟩,h1,h2⟩:=hft';cases h2;dsimp only at hφ;have Ad:fC L p0 q 0:=by
   exact (lg T.lw _).1 _ _ _ _ h1
  rw[ai,sat];refine⟨kF L,Nat.le_refl _,b,sl,L,p0,t',q,rfl,W,h1,by unfold kF;simp[p0];omega,fun v k2 g A hI=>?_⟩;simp[go_sem,df];refine⟨some (v,0),rfl,?_⟩;have keep:∀ k3,Zd b (k.set b ⟨kY sl p0,PT⟩) k3->bY h k3:=fun k3 h3 c o hc=>by
   have hcb:c≠b:=fun e=>by have:=hk c o hc;rw[e,hb'] at this;cases this
   exact h3 c o hcb (by rw[bf _ hcb];exact hk c o hc)
  rw[ai,sa6];refine⟨b,sl,L,q,rfl,A.pw,?_⟩;simp[go_sem,dZ,gI];have fin:∀ (q':PS) (k3:Hp) (is':List Int) (ss':List (List UInt8)) (A3:At (k.set b ⟨kY sl p0,PT⟩) b sl L q' k3 g),q'=PN L q -> 
   Then E (.C 46 [.P 0] (.p (.B 0)) ⟨0,1,0,0,0,0⟩
 (.ite (.x 0)
 (.O (.pt 0 3) 3 [.J 7,.J 8,.J 9] ⟨3,0,0,0,0,0⟩
 (.Z 0
 (.Z 0
 (.ret (.tup [(.one (.sl .nil)),(.agg [.J 7,.J 8,.J 9])])))))
 (.C 47 [.P 1,(.one (.sl .nil))] (.p (.L 1)) ⟨0,0,0,0,1,0⟩
 (.ret (.tup [.L 1,(.agg [(.i .i64 (.c 0)),(.i .i64 (.c 0)),(.i .i64 (.c 0))])]))))) ⟨[0,0,0,(tk L q).k,(tk L q).l,(tk L q).c,(tk L q).n],[],[s,(tk L q).x],[],[sl],[some (b,0),some (v,0)],k3,cu⟩:=by
   intro q' k3 is' ss' A3 hq';rw[<- hq'] at hφ hft;rw[ai,sa7];refine⟨b,sl,L,q',rfl,A3.pw,?_⟩;simp[go_sem];cases c0:q'.bad with
   | true=>
     have hf:¬ q'.f.1=0:=fun e=>by unfold PS.bad at c0;rw[e] at c0;cases c0
     rw[if_neg hf] at hφ;rw[ah,if_pos (by simp[go_sem])];have hr3:hread k3 (some (b,3)) 3=some [.int .i64 q'.f.1,.int .i64 q'.f.2.1,.int .i64 q'.f.2.2]:=by rw[bI A3.pw.blk];rfl
     refine rL ⟨[q'.f.1,q'.f.2.1,q'.f.2.2],[],[],[],[],[]⟩ rfl af hr3 ?_;rw[ag];refine⟨by simp[go_sem],?_⟩;rw[ag];refine⟨by simp[go_sem],?_⟩;simp only[ae];simp[go_sem,ep];exact⟨h,keep k3 A3.kp,hφ⟩
   | false=>
     have hf:q'.f.1=0:=by unfold PS.bad at c0;simpa using c0
     rw[if_pos hf] at hφ;rw[ah,if_neg (by simp[go_sem])];obtain⟨_,htn,_⟩:=QT hft hf;dsimp only at htn;rw[ai,sar];refine⟨v,t',⟨none,0,0⟩,[],rfl,by omega,It.le A3.le _ _ hI,.inl ⟨rfl,rfl⟩,rfl,by simp;omega,fun s' k4 r1 r2 r3 r4=>?_⟩;simp[go_sem];simp only[ae];simp[go_sem,ep];refine⟨k4,fun _ _ h=>h,hφ s' k4 (fun c o hc=>r3 c o (fun _ hz=>(by cases hz)) (keep k3 A3.kp c o hc)) (by simpa using r1) (by simpa using r2)⟩
  by_cases c8:(tk L q).k=8
  . rw[ah,if_neg (by simp[go_sem,c8])];exact fin q k2 [] [] A (by unfold PN;rw[if_pos c8])
  . rw[ah,if_pos (by simp[go_sem,c8])];rw[ai,sab];refine⟨b,sl,L,q,5,rfl,A.pw,?_⟩;simp[go_sem];exact fin (dG L 5 q) _ [] [] (A.fail 5) (by unfold PN;rw[if_neg c8])
def ML:Ct Tryz.prog where
 f:=8
 spec:=fun args h φ=>∃ s,args=[.string (B s)]/\zg false s h φ
 ok:=by
  rintro args h φ w ⟨s,rfl,hφ⟩ hH;refine aZ Tryz.func8 P9 Vz [TQ] φ (bJ) (aV) ⟨[],[],[s],[],[],[],h,cu⟩ ⟨rfl,rfl,rfl,rfl,rfl,rfl⟩ af ?_ w hH rfl;generalize hE:(⟨aG _,_,_,_⟩:Env)=E;have sau:E.spec 21=(TQ).spec:=by rw[<- hE];rfl
  have ep:E.post=φ:=by rw[<- hE]
  clear hE;unfold Gj;rw[ax,if_pos (by rfl),sau];refine⟨s,rfl,?_⟩;unfold zg at hφ⊢;split
  . rename_i h6;rw[if_pos h6] at hφ;simp[go_sem,PR];simp only[ae];simp[go_sem,ep];exact hφ
  . rename_i h6;rw[if_neg h6] at hφ;intro f t hft;have hφ:=hφ f t hft;split
    . rename_i hf;rw[if_pos hf] at hφ;intro sl k hk ho hn;simp[go_sem,PR];simp only[ae];simp[go_sem,ep];exact hφ sl k hk ho hn
    . rename_i hf;rw[if_neg hf] at hφ;simp[go_sem,PR];simp only[ae];simp[go_sem,ep];exact hφ
end
def wC.g (x:wC):Ng:=⟨x.k,x.l,x.c,x.z,x.n,x.x⟩
def Tr.gs (t:Tr):List Ng:=t.nR.map wC.g
def Tr.mP (ts:List Tr):List Ng:=(Tr.fP ts).map wC.g
theorem XR (l:List wC):lI (l.map wC.g)=rJ l:=by
 induction l with
 | nil=>rfl
 | cons a l ih=>rw[List.map_cons,yF,ih,rJ,rJ,List.flatMap_cons];rfl
def places:Int->List Tr->List Int
 | _,[]=>[]
 | p,t::ts=>p::places (p+t.n) ts
theorem dB (t:Tr) (ts:List Tr):Tr.mP (t::ts)=t.gs++Tr.mP ts:=by simp[Tr.mP,Tr.gs,nS]
theorem iD (t:Tr):t.gs.length=t.n:=by simp[Tr.gs,Tr.n]
theorem jy (ts:List Tr):(Tr.mP ts).length=Tr.ns ts:=by simp[Tr.mP,Tr.ns]
theorem nD (t:Tr):t.n=t.sz+1:=Tr.Ya t
theorem jq (ts:List Tr):Tr.szs ts=Tr.ns ts:=(Tr.Ef ts).symm
theorem jc (k l c n:Int) (x:List UInt8) (ks:List Tr):(Tr.nd k l c n x ks).gs=⟨k,l,c,Tr.ns ks,n,x⟩::Tr.mP ks:=by
 simp[Tr.gs,Tr.mP,Tr.nR,wC.g,jq]
theorem BN:∀ (ks:List Tr) (pre post:List Ng) (fuel:Nat),ks.length<=fuel->iq (pre++Tr.mP ks++post) ((pre.length:Int) - 1+Tr.ns ks) fuel pre.length=some (places pre.length ks)
 | [],pre,post,0,_=>by rw[iq,if_neg (by rw[bF];omega)];rfl
 | [],pre,post,fuel+1,_=>by rw[iq,if_neg (by rw[bF];omega)];rfl
 | t::ts,pre,post,fuel+1,hf=>by
   obtain⟨k,l,c,n,x,cs⟩:=t;have hn:(Tr.nd k l c n x cs).n=Tr.ns cs+1:=by rw[nD,Tr.sz,jq]
   have hget:(pre++Tr.mP (.nd k l c n x cs::ts)++post).getD ((pre.length:Int)).toNat ⟨0,0,0,0,0,[]⟩=⟨k,l,c,Tr.ns cs,n,x⟩:=by
    rw[dB,jc];simp[List.getD_eq_getElem?_getD]
   have hlen:(pre++Tr.mP (.nd k l c n x cs::ts)++post).length=pre.length+(Tr.ns cs+1+Tr.ns ts)+post.length:=by
    rw[List.length_append,List.length_append,jy,aI,hn]
   have e:pre++Tr.mP (.nd k l c n x cs::ts)++post=(pre++(Tr.nd k l c n x cs).gs)++Tr.mP ts++post:=by rw[dB];simp only[List.append_assoc]
   have ih:=BN ts (pre++(Tr.nd k l c n x cs).gs) post fuel (by simpa using hf);rw[iq,if_pos (by rw[aI,hn];omega),hget];simp only;rw[if_pos (by rw[hlen];omega),e];have h1:((pre++(Tr.nd k l c n x cs).gs).length:Int)=pre.length+(1+(Tr.ns cs:Int)):=by rw[List.length_append,iD,hn];omega
   rw[h1] at ih;rw[show (pre.length:Int) - 1+Tr.ns (.nd k l c n x cs::ts)=pre.length+(1+(Tr.ns cs:Int)) - 1+Tr.ns ts by rw[aI,hn];omega,ih,places,hn];simp only[Option.map_some];congr 3;omega
section
attribute [local go_sem] aY aX aA ak ax aF aT aJ au says_again
def Ha:Fm:=(.ite (.eqI (.x 0) (.c 15))
 (.ret (.tup [.W [124,124],(.I (.c 1))]))
 (.ite (.eqI (.x 0) (.c 14))
 (.ret (.tup [.W [38,38],(.I (.c 2))]))
 (.ite (.eqI (.x 0) (.c 6))
 (.ret (.tup [.W [61,61],(.I (.c 3))]))
 (.ite (.eqI (.x 0) (.c 7))
 (.ret (.tup [.W [33,61],(.I (.c 3))]))
 (.ite (.eqI (.x 0) (.c 8))
 (.ret (.tup [.W [60],(.I (.c 4))]))
 (.ite (.eqI (.x 0) (.c 9))
 (.ret (.tup [.W [60,61],(.I (.c 4))]))
 (.ite (.eqI (.x 0) (.c 10))
 (.ret (.tup [.W [62],(.I (.c 4))]))
 (.ite (.eqI (.x 0) (.c 11))
 (.ret (.tup [.W [62,61],(.I (.c 4))]))
 (.ite (.eqI (.x 0) (.c 1))
 (.ret (.tup [.W [43],(.I (.c 5))]))
 (.ite (.eqI (.x 0) (.c 2))
 (.ret (.tup [.W [45],(.I (.c 5))]))
 (.ite (.eqI (.x 0) (.c 3))
 (.ret (.tup [.W [42],(.I (.c 6))]))
 (.ite (.eqI (.x 0) (.c 4))
 (.ret (.tup [.W [47],(.I (.c 6))]))
 (.ret (.tup [.W [37],(.I (.c 6))]))))))))))))))
theorem QK:aU ⟨true,[]⟩ Tryz.prog (fun l=>([]:List bG).getD l ⟨[],[],[]⟩) Tryz.f96=Ha:=by kernel_rfl
theorem V8:az Tryz.prog .zero Tryz.f96.params.toList=some ([.J 0],⟨1,0,0,0,0,0⟩):=by kernel_rfl
def BG:Fm:=(.ite (.eqI (.x 0) (.c 31))
 (.C 96 [.J 4] (.tup [.S 1,.J 5]) ⟨1,0,1,0,0,0⟩
 (.ret (.p (.J 5))))
 (.ite (.eqI (.x 0) (.c 30))
 (.ret (.p (.I (.c 7))))
 (.ret (.p (.I (.c 8))))))
theorem J4:aU ⟨true,[]⟩ Tryz.prog (fun l=>([]:List bG).getD l ⟨[],[],[]⟩) Tryz.f95=BG:=by kernel_rfl
theorem Ry:az Tryz.prog .zero Tryz.f95.params.toList=some ([(.agg [.U 0,.J 1,.J 2,.J 3,.J 4,(.s (.x 0))])],⟨5,0,1,0,0,0⟩):=by kernel_rfl
def wV:Ct Tryz.prog where
 f:=96
 spec:=fun args h φ=>∃ n,args=[.int .i64 n]/\φ (.tuple #[.string (B (oJ n).1),.int .i64 ((oJ n).2:Nat)]) h
 ok:=by
  rintro args h φ w ⟨n,rfl,hφ⟩ hH;refine aZ Tryz.func96 QK V8 [] φ (bJ) (aV) ⟨[n],[],[],[],[],[],h,cu⟩ ⟨rfl,rfl,rfl,rfl,rfl,rfl⟩ af ?_ w hH rfl;generalize hE:(⟨aG _,_,_,_⟩:Env)=E;have ep:E.post=φ:=by rw[<- hE]
  clear hE;unfold Ha;unfold oJ at hφ;rw[<- ae];by_cases c15:n=15
  . rw[if_pos c15] at hφ;rw[ah,if_pos (by simpa[go_sem] using c15),ae,au,ep];exact hφ
  rw[if_neg c15] at hφ;rw[ah,if_neg (by simpa[go_sem] using c15)];by_cases c14:n=14
  . rw[if_pos c14] at hφ;rw[ah,if_pos (by simpa[go_sem] using c14),ae,au,ep];exact hφ
  rw[if_neg c14] at hφ;rw[ah,if_neg (by simpa[go_sem] using c14)];by_cases c6:n=6
  . rw[if_pos c6] at hφ;rw[ah,if_pos (by simpa[go_sem] using c6),ae,au,ep];exact hφ
  rw[if_neg c6] at hφ;rw[ah,if_neg (by simpa[go_sem] using c6)];by_cases c7:n=7
  . rw[if_pos c7] at hφ;rw[ah,if_pos (by simpa[go_sem] using c7),ae,au,ep];exact hφ
  rw[if_neg c7] at hφ;rw[ah,if_neg (by simpa[go_sem] using c7)];by_cases c8:n=8
  . rw[if_pos c8] at hφ;rw[ah,if_pos (by simpa[go_sem] using c8),ae,au,ep];exact hφ
  rw[if_neg c8] at hφ;rw[ah,if_neg (by simpa[go_sem] using c8)];by_cases c9:n=9
  . rw[if_pos c9] at hφ;rw[ah,if_pos (by simpa[go_sem] using c9),ae,au,ep];exact hφ
  rw[if_neg c9] at hφ;rw[ah,if_neg (by simpa[go_sem] using c9)];by_cases c10:n=10
  . rw[if_pos c10] at hφ;rw[ah,if_pos (by simpa[go_sem] using c10),ae,au,ep];exact hφ
  rw[if_neg c10] at hφ;rw[ah,if_neg (by simpa[go_sem] using c10)];by_cases c11:n=11
  . rw[if_pos c11] at hφ;rw[ah,if_pos (by simpa[go_sem] using c11),ae,au,ep];exact hφ
  rw[if_neg c11] at hφ;rw[ah,if_neg (by simpa[go_sem] using c11)];by_cases c1:n=1
  . rw[if_pos c1] at hφ;rw[ah,if_pos (by simpa[go_sem] using c1),ae,au,ep];exact hφ
  rw[if_neg c1] at hφ;rw[ah,if_neg (by simpa[go_sem] using c1)];by_cases c2:n=2
  . rw[if_pos c2] at hφ;rw[ah,if_pos (by simpa[go_sem] using c2),ae,au,ep];exact hφ
  rw[if_neg c2] at hφ;rw[ah,if_neg (by simpa[go_sem] using c2)];by_cases c3:n=3
  . rw[if_pos c3] at hφ;rw[ah,if_pos (by simpa[go_sem] using c3),ae,au,ep];exact hφ
  rw[if_neg c3] at hφ;rw[ah,if_neg (by simpa[go_sem] using c3)];by_cases c4:n=4
  . rw[if_pos c4] at hφ;rw[ah,if_pos (by simpa[go_sem] using c4),ae,au,ep];exact hφ
  rw[if_neg c4] at hφ;rw[ah,if_neg (by simpa[go_sem] using c4)];rw[aj,ep];exact hφ
theorem Pv (n:Int):(oJ n).2<=6:=by
 by_cases h:n=15\/n=14\/n=6\/n=7\/n=8\/n=9\/n=10\/n=11\/n=1\/n=2\/n=3\/n=4
 . rcases h with rfl | rfl | rfl | rfl | rfl | rfl | rfl | rfl | rfl | rfl | rfl | rfl<;>decide
 . simp only[not_or] at h;simp[oJ,h]
def Ng.lv (x:Ng):Nat:=if x.k=31 then (oJ x.n).2 else if x.k=30 then 7 else 8
def FU:Ct Tryz.prog where
 f:=95
 spec:=fun args h φ=>∃ x:Ng,args=[x.v]/\φ (.int .i64 (x.lv:Nat)) h
 ok:=by
  rintro args h φ w ⟨x,rfl,hφ⟩ hH;refine aZ Tryz.func95 J4 Ry [wV] φ (bJ) (aV) ⟨[x.k,x.l,x.c,x.z,x.n],[],[x.x],[],[],[],h,cu⟩ ⟨rfl,rfl,rfl,rfl,rfl,rfl⟩ af ?_ w hH rfl;generalize hE:(⟨aG _,_,_,_⟩:Env)=E;have sav:E.spec 96=(wV).spec:=by rw[<- hE];rfl
  have ep:E.post=φ:=by rw[<- hE]
  clear hE;unfold BG;unfold Ng.lv at hφ;by_cases c1:x.k=31
  . rw[if_pos c1] at hφ;rw[ak,if_pos (by simpa[go_sem] using c1),ae,ax,if_pos (by rfl),sav];refine⟨x.n,rfl,?_⟩;refine rR ⟨[((oJ x.n).2:Nat)],[],[(oJ x.n).1],[],[],[]⟩ rfl af rfl ?_;rw[aj,ep];exact hφ
  rw[if_neg c1] at hφ;rw[ak,if_neg (by simpa[go_sem] using c1)];by_cases c2:x.k=30
  . rw[if_pos c2] at hφ;rw[ah,if_pos (by simpa[go_sem] using c2),ae,au,ep];exact hφ
  rw[if_neg c2] at hφ;rw[ah,if_neg (by simpa[go_sem] using c2),ae,au,ep];exact hφ
def Tr.g:Tr->Ng
 | .nd k l c n x ks=>⟨k,l,c,Tr.ns ks,n,x⟩
theorem Tr.abC:∀ t:Tr,t.g.lv=t.lv
 | .nd _ _ _ _ _ _=>rfl
theorem qj:∀ t:Tr,∃ r,t.gs=t.g::r/\r.length=t.sz
 | .nd k l c n x ks=>⟨Tr.mP ks,jc ..,by rw[jy];simp[Tr.sz,jq]⟩
def Ps (l:List Ng) (p:Nat) (t:Tr):Prop:=∃ pre post,l=pre++t.gs++post/\pre.length=p
def EO (l:List Ng) (p:Nat) (ts:List Tr):Prop:=∃ pre post,l=pre++Tr.mP ts++post/\pre.length=p
theorem Ps.kids {l:List Ng} {p:Nat} {k ln c n:Int} {x:List UInt8} {ks:List Tr} (h:Ps l p (.nd k ln c n x ks)):EO l (p+1) ks:=by
 obtain⟨pre,post,rfl,rfl⟩:=h;exact⟨pre++[⟨k,ln,c,Tr.ns ks,n,x⟩],post,by rw[jc];simp,by simp⟩
theorem EO.cons {l:List Ng} {p:Nat} {t:Tr} {ts:List Tr} (h:EO l p (t::ts)):Ps l p t/\EO l (p+t.n) ts:=by
 obtain⟨pre,post,rfl,rfl⟩:=h;refine⟨⟨pre,Tr.mP ts++post,by rw[dB];simp,rfl⟩,⟨pre++t.gs,post,by rw[dB];simp,by rw[List.length_append,iD]⟩⟩
theorem Ps.node {l:List Ng} {p:Nat} {t:Tr} (h:Ps l p t):∃ hp:p<l.length,l[p]=t.g:=by
 obtain⟨pre,post,rfl,rfl⟩:=h;obtain⟨r,hr,_⟩:=qj t;have hlt:pre.length<(pre++t.gs++post).length:=by rw[hr];simp
 refine⟨hlt,?_⟩;simp[hr]
theorem Ps.lt {l:List Ng} {p:Nat} {t:Tr} (h:Ps l p t):p+t.n<=l.length:=by
 obtain⟨pre,post,rfl,rfl⟩:=h;rw[List.length_append,List.length_append,iD];omega
theorem Ps.iq {l:List Ng} {p fuel:Nat} {k ln c n:Int} {x:List UInt8} {ks:List Tr} (h:Ps l p (.nd k ln c n x ks)) (hf:ks.length<=fuel):iq l ((p:Nat)+(Tr.ns ks:Nat)) fuel ((p:Nat)+1)=some (places ((p:Nat)+1) ks):=by
 obtain⟨pre,post,rfl,rfl⟩:=h;have:=BN ks (pre++[⟨k,ln,c,Tr.ns ks,n,x⟩]) post fuel hf;rw[jc];simp only[List.length_append,List.length_cons,List.length_nil,Nat.zero_add,List.append_assoc,List.cons_append,List.nil_append] at this⊢;rw[show ((pre.length+1:Nat):Int)=(pre.length:Int)+1 by omega] at this;rw[show ((pre.length:Int)+1 - 1+(Tr.ns ks:Int))=pre.length+(Tr.ns ks:Int) by omega] at this;exact this
theorem nU:∀ (a b:List Tr) (p:Int),places p (a++b)=places p a++places (p+Tr.ns a) b
 | [],b,p=>by rw[bF];simp[places]
 | t::a,b,p=>by
   rw[List.cons_append,places,places,nU a b,aI,List.cons_append];congr 3;omega
theorem dn:∀ (a:List Tr) (p:Int),(places p a).length=a.length
 | [],_=>rfl
 | t::a,p=>by rw[places,List.length_cons,List.length_cons,dn a]
structure iy (h:Hp) (s:bM) (ks:List Int):Prop where
 n:s.n=ks.length
 c:s.n<=s.c
 at_:ks=[]\/∃ b o ob,s.a=some (b,o)/\h b=some ob/\ob.ty=3/\(ob.cs.drop o).take ks.length=ku ks/\o+ks.length<=ob.cs.length
theorem iy.own {h:Hp} {s:bM} {ks:List Int} (ho:dC h s (ku ks) 3 1) (hn:s.n=ks.length):iy h s ks:=by
 rcases ho with ⟨rfl,hk⟩ | ⟨b,o,h1,h2,h3,h4,h5,_,h7⟩
 . exact⟨hn,Nat.le_refl _,.inl (by simpa[ku] using hk)⟩
 . exact⟨hn,h5,.inr ⟨b,0,o,h1,h2,h3,by rw[List.drop_zero,<- hn,h7,Nat.mul_one],by omega⟩⟩
theorem iy.le {h k:Hp} {s:bM} {ks:List Int} (R:iy h s ks) (hl:bY h k):iy k s ks:=
 ⟨R.n,R.c,R.at_.imp id fun ⟨b,o,ob,h1,h2,h3⟩=>⟨b,o,ob,h1,hl _ _ h2,h3⟩⟩
theorem iy.go {h k:Hp} {b:Nat} {lsl sl sl':bM} {used:Bool} {inn:Int} {acc:List UInt8} {s:bM} {ks:List Int} (R:iy h s ks) (X:EX h b lsl used sl inn acc) (G:wF h k b sl sl'):iy k s ks:=by
 refine⟨R.n,R.c,R.at_.imp id fun ⟨c,o,ob,h1,h2,h3,h4⟩=>⟨c,o,ob,h1,G.keep c ob (fun e=>?_) (fun z hz e=>?_) h2,h3,h4⟩⟩
 . rw[e,X.at_] at h2;cases h2;exact absurd h3 (show ¬ (qN=3) by decide)
 . obtain⟨o',ho,ht⟩:=X.blk hz;rw[e,h2] at ho;cases ho;rw[h3] at ht;exact absurd ht (by decide)
theorem iy.read {h:Hp} {s:bM} {ks:List Int} (R:iy h s ks) {j:Nat} (hj:j<ks.length):∃ b o,s.a=some (b,o)/\hread h (some (b,o+j*1+0)) 1=some [.int .i64 ks[j]]:=by
 rcases R.at_ with rfl | ⟨b,o,ob,h1,h2,h3,h4,h5⟩
 . simp at hj
 . refine⟨b,o,h1,?_⟩;rw[bI h2,if_pos (by omega)];have e:(ob.cs.drop (o+j*1+0)).take 1=(((ob.cs.drop o).take ks.length).drop j).take 1:=by
    rw[List.drop_take,List.take_take,List.drop_drop,Nat.mul_one,Nat.add_zero,Nat.min_eq_left (by omega)]
   rw[e,h4,List.drop_eq_getElem_cons (by rw[NV];exact hj)];simp[ku]
theorem iy.tail {h:Hp} {s:bM} {q:Int} {ks:List Int} (R:iy h s (q::ks)):iy h ⟨if s.c=1 then s.a else s.a.map fun x=>(x.1,x.2+1*1),s.n - 1,s.c - 1⟩ ks:=by
 have hn:=R.n;have hc:=R.c;rw[List.length_cons] at hn;refine⟨by simp[hn],by simp;omega,?_⟩;rcases R.at_ with h0 | ⟨b,o,ob,h1,h2,h3,h4,h5⟩
 . cases h0
 . by_cases hk:ks=[]
   . exact .inl hk
   . have hp:=List.length_pos_iff.2 hk;rw[List.length_cons] at h4 h5;refine .inr ⟨b,o+1,ob,?_,h2,h3,?_,by omega⟩
     . rw[if_neg (by omega),h1];rfl
     . have e:(ob.cs.drop (o+1)).take ks.length=((ob.cs.drop o).take (ks.length+1)).drop 1:=by
        rw[List.drop_take,List.drop_drop];rfl
       rw[e,h4];rfl
theorem jk:∀ {t:Tr},E5 t->∀ {l:List Ng} {p n:Nat},Ps l p t->t.n<=n->mQ l n p=some (qU t):=by
 intro t W
 induction W with
 | word k ln c h=>
   intro l p n P hn;obtain⟨hp,e⟩:=P.node;cases n with
   | zero=>rw[nD] at hn;omega
   | succ n=>
     rw[mQ,List.getElem?_eq_getElem hp,e,qU];simp only[Tr.g];have:k=15\/k=16\/k=17\/k=18:=by omega
     rcases this with rfl | rfl | rfl | rfl<;>simp[SA,CW,SB,CX]
 | big ln c x h=>
   intro l p n P hn;obtain⟨hp,e⟩:=P.node;cases n with
   | zero=>rw[nD] at hn;omega
   | succ n=>
     rw[mQ,List.getElem?_eq_getElem hp,e,qU];simp[Tr.g]
 | list ln c t h ih=>
   intro l p n P hn;obtain⟨hp,e⟩:=P.node;have hn2:t.n+1<=n:=by
    have:(Tr.nd 20 ln c 0 [] [t]).n=t.n+1:=by rw[nD,Tr.sz,jq,aI,bF]
    omega
   cases n with
   | zero=>omega
   | succ n=>
     rw[mQ,List.getElem?_eq_getElem hp,e,qU];have:=ih (EO.cons P.kids).1 (show t.n<=n by omega);simp[Tr.g,this]
theorem zV.node {h:Hp} {b:Nat} {lsl sl:bM} {l:List Ng} {used:Bool} {inn:Int} {acc:List UInt8} (X:zV h b lsl l used sl inn acc) {p:Nat} {t:Tr} (P:Ps l p t):∃ c o,lsl.a=some (c,o)/\hread h (some (c,o+p*6+0)) 6=some t.g.cs/\p<lsl.n:=by
 obtain⟨hp,e⟩:=P.node;have hn:=NG.n X.row;obtain⟨c,o,ha⟩:=Rows.nn X.row (j:=p) (by omega);exact⟨c,o,ha,by rw[NG.node X.row hp ha,e],by omega⟩
def G9:Fm:=(.Z 0
 (.Z 0
 (.O (.pt 0 0) 1 [(.sl (.x 0))] ⟨0,0,0,0,1,0⟩
 (.N (.X (.x 0) (.x 0))
 (.O (.el (.x 0) (.x 0) 6 0) 6 [.U 2,.J 3,.J 4,.J 5,.J 6,(.s (.x 0))] ⟨5,0,1,0,0,0⟩
 (.C 95 [(.agg [.U 2,.J 3,.J 4,.J 5,.J 6,(.s (.x 0))])] (.p (.J 7)) ⟨1,0,0,0,0,0⟩
 (.ite (.le (.x 1) (.x 7))
 (.V 26 [.P 0,.J 0]
 .E)
 (.mk [(.s (.c [40]))] 9 1
 (.V 41 [.P 0,.L 1]
 (.V 26 [.P 0,.J 0]
 (.mk [(.s (.c [41]))] 9 1
 (.V 41 [.P 0,.L 2]
 .E))))))))))))
theorem QJ:aU ⟨true,[]⟩ Tryz.prog (fun l=>([]:List bG).getD l ⟨[],[],[]⟩) Tryz.f57=G9:=by kernel_rfl
theorem V7:az Tryz.prog .zero Tryz.f57.params.toList=some ([.P 0,.J 0,.J 1],⟨2,0,0,0,0,1⟩):=by kernel_rfl
def NU:Fm:=(.loop 0 ⟨[(.c 0)],[],[],[],[],[]⟩
 (.ite (.lt (.x 0) (.cnt (.x 0)))
 (.N (.X (.x 0) (.x 0))
 (.O (.el (.x 0) (.x 0) 1 0) 1 [.J 1] ⟨1,0,0,0,0,0⟩
 (.ite (.lt (.c 0) (.x 0))
 (.mk [(.s (.c [44,32]))] 9 1
 (.V 41 [.P 0,.L 1]
 (.V 26 [.P 0,.J 1]
 (.N (.R (.add (.x 0) (.c 1)))
 (.again 0 ⟨0,0,0,0,1,1⟩ ⟨1,0,0,0,1,1⟩ ⟨[(.add (.x 0) (.c 1))],[],[],[],[],[]⟩)))))
 (.V 26 [.P 0,.J 1]
 (.N (.R (.add (.x 0) (.c 1)))
 (.again 0 ⟨0,0,0,0,1,1⟩ ⟨1,0,0,0,1,1⟩ ⟨[(.add (.x 0) (.c 1))],[],[],[],[],[]⟩))))))
 .E))
theorem UU:aU ⟨true,[]⟩ Tryz.prog (fun l=>([⟨[8],[9,10,11,12,4,5,13,14,15,16,17,18,19,20,21],[]⟩]:List bG).getD l ⟨[],[],[]⟩) Tryz.f56=NU:=by kernel_rfl
theorem YM:az Tryz.prog .zero Tryz.f56.params.toList=some ([.P 0,.L 0],⟨0,0,0,0,1,1⟩):=by kernel_rfl
def Writes (h:Hp) (b:Nat) (lsl:bM) (l:List Ng) (sl:bM) (inn:Int) (s:List UInt8) (φ:Value->Hp->Prop):Prop:=
 ∀ used' sl' k,zV k b lsl l used' sl' inn s->wF h k b sl sl'->φ (.tuple #[]) k
def Fits (acc s:List UInt8):Prop:=s.length<=1000000000000/\acc.length+s.length<=1000000000000
theorem Fits.sub {acc s a b c:List UInt8} (F:Fits acc s) (h:s=a++(b++c)):Fits (acc++a) b:=by
 obtain⟨h1,h2⟩:=F;subst h;simp only[List.length_append] at h1 h2;exact⟨by omega,by rw[List.length_append];omega⟩
theorem Fits.put {acc s a b c:List UInt8} (F:Fits acc s) (h:s=a++(b++c)):(acc++a).length+b.length<=1000000000000:=(F.sub h).2
theorem Fits.p0 {acc s b c:List UInt8} (F:Fits acc s) (h:s=b++c):acc.length+b.length<=1000000000000:=by
 obtain⟨_,h2⟩:=F;rw[h,List.length_append] at h2;omega
def Xn (n:Nat) (args:List Value) (h:Hp) (φ:Value->Hp->Prop):Prop:=
 ∃ b lsl l used sl inn acc p t,args=[.pointer (some ⟨b,0,none⟩),.int .i64 (p:Nat)]/\zV h b lsl l used sl inn acc/\Ps l p t/\kX t/\t.n<=n/\l.length<=1000000/\Fits acc (tx t)/\Writes h b lsl l sl inn (acc++tx t) φ
def Xo (n:Nat) (args:List Value) (h:Hp) (φ:Value->Hp->Prop):Prop:=
 ∃ b lsl l used sl inn acc p t least,args=[.pointer (some ⟨b,0,none⟩),.int .i64 (p:Nat),.int .i64 (least:Nat)]/\zV h b lsl l used sl inn acc/\Ps l p t/\kX t/\t.n<=n/\l.length<=1000000/\Fits acc (brk (decide (t.lv<least)) (tx t))/\Writes h b lsl l sl inn (acc++brk (decide (t.lv<least)) (tx t)) φ
def ZL (n:Nat) (args:List Value) (h:Hp) (φ:Value->Hp->Prop):Prop:=
 ∃ b lsl l used sl inn acc p ts s,args=[.pointer (some ⟨b,0,none⟩),bM.val s]/\zV h b lsl l used sl inn acc/\EO l p ts/\oP ts/\Tr.ns ts<=n/\iy h s (places (p:Nat) ts)/\l.length<=1000000/\Fits acc (oN ts)/\Writes h b lsl l sl inn (acc++oN ts) φ
def Tm (n:Int) (a c:Tr):List UInt8:=brk (decide (a.lv<EP (oJ n).2)) (tx a)++(32::((oJ n).1++(32::brk (decide (c.lv<(oJ n).2+1)) (tx c))))
def ZK (n:Nat) (args:List Value) (h:Hp) (φ:Value->Hp->Prop):Prop:=
 ∃ b lsl l used sl inn acc x p a c s,args=[.pointer (some ⟨b,0,none⟩),Ng.v x,bM.val s]/\zV h b lsl l used sl inn acc/\Ps l p a/\Ps l (p+a.n) c/\kX a/\kX c/\a.n<=n/\c.n<=n/\iy h s [(p:Nat),(p+a.n:Nat)]/\l.length<=1000000/\Fits acc (Tm x.n a c)/\Writes h b lsl l sl inn (acc++Tm x.n a c) φ
def wL (n:Nat):Prop:=∀ args h φ w,Xn n args h φ->Holds h w->Calls Tryz.prog 26 args.toArray w fun e w'=>∃ v k,e=.returned v/\φ v k/\Holds k w'/\Fr w.heap.size h k w w'
def Dc (n:Nat):Prop:=∀ args h φ w,Xo n args h φ->Holds h w->Calls Tryz.prog 57 args.toArray w fun e w'=>∃ v k,e=.returned v/\φ v k/\Holds k w'/\Fr w.heap.size h k w w'
def SX (n:Nat):Prop:=∀ args h φ w,ZL n args h φ->Holds h w->Calls Tryz.prog 56 args.toArray w fun e w'=>∃ v k,e=.returned v/\φ v k/\Holds k w'/\Fr w.heap.size h k w w'
def SV (n:Nat):Prop:=∀ args h φ w,ZK n args h φ->Holds h w->Calls Tryz.prog 58 args.toArray w fun e w'=>∃ v k,e=.returned v/\φ v k/\Holds k w'/\Fr w.heap.size h k w w'
def lH {n:Nat} (H:wL n):Ct Tryz.prog:=⟨26,Xn n,H⟩
def wU {n:Nat} (H:Dc n):Ct Tryz.prog:=⟨57,Xo n,H⟩
def TT {n:Nat} (H:SX n):Ct Tryz.prog:=⟨56,ZL n,H⟩
def TR {n:Nat} (H:SV n):Ct Tryz.prog:=⟨58,ZK n,H⟩
set_option maxHeartbeats 2000000 in
theorem uw {n:Nat} (ih:wL n):Dc n:=by
 rintro args h φ w ⟨b,lsl,l,used,sl,inn,acc,p,t,least,rfl,X,P,W,hn,hl,F,hφ⟩ hH;refine aZ Tryz.func57 QJ V7 [FU,nK,lH ih] φ (bJ) (aV) ⟨[((p:Nat):Int),((least:Nat):Int)],[],[],[],[],[some (b,0)],h,cu⟩ ⟨rfl,rfl,rfl,rfl,rfl,rfl⟩ af ?_ w hH rfl;generalize hE:(⟨aG _,_,_,_⟩:Env)=E;have saw:E.spec 95=(FU).spec:=by rw[<- hE];rfl
 have sax:E.spec 41=(nK).spec:=by rw[<- hE];rfl
 have san:E.spec 26=(lH ih).spec:=by rw[<- hE];rfl
 have ep:E.post=φ:=by rw[<- hE]
 clear hE;unfold G9;obtain⟨c0,o0,ha,hrd,hpn⟩:=X.node P;have hb:=X.prn.at_;rw[<- ae];rw[ag];refine⟨by simp[go_sem]<;>omega,?_⟩;rw[ag];refine⟨by simp[go_sem]<;>omega,?_⟩;refine rL ⟨[],[],[],[],[lsl],[]⟩ rfl af (by simp[go_sem,bI hb,prn]) ?_;rw[ag];refine⟨by simp[go_sem,ha]<;>omega,?_⟩;refine rL ⟨[t.g.k,t.g.l,t.g.c,t.g.z,t.g.n],[],[t.g.x],[],[],[]⟩ rfl af (by simpa[go_sem,ha,Ng.cs] using hrd) ?_;rw[ai,saw];refine⟨t.g,rfl,?_⟩;refine rR ⟨[((t.g.lv:Nat):Int)],[],[],[],[],[]⟩ rfl af rfl ?_;rw[Tr.abC];by_cases hlv:t.lv<least
 . rw[decide_eq_true hlv] at F hφ;have hz:¬ ((least:Int)<=(t.lv:Int)):=by omega
   rw[ah,if_neg (by simpa[go_sem] using hz)];rw[ae,aW];intro bb hbb;rw[ai,sax];refine dm (ss:=[[40]]) X hbb (by simpa using F.put (a:=[]) (b:=[40]) (c:=tx t++[41]) rfl) (by simp) fun u1 s1 k1 X1 G1=>?_
   refine rR ⟨[],[],[],[],[],[]⟩ rfl af rfl ?_;rw[ai,san];refine⟨b,lsl,l,u1,s1,inn,acc++[40],p,t,rfl,X1,P,W,hn,hl,F.sub (a:=[40]) (c:=[41]) rfl,fun u2 s2 k2 X2 G2=>?_⟩;refine rR ⟨[],[],[],[],[],[]⟩ rfl af rfl ?_;rw[ae,aW];intro b2 hb2;rw[ai,sax];refine dm (ss:=[[41]]) X2 hb2 ?_ (by simp) fun u3 s3 k3 X3 G3=>?_
   . have:=F.put (a:=40::tx t) (b:=[41]) (c:=[]) (by simp[brk]);simpa using this
   refine rR ⟨[],[],[],[],[],[]⟩ rfl af rfl ?_;rw[aj,ep];refine hφ u3 s3 k3 ?_ ((G1.trans G2 X1.prn.nn).trans G3 X2.prn.nn);simpa[brk] using X3
 . rw[decide_eq_false hlv] at F hφ;have hz:(least:Int)<=(t.lv:Int):=by omega
   rw[ah,if_pos (by simpa[go_sem] using hz)];rw[ai,san];refine⟨b,lsl,l,used,sl,inn,acc,p,t,rfl,X,P,W,hn,hl,F,fun u2 s2 k2 X2 G2=>?_⟩;refine rR ⟨[],[],[],[],[],[]⟩ rfl af rfl ?_;rw[aj,ep];exact hφ u2 s2 k2 X2 G2
def SK (j:Nat) (ts:List Tr):List UInt8:=if j=0 then oN ts else Xf ts
theorem IR (j:Nat) (t:Tr) (ts:List Tr):SK j (t::ts)=(if j=0 then [] else [44,32])++(tx t++SK (j+1) ts):=by
 unfold SK;rw[if_neg (Nat.succ_ne_zero j)];split
 . rw[oN];rfl
 . rw[Xf];rfl
theorem OV (j:Nat):SK j []=[]:=by
 unfold SK;split<;>simp[oN,Xf]
theorem oP.app:∀ {a b:List Tr},oP (a++b)->oP b
 | [],_,h=>h
 | _::_,_,.cons _ _ _ hs=>oP.app hs
theorem EO.app {l:List Ng} {p:Nat} {a b:List Tr} (h:EO l p (a++b)):EO l (p+Tr.ns a) b:=by
 obtain⟨pre,post,rfl,rfl⟩:=h;refine⟨pre++Tr.mP a,post,by simp[Tr.mP,kz],by rw[List.length_append,jy]⟩
def EN (h:Hp) (b:Nat) (lsl:bM) (l:List Ng) (sl:bM) (inn:Int) (acc:List UInt8) (p:Nat) (ts:List Tr) (s:bM) (_:Nat) (C:Ctx):Prop:=
 ∃ (j:Nat) (u:Bool) (s':bM) (k:Hp) (pre rest:List Tr) (a:List UInt8),C=⟨[j],[],[],[],[s],[some (b,0)],k,cu⟩/\ts=pre++rest/\pre.length=j/\zV k b lsl l u s' inn (acc++a)/\wF h k b sl s'/\iy k s (places (p:Nat) ts)/\a++SK j rest=oN ts
set_option maxHeartbeats 4000000 in
theorem Po {n:Nat} (ih:wL n):SX n:=by
 rintro args h φ w ⟨b,lsl,l,used,sl,inn,acc,p,ts,s,rfl,X,P,W,hn,R,hl,F,hφ⟩ hH;refine aZ Tryz.func56 UU YM [nK,lH ih] φ (EN h b lsl l sl inn acc p ts s) (fun _ C=>((ts.length:Int) - C.i.getD 0 0).toNat) ⟨[],[],[],[],[s],[some (b,0)],h,cu⟩ ⟨rfl,rfl,rfl,rfl,rfl,rfl⟩ af ?_ w hH rfl;generalize hE:(⟨aG _,_,_,_⟩:Env)=E;have sax:E.spec 41=(nK).spec:=by rw[<- hE];rfl
 have san:E.spec 26=(lH ih).spec:=by rw[<- hE];rfl
 have ep:E.post=φ:=by rw[<- hE]
 have ei:E.inv=(EN h b lsl l sl inn acc p ts s):=by rw[<- hE]
 have em:E.meas=(fun _ C=>((ts.length:Int) - C.i.getD 0 0).toNat):=by rw[<- hE]
 clear hE;unfold NU;have hsn:=R.n;rw[dn] at hsn;have hts6:ts.length<=1000000:=by
  obtain⟨pre,post,rfl,_⟩:=P;have:=yZ ts;rw[List.length_append,List.length_append,jy] at hl;omega
 refine bH ?_ ?_
 . rw[ei];exact⟨0,used,sl,h,[],ts,[],rfl,rfl,rfl,by simpa using X,wF.refl _ _ _,R,by simp[SK]⟩
 rw[ei,em];rintro i bb ss v ll pp hh M ⟨j,u,s',k,pre,rest,a,hC,hts,hj,X',G,R',ha⟩ hM;cases hC;have hM':M 0=((ts.length:Int) - j).toNat:=hM;have htl:ts.length=j+rest.length:=by rw[hts,List.length_append,hj]
 cases rest with
 | nil=>
   rw[List.length_nil] at htl;have hz:¬ ((j:Int)<s.n):=by omega
   rw[OV,List.append_nil] at ha;rw[ak,if_neg (by simpa[go_sem] using hz)];rw[aj,ep];rw[ha] at X';exact hφ u s' hh X' G
 | cons t rest=>
   rw[List.length_cons] at htl;have hz:(j:Int)<s.n:=by omega
   rw[IR] at ha;have hP:=EO.app (show EO l p (pre++(t::rest)) by rw[<- hts];exact P);have hW:=oP.app (show oP (pre++(t::rest)) by rw[<- hts];exact W);obtain⟨hP1,hP2⟩:=hP.cons;have hWt:kX t:=by cases hW;assumption
   have htn:t.n<=n:=by
    rw[hts,gU,aI] at hn;omega
   have hpl:(places (p:Nat) ts)[j]? = some ((p+Tr.ns pre:Nat):Int):=by
    rw[hts,nU,List.getElem?_append_right (by rw[dn];omega),dn,hj,Nat.sub_self,places];simp
   obtain⟨hj3,hj4⟩:=List.getElem?_eq_some_iff.1 hpl;obtain⟨c1,o1,hsa,hrd⟩:=R'.read hj3;rw[hj4] at hrd;rw[ak,if_pos (by simpa[go_sem] using hz)];rw[ag];refine⟨by simp[go_sem,hsa]<;>omega,?_⟩;refine rL ⟨[((p+Tr.ns pre:Nat):Int)],[],[],[],[],[]⟩ rfl af (by simpa[go_sem,hsa] using hrd) ?_;have hlast:∀ (u2:Bool) (s2:bM) (k2:Hp),zV k2 b lsl l u2 s2 inn (acc++(a++(if j=0 then [] else [44,32])++tx t))->wF hh k2 b s' s2->
    EN h b lsl l sl inn acc p ts s 0 ⟨[(j:Int)+1],[],[],[],[s],[some (b,0)],k2,cu⟩:=fun u2 s2 k2 X2 G2=>
    ⟨j+1,u2,s2,k2,pre++[t],rest,a++(if j=0 then [] else [44,32])++tx t,rfl,by rw[hts];simp,by simp[hj],X2,G.trans G2 X'.prn.nn,R'.go X'.prn G2,by rw[<- ha];simp⟩
   by_cases hj0:j=0
   . have hz0:¬ ((0:Int)<(j:Int)):=by omega
     rw[ah,if_neg (by simpa[go_sem] using hz0)];rw[ai,san];rw[if_pos hj0] at ha hlast;refine⟨b,lsl,l,u,s',inn,acc++a,p+Tr.ns pre,t,rfl,X',hP1,hWt,htn,hl,F.sub (a:=a) (c:=SK (j+1) rest) ?_,fun u2 s2 k2 X2 G2=>?_⟩
     . rw[<- ha];simp
     refine rR ⟨[],[],[],[],[],[]⟩ rfl af rfl ?_;rw[ag];refine⟨by simp[go_sem]<;>omega,?_⟩;rw[ae,says_again,ei,em];refine⟨hlast u2 s2 k2 (by simpa using X2) G2,?_⟩;show (((ts.length:Int) - ((j:Int)+1)).toNat)<M 0;omega
   . have hz0:(0:Int)<(j:Int):=by omega
     rw[ah,if_pos (by simpa[go_sem] using hz0)];rw[if_neg hj0] at ha hlast;rw[ae,aW];intro b1 hb1;rw[ai,sax];refine dm (ss:=[[44,32]]) X' hb1 (F.put (a:=a) (b:=[44,32]) (c:=tx t++SK (j+1) rest) ha.symm) (by simp) fun u1 s1 k1 X1 G1=>?_
     refine rR ⟨[],[],[],[],[],[]⟩ rfl af rfl ?_;rw[ai,san];refine⟨b,lsl,l,u1,s1,inn,_,p+Tr.ns pre,t,rfl,X1,hP1,hWt,htn,hl,?_,fun u2 s2 k2 X2 G2=>?_⟩
     . have:=F.sub (a:=a++[44,32]) (b:=tx t) (c:=SK (j+1) rest) (by rw[<- ha];simp);simpa using this
     refine rR ⟨[],[],[],[],[],[]⟩ rfl af rfl ?_;rw[ag];refine⟨by simp[go_sem]<;>omega,?_⟩;rw[ae,says_again,ei,em];refine⟨hlast u2 s2 k2 (by simpa using X2) (G1.trans G2 X1.prn.nn),?_⟩;show (((ts.length:Int) - ((j:Int)+1)).toNat)<M 0;omega
def NS:Fm:=(.C 96 [.J 4] (.tup [.S 1,.J 5]) ⟨1,0,1,0,0,0⟩
 (.ite (.or (.eqI (.x 5) (.c 3)) (.eqI (.x 5) (.c 4)))
 (.N (.R (.add (.x 5) (.c 1)))
 (.N (.X (.c 0) (.x 0))
 (.O (.el (.x 0) (.c 0) 1 0) 1 [.J 6] ⟨1,0,0,0,0,0⟩
 (.V 57 [.P 0,.J 6,(.I (.add (.x 5) (.c 1)))]
 (.mk [(.s (.c [32])),(.s (.x 1)),(.s (.c [32]))] 9 3
 (.V 41 [.P 0,.L 1]
 (.N (.X (.c 1) (.x 0))
 (.O (.el (.x 0) (.c 1) 1 0) 1 [.J 7] ⟨1,0,0,0,0,0⟩
 (.N (.R (.add (.x 5) (.c 1)))
 (.V 57 [.P 0,.J 7,(.I (.add (.x 5) (.c 1)))]
 .E))))))))))
 (.N (.X (.c 0) (.x 0))
 (.O (.el (.x 0) (.c 0) 1 0) 1 [.J 6] ⟨1,0,0,0,0,0⟩
 (.V 57 [.P 0,.J 6,.J 5]
 (.mk [(.s (.c [32])),(.s (.x 1)),(.s (.c [32]))] 9 3
 (.V 41 [.P 0,.L 1]
 (.N (.X (.c 1) (.x 0))
 (.O (.el (.x 0) (.c 1) 1 0) 1 [.J 7] ⟨1,0,0,0,0,0⟩
 (.N (.R (.add (.x 5) (.c 1)))
 (.V 57 [.P 0,.J 7,(.I (.add (.x 5) (.c 1)))]
 .E)))))))))))
theorem UR:aU ⟨true,[]⟩ Tryz.prog (fun l=>([]:List bG).getD l ⟨[],[],[]⟩) Tryz.f58=NS:=by kernel_rfl
theorem YK:az Tryz.prog .zero Tryz.f58.params.toList=some ([.P 0,(.agg [.U 0,.J 1,.J 2,.J 3,.J 4,(.s (.x 0))]),.L 0],⟨5,0,1,0,1,1⟩):=by kernel_rfl
def G8:Fm:=(.Z 0
 (.Z 0
 (.O (.pt 0 0) 1 [(.sl (.x 0))] ⟨0,0,0,0,1,0⟩
 (.N (.X (.x 0) (.x 0))
 (.O (.el (.x 0) (.x 0) 6 0) 6 [.U 1,.J 2,.J 3,.J 4,.J 5,(.s (.x 0))] ⟨5,0,1,0,0,0⟩
 (.C 38 [.P 0,.J 0] (.p (.L 1)) ⟨0,0,0,0,1,0⟩
 (.ite (.eqI (.x 1) (.c 21))
 (.C 54 [.J 5] (.p (.S 1)) ⟨0,0,1,0,0,0⟩
 (.mk [(.s (.x 1))] 9 1
 (.V 41 [.P 0,.L 2]
 .E)))
 (.ite (.eqI (.x 1) (.c 22))
 (.C 54 [.J 5] (.p (.S 1)) ⟨0,0,1,0,0,0⟩
 (.mk [(.s (.x 1)),(.s (.c [105]))] 9 2
 (.V 41 [.P 0,.L 2]
 .E)))
 (.ite (.eqI (.x 1) (.c 23))
 (.C 55 [.S 0] (.p (.S 1)) ⟨0,0,1,0,0,0⟩
 (.mk [(.s (.x 1))] 9 1
 (.V 41 [.P 0,.L 2]
 .E)))
 (.ite (.eqI (.x 1) (.c 24))
 (.N (.and (.le (.c 0) (.x 5)) (.lt (.x 5) (.c 2)))
 (.mk [(.s (.ite (.eqI (.x 5) (.c 0)) (.c [102,97,108,115,101]) (.c [116,114,117,101])))] 9 1
 (.V 41 [.P 0,.L 2]
 .E)))
 (.ite (.eqI (.x 1) (.c 25))
 (.mk [(.s (.c [110,105,108]))] 9 1
 (.V 41 [.P 0,.L 2]
 .E))
 (.ite (.eqI (.x 1) (.c 26))
 (.mk [(.s (.x 0))] 9 1
 (.V 41 [.P 0,.L 2]
 .E))
 (.ite (.eqI (.x 1) (.c 27))
 (.mk [(.s (.x 0)),(.s (.c [40]))] 9 2
 (.V 41 [.P 0,.L 2]
 (.V 56 [.P 0,.L 1]
 (.mk [(.s (.c [41]))] 9 1
 (.V 41 [.P 0,.L 3]
 .E)))))
 (.ite (.eqI (.x 1) (.c 28))
 (.N (.X (.c 0) (.x 1))
 (.O (.el (.x 1) (.c 0) 1 0) 1 [.J 6] ⟨1,0,0,0,0,0⟩
 (.V 57 [.P 0,.J 6,(.I (.c 8))]
 (.mk [(.s (.c [91]))] 9 1
 (.V 41 [.P 0,.L 2]
 (.N (.X (.c 1) (.x 1))
 (.O (.el (.x 1) (.c 1) 1 0) 1 [.J 7] ⟨1,0,0,0,0,0⟩
 (.V 26 [.P 0,.J 7]
 (.mk [(.s (.c [93]))] 9 1
 (.V 41 [.P 0,.L 3]
 .E))))))))))
 (.ite (.eqI (.x 1) (.c 29))
 (.N (.X (.c 0) (.x 1))
 (.O (.el (.x 1) (.c 0) 1 0) 1 [.J 6] ⟨1,0,0,0,0,0⟩
 (.V 57 [.P 0,.J 6,(.I (.c 8))]
 (.mk [(.s (.c [46])),(.s (.x 0))] 9 2
 (.V 41 [.P 0,.L 2]
 .E)))))
 (.ite (.eqI (.x 1) (.c 30))
 (.mk [(.s (.ite (.eqI (.x 5) (.c 12)) (.c [45]) (.c [33])))] 9 1
 (.V 41 [.P 0,.L 2]
 (.N (.X (.c 0) (.x 1))
 (.O (.el (.x 1) (.c 0) 1 0) 1 [.J 6] ⟨1,0,0,0,0,0⟩
 (.V 57 [.P 0,.J 6,(.I (.c 7))]
 .E)))))
 (.ite (.eqI (.x 1) (.c 31))
 (.V 58 [.P 0,(.agg [.U 1,.J 2,.J 3,.J 4,.J 5,(.s (.x 0))]),.L 1]
 .E)
 (.ite (.eqI (.x 1) (.c 32))
 (.N (.X (.c 0) (.x 1))
 (.O (.el (.x 1) (.c 0) 1 0) 1 [.J 6] ⟨1,0,0,0,0,0⟩
 (.C 28 [.P 0,.J 6] (.p (.S 1)) ⟨0,0,1,0,0,0⟩
 (.mk [(.s (.c [109,97,107,101,32])),(.s (.x 1)),(.s (.c [40]))] 9 3
 (.V 41 [.P 0,.L 2]
 (.N (.and (.le (.cnt (.x 1)) (.cap (.x 1))) (.and (.le (.c 0) (.c 1)) (.le (.c 1) (.cnt (.x 1)))))
 (.V 56 [.P 0,(.one (.sl (.sub (.x 1) (.c 1) (.cnt (.x 1)) 1)))]
 (.mk [(.s (.c [41]))] 9 1
 (.V 41 [.P 0,.L 3]
 .E)))))))))
 .E))))))))))))))))))
theorem QH:aU ⟨true,[]⟩ Tryz.prog (fun l=>([]:List bG).getD l ⟨[],[],[]⟩) Tryz.f26=G8:=by kernel_rfl
theorem V6:az Tryz.prog .zero Tryz.f26.params.toList=some ([.P 0,.J 0],⟨1,0,0,0,0,1⟩):=by kernel_rfl
set_option maxHeartbeats 4000000 in
theorem Pn {n:Nat} (ih:Dc n):SV n:=by
 rintro args h φ w ⟨b,lsl,l,used,sl,inn,acc,x,p,a,c,s,rfl,X,P,P2,W,W2,hn,hn2,R,hl,F,hφ⟩ hH;refine aZ Tryz.func58 UR YK [wV,nK,wU ih] φ (bJ) (aV) ⟨[x.k,x.l,x.c,x.z,x.n],[],[x.x],[],[s],[some (b,0)],h,cu⟩ ⟨rfl,rfl,rfl,rfl,rfl,rfl⟩ af ?_ w hH rfl;generalize hE:(⟨aG _,_,_,_⟩:Env)=E;have sav:E.spec 96=(wV).spec:=by rw[<- hE];rfl
 have sax:E.spec 41=(nK).spec:=by rw[<- hE];rfl
 have say:E.spec 57=(wU ih).spec:=by rw[<- hE];rfl
 have ep:E.post=φ:=by rw[<- hE]
 clear hE;unfold NS;have hsn:=R.n;have hsn2:s.n=2:=hsn;have hlv:=Pv x.n;rw[ax,if_pos (by rfl),sav];refine⟨x.n,rfl,?_⟩;generalize hg:oJ x.n=g at *;refine rR ⟨[((g.2:Nat):Int)],[],[g.1],[],[],[]⟩ rfl af rfl ?_;unfold Tm at F hφ;rw[hg] at F hφ;obtain⟨q0,o0,hq0,hr0⟩:=R.read (j:=0) (by simp);have tail:∀ (u1:Bool) (s1:bM) (k1:Hp) (lf:Nat),lf=EP g.2->zV k1 b lsl l u1 s1 inn (acc++brk (decide (a.lv<lf)) (tx a))->wF h k1 b sl s1->∀ (i:List Int) (M:Nat->Nat),i.length=7->i.getD 5 0=((g.2:Nat):Int)->
  Then E (.mk [(.s (.c [32])),(.s (.x 1)),(.s (.c [32]))] 9 3 (.V 41 [.P 0,.L 1]
   (.N (.X (.c 1) (.x 0)) (.O (.el (.x 0) (.c 1) 1 0) 1 [.J 7] ⟨1,0,0,0,0,0⟩
   (.N (.R (.add (.x 5) (.c 1)))
   (.V 57 [.P 0,.J 7,(.I (.add (.x 5) (.c 1)))] .E)))))) ⟨i,[],[x.x,g.1],[],[s],[some (b,0)],k1,M⟩:=by
  intro u1 s1 k1 lf hlf X1 G1 i M hi h5;obtain⟨i0,i1,i2,i3,i4,i5,i6,rfl⟩:∃ i0 i1 i2 i3 i4 i5 i6,i=[i0,i1,i2,i3,i4,i5,i6]:=by
   match i,hi with
   | [i0,i1,i2,i3,i4,i5,i6],_=>exact⟨i0,i1,i2,i3,i4,i5,i6,rfl⟩
  have h5':i5=((g.2:Nat):Int):=h5;subst h5' hlf;have R1:=R.go X.prn G1;obtain⟨q1,o1,hq1,hr1⟩:=R1.read (j:=1) (by simp);rw[ae,aW];intro b1 hb1;rw[ai,sax];refine dm (ss:=[[32],g.1,[32]]) X1 hb1 ?_ (by simp) fun u2 s2 k2 X2 G2=>?_
  . have:=F.put (a:=brk (decide (a.lv<EP g.2)) (tx a)) (b:=32::(g.1++[32])) (c:=brk (decide (c.lv<g.2+1)) (tx c)) (by simp);simpa using this
  refine rR ⟨[],[],[],[],[],[]⟩ rfl af rfl ?_;have R2:=R1.go X1.prn G2;obtain⟨q2,o2,hq2,hr2⟩:=R2.read (j:=1) (by simp);rw[ag];refine⟨by simp[go_sem,hq2]<;>omega,?_⟩;refine rL ⟨[((p+a.n:Nat):Int)],[],[],[],[],[]⟩ rfl af (by simpa[go_sem,hq2] using hr2) ?_;rw[ag];refine⟨by simp[go_sem]<;>omega,?_⟩;rw[ai,say];refine⟨b,lsl,l,u2,s2,inn,_,p+a.n,c,g.2+1,rfl,X2,P2,W2,hn2,hl,?_,fun u3 s3 k3 X3 G3=>?_⟩
  . have:=F.sub (a:=brk (decide (a.lv<EP g.2)) (tx a)++(32::(g.1++[32]))) (b:=brk (decide (c.lv<g.2+1)) (tx c)) (c:=[]) (by simp);simpa using this
  refine rR ⟨[],[],[],[],[],[]⟩ rfl af rfl ?_;rw[aj,ep];refine hφ u3 s3 k3 ?_ ((G1.trans G2 X1.prn.nn).trans G3 X2.prn.nn);simpa using X3
 by_cases h34:g.2=3\/g.2=4
 . have hz:((g.2:Nat):Int)=3\/((g.2:Nat):Int)=4:=by omega
   have hlf:g.2+1=EP g.2:=by unfold EP;rw[if_pos h34]
   rw[ah,if_pos (by simpa[go_sem] using hz)];rw[ag];refine⟨by simp[go_sem]<;>omega,?_⟩;rw[ag];refine⟨by simp[go_sem,hq0]<;>omega,?_⟩;refine rL ⟨[((p:Nat):Int)],[],[],[],[],[]⟩ rfl af (by simpa[go_sem,hq0] using hr0) ?_;rw[ai,say];refine⟨b,lsl,l,used,sl,inn,acc,p,a,g.2+1,rfl,X,P,W,hn,hl,?_,fun u1 s1 k1 X1 G1=>?_⟩
   . rw[hlf];simpa using F.sub (a:=[]) (b:=brk (decide (a.lv<EP g.2)) (tx a)) rfl
   refine rR ⟨[],[],[],[],[],[]⟩ rfl af rfl ?_;exact tail u1 s1 k1 _ hlf X1 G1 _ _ rfl rfl
 . have hz:¬ (((g.2:Nat):Int)=3\/((g.2:Nat):Int)=4):=by omega
   have hlf:g.2=EP g.2:=by unfold EP;rw[if_neg h34]
   rw[ah,if_neg (by simpa[go_sem] using hz)];rw[ag];refine⟨by simp[go_sem,hq0]<;>omega,?_⟩;refine rL ⟨[((p:Nat):Int)],[],[],[],[],[]⟩ rfl af (by simpa[go_sem,hq0] using hr0) ?_;rw[ai,say];refine⟨b,lsl,l,used,sl,inn,acc,p,a,g.2,rfl,X,P,W,hn,hl,?_,fun u1 s1 k1 X1 G1=>?_⟩
   . have:=F.sub (a:=[]) (b:=brk (decide (a.lv<EP g.2)) (tx a)) rfl;rw[<- hlf] at this;simpa using this
   refine rR ⟨[],[],[],[],[],[]⟩ rfl af rfl ?_;exact tail u1 s1 k1 _ hlf X1 G1 _ _ rfl rfl
theorem QQ (k l c n:Int) (x:List UInt8) (ks:List Tr):(Tr.nd k l c n x ks).n=Tr.ns ks+1:=by rw[nD,Tr.sz,jq]
set_option maxHeartbeats 8000000 in
set_option maxRecDepth 10000 in
theorem zT:∀ n,wL n
 | 0=>by
   rintro args h φ w ⟨b,lsl,l,used,sl,inn,acc,p,t,rfl,X,P,W,hn,_⟩ hH;rw[nD] at hn;omega
 | n+1=>by
   have ih:=zT n;rintro args h φ w ⟨b,lsl,l,used,sl,inn,acc,p,t,rfl,X,P,W,hn,hl,F,hφ⟩ hH;refine aZ Tryz.func26 QH V6 [Nh,MK,MO,nK,TT (Po ih),wU (uw ih),lH ih,TR (Pn (uw ih)),qh (o9 1000000)] φ (bJ) (aV) ⟨[((p:Nat):Int)],[],[],[],[],[some (b,0)],h,cu⟩ ⟨rfl,rfl,rfl,rfl,rfl,rfl⟩ af ?_ w hH rfl;generalize hE:(⟨aG _,_,_,_⟩:Env)=E;have saz:E.spec 38=(Nh).spec:=by rw[<- hE];rfl
   have sb0:E.spec 54=(MK).spec:=by rw[<- hE];rfl
   have sb1:E.spec 55=(MO).spec:=by rw[<- hE];rfl
   have sax:E.spec 41=(nK).spec:=by rw[<- hE];rfl
   have sb2:E.spec 56=(TT (Po ih)).spec:=by rw[<- hE];rfl
   have say:E.spec 57=(wU (uw ih)).spec:=by rw[<- hE];rfl
   have san:E.spec 26=(lH ih).spec:=by rw[<- hE];rfl
   have sah:E.spec 58=(TR (Pn (uw ih))).spec:=by rw[<- hE];rfl
   have sa0:E.spec 28=(qh (o9 1000000)).spec:=by rw[<- hE];rfl
   have ep:E.post=φ:=by rw[<- hE]
   clear hE;unfold G8;obtain⟨c0,o0,ha,hrd,hpn⟩:=X.node P;obtain⟨hpl,hpt⟩:=P.node;have hb:=X.prn.at_;have hlt:=P.lt;rw[<- ae];rw[ag];refine⟨by simp[go_sem]<;>omega,?_⟩;rw[ag];refine⟨by simp[go_sem]<;>omega,?_⟩;refine rL ⟨[],[],[],[],[lsl],[]⟩ rfl af (by simp[go_sem,bI hb,prn]) ?_;rw[ag];refine⟨by simp[go_sem,ha]<;>omega,?_⟩;obtain⟨k,ln,c,nn,x,ks⟩:=t;rw[QQ] at hlt hn;have hks:=yZ ks;refine rL ⟨[k,ln,c,((Tr.ns ks:Nat):Int),nn],[],[x],[],[],[]⟩ rfl af (by simpa[go_sem,ha,Ng.cs,Tr.g] using hrd) ?_;rw[ai,saz];refine⟨b,lsl,l,p,((Tr.ns ks:Nat):Int),ks.length,places ((p:Nat)+1) ks,_,_,rfl,hb,X.row,hl,by omega,⟨l[p],List.getElem?_eq_getElem hpl,by rw[hpt];rfl⟩,by omega,by omega,P.iq (Nat.le_refl _),fun s k1 hle ho hsn=>?_⟩;refine rR ⟨[],[],[],[],[s],[]⟩ rfl af rfl ?_;have X1:=X.le hle;have R:=iy.own ho hsn;have fin:Writes k1 b lsl l sl inn (acc++tx (.nd k ln c nn x ks)) φ:=fun u2 s2 k2 Y G=>hφ u2 s2 k2 Y (G.le hle)
   have ps:((p:Nat):Int)+1=((p+1:Nat):Int):=by omega
   rw[ps] at R;have hn':Tr.ns ks<=n:=by omega
   clear hφ ho hle;have PK:=P.kids;cases W with
   | int _ _ _ h0=>
     rw[ah,if_pos (by simp[go_sem])];rw[ai,sb0];refine⟨nn,rfl,by omega,by omega,?_⟩;refine rR ⟨[],[],[txt nn],[],[],[]⟩ rfl af rfl ?_;have e:tx (.nd 21 ln c nn [] [])=txt nn:=by rw[tx.eq_def];simp
     rw[e] at F fin;rw[ae,aW];intro bb hbb;rw[ai,sax];refine dm (ss:=[txt nn]) X1 hbb (by simpa using F.2) (by simp) fun u2 s2 k2 Y G=>?_
     refine rR ⟨[],[],[],[],[],[]⟩ rfl af rfl ?_;rw[aj,ep];exact fin u2 s2 k2 (by simpa using Y) G
   | comp _ _ _ h0=>
     iterate 1 (rw[ah,if_neg (by simp[go_sem])])
     rw[ah,if_pos (by simp[go_sem])];rw[ai,sb0];refine⟨nn,rfl,by omega,by omega,?_⟩;refine rR ⟨[],[],[txt nn],[],[],[]⟩ rfl af rfl ?_;have e:tx (.nd 22 ln c nn [] [])=txt nn++[105]:=by rw[tx.eq_def];simp
     rw[e] at F fin;rw[ae,aW];intro bb hbb;rw[ai,sax];refine dm (ss:=[txt nn,[105]]) X1 hbb (by simpa using F.2) (by simp) fun u2 s2 k2 Y G=>?_
     refine rR ⟨[],[],[],[],[],[]⟩ rfl af rfl ?_;rw[aj,ep];exact fin u2 s2 k2 (by simpa using Y) G
   | str _ _ _ hx=>
     iterate 2 (rw[ah,if_neg (by simp[go_sem])])
     rw[ah,if_pos (by simp[go_sem])];have e:tx (.nd 23 ln c 0 x [])=quo x:=by rw[tx.eq_def];simp
     rw[e] at F fin;rw[ai,sb1];refine⟨x,rfl,hx,?_⟩;refine rR ⟨[],[],[quo x],[],[],[]⟩ rfl af rfl ?_;rw[ae,aW];intro bb hbb;rw[ai,sax];refine dm (ss:=[quo x]) X1 hbb (by simpa using F.2) (by simp) fun u2 s2 k2 Y G=>?_
     refine rR ⟨[],[],[],[],[],[]⟩ rfl af rfl ?_;rw[aj,ep];exact fin u2 s2 k2 (by simpa using Y) G
   | bool _ _ _ h0=>
     iterate 3 (rw[ah,if_neg (by simp[go_sem])])
     rw[ah,if_pos (by simp[go_sem])];rw[ag];refine⟨by simp[go_sem]<;>omega,?_⟩;rw[ae,aW];intro bb hbb;rw[ai,sax];rcases h0 with rfl | rfl
     . have e:tx (.nd 24 ln c 0 [] [])=jO:=by rw[tx.eq_def];simp
       rw[e] at F fin;refine dm (ss:=[jO]) X1 hbb (by simpa using F.2) (by simp) fun u2 s2 k2 Y G=>?_
       refine rR ⟨[],[],[],[],[],[]⟩ rfl af rfl ?_;rw[aj,ep];exact fin u2 s2 k2 (by simpa using Y) G
     . have e:tx (.nd 24 ln c 1 [] [])=oL:=by rw[tx.eq_def];simp
       rw[e] at F fin;refine dm (ss:=[oL]) X1 hbb (by simpa using F.2) (by simp) fun u2 s2 k2 Y G=>?_
       refine rR ⟨[],[],[],[],[],[]⟩ rfl af rfl ?_;rw[aj,ep];exact fin u2 s2 k2 (by simpa using Y) G
   | nil=>
     iterate 4 (rw[ah,if_neg (by simp[go_sem])])
     rw[ah,if_pos (by simp[go_sem])];have e:tx (.nd 25 ln c 0 [] [])=wJ:=by rw[tx.eq_def];simp
     rw[e] at F fin;rw[ae,aW];intro bb hbb;rw[ai,sax];refine dm (ss:=[wJ]) X1 hbb (by simpa using F.2) (by simp) fun u2 s2 k2 Y G=>?_
     refine rR ⟨[],[],[],[],[],[]⟩ rfl af rfl ?_;rw[aj,ep];exact fin u2 s2 k2 (by simpa using Y) G
   | name _ _ _ h0=>
     iterate 5 (rw[ah,if_neg (by simp[go_sem])])
     rw[ah,if_pos (by simp[go_sem])];rw[EH] at F fin;rw[ae,aW];intro bb hbb;rw[ai,sax];refine dm (ss:=[x]) X1 hbb (by simpa using F.2) (by simp) fun u2 s2 k2 Y G=>?_
     refine rR ⟨[],[],[],[],[],[]⟩ rfl af rfl ?_;rw[aj,ep];exact fin u2 s2 k2 (by simpa using Y) G
   | call _ _ _ h0 _ hk=>
     iterate 6 (rw[ah,if_neg (by simp[go_sem])])
     rw[ah,if_pos (by simp[go_sem])];rw[EG] at F fin;rw[ae,aW];intro bb hbb;rw[ai,sax];refine dm (ss:=[x,[40]]) X1 hbb (F.p0 (b:=x++[40]) (c:=oN ks++[41]) (by simp)) (by simp) fun u2 s2 k2 X2 G2=>?_
     refine rR ⟨[],[],[],[],[],[]⟩ rfl af rfl ?_;rw[ai,sb2];have R2:=R.go X1.prn G2;refine⟨b,lsl,l,u2,s2,inn,_,p+1,ks,s,rfl,X2,PK,hk,hn',R2,hl,?_,fun u3 s3 k3 X3 G3=>?_⟩
     . simpa using F.sub (a:=x++[40]) (b:=oN ks) (c:=[41]) (by simp)
     refine rR ⟨[],[],[],[],[],[]⟩ rfl af rfl ?_;rw[ae,aW];intro b3 hb3;rw[ai,sax];refine dm (ss:=[[41]]) X3 hb3 (by simpa using F.put (a:=x++(40::oN ks)) (b:=[41]) (c:=[]) (by simp)) (by simp) fun u4 s4 k4 X4 G4=>?_
     refine rR ⟨[],[],[],[],[],[]⟩ rfl af rfl ?_;rw[aj,ep];exact fin u4 s4 k4 (by simpa using X4) ((G2.trans G3 X2.prn.nn).trans G4 X3.prn.nn)
   | index _ _ a a2 w1 w2=>
     iterate 7 (rw[ah,if_neg (by simp[go_sem])])
     rw[ah,if_pos (by simp[go_sem])];rw[zN] at F fin;obtain⟨P1,PK2⟩:=PK.cons;have P2:=PK2.cons.1;have hR:iy k1 s [((p+1:Nat):Int),((p+1+a.n:Nat):Int)]:=by simpa[places] using R
     rw[aI,aI,bF] at hn';have hs2:s.n=2:=hR.n;obtain⟨q0,y0,hq0,hr0⟩:=hR.read (j:=0) (by simp);rw[ag];refine⟨by simp[go_sem,hq0]<;>omega,?_⟩;refine rL ⟨[((p+1:Nat):Int)],[],[],[],[],[]⟩ rfl af (by simpa[go_sem,hq0] using hr0) ?_;rw[ai,say];refine⟨b,lsl,l,used,sl,inn,acc,p+1,a,8,rfl,X1,P1,w1,by omega,hl,?_,fun u2 s2 k2 X2 G2=>?_⟩
     . simpa using F.sub (a:=[]) (b:=brk (decide (a.lv<8)) (tx a)) rfl
     refine rR ⟨[],[],[],[],[],[]⟩ rfl af rfl ?_;rw[ae,aW];intro b2 hb2;rw[ai,sax];refine dm (ss:=[[91]]) X2 hb2 (by simpa using F.put (a:=brk (decide (a.lv<8)) (tx a)) (b:=[91]) (c:=tx a2++[93]) (by simp)) (by simp) fun u3 s3 k3 X3 G3=>?_
     refine rR ⟨[],[],[],[],[],[]⟩ rfl af rfl ?_;have hR3:=(hR.go X1.prn G2).go X2.prn G3;obtain⟨q1,y1,hq1,hr1⟩:=hR3.read (j:=1) (by simp);rw[ag];refine⟨by simp[go_sem,hq1]<;>omega,?_⟩;refine rL ⟨[((p+1+a.n:Nat):Int)],[],[],[],[],[]⟩ rfl af (by simpa[go_sem,hq1] using hr1) ?_;rw[ai,san];refine⟨b,lsl,l,u3,s3,inn,_,p+1+a.n,a2,rfl,X3,P2,w2,by omega,hl,?_,fun u4 s4 k4 X4 G4=>?_⟩
     . simpa using F.sub (a:=brk (decide (a.lv<8)) (tx a)++[91]) (b:=tx a2) (c:=[93]) (by simp)
     refine rR ⟨[],[],[],[],[],[]⟩ rfl af rfl ?_;rw[ae,aW];intro b4 hb4;rw[ai,sax];refine dm (ss:=[[93]]) X4 hb4 (by simpa using F.put (a:=brk (decide (a.lv<8)) (tx a)++(91::tx a2)) (b:=[93]) (c:=[]) (by simp)) (by simp) fun u5 s5 k5 X5 G5=>?_
     refine rR ⟨[],[],[],[],[],[]⟩ rfl af rfl ?_;rw[aj,ep];exact fin u5 s5 k5 (by simpa using X5) (((G2.trans G3 X2.prn.nn).trans G4 X3.prn.nn).trans G5 X4.prn.nn)
   | dot _ _ _ h0 a w1=>
     iterate 8 (rw[ah,if_neg (by simp[go_sem])])
     rw[ah,if_pos (by simp[go_sem])];rw[LX] at F fin;obtain⟨P1,_⟩:=PK.cons;have hR:iy k1 s [((p+1:Nat):Int)]:=by simpa[places] using R
     rw[aI,bF] at hn';have hs2:s.n=1:=hR.n;obtain⟨q0,y0,hq0,hr0⟩:=hR.read (j:=0) (by simp);rw[ag];refine⟨by simp[go_sem,hq0]<;>omega,?_⟩;refine rL ⟨[((p+1:Nat):Int)],[],[],[],[],[]⟩ rfl af (by simpa[go_sem,hq0] using hr0) ?_;rw[ai,say];refine⟨b,lsl,l,used,sl,inn,acc,p+1,a,8,rfl,X1,P1,w1,by omega,hl,?_,fun u2 s2 k2 X2 G2=>?_⟩
     . simpa using F.sub (a:=[]) (b:=brk (decide (a.lv<8)) (tx a)) rfl
     refine rR ⟨[],[],[],[],[],[]⟩ rfl af rfl ?_;rw[ae,aW];intro b2 hb2;rw[ai,sax];refine dm (ss:=[[46],x]) X2 hb2 (by simpa using F.put (a:=brk (decide (a.lv<8)) (tx a)) (b:=46::x) (c:=[]) (by simp)) (by simp) fun u3 s3 k3 X3 G3=>?_
     refine rR ⟨[],[],[],[],[],[]⟩ rfl af rfl ?_;rw[aj,ep];exact fin u3 s3 k3 (by simpa using X3) (G2.trans G3 X2.prn.nn)
   | un _ _ _ h0 a w1=>
     iterate 9 (rw[ah,if_neg (by simp[go_sem])])
     rw[ah,if_pos (by simp[go_sem])];rw[Xe] at F fin;obtain⟨P1,_⟩:=PK.cons;have hR:iy k1 s [((p+1:Nat):Int)]:=by simpa[places] using R
     rw[aI,bF] at hn';have hs2:s.n=1:=hR.n;have go:∀ g:UInt8,Fits acc (g::brk (decide (a.lv<7)) (tx a))->Writes k1 b lsl l sl inn (acc++(g::brk (decide (a.lv<7)) (tx a))) φ->∀ (u2:Bool) (s2:bM) (k2:Hp),zV k2 b lsl l u2 s2 inn (acc++[g])->wF k1 k2 b sl s2->∀ (i:List Int) (s3:bM) (M:Nat->Nat),i.length=6->
      Then E (.N (.X (.c 0) (.x 1)) (.O (.el (.x 1) (.c 0) 1 0) 1 [.J 6] ⟨1,0,0,0,0,0⟩
       (.V 57 [.P 0,.J 6,(.I (.c 7))] .E))) ⟨i,[],[[]],[],[lsl,s,s3],[some (b,0)],k2,M⟩:=by
      intro g F fin u2 s2 k2 X2 G2 i s3 M hi;obtain⟨i0,i1,i2,i3,i4,i5,rfl⟩:∃ i0 i1 i2 i3 i4 i5,i=[i0,i1,i2,i3,i4,i5]:=by
       match i,hi with
       | [i0,i1,i2,i3,i4,i5],_=>exact⟨i0,i1,i2,i3,i4,i5,rfl⟩
      obtain⟨q0,y0,hq0,hr0⟩:=(hR.go X1.prn G2).read (j:=0) (by simp);rw[ag];refine⟨by simp[go_sem,hq0]<;>omega,?_⟩;refine rL ⟨[((p+1:Nat):Int)],[],[],[],[],[]⟩ rfl af (by simpa[go_sem,hq0] using hr0) ?_;rw[ai,say];refine⟨b,lsl,l,u2,s2,inn,_,p+1,a,7,rfl,X2,P1,w1,by omega,hl,?_,fun u4 s4 k4 X4 G4=>?_⟩
      . simpa using F.sub (a:=[g]) (b:=brk (decide (a.lv<7)) (tx a)) (c:=[]) (by simp)
      refine rR ⟨[],[],[],[],[],[]⟩ rfl af rfl ?_;rw[aj,ep];exact fin u4 s4 k4 (by simpa using X4) (G2.trans G4 X2.prn.nn)
     rw[ae,aW];intro bb hbb;rw[ai,sax];rcases h0 with rfl | rfl
     . rw[if_pos rfl] at F fin;refine dm (ss:=[[45]]) X1 hbb (by simpa using F.put (a:=[]) (b:=[45]) (c:=brk (decide (a.lv<7)) (tx a)) rfl) (by simp) fun u2 s2 k2 X2 G2=>?_
       refine rR ⟨[],[],[],[],[],[]⟩ rfl af rfl ?_;exact go 45 F fin u2 s2 k2 (by simpa using X2) G2 _ _ _ rfl
     . rw[if_neg (by decide)] at F fin;refine dm (ss:=[[33]]) X1 hbb (by simpa using F.put (a:=[]) (b:=[33]) (c:=brk (decide (a.lv<7)) (tx a)) rfl) (by simp) fun u2 s2 k2 X2 G2=>?_
       refine rR ⟨[],[],[],[],[],[]⟩ rfl af rfl ?_;exact go 33 F fin u2 s2 k2 (by simpa using X2) G2 _ _ _ rfl
   | bin _ _ _ h0 a a2 w1 w2=>
     iterate 10 (rw[ah,if_neg (by simp[go_sem])])
     rw[ah,if_pos (by simp[go_sem])];rw[LV] at F fin;obtain⟨P1,PK2⟩:=PK.cons;have P2:=PK2.cons.1;have hR:iy k1 s [((p+1:Nat):Int),((p+1+a.n:Nat):Int)]:=by simpa[places] using R
     rw[aI,aI,bF] at hn';rw[ai,sah];refine⟨b,lsl,l,used,sl,inn,acc,⟨31,ln,c,((Tr.ns [a,a2]:Nat):Int),nn,[]⟩,p+1,a,a2,s,rfl,X1,P1,P2,w1,w2,by omega,by omega,hR,hl,F,fun u2 s2 k2 X2 G2=>?_⟩;refine rR ⟨[],[],[],[],[],[]⟩ rfl af rfl ?_;rw[aj,ep];exact fin u2 s2 k2 X2 G2
   | make _ _ l' c' z h0=>
     iterate 11 (rw[ah,if_neg (by simp[go_sem])])
     rw[ah,if_pos (by simp[go_sem])];rw[qG] at F fin;obtain⟨P1,PK2⟩:=PK.cons;rw[aI,bF] at hn';have hs2:=R.n;rw[dn,List.length_cons] at hs2;have hsc:=R.c;rw[places] at R;obtain⟨q0,y0,hq0,hr0⟩:=R.read (j:=0) (by simp);have hwk:E5 (Tr.nd 19 l' c' 0 z []):=.big _ _ _ h0;have hkp:mQ l 1000000 (p+1)=some (qU (Tr.nd 19 l' c' 0 z [])):=jk hwk P1 (by have:=P1.lt;omega);generalize qU (Tr.nd 19 l' c' 0 z [])=kt at F fin hkp;rw[ag];refine⟨by simp[go_sem,hq0]<;>omega,?_⟩;refine rL ⟨[((p+1:Nat):Int)],[],[],[],[],[]⟩ rfl af (by simpa[go_sem,hq0] using hr0) ?_;rw[ai,sa0];refine⟨b,lsl,l,p+1,kt,_,_,rfl,X1.prn.at_,X1.row,hl,hkp,?_,?_⟩
     . have:=(F.sub (a:=fZ++[32]) (b:=kt) (c:=40::(oN []++[41])) (by simp)).1;omega
     refine rR ⟨[],[],[kt],[],[],[]⟩ rfl af rfl ?_;rw[ae,aW];intro bb hbb;rw[ai,sax];refine dm (ss:=[[109,97,107,101,32],kt,[40]]) X1 hbb (F.p0 (b:=fZ++(32::(kt++[40]))) (c:=oN []++[41]) (by simp)) (by simp) fun u2 s2 k2 X2 G2=>?_
     refine rR ⟨[],[],[],[],[],[]⟩ rfl af rfl ?_;rw[ag];refine⟨by simp[go_sem]<;>omega,?_⟩;rw[ai,sb2];have R2:=(R.tail.go X1.prn G2);rw[show (((p+1:Nat):Int)+((Tr.nd 19 l' c' 0 z []).n:Nat))=((p+1+(Tr.nd 19 l' c' 0 z []).n:Nat):Int) by omega] at R2;refine⟨b,lsl,l,u2,s2,inn,_,p+1+(Tr.nd 19 l' c' 0 z []).n,[],⟨if s.c=1 then s.a else s.a.map fun x=>(x.1,x.2+1*1),s.n - 1,s.c - 1⟩,?_,X2,PK2,.nil,by rw[bF];omega,R2,hl,?_,fun u3 s3 k3 X3 G3=>?_⟩
     . rfl
     . exact F.sub (a:=fZ++(32::(kt++[40]))) (b:=oN []) (c:=[41]) (by simp)
     refine rR ⟨[],[],[],[],[],[]⟩ rfl af rfl ?_;rw[ae,aW];intro b3 hb3;rw[ai,sax];refine dm (ss:=[[41]]) X3 hb3 (by simpa[fZ] using F.put (a:=fZ++(32::(kt++(40::oN [])))) (b:=[41]) (c:=[]) (by simp)) (by simp) fun u4 s4 k4 X4 G4=>?_
     refine rR ⟨[],[],[],[],[],[]⟩ rfl af rfl ?_;rw[aj,ep];exact fin u4 s4 k4 (by simpa[fZ] using X4) ((G2.trans G3 X2.prn.nn).trans G4 X3.prn.nn)
   | makes _ _ l' c' t ht bb2 w2=>
     iterate 11 (rw[ah,if_neg (by simp[go_sem])])
     rw[ah,if_pos (by simp[go_sem])];rw[qG] at F fin;obtain⟨P1,PK2⟩:=PK.cons;rw[aI,aI,bF] at hn';have hs2:=R.n;rw[dn,List.length_cons] at hs2;have hsc:=R.c;rw[places] at R;obtain⟨q0,y0,hq0,hr0⟩:=R.read (j:=0) (by simp);have hwk:E5 (Tr.nd 20 l' c' 0 [] [t]):=.list _ _ _ ht;have hkp:mQ l 1000000 (p+1)=some (qU (Tr.nd 20 l' c' 0 [] [t])):=jk hwk P1 (by have:=P1.lt;omega);generalize qU (Tr.nd 20 l' c' 0 [] [t])=kt at F fin hkp;rw[ag];refine⟨by simp[go_sem,hq0]<;>omega,?_⟩;refine rL ⟨[((p+1:Nat):Int)],[],[],[],[],[]⟩ rfl af (by simpa[go_sem,hq0] using hr0) ?_;rw[ai,sa0];refine⟨b,lsl,l,p+1,kt,_,_,rfl,X1.prn.at_,X1.row,hl,hkp,?_,?_⟩
     . have:=(F.sub (a:=fZ++[32]) (b:=kt) (c:=40::(oN [bb2]++[41])) (by simp)).1;omega
     refine rR ⟨[],[],[kt],[],[],[]⟩ rfl af rfl ?_;rw[ae,aW];intro bb hbb;rw[ai,sax];refine dm (ss:=[[109,97,107,101,32],kt,[40]]) X1 hbb (F.p0 (b:=fZ++(32::(kt++[40]))) (c:=oN [bb2]++[41]) (by simp)) (by simp) fun u2 s2 k2 X2 G2=>?_
     refine rR ⟨[],[],[],[],[],[]⟩ rfl af rfl ?_;rw[ag];refine⟨by simp[go_sem]<;>omega,?_⟩;rw[ai,sb2];have R2:=(R.tail.go X1.prn G2);rw[show (((p+1:Nat):Int)+((Tr.nd 20 l' c' 0 [] [t]).n:Nat))=((p+1+(Tr.nd 20 l' c' 0 [] [t]).n:Nat):Int) by omega] at R2;refine⟨b,lsl,l,u2,s2,inn,_,p+1+(Tr.nd 20 l' c' 0 [] [t]).n,[bb2],⟨if s.c=1 then s.a else s.a.map fun x=>(x.1,x.2+1*1),s.n - 1,s.c - 1⟩,?_,X2,PK2,.cons _ _ w2 .nil,by rw[aI,bF];omega,R2,hl,?_,fun u3 s3 k3 X3 G3=>?_⟩
     . rfl
     . exact F.sub (a:=fZ++(32::(kt++[40]))) (b:=oN [bb2]) (c:=[41]) (by simp)
     refine rR ⟨[],[],[],[],[],[]⟩ rfl af rfl ?_;rw[ae,aW];intro b3 hb3;rw[ai,sax];refine dm (ss:=[[41]]) X3 hb3 (by simpa[fZ] using F.put (a:=fZ++(32::(kt++(40::oN [bb2])))) (b:=[41]) (c:=[]) (by simp)) (by simp) fun u4 s4 k4 X4 G4=>?_
     refine rR ⟨[],[],[],[],[],[]⟩ rfl af rfl ?_;rw[aj,ep];exact fin u4 s4 k4 (by simpa[fZ] using X4) ((G2.trans G3 X2.prn.nn).trans G4 X3.prn.nn)
def BC:Fm:=(.need (.not (.eqI (.cnt (.x 0)) (.c 0))) (.X (.c 0) (.x 0))
 (.need (.not (.eqI (.cnt (.x 0)) (.c 0))) (.nns (.x 0))
 (.load (.not (.eqI (.cnt (.x 0)) (.c 0))) (.el (.x 0) (.c 0) 6 3) 1 [.J 0] ⟨1,0,0,0,0,0⟩
 (.need (.not (.eqI (.cnt (.x 0)) (.c 0))) (.R (.sub (.cnt (.x 0)) (.c 1)))
 (.ite (.or (.eqI (.cnt (.x 0)) (.c 0)) (.not (.eqI (.x 0) (.sub (.cnt (.x 0)) (.c 1)))))
 (.ret (.p (.one (.b (.c false)))))
 (.loop 0 ⟨[(.c 0)],[(.c false)],[],[],[.nil],[]⟩
 (.ite (.lt (.x 1) (.cnt (.x 0)))
 (.N (.X (.x 1) (.x 0))
 (.O (.el (.x 0) (.x 1) 6 0) 6 [.U 2,.J 3,.J 4,.J 5,.J 6,(.s (.x 0))] ⟨5,0,1,0,0,0⟩
 (.loop 1 ⟨[],[],[],[],[(.x 1)],[]⟩
 (.need (.lt (.c 0) (.cnt (.x 2))) (.R (.sub (.cnt (.x 2)) (.c 1)))
 (.need (.lt (.c 0) (.cnt (.x 2))) (.X (.sub (.cnt (.x 2)) (.c 1)) (.x 2))
 (.load (.lt (.c 0) (.cnt (.x 2))) (.el (.x 2) (.sub (.cnt (.x 2)) (.c 1)) 1 0) 1 [.J 7] ⟨1,0,0,0,0,0⟩
 (.ite (.and (.lt (.c 0) (.cnt (.x 2))) (.eqI (.x 7) (.x 1)))
 (.N (.R (.sub (.cnt (.x 2)) (.c 1)))
 (.N (.and (.and (.le (.c 0) (.sub (.cnt (.x 2)) (.c 1))) (.le (.sub (.cnt (.x 2)) (.c 1)) (.cap (.x 2)))) (.and (.le (.c 0) (.c 0)) (.le (.c 0) (.sub (.cnt (.x 2)) (.c 1)))))
 (.again 1 ⟨7,1,1,0,2,0⟩ ⟨7,1,1,0,3,0⟩ ⟨[],[],[],[],[(.sub (.x 2) (.c 0) (.sub (.cnt (.x 2)) (.c 1)) 1)],[]⟩)))
 (.need (.not (.lt (.x 5) (.c 0))) (.R (.sub (.cnt (.x 0)) (.c 1)))
 (.need (.not (.lt (.x 5) (.c 0))) (.R (.sub (.sub (.cnt (.x 0)) (.c 1)) (.x 1)))
 (.ite (.or (.lt (.x 5) (.c 0)) (.lt (.sub (.sub (.cnt (.x 0)) (.c 1)) (.x 1)) (.x 5)))
 (.ret (.p (.one (.b (.c false)))))
 (.N (.R (.add (.x 1) (.c 1)))
 (.N (.R (.add (.add (.x 1) (.c 1)) (.x 5)))
 (.need (.lt (.c 0) (.cnt (.x 2))) (.R (.sub (.cnt (.x 2)) (.c 1)))
 (.need (.lt (.c 0) (.cnt (.x 2))) (.X (.sub (.cnt (.x 2)) (.c 1)) (.x 2))
 (.load (.lt (.c 0) (.cnt (.x 2))) (.el (.x 2) (.sub (.cnt (.x 2)) (.c 1)) 1 0) 1 [.J 8] ⟨1,0,0,0,0,0⟩
 (.ite (.and (.lt (.c 0) (.cnt (.x 2))) (.lt (.x 8) (.add (.add (.x 1) (.c 1)) (.x 5))))
 (.ret (.p (.one (.b (.c false)))))
 (.mk [(.i .i64 (.add (.add (.x 1) (.c 1)) (.x 5)))] 3 1
 (.app (.x 2) (.x 3) 1 8 3
 (.N (.R (.add (.x 1) (.c 1)))
 (.again 0 ⟨1,0,0,0,1,0⟩ ⟨2,1,0,0,2,0⟩ ⟨[(.add (.x 1) (.c 1))],[(.x 0)],[],[],[(.x 4)],[]⟩))))))))))))))))))))
 (.ret (.p (.one (.b (.c true))))))))))))
theorem JY:aU ⟨true,[]⟩ Tryz.prog (fun l=>([⟨[3,2,22],[23,24,25,26,5,4,27,28,29,30,31,32,33,34,35,36,37,38,39,40,41,42,43,44,45,46,47,48,49,50,51,52,53,54,55,56,57,58,59,60,61,62,6,63,64,65,66,67,68,69,70,71,72,73,74,75,76,77,78,79,80],[5]⟩,⟨[3],[27,28,29,30,31,32,33,34,35,36,37,38,39,40,41,42,43,44],[]⟩]:List bG).getD l ⟨[],[],[]⟩) Tryz.f23=BC:=by kernel_rfl
theorem Rt:az Tryz.prog .zero Tryz.f23.params.toList=some ([.L 0],⟨0,0,0,0,1,0⟩):=by kernel_rfl
def gB (i:Int):List Int->List Int
 | []=>[]
 | e::st=>if e=i then gB i st else e::st
def dS (n:Int):Int->List Int->List Ng->Bool
 | _,_,[]=>true
 | i,st,x::l=>if x.z<0∨n - 1 - i<x.z then false else
   match gB i st with
   | []=>dS n (i+1) [i+1+x.z] l
   | e::st'=>if e<i+1+x.z then false else dS n (i+1) ((i+1+x.z)::e::st') l
def jo (l:List Ng):Bool:=match l with
 | []=>false
 | x::_=>decide (x.z=(l.length:Int) - 1)&&dS l.length 0 [] l
theorem qp (i:Int):∀ st,gB i (gB i st)=gB i st
 | []=>rfl
 | e::st=>by
   rw[gB];split
   . exact qp i st
   . rename_i h;rw[gB,if_neg h]
theorem iJ (n i:Int) (st:List Int):∀ l,dS n i (gB i st) l=dS n i st l
 | []=>rfl
 | x::l=>by rw[dS,dS,qp]
theorem Yh {h:Hp} {s s':bM} {xs:List Int} {x:Int} (ho:dC h s (ku (xs++[x])) 3 1) (hn:s.n=xs.length+1) (ha:s'.a=s.a) (hn':s'.n=xs.length) (hc:s'.c=s.c):dC h s' (ku xs) 3 1:=by
 rcases ho with ⟨rfl,hk⟩ | ⟨b,o,h1,h2,h3,h4,h5,h6,h7⟩
 . simp[ku] at hk
 . refine .inr ⟨b,o,ha.trans h1,h2,h3,by rw[hc];exact h4,by omega,by omega,?_⟩;have:(o.cs.take (s.n*1)).take xs.length=ku xs:=by rw[<- h7,tq,<- NV xs];exact List.take_left
   rw[<- this,List.take_take];congr 1;omega
theorem Vk {h:Hp} {s:bM} {xs:List Int} {x:Int} (ho:dC h s (ku (xs++[x])) 3 1) (hn:s.n=xs.length+1):∃ b,s.a=some (b,0)/\hread h (some (b,0+xs.length*1+0)) 1=some [.int .i64 x]:=by
 obtain⟨b,o,ha,hr⟩:=(iy.own ho (by simp[hn])).read (j:=xs.length) (by simp);rcases ho with ⟨rfl,hk⟩ | ⟨b2,o2,h1,_⟩
 . simp[ku] at hk
 . rw[h1] at ha;obtain⟨rfl,rfl⟩:b2=b/\0=o:=by simpa using ha
   exact⟨_,h1,by simpa using hr⟩
def IL (h:Hp) (sl:bM) (l:List Ng) (o:Nat) (C:Ctx):Prop:=
 match o with
 | 0=>∃ (j:Nat) (z:Int) (bb:Bool) (st:List Int) (s:bM) (k:Hp),C=⟨[z,j],[bb],[],[],[sl,s],[],k,cu⟩/\j<=l.length/\bY h k/\dC k s (ku st.reverse) 3 1/\s.n=st.length/\st.length<=j/\(∀ e∈st,0<=e/\e<=l.length)/\(∀ y,s.a=some y->h y.1=none)/\dS l.length 0 [] l=dS l.length j st (l.drop j)
 | _=>∃ (j:Nat) (z:Int) (bb:Bool) (st:List Int) (s s0:bM) (k:Hp) (x:Ng),C=⟨[z,j,x.k,x.l,x.c,x.z,x.n],[bb],[x.x],[],[sl,s0,s],[],k,cu⟩/\j<l.length/\l[j]? = some x/\bY h k/\dC k s (ku st.reverse) 3 1/\s.n=st.length/\st.length<=j/\(∀ e∈st,0<=e/\e<=l.length)/\(∀ y,s.a=some y->h y.1=none)/\dS l.length 0 [] l=dS l.length j st (l.drop j)
def CS (l:List Ng) (o:Nat) (C:Ctx):Nat:=match o with
 | 0=>((l.length:Int) - C.i.getD 1 0).toNat
 | _=>(C.l.getD 2 ⟨none,0,0⟩).n
theorem gz {E:Env} {C:Ctx} {g c:BE} {k:Fm} (h1:g.den C=true->c.den C=true) (h2:Then E k C):(Fm.need g c k).says E C:=⟨h1,h2⟩
theorem U7 {E:Env} {C:Ctx} {g:BE} {a:AE} {k:Fm} {n:Nat} {K:IntKind} (hn:C.i.length=n) (hex:g.den C=true->∃ v:Int,hread C.h (a.den C) 1=some [.int K v])
 (h:∀ v:Int,(g.den C=true->hread C.h (a.den C) 1=some [.int K v])->Then E k (C.push ⟨[v],[],[],[],[],[]⟩)):(Fm.load g a 1 [(.i K (.x n))] ⟨1,0,0,0,0,0⟩ k).says E C:=by
 rw[aT];split
 . rename_i hg;obtain⟨v,hv⟩:=hex hg;refine (bn _ _).2 ⟨⟨[v],[],[],[],[],[]⟩,rfl,af,?_,h v fun _=>hv⟩;rw[hv];simp[CE.den,IE.den,Ctx.push,hn]
 . rename_i hg;exact h 0 fun e=>absurd e hg
set_option maxHeartbeats 8000000 in
def jD:Ct Tryz.prog where
 f:=23
 spec:=fun args h φ=>∃ sl l,args=[bM.val sl]/\NG h sl l/\l.length<=1000000/\φ (.bool (jo l)) h
 ok:=by
  rintro args h φ w ⟨sl,l,rfl,R,hl,hφ⟩ hH;refine bQ (aZ Tryz.func23 JY Rt [] (fun v k=>∃ k',bY k' k/\φ v k') (IL h sl l) (fun o C=>CS l o C) ⟨[],[],[],[],[sl],[],h,cu⟩ ⟨rfl,rfl,rfl,rfl,rfl,rfl⟩ af ?_ w hH rfl);generalize hE:(⟨aG _,_,_,_⟩:Env)=E;have ep:E.post=(fun v k=>∃ k',bY k' k/\φ v k'):=by rw[<- hE]
  have ei:E.inv=(IL h sl l):=by rw[<- hE]
  have em:E.meas=(fun o C=>CS l o C):=by rw[<- hE]
  clear hE;unfold BC;have hn:=NG.n R;have fin:∀ (C:Ctx) (b:Bool),bY h C.h->φ (.bool b) h->Then E (.ret (.p (.one (.b (.c b))))) C:=by
   intro C b hC hb;rw[aj,ep];exact⟨h,hC,hb⟩
  cases hl0:l with
  | nil=>
    rw[hl0] at hn hφ;have hz:sl.n=0:=by simpa using hn
    rw[aA];refine⟨by simp[go_sem,hz],?_⟩;rw[ag];refine⟨by simp[go_sem,hz],?_⟩;rw[bP,if_neg (by simp[go_sem,hz]),ae,aA];refine⟨by simp[go_sem,hz],?_⟩;rw[ah,if_pos (by simp[go_sem,hz])];exact fin _ _ (fun _ _ h=>h) hφ
  | cons x0 r=>
    have hpos:0<l.length:=by rw[hl0];simp
    have hsn:sl.n≠0:=by omega
    have hRR:jo l=(decide (x0.z=(l.length:Int) - 1)&&dS l.length 0 [] l):=by rw[hl0];rfl
    rw[hRR] at hφ;obtain⟨b,o,ha⟩:=Rows.nn R (j:=0) (by omega);have hr0:=Rows.read (off:=3) (m:=1) R (j:=0) (by omega) (by omega) ha;rw[<- List.drop_drop,eP hpos,show l[0]=x0 by simp[hl0]] at hr0;clear hl0;rw[aA];refine⟨by simp[go_sem,ha,hsn]<;>omega,?_⟩;rw[ag];refine⟨by simp[go_sem,ha,hsn],?_⟩;rw[bP,if_pos (by simp[go_sem,hsn])];refine (bn _ _).2 ⟨⟨[x0.z],[],[],[],[],[]⟩,rfl,af,by simpa[go_sem,ha,Ng.cs] using hr0,?_⟩;rw[ag];refine⟨by simp[go_sem,hsn]<;>omega,?_⟩;by_cases hz:x0.z=(l.length:Int) - 1;rotate_left
    . rw[decide_eq_false hz] at hφ;rw[ah,if_pos (by simp[go_sem,hsn];omega)];exact fin _ _ (fun _ _ h=>h) hφ
    rw[decide_eq_true hz,Bool.true_and] at hφ;rw[ah,if_neg (by simp[go_sem,hsn];omega),ae];refine bH ?_ ?_
    . rw[ei];exact⟨0,x0.z,false,[],⟨none,0,0⟩,h,rfl,by omega,fun _ _ h=>h,.inl ⟨rfl,rfl⟩,rfl,by simp,by simp,fun y hy=>(by cases hy),rfl⟩
    rw[ei,em];rintro i bbs ss v ll pp hh M ⟨j,z,bb,st,s,k,hC,hj,hle,ho,hsn2,hstj,hse,hfr,hF⟩ hM;cases hC;have hM':M 0=((l.length:Int) - j).toNat:=hM;clear hM hr0;by_cases hjl:j<l.length;rotate_left
    . have hz2:¬ ((j:Int)<sl.n):=by omega
      rw[ak,if_neg (by simpa[go_sem] using hz2)];rw[List.drop_eq_nil_of_le (by omega),dS] at hF;rw[hF] at hφ;exact fin _ _ hle hφ
    have hz2:((j:Int)<sl.n):=by omega
    have R1:=NG.le R hle;have hnd:=NG.node R1 hjl ha;have hlj:l[j]? = some l[j]:=List.getElem?_eq_getElem hjl;rw[List.drop_eq_getElem_cons hjl] at hF;rw[ak,if_pos (by simpa[go_sem] using hz2)];rw[ag];refine⟨by simp[go_sem,ha]<;>omega,?_⟩;generalize l[j]=x at *;refine rL ⟨[x.k,x.l,x.c,x.z,x.n],[],[x.x],[],[],[]⟩ rfl af (by simpa[go_sem,ha,Ng.cs] using hnd) ?_;rw[ae];refine xm ?_ ?_
    . rw[ei];exact⟨j,z,bb,st,s,s,hh,x,rfl,hjl,hlj,hle,ho,hsn2,hstj,hse,hfr,by rw[List.drop_eq_getElem_cons hjl,show l[j]=x from Option.some.inj ((List.getElem?_eq_getElem hjl).symm.trans hlj)];exact hF⟩
    rintro⟨xi,xb,xs,xv,xl,xp⟩ h' M' hc hinv hm hM1;rw[ei] at hinv;rw[em] at hm;clear hF hfr hse hstj hsn2 ho hle R1 hnd;obtain⟨j2,z2,bb2,st,s,s0,k,x2,hC,q1,q2,hle,ho,hsn2,hstj,hse,hfr,hF⟩:=hinv;simp[Ctx.push,Ctx.heap,Ctx.bare] at hC;obtain⟨⟨rfl,hj2,e1,e2,e3,e4,e5,rfl⟩,⟨rfl,rfl⟩,⟨e6,rfl⟩,rfl,⟨rfl,rfl⟩,rfl,rfl⟩:=hC;obtain rfl:j2=j:=by omega
    clear q1 q2 e1 e2 e3 e4 e5 e6 hj2 hc x2;have hm':M' 1=s.n:=hm;have hM0:M' 0=((l.length:Int) - j2).toNat:=(hM1 0 (by decide)).trans hM';clear hm hM1 hM';rw[List.drop_eq_getElem_cons hjl,show l[j2]=x from Option.some.inj ((List.getElem?_eq_getElem hjl).symm.trans hlj)] at hF;have hx63:s.n<=1000000:=by omega
    have hsc:s.n<=s.c:=(iy.own ho (by simp[hsn2])).c;have top:∀ e st',st=e::st'->∃ b,s.a=some (b,0)/\hread h' (some (b,0+st'.length*1+0)) 1=some [.int .i64 e]:=fun e st' hs=>by
     rw[hs,List.reverse_cons] at ho;have:=Vk ho (by rw[hsn2,hs];simp);simpa using this
    have some1:0<s.n->∃ e st',st=e::st':=fun h0=>List.exists_cons_of_length_pos (by omega)
    have lastE:0<s.n->∃ v:Int,hread h' (s.a.map fun x=>(x.1,x.2+((s.n:Int) - 1).toNat*1+0)) 1=some [.int .i64 v]/\∀ u,hread h' (s.a.map fun x=>(x.1,x.2+((s.n:Int) - 1).toNat*1+0)) 1=some [.int .i64 u]->∀ e st',st=e::st'->u=e:=fun h0=>by
     obtain⟨e,st',hs⟩:=some1 h0;obtain⟨b2,hb2,hr2⟩:=top e st' hs;have hn1:((s.n:Int) - 1).toNat=st'.length:=by rw[hsn2,hs];simp
     rw[hb2,hn1];refine⟨e,hr2,fun u hu e2 st2 hs2=>?_⟩;have hu':hread h' (some (b2,0+st'.length*1+0)) 1=some [.int .i64 u]:=hu;rw[hr2] at hu';rw[hs] at hs2;cases hs2;simpa using hu'.symm
    have nns:0<s.n->s.a.isSome=true:=fun h0=>by
     obtain⟨e,st',hs⟩:=some1 h0;obtain⟨b2,hb2,hr2⟩:=top e st' hs;rw[hb2];rfl
    refine gz (fun g => by     have:0<s.n:=by simpa[go_sem] using g
                               simp[go_sem];omega) ?_
    rw[ae]
    refine gz (fun g => by     have h0:0<s.n:=by simpa[go_sem] using g
                               simp[go_sem,nns h0];omega) ?_
    rw[ae];refine U7 rfl (fun g=>?_) fun v hv=>?_
    . have h0:0<s.n:=by simpa[go_sem] using g
      obtain⟨v,hv,_⟩:=lastE h0;exact⟨v,hv⟩
    have hv':∀ e st',st=e::st'->v=e:=fun e st' hs=>by
     have h0:0<s.n:=by rw[hsn2,hs];simp
     obtain⟨_,_,hu⟩:=lastE h0;exact hu v (hv (by simpa[go_sem] using h0)) e st' hs
    clear hv;by_cases hp:∃ st',st=(j2:Int)::st'
    . obtain⟨st',hs⟩:=hp;have hvj:=hv' _ _ hs;subst hvj;have h0:0<s.n:=by rw[hsn2,hs];simp
      rw[ah,if_pos (by simp[go_sem,h0])];rw[ag];refine⟨by simp[go_sem]<;>omega,?_⟩;rw[ae];refine gz (fun _=>by simp[go_sem];omega) ?_;rw[ae,says_again,ei,em];refine⟨⟨j2,z,bb,st',_,_,h',x,rfl,hjl,hlj,hle,Yh (s:=s) (x:=(j2:Int)) (by rw[hs] at ho;simpa using ho) (by rw[hsn2,hs];simp) ?_ ?_ ?_,?_,by rw[hs] at hstj;simp at hstj;omega,fun e he=>hse e (by rw[hs];simp[he]),fun y hy=>hfr y ?_,?_⟩,?_⟩
      . show (if s.c=0 then s.a else s.a.map fun x=>(x.1,x.2+0*1))=s.a;split
        . rfl
        . cases s.a<;>simp
      . show (((s.n:Int) - 1).toNat - 0)=_;rw[hsn2,hs];simp
      . rfl
      . show (((s.n:Int) - 1).toNat - 0)=_;rw[hsn2,hs];simp
      . have:(if s.c=0 then s.a else s.a.map fun x=>(x.1,x.2+0*1))=s.a:=by
         split
         . rfl
         . cases s.a<;>simp
        rw[<- this];exact hy
      . rw[List.drop_eq_getElem_cons hjl,show l[j2]=x from Option.some.inj ((List.getElem?_eq_getElem hjl).symm.trans hlj),hF,<- iJ,hs,gB,if_pos rfl,iJ]
      . show (((s.n:Int) - 1).toNat - 0)<M' 1;omega
    have hpop:gB j2 st=st:=by
     cases st with
     | nil=>rfl
     | cons e st'=>rw[gB,if_neg (fun e2=>hp ⟨st',by rw[e2]⟩)]
    rw[ah,if_neg (fun g=>by
     have g':0<s.n/\v=(j2:Int):=by simpa[go_sem] using g
     obtain⟨e,st',hs⟩:=some1 g'.1;exact hp ⟨st',by rw[hs,<- hv' _ _ hs,g'.2]⟩),ae]
    clear hp;refine gz (fun _=>by simp[go_sem];omega) ?_;rw[ae];refine gz (fun _=>by simp[go_sem];omega) ?_;rw[dS,hpop] at hF;by_cases hbad:x.z<0\/(l.length:Int) - 1 - j2<x.z
    . rw[if_pos hbad] at hF;rw[hF] at hφ;rw[ah,if_pos (by simpa[go_sem,hn] using hbad)];exact fin _ _ hle hφ
    rw[if_neg hbad] at hF;rw[ah,if_neg (by simpa[go_sem,hn] using hbad),ae];refine gz (fun _=>by simp[go_sem];omega) ?_;rw[ae];refine gz (fun _=>by simp[go_sem];omega) ?_;rw[ae]
    refine gz (fun g => by     have:0<s.n:=by simpa[go_sem] using g
                               simp[go_sem];omega) ?_
    rw[ae]
    refine gz (fun g => by     have h0:0<s.n:=by simpa[go_sem] using g
                               simp[go_sem,nns h0];omega) ?_
    rw[ae];refine U7 rfl (fun g=>?_) fun v2 hv2=>?_
    . have h0:0<s.n:=by simpa[go_sem] using g
      obtain⟨v,hv,_⟩:=lastE h0;exact⟨v,hv⟩
    have hv2':∀ e st',st=e::st'->v2=e:=fun e st' hs=>by
     have h0:0<s.n:=by rw[hsn2,hs];simp
     obtain⟨_,_,hu⟩:=lastE h0;exact hu v2 (hv2 (by simpa[go_sem] using h0)) e st' hs
    clear hv2;by_cases hlow:0<s.n/\v2<(j2:Int)+1+x.z
    . obtain⟨e,st',hs⟩:=some1 hlow.1;rw[hs] at hF;simp only at hF;have:=hv2' _ _ hs;rw[if_pos (by omega)] at hF;rw[hF] at hφ;rw[ah,if_pos (by simpa[go_sem] using hlow)];exact fin _ _ hle hφ
    have hF2:dS l.length 0 [] l=dS l.length (j2+1:Int) (((j2:Int)+1+x.z)::st) (l.drop (j2+1)):=by
     rw[hF];cases st with
     | nil=>rfl
     | cons e st'=>
       have:=hv2' _ _ rfl;have h0:0<s.n:=by rw[hsn2];simp
       simp only;rw[if_neg (fun h=>hlow ⟨h0,by omega⟩)]
    rw[ah,if_neg (by simpa[go_sem] using hlow)];rw[ae,aW];intro b2 hb2;have hb2':h' b2=none:=hb2;rw[ae,bT];have hle2:=dU hb2' ⟨[Value.int .i64 ((j2:Int)+1+x.z)],3⟩;refine⟨ku st.reverse,ku [(j2:Int)+1+x.z],uM ho hle2,.inr ⟨by simp[go_sem],?_⟩,?_,?_,?_,?_⟩
    . simp[go_sem,ku]
    . intro u hu;simp[ku] at hu;subst hu;rfl
    . show s.n+1<=maxLen;unfold maxLen;omega
    . show (s.n+1)*8<=_;omega
    intro s3 k3 g1 g2 g3 g4;have g2':s3.n=s.n+1:=g2;have hle3:bY h k3:=fun c oo hc=>g4 c oo (fun y hy e=>by
     have:=hfr y hy;rw[e,hc] at this;cases this) (hle2 _ _ (hle _ _ hc))
    rw[aA];refine⟨by simp[go_sem];omega,?_⟩;rw[ae,says_again,ei,em];refine⟨⟨j2+1,z,bb,((j2:Int)+1+x.z)::st,s3,k3,rfl,by omega,hle3,by rw[List.reverse_cons,tq];exact g1,by rw[g2',hsn2];rfl,by simp;omega,fun e he=>?_,fun q hq=>?_,hF2⟩,?_⟩
    . rcases List.mem_cons.1 he with rfl | he
      . omega
      . exact hse e he
    . rcases g3 q hq with ⟨q2,hq2,e⟩ | hn2
      . rw[<- e];exact hfr q2 hq2
      . cases hh2:h q.1 with
        | none=>rfl
        | some oo=>
          have:(h'.set b2 ⟨[Value.int .i64 ((j2:Int)+1+x.z)],3⟩) q.1=none:=hn2;rw[hle2 _ _ (hle _ _ hh2)] at this;cases this
    . show (((l.length:Int) - ((j2:Int)+1)).toNat)<M' 0;omega
theorem Ja (s:List UInt8) (w:World):Calls Tryz.prog 118 #[.string (B s)] w fun e w'=>e=.returned (.bool (gW s))/\Below w.heap.size w w':=by
 have:=xR.ok [.string (B s)] (fun _=>none) (fun v _=>v=.bool (gW s)) w ⟨s,rfl,rfl⟩ (fun b o h=>by cases h);refine this.mono ?_;rintro e w' ⟨v,k,rfl,rfl,_,F⟩;exact⟨rfl,F.os,F.tape,F.output,F.size,fun i hi=>F.block i hi (.none rfl)⟩
theorem NW (n:Int):inB n=true↔(97<=n/\n<=122)\/n=95\/(65<=n/\n<=90)\/(48<=n/\n<=57):=by
 unfold inB jb;rw[decide_eq_true_iff];split
 . constructor<;>intro h<;>omega
 . split
   . constructor<;>intro h<;>omega
   . split
     . constructor<;>intro h<;>omega
     . constructor<;>intro h<;>omega
def aS (p:Int->Bool) (s:List UInt8):Bool:=match s with
 | []=>false
 | c::_=>p c.toNat&&(!gW s&&s.all fun c=>inB c.toNat)
set_option maxHeartbeats 4000000 in
set_option maxRecDepth 1000000 in
theorem vT (g:FuncId) (p:Int->Bool) (hg:∀ (c:Int) w,0<=c->c<=255->Calls Tryz.prog g #[.int .u8 c] w fun e w'=>e=.returned (.bool (p c))/\w'=w) (he:∀ args w,(callFunc g args).run Tryz.prog w=.ok (.enter g args) w) (l:List UInt8) (w:World):
 Calls Tryz.prog 129 #[.string (B l),.func (.func g) #[] #[]] w fun e w'=>e=.returned (.bool (aS p l))/\Below w.heap.size w w':=by
 cases l with
 | nil=>
   have hB0:(B []).toList.isEmpty=true:=by rw[fF];rfl
   go_enter Tryz.func129,Tryz.ntmps129
   go_wp2
   go_ret
   exact⟨rfl,Below.refl _ _⟩
 | cons c r=>
   have hB0:(B (c::r)).toList.isEmpty=false:=by rw[fF];rfl
   have hg0:∀ h,(B (c::r))[0]'h=c:=fun h=>UInt8.toNat.inj (by have:=rX (c::r) 0 h;rw[jS] at this;omega)
   have hc:=c.toNat_lt;have hgc:∀ w,Calls Tryz.prog g #[.int .u8 (c.toNat:Nat)] w fun e w'=>e=.returned (.bool (p (c.toNat:Nat)))/\w'=w:=fun w=>hg _ w (by omega) (by omega)
   have hcons:c::r=c::r:=rfl
   revert hcons
   generalize hs:c::r=s at *;intro hcons;have hpos:0<s.length:=by rw[<- hs];simp
   have hLB:aS p s=(p c.toNat&&(!gW s&&s.all fun c=>inB c.toNat)):=by rw[<- hs];rfl
   rw[hLB];cases hp:p c.toNat with
   | false=>
     rw[hp] at hgc
     go_enter Tryz.func129,Tryz.ntmps129
     go_wp2_with (refine (hgc _).mono ?_;rintro e w' ⟨rfl,rfl⟩)
     go_ret
     exact⟨rfl,Below.refl _ _⟩
   | true=>
     rw[hp] at hgc;cases hw:gW s with
     | true=>
       have hwd:=Ja s;rw[hw] at hwd;have e1:∀ args w,(callFunc 118 args).run Tryz.prog w=.ok (.enter 118 args) w:=enters_of Tryz.func118 (by kernel_rfl) rfl
       go_enter Tryz.func129,Tryz.ntmps129
       go_wp2_with (refine (hgc _).mono ?_;rintro e w' ⟨rfl,rfl⟩)
       refine (hwd _).mono ?_;rintro e w1 ⟨rfl,hb1⟩
       go_wp2
       go_ret
       exact⟨rfl,hb1⟩
     | false=>
       have hwd:=Ja s;rw[hw] at hwd;have e1:∀ args w,(callFunc 118 args).run Tryz.prog w=.ok (.enter 118 args) w:=enters_of Tryz.func118 (by kernel_rfl) rfl
       go_enter Tryz.func129,Tryz.ntmps129
       go_wp2_with (refine (hgc _).mono ?_;rintro e w' ⟨rfl,rfl⟩)
       refine (hwd _).mono ?_;rintro e w1 ⟨rfl,hb1⟩;have hsz1:=hb1.size
       go_wp2
       go_loopw [22,23] (fun _ _ wr=>∃ i:Nat,i<=s.length/\wr.heap[w1.heap.size]? = some (.stringIter (B s) i)/\Below w'.heap.size w' wr/\(s.take i).all (fun c=>inB c.toNat)=true) (fun _ _ wr=>s.length - wr.iterPos w1.heap.size)
       case atStart=>exact⟨0,by omega,World.iter_heap _ _ _,hb1.alloc hsz1 _,by simp⟩
       case round=>
        obtain⟨i,hil,hit,hB,hall⟩:=hrel;have hwx:w1.heap.size<wr.heap.size:=(Array.getElem?_eq_some_iff.1 hit).1;by_cases hi:i<s.length
        . have hiB:i<(B s).size:=by rw[dW];exact hi
          have hg:(B s)[i]'hiB=s[i]:=UInt8.toNat.inj (by have:=rX s i hiB;rw[bt,List.getD_eq_getElem?_getD,List.getElem?_eq_getElem hi,Option.getD_some] at this;omega);have hbad:∀ m,m=i->inB (s[i].toNat:Nat)=false->(s.all fun c=>inB c.toNat)=false:=fun m _ h=>by
           rw[List.all_eq_false];exact⟨s[i],List.getElem_mem hi,fun hh=>by rw[h] at hh;cases hh⟩
          have hgood:inB ((s[i].toNat:Nat):Int)=true->(s.take (i+1)).all (fun c=>inB c.toNat)=true:=fun h=>by
           rw[List.take_succ_eq_append_getElem hi,List.all_append,hall,List.all_cons,List.all_nil,Bool.and_true,Bool.true_and];exact h
          by_cases hx:s[i].toNat<128
          . have hnx:=fun ty=>Lib.run_next_ascii_at (P:=Tryz.prog) wr _ (B s) i ty hit hiB (by rw[hg];exact hx)
            rw[hg] at hnx;have hit2:=Lib.iterAt_heap wr w1.heap.size (B s) i (i+1) hit;have hB2:=Lib.below_iterAt hB (k:=w1.heap.size) hsz1 (B s) (i+1);generalize wr.iterAt w1.heap.size (B s) (i+1)=w2 at *;generalize s[i]=x at *;have hin:=NW ((x.toNat:Nat):Int);have hx0:(0:Int)<=x.toNat:=by omega
            cases hi2:inB ((x.toNat:Nat):Int) with
            | true=>
              have HA:=Lib.hid (hgood hi2);rw[hi2] at hin;have HI:=Lib.hid (hin.1 rfl);clear hgood hbad hg hall hin hi2
              go_wp2
              all_goals first
               | (exfalso;have:=HI.out;(try simp only[bne_iff_ne,ne_eq,bne_eq_false_iff_eq] at *);omega)
               | (go_roundw;(case rel=>exact⟨i+1,by omega,hit2,hB2,HA.out⟩);(case measure=>simp only[World.iterPos,hit2,hit];omega))
            | false=>
              have HA:=Lib.hid (hbad i rfl hi2);have HI:=Lib.hid (mt hin.2 (by rw[hi2];exact Bool.false_ne_true));clear hgood hbad hg hall hin hi2
              go_wp2
              all_goals first
               | (exfalso;have:=HI.out;(try simp only[bne_iff_ne,ne_eq,bne_eq_false_iff_eq] at *);omega)
               | (go_ret;exact⟨by rw[HA.out];rfl,hB2⟩)
          . have hnx:=fun ty=>Lib.run_next_any_at (P:=Tryz.prog) wr _ (B s) i ty hit hiB
            obtain⟨d1,d2⟩:=decode_high (B s) i hiB (by rw[hg];omega);have d3:=decode_le (B s) i;have hit2:=Lib.iterAt_heap wr w1.heap.size (B s) i (i+(Utf8.decode (B s) i).2) hit;have hB2:=Lib.below_iterAt hB (k:=w1.heap.size) hsz1 (B s) (i+(Utf8.decode (B s) i).2);have HA:=Lib.hid (hbad i rfl (by
             cases hq:inB ((s[i].toNat:Nat):Int) with
             | false=>rfl
             | true=>have:=(NW _).1 hq;omega))
            generalize Utf8.decode (B s) i=d at *;generalize wr.iterAt w1.heap.size (B s) (i+d.2)=w2 at *;clear hgood hbad hg hall
            go_wp2
            all_goals first
             | (exfalso;(try simp only[bne_iff_ne,ne_eq,bne_eq_false_iff_eq] at *);omega)
             | (go_ret;exact⟨by rw[HA.out];rfl,hB2⟩)
        . obtain rfl:i=s.length:=by omega
          have hnx:=fun ty=>Lib.run_next_end_at (P:=Tryz.prog) wr _ (B s) s.length ty hit (by rw[dW];omega)
          rw[List.take_length] at hall;have HA:=Lib.hid hall;clear hall
          go_wp2
          go_ret
          exact⟨by rw[HA.out];rfl,hB⟩
def G6:Fm:=(.C 129 [.S 0,(.one (.c (.fn 131)))] (.p (.B 0)) ⟨0,1,0,0,0,0⟩
 (.ret (.p (.B 0))))
theorem QF:aU ⟨true,[]⟩ Tryz.prog (fun l=>([]:List bG).getD l ⟨[],[],[]⟩) Tryz.f85=G6:=by kernel_rfl
theorem V4:az Tryz.prog .zero Tryz.f85.params.toList=some ([.S 0],⟨0,0,1,0,0,0⟩):=by kernel_rfl
def BA:Fm:=(.C 129 [.S 0,(.one (.c (.fn 130)))] (.p (.B 0)) ⟨0,1,0,0,0,0⟩
 (.ret (.p (.B 0))))
theorem JW:aU ⟨true,[]⟩ Tryz.prog (fun l=>([]:List bG).getD l ⟨[],[],[]⟩) Tryz.f84=BA:=by kernel_rfl
theorem Ro:az Tryz.prog .zero Tryz.f84.params.toList=some ([.S 0],⟨0,0,1,0,0,0⟩):=by kernel_rfl
def yB:Fm:=(.ite (.eqI (.x 0) (.c 2))
 (.C 84 [.S 0] (.p (.B 0)) ⟨0,1,0,0,0,0⟩
 (.ret (.p (.one (.b (.and (.x 0) (.eqI (.x 4) (.c 0))))))))
 (.ite (.eqI (.x 0) (.c 19))
 (.C 84 [.S 0] (.p (.B 0)) ⟨0,1,0,0,0,0⟩
 (.ret (.p (.one (.b (.and (.x 0) (.eqI (.x 4) (.c 0))))))))
 (.ite (.eqI (.x 0) (.c 3))
 (.C 85 [.S 0] (.p (.B 0)) ⟨0,1,0,0,0,0⟩
 (.ret (.p (.one (.b (.and (.x 0) (.eqI (.x 4) (.c 0))))))))
 (.ite (.eqI (.x 0) (.c 5))
 (.C 85 [.S 0] (.p (.B 0)) ⟨0,1,0,0,0,0⟩
 (.ret (.p (.one (.b (.and (.x 0) (.eqI (.x 4) (.c 0))))))))
 (.ite (.eqI (.x 0) (.c 7))
 (.C 85 [.S 0] (.p (.B 0)) ⟨0,1,0,0,0,0⟩
 (.ret (.p (.one (.b (.and (.x 0) (.eqI (.x 4) (.c 0))))))))
 (.ite (.eqI (.x 0) (.c 26))
 (.C 85 [.S 0] (.p (.B 0)) ⟨0,1,0,0,0,0⟩
 (.ret (.p (.one (.b (.and (.x 0) (.eqI (.x 4) (.c 0))))))))
 (.ite (.eqI (.x 0) (.c 27))
 (.C 85 [.S 0] (.p (.B 0)) ⟨0,1,0,0,0,0⟩
 (.ret (.p (.one (.b (.and (.x 0) (.eqI (.x 4) (.c 0))))))))
 (.ite (.eqI (.x 0) (.c 29))
 (.C 85 [.S 0] (.p (.B 0)) ⟨0,1,0,0,0,0⟩
 (.ret (.p (.one (.b (.and (.x 0) (.eqI (.x 4) (.c 0))))))))
 (.ite (.eqI (.x 0) (.c 4))
 (.C 85 [.S 0] (.p (.B 0)) ⟨0,1,0,0,0,0⟩
 (.ret (.p (.one (.b (.and (.x 0) (.le (.c 0) (.x 4))))))))
 (.ite (.eqI (.x 0) (.c 21))
 (.ret (.p (.one (.b (.and (.eqS (.x 0) (.c [])) (.le (.c 0) (.x 4)))))))
 (.ite (.eqI (.x 0) (.c 22))
 (.ret (.p (.one (.b (.and (.and (.eqS (.x 0) (.c [])) (.le (.c 0) (.x 4))) (.lt (.x 4) (.c 8388608)))))))
 (.ite (.eqI (.x 0) (.c 23))
 (.ret (.p (.one (.b (.eqI (.x 4) (.c 0))))))
 (.ite (.eqI (.x 0) (.c 24))
 (.ret (.p (.one (.b (.and (.eqS (.x 0) (.c [])) (.or (.eqI (.x 4) (.c 0)) (.eqI (.x 4) (.c 1))))))))
 (.ite (.eqI (.x 0) (.c 30))
 (.ret (.p (.one (.b (.and (.eqS (.x 0) (.c [])) (.or (.eqI (.x 4) (.c 12)) (.eqI (.x 4) (.c 13))))))))
 (.ite (.eqI (.x 0) (.c 31))
 (.ret (.p (.one (.b (.and (.eqS (.x 0) (.c [])) (.or (.or (.and (.le (.c 1) (.x 4)) (.le (.x 4) (.c 11))) (.eqI (.x 4) (.c 14))) (.eqI (.x 4) (.c 15))))))))
 (.ret (.p (.one (.b (.and (.eqS (.x 0) (.c [])) (.eqI (.x 4) (.c 0))))))))))))))))))))))
theorem Hy:aU ⟨true,[1000005]⟩ Tryz.prog (fun l=>([]:List bG).getD l ⟨[],[],[]⟩) Tryz.f49=yB:=by kernel_rfl
theorem Lm:az Tryz.prog .zero Tryz.f49.params.toList=some ([(.agg [.U 0,.J 1,.J 2,.J 3,.J 4,(.s (.x 0))])],⟨5,0,1,0,0,0⟩):=by kernel_rfl
def nH (c:Int):Bool:=c==95||(leB 97 c&&leB c 122)
def zW (c:Int):Bool:=leB 65 c&&leB c 90
theorem QP (c:Int) (w:World):Calls Tryz.prog 131 #[.int .u8 c] w fun e w'=>e=.returned (.bool (nH c))/\w'=w:=by
 go_enter Tryz.func131,Tryz.ntmps131
 by_cases h95:c=95
 . subst h95
   go_wp2
   go_ret
   exact⟨rfl,rfl⟩
 . by_cases h97:97<=c
   . go_wp2
     all_goals first
      | (exfalso;omega)
      | (go_ret;exact⟨by simp[nH,leB,h97]<;>(intros;omega),rfl⟩)
   . go_wp2
     all_goals first
      | (exfalso;omega)
      | (go_ret;exact⟨by simp[nH,leB]<;>(intros;omega),rfl⟩)
theorem J7 (c:Int) (w:World):Calls Tryz.prog 130 #[.int .u8 c] w fun e w'=>e=.returned (.bool (zW c))/\w'=w:=by
 go_enter Tryz.func130,Tryz.ntmps130
 by_cases h65:65<=c
 . go_wp2
   all_goals first
    | (exfalso;omega)
    | (go_ret;exact⟨by simp[zW,leB,h65]<;>(intros;omega),rfl⟩)
 . go_wp2
   all_goals first
    | (exfalso;omega)
    | (go_ret;exact⟨by simp[zW,leB]<;>(intros;omega),rfl⟩)
def FP:Ct Tryz.prog where
 f:=129
 spec:=fun args h φ=>∃ s,args=[.string (B s),.func (.func 131) #[] #[]]/\φ (.bool (aS nH s)) h
 ok:=by
  rintro args h φ w ⟨s,rfl,hφ⟩ hH;refine (vT 131 nH (fun c w _ _=>QP c w) (enters_of Tryz.func131 (by kernel_rfl) rfl) s w).mono ?_;rintro e w' ⟨rfl,hb⟩;exact⟨_,h,rfl,hφ,hH.below hb,Fr.of_below hb⟩
def Nb:Ct Tryz.prog where
 f:=85
 spec:=fun args h φ=>∃ s,args=[.string (B s)]/\φ (.bool (aS nH s)) h
 ok:=by
  rintro args h φ w ⟨s,rfl,hφ⟩ hH;refine aZ Tryz.func85 QF V4 [FP] φ (bJ) (aV) ⟨[],[],[s],[],[],[],h,cu⟩ ⟨rfl,rfl,rfl,rfl,rfl,rfl⟩ af ?_ w hH rfl;generalize hE:(⟨aG _,_,_,_⟩:Env)=E;have sb3:E.spec 129=(FP).spec:=by rw[<- hE];rfl
  have ep:E.post=φ:=by rw[<- hE]
  clear hE;unfold G6;rw[ax,if_pos (by rfl),sb3];refine⟨s,rfl,?_⟩;refine rR ⟨[],[aS nH s],[],[],[],[]⟩ rfl af rfl ?_;rw[aj,ep];exact hφ
def AL:Ct Tryz.prog where
 f:=129
 spec:=fun args h φ=>∃ s,args=[.string (B s),.func (.func 130) #[] #[]]/\φ (.bool (aS zW s)) h
 ok:=by
  rintro args h φ w ⟨s,rfl,hφ⟩ hH;refine (vT 130 zW (fun c w _ _=>J7 c w) (enters_of Tryz.func130 (by kernel_rfl) rfl) s w).mono ?_;rintro e w' ⟨rfl,hb⟩;exact⟨_,h,rfl,hφ,hH.below hb,Fr.of_below hb⟩
def FO:Ct Tryz.prog where
 f:=84
 spec:=fun args h φ=>∃ s,args=[.string (B s)]/\φ (.bool (aS zW s)) h
 ok:=by
  rintro args h φ w ⟨s,rfl,hφ⟩ hH;refine aZ Tryz.func84 JW Ro [AL] φ (bJ) (aV) ⟨[],[],[s],[],[],[],h,cu⟩ ⟨rfl,rfl,rfl,rfl,rfl,rfl⟩ af ?_ w hH rfl;generalize hE:(⟨aG _,_,_,_⟩:Env)=E;have sb4:E.spec 129=(AL).spec:=by rw[<- hE];rfl
  have ep:E.post=φ:=by rw[<- hE]
  clear hE;unfold BA;rw[ax,if_pos (by rfl),sb4];refine⟨s,rfl,?_⟩;refine rR ⟨[],[aS zW s],[],[],[],[]⟩ rfl af rfl ?_;rw[aj,ep];exact hφ
def fieldsB (x:Ng):Bool:=
 if x.k=2 then aS zW x.x&&decide (x.n=0)
 else if x.k=19 then aS zW x.x&&decide (x.n=0)
 else if x.k=3 then aS nH x.x&&decide (x.n=0)
 else if x.k=5 then aS nH x.x&&decide (x.n=0)
 else if x.k=7 then aS nH x.x&&decide (x.n=0)
 else if x.k=26 then aS nH x.x&&decide (x.n=0)
 else if x.k=27 then aS nH x.x&&decide (x.n=0)
 else if x.k=29 then aS nH x.x&&decide (x.n=0)
 else if x.k=4 then aS nH x.x&&leB 0 x.n
 else if x.k=21 then x.x==[]&&leB 0 x.n
 else if x.k=22 then x.x==[]&&leB 0 x.n&&Ob x.n 8388608
 else if x.k=23 then decide (x.n=0)
 else if x.k=24 then x.x==[]&&(decide (x.n=0)||decide (x.n=1))
 else if x.k=30 then x.x==[]&&(decide (x.n=12)||decide (x.n=13))
 else if x.k=31 then x.x==[]&&((leB 1 x.n&&leB x.n 11)||decide (x.n=14)||decide (x.n=15))
 else x.x==[]&&decide (x.n=0)
set_option maxHeartbeats 4000000 in
def AC:Ct Tryz.prog where
 f:=49
 spec:=fun args h φ=>∃ x:Ng,args=[x.v]/\φ (.bool (fieldsB x)) h
 ok:=by
  rintro args h φ w ⟨x,rfl,hφ⟩ hH;refine aZ Tryz.func49 Hy Lm [Nb,FO] φ (bJ) (aV) ⟨[x.k,x.l,x.c,x.z,x.n],[],[x.x],[],[],[],h,cu⟩ ⟨rfl,rfl,rfl,rfl,rfl,rfl⟩ af ?_ w hH rfl;generalize hE:(⟨aG _,_,_,_⟩:Env)=E;have sb5:E.spec 85=(Nb).spec:=by rw[<- hE];rfl
  have sb6:E.spec 84=(FO).spec:=by rw[<- hE];rfl
  have ep:E.post=φ:=by rw[<- hE]
  clear hE;unfold yB;unfold fieldsB at hφ;rw[<- ae];by_cases c2:x.k=2
  . rw[if_pos c2] at hφ;rw[ah,if_pos (by simpa[go_sem] using c2)];rw[ai,sb6];refine⟨x.x,rfl,?_⟩;refine rR ⟨[],[aS zW x.x],[],[],[],[]⟩ rfl af rfl ?_;rw[aj,ep];exact hφ
  rw[if_neg c2] at hφ;rw[ah,if_neg (by simpa[go_sem] using c2)];by_cases c19:x.k=19
  . rw[if_pos c19] at hφ;rw[ah,if_pos (by simpa[go_sem] using c19)];rw[ai,sb6];refine⟨x.x,rfl,?_⟩;refine rR ⟨[],[aS zW x.x],[],[],[],[]⟩ rfl af rfl ?_;rw[aj,ep];exact hφ
  rw[if_neg c19] at hφ;rw[ah,if_neg (by simpa[go_sem] using c19)];by_cases c3:x.k=3
  . rw[if_pos c3] at hφ;rw[ah,if_pos (by simpa[go_sem] using c3)];rw[ai,sb5];refine⟨x.x,rfl,?_⟩;refine rR ⟨[],[aS nH x.x],[],[],[],[]⟩ rfl af rfl ?_;rw[aj,ep];exact hφ
  rw[if_neg c3] at hφ;rw[ah,if_neg (by simpa[go_sem] using c3)];by_cases c5:x.k=5
  . rw[if_pos c5] at hφ;rw[ah,if_pos (by simpa[go_sem] using c5)];rw[ai,sb5];refine⟨x.x,rfl,?_⟩;refine rR ⟨[],[aS nH x.x],[],[],[],[]⟩ rfl af rfl ?_;rw[aj,ep];exact hφ
  rw[if_neg c5] at hφ;rw[ah,if_neg (by simpa[go_sem] using c5)];by_cases c7:x.k=7
  . rw[if_pos c7] at hφ;rw[ah,if_pos (by simpa[go_sem] using c7)];rw[ai,sb5];refine⟨x.x,rfl,?_⟩;refine rR ⟨[],[aS nH x.x],[],[],[],[]⟩ rfl af rfl ?_;rw[aj,ep];exact hφ
  rw[if_neg c7] at hφ;rw[ah,if_neg (by simpa[go_sem] using c7)];by_cases c26:x.k=26
  . rw[if_pos c26] at hφ;rw[ah,if_pos (by simpa[go_sem] using c26)];rw[ai,sb5];refine⟨x.x,rfl,?_⟩;refine rR ⟨[],[aS nH x.x],[],[],[],[]⟩ rfl af rfl ?_;rw[aj,ep];exact hφ
  rw[if_neg c26] at hφ;rw[ah,if_neg (by simpa[go_sem] using c26)];by_cases c27:x.k=27
  . rw[if_pos c27] at hφ;rw[ah,if_pos (by simpa[go_sem] using c27)];rw[ai,sb5];refine⟨x.x,rfl,?_⟩;refine rR ⟨[],[aS nH x.x],[],[],[],[]⟩ rfl af rfl ?_;rw[aj,ep];exact hφ
  rw[if_neg c27] at hφ;rw[ah,if_neg (by simpa[go_sem] using c27)];by_cases c29:x.k=29
  . rw[if_pos c29] at hφ;rw[ah,if_pos (by simpa[go_sem] using c29)];rw[ai,sb5];refine⟨x.x,rfl,?_⟩;refine rR ⟨[],[aS nH x.x],[],[],[],[]⟩ rfl af rfl ?_;rw[aj,ep];exact hφ
  rw[if_neg c29] at hφ;rw[ah,if_neg (by simpa[go_sem] using c29)];by_cases c4:x.k=4
  . rw[if_pos c4] at hφ;rw[ah,if_pos (by simpa[go_sem] using c4)];rw[ai,sb5];refine⟨x.x,rfl,?_⟩;refine rR ⟨[],[aS nH x.x],[],[],[],[]⟩ rfl af rfl ?_;rw[aj,ep];exact hφ
  rw[if_neg c4] at hφ;rw[ah,if_neg (by simpa[go_sem] using c4)];by_cases c21:x.k=21
  . rw[if_pos c21] at hφ;rw[ah,if_pos (by simpa[go_sem] using c21)];rw[aj,ep];exact hφ
  rw[if_neg c21] at hφ;rw[ah,if_neg (by simpa[go_sem] using c21)];by_cases c22:x.k=22
  . rw[if_pos c22] at hφ;rw[ah,if_pos (by simpa[go_sem] using c22)];rw[aj,ep];exact hφ
  rw[if_neg c22] at hφ;rw[ah,if_neg (by simpa[go_sem] using c22)];by_cases c23:x.k=23
  . rw[if_pos c23] at hφ;rw[ah,if_pos (by simpa[go_sem] using c23)];rw[aj,ep];exact hφ
  rw[if_neg c23] at hφ;rw[ah,if_neg (by simpa[go_sem] using c23)];by_cases c24:x.k=24
  . rw[if_pos c24] at hφ;rw[ah,if_pos (by simpa[go_sem] using c24)];rw[aj,ep];exact hφ
  rw[if_neg c24] at hφ;rw[ah,if_neg (by simpa[go_sem] using c24)];by_cases c30:x.k=30
  . rw[if_pos c30] at hφ;rw[ah,if_pos (by simpa[go_sem] using c30)];rw[aj,ep];exact hφ
  rw[if_neg c30] at hφ;rw[ah,if_neg (by simpa[go_sem] using c30)];by_cases c31:x.k=31
  . rw[if_pos c31] at hφ;rw[ah,if_pos (by simpa[go_sem] using c31)];rw[aj,ep];exact hφ
  rw[if_neg c31] at hφ;rw[ah,if_neg (by simpa[go_sem] using c31)];rw[aj,ep];exact hφ
def XA:Ct Tryz.prog where
 f:=92
 spec:=fun args h φ=>∃ x,args=[Ng.v x]/\φ (.bool (sD 21 32 x)) h
 ok:=by
  rintro args h φ w ⟨x,rfl,hφ⟩ hH;refine bQ (aZ Tryz.func92 PY Vs [qP,lY] (fun v k=>∃ k',bY k' k/\φ v k') bJ aV ⟨[x.k,x.l,x.c,x.z,x.n],[],[x.x],[],[],[],h,cu⟩ ⟨rfl,rfl,rfl,rfl,rfl,rfl⟩ af ?_ w hH rfl);have hs:oK [qP,lY] 133=lY.spec:=rfl;generalize hE:(⟨aG _,_,_,_⟩:Env)=E;have s1:E.spec 90=qP.spec:=by rw[<- hE];rfl
  have s2:E.spec 1000001=aG [qP,lY] iM:=by rw[<- hE];rfl
  have ep:E.post=(fun v k=>∃ k',bY k' k/\φ v k'):=by rw[<- hE]
  clear hE;unfold F8;rw[ax,if_pos (by rfl),s1];refine⟨21,32,rfl,fun p q k hk h1 h2=>?_⟩;refine⟨fun h=>(by cases h),(bn _ _).2 ⟨⟨[],[],[],[.func (.func 133) #[] #[.pointer (some ⟨p,0,none⟩),.pointer (some ⟨q,0,none⟩)]],[],[]⟩,rfl,by intro u hu;simp at hu;subst hu;rfl,rfl,?_⟩⟩;rw[ai,s2];refine Fh (x:=x) hs h1 h2 ?_;refine rR ⟨[],[sD 21 32 x],[],[],[],[]⟩ rfl af rfl ?_;rw[aj,ep];exact⟨h,hk,hφ⟩
def wants:List (Ct Tryz.prog):=[DD,XA,xQ,lY,aaN]
theorem oC (h:Hp):Want wants h (.func (.func 88) #[] #[]) (sD 15 20):=
 ⟨_,[],rfl,by kernel_rfl,by decide,fun x k φ _ hφ=>⟨x,rfl,hφ⟩⟩
theorem dD (h:Hp):Want wants h (.func (.func 92) #[] #[]) (sD 21 32):=
 ⟨_,[],rfl,by kernel_rfl,by decide,fun x k φ _ hφ=>⟨x,rfl,hφ⟩⟩
theorem ou (h:Hp):Want wants h (.func (.func 132) #[] #[]) (fun x=>decide (x.k=6)):=
 ⟨_,[],rfl,by kernel_rfl,by decide,fun x k φ _ hφ=>⟨x,rfl,hφ⟩⟩
theorem Xi {h:Hp} {p q:Nat} {a b:Int} {T U:TypeId} (h1:h p=some ⟨[.int .u8 a],T⟩) (h2:h q=some ⟨[.int .u8 b],U⟩):
 Want wants h (.func (.func 133) #[] #[.pointer (some ⟨p,0,none⟩),.pointer (some ⟨q,0,none⟩)]) (sD a b):=
 ⟨_,[.pointer (some ⟨p,0,none⟩),.pointer (some ⟨q,0,none⟩)],rfl,by kernel_rfl,by decide,fun x k φ hk hφ=>⟨x,p,q,a,b,_,_,rfl,hk _ _ h1,hk _ _ h2,hφ⟩⟩
theorem oz {h:Hp} {p:Nat} {sl:bM} {l:List Int} {T:TypeId} (h1:h p=some ⟨[bM.val sl],T⟩) (R:Rows h sl (Kw l) 1) (hl:l.length<=1000):
 Want wants h (.func (.func 86) #[] #[.pointer (some ⟨p,0,none⟩)]) (fun x=>l.contains x.k):=
 ⟨_,[.pointer (some ⟨p,0,none⟩)],rfl,by kernel_rfl,by decide,fun x k φ hk hφ=>⟨x,p,sl,l,_,rfl,hk _ _ h1,R.le hk,hl,hφ⟩⟩
theorem Want.one {cs:List (Ct Tryz.prog)} {h:Hp} {v:Value} {p:Ng->Bool} (W:Want cs h v p):v.cells=#[v]/\v≠undef:=by
 obtain⟨f,cap,rfl,_⟩:=W;exact⟨rfl,by intro h;cases h⟩
theorem Want.ones {cs:List (Ct Tryz.prog)} {h:Hp} {v:Value} {p:Ng->Bool} (W:Want cs h v p):eG [v]:=by
 obtain⟨f,cap,rfl,_⟩:=W;intro u hu;simp at hu;subst hu;rfl
def lkv (x:Ng) (sl:bM):Value:=.agg #[.int .u8 x.k,.int .i64 x.l,.int .i64 x.c,.int .i64 x.z,.int .i64 x.n,.string (B x.x),sl.val]
set_option maxHeartbeats 4000000 in
def uC:Ct Tryz.prog where
 f:=51
 spec:=fun args h φ=>∃ x sl l v p,args=[lkv x sl,v]/\NG h sl l/\l.length<=1000000/\Want wants h v p/\φ (.bool (l.all p)) h
 ok:=by
  rintro args h φ w ⟨x,sl,l,v,p,rfl,R,hl,W,hφ⟩ hH;have hn:=NG.n R;refine aZ Tryz.func51 Ux Yq wants φ (fun _ C=>∃ j:Nat,C=⟨[x.k,x.l,x.c,x.z,x.n,j],[false],[x.x],[v],[sl],[],h,cu⟩/\j<=l.length/\l.all p=(l.drop j).all p) (fun _ C=>((l.length:Int) - C.i.getD 5 0).toNat)
   ⟨[x.k,x.l,x.c,x.z,x.n],[],[x.x],[v],[sl],[],h,cu⟩ ⟨rfl,rfl,rfl,rfl,rfl,rfl⟩ W.ones ?_ w hH rfl
  generalize hE:(⟨aG _,_,_,_⟩:Env)=E;have s2:E.spec 1000001=aG wants iM:=by rw[<- hE];rfl
  have ep:E.post=φ:=by rw[<- hE]
  have ei:E.inv=(fun _ C=>∃ j:Nat,C=⟨[x.k,x.l,x.c,x.z,x.n,j],[false],[x.x],[v],[sl],[],h,cu⟩/\j<=l.length/\l.all p=(l.drop j).all p):=by rw[<- hE]
  have em:E.meas=(fun _ C=>((l.length:Int) - C.i.getD 5 0).toNat):=by rw[<- hE]
  clear hE;unfold Nu;refine bH ?_ ?_
  . rw[ei];exact⟨0,rfl,by omega,rfl⟩
  rw[ei,em];rintro i bb ss vv ll pp hh M ⟨j,hC,h3,h4⟩ hM;cases hC;have hM':M 0=((l.length:Int) - j).toNat:=hM;rw[h4] at hφ;by_cases hj:j<l.length
  . obtain⟨b,o,ha⟩:=Rows.nn R (j:=j) (by omega);have hrd:=NG.node R hj ha;have hz:(j:Int)<sl.n:=by omega
    rw[List.drop_eq_getElem_cons hj,List.all_cons] at h4 hφ;generalize l[j]=y at *;rw[ak,if_pos (by simpa[go_sem] using hz),ae,aA];refine⟨by simp[go_sem,hz,ha],?_⟩;refine rL ⟨[y.k,y.l,y.c,y.z,y.n],[],[y.x],[],[],[]⟩ rfl af (by simpa[go_sem,ha,Ng.cs] using hrd) ?_;rw[ai,s2];refine W.call (x:=y) (fun b o h=>h) ?_;refine rR ⟨[],[p y],[],[],[],[]⟩ rfl af rfl ?_;cases hy:p y with
    | false=>
      rw[hy] at hφ;rw[ah,if_pos (by simp[go_sem]),ae,au,ep];simpa[go_sem] using hφ
    | true=>
      rw[hy] at hφ h4;rw[ah,if_neg (by simp[go_sem]),ae,aA];refine⟨by simp[go_sem];omega,?_⟩;rw[ae];simp[go_sem,ei,em];exact⟨⟨j+1,by simp,by omega,by simpa using h4⟩,by omega⟩
  . have hz:¬ ((j:Int)<sl.n):=by omega
    rw[List.drop_eq_nil_of_le (by omega)] at hφ;rw[ak,if_neg (by simpa[go_sem] using hz),ae,au,ep];simpa[go_sem] using hφ
def rowB:List (Ng->Bool)->List Ng->Bool
 | [],[]=>true
 | p::ps,x::l=>p x&&rowB ps l
 | _,_=>false
theorem IQ:∀ {ps:List (Ng->Bool)} {l:List Ng},ps.length≠l.length->rowB ps l=false
 | [],[],h=>absurd rfl h
 | [],_::_,_=>rfl
 | _::_,[],_=>rfl
 | p::ps,x::l,h=>by rw[rowB,IQ (fun e=>h (by simp[e])),Bool.and_false]
def vw (h:Hp) (sl:bM) (ps:List (Ng->Bool)):Prop:=∃ vs,Rows h sl vs 1/\vs.length=ps.length/\∀ (i:Nat) v p,vs[i]? = some v->ps[i]? = some p->Want wants h v p
theorem vw.n {h:Hp} {sl:bM} {ps:List (Ng->Bool)} (W:vw h sl ps):sl.n=ps.length:=by
 obtain⟨vs,R,hl,_⟩:=W;have:=R.1;omega
theorem eu (h:Hp):vw h ⟨none,0,0⟩ []:=⟨[],⟨rfl,.inl rfl⟩,rfl,fun i v p h=>by simp at h⟩
theorem zQ {h:Hp} {b n c:Nat} {vs:List Value} {ps:List (Ng->Bool)} {T:TypeId} (hb:h b=some ⟨vs,T⟩) (hn:vs.length=n) (hl:vs.length=ps.length) (H:∀ (i:Nat) v p,vs[i]? = some v->ps[i]? = some p->Want wants h v p):vw h ⟨some (b,0),n,c⟩ ps:=
 ⟨vs,⟨by simp[hn],.inr (by rw[bI hb,if_pos (by simp[hn])];simp[<- hn])⟩,hl,H⟩
set_option maxHeartbeats 4000000 in
def Du:Ct Tryz.prog where
 f:=87
 spec:=fun args h φ=>∃ x sl l ws ps,args=[lkv x sl,bM.val ws]/\NG h sl l/\l.length<=1000000/\vw h ws ps/\φ (.bool (rowB ps l)) h
 ok:=by
  rintro args h φ w ⟨x,sl,l,ws,ps,rfl,R,hl,W,hφ⟩ hH;have hn:=NG.n R;have hm:=W.n;obtain⟨vs,Rv,hvl,hW⟩:=W;refine aZ Tryz.func87 Uz Yt wants φ (fun _ C=>∃ j:Nat,C=⟨[x.k,x.l,x.c,x.z,x.n,j],[false],[x.x],[],[sl,ws],[],h,cu⟩/\j<=l.length/\rowB ps l=rowB (ps.drop j) (l.drop j)) (fun _ C=>((l.length:Int) - C.i.getD 5 0).toNat)
   ⟨[x.k,x.l,x.c,x.z,x.n],[],[x.x],[],[sl,ws],[],h,cu⟩ ⟨rfl,rfl,rfl,rfl,rfl,rfl⟩ af ?_ w hH rfl
  generalize hE:(⟨aG _,_,_,_⟩:Env)=E;have s2:E.spec 1000001=aG wants iM:=by rw[<- hE];rfl
  have ep:E.post=φ:=by rw[<- hE]
  have ei:E.inv=(fun _ C=>∃ j:Nat,C=⟨[x.k,x.l,x.c,x.z,x.n,j],[false],[x.x],[],[sl,ws],[],h,cu⟩/\j<=l.length/\rowB ps l=rowB (ps.drop j) (l.drop j)):=by rw[<- hE]
  have em:E.meas=(fun _ C=>((l.length:Int) - C.i.getD 5 0).toNat):=by rw[<- hE]
  clear hE;unfold Ny;by_cases hlen:l.length=ps.length;rotate_left
  . rw[ak,if_pos (by simp[go_sem];omega),ae,au,ep];rw[IQ (fun e=>hlen e.symm)] at hφ;simpa[go_sem] using hφ
  rw[ak,if_neg (by simp[go_sem];omega),ae];refine bH ?_ ?_
  . rw[ei];exact⟨0,rfl,by omega,rfl⟩
  rw[ei,em];rintro i bb ss vv ll pp hh M ⟨j,hC,h3,h4⟩ hM;cases hC;have hM':M 0=((l.length:Int) - j).toNat:=hM;rw[h4] at hφ;by_cases hj:j<l.length
  . obtain⟨b,o,ha⟩:=Rows.nn R (j:=j) (by omega);obtain⟨b2,o2,ha2⟩:=Rows.nn Rv (j:=j) (by omega);have hrd:=NG.node R hj ha;have hrd2:=Rows.read (off:=0) (m:=1) Rv (j:=j) (by omega) (by omega) ha2;rw[Nat.mul_one,Nat.add_zero,Nat.add_zero,List.drop_eq_getElem_cons (by omega)] at hrd2;have hWj:=hW j vs[j] ps[j] (List.getElem?_eq_getElem (by omega)) (List.getElem?_eq_getElem (by omega));have hz:(j:Int)<sl.n:=by omega
    have hz2:(j:Int)<ws.n:=by omega
    rw[List.drop_eq_getElem_cons hj,List.drop_eq_getElem_cons (by omega:j<ps.length),rowB] at h4 hφ;generalize l[j]=y at *;generalize ps[j]=p at *;generalize vs[j]=v at *;rw[ak,if_pos (by simpa[go_sem] using hz2),ae,aA];refine⟨by simp[go_sem,hz2,ha2],?_⟩;rw[bP,if_pos (by rfl)];refine (bn _ _).2 ⟨⟨[],[],[],[v],[],[]⟩,rfl,hWj.ones,by simpa[go_sem,ha2] using hrd2,?_⟩;rw[ag];refine⟨by simp[go_sem,hz,ha],?_⟩;refine rL ⟨[y.k,y.l,y.c,y.z,y.n],[],[y.x],[],[],[]⟩ rfl af (by simpa[go_sem,ha,Ng.cs] using hrd) ?_;rw[ai,s2];refine hWj.call (x:=y) (fun b o h=>h) ?_;refine rR ⟨[],[p y],[],[],[],[]⟩ rfl af rfl ?_;cases hy:p y with
    | false=>
      rw[hy] at hφ;rw[ah,if_pos (by simp[go_sem]),ae,au,ep];simpa[go_sem] using hφ
    | true=>
      rw[hy] at hφ h4;rw[ah,if_neg (by simp[go_sem]),ae,aA];refine⟨by simp[go_sem];omega,?_⟩;rw[ae];simp[go_sem,ei,em];exact⟨⟨j+1,by simp,by omega,by simpa using h4⟩,by omega⟩
  . have hz:¬ ((j:Int)<ws.n):=by omega
    rw[List.drop_eq_nil_of_le (by omega),List.drop_eq_nil_of_le (by omega)] at hφ;rw[ak,if_neg (by simpa[go_sem] using hz),ae,au,ep];simpa[go_sem,rowB] using hφ
def Gg:Fm:=(.ite (.eqI (.x 0) (.c 7))
 (.mk [(.c (.fn 88)),(.c (.fn 92))] 81 2
 (.C 87 [(.agg [.U 0,.J 1,.J 2,.J 3,.J 4,(.s (.x 0)),(.sl (.x 0))]),.L 1] (.p (.B 0)) ⟨0,1,0,0,0,0⟩
 (.ret (.p (.B 0)))))
 (.ite (.eqI (.x 0) (.c 8))
 (.mk [(.i .u8 (.c 26)),(.i .u8 (.c 28)),(.i .u8 (.c 29))] 5 3
 (.C 52 [.L 1] (.p (.one (.v 0))) ⟨0,0,0,1,0,0⟩
 (.mk [(.v 0),(.c (.fn 92))] 81 2
 (.C 87 [(.agg [.U 0,.J 1,.J 2,.J 3,.J 4,(.s (.x 0)),(.sl (.x 0))]),.L 2] (.p (.B 0)) ⟨0,1,0,0,0,0⟩
 (.ret (.p (.B 0)))))))
 (.ite (.eqI (.x 0) (.c 9))
 (.mk [(.c (.fn 92)),(.c (.fn 132))] 81 2
 (.C 87 [(.agg [.U 0,.J 1,.J 2,.J 3,.J 4,(.s (.x 0)),(.sl (.x 0))]),.L 1] (.p (.B 0)) ⟨0,1,0,0,0,0⟩
 (.ite (.x 0)
 (.ret (.p (.one (.b (.c true)))))
 (.mk [(.c (.fn 92)),(.c (.fn 132)),(.c (.fn 132))] 81 3
 (.C 87 [(.agg [.U 0,.J 1,.J 2,.J 3,.J 4,(.s (.x 0)),(.sl (.x 0))]),.L 2] (.p (.B 1)) ⟨0,1,0,0,0,0⟩
 (.ret (.p (.B 1))))))))
 (.ite (.eqI (.x 0) (.c 10))
 (.mk [(.c (.fn 92)),(.c (.fn 132))] 81 2
 (.C 87 [(.agg [.U 0,.J 1,.J 2,.J 3,.J 4,(.s (.x 0)),(.sl (.x 0))]),.L 1] (.p (.B 0)) ⟨0,1,0,0,0,0⟩
 (.ret (.p (.B 0)))))
 (.ite (.eqI (.x 0) (.c 11))
 (.C 87 [(.agg [.U 0,.J 1,.J 2,.J 3,.J 4,(.s (.x 0)),(.sl (.x 0))]),(.one (.sl .nil))] (.p (.B 0)) ⟨0,1,0,0,0,0⟩
 (.ite (.x 0)
 (.ret (.p (.one (.b (.c true)))))
 (.mk [(.c (.fn 92))] 81 1
 (.C 87 [(.agg [.U 0,.J 1,.J 2,.J 3,.J 4,(.s (.x 0)),(.sl (.x 0))]),.L 1] (.p (.B 1)) ⟨0,1,0,0,0,0⟩
 (.ret (.p (.B 1)))))))
 (.ite (.eqI (.x 0) (.c 12))
 (.mk [(.c (.fn 92))] 81 1
 (.C 87 [(.agg [.U 0,.J 1,.J 2,.J 3,.J 4,(.s (.x 0)),(.sl (.x 0))]),.L 1] (.p (.B 0)) ⟨0,1,0,0,0,0⟩
 (.ret (.p (.B 0)))))
 (.mk [(.i .u8 (.c 27))] 5 1
 (.C 52 [.L 1] (.p (.one (.v 0))) ⟨0,0,0,1,0,0⟩
 (.mk [(.v 0)] 81 1
 (.C 87 [(.agg [.U 0,.J 1,.J 2,.J 3,.J 4,(.s (.x 0)),(.sl (.x 0))]),.L 2] (.p (.B 0)) ⟨0,1,0,0,0,0⟩
 (.ret (.p (.B 0)))))))))))))
theorem P6:aU ⟨true,[]⟩ Tryz.prog (fun l=>([]:List bG).getD l ⟨[],[],[]⟩) Tryz.f91=Gg:=by kernel_rfl
theorem Vw:az Tryz.prog .zero Tryz.f91.params.toList=some ([(.agg [.U 0,.J 1,.J 2,.J 3,.J 4,(.s (.x 0)),(.sl (.x 0))])],⟨5,0,1,0,1,0⟩):=by kernel_rfl
def Nw:Fm:=(.need (.not (.lt (.cnt (.x 0)) (.c 2))) (.R (.sub (.cnt (.x 0)) (.c 2)))
 (.need (.not (.or (.lt (.cnt (.x 0)) (.c 2)) (.not (.eqI (.sub (.cnt (.x 0)) (.c 2)) (.x 4))))) (.R (.sub (.cnt (.x 0)) (.c 1)))
 (.need (.not (.or (.lt (.cnt (.x 0)) (.c 2)) (.not (.eqI (.sub (.cnt (.x 0)) (.c 2)) (.x 4))))) (.X (.sub (.cnt (.x 0)) (.c 1)) (.x 0))
 (.load (.not (.or (.lt (.cnt (.x 0)) (.c 2)) (.not (.eqI (.sub (.cnt (.x 0)) (.c 2)) (.x 4))))) (.el (.x 0) (.sub (.cnt (.x 0)) (.c 1)) 6 0) 6 [.U 5,.J 6,.J 7,.J 8,.J 9,(.s (.x 1))] ⟨5,0,1,0,0,0⟩
 (.call (.not (.or (.lt (.cnt (.x 0)) (.c 2)) (.not (.eqI (.sub (.cnt (.x 0)) (.c 2)) (.x 4))))) false 132 [(.agg [.U 5,.J 6,.J 7,.J 8,.J 9,(.s (.x 1))])] (.p (.B 0)) ⟨0,1,0,0,0,0⟩
 (.need (.not (.or (.or (.lt (.cnt (.x 0)) (.c 2)) (.not (.eqI (.sub (.cnt (.x 0)) (.c 2)) (.x 4)))) (.not (.x 0)))) (.R (.sub (.cnt (.x 0)) (.c 2)))
 (.need (.not (.or (.or (.lt (.cnt (.x 0)) (.c 2)) (.not (.eqI (.sub (.cnt (.x 0)) (.c 2)) (.x 4)))) (.not (.x 0)))) (.X (.sub (.cnt (.x 0)) (.c 2)) (.x 0))
 (.need (.not (.or (.or (.lt (.cnt (.x 0)) (.c 2)) (.not (.eqI (.sub (.cnt (.x 0)) (.c 2)) (.x 4)))) (.not (.x 0)))) (.nns (.x 0))
 (.load (.not (.or (.or (.lt (.cnt (.x 0)) (.c 2)) (.not (.eqI (.sub (.cnt (.x 0)) (.c 2)) (.x 4)))) (.not (.x 0)))) (.el (.x 0) (.sub (.cnt (.x 0)) (.c 2)) 6 0) 1 [.U 10] ⟨1,0,0,0,0,0⟩
 (.need (.and (.not (.or (.or (.lt (.cnt (.x 0)) (.c 2)) (.not (.eqI (.sub (.cnt (.x 0)) (.c 2)) (.x 4)))) (.not (.x 0)))) (.not (.eqI (.x 10) (.c 14)))) (.R (.sub (.cnt (.x 0)) (.c 2)))
 (.need (.and (.not (.or (.or (.lt (.cnt (.x 0)) (.c 2)) (.not (.eqI (.sub (.cnt (.x 0)) (.c 2)) (.x 4)))) (.not (.x 0)))) (.not (.eqI (.x 10) (.c 14)))) (.X (.sub (.cnt (.x 0)) (.c 2)) (.x 0))
 (.load (.and (.not (.or (.or (.lt (.cnt (.x 0)) (.c 2)) (.not (.eqI (.sub (.cnt (.x 0)) (.c 2)) (.x 4)))) (.not (.x 0)))) (.not (.eqI (.x 10) (.c 14)))) (.el (.x 0) (.sub (.cnt (.x 0)) (.c 2)) 6 0) 6 [.U 11,.J 12,.J 13,.J 14,.J 15,(.s (.x 2))] ⟨5,0,1,0,0,0⟩
 (.call (.and (.not (.or (.or (.lt (.cnt (.x 0)) (.c 2)) (.not (.eqI (.sub (.cnt (.x 0)) (.c 2)) (.x 4)))) (.not (.x 0)))) (.not (.eqI (.x 10) (.c 14)))) false 88 [(.agg [.U 11,.J 12,.J 13,.J 14,.J 15,(.s (.x 2))])] (.p (.B 1)) ⟨0,1,0,0,0,0⟩
 (.ite (.or (.or (.or (.lt (.cnt (.x 0)) (.c 2)) (.not (.eqI (.sub (.cnt (.x 0)) (.c 2)) (.x 4)))) (.not (.x 0))) (.and (.not (.eqI (.x 10) (.c 14))) (.not (.x 1))))
 (.ret (.p (.one (.b (.c false)))))
 (.N (.R (.sub (.cnt (.x 0)) (.c 2)))
 (.N (.and (.and (.le (.c 0) (.sub (.cnt (.x 0)) (.c 2))) (.le (.sub (.cnt (.x 0)) (.c 2)) (.cap (.x 0)))) (.and (.le (.c 0) (.c 0)) (.le (.c 0) (.sub (.cnt (.x 0)) (.c 2)))))
 (.mk [(.i .u8 (.c 5))] 5 1
 (.C 52 [.L 1] (.p (.one (.v 0))) ⟨0,0,0,1,0,0⟩
 (.C 51 [(.agg [.U 0,.J 1,.J 2,.J 3,.J 4,(.s (.x 0)),(.sl (.sub (.x 0) (.c 0) (.sub (.cnt (.x 0)) (.c 2)) 6))]),(.one (.v 0))] (.p (.B 2)) ⟨0,1,0,0,0,0⟩
 (.ret (.p (.B 2))))))))))))))))))))))
theorem Uy:aU ⟨true,[]⟩ Tryz.prog (fun l=>([]:List bG).getD l ⟨[],[],[]⟩) Tryz.f89=Nw:=by kernel_rfl
theorem Yr:az Tryz.prog .zero Tryz.f89.params.toList=some ([(.agg [.U 0,.J 1,.J 2,.J 3,.J 4,(.s (.x 0)),(.sl (.x 0))])],⟨5,0,1,0,1,0⟩):=by kernel_rfl
abbrev ES:Ng->Bool:=sD 15 20
abbrev wE:Ng->Bool:=sD 21 32
abbrev wB:Ng->Bool:=fun x=>decide (x.k=6)
abbrev wO (l:List Int):Ng->Bool:=fun x=>l.contains x.k
def stB (k:Int) (l:List Ng):Bool:=
 if k=7 then rowB [ES,wE] l else if k=8 then rowB [wO [26,28,29],wE] l else if k=9 then rowB [wE,wB] l||rowB [wE,wB,wB] l
 else if k=10 then rowB [wE,wB] l else if k=11 then rowB [] l||rowB [wE] l else if k=12 then rowB [wE] l else rowB [wO [27]] l
theorem hset {h:Hp} {b:Nat} (hb:h b=none) (o:HO):bY h (h.set b o):=fun c x hc=>by rw[bf _ (fun e=>by rw[e,hb] at hc;cases hc)];exact hc
theorem bY.trans {h k m:Hp} (a:bY h k) (b:bY k m):bY h m:=fun c o hc=>b c o (a c o hc)
theorem oD {h:Hp} {b c:Nat} {v:Value} {p:Ng->Bool} {T:TypeId} (hb:h b=some ⟨[v],T⟩) (W:Want wants h v p):vw h ⟨some (b,0),1,c⟩ [p]:=
 zQ hb rfl rfl fun i v' p' h1 h2=>by
  match i with
  | 0=>cases h1;cases h2;exact W
  | i+1=>simp at h1
theorem rW {h:Hp} {b c:Nat} {v v2:Value} {p p2:Ng->Bool} {T:TypeId} (hb:h b=some ⟨[v,v2],T⟩) (W:Want wants h v p) (W2:Want wants h v2 p2):vw h ⟨some (b,0),2,c⟩ [p,p2]:=
 zQ hb rfl rfl fun i v' p' h1 h2=>by
  match i with
  | 0=>cases h1;cases h2;exact W
  | 1=>cases h1;cases h2;exact W2
  | i+2=>simp at h1
theorem aaE {h:Hp} {b c:Nat} {v v2 v3:Value} {p p2 p3:Ng->Bool} {T:TypeId} (hb:h b=some ⟨[v,v2,v3],T⟩) (W:Want wants h v p) (W2:Want wants h v2 p2) (W3:Want wants h v3 p3):vw h ⟨some (b,0),3,c⟩ [p,p2,p3]:=
 zQ hb rfl rfl fun i v' p' h1 h2=>by
  match i with
  | 0=>cases h1;cases h2;exact W
  | 1=>cases h1;cases h2;exact W2
  | 2=>cases h1;cases h2;exact W3
  | i+3=>simp at h1
theorem kG {h:Hp} {b n c:Nat} {l:List Int} {T:TypeId} (hb:h b=some ⟨Kw l,T⟩) (hn:l.length=n):Rows h ⟨some (b,0),n,c⟩ (Kw l) 1:=
 ⟨by simp[tC,hn],.inr (by rw[bI hb,if_pos (by simp[tC,hn])];simp[<- hn,<- tC l])⟩
set_option maxHeartbeats 8000000 in
def MI:Ct Tryz.prog where
 f:=91
 spec:=fun args h φ=>∃ x sl l,args=[lkv x sl]/\NG h sl l/\l.length<=1000000/\φ (.bool (stB x.k l)) h
 ok:=by
  rintro args h φ w ⟨x,sl,l,rfl,R,hl,hφ⟩ hH;refine bQ (aZ Tryz.func91 P6 Vw [Du,vJ] (fun v k=>∃ k',bY k' k/\φ v k') (bJ) (aV) ⟨[x.k,x.l,x.c,x.z,x.n],[],[x.x],[],[sl],[],h,cu⟩ ⟨rfl,rfl,rfl,rfl,rfl,rfl⟩ af ?_ w hH rfl);generalize hE:(⟨aG _,_,_,_⟩:Env)=E;have sb7:E.spec 87=(Du).spec:=by rw[<- hE];rfl
  have sb8:E.spec 52=(vJ).spec:=by rw[<- hE];rfl
  have ep:E.post=(fun v k=>∃ k',bY k' k/\φ v k'):=by rw[<- hE]
  clear hE;unfold Gg;unfold stB at hφ;have fin:∀ (C:Ctx) (b:Bool) (e:BE),bY h C.h->e.den C=b->φ (.bool b) h->Then E (.ret (.p (.one (.b e)))) C:=by
   intro C b e hC he hb;rw[aj,ep];refine⟨h,hC,?_⟩;simpa[go_sem,he] using hb
  by_cases h7:x.k=7
  . rw[if_pos h7] at hφ;rw[ak,if_pos (by simpa[go_sem] using h7),ae,aW];intro b hb;have hb':=hset hb;rw[ai,sb7];refine⟨x,sl,l,_,_,rfl,R.le (hb' _),hl,rW (ay _ _ _) (oC _) (dD _),?_⟩;refine rR ⟨[],[_],[],[],[],[]⟩ rfl af rfl ?_;exact fin _ _ _ (hb' _) rfl hφ
  rw[if_neg h7] at hφ;rw[ak,if_neg (by simpa[go_sem] using h7),ae];by_cases h8:x.k=8
  . rw[if_pos h8] at hφ;rw[ak,if_pos (by simpa[go_sem] using h8),ae,aW];intro b hb;have hb':=hset hb;rw[ai,sb8];refine⟨_,rfl,fun p k T hk hp=>?_⟩;refine⟨fun h=>(by cases h),(bn _ _).2 ⟨⟨[],[],[],[_],[],[]⟩,rfl,by intro u hu;simp at hu;subst hu;rfl,rfl,?_⟩⟩;have hkk:=bY.trans (hb' _) hk;have hro:Rows k ⟨some (b,0),3,3⟩ (Kw [26,28,29]) 1:=kG (hk _ _ (ay _ _ _)) rfl;have hw:=oz hp hro (by decide);rw[ae,aW];intro b2 hb2;have hb2':=hset hb2;rw[ai,sb7];refine⟨x,sl,l,_,_,rfl,R.le (bY.trans hkk (hb2' _)),hl,rW (ay _ _ _) (hw.le (hb2' _)) (dD _),?_⟩;refine rR ⟨[],[_],[],[],[],[]⟩ rfl af rfl ?_;exact fin _ _ _ (bY.trans hkk (hb2' _)) rfl hφ
  rw[if_neg h8] at hφ;rw[ak,if_neg (by simpa[go_sem] using h8),ae];by_cases h9:x.k=9
  . rw[if_pos h9] at hφ;rw[ak,if_pos (by simpa[go_sem] using h9),ae,aW];intro b hb;have hb':=hset hb;rw[ai,sb7];refine⟨x,sl,l,_,_,rfl,R.le (hb' _),hl,rW (ay _ _ _) (dD _) (ou _),?_⟩;refine rR ⟨[],[_],[],[],[],[]⟩ rfl af rfl ?_;cases hc:rowB [wE,wB] l with
    | true=>
      rw[hc] at hφ;rw[ah,if_pos (by simp[go_sem])];exact fin _ _ _ (hb' _) rfl hφ
    | false=>
      rw[hc,Bool.false_or] at hφ;rw[ah,if_neg (by simp[go_sem]),ae,aW];intro b2 hb2;have hb2':=hset hb2;rw[ai,sb7];refine⟨x,sl,l,_,_,rfl,R.le (bY.trans (hb' _) (hb2' _)),hl,aaE (ay _ _ _) (dD _) (ou _) (ou _),?_⟩;refine rR ⟨[],[_],[],[],[],[]⟩ rfl af rfl ?_;exact fin _ _ _ (bY.trans (hb' _) (hb2' _)) rfl hφ
  rw[if_neg h9] at hφ;rw[ak,if_neg (by simpa[go_sem] using h9),ae];by_cases h10:x.k=10
  . rw[if_pos h10] at hφ;rw[ak,if_pos (by simpa[go_sem] using h10),ae,aW];intro b hb;have hb':=hset hb;rw[ai,sb7];refine⟨x,sl,l,_,_,rfl,R.le (hb' _),hl,rW (ay _ _ _) (dD _) (ou _),?_⟩;refine rR ⟨[],[_],[],[],[],[]⟩ rfl af rfl ?_;exact fin _ _ _ (hb' _) rfl hφ
  rw[if_neg h10] at hφ;rw[ak,if_neg (by simpa[go_sem] using h10),ae];by_cases h11:x.k=11
  . rw[if_pos h11] at hφ;rw[ak,if_pos (by simpa[go_sem] using h11),ae,ax,if_pos (by rfl),sb7];refine⟨x,sl,l,_,_,rfl,R,hl,eu _,?_⟩;refine rR ⟨[],[_],[],[],[],[]⟩ rfl af rfl ?_;cases hc:rowB [] l with
    | true=>
      rw[hc] at hφ;rw[ah,if_pos (by simp[go_sem])];exact fin _ _ _ (fun _ _ h=>h) rfl hφ
    | false=>
      rw[hc,Bool.false_or] at hφ;rw[ah,if_neg (by simp[go_sem]),ae,aW];intro b2 hb2;have hb2':=hset hb2;rw[ai,sb7];refine⟨x,sl,l,_,_,rfl,R.le (bY.trans (fun _ _ h=>h) (hb2' _)),hl,oD (ay _ _ _) (dD _),?_⟩;refine rR ⟨[],[_],[],[],[],[]⟩ rfl af rfl ?_;exact fin _ _ _ (bY.trans (fun _ _ h=>h) (hb2' _)) rfl hφ
  rw[if_neg h11] at hφ;rw[ak,if_neg (by simpa[go_sem] using h11),ae];by_cases h12:x.k=12
  . rw[if_pos h12] at hφ;rw[ak,if_pos (by simpa[go_sem] using h12),ae,aW];intro b hb;have hb':=hset hb;rw[ai,sb7];refine⟨x,sl,l,_,_,rfl,R.le (hb' _),hl,oD (ay _ _ _) (dD _),?_⟩;refine rR ⟨[],[_],[],[],[],[]⟩ rfl af rfl ?_;exact fin _ _ _ (hb' _) rfl hφ
  rw[if_neg h12] at hφ;rw[ak,if_neg (by simpa[go_sem] using h12),ae];rw[aW];intro b hb;have hb':=hset hb;rw[ai,sb8];refine⟨_,rfl,fun p k T hk hp=>?_⟩;refine⟨fun h=>(by cases h),(bn _ _).2 ⟨⟨[],[],[],[_],[],[]⟩,rfl,by intro u hu;simp at hu;subst hu;rfl,rfl,?_⟩⟩;have hkk:=bY.trans (hb' _) hk;have hro:Rows k ⟨some (b,0),1,1⟩ (Kw [27]) 1:=kG (hk _ _ (ay _ _ _)) rfl;have hw:=oz hp hro (by decide);rw[ae,aW];intro b2 hb2;have hb2':=hset hb2;rw[ai,sb7];refine⟨x,sl,l,_,_,rfl,R.le (bY.trans hkk (hb2' _)),hl,oD (ay _ _ _) (hw.le (hb2' _)),?_⟩;refine rR ⟨[],[_],[],[],[],[]⟩ rfl af rfl ?_;exact fin _ _ _ (bY.trans hkk (hb2' _)) rfl hφ
def EQ:Ng:=⟨0,0,0,0,0,[]⟩
def XN (n:Int) (l:List Ng):Bool:=
 decide (2<=l.length)&&decide ((l.length:Int) - 2=n)&&decide ((l.getD (l.length - 1) EQ).k=6)&&(decide ((l.getD (l.length - 2) EQ).k=14)||ES (l.getD (l.length - 2) EQ))&&(l.take (l.length - 2)).all (wO [5])
theorem NG.take {h:Hp} {sl:bM} {l:List Ng} (R:NG h sl l) {m c:Nat} (hm:m<=l.length):NG h ⟨sl.a,m,c⟩ (l.take m):=by
 have hn:=NG.n R;have e:lI (l.take m)=(lI l).take (m*6):=by
  have h1:lI l=lI (l.take m)++lI (l.drop m):=by rw[<- xg,List.take_append_drop]
  have h2:(lI (l.take m)).length=m*6:=by rw[lJ,List.length_take];omega
  rw[h1,<- h2,List.take_left]
 refine⟨by rw[lJ,List.length_take];show _=m*6;omega,?_⟩;by_cases h0:m=0
 . exact .inl h0
 right;obtain⟨b,o,ha⟩:=Rows.nn R (j:=0) (by omega);rcases R.2 with h1 | hr
 . omega
 . show hread h sl.a (m*6)=_;rw[ha] at hr⊢;have:=HY hr (k:=0) (m:=m*6) (by omega);rw[e];simpa using this
set_option maxRecDepth 100000 in
set_option maxHeartbeats 8000000 in
def TE:Ct Tryz.prog where
 f:=89
 spec:=fun args h φ=>∃ x sl l,args=[lkv x sl]/\NG h sl l/\l.length<=1000000/\sl.n<=sl.c/\φ (.bool (XN x.n l)) h
 ok:=by
  rintro args h φ w ⟨x,sl,l,rfl,R,hl,hc,hφ⟩ hH;refine bQ (aZ Tryz.func89 Uy Yr [xQ,DD,vJ,uC] (fun v k=>∃ k',bY k' k/\φ v k') (bJ) (aV) ⟨[x.k,x.l,x.c,x.z,x.n],[],[x.x],[],[sl],[],h,cu⟩ ⟨rfl,rfl,rfl,rfl,rfl,rfl⟩ af ?_ w hH rfl);generalize hE:(⟨aG _,_,_,_⟩:Env)=E;have sb9:E.spec 132=(xQ).spec:=by rw[<- hE];rfl
  have sba:E.spec 88=(DD).spec:=by rw[<- hE];rfl
  have sb8:E.spec 52=(vJ).spec:=by rw[<- hE];rfl
  have sbb:E.spec 51=(uC).spec:=by rw[<- hE];rfl
  have ep:E.post=(fun v k=>∃ k',bY k' k/\φ v k'):=by rw[<- hE]
  clear hE;unfold Nw;have hn:=NG.n R;unfold XN at hφ;by_cases h2:2<=l.length;rotate_left
  . rw[decide_eq_false h2] at hφ;have hz:¬ ((2:Int)<=sl.n):=by omega
    rw[<- ae]
    iterate 16 (try simp only[ae];try simp[go_sem,hz])
    rw[ep];exact⟨h,fun _ _ h=>h,by simpa using hφ⟩
  have hz:¬ ((sl.n:Int)<2):=by omega
  have hz':(2:Int)<=sl.n:=by omega
  have r1:(-9223372036854775808:Int)<=sl.n - 2:=by omega
  have r2:(sl.n:Int) - 2<=9223372036854775807:=by omega
  have r3:(-9223372036854775808:Int)<=sl.n - 1:=by omega
  have r4:(sl.n:Int) - 1<=9223372036854775807:=by omega
  rw[decide_eq_true h2,Bool.true_and] at hφ;by_cases hx:(l.length:Int) - 2=x.n;rotate_left
  . rw[decide_eq_false hx] at hφ;have hx':¬ ((sl.n:Int) - 2=x.n):=by omega
    rw[<- ae]
    iterate 16 (try simp only[ae];try simp[go_sem,hz',hx',r1,r2])
    rw[ep];exact⟨h,fun _ _ h=>h,by simpa using hφ⟩
  have hx':(sl.n:Int) - 2=x.n:=by omega
  rw[decide_eq_true hx,Bool.true_and] at hφ;obtain⟨b,o,ha⟩:=Rows.nn R (j:=0) (by omega);have rd1:=NG.node R (j:=l.length - 1) (by omega) ha;have rd2:=NG.node R (j:=l.length - 2) (by omega) ha;have rdk:=Rows.read (off:=0) (m:=1) R (j:=l.length - 2) (by omega) (by omega) ha;rw[Nat.add_zero,Nat.add_zero,eP (by omega)] at rdk;rw[List.getD_eq_getElem?_getD,List.getD_eq_getElem?_getD,List.getElem?_eq_getElem (by omega:l.length - 1<l.length),List.getElem?_eq_getElem (by omega:l.length - 2<l.length),Option.getD_some,Option.getD_some] at hφ;generalize l[l.length - 1]=y at *;generalize l[l.length - 2]=z at *;have q1:((sl.n:Int) - 1).toNat=l.length - 1:=by omega
  have q2:((sl.n:Int) - 2).toNat=l.length - 2:=by omega
  have q3:(0:Int)<=sl.n - 1:=by omega
  have q4:(0:Int)<=sl.n - 2:=by omega
  have q5:(1:Int)<=sl.n:=by omega
  rw[aA];refine⟨by simp[go_sem];omega,?_⟩;rw[ag];refine⟨by simp[go_sem,hx']<;>omega,?_⟩;rw[ag];refine⟨by simp[go_sem,hx',ha];omega,?_⟩;rw[bP,if_pos (by simp[go_sem,hx',hz'])];refine (bn _ _).2 ⟨⟨[y.k,y.l,y.c,y.z,y.n],[],[y.x],[],[],[]⟩,rfl,af,by simpa[go_sem,ha,Ng.cs,q1] using rd1,?_⟩;rw[bD,if_pos (by simp[go_sem,hx',hz']),sb9];refine⟨y,rfl,?_⟩;by_cases hy:y.k=6;rotate_left
  . rw[decide_eq_false hy] at hφ;refine⟨fun h=>(by cases h),(bn _ _).2 ⟨⟨[],[false],[],[],[],[]⟩,rfl,af,by rw[decide_eq_false hy];rfl,?_⟩⟩
    iterate 14 (try simp only[ae];try simp[go_sem,hx'])
    rw[ep];exact⟨h,fun _ _ h=>h,by simpa using hφ⟩
  rw[decide_eq_true hy,Bool.true_and] at hφ;refine⟨fun h=>(by cases h),(bn _ _).2 ⟨⟨[],[true],[],[],[],[]⟩,rfl,af,by rw[decide_eq_true hy];rfl,?_⟩⟩;rw[ag];refine⟨by simp[go_sem,hx']<;>omega,?_⟩;rw[ag];refine⟨by simp[go_sem,hx',ha]<;>omega,?_⟩;rw[ag];refine⟨by simp[go_sem,hx',ha],?_⟩;rw[bP,if_pos (by simp[go_sem,hx',hz'])];refine (bn _ _).2 ⟨⟨[z.k],[],[],[],[],[]⟩,rfl,af,by simpa[go_sem,ha,Ng.cs,q2] using rdk,?_⟩;have last:∀ (i1 i2 i3 i4 i5 i6 i7 i8 i9 i10 i11:Int) (b0 b1:Bool) (t1 t2:List UInt8),(b0&&(decide (i6=14)||b1))=true->φ (.bool ((l.take (l.length - 2)).all (wO [5]))) h->
   Then E (.N (.R (.sub (.cnt (.x 0)) (.c 2)))
    (.N (.and (.and (.le (.c 0) (.sub (.cnt (.x 0)) (.c 2))) (.le (.sub (.cnt (.x 0)) (.c 2)) (.cap (.x 0)))) (.and (.le (.c 0) (.c 0)) (.le (.c 0) (.sub (.cnt (.x 0)) (.c 2)))))
    (.mk [(.i .u8 (.c 5))] 5 1
    (.C 52 [.L 1] (.p (.one (.v 0))) ⟨0,0,0,1,0,0⟩
    (.C 51 [(.agg [.U 0,.J 1,.J 2,.J 3,.J 4,(.s (.x 0)),(.sl (.sub (.x 0) (.c 0) (.sub (.cnt (.x 0)) (.c 2)) 6))]),(.one (.v 0))] (.p (.B 2)) ⟨0,1,0,0,0,0⟩
    (.ret (.p (.B 2)))))))) ⟨[x.k,x.l,x.c,x.z,x.n,i1,i2,i3,i4,i5,i6,i7,i8,i9,i10,i11],[b0,b1],[x.x,t1,t2],[],[sl],[],h,cu⟩:=by
   intro i1 i2 i3 i4 i5 i6 i7 i8 i9 i10 i11 b0 b1 t1 t2 _ hφ;rw[ag];refine⟨by simp[go_sem]<;>omega,?_⟩;rw[ag];refine⟨by simp[go_sem]<;>omega,?_⟩;rw[ae,aW];intro b2 hb2;have hb2':=hset hb2;rw[ai,sb8];refine⟨_,rfl,fun p k T hk hp=>?_⟩;refine⟨fun h=>(by cases h),(bn _ _).2 ⟨⟨[],[],[],[_],[],[]⟩,rfl,by intro u hu;simp at hu;subst hu;rfl,rfl,?_⟩⟩;have hkk:=bY.trans (hb2' _) hk;have hro:Rows k ⟨some (b2,0),1,1⟩ (Kw [5]) 1:=kG (hk _ _ (ay _ _ _)) rfl;have hw:=oz hp hro (by decide);rw[ai,sbb];have hsub:(LE.den (⟨[x.k,x.l,x.c,x.z,x.n,i1,i2,i3,i4,i5,i6,i7,i8,i9,i10,i11],[b0,b1],[x.x,t1,t2],[],[sl],[],h,cu⟩:Ctx) (.sub (.x 0) (.c 0) (.sub (.cnt (.x 0)) (.c 2)) 6))=⟨sl.a,l.length - 2,sl.c⟩:=by
    show (⟨if sl.c=0 then sl.a else sl.a.map fun x=>(x.1,x.2+0*6),((sl.n:Int) - 2).toNat - 0,sl.c - 0⟩:bM)=_;rw[q2,ha];simp
   have hNG:NG k ⟨sl.a,l.length - 2,sl.c⟩ (l.take (l.length - 2)):=(NG.take R (by omega)).le hkk;refine⟨x,⟨sl.a,l.length - 2,sl.c⟩,l.take (l.length - 2),_,_,by rw[<- hsub];rfl,hNG,by rw[List.length_take];omega,hw,?_⟩;refine rR ⟨[],[_],[],[],[],[]⟩ rfl af rfl ?_;rw[aj,ep];exact⟨h,hkk,hφ⟩
  by_cases hk:z.k=14
  . rw[decide_eq_true hk,Bool.true_or,Bool.true_and] at hφ;rw[ag];refine⟨by simp[go_sem,hk],?_⟩;rw[ag];refine⟨by simp[go_sem,hk],?_⟩;rw[bP,if_neg (by simp[go_sem,hk]),ae,ax,if_neg (by simp[go_sem,hk]),ae,ak,if_neg (by simp[go_sem,hk,hz',hx'])];exact last _ _ _ _ _ _ _ _ _ _ _ _ _ _ _ (by simp[hk]) hφ
  . rw[decide_eq_false hk,Bool.false_or] at hφ;rw[ag];refine⟨by simp[go_sem]<;>omega,?_⟩;rw[ag];refine⟨by simp[go_sem,ha]<;>omega,?_⟩;rw[bP,if_pos (by simp[go_sem,hz',hx',hk])];refine (bn _ _).2 ⟨⟨[z.k,z.l,z.c,z.z,z.n],[],[z.x],[],[],[]⟩,rfl,af,by simpa[go_sem,ha,Ng.cs,q2] using rd2,?_⟩;rw[bD,if_pos (by simp[go_sem,hz',hx',hk]),sba];refine⟨z,rfl,?_⟩;cases hw:ES z with
    | false=>
      rw[hw] at hφ;refine⟨fun h=>(by cases h),(bn _ _).2 ⟨⟨[],[false],[],[],[],[]⟩,rfl,af,by rw[show sD 15 20 z=false from hw];rfl,?_⟩⟩;rw[ah,if_pos (by simp[go_sem,hk]),ae,au,ep];exact⟨h,fun _ _ h=>h,by simpa[go_sem] using hφ⟩
    | true=>
      rw[hw,Bool.true_and] at hφ;refine⟨fun h=>(by cases h),(bn _ _).2 ⟨⟨[],[true],[],[],[],[]⟩,rfl,af,by rw[show sD 15 20 z=true from hw];rfl,?_⟩⟩;rw[ah,if_neg (by simp[go_sem,hz',hx'])];exact last _ _ _ _ _ _ _ _ _ _ _ _ _ _ _ (by simp) hφ
def AY:Fm:=(.ite (.eqI (.x 0) (.c 2))
 (.mk [(.i .u8 (.c 3))] 5 1
 (.C 52 [.L 1] (.p (.one (.v 0))) ⟨0,0,0,1,0,0⟩
 (.C 51 [(.agg [.U 0,.J 1,.J 2,.J 3,.J 4,(.s (.x 0)),(.sl (.x 0))]),(.one (.v 0))] (.p (.B 0)) ⟨0,1,0,0,0,0⟩
 (.ret (.p (.B 0))))))
 (.ite (.eqI (.x 0) (.c 3))
 (.mk [(.c (.fn 88))] 81 1
 (.C 87 [(.agg [.U 0,.J 1,.J 2,.J 3,.J 4,(.s (.x 0)),(.sl (.x 0))]),.L 1] (.p (.B 0)) ⟨0,1,0,0,0,0⟩
 (.ret (.p (.B 0)))))
 (.ite (.eqI (.x 0) (.c 5))
 (.mk [(.c (.fn 88))] 81 1
 (.C 87 [(.agg [.U 0,.J 1,.J 2,.J 3,.J 4,(.s (.x 0)),(.sl (.x 0))]),.L 1] (.p (.B 0)) ⟨0,1,0,0,0,0⟩
 (.ret (.p (.B 0)))))
 (.ite (.eqI (.x 0) (.c 20))
 (.mk [(.c (.fn 88))] 81 1
 (.C 87 [(.agg [.U 0,.J 1,.J 2,.J 3,.J 4,(.s (.x 0)),(.sl (.x 0))]),.L 1] (.p (.B 0)) ⟨0,1,0,0,0,0⟩
 (.ret (.p (.B 0)))))
 (.ite (.eqI (.x 0) (.c 4))
 (.C 89 [(.agg [.U 0,.J 1,.J 2,.J 3,.J 4,(.s (.x 0)),(.sl (.x 0))])] (.p (.B 0)) ⟨0,1,0,0,0,0⟩
 (.ret (.p (.B 0))))
 (.ite (.eqI (.x 0) (.c 6))
 (.C 90 [(.one (.i .u8 (.c 7))),(.one (.i .u8 (.c 13)))] (.p (.one (.v 0))) ⟨0,0,0,1,0,0⟩
 (.C 51 [(.agg [.U 0,.J 1,.J 2,.J 3,.J 4,(.s (.x 0)),(.sl (.x 0))]),(.one (.v 0))] (.p (.B 0)) ⟨0,1,0,0,0,0⟩
 (.ret (.p (.B 0)))))
 (.ite (.eqI (.x 0) (.c 7))
 (.C 91 [(.agg [.U 0,.J 1,.J 2,.J 3,.J 4,(.s (.x 0)),(.sl (.x 0))])] (.p (.B 0)) ⟨0,1,0,0,0,0⟩
 (.ret (.p (.B 0))))
 (.ite (.eqI (.x 0) (.c 8))
 (.C 91 [(.agg [.U 0,.J 1,.J 2,.J 3,.J 4,(.s (.x 0)),(.sl (.x 0))])] (.p (.B 0)) ⟨0,1,0,0,0,0⟩
 (.ret (.p (.B 0))))
 (.ite (.eqI (.x 0) (.c 9))
 (.C 91 [(.agg [.U 0,.J 1,.J 2,.J 3,.J 4,(.s (.x 0)),(.sl (.x 0))])] (.p (.B 0)) ⟨0,1,0,0,0,0⟩
 (.ret (.p (.B 0))))
 (.ite (.eqI (.x 0) (.c 10))
 (.C 91 [(.agg [.U 0,.J 1,.J 2,.J 3,.J 4,(.s (.x 0)),(.sl (.x 0))])] (.p (.B 0)) ⟨0,1,0,0,0,0⟩
 (.ret (.p (.B 0))))
 (.ite (.eqI (.x 0) (.c 11))
 (.C 91 [(.agg [.U 0,.J 1,.J 2,.J 3,.J 4,(.s (.x 0)),(.sl (.x 0))])] (.p (.B 0)) ⟨0,1,0,0,0,0⟩
 (.ret (.p (.B 0))))
 (.ite (.eqI (.x 0) (.c 12))
 (.C 91 [(.agg [.U 0,.J 1,.J 2,.J 3,.J 4,(.s (.x 0)),(.sl (.x 0))])] (.p (.B 0)) ⟨0,1,0,0,0,0⟩
 (.ret (.p (.B 0))))
 (.ite (.eqI (.x 0) (.c 13))
 (.C 91 [(.agg [.U 0,.J 1,.J 2,.J 3,.J 4,(.s (.x 0)),(.sl (.x 0))])] (.p (.B 0)) ⟨0,1,0,0,0,0⟩
 (.ret (.p (.B 0))))
 (.ite (.eqI (.x 0) (.c 27))
 (.C 51 [(.agg [.U 0,.J 1,.J 2,.J 3,.J 4,(.s (.x 0)),(.sl (.x 0))]),(.one (.c (.fn 92)))] (.p (.B 0)) ⟨0,1,0,0,0,0⟩
 (.ret (.p (.B 0))))
 (.ite (.eqI (.x 0) (.c 28))
 (.mk [(.c (.fn 92)),(.c (.fn 92))] 81 2
 (.C 87 [(.agg [.U 0,.J 1,.J 2,.J 3,.J 4,(.s (.x 0)),(.sl (.x 0))]),.L 1] (.p (.B 0)) ⟨0,1,0,0,0,0⟩
 (.ret (.p (.B 0)))))
 (.ite (.eqI (.x 0) (.c 31))
 (.mk [(.c (.fn 92)),(.c (.fn 92))] 81 2
 (.C 87 [(.agg [.U 0,.J 1,.J 2,.J 3,.J 4,(.s (.x 0)),(.sl (.x 0))]),.L 1] (.p (.B 0)) ⟨0,1,0,0,0,0⟩
 (.ret (.p (.B 0)))))
 (.ite (.eqI (.x 0) (.c 29))
 (.mk [(.c (.fn 92))] 81 1
 (.C 87 [(.agg [.U 0,.J 1,.J 2,.J 3,.J 4,(.s (.x 0)),(.sl (.x 0))]),.L 1] (.p (.B 0)) ⟨0,1,0,0,0,0⟩
 (.ret (.p (.B 0)))))
 (.ite (.eqI (.x 0) (.c 30))
 (.mk [(.c (.fn 92))] 81 1
 (.C 87 [(.agg [.U 0,.J 1,.J 2,.J 3,.J 4,(.s (.x 0)),(.sl (.x 0))]),.L 1] (.p (.B 0)) ⟨0,1,0,0,0,0⟩
 (.ret (.p (.B 0)))))
 (.ite (.eqI (.x 0) (.c 32))
 (.mk [(.i .u8 (.c 19))] 5 1
 (.C 52 [.L 1] (.p (.one (.v 0))) ⟨0,0,0,1,0,0⟩
 (.mk [(.v 0)] 81 1
 (.C 87 [(.agg [.U 0,.J 1,.J 2,.J 3,.J 4,(.s (.x 0)),(.sl (.x 0))]),.L 2] (.p (.B 0)) ⟨0,1,0,0,0,0⟩
 (.ite (.x 0)
 (.ret (.p (.one (.b (.c true)))))
 (.mk [(.i .u8 (.c 20))] 5 1
 (.C 52 [.L 3] (.p (.one (.v 1))) ⟨0,0,0,1,0,0⟩
 (.mk [(.v 1),(.c (.fn 92))] 81 2
 (.C 87 [(.agg [.U 0,.J 1,.J 2,.J 3,.J 4,(.s (.x 0)),(.sl (.x 0))]),.L 4] (.p (.B 1)) ⟨0,1,0,0,0,0⟩
 (.ret (.p (.B 1))))))))))))
 (.ite (.eqI (.x 0) (.c 14))
 (.C 87 [(.agg [.U 0,.J 1,.J 2,.J 3,.J 4,(.s (.x 0)),(.sl (.x 0))]),(.one (.sl .nil))] (.p (.B 0)) ⟨0,1,0,0,0,0⟩
 (.ret (.p (.B 0))))
 (.ite (.eqI (.x 0) (.c 15))
 (.C 87 [(.agg [.U 0,.J 1,.J 2,.J 3,.J 4,(.s (.x 0)),(.sl (.x 0))]),(.one (.sl .nil))] (.p (.B 0)) ⟨0,1,0,0,0,0⟩
 (.ret (.p (.B 0))))
 (.ite (.eqI (.x 0) (.c 16))
 (.C 87 [(.agg [.U 0,.J 1,.J 2,.J 3,.J 4,(.s (.x 0)),(.sl (.x 0))]),(.one (.sl .nil))] (.p (.B 0)) ⟨0,1,0,0,0,0⟩
 (.ret (.p (.B 0))))
 (.ite (.eqI (.x 0) (.c 17))
 (.C 87 [(.agg [.U 0,.J 1,.J 2,.J 3,.J 4,(.s (.x 0)),(.sl (.x 0))]),(.one (.sl .nil))] (.p (.B 0)) ⟨0,1,0,0,0,0⟩
 (.ret (.p (.B 0))))
 (.ite (.eqI (.x 0) (.c 18))
 (.C 87 [(.agg [.U 0,.J 1,.J 2,.J 3,.J 4,(.s (.x 0)),(.sl (.x 0))]),(.one (.sl .nil))] (.p (.B 0)) ⟨0,1,0,0,0,0⟩
 (.ret (.p (.B 0))))
 (.ite (.eqI (.x 0) (.c 19))
 (.C 87 [(.agg [.U 0,.J 1,.J 2,.J 3,.J 4,(.s (.x 0)),(.sl (.x 0))]),(.one (.sl .nil))] (.p (.B 0)) ⟨0,1,0,0,0,0⟩
 (.ret (.p (.B 0))))
 (.ite (.eqI (.x 0) (.c 21))
 (.C 87 [(.agg [.U 0,.J 1,.J 2,.J 3,.J 4,(.s (.x 0)),(.sl (.x 0))]),(.one (.sl .nil))] (.p (.B 0)) ⟨0,1,0,0,0,0⟩
 (.ret (.p (.B 0))))
 (.ite (.eqI (.x 0) (.c 22))
 (.C 87 [(.agg [.U 0,.J 1,.J 2,.J 3,.J 4,(.s (.x 0)),(.sl (.x 0))]),(.one (.sl .nil))] (.p (.B 0)) ⟨0,1,0,0,0,0⟩
 (.ret (.p (.B 0))))
 (.ite (.eqI (.x 0) (.c 23))
 (.C 87 [(.agg [.U 0,.J 1,.J 2,.J 3,.J 4,(.s (.x 0)),(.sl (.x 0))]),(.one (.sl .nil))] (.p (.B 0)) ⟨0,1,0,0,0,0⟩
 (.ret (.p (.B 0))))
 (.ite (.eqI (.x 0) (.c 24))
 (.C 87 [(.agg [.U 0,.J 1,.J 2,.J 3,.J 4,(.s (.x 0)),(.sl (.x 0))]),(.one (.sl .nil))] (.p (.B 0)) ⟨0,1,0,0,0,0⟩
 (.ret (.p (.B 0))))
 (.ite (.eqI (.x 0) (.c 25))
 (.C 87 [(.agg [.U 0,.J 1,.J 2,.J 3,.J 4,(.s (.x 0)),(.sl (.x 0))]),(.one (.sl .nil))] (.p (.B 0)) ⟨0,1,0,0,0,0⟩
 (.ret (.p (.B 0))))
 (.ite (.eqI (.x 0) (.c 26))
 (.C 87 [(.agg [.U 0,.J 1,.J 2,.J 3,.J 4,(.s (.x 0)),(.sl (.x 0))]),(.one (.sl .nil))] (.p (.B 0)) ⟨0,1,0,0,0,0⟩
 (.ret (.p (.B 0))))
 (.ret (.p (.one (.b (.c false))))))))))))))))))))))))))))))))))))
theorem JA:aU ⟨true,[1000005]⟩ Tryz.prog (fun l=>([]:List bG).getD l ⟨[],[],[]⟩) Tryz.f53=AY:=by kernel_rfl
theorem QX:az Tryz.prog .zero Tryz.f53.params.toList=some ([(.agg [.U 0,.J 1,.J 2,.J 3,.J 4,(.s (.x 0)),(.sl (.x 0))])],⟨5,0,1,0,1,0⟩):=by kernel_rfl
def dR (k n:Int) (l:List Ng):Bool:=
 if k=2 then l.all (wO [3])
 else if k=3 then rowB [ES] l
 else if k=5 then rowB [ES] l
 else if k=20 then rowB [ES] l
 else if k=4 then XN n l
 else if k=6 then l.all (sD 7 13)
 else if k=7 then stB k l
 else if k=8 then stB k l
 else if k=9 then stB k l
 else if k=10 then stB k l
 else if k=11 then stB k l
 else if k=12 then stB k l
 else if k=13 then stB k l
 else if k=27 then l.all wE
 else if k=28 then rowB [wE,wE] l
 else if k=31 then rowB [wE,wE] l
 else if k=29 then rowB [wE] l
 else if k=30 then rowB [wE] l
 else if k=32 then rowB [wO [19]] l||rowB [wO [20],wE] l
 else if k=14 then rowB [] l
 else if k=15 then rowB [] l
 else if k=16 then rowB [] l
 else if k=17 then rowB [] l
 else if k=18 then rowB [] l
 else if k=19 then rowB [] l
 else if k=21 then rowB [] l
 else if k=22 then rowB [] l
 else if k=23 then rowB [] l
 else if k=24 then rowB [] l
 else if k=25 then rowB [] l
 else if k=26 then rowB [] l else false
set_option maxRecDepth 100000 in
set_option maxHeartbeats 16000000 in
def Fz:Ct Tryz.prog where
 f:=53
 spec:=fun args h φ=>∃ x sl l,args=[lkv x sl]/\NG h sl l/\l.length<=1000000/\sl.n<=sl.c/\φ (.bool (dR x.k x.n l)) h
 ok:=by
  rintro args h φ w ⟨x,sl,l,rfl,R,hl,hc,hφ⟩ hH;refine bQ (aZ Tryz.func53 JA QX [vJ,uC,Du,TE,qP,MI] (fun v k=>∃ k',bY k' k/\φ v k') (bJ) (aV) ⟨[x.k,x.l,x.c,x.z,x.n],[],[x.x],[],[sl],[],h,cu⟩ ⟨rfl,rfl,rfl,rfl,rfl,rfl⟩ af ?_ w hH rfl);generalize hE:(⟨aG _,_,_,_⟩:Env)=E;have sb8:E.spec 52=(vJ).spec:=by rw[<- hE];rfl
  have sbb:E.spec 51=(uC).spec:=by rw[<- hE];rfl
  have sb7:E.spec 87=(Du).spec:=by rw[<- hE];rfl
  have sbc:E.spec 89=(TE).spec:=by rw[<- hE];rfl
  have sbd:E.spec 90=(qP).spec:=by rw[<- hE];rfl
  have sbe:E.spec 91=(MI).spec:=by rw[<- hE];rfl
  have ep:E.post=(fun v k=>∃ k',bY k' k/\φ v k'):=by rw[<- hE]
  clear hE;unfold AY;unfold dR at hφ;have fin:∀ (C:Ctx) (b:Bool) (e:BE),bY h C.h->e.den C=b->φ (.bool b) h->Then E (.ret (.p (.one (.b e)))) C:=by
   intro C b e hC he hb;rw[aj,ep];refine⟨h,hC,?_⟩;simpa[go_sem,he] using hb
  by_cases c2:x.k=2
  . rw[if_pos c2] at hφ;rw[ak,if_pos (by simpa[go_sem] using c2)];rw[ae,aW];intro b hb;have hb':=hset hb;rw[ai,sb8];refine⟨_,rfl,fun pb kb Tb hkb hpb=>?_⟩;refine⟨fun h=>(by cases h),(bn _ _).2 ⟨⟨[],[],[],[_],[],[]⟩,rfl,by intro u hu;simp at hu;subst hu;rfl,rfl,?_⟩⟩;have hkkb:=bY.trans (hb' _) hkb;have hrob:Rows kb ⟨some (b,0),1,1⟩ (Kw [3]) 1:=kG (hkb _ _ (ay _ _ _)) rfl;have hwb:=oz hpb hrob (by decide);rw[ai,sbb];refine⟨x,sl,l,_,_,rfl,R.le hkkb,hl,hwb,?_⟩;refine rR ⟨[],[_],[],[],[],[]⟩ rfl af rfl ?_;exact fin _ _ _ hkkb rfl hφ
  rw[if_neg c2] at hφ;rw[ak,if_neg (by simpa[go_sem] using c2),ae];by_cases c3:x.k=3
  . rw[if_pos c3] at hφ;rw[ak,if_pos (by simpa[go_sem] using c3)];rw[ae,aW];intro b hb;have hb':=hset hb;rw[ai,sb7];refine⟨x,sl,l,_,_,rfl,R.le (hb' _),hl,oD (ay _ _ _) (oC _),?_⟩;refine rR ⟨[],[_],[],[],[],[]⟩ rfl af rfl ?_;exact fin _ _ _ (hb' _) rfl hφ
  rw[if_neg c3] at hφ;rw[ak,if_neg (by simpa[go_sem] using c3),ae];by_cases c5:x.k=5
  . rw[if_pos c5] at hφ;rw[ak,if_pos (by simpa[go_sem] using c5)];rw[ae,aW];intro b hb;have hb':=hset hb;rw[ai,sb7];refine⟨x,sl,l,_,_,rfl,R.le (hb' _),hl,oD (ay _ _ _) (oC _),?_⟩;refine rR ⟨[],[_],[],[],[],[]⟩ rfl af rfl ?_;exact fin _ _ _ (hb' _) rfl hφ
  rw[if_neg c5] at hφ;rw[ak,if_neg (by simpa[go_sem] using c5),ae];by_cases c20:x.k=20
  . rw[if_pos c20] at hφ;rw[ak,if_pos (by simpa[go_sem] using c20)];rw[ae,aW];intro b hb;have hb':=hset hb;rw[ai,sb7];refine⟨x,sl,l,_,_,rfl,R.le (hb' _),hl,oD (ay _ _ _) (oC _),?_⟩;refine rR ⟨[],[_],[],[],[],[]⟩ rfl af rfl ?_;exact fin _ _ _ (hb' _) rfl hφ
  rw[if_neg c20] at hφ;rw[ak,if_neg (by simpa[go_sem] using c20),ae];by_cases c4:x.k=4
  . rw[if_pos c4] at hφ;rw[ak,if_pos (by simpa[go_sem] using c4)];rw[ai,sbc];refine⟨x,sl,l,rfl,R,hl,hc,?_⟩;refine rR ⟨[],[_],[],[],[],[]⟩ rfl af rfl ?_;exact fin _ _ _ (fun _ _ h=>h) rfl hφ
  rw[if_neg c4] at hφ;rw[ak,if_neg (by simpa[go_sem] using c4),ae];by_cases c6:x.k=6
  . rw[if_pos c6] at hφ;rw[ak,if_pos (by simpa[go_sem] using c6)];rw[ai,sbd];refine⟨7,13,rfl,fun p q k hk h1 h2=>?_⟩;refine⟨fun h=>(by cases h),(bn _ _).2 ⟨⟨[],[],[],[_],[],[]⟩,rfl,by intro u hu;simp at hu;subst hu;rfl,rfl,?_⟩⟩;rw[ai,sbb];refine⟨x,sl,l,_,_,rfl,R.le hk,hl,Xi h1 h2,?_⟩;refine rR ⟨[],[_],[],[],[],[]⟩ rfl af rfl ?_;exact fin _ _ _ hk rfl hφ
  rw[if_neg c6] at hφ;rw[ak,if_neg (by simpa[go_sem] using c6),ae];by_cases c7:x.k=7
  . rw[if_pos c7] at hφ;rw[ak,if_pos (by simpa[go_sem] using c7)];rw[ai,sbe];refine⟨x,sl,l,rfl,R,hl,?_⟩;refine rR ⟨[],[_],[],[],[],[]⟩ rfl af rfl ?_;exact fin _ _ _ (fun _ _ h=>h) rfl hφ
  rw[if_neg c7] at hφ;rw[ak,if_neg (by simpa[go_sem] using c7),ae];by_cases c8:x.k=8
  . rw[if_pos c8] at hφ;rw[ak,if_pos (by simpa[go_sem] using c8)];rw[ai,sbe];refine⟨x,sl,l,rfl,R,hl,?_⟩;refine rR ⟨[],[_],[],[],[],[]⟩ rfl af rfl ?_;exact fin _ _ _ (fun _ _ h=>h) rfl hφ
  rw[if_neg c8] at hφ;rw[ak,if_neg (by simpa[go_sem] using c8),ae];by_cases c9:x.k=9
  . rw[if_pos c9] at hφ;rw[ak,if_pos (by simpa[go_sem] using c9)];rw[ai,sbe];refine⟨x,sl,l,rfl,R,hl,?_⟩;refine rR ⟨[],[_],[],[],[],[]⟩ rfl af rfl ?_;exact fin _ _ _ (fun _ _ h=>h) rfl hφ
  rw[if_neg c9] at hφ;rw[ak,if_neg (by simpa[go_sem] using c9),ae];by_cases c10:x.k=10
  . rw[if_pos c10] at hφ;rw[ak,if_pos (by simpa[go_sem] using c10)];rw[ai,sbe];refine⟨x,sl,l,rfl,R,hl,?_⟩;refine rR ⟨[],[_],[],[],[],[]⟩ rfl af rfl ?_;exact fin _ _ _ (fun _ _ h=>h) rfl hφ
  rw[if_neg c10] at hφ;rw[ak,if_neg (by simpa[go_sem] using c10),ae];by_cases c11:x.k=11
  . rw[if_pos c11] at hφ;rw[ak,if_pos (by simpa[go_sem] using c11)];rw[ai,sbe];refine⟨x,sl,l,rfl,R,hl,?_⟩;refine rR ⟨[],[_],[],[],[],[]⟩ rfl af rfl ?_;exact fin _ _ _ (fun _ _ h=>h) rfl hφ
  rw[if_neg c11] at hφ;rw[ak,if_neg (by simpa[go_sem] using c11),ae];by_cases c12:x.k=12
  . rw[if_pos c12] at hφ;rw[ak,if_pos (by simpa[go_sem] using c12)];rw[ai,sbe];refine⟨x,sl,l,rfl,R,hl,?_⟩;refine rR ⟨[],[_],[],[],[],[]⟩ rfl af rfl ?_;exact fin _ _ _ (fun _ _ h=>h) rfl hφ
  rw[if_neg c12] at hφ;rw[ak,if_neg (by simpa[go_sem] using c12),ae];by_cases c13:x.k=13
  . rw[if_pos c13] at hφ;rw[ak,if_pos (by simpa[go_sem] using c13)];rw[ai,sbe];refine⟨x,sl,l,rfl,R,hl,?_⟩;refine rR ⟨[],[_],[],[],[],[]⟩ rfl af rfl ?_;exact fin _ _ _ (fun _ _ h=>h) rfl hφ
  rw[if_neg c13] at hφ;rw[ak,if_neg (by simpa[go_sem] using c13),ae];by_cases c27:x.k=27
  . rw[if_pos c27] at hφ;rw[ak,if_pos (by simpa[go_sem] using c27)];rw[ai,sbb];refine⟨x,sl,l,_,_,rfl,R,hl,dD _,?_⟩;refine rR ⟨[],[_],[],[],[],[]⟩ rfl af rfl ?_;exact fin _ _ _ (fun _ _ h=>h) rfl hφ
  rw[if_neg c27] at hφ;rw[ak,if_neg (by simpa[go_sem] using c27),ae];by_cases c28:x.k=28
  . rw[if_pos c28] at hφ;rw[ak,if_pos (by simpa[go_sem] using c28)];rw[ae,aW];intro b hb;have hb':=hset hb;rw[ai,sb7];refine⟨x,sl,l,_,_,rfl,R.le (hb' _),hl,rW (ay _ _ _) (dD _) (dD _),?_⟩;refine rR ⟨[],[_],[],[],[],[]⟩ rfl af rfl ?_;exact fin _ _ _ (hb' _) rfl hφ
  rw[if_neg c28] at hφ;rw[ak,if_neg (by simpa[go_sem] using c28),ae];by_cases c31:x.k=31
  . rw[if_pos c31] at hφ;rw[ak,if_pos (by simpa[go_sem] using c31)];rw[ae,aW];intro b hb;have hb':=hset hb;rw[ai,sb7];refine⟨x,sl,l,_,_,rfl,R.le (hb' _),hl,rW (ay _ _ _) (dD _) (dD _),?_⟩;refine rR ⟨[],[_],[],[],[],[]⟩ rfl af rfl ?_;exact fin _ _ _ (hb' _) rfl hφ
  rw[if_neg c31] at hφ;rw[ak,if_neg (by simpa[go_sem] using c31),ae];by_cases c29:x.k=29
  . rw[if_pos c29] at hφ;rw[ak,if_pos (by simpa[go_sem] using c29)];rw[ae,aW];intro b hb;have hb':=hset hb;rw[ai,sb7];refine⟨x,sl,l,_,_,rfl,R.le (hb' _),hl,oD (ay _ _ _) (dD _),?_⟩;refine rR ⟨[],[_],[],[],[],[]⟩ rfl af rfl ?_;exact fin _ _ _ (hb' _) rfl hφ
  rw[if_neg c29] at hφ;rw[ak,if_neg (by simpa[go_sem] using c29),ae];by_cases c30:x.k=30
  . rw[if_pos c30] at hφ;rw[ak,if_pos (by simpa[go_sem] using c30)];rw[ae,aW];intro b hb;have hb':=hset hb;rw[ai,sb7];refine⟨x,sl,l,_,_,rfl,R.le (hb' _),hl,oD (ay _ _ _) (dD _),?_⟩;refine rR ⟨[],[_],[],[],[],[]⟩ rfl af rfl ?_;exact fin _ _ _ (hb' _) rfl hφ
  rw[if_neg c30] at hφ;rw[ak,if_neg (by simpa[go_sem] using c30),ae];by_cases c32:x.k=32
  . rw[if_pos c32] at hφ;rw[ak,if_pos (by simpa[go_sem] using c32)];rw[ae,aW];intro b hb;have hb':=hset hb;rw[ai,sb8];refine⟨_,rfl,fun pb kb Tb hkb hpb=>?_⟩;refine⟨fun h=>(by cases h),(bn _ _).2 ⟨⟨[],[],[],[_],[],[]⟩,rfl,by intro u hu;simp at hu;subst hu;rfl,rfl,?_⟩⟩;have hkkb:=bY.trans (hb' _) hkb;have hrob:Rows kb ⟨some (b,0),1,1⟩ (Kw [19]) 1:=kG (hkb _ _ (ay _ _ _)) rfl;have hwb:=oz hpb hrob (by decide);rw[ae,aW];intro c hc2;have hc':=hset hc2;rw[ai,sb7];refine⟨x,sl,l,_,_,rfl,R.le (bY.trans hkkb (hc' _)),hl,oD (ay _ _ _) (hwb.le (hc' _)),?_⟩;refine rR ⟨[],[_],[],[],[],[]⟩ rfl af rfl ?_;cases hm:rowB [wO [19]] l with
    | true=>
      rw[hm] at hφ;rw[ah,if_pos (by simp[go_sem])];exact fin _ _ _ (bY.trans hkkb (hc' _)) rfl hφ
    | false=>
      rw[hm,Bool.false_or] at hφ;rw[ah,if_neg (by simp[go_sem]),ae,aW];intro d hd;have hd':=hset hd;rw[ai,sb8];refine⟨_,rfl,fun pd kd Td hkd hpd=>?_⟩;refine⟨fun h=>(by cases h),(bn _ _).2 ⟨⟨[],[],[],[_],[],[]⟩,rfl,by intro u hu;simp at hu;subst hu;rfl,rfl,?_⟩⟩;have hkkd:=bY.trans (bY.trans (bY.trans hkkb (hc' _)) (hd' _)) hkd;have hrod:Rows kd ⟨some (d,0),1,1⟩ (Kw [20]) 1:=kG (hkd _ _ (ay _ _ _)) rfl;have hwd:=oz hpd hrod (by decide);rw[ae,aW];intro e he;have he':=hset he;rw[ai,sb7];refine⟨x,sl,l,_,_,rfl,R.le (bY.trans hkkd (he' _)),hl,rW (ay _ _ _) (hwd.le (he' _)) (dD _),?_⟩;refine rR ⟨[],[_],[],[],[],[]⟩ rfl af rfl ?_;exact fin _ _ _ (bY.trans hkkd (he' _)) rfl hφ
  rw[if_neg c32] at hφ;rw[ak,if_neg (by simpa[go_sem] using c32),ae];by_cases c14:x.k=14
  . rw[if_pos c14] at hφ;rw[ak,if_pos (by simpa[go_sem] using c14)];rw[ai,sb7];refine⟨x,sl,l,_,_,rfl,R,hl,eu _,?_⟩;refine rR ⟨[],[_],[],[],[],[]⟩ rfl af rfl ?_;exact fin _ _ _ (fun _ _ h=>h) rfl hφ
  rw[if_neg c14] at hφ;rw[ak,if_neg (by simpa[go_sem] using c14),ae];by_cases c15:x.k=15
  . rw[if_pos c15] at hφ;rw[ak,if_pos (by simpa[go_sem] using c15)];rw[ai,sb7];refine⟨x,sl,l,_,_,rfl,R,hl,eu _,?_⟩;refine rR ⟨[],[_],[],[],[],[]⟩ rfl af rfl ?_;exact fin _ _ _ (fun _ _ h=>h) rfl hφ
  rw[if_neg c15] at hφ;rw[ak,if_neg (by simpa[go_sem] using c15),ae];by_cases c16:x.k=16
  . rw[if_pos c16] at hφ;rw[ak,if_pos (by simpa[go_sem] using c16)];rw[ai,sb7];refine⟨x,sl,l,_,_,rfl,R,hl,eu _,?_⟩;refine rR ⟨[],[_],[],[],[],[]⟩ rfl af rfl ?_;exact fin _ _ _ (fun _ _ h=>h) rfl hφ
  rw[if_neg c16] at hφ;rw[ak,if_neg (by simpa[go_sem] using c16),ae];by_cases c17:x.k=17
  . rw[if_pos c17] at hφ;rw[ak,if_pos (by simpa[go_sem] using c17)];rw[ai,sb7];refine⟨x,sl,l,_,_,rfl,R,hl,eu _,?_⟩;refine rR ⟨[],[_],[],[],[],[]⟩ rfl af rfl ?_;exact fin _ _ _ (fun _ _ h=>h) rfl hφ
  rw[if_neg c17] at hφ;rw[ak,if_neg (by simpa[go_sem] using c17),ae];by_cases c18:x.k=18
  . rw[if_pos c18] at hφ;rw[ak,if_pos (by simpa[go_sem] using c18)];rw[ai,sb7];refine⟨x,sl,l,_,_,rfl,R,hl,eu _,?_⟩;refine rR ⟨[],[_],[],[],[],[]⟩ rfl af rfl ?_;exact fin _ _ _ (fun _ _ h=>h) rfl hφ
  rw[if_neg c18] at hφ;rw[ak,if_neg (by simpa[go_sem] using c18),ae];by_cases c19:x.k=19
  . rw[if_pos c19] at hφ;rw[ak,if_pos (by simpa[go_sem] using c19)];rw[ai,sb7];refine⟨x,sl,l,_,_,rfl,R,hl,eu _,?_⟩;refine rR ⟨[],[_],[],[],[],[]⟩ rfl af rfl ?_;exact fin _ _ _ (fun _ _ h=>h) rfl hφ
  rw[if_neg c19] at hφ;rw[ak,if_neg (by simpa[go_sem] using c19),ae];by_cases c21:x.k=21
  . rw[if_pos c21] at hφ;rw[ak,if_pos (by simpa[go_sem] using c21)];rw[ai,sb7];refine⟨x,sl,l,_,_,rfl,R,hl,eu _,?_⟩;refine rR ⟨[],[_],[],[],[],[]⟩ rfl af rfl ?_;exact fin _ _ _ (fun _ _ h=>h) rfl hφ
  rw[if_neg c21] at hφ;rw[ak,if_neg (by simpa[go_sem] using c21),ae];by_cases c22:x.k=22
  . rw[if_pos c22] at hφ;rw[ak,if_pos (by simpa[go_sem] using c22)];rw[ai,sb7];refine⟨x,sl,l,_,_,rfl,R,hl,eu _,?_⟩;refine rR ⟨[],[_],[],[],[],[]⟩ rfl af rfl ?_;exact fin _ _ _ (fun _ _ h=>h) rfl hφ
  rw[if_neg c22] at hφ;rw[ak,if_neg (by simpa[go_sem] using c22),ae];by_cases c23:x.k=23
  . rw[if_pos c23] at hφ;rw[ak,if_pos (by simpa[go_sem] using c23)];rw[ai,sb7];refine⟨x,sl,l,_,_,rfl,R,hl,eu _,?_⟩;refine rR ⟨[],[_],[],[],[],[]⟩ rfl af rfl ?_;exact fin _ _ _ (fun _ _ h=>h) rfl hφ
  rw[if_neg c23] at hφ;rw[ak,if_neg (by simpa[go_sem] using c23),ae];by_cases c24:x.k=24
  . rw[if_pos c24] at hφ;rw[ak,if_pos (by simpa[go_sem] using c24)];rw[ai,sb7];refine⟨x,sl,l,_,_,rfl,R,hl,eu _,?_⟩;refine rR ⟨[],[_],[],[],[],[]⟩ rfl af rfl ?_;exact fin _ _ _ (fun _ _ h=>h) rfl hφ
  rw[if_neg c24] at hφ;rw[ak,if_neg (by simpa[go_sem] using c24),ae];by_cases c25:x.k=25
  . rw[if_pos c25] at hφ;rw[ak,if_pos (by simpa[go_sem] using c25)];rw[ai,sb7];refine⟨x,sl,l,_,_,rfl,R,hl,eu _,?_⟩;refine rR ⟨[],[_],[],[],[],[]⟩ rfl af rfl ?_;exact fin _ _ _ (fun _ _ h=>h) rfl hφ
  rw[if_neg c25] at hφ;rw[ak,if_neg (by simpa[go_sem] using c25),ae];by_cases c26:x.k=26
  . rw[if_pos c26] at hφ;rw[ak,if_pos (by simpa[go_sem] using c26)];rw[ai,sb7];refine⟨x,sl,l,_,_,rfl,R,hl,eu _,?_⟩;refine rR ⟨[],[_],[],[],[],[]⟩ rfl af rfl ?_;exact fin _ _ _ (fun _ _ h=>h) rfl hφ
  rw[if_neg c26] at hφ;rw[ak,if_neg (by simpa[go_sem] using c26),ae];rw[<- ae];exact fin _ _ _ (fun _ _ h=>h) rfl hφ
end
theorem Yn {i j:Int}:∀ {st:List Int},(∀ e∈st,j<=e)->i<j->gB i st=st
 | [],_,_=>rfl
 | e::st,h,hij=>by
   have:=h e (by simp);rw[gB,if_neg (by omega)]
theorem tX {i:Int} {e:Int}:∀ {st:List Int},e∈gB i st->e∈st
 | [],h=>h
 | a::st,h=>by
   rw[gB] at h;split at h
   . exact List.mem_cons_of_mem _ (tX h)
   . exact h
theorem IK {n i:Int} {st:List Int} {x:Ng} {l:List Ng} (hz:¬ (x.z<0\/n - 1 - i<x.z)) (h:∀ e∈gB i st,i+1+x.z<=e):dS n i st (x::l)=dS n (i+1) ((i+1+x.z)::gB i st) l:=by
 rw[dS,if_neg hz];cases hp:gB i st with
 | nil=>rfl
 | cons e st'=>
   have:=h e (by rw[hp];simp);simp only;rw[if_neg (by omega)]
theorem nX (n:Int):∀ (m:Nat) (ts:List Tr),Tr.ns ts<=m->∀ (i:Int) (st:List Int) (rest:List Ng),(∀ e∈gB i st,i+Tr.ns ts<=e)->i+Tr.ns ts<=n->dS n i st (Tr.mP ts++rest)=dS n (i+Tr.ns ts) (gB i st) rest
 | _,[],_,i,st,rest,_,_=>by
   rw[bF];simp only[Tr.mP,Tr.fP,List.map_nil,List.nil_append,Int.natCast_zero,Int.add_zero];rw[iJ]
 | 0,t::ts,hm,i,st,rest,_,_=>by rw[aI,nD] at hm;omega
 | m+1,t::ts,hm,i,st,rest,hst,hn=>by
   obtain⟨k,l,c,nn,x,ks⟩:=t;have hnd:(Tr.nd k l c nn x ks).n=Tr.ns ks+1:=by rw[nD,Tr.sz,jq]
   rw[aI,hnd] at hm hst hn⊢;rw[dB,jc,List.cons_append,List.cons_append,List.append_assoc,IK (by simp only;omega) (fun e he=>by have:=hst e he;simp only;omega)];simp only;generalize hq:gB i st=q at *;have hmem:∀ e∈gB (i+1) ((i+1+(Tr.ns ks:Int))::q),i+1+(Tr.ns ks:Int)<=e:=fun e he=>by
    rcases List.mem_cons.1 (tX he) with rfl | h
    . omega
    . have:=hst e h;omega
   rw[nX n m ks (by omega) (i+1) _ _ hmem (by omega)];have hpp:gB (i+1+(Tr.ns ks:Int)) (gB (i+1) ((i+1+(Tr.ns ks:Int))::q))=gB (i+1+(Tr.ns ks:Int)) q:=by
    rw[gB];split
    . rename_i h;have h0:(Tr.ns ks:Int)=0:=by omega
      rw[h0,Int.add_zero,qp]
    . rw[gB,if_pos rfl]
   rw[<- iJ,hpp,iJ];rw[nX n m ts (by omega) (i+1+(Tr.ns ks:Int)) q rest (fun e he=>by have:=hst e (tX he);omega) (by omega)];have hfin:gB (i+1+(Tr.ns ks:Int)+(Tr.ns ts:Int)) (gB (i+1+(Tr.ns ks:Int)) q)=gB (i+1+(Tr.ns ks:Int)+(Tr.ns ts:Int)) q:=by
    by_cases h0:Tr.ns ts=0
    . rw[h0];simp only[Int.natCast_zero,Int.add_zero];rw[qp]
    . rw[Yn (j:=i+1+(Tr.ns ks:Int)+(Tr.ns ts:Int)) (st:=q) (fun e he=>by have:=hst e he;omega) (by omega)]
   rw[<- iJ,hfin,iJ];congr 1;omega
theorem pU (t:Tr):jo t.gs=true:=by
 have hl:=iD t;have hF:=nX t.n t.n [t] (by rw[aI,bF];omega) 0 [] [] (by simp[gB]) (by rw[aI,bF];omega);rw[dB,show Tr.mP []=[] from rfl,List.append_nil,List.append_nil] at hF;obtain⟨r,hr,hrl⟩:=qj t;have hz:t.g.z=(t.gs.length:Int) - 1:=by
  rw[hl,nD];obtain⟨k,l,c,n,x,ks⟩:=t;show ((Tr.ns ks:Nat):Int)=_;rw[Tr.sz,jq];omega
 have hR:jo t.gs=(decide (t.g.z=(t.gs.length:Int) - 1)&&dS t.gs.length 0 [] t.gs):=by
  rw[hr];rfl
 rw[hR,hl,hF];rw[hl] at hz;rw[decide_eq_true hz,Bool.true_and];rfl
mutual
def Tr.subs:Tr->List Tr
 | .nd k l c n x ks=>.nd k l c n x ks::Tr.ul ks
def Tr.ul:List Tr->List Tr
 | []=>[]
 | t::ts=>t.subs++Tr.ul ts
end
def Tr.kl:Tr->List Tr
 | .nd _ _ _ _ _ ks=>ks
mutual
theorem WV:∀ t:Tr,t.subs.map Tr.g=t.gs
 | .nd k l c n x ks=>by rw[Tr.subs,List.map_cons,O8 ks,jc];rfl
theorem O8:∀ ts:List Tr,(Tr.ul ts).map Tr.g=Tr.mP ts
 | []=>rfl
 | t::ts=>by rw[Tr.ul,List.map_append,WV t,O8 ts,dB]
end
theorem pY (t:Tr):t.subs.length=t.n:=by rw[<- iD,<- WV,List.length_map]
mutual
theorem ED:∀ (t:Tr) {l:List Ng} {p:Nat},Ps l p t->∀ (i:Nat) (s:Tr),t.subs[i]? = some s->Ps l (p+i) s
 | .nd k l c n x ks,L,p,P,i,s,h=>by
   rw[Tr.subs] at h;cases i with
   | zero=>simp at h;subst h;exact P
   | succ i=>
     rw[List.getElem?_cons_succ] at h;have:=I7 ks P.kids i s h;rw[show p+(i+1)=p+1+i by omega];exact this
theorem I7:∀ (ts:List Tr) {l:List Ng} {p:Nat},EO l p ts->∀ (i:Nat) (s:Tr),(Tr.ul ts)[i]? = some s->Ps l (p+i) s
 | [],_,_,_,i,s,h=>by simp[Tr.ul] at h
 | t::ts,L,p,P,i,s,h=>by
   obtain⟨P1,P2⟩:=P.cons;rw[Tr.ul] at h;by_cases hi:i<t.subs.length
   . rw[List.getElem?_append_left hi] at h;exact ED t P1 i s h
   . rw[List.getElem?_append_right (by omega)] at h;have:=I7 ts P2 _ s h;rw[pY] at hi;rw[show p+i=p+t.n+(i - t.subs.length) by rw[pY];omega];exact this
end
def okI (i:Nat) (s:Tr):Bool:=if i=0 then (s.kl.map Tr.g).all (wO [2,4]) else fieldsB s.g&&dR s.g.k s.g.n (s.kl.map Tr.g)
def tN:Nat->List Tr->Bool
 | _,[]=>true
 | i,s::r=>okI i s&&tN (i+1) r
def gJ (t:Tr):Bool:=decide (t.g.k=1)&&fieldsB t.g&&tN 0 t.subs
theorem oq (t:Tr):0<t.n:=by rw[nD];omega
theorem Ot:∀ {ts:List Tr},Tr.ns ts=0->ts=[]
 | [],_=>rfl
 | t::ts,h=>by
   have:=oq t;rw[aI] at h;omega
theorem xh (a b:List Tr):Tr.mP (a++b)=Tr.mP a++Tr.mP b:=by simp[Tr.mP,kz]
theorem pre_eq {a b:List Tr} (h:a <+: b) (hn:Tr.ns b<=Tr.ns a):a=b:=by
 obtain⟨v,rfl⟩:=h;rw[gU] at hn;rw[Ot (ts:=v) (by omega),List.append_nil]
theorem kE:∀ (m:Nat) (ts us:List Tr) (r s:List Ng),Tr.ns ts<=m->Tr.mP ts++r=Tr.mP us++s->ts <+: us\/us <+: ts
 | _,[],us,_,_,_,_=>.inl List.nil_prefix
 | _,t::ts,[],_,_,_,_=>.inr List.nil_prefix
 | 0,t::ts,u::us,_,_,hm,_=>by
   have:=oq t;rw[aI] at hm;omega
 | m+1,.nd k l c n x ks::ts,.nd k' l' c' n' x' ks'::us,r,s,hm,h=>by
   rw[dB,dB,jc,jc] at h;simp only[List.cons_append,List.append_assoc,List.cons.injEq,Ng.mk.injEq] at h;obtain⟨⟨rfl,rfl,rfl,hz,rfl,rfl⟩,h⟩:=h;have hk:Tr.ns ks=Tr.ns ks':=by omega
   rw[aI,nD,Tr.sz,jq] at hm;have e:ks=ks':=by
    rcases kE m ks ks' _ _ (by omega) h with e | e
    . exact pre_eq e (by omega)
    . exact (pre_eq e (by omega)).symm
   subst e;rcases kE m ts us r s (by omega) (List.append_cancel_left h) with e | e
   . exact .inl (List.cons_prefix_cons.2 ⟨rfl,e⟩)
   . exact .inr (List.cons_prefix_cons.2 ⟨rfl,e⟩)
theorem kU {t u:Tr} {r s:List Ng} (h:t.gs++r=u.gs++s):t=u/\r=s:=by
 have h2:Tr.mP [t]++r=Tr.mP [u]++s:=by
  rw[dB,dB];simpa[show Tr.mP []=[] from rfl] using h
 have e:t=u:=by
  rcases kE _ _ _ _ _ (Nat.le_refl _) h2 with e | e
  . exact (List.cons_prefix_cons.1 e).1
  . exact (List.cons_prefix_cons.1 e).1.symm
 subst e;exact⟨rfl,List.append_cancel_left h⟩
theorem pM (i:Int):∀ st,gB i st <:+ st
 | []=>List.suffix_refl _
 | e::st=>by
   rw[gB];split
   . exact (pM i st).trans (List.suffix_cons _ _)
   . exact List.suffix_refl _
theorem OG {i e:Int}:∀ {st:List Int},e∈st->e=i\/e∈gB i st
 | [],h=>by cases h
 | a::st,h=>by
   rw[gB];split
   . rename_i ha;rcases List.mem_cons.1 h with rfl | h
     . exact .inl ha
     . exact OG h
   . exact .inr h
theorem qY (n:Nat):∀ (l:List Ng) (i:Nat) (st:List Int),i+l.length=n->st.Pairwise (·<=·)->(∀ e∈st,(i:Int)<=e/\e<=n)->dS n i st l=true->∃ ts,l=Tr.mP ts/\∀ e∈st,∃ a b,ts=a++b/\(i:Int)+Tr.ns a=e
 | [],i,st,hi,_,hb,_=>⟨[],rfl,fun e he=>⟨[],[],rfl,by
  have:=hb e he;rw[List.length_nil] at hi;rw[bF];omega⟩⟩
 | x::l,i,st,hi,hs,hb,h=>by
   rw[List.length_cons] at hi;have main:∀ S,S=((i:Int)+1+x.z)::gB i st->0<=x.z->(i:Int)+1+x.z<=n->(∀ e∈gB i st,(i:Int)+1+x.z<=e)->dS n ((i:Int)+1) S l=true->∃ ts,x::l=Tr.mP ts/\∀ e∈st,∃ a b,ts=a++b/\(i:Int)+Tr.ns a=e:=by
    rintro S rfl h0 hzn hle hr;obtain⟨ts,hl,hbd⟩:=qY n l (i+1) _ (by omega) (List.pairwise_cons.2 ⟨hle,hs.sublist (pM _ _).sublist⟩) (fun e he=>by
     rcases List.mem_cons.1 he with rfl | he
     . omega
     . have:=hle e he;have:=hb e (tX he);omega) hr
    obtain⟨a,b,hab,hna⟩:=hbd _ List.mem_cons_self;refine⟨.nd x.k x.l x.c x.n x.x a::b,?_,fun e he=>?_⟩
    . rw[dB,jc,List.cons_append,<- xh,<- hab,<- hl];have hz:x.z=(Tr.ns a:Nat):=by omega
      rw[<- hz]
    . rcases OG (i:=(i:Int)) he with rfl | he
      . exact⟨[],_,rfl,by rw[bF];omega⟩
      . obtain⟨a',b',hab',hna'⟩:=hbd e (List.mem_cons_of_mem _ he);have hge:=hle e he;have hp:a <+: a':=by
         rcases List.prefix_or_prefix_of_prefix (l₁:=a) (l₂:=a') (l₃:=ts) ⟨b,hab.symm⟩ ⟨b',hab'.symm⟩ with hp | hp
         . exact hp
         . rw[pre_eq hp (by omega)];exact List.prefix_refl _
        obtain⟨v,rfl⟩:=hp;refine⟨.nd x.k x.l x.c x.n x.x a::v,b',?_,?_⟩
        . rw[hab,List.append_assoc] at hab';rw[List.append_cancel_left hab',List.cons_append]
        . rw[aI,nD,Tr.sz,jq];rw[gU] at hna';omega
   rw[dS] at h;split at h
   . cases h
   . rename_i hz;split at h
     . rename_i hp;exact main _ (by rw[hp]) (by omega) (by omega) (by rw[hp];simp) h
     . rename_i e st' hp;split at h
       . cases h
       . rename_i he;have hpw:(e::st').Pairwise (·<=·):=hp▸hs.sublist (pM _ _).sublist;refine main _ (by rw[hp]) (by omega) (by omega) (fun d hd=>?_) h;rw[hp] at hd;rcases List.mem_cons.1 hd with rfl | hd
         . omega
         . have:=(List.pairwise_cons.1 hpw).1 d hd;omega
theorem LG {l:List Ng} (h:jo l=true):∃ t,l=Tr.gs t:=by
 cases l with
 | nil=>cases h
 | cons x r=>
   obtain⟨hz,hF⟩:x.z=((x::r).length:Int) - 1/\dS (x::r).length 0 [] (x::r)=true:=by simpa[jo] using h
   obtain⟨ts,hl,_⟩:=qY _ (x::r) 0 [] (by omega) .nil (fun e he=>by cases he) hF;cases ts with
   | nil=>cases hl
   | cons t us=>
     obtain⟨k,ln,c,n,y,ks⟩:=t;have hlen:=congrArg List.length hl;rw[jy,aI,nD,Tr.sz,jq] at hlen;rw[dB,jc,List.cons_append] at hl;have hx:=(List.cons.inj hl).1;have hxz:x.z=(Tr.ns ks:Nat):=by rw[hx]
     have hu:us=[]:=Ot (by omega);subst hu;refine⟨.nd k ln c n y ks,?_⟩;rw[jc];simpa[show Tr.mP []=[] from rfl] using hl
section
attribute [local go_sem] aY aX aA ak ax aF aT aJ au says_again
def NK:Fm:=(.need (.not (.le (.cnt (.x 0)) (.x 0))) (.X (.x 0) (.x 0))
 (.need (.not (.le (.cnt (.x 0)) (.x 0))) (.nns (.x 0))
 (.load (.not (.le (.cnt (.x 0)) (.x 0))) (.el (.x 0) (.x 0) 6 3) 1 [.J 1] ⟨1,0,0,0,0,0⟩
 (.need (.not (.or (.le (.cnt (.x 0)) (.x 0)) (.lt (.x 1) (.c 0)))) (.X (.x 0) (.x 0))
 (.need (.not (.or (.le (.cnt (.x 0)) (.x 0)) (.lt (.x 1) (.c 0)))) (.nns (.x 0))
 (.load (.not (.or (.le (.cnt (.x 0)) (.x 0)) (.lt (.x 1) (.c 0)))) (.el (.x 0) (.x 0) 6 3) 1 [.J 2] ⟨1,0,0,0,0,0⟩
 (.need (.not (.or (.le (.cnt (.x 0)) (.x 0)) (.lt (.x 1) (.c 0)))) (.R (.sub (.cnt (.x 0)) (.c 1)))
 (.need (.not (.or (.le (.cnt (.x 0)) (.x 0)) (.lt (.x 1) (.c 0)))) (.R (.sub (.sub (.cnt (.x 0)) (.c 1)) (.x 0)))
 (.ite (.or (.or (.le (.cnt (.x 0)) (.x 0)) (.lt (.x 1) (.c 0))) (.lt (.sub (.sub (.cnt (.x 0)) (.c 1)) (.x 0)) (.x 2)))
 (.ret (.p (.I (.c (-1)))))
 (.N (.R (.add (.x 0) (.c 1)))
 (.N (.X (.x 0) (.x 0))
 (.N (.nns (.x 0))
 (.O (.el (.x 0) (.x 0) 6 3) 1 [.J 3] ⟨1,0,0,0,0,0⟩
 (.N (.R (.add (.add (.x 0) (.c 1)) (.x 3)))
 (.N (.R (.add (.x 0) (.c 1)))
 (.loop 0 ⟨[(.add (.x 0) (.c 1))],[],[],[],[],[]⟩
 (.ite (.and (.le (.c 0) (.x 4)) (.lt (.x 4) (.add (.add (.x 0) (.c 1)) (.x 3))))
 (.C 59 [.L 0,.J 4] (.p (.J 5)) ⟨1,0,0,0,0,0⟩
 (.again 0 ⟨4,0,0,0,1,0⟩ ⟨5,0,0,0,1,0⟩ ⟨[(.x 5)],[],[],[],[],[]⟩))
 (.ite (.not (.eqI (.x 4) (.add (.add (.x 0) (.c 1)) (.x 3))))
 (.ret (.p (.I (.c (-1)))))
 (.ret (.p (.I (.add (.add (.x 0) (.c 1)) (.x 3)))))))))))))))))))))))
theorem UJ:aU ⟨true,[]⟩ Tryz.prog (fun l=>([⟨[6],[42,43,44,45,46,47,48,49,50,51],[]⟩]:List bG).getD l ⟨[],[],[]⟩) Tryz.f59=NK:=by kernel_rfl
theorem YD:az Tryz.prog .zero Tryz.f59.params.toList=some ([.L 0,.J 0],⟨1,0,0,0,1,0⟩):=by kernel_rfl
def Bg:Fm:=(.call (.lt (.c 0) (.cnt (.x 0))) false 59 [.L 0,(.I (.c 0))] (.p (.J 0)) ⟨1,0,0,0,0,0⟩
 (.ret (.p (.one (.b (.and (.lt (.c 0) (.cnt (.x 0))) (.eqI (.x 0) (.cnt (.x 0)))))))))
theorem JK:aU ⟨true,[]⟩ Tryz.prog (fun l=>([]:List bG).getD l ⟨[],[],[]⟩) Tryz.f29=Bg:=by kernel_rfl
theorem Rh:az Tryz.prog .zero Tryz.f29.params.toList=some ([.L 0],⟨0,0,0,0,1,0⟩):=by kernel_rfl
def Ub (l:List Ng) (p:Nat) (v:Int):Prop:=
 (∃ t r,l.drop p=Tr.gs t++r/\v=((p+t.n:Nat):Int))\/((∀ t r,l.drop p≠Tr.gs t++r)/\v=-1)
def ZE (n:Nat) (args:List Value) (h:Hp) (φ:Value->Hp->Prop):Prop:=
 ∃ sl l p,args=[bM.val sl,.int .i64 ((p:Nat):Int)]/\NG h sl l/\l.length<=1000000/\p<=l.length/\l.length<p+n/\∀ v,Ub l p v->φ (.int .i64 v) h
def SN (n:Nat):Prop:=∀ args h φ w,ZE n args h φ->Holds h w->Calls Tryz.prog 59 args.toArray w fun e w'=>∃ v k,e=.returned v/\φ v k/\Holds k w'/\Fr w.heap.size h k w w'
def Dw {n:Nat} (H:SN n):Ct Tryz.prog:=⟨59,ZE n,H⟩
def Oy (l:List Ng) (p:Nat) (z k:Int):Prop:=
 (∃ ts r,l.drop (p+1)=Tr.mP ts++r/\k=((p+1+Tr.ns ts:Nat):Int)/\∀ us u,ts=us++[u]->(Tr.ns us:Int)<z)\/(k=-1/\∀ t r,l.drop p≠Tr.gs t++r)
def Ua (h:Hp) (sl:bM) (l:List Ng) (p:Nat) (_:Nat) (C:Ctx):Prop:=
 ∃ (z1 z2 k:Int) (x:Ng),C=⟨[p,z1,z2,x.z,k],[],[],[],[sl],[],h,cu⟩/\l[p]? = some x/\0<=x.z/\(p:Int)+1+x.z<=l.length/\Oy l p x.z k
def Nl (l:List Ng) (C:Ctx):Nat:=if C.i.getD 4 0<0 then 0 else ((l.length:Int)+1 - C.i.getD 4 0).toNat
theorem qF {l:List Ng} {p:Nat} {x:Ng} (hx:l[p]? = some x) {t:Tr} {r:List Ng} (h:l.drop p=t.gs++r):x.z=(Tr.ns t.kl:Nat)/\l.drop (p+1)=Tr.mP t.kl++r:=by
 obtain⟨k,ln,c,n,y,ks⟩:=t;obtain⟨hp,rfl⟩:=List.getElem?_eq_some_iff.1 hx;rw[List.drop_eq_getElem_cons hp,jc,List.cons_append] at h;obtain⟨h1,h2⟩:=List.cons.inj h;exact⟨by rw[h1];rfl,h2⟩
theorem KT {l:List Ng} {p:Nat} {x:Ng} (hx:l[p]? = some x) {k v:Int} (hw:Oy l p x.z k) (h0:0<=k) (hk:k<(p:Int)+1+x.z) (hv:Ub l k.toNat v):Oy l p x.z v/\(v<0\/k<v):=by
 rcases hw with ⟨ts,r,hd,rfl,hlast⟩ | ⟨rfl,_⟩
 rotate_left
 . omega
 rw[Int.toNat_natCast] at hv;have hr:l.drop (p+1+Tr.ns ts)=r:=by rw[<- List.drop_drop,hd,<- jy,List.drop_left]
 rw[Ub,hr] at hv;rcases hv with ⟨t,r',rfl,rfl⟩ | ⟨hno,rfl⟩
 . refine⟨.inl ⟨ts++[t],r',?_,?_,fun us u e=>?_⟩,.inr ?_⟩
   . rw[hd,xh,dB,show Tr.mP []=[] from rfl,List.append_nil,List.append_assoc]
   . rw[gU,aI,bF];omega
   . obtain⟨rfl,_⟩:=List.append_inj' e rfl;omega
   . have:=oq t;omega
 . refine⟨.inr ⟨rfl,fun t r2 h=>?_⟩,.inl (by omega)⟩;obtain⟨hz,hd2⟩:=qF hx h;rw[hd] at hd2;rcases kE _ _ _ _ _ (Nat.le_refl _) hd2 with ⟨v,e⟩ | ⟨v,e⟩
   . cases v with
     | nil=>rw[List.append_nil] at e;rw[<- e] at hz;omega
     | cons u w=>
       rw[<- e,xh,List.append_assoc] at hd2;have:=List.append_cancel_left hd2;rw[dB,List.append_assoc] at this;exact hno _ _ this
   . rw[<- e,gU] at hk;omega
theorem QS {l:List Ng} {p:Nat} {x:Ng} (hx:l[p]? = some x) {k:Int} (hz0:0<=x.z) (hw:Oy l p x.z k) (hk:¬ (0<=k/\k<(p:Int)+1+x.z)):Ub l p (if k=(p:Int)+1+x.z then (p:Int)+1+x.z else -1):=by
 obtain⟨hp,rfl⟩:=List.getElem?_eq_some_iff.1 hx;rcases hw with ⟨ts,r,hd,rfl,hlast⟩ | ⟨rfl,hno⟩
 rotate_left
 . rw[if_neg (by omega)];exact .inr ⟨hno,rfl⟩
 split
 . rename_i e;refine .inl ⟨.nd l[p].k l[p].l l[p].c l[p].n l[p].x ts,r,?_,?_⟩
   . rw[List.drop_eq_getElem_cons hp,hd,jc,List.cons_append];have hz:l[p].z=(Tr.ns ts:Nat):=by omega
     rw[<- hz]
   . rw[nD,Tr.sz,jq];omega
 . rename_i e;refine .inr ⟨fun t r2 h=>?_,rfl⟩;obtain⟨hz,hd2⟩:=qF hx h;rw[hd] at hd2;rcases kE _ _ _ _ _ (Nat.le_refl _) hd2 with ⟨v,e2⟩ | ⟨v,e2⟩
   . rw[<- e2,gU] at hz;omega
   . rcases List.eq_nil_or_concat v with rfl | ⟨us,u,rfl⟩
     . rw[List.append_nil] at e2;rw[e2] at hz;omega
     . have:=hlast (t.kl++us) u (by rw[<- e2,List.concat_eq_append,List.append_assoc]);rw[gU] at this;omega
set_option maxHeartbeats 4000000 in
theorem Ej:∀ n,SN n
 | 0=>by
   rintro args h φ w ⟨sl,l,p,rfl,R,hl,hp,hn,_⟩ hH;omega
 | n+1=>by
   have ih:=Ej n;rintro args h φ w ⟨sl,l,p,rfl,R,hl,hpl,hpn,hφ⟩ hH;refine aZ Tryz.func59 UJ YD [Dw ih] φ (Ua h sl l p) (fun _ C=>Nl l C) ⟨[((p:Nat):Int)],[],[],[],[sl],[],h,cu⟩ ⟨rfl,rfl,rfl,rfl,rfl,rfl⟩ af ?_ w hH rfl;generalize hE:(⟨aG _,_,_,_⟩:Env)=E;have san:E.spec 59=(Dw ih).spec:=by rw[<- hE];rfl
   have ep:E.post=φ:=by rw[<- hE]
   have ei:E.inv=(Ua h sl l p):=by rw[<- hE]
   have em:E.meas=(fun _ C=>Nl l C):=by rw[<- hE]
   clear hE;unfold NK;have hn:=NG.n R;have fin:∀ (C:Ctx) (e:IE),C.h=h->Ub l p (e.den C)->Then E (.ret (.p (.one (.i .i64 e)))) C:=by
    intro C e hC hv;rw[aj,ep];simp only[VE.den,PE.den,CE.den];rw[hC];exact hφ _ hv
   by_cases hp:p<l.length;rotate_left
   . have hz:sl.n<=p:=by omega
     rw[aA];refine⟨by simp[go_sem,Nat.not_lt.2 hz],?_⟩;rw[ag];refine⟨by simp[go_sem,Nat.not_lt.2 hz],?_⟩;rw[bP,if_neg (by simp[go_sem,Nat.not_lt.2 hz]),ae,aA];refine⟨by simp[go_sem,Nat.not_lt.2 hz],?_⟩;rw[ag];refine⟨by simp[go_sem,Nat.not_lt.2 hz],?_⟩;rw[bP,if_neg (by simp[go_sem,Nat.not_lt.2 hz]),ae,aA];refine⟨by simp[go_sem,Nat.not_lt.2 hz],?_⟩;rw[ag];refine⟨by simp[go_sem,Nat.not_lt.2 hz],?_⟩;rw[ah,if_pos (by simp[go_sem,hz])];refine fin _ _ rfl (.inr ⟨fun t r e=>?_,rfl⟩);rw[List.drop_eq_nil_of_le (by omega)] at e;have:=congrArg List.length e;have h1:=oq t;rw[List.length_append,iD] at this;simp at this;omega
   have hz:¬ ((sl.n:Int)<=p):=by omega
   have hx:l[p]? = some l[p]:=List.getElem?_eq_getElem hp;obtain⟨b,o,ha⟩:=Rows.nn R (j:=p) (by omega);have hr0:=Rows.read (off:=3) (m:=1) R (j:=p) (by omega) (by omega) ha;rw[<- List.drop_drop,eP hp] at hr0;generalize l[p]=x at hx hr0;rw[aA];refine⟨by simp[go_sem,ha]<;>omega,?_⟩;rw[ag];refine⟨by simp[go_sem,ha],?_⟩;rw[bP,if_pos (by simp[go_sem];omega)];refine (bn _ _).2 ⟨⟨[x.z],[],[],[],[],[]⟩,rfl,af,by simpa[go_sem,ha,Ng.cs] using hr0,?_⟩;rw[ag];refine⟨by simp[go_sem,ha]<;>omega,?_⟩;rw[ag];refine⟨by simp[go_sem,ha],?_⟩;by_cases hz0:x.z<0
   . rw[bP,if_neg (by simp[go_sem,Int.not_le.2 hz0]),ae,aA];refine⟨by simp[go_sem,Int.not_le.2 hz0],?_⟩;rw[ag];refine⟨by simp[go_sem,Int.not_le.2 hz0],?_⟩;rw[ah,if_pos (by simp[go_sem,hz0])];refine fin _ _ rfl (.inr ⟨fun t r e=>?_,rfl⟩);have:=(qF hx e).1;omega
   rw[bP,if_pos (by simp[go_sem];omega)];refine (bn _ _).2 ⟨⟨[x.z],[],[],[],[],[]⟩,rfl,af,by simpa[go_sem,ha,Ng.cs] using hr0,?_⟩;rw[ag];refine⟨by simp[go_sem]<;>omega,?_⟩;rw[ag];refine⟨by simp[go_sem]<;>omega,?_⟩;by_cases hz1:(l.length:Int) - 1 - p<x.z
   . rw[ah,if_pos (by simp[go_sem];omega)];refine fin _ _ rfl (.inr ⟨fun t r e=>?_,rfl⟩);obtain⟨e1,e2⟩:=qF hx e;have:=congrArg List.length e2;rw[List.length_drop,List.length_append,jy] at this;omega
   rw[ah,if_neg (by simp[go_sem];omega)];rw[ag];refine⟨by simp[go_sem]<;>omega,?_⟩;rw[ag];refine⟨by simp[go_sem,ha]<;>omega,?_⟩;rw[ag];refine⟨by simp[go_sem,ha],?_⟩;refine rL ⟨[x.z],[],[],[],[],[]⟩ rfl af (by simpa[go_sem,ha,Ng.cs] using hr0) ?_;rw[ag];refine⟨by simp[go_sem]<;>omega,?_⟩;rw[ag];refine⟨by simp[go_sem]<;>omega,?_⟩;rw[ae];refine bH ?_ ?_
   . rw[ei];refine⟨_,_,_,x,rfl,hx,by omega,by omega,.inl ⟨[],l.drop (p+1),rfl,?_,fun us u e=>by simp at e⟩⟩;simp[go_sem,bF]
   rw[ei,em];rintro i bbs ss v ll pp hh M ⟨z1,z2,k,y,hC,hy,y0,y1,hw⟩ hM;cases hC;have hM':M 0=if k<0 then 0 else ((l.length:Int)+1 - k).toNat:=hM;clear hM;by_cases hc:0<=k/\k<(p:Int)+1+y.z
   . obtain⟨hk0,hk1⟩:=hc;rw[ak,if_pos (by simpa[go_sem] using ⟨hk0,hk1⟩)];rw[ai,san];obtain⟨kn,rfl⟩:∃ kn:Nat,k=kn:=⟨k.toNat,by omega⟩;have hpk:p<kn:=by
      rcases hw with ⟨ts,r,_,e,_⟩ | ⟨e,_⟩<;>omega
     refine⟨sl,l,kn,rfl,R,hl,by omega,by omega,fun v hv=>?_⟩;refine rR ⟨[v],[],[],[],[],[]⟩ rfl af rfl ?_;obtain⟨hw2,hv2⟩:=KT hy hw (by omega) hk1 (by rw[Int.toNat_natCast];exact hv);rw[ae,says_again,ei,em];refine⟨⟨z1,z2,v,y,rfl,hy,y0,y1,hw2⟩,?_⟩;show (if v<0 then 0 else ((l.length:Int)+1 - v).toNat)<M 0;have hM2:M 0=((l.length:Int)+1 - (kn:Int)).toNat:=by rw[hM'];exact if_neg (by omega)
     rw[hM2];split<;>omega
   . rw[ak,if_neg (by simpa[go_sem] using hc)];have he:=QS hy y0 hw hc;by_cases hk:k=(p:Int)+1+y.z
     . rw[ah,if_neg (by simp[go_sem,hk])];rw[if_pos hk] at he;exact fin _ _ rfl (by simpa[go_sem] using he)
     . rw[ah,if_pos (by simpa[go_sem] using hk)];rw[if_neg hk] at he;exact fin _ _ rfl he
def jh:Ct Tryz.prog where
 f:=29
 spec:=fun args h φ=>∃ sl l,args=[bM.val sl]/\NG h sl l/\l.length<=1000000/\∀ b:Bool,(b=true↔∃ t,l=Tr.gs t)->φ (.bool b) h
 ok:=by
  rintro args h φ w ⟨sl,l,rfl,R,hl,hφ⟩ hH;refine aZ Tryz.func29 JK Rh [Dw (Ej 1000001)] φ (bJ) (aV) ⟨[],[],[],[],[sl],[],h,cu⟩ ⟨rfl,rfl,rfl,rfl,rfl,rfl⟩ af ?_ w hH rfl;generalize hE:(⟨aG _,_,_,_⟩:Env)=E;have san:E.spec 59=(Dw (Ej 1000001)).spec:=by rw[<- hE];rfl
  have ep:E.post=φ:=by rw[<- hE]
  clear hE;unfold Bg;have hn:=NG.n R;by_cases h0:l=[]
  . have hz:sl.n=0:=by rw[hn,h0];rfl
    rw[ax,if_neg (by simp[go_sem,hz])];rw[aj,ep];refine hφ _ ?_;simp only[BE.den,go_sem,hz];simp only[Int.natCast_zero];constructor
    . intro e;exact absurd e (by decide)
    . rintro⟨t,e⟩;obtain⟨r,hr,_⟩:=qj t;rw[h0,hr] at e;cases e
  have hpos:0<l.length:=by
   cases l with
   | nil=>exact absurd rfl h0
   | cons x r=>simp
  have hz:(0:Int)<sl.n:=by omega
  rw[ax,if_pos (by simpa[go_sem] using hz),san];refine⟨sl,l,0,rfl,R,hl,by omega,by omega,fun v hv=>?_⟩;refine rR ⟨[v],[],[],[],[],[]⟩ rfl af rfl ?_;rw[aj,ep];refine hφ _ ?_;have hz2:decide ((0:Int)<(sl.n:Int))=true:=decide_eq_true hz;simp[go_sem];rcases hv with ⟨t,r,hd,rfl⟩ | ⟨hno,rfl⟩
  . rw[List.drop_zero] at hd;constructor
    . intro e;refine⟨t,?_⟩;have:=congrArg List.length hd;rw[List.length_append,iD] at this;have hr:r=[]:=List.eq_nil_of_length_eq_zero (by omega);rw[hd,hr,List.append_nil]
    . rintro⟨u,e⟩;rw[e] at hd;have:=kU (t:=u) (u:=t) (r:=[]) (s:=r) (by simpa using hd);have e2:sl.n=t.n:=by rw[hn,e,iD,this.1]
      omega
  . constructor
    . rintro⟨_,e⟩;have e2:(-1:Int)=(sl.n:Int):=e;omega
    . rintro⟨t,e⟩;exact absurd (by rw[List.drop_zero,List.append_nil];exact e) (hno t [])
def GH:Fm:=(.mk [] 3 0
 (.N (.R (.add (.x 0) (.c 1)))
 (.loop 0 ⟨[(.add (.x 0) (.c 1))],[],[],[],[(.x 1)],[]⟩
 (.N (.R (.add (.x 0) (.c 1)))
 (.N (.X (.x 0) (.x 0))
 (.N (.nns (.x 0))
 (.O (.el (.x 0) (.x 0) 6 3) 1 [.J 2] ⟨1,0,0,0,0,0⟩
 (.N (.R (.add (.add (.x 0) (.c 1)) (.x 2)))
 (.ite (.lt (.x 1) (.add (.add (.x 0) (.c 1)) (.x 2)))
 (.mk [.J 1] 3 1
 (.app (.x 2) (.x 3) 1 8 3
 (.N (.R (.add (.x 1) (.c 1)))
 (.N (.X (.x 1) (.x 0))
 (.N (.nns (.x 0))
 (.O (.el (.x 0) (.x 1) 6 3) 1 [.J 3] ⟨1,0,0,0,0,0⟩
 (.N (.R (.add (.add (.x 1) (.c 1)) (.x 3)))
 (.again 0 ⟨1,0,0,0,2,0⟩ ⟨2,0,0,0,3,0⟩ ⟨[(.add (.add (.x 1) (.c 1)) (.x 3))],[],[],[],[(.x 4)],[]⟩))))))))
 (.ret (.p (.L 2))))))))))))
theorem Qq:aU ⟨true,[]⟩ Tryz.prog (fun l=>([⟨[5,6],[10,11,12,13,14,15,16,17,18,19,28,29,30,31,20,21,22,23,24,25,26,27],[]⟩]:List bG).getD l ⟨[],[],[]⟩) Tryz.f30=GH:=by kernel_rfl
theorem VP:az Tryz.prog .zero Tryz.f30.params.toList=some ([.L 0,.J 0],⟨1,0,0,0,1,0⟩):=by kernel_rfl
def rq (l:List Ng) (p:Nat) (x:Ng) (ks:List Tr):Prop:=l[p]? = some x/\x.z=(Tr.ns ks:Nat)/\∃ r,l.drop (p+1)=Tr.mP ks++r
theorem rq.fit {l:List Ng} {p:Nat} {x:Ng} {ks:List Tr} (H:rq l p x ks):p+1+Tr.ns ks<=l.length:=by
 obtain⟨h,_,r,hr⟩:=H;obtain⟨hp,_⟩:=List.getElem?_eq_some_iff.1 h;have:=congrArg List.length hr;rw[List.length_drop,List.length_append,jy] at this;omega
def IM (h:Hp) (sl:bM) (p:Nat) (ks:List Tr) (_:Nat) (C:Ctx):Prop:=
 ∃ (done rest:List Tr) (lit out:bM) (hh:Hp),C=⟨[p,((p+1+Tr.ns done:Nat):Int)],[],[],[],[sl,lit,out],[],hh,cu⟩/\ks=done++rest/\bY h hh/\dC hh out (ku (places ((p+1:Nat):Int) done)) 3 1/\out.n=done.length/\(∀ y,out.a=some y->h y.1=none)
set_option maxHeartbeats 4000000 in
def wQ:Ct Tryz.prog where
 f:=30
 spec:=fun args h φ=>∃ sl l p x ks,args=[bM.val sl,.int .i64 ((p:Nat):Int)]/\NG h sl l/\l.length<=1000000/\rq l p x ks/\∀ sl' k,bY h k->iy k sl' (places ((p+1:Nat):Int) ks)->sl'.n=ks.length->φ sl'.val k
 ok:=by
  rintro args h φ w ⟨sl,l,p,x,ks,rfl,R,hl,H,hφ⟩ hH;refine aZ Tryz.func30 Qq VP [] φ (IM h sl p ks) (fun _ C=>((p:Int)+1+Tr.ns ks - C.i.getD 1 0).toNat) ⟨[((p:Nat):Int)],[],[],[],[sl],[],h,cu⟩ ⟨rfl,rfl,rfl,rfl,rfl,rfl⟩ af ?_ w hH rfl;generalize hE:(⟨aG _,_,_,_⟩:Env)=E;have ep:E.post=φ:=by rw[<- hE]
  have ei:E.inv=(IM h sl p ks):=by rw[<- hE]
  have em:E.meas=(fun _ C=>((p:Int)+1+Tr.ns ks - C.i.getD 1 0).toNat):=by rw[<- hE]
  clear hE;unfold GH;have hn:=NG.n R;have hfit:=H.fit;obtain⟨hx,hxz,r,hr⟩:=H;obtain⟨hp,hpx⟩:=List.getElem?_eq_some_iff.1 hx;rw[aW];intro b0 hb0;have hb0':h b0=none:=hb0;rw[ag];refine⟨by simp[go_sem]<;>omega,?_⟩;rw[ae];refine bH ?_ ?_
  . rw[ei];refine⟨[],ks,⟨some (b0,0),0,0⟩,⟨some (b0,0),0,0⟩,h.set b0 ⟨[],3⟩,rfl,rfl,dU hb0' _,.inr ⟨b0,⟨[],3⟩,rfl,by simp[Hp.set],rfl,rfl,Nat.le_refl _,Nat.zero_le _,rfl⟩,rfl,fun y hy=>?_⟩;cases hy;exact hb0'
  rw[ei,em];rintro i bb ss v ll pp hh M ⟨done,rest,lit,out,hh',hC,hks,hle,ho,hon,hfr⟩ hM;cases hC;have hM':M 0=((p:Int)+1+Tr.ns ks - ((p+1+Tr.ns done:Nat):Int)).toNat:=hM;clear hM;have R':=NG.le R hle;obtain⟨b,o,ha⟩:=Rows.nn R' (j:=p) (by omega);have rz:=Rows.read (off:=3) (m:=1) R' (j:=p) (by omega) (by omega) ha;rw[<- List.drop_drop,eP (by omega),hpx] at rz;rw[aA];refine⟨by simp[go_sem]<;>omega,?_⟩;rw[ag];refine⟨by simp[go_sem,ha]<;>omega,?_⟩;rw[ag];refine⟨by simp[go_sem,ha],?_⟩;refine rL ⟨[x.z],[],[],[],[],[]⟩ rfl af (by simpa[go_sem,ha,Ng.cs] using rz) ?_;rw[ag];refine⟨by simp[go_sem]<;>omega,?_⟩;have hns:Tr.ns ks=Tr.ns done+Tr.ns rest:=by rw[hks,gU]
  cases rest with
  | nil=>
    rw[bF] at hns;rw[ah,if_neg (by simp[go_sem];omega)];rw[aj,ep];rw[List.append_nil] at hks;subst hks;exact hφ out hh hle (iy.own ho (by rw[dn];exact hon)) hon
  | cons t rest=>
    rw[aI] at hns;have ht:=oq t;have hdl:done.length<=Tr.ns done:=by
     clear hr hks hns hM' ho hon
     induction done with
     | nil=>exact Nat.le_refl _
     | cons a d ih=>have:=oq a;rw[aI,List.length_cons];omega
    have hd:l.drop (p+1+Tr.ns done)=t.gs++(Tr.mP rest++r):=by
     rw[<- List.drop_drop,hr,hks,xh,dB,List.append_assoc,<- jy done,List.drop_left,List.append_assoc]
    obtain⟨tr,htr,_⟩:=qj t;have hq:p+1+Tr.ns done<l.length:=by omega
    have hqx:l[p+1+Tr.ns done]=t.g:=by
     rw[List.drop_eq_getElem_cons hq,htr,List.cons_append] at hd;exact (List.cons.inj hd).1
    have htz:t.g.z=(t.n:Int) - 1:=by
     obtain⟨k,ln,c,n,y,us⟩:=t;show ((Tr.ns us:Nat):Int)=_;rw[nD,Tr.sz,jq];omega
    generalize hqe:p+1+Tr.ns done=q at *;rw[ah,if_pos (by simp[go_sem];omega)];rw[ae,aW];intro bb hbb;have hbb':hh bb=none:=hbb;rw[ae,bT];have hle2:=dU hbb' ⟨[Value.int .i64 (q:Int)],3⟩;refine⟨ku (places ((p+1:Nat):Int) done),ku [(q:Int)],uM ho hle2,.inr ⟨by simp[go_sem],?_⟩,?_,?_,?_,?_⟩
    . simp[go_sem,ku]
    . intro u hu;simp[ku] at hu;subst hu;rfl
    . show out.n+1<=maxLen;unfold maxLen;omega
    . show (out.n+1)*8<=_;omega
    intro s' k' g1 g2 g3 g4;have g2':s'.n=out.n+1:=g2;have hle3:bY h k':=fun c oo hc=>g4 c oo (fun y hy e=>by
     have:=hfr y hy;rw[e,hc] at this;cases this) (hle2 _ _ (hle _ _ hc))
    have R3:=NG.le R hle3;have rk:=Rows.read (off:=3) (m:=1) R3 (j:=q) (by omega) (by omega) ha;rw[<- List.drop_drop,eP (by omega),hqx] at rk;generalize t.g=y at *;rw[aA];refine⟨by simp[go_sem]<;>omega,?_⟩;rw[ag];refine⟨by simp[go_sem,ha]<;>omega,?_⟩;rw[ag];refine⟨by simp[go_sem,ha],?_⟩;refine rL ⟨[y.z],[],[],[],[],[]⟩ rfl af (by simpa[go_sem,ha,Ng.cs] using rk) ?_;rw[ag];refine⟨by simp[go_sem]<;>omega,?_⟩;rw[ae,says_again,ei,em];have hnd:Tr.ns (done++[t])=Tr.ns done+t.n:=by rw[gU,aI,bF];omega
    refine⟨?_,?_⟩
    . refine⟨done++[t],rest,lit,s',k',?_,by rw[hks];simp,hle3,?_,by rw[g2',hon];simp,fun q2 hq2=>?_⟩
      . rw[hnd];have e:(q:Int)+1+y.z=((p+1+(Tr.ns done+t.n):Nat):Int):=by omega
        rw[<- e];rfl
      . rw[nU,tq];have e:(((p+1:Nat):Int)+(Tr.ns done:Nat))=(q:Int):=by omega
        rw[e];exact g1
      . rcases g3 q2 hq2 with ⟨q3,hq3,e⟩ | hn2
        . rw[<- e];exact hfr q3 hq3
        . cases hh2:h q2.1 with
          | none=>rfl
          | some oo=>
            have:(hh.set bb ⟨[Value.int .i64 (q:Int)],3⟩) q2.1=none:=hn2;rw[hle2 _ _ (hle _ _ hh2)] at this;cases this
    . show ((p:Int)+1+Tr.ns ks - ((q:Int)+1+y.z)).toNat<M 0;rw[hM'];omega
def Bv:Fm:=(.ite (.and (.le (.c 48) (.x 0)) (.le (.x 0) (.c 57)))
 (.N (.R (.sub (.wr .i64 (.x 0)) (.c 48)))
 (.ret (.p (.I (.sub (.wr .i64 (.x 0)) (.c 48))))))
 (.ite (.and (.le (.c 97) (.x 0)) (.le (.x 0) (.c 102)))
 (.N (.R (.sub (.wr .i64 (.x 0)) (.c 87)))
 (.ret (.p (.I (.sub (.wr .i64 (.x 0)) (.c 87))))))
 (.ite (.and (.le (.c 65) (.x 0)) (.le (.x 0) (.c 70)))
 (.N (.R (.sub (.wr .i64 (.x 0)) (.c 55)))
 (.ret (.p (.I (.sub (.wr .i64 (.x 0)) (.c 55))))))
 (.ret (.p (.I (.c (-1))))))))
theorem JS:aU ⟨true,[]⟩ Tryz.prog (fun l=>([]:List bG).getD l ⟨[],[],[]⟩) Tryz.f162=Bv:=by kernel_rfl
theorem Rl:az Tryz.prog .zero Tryz.f162.params.toList=some ([(.one (.U 0))],⟨1,0,0,0,0,0⟩):=by kernel_rfl
def GL:Fm:=(.need (.not (.eqI (.len (.x 0)) (.c 0))) (.and (.le (.c 0) (.c 0)) (.lt (.c 0) (.len (.x 0))))
 (.ite (.or (.eqI (.len (.x 0)) (.c 0)) (.not (.eqI (.at (.x 0) (.c 0)) (.c 34))))
 (.ret (.tup [.W [],(.I (.c 0)),(.one (.b (.c false)))]))
 (.mk [] 5 0
 (.loop 0 ⟨[(.c 0),(.c 1)],[(.c false)],[(.c [])],[],[(.x 0)],[]⟩
 (.ite (.lt (.x 1) (.len (.x 0)))
 (.N (.and (.le (.c 0) (.x 1)) (.lt (.x 1) (.len (.x 0))))
 (.ite (.or (.lt (.at (.x 0) (.x 1)) (.c 32)) (.lt (.c 126) (.at (.x 0) (.x 1))))
 (.ret (.tup [.W [],.J 1,(.one (.b (.c false)))]))
 (.ite (.eqI (.at (.x 0) (.x 1)) (.c 34))
 (.str (.x 1)
 (.N (.R (.add (.x 1) (.c 1)))
 (.ret (.tup [.S 2,(.I (.add (.x 1) (.c 1))),(.one (.b (.c true)))]))))
 (.ite (.not (.eqI (.at (.x 0) (.x 1)) (.c 92)))
 (.mk [(.i .u8 (.at (.x 0) (.x 1)))] 5 1
 (.app (.x 1) (.x 2) 1 1 5
 (.N (.R (.add (.x 1) (.c 1)))
 (.again 0 ⟨0,0,1,0,1,0⟩ ⟨2,1,2,0,2,0⟩ ⟨[(.x 0),(.add (.x 1) (.c 1))],[(.x 0)],[(.x 1)],[],[(.x 3)],[]⟩))))
 (.N (.R (.add (.x 1) (.c 1)))
 (.ite (.le (.len (.x 0)) (.add (.x 1) (.c 1)))
 (.ret (.tup [.W [],(.I (.add (.x 1) (.c 1))),(.one (.b (.c false)))]))
 (.N (.and (.le (.c 0) (.add (.x 1) (.c 1))) (.lt (.add (.x 1) (.c 1)) (.len (.x 0))))
 (.ite (.eqI (.at (.x 0) (.add (.x 1) (.c 1))) (.c 34))
 (.ite (.eqI (.at (.x 0) (.add (.x 1) (.c 1))) (.c 34))
 (.N (.and (.le (.c 0) (.add (.x 1) (.c 1))) (.lt (.add (.x 1) (.c 1)) (.len (.x 0))))
 (.mk [(.i .u8 (.at (.x 0) (.add (.x 1) (.c 1))))] 5 1
 (.app (.x 1) (.x 2) 1 1 5
 (.N (.R (.add (.add (.x 1) (.c 1)) (.c 1)))
 (.again 0 ⟨0,0,1,0,1,0⟩ ⟨2,1,2,0,2,0⟩ ⟨[(.x 0),(.add (.add (.x 1) (.c 1)) (.c 1))],[(.x 0)],[(.x 1)],[],[(.x 3)],[]⟩)))))
 (.ite (.eqI (.at (.x 0) (.add (.x 1) (.c 1))) (.c 110))
 (.mk [(.i .u8 (.c 10))] 5 1
 (.app (.x 1) (.x 2) 1 1 5
 (.N (.R (.add (.add (.x 1) (.c 1)) (.c 1)))
 (.again 0 ⟨0,0,1,0,1,0⟩ ⟨2,1,2,0,2,0⟩ ⟨[(.x 0),(.add (.add (.x 1) (.c 1)) (.c 1))],[(.x 0)],[(.x 1)],[],[(.x 3)],[]⟩))))
 (.ite (.eqI (.at (.x 0) (.add (.x 1) (.c 1))) (.c 116))
 (.mk [(.i .u8 (.c 9))] 5 1
 (.app (.x 1) (.x 2) 1 1 5
 (.N (.R (.add (.add (.x 1) (.c 1)) (.c 1)))
 (.again 0 ⟨0,0,1,0,1,0⟩ ⟨2,1,2,0,2,0⟩ ⟨[(.x 0),(.add (.add (.x 1) (.c 1)) (.c 1))],[(.x 0)],[(.x 1)],[],[(.x 3)],[]⟩))))
 (.ite (.eqI (.at (.x 0) (.add (.x 1) (.c 1))) (.c 120))
 (.loop 1 ⟨[(.x 0),(.c 1)],[(.x 0)],[(.x 1)],[],[],[]⟩
 (.ite (.le (.x 3) (.c 2))
 (.N (.R (.add (.add (.x 1) (.c 1)) (.x 3)))
 (.need (.not (.le (.len (.x 0)) (.add (.add (.x 1) (.c 1)) (.x 3)))) (.R (.add (.add (.x 1) (.c 1)) (.x 3)))
 (.need (.not (.le (.len (.x 0)) (.add (.add (.x 1) (.c 1)) (.x 3)))) (.and (.le (.c 0) (.add (.add (.x 1) (.c 1)) (.x 3))) (.lt (.add (.add (.x 1) (.c 1)) (.x 3)) (.len (.x 0))))
 (.call (.not (.le (.len (.x 0)) (.add (.add (.x 1) (.c 1)) (.x 3)))) false 162 [(.one (.i .u8 (.at (.x 0) (.add (.add (.x 1) (.c 1)) (.x 3)))))] (.p (.J 4)) ⟨1,0,0,0,0,0⟩
 (.ite (.or (.le (.len (.x 0)) (.add (.add (.x 1) (.c 1)) (.x 3))) (.lt (.x 4) (.c 0)))
 (.N (.R (.add (.add (.x 1) (.c 1)) (.x 3)))
 (.ret (.tup [.W [],(.I (.add (.add (.x 1) (.c 1)) (.x 3))),(.one (.b (.c false)))])))
 (.N (.R (.add (.x 3) (.c 1)))
 (.again 1 ⟨2,1,2,0,2,0⟩ ⟨4,2,3,0,2,0⟩ ⟨[(.x 2),(.add (.x 3) (.c 1))],[(.x 1)],[(.x 2)],[],[],[]⟩)))))))
 (.N (.R (.add (.add (.x 1) (.c 1)) (.c 1)))
 (.N (.and (.le (.c 0) (.add (.add (.x 1) (.c 1)) (.c 1))) (.lt (.add (.add (.x 1) (.c 1)) (.c 1)) (.len (.x 0))))
 (.N (.R (.add (.add (.x 1) (.c 1)) (.c 2)))
 (.N (.and (.le (.c 0) (.add (.add (.x 1) (.c 1)) (.c 2))) (.lt (.add (.add (.x 1) (.c 1)) (.c 2)) (.len (.x 0))))
 (.C 162 [(.one (.i .u8 (.at (.x 0) (.add (.add (.x 1) (.c 1)) (.c 1)))))] (.p (.J 4)) ⟨1,0,0,0,0,0⟩
 (.N (.R (.mul (.x 4) (.c 16)))
 (.C 162 [(.one (.i .u8 (.at (.x 0) (.add (.add (.x 1) (.c 1)) (.c 2)))))] (.p (.J 5)) ⟨1,0,0,0,0,0⟩
 (.N (.R (.add (.mul (.x 4) (.c 16)) (.x 5)))
 (.mk [(.i .u8 (.wr .u8 (.add (.mul (.x 4) (.c 16)) (.x 5))))] 5 1
 (.app (.x 1) (.x 2) 1 1 5
 (.N (.R (.add (.add (.x 1) (.c 1)) (.c 2)))
 (.N (.R (.add (.add (.add (.x 1) (.c 1)) (.c 2)) (.c 1)))
 (.again 0 ⟨0,0,1,0,1,0⟩ ⟨2,1,2,0,2,0⟩ ⟨[(.x 2),(.add (.add (.add (.x 1) (.c 1)) (.c 2)) (.c 1))],[(.x 1)],[(.x 2)],[],[(.x 3)],[]⟩)))))))))))))))
 (.ret (.tup [.W [],(.I (.add (.x 1) (.c 1))),(.one (.b (.c false)))]))))))
 (.ite (.eqI (.at (.x 0) (.add (.x 1) (.c 1))) (.c 92))
 (.N (.and (.le (.c 0) (.add (.x 1) (.c 1))) (.lt (.add (.x 1) (.c 1)) (.len (.x 0))))
 (.mk [(.i .u8 (.at (.x 0) (.add (.x 1) (.c 1))))] 5 1
 (.app (.x 1) (.x 2) 1 1 5
 (.N (.R (.add (.add (.x 1) (.c 1)) (.c 1)))
 (.again 0 ⟨0,0,1,0,1,0⟩ ⟨2,1,2,0,2,0⟩ ⟨[(.x 0),(.add (.add (.x 1) (.c 1)) (.c 1))],[(.x 0)],[(.x 1)],[],[(.x 3)],[]⟩)))))
 (.ite (.eqI (.at (.x 0) (.add (.x 1) (.c 1))) (.c 110))
 (.mk [(.i .u8 (.c 10))] 5 1
 (.app (.x 1) (.x 2) 1 1 5
 (.N (.R (.add (.add (.x 1) (.c 1)) (.c 1)))
 (.again 0 ⟨0,0,1,0,1,0⟩ ⟨2,1,2,0,2,0⟩ ⟨[(.x 0),(.add (.add (.x 1) (.c 1)) (.c 1))],[(.x 0)],[(.x 1)],[],[(.x 3)],[]⟩))))
 (.ite (.eqI (.at (.x 0) (.add (.x 1) (.c 1))) (.c 116))
 (.mk [(.i .u8 (.c 9))] 5 1
 (.app (.x 1) (.x 2) 1 1 5
 (.N (.R (.add (.add (.x 1) (.c 1)) (.c 1)))
 (.again 0 ⟨0,0,1,0,1,0⟩ ⟨2,1,2,0,2,0⟩ ⟨[(.x 0),(.add (.add (.x 1) (.c 1)) (.c 1))],[(.x 0)],[(.x 1)],[],[(.x 3)],[]⟩))))
 (.ite (.eqI (.at (.x 0) (.add (.x 1) (.c 1))) (.c 120))
 (.loop 1 ⟨[(.x 0),(.c 1)],[(.x 0)],[(.x 1)],[],[],[]⟩
 (.ite (.le (.x 3) (.c 2))
 (.N (.R (.add (.add (.x 1) (.c 1)) (.x 3)))
 (.need (.not (.le (.len (.x 0)) (.add (.add (.x 1) (.c 1)) (.x 3)))) (.R (.add (.add (.x 1) (.c 1)) (.x 3)))
 (.need (.not (.le (.len (.x 0)) (.add (.add (.x 1) (.c 1)) (.x 3)))) (.and (.le (.c 0) (.add (.add (.x 1) (.c 1)) (.x 3))) (.lt (.add (.add (.x 1) (.c 1)) (.x 3)) (.len (.x 0))))
 (.call (.not (.le (.len (.x 0)) (.add (.add (.x 1) (.c 1)) (.x 3)))) false 162 [(.one (.i .u8 (.at (.x 0) (.add (.add (.x 1) (.c 1)) (.x 3)))))] (.p (.J 4)) ⟨1,0,0,0,0,0⟩
 (.ite (.or (.le (.len (.x 0)) (.add (.add (.x 1) (.c 1)) (.x 3))) (.lt (.x 4) (.c 0)))
 (.N (.R (.add (.add (.x 1) (.c 1)) (.x 3)))
 (.ret (.tup [.W [],(.I (.add (.add (.x 1) (.c 1)) (.x 3))),(.one (.b (.c false)))])))
 (.N (.R (.add (.x 3) (.c 1)))
 (.again 1 ⟨2,1,2,0,2,0⟩ ⟨4,2,3,0,2,0⟩ ⟨[(.x 2),(.add (.x 3) (.c 1))],[(.x 1)],[(.x 2)],[],[],[]⟩)))))))
 (.N (.R (.add (.add (.x 1) (.c 1)) (.c 1)))
 (.N (.and (.le (.c 0) (.add (.add (.x 1) (.c 1)) (.c 1))) (.lt (.add (.add (.x 1) (.c 1)) (.c 1)) (.len (.x 0))))
 (.N (.R (.add (.add (.x 1) (.c 1)) (.c 2)))
 (.N (.and (.le (.c 0) (.add (.add (.x 1) (.c 1)) (.c 2))) (.lt (.add (.add (.x 1) (.c 1)) (.c 2)) (.len (.x 0))))
 (.C 162 [(.one (.i .u8 (.at (.x 0) (.add (.add (.x 1) (.c 1)) (.c 1)))))] (.p (.J 4)) ⟨1,0,0,0,0,0⟩
 (.N (.R (.mul (.x 4) (.c 16)))
 (.C 162 [(.one (.i .u8 (.at (.x 0) (.add (.add (.x 1) (.c 1)) (.c 2)))))] (.p (.J 5)) ⟨1,0,0,0,0,0⟩
 (.N (.R (.add (.mul (.x 4) (.c 16)) (.x 5)))
 (.mk [(.i .u8 (.wr .u8 (.add (.mul (.x 4) (.c 16)) (.x 5))))] 5 1
 (.app (.x 1) (.x 2) 1 1 5
 (.N (.R (.add (.add (.x 1) (.c 1)) (.c 2)))
 (.N (.R (.add (.add (.add (.x 1) (.c 1)) (.c 2)) (.c 1)))
 (.again 0 ⟨0,0,1,0,1,0⟩ ⟨2,1,2,0,2,0⟩ ⟨[(.x 2),(.add (.add (.add (.x 1) (.c 1)) (.c 2)) (.c 1))],[(.x 1)],[(.x 2)],[],[(.x 3)],[]⟩)))))))))))))))
 (.ret (.tup [.W [],(.I (.add (.x 1) (.c 1))),(.one (.b (.c false)))]))))))))))))))
 (.ret (.tup [.W [],(.I (.len (.x 0))),(.one (.b (.c false)))])))))))
theorem Qu:aU ⟨true,[]⟩ Tryz.prog (fun l=>([⟨[2,3,4,5,6],[18,19,20,21,24,25,26,7,27,28,29,30,31,32,33,34,35,36,37,38,39,40,41,42,43,44,45,46,47,48,49,50,51,52,53,54,55,58,57,59,60,61,62,63,64,65,67,66,68,69,70,72,71,73,74,75,77,76,8,78,79,82,83,84,85,86,87,88,89,90,91,92,93,94,95,96,97,98,99,80,81,100,101,102,103,104,105,106,107,108,109,110,111,112,113,114,115,116,117,56,22,23],[]⟩,⟨[2,3,4,8],[78,79,82,83,84,85,86,87,88,89,90,91,92,93,94,95,96,97,98,99,80,81],[]⟩]:List bG).getD l ⟨[],[],[]⟩) Tryz.f150=GL:=by kernel_rfl
theorem VS:az Tryz.prog .zero Tryz.f150.params.toList=some ([.S 0],⟨0,0,1,0,0,0⟩):=by kernel_rfl
set_option maxHeartbeats 1000000 in
def oW:Ct Tryz.prog where
 f:=162
 spec:=fun args h φ=>∃ c:Int,args=[.int .u8 c]/\0<=c/\c<=255/\φ (.int .i64 (hx c)) h
 ok:=by
  rintro args h φ w ⟨c,rfl,c0,c1,hφ⟩ hH;refine aZ Tryz.func162 JS Rl [] φ bJ aV ⟨[c],[],[],[],[],[],h,cu⟩ ⟨rfl,rfl,rfl,rfl,rfl,rfl⟩ af ?_ w hH rfl;have hw:IntKind.i64.wrap c=c:=by rw[IntKind.wrap_i64];omega
  unfold hx at hφ;rw[<- ae];unfold Bv;by_cases h1:48<=c/\c<=57
  . rw[if_pos h1] at hφ
    iterate 4 (try simp only[ae];try simp[go_sem,h1.1,h1.2,hw])
    exact⟨by omega,by omega,hφ⟩
  . rw[if_neg h1] at hφ;by_cases h2:97<=c/\c<=102
    . rw[if_pos h2] at hφ;have h1':48<=c->¬ c<=57:=by omega
      iterate 5 (try simp only[ae];try simp[go_sem,h2.1,h2.2,hw])
      rw[if_neg h1];exact⟨by omega,by omega,hφ⟩
    . rw[if_neg h2] at hφ;by_cases h3:65<=c/\c<=70
      . rw[if_pos h3] at hφ
        iterate 6 (try simp only[ae];try simp[go_sem,h3.1,h3.2,hw])
        rw[if_neg h1,if_neg h2];exact⟨by omega,by omega,hφ⟩
      . rw[if_neg h3] at hφ
        iterate 6 (try simp only[ae];try simp[go_sem,hw])
        rw[if_neg h1,if_neg h2,if_neg h3];exact hφ
structure BI (h:Hp) (sl:bM) (acc:List UInt8) (hh:Hp):Prop where
 own:dC hh sl (nG acc) 5 1
 n:sl.n=acc.length
 nn:sl.a≠none
 fresh:∀ z,sl.a=some z->h z.1=none
 kept:bY h hh
theorem ry {E:Env} {C:Ctx} {x y:LE} {f:Fm} {h:Hp} {sl:bM} {acc:List UInt8} {hh:Hp} (I:BI h sl acc hh) (hlen:acc.length<=1000000) {b:Nat} (hb:hh b=none) {c:Int} (c0:0<=c) (c1:c<=255)
 (hx:x.den C=sl) (hy:y.den C=⟨some (b,0),1,1⟩) (hC:C.h=hh.set b ⟨[.int .u8 c],5⟩)
 (hk:∀ s' k',BI h s' (acc++[ub c]) k'->f.says E ((C.push ⟨[],[],[],[],[s'],[]⟩).heap k')):
 (Fm.app x y 1 1 5 f).says E C:=by
 have h1:=I.n;have hcs:[Value.int .u8 c]=nG [ub c]:=by simp[nG,EI c0 c1]
 have hlt:∀ z,sl.a=some z->z.1≠b:=fun z hz e=>by
  rcases I.own with ⟨q,_⟩ | ⟨d,o,q1,q2,_⟩
  . rw[q] at hz;cases hz
  . rw[q1] at hz;cases hz;subst e;rw[hb] at q2;cases q2
 rw[bT,hx,hy,hC];refine⟨nG acc,nG [ub c],jA I.own hlt _,.inr ⟨by simp,?_⟩,?_,?_,?_,?_⟩
 . rw[<- hcs,fG,if_pos (by simp)];rfl
 . rw[<- hcs];exact Ce rfl
 . show sl.n+1<=maxLen;unfold maxLen;omega
 . show (sl.n+1)*1<=_;omega
 . intro s' k' g1 g2 g3 g4;refine hk s' k' ⟨by rw[wM];exact g1,by rw[show s'.n=sl.n+1 from g2,h1];simp,?_,fun z hz=>?_,fun d o hd=>?_⟩
   . rcases g1 with ⟨q,_⟩ | ⟨d,o,q1,_⟩
     . rw[q] at g2;have:(0:Nat)=sl.n+1:=g2;omega
     . rw[q1];simp
   . rcases g3 z hz with ⟨y',hy',e⟩ | hn
     . rw[<- e];exact I.fresh y' hy'
     . have m1:z.1≠b:=fun e=>by rw[e,ay] at hn;cases hn
       rw[bf _ m1] at hn;cases hq:h z.1 with
       | none=>rfl
       | some o=>rw[I.kept _ _ hq] at hn;cases hn
   . refine g4 d o (fun z hz e=>by have:=I.fresh z hz;rw[e,hd] at this;cases this) ?_;rw[bf _ (fun e=>by have:=I.kept d o hd;rw[e,hb] at this;cases this)];exact I.kept d o hd
theorem BI.bytes {h:Hp} {sl:bM} {acc:List UInt8} {hh:Hp} (I:BI h sl acc hh):BytesAt hh sl acc:=by
 rcases I.own with ⟨q,_⟩ | ⟨d,o,q1,q2,_,q4,q5,_,q7⟩
 . exact absurd (by rw[q]) I.nn
 . refine .inr ?_;rw[q1,bI q2,if_pos (by omega)];have:nG acc=acc.map fun c=>Value.int .u8 c.toNat:=rfl
   rw[<- this,q7,Nat.mul_one];rfl
end
end Go.Proofs.YtllbpdllkkcajaaGreatDoor
