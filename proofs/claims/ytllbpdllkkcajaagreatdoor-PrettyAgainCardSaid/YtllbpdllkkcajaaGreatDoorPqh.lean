/- hindcastlaw07: texts joined: ParO, ParP, ParQ, ParR, ParS, ParT, ParU, LexT, LexU, LexP, LexV, ParV, TreF, TreN, TreO, TreP, TreT, TreR, TreS, TreB. -/
import Derived.Test.YtllbpdllkkcajaaGreatDoorPqg
namespace Go.Proofs.YtllbpdllkkcajaaGreatDoor
open Go.RowKit
attribute [local go_sem] bI bH aj ah ag aS ax aQ ak says_again BE.den IE.den SE.den LE.den AE.den CE.den PE.den VE.den KV.val dO.den dO.cnt jO fD jX allL Ctx.push Ctx.heap Ctx.cut Ctx.bare Ctx.mark Inc.blank List.getD_cons_zero List.getD_cons_succ List.cons_append List.nil_append List.append_nil List.map_cons List.map_nil List.replicate_zero List.replicate_succ az dm bY dh cO dK dJ bC bz bD bW bV aH aX aI aG au aP aO dH af and_assoc
def JV:Fm:=(.C 145 [.P 0] (.p (.P 1)) ⟨0,0,0,0,0,1⟩
 (.loop 0 ⟨[],[],[],[],[],[(.c .nilp),(.pt 1)]⟩
 (.C 44 [.P 0] (.p (.K 0 1 2 3 0)) ⟨4,0,1,0,0,0⟩
 (.C 69 [.P 0,.W [91]] (.p (.B 0)) ⟨0,1,0,0,0,0⟩
 (.ite (.x 0)
 (.C 108 [.P 0,.W [91]] (.p (.K 4 5 6 7 1)) ⟨4,0,1,0,0,0⟩
 (.C 22 [.P 0] (.p (.P 4)) ⟨0,0,0,0,0,1⟩
 (.V 110 [.P 0,.W [93]]
 (.mk [(.pt 3),(.pt 4)] 71 2
 (.C 128 [(.one (.i .u8 (.c 28))),.K 0 1 2 3 0,.L 0] (.p (.P 5)) ⟨0,0,0,0,0,1⟩
 (.again 0 ⟨0,0,0,0,0,2⟩ ⟨0,0,0,0,0,4⟩ ⟨[],[],[],[],[],[(.pt 2),(.pt 5)]⟩))))))
 (.C 111 [.P 0,.W [46]] (.p (.B 1)) ⟨0,1,0,0,0,0⟩
 (.ite (.x 1)
 (.C 107 [.P 0,(.one (.i .u8 (.c 1)))] (.p (.K 4 5 6 7 1)) ⟨4,0,1,0,0,0⟩
 (.mk [(.pt 3)] 71 1
 (.C 106 [(.one (.i .u8 (.c 29))),.K 0 1 2 3 0,.S 1,.L 0] (.p (.P 4)) ⟨0,0,0,0,0,1⟩
 (.again 0 ⟨0,0,0,0,0,2⟩ ⟨0,0,0,0,0,4⟩ ⟨[],[],[],[],[],[(.pt 2),(.pt 4)]⟩))))
 (.ret (.p (.P 3))))))))))
theorem TA:bG ⟨true,[]⟩ Tryz.prog (fun l=>([⟨[3,2],[8,9,4,12,13,11,14,15,16,17,5,18,19,20,21,22,23,24,26,27,25,28,29,30,31,32,33,34,10],[4]⟩]:List bZ).getD l ⟨[],[],[]⟩) Tryz.f127=JV:=by kernel_rfl
theorem XV:aF Tryz.prog .zero Tryz.f127.params.toList=some ([.P 0],⟨0,0,0,0,0,1⟩):=by kernel_rfl
def JO:Fm:=(.C 106 [(.one (.i .u8 (.c 27))),.K 0 1 2 3 0,.S 0,(.one (.sl .nil))] (.p (.P 1)) ⟨0,0,0,0,0,1⟩
 (.C 108 [.P 0,.W [40]] (.p (.K 4 5 6 7 1)) ⟨4,0,1,0,0,0⟩
 (.loop 0 ⟨[],[(.c true)],[],[],[],[]⟩
 (.C 46 [.P 0] (.p (.B 1)) ⟨0,1,0,0,0,0⟩
 (.call (.not (.x 1)) false 69 [.P 0,.W [41]] (.p (.B 2)) ⟨0,1,0,0,0,0⟩
 (.ite (.and (.not (.x 1)) (.not (.x 2)))
 (.ite (.not (.x 0))
 (.C 105 [.P 0,.W [44]] (.p (.K 8 9 10 11 2)) ⟨4,0,1,0,0,0⟩
 (.O (.pt 1 6) 1 [(.sl (.x 0))] ⟨0,0,0,0,1,0⟩
 (.Z 1
 (.Z 1
 (.callK (.c true) [((.c true),(.pt 1 6),1)] 22 [.P 0] (.p (.P 2)) ⟨0,0,0,0,0,1⟩
 (.mk [(.pt 2)] 71 1
 (.app (.x 0) (.x 1) 1 8 71
 (.Z 1
 (.Z 1
 (.store (.pt 1 6) [(.sl (.x 2))]
 (.again 0 ⟨8,0,2,0,0,2⟩ ⟨8,1,2,0,0,2⟩ ⟨[],[(.c false)],[],[],[],[]⟩)))))))))))
 (.O (.pt 1 6) 1 [(.sl (.x 0))] ⟨0,0,0,0,1,0⟩
 (.Z 1
 (.Z 1
 (.callK (.c true) [((.c true),(.pt 1 6),1)] 22 [.P 0] (.p (.P 2)) ⟨0,0,0,0,0,1⟩
 (.mk [(.pt 2)] 71 1
 (.app (.x 0) (.x 1) 1 8 71
 (.Z 1
 (.Z 1
 (.store (.pt 1 6) [(.sl (.x 2))]
 (.again 0 ⟨8,0,2,0,0,2⟩ ⟨8,1,2,0,0,2⟩ ⟨[],[(.c false)],[],[],[],[]⟩)))))))))))
 (.V 110 [.P 0,.W [41]]
 (.ret (.p (.P 1))))))))))
theorem Tj:bG ⟨true,[]⟩ Tryz.prog (fun l=>([⟨[6],[13,14,15,16,17,18,19,20,21,22,23,24,25,26,27,28,29,30,31,32,33,34,35],[10]⟩]:List bZ).getD l ⟨[],[],[]⟩) Tryz.f159=JO:=by kernel_rfl
theorem XM:aF Tryz.prog .zero Tryz.f159.params.toList=some ([.P 0,.K 0 1 2 3 0],⟨4,0,1,0,0,1⟩):=by kernel_rfl
def Ru (h:Hp) (b:Nat) (sl:bT) (L:List Tok) (t:Tr) (q:PS) (n:Nat):Nat→Ctx→Prop:=fun _ C=>
 ∃ x0 x1 v x p1 k1 g1 m1,C=⟨[],[],[],[],[],[some (b,0),x0,x1,some (v,0)],k1,dM⟩∧At h b sl L p1 k1 g1∧It g1 v x∧m1≤n∧jr L m1 x p1=some (t,q)∧p1.d+m1≤1000000000000
set_option maxHeartbeats 4000000 in
theorem aas {n:Nat} (HE:uP n) (HA:Gn n):Np n:=by
 rintro args h φ w ⟨m,hm,b,sl,L,p,t,q,rfl,W,hr,hd,hφ⟩ hH
 refine bJ Tryz.func127 TA XV [ik,lK,jE,jW,gZ,rE,mi,iM,lm HE,VD HA] φ (Ru h b sl L t q n) (fun _=>iV b L.length) ⟨[],[],[],[],[],[some (b,0)],h,dM⟩ ⟨rfl,rfl,rfl,rfl,rfl,rfl⟩ af ?_ w hH rfl
 generalize hE:(⟨az _,_,_,_⟩:Env)=E
 have s_ctNow:E.spec 44=(ik).spec:=by rw[← hE];rfl
 have s_ctIs:E.spec 69=(lK).spec:=by rw[← hE];rfl
 have s_ctOpen:E.spec 108=(jE).spec:=by rw[← hE];rfl
 have s_ctShut:E.spec 110=(jW).spec:=by rw[← hE];rfl
 have s_ctMake1:E.spec 128=(gZ).spec:=by rw[← hE];rfl
 have s_ctTry:E.spec 111=(rE).spec:=by rw[← hE];rfl
 have s_ctPWord:E.spec 107=(mi).spec:=by rw[← hE];rfl
 have s_ctNamed:E.spec 106=(iM).spec:=by rw[← hE];rfl
 have s_ctE:E.spec 22=(lm HE).spec:=by rw[← hE];rfl
 have s_ctA:E.spec 145=(VD HA).spec:=by rw[← hE];rfl
 have ep:E.post=φ:=by rw[← hE]
 have ei:E.inv=(Ru h b sl L t q n):=by rw[← hE]
 have em:E.meas=(fun _=>iV b L.length):=by rw[← hE]
 clear hE
 unfold JV
 unfold Iq at hr
 simp only[Option.bind_eq_some_iff] at hr
 obtain⟨⟨x,r⟩,h1,h2⟩:=hr
 rw[ag,if_pos (by rfl),s_ctA]
 refine⟨m,hm,b,sl,L,p,x,r,rfl,W,h1,hd,fun v k g A1 hI=>?_⟩
 simp[go_sem,cu];refine⟨some (v,0),rfl,?_⟩
 have hrd:=((lh W.lw m).2.2.2.2.1 _ _ _ h1).d
 rw[ae]
 refine dB ?_ ?_
 · rw[ei]
   exact⟨some (v,0),none,v,x,r,k,g,m,rfl,A1,hI,by omega,h2,by dsimp only at *;omega⟩
 rw[ei,em]
 rintro i' bb ss v' ll pp hh0 M ⟨x0,x1,v,x,p1,k1,g1,m1,hC,A1,hI,hm1,hb1,hd1⟩ hM
 cases hC
 have hM:M 0=mu L p1:=hM.trans (fM A1.pw rfl)
 clear h1 h2
 cases m1 with
 | zero=>cases hb1
 | succ m1=>
 rw[jr] at hb1
 rw[ag,if_pos (by rfl),s_ctNow]
 refine⟨b,sl,L,p1,rfl,A1.pw,?_⟩
 simp[go_sem,dU,iF]
 rw[ae,ag,if_pos (by rfl),s_ctIs]
 refine⟨b,sl,L,p1,[91],rfl,A1.pw,?_⟩
 have hd0:=A1.pw.d0
 cases c1:dn L [91] p1 with
 | true=>
   rw[if_pos c1] at hb1
   simp only[Option.bind_eq_some_iff] at hb1
   obtain⟨⟨y,r1⟩,h3,h4⟩:=hb1
   simp[go_sem]
   rw[ae,ah,if_pos (by simp[go_sem])]
   rw[ae,ag,if_pos (by rfl),s_ctOpen]
   refine⟨b,sl,L,p1,[91],rfl,A1.pw,?_⟩
   simp[go_sem,dU,iF]
   have Ao:=bf W.lw [91] p1
   have hod:=Ao.d
   have A2:=A1.open [91] (by omega)
   rw[ae,ag,if_pos (by rfl),s_ctE]
   refine⟨m1,by omega,b,sl,L,_,y,r1,rfl,A2.pw,h3,by omega,fun v2 k2 g2 A3 hI2=>?_⟩
   simp[go_sem,cu];refine⟨some (v2,0),rfl,?_⟩
   have A4:=A2.then A3
   have Ad:=(lh W.lw m1).1 _ _ _ _ h3
   have hrd1:=Ad.d
   rw[ae,ag,if_pos (by rfl),s_ctShut]
   refine⟨b,sl,L,r1,[93],rfl,A4.pw,?_⟩
   have A5:=A4.shut [93] (by omega)
   have As:=bU W.lw [93] r1
   have hsd:=As.d
   simp[go_sem]
   rw[ae,aT]
   intro kb hkb
   simp[go_sem]
   rw[ae,ag,if_pos (by rfl),s_ctMake1]
   refine⟨28,tk L p1,⟨some (kb,0),2,2⟩,rfl,fun v3 hv3=>?_⟩
   simp[go_sem,cu];refine⟨some (v3,0),rfl,?_⟩
   obtain⟨A6,I6⟩:=A5.node (vs:=[v,v2]) (ts:=[x,y]) hkb ⟨It.le (sH _ _) _ _ hI,It.le (A2.disj A3) _ _ hI2,trivial⟩ (by simp) hv3 28 (tk L p1).l (tk L p1).c 0 []
   rw[ae,says_again,ei,em]
   refine⟨⟨_,_,v3,_,dD L [93] r1,_,_,m1,rfl,A6,I6,by omega,h4,by omega⟩,?_⟩
   show iV b L.length _<M 0
   rw[hM]
   refine Nat.lt_of_le_of_lt (Nat.le_of_eq (fM A6.pw rfl)) ?_
   have m1:=nS (ja c1) (iI c1).1 A1.pw.at'
   have m2:=iq (Ad.trans As)
   omega
 | false=>
 rw[c1,if_neg (by decide)] at hb1
 simp[go_sem]
 rw[ae,ah,if_neg (by simp[go_sem])]
 rw[ae,ag,if_pos (by rfl),s_ctTry]
 refine⟨b,sl,L,p1,[46],rfl,A1.pw,?_⟩
 cases c2:dn L [46] p1 with
 | true=>
   rw[if_pos c2] at hb1
   rw[if_pos rfl]
   simp[go_sem]
   rw[ae,ah,if_pos (by simp[go_sem])]
   have A2:=A1.pass
   rw[ae,ag,if_pos (by rfl),s_ctPWord]
   refine⟨b,sl,L,_,1,rfl,A2.pw,?_⟩
   simp[go_sem,dU,iF]
   have A3:=A2.word 1
   rw[aP] at A3
   rw[ae,aT]
   intro kb hkb
   simp[go_sem]
   rw[ae,ag,if_pos (by rfl),s_ctNamed]
   refine⟨29,tk L p1,(tk L (bn L p1)).x,⟨some (kb,0),1,1⟩,rfl,fun v3 hv3=>?_⟩
   simp[go_sem,cu];refine⟨some (v3,0),rfl,?_⟩
   obtain⟨A6,I6⟩:=A3.node (vs:=[v]) (ts:=[x]) hkb ⟨hI,trivial⟩ (by simp) hv3 29 (tk L p1).l (tk L p1).c 0 (tk L (bn L p1)).x
   have Ap:=aJ W.lw p1
   have Aw:=dF W.lw 1 (bn L p1)
   have hwd:=(Ap.trans Aw).d
   rw[ae,says_again,ei,em]
   refine⟨⟨_,_,v3,_,_,_,_,m1,rfl,A6,I6,by omega,hb1,by omega⟩,?_⟩
   show iV b L.length _<M 0
   rw[hM]
   refine Nat.lt_of_le_of_lt (Nat.le_of_eq (fM A6.pw rfl)) ?_
   have m1:=nS (iO c2) (iI c2).1 A1.pw.at'
   have m2:=iq Aw
   omega
 | false=>
 rw[c2,if_neg (by decide)] at hb1
 cases hb1
 rw[if_neg (by decide)]
 simp[go_sem]
 rw[ae,ah,if_neg (by simp[go_sem])]
 simp only[ae];simp[go_sem,ep]
 exact hφ v _ _ A1 hI
def Il (L:List Tok) (n:Nat) (t0:Tok) (p:PS):Option (Tr×PS):=(iY L n true [] (dX L [40] p)).map fun r=>(nd 27 t0 0 t0.x r.1,dD L [41] r.2)
def FW (f:List Tok→Nat→Tok→PS→Option (Tr×PS)) (n:Nat) (args:List Value) (h:Hp) (φ:Value→Hp→Prop):Prop:=
 ∃ m,m≤n∧∃ b sl L p t q t0,args=[cu b,dU t0]∧PW h b sl L p∧f L m t0 p=some (t,q)∧p.d+m+1≤1000000000000∧∀ v k g,At h b sl L q k g→It g v t→φ (cu v) k
def Nk (n:Nat):Prop:=∀ args h φ w,FW Il n args h φ→Holds h w→Calls Tryz.prog 159 args.toArray w fun e w'=>∃ v k,e=.returned v∧φ v k∧Holds k w'∧Fr w.heap.size h k w w'
def VF {n:Nat} (H:Nk n):Ct Tryz.prog:=⟨159,FW Il n,H⟩
def Qb (h:Hp) (b:Nat) (sl:bT) (L:List Tok) (t0:Tok) (rl:List Tr) (r:PS) (d:Int) (n:Nat):Nat→Ctx→Prop:=fun _ C=>
 ∃ i4 i5 i6 i7 s1 first o s vs ts p1 k1 g1 m1,C=⟨[t0.k,t0.l,t0.c,t0.n,i4,i5,i6,i7],[first],[t0.x,s1],[],[],[some (b,0),some (o,0)],k1,dM⟩∧Out h b sl L p1 k1 g1 o 27 t0.l t0.c 0 t0.x s vs ts∧m1≤n∧
  iY L m1 first ts p1=some (rl,r)∧p1.d+m1≤1000000000000∧vs.length+mu L p1≤L.length∧p1.d=d
theorem pI (L:List Tok) (p:PS):mu L p≤L.length:=by unfold mu;split<;>omega
set_option maxHeartbeats 4000000 in
theorem ZA {n:Nat} (HE:uP n):Nk n:=by
 rintro args h φ w ⟨m,hm,b,sl,L,p,t,q,t0,rfl,W,hr,hd,hφ⟩ hH
 unfold Il at hr
 simp only[Option.map_eq_some_iff] at hr
 obtain⟨⟨rl,r⟩,h1,h2⟩:=hr
 cases h2
 refine bJ Tryz.func159 Tj XM [iM,jE,iL,lK,jV,jW,lm HE] φ (Qb h b sl L t0 rl r (p.d+1) n) (fun _=>iV b L.length) ⟨[t0.k,t0.l,t0.c,t0.n],[],[t0.x],[],[],[some (b,0)],h,dM⟩ ⟨rfl,rfl,rfl,rfl,rfl,rfl⟩ af ?_ w hH rfl
 generalize hE:(⟨az _,_,_,_⟩:Env)=E
 have s_ctNamed:E.spec 106=(iM).spec:=by rw[← hE];rfl
 have s_ctOpen:E.spec 108=(jE).spec:=by rw[← hE];rfl
 have s_ctBad:E.spec 46=(iL).spec:=by rw[← hE];rfl
 have s_ctIs:E.spec 69=(lK).spec:=by rw[← hE];rfl
 have s_ctMust:E.spec 105=(jV).spec:=by rw[← hE];rfl
 have s_ctShut:E.spec 110=(jW).spec:=by rw[← hE];rfl
 have s_ctE:E.spec 22=(lm HE).spec:=by rw[← hE];rfl
 have ep:E.post=φ:=by rw[← hE]
 have ei:E.inv=(Qb h b sl L t0 rl r (p.d+1) n):=by rw[← hE]
 have em:E.meas=(fun _=>iV b L.length):=by rw[← hE]
 clear hE
 unfold JO
 have A:=At.start W
 have hd0:=W.d0
 have hlen:=W.len
 rw[ag,if_pos (by rfl),s_ctNamed]
 refine⟨27,t0,t0.x,⟨none,0,0⟩,rfl,fun o ho=>?_⟩
 simp[go_sem,cu];refine⟨some (o,0),rfl,?_⟩
 have O:=A.out ho 27 t0.l t0.c 0 t0.x
 rw[ae,ag,if_pos (by rfl),s_ctOpen]
 refine⟨b,sl,L,p,[40],rfl,O.at'.pw,?_⟩
 simp[go_sem,dU,iF]
 have hod:=(bf W.lw [40] p).d
 have O1:=O.open [40] (by omega)
 rw[ae]
 refine dB ?_ ?_
 · rw[ei]
   exact⟨_,_,_,_,_,true,o,⟨none,0,0⟩,[],[],_,_,_,m,rfl,O1,hm,h1,by omega,by have:=pI L (dX L [40] p);simp;omega,hod⟩
 rw[ei,em]
 rintro i' bb ss v' ll pp hh0 M ⟨i4,i5,i6,i7,s1,first,o,s,vs,ts,p1,k1,g1,m1,hC,O1,hm1,hb1,hd1,hmu,hpd⟩ hM
 cases hC
 have hM:M 0=mu L p1:=hM.trans (fM O1.at'.pw rfl)
 clear h1 hod O ho
 cases m1 with
 | zero=>cases hb1
 | succ m1=>
 rw[iY] at hb1
 have stop:(p1.bad||dn L [41] p1)=true→∀ bs M,Then E (.V 110 [.P 0,.W [41]] (.ret (.p (.P 1)))) ⟨[t0.k,t0.l,t0.c,t0.n,i4,i5,i6,i7],bs,[t0.x,s1],[],[],[some (b,0),some (o,0)],hh0,M⟩:=by
  intro hc bs M
  rw[if_pos hc] at hb1
  cases hb1
  rw[ae,ag,if_pos (by rfl),s_ctShut]
  refine⟨b,sl,L,_,[41],rfl,O1.at'.pw,?_⟩
  have O2:=O1.shut [41] (by omega)
  simp[go_sem]
  simp only[ae];simp[go_sem,ep]
  obtain⟨g',A',I'⟩:=O2.done
  exact hφ o _ g' A' I'
 rw[ag,if_pos (by rfl),s_ctBad]
 refine⟨b,sl,L,p1,rfl,O1.at'.pw,?_⟩
 simp[go_sem]
 cases c0:p1.bad with
 | true=>
   rw[ae,ag,if_neg (by simp[go_sem])]
   simp[go_sem]
   rw[ae,ah,if_neg (by simp[go_sem])]
   exact stop (by rw[c0];rfl) _ _
 | false=>
 rw[ae,ag,if_pos (by simp[go_sem]),s_ctIs]
 refine⟨b,sl,L,p1,[41],rfl,O1.at'.pw,?_⟩
 simp[go_sem]
 cases c1:dn L [41] p1 with
 | true=>
   rw[ae,ah,if_neg (by simp[go_sem])]
   exact stop (by rw[c1];simp) _ _
 | false=>
 clear stop
 rw[if_neg (by rw[c0,c1];decide)] at hb1
 simp only[Option.bind_eq_some_iff] at hb1
 obtain⟨⟨y,r1⟩,h3,h4⟩:=hb1
 rw[ae,ah,if_pos (by simp[go_sem])]
 have hmp:=nT c0 O1.at'.pw.at'
 have more:∀ (p2:PS) (k2:Hp) (bs:List Bool) (is':List Int) (ss':List (List UInt8)),Out h b sl L p2 k2 g1 o 27 t0.l t0.c 0 t0.x s vs ts→gK L p1 p2 0→eQ L m1 1 p2=some (y,r1)→
  Then E (Fm.O (.pt 1 6) 1 [(.sl (.x 0))] ⟨0,0,0,0,1,0⟩
 (.Z 1
 (.Z 1
 (.callK (.c true) [((.c true),(.pt 1 6),1)] 22 [.P 0] (.p (.P 2)) ⟨0,0,0,0,0,1⟩
 (.mk [(.pt 2)] PI 1
 (.app (.x 0) (.x 1) 1 8 PI
 (.Z 1
 (.Z 1
 (.store (.pt 1 6) [(.sl (.x 2))]
 (.again 0 ⟨8,0,2,0,0,2⟩ ⟨8,1,2,0,0,2⟩ ⟨[],[(.c false)],[],[],[],[]⟩)))))))))) ⟨[t0.k,t0.l,t0.c,t0.n,i4,i5,i6,i7]++is',bs,[t0.x,s1]++ss',[],[],[some (b,0),some (o,0)],k2,M⟩:=by
  intro p2 k2 bs is' ss' O2 Ap2 h3
  have hpd2:=Ap2.d
  have hbl:=O2.blk
  rw[ae,ax,if_pos (by rfl)]
  simp[go_sem,bu hbl,oV]
  rw[ae,aj]
  refine⟨by simp[go_sem],?_⟩
  rw[ae,aj]
  refine⟨by simp[go_sem],?_⟩
  rw[ae,aS,if_pos (by rfl),s_ctE]
  refine⟨m1,by omega,b,sl,L,p2,y,r1,rfl,O2.at'.pw,h3,by omega,fun v2 k3 g3 A3 hI2=>?_⟩
  have O3:=O2.then A3
  have Ad:=(lh W.lw m1).1 _ _ _ _ h3
  have hrd1:=Ad.d
  have hbl3:=O3.blk
  simp[go_sem,cu]
  refine⟨by rw[bu hbl,bu hbl3],some (v2,0),rfl,?_⟩
  rw[ae,aT]
  intro kb hkb
  simp[go_sem]
  rw[ae]
  have hkl:=pI L p1
  refine Ig O3 (It.le (O2.at'.disj A3) _ _ hI2) (by omega) hkb rfl rfl rfl fun s' k4 hk4 O4=>?_
  rw[aj]
  refine⟨by simp[go_sem],?_⟩
  rw[ae,aj]
  refine⟨by simp[go_sem],?_⟩
  rw[ae,aQ]
  refine⟨_,by simp[go_sem,jC hk4,oV];rfl,?_⟩
  rw[ae,says_again,ei,em]
  have hw:=jU (((RZ W.lw m1).1 _ _ _ _ h3)) Ad O2.at'.pw.at'
  have hm2:=iq Ap2
  refine⟨⟨_,_,_,_,_,false,o,s',vs++[v2],ts++[y],r1,_,_,m1,rfl,O4,by omega,h4,by omega,by simp;omega,by omega⟩,?_⟩
  show iV b L.length _<M 0
  rw[hM]
  refine Nat.lt_of_le_of_lt (Nat.le_of_eq (fM O4.at'.pw rfl)) ?_
  omega
 cases first with
 | true=>
   rw[ae,ah,if_neg (by simp[go_sem])]
   exact more p1 hh0 _ [] [] O1 (gK.refl p1) h3
 | false=>
   rw[ae,ah,if_pos (by simp[go_sem])]
   rw[ae,ag,if_pos (by rfl),s_ctMust]
   refine⟨b,sl,L,p1,[44],rfl,O1.at'.pw,?_⟩
   simp[go_sem,dU,iF]
   exact more (bM L [44] p1) _ _ [_,_,_,_] [_] (O1.must [44]) (aN W.lw [44] p1) h3
end Go.Proofs.YtllbpdllkkcajaaGreatDoor
namespace Go.Proofs.YtllbpdllkkcajaaGreatDoor
open Go.RowKit
attribute [local go_sem] bI bH aj ah ag aS ax aQ ak says_again BE.den IE.den SE.den LE.den AE.den CE.den PE.den VE.den KV.val dO.den dO.cnt jO fD jX allL Ctx.push Ctx.heap Ctx.cut Ctx.bare Ctx.mark Inc.blank List.getD_cons_zero List.getD_cons_succ List.cons_append List.nil_append List.append_nil List.map_cons List.map_nil List.replicate_zero List.replicate_succ az dm bY dh cO dK dJ bC bz bD bW bV aH aX aI aG au aP aO dH af and_assoc
def sD:Fm:=(.C 44 [.P 0] (.p (.K 4 5 6 7 1)) ⟨4,0,1,0,0,0⟩
 (.call (.not (.eqI (.x 4) (.c 2))) false 69 [.P 0,.W [91]] (.p (.B 0)) ⟨0,1,0,0,0,0⟩
 (.ite (.and (.not (.eqI (.x 4) (.c 2))) (.not (.x 0)))
 (.V 45 [.P 0,(.I (.c 5))]
 (.C 112 [.P 0] (.p (.P 1)) ⟨0,0,0,0,0,1⟩
 (.mk [(.pt 1)] 71 1
 (.C 128 [(.one (.i .u8 (.c 32))),.K 0 1 2 3 0,.L 0] (.p (.P 2)) ⟨0,0,0,0,0,1⟩
 (.C 108 [.P 0,.W [40]] (.p (.K 8 9 10 11 2)) ⟨4,0,1,0,0,0⟩
 (.Z 1
 (.Z 1
 (.Z 1
 (.O (.pt 1 0) 1 [.U 12] ⟨1,0,0,0,0,0⟩
 (.ite (.eqI (.x 12) (.c 20))
 (.O (.pt 2 6) 1 [(.sl (.x 1))] ⟨0,0,0,0,1,0⟩
 (.Z 2
 (.Z 2
 (.callK (.c true) [((.c true),(.pt 2 6),1)] 22 [.P 0] (.p (.P 3)) ⟨0,0,0,0,0,1⟩
 (.mk [(.pt 3)] 71 1
 (.app (.x 1) (.x 2) 1 8 71
 (.Z 2
 (.Z 2
 (.store (.pt 2 6) [(.sl (.x 3))]
 (.V 110 [.P 0,.W [41]]
 (.ret (.p (.P 2)))))))))))))
 (.V 110 [.P 0,.W [41]]
 (.ret (.p (.P 2))))))))))))))
 (.C 112 [.P 0] (.p (.P 1)) ⟨0,0,0,0,0,1⟩
 (.mk [(.pt 1)] 71 1
 (.C 128 [(.one (.i .u8 (.c 32))),.K 0 1 2 3 0,.L 0] (.p (.P 2)) ⟨0,0,0,0,0,1⟩
 (.C 108 [.P 0,.W [40]] (.p (.K 8 9 10 11 2)) ⟨4,0,1,0,0,0⟩
 (.Z 1
 (.Z 1
 (.Z 1
 (.O (.pt 1 0) 1 [.U 12] ⟨1,0,0,0,0,0⟩
 (.ite (.eqI (.x 12) (.c 20))
 (.O (.pt 2 6) 1 [(.sl (.x 1))] ⟨0,0,0,0,1,0⟩
 (.Z 2
 (.Z 2
 (.callK (.c true) [((.c true),(.pt 2 6),1)] 22 [.P 0] (.p (.P 3)) ⟨0,0,0,0,0,1⟩
 (.mk [(.pt 3)] 71 1
 (.app (.x 1) (.x 2) 1 8 71
 (.Z 2
 (.Z 2
 (.store (.pt 2 6) [(.sl (.x 3))]
 (.V 110 [.P 0,.W [41]]
 (.ret (.p (.P 2)))))))))))))
 (.V 110 [.P 0,.W [41]]
 (.ret (.p (.P 2))))))))))))))))
theorem Tt:bG ⟨true,[]⟩ Tryz.prog (fun l=>([]:List bZ).getD l ⟨[],[],[]⟩) Tryz.f160=sD:=by kernel_rfl
theorem XQ:aF Tryz.prog .zero Tryz.f160.params.toList=some ([.P 0,.K 0 1 2 3 0],⟨4,0,1,0,0,1⟩):=by kernel_rfl
def JM:Fm:=(.C 44 [.P 0] (.p (.K 0 1 2 3 0)) ⟨4,0,1,0,0,0⟩
 (.C 46 [.P 0] (.p (.B 0)) ⟨0,1,0,0,0,0⟩
 (.ite (.x 0)
 (.C 128 [(.one (.i .u8 (.c 25))),.K 0 1 2 3 0,(.one (.sl .nil))] (.p (.P 1)) ⟨0,0,0,0,0,1⟩
 (.ret (.p (.P 1))))
 (.ite (.eqI (.x 0) (.c 3))
 (.C 82 [.P 0] (.p (.K 4 5 6 7 1)) ⟨4,0,1,0,0,0⟩
 (.C 83 [(.one (.i .u8 (.c 21))),.K 4 5 6 7 1,.J 3,(.one (.sl .nil))] (.p (.P 1)) ⟨0,0,0,0,0,1⟩
 (.ret (.p (.P 1)))))
 (.ite (.eqI (.x 0) (.c 4))
 (.C 82 [.P 0] (.p (.K 4 5 6 7 1)) ⟨4,0,1,0,0,0⟩
 (.C 83 [(.one (.i .u8 (.c 22))),.K 4 5 6 7 1,.J 3,(.one (.sl .nil))] (.p (.P 1)) ⟨0,0,0,0,0,1⟩
 (.ret (.p (.P 1)))))
 (.ite (.eqI (.x 0) (.c 5))
 (.C 82 [.P 0] (.p (.K 4 5 6 7 1)) ⟨4,0,1,0,0,0⟩
 (.C 106 [(.one (.i .u8 (.c 23))),.K 4 5 6 7 1,.S 0,(.one (.sl .nil))] (.p (.P 1)) ⟨0,0,0,0,0,1⟩
 (.ret (.p (.P 1)))))
 (.C 111 [.P 0,.W [116,114,117,101]] (.p (.B 1)) ⟨0,1,0,0,0,0⟩
 (.ite (.x 1)
 (.C 83 [(.one (.i .u8 (.c 24))),.K 0 1 2 3 0,(.I (.c 1)),(.one (.sl .nil))] (.p (.P 1)) ⟨0,0,0,0,0,1⟩
 (.ret (.p (.P 1))))
 (.C 111 [.P 0,.W [102,97,108,115,101]] (.p (.B 2)) ⟨0,1,0,0,0,0⟩
 (.ite (.x 2)
 (.C 83 [(.one (.i .u8 (.c 24))),.K 0 1 2 3 0,(.I (.c 0)),(.one (.sl .nil))] (.p (.P 1)) ⟨0,0,0,0,0,1⟩
 (.ret (.p (.P 1))))
 (.C 111 [.P 0,.W [110,105,108]] (.p (.B 3)) ⟨0,1,0,0,0,0⟩
 (.ite (.x 3)
 (.C 128 [(.one (.i .u8 (.c 25))),.K 0 1 2 3 0,(.one (.sl .nil))] (.p (.P 1)) ⟨0,0,0,0,0,1⟩
 (.ret (.p (.P 1))))
 (.ite (.eqI (.x 0) (.c 1))
 (.C 82 [.P 0] (.p (.K 4 5 6 7 1)) ⟨4,0,1,0,0,0⟩
 (.C 69 [.P 0,.W [40]] (.p (.B 4)) ⟨0,1,0,0,0,0⟩
 (.ite (.x 4)
 (.C 159 [.P 0,.K 0 1 2 3 0] (.p (.P 1)) ⟨0,0,0,0,0,1⟩
 (.ret (.p (.P 1))))
 (.C 106 [(.one (.i .u8 (.c 26))),.K 0 1 2 3 0,.S 0,(.one (.sl .nil))] (.p (.P 1)) ⟨0,0,0,0,0,1⟩
 (.ret (.p (.P 1)))))))
 (.C 69 [.P 0,.W [40]] (.p (.B 4)) ⟨0,1,0,0,0,0⟩
 (.ite (.x 4)
 (.C 108 [.P 0,.W [40]] (.p (.K 4 5 6 7 1)) ⟨4,0,1,0,0,0⟩
 (.C 22 [.P 0] (.p (.P 1)) ⟨0,0,0,0,0,1⟩
 (.V 110 [.P 0,.W [41]]
 (.ret (.p (.P 1))))))
 (.C 111 [.P 0,.W [109,97,107,101]] (.p (.B 5)) ⟨0,1,0,0,0,0⟩
 (.ite (.x 5)
 (.C 160 [.P 0,.K 0 1 2 3 0] (.p (.P 1)) ⟨0,0,0,0,0,1⟩
 (.ret (.p (.P 1))))
 (.V 45 [.P 0,(.I (.c 5))]
 (.C 128 [(.one (.i .u8 (.c 25))),.K 0 1 2 3 0,(.one (.sl .nil))] (.p (.P 1)) ⟨0,0,0,0,0,1⟩
 (.ret (.p (.P 1))))))))))))))))))))))
theorem Ti:bG ⟨true,[]⟩ Tryz.prog (fun l=>([]:List bZ).getD l ⟨[],[],[]⟩) Tryz.f145=JM:=by kernel_rfl
theorem XL:aF Tryz.prog .zero Tryz.f145.params.toList=some ([.P 0],⟨0,0,0,0,0,1⟩):=by kernel_rfl
def Zu (L:List Tok) (p:PS):PS:=if !((tk L p).k==2)&&!dn L [91] p then eF L 5 p else p
theorem ab2 {L:List Tok} (p:PS):gK L p (Zu L p) 0:=by
 unfold Zu;split
 · exact fE 5 p
 · exact gK.refl p
def Ip (L:List Tok) (n:Nat) (t0:Tok) (p:PS):Option (Tr×PS):=
 (fK L n (Zu L p)).bind fun r=>
  if r.1.k=20 then (eQ L n 1 (dX L [40] r.2)).map fun y=>(nd 32 t0 0 [] [r.1,y.1],dD L [41] y.2)
  else some (nd 32 t0 0 [] [r.1],dD L [41] (dX L [40] r.2))
def Nl (n:Nat):Prop:=∀ args h φ w,FW Ip n args h φ→Holds h w→Calls Tryz.prog 160 args.toArray w fun e w'=>∃ v k,e=.returned v∧φ v k∧Holds k w'∧Fr w.heap.size h k w w'
def VJ {n:Nat} (H:Nl n):Ct Tryz.prog:=⟨160,FW Ip n,H⟩
def oN (n:Nat):Ct Tryz.prog:=⟨112,oI fK n,QZ n⟩
theorem KW {h:Hp} {v:Nat} {k l c n:Int} {x:List UInt8} {s:bT} (hx:h v=some ⟨oV k l c n x s,IT⟩):hread h (some (v,0)) 1=some [.int .u8 k]:=by rw[bu hx];rfl
theorem BN {h:Hp} {v:Nat} {k l c n:Int} {x:List UInt8} {s:bT} (hx:h v=some ⟨oV k l c n x s,IT⟩):hread h (some (v,6)) 1=some [s.val]:=by rw[bu hx];rfl
theorem It.head {h:Hp} {v:Nat} {t:Tr} (hi:It h v t):∃ l c n x s,h v=some ⟨oV t.k l c n x s,IT⟩:=by
 cases t with
 | nd k l c n x ks=>obtain⟨s,vs,h1,_⟩:=hi;exact⟨l,c,n,x,s,h1⟩
set_option maxHeartbeats 4000000 in
theorem aag {n:Nat} (HE:uP n):Nl n:=by
 rintro args h φ w ⟨m,hm,b,sl,L,p,t,q,t0,rfl,W,hr,hd,hφ⟩ hH
 refine bJ Tryz.func160 Tt XQ [ik,lK,iQ,gZ,jE,jW,oN n,lm HE] φ (di) (bF) ⟨[t0.k,t0.l,t0.c,t0.n],[],[t0.x],[],[],[some (b,0)],h,dM⟩ ⟨rfl,rfl,rfl,rfl,rfl,rfl⟩ af ?_ w hH rfl
 generalize hE:(⟨az _,_,_,_⟩:Env)=E
 have s_ctNow:E.spec 44=(ik).spec:=by rw[← hE];rfl
 have s_ctIs:E.spec 69=(lK).spec:=by rw[← hE];rfl
 have s_ctFail:E.spec 45=(iQ).spec:=by rw[← hE];rfl
 have s_ctMake1:E.spec 128=(gZ).spec:=by rw[← hE];rfl
 have s_ctOpen:E.spec 108=(jE).spec:=by rw[← hE];rfl
 have s_ctShut:E.spec 110=(jW).spec:=by rw[← hE];rfl
 have s_ctK:E.spec 112=(oN n).spec:=by rw[← hE];rfl
 have s_ctE:E.spec 22=(lm HE).spec:=by rw[← hE];rfl
 have ep:E.post=φ:=by rw[← hE]
 clear hE
 unfold sD
 have A:=At.start W
 have hd0:=W.d0
 unfold Ip at hr
 simp only[Option.bind_eq_some_iff] at hr
 obtain⟨⟨x,r⟩,h1,h2⟩:=hr
 have Ah:=ab2 (L:=L) p
 have Ak:=dQ W.lw m _ h1
 have hhd:=Ah.d
 have hkd:=Ak.d
 have Ao:=bf W.lw [40] r
 have hod:=Ao.d
 have rest:∀ (hh:Hp) (k1 l1 c1 n1:Int) (x1:List UInt8) (y:Bool),At h b sl L (Zu L p) hh CJ→Then E sD.k.k.e ⟨[t0.k,t0.l,t0.c,t0.n,k1,l1,c1,n1],[y],[t0.x,x1],[],[],[some (b,0)],hh,dM⟩:=by
  intro hh k1 l1 c1 n1 x1 y A1
  unfold sD
  simp only[Fm.k,Fm.e]
  rw[ae,ag,if_pos (by rfl),s_ctK]
  refine⟨m,hm,b,sl,L,_,x,r,rfl,A1.pw,h1,by omega,fun v k g A2 hI=>?_⟩
  simp[go_sem,cu];refine⟨some (v,0),rfl,?_⟩
  have A3:=A1.then A2
  have hI3:=It.le (A1.disj A2) _ _ hI
  rw[ae,aT]
  intro kb hkb
  simp[go_sem]
  rw[ae,ag,if_pos (by rfl),s_ctMake1]
  refine⟨32,t0,⟨some (kb,0),1,1⟩,rfl,fun o ho=>?_⟩
  simp[go_sem,cu];refine⟨some (o,0),rfl,?_⟩
  have O:=A3.outs (vs:=[v]) (ts:=[x]) hkb ⟨hI3,trivial⟩ (by simp) ho 32 t0.l t0.c 0 []
  rw[ae,ag,if_pos (by rfl),s_ctOpen]
  refine⟨b,sl,L,r,[40],rfl,O.at'.pw,?_⟩
  simp[go_sem,dU,iF]
  have O1:=O.open [40] (by omega)
  obtain⟨xl,xc,xn,xx,xs,hx⟩:=(It.le O1.at'.le _ _ hI3).head
  iterate 3 (rw[ae,aj];refine⟨by simp[go_sem],?_⟩)
  rw[ae,ax,if_pos (by rfl)]
  have hxr:=KW hx
  simp[go_sem]
  refine⟨x.k,hxr,?_⟩
  by_cases c20:x.k=20
  · rw[if_pos c20] at h2
    simp only[Option.map_eq_some_iff] at h2
    obtain⟨⟨y,u⟩,h3,h4⟩:=h2
    cases h4
    rw[ae,ah,if_pos (by simp[go_sem,c20])]
    have hbl:=O1.blk
    have hsr:=BN hbl
    rw[ae,ax,if_pos (by rfl)]
    simp[go_sem]
    refine⟨⟨some (kb,0),1,1⟩,hsr,?_⟩
    iterate 2 (rw[ae,aj];refine⟨by simp[go_sem],?_⟩)
    rw[ae,aS,if_pos (by rfl),s_ctE]
    refine⟨m,hm,b,sl,L,_,y,u,rfl,O1.at'.pw,h3,by omega,fun v2 k3 g3 A5 hI2=>?_⟩
    have O3:=O1.then A5
    have Ad:=(lh W.lw m).1 _ _ _ _ h3
    have hrd1:=Ad.d
    have hbl3:=O3.blk
    have hsr3:=BN hbl3
    simp[go_sem,cu]
    refine⟨hsr3.trans hsr.symm,some (v2,0),rfl,?_⟩
    rw[ae,aT]
    intro kb2 hkb2
    simp[go_sem]
    rw[ae]
    refine Ig O3 (It.le (O1.at'.disj A5) _ _ hI2) (by simp) hkb2 rfl rfl rfl fun s' k4 hk4 O4=>?_
    rw[aj]
    refine⟨by simp[go_sem],?_⟩
    rw[ae,aj]
    refine⟨by simp[go_sem],?_⟩
    rw[ae,aQ]
    refine⟨_,by simp[go_sem,jC hk4,oV];rfl,?_⟩
    rw[ae,ag,if_pos (by rfl),s_ctShut]
    refine⟨b,sl,L,u,[41],rfl,O4.at'.pw,?_⟩
    have O5:=O4.shut [41] (by omega)
    simp[go_sem]
    simp only[ae];simp[go_sem,ep]
    obtain⟨g',A',I'⟩:=O5.done
    exact hφ o _ g' A' I'
  · rw[if_neg c20] at h2
    cases h2
    rw[ae,ah,if_neg (by simp[go_sem,c20])]
    rw[ae,ag,if_pos (by rfl),s_ctShut]
    refine⟨b,sl,L,_,[41],rfl,O1.at'.pw,?_⟩
    have O5:=O1.shut [41] (by omega)
    rw[aP] at O5
    simp[go_sem]
    simp only[ae];simp[go_sem,ep]
    obtain⟨g',A',I'⟩:=O5.done
    exact hφ o _ g' A' I'
 unfold sD at rest
 simp only[Fm.k,Fm.e] at rest
 rw[ag,if_pos (by rfl),s_ctNow]
 refine⟨b,sl,L,p,rfl,W,?_⟩
 simp[go_sem,dU,iF]
 by_cases c2:(tk L p).k=2
 · have hp:Zu L p=p:=by unfold Zu;rw[c2];rfl
   rw[ae,ag,if_neg (by simp[go_sem,c2])]
   simp[go_sem]
   rw[ae,ah,if_neg (by simp[go_sem,c2])]
   exact rest h _ _ _ _ _ _ (hp.symm▸A)
 rw[ae,ag,if_pos (by simp[go_sem,c2]),s_ctIs]
 refine⟨b,sl,L,p,[91],rfl,W,?_⟩
 simp[go_sem]
 cases c3:dn L [91] p with
 | true=>
   have hp:Zu L p=p:=by unfold Zu;rw[c3];simp
   rw[ae,ah,if_neg (by simp[go_sem])]
   exact rest h _ _ _ _ _ _ (hp.symm▸A)
 | false=>
   have hp:Zu L p=eF L 5 p:=by unfold Zu;rw[c3];simp[c2]
   rw[ae,ah,if_pos (by simp[go_sem,c2])]
   rw[ae,ag,if_pos (by rfl),s_ctFail]
   refine⟨b,sl,L,p,5,rfl,W,?_⟩
   simp[go_sem]
   have A1:=A.fail 5
   rw[← hp] at A1
   rw[← hp]
   exact rest _ _ _ _ _ _ _ A1
set_option maxHeartbeats 8000000 in
theorem Zy {n:Nat} (HE:uP n) (HC:Nk n) (HM:Nl n):Gn (n+1):=by
 rintro args h φ w ⟨m,hm,b,sl,L,p,t,q,rfl,W,hr,hd,hφ⟩ hH
 cases m with
 | zero=>cases hr
 | succ m=>
 refine bJ Tryz.func145 Ti XL [ik,iL,gZ,kE,lT,iM,rE,lK,jE,jW,iQ,VF HC,VJ HM,lm HE] φ (di) (bF) ⟨[],[],[],[],[],[some (b,0)],h,dM⟩ ⟨rfl,rfl,rfl,rfl,rfl,rfl⟩ af ?_ w hH rfl
 generalize hE:(⟨az _,_,_,_⟩:Env)=E
 have s_ctNow:E.spec 44=(ik).spec:=by rw[← hE];rfl
 have s_ctBad:E.spec 46=(iL).spec:=by rw[← hE];rfl
 have s_ctMake1:E.spec 128=(gZ).spec:=by rw[← hE];rfl
 have s_ctPPass:E.spec 82=(kE).spec:=by rw[← hE];rfl
 have s_ctNumbered:E.spec 83=(lT).spec:=by rw[← hE];rfl
 have s_ctNamed:E.spec 106=(iM).spec:=by rw[← hE];rfl
 have s_ctTry:E.spec 111=(rE).spec:=by rw[← hE];rfl
 have s_ctIs:E.spec 69=(lK).spec:=by rw[← hE];rfl
 have s_ctOpen:E.spec 108=(jE).spec:=by rw[← hE];rfl
 have s_ctShut:E.spec 110=(jW).spec:=by rw[← hE];rfl
 have s_ctFail:E.spec 45=(iQ).spec:=by rw[← hE];rfl
 have s_ctC:E.spec 159=(VF HC).spec:=by rw[← hE];rfl
 have s_ctM:E.spec 160=(VJ HM).spec:=by rw[← hE];rfl
 have s_ctE:E.spec 22=(lm HE).spec:=by rw[← hE];rfl
 have ep:E.post=φ:=by rw[← hE]
 clear hE
 unfold JM
 have A:=At.start W
 have hd0:=W.d0
 have fin:∀ {k n':Int} {q':PS} {kk:Hp} (A':At h b sl L q' kk CJ) (x:List UInt8),some (nd k (tk L p) n' x [],q')=some (t,q)→∀ v,kk v=none→φ (cu v) (kk.set v ⟨oV k (tk L p).l (tk L p).c n' x ⟨none,0,0⟩,IT⟩):=by
  intro k n' q' kk A' x he v hv
  cases he
  exact hφ v _ _ (A'.new hv _) (A'.leaf hv ..)
 rw[fO] at hr
 rw[ag,if_pos (by rfl),s_ctNow]
 refine⟨b,sl,L,p,rfl,W,?_⟩
 simp[go_sem,dU,iF]
 rw[ae,ag,if_pos (by rfl),s_ctBad]
 refine⟨b,sl,L,p,rfl,W,?_⟩
 simp[go_sem]
 cases c0:p.bad with
 | true=>
   rw[if_pos c0] at hr
   rw[ae,ah,if_pos (by simp[go_sem])]
   rw[ae,ag,if_pos (by rfl),s_ctMake1]
   refine⟨25,tk L p,⟨none,0,0⟩,rfl,fun v hv=>?_⟩
   simp[go_sem,cu];refine⟨some (v,0),rfl,?_⟩
   simp only[ae];simp[go_sem,ep]
   exact fin A [] hr v hv
 | false=>
 rw[c0,if_neg (by decide)] at hr
 rw[ae,ah,if_neg (by simp[go_sem])]
 by_cases c1:(tk L p).k=3
 · rw[if_pos c1] at hr
   rw[ae,ah,if_pos (by simp[go_sem,c1])]
   rw[ae,ag,if_pos (by rfl),s_ctPPass]
   refine⟨b,sl,L,p,rfl,W,?_⟩
   simp[go_sem,dU,iF]
   rw[ae,ag,if_pos (by rfl),s_ctNumbered]
   refine⟨21,tk L p,(tk L p).n,⟨none,0,0⟩,rfl,fun v hv=>?_⟩
   simp[go_sem,cu];refine⟨some (v,0),rfl,?_⟩
   simp only[ae];simp[go_sem,ep]
   exact fin A.pass [] hr v hv
 rw[if_neg c1] at hr
 rw[ae,ah,if_neg (by simp[go_sem,c1])]
 by_cases c2:(tk L p).k=4
 · rw[if_pos c2] at hr
   rw[ae,ah,if_pos (by simp[go_sem,c2])]
   rw[ae,ag,if_pos (by rfl),s_ctPPass]
   refine⟨b,sl,L,p,rfl,W,?_⟩
   simp[go_sem,dU,iF]
   rw[ae,ag,if_pos (by rfl),s_ctNumbered]
   refine⟨22,tk L p,(tk L p).n,⟨none,0,0⟩,rfl,fun v hv=>?_⟩
   simp[go_sem,cu];refine⟨some (v,0),rfl,?_⟩
   simp only[ae];simp[go_sem,ep]
   exact fin A.pass [] hr v hv
 rw[if_neg c2] at hr
 rw[ae,ah,if_neg (by simp[go_sem,c2])]
 by_cases c3:(tk L p).k=5
 · rw[if_pos c3] at hr
   rw[ae,ah,if_pos (by simp[go_sem,c3])]
   rw[ae,ag,if_pos (by rfl),s_ctPPass]
   refine⟨b,sl,L,p,rfl,W,?_⟩
   simp[go_sem,dU,iF]
   rw[ae,ag,if_pos (by rfl),s_ctNamed]
   refine⟨23,tk L p,(tk L p).x,⟨none,0,0⟩,rfl,fun v hv=>?_⟩
   simp[go_sem,cu];refine⟨some (v,0),rfl,?_⟩
   simp only[ae];simp[go_sem,ep]
   exact fin A.pass _ hr v hv
 rw[if_neg c3] at hr
 rw[ae,ah,if_neg (by simp[go_sem,c3])]
 rw[ae,ag,if_pos (by rfl),s_ctTry]
 refine⟨b,sl,L,p,jv,rfl,W,?_⟩
 cases c4:dn L jv p with
 | true=>
   rw[if_pos c4] at hr
   rw[if_pos rfl]
   simp[go_sem]
   rw[ae,ah,if_pos (by simp[go_sem])]
   rw[ae,ag,if_pos (by rfl),s_ctNumbered]
   refine⟨24,tk L p,1,⟨none,0,0⟩,rfl,fun v hv=>?_⟩
   simp[go_sem,cu];refine⟨some (v,0),rfl,?_⟩
   simp only[ae];simp[go_sem,ep]
   exact fin A.pass [] hr v hv
 | false=>
 rw[c4,if_neg (by decide)] at hr
 rw[if_neg (by decide)]
 simp[go_sem]
 rw[ae,ah,if_neg (by simp[go_sem])]
 rw[ae,ag,if_pos (by rfl),s_ctTry]
 refine⟨b,sl,L,p,gB,rfl,W,?_⟩
 cases c5:dn L gB p with
 | true=>
   rw[if_pos c5] at hr
   rw[if_pos rfl]
   simp[go_sem]
   rw[ae,ah,if_pos (by simp[go_sem])]
   rw[ae,ag,if_pos (by rfl),s_ctNumbered]
   refine⟨24,tk L p,0,⟨none,0,0⟩,rfl,fun v hv=>?_⟩
   simp[go_sem,cu];refine⟨some (v,0),rfl,?_⟩
   simp only[ae];simp[go_sem,ep]
   exact fin A.pass [] hr v hv
 | false=>
 rw[c5,if_neg (by decide)] at hr
 rw[if_neg (by decide)]
 simp[go_sem]
 rw[ae,ah,if_neg (by simp[go_sem])]
 rw[ae,ag,if_pos (by rfl),s_ctTry]
 refine⟨b,sl,L,p,oz,rfl,W,?_⟩
 cases c6:dn L oz p with
 | true=>
   rw[if_pos c6] at hr
   rw[if_pos rfl]
   simp[go_sem]
   rw[ae,ah,if_pos (by simp[go_sem])]
   rw[ae,ag,if_pos (by rfl),s_ctMake1]
   refine⟨25,tk L p,⟨none,0,0⟩,rfl,fun v hv=>?_⟩
   simp[go_sem,cu];refine⟨some (v,0),rfl,?_⟩
   simp only[ae];simp[go_sem,ep]
   exact fin A.pass [] hr v hv
 | false=>
 rw[c6,if_neg (by decide)] at hr
 rw[if_neg (by decide)]
 simp[go_sem]
 rw[ae,ah,if_neg (by simp[go_sem])]
 by_cases c7:(tk L p).k=1
 · rw[if_pos c7] at hr
   rw[ae,ah,if_pos (by simp[go_sem,c7])]
   rw[ae,ag,if_pos (by rfl),s_ctPPass]
   refine⟨b,sl,L,p,rfl,W,?_⟩
   simp[go_sem,dU,iF]
   have A1:=A.pass
   have hpd:=(aJ W.lw p).d
   rw[ae,ag,if_pos (by rfl),s_ctIs]
   refine⟨b,sl,L,_,[40],rfl,A1.pw,?_⟩
   simp[go_sem]
   cases c8:dn L [40] (bn L p) with
   | true=>
     rw[if_pos c8] at hr
     rw[ae,ah,if_pos (by simp[go_sem])]
     rw[ae,ag,if_pos (by rfl),s_ctC]
     refine⟨m,by omega,b,sl,L,_,t,q,tk L p,rfl,A1.pw,hr,by omega,fun v k g A2 hI=>?_⟩
     simp[go_sem,cu];refine⟨some (v,0),rfl,?_⟩
     simp only[ae];simp[go_sem,ep]
     exact hφ v _ _ (A1.then A2) (It.le (A1.disj A2) _ _ hI)
   | false=>
     rw[c8,if_neg (by decide)] at hr
     rw[ae,ah,if_neg (by simp[go_sem])]
     rw[ae,ag,if_pos (by rfl),s_ctNamed]
     refine⟨26,tk L p,(tk L p).x,⟨none,0,0⟩,rfl,fun v hv=>?_⟩
     simp[go_sem,cu];refine⟨some (v,0),rfl,?_⟩
     simp only[ae];simp[go_sem,ep]
     exact fin A1 _ hr v hv
 rw[if_neg c7] at hr
 rw[ae,ah,if_neg (by simp[go_sem,c7])]
 rw[ae,ag,if_pos (by rfl),s_ctIs]
 refine⟨b,sl,L,p,[40],rfl,W,?_⟩
 simp[go_sem]
 cases c9:dn L [40] p with
 | true=>
   rw[if_pos c9] at hr
   simp only[Option.map_eq_some_iff] at hr
   obtain⟨⟨x,r⟩,h1,h2⟩:=hr
   cases h2
   rw[ae,ah,if_pos (by simp[go_sem])]
   rw[ae,ag,if_pos (by rfl),s_ctOpen]
   refine⟨b,sl,L,p,[40],rfl,W,?_⟩
   simp[go_sem,dU,iF]
   have hod:=(bf W.lw [40] p).d
   have A1:=A.open [40] (by omega)
   rw[ae,ag,if_pos (by rfl),s_ctE]
   refine⟨m,by omega,b,sl,L,_,x,r,rfl,A1.pw,h1,by omega,fun v k g A2 hI=>?_⟩
   simp[go_sem,cu];refine⟨some (v,0),rfl,?_⟩
   have A3:=A1.then A2
   have hkd:=((lh W.lw m).1 _ _ _ _ h1).d
   rw[ae,ag,if_pos (by rfl),s_ctShut]
   refine⟨b,sl,L,r,[41],rfl,A3.pw,?_⟩
   simp[go_sem]
   simp only[ae];simp[go_sem,ep]
   exact hφ v _ _ (A3.shut [41] (by omega)) (It.le (A1.disj A2) _ _ hI)
 | false=>
 rw[c9,if_neg (by decide)] at hr
 rw[ae,ah,if_neg (by simp[go_sem])]
 rw[ae,ag,if_pos (by rfl),s_ctTry]
 refine⟨b,sl,L,p,eP,rfl,W,?_⟩
 cases c10:dn L eP p with
 | true=>
   rw[if_pos c10] at hr
   rw[if_pos rfl]
   simp[go_sem]
   rw[ae,ah,if_pos (by simp[go_sem])]
   have A1:=A.pass
   have hpd:=(aJ W.lw p).d
   rw[ae,ag,if_pos (by rfl),s_ctM]
   refine⟨m,by omega,b,sl,L,_,t,q,tk L p,rfl,A1.pw,hr,by omega,fun v k g A2 hI=>?_⟩
   simp[go_sem,cu];refine⟨some (v,0),rfl,?_⟩
   simp only[ae];simp[go_sem,ep]
   exact hφ v _ _ (A1.then A2) (It.le (A1.disj A2) _ _ hI)
 | false=>
   rw[c10,if_neg (by decide)] at hr
   rw[if_neg (by decide)]
   simp[go_sem]
   rw[ae,ah,if_neg (by simp[go_sem])]
   rw[ae,ag,if_pos (by rfl),s_ctFail]
   refine⟨b,sl,L,p,5,rfl,W,?_⟩
   simp[go_sem]
   rw[ae,ag,if_pos (by rfl),s_ctMake1]
   refine⟨25,tk L p,⟨none,0,0⟩,rfl,fun v hv=>?_⟩
   simp[go_sem,cu];refine⟨some (v,0),rfl,?_⟩
   simp only[ae];simp[go_sem,ep]
   exact fin (A.fail 5) [] hr v hv
theorem abu:∀ n,IV n∧Vg n∧Gn n
 | 0=>by
   refine⟨?_,?_,?_⟩
   · rintro args h φ w ⟨m,hm,b,sl,L,p,t,q,lvl,rfl,_,W,hr,_⟩ hH
     obtain rfl:m=0:=by omega
     cases hr
   · rintro args h φ w ⟨m,hm,b,sl,L,p,t,q,rfl,W,hr,_⟩ hH
     obtain rfl:m=0:=by omega
     cases hr
   · rintro args h φ w ⟨m,hm,b,sl,L,p,t,q,rfl,W,hr,_⟩ hH
     obtain rfl:m=0:=by omega
     cases hr
 | n+1=>by
   obtain⟨HB,HU,HA⟩:=abu n
   have HE:=QB HB
   exact⟨ab4 HB HU,adP HU (aas HE HA),Zy HE (ZA HE) (aag HE)⟩
theorem pX (n:Nat):uP n:=QB (abu n).1
end Go.Proofs.YtllbpdllkkcajaaGreatDoor
namespace Go.Proofs.YtllbpdllkkcajaaGreatDoor
open Go.RowKit
attribute [local go_sem] bI bH aj ah ag aS ax aQ ak says_again BE.den IE.den SE.den LE.den AE.den CE.den PE.den VE.den KV.val dO.den dO.cnt jO fD jX allL Ctx.push Ctx.heap Ctx.cut Ctx.bare Ctx.mark Inc.blank List.getD_cons_zero List.getD_cons_succ List.cons_append List.nil_append List.append_nil List.map_cons List.map_nil List.replicate_zero List.replicate_succ az dm bY dh cO dK dJ bC bz bD bW bV aH aX aI aG au aP aO dH af and_assoc
def EN:Fm:=(.C 107 [.P 0,(.one (.i .u8 (.c 1)))] (.p (.K 1 2 3 4 0)) ⟨4,0,1,0,0,0⟩
 (.C 105 [.P 0,.W [58]] (.p (.K 5 6 7 8 1)) ⟨4,0,1,0,0,0⟩
 (.C 112 [.P 0] (.p (.P 1)) ⟨0,0,0,0,0,1⟩
 (.mk [(.pt 1)] 71 1
 (.C 106 [(.one (.U 0)),.K 1 2 3 4 0,.S 0,.L 0] (.p (.P 2)) ⟨0,0,0,0,0,1⟩
 (.ret (.p (.P 2))))))))
theorem N7:bG ⟨true,[]⟩ Tryz.prog (fun l=>([]:List bZ).getD l ⟨[],[],[]⟩) Tryz.f109=EN:=by kernel_rfl
theorem Uy:aF Tryz.prog .zero Tryz.f109.params.toList=some ([.P 0,(.one (.U 0))],⟨1,0,0,0,0,1⟩):=by kernel_rfl
def BA:Fm:=(.C 105 [.P 0,.W [114,101,99]] (.p (.K 0 1 2 3 0)) ⟨4,0,1,0,0,0⟩
 (.C 107 [.P 0,(.one (.i .u8 (.c 2)))] (.p (.K 4 5 6 7 1)) ⟨4,0,1,0,0,0⟩
 (.C 106 [(.one (.i .u8 (.c 2))),.K 0 1 2 3 0,.S 1,(.one (.sl .nil))] (.p (.P 1)) ⟨0,0,0,0,0,1⟩
 (.C 108 [.P 0,.W [123]] (.p (.K 8 9 10 11 2)) ⟨4,0,1,0,0,0⟩
 (.loop 0 ⟨[],[],[],[],[],[]⟩
 (.C 46 [.P 0] (.p (.B 0)) ⟨0,1,0,0,0,0⟩
 (.call (.not (.x 0)) false 69 [.P 0,.W [125]] (.p (.B 1)) ⟨0,1,0,0,0,0⟩
 (.ite (.and (.not (.x 0)) (.not (.x 1)))
 (.O (.pt 1 6) 1 [(.sl (.x 0))] ⟨0,0,0,0,1,0⟩
 (.Z 1
 (.Z 1
 (.callK (.c true) [((.c true),(.pt 1 6),1)] 109 [.P 0,(.one (.i .u8 (.c 3)))] (.p (.P 2)) ⟨0,0,0,0,0,1⟩
 (.mk [(.pt 2)] 71 1
 (.app (.x 0) (.x 1) 1 8 71
 (.Z 1
 (.Z 1
 (.store (.pt 1 6) [(.sl (.x 2))]
 (.C 105 [.P 0,.W [59]] (.p (.K 12 13 14 15 3)) ⟨4,0,1,0,0,0⟩
 (.again 0 ⟨12,0,3,0,0,2⟩ ⟨12,0,3,0,0,2⟩ ⟨[],[],[],[],[],[]⟩)))))))))))
 (.V 110 [.P 0,.W [125]]
 (.ret (.p (.P 1))))))))))))
theorem KL:bG ⟨true,[]⟩ Tryz.prog (fun l=>([⟨[],[14,15,16,17,18,19,20,21,22,23,24,25,26,27,28,29,30,31,32,33,34],[11]⟩]:List bZ).getD l ⟨[],[],[]⟩) Tryz.f70=BA:=by kernel_rfl
theorem Pg:aF Tryz.prog .zero Tryz.f70.params.toList=some ([.P 0],⟨0,0,0,0,0,1⟩):=by kernel_rfl
def EM:Fm:=(.C 22 [.P 0] (.p (.P 1)) ⟨0,0,0,0,0,1⟩
 (.Z 1
 (.Z 1
 (.Z 1
 (.O (.pt 1 0) 1 [.U 4] ⟨1,0,0,0,0,0⟩
 (.mk [(.pt 1)] 71 1
 (.C 128 [(.one (.i .u8 (.c 13))),.K 0 1 2 3 0,.L 0] (.p (.P 2)) ⟨0,0,0,0,0,1⟩
 (.C 46 [.P 0] (.p (.B 0)) ⟨0,1,0,0,0,0⟩
 (.ite (.x 0)
 (.ret (.p (.P 2)))
 (.C 69 [.P 0,.W [61]] (.p (.B 1)) ⟨0,1,0,0,0,0⟩
 (.ite (.and (.x 1) (.or (.or (.eqI (.x 4) (.c 26)) (.eqI (.x 4) (.c 28))) (.eqI (.x 4) (.c 29))))
 (.C 82 [.P 0] (.p (.K 5 6 7 8 1)) ⟨4,0,1,0,0,0⟩
 (.C 22 [.P 0] (.p (.P 3)) ⟨0,0,0,0,0,1⟩
 (.mk [(.pt 1),(.pt 3)] 71 2
 (.C 128 [(.one (.i .u8 (.c 8))),.K 0 1 2 3 0,.L 1] (.p (.P 4)) ⟨0,0,0,0,0,1⟩
 (.C 105 [.P 0,.W [59]] (.p (.K 9 10 11 12 2)) ⟨4,0,1,0,0,0⟩
 (.ret (.p (.P 4))))))))
 (.C 69 [.P 0,.W [61]] (.p (.B 2)) ⟨0,1,0,0,0,0⟩
 (.ite (.x 2)
 (.ite (.x 2)
 (.V 45 [.P 0,(.I (.c 5))]
 (.C 105 [.P 0,.W [59]] (.p (.K 5 6 7 8 1)) ⟨4,0,1,0,0,0⟩
 (.ret (.p (.P 2)))))
 (.C 105 [.P 0,.W [59]] (.p (.K 5 6 7 8 1)) ⟨4,0,1,0,0,0⟩
 (.ret (.p (.P 2)))))
 (.ite (.not (.eqI (.x 4) (.c 27)))
 (.V 45 [.P 0,(.I (.c 5))]
 (.C 105 [.P 0,.W [59]] (.p (.K 5 6 7 8 1)) ⟨4,0,1,0,0,0⟩
 (.ret (.p (.P 2)))))
 (.C 105 [.P 0,.W [59]] (.p (.K 5 6 7 8 1)) ⟨4,0,1,0,0,0⟩
 (.ret (.p (.P 2))))))))))))))))))
theorem NZ:bG ⟨true,[]⟩ Tryz.prog (fun l=>([]:List bZ).getD l ⟨[],[],[]⟩) Tryz.f154=EM:=by kernel_rfl
theorem Ux:aF Tryz.prog .zero Tryz.f154.params.toList=some ([.P 0,.K 0 1 2 3 0],⟨4,0,1,0,0,1⟩):=by kernel_rfl
def abN (f:List Tok→Nat→Int→PS→Option (Tr×PS)) (n:Nat) (args:List Value) (h:Hp) (φ:Value→Hp→Prop):Prop:=
 ∃ m,m≤n∧∃ b sl L p t q kd,args=[cu b,.int .u8 kd]∧PW h b sl L p∧f L m kd p=some (t,q)∧p.d+m≤1000000000000∧∀ v k g,At h b sl L q k g→It g v t→φ (cu v) k
theorem Y9 (n:Nat):∀ args h φ w,abN iC n args h φ→Holds h w→Calls Tryz.prog 109 args.toArray w fun e w'=>∃ v k,e=.returned v∧φ v k∧Holds k w'∧Fr w.heap.size h k w w':=by
 rintro args h φ w ⟨m,hm,b,sl,L,p,t,q,kd,rfl,W,hr,hd,hφ⟩ hH
 refine bJ Tryz.func109 N7 Uy [mi,jV,iM,oN n] φ (di) (bF) ⟨[kd],[],[],[],[],[some (b,0)],h,dM⟩ ⟨rfl,rfl,rfl,rfl,rfl,rfl⟩ af ?_ w hH rfl
 generalize hE:(⟨az _,_,_,_⟩:Env)=E
 have s_ctPWord:E.spec 107=(mi).spec:=by rw[← hE];rfl
 have s_ctMust:E.spec 105=(jV).spec:=by rw[← hE];rfl
 have s_ctNamed:E.spec 106=(iM).spec:=by rw[← hE];rfl
 have s_ctK:E.spec 112=(oN n).spec:=by rw[← hE];rfl
 have ep:E.post=φ:=by rw[← hE]
 clear hE
 unfold EN
 unfold iC at hr
 simp only[Option.map_eq_some_iff] at hr
 obtain⟨⟨x,r⟩,h1,h2⟩:=hr
 cases h2
 have A:=At.start W
 rw[ag,if_pos (by rfl),s_ctPWord]
 refine⟨b,sl,L,p,1,rfl,W,?_⟩
 simp[go_sem,dU,iF]
 have A1:=A.word 1
 rw[ae,ag,if_pos (by rfl),s_ctMust]
 refine⟨b,sl,L,_,[58],rfl,A1.pw,?_⟩
 simp[go_sem,dU,iF]
 have A2:=A1.must [58]
 have hd2:=((dF W.lw 1 p).trans (aN W.lw [58] _)).d
 rw[aP] at A2
 rw[ae,ag,if_pos (by rfl),s_ctK]
 refine⟨m,hm,b,sl,L,_,x,r,rfl,A2.pw,h1,by omega,fun v k g A3 hI=>?_⟩
 simp[go_sem,cu];refine⟨some (v,0),rfl,?_⟩
 have A4:=A2.then A3
 rw[ae,aT]
 intro kb hkb
 simp[go_sem]
 rw[ae,ag,if_pos (by rfl),s_ctNamed]
 refine⟨kd,tk L p,(tk L p).x,⟨some (kb,0),1,1⟩,rfl,fun v3 hv3=>?_⟩
 simp[go_sem,cu];refine⟨some (v3,0),rfl,?_⟩
 simp only[ae];simp[go_sem,ep]
 obtain⟨A5,I5⟩:=A4.node (vs:=[v]) (ts:=[x]) hkb ⟨It.le (A2.disj A3) _ _ hI,trivial⟩ (by simp) hv3 kd (tk L p).l (tk L p).c 0 (tk L p).x
 exact hφ v3 _ _ A5 I5
def zK (n:Nat):Ct Tryz.prog:=⟨109,abN iC n,Y9 n⟩
def Yx (h:Hp) (b:Nat) (sl:bT) (L:List Tok) (kk l c nn:Int) (x:List UInt8) (rl:List Tr) (r:PS) (d:Int) (n:Nat):Nat→Ctx→Prop:=fun _ C=>
 ∃ i0 i1 i2 i3 i4 i5 i6 i7 i8 i9 i10 i11 s0 s1 s2 o s vs ts p1 k1 g1 m1,C=⟨[i0,i1,i2,i3,i4,i5,i6,i7,i8,i9,i10,i11],[],[s0,s1,s2],[],[],[some (b,0),some (o,0)],k1,dM⟩∧Out h b sl L p1 k1 g1 o kk l c nn x s vs ts∧m1≤n∧
  gq L m1 ts p1=some (rl,r)∧p1.d+m1≤1000000000001∧vs.length+mu L p1≤L.length∧p1.d=d
set_option maxHeartbeats 4000000 in
theorem UN (n:Nat):∀ args h φ w,oI gu n args h φ→Holds h w→Calls Tryz.prog 70 args.toArray w fun e w'=>∃ v k,e=.returned v∧φ v k∧Holds k w'∧Fr w.heap.size h k w w':=by
 rintro args h φ w ⟨m,hm,b,sl,L,p,t,q,rfl,W,hr,hd,hφ⟩ hH
 unfold gu at hr
 simp only[Option.map_eq_some_iff] at hr
 obtain⟨⟨rl,r⟩,h1,h2⟩:=hr
 cases h2
 cases m with
 | zero=>cases h1
 | succ m=>
 refine bJ Tryz.func70 KL Pg [jV,mi,iM,jE,iL,lK,jW,zK n] φ (Yx h b sl L 2 (tk L p).l (tk L p).c 0 (tk L (bM L jJ p)).x rl r (p.d+1) (m+1)) (fun _=>iV b L.length) ⟨[],[],[],[],[],[some (b,0)],h,dM⟩ ⟨rfl,rfl,rfl,rfl,rfl,rfl⟩ af ?_ w hH rfl
 generalize hE:(⟨az _,_,_,_⟩:Env)=E
 have s_ctMust:E.spec 105=(jV).spec:=by rw[← hE];rfl
 have s_ctPWord:E.spec 107=(mi).spec:=by rw[← hE];rfl
 have s_ctNamed:E.spec 106=(iM).spec:=by rw[← hE];rfl
 have s_ctOpen:E.spec 108=(jE).spec:=by rw[← hE];rfl
 have s_ctBad:E.spec 46=(iL).spec:=by rw[← hE];rfl
 have s_ctIs:E.spec 69=(lK).spec:=by rw[← hE];rfl
 have s_ctShut:E.spec 110=(jW).spec:=by rw[← hE];rfl
 have s_ctT:E.spec 109=(zK n).spec:=by rw[← hE];rfl
 have ep:E.post=φ:=by rw[← hE]
 have ei:E.inv=(Yx h b sl L 2 (tk L p).l (tk L p).c 0 (tk L (bM L jJ p)).x rl r (p.d+1) (m+1)):=by rw[← hE]
 have em:E.meas=(fun _=>iV b L.length):=by rw[← hE]
 clear hE
 unfold BA
 have A:=At.start W
 have hd0:=W.d0
 have hlen:=W.len
 rw[ag,if_pos (by rfl),s_ctMust]
 refine⟨b,sl,L,p,jJ,rfl,W,?_⟩
 simp[go_sem,dU,iF]
 have A1:=A.must jJ
 rw[ae,ag,if_pos (by rfl),s_ctPWord]
 refine⟨b,sl,L,_,2,rfl,A1.pw,?_⟩
 simp[go_sem,dU,iF]
 have A2:=A1.word 2
 rw[aP] at A2
 rw[ae,ag,if_pos (by rfl),s_ctNamed]
 refine⟨2,tk L p,(tk L (bM L jJ p)).x,⟨none,0,0⟩,rfl,fun o ho=>?_⟩
 simp[go_sem,cu];refine⟨some (o,0),rfl,?_⟩
 have O:=A2.out ho 2 (tk L p).l (tk L p).c 0 (tk L (bM L jJ p)).x
 rw[ae,ag,if_pos (by rfl),s_ctOpen]
 refine⟨b,sl,L,_,[123],rfl,O.at'.pw,?_⟩
 simp[go_sem,dU,iF]
 have hod:=(((aN W.lw jJ p).trans (dF W.lw 2 _)).trans (bf W.lw [123] _)).d
 have hod2:=((aN W.lw jJ p).trans (dF W.lw 2 _)).d
 have O1:=O.open [123] (by omega)
 rw[ae]
 refine dB ?_ ?_
 · rw[ei]
   exact⟨_,_,_,_,_,_,_,_,_,_,_,_,_,_,_,o,⟨none,0,0⟩,[],[],_,_,_,m+1,rfl,O1,Nat.le_refl _,h1,by omega,by have:=pI L (dX L [123] (gW L 2 (bM L jJ p)));simp;omega,by omega⟩
 rw[ei,em]
 rintro i' bb ss v' ll pp hh0 M ⟨i0,i1,i2,i3,i4,i5,i6,i7,i8,i9,i10,i11,s0,s1,s2,o,s,vs,ts,p1,k1,g1,m1,hC,O1,hm1,hb1,hd1,hmu,hpd⟩ hM
 cases hC
 have hM:M 0=mu L p1:=hM.trans (fM O1.at'.pw rfl)
 clear h1 hod O ho
 cases m1 with
 | zero=>cases hb1
 | succ m1=>
 rw[gq] at hb1
 have stop:(p1.bad||dn L [125] p1)=true→∀ bs M,Then E (.V 110 [.P 0,.W [125]] (.ret (.p (.P 1)))) ⟨[i0,i1,i2,i3,i4,i5,i6,i7,i8,i9,i10,i11],bs,[s0,s1,s2],[],[],[some (b,0),some (o,0)],hh0,M⟩:=by
  intro hc bs M
  rw[if_pos hc] at hb1
  cases hb1
  rw[ae,ag,if_pos (by rfl),s_ctShut]
  refine⟨b,sl,L,_,[125],rfl,O1.at'.pw,?_⟩
  have O2:=O1.shut [125] (by omega)
  simp[go_sem]
  simp only[ae];simp[go_sem,ep]
  obtain⟨g',A',I'⟩:=O2.done
  exact hφ o _ g' A' I'
 rw[ag,if_pos (by rfl),s_ctBad]
 refine⟨b,sl,L,p1,rfl,O1.at'.pw,?_⟩
 simp[go_sem]
 cases c0:p1.bad with
 | true=>
   rw[ae,ag,if_neg (by simp[go_sem])]
   simp[go_sem]
   rw[ae,ah,if_neg (by simp[go_sem])]
   exact stop (by rw[c0];rfl) _ _
 | false=>
 rw[ae,ag,if_pos (by simp[go_sem]),s_ctIs]
 refine⟨b,sl,L,p1,[125],rfl,O1.at'.pw,?_⟩
 simp[go_sem]
 cases c1:dn L [125] p1 with
 | true=>
   rw[ae,ah,if_neg (by simp[go_sem])]
   exact stop (by rw[c1];simp) _ _
 | false=>
 clear stop
 rw[if_neg (by rw[c0,c1];decide)] at hb1
 simp only[Option.bind_eq_some_iff] at hb1
 obtain⟨⟨y,r1⟩,h3,h4⟩:=hb1
 rw[ae,ah,if_pos (by simp[go_sem])]
 have hmp:=nT c0 O1.at'.pw.at'
 have hkl:=pI L p1
 obtain⟨Ad,Wd⟩:=jA W.lw h3
 have hrd1:=Ad.d
 refine grow (on:=1) (li:=0) (pi:=2) O1 rfl rfl rfl (by decide) (by omega) (fun ψ hψ=>by rw[s_ctT];exact⟨m1,by omega,b,sl,L,p1,y,r1,3,rfl,O1.at'.pw,h3,by omega,hψ⟩) fun v2 kb s' k5 g5 O4=>?_
 simp only[List.nil_append,List.cons_append]
 rw[ae,ag,if_pos (by rfl),s_ctMust]
 refine⟨b,sl,L,r1,[59],rfl,O4.at'.pw,?_⟩
 have O5:=O4.must [59]
 have Am:=aN W.lw [59] r1
 have hmd:=Am.d
 simp[go_sem,dU,iF]
 rw[ae,says_again,ei,em]
 have hw:=jU Wd Ad O1.at'.pw.at'
 have hm2:=iq Am
 refine⟨⟨_,_,_,_,_,_,_,_,_,_,_,_,_,_,_,o,s',vs++[v2],ts++[y],_,_,_,m1,rfl,O5,by omega,h4,by omega,by simp;omega,by omega⟩,?_⟩
 show iV b L.length _<M 0
 rw[hM]
 refine Nat.lt_of_le_of_lt (Nat.le_of_eq (fM O5.at'.pw rfl)) ?_
 omega
def Jl (n:Nat):Ct Tryz.prog:=⟨70,oI gu n,UN n⟩
theorem At.Xq {h:Hp} {b:Nat} {sl:bT} {L:List Tok} {p:PS} {k g:Hp} (A:At h b sl L p k g) {kb v:Nat} {vs:List Nat} {ts:List Tr} (hkb:k kb=none) (hI:Its g vs ts) (hv:(k.set kb ⟨vs.map cu,PI⟩) v=none) (kk l c n:Int) (x:List UInt8):
 Its ((g.set kb ⟨vs.map cu,PI⟩).set v ⟨oV kk l c n x ⟨some (kb,0),vs.length,vs.length⟩,IT⟩) vs ts:=Its.le ((A.new hkb _).gnew hv _) _ _ (Its.le (A.gnew hkb _) _ _ hI)
def Dk (L:List Tok) (n:Nat) (t0:Tok) (p:PS):Option (Tr×PS):=jG L n t0 p
theorem XC (n:Nat):∀ args h φ w,FW Dk n args h φ→Holds h w→Calls Tryz.prog 154 args.toArray w fun e w'=>∃ v k,e=.returned v∧φ v k∧Holds k w'∧Fr w.heap.size h k w w':=by
 rintro args h φ w ⟨m,hm,b,sl,L,p,t,q,t0,rfl,W,hr,hd,hφ⟩ hH
 refine bJ Tryz.func154 NZ Ux [iL,lK,kE,jV,iQ,gZ,lm (pX n)] φ (di) (bF) ⟨[t0.k,t0.l,t0.c,t0.n],[],[t0.x],[],[],[some (b,0)],h,dM⟩ ⟨rfl,rfl,rfl,rfl,rfl,rfl⟩ af ?_ w hH rfl
 generalize hE:(⟨az _,_,_,_⟩:Env)=E
 have s_ctBad:E.spec 46=(iL).spec:=by rw[← hE];rfl
 have s_ctIs:E.spec 69=(lK).spec:=by rw[← hE];rfl
 have s_ctPPass:E.spec 82=(kE).spec:=by rw[← hE];rfl
 have s_ctMust:E.spec 105=(jV).spec:=by rw[← hE];rfl
 have s_ctFail:E.spec 45=(iQ).spec:=by rw[← hE];rfl
 have s_ctMake1:E.spec 128=(gZ).spec:=by rw[← hE];rfl
 have s_ctE:E.spec 22=(lm (pX n)).spec:=by rw[← hE];rfl
 have ep:E.post=φ:=by rw[← hE]
 clear hE
 unfold EM
 have A:=At.start W
 unfold Dk jG at hr
 simp only[Option.bind_eq_some_iff] at hr
 obtain⟨⟨x,r⟩,h1,h2⟩:=hr
 dsimp only at h2
 rw[ag,if_pos (by rfl),s_ctE]
 refine⟨m,hm,b,sl,L,p,x,r,rfl,W,h1,by omega,fun v k g A1 hI=>?_⟩
 simp[go_sem,cu];refine⟨some (v,0),rfl,?_⟩
 have hd1:=((lh W.lw m).1 _ _ _ _ h1).d
 obtain⟨xl,xc,xn,xx,xs,hx⟩:=(It.le A1.le _ _ hI).head
 iterate 3 (rw[ae,aj];refine⟨by simp[go_sem],?_⟩)
 rw[ae,ax,if_pos (by rfl)]
 have hxr:=KW hx
 simp[go_sem]
 refine⟨x.k,hxr,?_⟩
 rw[ae,aT]
 intro kb hkb
 simp[go_sem]
 rw[ae,ag,if_pos (by rfl),s_ctMake1]
 refine⟨13,t0,⟨some (kb,0),1,1⟩,rfl,fun o ho=>?_⟩
 simp[go_sem,cu];refine⟨some (o,0),rfl,?_⟩
 obtain⟨A5,I5⟩:=A1.node (vs:=[v]) (ts:=[x]) hkb ⟨hI,trivial⟩ (by simp) ho 13 t0.l t0.c 0 []
 have hI5:=(A1.Xq (vs:=[v]) (ts:=[x]) hkb ⟨hI,trivial⟩ ho 13 t0.l t0.c 0 []).1
 rw[ae,ag,if_pos (by rfl),s_ctBad]
 refine⟨b,sl,L,r,rfl,A5.pw,?_⟩
 simp[go_sem]
 cases c0:r.bad with
 | true=>
   rw[if_pos c0] at h2
   cases h2
   rw[ae,ah,if_pos (by simp[go_sem])]
   simp only[ae];simp[go_sem,ep]
   exact hφ o _ _ A5 I5
 | false=>
 rw[c0,if_neg (by decide)] at h2
 rw[ae,ah,if_neg (by simp[go_sem])]
 rw[ae,ag,if_pos (by rfl),s_ctIs]
 refine⟨b,sl,L,r,[61],rfl,A5.pw,?_⟩
 simp[go_sem]
 by_cases cs:(dn L [61] r&&(x.k==26||x.k==28||x.k==29))=true
 · rw[if_pos cs] at h2
   simp only[Option.map_eq_some_iff] at h2
   obtain⟨⟨y,u⟩,h3,h4⟩:=h2
   cases h4
   rw[ae,ah,if_pos (by simpa[go_sem] using cs)]
   rw[ae,ag,if_pos (by rfl),s_ctPPass]
   refine⟨b,sl,L,r,rfl,A5.pw,?_⟩
   simp[go_sem,dU,iF]
   have A6:=A5.pass
   have hpd:=(aJ W.lw r).d
   rw[ae,ag,if_pos (by rfl),s_ctE]
   refine⟨m,hm,b,sl,L,_,y,u,rfl,A6.pw,h3,by omega,fun v2 k2 g2 A7 hI2=>?_⟩
   simp[go_sem,cu];refine⟨some (v2,0),rfl,?_⟩
   have A8:=A6.then A7
   rw[ae,aT]
   intro kb2 hkb2
   simp[go_sem]
   rw[ae,ag,if_pos (by rfl),s_ctMake1]
   refine⟨8,t0,⟨some (kb2,0),2,2⟩,rfl,fun o2 ho2=>?_⟩
   simp[go_sem,cu];refine⟨some (o2,0),rfl,?_⟩
   obtain⟨A9,I9⟩:=A8.node (vs:=[v,v2]) (ts:=[x,y]) hkb2 ⟨It.le (sH _ _) _ _ hI5,It.le (A6.disj A7) _ _ hI2,trivial⟩ (by simp) ho2 8 t0.l t0.c 0 []
   rw[ae,ag,if_pos (by rfl),s_ctMust]
   refine⟨b,sl,L,u,[59],rfl,A9.pw,?_⟩
   simp[go_sem,dU,iF]
   simp only[ae];simp[go_sem,ep]
   exact hφ o2 _ _ (A9.must [59]) I9
 rw[if_neg cs] at h2
 rw[ae,ah,if_neg (by simpa[go_sem] using cs)]
 rw[ae,ag,if_pos (by rfl),s_ctIs]
 refine⟨b,sl,L,r,[61],rfl,A5.pw,?_⟩
 simp[go_sem]
 by_cases cf:(dn L [61] r||!(x.k==27))=true
 · rw[if_pos cf] at h2
   cases h2
   cases c1:dn L [61] r with
   | true=>
     iterate 2 (rw[ae,ah,if_pos (by simp[go_sem])])
     rw[ae,ag,if_pos (by rfl),s_ctFail]
     refine⟨b,sl,L,r,5,rfl,A5.pw,?_⟩
     simp[go_sem]
     have A6:=A5.fail 5
     rw[ae,ag,if_pos (by rfl),s_ctMust]
     refine⟨b,sl,L,_,[59],rfl,A6.pw,?_⟩
     simp[go_sem,dU,iF]
     simp only[ae];simp[go_sem,ep]
     have A7:=A6.must [59]
     rw[aP] at A7
     exact hφ o _ _ A7 I5
   | false=>
     rw[c1] at cf
     rw[ae,ah,if_neg (by simp[go_sem])]
     rw[ae,ah,if_pos (by simpa[go_sem] using cf)]
     rw[ae,ag,if_pos (by rfl),s_ctFail]
     refine⟨b,sl,L,r,5,rfl,A5.pw,?_⟩
     simp[go_sem]
     have A6:=A5.fail 5
     rw[ae,ag,if_pos (by rfl),s_ctMust]
     refine⟨b,sl,L,_,[59],rfl,A6.pw,?_⟩
     simp[go_sem,dU,iF]
     simp only[ae];simp[go_sem,ep]
     have A7:=A6.must [59]
     rw[aP] at A7
     exact hφ o _ _ A7 I5
 · rw[if_neg cf] at h2
   cases h2
   simp only[Bool.or_eq_true,not_or,Bool.not_eq_true] at cf
   rw[cf.1]
   rw[ae,ah,if_neg (by simp[go_sem])]
   rw[ae,ah,if_neg (by simpa[go_sem] using cf.2)]
   rw[ae,ag,if_pos (by rfl),s_ctMust]
   refine⟨b,sl,L,_,[59],rfl,A5.pw,?_⟩
   simp[go_sem,dU,iF]
   simp only[ae];simp[go_sem,ep]
   exact hφ o _ _ (A5.must [59]) I5
def Qi (n:Nat):Ct Tryz.prog:=⟨154,FW Dk n,XC n⟩
end Go.Proofs.YtllbpdllkkcajaaGreatDoor
namespace Go.Proofs.YtllbpdllkkcajaaGreatDoor
open Go.RowKit
attribute [local go_sem] bI bH aj ah ag aS ax aQ ak says_again BE.den IE.den SE.den LE.den AE.den CE.den PE.den VE.den KV.val dO.den dO.cnt jO fD jX allL Ctx.push Ctx.heap Ctx.cut Ctx.bare Ctx.mark Inc.blank List.getD_cons_zero List.getD_cons_succ List.cons_append List.nil_append List.append_nil List.map_cons List.map_nil List.replicate_zero List.replicate_succ az dm bY dh cO dK dJ bC bz bD bW bV aH aX aI aG au aP aO dH af and_assoc
def EL:Fm:=(.C 108 [.P 0,.W [123]] (.p (.K 0 1 2 3 0)) ⟨4,0,1,0,0,0⟩
 (.C 128 [(.one (.i .u8 (.c 6))),.K 0 1 2 3 0,(.one (.sl .nil))] (.p (.P 1)) ⟨0,0,0,0,0,1⟩
 (.loop 0 ⟨[],[],[],[],[],[]⟩
 (.C 46 [.P 0] (.p (.B 0)) ⟨0,1,0,0,0,0⟩
 (.call (.not (.x 0)) false 69 [.P 0,.W [125]] (.p (.B 1)) ⟨0,1,0,0,0,0⟩
 (.ite (.and (.not (.x 0)) (.not (.x 1)))
 (.O (.pt 1 6) 1 [(.sl (.x 0))] ⟨0,0,0,0,1,0⟩
 (.Z 1
 (.Z 1
 (.callK (.c true) [((.c true),(.pt 1 6),1)] 138 [.P 0] (.p (.P 2)) ⟨0,0,0,0,0,1⟩
 (.mk [(.pt 2)] 71 1
 (.app (.x 0) (.x 1) 1 8 71
 (.Z 1
 (.Z 1
 (.store (.pt 1 6) [(.sl (.x 2))]
 (.again 0 ⟨4,0,1,0,0,2⟩ ⟨4,0,1,0,0,2⟩ ⟨[],[],[],[],[],[]⟩))))))))))
 (.V 110 [.P 0,.W [125]]
 (.ret (.p (.P 1))))))))))
theorem NY:bG ⟨true,[]⟩ Tryz.prog (fun l=>([⟨[],[7,8,9,10,11,12,13,14,15,16,17,18,19,20,21,22,23,24,25],[6]⟩]:List bZ).getD l ⟨[],[],[]⟩) Tryz.f113=EL:=by kernel_rfl
theorem Uw:aF Tryz.prog .zero Tryz.f113.params.toList=some ([.P 0],⟨0,0,0,0,0,1⟩):=by kernel_rfl
def J3:Fm:=(.C 44 [.P 0] (.p (.K 0 1 2 3 0)) ⟨4,0,1,0,0,0⟩
 (.C 111 [.P 0,.W [118,97,114]] (.p (.B 0)) ⟨0,1,0,0,0,0⟩
 (.ite (.x 0)
 (.C 107 [.P 0,(.one (.i .u8 (.c 1)))] (.p (.K 4 5 6 7 1)) ⟨4,0,1,0,0,0⟩
 (.C 105 [.P 0,.W [58]] (.p (.K 8 9 10 11 2)) ⟨4,0,1,0,0,0⟩
 (.C 112 [.P 0] (.p (.P 1)) ⟨0,0,0,0,0,1⟩
 (.C 105 [.P 0,.W [61]] (.p (.K 12 13 14 15 3)) ⟨4,0,1,0,0,0⟩
 (.C 22 [.P 0] (.p (.P 2)) ⟨0,0,0,0,0,1⟩
 (.C 105 [.P 0,.W [59]] (.p (.K 16 17 18 19 4)) ⟨4,0,1,0,0,0⟩
 (.mk [(.pt 1),(.pt 2)] 71 2
 (.C 106 [(.one (.i .u8 (.c 7))),.K 0 1 2 3 0,.S 1,.L 0] (.p (.P 3)) ⟨0,0,0,0,0,1⟩
 (.ret (.p (.P 3)))))))))))
 (.C 111 [.P 0,.W [105,102]] (.p (.B 1)) ⟨0,1,0,0,0,0⟩
 (.ite (.x 1)
 (.C 22 [.P 0] (.p (.P 1)) ⟨0,0,0,0,0,1⟩
 (.C 113 [.P 0] (.p (.P 2)) ⟨0,0,0,0,0,1⟩
 (.mk [(.pt 1),(.pt 2)] 71 2
 (.C 128 [(.one (.i .u8 (.c 9))),.K 0 1 2 3 0,.L 0] (.p (.P 3)) ⟨0,0,0,0,0,1⟩
 (.C 111 [.P 0,.W [101,108,115,101]] (.p (.B 2)) ⟨0,1,0,0,0,0⟩
 (.ite (.x 2)
 (.O (.pt 3 6) 1 [(.sl (.x 1))] ⟨0,0,0,0,1,0⟩
 (.Z 3
 (.Z 3
 (.callK (.c true) [((.c true),(.pt 3 6),1)] 113 [.P 0] (.p (.P 4)) ⟨0,0,0,0,0,1⟩
 (.mk [(.pt 4)] 71 1
 (.app (.x 1) (.x 2) 1 8 71
 (.Z 3
 (.Z 3
 (.store (.pt 3 6) [(.sl (.x 3))]
 (.ret (.p (.P 3))))))))))))
 (.ret (.p (.P 3)))))))))
 (.C 111 [.P 0,.W [119,104,105,108,101]] (.p (.B 2)) ⟨0,1,0,0,0,0⟩
 (.ite (.x 2)
 (.C 22 [.P 0] (.p (.P 1)) ⟨0,0,0,0,0,1⟩
 (.C 113 [.P 0] (.p (.P 2)) ⟨0,0,0,0,0,1⟩
 (.mk [(.pt 1),(.pt 2)] 71 2
 (.C 128 [(.one (.i .u8 (.c 10))),.K 0 1 2 3 0,.L 0] (.p (.P 3)) ⟨0,0,0,0,0,1⟩
 (.ret (.p (.P 3)))))))
 (.C 111 [.P 0,.W [114,101,116,117,114,110]] (.p (.B 3)) ⟨0,1,0,0,0,0⟩
 (.ite (.x 3)
 (.C 128 [(.one (.i .u8 (.c 11))),.K 0 1 2 3 0,(.one (.sl .nil))] (.p (.P 1)) ⟨0,0,0,0,0,1⟩
 (.C 69 [.P 0,.W [59]] (.p (.B 4)) ⟨0,1,0,0,0,0⟩
 (.ite (.not (.x 4))
 (.O (.pt 1 6) 1 [(.sl (.x 0))] ⟨0,0,0,0,1,0⟩
 (.Z 1
 (.Z 1
 (.callK (.c true) [((.c true),(.pt 1 6),1)] 22 [.P 0] (.p (.P 2)) ⟨0,0,0,0,0,1⟩
 (.mk [(.pt 2)] 71 1
 (.app (.x 0) (.x 1) 1 8 71
 (.Z 1
 (.Z 1
 (.store (.pt 1 6) [(.sl (.x 2))]
 (.C 105 [.P 0,.W [59]] (.p (.K 4 5 6 7 1)) ⟨4,0,1,0,0,0⟩
 (.ret (.p (.P 1)))))))))))))
 (.C 105 [.P 0,.W [59]] (.p (.K 4 5 6 7 1)) ⟨4,0,1,0,0,0⟩
 (.ret (.p (.P 1)))))))
 (.C 111 [.P 0,.W [112,114,105,110,116]] (.p (.B 4)) ⟨0,1,0,0,0,0⟩
 (.ite (.x 4)
 (.C 22 [.P 0] (.p (.P 1)) ⟨0,0,0,0,0,1⟩
 (.mk [(.pt 1)] 71 1
 (.C 128 [(.one (.i .u8 (.c 12))),.K 0 1 2 3 0,.L 0] (.p (.P 2)) ⟨0,0,0,0,0,1⟩
 (.C 105 [.P 0,.W [59]] (.p (.K 4 5 6 7 1)) ⟨4,0,1,0,0,0⟩
 (.ret (.p (.P 2)))))))
 (.C 154 [.P 0,.K 0 1 2 3 0] (.p (.P 1)) ⟨0,0,0,0,0,1⟩
 (.ret (.p (.P 1)))))))))))))))
theorem TJ:bG ⟨true,[]⟩ Tryz.prog (fun l=>([]:List bZ).getD l ⟨[],[],[]⟩) Tryz.f138=J3:=by kernel_rfl
theorem XY:aF Tryz.prog .zero Tryz.f138.params.toList=some ([.P 0],⟨0,0,0,0,0,1⟩):=by kernel_rfl
def zG (n:Nat):Prop:=∀ args h φ w,oI fQ n args h φ→Holds h w→Calls Tryz.prog 113 args.toArray w fun e w'=>∃ v k,e=.returned v∧φ v k∧Holds k w'∧Fr w.heap.size h k w w'
def Gq (n:Nat):Prop:=∀ args h φ w,oI jd n args h φ→Holds h w→Calls Tryz.prog 138 args.toArray w fun e w'=>∃ v k,e=.returned v∧φ v k∧Holds k w'∧Fr w.heap.size h k w w'
def GL {n:Nat} (H:zG n):Ct Tryz.prog:=⟨113,oI fQ n,H⟩
def VQ {n:Nat} (H:Gq n):Ct Tryz.prog:=⟨138,oI jd n,H⟩
def Jc (h:Hp) (b:Nat) (sl:bT) (L:List Tok) (l c:Int) (rl:List Tr) (r:PS) (d:Int) (n:Nat):Nat→Ctx→Prop:=fun _ C=>
 ∃ i0 i1 i2 i3 s0 o s vs ts p1 k1 g1 m1,C=⟨[i0,i1,i2,i3],[],[s0],[],[],[some (b,0),some (o,0)],k1,dM⟩∧Out h b sl L p1 k1 g1 o 6 l c 0 [] s vs ts∧m1≤n∧
  iy L m1 ts p1=some (rl,r)∧p1.d+m1≤1000000000000∧vs.length+mu L p1≤L.length∧p1.d=d
set_option maxHeartbeats 4000000 in
theorem Vu {n:Nat} (HS:Gq n):zG (n+1):=by
 rintro args h φ w ⟨m,hm,b,sl,L,p,t,q,rfl,W,hr,hd,hφ⟩ hH
 cases m with
 | zero=>cases hr
 | succ m=>
 rw[fQ] at hr
 simp only[Option.map_eq_some_iff] at hr
 obtain⟨⟨rl,r⟩,h1,h2⟩:=hr
 cases h2
 refine bJ Tryz.func113 NY Uw [gZ,jE,iL,lK,jW,VQ HS] φ (Jc h b sl L (tk L p).l (tk L p).c rl r (p.d+1) n) (fun _=>iV b L.length) ⟨[],[],[],[],[],[some (b,0)],h,dM⟩ ⟨rfl,rfl,rfl,rfl,rfl,rfl⟩ af ?_ w hH rfl
 generalize hE:(⟨az _,_,_,_⟩:Env)=E
 have s_ctMake1:E.spec 128=(gZ).spec:=by rw[← hE];rfl
 have s_ctOpen:E.spec 108=(jE).spec:=by rw[← hE];rfl
 have s_ctBad:E.spec 46=(iL).spec:=by rw[← hE];rfl
 have s_ctIs:E.spec 69=(lK).spec:=by rw[← hE];rfl
 have s_ctShut:E.spec 110=(jW).spec:=by rw[← hE];rfl
 have s_ctS:E.spec 138=(VQ HS).spec:=by rw[← hE];rfl
 have ep:E.post=φ:=by rw[← hE]
 have ei:E.inv=(Jc h b sl L (tk L p).l (tk L p).c rl r (p.d+1) n):=by rw[← hE]
 have em:E.meas=(fun _=>iV b L.length):=by rw[← hE]
 clear hE
 unfold EL
 have A:=At.start W
 have hd0:=W.d0
 have hlen:=W.len
 rw[ag,if_pos (by rfl),s_ctOpen]
 refine⟨b,sl,L,p,[123],rfl,W,?_⟩
 simp[go_sem,dU,iF]
 have A1:=A.open [123] (by omega)
 have hod:=(bf W.lw [123] p).d
 rw[ae,ag,if_pos (by rfl),s_ctMake1]
 refine⟨6,tk L p,⟨none,0,0⟩,rfl,fun o ho=>?_⟩
 simp[go_sem,cu];refine⟨some (o,0),rfl,?_⟩
 have O:=A1.out ho 6 (tk L p).l (tk L p).c 0 []
 rw[ae]
 refine dB ?_ ?_
 · rw[ei]
   exact⟨_,_,_,_,_,o,⟨none,0,0⟩,[],[],_,_,_,m,rfl,O,by omega,h1,by omega,by have:=pI L (dX L [123] p);simp;omega,by omega⟩
 rw[ei,em]
 rintro i' bb ss v' ll pp hh0 M ⟨i0,i1,i2,i3,s0,o,s,vs,ts,p1,k1,g1,m1,hC,O1,hm1,hb1,hd1,hmu,hpd⟩ hM
 cases hC
 have hM:M 0=mu L p1:=hM.trans (fM O1.at'.pw rfl)
 clear h1 hod O ho
 cases m1 with
 | zero=>cases hb1
 | succ m1=>
 rw[iy] at hb1
 have stop:(p1.bad||dn L [125] p1)=true→∀ bs M,Then E (.V 110 [.P 0,.W [125]] (.ret (.p (.P 1)))) ⟨[i0,i1,i2,i3],bs,[s0],[],[],[some (b,0),some (o,0)],hh0,M⟩:=by
  intro hc bs M
  rw[if_pos hc] at hb1
  cases hb1
  rw[ae,ag,if_pos (by rfl),s_ctShut]
  refine⟨b,sl,L,_,[125],rfl,O1.at'.pw,?_⟩
  have O2:=O1.shut [125] (by omega)
  simp[go_sem]
  simp only[ae];simp[go_sem,ep]
  obtain⟨g',A',I'⟩:=O2.done
  exact hφ o _ g' A' I'
 rw[ag,if_pos (by rfl),s_ctBad]
 refine⟨b,sl,L,p1,rfl,O1.at'.pw,?_⟩
 simp[go_sem]
 cases c0:p1.bad with
 | true=>
   rw[ae,ag,if_neg (by simp[go_sem])]
   simp[go_sem]
   rw[ae,ah,if_neg (by simp[go_sem])]
   exact stop (by rw[c0];rfl) _ _
 | false=>
 rw[ae,ag,if_pos (by simp[go_sem]),s_ctIs]
 refine⟨b,sl,L,p1,[125],rfl,O1.at'.pw,?_⟩
 simp[go_sem]
 cases c1:dn L [125] p1 with
 | true=>
   rw[ae,ah,if_neg (by simp[go_sem])]
   exact stop (by rw[c1];simp) _ _
 | false=>
 clear stop
 rw[if_neg (by rw[c0,c1];decide)] at hb1
 simp only[Option.bind_eq_some_iff] at hb1
 obtain⟨⟨y,r1⟩,h3,h4⟩:=hb1
 rw[ae,ah,if_pos (by simp[go_sem])]
 have hmp:=nT c0 O1.at'.pw.at'
 have hkl:=pI L p1
 obtain⟨Ad,Wd⟩:=(Gv W.lw m1).1 _ _ _ h3
 have hrd1:=Ad.d
 refine grow (on:=1) (li:=0) (pi:=2) O1 rfl rfl rfl (by decide) (by omega) (fun ψ hψ=>by rw[s_ctS];exact⟨m1,by omega,b,sl,L,p1,y,r1,rfl,O1.at'.pw,h3,by omega,hψ⟩) fun v2 kb s' k5 g5 O4=>?_
 simp only[List.nil_append,List.cons_append]
 rw[ae,says_again,ei,em]
 have hw:=jU Wd Ad O1.at'.pw.at'
 refine⟨⟨_,_,_,_,_,o,s',vs++[v2],ts++[y],_,_,_,m1,rfl,O4,by omega,h4,by omega,by simp;omega,by omega⟩,?_⟩
 show iV b L.length _<M 0
 rw[hM]
 refine Nat.lt_of_le_of_lt (Nat.le_of_eq (fM O4.at'.pw rfl)) ?_
 omega
set_option maxHeartbeats 8000000 in
theorem aaZ {n:Nat} (HB:zG n):Gq (n+1):=by
 rintro args h φ w ⟨m,hm,b,sl,L,p,t,q,rfl,W,hr,hd,hφ⟩ hH
 cases m with
 | zero=>cases hr
 | succ m=>
 refine bJ Tryz.func138 TJ XY [ik,rE,mi,jV,iM,gZ,lK,oN n,lm (pX n),GL HB,Qi n] φ (di) (bF) ⟨[],[],[],[],[],[some (b,0)],h,dM⟩ ⟨rfl,rfl,rfl,rfl,rfl,rfl⟩ af ?_ w hH rfl
 generalize hE:(⟨az _,_,_,_⟩:Env)=E
 have s_ctNow:E.spec 44=(ik).spec:=by rw[← hE];rfl
 have s_ctTry:E.spec 111=(rE).spec:=by rw[← hE];rfl
 have s_ctPWord:E.spec 107=(mi).spec:=by rw[← hE];rfl
 have s_ctMust:E.spec 105=(jV).spec:=by rw[← hE];rfl
 have s_ctNamed:E.spec 106=(iM).spec:=by rw[← hE];rfl
 have s_ctMake1:E.spec 128=(gZ).spec:=by rw[← hE];rfl
 have s_ctIs:E.spec 69=(lK).spec:=by rw[← hE];rfl
 have s_ctK:E.spec 112=(oN n).spec:=by rw[← hE];rfl
 have s_ctE:E.spec 22=(lm (pX n)).spec:=by rw[← hE];rfl
 have s_ctB:E.spec 113=(GL HB).spec:=by rw[← hE];rfl
 have s_ctPl:E.spec 154=(Qi n).spec:=by rw[← hE];rfl
 have ep:E.post=φ:=by rw[← hE]
 clear hE
 unfold J3
 have A:=At.start W
 have hd0:=W.d0
 have hlen:=W.len
 have A1:=A.pass
 have hpd:=(aJ W.lw p).d
 have hE:=(lh W.lw m).1
 have hB:=(Gv W.lw m).2.1
 rw[jd] at hr
 dsimp only at hr
 rw[ag,if_pos (by rfl),s_ctNow]
 refine⟨b,sl,L,p,rfl,W,?_⟩
 simp[go_sem,dU,iF]
 rw[ae,ag,if_pos (by rfl),s_ctTry]
 refine⟨b,sl,L,p,l9,rfl,W,?_⟩
 cases c1:dn L l9 p with
 | true=>
   rw[if_pos c1] at hr
   simp only[Option.bind_eq_some_iff,Option.map_eq_some_iff] at hr
   obtain⟨⟨x,r⟩,h1,⟨y,u⟩,h2,h3⟩:=hr
   cases h3
   rw[if_pos rfl]
   simp[go_sem]
   rw[ae,ah,if_pos (by simp[go_sem])]
   rw[ae,ag,if_pos (by rfl),s_ctPWord]
   refine⟨b,sl,L,_,1,rfl,A1.pw,?_⟩
   simp[go_sem,dU,iF]
   have A2:=A1.word 1
   rw[aP] at A2
   rw[ae,ag,if_pos (by rfl),s_ctMust]
   refine⟨b,sl,L,_,[58],rfl,A2.pw,?_⟩
   simp[go_sem,dU,iF]
   have A3:=A2.must [58]
   rw[aP] at A3
   have hd3:=(((aJ W.lw p).trans (dF W.lw 1 _)).trans (aN W.lw [58] _)).d
   rw[ae,ag,if_pos (by rfl),s_ctK]
   refine⟨m,by omega,b,sl,L,_,x,r,rfl,A3.pw,h1,by omega,fun v k g A4 hI=>?_⟩
   simp[go_sem,cu];refine⟨some (v,0),rfl,?_⟩
   have A5:=A3.then A4
   have hkd:=(dQ W.lw m _ h1).d
   have hI5:=It.le (A3.disj A4) _ _ hI
   rw[ae,ag,if_pos (by rfl),s_ctMust]
   refine⟨b,sl,L,r,[61],rfl,A5.pw,?_⟩
   simp[go_sem,dU,iF]
   have A6:=A5.must [61]
   have hmd:=(aN W.lw [61] r).d
   rw[ae,ag,if_pos (by rfl),s_ctE]
   refine⟨m,by omega,b,sl,L,_,y,u,rfl,A6.pw,h2,by omega,fun v2 k2 g2 A7 hI2=>?_⟩
   simp[go_sem,cu];refine⟨some (v2,0),rfl,?_⟩
   have A8:=A6.then A7
   rw[ae,ag,if_pos (by rfl),s_ctMust]
   refine⟨b,sl,L,u,[59],rfl,A8.pw,?_⟩
   simp[go_sem,dU,iF]
   have A9:=A8.must [59]
   rw[ae,aT]
   intro kb hkb
   simp[go_sem]
   rw[ae,ag,if_pos (by rfl),s_ctNamed]
   refine⟨7,tk L p,(tk L (bn L p)).x,⟨some (kb,0),2,2⟩,rfl,fun o ho=>?_⟩
   simp[go_sem,cu];refine⟨some (o,0),rfl,?_⟩
   simp only[ae];simp[go_sem,ep]
   obtain⟨A10,I10⟩:=A9.node (vs:=[v,v2]) (ts:=[x,y]) hkb ⟨It.le (sH _ _) _ _ hI5,It.le (A6.disj A7) _ _ hI2,trivial⟩ (by simp) ho 7 (tk L p).l (tk L p).c 0 (tk L (bn L p)).x
   exact hφ o _ _ A10 I10
 | false=>
 rw[c1,if_neg (by decide)] at hr
 rw[if_neg (by decide)]
 simp[go_sem]
 rw[ae,ah,if_neg (by simp[go_sem])]
 rw[ae,ag,if_pos (by rfl),s_ctTry]
 refine⟨b,sl,L,p,uO,rfl,W,?_⟩
 cases c2:dn L uO p with
 | true=>
   rw[if_pos c2] at hr
   simp only[Option.bind_eq_some_iff] at hr
   obtain⟨⟨x,r⟩,h1,⟨y,u⟩,h2,h3⟩:=hr
   rw[if_pos rfl]
   simp[go_sem]
   rw[ae,ah,if_pos (by simp[go_sem])]
   have hrd:=(hE _ _ _ _ h1).d
   have hud:u.d=r.d+0:=(hB _ _ _ h2).1.d
   rw[ae,ag,if_pos (by rfl),s_ctE]
   refine⟨m,by omega,b,sl,L,_,x,r,rfl,A1.pw,h1,by omega,fun v k g A4 hI=>?_⟩
   simp[go_sem,cu];refine⟨some (v,0),rfl,?_⟩
   have A5:=A1.then A4
   have hI5:=It.le (A1.disj A4) _ _ hI
   rw[ae,ag,if_pos (by rfl),s_ctB]
   refine⟨m,by omega,b,sl,L,_,y,u,rfl,A5.pw,h2,by omega,fun v2 k2 g2 A6 hI2=>?_⟩
   simp[go_sem,cu];refine⟨some (v2,0),rfl,?_⟩
   have A7:=A5.then A6
   rw[ae,aT]
   intro kb hkb
   simp[go_sem]
   rw[ae,ag,if_pos (by rfl),s_ctMake1]
   refine⟨9,tk L p,⟨some (kb,0),2,2⟩,rfl,fun o ho=>?_⟩
   simp[go_sem,cu];refine⟨some (o,0),rfl,?_⟩
   have O:=A7.outs (vs:=[v,v2]) (ts:=[x,y]) hkb ⟨It.le (sH _ _) _ _ hI5,It.le (A5.disj A6) _ _ hI2,trivial⟩ (by simp) ho 9 (tk L p).l (tk L p).c 0 []
   rw[ae,ag,if_pos (by rfl),s_ctTry]
   refine⟨b,sl,L,u,ou,rfl,O.at'.pw,?_⟩
   cases c3:dn L ou u with
   | true=>
     rw[if_pos c3] at h3
     simp only[Option.map_eq_some_iff] at h3
     obtain⟨⟨z,u2⟩,h4,h5⟩:=h3
     cases h5
     rw[if_pos rfl]
     simp[go_sem]
     rw[ae,ah,if_pos (by simp[go_sem])]
     have O1:=O.pass
     have hpd2:=(aJ W.lw u).d
     refine grow (on:=3) (li:=1) (pi:=4) O1 rfl rfl rfl (by decide) (by simp) (fun ψ hψ=>by rw[s_ctB];exact⟨m,by omega,b,sl,L,_,z,u2,rfl,O1.at'.pw,h4,by omega,hψ⟩) fun v3 kb3 s' k5 g5 O4=>?_
     simp only[List.nil_append,List.cons_append]
     simp only[ae];simp[go_sem,ep]
     obtain⟨g',A',I'⟩:=O4.done
     exact hφ o _ g' A' I'
   | false=>
     rw[c3,if_neg (by decide)] at h3
     cases h3
     rw[if_neg (by decide)]
     simp[go_sem]
     rw[ae,ah,if_neg (by simp[go_sem])]
     simp only[ae];simp[go_sem,ep]
     obtain⟨g',A',I'⟩:=O.done
     exact hφ o _ g' A' I'
 | false=>
 rw[c2,if_neg (by decide)] at hr
 rw[if_neg (by decide)]
 simp[go_sem]
 rw[ae,ah,if_neg (by simp[go_sem])]
 rw[ae,ag,if_pos (by rfl),s_ctTry]
 refine⟨b,sl,L,p,fU,rfl,W,?_⟩
 cases c3:dn L fU p with
 | true=>
   rw[if_pos c3] at hr
   simp only[Option.bind_eq_some_iff,Option.map_eq_some_iff] at hr
   obtain⟨⟨x,r⟩,h1,⟨y,u⟩,h2,h3⟩:=hr
   cases h3
   rw[if_pos rfl]
   simp[go_sem]
   rw[ae,ah,if_pos (by simp[go_sem])]
   have hrd:=(hE _ _ _ _ h1).d
   rw[ae,ag,if_pos (by rfl),s_ctE]
   refine⟨m,by omega,b,sl,L,_,x,r,rfl,A1.pw,h1,by omega,fun v k g A4 hI=>?_⟩
   simp[go_sem,cu];refine⟨some (v,0),rfl,?_⟩
   have A5:=A1.then A4
   have hI5:=It.le (A1.disj A4) _ _ hI
   rw[ae,ag,if_pos (by rfl),s_ctB]
   refine⟨m,by omega,b,sl,L,_,y,u,rfl,A5.pw,h2,by omega,fun v2 k2 g2 A6 hI2=>?_⟩
   simp[go_sem,cu];refine⟨some (v2,0),rfl,?_⟩
   have A7:=A5.then A6
   rw[ae,aT]
   intro kb hkb
   simp[go_sem]
   rw[ae,ag,if_pos (by rfl),s_ctMake1]
   refine⟨10,tk L p,⟨some (kb,0),2,2⟩,rfl,fun o ho=>?_⟩
   simp[go_sem,cu];refine⟨some (o,0),rfl,?_⟩
   simp only[ae];simp[go_sem,ep]
   obtain⟨A10,I10⟩:=A7.node (vs:=[v,v2]) (ts:=[x,y]) hkb ⟨It.le (sH _ _) _ _ hI5,It.le (A5.disj A6) _ _ hI2,trivial⟩ (by simp) ho 10 (tk L p).l (tk L p).c 0 []
   exact hφ o _ _ A10 I10
 | false=>
 rw[c3,if_neg (by decide)] at hr
 rw[if_neg (by decide)]
 simp[go_sem]
 rw[ae,ah,if_neg (by simp[go_sem])]
 rw[ae,ag,if_pos (by rfl),s_ctTry]
 refine⟨b,sl,L,p,dE,rfl,W,?_⟩
 cases c4:dn L dE p with
 | true=>
   rw[if_pos c4] at hr
   rw[if_pos rfl]
   simp[go_sem]
   rw[ae,ah,if_pos (by simp[go_sem])]
   rw[ae,ag,if_pos (by rfl),s_ctMake1]
   refine⟨11,tk L p,⟨none,0,0⟩,rfl,fun o ho=>?_⟩
   simp[go_sem,cu];refine⟨some (o,0),rfl,?_⟩
   have O:=A1.out ho 11 (tk L p).l (tk L p).c 0 []
   rw[ae,ag,if_pos (by rfl),s_ctIs]
   refine⟨b,sl,L,_,[59],rfl,O.at'.pw,?_⟩
   simp[go_sem]
   cases c5:dn L [59] (bn L p) with
   | true=>
     rw[if_pos c5] at hr
     cases hr
     rw[ae,ah,if_neg (by simp[go_sem])]
     rw[ae,ag,if_pos (by rfl),s_ctMust]
     refine⟨b,sl,L,_,[59],rfl,O.at'.pw,?_⟩
     simp[go_sem,dU,iF]
     have O2:=O.must [59]
     simp only[ae];simp[go_sem,ep]
     obtain⟨g',A',I'⟩:=O2.done
     exact hφ o _ g' A' I'
   | false=>
     rw[c5,if_neg (by decide)] at hr
     simp only[Option.map_eq_some_iff] at hr
     obtain⟨⟨x,r⟩,h1,h2⟩:=hr
     cases h2
     rw[ae,ah,if_pos (by simp[go_sem])]
     refine grow (on:=1) (li:=0) (pi:=2) O rfl rfl rfl (by decide) (by simp) (fun ψ hψ=>by rw[s_ctE];exact⟨m,by omega,b,sl,L,_,x,r,rfl,O.at'.pw,h1,by omega,hψ⟩) fun v3 kb3 s' k5 g5 O4=>?_
     simp only[List.nil_append,List.cons_append]
     rw[ae,ag,if_pos (by rfl),s_ctMust]
     refine⟨b,sl,L,_,[59],rfl,O4.at'.pw,?_⟩
     simp[go_sem,dU,iF]
     have O5:=O4.must [59]
     simp only[ae];simp[go_sem,ep]
     obtain⟨g',A',I'⟩:=O5.done
     exact hφ o _ g' A' I'
 | false=>
 rw[c4,if_neg (by decide)] at hr
 rw[if_neg (by decide)]
 simp[go_sem]
 rw[ae,ah,if_neg (by simp[go_sem])]
 rw[ae,ag,if_pos (by rfl),s_ctTry]
 refine⟨b,sl,L,p,gm,rfl,W,?_⟩
 cases c6:dn L gm p with
 | true=>
   rw[if_pos c6] at hr
   simp only[Option.map_eq_some_iff] at hr
   obtain⟨⟨x,r⟩,h1,h2⟩:=hr
   cases h2
   rw[if_pos rfl]
   simp[go_sem]
   rw[ae,ah,if_pos (by simp[go_sem])]
   rw[ae,ag,if_pos (by rfl),s_ctE]
   refine⟨m,by omega,b,sl,L,_,x,r,rfl,A1.pw,h1,by omega,fun v k g A4 hI=>?_⟩
   simp[go_sem,cu];refine⟨some (v,0),rfl,?_⟩
   have A5:=A1.then A4
   have hI5:=It.le (A1.disj A4) _ _ hI
   rw[ae,aT]
   intro kb hkb
   simp[go_sem]
   rw[ae,ag,if_pos (by rfl),s_ctMake1]
   refine⟨12,tk L p,⟨some (kb,0),1,1⟩,rfl,fun o ho=>?_⟩
   simp[go_sem,cu];refine⟨some (o,0),rfl,?_⟩
   obtain⟨A6,I6⟩:=A5.node (vs:=[v]) (ts:=[x]) hkb ⟨hI5,trivial⟩ (by simp) ho 12 (tk L p).l (tk L p).c 0 []
   rw[ae,ag,if_pos (by rfl),s_ctMust]
   refine⟨b,sl,L,_,[59],rfl,A6.pw,?_⟩
   simp[go_sem,dU,iF]
   simp only[ae];simp[go_sem,ep]
   exact hφ o _ _ (A6.must [59]) I6
 | false=>
 rw[c6,if_neg (by decide)] at hr
 rw[if_neg (by decide)]
 simp[go_sem]
 rw[ae,ah,if_neg (by simp[go_sem])]
 rw[ae,ag,if_pos (by rfl),s_ctPl]
 refine⟨m,by omega,b,sl,L,p,t,q,tk L p,rfl,W,hr,by omega,fun v k g A4 hI=>?_⟩
 simp[go_sem,cu];refine⟨some (v,0),rfl,?_⟩
 simp only[ae];simp[go_sem,ep]
 exact hφ v k g A4 hI
theorem YP:∀ n,zG n∧Gq n
 | 0=>by
   refine⟨?_,?_⟩<;>
   · rintro args h φ w ⟨m,hm,b,sl,L,p,t,q,rfl,W,hr,_⟩ hH
     obtain rfl:m=0:=by omega
     cases hr
 | n+1=>⟨Vu (YP n).2,aaZ (YP n).1⟩
end Go.Proofs.YtllbpdllkkcajaaGreatDoor
namespace Go.Proofs.YtllbpdllkkcajaaGreatDoor
open Go.RowKit
attribute [local go_sem] bI bH aj ah ag aS ax aQ ak says_again BE.den IE.den SE.den LE.den AE.den CE.den PE.den VE.den KV.val dO.den dO.cnt jO fD jX allL Ctx.push Ctx.heap Ctx.cut Ctx.bare Ctx.mark Inc.blank List.getD_cons_zero List.getD_cons_succ List.cons_append List.nil_append List.append_nil List.map_cons List.map_nil List.replicate_zero List.replicate_succ az dm bY dh cO dK dJ bC bz bD bW bV aH aX aI aG au aP aO dH af and_assoc
def ww:Fm:=(.C 105 [.P 0,.W [102,110]] (.p (.K 0 1 2 3 0)) ⟨4,0,1,0,0,0⟩
 (.C 107 [.P 0,(.one (.i .u8 (.c 1)))] (.p (.K 4 5 6 7 1)) ⟨4,0,1,0,0,0⟩
 (.C 106 [(.one (.i .u8 (.c 4))),.K 0 1 2 3 0,.S 1,(.one (.sl .nil))] (.p (.P 1)) ⟨0,0,0,0,0,1⟩
 (.C 108 [.P 0,.W [40]] (.p (.K 8 9 10 11 2)) ⟨4,0,1,0,0,0⟩
 (.loop 0 ⟨[],[(.c true)],[],[],[],[]⟩
 (.C 46 [.P 0] (.p (.B 1)) ⟨0,1,0,0,0,0⟩
 (.call (.not (.x 1)) false 69 [.P 0,.W [41]] (.p (.B 2)) ⟨0,1,0,0,0,0⟩
 (.ite (.and (.not (.x 1)) (.not (.x 2)))
 (.ite (.not (.x 0))
 (.C 105 [.P 0,.W [44]] (.p (.K 12 13 14 15 3)) ⟨4,0,1,0,0,0⟩
 (.O (.pt 1 6) 1 [(.sl (.x 0))] ⟨0,0,0,0,1,0⟩
 (.Z 1
 (.Z 1
 (.callK (.c true) [((.c true),(.pt 1 6),1)] 109 [.P 0,(.one (.i .u8 (.c 5)))] (.p (.P 2)) ⟨0,0,0,0,0,1⟩
 (.mk [(.pt 2)] 71 1
 (.app (.x 0) (.x 1) 1 8 71
 (.Z 1
 (.Z 1
 (.store (.pt 1 6) [(.sl (.x 2))]
 (.Z 1
 (.Z 1
 (.Z 1
 (.O (.pt 1 4) 1 [.J 16] ⟨1,0,0,0,0,0⟩
 (.N (.R (.add (.x 16) (.c 1)))
 (.Z 1
 (.Z 1
 (.Z 1
 (.store (.pt 1 4) [(.i .i64 (.add (.x 16) (.c 1)))]
 (.again 0 ⟨12,0,3,0,0,2⟩ ⟨12,1,3,0,0,2⟩ ⟨[],[(.c false)],[],[],[],[]⟩))))))))))))))))))))
 (.O (.pt 1 6) 1 [(.sl (.x 0))] ⟨0,0,0,0,1,0⟩
 (.Z 1
 (.Z 1
 (.callK (.c true) [((.c true),(.pt 1 6),1)] 109 [.P 0,(.one (.i .u8 (.c 5)))] (.p (.P 2)) ⟨0,0,0,0,0,1⟩
 (.mk [(.pt 2)] 71 1
 (.app (.x 0) (.x 1) 1 8 71
 (.Z 1
 (.Z 1
 (.store (.pt 1 6) [(.sl (.x 2))]
 (.Z 1
 (.Z 1
 (.Z 1
 (.O (.pt 1 4) 1 [.J 12] ⟨1,0,0,0,0,0⟩
 (.N (.R (.add (.x 12) (.c 1)))
 (.Z 1
 (.Z 1
 (.Z 1
 (.store (.pt 1 4) [(.i .i64 (.add (.x 12) (.c 1)))]
 (.again 0 ⟨12,0,3,0,0,2⟩ ⟨12,1,3,0,0,2⟩ ⟨[],[(.c false)],[],[],[],[]⟩))))))))))))))))))))
 (.V 110 [.P 0,.W [41]]
 (.new [(.i .u8 (.c 14)),(.i .i64 (.c 0)),(.i .i64 (.c 0)),(.i .i64 (.c 0)),(.i .i64 (.c 0)),(.s (.c [])),(.sl .nil)] 101
 (.C 111 [.P 0,.W [58]] (.p (.B 3)) ⟨0,1,0,0,0,0⟩
 (.ite (.x 3)
 (.C 112 [.P 0] (.p (.P 3)) ⟨0,0,0,0,0,1⟩
 (.O (.pt 1 6) 1 [(.sl (.x 0))] ⟨0,0,0,0,1,0⟩
 (.Z 1
 (.Z 1
 (.callK (.c true) [((.c true),(.pt 1 6),1)] 113 [.P 0] (.p (.P 4)) ⟨0,0,0,0,0,1⟩
 (.mk [(.pt 3),(.pt 4)] 71 2
 (.app (.x 0) (.x 1) 1 8 71
 (.Z 1
 (.Z 1
 (.store (.pt 1 6) [(.sl (.x 2))]
 (.ret (.p (.P 1)))))))))))))
 (.O (.pt 1 6) 1 [(.sl (.x 0))] ⟨0,0,0,0,1,0⟩
 (.Z 1
 (.Z 1
 (.callK (.c true) [((.c true),(.pt 1 6),1)] 113 [.P 0] (.p (.P 3)) ⟨0,0,0,0,0,1⟩
 (.mk [(.pt 2),(.pt 3)] 71 2
 (.app (.x 0) (.x 1) 1 8 71
 (.Z 1
 (.Z 1
 (.store (.pt 1 6) [(.sl (.x 2))]
 (.ret (.p (.P 1))))))))))))))))))))))))
theorem WH:bG ⟨true,[52]⟩ Tryz.prog (fun l=>([⟨[5],[16,17,18,19,20,21,22,23,24,25,26,27,28,29,30,31,32,33,34,35,36,37,38,39,40,41,42,43,44,45,46,47],[13]⟩]:List bZ).getD l ⟨[],[],[]⟩) Tryz.f71=ww:=by kernel_rfl
theorem aaB:aF Tryz.prog .zero Tryz.f71.params.toList=some ([.P 0],⟨0,0,0,0,0,1⟩):=by kernel_rfl
def JW:Fm:=(.new [(.i .u8 (.c 1)),(.i .i64 (.c 1)),(.i .i64 (.c 1)),(.i .i64 (.c 0)),(.i .i64 (.c 0)),(.s (.c [])),(.sl .nil)] 101
 (.loop 0 ⟨[],[],[],[],[],[]⟩
 (.C 46 [.P 0] (.p (.B 0)) ⟨0,1,0,0,0,0⟩
 (.call (.not (.x 0)) false 44 [.P 0] (.p (.K 0 1 2 3 0)) ⟨4,0,1,0,0,0⟩
 (.ite (.and (.not (.x 0)) (.not (.eqI (.x 0) (.c 8))))
 (.C 69 [.P 0,.W [114,101,99]] (.p (.B 1)) ⟨0,1,0,0,0,0⟩
 (.ite (.x 1)
 (.O (.pt 1 6) 1 [(.sl (.x 0))] ⟨0,0,0,0,1,0⟩
 (.Z 1
 (.Z 1
 (.callK (.c true) [((.c true),(.pt 1 6),1)] 70 [.P 0] (.p (.P 2)) ⟨0,0,0,0,0,1⟩
 (.mk [(.pt 2)] 71 1
 (.app (.x 0) (.x 1) 1 8 71
 (.Z 1
 (.Z 1
 (.store (.pt 1 6) [(.sl (.x 2))]
 (.again 0 ⟨0,0,0,0,0,2⟩ ⟨0,0,0,0,0,2⟩ ⟨[],[],[],[],[],[]⟩))))))))))
 (.C 69 [.P 0,.W [102,110]] (.p (.B 2)) ⟨0,1,0,0,0,0⟩
 (.ite (.x 2)
 (.O (.pt 1 6) 1 [(.sl (.x 0))] ⟨0,0,0,0,1,0⟩
 (.Z 1
 (.Z 1
 (.callK (.c true) [((.c true),(.pt 1 6),1)] 71 [.P 0] (.p (.P 2)) ⟨0,0,0,0,0,1⟩
 (.mk [(.pt 2)] 71 1
 (.app (.x 0) (.x 1) 1 8 71
 (.Z 1
 (.Z 1
 (.store (.pt 1 6) [(.sl (.x 2))]
 (.again 0 ⟨0,0,0,0,0,2⟩ ⟨0,0,0,0,0,2⟩ ⟨[],[],[],[],[],[]⟩))))))))))
 (.V 45 [.P 0,(.I (.c 5))]
 (.again 0 ⟨0,0,0,0,0,2⟩ ⟨0,0,0,0,0,2⟩ ⟨[],[],[],[],[],[]⟩))))))
 (.ret (.p (.P 1))))))))
theorem TB:bG ⟨true,[6]⟩ Tryz.prog (fun l=>([⟨[],[7,8,9,10,11,12,13,14,15,19,20,18,21,22,23,24,25,26,27,28,29,30,31,33,34,32,35,36,37,38,39,40,41,42,43,44,45,16,17],[6]⟩]:List bZ).getD l ⟨[],[],[]⟩) Tryz.f42=JW:=by kernel_rfl
theorem XW:aF Tryz.prog .zero Tryz.f42.params.toList=some ([.P 0],⟨0,0,0,0,0,1⟩):=by kernel_rfl
def abm (n:Nat):Ct Tryz.prog:=GL (YP n).1
section
variable {h:Hp} {b:Nat} {sl:bT} {L:List Tok} {p:PS} {k g:Hp} {o:Nat} {kk l c n:Int} {x:List UInt8} {s:bT} {vs:List Nat} {ts:List Tr}
theorem Out.num (O:Out h b sl L p k g o kk l c n x s vs ts) (n':Int):Out h b sl L p (k.set o ⟨oV kk l c n' x s,IT⟩) g o kk l c n' x s vs ts:=by
 refine⟨⟨fun d y hdb hd=>?_,⟨?_,O.at'.pw.tok.keep fun d y hty hd=>?_,O.at'.pw.lw,O.at'.pw.len,O.at'.pw.at',O.at'.pw.d0,O.at'.pw.d1⟩,O.at'.hb,fun d y hd=>?_,O.at'.fr⟩,au _ _ _,O.ho,O.go,O.kids.keep fun z cs hz hc=>?_,O.hs,O.its⟩
 · rw[aU _ (fun e=>by rw[e,O.ho] at hd;cases hd)];exact O.at'.kp d y hdb hd
 · rw[aU _ O.ob.symm];exact O.at'.pw.blk
 · rw[aU _ (fun e=>by rw[e,O.blk] at hd;cases hd;exact abB hty)];exact hd
 · rw[aU _ (fun e=>by rw[e,O.go] at hd;cases hd)];exact O.at'.le d y hd
 · rw[aU _ (O.zo hz)];exact hc
theorem Out.aside (O:Out h b sl L p k g o kk l c n x s vs ts) {v:Nat} (hv:k v=none) (y:HO):Out h b sl L p (k.set v y) (g.set v y) o kk l c n x s vs ts:=by
 refine⟨O.at'.new hv y,by rw[aU _ (fun e=>by rw[← e,O.blk] at hv;cases hv)];exact O.blk,O.ho,by rw[aU _ (fun e=>by rw[← e,O.blk] at hv;cases hv)];exact O.go,O.kids.keep fun z cs hz hc=>?_,fun z hz=>?_,Its.le (O.at'.gnew hv y) _ _ O.its⟩
 · rw[aU _ (fun e=>by rw[e,hv] at hc;cases hc)];exact hc
 · obtain⟨cs,h1⟩:=O.kids.blk hz
   refine⟨(O.hs z hz).1,?_⟩
   rw[aU _ (fun e=>by rw[e,hv] at h1;cases h1)];exact (O.hs z hz).2
end
def Ws (h:Hp) (b:Nat) (sl:bT) (L:List Tok) (l c:Int) (x:List UInt8) (rl:List Tr) (r:PS) (d:Int) (n:Nat):Nat→Ctx→Prop:=fun _ C=>
 ∃ i0 i1 i2 i3 i4 i5 i6 i7 i8 i9 i10 i11 s0 s1 s2 first o s vs ts p1 k1 g1 m1,C=⟨[i0,i1,i2,i3,i4,i5,i6,i7,i8,i9,i10,i11],[first],[s0,s1,s2],[],[],[some (b,0),some (o,0)],k1,dM⟩∧Out h b sl L p1 k1 g1 o 4 l c (ts.length:Nat) x s vs ts∧m1≤n∧
  eH L m1 first ts p1=some (rl,r)∧p1.d+m1≤1000000000001∧vs.length+mu L p1≤L.length∧p1.d=d
theorem QX {k'':Hp} {o:Nat} {kk l c n:Int} {x:List UInt8} {s:bT} (hk4:k'' o=some ⟨oV kk l c n x s,IT⟩) (n':Int):lC k'' (some (o,4)) [.int .i64 n']=some (k''.set o ⟨oV kk l c n' x s,IT⟩):=by
 simp[jC hk4,oV]
theorem KX {h:Hp} {v:Nat} {k l c n:Int} {x:List UInt8} {s:bT} (hx:h v=some ⟨oV k l c n x s,IT⟩):hread h (some (v,4)) 1=some [.int .i64 n]:=by rw[bu hx];rfl
theorem two {E:Env} {fc:FuncId} {h:Hp} {b:Nat} {sl:bT} {L:List Tok} {p:PS} {k g:Hp} {o:Nat} {kk l c n:Int} {x:List UInt8} {s:bT} {vs:List Nat} {ts:List Tr} {i:List Int} {bb:List Bool} {ss:List (List UInt8)} {pp:List (Option (Nat×Nat))} {M:Nat→Nat} {on rn pi u:Nat} {q:PS} {t tu:Tr}
 (O:Out h b sl L p k g o kk l c n x s vs ts) (hu:It g u tu) (ho:pp.getD on none=some (o,0)) (hr:pp.getD rn none=some (u,0)) (hp:pp.length=pi) (hol:on<pi) (hrl:rn<pi) (hn:vs.length≤2000000)
 (hs:∀ φ:Value→Hp→Prop,(∀ v k' g',At k b sl L q k' g'→It g' v t→φ (cu v) k')→E.spec fc [cu b] k φ) (hb0:pp.getD 0 none=some (b,0))
 (hk:∀ k5,(∃ g',At h b sl L q k5 g'∧It g' o (.nd kk l c n x (ts++[tu,t])))→E.post (cu o) k5):
 Then E (.O (.pt on 6) 1 [(.sl (.x 0))] ⟨0,0,0,0,1,0⟩ (.N (.nnp on) (.N (.nnp on) (.callK (.c true) [((.c true),(.pt on 6),1)] fc [.P 0] (.p (.one (.pt pi))) ⟨0,0,0,0,0,1⟩
  (.mk [(.pt rn),(.pt pi)] PI 2 (.app (.x 0) (.x 1) 1 8 PI (.N (.nnp on) (.N (.nnp on) (.store (.pt on 6) [(.sl (.x 2))] (.ret (.p (.one (.pt on))))))))))))) ⟨i,bb,ss,[],[],pp,k,M⟩:=by
 subst hp
 have get:∀ {j:Nat} {y},pp.getD j none=some y→pp[j]? = some (some y):=fun {j y} hj=>by
  rw[List.getD_eq_getElem?_getD] at hj
  cases hq:pp[j]? with
  | none=>rw[hq] at hj;cases hj
  | some z=>rw[hq] at hj;exact congrArg some hj
 have ho':=get ho
 have hr':=get hr
 have hb':=get hb0
 have hb1:=O.blk
 have hlo:∀ (u:List (Option (Nat×Nat))),(pp++u)[on]? = some (some (o,0)):=fun u=>by rw[List.getElem?_append_left hol];exact ho'
 have hlr:∀ (w:List (Option (Nat×Nat))),(pp++w)[rn]? = some (some (u,0)):=fun w=>by rw[List.getElem?_append_left hrl];exact hr'
 rw[ae,ax,if_pos (by rfl)]
 refine (ai _ _).2 ⟨⟨[],[],[],[],[s],[]⟩,rfl,af,?_,?_⟩
 · simp[AE.den,CE.den,LE.den,Ctx.push,ho',bu hb1,oV]
 rw[ae,aj]
 refine⟨by simp[BE.den,Ctx.push,ho'],?_⟩
 rw[ae,aj]
 refine⟨by simp[BE.den,Ctx.push,ho'],?_⟩
 rw[ae,aS,if_pos (by rfl)]
 simp only[Ctx.push,List.append_nil,List.nil_append,List.map_cons,List.map_nil,PE.den,CE.den,hb0,Option.map_some]
 refine hs _ fun v k' g' A' hI'=>?_
 have O':=O.then A'
 have hb2:=O'.blk
 refine⟨fun y hy _=>?_,(ai _ _).2 ⟨⟨[],[],[],[],[],[some (v,0)]⟩,rfl,af,?_,?_⟩⟩
 · rw[List.mem_singleton] at hy;subst hy
   simp[AE.den,ho',bu hb1,bu hb2]
 · simp[VE.den,PE.den,CE.den,cu]
 rw[ae,aT]
 intro kb hkb
 have hkb':k' kb=none:=hkb
 rw[ae]
 refine Lt (us:=[u,v]) (rs:=[tu,t]) O' ⟨It.le (sH _ _) _ _ hu,It.le (O.at'.disj A') _ _ hI',trivial⟩ hn ⟨by simp,by simp⟩ hkb' ?_ ?_ ?_ fun s' k4 hk4 O4=>?_
 · simp[LE.den,Ctx.push,Ctx.heap]
 · simp[LE.den,Ctx.push,Ctx.heap]
 · simp[CE.den,Ctx.push,Ctx.heap,cu,hlr]
 rw[aj]
 refine⟨by simp[BE.den,Ctx.push,Ctx.heap,hlo],?_⟩
 rw[ae,aj]
 refine⟨by simp[BE.den,Ctx.push,Ctx.heap,hlo],?_⟩
 rw[ae,aQ]
 refine⟨k4.set o ⟨oV kk l c n x s',IT⟩,?_,?_⟩
 · have e:=Fj hk4 s'
   simpa[AE.den,CE.den,LE.den,Ctx.push,Ctx.heap,hlo] using e
 · rw[ae,ak]
   have e:=hk _ O4.done
   simpa[VE.den,PE.den,CE.den,Ctx.push,Ctx.heap,hlo,cu] using e
set_option maxHeartbeats 8000000 in
theorem acg (n:Nat):∀ args h φ w,oI Ih n args h φ→Holds h w→Calls Tryz.prog 71 args.toArray w fun e w'=>∃ v k,e=.returned v∧φ v k∧Holds k w'∧Fr w.heap.size h k w w':=by
 rintro args h φ w ⟨m,hm,b,sl,L,p,t,q,rfl,W,hr,hd,hφ⟩ hH
 unfold Ih at hr
 dsimp only at hr
 simp only[Option.map_eq_some_iff,Option.bind_eq_some_iff] at hr
 obtain⟨⟨rl,r⟩,h1,⟨kt,r2⟩,hk1,⟨bt,r3⟩,hb1',h2⟩:=hr
 cases h2
 dsimp only at hk1 hb1' hφ
 cases m with
 | zero=>cases h1
 | succ m=>
 refine bJ Tryz.func71 WH aaB [jV,mi,iM,jE,iL,lK,jW,rE,zK n,oN n,abm n] φ (Ws h b sl L (tk L p).l (tk L p).c (tk L (bM L sZ p)).x rl r (p.d+1) (m+1)) (fun _=>iV b L.length) ⟨[],[],[],[],[],[some (b,0)],h,dM⟩ ⟨rfl,rfl,rfl,rfl,rfl,rfl⟩ af ?_ w hH rfl
 generalize hE:(⟨az _,_,_,_⟩:Env)=E
 have s_ctMust:E.spec 105=(jV).spec:=by rw[← hE];rfl
 have s_ctPWord:E.spec 107=(mi).spec:=by rw[← hE];rfl
 have s_ctNamed:E.spec 106=(iM).spec:=by rw[← hE];rfl
 have s_ctOpen:E.spec 108=(jE).spec:=by rw[← hE];rfl
 have s_ctBad:E.spec 46=(iL).spec:=by rw[← hE];rfl
 have s_ctIs:E.spec 69=(lK).spec:=by rw[← hE];rfl
 have s_ctShut:E.spec 110=(jW).spec:=by rw[← hE];rfl
 have s_ctTry:E.spec 111=(rE).spec:=by rw[← hE];rfl
 have s_ctT:E.spec 109=(zK n).spec:=by rw[← hE];rfl
 have s_ctK:E.spec 112=(oN n).spec:=by rw[← hE];rfl
 have s_ctB:E.spec 113=(abm n).spec:=by rw[← hE];rfl
 have ep:E.post=φ:=by rw[← hE]
 have ei:E.inv=(Ws h b sl L (tk L p).l (tk L p).c (tk L (bM L sZ p)).x rl r (p.d+1) (m+1)):=by rw[← hE]
 have em:E.meas=(fun _=>iV b L.length):=by rw[← hE]
 clear hE
 unfold ww
 have A:=At.start W
 have hd0:=W.d0
 have hlen:=W.len
 rw[ag,if_pos (by rfl),s_ctMust]
 refine⟨b,sl,L,p,sZ,rfl,W,?_⟩
 simp[go_sem,dU,iF]
 have A1:=A.must sZ
 rw[ae,ag,if_pos (by rfl),s_ctPWord]
 refine⟨b,sl,L,_,1,rfl,A1.pw,?_⟩
 simp[go_sem,dU,iF]
 have A2:=A1.word 1
 rw[aP] at A2
 rw[ae,ag,if_pos (by rfl),s_ctNamed]
 refine⟨4,tk L p,(tk L (bM L sZ p)).x,⟨none,0,0⟩,rfl,fun o ho=>?_⟩
 simp[go_sem,cu];refine⟨some (o,0),rfl,?_⟩
 have O:=A2.out ho 4 (tk L p).l (tk L p).c 0 (tk L (bM L sZ p)).x
 rw[ae,ag,if_pos (by rfl),s_ctOpen]
 refine⟨b,sl,L,_,[40],rfl,O.at'.pw,?_⟩
 simp[go_sem,dU,iF]
 have hod:=(((aN W.lw sZ p).trans (dF W.lw 1 _)).trans (bf W.lw [40] _)).d
 have hod2:=((aN W.lw sZ p).trans (dF W.lw 1 _)).d
 have O1:=O.open [40] (by omega)
 rw[ae]
 refine dB ?_ ?_
 · rw[ei]
   exact⟨_,_,_,_,_,_,_,_,_,_,_,_,_,_,_,true,o,⟨none,0,0⟩,[],[],_,_,_,m+1,rfl,O1,Nat.le_refl _,h1,by omega,by have:=pI L (dX L [40] (gW L 1 (bM L sZ p)));simp;omega,by omega⟩
 rw[ei,em]
 rintro i' bb ss v' ll pp hh0 M ⟨i0,i1,i2,i3,i4,i5,i6,i7,i8,i9,i10,i11,s0,s1,s2,first,o,s,vs,ts,p1,k1,g1,m1,hC,O1,hm1,hb1,hd1,hmu,hpd⟩ hM
 cases hC
 have hM:M 0=mu L p1:=hM.trans (fM O1.at'.pw rfl)
 clear h1 hod O ho
 cases m1 with
 | zero=>cases hb1
 | succ m1=>
 rw[eH] at hb1
 have htl:=O1.its.len
 have hkl:=pI L p1
 have stop:(p1.bad||dn L [41] p1)=true→∀ bs M,Then E (.V 110 [.P 0,.W [41]] ww.k.k.k.k.k.k.k.e.k) ⟨[i0,i1,i2,i3,i4,i5,i6,i7,i8,i9,i10,i11],[first]++[p1.bad]++[bs],[s0,s1,s2],[],[],[some (b,0),some (o,0)],hh0,M⟩:=by
  intro hc bs M
  rw[if_pos hc] at hb1
  cases hb1
  unfold ww
  simp only[Fm.k,Fm.e]
  rw[ae,ag,if_pos (by rfl),s_ctShut]
  refine⟨b,sl,L,_,[41],rfl,O1.at'.pw,?_⟩
  have O2:=O1.shut [41] (by omega)
  have hsd:=(bU W.lw [41] r).d
  simp[go_sem]
  rw[ae,fC]
  intro nv hnv
  simp[go_sem]
  have O3:=O2.aside hnv ⟨oV 14 0 0 0 [] ⟨none,0,0⟩,IT⟩
  have I3:It _ nv (.nd 14 0 0 0 [] []):=O2.at'.leaf hnv 14 0 0 0 []
  rw[ae,ag,if_pos (by rfl),s_ctTry]
  refine⟨b,sl,L,_,[58],rfl,O3.at'.pw,?_⟩
  cases c3:dn L [58] (dD L [41] r) with
  | true=>
    rw[if_pos c3] at hk1
    rw[if_pos rfl]
    simp[go_sem]
    rw[ae,ah,if_pos (by simp[go_sem])]
    have O4:=O3.pass
    have hpd4:=(aJ W.lw (dD L [41] r)).d
    have hkd:=(dQ W.lw _ _ hk1).d
    rw[ae,ag,if_pos (by rfl),s_ctK]
    refine⟨m+1,by omega,b,sl,L,_,kt,r2,rfl,O4.at'.pw,hk1,by omega,fun v k g A4 hI=>?_⟩
    simp[go_sem,cu];refine⟨some (v,0),rfl,?_⟩
    have O5:=O4.then A4
    refine two (rn:=3) (pi:=4) O5 (It.le (O4.at'.disj A4) _ _ hI) rfl rfl rfl (by decide) (by decide) (by omega) (fun ψ hψ=>by rw[s_ctB];exact⟨m+1,by omega,b,sl,L,_,_,_,rfl,O5.at'.pw,hb1',by omega,hψ⟩) rfl fun k5 hk5=>?_
    obtain⟨g',A',I'⟩:=hk5
    rw[ep]
    exact hφ o _ g' A' I'
  | false=>
    rw[c3,if_neg (by decide)] at hk1
    cases hk1
    rw[if_neg (by decide)]
    simp[go_sem]
    rw[ae,ah,if_neg (by simp[go_sem])]
    refine two (rn:=2) (pi:=3) O3 I3 rfl rfl rfl (by decide) (by decide) (by omega) (fun ψ hψ=>by rw[s_ctB];exact⟨m+1,by omega,b,sl,L,_,_,_,rfl,O3.at'.pw,hb1',by omega,hψ⟩) rfl fun k5 hk5=>?_
    obtain⟨g',A',I'⟩:=hk5
    rw[ep]
    exact hφ o _ g' A' I'
 unfold ww at stop
 simp only[Fm.k,Fm.e] at stop
 rw[ag,if_pos (by rfl),s_ctBad]
 refine⟨b,sl,L,p1,rfl,O1.at'.pw,?_⟩
 simp[go_sem]
 cases c0:p1.bad with
 | true=>
   rw[ae,ag,if_neg (by simp[go_sem])]
   simp[go_sem]
   rw[ae,ah,if_neg (by simp[go_sem])]
   have:=stop (by rw[c0];rfl) false M
   rw[c0] at this
   exact this
 | false=>
 rw[ae,ag,if_pos (by simp[go_sem]),s_ctIs]
 refine⟨b,sl,L,p1,[41],rfl,O1.at'.pw,?_⟩
 simp[go_sem]
 cases c1:dn L [41] p1 with
 | true=>
   rw[ae,ah,if_neg (by simp[go_sem])]
   have:=stop (by rw[c1];simp) true M
   rw[c0] at this
   exact this
 | false=>
 clear stop
 rw[if_neg (by rw[c0,c1];decide)] at hb1
 simp only[Option.bind_eq_some_iff] at hb1
 obtain⟨⟨y,r1⟩,h3,h4⟩:=hb1
 rw[ae,ah,if_pos (by simp[go_sem])]
 have hmp:=nT c0 O1.at'.pw.at'
 obtain⟨Ad,Wd⟩:=jA W.lw h3
 have hrd1:=Ad.d
 cases first with
 | true=>
   rw[if_pos rfl] at h3 Ad Wd hrd1
   rw[ae,ah,if_neg (by simp[go_sem])]
   refine grow (on:=1) (li:=0) (pi:=2) O1 rfl rfl rfl (by decide) (by omega) (fun ψ hψ=>by rw[s_ctT];exact⟨m1,by omega,b,sl,L,_,y,r1,5,rfl,O1.at'.pw,h3,by omega,hψ⟩) fun v2 kb s' k5 g5 O4=>?_
   simp only[List.nil_append,List.cons_append]
   have hn4:=KX O4.blk
   iterate 3 (rw[ae,aj];refine⟨by simp[go_sem],?_⟩)
   rw[ae,ax,if_pos (by rfl)]
   simp[go_sem]
   refine⟨_,hn4,?_⟩
   rw[ae,aj]
   refine⟨by simp[go_sem];omega,?_⟩
   iterate 3 (rw[ae,aj];refine⟨by simp[go_sem],?_⟩)
   rw[ae,aQ]
   refine⟨_,by simp[go_sem,QX O4.blk];rfl,?_⟩
   have O5:=O4.num ((ts.length:Int)+1)
   dsimp only at h4
   have el:(((ts++[y]).length:Nat):Int)=(ts.length:Int)+1:=by simp
   rw[ae,says_again,ei,em]
   have hw:=jU Wd Ad O1.at'.pw.at'
   refine⟨⟨_,_,_,_,_,_,_,_,_,_,_,_,_,_,_,false,o,s',vs++[v2],ts++[y],_,_,_,m1,rfl,by rw[el];exact O5,by omega,h4,by omega,by simp;omega,by omega⟩,?_⟩
   show iV b L.length _<M 0
   rw[hM]
   refine Nat.lt_of_le_of_lt (Nat.le_of_eq (fM O5.at'.pw rfl)) ?_
   omega
 | false=>
   rw[if_neg (by decide)] at h3 Ad Wd hrd1
   rw[ae,ah,if_pos (by simp[go_sem])]
   rw[ae,ag,if_pos (by rfl),s_ctMust]
   refine⟨b,sl,L,p1,[44],rfl,O1.at'.pw,?_⟩
   simp[go_sem,dU,iF]
   have O2:=O1.must [44]
   have Am:=aN W.lw [44] p1
   have hmd:=Am.d
   have hm2:=iq Am
   refine grow (on:=1) (li:=0) (pi:=2) O2 rfl rfl rfl (by decide) (by omega) (fun ψ hψ=>by rw[s_ctT];exact⟨m1,by omega,b,sl,L,_,y,r1,5,rfl,O2.at'.pw,h3,by omega,hψ⟩) fun v2 kb s' k5 g5 O4=>?_
   simp only[List.nil_append,List.cons_append]
   have hn4:=KX O4.blk
   iterate 3 (rw[ae,aj];refine⟨by simp[go_sem],?_⟩)
   rw[ae,ax,if_pos (by rfl)]
   simp[go_sem]
   refine⟨_,hn4,?_⟩
   rw[ae,aj]
   refine⟨by simp[go_sem];omega,?_⟩
   iterate 3 (rw[ae,aj];refine⟨by simp[go_sem],?_⟩)
   rw[ae,aQ]
   refine⟨_,by simp[go_sem,QX O4.blk];rfl,?_⟩
   have O5:=O4.num ((ts.length:Int)+1)
   dsimp only at h4
   have el:(((ts++[y]).length:Nat):Int)=(ts.length:Int)+1:=by simp
   rw[ae,says_again,ei,em]
   have hw:=jU Wd Ad O2.at'.pw.at'
   refine⟨⟨_,_,_,_,_,_,_,_,_,_,_,_,_,_,_,false,o,s',vs++[v2],ts++[y],_,_,_,m1,rfl,by rw[el];exact O5,by omega,h4,by omega,by simp;omega,by omega⟩,?_⟩
   show iV b L.length _<M 0
   rw[hM]
   refine Nat.lt_of_le_of_lt (Nat.le_of_eq (fM O5.at'.pw rfl)) ?_
   omega
def abo (n:Nat):Ct Tryz.prog:=⟨71,oI Ih n,acg n⟩
end Go.Proofs.YtllbpdllkkcajaaGreatDoor
namespace Go.Proofs.YtllbpdllkkcajaaGreatDoor
open Go.RowKit
attribute [local go_sem] bI bH aj ah ag aS ax aQ ak says_again BE.den IE.den SE.den LE.den AE.den CE.den PE.den VE.den KV.val dO.den dO.cnt jO fD jX allL Ctx.push Ctx.heap Ctx.cut Ctx.bare Ctx.mark Inc.blank List.getD_cons_zero List.getD_cons_succ List.cons_append List.nil_append List.append_nil List.map_cons List.map_nil List.replicate_zero List.replicate_succ az dm bY dh cO dK dJ bC bz bD bW bV aH aX aI aG au aP aO dH af and_assoc
def V8:Fm:=(.Z 0
 (.Z 0
 (.O (.pt 0 0) 6 [.U 0,.J 1,.J 2,.J 3,.J 4,(.s (.x 0))] ⟨5,0,1,0,0,0⟩
 (.mk [.U 0,.J 1,.J 2,.J 3,.J 4,(.s (.x 0))] 52 1
 (.app (.x 0) (.x 1) 6 56 52
 (.Z 0
 (.Z 0
 (.O (.pt 0 6) 1 [(.sl (.x 3))] ⟨0,0,0,0,1,0⟩
 (.loop 0 ⟨[(.c 0)],[],[],[],[(.x 2)],[]⟩
 (.ite (.lt (.x 5) (.cnt (.x 3)))
 (.N (.X (.x 5) (.x 3))
 (.O (.el (.x 3) (.x 5) 1 0) 1 [(.pt 1)] ⟨0,0,0,0,0,1⟩
 (.C 47 [.P 1,.L 4] (.p (.L 5)) ⟨0,0,0,0,1,0⟩
 (.N (.R (.add (.x 5) (.c 1)))
 (.again 0 ⟨5,0,1,0,4,1⟩ ⟨6,0,1,0,5,1⟩ ⟨[(.add (.x 5) (.c 1))],[],[],[],[(.x 5)],[]⟩)))))
 (.N (.R (.sub (.cnt (.x 4)) (.cnt (.x 0))))
 (.N (.R (.sub (.sub (.cnt (.x 4)) (.cnt (.x 0))) (.c 1)))
 (.N (.X (.cnt (.x 0)) (.x 4))
 (.N (.nns (.x 4))
 (.store (.el (.x 4) (.cnt (.x 0)) 6 3) [(.i .i64 (.sub (.sub (.cnt (.x 4)) (.cnt (.x 0))) (.c 1)))]
 (.ret (.p (.L 4))))))))))))))))))
theorem ZX:bG ⟨true,[]⟩ Tryz.prog (fun l=>([⟨[1,22],[23,24,25,7,26,27,28,29],[]⟩]:List bZ).getD l ⟨[],[],[]⟩) Tryz.f47=V8:=by kernel_rfl
theorem acD:aF Tryz.prog .zero Tryz.f47.params.toList=some ([.P 0,.L 0],⟨0,0,0,0,1,1⟩):=by kernel_rfl
def Rw (h:Hp) (b:Nat) (sl:bT) (L:List Tok) (rl:List Tr) (r:PS) (n:Nat):Nat→Ctx→Prop:=fun _ C=>
 ∃ o s vs ts p1 k1 g1 m1,C=⟨[],[],[],[],[],[some (b,0),some (o,0)],k1,dM⟩∧Out h b sl L p1 k1 g1 o 1 1 1 0 [] s vs ts∧m1≤n∧
  fP L m1 ts p1=some (rl,r)∧p1.d+m1≤1000000000000∧vs.length+mu L p1≤L.length
def wU (L:List Tok) (n:Nat) (p:PS):Option (Tr×PS):=rG L n p
set_option maxHeartbeats 8000000 in
theorem aat (n:Nat):∀ args h φ w,oI wU n args h φ→Holds h w→Calls Tryz.prog 42 args.toArray w fun e w'=>∃ v k,e=.returned v∧φ v k∧Holds k w'∧Fr w.heap.size h k w w':=by
 rintro args h φ w ⟨m,hm,b,sl,L,p,t,q,rfl,W,hr,hd,hφ⟩ hH
 unfold wU rG at hr
 simp only[Option.map_eq_some_iff] at hr
 obtain⟨⟨rl,r⟩,h1,h2⟩:=hr
 cases h2
 refine bJ Tryz.func42 TB XW [iL,ik,lK,iQ,Jl n,abo n] φ (Rw h b sl L rl r n) (fun _=>iV b L.length) ⟨[],[],[],[],[],[some (b,0)],h,dM⟩ ⟨rfl,rfl,rfl,rfl,rfl,rfl⟩ af ?_ w hH rfl
 generalize hE:(⟨az _,_,_,_⟩:Env)=E
 have s_ctBad:E.spec 46=(iL).spec:=by rw[← hE];rfl
 have s_ctNow:E.spec 44=(ik).spec:=by rw[← hE];rfl
 have s_ctIs:E.spec 69=(lK).spec:=by rw[← hE];rfl
 have s_ctFail:E.spec 45=(iQ).spec:=by rw[← hE];rfl
 have s_ctR:E.spec 70=(Jl n).spec:=by rw[← hE];rfl
 have s_ctF:E.spec 71=(abo n).spec:=by rw[← hE];rfl
 have ep:E.post=φ:=by rw[← hE]
 have ei:E.inv=(Rw h b sl L rl r n):=by rw[← hE]
 have em:E.meas=(fun _=>iV b L.length):=by rw[← hE]
 clear hE
 unfold JW
 have A:=At.start W
 have hlen:=W.len
 rw[fC]
 intro o ho
 simp[go_sem]
 have O:=A.out ho 1 1 1 0 []
 rw[ae]
 refine dB ?_ ?_
 · rw[ei]
   exact⟨o,⟨none,0,0⟩,[],[],_,_,_,m,rfl,O,hm,h1,hd,by have:=pI L p;simp;omega⟩
 rw[ei,em]
 rintro i' bb ss v' ll pp hh0 M ⟨o,s,vs,ts,p1,k1,g1,m1,hC,O1,hm1,hb1,hd1,hmu⟩ hM
 cases hC
 have hM:M 0=mu L p1:=hM.trans (fM O1.at'.pw rfl)
 clear h1 O ho
 cases m1 with
 | zero=>cases hb1
 | succ m1=>
 rw[fP] at hb1
 have stop:(p1.bad||(tk L p1).k==8)=true→φ (cu o) hh0:=by
  intro hc
  rw[if_pos hc] at hb1
  cases hb1
  obtain⟨g',A',I'⟩:=O1.done
  exact hφ o _ g' A' I'
 rw[ag,if_pos (by rfl),s_ctBad]
 refine⟨b,sl,L,p1,rfl,O1.at'.pw,?_⟩
 simp[go_sem]
 cases c0:p1.bad with
 | true=>
   rw[ae,ag,if_neg (by simp[go_sem])]
   simp[go_sem]
   rw[ae,ah,if_neg (by simp[go_sem])]
   simp only[ae];simp[go_sem,ep]
   exact stop (by rw[c0];rfl)
 | false=>
 rw[ae,ag,if_pos (by simp[go_sem]),s_ctNow]
 refine⟨b,sl,L,p1,rfl,O1.at'.pw,?_⟩
 simp[go_sem,dU,iF]
 by_cases c8:(tk L p1).k=8
 · rw[ae,ah,if_neg (by simp[go_sem,c8])]
   simp only[ae];simp[go_sem,ep]
   exact stop (by rw[c8];simp)
 clear stop
 rw[if_neg (by rw[c0];simp[c8])] at hb1
 rw[ae,ah,if_pos (by simp[go_sem,c8])]
 have hmp:=nT c0 O1.at'.pw.at'
 have hkl:=pI L p1
 rw[ae,ag,if_pos (by rfl),s_ctIs]
 refine⟨b,sl,L,p1,jJ,rfl,O1.at'.pw,?_⟩
 simp[go_sem]
 cases c1:dn L jJ p1 with
 | true=>
   rw[if_pos c1] at hb1
   simp only[Option.bind_eq_some_iff] at hb1
   obtain⟨⟨y,r1⟩,h3,h4⟩:=hb1
   dsimp only at h4
   rw[ae,ah,if_pos (by simp[go_sem])]
   obtain⟨Ad,Wd⟩:=nI W.lw h3
   have hrd1:=Ad.d
   refine grow (on:=1) (li:=0) (pi:=2) O1 rfl rfl rfl (by decide) (by omega) (fun ψ hψ=>by rw[s_ctR];exact⟨m1,by omega,b,sl,L,p1,y,r1,rfl,O1.at'.pw,h3,by omega,hψ⟩) fun v2 kb s' k5 g5 O4=>?_
   simp only[List.nil_append,List.cons_append]
   rw[ae,says_again,ei,em]
   have hw:=jU Wd Ad O1.at'.pw.at'
   refine⟨⟨o,s',vs++[v2],ts++[y],r1,_,_,m1,rfl,O4,by omega,h4,by omega,by simp;omega⟩,?_⟩
   show iV b L.length _<M 0
   rw[hM]
   refine Nat.lt_of_le_of_lt (Nat.le_of_eq (fM O4.at'.pw rfl)) ?_
   omega
 | false=>
 rw[c1,if_neg (by decide)] at hb1
 rw[ae,ah,if_neg (by simp[go_sem])]
 rw[ae,ag,if_pos (by rfl),s_ctIs]
 refine⟨b,sl,L,p1,sZ,rfl,O1.at'.pw,?_⟩
 simp[go_sem]
 cases c2:dn L sZ p1 with
 | true=>
   rw[if_pos c2] at hb1
   simp only[Option.bind_eq_some_iff] at hb1
   obtain⟨⟨y,r1⟩,h3,h4⟩:=hb1
   dsimp only at h4
   rw[ae,ah,if_pos (by simp[go_sem])]
   obtain⟨Ad,Wd⟩:=AL W.lw h3
   have hrd1:=Ad.d
   refine grow (on:=1) (li:=0) (pi:=2) O1 rfl rfl rfl (by decide) (by omega) (fun ψ hψ=>by rw[s_ctF];exact⟨m1,by omega,b,sl,L,p1,y,r1,rfl,O1.at'.pw,h3,by omega,hψ⟩) fun v2 kb s' k5 g5 O4=>?_
   simp only[List.nil_append,List.cons_append]
   rw[ae,says_again,ei,em]
   have hw:=jU Wd Ad O1.at'.pw.at'
   refine⟨⟨o,s',vs++[v2],ts++[y],r1,_,_,m1,rfl,O4,by omega,h4,by omega,by simp;omega⟩,?_⟩
   show iV b L.length _<M 0
   rw[hM]
   refine Nat.lt_of_le_of_lt (Nat.le_of_eq (fM O4.at'.pw rfl)) ?_
   omega
 | false=>
   rw[c2,if_neg (by decide)] at hb1
   rw[ae,ah,if_neg (by simp[go_sem])]
   rw[ae,ag,if_pos (by rfl),s_ctFail]
   refine⟨b,sl,L,p1,5,rfl,O1.at'.pw,?_⟩
   simp[go_sem]
   have O2:=O1.fail 5
   have Af:=fE (L:=L) 5 p1
   have hfd:=Af.d
   have h0:mu L (eF L 5 p1)=0:=by unfold mu;rw[if_pos (iP (by decide) p1)]
   rw[ae,says_again,ei,em]
   refine⟨⟨o,s,vs,ts,_,_,_,m1,rfl,O2,by omega,hb1,by omega,by omega⟩,?_⟩
   show iV b L.length _<M 0
   rw[hM]
   refine Nat.lt_of_le_of_lt (Nat.le_of_eq (fM O2.at'.pw rfl)) ?_
   omega
def VM (n:Nat):Ct Tryz.prog:=⟨42,oI wU n,aat n⟩
def ND:TypeId:=52
def zB.cs (x:zB):List Value:=[.int .u8 x.k,.int .i64 x.l,.int .i64 x.c,.int .i64 (x.z:Nat),.int .i64 x.n,.string (B x.x)]
def vg (l:List zB):List Value:=l.flatMap zB.cs
theorem Rf (l:List zB):(vg l).length=l.length*6:=by
 induction l with
 | nil=>rfl
 | cons a l ih=>simp only[vg,List.flatMap_cons,List.length_append,List.length_cons] at *;rw[ih];simp[zB.cs];omega
theorem Ia (a b:List zB):vg (a++b)=vg a++vg b:=by simp[vg]
theorem Ci (x:zB) (l:List zB):vg (x::l)=x.cs++vg l:=by simp[vg]
theorem fJ.adX {k:Hp} {s:bT} {xs:List Value} {ty:TypeId} {sz:Nat} (ho:fJ k s xs ty sz) {j:Nat} (hj:j<xs.length) (u:Value):
 ∃ c o,s.a=some (c,0)∧k c=some o∧lC k (some (c,j)) [u]=some (k.set c ⟨o.cs.take j++[u]++o.cs.drop (j+1),o.ty⟩)∧fJ (k.set c ⟨o.cs.take j++[u]++o.cs.drop (j+1),o.ty⟩) s (xs.take j++[u]++xs.drop (j+1)) ty sz:=by
 rcases ho with ⟨_,hx⟩ | ⟨c,o,h1,h2,h3,h4,h5,h6,h7⟩
 · rw[hx] at hj;cases hj
 · have hle:s.n*sz≤o.cs.length:=by rw[h4];exact Nat.mul_le_mul_right _ h5
   have hxl:xs.length=s.n*sz:=by rw[h7,List.length_take];omega
   have hjo:j<o.cs.length:=by omega
   refine⟨c,o,h1,h2,by rw[jC h2,if_pos (by simp;omega)];rfl,.inr ⟨c,_,h1,au _ _ _,h3,?_,h5,h6,?_⟩⟩
   · simp only[List.length_append,List.length_take,List.length_drop,List.length_cons,List.length_nil]
     omega
   · simp only
     rw[h7,List.take_take,Nat.min_eq_left (by omega)]
     have hl:(o.cs.take j++[u]).length=j+1:=by simp;omega
     rw[List.take_append (l₁:=o.cs.take j++[u]),List.take_of_length_le (l:=o.cs.take j++[u]) (by omega),hl,List.drop_take]
end Go.Proofs.YtllbpdllkkcajaaGreatDoor
namespace Go.Proofs.YtllbpdllkkcajaaGreatDoor
open Go.RowKit
attribute [local go_sem] bI bH aj ah ag aS ax aQ ak says_again BE.den IE.den SE.den LE.den AE.den CE.den PE.den VE.den KV.val dO.den dO.cnt jO fD jX allL Ctx.push Ctx.heap Ctx.cut Ctx.bare Ctx.mark Inc.blank List.getD_cons_zero List.getD_cons_succ List.cons_append List.nil_append List.append_nil List.map_cons List.map_nil List.replicate_zero List.replicate_succ az dm bY dh cO dK dJ bC bz bD bW bV aH aX aI aG au aP aO dH af and_assoc
def adA (N:Nat) (args:List Value) (h:Hp) (φ:Value→Hp→Prop):Prop:=
 ∃ v t s acc,args=[cu v,s.val]∧t.n≤N∧It h v t∧fJ h s (vg acc) ND 6∧s.n=acc.length∧acc.length+t.n≤2000000∧
  ∀ s' k,fJ k s' (vg (acc++t.qL)) ND 6→s'.n=acc.length+t.n→(∀ c o,(∀ z,s.a=some z→z.1≠c)→h c=some o→k c=some o)→(∀ z,s'.a=some z→(∃ y,s.a=some y∧y.1=z.1)∨h z.1=none)→φ s'.val k
def abh (N:Nat):Prop:=∀ args h φ w,adA N args h φ→Holds h w→Calls Tryz.prog 47 args.toArray w fun e w'=>∃ v k,e=.returned v∧φ v k∧Holds k w'∧Fr w.heap.size h k w w'
def Ep {N:Nat} (H:abh N):Ct Tryz.prog:=⟨47,adA N,H⟩
theorem abG:ND≠IT:=by decide
theorem abH:ND≠PI:=by decide
theorem fJ.ty {h:Hp} {s:bT} {xs:List Value} {ty:TypeId} {sz:Nat} (ho:fJ h s xs ty sz) {z:Nat×Nat} (hz:s.a=some z):∃ cs,h z.1=some ⟨cs,ty⟩:=by
 rcases ho with ⟨h1,_⟩ | ⟨c,o,h1,h2,h3,_⟩
 · rw[h1] at hz;cases hz
 · rw[h1] at hz;cases hz
   obtain⟨cs,ty'⟩:=o
   simp only at h3;subst h3
   exact⟨cs,h2⟩
mutual
theorem It.keep {h k:Hp} (hk:∀ c o,o.ty≠ND→h c=some o→k c=some o):∀ (v:Nat) (t:Tr),It h v t→It k v t
 | v,.nd _ _ _ _ _ ks,hi=>by
   obtain⟨sl,vs,h1,h2,h3⟩:=hi
   exact⟨sl,vs,hk _ _ abG.symm h1,h2.keep fun z cs _ hc=>hk _ _ abH.symm hc,Its.keep hk vs ks h3⟩
theorem Its.keep {h k:Hp} (hk:∀ c o,o.ty≠ND→h c=some o→k c=some o):∀ (vs:List Nat) (ts:List Tr),Its h vs ts→Its k vs ts
 | [],[],_=>trivial
 | v::vs,t::ts,hi=>⟨It.keep hk v t hi.1,Its.keep hk vs ts hi.2⟩
 | [],_::_,hi=>hi
 | _::_,[],hi=>hi
end
theorem Its.get {h:Hp}:∀ {vs:List Nat} {ts:List Tr},Its h vs ts→∀ (j:Nat) (hj:j<ts.length),∃ v,vs[j]? = some v∧It h v ts[j]
 | v::vs,t::ts,hi,0,_=>⟨v,rfl,hi.1⟩
 | v::vs,t::ts,hi,j+1,hj=>by
   obtain⟨u,h1,h2⟩:=Its.get hi.2 j (by simpa using hj)
   exact⟨u,by simpa using h1,by simpa using h2⟩
 | [],[],_,j,hj=>by cases hj
 | [],_::_,hi,_,_=>by cases hi
 | _::_,[],hi,_,_=>by cases hi
theorem Kids.read {h:Hp} {s:bT} {vs:List Nat} (K:Kids h s vs) {j v:Nat} (hv:vs[j]? = some v):s.a.isSome=true∧hread h (s.a.map fun x=>(x.1,x.2+j*1+0)) 1=some [cu v]:=by
 have hj:=(List.getElem?_eq_some_iff.1 hv).1
 rcases K.own with ⟨h1,h2⟩ | ⟨c,o,h1,h2,h3,h4,h5,h6,h7⟩
 · have:=congrArg List.length h2;simp at this;rw[this] at hj;cases hj
 · have hl:=K.len
   rw[h1]
   refine⟨rfl,?_⟩
   simp only[Option.map_some,Nat.zero_add,Nat.mul_one,Nat.add_zero]
   rw[bu h2,if_pos (by omega)]
   have e:(o.cs.take (s.n*1))[j]? = some (cu v):=by rw[← h7,List.getElem?_map,hv];rfl
   rw[List.getElem?_take,if_pos (by omega)] at e
   rw[List.drop_eq_getElem_cons (by omega)]
   have e2:o.cs[j]'(by omega)=cu v:=by
    have:=List.getElem?_eq_getElem (l:=o.cs) (i:=j) (by omega)
    rw[this] at e;exact Option.some.inj e
   rw[e2];rfl
theorem zF {ks:List Tr} {j:Nat} (hj:j<ks.length):Tr.jc (ks.take (j+1))=Tr.jc (ks.take j)++ks[j].qL:=by
 rw[List.take_succ_eq_append_getElem hj,ql,qM,FN,List.append_nil]
mutual
theorem Tr.aah:∀ t:Tr,t.n=t.sz+1
 | .nd k l c n x ks=>by
   have:=Tr.Ic ks
   simp only[Tr.n,Tr.qL,List.length_cons,Tr.sz]
   simp only[Tr.ns] at this
   omega
theorem Tr.Ic:∀ ks:List Tr,Tr.ns ks=Tr.szs ks
 | []=>rfl
 | t::ks=>by
   rw[aA,Tr.aah t,Tr.Ic ks,Tr.szs]
end
theorem uI:∀ ks:List Tr,ks.length≤Tr.ns ks
 | []=>Nat.zero_le _
 | t::ks=>by
   have:=uI ks
   rw[aA,Tr.aah t,List.length_cons];omega
structure LI (h:Hp) (s:bT) (acc:List zB) (nd0:zB) (ks:List Tr) (j:Nat) (s4:bT) (k1:Hp):Prop where
 own:fJ k1 s4 (vg (acc++nd0::Tr.jc (ks.take j))) ND 6
 len:s4.n=acc.length+1+Tr.ns (ks.take j)
 kp:∀ c o,(∀ z,s.a=some z→z.1≠c)→h c=some o→k1 c=some o
 fr:∀ z,s4.a=some z→(∃ y,s.a=some y∧y.1=z.1)∨h z.1=none
def Xe (h:Hp) (s:bT) (acc:List zB) (nd0:zB) (ks:List Tr) (v:Nat) (ksl:bT):Nat→Ctx→Prop:=fun _ C=>
 ∃ a0 a1 a2 a3 a4 x0 l1 l2 s4 k1,∃ j:Nat,C=⟨[a0,a1,a2,a3,a4,(j:Nat)],[],[x0],[],[s,l1,l2,ksl,s4],[some (v,0)],k1,dM⟩∧j≤ks.length∧LI h s acc nd0 ks j s4 k1
set_option maxHeartbeats 8000000 in
theorem BP:∀ N,abh N
 | 0=>by
   rintro args h φ w ⟨v,t,s,acc,rfl,ht,_⟩ hH
   rw[t.aah] at ht;omega
 | N+1=>by
   have ih:=BP N
   rintro args h φ w ⟨v,t,s,acc,rfl,ht,hI,hown,hsn,hmax,hφ⟩ hH
   cases t with
   | nd k l c n x ks=>
   have hIall:=hI
   obtain⟨ksl,vs,hv,hK,hIs⟩:=hI
   have hnn:(Tr.nd k l c n x ks).n=Tr.ns ks+1:=by simp[Tr.n,Tr.ns,Tr.qL]
   have hkl:=hIs.len
   have hge:=uI ks
   have hksn:=hK.len
   rw[hnn] at ht hmax hφ
   obtain⟨nd0,hnd0⟩:∃ y:zB,y=⟨k,l,c,0,n,x⟩:=⟨_,rfl⟩
   have hnc:nd0.cs=[.int .u8 k,.int .i64 l,.int .i64 c,.int .i64 0,.int .i64 n,.string (B x)]:=by rw[hnd0];rfl
   refine dR (bJ Tryz.func47 ZX acD [Ep ih] (fun v k=>∃ k',dP k' k∧φ v k') (Xe h s acc nd0 ks v ksl) (fun _ C=>((ks.length:Int) - C.i.getD 5 0).toNat) ⟨[],[],[],[],[s],[some (v,0)],h,dM⟩ ⟨rfl,rfl,rfl,rfl,rfl,rfl⟩ af ?_ w hH rfl)
   generalize hE:(⟨az _,_,_,_⟩:Env)=E
   have s_ctL:E.spec 47=(Ep ih).spec:=by rw[← hE];rfl
   have ep:E.post=(fun v k=>∃ k',dP k' k∧φ v k'):=by rw[← hE]
   have ei:E.inv=(Xe h s acc nd0 ks v ksl):=by rw[← hE]
   have em:E.meas=(fun _ C=>((ks.length:Int) - C.i.getD 5 0).toNat):=by rw[← hE]
   clear hE
   unfold V8
   have hsb:∀ z,s.a=some z→∃ cs,h z.1=some ⟨cs,ND⟩:=fun z hz=>hown.ty hz
   have hvs:∀ z,s.a=some z→z.1≠v:=fun z hz e=>by
    obtain⟨cs,h1⟩:=hsb z hz
    rw[e,hv] at h1;exact abG (HO.mk.inj (Option.some.inj h1)).2.symm
   rw[aj]
   refine⟨by simp[go_sem],?_⟩
   rw[ae,aj]
   refine⟨by simp[go_sem],?_⟩
   have hr0:hread h (some (v,0)) 6=some [.int .u8 k,.int .i64 l,.int .i64 c,.int .i64 0,.int .i64 n,.string (B x)]:=by rw[bu hv];rfl
   rw[ae,ax,if_pos (by rfl)]
   refine (ai _ _).2 ⟨⟨[k,l,c,0,n],[],[x],[],[],[]⟩,rfl,af,hr0,?_⟩
   rw[ae,aT]
   intro nb hnb
   have hnb':h nb=none:=hnb
   rw[ae,dG]
   have hm:(2000001:Nat)≤maxLen:=by decide
   have hnsb:∀ z,s.a=some z→z.1≠nb:=fun z hz e=>by
    obtain⟨cs,h1⟩:=hsb z hz
    rw[e,hnb'] at h1;cases h1
   have hx1:∀ (C:Ctx),C.l=[s,⟨some (nb,0),1,1⟩]→((LE.x 0).den C)=s∧((LE.x 1).den C)=⟨some (nb,0),1,1⟩:=fun C hC=>by simp[LE.den,hC]
   refine⟨vg acc,nd0.cs,nz hown hnsb _,.inr ⟨by simp[go_sem],?_⟩,?_,?_,?_,?_⟩
   · simp[go_sem,hnc]
   · intro u hu
     simp only[hnc,List.mem_cons,List.not_mem_nil,or_false] at hu
     rcases hu with rfl | rfl | rfl | rfl | rfl | rfl<;>rfl
   · simp[go_sem];omega
   · simp[go_sem];omega
   intro s4 k1 g1 g2 g3 g4
   have g2':s4.n=s.n+1:=g2
   have kp1:∀ c o,(∀ z,s.a=some z→z.1≠c)→h c=some o→k1 c=some o:=fun c o hc ho=>g4 c o hc (by
    show (h.set nb _) c=some o
    rw[aU _ (fun e=>by rw[e,hnb'] at ho;cases ho)];exact ho)
   have L0:LI h s acc nd0 ks 0 s4 k1:=by
    have g1':fJ k1 s4 (vg acc++nd0.cs) ND 6:=g1
    refine⟨by rw[List.take_zero,FN,Ia,Ci];show fJ k1 s4 (vg acc++(nd0.cs++[])) ND 6;rw[List.append_nil];exact g1',by rw[List.take_zero,bg,g2',hsn],kp1,fun z hz=>?_⟩
    rcases g3 z hz with hh | hh
    · exact .inl hh
    · have hh':(h.set nb ⟨nd0.cs,ND⟩) z.1=none:=by rw[hnc];exact hh
      rw[aU _ (fun e=>by rw[e,au] at hh';cases hh')] at hh'
      exact .inr hh'
   rw[aj]
   refine⟨by simp[go_sem],?_⟩
   rw[ae,aj]
   refine⟨by simp[go_sem],?_⟩
   have hr6:hread k1 (some (v,6)) 1=some [ksl.val]:=BN (kp1 v _ hvs hv)
   rw[ae,ax,if_pos (by rfl)]
   refine (ai _ _).2 ⟨⟨[],[],[],[],[ksl],[]⟩,rfl,af,hr6,?_⟩
   simp[go_sem]
   rw[ae]
   refine dB ?_ ?_
   · rw[ei]
     exact⟨_,_,_,_,_,_,_,_,s4,k1,0,rfl,Nat.zero_le _,L0⟩
   rw[ei,em]
   rintro i' bb ss v' ll pp hh0 M ⟨a0,a1,a2,a3,a4,x0,l1,l2,s4,k1,j,hC,hj,I⟩ hM
   cases hC
   have hM':M 0=((ks.length:Int) - j).toNat:=hM
   clear hM L0 g1 g2 g3 g4 g2' kp1 hr6 hr0 hx1 hnb hnb' hnsb
   have hIk:Its hh0 vs ks:=Its.keep (fun c o ho hc=>I.kp c o (fun z hz e=>by
    obtain⟨cs,h1⟩:=hsb z hz
    rw[e,hc] at h1;cases h1;exact ho rfl) hc) _ _ hIs
   have hKk:Kids hh0 ksl vs:=hK.keep fun z cs hz hc=>I.kp _ _ (fun y hy e=>by
    obtain⟨cs',h1⟩:=hsb y hy
    rw[e,hc] at h1;exact abH (HO.mk.inj (Option.some.inj h1)).2.symm) hc
   by_cases hjl:j<ks.length
   · obtain⟨u,hu,hIu⟩:=hIk.get j hjl
     obtain⟨hsome,hread1⟩:=hKk.read hu
     have e1:=zF hjl
     have hns:Tr.ns (ks.take (j+1))=Tr.ns (ks.take j)+ks[j].n:=by simp only[Tr.ns,Tr.n,e1,List.length_append]
     have hle2:Tr.ns (ks.take (j+1))≤Tr.ns ks:=by
      have:=nU (ks.take (j+1)) (ks.drop (j+1))
      rw[List.take_append_drop] at this;omega
     rw[ah,if_pos (by simp[go_sem];omega)]
     rw[ae,aj]
     refine⟨by simp[go_sem];exact⟨by omega,hsome⟩,?_⟩
     rw[ae,ax,if_pos (by rfl)]
     refine (ai _ _).2 ⟨⟨[],[],[],[],[],[some (u,0)]⟩,rfl,af,?_,?_⟩
     · simpa[go_sem,cu] using hread1
     rw[ae,ag,if_pos (by rfl),s_ctL]
     refine⟨u,ks[j],s4,acc++nd0::Tr.jc (ks.take j),by simp[go_sem,cu],by omega,hIu,I.own,by rw[I.len];simp[Tr.ns];omega,by simp[Tr.ns] at hns hle2 hmax ⊢;omega,fun s5 k2 q1 q2 q3 q4=>?_⟩
     have q1':fJ k2 s5 (vg (acc++nd0::Tr.jc (ks.take (j+1)))) ND 6:=by rw[e1];simpa using q1
     have I':LI h s acc nd0 ks (j+1) s5 k2:=by
      refine⟨q1',by rw[q2,hns];simp[Tr.ns];omega,fun c o hc ho=>q3 c o (fun z hz e=>?_) (I.kp c o hc ho),fun z hz=>?_⟩
      · rcases I.fr z hz with ⟨y,hy,e2⟩ | hn
        · exact hc y hy (e2.trans e)
        · rw[e,ho] at hn;cases hn
      · rcases q4 z hz with ⟨y,hy,e2⟩ | hn
        · rcases I.fr y hy with ⟨y',hy',e3⟩ | hn
          · exact .inl ⟨y',hy',e3.trans e2⟩
          · exact .inr (by rw[← e2];exact hn)
        · by_cases hex:∃ y,s.a=some y∧y.1=z.1
          · exact .inl hex
          · cases hq:h z.1 with
            | none=>exact .inr rfl
            | some o=>have hn':hh0 z.1=none:=hn;rw[I.kp z.1 o (fun y hy e=>hex ⟨y,hy,e⟩) hq] at hn';cases hn'
     simp[go_sem]
     rw[ae,aj]
     refine⟨by simp[go_sem];omega,?_⟩
     rw[ae,says_again,ei,em]
     refine⟨⟨_,_,_,_,_,_,_,_,s5,k2,j+1,rfl,by omega,I'⟩,?_⟩
     simp[go_sem]
     omega
   · obtain rfl:j=ks.length:=by omega
     have hown4:=I.own
     rw[List.take_length] at hown4
     have hlen4:=I.len
     rw[List.take_length] at hlen4
     have hcl:(vg (acc++nd0::Tr.jc ks)).length=(acc.length+1+Tr.ns ks)*6:=by rw[Rf];simp[Tr.ns];omega
     obtain⟨cb,o,p1,p2,p3,p4⟩:=hown4.adX (j:=acc.length*6+3) (by omega) (.int .i64 (Tr.ns ks:Nat))
     have hz:((s4.n:Int) - s.n - 1)=(Tr.ns ks:Nat):=by omega
     rw[ah,if_neg (by simp[go_sem];omega)]
     rw[ae,aj]
     refine⟨by simp[go_sem];omega,?_⟩
     rw[ae,aj]
     refine⟨by simp[go_sem];omega,?_⟩
     rw[ae,aj]
     refine⟨by simp[go_sem,p1];omega,?_⟩
     rw[ae,aj]
     refine⟨by simp[go_sem,p1],?_⟩
     rw[ae,aQ]
     refine⟨_,by simp only[AE.den,CE.den,IE.den,LE.den,List.map_cons,List.map_nil,List.getD_cons_zero,List.getD_cons_succ];simp only[p1,Option.map_some,Nat.zero_add,hz];rw[hsn];exact p3,?_⟩
     rw[ae,ak,ep]
     refine⟨_,fun _ _ h=>h,?_⟩
     refine hφ s4 _ ?_ (by omega) (fun c' o' hc ho'=>?_) I.fr
     · have e:(vg (acc++nd0::Tr.jc ks)).take (acc.length*6+3)++[Value.int .i64 (Tr.ns ks:Nat)]++(vg (acc++nd0::Tr.jc ks)).drop (acc.length*6+3+1)=vg (acc++(Tr.nd k l c n x ks).qL):=by
        have hal:=Rf acc
        rw[Tr.qL,← Tr.Ic,Ia,Ci,Ia,Ci]
        have t1:(vg acc++(nd0.cs++vg (Tr.jc ks))).take (acc.length*6+3)=vg acc++nd0.cs.take 3:=by
         rw[List.take_append,List.take_of_length_le (by omega),hal,show acc.length*6+3 - acc.length*6=3 by omega];rfl
        have t2:(vg acc++(nd0.cs++vg (Tr.jc ks))).drop (acc.length*6+3+1)=nd0.cs.drop 4++vg (Tr.jc ks):=by
         rw[List.drop_append,List.drop_of_length_le (by omega),hal,show acc.length*6+3+1 - acc.length*6=4 by omega];rfl
        rw[t1,t2]
        rw[hnc];simp[zB.cs]
       rw[← e];exact p4
     · have hcc:c'≠cb:=fun e=>by
        rcases I.fr _ p1 with ⟨y,hy,e2⟩ | hn
        · exact hc y hy (e2.trans e.symm)
        · rw[← e,ho'] at hn;cases hn
       show (hh0.set cb _) c'=some o'
       rw[aU _ hcc]
       exact I.kp c' o' hc ho'
end Go.Proofs.YtllbpdllkkcajaaGreatDoor
namespace Go.Proofs.YtllbpdllkkcajaaGreatDoor
open Go.RowKit
attribute [local go_sem] bI bH aj ah ag aS ax aQ aT fC jR jm ak says_again dG BE.den IE.den SE.den LE.den AE.den CE.den PE.den VE.den KV.val dO.den dO.cnt jO fD jX allL Ctx.push Ctx.heap Ctx.cut Ctx.bare Ctx.mark Inc.blank List.getD_cons_zero List.getD_cons_succ List.cons_append List.nil_append List.append_nil List.map_cons List.map_nil List.replicate_zero List.replicate_succ az dm bY dh cO dK dJ bC bz bD bW bV aH aX aI aG au aP aO dH af and_assoc
def EO:Fm:=(.ite (.and (.le (.c 65) (.x 0)) (.le (.x 0) (.c 70)))
 (.C 168 [.W [48,49,50,51,52,53,54,55,56,57,97,98,99,100,101,102],(.one (.i .u8 (.wr .u8 (.add (.x 0) (.c 32)))))] (.p (.J 1)) ⟨1,0,0,0,0,0⟩
 (.ret (.p (.J 1))))
 (.C 168 [.W [48,49,50,51,52,53,54,55,56,57,97,98,99,100,101,102],(.one (.U 0))] (.p (.J 1)) ⟨1,0,0,0,0,0⟩
 (.ret (.p (.J 1)))))
theorem N8:bG ⟨true,[]⟩ Tryz.prog (fun l=>([]:List bZ).getD l ⟨[],[],[]⟩) Tryz.f158=EO:=by kernel_rfl
theorem Uz:aF Tryz.prog .zero Tryz.f158.params.toList=some ([(.one (.U 0))],⟨1,0,0,0,0,0⟩):=by kernel_rfl
def J5:Fm:=(.need (.not (.eqS (.x 0) (.c []))) (.and (.le (.c 0) (.c 0)) (.lt (.c 0) (.len (.x 0))))
 (.ite (.or (.eqS (.x 0) (.c [])) (.not (.eqI (.at (.x 0) (.c 0)) (.c 34))))
 (.ret (.tup [.W [],(.I (.c 0)),(.one (.b (.c false)))]))
 (.new [(.c .nilp),(.sl .nil)] 46
 (.loop 0 ⟨[(.c 0),(.c 1)],[(.c false)],[(.c [])],[],[],[]⟩
 (.need (.not (.eqI (.x 1) (.len (.x 0)))) (.and (.le (.c 0) (.x 1)) (.lt (.x 1) (.len (.x 0))))
 (.need (.not (.or (.eqI (.x 1) (.len (.x 0))) (.lt (.at (.x 0) (.x 1)) (.c 32)))) (.and (.le (.c 0) (.x 1)) (.lt (.x 1) (.len (.x 0))))
 (.ite (.or (.or (.eqI (.x 1) (.len (.x 0))) (.lt (.at (.x 0) (.x 1)) (.c 32))) (.lt (.c 126) (.at (.x 0) (.x 1))))
 (.ret (.tup [.W [],.J 1,(.one (.b (.c false)))]))
 (.N (.and (.le (.c 0) (.x 1)) (.lt (.x 1) (.len (.x 0))))
 (.ite (.eqI (.at (.x 0) (.x 1)) (.c 34))
 (.C 27 [.P 0] (.p (.S 2)) ⟨0,0,1,0,0,0⟩
 (.N (.R (.add (.x 1) (.c 1)))
 (.ret (.tup [.S 2,(.I (.add (.x 1) (.c 1))),(.one (.b (.c true)))]))))
 (.ite (.not (.eqI (.at (.x 0) (.x 1)) (.c 92)))
 (.C 93 [.P 0,(.one (.i .u8 (.at (.x 0) (.x 1))))] (.p (.one (.v 0))) ⟨0,0,0,1,0,0⟩
 (.N (.R (.add (.x 1) (.c 1)))
 (.again 0 ⟨0,0,1,0,0,1⟩ ⟨2,1,2,0,0,1⟩ ⟨[(.x 0),(.add (.x 1) (.c 1))],[(.x 0)],[(.x 1)],[],[],[]⟩)))
 (.N (.R (.add (.x 1) (.c 1)))
 (.ite (.eqI (.add (.x 1) (.c 1)) (.len (.x 0)))
 (.ret (.tup [.W [],(.I (.add (.x 1) (.c 1))),(.one (.b (.c false)))]))
 (.N (.and (.le (.c 0) (.add (.x 1) (.c 1))) (.lt (.add (.x 1) (.c 1)) (.len (.x 0))))
 (.ite (.eqI (.at (.x 0) (.add (.x 1) (.c 1))) (.c 34))
 (.ite (.eqI (.at (.x 0) (.add (.x 1) (.c 1))) (.c 34))
 (.N (.and (.le (.c 0) (.add (.x 1) (.c 1))) (.lt (.add (.x 1) (.c 1)) (.len (.x 0))))
 (.C 93 [.P 0,(.one (.i .u8 (.at (.x 0) (.add (.x 1) (.c 1)))))] (.p (.one (.v 0))) ⟨0,0,0,1,0,0⟩
 (.N (.R (.add (.add (.x 1) (.c 1)) (.c 1)))
 (.again 0 ⟨0,0,1,0,0,1⟩ ⟨2,1,2,0,0,1⟩ ⟨[(.x 0),(.add (.add (.x 1) (.c 1)) (.c 1))],[(.x 0)],[(.x 1)],[],[],[]⟩))))
 (.ite (.eqI (.at (.x 0) (.add (.x 1) (.c 1))) (.c 110))
 (.C 93 [.P 0,(.one (.i .u8 (.c 10)))] (.p (.one (.v 0))) ⟨0,0,0,1,0,0⟩
 (.N (.R (.add (.add (.x 1) (.c 1)) (.c 1)))
 (.again 0 ⟨0,0,1,0,0,1⟩ ⟨2,1,2,0,0,1⟩ ⟨[(.x 0),(.add (.add (.x 1) (.c 1)) (.c 1))],[(.x 0)],[(.x 1)],[],[],[]⟩)))
 (.ite (.eqI (.at (.x 0) (.add (.x 1) (.c 1))) (.c 116))
 (.C 93 [.P 0,(.one (.i .u8 (.c 9)))] (.p (.one (.v 0))) ⟨0,0,0,1,0,0⟩
 (.N (.R (.add (.add (.x 1) (.c 1)) (.c 1)))
 (.again 0 ⟨0,0,1,0,0,1⟩ ⟨2,1,2,0,0,1⟩ ⟨[(.x 0),(.add (.add (.x 1) (.c 1)) (.c 1))],[(.x 0)],[(.x 1)],[],[],[]⟩)))
 (.ite (.eqI (.at (.x 0) (.add (.x 1) (.c 1))) (.c 120))
 (.loop 1 ⟨[(.x 0),(.add (.x 1) (.c 1)),(.c 0),(.c 0)],[(.x 0)],[(.x 1)],[],[],[]⟩
 (.ite (.lt (.x 5) (.c 2))
 (.N (.R (.add (.x 3) (.c 1)))
 (.need (.not (.eqI (.add (.x 3) (.c 1)) (.len (.x 0)))) (.and (.le (.c 0) (.add (.x 3) (.c 1))) (.lt (.add (.x 3) (.c 1)) (.len (.x 0))))
 (.call (.not (.eqI (.add (.x 3) (.c 1)) (.len (.x 0)))) false 158 [(.one (.i .u8 (.at (.x 0) (.add (.x 3) (.c 1)))))] (.p (.J 6)) ⟨1,0,0,0,0,0⟩
 (.ite (.or (.eqI (.add (.x 3) (.c 1)) (.len (.x 0))) (.lt (.x 6) (.c 0)))
 (.ret (.tup [.W [],(.I (.add (.x 3) (.c 1))),(.one (.b (.c false)))]))
 (.N (.R (.mul (.c 16) (.x 4)))
 (.N (.and (.le (.c 0) (.add (.x 3) (.c 1))) (.lt (.add (.x 3) (.c 1)) (.len (.x 0))))
 (.C 158 [(.one (.i .u8 (.at (.x 0) (.add (.x 3) (.c 1)))))] (.p (.J 7)) ⟨1,0,0,0,0,0⟩
 (.N (.R (.add (.mul (.c 16) (.x 4)) (.x 7)))
 (.N (.R (.add (.x 5) (.c 1)))
 (.again 1 ⟨2,1,2,0,0,1⟩ ⟨6,2,3,0,0,1⟩ ⟨[(.x 2),(.add (.x 3) (.c 1)),(.add (.mul (.c 16) (.x 4)) (.x 7)),(.add (.x 5) (.c 1))],[(.x 1)],[(.x 2)],[],[],[]⟩))))))))))
 (.C 93 [.P 0,(.one (.i .u8 (.wr .u8 (.x 4))))] (.p (.one (.v 0))) ⟨0,0,0,1,0,0⟩
 (.N (.R (.add (.x 3) (.c 1)))
 (.again 0 ⟨0,0,1,0,0,1⟩ ⟨2,1,2,0,0,1⟩ ⟨[(.x 2),(.add (.x 3) (.c 1))],[(.x 1)],[(.x 2)],[],[],[]⟩)))))
 (.ret (.tup [.W [],(.I (.add (.x 1) (.c 1))),(.one (.b (.c false)))]))))))
 (.ite (.eqI (.at (.x 0) (.add (.x 1) (.c 1))) (.c 92))
 (.N (.and (.le (.c 0) (.add (.x 1) (.c 1))) (.lt (.add (.x 1) (.c 1)) (.len (.x 0))))
 (.C 93 [.P 0,(.one (.i .u8 (.at (.x 0) (.add (.x 1) (.c 1)))))] (.p (.one (.v 0))) ⟨0,0,0,1,0,0⟩
 (.N (.R (.add (.add (.x 1) (.c 1)) (.c 1)))
 (.again 0 ⟨0,0,1,0,0,1⟩ ⟨2,1,2,0,0,1⟩ ⟨[(.x 0),(.add (.add (.x 1) (.c 1)) (.c 1))],[(.x 0)],[(.x 1)],[],[],[]⟩))))
 (.ite (.eqI (.at (.x 0) (.add (.x 1) (.c 1))) (.c 110))
 (.C 93 [.P 0,(.one (.i .u8 (.c 10)))] (.p (.one (.v 0))) ⟨0,0,0,1,0,0⟩
 (.N (.R (.add (.add (.x 1) (.c 1)) (.c 1)))
 (.again 0 ⟨0,0,1,0,0,1⟩ ⟨2,1,2,0,0,1⟩ ⟨[(.x 0),(.add (.add (.x 1) (.c 1)) (.c 1))],[(.x 0)],[(.x 1)],[],[],[]⟩)))
 (.ite (.eqI (.at (.x 0) (.add (.x 1) (.c 1))) (.c 116))
 (.C 93 [.P 0,(.one (.i .u8 (.c 9)))] (.p (.one (.v 0))) ⟨0,0,0,1,0,0⟩
 (.N (.R (.add (.add (.x 1) (.c 1)) (.c 1)))
 (.again 0 ⟨0,0,1,0,0,1⟩ ⟨2,1,2,0,0,1⟩ ⟨[(.x 0),(.add (.add (.x 1) (.c 1)) (.c 1))],[(.x 0)],[(.x 1)],[],[],[]⟩)))
 (.ite (.eqI (.at (.x 0) (.add (.x 1) (.c 1))) (.c 120))
 (.loop 1 ⟨[(.x 0),(.add (.x 1) (.c 1)),(.c 0),(.c 0)],[(.x 0)],[(.x 1)],[],[],[]⟩
 (.ite (.lt (.x 5) (.c 2))
 (.N (.R (.add (.x 3) (.c 1)))
 (.need (.not (.eqI (.add (.x 3) (.c 1)) (.len (.x 0)))) (.and (.le (.c 0) (.add (.x 3) (.c 1))) (.lt (.add (.x 3) (.c 1)) (.len (.x 0))))
 (.call (.not (.eqI (.add (.x 3) (.c 1)) (.len (.x 0)))) false 158 [(.one (.i .u8 (.at (.x 0) (.add (.x 3) (.c 1)))))] (.p (.J 6)) ⟨1,0,0,0,0,0⟩
 (.ite (.or (.eqI (.add (.x 3) (.c 1)) (.len (.x 0))) (.lt (.x 6) (.c 0)))
 (.ret (.tup [.W [],(.I (.add (.x 3) (.c 1))),(.one (.b (.c false)))]))
 (.N (.R (.mul (.c 16) (.x 4)))
 (.N (.and (.le (.c 0) (.add (.x 3) (.c 1))) (.lt (.add (.x 3) (.c 1)) (.len (.x 0))))
 (.C 158 [(.one (.i .u8 (.at (.x 0) (.add (.x 3) (.c 1)))))] (.p (.J 7)) ⟨1,0,0,0,0,0⟩
 (.N (.R (.add (.mul (.c 16) (.x 4)) (.x 7)))
 (.N (.R (.add (.x 5) (.c 1)))
 (.again 1 ⟨2,1,2,0,0,1⟩ ⟨6,2,3,0,0,1⟩ ⟨[(.x 2),(.add (.x 3) (.c 1)),(.add (.mul (.c 16) (.x 4)) (.x 7)),(.add (.x 5) (.c 1))],[(.x 1)],[(.x 2)],[],[],[]⟩))))))))))
 (.C 93 [.P 0,(.one (.i .u8 (.wr .u8 (.x 4))))] (.p (.one (.v 0))) ⟨0,0,0,1,0,0⟩
 (.N (.R (.add (.x 3) (.c 1)))
 (.again 0 ⟨0,0,1,0,0,1⟩ ⟨2,1,2,0,0,1⟩ ⟨[(.x 2),(.add (.x 3) (.c 1))],[(.x 1)],[(.x 2)],[],[],[]⟩)))))
 (.ret (.tup [.W [],(.I (.add (.x 1) (.c 1))),(.one (.b (.c false)))]))))))))))))))))))))
theorem TM:bG ⟨true,[5]⟩ Tryz.prog (fun l=>([⟨[2,3,4,6],[16,17,18,19,20,21,22,23,24,25,26,27,28,29,30,31,32,33,34,35,7,37,38,36,39,40,41,43,44,42,45,46,47,48,49,50,51,52,53,54,55,56,57,58,61,60,62,63,64,65,66,68,67,69,71,70,72,74,73,8,75,76,77,78,79,80,81,82,83,84,85,86,87,88,89,90,91,92,93,94,95,96,97,98,99,100,101,59,102,103],[]⟩,⟨[6,2,3,4,8,75],[76,77,78,79,80,81,82,83,84,85,86,87,88,89,90,91,92,93,94,95,96,97,98],[]⟩]:List bZ).getD l ⟨[],[],[]⟩) Tryz.f143=J5:=by kernel_rfl
theorem X0:aF Tryz.prog .zero Tryz.f143.params.toList=some ([.S 0],⟨0,0,1,0,0,0⟩):=by kernel_rfl
def QM:Fm:=(.C 143 [.S 0] (.tup [.S 1,.J 0,.B 0]) ⟨1,1,1,0,0,0⟩
 (.ret (.tup [.J 0,.B 0])))
theorem WL:bG ⟨true,[]⟩ Tryz.prog (fun l=>([]:List bZ).getD l ⟨[],[],[]⟩) Tryz.f121=QM:=by kernel_rfl
theorem aaE:aF Tryz.prog .zero Tryz.f121.params.toList=some ([.S 0],⟨0,0,1,0,0,0⟩):=by kernel_rfl
def QN:Fm:=(.C 143 [.S 0] (.tup [.S 1,.J 0,.B 0]) ⟨1,1,1,0,0,0⟩
 (.ite (.or (.not (.x 0)) (.not (.eqI (.x 0) (.len (.x 0)))))
 (.ret (.tup [.W [],(.I (.c 2))]))
 (.ret (.tup [.S 1,(.I (.c 0))]))))
theorem WN:bG ⟨true,[]⟩ Tryz.prog (fun l=>([]:List bZ).getD l ⟨[],[],[]⟩) Tryz.f122=QN:=by kernel_rfl
theorem aaG:aF Tryz.prog .zero Tryz.f122.params.toList=some ([.S 0],⟨0,0,1,0,0,0⟩):=by kernel_rfl
def Bz:Fm:=(.O (.pt 0 0) 1 [(.s (.x 1))] ⟨0,0,1,0,0,0⟩
 (.O (.pt 0 1) 1 [.J 4] ⟨1,0,0,0,0,0⟩
 (.Z 0
 (.Z 0
 (.Z 0
 (.Z 0
 (.N (.and (.le (.c 0) (.x 4)) (.le (.x 4) (.len (.x 1))))
 (.callK (.c true) [((.c true),(.pt 0 0),1),((.c true),(.pt 0 1),1)] 121 [(.one (.s (.sub (.x 1) (.x 4) (.len (.x 1)))))] (.tup [.J 5,.B 0]) ⟨1,1,0,0,0,0⟩
 (.ite (.not (.x 0))
 (.ret (.tup [(.agg [(.i .u8 (.c 0)),(.i .i64 (.c 0)),(.i .i64 (.c 0)),(.i .i64 (.c 0)),(.s (.c []))]),(.I (.c 4))]))
 (.O (.pt 0 0) 1 [(.s (.x 2))] ⟨0,0,1,0,0,0⟩
 (.O (.pt 0 1) 1 [.J 6] ⟨1,0,0,0,0,0⟩
 (.O (.pt 0 1) 1 [.J 7] ⟨1,0,0,0,0,0⟩
 (.Z 0
 (.Z 0
 (.Z 0
 (.Z 0
 (.Z 0
 (.Z 0
 (.N (.R (.add (.x 7) (.x 5)))
 (.N (.and (.and (.le (.c 0) (.add (.x 7) (.x 5))) (.le (.add (.x 7) (.x 5)) (.len (.x 2)))) (.and (.le (.c 0) (.x 6)) (.le (.x 6) (.add (.x 7) (.x 5)))))
 (.callK (.c true) [((.c true),(.pt 0 0),1),((.c true),(.pt 0 1),1),((.c true),(.pt 0 1),1)] 122 [(.one (.s (.sub (.x 2) (.x 6) (.add (.x 7) (.x 5)))))] (.tup [.S 3,.J 8]) ⟨1,0,1,0,0,0⟩
 (.V 114 [.P 0,.J 5]
 (.ret (.tup [(.agg [(.i .u8 (.c 5)),.J 1,.J 2,.J 3,(.s (.x 3))]),.J 8]))))))))))))))))))))))))
theorem KJ:bG ⟨true,[]⟩ Tryz.prog (fun l=>([]:List bZ).getD l ⟨[],[],[]⟩) Tryz.f78=Bz:=by kernel_rfl
theorem Pe:aF Tryz.prog .zero Tryz.f78.params.toList=some ([.P 0,.K 0 1 2 3 0],⟨4,0,1,0,0,1⟩):=by kernel_rfl
def HD:List UInt8:=[48,49,50,51,52,53,54,55,56,57,97,98,99,100,101,102]
def yO:Ct Tryz.prog where
 f:=168
 spec:=fun args h φ=>∃ s c,args=[.string (B s),.int .u8 c]∧φ (.int .i64 (Lib.indexByte s c.toNat.toUInt8)) h
 ok:=by
  rintro args h φ w ⟨s,c,rfl,hφ⟩ hH
  exact zN (v:=.int .i64 (Lib.indexByte s c.toNat.toUInt8)) ((Tryz.strings_IndexByte (B s) c w).mono fun e w' ⟨he,hw⟩=>⟨he,hw.symm⟩) hφ hH
theorem WW (c:Int) (h0:0≤c) (h1:c≤255):Lib.indexByte HD c.toNat.toUInt8=if 48≤c∧c≤57 then c - 48 else if 97≤c∧c≤102 then c - 87 else -1:=by
 have hall:∀ n:Fin 256,Lib.indexByte HD n.val.toUInt8=if 48≤(n.val:Int)∧(n.val:Int)≤57 then (n.val:Int) - 48 else if 97≤(n.val:Int)∧(n.val:Int)≤102 then (n.val:Int) - 87 else -1:=by decide +kernel
 have:=hall ⟨c.toNat,by omega⟩
 simp only[Int.toNat_of_nonneg h0] at this
 exact this
def vT:Ct Tryz.prog where
 f:=158
 spec:=fun args h φ=>∃ c:Int,args=[.int .u8 c]∧0≤c∧c≤255∧φ (.int .i64 (hx c)) h
 ok:=by
  rintro args h φ w ⟨c,rfl,c0,c1,hφ⟩ hH
  refine bJ Tryz.func158 N8 Uz [yO] φ di bF ⟨[c],[],[],[],[],[],h,dM⟩ ⟨rfl,rfl,rfl,rfl,rfl,rfl⟩ af ?_ w hH rfl
  generalize hE:(⟨az _,_,_,_⟩:Env)=E
  have s1:E.spec 168=yO.spec:=by rw[← hE];rfl
  have ep:E.post=φ:=by rw[← hE]
  clear hE
  unfold EO
  rw[ah]
  by_cases hc:65≤c∧c≤70
  · rw[if_pos (by simp[go_sem,hc.1,hc.2]),ae,ag,if_pos (by rfl),s1]
    have hw:IntKind.u8.wrap (c+32)=c+32:=by rw[IntKind.wrap_u8];omega
    refine⟨HD,c+32,by simp[go_sem,hw,HD],?_⟩
    rw[WW _ (by omega) (by omega),if_neg (by omega),if_pos (by omega)]
    have e:hx c=c+32 - 87:=by
     unfold hx;rw[if_neg (by omega),if_neg (by omega),if_pos hc];omega
    rw[← e]
    simp[go_sem]
    simp only[ae];simp[go_sem,ep,hφ]
  · rw[if_neg (by simp[go_sem];omega),ae,ag,if_pos (by rfl),s1]
    refine⟨HD,c,by simp[go_sem,HD],?_⟩
    have e:hx c=if 48≤c∧c≤57 then c - 48 else if 97≤c∧c≤102 then c - 87 else -1:=by
     unfold hx;rw[if_neg hc]
    rw[WW _ c0 c1,← e]
    simp[go_sem]
    simp only[ae];simp[go_sem,ep,hφ]
end Go.Proofs.YtllbpdllkkcajaaGreatDoor
namespace Go.Proofs.YtllbpdllkkcajaaGreatDoor
open Go.RowKit
attribute [local go_sem] bI bH aj ah ag aS ax aQ aT fC jR jm ak says_again dG BE.den IE.den SE.den LE.den AE.den CE.den PE.den VE.den KV.val dO.den dO.cnt jO fD jX allL Ctx.push Ctx.heap Ctx.cut Ctx.bare Ctx.mark Inc.blank List.getD_cons_zero List.getD_cons_succ List.cons_append List.nil_append List.append_nil List.map_cons List.map_nil List.replicate_zero List.replicate_succ az dm bY dh cO dK dJ bC bz bD bW bV aH aX aI aG au aP aO dH af and_assoc
structure QI (h:Hp) (s:List UInt8) (b:Nat) (i:Nat) (used:Bool) (sl:bT) (acc:List UInt8) (hh:Hp):Prop where
 bld:Ve hh b used sl acc
 kept:dP h hh
 nb:h b=none
 fresh:∀ z,sl.a=some z→h z.1=none
 lo:1≤i
 le:i≤s.length
 cnt:acc.length≤i
 all:∃ m,s.length<m+i∧rdA s.length s 1 []=rdA m s i acc
def adJ (h:Hp) (s:List UInt8):Nat→Ctx→Prop
 | 0,C=>∃ x0 i y t b used sl acc hh,C=⟨[x0,(i:Nat)],[y],[s,t],[],[],[some (b,0)],hh,dM⟩∧QI h s b i used sl acc hh
 | _+1,C=>∃ x0 i x2 j n k y y' t t' b used sl acc hh,C=⟨[x0,(i:Nat),x2,(j:Nat),n,(k:Nat)],[y,y'],[s,t,t'],[],[],[some (b,0)],hh,dM⟩∧QI h s b i used sl acc hh∧
   i+1<s.length∧bt s i=92∧bt s (i+1)=120∧j=i+1+k∧((k=0∧n=0)∨(k=1∧i+2<s.length∧n=hx (bt s (i+2))∧0≤n)∨(k=2∧i+3<s.length∧n=16*hx (bt s (i+2))+hx (bt s (i+3))∧0≤hx (bt s (i+2))∧0≤hx (bt s (i+3))))
def FY (s:List UInt8):Nat→Ctx→Nat
 | 0,C=>((s.length:Int) - C.i.getD 1 0).toNat
 | _+1,C=>(2 - C.i.getD 5 0).toNat
theorem ny {E:Env} {o:Nat} {g:dO} {k:Fm} {C:Ctx} (h1:E.inv o (C.push (g.den C)).bare)
 (h2:∀ (x:Inc) h M,x.cnt=g.cnt→E.inv o ((C.push x).heap h).bare→M o=E.meas o ((C.push x).heap h).bare→(∀ j,j≠o→M j=C.m j)→k.says E ⟨C.i++x.i,C.b++x.b,C.s++x.s,C.v++x.v,C.l++x.l,C.p++x.p,h,M⟩):(Fm.loop o g k).says E C:=by
 refine⟨h1,(AP _ _).2 fun x hx _ h hi=>?_⟩
 exact h2 x h (fun j=>if j=o then E.meas o ((C.push x).heap h).bare else C.m j) hx hi (by simp) (fun j hj=>by simp[hj])
theorem Vw (s:List UInt8) (i:Nat):0≤bt s i∧bt s i≤255:=by
 unfold bt
 have:=(s.getD i 0).toNat_lt
 omega
theorem QI.next {h:Hp} {s:List UInt8} {b i i':Nat} {used:Bool} {sl:bT} {acc:List UInt8} {hh:Hp} (Q:QI h s b i used sl acc hh) {x:UInt8} {sl':bT} {k:Hp} (h1:Ve k b true sl' (acc++[x])) (h2:∀ c o,c≠b→(∀ z,sl.a=some z→z.1≠c)→hh c=some o→k c=some o)
 (h3:∀ z,sl'.a=some z→(∃ y,sl.a=some y∧y.1=z.1)∨hh z.1=none) (hi:i<i') (hl:i'≤s.length) (hs:∀ m,rdA (m+1) s i acc=rdA m s i' (acc++[x])):QI h s b i' true sl' (acc++[x]) k:=by
 refine⟨h1,fun c o hc=>h2 c o (fun e=>by rw[e,Q.nb] at hc;cases hc) (fun z hz e=>by have:=Q.fresh z hz;rw[e,hc] at this;cases this) (Q.kept c o hc),Q.nb,fun z hz=>?_,by have:=Q.lo;omega,hl,by have:=Q.cnt;simp;omega,?_⟩
 · rcases h3 z hz with ⟨y,hy,e⟩ | hn
   · rw[← e];exact Q.fresh y hy
   · cases hq:h z.1 with
     | none=>rfl
     | some o=>rw[Q.kept _ _ hq] at hn;cases hn
 · obtain⟨m,hm,he⟩:=Q.all
   have hle:=Q.le
   obtain⟨m',rfl⟩:∃ m',m=m'+1:=⟨m - 1,by omega⟩
   exact⟨m',by omega,by rw[he,hs]⟩
theorem QI.stop {h:Hp} {s:List UInt8} {b i:Nat} {used:Bool} {sl:bT} {acc:List UInt8} {hh:Hp} (Q:QI h s b i used sl acc hh) {r:Option (List UInt8×Nat)} (hs:∀ m,rdA (m+1) s i acc=r):rdA s.length s 1 []=r:=by
 obtain⟨m,hm,he⟩:=Q.all
 have hle:=Q.le
 obtain⟨m',rfl⟩:∃ m',m=m'+1:=⟨m - 1,by omega⟩
 rw[he,hs]
theorem WY (b:Int):hx b≤15:=by
 unfold hx;split
 · omega
 · split
   · omega
   · split<;>omega
theorem Lr {v:Value} (h:v.oneCell'=true):iJ [v]:=fun u hu=>by simp at hu;subst hu;exact h
set_option maxRecDepth 100000 in
set_option maxHeartbeats 8000000 in
def GR:Ct Tryz.prog where
 f:=143
 spec:=fun args h φ=>∃ s,args=[.string (B s)]∧s.length≤100000∧
  (match C9 s with
   | some (t,e)=>φ (.tuple #[.string (B t),.int .i64 (e:Nat),.bool true]) h
   | none=>∀ t n,φ (.tuple #[.string (B t),.int .i64 n,.bool false]) h)
 ok:=by
  rintro args h φ w ⟨s,rfl,hlen,hφ⟩ hH
  refine dR (bJ Tryz.func143 TM X0 [vU,mO,vT] (fun v k=>∃ k',dP k' k∧φ v k') (adJ h s) (FY s) ⟨[],[],[s],[],[],[],h,dM⟩ ⟨rfl,rfl,rfl,rfl,rfl,rfl⟩ af ?_ w hH rfl)
  generalize hE:(⟨az _,_,_,_⟩:Env)=E
  have s1:E.spec 27=vU.spec:=by rw[← hE];rfl
  have s2:E.spec 93=mO.spec:=by rw[← hE];rfl
  have s3:E.spec 158=vT.spec:=by rw[← hE];rfl
  have ep:E.post=fun v k=>∃ k',dP k' k∧φ v k':=by rw[← hE]
  have ei:E.inv=adJ h s:=by rw[← hE]
  have em:E.meas=FY s:=by rw[← hE]
  clear hE
  unfold C9 at hφ
  have no:∀ {hh},dP h hh→rdA s.length s 1 []=none→∀ t n,∃ k',dP k' hh∧φ (.tuple #[.string (B t),.int .i64 n,.bool false]) k':=fun hle hr t n=>by
   refine⟨h,hle,?_⟩
   rw[hr] at hφ
   split at hφ
   · rename_i heq;split at heq<;>cases heq
   · exact hφ t n
  rw[← ae];unfold J5
  by_cases hs0:s=[]
  · subst hs0
    rw[if_pos (.inl rfl)] at hφ
    iterate 3 (try simp only[ae];try simp[go_sem,ep])
    exact⟨h,fun _ _ h=>h,hφ _ _⟩
  have hpos:0<s.length:=List.length_pos_iff.2 hs0
  by_cases h34:bt s 0=34
  · rw[if_neg (by omega)] at hφ
    have wr:∀ {hh used sl acc i b} (Q:QI h s b i used sl acc hh) (x:Int),0≤x→x≤255→∀ {i'},i<i'→i'≤s.length→(∀ m,rdA (m+1) s i acc=rdA m s i' (acc++[ub x]))→∀ ψ:Value→Hp→Prop,
     (∀ sl' k',QI h s b i' true sl' (acc++[ub x]) k'→ψ .nilIface k')→mO.spec [.pointer (some ⟨b,0,none⟩),.int .u8 x] hh ψ:=by
     intro hh used sl acc i b Q x x0 x1 i' h1 h2 h3 ψ h4
     have:=Q.cnt
     have:=Q.le
     exact⟨b,used,sl,acc,x,rfl,Q.bld,x0,x1,by omega,fun sl' k hB hf hr=>h4 sl' k (Q.next hB hf hr h1 h2 h3)⟩
    iterate 2 (simp only[ae];simp[go_sem,hs0,h34])
    simp only[ae,fC]
    refine⟨hpos,fun b hb=>?_⟩
    refine dB ?_ ?_
    · rw[ei]
      refine⟨0,1,false,[],b,false,⟨none,0,0⟩,[],h.set b ⟨bld b false ⟨none,0,0⟩,BT⟩,rfl,⟨⟨au _ _ _,.inl ⟨rfl,rfl⟩,rfl,fun _ hz=>(by cases hz),fun _=>rfl,fun hz=>absurd rfl hz⟩,jH hb _,hb,fun _ hz=>(by cases hz),Nat.le_refl _,hpos,Nat.zero_le _,s.length,by omega,rfl⟩⟩
    · rw[ei,em]
      rintro i' bb ss v ll pp hh0 M ⟨x0,i,y,t,b',used,sl,acc,hh,hC,Q⟩ hM
      cases hC
      have hM':M 0=((s.length:Int) - i).toNat:=hM
      clear hM hb
      have hile:=Q.le
      have hibd:=Vw s i
      rw[← ae]
      by_cases hil:i=s.length
      · have hz:(i:Int)=s.length:=by omega
        iterate 5 (try simp only[ae];try simp[go_sem,ep,hz])
        exact no Q.kept (Q.stop fun m=>by rw[rdA,if_pos (.inl (by omega))]) _ _
      have hlt:i<s.length:=by omega
      have hz:¬ (i:Int)=s.length:=by omega
      have hz2:(i:Int)<s.length:=by omega
      by_cases hpr:bt s i<32∨126<bt s i
      · iterate 4 (try simp only[ae];try simp[go_sem,ep,hz,hz2,hpr])
        exact no Q.kept (Q.stop fun m=>by rw[rdA,if_pos (.inr hpr)]) _ _
      have p1:¬ bt s i<32:=by omega
      have p2:¬ 126<bt s i:=by omega
      by_cases q34:bt s i=34
      · iterate 6 (try simp only[ae];try simp[go_sem,hz,hz2,q34])
        have hr:rdA s.length s 1 []=some (acc,i+1):=Q.stop fun m=>by rw[rdA,if_neg (by omega),if_pos q34]
        rw[hr] at hφ
        rw[s1]
        refine⟨b',used,sl,acc,rfl,Q.bld,?_⟩
        refine⟨acc,rfl,?_⟩
        have hd:dP h (hh0.drop sl):=fun c o hc=>by
         have h1:=Q.kept c o hc
         unfold Hp.drop
         cases hsa:sl.a with
         | none=>exact h1
         | some z=>
           simp only[Hp.del]
           rw[if_neg (fun e=>by have:=Q.fresh z hsa;rw[← e,hc] at this;cases this)]
           exact h1
        iterate 3 (try simp only[ae];try simp[go_sem,ep])
        refine⟨by omega,by omega,h,hd,?_⟩
        simpa using hφ
      by_cases q92:bt s i=92
      · have e1:((i:Int)+1).toNat=i+1:=by omega
        have hibd1:=Vw s (i+1)
        by_cases hi1:i+1=s.length
        · have hz1:(i:Int)+1=s.length:=by omega
          iterate 12 (try simp only[ae];try simp[go_sem,ep,hz,hz2,q92,hz1])
          exact⟨by omega,no Q.kept (Q.stop fun m=>by rw[rdA,if_neg (by omega),if_neg q34,if_neg (fun h=>h q92),if_pos (by omega)]) _ _⟩
        have hz1:¬ (i:Int)+1=s.length:=by omega
        have hz3:(i:Int)+1<s.length:=by omega
        have fin2:∀ {sl' k' acc'},QI h s b' (i+2) true sl' acc' k'→E.inv 0 ⟨[x0,↑i+1+1],[y],[s,t],[],[],[some (b',0)],k',dM⟩∧E.meas 0 ⟨[x0,↑i+1+1],[y],[s,t],[],[],[some (b',0)],k',dM⟩<M 0:=by
         intro sl' k' acc' Q'
         rw[ei,em]
         refine⟨⟨x0,i+2,y,t,b',true,sl',acc',k',by rw[show ((i+2:Nat):Int)=(i:Int)+1+1 by omega],Q'⟩,?_⟩
         simp only[FY,List.getD_cons_succ,List.getD_cons_zero]
         omega
        by_cases c34:bt s (i+1)=34
        · iterate 18 (try simp only[ae];try simp[go_sem,hz,hz1,hz3,hz2,q92,e1,c34])
          refine⟨by omega,by omega,by omega,?_⟩
          rw[s2]
          exact wr Q 34 (by omega) (by omega) (i':=i+2) (by omega) (by omega) (fun m=>by rw[rdA,if_neg (by omega),if_neg q34,if_neg (fun h=>h q92),if_neg (by omega),if_pos (.inl c34),c34]) _ (fun sl' k' Q'=>⟨.nilIface,Lr rfl,rfl,by omega,by omega,fin2 Q'⟩)
        by_cases c92:bt s (i+1)=92
        · iterate 18 (try simp only[ae];try simp[go_sem,hz,hz1,hz3,hz2,q92,e1,c92])
          refine⟨by omega,by omega,by omega,?_⟩
          rw[s2]
          exact wr Q 92 (by omega) (by omega) (i':=i+2) (by omega) (by omega) (fun m=>by rw[rdA,if_neg (by omega),if_neg q34,if_neg (fun h=>h q92),if_neg (by omega),if_pos (.inr c92),c92]) _ (fun sl' k' Q'=>⟨.nilIface,Lr rfl,rfl,by omega,by omega,fin2 Q'⟩)
        by_cases c110:bt s (i+1)=110
        · iterate 18 (try simp only[ae];try simp[go_sem,hz,hz1,hz3,hz2,q92,e1,c110])
          refine⟨by omega,by omega,by omega,?_⟩
          rw[s2]
          exact wr Q 10 (by omega) (by omega) (i':=i+2) (by omega) (by omega) (fun m=>by rw[rdA,if_neg (by omega),if_neg q34,if_neg (fun h=>h q92),if_neg (by omega),if_neg (by omega),if_pos c110];rfl) _ (fun sl' k' Q'=>⟨.nilIface,Lr rfl,rfl,by omega,by omega,fin2 Q'⟩)
        by_cases c116:bt s (i+1)=116
        · iterate 18 (try simp only[ae];try simp[go_sem,hz,hz1,hz3,hz2,q92,e1,c116])
          refine⟨by omega,by omega,by omega,?_⟩
          rw[s2]
          exact wr Q 9 (by omega) (by omega) (i':=i+2) (by omega) (by omega) (fun m=>by rw[rdA,if_neg (by omega),if_neg q34,if_neg (fun h=>h q92),if_neg (by omega),if_neg (by omega),if_neg c110,if_pos c116];rfl) _ (fun sl' k' Q'=>⟨.nilIface,Lr rfl,rfl,by omega,by omega,fin2 Q'⟩)
        by_cases c120:bt s (i+1)=120
        · iterate 18 (try simp only[ae];try simp[go_sem,hz,hz1,hz3,hz2,q92,e1,c120])
          refine⟨by omega,by omega,by omega,?_⟩
          refine ny ?_ ?_
          · rw[ei]
            exact⟨x0,i,x0,i+1,0,0,y,y,t,t,b',used,sl,acc,hh0,by simp[go_sem,Ctx.bare,dO.den],Q,by omega,q92,c120,rfl,.inl ⟨rfl,rfl⟩⟩
          · rintro⟨xi,xb,xs,xv,xl,xp⟩ h' M' hc hinv hm hM1
            rw[ei] at hinv
            rw[em] at hm
            obtain⟨x0',i2,x2,j,n,k,y1,y2,t1,t2,b2,used2,sl2,acc2,hh2,hC,Q2,a1,a2,a3,a4,a5⟩:=hinv
            simp[Ctx.push,Ctx.heap,Ctx.bare] at hC
            obtain⟨⟨rfl,hii,rfl⟩,⟨rfl,rfl⟩,⟨rfl,rfl⟩,rfl,rfl,⟨rfl,rfl⟩,rfl⟩:=hC
            obtain rfl:i2=i:=by omega
            have hm':M' 1=((2:Int) - k).toNat:=hm
            have hM0:M' 0=M 0:=hM1 0 (by decide)
            clear hm hM1 hc
            have hno:¬ (i2+3<s.length∧0≤hx (bt s (i2+2))∧0≤hx (bt s (i2+3)))→rdA s.length s 1 []=none:=fun hn=>Q2.stop fun m=>by
             rw[rdA,if_neg (by omega),if_neg q34,if_neg (fun h=>h q92),if_neg (by omega),if_neg (by omega),if_neg (by omega),if_neg (by omega),if_pos c120,if_neg hn]
            have e2:((j:Int)+1).toNat=j+1:=by omega
            have hjd:=Vw s (j+1)
            have hx15:=WY (bt s (i2+2))
            have hx16:=WY (bt s (i2+3))
            have hx17:=WY (bt s (j+1))
            rw[← ae]
            by_cases hk:k<2
            · have hkz:(k:Int)<2:=by omega
              have hjj:j+1=i2+2∨j+1=i2+3:=by omega
              by_cases hjl:j+1=s.length
              · have hjz:(j:Int)+1=s.length:=by omega
                iterate 12 (try simp only[ae];try simp[go_sem,ep,hkz,hjz])
                exact⟨by omega,no Q2.kept (hno (by omega)) _ _⟩
              have hjz:¬ (j:Int)+1=s.length:=by omega
              have hjz3:(j:Int)+1<s.length:=by omega
              by_cases hneg:hx (bt s (j+1))<0
              · iterate 12 (try simp only[ae];try simp[go_sem,ep,s3,vT,hkz,hjz,hjz3,e2,hjd.1,hjd.2,hneg])
                exact⟨by omega,by omega,by omega,no Q2.kept (hno (by
                 rintro⟨_,g1,g2⟩
                 rcases hjj with e | e<;>rw[e] at hneg<;>omega)) _ _⟩
              · iterate 12 (try simp only[ae];try simp[go_sem,s3,vT,hkz,hjz,hjz3,e2,hjd.1,hjd.2,hneg])
                refine⟨by omega,by omega,by omega,by omega,by omega,by omega,by omega,by omega,by omega,by omega,?_,?_⟩
                · rw[ei]
                  refine⟨x0,i2,x2,j+1,16*n+hx (bt s (j+1)),k+1,y,y2,t,t2,b',used2,sl2,acc2,h',by simp,Q2,a1,q92,c120,by omega,?_⟩
                  rcases a5 with ⟨g1,g2⟩ | ⟨g1,g2,g3,g4⟩ | ⟨g1,_⟩
                  · have e:j+1=i2+2:=by omega
                    rw[e] at hneg⊢
                    exact .inr (.inl ⟨by omega,by omega,by omega,by omega⟩)
                  · have e:j+1=i2+3:=by omega
                    rw[e] at hneg⊢
                    exact .inr (.inr ⟨by omega,by omega,by rw[g3],by omega,by omega⟩)
                  · omega
                · rw[em]
                  simp only[FY,List.getD_cons_succ,List.getD_cons_zero]
                  omega
            · have hkz:¬ (k:Int)<2:=by omega
              have hw:IntKind.u8.wrap n=n:=by rw[IntKind.wrap_u8];omega
              iterate 12 (try simp only[ae];try simp[go_sem,hkz,hw])
              obtain⟨g1,g2,g3,g4,g5⟩:k=2∧i2+3<s.length∧n=16*hx (bt s (i2+2))+hx (bt s (i2+3))∧0≤hx (bt s (i2+2))∧0≤hx (bt s (i2+3)):=by
               rcases a5 with ⟨g1,_⟩ | ⟨g1,_⟩ | g
               · omega
               · omega
               · exact g
              rw[s2]
              refine wr Q2 n (by omega) (by omega) (i':=i2+4) (by omega) (by omega) (fun m=>by
               rw[rdA,if_neg (by omega),if_neg q34,if_neg (fun h=>h q92),if_neg (by omega),if_neg (by omega),if_neg (by omega),if_neg (by omega),if_pos c120,if_pos ⟨g2,g4,g5⟩,g3]) _ (fun sl' k' Q'=>⟨.nilIface,Lr rfl,rfl,by omega,by omega,?_,?_⟩)
              · rw[ei]
                exact⟨x2,i2+4,y2,t2,b',true,sl',_,k',by rw[show ((i2+4:Nat):Int)=(j:Int)+1 by omega],Q'⟩
              · rw[em]
                simp only[FY,List.getD_cons_succ,List.getD_cons_zero]
                omega
        · have co:bt s (i+1)≠34∧bt s (i+1)≠92:=⟨c34,c92⟩
          iterate 18 (try simp only[ae];try simp[go_sem,ep,hz,hz1,hz3,hz2,q92,e1,c34,c92,c110,c116,c120])
          refine⟨by omega,by omega,by omega,?_⟩
          exact no Q.kept (Q.stop fun m=>by rw[rdA,if_neg (by omega),if_neg q34,if_neg (fun h=>h q92),if_neg (by omega),if_neg (by omega),if_neg c110,if_neg c116,if_neg c120]) _ _
      · iterate 7 (try simp only[ae];try simp[go_sem,hz,hz2,p1,p2,q34,q92])
        rw[s2]
        refine wr Q (bt s i) hibd.1 hibd.2 (Nat.lt_succ_self i) (by omega) (fun m=>by rw[rdA,if_neg (by omega),if_neg q34,if_pos q92]) _ (fun sl' k' Q'=>?_)
        refine⟨.nilIface,fun u hu=>by simp at hu;subst hu;rfl,rfl,?_⟩
        iterate 2 (try simp only[ae];try simp[go_sem,ei,em])
        refine⟨by omega,by omega,⟨x0,i+1,y,t,b',true,sl',_,k',by simp,Q'⟩,?_⟩
        simp only[FY,List.getD_cons_succ,List.getD_cons_zero]
        omega
  · rw[if_pos (.inr h34)] at hφ
    iterate 3 (try simp only[ae];try simp[go_sem,ep,hs0,h34])
    refine⟨by omega,h,fun _ _ h=>h,hφ _ _⟩
end Go.Proofs.YtllbpdllkkcajaaGreatDoor
namespace Go.Proofs.YtllbpdllkkcajaaGreatDoor
open Go.RowKit
attribute [local go_sem] bI bH aj ah ag aS ax aQ aT fC jR jm ak says_again dG BE.den IE.den SE.den LE.den AE.den CE.den PE.den VE.den KV.val dO.den dO.cnt jO fD jX allL Ctx.push Ctx.heap Ctx.cut Ctx.bare Ctx.mark Inc.blank List.getD_cons_zero List.getD_cons_succ List.cons_append List.nil_append List.append_nil List.map_cons List.map_nil List.replicate_zero List.replicate_succ az dm bY dh cO dK dJ bC bz bD bW bV aH aX aI aG au aP aO dH af and_assoc
theorem adN:RP 34=false:=by decide
theorem adp:Nh 34=false:=by decide
theorem adi:kY 34=false:=by decide
set_option maxRecDepth 100000 in
set_option maxHeartbeats 8000000 in
theorem U5 (cl:Ct Tryz.prog) (hcl:cl.f=78) (good:List UInt8→Prop)
 (hl:∀ (b:Nat) (k l c n:Int) (x s:List UInt8) (a:Nat) (L Co:Int) (T:TypeId) (h:Hp) (φ:Value→Hp→Prop),good s→h b=some ⟨rc s a L Co,T⟩→a<s.length→bt s a=34→s.length≤100000→0≤Co→Co≤500000→
  (match C9 (s.drop a) with
   | some (t,m)=>φ (.tuple #[iF 5 l c n t,.int .i64 0]) (Hp.set h b ⟨rc s (a+m:Nat) L (Co+m),T⟩)
   | none=>φ (.tuple #[iF 0 0 0 0 [],.int .i64 4]) h)→cl.spec [.pointer (some ⟨b,0,none⟩),iF k l c n x] h φ)
 (s:List UInt8) (hg:good s) (h:Hp) (φ:Value→Hp→Prop) (w:World)
 (hφ:if 65536<s.length then φ (.tuple #[.slice none 0 0,.agg #[.int .i64 3,.int .i64 0,.int .i64 0]]) h
  else if (bQ s).1.1=0 then ∀ sl k,dP h k→fJ k sl (rP (bQ s).2) TK 5→sl.n=(bQ s).2.length→φ (.tuple #[sl.val,.agg #[.int .i64 0,.int .i64 0,.int .i64 0]]) k
  else φ (.tuple #[.slice none 0 0,.agg #[.int .i64 (bQ s).1.1,.int .i64 (bQ s).1.2.1,.int .i64 (bQ s).1.2.2]]) h) (hH:Holds h w):
 Calls Tryz.prog 43 #[.string (B s)] w fun e w'=>∃ v k,e=.returned v∧φ v k∧Holds k w'∧Fr w.heap.size h k w w':=by
 refine dR (bJ Tryz.func43 Ol UD [GV,lq,jh,GN,jS,vS,cl,NI] (fun v k=>∃ k',dP k' k∧φ v k') (Y1 h s) (fun _ C=>(s.length - GG C.h (aaQ C)).toNat) ⟨[],[],[s],[],[],[],h,dM⟩ ⟨rfl,rfl,rfl,rfl,rfl,rfl⟩ af ?_ w hH rfl)
 generalize hE:(⟨az _,_,_,_⟩:Env)=E
 have s1:E.spec 72=GV.spec:=by rw[← hE];rfl
 have s2:E.spec 73=lq.spec:=by rw[← hE];rfl
 have s3:E.spec 74=jh.spec:=by rw[← hE];rfl
 have s4:E.spec 75=GN.spec:=by rw[← hE];rfl
 have s5:E.spec 76=jS.spec:=by rw[← hE];rfl
 have s6:E.spec 77=vS.spec:=by rw[← hE];rfl
 have s7:E.spec 78=cl.spec:=by
  rw[← hE];funext a h φ
  simp[az,dm,bY,hcl,GV,lq,jh,GN,jS,vS]
 have s8:E.spec 79=NI.spec:=by
  rw[← hE];funext a h φ
  simp[az,dm,bY,hcl,GV,lq,jh,GN,jS,vS,NI]
 have ep:E.post=fun v k=>∃ k',dP k' k∧φ v k':=by rw[← hE]
 have ei:E.inv=Y1 h s:=by rw[← hE]
 have em:E.meas=fun _ C=>(s.length - GG C.h (aaQ C)).toNat:=by rw[← hE]
 clear hE
 rw[← ae];unfold EW
 simp only[ae,ah]
 by_cases hlen:65536<s.length
 · rw[if_pos hlen] at hφ
   have h2:(65536:Int)<s.length:=by omega
   simp[go_sem,h2,ep]
   exact⟨_,(fun _ _ h=>h),hφ⟩
 · rw[if_neg hlen] at hφ
   have h2:¬ (65536:Int)<s.length:=by omega
   simp[go_sem,h2]
   try simp only[ae]
   try simp only[fC]
   intro rb hrb
   try simp only[ae]
   refine dB ?_ ?_
   · rw[ei]
     refine⟨0,0,0,⟨none,0,0⟩,⟨none,0,0⟩,rb,0,s.length+1,[],h,rfl,⟨by omega,by omega,Nat.le_refl _,rfl,.inl ⟨rfl,rfl⟩,rfl,(fun z hz=>by cases hz),(fun _ _ h=>h),hrb⟩⟩
   · rw[ei,em]
     rintro i' bb ss v ll pp hh0 M ⟨x0,x1,x2,l0,sl,rb',i,m,acc,hh,hC,I⟩ hM
     cases hC
     simp only[aaQ,List.getD_cons_zero,Option.getD_some,vM] at hM
     have hile:=I.le
     have hifu:=I.fuel
     obtain⟨j,hj⟩:∃ j,j=i+kH false s i:=⟨_,rfl⟩
     have hjl:j≤s.length:=hj▸PN false I.le
     have hij:i≤j:=by omega
     have hpj:nH (pl s i) (sub s i j)=pl s j:=CY hij hjl
     have bi:=abK I.le
     have bj:=abK hjl
     rw[ag,if_pos (by rfl),s1]
     refine⟨rb',s,i,pl s i,RD,rfl,au _ _ _,I.le,by omega,by omega,by omega,by omega,by omega,?_⟩
     rw[← hj,hpj]
     simp[go_sem]
     generalize hLc:pl s j=q at *
     obtain⟨L,Co⟩:=q
     simp only at bj⊢
     iterate 9 (simp only[ae];simp[go_sem,rc])
     obtain⟨m',rfl⟩:∃ m',m=m'+1:=⟨m - 1,by omega⟩
     have hall:=I.all
     rw[Ed,← hj,hpj] at hall
     by_cases hje:j=s.length
     · have hz:(j:Int)=s.length:=by omega
       rw[if_pos (by omega)] at hall
       rw[hall,if_pos rfl] at hφ
       simp only[ae,ah]
       simp[go_sem,hz]
       intro b hb
       rw[ae]
       refine Y2 (cs:=(Tok.mk 8 L Co 0 []).cs) I (by omega) (b:=b) hb rfl (Tok.ones _) rfl rfl rfl ?_
       intro s' k' h1 h2 h3 h4
       obtain⟨e1,e2,e3⟩:=RX I hb h3 h4
       rw[ak,ep]
       exact⟨k',fun _ _ h=>h,hφ s' k' e2 (by rw[RU,RV];exact h1) (by rw[h2,I.n];simp)⟩
     · have hz:¬ (j:Int)=s.length:=by omega
       have hjlt:j<s.length:=by omega
       have hjz:(j:Int)<s.length:=by omega
       rw[if_neg (by omega)] at hall
       have hbad:(one s j).f≠0→∃ k',dP k' (hh.set rb' ⟨[.string (B s),.int .i64 j,.int .i64 L,.int .i64 Co],RD⟩)∧φ (.tuple #[.slice none 0 0,.agg #[.int .i64 (one s j).f,.int .i64 L,.int .i64 Co]]) k':=by
        intro hf
        rw[if_neg hf] at hall
        rw[hall,if_neg hf] at hφ
        refine⟨h,fun c o hc=>?_,hφ⟩
        rw[aU _ (fun e=>by rw[e,I.nrb] at hc;cases hc)]
        exact I.kept c o hc
       have hpt:(one s j).f=0→pl s (one s j).e=(L,Co+((one s j).e:Int) - j):=fun hf=>by rw[acB hjlt hf,hLc]
       have hH1:∀ v,(hh.set rb' ⟨[.string (B s),.int .i64 j,.int .i64 L,.int .i64 Co],v⟩) rb'=some ⟨rc s j L Co,v⟩:=fun v=>by rw[au];rfl
       have e1:RP (bt s j)=decide (lD (bt s j)=1):=rfl
       have e2:Nh (bt s j)=decide (lD (bt s j)=2):=rfl
       have e3:kY (bt s j)=decide (lD (bt s j)=3):=rfl
       have hk5:RP (bt s j)=true∨(RP (bt s j)=false∧Nh (bt s j)=true)∨(RP (bt s j)=false∧Nh (bt s j)=false∧kY (bt s j)=true)∨(RP (bt s j)=false∧Nh (bt s j)=false∧kY (bt s j)=false∧bt s j=34)∨(RP (bt s j)=false∧Nh (bt s j)=false∧kY (bt s j)=false∧bt s j≠34):=by
        cases RP (bt s j)<;>cases Nh (bt s j)<;>cases kY (bt s j)<;>simp<;>omega
       simp only[ae,ah]
       simp[go_sem,hz]
       rcases hk5 with h1 | ⟨h1,h1'⟩ | ⟨h1,h1',h1''⟩ | ⟨h1,h1',h1'',h34⟩ | ⟨h1,h1',h1'',h34⟩
       · iterate 7 (try simp only[ae];try simp[go_sem,s2,lq,hjz,h1])
         have hin:inB (bt s j)=true:=by
          rw[inB,decide_eq_true_eq]
          simp only[e1,decide_eq_true_eq] at h1
          omega
         have hone:one s j=⟨0,qj (bt s j) (sub s j (j+rn inB s j)),sub s j (j+rn inB s j),0,j+rn inB s j⟩:=by
          unfold one
          rw[if_pos (by simp only[e1,decide_eq_true_eq] at h1;omega)]
         have hf:(one s j).f=0:=by rw[hone]
         rw[s4]
         refine⟨rb',0,L,Co,0,[],s,j,L,Co,RD,rfl,hH1 RD,by omega,hjz,by omega,by omega,by omega,by rw[Int.toNat_natCast];exact hin,?_⟩
         rw[Int.toNat_natCast]
         refine⟨_,_,_,_,_,rfl,?_⟩
         rw[ae,ah,if_pos (by rfl),ae,aP]
         exact xh I (by omega) ei em hj hjlt hf (by rw[hone];simp) (by rw[hpt hf]) (by rw[hpt hf,hone];simp;omega) hM (by rw[hone,hLc];rfl)
       · iterate 7 (try simp only[ae];try simp[go_sem,s2,s3,lq,jh,hjz,h1,h1'])
         have hin:inB (bt s j)=true:=by
          rw[inB,decide_eq_true_eq]
          simp only[e1,e2,decide_eq_true_eq] at h1 h1'
          omega
         have hone:one s j=⟨0,qj (bt s j) (sub s j (j+rn inB s j)),sub s j (j+rn inB s j),0,j+rn inB s j⟩:=by
          unfold one
          rw[if_pos (by simp only[e1,e2,decide_eq_true_eq] at h1 h1';omega)]
         have hf:(one s j).f=0:=by rw[hone]
         rw[s4]
         refine⟨rb',0,L,Co,0,[],s,j,L,Co,RD,rfl,hH1 RD,by omega,hjz,by omega,by omega,by omega,by rw[Int.toNat_natCast];exact hin,?_⟩
         rw[Int.toNat_natCast]
         refine⟨_,_,_,_,_,rfl,?_⟩
         rw[ae,ah,if_pos (by rfl),ae,aP]
         exact xh I (by omega) ei em hj hjlt hf (by rw[hone];simp) (by rw[hpt hf]) (by rw[hpt hf,hone];simp;omega) hM (by rw[hone,hLc];rfl)
       · iterate 9 (try simp only[ae];try simp[go_sem,s2,s3,s5,lq,jh,jS,hjz,h1,h1',h1''])
         have hk:¬ (lD (bt s j)=1∨lD (bt s j)=2):=by
          simp only[e1,e2,decide_eq_false_iff_not] at h1 h1'
          omega
         have hone:one s j=⟨(nm s j).1,(nm s j).2.1,[],(nm s j).2.2.1,(nm s j).2.2.2⟩:=by
          unfold one
          rw[if_neg hk,if_pos (by simpa[e3] using h1'')]
         rw[s6]
         refine⟨rb',0,L,Co,0,[],s,j,L,Co,RD,rfl,hH1 RD,by omega,hjz,by omega,by omega,by omega,by rw[Int.toNat_natCast];exact h1'',?_⟩
         rw[Int.toNat_natCast]
         by_cases hn:(nm s j).1=0
         · rw[if_pos hn]
           have hf:(one s j).f=0:=by rw[hone];exact hn
           refine⟨_,_,_,_,_,_,rfl,?_⟩
           rw[ae,ah,if_pos (by rfl),ae,aP]
           exact xh I (by omega) ei em hj hjlt hf (by rw[hone]) (by rw[hpt hf]) (by rw[hpt hf,hone]) hM (by rw[hone,hLc];rfl)
         · rw[if_neg hn]
           refine⟨_,_,_,_,_,_,rfl,?_⟩
           rw[ae,ah,if_neg (by simp[go_sem];exact hn)]
           iterate 9 (try simp only[ae];try simp[go_sem,ep])
           have hb:=hbad (by rw[hone];exact hn)
           rw[hone] at hb
           simpa[bT.val] using hb
       · iterate 10 (try simp only[ae];try simp[go_sem,s2,s3,s5,lq,jh,jS,hjz,h34,adN,adp,adi])
         have hk:¬ (lD (bt s j)=1∨lD (bt s j)=2):=by
          simp only[e1,e2,decide_eq_false_iff_not] at h1 h1'
          omega
         have hk3:¬ lD (bt s j)=3:=by simpa[e3] using h1''
         rw[s7]
         refine hl rb' 0 L Co 0 [] s j L Co RD _ _ hg (hH1 RD) hjlt h34 (by omega) (by omega) (by omega) ?_
         cases hq:C9 (s.drop j) with
         | some r=>
           obtain⟨x,m1⟩:=r
           have hone:one s j=⟨0,5,x,0,j+m1⟩:=by
            unfold one
            rw[if_neg hk,if_neg hk3,if_pos h34,hq]
           have hf:(one s j).f=0:=by rw[hone]
           refine⟨_,_,_,_,_,_,rfl,?_⟩
           rw[ae,ah,if_pos (by rfl),ae,aP]
           exact xh I (by omega) ei em hj hjlt hf (by rw[hone]) (by rw[hpt hf]) (by rw[hpt hf,hone];simp;omega) hM (by rw[hone,hLc];rfl)
         | none=>
           have hone:one s j=⟨4,0,[],0,0⟩:=by
            unfold one
            rw[if_neg hk,if_neg hk3,if_pos h34,hq]
           refine⟨_,_,_,_,_,_,rfl,?_⟩
           rw[ae,ah,if_neg (by simp[go_sem])]
           iterate 9 (try simp only[ae];try simp[go_sem,ep])
           have hb:=hbad (by rw[hone];simp)
           rw[hone] at hb
           simpa[bT.val] using hb
       · iterate 10 (try simp only[ae];try simp[go_sem,s2,s3,s5,lq,jh,jS,hjz,h1,h1',h1'',h34])
         have hk:¬ (lD (bt s j)=1∨lD (bt s j)=2):=by
          simp only[e1,e2,decide_eq_false_iff_not] at h1 h1'
          omega
         have hk3:¬ lD (bt s j)=3:=by simpa[e3] using h1''
         rw[s8]
         refine⟨rb',0,L,Co,0,[],s,j,L,Co,RD,rfl,hH1 RD,by omega,by omega,by omega,by omega,by omega,?_⟩
         rw[Int.toNat_natCast]
         by_cases hn:sg (s.drop j)=[]
         · rw[if_pos hn]
           have hone:one s j=⟨4,0,[],0,0⟩:=by
            unfold one
            rw[if_neg hk,if_neg hk3,if_neg h34,if_pos hn]
           refine⟨_,_,_,_,_,_,rfl,?_⟩
           rw[ae,ah,if_neg (by simp[go_sem])]
           iterate 9 (try simp only[ae];try simp[go_sem,ep])
           have hb:=hbad (by rw[hone];simp)
           rw[hone] at hb
           simpa[bT.val] using hb
         · rw[if_neg hn]
           have hone:one s j=⟨0,7,sg (s.drop j),0,j+(sg (s.drop j)).length⟩:=by
            unfold one
            rw[if_neg hk,if_neg hk3,if_neg h34,if_neg hn]
           have hf:(one s j).f=0:=by rw[hone]
           refine⟨_,_,_,_,_,_,rfl,?_⟩
           rw[ae,ah,if_pos (by rfl),ae,aP]
           exact xh I (by omega) ei em hj hjlt hf (by rw[hone];simp) (by rw[hpt hf]) (by rw[hpt hf,hone];simp;omega) hM (by rw[hone,hLc];rfl)
end Go.Proofs.YtllbpdllkkcajaaGreatDoor
namespace Go.Proofs.YtllbpdllkkcajaaGreatDoor
open Go.RowKit
attribute [local go_sem] bI bH aj ah ag aS ax aQ aT fC jR jm ak says_again dG BE.den IE.den SE.den LE.den AE.den CE.den PE.den VE.den KV.val dO.den dO.cnt jO fD jX allL Ctx.push Ctx.heap Ctx.cut Ctx.bare Ctx.mark Inc.blank List.getD_cons_zero List.getD_cons_succ List.cons_append List.nil_append List.append_nil List.map_cons List.map_nil List.replicate_zero List.replicate_succ az dm bY dh cO dK dJ bC bz bD bW bV aH aX aI aG au aP aO dH af and_assoc
def abn:Ct Tryz.prog where
 f:=121
 spec:=fun args h φ=>∃ s,args=[.string (B s)]∧s.length≤100000∧
  (match C9 s with
   | some (_,e)=>φ (.tuple #[.int .i64 (e:Nat),.bool true]) h
   | none=>∀ n,φ (.tuple #[.int .i64 n,.bool false]) h)
 ok:=by
  rintro args h φ w ⟨s,rfl,hlen,hφ⟩ hH
  refine bJ Tryz.func121 WL aaE [GR] φ di bF ⟨[],[],[s],[],[],[],h,dM⟩ ⟨rfl,rfl,rfl,rfl,rfl,rfl⟩ af ?_ w hH rfl
  generalize hE:(⟨az _,_,_,_⟩:Env)=E
  have s1:E.spec 143=GR.spec:=by rw[← hE];rfl
  have ep:E.post=φ:=by rw[← hE]
  clear hE
  unfold QM
  rw[ag,if_pos (by rfl),s1]
  refine⟨s,rfl,hlen,?_⟩
  cases hq:C9 s with
  | some r=>
    obtain⟨t,e⟩:=r
    rw[hq] at hφ
    simp[go_sem]
    simp only[ae];simp[go_sem,ep];exact hφ
  | none=>
    rw[hq] at hφ
    simp[go_sem]
    intro t n
    simp only[ae];simp[go_sem,ep];exact hφ n
def Eu:Ct Tryz.prog where
 f:=122
 spec:=fun args h φ=>∃ s,args=[.string (B s)]∧s.length≤100000∧∃ t,C9 s=some (t,s.length)∧φ (.tuple #[.string (B t),.int .i64 0]) h
 ok:=by
  rintro args h φ w ⟨s,rfl,hlen,t,hq,hφ⟩ hH
  refine bJ Tryz.func122 WN aaG [GR] φ di bF ⟨[],[],[s],[],[],[],h,dM⟩ ⟨rfl,rfl,rfl,rfl,rfl,rfl⟩ af ?_ w hH rfl
  generalize hE:(⟨az _,_,_,_⟩:Env)=E
  have s1:E.spec 143=GR.spec:=by rw[← hE];rfl
  have ep:E.post=φ:=by rw[← hE]
  clear hE
  unfold QN
  rw[ag,if_pos (by rfl),s1]
  refine⟨s,rfl,hlen,?_⟩
  rw[hq]
  simp[go_sem]
  iterate 2 (try simp only[ae];try simp[go_sem,ep])
  exact hφ
set_option maxHeartbeats 2000000 in
def SG:Ct Tryz.prog where
 f:=78
 spec:=fun args h φ=>∃ b k l c n x s a L Co T,args=[.pointer (some ⟨b,0,none⟩),iF k l c n x]∧h b=some ⟨rc s (a:Nat) L Co,T⟩∧a<s.length∧s.length≤100000∧0≤Co∧Co≤500000∧
  (match C9 (s.drop a) with
   | some (t,m)=>φ (.tuple #[iF 5 l c n t,.int .i64 0]) (Hp.set h b ⟨rc s (a+m:Nat) L (Co+m),T⟩)
   | none=>φ (.tuple #[iF 0 0 0 0 [],.int .i64 4]) h)
 ok:=by
  rintro args h φ w ⟨b,k,l,c,n,x,s,a,L,Co,T,rfl,hb,ha,hlen,c0,c1,hφ⟩ hH
  obtain⟨h,rfl⟩:∃ h',h=Hp.set h' b ⟨rc s a L Co,T⟩:=⟨h,set_self hb⟩
  simp only[aP] at hφ
  refine bJ Tryz.func78 KJ Pe [abn,Eu,jM] φ di bF ⟨[k,l,c,n],[],[x],[],[],[some (b,0)],h.set b ⟨rc s a L Co,T⟩,dM⟩ ⟨rfl,rfl,rfl,rfl,rfl,rfl⟩ af ?_ w hH rfl
  generalize hE:(⟨az _,_,_,_⟩:Env)=E
  have s1:E.spec 121=abn.spec:=by rw[← hE];rfl
  have s2:E.spec 122=Eu.spec:=by rw[← hE];rfl
  have s3:E.spec 114=jM.spec:=by rw[← hE];rfl
  have ep:E.post=φ:=by rw[← hE]
  clear hE
  have haz:(a:Int)≤s.length:=by omega
  have htl:List.take s.length s=s:=List.take_length
  have hdl:(s.drop a).length=s.length - a:=List.length_drop
  rw[← ae];unfold Bz
  iterate 9 (try simp only[ae];try simp[go_sem,rc,haz,htl])
  rw[s1]
  refine⟨s.drop a,rfl,by omega,?_⟩
  cases hq:C9 (s.drop a) with
  | none=>
    rw[hq] at hφ
    refine fun n=>⟨by simp[aI],by simp[aI],n,.inl ⟨rfl,?_⟩⟩
    simp only[ae];simp[go_sem,ep];exact hφ
  | some r=>
    obtain⟨t,m⟩:=r
    rw[hq] at hφ
    obtain⟨m1,m2,_⟩:=Dc hq
    rw[hdl] at m2
    refine⟨by simp[aI],by simp[aI],m,.inr ⟨rfl,?_⟩⟩
    have e1:((a:Int)+m).toNat=a+m:=by omega
    have hdt:List.drop a (List.take (a+m) s)=(s.drop a).take m:=by
     rw[List.drop_take];congr 1;omega
    iterate 12 (try simp only[ae];try simp[go_sem,e1])
    refine⟨by omega,by omega,by omega,by omega,by omega,?_⟩
    rw[s2,hdt]
    have hl2:((s.drop a).take m).length=m:=by rw[List.length_take,hdl];omega
    refine⟨(s.drop a).take m,rfl,by omega,t,by rw[hl2];exact Yw hq,?_⟩
    refine⟨by simp[aI],by simp[aI],0,t,rfl,?_⟩
    rw[ae,ag,if_pos (by rfl),s3]
    refine⟨b,s,a,L,Co,T,m,rfl,au _ _ _,by omega,by omega,by omega,by omega,by omega,by omega,?_⟩
    rw[aP]
    simp[go_sem]
    simp only[ae];simp[go_sem,ep]
    simpa[rc,iF] using hφ
def vV:Ct Tryz.prog where
 f:=43
 spec:=fun args h φ=>∃ s,args=[.string (B s)]∧
  (if 65536<s.length then φ (.tuple #[.slice none 0 0,.agg #[.int .i64 3,.int .i64 0,.int .i64 0]]) h
   else if (bQ s).1.1=0 then ∀ sl k,dP h k→fJ k sl (rP (bQ s).2) TK 5→sl.n=(bQ s).2.length→φ (.tuple #[sl.val,.agg #[.int .i64 0,.int .i64 0,.int .i64 0]]) k
   else φ (.tuple #[.slice none 0 0,.agg #[.int .i64 (bQ s).1.1,.int .i64 (bQ s).1.2.1,.int .i64 (bQ s).1.2.2]]) h)
 ok:=by
  rintro args h φ w ⟨s,rfl,hφ⟩ hH
  refine U5 SG rfl (fun _=>True) ?_ s trivial h φ w hφ hH
  intro b k l c n x s a L Co T h φ _ hb ha _ h1 h2 h3 h4
  exact⟨b,k,l,c,n,x,s,a,L,Co,T,rfl,hb,ha,h1,h2,h3,h4⟩
end Go.Proofs.YtllbpdllkkcajaaGreatDoor
namespace Go.Proofs.YtllbpdllkkcajaaGreatDoor
open Go.RowKit
attribute [local go_sem] bI bH aj ah ag aS ax aQ ak says_again BE.den IE.den SE.den LE.den AE.den CE.den PE.den VE.den KV.val dO.den dO.cnt jO fD jX allL Ctx.push Ctx.heap Ctx.cut Ctx.bare Ctx.mark Inc.blank List.getD_cons_zero List.getD_cons_succ List.cons_append List.nil_append List.append_nil List.map_cons List.map_nil List.replicate_zero List.replicate_succ az dm bY dh cO dK dJ bC bz bD bW bV aH aX aI aG au aP aO dH af and_assoc
def JX:Fm:=(.C 43 [.S 0] (.tup [.L 0,(.agg [.J 0,.J 1,.J 2])]) ⟨3,0,0,0,1,0⟩
 (.ite (.not (.eqI (.x 0) (.c 0)))
 (.ret (.tup [(.one (.sl .nil)),(.agg [.J 0,.J 1,.J 2])]))
 (.new [(.sl (.x 0)),(.i .i64 (.c 0)),(.i .i64 (.c 0)),(.i .i64 (.c 0)),(.i .i64 (.c 0)),(.i .i64 (.c 0))] 70
 (.C 22 [.P 0] (.p (.P 1)) ⟨0,0,0,0,0,1⟩
 (.C 44 [.P 0] (.p (.K 3 4 5 6 1)) ⟨4,0,1,0,0,0⟩
 (.ite (.not (.eqI (.x 3) (.c 8)))
 (.V 45 [.P 0,(.I (.c 5))]
 (.C 46 [.P 0] (.p (.B 0)) ⟨0,1,0,0,0,0⟩
 (.ite (.x 0)
 (.O (.pt 0 3) 3 [.J 7,.J 8,.J 9] ⟨3,0,0,0,0,0⟩
 (.Z 0
 (.Z 0
 (.ret (.tup [(.one (.sl .nil)),(.agg [.J 7,.J 8,.J 9])])))))
 (.C 47 [.P 1,(.one (.sl .nil))] (.p (.L 1)) ⟨0,0,0,0,1,0⟩
 (.ret (.tup [.L 1,(.agg [(.i .i64 (.c 0)),(.i .i64 (.c 0)),(.i .i64 (.c 0))])]))))))
 (.C 46 [.P 0] (.p (.B 0)) ⟨0,1,0,0,0,0⟩
 (.ite (.x 0)
 (.O (.pt 0 3) 3 [.J 7,.J 8,.J 9] ⟨3,0,0,0,0,0⟩
 (.Z 0
 (.Z 0
 (.ret (.tup [(.one (.sl .nil)),(.agg [.J 7,.J 8,.J 9])])))))
 (.C 47 [.P 1,(.one (.sl .nil))] (.p (.L 1)) ⟨0,0,0,0,1,0⟩
 (.ret (.tup [.L 1,(.agg [(.i .i64 (.c 0)),(.i .i64 (.c 0)),(.i .i64 (.c 0))])])))))))))))
theorem TD:lU ⟨true,[21]⟩ Tryz.prog (fun l=>([]:List bZ).getD l ⟨[],[],[]⟩) Tryz.f21 [.S 0,.one (.c (.fn 22))] ⟨0,0,1,0,0,0⟩=JX:=by kernel_rfl
def JY:Fm:=(.C 43 [.S 0] (.tup [.L 0,(.agg [.J 0,.J 1,.J 2])]) ⟨3,0,0,0,1,0⟩
 (.ite (.not (.eqI (.x 0) (.c 0)))
 (.ret (.tup [(.one (.sl .nil)),(.agg [.J 0,.J 1,.J 2])]))
 (.new [(.sl (.x 0)),(.i .i64 (.c 0)),(.i .i64 (.c 0)),(.i .i64 (.c 0)),(.i .i64 (.c 0)),(.i .i64 (.c 0))] 70
 (.C 42 [.P 0] (.p (.P 1)) ⟨0,0,0,0,0,1⟩
 (.C 44 [.P 0] (.p (.K 3 4 5 6 1)) ⟨4,0,1,0,0,0⟩
 (.ite (.not (.eqI (.x 3) (.c 8)))
 (.V 45 [.P 0,(.I (.c 5))]
 (.C 46 [.P 0] (.p (.B 0)) ⟨0,1,0,0,0,0⟩
 (.ite (.x 0)
 (.O (.pt 0 3) 3 [.J 7,.J 8,.J 9] ⟨3,0,0,0,0,0⟩
 (.Z 0
 (.Z 0
 (.ret (.tup [(.one (.sl .nil)),(.agg [.J 7,.J 8,.J 9])])))))
 (.C 47 [.P 1,(.one (.sl .nil))] (.p (.L 1)) ⟨0,0,0,0,1,0⟩
 (.ret (.tup [.L 1,(.agg [(.i .i64 (.c 0)),(.i .i64 (.c 0)),(.i .i64 (.c 0))])]))))))
 (.C 46 [.P 0] (.p (.B 0)) ⟨0,1,0,0,0,0⟩
 (.ite (.x 0)
 (.O (.pt 0 3) 3 [.J 7,.J 8,.J 9] ⟨3,0,0,0,0,0⟩
 (.Z 0
 (.Z 0
 (.ret (.tup [(.one (.sl .nil)),(.agg [.J 7,.J 8,.J 9])])))))
 (.C 47 [.P 1,(.one (.sl .nil))] (.p (.L 1)) ⟨0,0,0,0,1,0⟩
 (.ret (.tup [.L 1,(.agg [(.i .i64 (.c 0)),(.i .i64 (.c 0)),(.i .i64 (.c 0))])])))))))))))
theorem TE:lU ⟨true,[21]⟩ Tryz.prog (fun l=>([]:List bZ).getD l ⟨[],[],[]⟩) Tryz.f21 [.S 0,.one (.c (.fn 42))] ⟨0,0,1,0,0,0⟩=JY:=by kernel_rfl
def JL:Fm:=(.C 21 [.S 0,(.one (.c (.fn 22)))] (.tup [.L 0,(.agg [.J 0,.J 1,.J 2])]) ⟨3,0,0,0,1,0⟩
 (.ret (.tup [.L 0,(.agg [.J 0,.J 1,.J 2])])))
theorem Tf:bG ⟨true,[]⟩ Tryz.prog (fun l=>([]:List bZ).getD l ⟨[],[],[]⟩) Tryz.f8=JL:=by kernel_rfl
theorem XK:aF Tryz.prog .zero Tryz.f8.params.toList=some ([.S 0],⟨0,0,1,0,0,0⟩):=by kernel_rfl
def EK:Fm:=(.C 21 [.S 0,(.one (.c (.fn 42)))] (.tup [.L 0,(.agg [.J 0,.J 1,.J 2])]) ⟨3,0,0,0,1,0⟩
 (.ret (.tup [.L 0,(.agg [.J 0,.J 1,.J 2])])))
theorem NW:bG ⟨true,[]⟩ Tryz.prog (fun l=>([]:List bZ).getD l ⟨[],[],[]⟩) Tryz.f19=EK:=by kernel_rfl
theorem Uu:aF Tryz.prog .zero Tryz.f19.params.toList=some ([.S 0],⟨0,0,1,0,0,0⟩):=by kernel_rfl
def Hf (f:Int×Int×Int):Value:=.agg #[.int .i64 f.1,.int .i64 f.2.1,.int .i64 f.2.2]
def nV (prog:Bool) (s:List UInt8) (h:Hp) (φ:Value→Hp→Prop):Prop:=
 if 65536<s.length then φ (.tuple #[.slice none 0 0,Hf (3,0,0)]) h
 else ∀ f t,gy prog s=some (f,t)→(if f.1=0 then ∀ sl k,dP h k→fJ k sl (vg t.qL) ND 6→sl.n=t.n→φ (.tuple #[sl.val,Hf (0,0,0)]) k else φ (.tuple #[.slice none 0 0,Hf f]) h)
theorem Rq {h:Hp} {s:bT} {L:List Tok} (ho:fJ h s (rP L) TK 5) (hn:s.n=L.length) (hL:0<L.length):Tks h s L:=by
 rcases ho with ⟨h1,h2⟩ | ⟨b,o,h1,h2,h3,h4,h5,h6,h7⟩
 · have:=congrArg List.length h2;rw[Aq] at this;simp at this;omega
 · obtain⟨cs,ty⟩:=o
   simp only at h3 h4 h7;subst h3
   refine⟨b,s.c,cs.drop (s.n*5),?_,?_⟩
   · cases s;simp only at h1 hn ⊢;rw[h1,hn]
   · rw[h2];congr 2;rw[h7];exact (List.take_append_drop _ _).symm
set_option maxHeartbeats 4000000 in
def VO:Ct Tryz.prog where
 f:=21
 spec:=fun args h φ=>∃ s,args=[.string (B s),.func (.func 22) #[] #[]]∧nV false s h φ
 ok:=by
  rintro args h φ w ⟨s,rfl,hφ⟩ hH
  refine dR (qI Tryz.func21 TD [vV,ik,iQ,iL,Ep (BP 1000000),lm (pX (iR (bQ s).2))] (fun v k=>∃ k',dP k' k∧φ v k') di bF ⟨[],[],[s],[],[],[],h,dM⟩ ⟨rfl,rfl,rfl,rfl,rfl,rfl⟩ af ?_ w hH rfl)
  generalize hE:(⟨az _,_,_,_⟩:Env)=E
  have s_ctTokens:E.spec 43=vV.spec:=by rw[← hE];rfl
  have s_ctNow:E.spec 44=ik.spec:=by rw[← hE];rfl
  have s_ctFail:E.spec 45=iQ.spec:=by rw[← hE];rfl
  have s_ctBad:E.spec 46=iL.spec:=by rw[← hE];rfl
  have s_ctL:E.spec 47=(Ep (BP 1000000)).spec:=by rw[← hE];rfl
  have s_ctX:E.spec 22=(lm (pX (iR (bQ s).2))).spec:=by rw[← hE];rfl
  have ep:E.post=fun v k=>∃ k',dP k' k∧φ v k':=by rw[← hE]
  clear hE
  unfold JX
  unfold nV at hφ
  rw[ag,if_pos (by rfl),s_ctTokens]
  refine⟨s,rfl,?_⟩
  by_cases h6:65536<s.length
  · rw[if_pos h6] at hφ⊢
    simp[go_sem]
    rw[ae,ah,if_pos (by simp[go_sem])]
    simp only[ae];simp[go_sem,ep]
    exact⟨h,fun _ _ h=>h,hφ⟩
  rw[if_neg h6] at hφ⊢
  obtain⟨⟨f,t⟩,hft⟩:=qN false s
  have hφ:=hφ f t hft
  by_cases hl:(bQ s).1.1=0
  rotate_left
  · rw[if_neg hl]
    have e:=hft
    unfold gy at e
    rw[if_pos hl] at e
    cases e
    rw[if_neg hl] at hφ
    simp[go_sem]
    rw[ae,ah,if_pos (by simp[go_sem];exact hl)]
    simp only[ae];simp[go_sem,ep]
    exact⟨h,fun _ _ h=>h,hφ⟩
  rw[if_pos hl]
  intro sl k hk hown hsn
  have T:=rf hl
  generalize hLe:(bQ s).2=L at *
  have htk:=Rq hown hsn T.lw.pos
  simp[go_sem]
  rw[ae,ah,if_neg (by simp[go_sem])]
  rw[ae,fC]
  intro b hb
  have hb':k b=none:=hb
  simp[go_sem]
  have hlen:=T.len
  have W:PW (k.set b ⟨nC sl p0,PT⟩) b sl L p0:=⟨au _ _ _,htk.keep fun c o _ hc=>by rw[aU _ (fun e=>by rw[e,hb'] at hc;cases hc)];exact hc,T.lw,by omega,T.lw.pos,by decide,by decide⟩
  have hft':(Io L (iR L) p0).map (fun r=>((vX L r.2).f,r.1))=some (f,t):=by
   have e:=hft
   unfold gy at e
   rw[if_neg (by rw[hl];decide),hLe] at e
   exact e
  simp only[Option.map_eq_some_iff] at hft'
  obtain⟨⟨t',q⟩,h1,h2⟩:=hft'
  cases h2
  dsimp only at hφ
  have Ad:gK L p0 q 0:=by
   exact (lh T.lw _).1 _ _ _ _ h1
  rw[ae,ag,if_pos (by rfl),s_ctX]
  refine⟨iR L,Nat.le_refl _,b,sl,L,p0,t',q,rfl,W,h1,by unfold iR;simp[p0];omega,fun v k2 g A hI=>?_⟩
  simp[go_sem,cu];refine⟨some (v,0),rfl,?_⟩
  have keep:∀ k3,Vf b (k.set b ⟨nC sl p0,PT⟩) k3→dP h k3:=fun k3 h3 c o hc=>by
   have hcb:c≠b:=fun e=>by have:=hk c o hc;rw[e,hb'] at this;cases this
   exact h3 c o hcb (by rw[aU _ hcb];exact hk c o hc)
  rw[ae,ag,if_pos (by rfl),s_ctNow]
  refine⟨b,sl,L,q,rfl,A.pw,?_⟩
  simp[go_sem,dU,iF]
  have fin:∀ (q':PS) (k3:Hp) (is':List Int) (ss':List (List UInt8)) (A3:At (k.set b ⟨nC sl p0,PT⟩) b sl L q' k3 g),q'=vX L q → 
   Then E (.C 46 [.P 0] (.p (.B 0)) ⟨0,1,0,0,0,0⟩
 (.ite (.x 0)
 (.O (.pt 0 3) 3 [.J 7,.J 8,.J 9] ⟨3,0,0,0,0,0⟩
 (.Z 0
 (.Z 0
 (.ret (.tup [(.one (.sl .nil)),(.agg [.J 7,.J 8,.J 9])])))))
 (.C 47 [.P 1,(.one (.sl .nil))] (.p (.L 1)) ⟨0,0,0,0,1,0⟩
 (.ret (.tup [.L 1,(.agg [(.i .i64 (.c 0)),(.i .i64 (.c 0)),(.i .i64 (.c 0))])]))))) ⟨[0,0,0,(tk L q).k,(tk L q).l,(tk L q).c,(tk L q).n],[],[s,(tk L q).x],[],[sl],[some (b,0),some (v,0)],k3,dM⟩:=by
   intro q' k3 is' ss' A3 hq'
   rw[← hq'] at hφ hft
   rw[ae,ag,if_pos (by rfl),s_ctBad]
   refine⟨b,sl,L,q',rfl,A3.pw,?_⟩
   simp[go_sem]
   cases c0:q'.bad with
   | true=>
     have hf:¬ q'.f.1=0:=fun e=>by unfold PS.bad at c0;rw[e] at c0;cases c0
     rw[if_neg hf] at hφ
     rw[ae,ah,if_pos (by simp[go_sem])]
     have hr3:hread k3 (some (b,3)) 3=some [.int .i64 q'.f.1,.int .i64 q'.f.2.1,.int .i64 q'.f.2.2]:=by rw[bu A3.pw.blk];rfl
     rw[ae,ax,if_pos (by rfl)]
     refine (ai _ _).2 ⟨⟨[q'.f.1,q'.f.2.1,q'.f.2.2],[],[],[],[],[]⟩,rfl,af,hr3,?_⟩
     rw[ae,aj]
     refine⟨by simp[go_sem],?_⟩
     rw[ae,aj]
     refine⟨by simp[go_sem],?_⟩
     simp only[ae];simp[go_sem,ep]
     exact⟨h,keep k3 A3.kp,hφ⟩
   | false=>
     have hf:q'.f.1=0:=by unfold PS.bad at c0;simpa using c0
     rw[if_pos hf] at hφ
     rw[ae,ah,if_neg (by simp[go_sem])]
     obtain⟨_,htn,_⟩:=lX hft hf
     dsimp only at htn
     rw[ae,ag,if_pos (by rfl),s_ctL]
     refine⟨v,t',⟨none,0,0⟩,[],rfl,by omega,It.le A3.le _ _ hI,.inl ⟨rfl,rfl⟩,rfl,by simp;omega,fun s' k4 r1 r2 r3 r4=>?_⟩
     simp[go_sem]
     simp only[ae];simp[go_sem,ep]
     refine⟨k4,fun _ _ h=>h,hφ s' k4 (fun c o hc=>r3 c o (fun _ hz=>(by cases hz)) (keep k3 A3.kp c o hc)) (by simpa using r1) (by simpa using r2)⟩
  by_cases c8:(tk L q).k=8
  · rw[ae,ah,if_neg (by simp[go_sem,c8])]
    exact fin q k2 [] [] A (by unfold vX;rw[if_pos c8])
  · rw[ae,ah,if_pos (by simp[go_sem,c8])]
    rw[ae,ag,if_pos (by rfl),s_ctFail]
    refine⟨b,sl,L,q,5,rfl,A.pw,?_⟩
    simp[go_sem]
    exact fin (eF L 5 q) _ [] [] (A.fail 5) (by unfold vX;rw[if_neg c8])
set_option maxHeartbeats 4000000 in
def VP:Ct Tryz.prog where
 f:=21
 spec:=fun args h φ=>∃ s,args=[.string (B s),.func (.func 42) #[] #[]]∧nV true s h φ
 ok:=by
  rintro args h φ w ⟨s,rfl,hφ⟩ hH
  refine dR (qI Tryz.func21 TE [vV,ik,iQ,iL,Ep (BP 1000000),VM (iR (bQ s).2)] (fun v k=>∃ k',dP k' k∧φ v k') di bF ⟨[],[],[s],[],[],[],h,dM⟩ ⟨rfl,rfl,rfl,rfl,rfl,rfl⟩ af ?_ w hH rfl)
  generalize hE:(⟨az _,_,_,_⟩:Env)=E
  have s_ctTokens:E.spec 43=vV.spec:=by rw[← hE];rfl
  have s_ctNow:E.spec 44=ik.spec:=by rw[← hE];rfl
  have s_ctFail:E.spec 45=iQ.spec:=by rw[← hE];rfl
  have s_ctBad:E.spec 46=iL.spec:=by rw[← hE];rfl
  have s_ctL:E.spec 47=(Ep (BP 1000000)).spec:=by rw[← hE];rfl
  have s_ctX:E.spec 42=(VM (iR (bQ s).2)).spec:=by rw[← hE];rfl
  have ep:E.post=fun v k=>∃ k',dP k' k∧φ v k':=by rw[← hE]
  clear hE
  unfold JY
  unfold nV at hφ
  rw[ag,if_pos (by rfl),s_ctTokens]
  refine⟨s,rfl,?_⟩
  by_cases h6:65536<s.length
  · rw[if_pos h6] at hφ⊢
    simp[go_sem]
    rw[ae,ah,if_pos (by simp[go_sem])]
    simp only[ae];simp[go_sem,ep]
    exact⟨h,fun _ _ h=>h,hφ⟩
  rw[if_neg h6] at hφ⊢
  obtain⟨⟨f,t⟩,hft⟩:=qN true s
  have hφ:=hφ f t hft
  by_cases hl:(bQ s).1.1=0
  rotate_left
  · rw[if_neg hl]
    have e:=hft
    unfold gy at e
    rw[if_pos hl] at e
    cases e
    rw[if_neg hl] at hφ
    simp[go_sem]
    rw[ae,ah,if_pos (by simp[go_sem];exact hl)]
    simp only[ae];simp[go_sem,ep]
    exact⟨h,fun _ _ h=>h,hφ⟩
  rw[if_pos hl]
  intro sl k hk hown hsn
  have T:=rf hl
  generalize hLe:(bQ s).2=L at *
  have htk:=Rq hown hsn T.lw.pos
  simp[go_sem]
  rw[ae,ah,if_neg (by simp[go_sem])]
  rw[ae,fC]
  intro b hb
  have hb':k b=none:=hb
  simp[go_sem]
  have hlen:=T.len
  have W:PW (k.set b ⟨nC sl p0,PT⟩) b sl L p0:=⟨au _ _ _,htk.keep fun c o _ hc=>by rw[aU _ (fun e=>by rw[e,hb'] at hc;cases hc)];exact hc,T.lw,by omega,T.lw.pos,by decide,by decide⟩
  have hft':(wU L (iR L) p0).map (fun r=>((vX L r.2).f,r.1))=some (f,t):=by
   have e:=hft
   unfold gy at e
   rw[if_neg (by rw[hl];decide),hLe] at e
   exact e
  simp only[Option.map_eq_some_iff] at hft'
  obtain⟨⟨t',q⟩,h1,h2⟩:=hft'
  cases h2
  dsimp only at hφ
  have Ad:gK L p0 q 0:=by
   have h1':=h1;unfold wU rG at h1';simp only[Option.map_eq_some_iff] at h1';obtain⟨⟨rl,r⟩,h3,h4⟩:=h1';cases h4;exact jy T.lw _ _ _ h3
  rw[ae,ag,if_pos (by rfl),s_ctX]
  refine⟨iR L,Nat.le_refl _,b,sl,L,p0,t',q,rfl,W,h1,by unfold iR;simp[p0];omega,fun v k2 g A hI=>?_⟩
  simp[go_sem,cu];refine⟨some (v,0),rfl,?_⟩
  have keep:∀ k3,Vf b (k.set b ⟨nC sl p0,PT⟩) k3→dP h k3:=fun k3 h3 c o hc=>by
   have hcb:c≠b:=fun e=>by have:=hk c o hc;rw[e,hb'] at this;cases this
   exact h3 c o hcb (by rw[aU _ hcb];exact hk c o hc)
  rw[ae,ag,if_pos (by rfl),s_ctNow]
  refine⟨b,sl,L,q,rfl,A.pw,?_⟩
  simp[go_sem,dU,iF]
  have fin:∀ (q':PS) (k3:Hp) (is':List Int) (ss':List (List UInt8)) (A3:At (k.set b ⟨nC sl p0,PT⟩) b sl L q' k3 g),q'=vX L q → 
   Then E (.C 46 [.P 0] (.p (.B 0)) ⟨0,1,0,0,0,0⟩
 (.ite (.x 0)
 (.O (.pt 0 3) 3 [.J 7,.J 8,.J 9] ⟨3,0,0,0,0,0⟩
 (.Z 0
 (.Z 0
 (.ret (.tup [(.one (.sl .nil)),(.agg [.J 7,.J 8,.J 9])])))))
 (.C 47 [.P 1,(.one (.sl .nil))] (.p (.L 1)) ⟨0,0,0,0,1,0⟩
 (.ret (.tup [.L 1,(.agg [(.i .i64 (.c 0)),(.i .i64 (.c 0)),(.i .i64 (.c 0))])]))))) ⟨[0,0,0,(tk L q).k,(tk L q).l,(tk L q).c,(tk L q).n],[],[s,(tk L q).x],[],[sl],[some (b,0),some (v,0)],k3,dM⟩:=by
   intro q' k3 is' ss' A3 hq'
   rw[← hq'] at hφ hft
   rw[ae,ag,if_pos (by rfl),s_ctBad]
   refine⟨b,sl,L,q',rfl,A3.pw,?_⟩
   simp[go_sem]
   cases c0:q'.bad with
   | true=>
     have hf:¬ q'.f.1=0:=fun e=>by unfold PS.bad at c0;rw[e] at c0;cases c0
     rw[if_neg hf] at hφ
     rw[ae,ah,if_pos (by simp[go_sem])]
     have hr3:hread k3 (some (b,3)) 3=some [.int .i64 q'.f.1,.int .i64 q'.f.2.1,.int .i64 q'.f.2.2]:=by rw[bu A3.pw.blk];rfl
     rw[ae,ax,if_pos (by rfl)]
     refine (ai _ _).2 ⟨⟨[q'.f.1,q'.f.2.1,q'.f.2.2],[],[],[],[],[]⟩,rfl,af,hr3,?_⟩
     rw[ae,aj]
     refine⟨by simp[go_sem],?_⟩
     rw[ae,aj]
     refine⟨by simp[go_sem],?_⟩
     simp only[ae];simp[go_sem,ep]
     exact⟨h,keep k3 A3.kp,hφ⟩
   | false=>
     have hf:q'.f.1=0:=by unfold PS.bad at c0;simpa using c0
     rw[if_pos hf] at hφ
     rw[ae,ah,if_neg (by simp[go_sem])]
     obtain⟨_,htn,_⟩:=lX hft hf
     dsimp only at htn
     rw[ae,ag,if_pos (by rfl),s_ctL]
     refine⟨v,t',⟨none,0,0⟩,[],rfl,by omega,It.le A3.le _ _ hI,.inl ⟨rfl,rfl⟩,rfl,by simp;omega,fun s' k4 r1 r2 r3 r4=>?_⟩
     simp[go_sem]
     simp only[ae];simp[go_sem,ep]
     refine⟨k4,fun _ _ h=>h,hφ s' k4 (fun c o hc=>r3 c o (fun _ hz=>(by cases hz)) (keep k3 A3.kp c o hc)) (by simpa using r1) (by simpa using r2)⟩
  by_cases c8:(tk L q).k=8
  · rw[ae,ah,if_neg (by simp[go_sem,c8])]
    exact fin q k2 [] [] A (by unfold vX;rw[if_pos c8])
  · rw[ae,ah,if_pos (by simp[go_sem,c8])]
    rw[ae,ag,if_pos (by rfl),s_ctFail]
    refine⟨b,sl,L,q,5,rfl,A.pw,?_⟩
    simp[go_sem]
    exact fin (eF L 5 q) _ [] [] (A.fail 5) (by unfold vX;rw[if_neg c8])
def Qh:Ct Tryz.prog where
 f:=8
 spec:=fun args h φ=>∃ s,args=[.string (B s)]∧nV false s h φ
 ok:=by
  rintro args h φ w ⟨s,rfl,hφ⟩ hH
  refine bJ Tryz.func8 Tf XK [VO] φ (di) (bF) ⟨[],[],[s],[],[],[],h,dM⟩ ⟨rfl,rfl,rfl,rfl,rfl,rfl⟩ af ?_ w hH rfl
  generalize hE:(⟨az _,_,_,_⟩:Env)=E
  have s_ctRunE:E.spec 21=(VO).spec:=by rw[← hE];rfl
  have ep:E.post=φ:=by rw[← hE]
  clear hE
  unfold JL
  rw[ag,if_pos (by rfl),s_ctRunE]
  refine⟨s,rfl,?_⟩
  unfold nV at hφ⊢
  split
  · rename_i h6
    rw[if_pos h6] at hφ
    simp[go_sem,Hf]
    simp only[ae];simp[go_sem,ep]
    exact hφ
  · rename_i h6
    rw[if_neg h6] at hφ
    intro f t hft
    have hφ:=hφ f t hft
    split
    · rename_i hf
      rw[if_pos hf] at hφ
      intro sl k hk ho hn
      simp[go_sem,Hf]
      simp only[ae];simp[go_sem,ep]
      exact hφ sl k hk ho hn
    · rename_i hf
      rw[if_neg hf] at hφ
      simp[go_sem,Hf]
      simp only[ae];simp[go_sem,ep]
      exact hφ
def Jj:Ct Tryz.prog where
 f:=19
 spec:=fun args h φ=>∃ s,args=[.string (B s)]∧nV true s h φ
 ok:=by
  rintro args h φ w ⟨s,rfl,hφ⟩ hH
  refine bJ Tryz.func19 NW Uu [VP] φ (di) (bF) ⟨[],[],[s],[],[],[],h,dM⟩ ⟨rfl,rfl,rfl,rfl,rfl,rfl⟩ af ?_ w hH rfl
  generalize hE:(⟨az _,_,_,_⟩:Env)=E
  have s_ctRunP:E.spec 21=(VP).spec:=by rw[← hE];rfl
  have ep:E.post=φ:=by rw[← hE]
  clear hE
  unfold EK
  rw[ag,if_pos (by rfl),s_ctRunP]
  refine⟨s,rfl,?_⟩
  unfold nV at hφ⊢
  split
  · rename_i h6
    rw[if_pos h6] at hφ
    simp[go_sem,Hf]
    simp only[ae];simp[go_sem,ep]
    exact hφ
  · rename_i h6
    rw[if_neg h6] at hφ
    intro f t hft
    have hφ:=hφ f t hft
    split
    · rename_i hf
      rw[if_pos hf] at hφ
      intro sl k hk ho hn
      simp[go_sem,Hf]
      simp only[ae];simp[go_sem,ep]
      exact hφ sl k hk ho hn
    · rename_i hf
      rw[if_neg hf] at hφ
      simp[go_sem,Hf]
      simp only[ae];simp[go_sem,ep]
      exact hφ
end Go.Proofs.YtllbpdllkkcajaaGreatDoor
namespace Go.Proofs.YtllbpdllkkcajaaGreatDoor
open Go.RowKit
def zB.g (x:zB):Ng:=⟨x.k,x.l,x.c,x.z,x.n,x.x⟩
def Tr.gs (t:Tr):List Ng:=t.qL.map zB.g
def Tr.zT (ts:List Tr):List Ng:=(Tr.jc ts).map zB.g
theorem ZU (l:List zB):rO (l.map zB.g)=vg l:=by
 induction l with
 | nil=>rfl
 | cons a l ih=>rw[List.map_cons,BJ,ih,vg,vg,List.flatMap_cons];rfl
def places:Int→List Tr→List Int
 | _,[]=>[]
 | p,t::ts=>p::places (p+t.n) ts
theorem kC (t:Tr) (ts:List Tr):Tr.zT (t::ts)=t.gs++Tr.zT ts:=by simp[Tr.zT,Tr.gs,qM]
theorem nK (t:Tr):t.gs.length=t.n:=by simp[Tr.gs,Tr.n]
theorem zU (ts:List Tr):(Tr.zT ts).length=Tr.ns ts:=by simp[Tr.zT,Tr.ns]
theorem uA (t:Tr):t.n=t.sz+1:=Tr.aah t
theorem qZ (ts:List Tr):Tr.szs ts=Tr.ns ts:=(Tr.Ic ts).symm
theorem wH (k l c n:Int) (x:List UInt8) (ks:List Tr):(Tr.nd k l c n x ks).gs=⟨k,l,c,Tr.ns ks,n,x⟩::Tr.zT ks:=by
 simp[Tr.gs,Tr.zT,Tr.qL,zB.g,qZ]
theorem Fq:∀ (ks:List Tr) (pre post:List Ng) (fuel:Nat),ks.length≤fuel→iU (pre++Tr.zT ks++post) ((pre.length:Int) - 1+Tr.ns ks) fuel pre.length=some (places pre.length ks)
 | [],pre,post,0,_=>by rw[iU,if_neg (by rw[bg];omega)];rfl
 | [],pre,post,fuel+1,_=>by rw[iU,if_neg (by rw[bg];omega)];rfl
 | t::ts,pre,post,fuel+1,hf=>by
   obtain⟨k,l,c,n,x,cs⟩:=t
   have hn:(Tr.nd k l c n x cs).n=Tr.ns cs+1:=by rw[uA,Tr.sz,qZ]
   have hget:(pre++Tr.zT (.nd k l c n x cs::ts)++post).getD ((pre.length:Int)).toNat ⟨0,0,0,0,0,[]⟩=⟨k,l,c,Tr.ns cs,n,x⟩:=by
    rw[kC,wH]
    simp[List.getD_eq_getElem?_getD]
   have hlen:(pre++Tr.zT (.nd k l c n x cs::ts)++post).length=pre.length+(Tr.ns cs+1+Tr.ns ts)+post.length:=by
    rw[List.length_append,List.length_append,zU,aA,hn]
   have e:pre++Tr.zT (.nd k l c n x cs::ts)++post=(pre++(Tr.nd k l c n x cs).gs)++Tr.zT ts++post:=by rw[kC];simp only[List.append_assoc]
   have ih:=Fq ts (pre++(Tr.nd k l c n x cs).gs) post fuel (by simpa using hf)
   rw[iU,if_pos (by rw[aA,hn];omega),hget]
   simp only
   rw[if_pos (by rw[hlen];omega),e]
   have h1:((pre++(Tr.nd k l c n x cs).gs).length:Int)=pre.length+(1+(Tr.ns cs:Int)):=by rw[List.length_append,nK,hn];omega
   rw[h1] at ih
   rw[show (pre.length:Int) - 1+Tr.ns (.nd k l c n x cs::ts)=pre.length+(1+(Tr.ns cs:Int)) - 1+Tr.ns ts by rw[aA,hn];omega,ih,places,hn]
   simp only[Option.map_some]
   congr 3
   omega
end Go.Proofs.YtllbpdllkkcajaaGreatDoor
namespace Go.Proofs.YtllbpdllkkcajaaGreatDoor
open Go.RowKit
attribute [local go_sem] bI bH aj ah ag aS ax aQ ak says_again BE.den IE.den SE.den LE.den AE.den CE.den PE.den VE.den KV.val dO.den dO.cnt jO fD jX allL Ctx.push Ctx.heap Ctx.cut Ctx.bare Ctx.mark Inc.blank List.getD_cons_zero List.getD_cons_succ List.cons_append List.nil_append List.append_nil List.map_cons List.map_nil List.replicate_zero List.replicate_succ az dm bY dh cO dK dJ bC bz bD bW bV aH aX aI aG au aP aO dH af and_assoc
def Ky:Fm:=(.ite (.eqI (.x 0) (.c 15))
 (.ret (.tup [.W [124,124],(.I (.c 1))]))
 (.ite (.eqI (.x 0) (.c 14))
 (.ret (.tup [.W [38,38],(.I (.c 2))]))
 (.ite (.eqI (.x 0) (.c 6))
 (.ret (.tup [.W [61,61],(.I (.c 3))]))
 (.ite (.eqI (.x 0) (.c 7))
 (.ret (.tup [.W [33,61],(.I (.c 3))]))
 (.ite (.eqI (.x 0) (.c 8))
 (.ret (.tup [.W [60],(.I (.c 4))]))
 (.ite (.eqI (.x 0) (.c 9))
 (.ret (.tup [.W [60,61],(.I (.c 4))]))
 (.ite (.eqI (.x 0) (.c 10))
 (.ret (.tup [.W [62],(.I (.c 4))]))
 (.ite (.eqI (.x 0) (.c 11))
 (.ret (.tup [.W [62,61],(.I (.c 4))]))
 (.ite (.eqI (.x 0) (.c 1))
 (.ret (.tup [.W [43],(.I (.c 5))]))
 (.ite (.eqI (.x 0) (.c 2))
 (.ret (.tup [.W [45],(.I (.c 5))]))
 (.ite (.eqI (.x 0) (.c 3))
 (.ret (.tup [.W [42],(.I (.c 6))]))
 (.ite (.eqI (.x 0) (.c 4))
 (.ret (.tup [.W [47],(.I (.c 6))]))
 (.ret (.tup [.W [37],(.I (.c 6))]))))))))))))))
theorem Ud:bG ⟨true,[]⟩ Tryz.prog (fun l=>([]:List bZ).getD l ⟨[],[],[]⟩) Tryz.f96=Ky:=by kernel_rfl
theorem Yk:aF Tryz.prog .zero Tryz.f96.params.toList=some ([.J 0],⟨1,0,0,0,0,0⟩):=by kernel_rfl
def E5:Fm:=(.ite (.eqI (.x 0) (.c 31))
 (.C 96 [.J 4] (.tup [.S 1,.J 5]) ⟨1,0,1,0,0,0⟩
 (.ret (.p (.J 5))))
 (.ite (.eqI (.x 0) (.c 30))
 (.ret (.p (.I (.c 7))))
 (.ret (.p (.I (.c 8))))))
theorem Ot:bG ⟨true,[]⟩ Tryz.prog (fun l=>([]:List bZ).getD l ⟨[],[],[]⟩) Tryz.f95=E5:=by kernel_rfl
theorem UH:aF Tryz.prog .zero Tryz.f95.params.toList=some ([(.agg [.U 0,.J 1,.J 2,.J 3,.J 4,(.s (.x 0))])],⟨5,0,1,0,0,0⟩):=by kernel_rfl
def zM:Ct Tryz.prog where
 f:=96
 spec:=fun args h φ=>∃ n,args=[.int .i64 n]∧φ (.tuple #[.string (B (kz n).1),.int .i64 ((kz n).2:Nat)]) h
 ok:=by
  rintro args h φ w ⟨n,rfl,hφ⟩ hH
  refine bJ Tryz.func96 Ud Yk [] φ (di) (bF) ⟨[n],[],[],[],[],[],h,dM⟩ ⟨rfl,rfl,rfl,rfl,rfl,rfl⟩ af ?_ w hH rfl
  generalize hE:(⟨az _,_,_,_⟩:Env)=E
  have ep:E.post=φ:=by rw[← hE]
  clear hE
  unfold Ky
  unfold kz at hφ
  rw[← ae]
  by_cases c15:n=15
  · rw[if_pos c15] at hφ
    rw[ae,ah,if_pos (by simpa[go_sem] using c15),ae,ak,ep]
    exact hφ
  rw[if_neg c15] at hφ
  rw[ae,ah,if_neg (by simpa[go_sem] using c15)]
  by_cases c14:n=14
  · rw[if_pos c14] at hφ
    rw[ae,ah,if_pos (by simpa[go_sem] using c14),ae,ak,ep]
    exact hφ
  rw[if_neg c14] at hφ
  rw[ae,ah,if_neg (by simpa[go_sem] using c14)]
  by_cases c6:n=6
  · rw[if_pos c6] at hφ
    rw[ae,ah,if_pos (by simpa[go_sem] using c6),ae,ak,ep]
    exact hφ
  rw[if_neg c6] at hφ
  rw[ae,ah,if_neg (by simpa[go_sem] using c6)]
  by_cases c7:n=7
  · rw[if_pos c7] at hφ
    rw[ae,ah,if_pos (by simpa[go_sem] using c7),ae,ak,ep]
    exact hφ
  rw[if_neg c7] at hφ
  rw[ae,ah,if_neg (by simpa[go_sem] using c7)]
  by_cases c8:n=8
  · rw[if_pos c8] at hφ
    rw[ae,ah,if_pos (by simpa[go_sem] using c8),ae,ak,ep]
    exact hφ
  rw[if_neg c8] at hφ
  rw[ae,ah,if_neg (by simpa[go_sem] using c8)]
  by_cases c9:n=9
  · rw[if_pos c9] at hφ
    rw[ae,ah,if_pos (by simpa[go_sem] using c9),ae,ak,ep]
    exact hφ
  rw[if_neg c9] at hφ
  rw[ae,ah,if_neg (by simpa[go_sem] using c9)]
  by_cases c10:n=10
  · rw[if_pos c10] at hφ
    rw[ae,ah,if_pos (by simpa[go_sem] using c10),ae,ak,ep]
    exact hφ
  rw[if_neg c10] at hφ
  rw[ae,ah,if_neg (by simpa[go_sem] using c10)]
  by_cases c11:n=11
  · rw[if_pos c11] at hφ
    rw[ae,ah,if_pos (by simpa[go_sem] using c11),ae,ak,ep]
    exact hφ
  rw[if_neg c11] at hφ
  rw[ae,ah,if_neg (by simpa[go_sem] using c11)]
  by_cases c1:n=1
  · rw[if_pos c1] at hφ
    rw[ae,ah,if_pos (by simpa[go_sem] using c1),ae,ak,ep]
    exact hφ
  rw[if_neg c1] at hφ
  rw[ae,ah,if_neg (by simpa[go_sem] using c1)]
  by_cases c2:n=2
  · rw[if_pos c2] at hφ
    rw[ae,ah,if_pos (by simpa[go_sem] using c2),ae,ak,ep]
    exact hφ
  rw[if_neg c2] at hφ
  rw[ae,ah,if_neg (by simpa[go_sem] using c2)]
  by_cases c3:n=3
  · rw[if_pos c3] at hφ
    rw[ae,ah,if_pos (by simpa[go_sem] using c3),ae,ak,ep]
    exact hφ
  rw[if_neg c3] at hφ
  rw[ae,ah,if_neg (by simpa[go_sem] using c3)]
  by_cases c4:n=4
  · rw[if_pos c4] at hφ
    rw[ae,ah,if_pos (by simpa[go_sem] using c4),ae,ak,ep]
    exact hφ
  rw[if_neg c4] at hφ
  rw[ae,ah,if_neg (by simpa[go_sem] using c4)]
  rw[ae,ak,ep]
  exact hφ
theorem abg (n:Int):(kz n).2≤6:=by
 by_cases h:n=15∨n=14∨n=6∨n=7∨n=8∨n=9∨n=10∨n=11∨n=1∨n=2∨n=3∨n=4
 · rcases h with rfl | rfl | rfl | rfl | rfl | rfl | rfl | rfl | rfl | rfl | rfl | rfl<;>decide
 · simp only[not_or] at h
   simp[kz,h]
def Ng.lv (x:Ng):Nat:=if x.k=31 then (kz x.n).2 else if x.k=30 then 7 else 8
def Jr:Ct Tryz.prog where
 f:=95
 spec:=fun args h φ=>∃ x:Ng,args=[x.v]∧φ (.int .i64 (x.lv:Nat)) h
 ok:=by
  rintro args h φ w ⟨x,rfl,hφ⟩ hH
  refine bJ Tryz.func95 Ot UH [zM] φ (di) (bF) ⟨[x.k,x.l,x.c,x.z,x.n],[],[x.x],[],[],[],h,dM⟩ ⟨rfl,rfl,rfl,rfl,rfl,rfl⟩ af ?_ w hH rfl
  generalize hE:(⟨az _,_,_,_⟩:Env)=E
  have s_ctYSign:E.spec 96=(zM).spec:=by rw[← hE];rfl
  have ep:E.post=φ:=by rw[← hE]
  clear hE
  unfold E5
  unfold Ng.lv at hφ
  by_cases c1:x.k=31
  · rw[if_pos c1] at hφ
    rw[ah,if_pos (by simpa[go_sem] using c1),ae,ag,if_pos (by rfl),s_ctYSign]
    refine⟨x.n,rfl,?_⟩
    refine⟨fun h=>(by cases h),(ai _ _).2 ⟨⟨[((kz x.n).2:Nat)],[],[(kz x.n).1],[],[],[]⟩,rfl,af,rfl,?_⟩⟩
    rw[ae,ak,ep]
    exact hφ
  rw[if_neg c1] at hφ
  rw[ah,if_neg (by simpa[go_sem] using c1)]
  by_cases c2:x.k=30
  · rw[if_pos c2] at hφ
    rw[ae,ah,if_pos (by simpa[go_sem] using c2),ae,ak,ep]
    exact hφ
  rw[if_neg c2] at hφ
  rw[ae,ah,if_neg (by simpa[go_sem] using c2),ae,ak,ep]
  exact hφ
def Tr.g:Tr→Ng
 | .nd k l c n x ks=>⟨k,l,c,Tr.ns ks,n,x⟩
theorem Tr.adW:∀ t:Tr,t.g.lv=t.lv
 | .nd _ _ _ _ _ _=>rfl
theorem wG:∀ t:Tr,∃ r,t.gs=t.g::r∧r.length=t.sz
 | .nd k l c n x ks=>⟨Tr.zT ks,wH ..,by rw[zU];simp[Tr.sz,qZ]⟩
def Ps (l:List Ng) (p:Nat) (t:Tr):Prop:=∃ pre post,l=pre++t.gs++post∧pre.length=p
def Na (l:List Ng) (p:Nat) (ts:List Tr):Prop:=∃ pre post,l=pre++Tr.zT ts++post∧pre.length=p
theorem Ps.kids {l:List Ng} {p:Nat} {k ln c n:Int} {x:List UInt8} {ks:List Tr} (h:Ps l p (.nd k ln c n x ks)):Na l (p+1) ks:=by
 obtain⟨pre,post,rfl,rfl⟩:=h
 exact⟨pre++[⟨k,ln,c,Tr.ns ks,n,x⟩],post,by rw[wH];simp,by simp⟩
theorem Na.cons {l:List Ng} {p:Nat} {t:Tr} {ts:List Tr} (h:Na l p (t::ts)):Ps l p t∧Na l (p+t.n) ts:=by
 obtain⟨pre,post,rfl,rfl⟩:=h
 refine⟨⟨pre,Tr.zT ts++post,by rw[kC];simp,rfl⟩,⟨pre++t.gs,post,by rw[kC];simp,by rw[List.length_append,nK]⟩⟩
theorem Ps.node {l:List Ng} {p:Nat} {t:Tr} (h:Ps l p t):∃ hp:p<l.length,l[p]=t.g:=by
 obtain⟨pre,post,rfl,rfl⟩:=h
 obtain⟨r,hr,_⟩:=wG t
 have hlt:pre.length<(pre++t.gs++post).length:=by rw[hr];simp
 refine⟨hlt,?_⟩
 simp[hr]
theorem Ps.lt {l:List Ng} {p:Nat} {t:Tr} (h:Ps l p t):p+t.n≤l.length:=by
 obtain⟨pre,post,rfl,rfl⟩:=h
 rw[List.length_append,List.length_append,nK];omega
theorem Ps.iU {l:List Ng} {p fuel:Nat} {k ln c n:Int} {x:List UInt8} {ks:List Tr} (h:Ps l p (.nd k ln c n x ks)) (hf:ks.length≤fuel):iU l ((p:Nat)+(Tr.ns ks:Nat)) fuel ((p:Nat)+1)=some (places ((p:Nat)+1) ks):=by
 obtain⟨pre,post,rfl,rfl⟩:=h
 have:=Fq ks (pre++[⟨k,ln,c,Tr.ns ks,n,x⟩]) post fuel hf
 rw[wH]
 simp only[List.length_append,List.length_cons,List.length_nil,Nat.zero_add,List.append_assoc,List.cons_append,List.nil_append] at this⊢
 rw[show ((pre.length+1:Nat):Int)=(pre.length:Int)+1 by omega] at this
 rw[show ((pre.length:Int)+1 - 1+(Tr.ns ks:Int))=pre.length+(Tr.ns ks:Int) by omega] at this
 exact this
theorem vz:∀ (a b:List Tr) (p:Int),places p (a++b)=places p a++places (p+Tr.ns a) b
 | [],b,p=>by rw[bg];simp[places]
 | t::a,b,p=>by
   rw[List.cons_append,places,places,vz a b,aA,List.cons_append]
   congr 3
   omega
theorem fF:∀ (a:List Tr) (p:Int),(places p a).length=a.length
 | [],_=>rfl
 | t::a,p=>by rw[places,List.length_cons,List.length_cons,fF a]
structure jg (h:Hp) (s:bT) (ks:List Int):Prop where
 n:s.n=ks.length
 c:s.n≤s.c
 at_:ks=[]∨∃ b o ob,s.a=some (b,o)∧h b=some ob∧ob.ty=3∧(ob.cs.drop o).take ks.length=uh ks∧o+ks.length≤ob.cs.length
theorem jg.own {h:Hp} {s:bT} {ks:List Int} (ho:fJ h s (uh ks) 3 1) (hn:s.n=ks.length):jg h s ks:=by
 rcases ho with ⟨rfl,hk⟩ | ⟨b,o,h1,h2,h3,h4,h5,_,h7⟩
 · exact⟨hn,Nat.le_refl _,.inl (by simpa[uh] using hk)⟩
 · exact⟨hn,h5,.inr ⟨b,0,o,h1,h2,h3,by rw[List.drop_zero,← hn,h7,Nat.mul_one],by omega⟩⟩
theorem jg.le {h k:Hp} {s:bT} {ks:List Int} (R:jg h s ks) (hl:dP h k):jg k s ks:=
 ⟨R.n,R.c,R.at_.imp id fun ⟨b,o,ob,h1,h2,h3⟩=>⟨b,o,ob,h1,hl _ _ h2,h3⟩⟩
theorem jg.go {h k:Hp} {b:Nat} {lsl sl sl':bT} {used:Bool} {inn:Int} {acc:List UInt8} {s:bT} {ks:List Int} (R:jg h s ks) (X:IY h b lsl used sl inn acc) (G:qF h k b sl sl'):jg k s ks:=by
 refine⟨R.n,R.c,R.at_.imp id fun ⟨c,o,ob,h1,h2,h3,h4⟩=>⟨c,o,ob,h1,G.keep c ob (fun e=>?_) (fun z hz e=>?_) h2,h3,h4⟩⟩
 · rw[e,X.at_] at h2
   cases h2
   exact absurd h3 (show ¬ (yI=3) by decide)
 · obtain⟨o',ho,ht⟩:=X.blk hz
   rw[e,h2] at ho
   cases ho
   rw[h3] at ht
   exact absurd ht (by decide)
theorem jg.read {h:Hp} {s:bT} {ks:List Int} (R:jg h s ks) {j:Nat} (hj:j<ks.length):∃ b o,s.a=some (b,o)∧hread h (some (b,o+j*1+0)) 1=some [.int .i64 ks[j]]:=by
 rcases R.at_ with rfl | ⟨b,o,ob,h1,h2,h3,h4,h5⟩
 · simp at hj
 · refine⟨b,o,h1,?_⟩
   rw[bu h2,if_pos (by omega)]
   have e:(ob.cs.drop (o+j*1+0)).take 1=(((ob.cs.drop o).take ks.length).drop j).take 1:=by
    rw[List.drop_take,List.take_take,List.drop_drop,Nat.mul_one,Nat.add_zero,Nat.min_eq_left (by omega)]
   rw[e,h4,List.drop_eq_getElem_cons (by rw[QU];exact hj)]
   simp[uh]
theorem jg.tail {h:Hp} {s:bT} {q:Int} {ks:List Int} (R:jg h s (q::ks)):jg h ⟨if s.c=1 then s.a else s.a.map fun x=>(x.1,x.2+1*1),s.n - 1,s.c - 1⟩ ks:=by
 have hn:=R.n
 have hc:=R.c
 rw[List.length_cons] at hn
 refine⟨by simp[hn],by simp;omega,?_⟩
 rcases R.at_ with h0 | ⟨b,o,ob,h1,h2,h3,h4,h5⟩
 · cases h0
 · by_cases hk:ks=[]
   · exact .inl hk
   · have hp:=List.length_pos_iff.2 hk
     rw[List.length_cons] at h4 h5
     refine .inr ⟨b,o+1,ob,?_,h2,h3,?_,by omega⟩
     · rw[if_neg (by omega),h1];rfl
     · have e:(ob.cs.drop (o+1)).take ks.length=((ob.cs.drop o).take (ks.length+1)).drop 1:=by
        rw[List.drop_take,List.drop_drop];rfl
       rw[e,h4];rfl
theorem lW:∀ {t:Tr},vK t→∀ {l:List Ng} {p n:Nat},Ps l p t→t.n≤n→qc l n p=some (kZ t):=by
 intro t W
 induction W with
 | word k ln c h=>
   intro l p n P hn
   obtain⟨hp,e⟩:=P.node
   cases n with
   | zero=>rw[uA] at hn;omega
   | succ n=>
     rw[qc,List.getElem?_eq_getElem hp,e,kZ]
     simp only[Tr.g]
     have:k=15∨k=16∨k=17∨k=18:=by omega
     rcases this with rfl | rfl | rfl | rfl<;>simp[vI,pg,yC,rH]
 | big ln c x h=>
   intro l p n P hn
   obtain⟨hp,e⟩:=P.node
   cases n with
   | zero=>rw[uA] at hn;omega
   | succ n=>
     rw[qc,List.getElem?_eq_getElem hp,e,kZ]
     simp[Tr.g]
 | list ln c t h ih=>
   intro l p n P hn
   obtain⟨hp,e⟩:=P.node
   have hn2:t.n+1≤n:=by
    have:(Tr.nd 20 ln c 0 [] [t]).n=t.n+1:=by rw[uA,Tr.sz,qZ,aA,bg]
    omega
   cases n with
   | zero=>omega
   | succ n=>
     rw[qc,List.getElem?_eq_getElem hp,e,kZ]
     have:=ih (Na.cons P.kids).1 (show t.n≤n by omega)
     simp[Tr.g,this]
theorem ng.node {h:Hp} {b:Nat} {lsl sl:bT} {l:List Ng} {used:Bool} {inn:Int} {acc:List UInt8} (X:ng h b lsl l used sl inn acc) {p:Nat} {t:Tr} (P:Ps l p t):∃ c o,lsl.a=some (c,o)∧hread h (some (c,o+p*6+0)) 6=some t.g.cs∧p<lsl.n:=by
 obtain⟨hp,e⟩:=P.node
 have hn:=NG.n X.row
 obtain⟨c,o,ha⟩:=Rows.nn X.row (j:=p) (by omega)
 exact⟨c,o,ha,by rw[NG.node X.row hp ha,e],by omega⟩
end Go.Proofs.YtllbpdllkkcajaaGreatDoor
namespace Go.Proofs.YtllbpdllkkcajaaGreatDoor
open Go.RowKit
attribute [local go_sem] bI bH aj ah ag aS ax aQ ak says_again BE.den IE.den SE.den LE.den AE.den CE.den PE.den VE.den KV.val dO.den dO.cnt jO fD jX allL Ctx.push Ctx.heap Ctx.cut Ctx.bare Ctx.mark Inc.blank List.getD_cons_zero List.getD_cons_succ List.cons_append List.nil_append List.append_nil List.map_cons List.map_nil List.replicate_zero List.replicate_succ az dm bY dh cO dK dJ bC bz bD bW bV aH aX aI aG au aP aO dH af and_assoc
def Kw:Fm:=(.Z 0
 (.Z 0
 (.O (.pt 0 0) 1 [(.sl (.x 0))] ⟨0,0,0,0,1,0⟩
 (.N (.X (.x 0) (.x 0))
 (.O (.el (.x 0) (.x 0) 6 0) 6 [.U 2,.J 3,.J 4,.J 5,.J 6,(.s (.x 0))] ⟨5,0,1,0,0,0⟩
 (.C 95 [(.agg [.U 2,.J 3,.J 4,.J 5,.J 6,(.s (.x 0))])] (.p (.J 7)) ⟨1,0,0,0,0,0⟩
 (.ite (.le (.x 1) (.x 7))
 (.V 26 [.P 0,.J 0]
 .E)
 (.mk [(.s (.c [40]))] 9 1
 (.V 41 [.P 0,.L 1]
 (.V 26 [.P 0,.J 0]
 (.mk [(.s (.c [41]))] 9 1
 (.V 41 [.P 0,.L 2]
 .E))))))))))))
theorem Uc:bG ⟨true,[]⟩ Tryz.prog (fun l=>([]:List bZ).getD l ⟨[],[],[]⟩) Tryz.f57=Kw:=by kernel_rfl
theorem Yj:aF Tryz.prog .zero Tryz.f57.params.toList=some ([.P 0,.J 0,.J 1],⟨2,0,0,0,0,1⟩):=by kernel_rfl
def QS:Fm:=(.loop 0 ⟨[(.c 0)],[],[],[],[],[]⟩
 (.ite (.lt (.x 0) (.cnt (.x 0)))
 (.N (.X (.x 0) (.x 0))
 (.O (.el (.x 0) (.x 0) 1 0) 1 [.J 1] ⟨1,0,0,0,0,0⟩
 (.ite (.lt (.c 0) (.x 0))
 (.mk [(.s (.c [44,32]))] 9 1
 (.V 41 [.P 0,.L 1]
 (.V 26 [.P 0,.J 1]
 (.N (.R (.add (.x 0) (.c 1)))
 (.again 0 ⟨0,0,0,0,1,1⟩ ⟨1,0,0,0,1,1⟩ ⟨[(.add (.x 0) (.c 1))],[],[],[],[],[]⟩)))))
 (.V 26 [.P 0,.J 1]
 (.N (.R (.add (.x 0) (.c 1)))
 (.again 0 ⟨0,0,0,0,1,1⟩ ⟨1,0,0,0,1,1⟩ ⟨[(.add (.x 0) (.c 1))],[],[],[],[],[]⟩))))))
 .E))
theorem WV:bG ⟨true,[]⟩ Tryz.prog (fun l=>([⟨[8],[9,10,11,12,4,5,13,14,15,16,17,18,19,20,21],[]⟩]:List bZ).getD l ⟨[],[],[]⟩) Tryz.f56=QS:=by kernel_rfl
theorem aaN:aF Tryz.prog .zero Tryz.f56.params.toList=some ([.P 0,.L 0],⟨0,0,0,0,1,1⟩):=by kernel_rfl
def Writes (h:Hp) (b:Nat) (lsl:bT) (l:List Ng) (sl:bT) (inn:Int) (s:List UInt8) (φ:Value→Hp→Prop):Prop:=
 ∀ used' sl' k,ng k b lsl l used' sl' inn s→qF h k b sl sl'→φ (.tuple #[]) k
def Fits (acc s:List UInt8):Prop:=s.length≤1000000000000∧acc.length+s.length≤1000000000000
theorem Fits.sub {acc s a b c:List UInt8} (F:Fits acc s) (h:s=a++(b++c)):Fits (acc++a) b:=by
 obtain⟨h1,h2⟩:=F
 subst h
 simp only[List.length_append] at h1 h2
 exact⟨by omega,by rw[List.length_append];omega⟩
theorem Fits.put {acc s a b c:List UInt8} (F:Fits acc s) (h:s=a++(b++c)):(acc++a).length+b.length≤1000000000000:=(F.sub h).2
theorem Fits.p0 {acc s b c:List UInt8} (F:Fits acc s) (h:s=b++c):acc.length+b.length≤1000000000000:=by
 obtain⟨_,h2⟩:=F
 rw[h,List.length_append] at h2
 omega
def Zo (n:Nat) (args:List Value) (h:Hp) (φ:Value→Hp→Prop):Prop:=
 ∃ b lsl l used sl inn acc p t,args=[.pointer (some ⟨b,0,none⟩),.int .i64 (p:Nat)]∧ng h b lsl l used sl inn acc∧Ps l p t∧jL t∧t.n≤n∧l.length≤1000000∧Fits acc (tx t)∧Writes h b lsl l sl inn (acc++tx t) φ
def Zp (n:Nat) (args:List Value) (h:Hp) (φ:Value→Hp→Prop):Prop:=
 ∃ b lsl l used sl inn acc p t least,args=[.pointer (some ⟨b,0,none⟩),.int .i64 (p:Nat),.int .i64 (least:Nat)]∧ng h b lsl l used sl inn acc∧Ps l p t∧jL t∧t.n≤n∧l.length≤1000000∧Fits acc (brk (decide (t.lv<least)) (tx t))∧Writes h b lsl l sl inn (acc++brk (decide (t.lv<least)) (tx t)) φ
def abY (n:Nat) (args:List Value) (h:Hp) (φ:Value→Hp→Prop):Prop:=
 ∃ b lsl l used sl inn acc p ts s,args=[.pointer (some ⟨b,0,none⟩),bT.val s]∧ng h b lsl l used sl inn acc∧Na l p ts∧rJ ts∧Tr.ns ts≤n∧jg h s (places (p:Nat) ts)∧l.length≤1000000∧Fits acc (rQ ts)∧Writes h b lsl l sl inn (acc++rQ ts) φ
def Vs (n:Int) (a c:Tr):List UInt8:=brk (decide (a.lv<rF (kz n).2)) (tx a)++(32::((kz n).1++(32::brk (decide (c.lv<(kz n).2+1)) (tx c))))
def abW (n:Nat) (args:List Value) (h:Hp) (φ:Value→Hp→Prop):Prop:=
 ∃ b lsl l used sl inn acc x p a c s,args=[.pointer (some ⟨b,0,none⟩),Ng.v x,bT.val s]∧ng h b lsl l used sl inn acc∧Ps l p a∧Ps l (p+a.n) c∧jL a∧jL c∧a.n≤n∧c.n≤n∧jg h s [(p:Nat),(p+a.n:Nat)]∧l.length≤1000000∧Fits acc (Vs x.n a c)∧Writes h b lsl l sl inn (acc++Vs x.n a c) φ
def zH (n:Nat):Prop:=∀ args h φ w,Zo n args h φ→Holds h w→Calls Tryz.prog 26 args.toArray w fun e w'=>∃ v k,e=.returned v∧φ v k∧Holds k w'∧Fr w.heap.size h k w w'
def Gu (n:Nat):Prop:=∀ args h φ w,Zp n args h φ→Holds h w→Calls Tryz.prog 57 args.toArray w fun e w'=>∃ v k,e=.returned v∧φ v k∧Holds k w'∧Fr w.heap.size h k w w'
def Vj (n:Nat):Prop:=∀ args h φ w,abY n args h φ→Holds h w→Calls Tryz.prog 56 args.toArray w fun e w'=>∃ v k,e=.returned v∧φ v k∧Holds k w'∧Fr w.heap.size h k w w'
def Vh (n:Nat):Prop:=∀ args h φ w,abW n args h φ→Holds h w→Calls Tryz.prog 58 args.toArray w fun e w'=>∃ v k,e=.returned v∧φ v k∧Holds k w'∧Fr w.heap.size h k w w'
def mr {n:Nat} (H:zH n):Ct Tryz.prog:=⟨26,Zo n,H⟩
def zL {n:Nat} (H:Gu n):Ct Tryz.prog:=⟨57,Zp n,H⟩
def VT {n:Nat} (H:Vj n):Ct Tryz.prog:=⟨56,abY n,H⟩
def VR {n:Nat} (H:Vh n):Ct Tryz.prog:=⟨58,abW n,H⟩
set_option maxHeartbeats 2000000 in
theorem xC {n:Nat} (ih:zH n):Gu n:=by
 rintro args h φ w ⟨b,lsl,l,used,sl,inn,acc,p,t,least,rfl,X,P,W,hn,hl,F,hφ⟩ hH
 refine bJ Tryz.func57 Uc Yj [Jr,iK,mr ih] φ (di) (bF) ⟨[((p:Nat):Int),((least:Nat):Int)],[],[],[],[],[some (b,0)],h,dM⟩ ⟨rfl,rfl,rfl,rfl,rfl,rfl⟩ af ?_ w hH rfl
 generalize hE:(⟨az _,_,_,_⟩:Env)=E
 have s_ctYLevel:E.spec 95=(Jr).spec:=by rw[← hE];rfl
 have s_ctYPut:E.spec 41=(iK).spec:=by rw[← hE];rfl
 have s_ctE:E.spec 26=(mr ih).spec:=by rw[← hE];rfl
 have ep:E.post=φ:=by rw[← hE]
 clear hE
 unfold Kw
 obtain⟨c0,o0,ha,hrd,hpn⟩:=X.node P
 have hb:=X.prn.at_
 rw[← ae]
 rw[ae,aj];refine⟨by simp[go_sem]<;>omega,?_⟩
 rw[ae,aj];refine⟨by simp[go_sem]<;>omega,?_⟩
 rw[ae,ax,if_pos (by rfl)]
 refine (ai _ _).2 ⟨⟨[],[],[],[],[lsl],[]⟩,rfl,af,by simp[go_sem,bu hb,prn],?_⟩
 rw[ae,aj];refine⟨by simp[go_sem,ha]<;>omega,?_⟩
 rw[ae,ax,if_pos (by rfl)];refine (ai _ _).2 ⟨⟨[t.g.k,t.g.l,t.g.c,t.g.z,t.g.n],[],[t.g.x],[],[],[]⟩,rfl,af,by simpa[go_sem,ha,Ng.cs] using hrd,?_⟩
 rw[ae,ag,if_pos (by rfl),s_ctYLevel]
 refine⟨t.g,rfl,?_⟩
 refine⟨fun h=>(by cases h),(ai _ _).2 ⟨⟨[((t.g.lv:Nat):Int)],[],[],[],[],[]⟩,rfl,af,rfl,?_⟩⟩
 rw[Tr.adW]
 by_cases hlv:t.lv<least
 · rw[decide_eq_true hlv] at F hφ
   have hz:¬ ((least:Int)≤(t.lv:Int)):=by omega
   rw[ae,ah,if_neg (by simpa[go_sem] using hz)]
   rw[ae,aT];intro bb hbb
   rw[ae,ag,if_pos (by rfl),s_ctYPut]
   refine aY (ss:=[[40]]) X hbb (by simpa using F.put (a:=[]) (b:=[40]) (c:=tx t++[41]) rfl) (by simp) fun u1 s1 k1 X1 G1=>?_
   refine⟨fun h=>(by cases h),(ai _ _).2 ⟨⟨[],[],[],[],[],[]⟩,rfl,af,rfl,?_⟩⟩
   rw[ae,ag,if_pos (by rfl),s_ctE]
   refine⟨b,lsl,l,u1,s1,inn,acc++[40],p,t,rfl,X1,P,W,hn,hl,F.sub (a:=[40]) (c:=[41]) rfl,fun u2 s2 k2 X2 G2=>?_⟩
   refine⟨fun h=>(by cases h),(ai _ _).2 ⟨⟨[],[],[],[],[],[]⟩,rfl,af,rfl,?_⟩⟩
   rw[ae,aT];intro b2 hb2
   rw[ae,ag,if_pos (by rfl),s_ctYPut]
   refine aY (ss:=[[41]]) X2 hb2 ?_ (by simp) fun u3 s3 k3 X3 G3=>?_
   · have:=F.put (a:=40::tx t) (b:=[41]) (c:=[]) (by simp[brk])
     simpa using this
   refine⟨fun h=>(by cases h),(ai _ _).2 ⟨⟨[],[],[],[],[],[]⟩,rfl,af,rfl,?_⟩⟩
   rw[ae,ak,ep]
   refine hφ u3 s3 k3 ?_ ((G1.trans G2 X1.prn.nn).trans G3 X2.prn.nn)
   simpa[brk] using X3
 · rw[decide_eq_false hlv] at F hφ
   have hz:(least:Int)≤(t.lv:Int):=by omega
   rw[ae,ah,if_pos (by simpa[go_sem] using hz)]
   rw[ae,ag,if_pos (by rfl),s_ctE]
   refine⟨b,lsl,l,used,sl,inn,acc,p,t,rfl,X,P,W,hn,hl,F,fun u2 s2 k2 X2 G2=>?_⟩
   refine⟨fun h=>(by cases h),(ai _ _).2 ⟨⟨[],[],[],[],[],[]⟩,rfl,af,rfl,?_⟩⟩
   rw[ae,ak,ep]
   exact hφ u2 s2 k2 X2 G2
def Zv (j:Nat) (ts:List Tr):List UInt8:=if j=0 then rQ ts else DK ts
theorem YE (j:Nat) (t:Tr) (ts:List Tr):Zv j (t::ts)=(if j=0 then [] else [44,32])++(tx t++Zv (j+1) ts):=by
 unfold Zv
 rw[if_neg (Nat.succ_ne_zero j)]
 split
 · rw[rQ];rfl
 · rw[DK];rfl
theorem aaX (j:Nat):Zv j []=[]:=by
 unfold Zv
 split<;>simp[rQ,DK]
theorem rJ.app:∀ {a b:List Tr},rJ (a++b)→rJ b
 | [],_,h=>h
 | _::_,_,.cons _ _ _ hs=>rJ.app hs
theorem Na.app {l:List Ng} {p:Nat} {a b:List Tr} (h:Na l p (a++b)):Na l (p+Tr.ns a) b:=by
 obtain⟨pre,post,rfl,rfl⟩:=h
 refine⟨pre++Tr.zT a,post,by simp[Tr.zT,ql],by rw[List.length_append,zU]⟩
def IQ (h:Hp) (b:Nat) (lsl:bT) (l:List Ng) (sl:bT) (inn:Int) (acc:List UInt8) (p:Nat) (ts:List Tr) (s:bT) (_:Nat) (C:Ctx):Prop:=
 ∃ (j:Nat) (u:Bool) (s':bT) (k:Hp) (pre rest:List Tr) (a:List UInt8),C=⟨[j],[],[],[],[s],[some (b,0)],k,dM⟩∧ts=pre++rest∧pre.length=j∧ng k b lsl l u s' inn (acc++a)∧qF h k b sl s'∧jg k s (places (p:Nat) ts)∧a++Zv j rest=rQ ts
set_option maxHeartbeats 4000000 in
theorem Sr {n:Nat} (ih:zH n):Vj n:=by
 rintro args h φ w ⟨b,lsl,l,used,sl,inn,acc,p,ts,s,rfl,X,P,W,hn,R,hl,F,hφ⟩ hH
 refine bJ Tryz.func56 WV aaN [iK,mr ih] φ (IQ h b lsl l sl inn acc p ts s) (fun _ C=>((ts.length:Int) - C.i.getD 0 0).toNat) ⟨[],[],[],[],[s],[some (b,0)],h,dM⟩ ⟨rfl,rfl,rfl,rfl,rfl,rfl⟩ af ?_ w hH rfl
 generalize hE:(⟨az _,_,_,_⟩:Env)=E
 have s_ctYPut:E.spec 41=(iK).spec:=by rw[← hE];rfl
 have s_ctE:E.spec 26=(mr ih).spec:=by rw[← hE];rfl
 have ep:E.post=φ:=by rw[← hE]
 have ei:E.inv=(IQ h b lsl l sl inn acc p ts s):=by rw[← hE]
 have em:E.meas=(fun _ C=>((ts.length:Int) - C.i.getD 0 0).toNat):=by rw[← hE]
 clear hE
 unfold QS
 have hsn:=R.n
 rw[fF] at hsn
 have hts6:ts.length≤1000000:=by
  obtain⟨pre,post,rfl,_⟩:=P
  have:=uI ts
  rw[List.length_append,List.length_append,zU] at hl
  omega
 refine dB ?_ ?_
 · rw[ei]
   exact⟨0,used,sl,h,[],ts,[],rfl,rfl,rfl,by simpa using X,qF.refl _ _ _,R,by simp[Zv]⟩
 rw[ei,em]
 rintro i bb ss v ll pp hh M ⟨j,u,s',k,pre,rest,a,hC,hts,hj,X',G,R',ha⟩ hM
 cases hC
 have hM':M 0=((ts.length:Int) - j).toNat:=hM
 have htl:ts.length=j+rest.length:=by rw[hts,List.length_append,hj]
 cases rest with
 | nil=>
   rw[List.length_nil] at htl
   have hz:¬ ((j:Int)<s.n):=by omega
   rw[aaX,List.append_nil] at ha
   rw[ah,if_neg (by simpa[go_sem] using hz)]
   rw[ae,ak,ep]
   rw[ha] at X'
   exact hφ u s' hh X' G
 | cons t rest=>
   rw[List.length_cons] at htl
   have hz:(j:Int)<s.n:=by omega
   rw[YE] at ha
   have hP:=Na.app (show Na l p (pre++(t::rest)) by rw[← hts];exact P)
   have hW:=rJ.app (show rJ (pre++(t::rest)) by rw[← hts];exact W)
   obtain⟨hP1,hP2⟩:=hP.cons
   have hWt:jL t:=by cases hW;assumption
   have htn:t.n≤n:=by
    rw[hts,nU,aA] at hn;omega
   have hpl:(places (p:Nat) ts)[j]? = some ((p+Tr.ns pre:Nat):Int):=by
    rw[hts,vz,List.getElem?_append_right (by rw[fF];omega),fF,hj,Nat.sub_self,places]
    simp
   obtain⟨hj3,hj4⟩:=List.getElem?_eq_some_iff.1 hpl
   obtain⟨c1,o1,hsa,hrd⟩:=R'.read hj3
   rw[hj4] at hrd
   rw[ah,if_pos (by simpa[go_sem] using hz)]
   rw[ae,aj];refine⟨by simp[go_sem,hsa]<;>omega,?_⟩
   rw[ae,ax,if_pos (by rfl)];refine (ai _ _).2 ⟨⟨[((p+Tr.ns pre:Nat):Int)],[],[],[],[],[]⟩,rfl,af,by simpa[go_sem,hsa] using hrd,?_⟩
   have hlast:∀ (u2:Bool) (s2:bT) (k2:Hp),ng k2 b lsl l u2 s2 inn (acc++(a++(if j=0 then [] else [44,32])++tx t))→qF hh k2 b s' s2→
    IQ h b lsl l sl inn acc p ts s 0 ⟨[(j:Int)+1],[],[],[],[s],[some (b,0)],k2,dM⟩:=fun u2 s2 k2 X2 G2=>
    ⟨j+1,u2,s2,k2,pre++[t],rest,a++(if j=0 then [] else [44,32])++tx t,rfl,by rw[hts];simp,by simp[hj],X2,G.trans G2 X'.prn.nn,R'.go X'.prn G2,by rw[← ha];simp⟩
   by_cases hj0:j=0
   · have hz0:¬ ((0:Int)<(j:Int)):=by omega
     rw[ae,ah,if_neg (by simpa[go_sem] using hz0)]
     rw[ae,ag,if_pos (by rfl),s_ctE]
     rw[if_pos hj0] at ha hlast
     refine⟨b,lsl,l,u,s',inn,acc++a,p+Tr.ns pre,t,rfl,X',hP1,hWt,htn,hl,F.sub (a:=a) (c:=Zv (j+1) rest) ?_,fun u2 s2 k2 X2 G2=>?_⟩
     · rw[← ha];simp
     refine⟨fun h=>(by cases h),(ai _ _).2 ⟨⟨[],[],[],[],[],[]⟩,rfl,af,rfl,?_⟩⟩
     rw[ae,aj];refine⟨by simp[go_sem]<;>omega,?_⟩
     rw[ae,says_again,ei,em]
     refine⟨hlast u2 s2 k2 (by simpa using X2) G2,?_⟩
     show (((ts.length:Int) - ((j:Int)+1)).toNat)<M 0
     omega
   · have hz0:(0:Int)<(j:Int):=by omega
     rw[ae,ah,if_pos (by simpa[go_sem] using hz0)]
     rw[if_neg hj0] at ha hlast
     rw[ae,aT];intro b1 hb1
     rw[ae,ag,if_pos (by rfl),s_ctYPut]
     refine aY (ss:=[[44,32]]) X' hb1 (F.put (a:=a) (b:=[44,32]) (c:=tx t++Zv (j+1) rest) ha.symm) (by simp) fun u1 s1 k1 X1 G1=>?_
     refine⟨fun h=>(by cases h),(ai _ _).2 ⟨⟨[],[],[],[],[],[]⟩,rfl,af,rfl,?_⟩⟩
     rw[ae,ag,if_pos (by rfl),s_ctE]
     refine⟨b,lsl,l,u1,s1,inn,_,p+Tr.ns pre,t,rfl,X1,hP1,hWt,htn,hl,?_,fun u2 s2 k2 X2 G2=>?_⟩
     · have:=F.sub (a:=a++[44,32]) (b:=tx t) (c:=Zv (j+1) rest) (by rw[← ha];simp)
       simpa using this
     refine⟨fun h=>(by cases h),(ai _ _).2 ⟨⟨[],[],[],[],[],[]⟩,rfl,af,rfl,?_⟩⟩
     rw[ae,aj];refine⟨by simp[go_sem]<;>omega,?_⟩
     rw[ae,says_again,ei,em]
     refine⟨hlast u2 s2 k2 (by simpa using X2) (G1.trans G2 X1.prn.nn),?_⟩
     show (((ts.length:Int) - ((j:Int)+1)).toNat)<M 0
     omega
end Go.Proofs.YtllbpdllkkcajaaGreatDoor
namespace Go.Proofs.YtllbpdllkkcajaaGreatDoor
open Go.RowKit
attribute [local go_sem] bI bH aj ah ag aS ax aQ ak says_again BE.den IE.den SE.den LE.den AE.den CE.den PE.den VE.den KV.val dO.den dO.cnt jO fD jX allL Ctx.push Ctx.heap Ctx.cut Ctx.bare Ctx.mark Inc.blank List.getD_cons_zero List.getD_cons_succ List.cons_append List.nil_append List.append_nil List.map_cons List.map_nil List.replicate_zero List.replicate_succ az dm bY dh cO dK dJ bC bz bD bW bV aH aX aI aG au aP aO dH af and_assoc
def QP:Fm:=(.C 96 [.J 4] (.tup [.S 1,.J 5]) ⟨1,0,1,0,0,0⟩
 (.ite (.or (.eqI (.x 5) (.c 3)) (.eqI (.x 5) (.c 4)))
 (.N (.R (.add (.x 5) (.c 1)))
 (.N (.X (.c 0) (.x 0))
 (.O (.el (.x 0) (.c 0) 1 0) 1 [.J 6] ⟨1,0,0,0,0,0⟩
 (.V 57 [.P 0,.J 6,(.I (.add (.x 5) (.c 1)))]
 (.mk [(.s (.c [32])),(.s (.x 1)),(.s (.c [32]))] 9 3
 (.V 41 [.P 0,.L 1]
 (.N (.X (.c 1) (.x 0))
 (.O (.el (.x 0) (.c 1) 1 0) 1 [.J 7] ⟨1,0,0,0,0,0⟩
 (.N (.R (.add (.x 5) (.c 1)))
 (.V 57 [.P 0,.J 7,(.I (.add (.x 5) (.c 1)))]
 .E))))))))))
 (.N (.X (.c 0) (.x 0))
 (.O (.el (.x 0) (.c 0) 1 0) 1 [.J 6] ⟨1,0,0,0,0,0⟩
 (.V 57 [.P 0,.J 6,.J 5]
 (.mk [(.s (.c [32])),(.s (.x 1)),(.s (.c [32]))] 9 3
 (.V 41 [.P 0,.L 1]
 (.N (.X (.c 1) (.x 0))
 (.O (.el (.x 0) (.c 1) 1 0) 1 [.J 7] ⟨1,0,0,0,0,0⟩
 (.N (.R (.add (.x 5) (.c 1)))
 (.V 57 [.P 0,.J 7,(.I (.add (.x 5) (.c 1)))]
 .E)))))))))))
theorem WS:bG ⟨true,[]⟩ Tryz.prog (fun l=>([]:List bZ).getD l ⟨[],[],[]⟩) Tryz.f58=QP:=by kernel_rfl
theorem aaK:aF Tryz.prog .zero Tryz.f58.params.toList=some ([.P 0,(.agg [.U 0,.J 1,.J 2,.J 3,.J 4,(.s (.x 0))]),.L 0],⟨5,0,1,0,1,1⟩):=by kernel_rfl
def Ku:Fm:=(.Z 0
 (.Z 0
 (.O (.pt 0 0) 1 [(.sl (.x 0))] ⟨0,0,0,0,1,0⟩
 (.N (.X (.x 0) (.x 0))
 (.O (.el (.x 0) (.x 0) 6 0) 6 [.U 1,.J 2,.J 3,.J 4,.J 5,(.s (.x 0))] ⟨5,0,1,0,0,0⟩
 (.C 38 [.P 0,.J 0] (.p (.L 1)) ⟨0,0,0,0,1,0⟩
 (.ite (.eqI (.x 1) (.c 21))
 (.C 54 [.J 5] (.p (.S 1)) ⟨0,0,1,0,0,0⟩
 (.mk [(.s (.x 1))] 9 1
 (.V 41 [.P 0,.L 2]
 .E)))
 (.ite (.eqI (.x 1) (.c 22))
 (.C 54 [.J 5] (.p (.S 1)) ⟨0,0,1,0,0,0⟩
 (.mk [(.s (.x 1)),(.s (.c [105]))] 9 2
 (.V 41 [.P 0,.L 2]
 .E)))
 (.ite (.eqI (.x 1) (.c 23))
 (.C 55 [.S 0] (.p (.S 1)) ⟨0,0,1,0,0,0⟩
 (.mk [(.s (.x 1))] 9 1
 (.V 41 [.P 0,.L 2]
 .E)))
 (.ite (.eqI (.x 1) (.c 24))
 (.N (.and (.le (.c 0) (.x 5)) (.lt (.x 5) (.c 2)))
 (.mk [(.s (.ite (.eqI (.x 5) (.c 0)) (.c [102,97,108,115,101]) (.c [116,114,117,101])))] 9 1
 (.V 41 [.P 0,.L 2]
 .E)))
 (.ite (.eqI (.x 1) (.c 25))
 (.mk [(.s (.c [110,105,108]))] 9 1
 (.V 41 [.P 0,.L 2]
 .E))
 (.ite (.eqI (.x 1) (.c 26))
 (.mk [(.s (.x 0))] 9 1
 (.V 41 [.P 0,.L 2]
 .E))
 (.ite (.eqI (.x 1) (.c 27))
 (.mk [(.s (.x 0)),(.s (.c [40]))] 9 2
 (.V 41 [.P 0,.L 2]
 (.V 56 [.P 0,.L 1]
 (.mk [(.s (.c [41]))] 9 1
 (.V 41 [.P 0,.L 3]
 .E)))))
 (.ite (.eqI (.x 1) (.c 28))
 (.N (.X (.c 0) (.x 1))
 (.O (.el (.x 1) (.c 0) 1 0) 1 [.J 6] ⟨1,0,0,0,0,0⟩
 (.V 57 [.P 0,.J 6,(.I (.c 8))]
 (.mk [(.s (.c [91]))] 9 1
 (.V 41 [.P 0,.L 2]
 (.N (.X (.c 1) (.x 1))
 (.O (.el (.x 1) (.c 1) 1 0) 1 [.J 7] ⟨1,0,0,0,0,0⟩
 (.V 26 [.P 0,.J 7]
 (.mk [(.s (.c [93]))] 9 1
 (.V 41 [.P 0,.L 3]
 .E))))))))))
 (.ite (.eqI (.x 1) (.c 29))
 (.N (.X (.c 0) (.x 1))
 (.O (.el (.x 1) (.c 0) 1 0) 1 [.J 6] ⟨1,0,0,0,0,0⟩
 (.V 57 [.P 0,.J 6,(.I (.c 8))]
 (.mk [(.s (.c [46])),(.s (.x 0))] 9 2
 (.V 41 [.P 0,.L 2]
 .E)))))
 (.ite (.eqI (.x 1) (.c 30))
 (.mk [(.s (.ite (.eqI (.x 5) (.c 12)) (.c [45]) (.c [33])))] 9 1
 (.V 41 [.P 0,.L 2]
 (.N (.X (.c 0) (.x 1))
 (.O (.el (.x 1) (.c 0) 1 0) 1 [.J 6] ⟨1,0,0,0,0,0⟩
 (.V 57 [.P 0,.J 6,(.I (.c 7))]
 .E)))))
 (.ite (.eqI (.x 1) (.c 31))
 (.V 58 [.P 0,(.agg [.U 1,.J 2,.J 3,.J 4,.J 5,(.s (.x 0))]),.L 1]
 .E)
 (.ite (.eqI (.x 1) (.c 32))
 (.N (.X (.c 0) (.x 1))
 (.O (.el (.x 1) (.c 0) 1 0) 1 [.J 6] ⟨1,0,0,0,0,0⟩
 (.C 28 [.P 0,.J 6] (.p (.S 1)) ⟨0,0,1,0,0,0⟩
 (.mk [(.s (.c [109,97,107,101,32])),(.s (.x 1)),(.s (.c [40]))] 9 3
 (.V 41 [.P 0,.L 2]
 (.N (.and (.le (.cnt (.x 1)) (.cap (.x 1))) (.and (.le (.c 0) (.c 1)) (.le (.c 1) (.cnt (.x 1)))))
 (.V 56 [.P 0,(.one (.sl (.sub (.x 1) (.c 1) (.cnt (.x 1)) 1)))]
 (.mk [(.s (.c [41]))] 9 1
 (.V 41 [.P 0,.L 3]
 .E)))))))))
 .E))))))))))))))))))
theorem Ua:bG ⟨true,[]⟩ Tryz.prog (fun l=>([]:List bZ).getD l ⟨[],[],[]⟩) Tryz.f26=Ku:=by kernel_rfl
theorem Yh:aF Tryz.prog .zero Tryz.f26.params.toList=some ([.P 0,.J 0],⟨1,0,0,0,0,1⟩):=by kernel_rfl
set_option maxHeartbeats 4000000 in
theorem Sj {n:Nat} (ih:Gu n):Vh n:=by
 rintro args h φ w ⟨b,lsl,l,used,sl,inn,acc,x,p,a,c,s,rfl,X,P,P2,W,W2,hn,hn2,R,hl,F,hφ⟩ hH
 refine bJ Tryz.func58 WS aaK [zM,iK,zL ih] φ (di) (bF) ⟨[x.k,x.l,x.c,x.z,x.n],[],[x.x],[],[s],[some (b,0)],h,dM⟩ ⟨rfl,rfl,rfl,rfl,rfl,rfl⟩ af ?_ w hH rfl
 generalize hE:(⟨az _,_,_,_⟩:Env)=E
 have s_ctYSign:E.spec 96=(zM).spec:=by rw[← hE];rfl
 have s_ctYPut:E.spec 41=(iK).spec:=by rw[← hE];rfl
 have s_ctO:E.spec 57=(zL ih).spec:=by rw[← hE];rfl
 have ep:E.post=φ:=by rw[← hE]
 clear hE
 unfold QP
 have hsn:=R.n
 have hsn2:s.n=2:=hsn
 have hlv:=abg x.n
 rw[ag,if_pos (by rfl),s_ctYSign]
 refine⟨x.n,rfl,?_⟩
 generalize hg:kz x.n=g at *
 refine⟨fun h=>(by cases h),(ai _ _).2 ⟨⟨[((g.2:Nat):Int)],[],[g.1],[],[],[]⟩,rfl,af,rfl,?_⟩⟩
 unfold Vs at F hφ
 rw[hg] at F hφ
 obtain⟨q0,o0,hq0,hr0⟩:=R.read (j:=0) (by simp)
 have tail:∀ (u1:Bool) (s1:bT) (k1:Hp) (lf:Nat),lf=rF g.2→ng k1 b lsl l u1 s1 inn (acc++brk (decide (a.lv<lf)) (tx a))→qF h k1 b sl s1→∀ (i:List Int) (M:Nat→Nat),i.length=7→i.getD 5 0=((g.2:Nat):Int)→
  Then E (.mk [(.s (.c [32])),(.s (.x 1)),(.s (.c [32]))] 9 3 (.V 41 [.P 0,.L 1]
   (.N (.X (.c 1) (.x 0)) (.O (.el (.x 0) (.c 1) 1 0) 1 [.J 7] ⟨1,0,0,0,0,0⟩
   (.N (.R (.add (.x 5) (.c 1)))
   (.V 57 [.P 0,.J 7,(.I (.add (.x 5) (.c 1)))] .E)))))) ⟨i,[],[x.x,g.1],[],[s],[some (b,0)],k1,M⟩:=by
  intro u1 s1 k1 lf hlf X1 G1 i M hi h5
  obtain⟨i0,i1,i2,i3,i4,i5,i6,rfl⟩:∃ i0 i1 i2 i3 i4 i5 i6,i=[i0,i1,i2,i3,i4,i5,i6]:=by
   match i,hi with
   | [i0,i1,i2,i3,i4,i5,i6],_=>exact⟨i0,i1,i2,i3,i4,i5,i6,rfl⟩
  have h5':i5=((g.2:Nat):Int):=h5
  subst h5' hlf
  have R1:=R.go X.prn G1
  obtain⟨q1,o1,hq1,hr1⟩:=R1.read (j:=1) (by simp)
  rw[ae,aT];intro b1 hb1
  rw[ae,ag,if_pos (by rfl),s_ctYPut]
  refine aY (ss:=[[32],g.1,[32]]) X1 hb1 ?_ (by simp) fun u2 s2 k2 X2 G2=>?_
  · have:=F.put (a:=brk (decide (a.lv<rF g.2)) (tx a)) (b:=32::(g.1++[32])) (c:=brk (decide (c.lv<g.2+1)) (tx c)) (by simp)
    simpa using this
  refine⟨fun h=>(by cases h),(ai _ _).2 ⟨⟨[],[],[],[],[],[]⟩,rfl,af,rfl,?_⟩⟩
  have R2:=R1.go X1.prn G2
  obtain⟨q2,o2,hq2,hr2⟩:=R2.read (j:=1) (by simp)
  rw[ae,aj];refine⟨by simp[go_sem,hq2]<;>omega,?_⟩
  rw[ae,ax,if_pos (by rfl)]
  refine (ai _ _).2 ⟨⟨[((p+a.n:Nat):Int)],[],[],[],[],[]⟩,rfl,af,by simpa[go_sem,hq2] using hr2,?_⟩
  rw[ae,aj];refine⟨by simp[go_sem]<;>omega,?_⟩
  rw[ae,ag,if_pos (by rfl),s_ctO]
  refine⟨b,lsl,l,u2,s2,inn,_,p+a.n,c,g.2+1,rfl,X2,P2,W2,hn2,hl,?_,fun u3 s3 k3 X3 G3=>?_⟩
  · have:=F.sub (a:=brk (decide (a.lv<rF g.2)) (tx a)++(32::(g.1++[32]))) (b:=brk (decide (c.lv<g.2+1)) (tx c)) (c:=[]) (by simp)
    simpa using this
  refine⟨fun h=>(by cases h),(ai _ _).2 ⟨⟨[],[],[],[],[],[]⟩,rfl,af,rfl,?_⟩⟩
  rw[ae,ak,ep]
  refine hφ u3 s3 k3 ?_ ((G1.trans G2 X1.prn.nn).trans G3 X2.prn.nn)
  simpa using X3
 by_cases h34:g.2=3∨g.2=4
 · have hz:((g.2:Nat):Int)=3∨((g.2:Nat):Int)=4:=by omega
   have hlf:g.2+1=rF g.2:=by unfold rF;rw[if_pos h34]
   rw[ae,ah,if_pos (by simpa[go_sem] using hz)]
   rw[ae,aj];refine⟨by simp[go_sem]<;>omega,?_⟩
   rw[ae,aj];refine⟨by simp[go_sem,hq0]<;>omega,?_⟩
   rw[ae,ax,if_pos (by rfl)]
   refine (ai _ _).2 ⟨⟨[((p:Nat):Int)],[],[],[],[],[]⟩,rfl,af,by simpa[go_sem,hq0] using hr0,?_⟩
   rw[ae,ag,if_pos (by rfl),s_ctO]
   refine⟨b,lsl,l,used,sl,inn,acc,p,a,g.2+1,rfl,X,P,W,hn,hl,?_,fun u1 s1 k1 X1 G1=>?_⟩
   · rw[hlf]
     simpa using F.sub (a:=[]) (b:=brk (decide (a.lv<rF g.2)) (tx a)) rfl
   refine⟨fun h=>(by cases h),(ai _ _).2 ⟨⟨[],[],[],[],[],[]⟩,rfl,af,rfl,?_⟩⟩
   exact tail u1 s1 k1 _ hlf X1 G1 _ _ rfl rfl
 · have hz:¬ (((g.2:Nat):Int)=3∨((g.2:Nat):Int)=4):=by omega
   have hlf:g.2=rF g.2:=by unfold rF;rw[if_neg h34]
   rw[ae,ah,if_neg (by simpa[go_sem] using hz)]
   rw[ae,aj];refine⟨by simp[go_sem,hq0]<;>omega,?_⟩
   rw[ae,ax,if_pos (by rfl)]
   refine (ai _ _).2 ⟨⟨[((p:Nat):Int)],[],[],[],[],[]⟩,rfl,af,by simpa[go_sem,hq0] using hr0,?_⟩
   rw[ae,ag,if_pos (by rfl),s_ctO]
   refine⟨b,lsl,l,used,sl,inn,acc,p,a,g.2,rfl,X,P,W,hn,hl,?_,fun u1 s1 k1 X1 G1=>?_⟩
   · have:=F.sub (a:=[]) (b:=brk (decide (a.lv<rF g.2)) (tx a)) rfl
     rw[← hlf] at this
     simpa using this
   refine⟨fun h=>(by cases h),(ai _ _).2 ⟨⟨[],[],[],[],[],[]⟩,rfl,af,rfl,?_⟩⟩
   exact tail u1 s1 k1 _ hlf X1 G1 _ _ rfl rfl
theorem jk (k l c n:Int) (x:List UInt8) (ks:List Tr):(Tr.nd k l c n x ks).n=Tr.ns ks+1:=by rw[uA,Tr.sz,qZ]
set_option maxHeartbeats 8000000 in
set_option maxRecDepth 10000 in
theorem tC:∀ n,zH n
 | 0=>by
   rintro args h φ w ⟨b,lsl,l,used,sl,inn,acc,p,t,rfl,X,P,W,hn,_⟩ hH
   rw[uA] at hn
   omega
 | n+1=>by
   have ih:=tC n
   rintro args h φ w ⟨b,lsl,l,used,sl,inn,acc,p,t,rfl,X,P,W,hn,hl,F,hφ⟩ hH
   refine bJ Tryz.func26 Ua Yh [kF,Qg,Qj,iK,VT (Sr ih),zL (xC ih),mr ih,VR (Sj (xC ih)),mD (lF 1000000)] φ (di) (bF) ⟨[((p:Nat):Int)],[],[],[],[],[some (b,0)],h,dM⟩ ⟨rfl,rfl,rfl,rfl,rfl,rfl⟩ af ?_ w hH rfl
   generalize hE:(⟨az _,_,_,_⟩:Env)=E
   have s_ctYKids:E.spec 38=(kF).spec:=by rw[← hE];rfl
   have s_ctNText:E.spec 54=(Qg).spec:=by rw[← hE];rfl
   have s_ctQuote:E.spec 55=(Qj).spec:=by rw[← hE];rfl
   have s_ctYPut:E.spec 41=(iK).spec:=by rw[← hE];rfl
   have s_ctR:E.spec 56=(VT (Sr ih)).spec:=by rw[← hE];rfl
   have s_ctO:E.spec 57=(zL (xC ih)).spec:=by rw[← hE];rfl
   have s_ctE:E.spec 26=(mr ih).spec:=by rw[← hE];rfl
   have s_ctB:E.spec 58=(VR (Sj (xC ih))).spec:=by rw[← hE];rfl
   have s_ctK:E.spec 28=(mD (lF 1000000)).spec:=by rw[← hE];rfl
   have ep:E.post=φ:=by rw[← hE]
   clear hE
   unfold Ku
   obtain⟨c0,o0,ha,hrd,hpn⟩:=X.node P
   obtain⟨hpl,hpt⟩:=P.node
   have hb:=X.prn.at_
   have hlt:=P.lt
   rw[← ae]
   rw[ae,aj];refine⟨by simp[go_sem]<;>omega,?_⟩
   rw[ae,aj];refine⟨by simp[go_sem]<;>omega,?_⟩
   rw[ae,ax,if_pos (by rfl)]
   refine (ai _ _).2 ⟨⟨[],[],[],[],[lsl],[]⟩,rfl,af,by simp[go_sem,bu hb,prn],?_⟩
   rw[ae,aj];refine⟨by simp[go_sem,ha]<;>omega,?_⟩
   obtain⟨k,ln,c,nn,x,ks⟩:=t
   rw[jk] at hlt hn
   have hks:=uI ks
   rw[ae,ax,if_pos (by rfl)]
   refine (ai _ _).2 ⟨⟨[k,ln,c,((Tr.ns ks:Nat):Int),nn],[],[x],[],[],[]⟩,rfl,af,by simpa[go_sem,ha,Ng.cs,Tr.g] using hrd,?_⟩
   rw[ae,ag,if_pos (by rfl),s_ctYKids]
   refine⟨b,lsl,l,p,((Tr.ns ks:Nat):Int),ks.length,places ((p:Nat)+1) ks,_,_,rfl,hb,X.row,hl,by omega,⟨l[p],List.getElem?_eq_getElem hpl,by rw[hpt];rfl⟩,by omega,by omega,P.iU (Nat.le_refl _),fun s k1 hle ho hsn=>?_⟩
   refine⟨fun h=>(by cases h),(ai _ _).2 ⟨⟨[],[],[],[],[s],[]⟩,rfl,af,rfl,?_⟩⟩
   have X1:=X.le hle
   have R:=jg.own ho hsn
   have fin:Writes k1 b lsl l sl inn (acc++tx (.nd k ln c nn x ks)) φ:=fun u2 s2 k2 Y G=>hφ u2 s2 k2 Y (G.le hle)
   have ps:((p:Nat):Int)+1=((p+1:Nat):Int):=by omega
   rw[ps] at R
   have hn':Tr.ns ks≤n:=by omega
   clear hφ ho hle
   have PK:=P.kids
   cases W with
   | int _ _ _ h0=>
     rw[ae,ah,if_pos (by simp[go_sem])]
     rw[ae,ag,if_pos (by rfl),s_ctNText]
     refine⟨nn,rfl,by omega,by omega,?_⟩
     refine⟨fun h=>(by cases h),(ai _ _).2 ⟨⟨[],[],[txt nn],[],[],[]⟩,rfl,af,rfl,?_⟩⟩
     have e:tx (.nd 21 ln c nn [] [])=txt nn:=by rw[tx.eq_def];simp
     rw[e] at F fin
     rw[ae,aT];intro bb hbb
     rw[ae,ag,if_pos (by rfl),s_ctYPut]
     refine aY (ss:=[txt nn]) X1 hbb (by simpa using F.2) (by simp) fun u2 s2 k2 Y G=>?_
     refine⟨fun h=>(by cases h),(ai _ _).2 ⟨⟨[],[],[],[],[],[]⟩,rfl,af,rfl,?_⟩⟩
     rw[ae,ak,ep]
     exact fin u2 s2 k2 (by simpa using Y) G
   | comp _ _ _ h0=>
     iterate 1 (rw[ae,ah,if_neg (by simp[go_sem])])
     rw[ae,ah,if_pos (by simp[go_sem])]
     rw[ae,ag,if_pos (by rfl),s_ctNText]
     refine⟨nn,rfl,by omega,by omega,?_⟩
     refine⟨fun h=>(by cases h),(ai _ _).2 ⟨⟨[],[],[txt nn],[],[],[]⟩,rfl,af,rfl,?_⟩⟩
     have e:tx (.nd 22 ln c nn [] [])=txt nn++[105]:=by rw[tx.eq_def];simp
     rw[e] at F fin
     rw[ae,aT];intro bb hbb
     rw[ae,ag,if_pos (by rfl),s_ctYPut]
     refine aY (ss:=[txt nn,[105]]) X1 hbb (by simpa using F.2) (by simp) fun u2 s2 k2 Y G=>?_
     refine⟨fun h=>(by cases h),(ai _ _).2 ⟨⟨[],[],[],[],[],[]⟩,rfl,af,rfl,?_⟩⟩
     rw[ae,ak,ep]
     exact fin u2 s2 k2 (by simpa using Y) G
   | str _ _ _ hx=>
     iterate 2 (rw[ae,ah,if_neg (by simp[go_sem])])
     rw[ae,ah,if_pos (by simp[go_sem])]
     have e:tx (.nd 23 ln c 0 x [])=quo x:=by rw[tx.eq_def];simp
     rw[e] at F fin
     rw[ae,ag,if_pos (by rfl),s_ctQuote]
     refine⟨x,rfl,hx,?_⟩
     refine⟨fun h=>(by cases h),(ai _ _).2 ⟨⟨[],[],[quo x],[],[],[]⟩,rfl,af,rfl,?_⟩⟩
     rw[ae,aT];intro bb hbb
     rw[ae,ag,if_pos (by rfl),s_ctYPut]
     refine aY (ss:=[quo x]) X1 hbb (by simpa using F.2) (by simp) fun u2 s2 k2 Y G=>?_
     refine⟨fun h=>(by cases h),(ai _ _).2 ⟨⟨[],[],[],[],[],[]⟩,rfl,af,rfl,?_⟩⟩
     rw[ae,ak,ep]
     exact fin u2 s2 k2 (by simpa using Y) G
   | bool _ _ _ h0=>
     iterate 3 (rw[ae,ah,if_neg (by simp[go_sem])])
     rw[ae,ah,if_pos (by simp[go_sem])]
     rw[ae,aj];refine⟨by simp[go_sem]<;>omega,?_⟩
     rw[ae,aT];intro bb hbb
     rw[ae,ag,if_pos (by rfl),s_ctYPut]
     rcases h0 with rfl | rfl
     · have e:tx (.nd 24 ln c 0 [] [])=gB:=by rw[tx.eq_def];simp
       rw[e] at F fin
       refine aY (ss:=[gB]) X1 hbb (by simpa using F.2) (by simp) fun u2 s2 k2 Y G=>?_
       refine⟨fun h=>(by cases h),(ai _ _).2 ⟨⟨[],[],[],[],[],[]⟩,rfl,af,rfl,?_⟩⟩
       rw[ae,ak,ep]
       exact fin u2 s2 k2 (by simpa using Y) G
     · have e:tx (.nd 24 ln c 1 [] [])=jv:=by rw[tx.eq_def];simp
       rw[e] at F fin
       refine aY (ss:=[jv]) X1 hbb (by simpa using F.2) (by simp) fun u2 s2 k2 Y G=>?_
       refine⟨fun h=>(by cases h),(ai _ _).2 ⟨⟨[],[],[],[],[],[]⟩,rfl,af,rfl,?_⟩⟩
       rw[ae,ak,ep]
       exact fin u2 s2 k2 (by simpa using Y) G
   | nil=>
     iterate 4 (rw[ae,ah,if_neg (by simp[go_sem])])
     rw[ae,ah,if_pos (by simp[go_sem])]
     have e:tx (.nd 25 ln c 0 [] [])=oz:=by rw[tx.eq_def];simp
     rw[e] at F fin
     rw[ae,aT];intro bb hbb
     rw[ae,ag,if_pos (by rfl),s_ctYPut]
     refine aY (ss:=[oz]) X1 hbb (by simpa using F.2) (by simp) fun u2 s2 k2 Y G=>?_
     refine⟨fun h=>(by cases h),(ai _ _).2 ⟨⟨[],[],[],[],[],[]⟩,rfl,af,rfl,?_⟩⟩
     rw[ae,ak,ep]
     exact fin u2 s2 k2 (by simpa using Y) G
   | name _ _ _ h0=>
     iterate 5 (rw[ae,ah,if_neg (by simp[go_sem])])
     rw[ae,ah,if_pos (by simp[go_sem])]
     rw[IP] at F fin
     rw[ae,aT];intro bb hbb
     rw[ae,ag,if_pos (by rfl),s_ctYPut]
     refine aY (ss:=[x]) X1 hbb (by simpa using F.2) (by simp) fun u2 s2 k2 Y G=>?_
     refine⟨fun h=>(by cases h),(ai _ _).2 ⟨⟨[],[],[],[],[],[]⟩,rfl,af,rfl,?_⟩⟩
     rw[ae,ak,ep]
     exact fin u2 s2 k2 (by simpa using Y) G
   | call _ _ _ h0 _ hk=>
     iterate 6 (rw[ae,ah,if_neg (by simp[go_sem])])
     rw[ae,ah,if_pos (by simp[go_sem])]
     rw[AA] at F fin
     rw[ae,aT];intro bb hbb
     rw[ae,ag,if_pos (by rfl),s_ctYPut]
     refine aY (ss:=[x,[40]]) X1 hbb (F.p0 (b:=x++[40]) (c:=rQ ks++[41]) (by simp)) (by simp) fun u2 s2 k2 X2 G2=>?_
     refine⟨fun h=>(by cases h),(ai _ _).2 ⟨⟨[],[],[],[],[],[]⟩,rfl,af,rfl,?_⟩⟩
     rw[ae,ag,if_pos (by rfl),s_ctR]
     have R2:=R.go X1.prn G2
     refine⟨b,lsl,l,u2,s2,inn,_,p+1,ks,s,rfl,X2,PK,hk,hn',R2,hl,?_,fun u3 s3 k3 X3 G3=>?_⟩
     · simpa using F.sub (a:=x++[40]) (b:=rQ ks) (c:=[41]) (by simp)
     refine⟨fun h=>(by cases h),(ai _ _).2 ⟨⟨[],[],[],[],[],[]⟩,rfl,af,rfl,?_⟩⟩
     rw[ae,aT];intro b3 hb3
     rw[ae,ag,if_pos (by rfl),s_ctYPut]
     refine aY (ss:=[[41]]) X3 hb3 (by simpa using F.put (a:=x++(40::rQ ks)) (b:=[41]) (c:=[]) (by simp)) (by simp) fun u4 s4 k4 X4 G4=>?_
     refine⟨fun h=>(by cases h),(ai _ _).2 ⟨⟨[],[],[],[],[],[]⟩,rfl,af,rfl,?_⟩⟩
     rw[ae,ak,ep]
     exact fin u4 s4 k4 (by simpa using X4) ((G2.trans G3 X2.prn.nn).trans G4 X3.prn.nn)
   | index _ _ a a2 w1 w2=>
     iterate 7 (rw[ae,ah,if_neg (by simp[go_sem])])
     rw[ae,ah,if_pos (by simp[go_sem])]
     rw[xq] at F fin
     obtain⟨P1,PK2⟩:=PK.cons
     have P2:=PK2.cons.1
     have hR:jg k1 s [((p+1:Nat):Int),((p+1+a.n:Nat):Int)]:=by simpa[places] using R
     rw[aA,aA,bg] at hn'
     have hs2:s.n=2:=hR.n
     obtain⟨q0,y0,hq0,hr0⟩:=hR.read (j:=0) (by simp)
     rw[ae,aj];refine⟨by simp[go_sem,hq0]<;>omega,?_⟩
     rw[ae,ax,if_pos (by rfl)]
     refine (ai _ _).2 ⟨⟨[((p+1:Nat):Int)],[],[],[],[],[]⟩,rfl,af,by simpa[go_sem,hq0] using hr0,?_⟩
     rw[ae,ag,if_pos (by rfl),s_ctO]
     refine⟨b,lsl,l,used,sl,inn,acc,p+1,a,8,rfl,X1,P1,w1,by omega,hl,?_,fun u2 s2 k2 X2 G2=>?_⟩
     · simpa using F.sub (a:=[]) (b:=brk (decide (a.lv<8)) (tx a)) rfl
     refine⟨fun h=>(by cases h),(ai _ _).2 ⟨⟨[],[],[],[],[],[]⟩,rfl,af,rfl,?_⟩⟩
     rw[ae,aT];intro b2 hb2
     rw[ae,ag,if_pos (by rfl),s_ctYPut]
     refine aY (ss:=[[91]]) X2 hb2 (by simpa using F.put (a:=brk (decide (a.lv<8)) (tx a)) (b:=[91]) (c:=tx a2++[93]) (by simp)) (by simp) fun u3 s3 k3 X3 G3=>?_
     refine⟨fun h=>(by cases h),(ai _ _).2 ⟨⟨[],[],[],[],[],[]⟩,rfl,af,rfl,?_⟩⟩
     have hR3:=(hR.go X1.prn G2).go X2.prn G3
     obtain⟨q1,y1,hq1,hr1⟩:=hR3.read (j:=1) (by simp)
     rw[ae,aj];refine⟨by simp[go_sem,hq1]<;>omega,?_⟩
     rw[ae,ax,if_pos (by rfl)]
     refine (ai _ _).2 ⟨⟨[((p+1+a.n:Nat):Int)],[],[],[],[],[]⟩,rfl,af,by simpa[go_sem,hq1] using hr1,?_⟩
     rw[ae,ag,if_pos (by rfl),s_ctE]
     refine⟨b,lsl,l,u3,s3,inn,_,p+1+a.n,a2,rfl,X3,P2,w2,by omega,hl,?_,fun u4 s4 k4 X4 G4=>?_⟩
     · simpa using F.sub (a:=brk (decide (a.lv<8)) (tx a)++[91]) (b:=tx a2) (c:=[93]) (by simp)
     refine⟨fun h=>(by cases h),(ai _ _).2 ⟨⟨[],[],[],[],[],[]⟩,rfl,af,rfl,?_⟩⟩
     rw[ae,aT];intro b4 hb4
     rw[ae,ag,if_pos (by rfl),s_ctYPut]
     refine aY (ss:=[[93]]) X4 hb4 (by simpa using F.put (a:=brk (decide (a.lv<8)) (tx a)++(91::tx a2)) (b:=[93]) (c:=[]) (by simp)) (by simp) fun u5 s5 k5 X5 G5=>?_
     refine⟨fun h=>(by cases h),(ai _ _).2 ⟨⟨[],[],[],[],[],[]⟩,rfl,af,rfl,?_⟩⟩
     rw[ae,ak,ep]
     exact fin u5 s5 k5 (by simpa using X5) (((G2.trans G3 X2.prn.nn).trans G4 X3.prn.nn).trans G5 X4.prn.nn)
   | dot _ _ _ h0 a w1=>
     iterate 8 (rw[ae,ah,if_neg (by simp[go_sem])])
     rw[ae,ah,if_pos (by simp[go_sem])]
     rw[IM] at F fin
     obtain⟨P1,_⟩:=PK.cons
     have hR:jg k1 s [((p+1:Nat):Int)]:=by simpa[places] using R
     rw[aA,bg] at hn'
     have hs2:s.n=1:=hR.n
     obtain⟨q0,y0,hq0,hr0⟩:=hR.read (j:=0) (by simp)
     rw[ae,aj];refine⟨by simp[go_sem,hq0]<;>omega,?_⟩
     rw[ae,ax,if_pos (by rfl)]
     refine (ai _ _).2 ⟨⟨[((p+1:Nat):Int)],[],[],[],[],[]⟩,rfl,af,by simpa[go_sem,hq0] using hr0,?_⟩
     rw[ae,ag,if_pos (by rfl),s_ctO]
     refine⟨b,lsl,l,used,sl,inn,acc,p+1,a,8,rfl,X1,P1,w1,by omega,hl,?_,fun u2 s2 k2 X2 G2=>?_⟩
     · simpa using F.sub (a:=[]) (b:=brk (decide (a.lv<8)) (tx a)) rfl
     refine⟨fun h=>(by cases h),(ai _ _).2 ⟨⟨[],[],[],[],[],[]⟩,rfl,af,rfl,?_⟩⟩
     rw[ae,aT];intro b2 hb2
     rw[ae,ag,if_pos (by rfl),s_ctYPut]
     refine aY (ss:=[[46],x]) X2 hb2 (by simpa using F.put (a:=brk (decide (a.lv<8)) (tx a)) (b:=46::x) (c:=[]) (by simp)) (by simp) fun u3 s3 k3 X3 G3=>?_
     refine⟨fun h=>(by cases h),(ai _ _).2 ⟨⟨[],[],[],[],[],[]⟩,rfl,af,rfl,?_⟩⟩
     rw[ae,ak,ep]
     exact fin u3 s3 k3 (by simpa using X3) (G2.trans G3 X2.prn.nn)
   | un _ _ _ h0 a w1=>
     iterate 9 (rw[ae,ah,if_neg (by simp[go_sem])])
     rw[ae,ah,if_pos (by simp[go_sem])]
     rw[Y8] at F fin
     obtain⟨P1,_⟩:=PK.cons
     have hR:jg k1 s [((p+1:Nat):Int)]:=by simpa[places] using R
     rw[aA,bg] at hn'
     have hs2:s.n=1:=hR.n
     have go:∀ g:UInt8,Fits acc (g::brk (decide (a.lv<7)) (tx a))→Writes k1 b lsl l sl inn (acc++(g::brk (decide (a.lv<7)) (tx a))) φ→∀ (u2:Bool) (s2:bT) (k2:Hp),ng k2 b lsl l u2 s2 inn (acc++[g])→qF k1 k2 b sl s2→∀ (i:List Int) (s3:bT) (M:Nat→Nat),i.length=6→
      Then E (.N (.X (.c 0) (.x 1)) (.O (.el (.x 1) (.c 0) 1 0) 1 [.J 6] ⟨1,0,0,0,0,0⟩
       (.V 57 [.P 0,.J 6,(.I (.c 7))] .E))) ⟨i,[],[[]],[],[lsl,s,s3],[some (b,0)],k2,M⟩:=by
      intro g F fin u2 s2 k2 X2 G2 i s3 M hi
      obtain⟨i0,i1,i2,i3,i4,i5,rfl⟩:∃ i0 i1 i2 i3 i4 i5,i=[i0,i1,i2,i3,i4,i5]:=by
       match i,hi with
       | [i0,i1,i2,i3,i4,i5],_=>exact⟨i0,i1,i2,i3,i4,i5,rfl⟩
      obtain⟨q0,y0,hq0,hr0⟩:=(hR.go X1.prn G2).read (j:=0) (by simp)
      rw[ae,aj];refine⟨by simp[go_sem,hq0]<;>omega,?_⟩
      rw[ae,ax,if_pos (by rfl)]
      refine (ai _ _).2 ⟨⟨[((p+1:Nat):Int)],[],[],[],[],[]⟩,rfl,af,by simpa[go_sem,hq0] using hr0,?_⟩
      rw[ae,ag,if_pos (by rfl),s_ctO]
      refine⟨b,lsl,l,u2,s2,inn,_,p+1,a,7,rfl,X2,P1,w1,by omega,hl,?_,fun u4 s4 k4 X4 G4=>?_⟩
      · simpa using F.sub (a:=[g]) (b:=brk (decide (a.lv<7)) (tx a)) (c:=[]) (by simp)
      refine⟨fun h=>(by cases h),(ai _ _).2 ⟨⟨[],[],[],[],[],[]⟩,rfl,af,rfl,?_⟩⟩
      rw[ae,ak,ep]
      exact fin u4 s4 k4 (by simpa using X4) (G2.trans G4 X2.prn.nn)
     rw[ae,aT];intro bb hbb
     rw[ae,ag,if_pos (by rfl),s_ctYPut]
     rcases h0 with rfl | rfl
     · rw[if_pos rfl] at F fin
       refine aY (ss:=[[45]]) X1 hbb (by simpa using F.put (a:=[]) (b:=[45]) (c:=brk (decide (a.lv<7)) (tx a)) rfl) (by simp) fun u2 s2 k2 X2 G2=>?_
       refine⟨fun h=>(by cases h),(ai _ _).2 ⟨⟨[],[],[],[],[],[]⟩,rfl,af,rfl,?_⟩⟩
       exact go 45 F fin u2 s2 k2 (by simpa using X2) G2 _ _ _ rfl
     · rw[if_neg (by decide)] at F fin
       refine aY (ss:=[[33]]) X1 hbb (by simpa using F.put (a:=[]) (b:=[33]) (c:=brk (decide (a.lv<7)) (tx a)) rfl) (by simp) fun u2 s2 k2 X2 G2=>?_
       refine⟨fun h=>(by cases h),(ai _ _).2 ⟨⟨[],[],[],[],[],[]⟩,rfl,af,rfl,?_⟩⟩
       exact go 33 F fin u2 s2 k2 (by simpa using X2) G2 _ _ _ rfl
   | bin _ _ _ h0 a a2 w1 w2=>
     iterate 10 (rw[ae,ah,if_neg (by simp[go_sem])])
     rw[ae,ah,if_pos (by simp[go_sem])]
     rw[IL] at F fin
     obtain⟨P1,PK2⟩:=PK.cons
     have P2:=PK2.cons.1
     have hR:jg k1 s [((p+1:Nat):Int),((p+1+a.n:Nat):Int)]:=by simpa[places] using R
     rw[aA,aA,bg] at hn'
     rw[ae,ag,if_pos (by rfl),s_ctB]
     refine⟨b,lsl,l,used,sl,inn,acc,⟨31,ln,c,((Tr.ns [a,a2]:Nat):Int),nn,[]⟩,p+1,a,a2,s,rfl,X1,P1,P2,w1,w2,by omega,by omega,hR,hl,F,fun u2 s2 k2 X2 G2=>?_⟩
     refine⟨fun h=>(by cases h),(ai _ _).2 ⟨⟨[],[],[],[],[],[]⟩,rfl,af,rfl,?_⟩⟩
     rw[ae,ak,ep]
     exact fin u2 s2 k2 X2 G2
   | make _ _ l' c' z h0=>
     iterate 11 (rw[ae,ah,if_neg (by simp[go_sem])])
     rw[ae,ah,if_pos (by simp[go_sem])]
     rw[uw] at F fin
     obtain⟨P1,PK2⟩:=PK.cons
     rw[aA,bg] at hn'
     have hs2:=R.n
     rw[fF,List.length_cons] at hs2
     have hsc:=R.c
     rw[places] at R
     obtain⟨q0,y0,hq0,hr0⟩:=R.read (j:=0) (by simp)
     have hwk:vK (Tr.nd 19 l' c' 0 z []):=.big _ _ _ h0
     have hkp:qc l 1000000 (p+1)=some (kZ (Tr.nd 19 l' c' 0 z [])):=lW hwk P1 (by have:=P1.lt;omega)
     generalize kZ (Tr.nd 19 l' c' 0 z [])=kt at F fin hkp
     rw[ae,aj];refine⟨by simp[go_sem,hq0]<;>omega,?_⟩
     rw[ae,ax,if_pos (by rfl)]
     refine (ai _ _).2 ⟨⟨[((p+1:Nat):Int)],[],[],[],[],[]⟩,rfl,af,by simpa[go_sem,hq0] using hr0,?_⟩
     rw[ae,ag,if_pos (by rfl),s_ctK]
     refine⟨b,lsl,l,p+1,kt,_,_,rfl,X1.prn.at_,X1.row,hl,hkp,?_,?_⟩
     · have:=(F.sub (a:=eP++[32]) (b:=kt) (c:=40::(rQ []++[41])) (by simp)).1
       omega
     refine⟨fun h=>(by cases h),(ai _ _).2 ⟨⟨[],[],[kt],[],[],[]⟩,rfl,af,rfl,?_⟩⟩
     rw[ae,aT];intro bb hbb
     rw[ae,ag,if_pos (by rfl),s_ctYPut]
     refine aY (ss:=[[109,97,107,101,32],kt,[40]]) X1 hbb (F.p0 (b:=eP++(32::(kt++[40]))) (c:=rQ []++[41]) (by simp)) (by simp) fun u2 s2 k2 X2 G2=>?_
     refine⟨fun h=>(by cases h),(ai _ _).2 ⟨⟨[],[],[],[],[],[]⟩,rfl,af,rfl,?_⟩⟩
     rw[ae,aj];refine⟨by simp[go_sem]<;>omega,?_⟩
     rw[ae,ag,if_pos (by rfl),s_ctR]
     have R2:=(R.tail.go X1.prn G2)
     rw[show (((p+1:Nat):Int)+((Tr.nd 19 l' c' 0 z []).n:Nat))=((p+1+(Tr.nd 19 l' c' 0 z []).n:Nat):Int) by omega] at R2
     refine⟨b,lsl,l,u2,s2,inn,_,p+1+(Tr.nd 19 l' c' 0 z []).n,[],⟨if s.c=1 then s.a else s.a.map fun x=>(x.1,x.2+1*1),s.n - 1,s.c - 1⟩,?_,X2,PK2,.nil,by rw[bg];omega,R2,hl,?_,fun u3 s3 k3 X3 G3=>?_⟩
     · rfl
     · exact F.sub (a:=eP++(32::(kt++[40]))) (b:=rQ []) (c:=[41]) (by simp)
     refine⟨fun h=>(by cases h),(ai _ _).2 ⟨⟨[],[],[],[],[],[]⟩,rfl,af,rfl,?_⟩⟩
     rw[ae,aT];intro b3 hb3
     rw[ae,ag,if_pos (by rfl),s_ctYPut]
     refine aY (ss:=[[41]]) X3 hb3 (by simpa[eP] using F.put (a:=eP++(32::(kt++(40::rQ [])))) (b:=[41]) (c:=[]) (by simp)) (by simp) fun u4 s4 k4 X4 G4=>?_
     refine⟨fun h=>(by cases h),(ai _ _).2 ⟨⟨[],[],[],[],[],[]⟩,rfl,af,rfl,?_⟩⟩
     rw[ae,ak,ep]
     exact fin u4 s4 k4 (by simpa[eP] using X4) ((G2.trans G3 X2.prn.nn).trans G4 X3.prn.nn)
   | makes _ _ l' c' t ht bb2 w2=>
     iterate 11 (rw[ae,ah,if_neg (by simp[go_sem])])
     rw[ae,ah,if_pos (by simp[go_sem])]
     rw[uw] at F fin
     obtain⟨P1,PK2⟩:=PK.cons
     rw[aA,aA,bg] at hn'
     have hs2:=R.n
     rw[fF,List.length_cons] at hs2
     have hsc:=R.c
     rw[places] at R
     obtain⟨q0,y0,hq0,hr0⟩:=R.read (j:=0) (by simp)
     have hwk:vK (Tr.nd 20 l' c' 0 [] [t]):=.list _ _ _ ht
     have hkp:qc l 1000000 (p+1)=some (kZ (Tr.nd 20 l' c' 0 [] [t])):=lW hwk P1 (by have:=P1.lt;omega)
     generalize kZ (Tr.nd 20 l' c' 0 [] [t])=kt at F fin hkp
     rw[ae,aj];refine⟨by simp[go_sem,hq0]<;>omega,?_⟩
     rw[ae,ax,if_pos (by rfl)]
     refine (ai _ _).2 ⟨⟨[((p+1:Nat):Int)],[],[],[],[],[]⟩,rfl,af,by simpa[go_sem,hq0] using hr0,?_⟩
     rw[ae,ag,if_pos (by rfl),s_ctK]
     refine⟨b,lsl,l,p+1,kt,_,_,rfl,X1.prn.at_,X1.row,hl,hkp,?_,?_⟩
     · have:=(F.sub (a:=eP++[32]) (b:=kt) (c:=40::(rQ [bb2]++[41])) (by simp)).1
       omega
     refine⟨fun h=>(by cases h),(ai _ _).2 ⟨⟨[],[],[kt],[],[],[]⟩,rfl,af,rfl,?_⟩⟩
     rw[ae,aT];intro bb hbb
     rw[ae,ag,if_pos (by rfl),s_ctYPut]
     refine aY (ss:=[[109,97,107,101,32],kt,[40]]) X1 hbb (F.p0 (b:=eP++(32::(kt++[40]))) (c:=rQ [bb2]++[41]) (by simp)) (by simp) fun u2 s2 k2 X2 G2=>?_
     refine⟨fun h=>(by cases h),(ai _ _).2 ⟨⟨[],[],[],[],[],[]⟩,rfl,af,rfl,?_⟩⟩
     rw[ae,aj];refine⟨by simp[go_sem]<;>omega,?_⟩
     rw[ae,ag,if_pos (by rfl),s_ctR]
     have R2:=(R.tail.go X1.prn G2)
     rw[show (((p+1:Nat):Int)+((Tr.nd 20 l' c' 0 [] [t]).n:Nat))=((p+1+(Tr.nd 20 l' c' 0 [] [t]).n:Nat):Int) by omega] at R2
     refine⟨b,lsl,l,u2,s2,inn,_,p+1+(Tr.nd 20 l' c' 0 [] [t]).n,[bb2],⟨if s.c=1 then s.a else s.a.map fun x=>(x.1,x.2+1*1),s.n - 1,s.c - 1⟩,?_,X2,PK2,.cons _ _ w2 .nil,by rw[aA,bg];omega,R2,hl,?_,fun u3 s3 k3 X3 G3=>?_⟩
     · rfl
     · exact F.sub (a:=eP++(32::(kt++[40]))) (b:=rQ [bb2]) (c:=[41]) (by simp)
     refine⟨fun h=>(by cases h),(ai _ _).2 ⟨⟨[],[],[],[],[],[]⟩,rfl,af,rfl,?_⟩⟩
     rw[ae,aT];intro b3 hb3
     rw[ae,ag,if_pos (by rfl),s_ctYPut]
     refine aY (ss:=[[41]]) X3 hb3 (by simpa[eP] using F.put (a:=eP++(32::(kt++(40::rQ [bb2])))) (b:=[41]) (c:=[]) (by simp)) (by simp) fun u4 s4 k4 X4 G4=>?_
     refine⟨fun h=>(by cases h),(ai _ _).2 ⟨⟨[],[],[],[],[],[]⟩,rfl,af,rfl,?_⟩⟩
     rw[ae,ak,ep]
     exact fin u4 s4 k4 (by simpa[eP] using X4) ((G2.trans G3 X2.prn.nn).trans G4 X3.prn.nn)
end Go.Proofs.YtllbpdllkkcajaaGreatDoor
namespace Go.Proofs.YtllbpdllkkcajaaGreatDoor
open Go.RowKit
attribute [local go_sem] bI bH aj ah ag aS ax aQ ak says_again BE.den IE.den SE.den LE.den AE.den CE.den PE.den VE.den KV.val dO.den dO.cnt jO fD jX allL Ctx.push Ctx.heap Ctx.cut Ctx.bare Ctx.mark Inc.blank List.getD_cons_zero List.getD_cons_succ List.cons_append List.nil_append List.append_nil List.map_cons List.map_nil List.replicate_zero List.replicate_succ az dm bY dh cO dK dJ bC bz bD bW bV aH aX aI aG au aP aO dH af and_assoc
def EX:Fm:=(.need (.not (.eqI (.cnt (.x 0)) (.c 0))) (.X (.c 0) (.x 0))
 (.need (.not (.eqI (.cnt (.x 0)) (.c 0))) (.nns (.x 0))
 (.load (.not (.eqI (.cnt (.x 0)) (.c 0))) (.el (.x 0) (.c 0) 6 3) 1 [.J 0] ⟨1,0,0,0,0,0⟩
 (.need (.not (.eqI (.cnt (.x 0)) (.c 0))) (.R (.sub (.cnt (.x 0)) (.c 1)))
 (.ite (.or (.eqI (.cnt (.x 0)) (.c 0)) (.not (.eqI (.x 0) (.sub (.cnt (.x 0)) (.c 1)))))
 (.ret (.p (.one (.b (.c false)))))
 (.loop 0 ⟨[(.c 0)],[(.c false)],[],[],[.nil],[]⟩
 (.ite (.lt (.x 1) (.cnt (.x 0)))
 (.N (.X (.x 1) (.x 0))
 (.O (.el (.x 0) (.x 1) 6 0) 6 [.U 2,.J 3,.J 4,.J 5,.J 6,(.s (.x 0))] ⟨5,0,1,0,0,0⟩
 (.loop 1 ⟨[],[],[],[],[(.x 1)],[]⟩
 (.need (.lt (.c 0) (.cnt (.x 2))) (.R (.sub (.cnt (.x 2)) (.c 1)))
 (.need (.lt (.c 0) (.cnt (.x 2))) (.X (.sub (.cnt (.x 2)) (.c 1)) (.x 2))
 (.load (.lt (.c 0) (.cnt (.x 2))) (.el (.x 2) (.sub (.cnt (.x 2)) (.c 1)) 1 0) 1 [.J 7] ⟨1,0,0,0,0,0⟩
 (.ite (.and (.lt (.c 0) (.cnt (.x 2))) (.eqI (.x 7) (.x 1)))
 (.N (.R (.sub (.cnt (.x 2)) (.c 1)))
 (.N (.and (.and (.le (.c 0) (.sub (.cnt (.x 2)) (.c 1))) (.le (.sub (.cnt (.x 2)) (.c 1)) (.cap (.x 2)))) (.and (.le (.c 0) (.c 0)) (.le (.c 0) (.sub (.cnt (.x 2)) (.c 1)))))
 (.again 1 ⟨7,1,1,0,2,0⟩ ⟨7,1,1,0,3,0⟩ ⟨[],[],[],[],[(.sub (.x 2) (.c 0) (.sub (.cnt (.x 2)) (.c 1)) 1)],[]⟩)))
 (.need (.not (.lt (.x 5) (.c 0))) (.R (.sub (.cnt (.x 0)) (.c 1)))
 (.need (.not (.lt (.x 5) (.c 0))) (.R (.sub (.sub (.cnt (.x 0)) (.c 1)) (.x 1)))
 (.ite (.or (.lt (.x 5) (.c 0)) (.lt (.sub (.sub (.cnt (.x 0)) (.c 1)) (.x 1)) (.x 5)))
 (.ret (.p (.one (.b (.c false)))))
 (.N (.R (.add (.x 1) (.c 1)))
 (.N (.R (.add (.add (.x 1) (.c 1)) (.x 5)))
 (.need (.lt (.c 0) (.cnt (.x 2))) (.R (.sub (.cnt (.x 2)) (.c 1)))
 (.need (.lt (.c 0) (.cnt (.x 2))) (.X (.sub (.cnt (.x 2)) (.c 1)) (.x 2))
 (.load (.lt (.c 0) (.cnt (.x 2))) (.el (.x 2) (.sub (.cnt (.x 2)) (.c 1)) 1 0) 1 [.J 8] ⟨1,0,0,0,0,0⟩
 (.ite (.and (.lt (.c 0) (.cnt (.x 2))) (.lt (.x 8) (.add (.add (.x 1) (.c 1)) (.x 5))))
 (.ret (.p (.one (.b (.c false)))))
 (.mk [(.i .i64 (.add (.add (.x 1) (.c 1)) (.x 5)))] 3 1
 (.app (.x 2) (.x 3) 1 8 3
 (.N (.R (.add (.x 1) (.c 1)))
 (.again 0 ⟨1,0,0,0,1,0⟩ ⟨2,1,0,0,2,0⟩ ⟨[(.add (.x 1) (.c 1))],[(.x 0)],[],[],[(.x 4)],[]⟩))))))))))))))))))))
 (.ret (.p (.one (.b (.c true))))))))))))
theorem Om:bG ⟨true,[]⟩ Tryz.prog (fun l=>([⟨[3,2,22],[23,24,25,26,5,4,27,28,29,30,31,32,33,34,35,36,37,38,39,40,41,42,43,44,45,46,47,48,49,50,51,52,53,54,55,56,57,58,59,60,61,62,6,63,64,65,66,67,68,69,70,71,72,73,74,75,76,77,78,79,80],[5]⟩,⟨[3],[27,28,29,30,31,32,33,34,35,36,37,38,39,40,41,42,43,44],[]⟩]:List bZ).getD l ⟨[],[],[]⟩) Tryz.f23=EX:=by kernel_rfl
theorem UE:aF Tryz.prog .zero Tryz.f23.params.toList=some ([.L 0],⟨0,0,0,0,1,0⟩):=by kernel_rfl
def kL (i:Int):List Int→List Int
 | []=>[]
 | e::st=>if e=i then kL i st else e::st
def iD (n:Int):Int→List Int→List Ng→Bool
 | _,_,[]=>true
 | i,st,x::l=>if x.z<0∨n - 1 - i<x.z then false else
   match kL i st with
   | []=>iD n (i+1) [i+1+x.z] l
   | e::st'=>if e<i+1+x.z then false else iD n (i+1) ((i+1+x.z)::e::st') l
def qU (l:List Ng):Bool:=match l with
 | []=>false
 | x::_=>decide (x.z=(l.length:Int) - 1)&&iD l.length 0 [] l
theorem uk (i:Int):∀ st,kL i (kL i st)=kL i st
 | []=>rfl
 | e::st=>by
   rw[kL]
   split
   · exact uk i st
   · rename_i h
     rw[kL,if_neg h]
theorem kM (n i:Int) (st:List Int):∀ l,iD n i (kL i st) l=iD n i st l
 | []=>rfl
 | x::l=>by rw[iD,iD,uk]
theorem aam {h:Hp} {s s':bT} {xs:List Int} {x:Int} (ho:fJ h s (uh (xs++[x])) 3 1) (hn:s.n=xs.length+1) (ha:s'.a=s.a) (hn':s'.n=xs.length) (hc:s'.c=s.c):fJ h s' (uh xs) 3 1:=by
 rcases ho with ⟨rfl,hk⟩ | ⟨b,o,h1,h2,h3,h4,h5,h6,h7⟩
 · simp[uh] at hk
 · refine .inr ⟨b,o,ha.trans h1,h2,h3,by rw[hc];exact h4,by omega,by omega,?_⟩
   have:(o.cs.take (s.n*1)).take xs.length=uh xs:=by rw[← h7,zV,← QU xs];exact List.take_left
   rw[← this,List.take_take]
   congr 1
   omega
theorem Xw {h:Hp} {s:bT} {xs:List Int} {x:Int} (ho:fJ h s (uh (xs++[x])) 3 1) (hn:s.n=xs.length+1):∃ b,s.a=some (b,0)∧hread h (some (b,0+xs.length*1+0)) 1=some [.int .i64 x]:=by
 obtain⟨b,o,ha,hr⟩:=(jg.own ho (by simp[hn])).read (j:=xs.length) (by simp)
 rcases ho with ⟨rfl,hk⟩ | ⟨b2,o2,h1,_⟩
 · simp[uh] at hk
 · rw[h1] at ha
   obtain⟨rfl,rfl⟩:b2=b∧0=o:=by simpa using ha
   exact⟨_,h1,by simpa using hr⟩
def LZ (h:Hp) (sl:bT) (l:List Ng) (o:Nat) (C:Ctx):Prop:=
 match o with
 | 0=>∃ (j:Nat) (z:Int) (bb:Bool) (st:List Int) (s:bT) (k:Hp),C=⟨[z,j],[bb],[],[],[sl,s],[],k,dM⟩∧j≤l.length∧dP h k∧fJ k s (uh st.reverse) 3 1∧s.n=st.length∧st.length≤j∧(∀ e∈st,0≤e∧e≤l.length)∧(∀ y,s.a=some y→h y.1=none)∧iD l.length 0 [] l=iD l.length j st (l.drop j)
 | _=>∃ (j:Nat) (z:Int) (bb:Bool) (st:List Int) (s s0:bT) (k:Hp) (x:Ng),C=⟨[z,j,x.k,x.l,x.c,x.z,x.n],[bb],[x.x],[],[sl,s0,s],[],k,dM⟩∧j<l.length∧l[j]? = some x∧dP h k∧fJ k s (uh st.reverse) 3 1∧s.n=st.length∧st.length≤j∧(∀ e∈st,0≤e∧e≤l.length)∧(∀ y,s.a=some y→h y.1=none)∧iD l.length 0 [] l=iD l.length j st (l.drop j)
def F9 (l:List Ng) (o:Nat) (C:Ctx):Nat:=match o with
 | 0=>((l.length:Int) - C.i.getD 1 0).toNat
 | _=>(C.l.getD 2 ⟨none,0,0⟩).n
theorem iW {E:Env} {C:Ctx} {g c:BE} {k:Fm} (h1:g.den C=true→c.den C=true) (h2:Then E k C):(Fm.need g c k).says E C:=⟨h1,h2⟩
theorem uZ {E:Env} {C:Ctx} {g:BE} {a:AE} {k:Fm} {n:Nat} {K:IntKind} (hn:C.i.length=n) (hex:g.den C=true→∃ v:Int,hread C.h (a.den C) 1=some [.int K v])
 (h:∀ v:Int,(g.den C=true→hread C.h (a.den C) 1=some [.int K v])→Then E k (C.push ⟨[v],[],[],[],[],[]⟩)):(Fm.load g a 1 [(.i K (.x n))] ⟨1,0,0,0,0,0⟩ k).says E C:=by
 rw[ax]
 split
 · rename_i hg
   obtain⟨v,hv⟩:=hex hg
   refine (ai _ _).2 ⟨⟨[v],[],[],[],[],[]⟩,rfl,af,?_,h v fun _=>hv⟩
   rw[hv]
   simp[CE.den,IE.den,Ctx.push,hn]
 · rename_i hg
   exact h 0 fun e=>absurd e hg
theorem Xg {E:Env} {C:Ctx} {g:BE} {a:AE} {k:Fm} {n:Nat} (hn:C.s.length=n) (hex:g.den C=true→∃ v:List UInt8,hread C.h (a.den C) 1=some [.string (B v)])
 (h:∀ v:List UInt8,(g.den C=true→hread C.h (a.den C) 1=some [.string (B v)])→Then E k (C.push ⟨[],[],[v],[],[],[]⟩)):(Fm.load g a 1 [(.s (.x n))] ⟨0,0,1,0,0,0⟩ k).says E C:=by
 rw[ax]
 split
 · rename_i hg
   obtain⟨v,hv⟩:=hex hg
   refine (ai _ _).2 ⟨⟨[],[],[v],[],[],[]⟩,rfl,af,?_,h v fun _=>hv⟩
   rw[hv]
   simp[CE.den,SE.den,Ctx.push,hn]
 · rename_i hg
   exact h [] fun e=>absurd e hg
set_option maxHeartbeats 8000000 in
def pR:Ct Tryz.prog where
 f:=23
 spec:=fun args h φ=>∃ sl l,args=[bT.val sl]∧NG h sl l∧l.length≤1000000∧φ (.bool (qU l)) h
 ok:=by
  rintro args h φ w ⟨sl,l,rfl,R,hl,hφ⟩ hH
  refine dR (bJ Tryz.func23 Om UE [] (fun v k=>∃ k',dP k' k∧φ v k') (LZ h sl l) (fun o C=>F9 l o C) ⟨[],[],[],[],[sl],[],h,dM⟩ ⟨rfl,rfl,rfl,rfl,rfl,rfl⟩ af ?_ w hH rfl)
  generalize hE:(⟨az _,_,_,_⟩:Env)=E
  have ep:E.post=(fun v k=>∃ k',dP k' k∧φ v k'):=by rw[← hE]
  have ei:E.inv=(LZ h sl l):=by rw[← hE]
  have em:E.meas=(fun o C=>F9 l o C):=by rw[← hE]
  clear hE
  unfold EX
  have hn:=NG.n R
  have fin:∀ (C:Ctx) (b:Bool),dP h C.h→φ (.bool b) h→Then E (.ret (.p (.one (.b (.c b))))) C:=by
   intro C b hC hb
   rw[ae,ak,ep]
   exact⟨h,hC,hb⟩
  cases hl0:l with
  | nil=>
    rw[hl0] at hn hφ
    have hz:sl.n=0:=by simpa using hn
    rw[aj];refine⟨by simp[go_sem,hz],?_⟩
    rw[ae,aj];refine⟨by simp[go_sem,hz],?_⟩
    rw[ae,ax,if_neg (by simp[go_sem,hz]),ae,aj]
    refine⟨by simp[go_sem,hz],?_⟩
    rw[ae,ah,if_pos (by simp[go_sem,hz])]
    exact fin _ _ (fun _ _ h=>h) hφ
  | cons x0 r=>
    have hpos:0<l.length:=by rw[hl0];simp
    have hsn:sl.n≠0:=by omega
    have hRR:qU l=(decide (x0.z=(l.length:Int) - 1)&&iD l.length 0 [] l):=by rw[hl0];rfl
    rw[hRR] at hφ
    obtain⟨b,o,ha⟩:=Rows.nn R (j:=0) (by omega)
    have hr0:=Rows.read (off:=3) (m:=1) R (j:=0) (by omega) (by omega) ha
    rw[← List.drop_drop,nJ hpos,show l[0]=x0 by simp[hl0]] at hr0
    clear hl0
    rw[aj];refine⟨by simp[go_sem,ha,hsn]<;>omega,?_⟩
    rw[ae,aj];refine⟨by simp[go_sem,ha,hsn],?_⟩
    rw[ae,ax,if_pos (by simp[go_sem,hsn])]
    refine (ai _ _).2 ⟨⟨[x0.z],[],[],[],[],[]⟩,rfl,af,by simpa[go_sem,ha,Ng.cs] using hr0,?_⟩
    rw[ae,aj];refine⟨by simp[go_sem,hsn]<;>omega,?_⟩
    by_cases hz:x0.z=(l.length:Int) - 1
    rotate_left
    · rw[decide_eq_false hz] at hφ
      rw[ae,ah,if_pos (by simp[go_sem,hsn];omega)]
      exact fin _ _ (fun _ _ h=>h) hφ
    rw[decide_eq_true hz,Bool.true_and] at hφ
    rw[ae,ah,if_neg (by simp[go_sem,hsn];omega),ae]
    refine dB ?_ ?_
    · rw[ei]
      exact⟨0,x0.z,false,[],⟨none,0,0⟩,h,rfl,by omega,fun _ _ h=>h,.inl ⟨rfl,rfl⟩,rfl,by simp,by simp,fun y hy=>(by cases hy),rfl⟩
    rw[ei,em]
    rintro i bbs ss v ll pp hh M ⟨j,z,bb,st,s,k,hC,hj,hle,ho,hsn2,hstj,hse,hfr,hF⟩ hM
    cases hC
    have hM':M 0=((l.length:Int) - j).toNat:=hM
    clear hM hr0
    by_cases hjl:j<l.length
    rotate_left
    · have hz2:¬ ((j:Int)<sl.n):=by omega
      rw[ah,if_neg (by simpa[go_sem] using hz2)]
      rw[List.drop_eq_nil_of_le (by omega),iD] at hF
      rw[hF] at hφ
      exact fin _ _ hle hφ
    have hz2:((j:Int)<sl.n):=by omega
    have R1:=NG.le R hle
    have hnd:=NG.node R1 hjl ha
    have hlj:l[j]? = some l[j]:=List.getElem?_eq_getElem hjl
    rw[List.drop_eq_getElem_cons hjl] at hF
    rw[ah,if_pos (by simpa[go_sem] using hz2)]
    rw[ae,aj];refine⟨by simp[go_sem,ha]<;>omega,?_⟩
    generalize l[j]=x at *
    rw[ae,ax,if_pos (by rfl)];refine (ai _ _).2 ⟨⟨[x.k,x.l,x.c,x.z,x.n],[],[x.x],[],[],[]⟩,rfl,af,by simpa[go_sem,ha,Ng.cs] using hnd,?_⟩
    rw[ae]
    refine ny ?_ ?_
    · rw[ei]
      exact⟨j,z,bb,st,s,s,hh,x,rfl,hjl,hlj,hle,ho,hsn2,hstj,hse,hfr,by rw[List.drop_eq_getElem_cons hjl,show l[j]=x from Option.some.inj ((List.getElem?_eq_getElem hjl).symm.trans hlj)];exact hF⟩
    rintro⟨xi,xb,xs,xv,xl,xp⟩ h' M' hc hinv hm hM1
    rw[ei] at hinv
    rw[em] at hm
    clear hF hfr hse hstj hsn2 ho hle R1 hnd
    obtain⟨j2,z2,bb2,st,s,s0,k,x2,hC,q1,q2,hle,ho,hsn2,hstj,hse,hfr,hF⟩:=hinv
    simp[Ctx.push,Ctx.heap,Ctx.bare] at hC
    obtain⟨⟨rfl,hj2,e1,e2,e3,e4,e5,rfl⟩,⟨rfl,rfl⟩,⟨e6,rfl⟩,rfl,⟨rfl,rfl⟩,rfl,rfl⟩:=hC
    obtain rfl:j2=j:=by omega
    clear q1 q2 e1 e2 e3 e4 e5 e6 hj2 hc x2
    have hm':M' 1=s.n:=hm
    have hM0:M' 0=((l.length:Int) - j2).toNat:=(hM1 0 (by decide)).trans hM'
    clear hm hM1 hM'
    rw[List.drop_eq_getElem_cons hjl,show l[j2]=x from Option.some.inj ((List.getElem?_eq_getElem hjl).symm.trans hlj)] at hF
    have hx63:s.n≤1000000:=by omega
    have hsc:s.n≤s.c:=(jg.own ho (by simp[hsn2])).c
    have top:∀ e st',st=e::st'→∃ b,s.a=some (b,0)∧hread h' (some (b,0+st'.length*1+0)) 1=some [.int .i64 e]:=fun e st' hs=>by
     rw[hs,List.reverse_cons] at ho
     have:=Xw ho (by rw[hsn2,hs];simp)
     simpa using this
    have some1:0<s.n→∃ e st',st=e::st':=fun h0=>List.exists_cons_of_length_pos (by omega)
    have lastE:0<s.n→∃ v:Int,hread h' (s.a.map fun x=>(x.1,x.2+((s.n:Int) - 1).toNat*1+0)) 1=some [.int .i64 v]∧∀ u,hread h' (s.a.map fun x=>(x.1,x.2+((s.n:Int) - 1).toNat*1+0)) 1=some [.int .i64 u]→∀ e st',st=e::st'→u=e:=fun h0=>by
     obtain⟨e,st',hs⟩:=some1 h0
     obtain⟨b2,hb2,hr2⟩:=top e st' hs
     have hn1:((s.n:Int) - 1).toNat=st'.length:=by rw[hsn2,hs];simp
     rw[hb2,hn1]
     refine⟨e,hr2,fun u hu e2 st2 hs2=>?_⟩
     have hu':hread h' (some (b2,0+st'.length*1+0)) 1=some [.int .i64 u]:=hu
     rw[hr2] at hu'
     rw[hs] at hs2
     cases hs2
     simpa using hu'.symm
    have nns:0<s.n→s.a.isSome=true:=fun h0=>by
     obtain⟨e,st',hs⟩:=some1 h0
     obtain⟨b2,hb2,hr2⟩:=top e st' hs
     rw[hb2];rfl
    refine iW (fun g => by     have:0<s.n:=by simpa[go_sem] using g
                               simp[go_sem];omega) ?_
    rw[ae]
    refine iW (fun g => by     have h0:0<s.n:=by simpa[go_sem] using g
                               simp[go_sem,nns h0];omega) ?_
    rw[ae]
    refine uZ rfl (fun g=>?_) fun v hv=>?_
    · have h0:0<s.n:=by simpa[go_sem] using g
      obtain⟨v,hv,_⟩:=lastE h0
      exact⟨v,hv⟩
    have hv':∀ e st',st=e::st'→v=e:=fun e st' hs=>by
     have h0:0<s.n:=by rw[hsn2,hs];simp
     obtain⟨_,_,hu⟩:=lastE h0
     exact hu v (hv (by simpa[go_sem] using h0)) e st' hs
    clear hv
    by_cases hp:∃ st',st=(j2:Int)::st'
    · obtain⟨st',hs⟩:=hp
      have hvj:=hv' _ _ hs
      subst hvj
      have h0:0<s.n:=by rw[hsn2,hs];simp
      rw[ae,ah,if_pos (by simp[go_sem,h0])]
      rw[ae,aj];refine⟨by simp[go_sem]<;>omega,?_⟩
      rw[ae]
      refine iW (fun _=>by simp[go_sem];omega) ?_
      rw[ae,says_again,ei,em]
      refine⟨⟨j2,z,bb,st',_,_,h',x,rfl,hjl,hlj,hle,aam (s:=s) (x:=(j2:Int)) (by rw[hs] at ho;simpa using ho) (by rw[hsn2,hs];simp) ?_ ?_ ?_,?_,by rw[hs] at hstj;simp at hstj;omega,fun e he=>hse e (by rw[hs];simp[he]),fun y hy=>hfr y ?_,?_⟩,?_⟩
      · show (if s.c=0 then s.a else s.a.map fun x=>(x.1,x.2+0*1))=s.a
        split
        · rfl
        · cases s.a<;>simp
      · show (((s.n:Int) - 1).toNat - 0)=_
        rw[hsn2,hs];simp
      · rfl
      · show (((s.n:Int) - 1).toNat - 0)=_
        rw[hsn2,hs];simp
      · have:(if s.c=0 then s.a else s.a.map fun x=>(x.1,x.2+0*1))=s.a:=by
         split
         · rfl
         · cases s.a<;>simp
        rw[← this];exact hy
      · rw[List.drop_eq_getElem_cons hjl,show l[j2]=x from Option.some.inj ((List.getElem?_eq_getElem hjl).symm.trans hlj),hF,← kM,hs,kL,if_pos rfl,kM]
      · show (((s.n:Int) - 1).toNat - 0)<M' 1
        omega
    have hpop:kL j2 st=st:=by
     cases st with
     | nil=>rfl
     | cons e st'=>rw[kL,if_neg (fun e2=>hp ⟨st',by rw[e2]⟩)]
    rw[ae,ah,if_neg (fun g=>by
     have g':0<s.n∧v=(j2:Int):=by simpa[go_sem] using g
     obtain⟨e,st',hs⟩:=some1 g'.1
     exact hp ⟨st',by rw[hs,← hv' _ _ hs,g'.2]⟩),ae]
    clear hp
    refine iW (fun _=>by simp[go_sem];omega) ?_
    rw[ae]
    refine iW (fun _=>by simp[go_sem];omega) ?_
    rw[iD,hpop] at hF
    by_cases hbad:x.z<0∨(l.length:Int) - 1 - j2<x.z
    · rw[if_pos hbad] at hF
      rw[hF] at hφ
      rw[ae,ah,if_pos (by simpa[go_sem,hn] using hbad)]
      exact fin _ _ hle hφ
    rw[if_neg hbad] at hF
    rw[ae,ah,if_neg (by simpa[go_sem,hn] using hbad),ae]
    refine iW (fun _=>by simp[go_sem];omega) ?_
    rw[ae]
    refine iW (fun _=>by simp[go_sem];omega) ?_
    rw[ae]
    refine iW (fun g => by     have:0<s.n:=by simpa[go_sem] using g
                               simp[go_sem];omega) ?_
    rw[ae]
    refine iW (fun g => by     have h0:0<s.n:=by simpa[go_sem] using g
                               simp[go_sem,nns h0];omega) ?_
    rw[ae]
    refine uZ rfl (fun g=>?_) fun v2 hv2=>?_
    · have h0:0<s.n:=by simpa[go_sem] using g
      obtain⟨v,hv,_⟩:=lastE h0
      exact⟨v,hv⟩
    have hv2':∀ e st',st=e::st'→v2=e:=fun e st' hs=>by
     have h0:0<s.n:=by rw[hsn2,hs];simp
     obtain⟨_,_,hu⟩:=lastE h0
     exact hu v2 (hv2 (by simpa[go_sem] using h0)) e st' hs
    clear hv2
    by_cases hlow:0<s.n∧v2<(j2:Int)+1+x.z
    · obtain⟨e,st',hs⟩:=some1 hlow.1
      rw[hs] at hF
      simp only at hF
      have:=hv2' _ _ hs
      rw[if_pos (by omega)] at hF
      rw[hF] at hφ
      rw[ae,ah,if_pos (by simpa[go_sem] using hlow)]
      exact fin _ _ hle hφ
    have hF2:iD l.length 0 [] l=iD l.length (j2+1:Int) (((j2:Int)+1+x.z)::st) (l.drop (j2+1)):=by
     rw[hF]
     cases st with
     | nil=>rfl
     | cons e st'=>
       have:=hv2' _ _ rfl
       have h0:0<s.n:=by rw[hsn2];simp
       simp only
       rw[if_neg (fun h=>hlow ⟨h0,by omega⟩)]
    rw[ae,ah,if_neg (by simpa[go_sem] using hlow)]
    rw[ae,aT];intro b2 hb2
    have hb2':h' b2=none:=hb2
    rw[ae,dG]
    have hle2:=jH hb2' ⟨[Value.int .i64 ((j2:Int)+1+x.z)],3⟩
    refine⟨uh st.reverse,uh [(j2:Int)+1+x.z],CW ho hle2,.inr ⟨by simp[go_sem],?_⟩,?_,?_,?_,?_⟩
    · simp[go_sem,uh]
    · intro u hu;simp[uh] at hu;subst hu;rfl
    · show s.n+1≤maxLen;unfold maxLen;omega
    · show (s.n+1)*8≤_;omega
    intro s3 k3 g1 g2 g3 g4
    have g2':s3.n=s.n+1:=g2
    have hle3:dP h k3:=fun c oo hc=>g4 c oo (fun y hy e=>by
     have:=hfr y hy
     rw[e,hc] at this;cases this) (hle2 _ _ (hle _ _ hc))
    rw[aj]
    refine⟨by simp[go_sem];omega,?_⟩
    rw[ae,says_again,ei,em]
    refine⟨⟨j2+1,z,bb,((j2:Int)+1+x.z)::st,s3,k3,rfl,by omega,hle3,by rw[List.reverse_cons,zV];exact g1,by rw[g2',hsn2];rfl,by simp;omega,fun e he=>?_,fun q hq=>?_,hF2⟩,?_⟩
    · rcases List.mem_cons.1 he with rfl | he
      · omega
      · exact hse e he
    · rcases g3 q hq with ⟨q2,hq2,e⟩ | hn2
      · rw[← e];exact hfr q2 hq2
      · cases hh2:h q.1 with
        | none=>rfl
        | some oo=>
          have:(h'.set b2 ⟨[Value.int .i64 ((j2:Int)+1+x.z)],3⟩) q.1=none:=hn2
          rw[hle2 _ _ (hle _ _ hh2)] at this
          cases this
    · show (((l.length:Int) - ((j2:Int)+1)).toNat)<M' 0
      omega
end Go.Proofs.YtllbpdllkkcajaaGreatDoor
namespace Go.Proofs.YtllbpdllkkcajaaGreatDoor
open Go.RowKit
attribute [local go_sem] bI bH aj ah ag aS ax aQ ak says_again BE.den IE.den SE.den LE.den AE.den CE.den PE.den VE.den KV.val dO.den dO.cnt jO fD jX allL Ctx.push Ctx.heap Ctx.cut Ctx.bare Ctx.mark Inc.blank List.getD_cons_zero List.getD_cons_succ List.cons_append List.nil_append List.append_nil List.map_cons List.map_nil List.replicate_zero List.replicate_succ az dm bY dh cO dK dJ bC bz bD bW bV aH aX aI aG au aP aO dH af and_assoc
theorem MQ (s:List UInt8) (w:World):Calls Tryz.prog 118 #[.string (B s)] w fun e w'=>e=.returned (.bool (lN s))∧Below w.heap.size w w':=by
 have:=Bc.ok [.string (B s)] (fun _=>none) (fun v _=>v=.bool (lN s)) w ⟨s,rfl,rfl⟩ (fun b o h=>by cases h)
 refine this.mono ?_
 rintro e w' ⟨v,k,rfl,rfl,_,F⟩
 exact⟨rfl,F.os,F.tape,F.output,F.size,fun i hi=>F.block i hi rfl⟩
theorem QV (n:Int):inB n=true↔(97≤n∧n≤122)∨n=95∨(65≤n∧n≤90)∨(48≤n∧n≤57):=by
 unfold inB lD
 rw[decide_eq_true_iff]
 split
 · constructor<;>intro h<;>omega
 · split
   · constructor<;>intro h<;>omega
   · split
     · constructor<;>intro h<;>omega
     · constructor<;>intro h<;>omega
def dw (p:Int→Bool) (s:List UInt8):Bool:=match s with
 | []=>false
 | c::_=>p c.toNat&&(!lN s&&s.all fun c=>inB c.toNat)
set_option maxHeartbeats 4000000 in
set_option maxRecDepth 1000000 in
theorem yX (g:FuncId) (p:Int→Bool) (hg:∀ (c:Int) w,0≤c→c≤255→Calls Tryz.prog g #[.int .u8 c] w fun e w'=>e=.returned (.bool (p c))∧w'=w) (he:∀ args w,(callFunc g args).run Tryz.prog w=.ok (.enter g args) w) (l:List UInt8) (w:World):
 Calls Tryz.prog 129 #[.string (B l),.func (.func g) #[] #[]] w fun e w'=>e=.returned (.bool (dw p l))∧Below w.heap.size w w':=by
 cases l with
 | nil=>
   have hB0:(B []).toList.isEmpty=true:=by rw[jK];rfl
   go_enter Tryz.func129,Tryz.ntmps129
   go_wp2
   go_ret
   exact⟨rfl,Below.refl _ _⟩
 | cons c r=>
   have hB0:(B (c::r)).toList.isEmpty=false:=by rw[jK];rfl
   have hg0:∀ h,(B (c::r))[0]'h=c:=fun h=>UInt8.toNat.inj (by have:=AB (c::r) 0 h;rw[iG] at this;omega)
   have hc:=c.toNat_lt
   have hgc:∀ w,Calls Tryz.prog g #[.int .u8 (c.toNat:Nat)] w fun e w'=>e=.returned (.bool (p (c.toNat:Nat)))∧w'=w:=fun w=>hg _ w (by omega) (by omega)
   have hcons:c::r=c::r:=rfl
   revert hcons
   generalize hs:c::r=s at *
   intro hcons
   have hpos:0<s.length:=by rw[← hs];simp
   have hLB:dw p s=(p c.toNat&&(!lN s&&s.all fun c=>inB c.toNat)):=by rw[← hs];rfl
   rw[hLB]
   cases hp:p c.toNat with
   | false=>
     rw[hp] at hgc
     go_enter Tryz.func129,Tryz.ntmps129
     go_wp2_with (refine (hgc _).mono ?_;rintro e w' ⟨rfl,rfl⟩)
     go_ret
     exact⟨rfl,Below.refl _ _⟩
   | true=>
     rw[hp] at hgc
     cases hw:lN s with
     | true=>
       have hwd:=MQ s
       rw[hw] at hwd
       have e1:∀ args w,(callFunc 118 args).run Tryz.prog w=.ok (.enter 118 args) w:=enters_of Tryz.func118 (by kernel_rfl) rfl
       go_enter Tryz.func129,Tryz.ntmps129
       go_wp2_with (refine (hgc _).mono ?_;rintro e w' ⟨rfl,rfl⟩)
       refine (hwd _).mono ?_
       rintro e w1 ⟨rfl,hb1⟩
       go_wp2
       go_ret
       exact⟨rfl,hb1⟩
     | false=>
       have hwd:=MQ s
       rw[hw] at hwd
       have e1:∀ args w,(callFunc 118 args).run Tryz.prog w=.ok (.enter 118 args) w:=enters_of Tryz.func118 (by kernel_rfl) rfl
       go_enter Tryz.func129,Tryz.ntmps129
       go_wp2_with (refine (hgc _).mono ?_;rintro e w' ⟨rfl,rfl⟩)
       refine (hwd _).mono ?_
       rintro e w1 ⟨rfl,hb1⟩
       have hsz1:=hb1.size
       go_wp2
       go_loopw [22,23] (fun _ _ wr=>∃ i:Nat,i≤s.length∧wr.heap[w1.heap.size]? = some (.stringIter (B s) i)∧Below w'.heap.size w' wr∧(s.take i).all (fun c=>inB c.toNat)=true) (fun _ _ wr=>s.length - wr.iterPos w1.heap.size)
       case atStart=>exact⟨0,by omega,World.iter_heap _ _ _,hb1.alloc hsz1 _,by simp⟩
       case round=>
        obtain⟨i,hil,hit,hB,hall⟩:=hrel
        have hwx:w1.heap.size<wr.heap.size:=(Array.getElem?_eq_some_iff.1 hit).1
        by_cases hi:i<s.length
        · have hiB:i<(B s).size:=by rw[gQ];exact hi
          have hg:(B s)[i]'hiB=s[i]:=UInt8.toNat.inj (by have:=AB s i hiB;rw[bt,List.getD_eq_getElem?_getD,List.getElem?_eq_getElem hi,Option.getD_some] at this;omega)
          have hbad:∀ m,m=i→inB (s[i].toNat:Nat)=false→(s.all fun c=>inB c.toNat)=false:=fun m _ h=>by
           rw[List.all_eq_false]
           exact⟨s[i],List.getElem_mem hi,fun hh=>by rw[h] at hh;cases hh⟩
          have hgood:inB ((s[i].toNat:Nat):Int)=true→(s.take (i+1)).all (fun c=>inB c.toNat)=true:=fun h=>by
           rw[List.take_succ_eq_append_getElem hi,List.all_append,hall,List.all_cons,List.all_nil,Bool.and_true,Bool.true_and]
           exact h
          by_cases hx:s[i].toNat<128
          · have hnx:=fun ty=>Lib.run_next_ascii_at (P:=Tryz.prog) wr _ (B s) i ty hit hiB (by rw[hg];exact hx)
            rw[hg] at hnx
            have hit2:=Lib.iterAt_heap wr w1.heap.size (B s) i (i+1) hit
            have hB2:=Lib.below_iterAt hB (k:=w1.heap.size) hsz1 (B s) (i+1)
            generalize wr.iterAt w1.heap.size (B s) (i+1)=w2 at *
            generalize s[i]=x at *
            have hin:=QV ((x.toNat:Nat):Int)
            have hx0:(0:Int)≤x.toNat:=by omega
            cases hi2:inB ((x.toNat:Nat):Int) with
            | true=>
              have HA:=Lib.hid (hgood hi2)
              rw[hi2] at hin
              have HI:=Lib.hid (hin.1 rfl)
              clear hgood hbad hg hall hin hi2
              go_wp2
              all_goals first
               | (exfalso;have:=HI.out;(try simp only[bne_iff_ne,ne_eq,bne_eq_false_iff_eq] at *);omega)
               | (go_roundw;(case rel=>exact⟨i+1,by omega,hit2,hB2,HA.out⟩);(case measure=>simp only[World.iterPos,hit2,hit];omega))
            | false=>
              have HA:=Lib.hid (hbad i rfl hi2)
              have HI:=Lib.hid (mt hin.2 (by rw[hi2];exact Bool.false_ne_true))
              clear hgood hbad hg hall hin hi2
              go_wp2
              all_goals first
               | (exfalso;have:=HI.out;(try simp only[bne_iff_ne,ne_eq,bne_eq_false_iff_eq] at *);omega)
               | (go_ret;exact⟨by rw[HA.out];rfl,hB2⟩)
          · have hnx:=fun ty=>Lib.run_next_any_at (P:=Tryz.prog) wr _ (B s) i ty hit hiB
            obtain⟨d1,d2⟩:=decode_high (B s) i hiB (by rw[hg];omega)
            have d3:=decode_le (B s) i
            have hit2:=Lib.iterAt_heap wr w1.heap.size (B s) i (i+(Utf8.decode (B s) i).2) hit
            have hB2:=Lib.below_iterAt hB (k:=w1.heap.size) hsz1 (B s) (i+(Utf8.decode (B s) i).2)
            have HA:=Lib.hid (hbad i rfl (by
             cases hq:inB ((s[i].toNat:Nat):Int) with
             | false=>rfl
             | true=>have:=(QV _).1 hq;omega))
            generalize Utf8.decode (B s) i=d at *
            generalize wr.iterAt w1.heap.size (B s) (i+d.2)=w2 at *
            clear hgood hbad hg hall
            go_wp2
            all_goals first
             | (exfalso;(try simp only[bne_iff_ne,ne_eq,bne_eq_false_iff_eq] at *);omega)
             | (go_ret;exact⟨by rw[HA.out];rfl,hB2⟩)
        · obtain rfl:i=s.length:=by omega
          have hnx:=fun ty=>Lib.run_next_end_at (P:=Tryz.prog) wr _ (B s) s.length ty hit (by rw[gQ];omega)
          rw[List.take_length] at hall
          have HA:=Lib.hid hall
          clear hall
          go_wp2
          go_ret
          exact⟨by rw[HA.out];rfl,hB⟩
end Go.Proofs.YtllbpdllkkcajaaGreatDoor
namespace Go.Proofs.YtllbpdllkkcajaaGreatDoor
open Go.RowKit
attribute [local go_sem] bI bH aj ah ag aS ax aQ ak says_again BE.den IE.den SE.den LE.den AE.den CE.den PE.den VE.den KV.val dO.den dO.cnt jO fD jX allL Ctx.push Ctx.heap Ctx.cut Ctx.bare Ctx.mark Inc.blank List.getD_cons_zero List.getD_cons_succ List.cons_append List.nil_append List.append_nil List.map_cons List.map_nil List.replicate_zero List.replicate_succ az dm bY dh cO dK dJ bC bz bD bW bV aH aX aI aG au aP aO dH af and_assoc
def Kr:Fm:=(.C 129 [.S 0,(.one (.c (.fn 131)))] (.p (.B 0)) ⟨0,1,0,0,0,0⟩
 (.ret (.p (.B 0))))
theorem TY:bG ⟨true,[]⟩ Tryz.prog (fun l=>([]:List bZ).getD l ⟨[],[],[]⟩) Tryz.f85=Kr:=by kernel_rfl
theorem Yf:aF Tryz.prog .zero Tryz.f85.params.toList=some ([.S 0],⟨0,0,1,0,0,0⟩):=by kernel_rfl
def EU:Fm:=(.C 129 [.S 0,(.one (.c (.fn 130)))] (.p (.B 0)) ⟨0,1,0,0,0,0⟩
 (.ret (.p (.B 0))))
theorem Oi:bG ⟨true,[]⟩ Tryz.prog (fun l=>([]:List bZ).getD l ⟨[],[],[]⟩) Tryz.f84=EU:=by kernel_rfl
theorem UC:aF Tryz.prog .zero Tryz.f84.params.toList=some ([.S 0],⟨0,0,1,0,0,0⟩):=by kernel_rfl
def BB:Fm:=(.ite (.eqI (.x 0) (.c 2))
 (.C 84 [.S 0] (.p (.B 0)) ⟨0,1,0,0,0,0⟩
 (.ret (.p (.one (.b (.and (.x 0) (.eqI (.x 4) (.c 0))))))))
 (.ite (.eqI (.x 0) (.c 19))
 (.C 84 [.S 0] (.p (.B 0)) ⟨0,1,0,0,0,0⟩
 (.ret (.p (.one (.b (.and (.x 0) (.eqI (.x 4) (.c 0))))))))
 (.ite (.eqI (.x 0) (.c 3))
 (.C 85 [.S 0] (.p (.B 0)) ⟨0,1,0,0,0,0⟩
 (.ret (.p (.one (.b (.and (.x 0) (.eqI (.x 4) (.c 0))))))))
 (.ite (.eqI (.x 0) (.c 5))
 (.C 85 [.S 0] (.p (.B 0)) ⟨0,1,0,0,0,0⟩
 (.ret (.p (.one (.b (.and (.x 0) (.eqI (.x 4) (.c 0))))))))
 (.ite (.eqI (.x 0) (.c 7))
 (.C 85 [.S 0] (.p (.B 0)) ⟨0,1,0,0,0,0⟩
 (.ret (.p (.one (.b (.and (.x 0) (.eqI (.x 4) (.c 0))))))))
 (.ite (.eqI (.x 0) (.c 26))
 (.C 85 [.S 0] (.p (.B 0)) ⟨0,1,0,0,0,0⟩
 (.ret (.p (.one (.b (.and (.x 0) (.eqI (.x 4) (.c 0))))))))
 (.ite (.eqI (.x 0) (.c 27))
 (.C 85 [.S 0] (.p (.B 0)) ⟨0,1,0,0,0,0⟩
 (.ret (.p (.one (.b (.and (.x 0) (.eqI (.x 4) (.c 0))))))))
 (.ite (.eqI (.x 0) (.c 29))
 (.C 85 [.S 0] (.p (.B 0)) ⟨0,1,0,0,0,0⟩
 (.ret (.p (.one (.b (.and (.x 0) (.eqI (.x 4) (.c 0))))))))
 (.ite (.eqI (.x 0) (.c 4))
 (.C 85 [.S 0] (.p (.B 0)) ⟨0,1,0,0,0,0⟩
 (.ret (.p (.one (.b (.and (.x 0) (.le (.c 0) (.x 4))))))))
 (.ite (.eqI (.x 0) (.c 21))
 (.ret (.p (.one (.b (.and (.eqS (.x 0) (.c [])) (.le (.c 0) (.x 4)))))))
 (.ite (.eqI (.x 0) (.c 22))
 (.ret (.p (.one (.b (.and (.and (.eqS (.x 0) (.c [])) (.le (.c 0) (.x 4))) (.lt (.x 4) (.c 8388608)))))))
 (.ite (.eqI (.x 0) (.c 23))
 (.ret (.p (.one (.b (.eqI (.x 4) (.c 0))))))
 (.ite (.eqI (.x 0) (.c 24))
 (.ret (.p (.one (.b (.and (.eqS (.x 0) (.c [])) (.or (.eqI (.x 4) (.c 0)) (.eqI (.x 4) (.c 1))))))))
 (.ite (.eqI (.x 0) (.c 30))
 (.ret (.p (.one (.b (.and (.eqS (.x 0) (.c [])) (.or (.eqI (.x 4) (.c 12)) (.eqI (.x 4) (.c 13))))))))
 (.ite (.eqI (.x 0) (.c 31))
 (.ret (.p (.one (.b (.and (.eqS (.x 0) (.c [])) (.or (.or (.and (.le (.c 1) (.x 4)) (.le (.x 4) (.c 11))) (.eqI (.x 4) (.c 14))) (.eqI (.x 4) (.c 15))))))))
 (.ret (.p (.one (.b (.and (.eqS (.x 0) (.c [])) (.eqI (.x 4) (.c 0))))))))))))))))))))))
theorem KN:bG ⟨true,[1000005]⟩ Tryz.prog (fun l=>([]:List bZ).getD l ⟨[],[],[]⟩) Tryz.f49=BB:=by kernel_rfl
theorem Ph:aF Tryz.prog .zero Tryz.f49.params.toList=some ([(.agg [.U 0,.J 1,.J 2,.J 3,.J 4,(.s (.x 0))])],⟨5,0,1,0,0,0⟩):=by kernel_rfl
def y7 (c:Int):Bool:=c==95||(leB 97 c&&leB c 122)
def Oy (c:Int):Bool:=leB 65 c&&leB c 90
theorem Uk (c:Int) (w:World):Calls Tryz.prog 131 #[.int .u8 c] w fun e w'=>e=.returned (.bool (y7 c))∧w'=w:=by
 go_enter Tryz.func131,Tryz.ntmps131
 by_cases h95:c=95
 · subst h95
   go_wp2
   go_ret
   exact⟨rfl,rfl⟩
 · by_cases h97:97≤c
   · go_wp2
     all_goals first
      | (exfalso;omega)
      | (go_ret;exact⟨by simp[y7,leB,h97]<;>(intros;omega),rfl⟩)
   · go_wp2
     all_goals first
      | (exfalso;omega)
      | (go_ret;exact⟨by simp[y7,leB]<;>(intros;omega),rfl⟩)
theorem Ox (c:Int) (w:World):Calls Tryz.prog 130 #[.int .u8 c] w fun e w'=>e=.returned (.bool (Oy c))∧w'=w:=by
 go_enter Tryz.func130,Tryz.ntmps130
 by_cases h65:65≤c
 · go_wp2
   all_goals first
    | (exfalso;omega)
    | (go_ret;exact⟨by simp[Oy,leB,h65]<;>(intros;omega),rfl⟩)
 · go_wp2
   all_goals first
    | (exfalso;omega)
    | (go_ret;exact⟨by simp[Oy,leB]<;>(intros;omega),rfl⟩)
def Jp:Ct Tryz.prog where
 f:=129
 spec:=fun args h φ=>∃ s,args=[.string (B s),.func (.func 131) #[] #[]]∧φ (.bool (dw y7 s)) h
 ok:=by
  rintro args h φ w ⟨s,rfl,hφ⟩ hH
  refine (yX 131 y7 (fun c w _ _=>Uk c w) (enters_of Tryz.func131 (by kernel_rfl) rfl) s w).mono ?_
  rintro e w' ⟨rfl,hb⟩
  exact⟨_,h,rfl,hφ,hH.below hb,Fr.of_below hb⟩
def Qm:Ct Tryz.prog where
 f:=85
 spec:=fun args h φ=>∃ s,args=[.string (B s)]∧φ (.bool (dw y7 s)) h
 ok:=by
  rintro args h φ w ⟨s,rfl,hφ⟩ hH
  refine bJ Tryz.func85 TY Yf [Jp] φ (di) (bF) ⟨[],[],[s],[],[],[],h,dM⟩ ⟨rfl,rfl,rfl,rfl,rfl,rfl⟩ af ?_ w hH rfl
  generalize hE:(⟨az _,_,_,_⟩:Env)=E
  have s_ctTNameL:E.spec 129=(Jp).spec:=by rw[← hE];rfl
  have ep:E.post=φ:=by rw[← hE]
  clear hE
  unfold Kr
  rw[ag,if_pos (by rfl),s_ctTNameL]
  refine⟨s,rfl,?_⟩
  refine⟨fun h=>(by cases h),(ai _ _).2 ⟨⟨[],[dw y7 s],[],[],[],[]⟩,rfl,af,rfl,?_⟩⟩
  rw[ae,ak,ep]
  exact hφ
def Et:Ct Tryz.prog where
 f:=129
 spec:=fun args h φ=>∃ s,args=[.string (B s),.func (.func 130) #[] #[]]∧φ (.bool (dw Oy s)) h
 ok:=by
  rintro args h φ w ⟨s,rfl,hφ⟩ hH
  refine (yX 130 Oy (fun c w _ _=>Ox c w) (enters_of Tryz.func130 (by kernel_rfl) rfl) s w).mono ?_
  rintro e w' ⟨rfl,hb⟩
  exact⟨_,h,rfl,hφ,hH.below hb,Fr.of_below hb⟩
def Jo:Ct Tryz.prog where
 f:=84
 spec:=fun args h φ=>∃ s,args=[.string (B s)]∧φ (.bool (dw Oy s)) h
 ok:=by
  rintro args h φ w ⟨s,rfl,hφ⟩ hH
  refine bJ Tryz.func84 Oi UC [Et] φ (di) (bF) ⟨[],[],[s],[],[],[],h,dM⟩ ⟨rfl,rfl,rfl,rfl,rfl,rfl⟩ af ?_ w hH rfl
  generalize hE:(⟨az _,_,_,_⟩:Env)=E
  have s_ctTGreatL:E.spec 129=(Et).spec:=by rw[← hE];rfl
  have ep:E.post=φ:=by rw[← hE]
  clear hE
  unfold EU
  rw[ag,if_pos (by rfl),s_ctTGreatL]
  refine⟨s,rfl,?_⟩
  refine⟨fun h=>(by cases h),(ai _ _).2 ⟨⟨[],[dw Oy s],[],[],[],[]⟩,rfl,af,rfl,?_⟩⟩
  rw[ae,ak,ep]
  exact hφ
def fieldsB (x:Ng):Bool:=
 if x.k=2 then dw Oy x.x&&decide (x.n=0)
 else if x.k=19 then dw Oy x.x&&decide (x.n=0)
 else if x.k=3 then dw y7 x.x&&decide (x.n=0)
 else if x.k=5 then dw y7 x.x&&decide (x.n=0)
 else if x.k=7 then dw y7 x.x&&decide (x.n=0)
 else if x.k=26 then dw y7 x.x&&decide (x.n=0)
 else if x.k=27 then dw y7 x.x&&decide (x.n=0)
 else if x.k=29 then dw y7 x.x&&decide (x.n=0)
 else if x.k=4 then dw y7 x.x&&leB 0 x.n
 else if x.k=21 then x.x==[]&&leB 0 x.n
 else if x.k=22 then x.x==[]&&leB 0 x.n&&Ui x.n 8388608
 else if x.k=23 then decide (x.n=0)
 else if x.k=24 then x.x==[]&&(decide (x.n=0)||decide (x.n=1))
 else if x.k=30 then x.x==[]&&(decide (x.n=12)||decide (x.n=13))
 else if x.k=31 then x.x==[]&&((leB 1 x.n&&leB x.n 11)||decide (x.n=14)||decide (x.n=15))
 else x.x==[]&&decide (x.n=0)
set_option maxHeartbeats 4000000 in
def Es:Ct Tryz.prog where
 f:=49
 spec:=fun args h φ=>∃ x:Ng,args=[x.v]∧φ (.bool (fieldsB x)) h
 ok:=by
  rintro args h φ w ⟨x,rfl,hφ⟩ hH
  refine bJ Tryz.func49 KN Ph [Qm,Jo] φ (di) (bF) ⟨[x.k,x.l,x.c,x.z,x.n],[],[x.x],[],[],[],h,dM⟩ ⟨rfl,rfl,rfl,rfl,rfl,rfl⟩ af ?_ w hH rfl
  generalize hE:(⟨az _,_,_,_⟩:Env)=E
  have s_ctTName:E.spec 85=(Qm).spec:=by rw[← hE];rfl
  have s_ctTGreat:E.spec 84=(Jo).spec:=by rw[← hE];rfl
  have ep:E.post=φ:=by rw[← hE]
  clear hE
  unfold BB
  unfold fieldsB at hφ
  rw[← ae]
  by_cases c2:x.k=2
  · rw[if_pos c2] at hφ
    rw[ae,ah,if_pos (by simpa[go_sem] using c2)]
    rw[ae,ag,if_pos (by rfl),s_ctTGreat]
    refine⟨x.x,rfl,?_⟩
    refine⟨fun h=>(by cases h),(ai _ _).2 ⟨⟨[],[dw Oy x.x],[],[],[],[]⟩,rfl,af,rfl,?_⟩⟩
    rw[ae,ak,ep]
    exact hφ
  rw[if_neg c2] at hφ
  rw[ae,ah,if_neg (by simpa[go_sem] using c2)]
  by_cases c19:x.k=19
  · rw[if_pos c19] at hφ
    rw[ae,ah,if_pos (by simpa[go_sem] using c19)]
    rw[ae,ag,if_pos (by rfl),s_ctTGreat]
    refine⟨x.x,rfl,?_⟩
    refine⟨fun h=>(by cases h),(ai _ _).2 ⟨⟨[],[dw Oy x.x],[],[],[],[]⟩,rfl,af,rfl,?_⟩⟩
    rw[ae,ak,ep]
    exact hφ
  rw[if_neg c19] at hφ
  rw[ae,ah,if_neg (by simpa[go_sem] using c19)]
  by_cases c3:x.k=3
  · rw[if_pos c3] at hφ
    rw[ae,ah,if_pos (by simpa[go_sem] using c3)]
    rw[ae,ag,if_pos (by rfl),s_ctTName]
    refine⟨x.x,rfl,?_⟩
    refine⟨fun h=>(by cases h),(ai _ _).2 ⟨⟨[],[dw y7 x.x],[],[],[],[]⟩,rfl,af,rfl,?_⟩⟩
    rw[ae,ak,ep]
    exact hφ
  rw[if_neg c3] at hφ
  rw[ae,ah,if_neg (by simpa[go_sem] using c3)]
  by_cases c5:x.k=5
  · rw[if_pos c5] at hφ
    rw[ae,ah,if_pos (by simpa[go_sem] using c5)]
    rw[ae,ag,if_pos (by rfl),s_ctTName]
    refine⟨x.x,rfl,?_⟩
    refine⟨fun h=>(by cases h),(ai _ _).2 ⟨⟨[],[dw y7 x.x],[],[],[],[]⟩,rfl,af,rfl,?_⟩⟩
    rw[ae,ak,ep]
    exact hφ
  rw[if_neg c5] at hφ
  rw[ae,ah,if_neg (by simpa[go_sem] using c5)]
  by_cases c7:x.k=7
  · rw[if_pos c7] at hφ
    rw[ae,ah,if_pos (by simpa[go_sem] using c7)]
    rw[ae,ag,if_pos (by rfl),s_ctTName]
    refine⟨x.x,rfl,?_⟩
    refine⟨fun h=>(by cases h),(ai _ _).2 ⟨⟨[],[dw y7 x.x],[],[],[],[]⟩,rfl,af,rfl,?_⟩⟩
    rw[ae,ak,ep]
    exact hφ
  rw[if_neg c7] at hφ
  rw[ae,ah,if_neg (by simpa[go_sem] using c7)]
  by_cases c26:x.k=26
  · rw[if_pos c26] at hφ
    rw[ae,ah,if_pos (by simpa[go_sem] using c26)]
    rw[ae,ag,if_pos (by rfl),s_ctTName]
    refine⟨x.x,rfl,?_⟩
    refine⟨fun h=>(by cases h),(ai _ _).2 ⟨⟨[],[dw y7 x.x],[],[],[],[]⟩,rfl,af,rfl,?_⟩⟩
    rw[ae,ak,ep]
    exact hφ
  rw[if_neg c26] at hφ
  rw[ae,ah,if_neg (by simpa[go_sem] using c26)]
  by_cases c27:x.k=27
  · rw[if_pos c27] at hφ
    rw[ae,ah,if_pos (by simpa[go_sem] using c27)]
    rw[ae,ag,if_pos (by rfl),s_ctTName]
    refine⟨x.x,rfl,?_⟩
    refine⟨fun h=>(by cases h),(ai _ _).2 ⟨⟨[],[dw y7 x.x],[],[],[],[]⟩,rfl,af,rfl,?_⟩⟩
    rw[ae,ak,ep]
    exact hφ
  rw[if_neg c27] at hφ
  rw[ae,ah,if_neg (by simpa[go_sem] using c27)]
  by_cases c29:x.k=29
  · rw[if_pos c29] at hφ
    rw[ae,ah,if_pos (by simpa[go_sem] using c29)]
    rw[ae,ag,if_pos (by rfl),s_ctTName]
    refine⟨x.x,rfl,?_⟩
    refine⟨fun h=>(by cases h),(ai _ _).2 ⟨⟨[],[dw y7 x.x],[],[],[],[]⟩,rfl,af,rfl,?_⟩⟩
    rw[ae,ak,ep]
    exact hφ
  rw[if_neg c29] at hφ
  rw[ae,ah,if_neg (by simpa[go_sem] using c29)]
  by_cases c4:x.k=4
  · rw[if_pos c4] at hφ
    rw[ae,ah,if_pos (by simpa[go_sem] using c4)]
    rw[ae,ag,if_pos (by rfl),s_ctTName]
    refine⟨x.x,rfl,?_⟩
    refine⟨fun h=>(by cases h),(ai _ _).2 ⟨⟨[],[dw y7 x.x],[],[],[],[]⟩,rfl,af,rfl,?_⟩⟩
    rw[ae,ak,ep]
    exact hφ
  rw[if_neg c4] at hφ
  rw[ae,ah,if_neg (by simpa[go_sem] using c4)]
  by_cases c21:x.k=21
  · rw[if_pos c21] at hφ
    rw[ae,ah,if_pos (by simpa[go_sem] using c21)]
    rw[ae,ak,ep]
    exact hφ
  rw[if_neg c21] at hφ
  rw[ae,ah,if_neg (by simpa[go_sem] using c21)]
  by_cases c22:x.k=22
  · rw[if_pos c22] at hφ
    rw[ae,ah,if_pos (by simpa[go_sem] using c22)]
    rw[ae,ak,ep]
    exact hφ
  rw[if_neg c22] at hφ
  rw[ae,ah,if_neg (by simpa[go_sem] using c22)]
  by_cases c23:x.k=23
  · rw[if_pos c23] at hφ
    rw[ae,ah,if_pos (by simpa[go_sem] using c23)]
    rw[ae,ak,ep]
    exact hφ
  rw[if_neg c23] at hφ
  rw[ae,ah,if_neg (by simpa[go_sem] using c23)]
  by_cases c24:x.k=24
  · rw[if_pos c24] at hφ
    rw[ae,ah,if_pos (by simpa[go_sem] using c24)]
    rw[ae,ak,ep]
    exact hφ
  rw[if_neg c24] at hφ
  rw[ae,ah,if_neg (by simpa[go_sem] using c24)]
  by_cases c30:x.k=30
  · rw[if_pos c30] at hφ
    rw[ae,ah,if_pos (by simpa[go_sem] using c30)]
    rw[ae,ak,ep]
    exact hφ
  rw[if_neg c30] at hφ
  rw[ae,ah,if_neg (by simpa[go_sem] using c30)]
  by_cases c31:x.k=31
  · rw[if_pos c31] at hφ
    rw[ae,ah,if_pos (by simpa[go_sem] using c31)]
    rw[ae,ak,ep]
    exact hφ
  rw[if_neg c31] at hφ
  rw[ae,ah,if_neg (by simpa[go_sem] using c31)]
  rw[ae,ak,ep]
  exact hφ
end Go.Proofs.YtllbpdllkkcajaaGreatDoor
namespace Go.Proofs.YtllbpdllkkcajaaGreatDoor
open Go.RowKit
attribute [local go_sem] bI bH aj ah ag aS ax aQ ak says_again BE.den IE.den SE.den LE.den AE.den CE.den PE.den VE.den KV.val dO.den dO.cnt jO fD jX allL Ctx.push Ctx.heap Ctx.cut Ctx.bare Ctx.mark Inc.blank List.getD_cons_zero List.getD_cons_succ List.cons_append List.nil_append List.append_nil List.map_cons List.map_nil List.replicate_zero List.replicate_succ az dm bY dh cO dK dJ bC bz bD bW bV aH aX aI aG au aP aO dH af and_assoc
def ZE:Ct Tryz.prog where
 f:=92
 spec:=fun args h φ=>∃ x,args=[Ng.v x]∧φ (.bool (Em 21 32 x)) h
 ok:=by
  rintro args h φ w ⟨x,rfl,hφ⟩ hH
  refine dR (bJ Tryz.func92 SS XE [uD,pF] (fun v k=>∃ k',dP k' k∧φ v k') di bF ⟨[x.k,x.l,x.c,x.z,x.n],[],[x.x],[],[],[],h,dM⟩ ⟨rfl,rfl,rfl,rfl,rfl,rfl⟩ af ?_ w hH rfl)
  have hs:dm [uD,pF] 133=pF.spec:=rfl
  generalize hE:(⟨az _,_,_,_⟩:Env)=E
  have s1:E.spec 90=uD.spec:=by rw[← hE];rfl
  have s2:E.spec 1000001=az [uD,pF] bY:=by rw[← hE];rfl
  have ep:E.post=(fun v k=>∃ k',dP k' k∧φ v k'):=by rw[← hE]
  clear hE
  unfold JF
  rw[ag,if_pos (by rfl),s1]
  refine⟨21,32,rfl,fun p q k hk h1 h2=>?_⟩
  refine⟨fun h=>(by cases h),(ai _ _).2 ⟨⟨[],[],[],[.func (.func 133) #[] #[.pointer (some ⟨p,0,none⟩),.pointer (some ⟨q,0,none⟩)]],[],[]⟩,rfl,by intro u hu;simp at hu;subst hu;rfl,rfl,?_⟩⟩
  rw[ae,ag,if_pos (by rfl),s2]
  refine Jd (x:=x) hs h1 h2 ?_
  refine⟨fun h=>(by cases h),(ai _ _).2 ⟨⟨[],[Em 21 32 x],[],[],[],[]⟩,rfl,af,rfl,?_⟩⟩
  rw[ae,ak,ep]
  exact⟨h,hk,hφ⟩
def wants:List (Ct Tryz.prog):=[GX,ZE,Ba,pF,adg]
theorem ry (h:Hp):Want wants h (.func (.func 88) #[] #[]) (Em 15 20):=
 ⟨_,[],rfl,by kernel_rfl,by decide,fun x k φ _ hφ=>⟨x,rfl,hφ⟩⟩
theorem eX (h:Hp):Want wants h (.func (.func 92) #[] #[]) (Em 21 32):=
 ⟨_,[],rfl,by kernel_rfl,by decide,fun x k φ _ hφ=>⟨x,rfl,hφ⟩⟩
theorem rq (h:Hp):Want wants h (.func (.func 132) #[] #[]) (fun x=>decide (x.k=6)):=
 ⟨_,[],rfl,by kernel_rfl,by decide,fun x k φ _ hφ=>⟨x,rfl,hφ⟩⟩
theorem Zf {h:Hp} {p q:Nat} {a b:Int} {T U:TypeId} (h1:h p=some ⟨[.int .u8 a],T⟩) (h2:h q=some ⟨[.int .u8 b],U⟩):
 Want wants h (.func (.func 133) #[] #[.pointer (some ⟨p,0,none⟩),.pointer (some ⟨q,0,none⟩)]) (Em a b):=
 ⟨_,[.pointer (some ⟨p,0,none⟩),.pointer (some ⟨q,0,none⟩)],rfl,by kernel_rfl,by decide,fun x k φ hk hφ=>⟨x,p,q,a,b,_,_,rfl,hk _ _ h1,hk _ _ h2,hφ⟩⟩
theorem ru {h:Hp} {p:Nat} {sl:bT} {l:List Int} {T:TypeId} (h1:h p=some ⟨[bT.val sl],T⟩) (R:Rows h sl (OG l) 1) (hl:l.length≤1000):
 Want wants h (.func (.func 86) #[] #[.pointer (some ⟨p,0,none⟩)]) (fun x=>l.contains x.k):=
 ⟨_,[.pointer (some ⟨p,0,none⟩)],rfl,by kernel_rfl,by decide,fun x k φ hk hφ=>⟨x,p,sl,l,_,rfl,hk _ _ h1,R.le hk,hl,hφ⟩⟩
theorem Want.one {cs:List (Ct Tryz.prog)} {h:Hp} {v:Value} {p:Ng→Bool} (W:Want cs h v p):v.cells=#[v]∧v≠undef:=by
 obtain⟨f,cap,rfl,_⟩:=W
 exact⟨rfl,by intro h;cases h⟩
theorem Want.ones {cs:List (Ct Tryz.prog)} {h:Hp} {v:Value} {p:Ng→Bool} (W:Want cs h v p):iJ [v]:=by
 obtain⟨f,cap,rfl,_⟩:=W
 intro u hu;simp at hu;subst hu;rfl
def lkv (x:Ng) (sl:bT):Value:=.agg #[.int .u8 x.k,.int .i64 x.l,.int .i64 x.c,.int .i64 x.z,.int .i64 x.n,.string (B x.x),sl.val]
set_option maxHeartbeats 4000000 in
def xP:Ct Tryz.prog where
 f:=51
 spec:=fun args h φ=>∃ x sl l v p,args=[lkv x sl,v]∧NG h sl l∧l.length≤1000000∧Want wants h v p∧φ (.bool (l.all p)) h
 ok:=by
  rintro args h φ w ⟨x,sl,l,v,p,rfl,R,hl,W,hφ⟩ hH
  have hn:=NG.n R
  refine bJ Tryz.func51 Wy aau wants φ (fun _ C=>∃ j:Nat,C=⟨[x.k,x.l,x.c,x.z,x.n,j],[false],[x.x],[v],[sl],[],h,dM⟩∧j≤l.length∧l.all p=(l.drop j).all p) (fun _ C=>((l.length:Int) - C.i.getD 5 0).toNat)
   ⟨[x.k,x.l,x.c,x.z,x.n],[],[x.x],[v],[sl],[],h,dM⟩ ⟨rfl,rfl,rfl,rfl,rfl,rfl⟩ W.ones ?_ w hH rfl
  generalize hE:(⟨az _,_,_,_⟩:Env)=E
  have s2:E.spec 1000001=az wants bY:=by rw[← hE];rfl
  have ep:E.post=φ:=by rw[← hE]
  have ei:E.inv=(fun _ C=>∃ j:Nat,C=⟨[x.k,x.l,x.c,x.z,x.n,j],[false],[x.x],[v],[sl],[],h,dM⟩∧j≤l.length∧l.all p=(l.drop j).all p):=by rw[← hE]
  have em:E.meas=(fun _ C=>((l.length:Int) - C.i.getD 5 0).toNat):=by rw[← hE]
  clear hE
  unfold QD
  refine dB ?_ ?_
  · rw[ei]
    exact⟨0,rfl,by omega,rfl⟩
  rw[ei,em]
  rintro i bb ss vv ll pp hh M ⟨j,hC,h3,h4⟩ hM
  cases hC
  have hM':M 0=((l.length:Int) - j).toNat:=hM
  rw[h4] at hφ
  by_cases hj:j<l.length
  · obtain⟨b,o,ha⟩:=Rows.nn R (j:=j) (by omega)
    have hrd:=NG.node R hj ha
    have hz:(j:Int)<sl.n:=by omega
    rw[List.drop_eq_getElem_cons hj,List.all_cons] at h4 hφ
    generalize l[j]=y at *
    rw[ah,if_pos (by simpa[go_sem] using hz),ae,aj]
    refine⟨by simp[go_sem,hz,ha],?_⟩
    rw[ae,ax,if_pos (by rfl)]
    refine (ai _ _).2 ⟨⟨[y.k,y.l,y.c,y.z,y.n],[],[y.x],[],[],[]⟩,rfl,af,by simpa[go_sem,ha,Ng.cs] using hrd,?_⟩
    rw[ae,ag,if_pos (by rfl),s2]
    refine W.call (x:=y) (fun b o h=>h) ?_
    refine⟨fun h=>(by cases h),(ai _ _).2 ⟨⟨[],[p y],[],[],[],[]⟩,rfl,af,rfl,?_⟩⟩
    cases hy:p y with
    | false=>
      rw[hy] at hφ
      rw[ae,ah,if_pos (by simp[go_sem]),ae,ak,ep]
      simpa[go_sem] using hφ
    | true=>
      rw[hy] at hφ h4
      rw[ae,ah,if_neg (by simp[go_sem]),ae,aj]
      refine⟨by simp[go_sem];omega,?_⟩
      rw[ae]
      simp[go_sem,ei,em]
      exact⟨⟨j+1,by simp,by omega,by simpa using h4⟩,by omega⟩
  · have hz:¬ ((j:Int)<sl.n):=by omega
    rw[List.drop_eq_nil_of_le (by omega)] at hφ
    rw[ah,if_neg (by simpa[go_sem] using hz),ae,ak,ep]
    simpa[go_sem] using hφ
def rowB:List (Ng→Bool)→List Ng→Bool
 | [],[]=>true
 | p::ps,x::l=>p x&&rowB ps l
 | _,_=>false
theorem L6:∀ {ps:List (Ng→Bool)} {l:List Ng},ps.length≠l.length→rowB ps l=false
 | [],[],h=>absurd rfl h
 | [],_::_,_=>rfl
 | _::_,[],_=>rfl
 | p::ps,x::l,h=>by rw[rowB,L6 (fun e=>h (by simp[e])),Bool.and_false]
def yH (h:Hp) (sl:bT) (ps:List (Ng→Bool)):Prop:=∃ vs,Rows h sl vs 1∧vs.length=ps.length∧∀ (i:Nat) v p,vs[i]? = some v→ps[i]? = some p→Want wants h v p
theorem yH.n {h:Hp} {sl:bT} {ps:List (Ng→Bool)} (W:yH h sl ps):sl.n=ps.length:=by
 obtain⟨vs,R,hl,_⟩:=W
 have:=R.1
 omega
theorem gJ (h:Hp):yH h ⟨none,0,0⟩ []:=⟨[],⟨rfl,.inl rfl⟩,rfl,fun i v p h=>by simp at h⟩
theorem DT {h:Hp} {b n c:Nat} {vs:List Value} {ps:List (Ng→Bool)} {T:TypeId} (hb:h b=some ⟨vs,T⟩) (hn:vs.length=n) (hl:vs.length=ps.length) (H:∀ (i:Nat) v p,vs[i]? = some v→ps[i]? = some p→Want wants h v p):yH h ⟨some (b,0),n,c⟩ ps:=
 ⟨vs,⟨by simp[hn],.inr (by rw[bu hb,if_pos (by simp[hn])];simp[← hn])⟩,hl,H⟩
set_option maxHeartbeats 4000000 in
def GM:Ct Tryz.prog where
 f:=87
 spec:=fun args h φ=>∃ x sl l ws ps,args=[lkv x sl,bT.val ws]∧NG h sl l∧l.length≤1000000∧yH h ws ps∧φ (.bool (rowB ps l)) h
 ok:=by
  rintro args h φ w ⟨x,sl,l,ws,ps,rfl,R,hl,W,hφ⟩ hH
  have hn:=NG.n R
  have hm:=W.n
  obtain⟨vs,Rv,hvl,hW⟩:=W
  refine bJ Tryz.func87 WB aaw wants φ (fun _ C=>∃ j:Nat,C=⟨[x.k,x.l,x.c,x.z,x.n,j],[false],[x.x],[],[sl,ws],[],h,dM⟩∧j≤l.length∧rowB ps l=rowB (ps.drop j) (l.drop j)) (fun _ C=>((l.length:Int) - C.i.getD 5 0).toNat)
   ⟨[x.k,x.l,x.c,x.z,x.n],[],[x.x],[],[sl,ws],[],h,dM⟩ ⟨rfl,rfl,rfl,rfl,rfl,rfl⟩ af ?_ w hH rfl
  generalize hE:(⟨az _,_,_,_⟩:Env)=E
  have s2:E.spec 1000001=az wants bY:=by rw[← hE];rfl
  have ep:E.post=φ:=by rw[← hE]
  have ei:E.inv=(fun _ C=>∃ j:Nat,C=⟨[x.k,x.l,x.c,x.z,x.n,j],[false],[x.x],[],[sl,ws],[],h,dM⟩∧j≤l.length∧rowB ps l=rowB (ps.drop j) (l.drop j)):=by rw[← hE]
  have em:E.meas=(fun _ C=>((l.length:Int) - C.i.getD 5 0).toNat):=by rw[← hE]
  clear hE
  unfold QF
  by_cases hlen:l.length=ps.length
  rotate_left
  · rw[ah,if_pos (by simp[go_sem];omega),ae,ak,ep]
    rw[L6 (fun e=>hlen e.symm)] at hφ
    simpa[go_sem] using hφ
  rw[ah,if_neg (by simp[go_sem];omega),ae]
  refine dB ?_ ?_
  · rw[ei]
    exact⟨0,rfl,by omega,rfl⟩
  rw[ei,em]
  rintro i bb ss vv ll pp hh M ⟨j,hC,h3,h4⟩ hM
  cases hC
  have hM':M 0=((l.length:Int) - j).toNat:=hM
  rw[h4] at hφ
  by_cases hj:j<l.length
  · obtain⟨b,o,ha⟩:=Rows.nn R (j:=j) (by omega)
    obtain⟨b2,o2,ha2⟩:=Rows.nn Rv (j:=j) (by omega)
    have hrd:=NG.node R hj ha
    have hrd2:=Rows.read (off:=0) (m:=1) Rv (j:=j) (by omega) (by omega) ha2
    rw[Nat.mul_one,Nat.add_zero,Nat.add_zero,List.drop_eq_getElem_cons (by omega)] at hrd2
    have hWj:=hW j vs[j] ps[j] (List.getElem?_eq_getElem (by omega)) (List.getElem?_eq_getElem (by omega))
    have hz:(j:Int)<sl.n:=by omega
    have hz2:(j:Int)<ws.n:=by omega
    rw[List.drop_eq_getElem_cons hj,List.drop_eq_getElem_cons (by omega:j<ps.length),rowB] at h4 hφ
    generalize l[j]=y at *
    generalize ps[j]=p at *
    generalize vs[j]=v at *
    rw[ah,if_pos (by simpa[go_sem] using hz2),ae,aj]
    refine⟨by simp[go_sem,hz2,ha2],?_⟩
    rw[ae,ax,if_pos (by rfl)]
    refine (ai _ _).2 ⟨⟨[],[],[],[v],[],[]⟩,rfl,hWj.ones,by simpa[go_sem,ha2] using hrd2,?_⟩
    rw[ae,aj]
    refine⟨by simp[go_sem,hz,ha],?_⟩
    rw[ae,ax,if_pos (by rfl)]
    refine (ai _ _).2 ⟨⟨[y.k,y.l,y.c,y.z,y.n],[],[y.x],[],[],[]⟩,rfl,af,by simpa[go_sem,ha,Ng.cs] using hrd,?_⟩
    rw[ae,ag,if_pos (by rfl),s2]
    refine hWj.call (x:=y) (fun b o h=>h) ?_
    refine⟨fun h=>(by cases h),(ai _ _).2 ⟨⟨[],[p y],[],[],[],[]⟩,rfl,af,rfl,?_⟩⟩
    cases hy:p y with
    | false=>
      rw[hy] at hφ
      rw[ae,ah,if_pos (by simp[go_sem]),ae,ak,ep]
      simpa[go_sem] using hφ
    | true=>
      rw[hy] at hφ h4
      rw[ae,ah,if_neg (by simp[go_sem]),ae,aj]
      refine⟨by simp[go_sem];omega,?_⟩
      rw[ae]
      simp[go_sem,ei,em]
      exact⟨⟨j+1,by simp,by omega,by simpa using h4⟩,by omega⟩
  · have hz:¬ ((j:Int)<ws.n):=by omega
    rw[List.drop_eq_nil_of_le (by omega),List.drop_eq_nil_of_le (by omega)] at hφ
    rw[ah,if_neg (by simpa[go_sem] using hz),ae,ak,ep]
    simpa[go_sem,rowB] using hφ
end Go.Proofs.YtllbpdllkkcajaaGreatDoor
